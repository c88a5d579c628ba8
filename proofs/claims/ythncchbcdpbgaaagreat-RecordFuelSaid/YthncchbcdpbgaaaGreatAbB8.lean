/- RecordFuel: what its row asks of the program; each by the kernel's own run. -/
import Derived.Test.YthncchbcdpbgaaaGreatAbB7
set_option linter.unusedVariables false
set_option linter.unusedSimpArgs false
set_option linter.unusedSectionVars false
namespace Go.Proofs.YthncchbcdpbgaaaGreat
open Go.ChangeShapes Go.WideShapes Go.ChangeAt Go.RowKit
theorem G9:(Rows.recordFuelRow.wf (OpenSpec.ofChange Rows.recordFuelSpec))=true:=by kernel_rfl
theorem H2:(Tryz.f3.params.all (Tryz.pinned.checked.prog.readableRec ·))=true:=by kernel_rfl
theorem H3:(namedTie Tryz.pinned.checked.prog Rows.recordFuelRow.named Rows.recordFuelSpec.vars)=true:=by kernel_rfl
theorem H4:((Rows.recordFuelRow.stops==[]))=true:=by kernel_rfl
theorem H5:((Rows.recordFuelRow.knobs==[]))=true:=by kernel_rfl
theorem H6:((Rows.recordFuelRow.inPlace==Tryz.pinned.checked.prog.inPlace 3))=true:=by kernel_rfl
theorem A6:((Rows.recordFuelRow.unfollowed==Tryz.pinned.checked.prog.unfollowed 3))=true:=by kernel_rfl
theorem A7:((Rows.recordFuelRow.recurses==Tryz.pinned.checked.prog.recurses 3))=true:=by kernel_rfl
theorem A8:((Rows.recordFuelRow.named==Tryz.pinned.checked.prog.varsNamed 3))=true:=by kernel_rfl
theorem A9:((Rows.recordFuelRow.maps==(Tryz.f3.params.toList++Rows.recordFuelSpec.plain.varTypes Tryz.pinned.checked.prog).any (Tryz.pinned.checked.prog.mapsRec ·)))=true:=by kernel_rfl
theorem B0:((Rows.recordFuelRow.ifaces==(Tryz.f3.params.toList++Rows.recordFuelSpec.plain.varTypes Tryz.pinned.checked.prog).any (Tryz.pinned.checked.prog.ifacesRec ·)))=true:=by kernel_rfl
theorem B1:((Rows.recordFuelRow.mapsOut==Tryz.pinned.checked.prog.mapsAmong Tryz.f3.resultTypes.toList))=true:=by kernel_rfl
theorem B2:((Rows.recordFuelRow.loops==(Tryz.f3.params.toList++Rows.recordFuelSpec.plain.varTypes Tryz.pinned.checked.prog).any (Tryz.pinned.checked.prog.loopsFrom ·)))=true:=by kernel_rfl
theorem B3:((Rows.recordFuelRow.wideKeys==(Tryz.f3.params.toList++Rows.recordFuelSpec.plain.varTypes Tryz.pinned.checked.prog++Tryz.f3.resultTypes.toList).any (Tryz.pinned.checked.prog.wideKeysFrom ·)))=true:=by kernel_rfl
theorem B4:(Rows.recordFuelSpec.vars.all (Tryz.pinned.checked.prog.varReadable ·))=true:=by kernel_rfl
theorem B5:(Tryz.f3.resultTypes.all (λt=>Tryz.pinned.checked.prog.readableRec t&&decide (t<Tryz.pinned.checked.prog.types.size)))=true:=by kernel_rfl
theorem B6:((Rows.recordFuelRow.ifacesOut==Tryz.f3.resultTypes.toList.any (Tryz.pinned.checked.prog.ifacesRec ·)))=true:=by kernel_rfl
theorem B7:((Rows.recordFuelRow.loopsOut==Tryz.f3.resultTypes.toList.any (Tryz.pinned.checked.prog.loopsFrom ·)))=true:=by kernel_rfl
theorem B8:(Rows.recordFuelRow.shortTexts.isNone)=true:=by kernel_rfl
theorem B9:((Rows.recordFuelRow.kinds==(if Rows.recordFuelRow.domain.isEmpty then[]else Tryz.f3.params.toList.map λt=>match Tryz.pinned.checked.prog.underlying t with|some (.int k)=>some k|_=>none)))=true:=by kernel_rfl
theorem C0:((Rows.recordFuelRow.pinned==Rows.recordFuelRow.pinnedBy))=true:=by kernel_rfl
theorem C1:((Rows.recordFuelRow.veiled==(Tryz.f3.params.toList++Rows.recordFuelSpec.plain.varTypes Tryz.pinned.checked.prog++Tryz.f3.resultTypes.toList).any (Tryz.pinned.checked.prog.veiledRec ·)))=true:=by kernel_rfl
theorem C2:(Rows.recordFuelRow.veiledFits Tryz.pinned.checked.prog Tryz.f3.params.toList (Tryz.f3.params.toList++Rows.recordFuelSpec.plain.varTypes Tryz.pinned.checked.prog++Tryz.f3.resultTypes.toList))=true:=by kernel_rfl
end Go.Proofs.YthncchbcdpbgaaaGreat
