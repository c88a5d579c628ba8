/- DataFuel: what its row asks of the program; each by the kernel's own run. -/
import Derived.Test.YthncchbcdpbgaaaGreatAbB7
set_option linter.unusedVariables false
set_option linter.unusedSimpArgs false
set_option linter.unusedSectionVars false
namespace Go.Proofs.YthncchbcdpbgaaaGreat
open Go.ChangeShapes Go.WideShapes Go.ChangeAt Go.RowKit
theorem V5:(Rows.dataFuelRow.wf (OpenSpec.ofChange Rows.dataFuelSpec))=true:=by kernel_rfl
theorem V6:(Tryz.f5.params.all (Tryz.pinned.checked.prog.readableRec ·))=true:=by kernel_rfl
theorem V7:(namedTie Tryz.pinned.checked.prog Rows.dataFuelRow.named Rows.dataFuelSpec.vars)=true:=by kernel_rfl
theorem V8:((Rows.dataFuelRow.stops==[]))=true:=by kernel_rfl
theorem V9:((Rows.dataFuelRow.knobs==[]))=true:=by kernel_rfl
theorem W0:((Rows.dataFuelRow.inPlace==Tryz.pinned.checked.prog.inPlace 5))=true:=by kernel_rfl
theorem F7:((Rows.dataFuelRow.unfollowed==Tryz.pinned.checked.prog.unfollowed 5))=true:=by kernel_rfl
theorem F8:((Rows.dataFuelRow.recurses==Tryz.pinned.checked.prog.recurses 5))=true:=by kernel_rfl
theorem F9:((Rows.dataFuelRow.named==Tryz.pinned.checked.prog.varsNamed 5))=true:=by kernel_rfl
theorem G3:((Rows.dataFuelRow.maps==(Tryz.f5.params.toList++Rows.dataFuelSpec.plain.varTypes Tryz.pinned.checked.prog).any (Tryz.pinned.checked.prog.mapsRec ·)))=true:=by kernel_rfl
theorem G5:((Rows.dataFuelRow.ifaces==(Tryz.f5.params.toList++Rows.dataFuelSpec.plain.varTypes Tryz.pinned.checked.prog).any (Tryz.pinned.checked.prog.ifacesRec ·)))=true:=by kernel_rfl
theorem G6:((Rows.dataFuelRow.mapsOut==Tryz.pinned.checked.prog.mapsAmong Tryz.f5.resultTypes.toList))=true:=by kernel_rfl
theorem G7:((Rows.dataFuelRow.loops==(Tryz.f5.params.toList++Rows.dataFuelSpec.plain.varTypes Tryz.pinned.checked.prog).any (Tryz.pinned.checked.prog.loopsFrom ·)))=true:=by kernel_rfl
theorem G8:((Rows.dataFuelRow.wideKeys==(Tryz.f5.params.toList++Rows.dataFuelSpec.plain.varTypes Tryz.pinned.checked.prog++Tryz.f5.resultTypes.toList).any (Tryz.pinned.checked.prog.wideKeysFrom ·)))=true:=by kernel_rfl
theorem G9:(Rows.dataFuelSpec.vars.all (Tryz.pinned.checked.prog.varReadable ·))=true:=by kernel_rfl
theorem H2:(Tryz.f5.resultTypes.all (fun t=>Tryz.pinned.checked.prog.readableRec t&&decide (t<Tryz.pinned.checked.prog.types.size)))=true:=by kernel_rfl
theorem H3:((Rows.dataFuelRow.ifacesOut==Tryz.f5.resultTypes.toList.any (Tryz.pinned.checked.prog.ifacesRec ·)))=true:=by kernel_rfl
theorem H4:((Rows.dataFuelRow.loopsOut==Tryz.f5.resultTypes.toList.any (Tryz.pinned.checked.prog.loopsFrom ·)))=true:=by kernel_rfl
theorem H5:(Rows.dataFuelRow.shortTexts.isNone)=true:=by kernel_rfl
theorem H6:((Rows.dataFuelRow.kinds==(if Rows.dataFuelRow.domain.isEmpty then []else Tryz.f5.params.toList.map fun t=>match Tryz.pinned.checked.prog.underlying t with|some (.int k)=>some k|_=>none)))=true:=by kernel_rfl
theorem H7:((Rows.dataFuelRow.pinned==Rows.dataFuelRow.pinnedBy))=true:=by kernel_rfl
theorem H8:((Rows.dataFuelRow.veiled==(Tryz.f5.params.toList++Rows.dataFuelSpec.plain.varTypes Tryz.pinned.checked.prog++Tryz.f5.resultTypes.toList).any (Tryz.pinned.checked.prog.veiledRec ·)))=true:=by kernel_rfl
theorem H9:(Rows.dataFuelRow.veiledFits Tryz.pinned.checked.prog Tryz.f5.params.toList (Tryz.f5.params.toList++Rows.dataFuelSpec.plain.varTypes Tryz.pinned.checked.prog++Tryz.f5.resultTypes.toList))=true:=by kernel_rfl
end Go.Proofs.YthncchbcdpbgaaaGreat
