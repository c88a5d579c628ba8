/- DataPasses: what its row asks of the program; each by the kernel's own run. -/
import Derived.Test.YthncchbcdpbgaaaGreatAbB8
set_option linter.unusedVariables false
set_option linter.unusedSimpArgs false
set_option linter.unusedSectionVars false
namespace Go.Proofs.YthncchbcdpbgaaaGreat
open Go.ChangeShapes Go.WideShapes Go.ChangeAt Go.RowKit
theorem Q6:(Rows.dataPassesRow.wf (OpenSpec.ofChange Rows.dataPassesSpec))=true:=by kernel_rfl
theorem Q7:(Tryz.f6.params.all (Tryz.pinned.checked.prog.readableRec ·))=true:=by kernel_rfl
theorem Q8:(namedTie Tryz.pinned.checked.prog Rows.dataPassesRow.named Rows.dataPassesSpec.vars)=true:=by kernel_rfl
theorem Q9:((Rows.dataPassesRow.stops==[]))=true:=by kernel_rfl
theorem R0:((Rows.dataPassesRow.knobs==[]))=true:=by kernel_rfl
theorem R1:((Rows.dataPassesRow.inPlace==Tryz.pinned.checked.prog.inPlace 6))=true:=by kernel_rfl
theorem J9:((Rows.dataPassesRow.unfollowed==Tryz.pinned.checked.prog.unfollowed 6))=true:=by kernel_rfl
theorem K1:((Rows.dataPassesRow.recurses==Tryz.pinned.checked.prog.recurses 6))=true:=by kernel_rfl
theorem K2:((Rows.dataPassesRow.named==Tryz.pinned.checked.prog.varsNamed 6))=true:=by kernel_rfl
theorem K3:((Rows.dataPassesRow.maps==(Tryz.f6.params.toList++Rows.dataPassesSpec.plain.varTypes Tryz.pinned.checked.prog).any (Tryz.pinned.checked.prog.mapsRec ·)))=true:=by kernel_rfl
theorem K4:((Rows.dataPassesRow.ifaces==(Tryz.f6.params.toList++Rows.dataPassesSpec.plain.varTypes Tryz.pinned.checked.prog).any (Tryz.pinned.checked.prog.ifacesRec ·)))=true:=by kernel_rfl
theorem K5:((Rows.dataPassesRow.mapsOut==Tryz.pinned.checked.prog.mapsAmong Tryz.f6.resultTypes.toList))=true:=by kernel_rfl
theorem K6:((Rows.dataPassesRow.loops==(Tryz.f6.params.toList++Rows.dataPassesSpec.plain.varTypes Tryz.pinned.checked.prog).any (Tryz.pinned.checked.prog.loopsFrom ·)))=true:=by kernel_rfl
theorem K7:((Rows.dataPassesRow.wideKeys==(Tryz.f6.params.toList++Rows.dataPassesSpec.plain.varTypes Tryz.pinned.checked.prog++Tryz.f6.resultTypes.toList).any (Tryz.pinned.checked.prog.wideKeysFrom ·)))=true:=by kernel_rfl
theorem K8:(Rows.dataPassesSpec.vars.all (Tryz.pinned.checked.prog.varReadable ·))=true:=by kernel_rfl
theorem K9:(Tryz.f6.resultTypes.all (λt=>Tryz.pinned.checked.prog.readableRec t&&decide (t<Tryz.pinned.checked.prog.types.size)))=true:=by kernel_rfl
theorem L0:((Rows.dataPassesRow.ifacesOut==Tryz.f6.resultTypes.toList.any (Tryz.pinned.checked.prog.ifacesRec ·)))=true:=by kernel_rfl
theorem L1:((Rows.dataPassesRow.loopsOut==Tryz.f6.resultTypes.toList.any (Tryz.pinned.checked.prog.loopsFrom ·)))=true:=by kernel_rfl
theorem L2:(Rows.dataPassesRow.shortTexts.isNone)=true:=by kernel_rfl
theorem L3:((Rows.dataPassesRow.kinds==(if Rows.dataPassesRow.domain.isEmpty then[]else Tryz.f6.params.toList.map λt=>match Tryz.pinned.checked.prog.underlying t with|some (.int k)=>some k|_=>none)))=true:=by kernel_rfl
theorem L4:((Rows.dataPassesRow.pinned==Rows.dataPassesRow.pinnedBy))=true:=by kernel_rfl
theorem L5:((Rows.dataPassesRow.veiled==(Tryz.f6.params.toList++Rows.dataPassesSpec.plain.varTypes Tryz.pinned.checked.prog++Tryz.f6.resultTypes.toList).any (Tryz.pinned.checked.prog.veiledRec ·)))=true:=by kernel_rfl
theorem L6:(Rows.dataPassesRow.veiledFits Tryz.pinned.checked.prog Tryz.f6.params.toList (Tryz.f6.params.toList++Rows.dataPassesSpec.plain.varTypes Tryz.pinned.checked.prog++Tryz.f6.resultTypes.toList))=true:=by kernel_rfl
end Go.Proofs.YthncchbcdpbgaaaGreat
