/- UnifyHolds: what its row asks of the program; each by the kernel's own run. -/
import Derived.Test.YtfbkefchjcocmaaGreatAbB7
set_option linter.unusedVariables false
set_option linter.unusedSimpArgs false
set_option linter.unusedSectionVars false
namespace Go.Proofs.YtfbkefchjcocmaaGreat
open Go.ChangeShapes Go.WideShapes Go.ChangeAt Go.RowKit
theorem R2:(Rows.unifyHoldsRow.wf (OpenSpec.ofChange Rows.unifyHoldsSpec))=true:=by kernel_rfl
theorem R3:(Tryz.f5.params.all (Tryz.pinned.checked.prog.readableRec ·))=true:=by kernel_rfl
theorem R4:(namedTie Tryz.pinned.checked.prog Rows.unifyHoldsRow.named Rows.unifyHoldsSpec.vars)=true:=by kernel_rfl
theorem R5:((Rows.unifyHoldsRow.stops==[]))=true:=by kernel_rfl
theorem R6:((Rows.unifyHoldsRow.knobs==[]))=true:=by kernel_rfl
theorem R7:((Rows.unifyHoldsRow.inPlace==Tryz.pinned.checked.prog.inPlace 5))=true:=by kernel_rfl
theorem K3:((Rows.unifyHoldsRow.unfollowed==Tryz.pinned.checked.prog.unfollowed 5))=true:=by kernel_rfl
theorem K4:((Rows.unifyHoldsRow.recurses==Tryz.pinned.checked.prog.recurses 5))=true:=by kernel_rfl
theorem K5:((Rows.unifyHoldsRow.named==Tryz.pinned.checked.prog.varsNamed 5))=true:=by kernel_rfl
theorem K6:((Rows.unifyHoldsRow.maps==(Tryz.f5.params.toList++Rows.unifyHoldsSpec.plain.varTypes Tryz.pinned.checked.prog).any (Tryz.pinned.checked.prog.mapsRec ·)))=true:=by kernel_rfl
theorem K7:((Rows.unifyHoldsRow.ifaces==(Tryz.f5.params.toList++Rows.unifyHoldsSpec.plain.varTypes Tryz.pinned.checked.prog).any (Tryz.pinned.checked.prog.ifacesRec ·)))=true:=by kernel_rfl
theorem K8:((Rows.unifyHoldsRow.mapsOut==Tryz.pinned.checked.prog.mapsAmong Tryz.f5.resultTypes.toList))=true:=by kernel_rfl
theorem K9:((Rows.unifyHoldsRow.loops==(Tryz.f5.params.toList++Rows.unifyHoldsSpec.plain.varTypes Tryz.pinned.checked.prog).any (Tryz.pinned.checked.prog.loopsFrom ·)))=true:=by kernel_rfl
theorem L0:((Rows.unifyHoldsRow.wideKeys==(Tryz.f5.params.toList++Rows.unifyHoldsSpec.plain.varTypes Tryz.pinned.checked.prog++Tryz.f5.resultTypes.toList).any (Tryz.pinned.checked.prog.wideKeysFrom ·)))=true:=by kernel_rfl
theorem L1:(Rows.unifyHoldsSpec.vars.all (Tryz.pinned.checked.prog.varReadable ·))=true:=by kernel_rfl
theorem L2:(Tryz.f5.resultTypes.all (fun t=>Tryz.pinned.checked.prog.readableRec t&&decide (t<Tryz.pinned.checked.prog.types.size)))=true:=by kernel_rfl
theorem L4:((Rows.unifyHoldsRow.ifacesOut==Tryz.f5.resultTypes.toList.any (Tryz.pinned.checked.prog.ifacesRec ·)))=true:=by kernel_rfl
theorem L5:((Rows.unifyHoldsRow.loopsOut==Tryz.f5.resultTypes.toList.any (Tryz.pinned.checked.prog.loopsFrom ·)))=true:=by kernel_rfl
theorem L6:(Rows.unifyHoldsRow.shortTexts.isNone)=true:=by kernel_rfl
theorem L7:((Rows.unifyHoldsRow.kinds==(if Rows.unifyHoldsRow.domain.isEmpty then []else Tryz.f5.params.toList.map fun t=>match Tryz.pinned.checked.prog.underlying t with|some (.int k)=>some k|_=>none)))=true:=by kernel_rfl
theorem L8:((Rows.unifyHoldsRow.pinned==Rows.unifyHoldsRow.pinnedBy))=true:=by kernel_rfl
theorem L9:((Rows.unifyHoldsRow.veiled==(Tryz.f5.params.toList++Rows.unifyHoldsSpec.plain.varTypes Tryz.pinned.checked.prog++Tryz.f5.resultTypes.toList).any (Tryz.pinned.checked.prog.veiledRec ·)))=true:=by kernel_rfl
theorem M0:(Rows.unifyHoldsRow.veiledFits Tryz.pinned.checked.prog Tryz.f5.params.toList (Tryz.f5.params.toList++Rows.unifyHoldsSpec.plain.varTypes Tryz.pinned.checked.prog++Tryz.f5.resultTypes.toList))=true:=by kernel_rfl
end Go.Proofs.YtfbkefchjcocmaaGreat
