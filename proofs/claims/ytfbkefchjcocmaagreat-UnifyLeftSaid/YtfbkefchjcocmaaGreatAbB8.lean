/- UnifyLeft: what its row asks of the program; each by the kernel's own run. -/
import Derived.Test.YtfbkefchjcocmaaGreatAbB7
set_option linter.unusedVariables false
set_option linter.unusedSimpArgs false
set_option linter.unusedSectionVars false
namespace Go.Proofs.YtfbkefchjcocmaaGreat
open Go.ChangeShapes Go.WideShapes Go.ChangeAt Go.RowKit
theorem zBd:(Rows.unifyLeftRow.wf (OpenSpec.ofChange Rows.unifyLeftSpec))=true:=by kernel_rfl
theorem zBc:(Tryz.f3.params.all (Tryz.pinned.checked.prog.readableRec ·))=true:=by kernel_rfl
theorem zBb:(namedTie Tryz.pinned.checked.prog Rows.unifyLeftRow.named Rows.unifyLeftSpec.vars)=true:=by kernel_rfl
theorem zBa:((Rows.unifyLeftRow.stops==[]))=true:=by kernel_rfl
theorem zBA:((Rows.unifyLeftRow.knobs==[]))=true:=by kernel_rfl
theorem zBB:((Rows.unifyLeftRow.inPlace==Tryz.pinned.checked.prog.inPlace 3))=true:=by kernel_rfl
theorem zAJ:((Rows.unifyLeftRow.unfollowed==Tryz.pinned.checked.prog.unfollowed 3))=true:=by kernel_rfl
theorem zAK:((Rows.unifyLeftRow.recurses==Tryz.pinned.checked.prog.recurses 3))=true:=by kernel_rfl
theorem zAL:((Rows.unifyLeftRow.named==Tryz.pinned.checked.prog.varsNamed 3))=true:=by kernel_rfl
theorem zAM:((Rows.unifyLeftRow.maps==(Tryz.f3.params.toList++Rows.unifyLeftSpec.plain.varTypes Tryz.pinned.checked.prog).any (Tryz.pinned.checked.prog.mapsRec ·)))=true:=by kernel_rfl
theorem zAN:((Rows.unifyLeftRow.ifaces==(Tryz.f3.params.toList++Rows.unifyLeftSpec.plain.varTypes Tryz.pinned.checked.prog).any (Tryz.pinned.checked.prog.ifacesRec ·)))=true:=by kernel_rfl
theorem zAO:((Rows.unifyLeftRow.mapsOut==Tryz.pinned.checked.prog.mapsAmong Tryz.f3.resultTypes.toList))=true:=by kernel_rfl
theorem zAP:((Rows.unifyLeftRow.loops==(Tryz.f3.params.toList++Rows.unifyLeftSpec.plain.varTypes Tryz.pinned.checked.prog).any (Tryz.pinned.checked.prog.loopsFrom ·)))=true:=by kernel_rfl
theorem zAQ:((Rows.unifyLeftRow.wideKeys==(Tryz.f3.params.toList++Rows.unifyLeftSpec.plain.varTypes Tryz.pinned.checked.prog++Tryz.f3.resultTypes.toList).any (Tryz.pinned.checked.prog.wideKeysFrom ·)))=true:=by kernel_rfl
theorem zAR:(Rows.unifyLeftSpec.vars.all (Tryz.pinned.checked.prog.varReadable ·))=true:=by kernel_rfl
theorem zAS:(Tryz.f3.resultTypes.all (fun t=>Tryz.pinned.checked.prog.readableRec t&&decide (t<Tryz.pinned.checked.prog.types.size)))=true:=by kernel_rfl
theorem zAT:((Rows.unifyLeftRow.ifacesOut==Tryz.f3.resultTypes.toList.any (Tryz.pinned.checked.prog.ifacesRec ·)))=true:=by kernel_rfl
theorem zAU:((Rows.unifyLeftRow.loopsOut==Tryz.f3.resultTypes.toList.any (Tryz.pinned.checked.prog.loopsFrom ·)))=true:=by kernel_rfl
theorem zAV:(Rows.unifyLeftRow.shortTexts.isNone)=true:=by kernel_rfl
theorem zAW:((Rows.unifyLeftRow.kinds==(if Rows.unifyLeftRow.domain.isEmpty then []else Tryz.f3.params.toList.map fun t=>match Tryz.pinned.checked.prog.underlying t with|some (.int k)=>some k|_=>none)))=true:=by kernel_rfl
theorem zAX:((Rows.unifyLeftRow.pinned==Rows.unifyLeftRow.pinnedBy))=true:=by kernel_rfl
theorem zAY:((Rows.unifyLeftRow.veiled==(Tryz.f3.params.toList++Rows.unifyLeftSpec.plain.varTypes Tryz.pinned.checked.prog++Tryz.f3.resultTypes.toList).any (Tryz.pinned.checked.prog.veiledRec ·)))=true:=by kernel_rfl
theorem zAZ:(Rows.unifyLeftRow.veiledFits Tryz.pinned.checked.prog Tryz.f3.params.toList (Tryz.f3.params.toList++Rows.unifyLeftSpec.plain.varTypes Tryz.pinned.checked.prog++Tryz.f3.resultTypes.toList))=true:=by kernel_rfl
end Go.Proofs.YtfbkefchjcocmaaGreat
