/- UnifyGeneral: what its row asks of the program; each by the kernel's own run. -/
import Derived.Test.YtfbkefchjcocmaaGreatAbB7
set_option linter.unusedVariables false
set_option linter.unusedSimpArgs false
set_option linter.unusedSectionVars false
namespace Go.Proofs.YtfbkefchjcocmaaGreat
open Go.ChangeShapes Go.WideShapes Go.ChangeAt Go.RowKit
theorem bU:(Rows.unifyGeneralRow.wf (OpenSpec.ofChange Rows.unifyGeneralSpec))=true:=by kernel_rfl
theorem bV:(Tryz.f4.params.all (Tryz.pinned.checked.prog.readableRec ·))=true:=by kernel_rfl
theorem bW:(namedTie Tryz.pinned.checked.prog Rows.unifyGeneralRow.named Rows.unifyGeneralSpec.vars)=true:=by kernel_rfl
theorem bX:((Rows.unifyGeneralRow.stops==[]))=true:=by kernel_rfl
theorem bY:((Rows.unifyGeneralRow.knobs==[]))=true:=by kernel_rfl
theorem bZ:((Rows.unifyGeneralRow.inPlace==Tryz.pinned.checked.prog.inPlace 4))=true:=by kernel_rfl
theorem eF:((Rows.unifyGeneralRow.unfollowed==Tryz.pinned.checked.prog.unfollowed 4))=true:=by kernel_rfl
theorem eG:((Rows.unifyGeneralRow.recurses==Tryz.pinned.checked.prog.recurses 4))=true:=by kernel_rfl
theorem eH:((Rows.unifyGeneralRow.named==Tryz.pinned.checked.prog.varsNamed 4))=true:=by kernel_rfl
theorem eI:((Rows.unifyGeneralRow.maps==(Tryz.f4.params.toList++Rows.unifyGeneralSpec.plain.varTypes Tryz.pinned.checked.prog).any (Tryz.pinned.checked.prog.mapsRec ·)))=true:=by kernel_rfl
theorem eJ:((Rows.unifyGeneralRow.ifaces==(Tryz.f4.params.toList++Rows.unifyGeneralSpec.plain.varTypes Tryz.pinned.checked.prog).any (Tryz.pinned.checked.prog.ifacesRec ·)))=true:=by kernel_rfl
theorem eK:((Rows.unifyGeneralRow.mapsOut==Tryz.pinned.checked.prog.mapsAmong Tryz.f4.resultTypes.toList))=true:=by kernel_rfl
theorem eL:((Rows.unifyGeneralRow.loops==(Tryz.f4.params.toList++Rows.unifyGeneralSpec.plain.varTypes Tryz.pinned.checked.prog).any (Tryz.pinned.checked.prog.loopsFrom ·)))=true:=by kernel_rfl
theorem eM:((Rows.unifyGeneralRow.wideKeys==(Tryz.f4.params.toList++Rows.unifyGeneralSpec.plain.varTypes Tryz.pinned.checked.prog++Tryz.f4.resultTypes.toList).any (Tryz.pinned.checked.prog.wideKeysFrom ·)))=true:=by kernel_rfl
theorem eN:(Rows.unifyGeneralSpec.vars.all (Tryz.pinned.checked.prog.varReadable ·))=true:=by kernel_rfl
theorem eO:(Tryz.f4.resultTypes.all (fun t=>Tryz.pinned.checked.prog.readableRec t&&decide (t<Tryz.pinned.checked.prog.types.size)))=true:=by kernel_rfl
theorem eP:((Rows.unifyGeneralRow.ifacesOut==Tryz.f4.resultTypes.toList.any (Tryz.pinned.checked.prog.ifacesRec ·)))=true:=by kernel_rfl
theorem eQ:((Rows.unifyGeneralRow.loopsOut==Tryz.f4.resultTypes.toList.any (Tryz.pinned.checked.prog.loopsFrom ·)))=true:=by kernel_rfl
theorem eR:(Rows.unifyGeneralRow.shortTexts.isNone)=true:=by kernel_rfl
theorem eS:((Rows.unifyGeneralRow.kinds==(if Rows.unifyGeneralRow.domain.isEmpty then []else Tryz.f4.params.toList.map fun t=>match Tryz.pinned.checked.prog.underlying t with|some (.int k)=>some k|_=>none)))=true:=by kernel_rfl
theorem eT:((Rows.unifyGeneralRow.pinned==Rows.unifyGeneralRow.pinnedBy))=true:=by kernel_rfl
theorem eU:((Rows.unifyGeneralRow.veiled==(Tryz.f4.params.toList++Rows.unifyGeneralSpec.plain.varTypes Tryz.pinned.checked.prog++Tryz.f4.resultTypes.toList).any (Tryz.pinned.checked.prog.veiledRec ·)))=true:=by kernel_rfl
theorem eV:(Rows.unifyGeneralRow.veiledFits Tryz.pinned.checked.prog Tryz.f4.params.toList (Tryz.f4.params.toList++Rows.unifyGeneralSpec.plain.varTypes Tryz.pinned.checked.prog++Tryz.f4.resultTypes.toList))=true:=by kernel_rfl
end Go.Proofs.YtfbkefchjcocmaaGreat
