/- ClauseFirst: what its row asks of the program; each by the kernel's own run. -/
import Derived.Test.YtmfcobjnlabpoaaGreatAbB7
set_option linter.unusedVariables false
set_option linter.unusedSimpArgs false
set_option linter.unusedSectionVars false
namespace Go.Proofs.YtmfcobjnlabpoaaGreat
open Go.ChangeShapes Go.WideShapes Go.ChangeAt Go.RowKit
theorem clauseFirst_fact0:(Rows.clauseFirstRow.wf (OpenSpec.ofChange Rows.clauseFirstSpec))=true:=by kernel_rfl
theorem clauseFirst_fact3:(Tryz.f9.params.all (Tryz.pinned.checked.prog.readableRec ·))=true:=by kernel_rfl
theorem clauseFirst_fact4:(namedTie Tryz.pinned.checked.prog Rows.clauseFirstRow.named Rows.clauseFirstSpec.vars)=true:=by kernel_rfl
theorem clauseFirst_fact5:((Rows.clauseFirstRow.stops==[]))=true:=by kernel_rfl
theorem clauseFirst_fact7:((Rows.clauseFirstRow.knobs==[]))=true:=by kernel_rfl
theorem clauseFirst_fact9:((Rows.clauseFirstRow.inPlace==Tryz.pinned.checked.prog.inPlace 9))=true:=by kernel_rfl
theorem clauseFirst_fact10:((Rows.clauseFirstRow.unfollowed==Tryz.pinned.checked.prog.unfollowed 9))=true:=by kernel_rfl
theorem clauseFirst_fact11:((Rows.clauseFirstRow.recurses==Tryz.pinned.checked.prog.recurses 9))=true:=by kernel_rfl
theorem clauseFirst_fact12:((Rows.clauseFirstRow.named==Tryz.pinned.checked.prog.varsNamed 9))=true:=by kernel_rfl
theorem clauseFirst_fact13:((Rows.clauseFirstRow.maps==(Tryz.f9.params.toList++Rows.clauseFirstSpec.plain.varTypes Tryz.pinned.checked.prog).any (Tryz.pinned.checked.prog.mapsRec ·)))=true:=by kernel_rfl
theorem clauseFirst_fact14:((Rows.clauseFirstRow.ifaces==(Tryz.f9.params.toList++Rows.clauseFirstSpec.plain.varTypes Tryz.pinned.checked.prog).any (Tryz.pinned.checked.prog.ifacesRec ·)))=true:=by kernel_rfl
theorem clauseFirst_fact15:((Rows.clauseFirstRow.mapsOut==Tryz.pinned.checked.prog.mapsAmong Tryz.f9.resultTypes.toList))=true:=by kernel_rfl
theorem clauseFirst_fact16:((Rows.clauseFirstRow.loops==(Tryz.f9.params.toList++Rows.clauseFirstSpec.plain.varTypes Tryz.pinned.checked.prog).any (Tryz.pinned.checked.prog.loopsFrom ·)))=true:=by kernel_rfl
theorem clauseFirst_fact17:((Rows.clauseFirstRow.wideKeys==(Tryz.f9.params.toList++Rows.clauseFirstSpec.plain.varTypes Tryz.pinned.checked.prog++Tryz.f9.resultTypes.toList).any (Tryz.pinned.checked.prog.wideKeysFrom ·)))=true:=by kernel_rfl
theorem clauseFirst_fact18:(Rows.clauseFirstSpec.vars.all (Tryz.pinned.checked.prog.varReadable ·))=true:=by kernel_rfl
theorem clauseFirst_fact19:(Tryz.f9.resultTypes.all (fun t=>Tryz.pinned.checked.prog.readableRec t&&decide (t<Tryz.pinned.checked.prog.types.size)))=true:=by kernel_rfl
theorem clauseFirst_fact20:((Rows.clauseFirstRow.ifacesOut==Tryz.f9.resultTypes.toList.any (Tryz.pinned.checked.prog.ifacesRec ·)))=true:=by kernel_rfl
theorem clauseFirst_fact21:((Rows.clauseFirstRow.loopsOut==Tryz.f9.resultTypes.toList.any (Tryz.pinned.checked.prog.loopsFrom ·)))=true:=by kernel_rfl
theorem clauseFirst_fact23:(Rows.clauseFirstRow.shortTexts.isNone)=true:=by kernel_rfl
theorem clauseFirst_fact28:((Rows.clauseFirstRow.kinds==(if Rows.clauseFirstRow.domain.isEmpty then []else Tryz.f9.params.toList.map fun t=>match Tryz.pinned.checked.prog.underlying t with|some (.int k)=>some k|_=>none)))=true:=by kernel_rfl
theorem clauseFirst_fact29:((Rows.clauseFirstRow.pinned==Rows.clauseFirstRow.pinnedBy))=true:=by kernel_rfl
theorem clauseFirst_fact30:((Rows.clauseFirstRow.veiled==(Tryz.f9.params.toList++Rows.clauseFirstSpec.plain.varTypes Tryz.pinned.checked.prog++Tryz.f9.resultTypes.toList).any (Tryz.pinned.checked.prog.veiledRec ·)))=true:=by kernel_rfl
theorem clauseFirst_fact31:(Rows.clauseFirstRow.veiledFits Tryz.pinned.checked.prog Tryz.f9.params.toList (Tryz.f9.params.toList++Rows.clauseFirstSpec.plain.varTypes Tryz.pinned.checked.prog++Tryz.f9.resultTypes.toList))=true:=by kernel_rfl
end Go.Proofs.YtmfcobjnlabpoaaGreat
