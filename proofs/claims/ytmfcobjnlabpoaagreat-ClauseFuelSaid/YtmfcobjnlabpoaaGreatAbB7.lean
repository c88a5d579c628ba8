/- ClauseFuel: what its row asks of the program; each by the kernel's own run. -/
import Derived.Test.YtmfcobjnlabpoaaGreatAbB6
set_option linter.unusedVariables false
set_option linter.unusedSimpArgs false
set_option linter.unusedSectionVars false
namespace Go.Proofs.YtmfcobjnlabpoaaGreat
open Go.ChangeShapes Go.WideShapes Go.ChangeAt Go.RowKit
theorem clauseFuel_fact0:(Rows.clauseFuelRow.wf (OpenSpec.ofChange Rows.clauseFuelSpec))=true:=by kernel_rfl
theorem clauseFuel_fact3:(Tryz.f10.params.all (Tryz.pinned.checked.prog.readableRec ·))=true:=by kernel_rfl
theorem clauseFuel_fact4:(namedTie Tryz.pinned.checked.prog Rows.clauseFuelRow.named Rows.clauseFuelSpec.vars)=true:=by kernel_rfl
theorem clauseFuel_fact5:((Rows.clauseFuelRow.stops==[]))=true:=by kernel_rfl
theorem clauseFuel_fact7:((Rows.clauseFuelRow.knobs==[]))=true:=by kernel_rfl
theorem clauseFuel_fact9:((Rows.clauseFuelRow.inPlace==Tryz.pinned.checked.prog.inPlace 10))=true:=by kernel_rfl
theorem clauseFuel_fact10:((Rows.clauseFuelRow.unfollowed==Tryz.pinned.checked.prog.unfollowed 10))=true:=by kernel_rfl
theorem clauseFuel_fact11:((Rows.clauseFuelRow.recurses==Tryz.pinned.checked.prog.recurses 10))=true:=by kernel_rfl
theorem clauseFuel_fact12:((Rows.clauseFuelRow.named==Tryz.pinned.checked.prog.varsNamed 10))=true:=by kernel_rfl
theorem clauseFuel_fact13:((Rows.clauseFuelRow.maps==(Tryz.f10.params.toList++Rows.clauseFuelSpec.plain.varTypes Tryz.pinned.checked.prog).any (Tryz.pinned.checked.prog.mapsRec ·)))=true:=by kernel_rfl
theorem clauseFuel_fact14:((Rows.clauseFuelRow.ifaces==(Tryz.f10.params.toList++Rows.clauseFuelSpec.plain.varTypes Tryz.pinned.checked.prog).any (Tryz.pinned.checked.prog.ifacesRec ·)))=true:=by kernel_rfl
theorem clauseFuel_fact15:((Rows.clauseFuelRow.mapsOut==Tryz.pinned.checked.prog.mapsAmong Tryz.f10.resultTypes.toList))=true:=by kernel_rfl
theorem clauseFuel_fact16:((Rows.clauseFuelRow.loops==(Tryz.f10.params.toList++Rows.clauseFuelSpec.plain.varTypes Tryz.pinned.checked.prog).any (Tryz.pinned.checked.prog.loopsFrom ·)))=true:=by kernel_rfl
theorem clauseFuel_fact17:((Rows.clauseFuelRow.wideKeys==(Tryz.f10.params.toList++Rows.clauseFuelSpec.plain.varTypes Tryz.pinned.checked.prog++Tryz.f10.resultTypes.toList).any (Tryz.pinned.checked.prog.wideKeysFrom ·)))=true:=by kernel_rfl
theorem clauseFuel_fact18:(Rows.clauseFuelSpec.vars.all (Tryz.pinned.checked.prog.varReadable ·))=true:=by kernel_rfl
theorem clauseFuel_fact19:(Tryz.f10.resultTypes.all (fun t=>Tryz.pinned.checked.prog.readableRec t&&decide (t<Tryz.pinned.checked.prog.types.size)))=true:=by kernel_rfl
theorem clauseFuel_fact20:((Rows.clauseFuelRow.ifacesOut==Tryz.f10.resultTypes.toList.any (Tryz.pinned.checked.prog.ifacesRec ·)))=true:=by kernel_rfl
theorem clauseFuel_fact21:((Rows.clauseFuelRow.loopsOut==Tryz.f10.resultTypes.toList.any (Tryz.pinned.checked.prog.loopsFrom ·)))=true:=by kernel_rfl
theorem clauseFuel_fact23:(Rows.clauseFuelRow.shortTexts.isNone)=true:=by kernel_rfl
theorem clauseFuel_fact28:((Rows.clauseFuelRow.kinds==(if Rows.clauseFuelRow.domain.isEmpty then []else Tryz.f10.params.toList.map fun t=>match Tryz.pinned.checked.prog.underlying t with|some (.int k)=>some k|_=>none)))=true:=by kernel_rfl
theorem clauseFuel_fact29:((Rows.clauseFuelRow.pinned==Rows.clauseFuelRow.pinnedBy))=true:=by kernel_rfl
theorem clauseFuel_fact30:((Rows.clauseFuelRow.veiled==(Tryz.f10.params.toList++Rows.clauseFuelSpec.plain.varTypes Tryz.pinned.checked.prog++Tryz.f10.resultTypes.toList).any (Tryz.pinned.checked.prog.veiledRec ·)))=true:=by kernel_rfl
theorem clauseFuel_fact31:(Rows.clauseFuelRow.veiledFits Tryz.pinned.checked.prog Tryz.f10.params.toList (Tryz.f10.params.toList++Rows.clauseFuelSpec.plain.varTypes Tryz.pinned.checked.prog++Tryz.f10.resultTypes.toList))=true:=by kernel_rfl
end Go.Proofs.YtmfcobjnlabpoaaGreat
