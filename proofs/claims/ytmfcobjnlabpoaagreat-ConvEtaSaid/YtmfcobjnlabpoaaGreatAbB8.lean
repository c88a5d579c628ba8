/- ConvEta: what its row asks of the program; each by the kernel's own run. -/
import Derived.Test.YtmfcobjnlabpoaaGreatAbB7
set_option linter.unusedVariables false
set_option linter.unusedSimpArgs false
namespace Go.Proofs.YtmfcobjnlabpoaaGreat
open Go.ChangeShapes Go.WideShapes Go.ChangeAt Go.RowKit
theorem convEta_fact0:(Rows.convEtaRow.wf (OpenSpec.ofChange Rows.convEtaSpec))=true:=by kernel_rfl
theorem convEta_fact3:(Tryz.f5.params.all (Tryz.pinned.checked.prog.readableRec ·))=true:=by kernel_rfl
theorem convEta_fact4:(namedTie Tryz.pinned.checked.prog Rows.convEtaRow.named Rows.convEtaSpec.vars)=true:=by kernel_rfl
theorem convEta_fact5:((Rows.convEtaRow.stops==[]))=true:=by kernel_rfl
theorem convEta_fact7:((Rows.convEtaRow.knobs==[]))=true:=by kernel_rfl
theorem convEta_fact9:((Rows.convEtaRow.inPlace==Tryz.pinned.checked.prog.inPlace 5))=true:=by kernel_rfl
theorem convEta_fact10:((Rows.convEtaRow.unfollowed==Tryz.pinned.checked.prog.unfollowed 5))=true:=by kernel_rfl
theorem convEta_fact11:((Rows.convEtaRow.recurses==Tryz.pinned.checked.prog.recurses 5))=true:=by kernel_rfl
theorem convEta_fact12:((Rows.convEtaRow.named==Tryz.pinned.checked.prog.varsNamed 5))=true:=by kernel_rfl
theorem convEta_fact13:((Rows.convEtaRow.maps==(Tryz.f5.params.toList++Rows.convEtaSpec.plain.varTypes Tryz.pinned.checked.prog).any (Tryz.pinned.checked.prog.mapsRec ·)))=true:=by kernel_rfl
theorem convEta_fact14:((Rows.convEtaRow.ifaces==(Tryz.f5.params.toList++Rows.convEtaSpec.plain.varTypes Tryz.pinned.checked.prog).any (Tryz.pinned.checked.prog.ifacesRec ·)))=true:=by kernel_rfl
theorem convEta_fact15:((Rows.convEtaRow.mapsOut==Tryz.pinned.checked.prog.mapsAmong Tryz.f5.resultTypes.toList))=true:=by kernel_rfl
theorem convEta_fact16:((Rows.convEtaRow.loops==(Tryz.f5.params.toList++Rows.convEtaSpec.plain.varTypes Tryz.pinned.checked.prog).any (Tryz.pinned.checked.prog.loopsFrom ·)))=true:=by kernel_rfl
theorem convEta_fact17:((Rows.convEtaRow.wideKeys==(Tryz.f5.params.toList++Rows.convEtaSpec.plain.varTypes Tryz.pinned.checked.prog++Tryz.f5.resultTypes.toList).any (Tryz.pinned.checked.prog.wideKeysFrom ·)))=true:=by kernel_rfl
theorem convEta_fact18:(Rows.convEtaSpec.vars.all (Tryz.pinned.checked.prog.varReadable ·))=true:=by kernel_rfl
theorem convEta_fact19:(Tryz.f5.resultTypes.all (fun t=>Tryz.pinned.checked.prog.readableRec t&&decide (t<Tryz.pinned.checked.prog.types.size)))=true:=by kernel_rfl
theorem convEta_fact20:((Rows.convEtaRow.ifacesOut==Tryz.f5.resultTypes.toList.any (Tryz.pinned.checked.prog.ifacesRec ·)))=true:=by kernel_rfl
theorem convEta_fact21:((Rows.convEtaRow.loopsOut==Tryz.f5.resultTypes.toList.any (Tryz.pinned.checked.prog.loopsFrom ·)))=true:=by kernel_rfl
theorem convEta_fact23:(Rows.convEtaRow.shortTexts.isNone)=true:=by kernel_rfl
theorem convEta_fact28:((Rows.convEtaRow.kinds==(if Rows.convEtaRow.domain.isEmpty then []else Tryz.f5.params.toList.map fun t=>match Tryz.pinned.checked.prog.underlying t with|some (.int k)=>some k|_=>none)))=true:=by kernel_rfl
theorem convEta_fact29:((Rows.convEtaRow.pinned==Rows.convEtaRow.pinnedBy))=true:=by kernel_rfl
theorem convEta_fact30:((Rows.convEtaRow.veiled==(Tryz.f5.params.toList++Rows.convEtaSpec.plain.varTypes Tryz.pinned.checked.prog++Tryz.f5.resultTypes.toList).any (Tryz.pinned.checked.prog.veiledRec ·)))=true:=by kernel_rfl
theorem convEta_fact31:(Rows.convEtaRow.veiledFits Tryz.pinned.checked.prog Tryz.f5.params.toList (Tryz.f5.params.toList++Rows.convEtaSpec.plain.varTypes Tryz.pinned.checked.prog++Tryz.f5.resultTypes.toList))=true:=by kernel_rfl
end Go.Proofs.YtmfcobjnlabpoaaGreat
