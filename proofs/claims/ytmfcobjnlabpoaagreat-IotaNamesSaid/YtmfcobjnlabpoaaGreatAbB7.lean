/- IotaNames: what its row asks of the program; each by the kernel's own run. -/
import Derived.Test.YtmfcobjnlabpoaaGreatAbB6
set_option linter.unusedVariables false
set_option linter.unusedSimpArgs false
set_option linter.unusedSectionVars false
namespace Go.Proofs.YtmfcobjnlabpoaaGreat
open Go.ChangeShapes Go.WideShapes Go.ChangeAt Go.RowKit
theorem iotaNames_fact0:(Rows.iotaNamesRow.wf (OpenSpec.ofChange Rows.iotaNamesSpec))=true:=by kernel_rfl
theorem iotaNames_fact3:(Tryz.f6.params.all (Tryz.pinned.checked.prog.readableRec ·))=true:=by kernel_rfl
theorem iotaNames_fact4:(namedTie Tryz.pinned.checked.prog Rows.iotaNamesRow.named Rows.iotaNamesSpec.vars)=true:=by kernel_rfl
theorem iotaNames_fact5:((Rows.iotaNamesRow.stops==[]))=true:=by kernel_rfl
theorem iotaNames_fact7:((Rows.iotaNamesRow.knobs==[]))=true:=by kernel_rfl
theorem iotaNames_fact9:((Rows.iotaNamesRow.inPlace==Tryz.pinned.checked.prog.inPlace 6))=true:=by kernel_rfl
theorem iotaNames_fact10:((Rows.iotaNamesRow.unfollowed==Tryz.pinned.checked.prog.unfollowed 6))=true:=by kernel_rfl
theorem iotaNames_fact11:((Rows.iotaNamesRow.recurses==Tryz.pinned.checked.prog.recurses 6))=true:=by kernel_rfl
theorem iotaNames_fact12:((Rows.iotaNamesRow.named==Tryz.pinned.checked.prog.varsNamed 6))=true:=by kernel_rfl
theorem iotaNames_fact13:((Rows.iotaNamesRow.maps==(Tryz.f6.params.toList++Rows.iotaNamesSpec.plain.varTypes Tryz.pinned.checked.prog).any (Tryz.pinned.checked.prog.mapsRec ·)))=true:=by kernel_rfl
theorem iotaNames_fact14:((Rows.iotaNamesRow.ifaces==(Tryz.f6.params.toList++Rows.iotaNamesSpec.plain.varTypes Tryz.pinned.checked.prog).any (Tryz.pinned.checked.prog.ifacesRec ·)))=true:=by kernel_rfl
theorem iotaNames_fact15:((Rows.iotaNamesRow.mapsOut==Tryz.pinned.checked.prog.mapsAmong Tryz.f6.resultTypes.toList))=true:=by kernel_rfl
theorem iotaNames_fact16:((Rows.iotaNamesRow.loops==(Tryz.f6.params.toList++Rows.iotaNamesSpec.plain.varTypes Tryz.pinned.checked.prog).any (Tryz.pinned.checked.prog.loopsFrom ·)))=true:=by kernel_rfl
theorem iotaNames_fact17:((Rows.iotaNamesRow.wideKeys==(Tryz.f6.params.toList++Rows.iotaNamesSpec.plain.varTypes Tryz.pinned.checked.prog++Tryz.f6.resultTypes.toList).any (Tryz.pinned.checked.prog.wideKeysFrom ·)))=true:=by kernel_rfl
theorem iotaNames_fact18:(Rows.iotaNamesSpec.vars.all (Tryz.pinned.checked.prog.varReadable ·))=true:=by kernel_rfl
theorem iotaNames_fact19:(Tryz.f6.resultTypes.all (fun t=>Tryz.pinned.checked.prog.readableRec t&&decide (t<Tryz.pinned.checked.prog.types.size)))=true:=by kernel_rfl
theorem iotaNames_fact20:((Rows.iotaNamesRow.ifacesOut==Tryz.f6.resultTypes.toList.any (Tryz.pinned.checked.prog.ifacesRec ·)))=true:=by kernel_rfl
theorem iotaNames_fact21:((Rows.iotaNamesRow.loopsOut==Tryz.f6.resultTypes.toList.any (Tryz.pinned.checked.prog.loopsFrom ·)))=true:=by kernel_rfl
theorem iotaNames_fact23:(Rows.iotaNamesRow.shortTexts.isNone)=true:=by kernel_rfl
theorem iotaNames_fact28:((Rows.iotaNamesRow.kinds==(if Rows.iotaNamesRow.domain.isEmpty then []else Tryz.f6.params.toList.map fun t=>match Tryz.pinned.checked.prog.underlying t with|some (.int k)=>some k|_=>none)))=true:=by kernel_rfl
theorem iotaNames_fact29:((Rows.iotaNamesRow.pinned==Rows.iotaNamesRow.pinnedBy))=true:=by kernel_rfl
theorem iotaNames_fact30:((Rows.iotaNamesRow.veiled==(Tryz.f6.params.toList++Rows.iotaNamesSpec.plain.varTypes Tryz.pinned.checked.prog++Tryz.f6.resultTypes.toList).any (Tryz.pinned.checked.prog.veiledRec ·)))=true:=by kernel_rfl
theorem iotaNames_fact31:(Rows.iotaNamesRow.veiledFits Tryz.pinned.checked.prog Tryz.f6.params.toList (Tryz.f6.params.toList++Rows.iotaNamesSpec.plain.varTypes Tryz.pinned.checked.prog++Tryz.f6.resultTypes.toList))=true:=by kernel_rfl
end Go.Proofs.YtmfcobjnlabpoaaGreat
