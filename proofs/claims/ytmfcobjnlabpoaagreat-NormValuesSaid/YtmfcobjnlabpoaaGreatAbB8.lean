/- NormValues: what its row asks of the program; each by the kernel's own run. -/
import Derived.Test.YtmfcobjnlabpoaaGreatAbB7
set_option linter.unusedVariables false
set_option linter.unusedSimpArgs false
set_option linter.unusedSectionVars false
namespace Go.Proofs.YtmfcobjnlabpoaaGreat
open Go.ChangeShapes Go.WideShapes Go.ChangeAt Go.RowKit
theorem normValues_fact0:(Rows.normValuesRow.wf (OpenSpec.ofChange Rows.normValuesSpec))=true:=by kernel_rfl
theorem normValues_fact3:(Tryz.f7.params.all (Tryz.pinned.checked.prog.readableRec ·))=true:=by kernel_rfl
theorem normValues_fact4:(namedTie Tryz.pinned.checked.prog Rows.normValuesRow.named Rows.normValuesSpec.vars)=true:=by kernel_rfl
theorem normValues_fact5:((Rows.normValuesRow.stops==[]))=true:=by kernel_rfl
theorem normValues_fact7:((Rows.normValuesRow.knobs==[]))=true:=by kernel_rfl
theorem normValues_fact9:((Rows.normValuesRow.inPlace==Tryz.pinned.checked.prog.inPlace 7))=true:=by kernel_rfl
theorem normValues_fact10:((Rows.normValuesRow.unfollowed==Tryz.pinned.checked.prog.unfollowed 7))=true:=by kernel_rfl
theorem normValues_fact11:((Rows.normValuesRow.recurses==Tryz.pinned.checked.prog.recurses 7))=true:=by kernel_rfl
theorem normValues_fact12:((Rows.normValuesRow.named==Tryz.pinned.checked.prog.varsNamed 7))=true:=by kernel_rfl
theorem normValues_fact13:((Rows.normValuesRow.maps==(Tryz.f7.params.toList++Rows.normValuesSpec.plain.varTypes Tryz.pinned.checked.prog).any (Tryz.pinned.checked.prog.mapsRec ·)))=true:=by kernel_rfl
theorem normValues_fact14:((Rows.normValuesRow.ifaces==(Tryz.f7.params.toList++Rows.normValuesSpec.plain.varTypes Tryz.pinned.checked.prog).any (Tryz.pinned.checked.prog.ifacesRec ·)))=true:=by kernel_rfl
theorem normValues_fact15:((Rows.normValuesRow.mapsOut==Tryz.pinned.checked.prog.mapsAmong Tryz.f7.resultTypes.toList))=true:=by kernel_rfl
theorem normValues_fact16:((Rows.normValuesRow.loops==(Tryz.f7.params.toList++Rows.normValuesSpec.plain.varTypes Tryz.pinned.checked.prog).any (Tryz.pinned.checked.prog.loopsFrom ·)))=true:=by kernel_rfl
theorem normValues_fact17:((Rows.normValuesRow.wideKeys==(Tryz.f7.params.toList++Rows.normValuesSpec.plain.varTypes Tryz.pinned.checked.prog++Tryz.f7.resultTypes.toList).any (Tryz.pinned.checked.prog.wideKeysFrom ·)))=true:=by kernel_rfl
theorem normValues_fact18:(Rows.normValuesSpec.vars.all (Tryz.pinned.checked.prog.varReadable ·))=true:=by kernel_rfl
theorem normValues_fact19:(Tryz.f7.resultTypes.all (fun t=>Tryz.pinned.checked.prog.readableRec t&&decide (t<Tryz.pinned.checked.prog.types.size)))=true:=by kernel_rfl
theorem normValues_fact20:((Rows.normValuesRow.ifacesOut==Tryz.f7.resultTypes.toList.any (Tryz.pinned.checked.prog.ifacesRec ·)))=true:=by kernel_rfl
theorem normValues_fact21:((Rows.normValuesRow.loopsOut==Tryz.f7.resultTypes.toList.any (Tryz.pinned.checked.prog.loopsFrom ·)))=true:=by kernel_rfl
theorem normValues_fact23:(Rows.normValuesRow.shortTexts.isNone)=true:=by kernel_rfl
theorem normValues_fact28:((Rows.normValuesRow.kinds==(if Rows.normValuesRow.domain.isEmpty then []else Tryz.f7.params.toList.map fun t=>match Tryz.pinned.checked.prog.underlying t with|some (.int k)=>some k|_=>none)))=true:=by kernel_rfl
theorem normValues_fact29:((Rows.normValuesRow.pinned==Rows.normValuesRow.pinnedBy))=true:=by kernel_rfl
theorem normValues_fact30:((Rows.normValuesRow.veiled==(Tryz.f7.params.toList++Rows.normValuesSpec.plain.varTypes Tryz.pinned.checked.prog++Tryz.f7.resultTypes.toList).any (Tryz.pinned.checked.prog.veiledRec ·)))=true:=by kernel_rfl
theorem normValues_fact31:(Rows.normValuesRow.veiledFits Tryz.pinned.checked.prog Tryz.f7.params.toList (Tryz.f7.params.toList++Rows.normValuesSpec.plain.varTypes Tryz.pinned.checked.prog++Tryz.f7.resultTypes.toList))=true:=by kernel_rfl
end Go.Proofs.YtmfcobjnlabpoaaGreat
