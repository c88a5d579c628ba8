/- LeafFuel: what its row asks of the program; each by the kernel's own run. -/
import Derived.Test.YtmfcobjnlabpoaaGreatAbB6
set_option linter.unusedVariables false
set_option linter.unusedSimpArgs false
set_option linter.unusedSectionVars false
namespace Go.Proofs.YtmfcobjnlabpoaaGreat
open Go.ChangeShapes Go.WideShapes Go.ChangeAt Go.RowKit
theorem leafFuel_fact0:(Rows.leafFuelRow.wf (OpenSpec.ofChange Rows.leafFuelSpec))=true:=by kernel_rfl
theorem leafFuel_fact3:(Tryz.f8.params.all (Tryz.pinned.checked.prog.readableRec ·))=true:=by kernel_rfl
theorem leafFuel_fact4:(namedTie Tryz.pinned.checked.prog Rows.leafFuelRow.named Rows.leafFuelSpec.vars)=true:=by kernel_rfl
theorem leafFuel_fact5:((Rows.leafFuelRow.stops==[]))=true:=by kernel_rfl
theorem leafFuel_fact7:((Rows.leafFuelRow.knobs==[]))=true:=by kernel_rfl
theorem leafFuel_fact9:((Rows.leafFuelRow.inPlace==Tryz.pinned.checked.prog.inPlace 8))=true:=by kernel_rfl
theorem leafFuel_fact10:((Rows.leafFuelRow.unfollowed==Tryz.pinned.checked.prog.unfollowed 8))=true:=by kernel_rfl
theorem leafFuel_fact11:((Rows.leafFuelRow.recurses==Tryz.pinned.checked.prog.recurses 8))=true:=by kernel_rfl
theorem leafFuel_fact12:((Rows.leafFuelRow.named==Tryz.pinned.checked.prog.varsNamed 8))=true:=by kernel_rfl
theorem leafFuel_fact13:((Rows.leafFuelRow.maps==(Tryz.f8.params.toList++Rows.leafFuelSpec.plain.varTypes Tryz.pinned.checked.prog).any (Tryz.pinned.checked.prog.mapsRec ·)))=true:=by kernel_rfl
theorem leafFuel_fact14:((Rows.leafFuelRow.ifaces==(Tryz.f8.params.toList++Rows.leafFuelSpec.plain.varTypes Tryz.pinned.checked.prog).any (Tryz.pinned.checked.prog.ifacesRec ·)))=true:=by kernel_rfl
theorem leafFuel_fact15:((Rows.leafFuelRow.mapsOut==Tryz.pinned.checked.prog.mapsAmong Tryz.f8.resultTypes.toList))=true:=by kernel_rfl
theorem leafFuel_fact16:((Rows.leafFuelRow.loops==(Tryz.f8.params.toList++Rows.leafFuelSpec.plain.varTypes Tryz.pinned.checked.prog).any (Tryz.pinned.checked.prog.loopsFrom ·)))=true:=by kernel_rfl
theorem leafFuel_fact17:((Rows.leafFuelRow.wideKeys==(Tryz.f8.params.toList++Rows.leafFuelSpec.plain.varTypes Tryz.pinned.checked.prog++Tryz.f8.resultTypes.toList).any (Tryz.pinned.checked.prog.wideKeysFrom ·)))=true:=by kernel_rfl
theorem leafFuel_fact18:(Rows.leafFuelSpec.vars.all (Tryz.pinned.checked.prog.varReadable ·))=true:=by kernel_rfl
theorem leafFuel_fact19:(Tryz.f8.resultTypes.all (fun t=>Tryz.pinned.checked.prog.readableRec t&&decide (t<Tryz.pinned.checked.prog.types.size)))=true:=by kernel_rfl
theorem leafFuel_fact20:((Rows.leafFuelRow.ifacesOut==Tryz.f8.resultTypes.toList.any (Tryz.pinned.checked.prog.ifacesRec ·)))=true:=by kernel_rfl
theorem leafFuel_fact21:((Rows.leafFuelRow.loopsOut==Tryz.f8.resultTypes.toList.any (Tryz.pinned.checked.prog.loopsFrom ·)))=true:=by kernel_rfl
theorem leafFuel_fact23:(Rows.leafFuelRow.shortTexts.isNone)=true:=by kernel_rfl
theorem leafFuel_fact28:((Rows.leafFuelRow.kinds==(if Rows.leafFuelRow.domain.isEmpty then []else Tryz.f8.params.toList.map fun t=>match Tryz.pinned.checked.prog.underlying t with|some (.int k)=>some k|_=>none)))=true:=by kernel_rfl
theorem leafFuel_fact29:((Rows.leafFuelRow.pinned==Rows.leafFuelRow.pinnedBy))=true:=by kernel_rfl
theorem leafFuel_fact30:((Rows.leafFuelRow.veiled==(Tryz.f8.params.toList++Rows.leafFuelSpec.plain.varTypes Tryz.pinned.checked.prog++Tryz.f8.resultTypes.toList).any (Tryz.pinned.checked.prog.veiledRec ·)))=true:=by kernel_rfl
theorem leafFuel_fact31:(Rows.leafFuelRow.veiledFits Tryz.pinned.checked.prog Tryz.f8.params.toList (Tryz.f8.params.toList++Rows.leafFuelSpec.plain.varTypes Tryz.pinned.checked.prog++Tryz.f8.resultTypes.toList))=true:=by kernel_rfl
end Go.Proofs.YtmfcobjnlabpoaaGreat
