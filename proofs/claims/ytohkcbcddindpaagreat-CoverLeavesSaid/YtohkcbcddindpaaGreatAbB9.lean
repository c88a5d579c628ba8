/- CoverLeaves: what its row asks of the program; each by the kernel's own run. -/
import Derived.Test.YtohkcbcddindpaaGreatAbB8
set_option linter.unusedVariables false
set_option linter.unusedSimpArgs false
set_option linter.unusedSectionVars false
namespace Go.Proofs.YtohkcbcddindpaaGreat
open Go.ChangeShapes Go.WideShapes Go.ChangeAt Go.RowKit
theorem O1:(Rows.coverLeavesRow.wf (OpenSpec.ofChange Rows.coverLeavesSpec))=true:=by kernel_rfl
theorem O2:(Tryz.f4.params.all (Tryz.pinned.checked.prog.readableRec ·))=true:=by kernel_rfl
theorem O3:(namedTie Tryz.pinned.checked.prog Rows.coverLeavesRow.named Rows.coverLeavesSpec.vars)=true:=by kernel_rfl
theorem O4:((Rows.coverLeavesRow.stops==[]))=true:=by kernel_rfl
theorem O5:((Rows.coverLeavesRow.knobs==[]))=true:=by kernel_rfl
theorem O6:((Rows.coverLeavesRow.inPlace==Tryz.pinned.checked.prog.inPlace 4))=true:=by kernel_rfl
theorem D9:((Rows.coverLeavesRow.unfollowed==Tryz.pinned.checked.prog.unfollowed 4))=true:=by kernel_rfl
theorem E0:((Rows.coverLeavesRow.recurses==Tryz.pinned.checked.prog.recurses 4))=true:=by kernel_rfl
theorem E1:((Rows.coverLeavesRow.named==Tryz.pinned.checked.prog.varsNamed 4))=true:=by kernel_rfl
theorem E2:((Rows.coverLeavesRow.maps==(Tryz.f4.params.toList++Rows.coverLeavesSpec.plain.varTypes Tryz.pinned.checked.prog).any (Tryz.pinned.checked.prog.mapsRec ·)))=true:=by kernel_rfl
theorem E4:((Rows.coverLeavesRow.ifaces==(Tryz.f4.params.toList++Rows.coverLeavesSpec.plain.varTypes Tryz.pinned.checked.prog).any (Tryz.pinned.checked.prog.ifacesRec ·)))=true:=by kernel_rfl
theorem E5:((Rows.coverLeavesRow.mapsOut==Tryz.pinned.checked.prog.mapsAmong Tryz.f4.resultTypes.toList))=true:=by kernel_rfl
theorem E6:((Rows.coverLeavesRow.loops==(Tryz.f4.params.toList++Rows.coverLeavesSpec.plain.varTypes Tryz.pinned.checked.prog).any (Tryz.pinned.checked.prog.loopsFrom ·)))=true:=by kernel_rfl
theorem E7:((Rows.coverLeavesRow.wideKeys==(Tryz.f4.params.toList++Rows.coverLeavesSpec.plain.varTypes Tryz.pinned.checked.prog++Tryz.f4.resultTypes.toList).any (Tryz.pinned.checked.prog.wideKeysFrom ·)))=true:=by kernel_rfl
theorem E8:(Rows.coverLeavesSpec.vars.all (Tryz.pinned.checked.prog.varReadable ·))=true:=by kernel_rfl
theorem E9:(Tryz.f4.resultTypes.all (λt=>Tryz.pinned.checked.prog.readableRec t&&decide (t<Tryz.pinned.checked.prog.types.size)))=true:=by kernel_rfl
theorem F1:((Rows.coverLeavesRow.ifacesOut==Tryz.f4.resultTypes.toList.any (Tryz.pinned.checked.prog.ifacesRec ·)))=true:=by kernel_rfl
theorem F2:((Rows.coverLeavesRow.loopsOut==Tryz.f4.resultTypes.toList.any (Tryz.pinned.checked.prog.loopsFrom ·)))=true:=by kernel_rfl
theorem F3:(Rows.coverLeavesRow.shortTexts.isNone)=true:=by kernel_rfl
theorem F4:((Rows.coverLeavesRow.kinds==(if Rows.coverLeavesRow.domain.isEmpty then[]else Tryz.f4.params.toList.map λt=>match Tryz.pinned.checked.prog.underlying t with|some (.int k)=>some k|_=>none)))=true:=by kernel_rfl
theorem F5:((Rows.coverLeavesRow.pinned==Rows.coverLeavesRow.pinnedBy))=true:=by kernel_rfl
theorem F6:((Rows.coverLeavesRow.veiled==(Tryz.f4.params.toList++Rows.coverLeavesSpec.plain.varTypes Tryz.pinned.checked.prog++Tryz.f4.resultTypes.toList).any (Tryz.pinned.checked.prog.veiledRec ·)))=true:=by kernel_rfl
theorem F7:(Rows.coverLeavesRow.veiledFits Tryz.pinned.checked.prog Tryz.f4.params.toList (Tryz.f4.params.toList++Rows.coverLeavesSpec.plain.varTypes Tryz.pinned.checked.prog++Tryz.f4.resultTypes.toList))=true:=by kernel_rfl
end Go.Proofs.YtohkcbcddindpaaGreat
