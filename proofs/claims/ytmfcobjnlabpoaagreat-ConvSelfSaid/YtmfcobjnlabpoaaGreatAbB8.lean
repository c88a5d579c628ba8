/- ConvSelf: what its row asks of the program; each by the kernel's own run. -/
import Derived.Test.YtmfcobjnlabpoaaGreatAbB7
set_option linter.unusedVariables false
set_option linter.unusedSimpArgs false
namespace Go.Proofs.YtmfcobjnlabpoaaGreat
open Go.ChangeShapes Go.WideShapes Go.ChangeAt Go.RowKit
theorem convSelf_fact0 : (Rows.convSelfRow.wf (OpenSpec.ofChange Rows.convSelfSpec)) = true := by kernel_rfl
theorem convSelf_fact3 : (Tryz.f4.params.all (Tryz.pinned.checked.prog.readableRec ·)) = true := by kernel_rfl
theorem convSelf_fact4 : (namedTie Tryz.pinned.checked.prog Rows.convSelfRow.named Rows.convSelfSpec.vars) = true := by kernel_rfl
theorem convSelf_fact5 : ((Rows.convSelfRow.stops == [])) = true := by kernel_rfl
theorem convSelf_fact7 : ((Rows.convSelfRow.knobs == [])) = true := by kernel_rfl
theorem convSelf_fact9 : ((Rows.convSelfRow.inPlace == Tryz.pinned.checked.prog.inPlace 4)) = true := by kernel_rfl
theorem convSelf_fact10 : ((Rows.convSelfRow.unfollowed == Tryz.pinned.checked.prog.unfollowed 4)) = true := by kernel_rfl
theorem convSelf_fact11 : ((Rows.convSelfRow.recurses == Tryz.pinned.checked.prog.recurses 4)) = true := by kernel_rfl
theorem convSelf_fact12 : ((Rows.convSelfRow.named == Tryz.pinned.checked.prog.varsNamed 4)) = true := by kernel_rfl
theorem convSelf_fact13 : ((Rows.convSelfRow.maps == (Tryz.f4.params.toList ++ Rows.convSelfSpec.plain.varTypes Tryz.pinned.checked.prog).any (Tryz.pinned.checked.prog.mapsRec ·))) = true := by kernel_rfl
theorem convSelf_fact14 : ((Rows.convSelfRow.ifaces == (Tryz.f4.params.toList ++ Rows.convSelfSpec.plain.varTypes Tryz.pinned.checked.prog).any (Tryz.pinned.checked.prog.ifacesRec ·))) = true := by kernel_rfl
theorem convSelf_fact15 : ((Rows.convSelfRow.mapsOut == Tryz.pinned.checked.prog.mapsAmong Tryz.f4.resultTypes.toList)) = true := by kernel_rfl
theorem convSelf_fact16 : ((Rows.convSelfRow.loops == (Tryz.f4.params.toList ++ Rows.convSelfSpec.plain.varTypes Tryz.pinned.checked.prog).any (Tryz.pinned.checked.prog.loopsFrom ·))) = true := by kernel_rfl
theorem convSelf_fact17 : ((Rows.convSelfRow.wideKeys == (Tryz.f4.params.toList ++ Rows.convSelfSpec.plain.varTypes Tryz.pinned.checked.prog ++ Tryz.f4.resultTypes.toList).any (Tryz.pinned.checked.prog.wideKeysFrom ·))) = true := by kernel_rfl
theorem convSelf_fact18 : (Rows.convSelfSpec.vars.all (Tryz.pinned.checked.prog.varReadable ·)) = true := by kernel_rfl
theorem convSelf_fact19 : (Tryz.f4.resultTypes.all (fun t => Tryz.pinned.checked.prog.readableRec t && decide (t < Tryz.pinned.checked.prog.types.size))) = true := by kernel_rfl
theorem convSelf_fact20 : ((Rows.convSelfRow.ifacesOut == Tryz.f4.resultTypes.toList.any (Tryz.pinned.checked.prog.ifacesRec ·))) = true := by kernel_rfl
theorem convSelf_fact21 : ((Rows.convSelfRow.loopsOut == Tryz.f4.resultTypes.toList.any (Tryz.pinned.checked.prog.loopsFrom ·))) = true := by kernel_rfl
theorem convSelf_fact23 : (Rows.convSelfRow.shortTexts.isNone) = true := by kernel_rfl
theorem convSelf_fact28 : ((Rows.convSelfRow.kinds == (if Rows.convSelfRow.domain.isEmpty then [] else Tryz.f4.params.toList.map fun t => match Tryz.pinned.checked.prog.underlying t with | some (.int k) => some k | _ => none))) = true := by kernel_rfl
theorem convSelf_fact29 : ((Rows.convSelfRow.pinned == Rows.convSelfRow.pinnedBy)) = true := by kernel_rfl
theorem convSelf_fact30 : ((Rows.convSelfRow.veiled == (Tryz.f4.params.toList ++ Rows.convSelfSpec.plain.varTypes Tryz.pinned.checked.prog ++ Tryz.f4.resultTypes.toList).any (Tryz.pinned.checked.prog.veiledRec ·))) = true := by kernel_rfl
theorem convSelf_fact31 : (Rows.convSelfRow.veiledFits Tryz.pinned.checked.prog Tryz.f4.params.toList (Tryz.f4.params.toList ++ Rows.convSelfSpec.plain.varTypes Tryz.pinned.checked.prog ++ Tryz.f4.resultTypes.toList)) = true := by kernel_rfl
end Go.Proofs.YtmfcobjnlabpoaaGreat
