/- NormAgain: what its row asks of the program; each by the kernel's own run. -/
import Derived.Test.YteiddempdecleaaGreatAbB6
set_option linter.unusedVariables false
set_option linter.unusedSimpArgs false
namespace Go.Proofs.YteiddempdecleaaGreat
open Go.ChangeShapes Go.WideShapes Go.ChangeAt Go.RowKit
theorem normAgain_fact0 : (Rows.normAgainRow.wf (OpenSpec.ofChange Rows.normAgainSpec)) = true := by kernel_rfl
theorem normAgain_fact3 : (Tryz.f7.params.all (Tryz.pinned.checked.prog.readableRec ·)) = true := by kernel_rfl
theorem normAgain_fact4 : (namedTie Tryz.pinned.checked.prog Rows.normAgainRow.named Rows.normAgainSpec.vars) = true := by kernel_rfl
theorem normAgain_fact5 : ((Rows.normAgainRow.stops == [])) = true := by kernel_rfl
theorem normAgain_fact7 : ((Rows.normAgainRow.knobs == [])) = true := by kernel_rfl
theorem normAgain_fact9 : ((Rows.normAgainRow.inPlace == Tryz.pinned.checked.prog.inPlace 7)) = true := by kernel_rfl
theorem normAgain_fact10 : ((Rows.normAgainRow.unfollowed == Tryz.pinned.checked.prog.unfollowed 7)) = true := by kernel_rfl
theorem normAgain_fact11 : ((Rows.normAgainRow.recurses == Tryz.pinned.checked.prog.recurses 7)) = true := by kernel_rfl
theorem normAgain_fact12 : ((Rows.normAgainRow.named == Tryz.pinned.checked.prog.varsNamed 7)) = true := by kernel_rfl
theorem normAgain_fact13 : ((Rows.normAgainRow.maps == (Tryz.f7.params.toList ++ Rows.normAgainSpec.plain.varTypes Tryz.pinned.checked.prog).any (Tryz.pinned.checked.prog.mapsRec ·))) = true := by kernel_rfl
theorem normAgain_fact14 : ((Rows.normAgainRow.ifaces == (Tryz.f7.params.toList ++ Rows.normAgainSpec.plain.varTypes Tryz.pinned.checked.prog).any (Tryz.pinned.checked.prog.ifacesRec ·))) = true := by kernel_rfl
theorem normAgain_fact15 : ((Rows.normAgainRow.mapsOut == Tryz.pinned.checked.prog.mapsAmong Tryz.f7.resultTypes.toList)) = true := by kernel_rfl
theorem normAgain_fact16 : ((Rows.normAgainRow.loops == (Tryz.f7.params.toList ++ Rows.normAgainSpec.plain.varTypes Tryz.pinned.checked.prog).any (Tryz.pinned.checked.prog.loopsFrom ·))) = true := by kernel_rfl
theorem normAgain_fact17 : ((Rows.normAgainRow.wideKeys == (Tryz.f7.params.toList ++ Rows.normAgainSpec.plain.varTypes Tryz.pinned.checked.prog ++ Tryz.f7.resultTypes.toList).any (Tryz.pinned.checked.prog.wideKeysFrom ·))) = true := by kernel_rfl
theorem normAgain_fact18 : (Rows.normAgainSpec.vars.all (Tryz.pinned.checked.prog.varReadable ·)) = true := by kernel_rfl
theorem normAgain_fact19 : (Tryz.f7.resultTypes.all (fun t => Tryz.pinned.checked.prog.readableRec t && decide (t < Tryz.pinned.checked.prog.types.size))) = true := by kernel_rfl
theorem normAgain_fact20 : ((Rows.normAgainRow.ifacesOut == Tryz.f7.resultTypes.toList.any (Tryz.pinned.checked.prog.ifacesRec ·))) = true := by kernel_rfl
theorem normAgain_fact21 : ((Rows.normAgainRow.loopsOut == Tryz.f7.resultTypes.toList.any (Tryz.pinned.checked.prog.loopsFrom ·))) = true := by kernel_rfl
theorem normAgain_fact23 : (Rows.normAgainRow.shortTexts.isNone) = true := by kernel_rfl
theorem normAgain_fact28 : ((Rows.normAgainRow.kinds == (if Rows.normAgainRow.domain.isEmpty then [] else Tryz.f7.params.toList.map fun t => match Tryz.pinned.checked.prog.underlying t with | some (.int k) => some k | _ => none))) = true := by kernel_rfl
theorem normAgain_fact29 : ((Rows.normAgainRow.pinned == Rows.normAgainRow.pinnedBy)) = true := by kernel_rfl
theorem normAgain_fact30 : ((Rows.normAgainRow.veiled == (Tryz.f7.params.toList ++ Rows.normAgainSpec.plain.varTypes Tryz.pinned.checked.prog ++ Tryz.f7.resultTypes.toList).any (Tryz.pinned.checked.prog.veiledRec ·))) = true := by kernel_rfl
theorem normAgain_fact31 : (Rows.normAgainRow.veiledFits Tryz.pinned.checked.prog Tryz.f7.params.toList (Tryz.f7.params.toList ++ Rows.normAgainSpec.plain.varTypes Tryz.pinned.checked.prog ++ Tryz.f7.resultTypes.toList)) = true := by kernel_rfl
end Go.Proofs.YteiddempdecleaaGreat
