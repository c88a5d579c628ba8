/- WhnfAgain: what its row asks of the program; each by the kernel's own run. -/
import Derived.Test.YteiddempdecleaaGreatAbB6
set_option linter.unusedVariables false
set_option linter.unusedSimpArgs false
namespace Go.Proofs.YteiddempdecleaaGreat
open Go.ChangeShapes Go.WideShapes Go.ChangeAt Go.RowKit
theorem whnfAgain_fact0 : (Rows.whnfAgainRow.wf (OpenSpec.ofChange Rows.whnfAgainSpec)) = true := by kernel_rfl
theorem whnfAgain_fact3 : (Tryz.f6.params.all (Tryz.pinned.checked.prog.readableRec ·)) = true := by kernel_rfl
theorem whnfAgain_fact4 : (namedTie Tryz.pinned.checked.prog Rows.whnfAgainRow.named Rows.whnfAgainSpec.vars) = true := by kernel_rfl
theorem whnfAgain_fact5 : ((Rows.whnfAgainRow.stops == [])) = true := by kernel_rfl
theorem whnfAgain_fact7 : ((Rows.whnfAgainRow.knobs == [])) = true := by kernel_rfl
theorem whnfAgain_fact9 : ((Rows.whnfAgainRow.inPlace == Tryz.pinned.checked.prog.inPlace 6)) = true := by kernel_rfl
theorem whnfAgain_fact10 : ((Rows.whnfAgainRow.unfollowed == Tryz.pinned.checked.prog.unfollowed 6)) = true := by kernel_rfl
theorem whnfAgain_fact11 : ((Rows.whnfAgainRow.recurses == Tryz.pinned.checked.prog.recurses 6)) = true := by kernel_rfl
theorem whnfAgain_fact12 : ((Rows.whnfAgainRow.named == Tryz.pinned.checked.prog.varsNamed 6)) = true := by kernel_rfl
theorem whnfAgain_fact13 : ((Rows.whnfAgainRow.maps == (Tryz.f6.params.toList ++ Rows.whnfAgainSpec.plain.varTypes Tryz.pinned.checked.prog).any (Tryz.pinned.checked.prog.mapsRec ·))) = true := by kernel_rfl
theorem whnfAgain_fact14 : ((Rows.whnfAgainRow.ifaces == (Tryz.f6.params.toList ++ Rows.whnfAgainSpec.plain.varTypes Tryz.pinned.checked.prog).any (Tryz.pinned.checked.prog.ifacesRec ·))) = true := by kernel_rfl
theorem whnfAgain_fact15 : ((Rows.whnfAgainRow.mapsOut == Tryz.pinned.checked.prog.mapsAmong Tryz.f6.resultTypes.toList)) = true := by kernel_rfl
theorem whnfAgain_fact16 : ((Rows.whnfAgainRow.loops == (Tryz.f6.params.toList ++ Rows.whnfAgainSpec.plain.varTypes Tryz.pinned.checked.prog).any (Tryz.pinned.checked.prog.loopsFrom ·))) = true := by kernel_rfl
theorem whnfAgain_fact17 : ((Rows.whnfAgainRow.wideKeys == (Tryz.f6.params.toList ++ Rows.whnfAgainSpec.plain.varTypes Tryz.pinned.checked.prog ++ Tryz.f6.resultTypes.toList).any (Tryz.pinned.checked.prog.wideKeysFrom ·))) = true := by kernel_rfl
theorem whnfAgain_fact18 : (Rows.whnfAgainSpec.vars.all (Tryz.pinned.checked.prog.varReadable ·)) = true := by kernel_rfl
theorem whnfAgain_fact19 : (Tryz.f6.resultTypes.all (fun t => Tryz.pinned.checked.prog.readableRec t && decide (t < Tryz.pinned.checked.prog.types.size))) = true := by kernel_rfl
theorem whnfAgain_fact20 : ((Rows.whnfAgainRow.ifacesOut == Tryz.f6.resultTypes.toList.any (Tryz.pinned.checked.prog.ifacesRec ·))) = true := by kernel_rfl
theorem whnfAgain_fact21 : ((Rows.whnfAgainRow.loopsOut == Tryz.f6.resultTypes.toList.any (Tryz.pinned.checked.prog.loopsFrom ·))) = true := by kernel_rfl
theorem whnfAgain_fact23 : (Rows.whnfAgainRow.shortTexts.isNone) = true := by kernel_rfl
theorem whnfAgain_fact28 : ((Rows.whnfAgainRow.kinds == (if Rows.whnfAgainRow.domain.isEmpty then [] else Tryz.f6.params.toList.map fun t => match Tryz.pinned.checked.prog.underlying t with | some (.int k) => some k | _ => none))) = true := by kernel_rfl
theorem whnfAgain_fact29 : ((Rows.whnfAgainRow.pinned == Rows.whnfAgainRow.pinnedBy)) = true := by kernel_rfl
theorem whnfAgain_fact30 : ((Rows.whnfAgainRow.veiled == (Tryz.f6.params.toList ++ Rows.whnfAgainSpec.plain.varTypes Tryz.pinned.checked.prog ++ Tryz.f6.resultTypes.toList).any (Tryz.pinned.checked.prog.veiledRec ·))) = true := by kernel_rfl
theorem whnfAgain_fact31 : (Rows.whnfAgainRow.veiledFits Tryz.pinned.checked.prog Tryz.f6.params.toList (Tryz.f6.params.toList ++ Rows.whnfAgainSpec.plain.varTypes Tryz.pinned.checked.prog ++ Tryz.f6.resultTypes.toList)) = true := by kernel_rfl
end Go.Proofs.YteiddempdecleaaGreat
