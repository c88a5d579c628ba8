/- WhnfLoose: what its row asks of the program; each by the kernel's own run. -/
import Derived.Test.YteiddempdecleaaGreatAbB6
set_option linter.unusedVariables false
set_option linter.unusedSimpArgs false
namespace Go.Proofs.YteiddempdecleaaGreat
open Go.ChangeShapes Go.WideShapes Go.ChangeAt Go.RowKit
theorem whnfLoose_fact0 : (Rows.whnfLooseRow.wf (OpenSpec.ofChange Rows.whnfLooseSpec)) = true := by kernel_rfl
theorem whnfLoose_fact3 : (Tryz.f5.params.all (Tryz.pinned.checked.prog.readableRec ·)) = true := by kernel_rfl
theorem whnfLoose_fact4 : (namedTie Tryz.pinned.checked.prog Rows.whnfLooseRow.named Rows.whnfLooseSpec.vars) = true := by kernel_rfl
theorem whnfLoose_fact5 : ((Rows.whnfLooseRow.stops == [])) = true := by kernel_rfl
theorem whnfLoose_fact7 : ((Rows.whnfLooseRow.knobs == [])) = true := by kernel_rfl
theorem whnfLoose_fact9 : ((Rows.whnfLooseRow.inPlace == Tryz.pinned.checked.prog.inPlace 5)) = true := by kernel_rfl
theorem whnfLoose_fact10 : ((Rows.whnfLooseRow.unfollowed == Tryz.pinned.checked.prog.unfollowed 5)) = true := by kernel_rfl
theorem whnfLoose_fact11 : ((Rows.whnfLooseRow.recurses == Tryz.pinned.checked.prog.recurses 5)) = true := by kernel_rfl
theorem whnfLoose_fact12 : ((Rows.whnfLooseRow.named == Tryz.pinned.checked.prog.varsNamed 5)) = true := by kernel_rfl
theorem whnfLoose_fact13 : ((Rows.whnfLooseRow.maps == (Tryz.f5.params.toList ++ Rows.whnfLooseSpec.plain.varTypes Tryz.pinned.checked.prog).any (Tryz.pinned.checked.prog.mapsRec ·))) = true := by kernel_rfl
theorem whnfLoose_fact14 : ((Rows.whnfLooseRow.ifaces == (Tryz.f5.params.toList ++ Rows.whnfLooseSpec.plain.varTypes Tryz.pinned.checked.prog).any (Tryz.pinned.checked.prog.ifacesRec ·))) = true := by kernel_rfl
theorem whnfLoose_fact15 : ((Rows.whnfLooseRow.mapsOut == Tryz.pinned.checked.prog.mapsAmong Tryz.f5.resultTypes.toList)) = true := by kernel_rfl
theorem whnfLoose_fact16 : ((Rows.whnfLooseRow.loops == (Tryz.f5.params.toList ++ Rows.whnfLooseSpec.plain.varTypes Tryz.pinned.checked.prog).any (Tryz.pinned.checked.prog.loopsFrom ·))) = true := by kernel_rfl
theorem whnfLoose_fact17 : ((Rows.whnfLooseRow.wideKeys == (Tryz.f5.params.toList ++ Rows.whnfLooseSpec.plain.varTypes Tryz.pinned.checked.prog ++ Tryz.f5.resultTypes.toList).any (Tryz.pinned.checked.prog.wideKeysFrom ·))) = true := by kernel_rfl
theorem whnfLoose_fact18 : (Rows.whnfLooseSpec.vars.all (Tryz.pinned.checked.prog.varReadable ·)) = true := by kernel_rfl
theorem whnfLoose_fact19 : (Tryz.f5.resultTypes.all (fun t => Tryz.pinned.checked.prog.readableRec t && decide (t < Tryz.pinned.checked.prog.types.size))) = true := by kernel_rfl
theorem whnfLoose_fact20 : ((Rows.whnfLooseRow.ifacesOut == Tryz.f5.resultTypes.toList.any (Tryz.pinned.checked.prog.ifacesRec ·))) = true := by kernel_rfl
theorem whnfLoose_fact21 : ((Rows.whnfLooseRow.loopsOut == Tryz.f5.resultTypes.toList.any (Tryz.pinned.checked.prog.loopsFrom ·))) = true := by kernel_rfl
theorem whnfLoose_fact23 : (Rows.whnfLooseRow.shortTexts.isNone) = true := by kernel_rfl
theorem whnfLoose_fact28 : ((Rows.whnfLooseRow.kinds == (if Rows.whnfLooseRow.domain.isEmpty then [] else Tryz.f5.params.toList.map fun t => match Tryz.pinned.checked.prog.underlying t with | some (.int k) => some k | _ => none))) = true := by kernel_rfl
theorem whnfLoose_fact29 : ((Rows.whnfLooseRow.pinned == Rows.whnfLooseRow.pinnedBy)) = true := by kernel_rfl
theorem whnfLoose_fact30 : ((Rows.whnfLooseRow.veiled == (Tryz.f5.params.toList ++ Rows.whnfLooseSpec.plain.varTypes Tryz.pinned.checked.prog ++ Tryz.f5.resultTypes.toList).any (Tryz.pinned.checked.prog.veiledRec ·))) = true := by kernel_rfl
theorem whnfLoose_fact31 : (Rows.whnfLooseRow.veiledFits Tryz.pinned.checked.prog Tryz.f5.params.toList (Tryz.f5.params.toList ++ Rows.whnfLooseSpec.plain.varTypes Tryz.pinned.checked.prog ++ Tryz.f5.resultTypes.toList)) = true := by kernel_rfl
end Go.Proofs.YteiddempdecleaaGreat
