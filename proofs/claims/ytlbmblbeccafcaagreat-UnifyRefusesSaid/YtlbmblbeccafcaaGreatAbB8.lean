/- UnifyRefuses: what its row asks of the program; each by the kernel's own run. -/
import Derived.Test.YtlbmblbeccafcaaGreatAbB7
set_option linter.unusedVariables false
set_option linter.unusedSimpArgs false

namespace Go.Proofs.YtlbmblbeccafcaaGreat
open Go.ChangeShapes Go.WideShapes Go.ChangeAt Go.RowKit

theorem unifyRefuses_fact0 : (Rows.unifyRefusesRow.wf (OpenSpec.ofChange Rows.unifyRefusesSpec)) = true := by kernel_rfl
theorem unifyRefuses_fact3 : (Tryz.f4.params.all (Tryz.pinned.checked.prog.readableRec ·)) = true := by kernel_rfl
theorem unifyRefuses_fact4 : (namedTie Tryz.pinned.checked.prog Rows.unifyRefusesRow.named Rows.unifyRefusesSpec.vars) = true := by kernel_rfl
theorem unifyRefuses_fact5 : ((Rows.unifyRefusesRow.stops == [])) = true := by kernel_rfl
theorem unifyRefuses_fact7 : ((Rows.unifyRefusesRow.knobs == [])) = true := by kernel_rfl
theorem unifyRefuses_fact9 : ((Rows.unifyRefusesRow.inPlace == Tryz.pinned.checked.prog.inPlace 4)) = true := by kernel_rfl
theorem unifyRefuses_fact10 : ((Rows.unifyRefusesRow.unfollowed == Tryz.pinned.checked.prog.unfollowed 4)) = true := by kernel_rfl
theorem unifyRefuses_fact11 : ((Rows.unifyRefusesRow.recurses == Tryz.pinned.checked.prog.recurses 4)) = true := by kernel_rfl
theorem unifyRefuses_fact12 : ((Rows.unifyRefusesRow.named == Tryz.pinned.checked.prog.varsNamed 4)) = true := by kernel_rfl
theorem unifyRefuses_fact13 : ((Rows.unifyRefusesRow.maps == (Tryz.f4.params.toList ++ Rows.unifyRefusesSpec.plain.varTypes Tryz.pinned.checked.prog).any (Tryz.pinned.checked.prog.mapsRec ·))) = true := by kernel_rfl
theorem unifyRefuses_fact14 : ((Rows.unifyRefusesRow.ifaces == (Tryz.f4.params.toList ++ Rows.unifyRefusesSpec.plain.varTypes Tryz.pinned.checked.prog).any (Tryz.pinned.checked.prog.ifacesRec ·))) = true := by kernel_rfl
theorem unifyRefuses_fact15 : ((Rows.unifyRefusesRow.mapsOut == Tryz.pinned.checked.prog.mapsAmong Tryz.f4.resultTypes.toList)) = true := by kernel_rfl
theorem unifyRefuses_fact16 : ((Rows.unifyRefusesRow.loops == (Tryz.f4.params.toList ++ Rows.unifyRefusesSpec.plain.varTypes Tryz.pinned.checked.prog).any (Tryz.pinned.checked.prog.loopsFrom ·))) = true := by kernel_rfl
theorem unifyRefuses_fact17 : ((Rows.unifyRefusesRow.wideKeys == (Tryz.f4.params.toList ++ Rows.unifyRefusesSpec.plain.varTypes Tryz.pinned.checked.prog ++ Tryz.f4.resultTypes.toList).any (Tryz.pinned.checked.prog.wideKeysFrom ·))) = true := by kernel_rfl
theorem unifyRefuses_fact18 : (Rows.unifyRefusesSpec.vars.all (Tryz.pinned.checked.prog.varReadable ·)) = true := by kernel_rfl
theorem unifyRefuses_fact19 : (Tryz.f4.resultTypes.all (fun t => Tryz.pinned.checked.prog.readableRec t && decide (t < Tryz.pinned.checked.prog.types.size))) = true := by kernel_rfl
theorem unifyRefuses_fact20 : ((Rows.unifyRefusesRow.ifacesOut == Tryz.f4.resultTypes.toList.any (Tryz.pinned.checked.prog.ifacesRec ·))) = true := by kernel_rfl
theorem unifyRefuses_fact21 : ((Rows.unifyRefusesRow.loopsOut == Tryz.f4.resultTypes.toList.any (Tryz.pinned.checked.prog.loopsFrom ·))) = true := by kernel_rfl
theorem unifyRefuses_fact23 : (Rows.unifyRefusesRow.shortTexts.isNone) = true := by kernel_rfl
theorem unifyRefuses_fact28 : ((Rows.unifyRefusesRow.kinds == (if Rows.unifyRefusesRow.domain.isEmpty then [] else Tryz.f4.params.toList.map fun t => match Tryz.pinned.checked.prog.underlying t with | some (.int k) => some k | _ => none))) = true := by kernel_rfl
theorem unifyRefuses_fact29 : ((Rows.unifyRefusesRow.pinned == Rows.unifyRefusesRow.pinnedBy)) = true := by kernel_rfl
theorem unifyRefuses_fact30 : ((Rows.unifyRefusesRow.veiled == (Tryz.f4.params.toList ++ Rows.unifyRefusesSpec.plain.varTypes Tryz.pinned.checked.prog ++ Tryz.f4.resultTypes.toList).any (Tryz.pinned.checked.prog.veiledRec ·))) = true := by kernel_rfl
theorem unifyRefuses_fact31 : (Rows.unifyRefusesRow.veiledFits Tryz.pinned.checked.prog Tryz.f4.params.toList (Tryz.f4.params.toList ++ Rows.unifyRefusesSpec.plain.varTypes Tryz.pinned.checked.prog ++ Tryz.f4.resultTypes.toList)) = true := by kernel_rfl


end Go.Proofs.YtlbmblbeccafcaaGreat
