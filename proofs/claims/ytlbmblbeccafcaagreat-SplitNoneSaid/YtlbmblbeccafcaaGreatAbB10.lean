/- SplitNone: what its row asks of the program; each by the kernel's own run. -/
import Derived.Test.YtlbmblbeccafcaaGreatAbB9
set_option linter.unusedVariables false
set_option linter.unusedSimpArgs false

namespace Go.Proofs.YtlbmblbeccafcaaGreat
open Go.ChangeShapes Go.WideShapes Go.ChangeAt Go.RowKit

theorem splitNone_fact0 : (Rows.splitNoneRow.wf (OpenSpec.ofChange Rows.splitNoneSpec)) = true := by kernel_rfl
theorem splitNone_fact3 : (Tryz.f5.params.all (Tryz.pinned.checked.prog.readableRec ·)) = true := by kernel_rfl
theorem splitNone_fact4 : (namedTie Tryz.pinned.checked.prog Rows.splitNoneRow.named Rows.splitNoneSpec.vars) = true := by kernel_rfl
theorem splitNone_fact5 : ((Rows.splitNoneRow.stops == [])) = true := by kernel_rfl
theorem splitNone_fact7 : ((Rows.splitNoneRow.knobs == [])) = true := by kernel_rfl
theorem splitNone_fact9 : ((Rows.splitNoneRow.inPlace == Tryz.pinned.checked.prog.inPlace 5)) = true := by kernel_rfl
theorem splitNone_fact10 : ((Rows.splitNoneRow.unfollowed == Tryz.pinned.checked.prog.unfollowed 5)) = true := by kernel_rfl
theorem splitNone_fact11 : ((Rows.splitNoneRow.recurses == Tryz.pinned.checked.prog.recurses 5)) = true := by kernel_rfl
theorem splitNone_fact12 : ((Rows.splitNoneRow.named == Tryz.pinned.checked.prog.varsNamed 5)) = true := by kernel_rfl
theorem splitNone_fact13 : ((Rows.splitNoneRow.maps == (Tryz.f5.params.toList ++ Rows.splitNoneSpec.plain.varTypes Tryz.pinned.checked.prog).any (Tryz.pinned.checked.prog.mapsRec ·))) = true := by kernel_rfl
theorem splitNone_fact14 : ((Rows.splitNoneRow.ifaces == (Tryz.f5.params.toList ++ Rows.splitNoneSpec.plain.varTypes Tryz.pinned.checked.prog).any (Tryz.pinned.checked.prog.ifacesRec ·))) = true := by kernel_rfl
theorem splitNone_fact15 : ((Rows.splitNoneRow.mapsOut == Tryz.pinned.checked.prog.mapsAmong Tryz.f5.resultTypes.toList)) = true := by kernel_rfl
theorem splitNone_fact16 : ((Rows.splitNoneRow.loops == (Tryz.f5.params.toList ++ Rows.splitNoneSpec.plain.varTypes Tryz.pinned.checked.prog).any (Tryz.pinned.checked.prog.loopsFrom ·))) = true := by kernel_rfl
theorem splitNone_fact17 : ((Rows.splitNoneRow.wideKeys == (Tryz.f5.params.toList ++ Rows.splitNoneSpec.plain.varTypes Tryz.pinned.checked.prog ++ Tryz.f5.resultTypes.toList).any (Tryz.pinned.checked.prog.wideKeysFrom ·))) = true := by kernel_rfl
theorem splitNone_fact18 : (Rows.splitNoneSpec.vars.all (Tryz.pinned.checked.prog.varReadable ·)) = true := by kernel_rfl
theorem splitNone_fact19 : (Tryz.f5.resultTypes.all (fun t => Tryz.pinned.checked.prog.readableRec t && decide (t < Tryz.pinned.checked.prog.types.size))) = true := by kernel_rfl
theorem splitNone_fact20 : ((Rows.splitNoneRow.ifacesOut == Tryz.f5.resultTypes.toList.any (Tryz.pinned.checked.prog.ifacesRec ·))) = true := by kernel_rfl
theorem splitNone_fact21 : ((Rows.splitNoneRow.loopsOut == Tryz.f5.resultTypes.toList.any (Tryz.pinned.checked.prog.loopsFrom ·))) = true := by kernel_rfl
theorem splitNone_fact23 : (Rows.splitNoneRow.shortTexts.isNone) = true := by kernel_rfl
theorem splitNone_fact28 : ((Rows.splitNoneRow.kinds == (if Rows.splitNoneRow.domain.isEmpty then [] else Tryz.f5.params.toList.map fun t => match Tryz.pinned.checked.prog.underlying t with | some (.int k) => some k | _ => none))) = true := by kernel_rfl
theorem splitNone_fact29 : ((Rows.splitNoneRow.pinned == Rows.splitNoneRow.pinnedBy)) = true := by kernel_rfl
theorem splitNone_fact30 : ((Rows.splitNoneRow.veiled == (Tryz.f5.params.toList ++ Rows.splitNoneSpec.plain.varTypes Tryz.pinned.checked.prog ++ Tryz.f5.resultTypes.toList).any (Tryz.pinned.checked.prog.veiledRec ·))) = true := by kernel_rfl
theorem splitNone_fact31 : (Rows.splitNoneRow.veiledFits Tryz.pinned.checked.prog Tryz.f5.params.toList (Tryz.f5.params.toList ++ Rows.splitNoneSpec.plain.varTypes Tryz.pinned.checked.prog ++ Tryz.f5.resultTypes.toList)) = true := by kernel_rfl


end Go.Proofs.YtlbmblbeccafcaaGreat
