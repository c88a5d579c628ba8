/- LeafNone: what its row asks of the program; each by the kernel's own run. -/
import Derived.Test.YtlbmblbeccafcaaGreatAbB7
set_option linter.unusedVariables false
set_option linter.unusedSimpArgs false

namespace Go.Proofs.YtlbmblbeccafcaaGreat
open Go.ChangeShapes Go.WideShapes Go.ChangeAt Go.RowKit

theorem leafNone_fact0 : (Rows.leafNoneRow.wf (OpenSpec.ofChange Rows.leafNoneSpec)) = true := by kernel_rfl
theorem leafNone_fact3 : (Tryz.f3.params.all (Tryz.pinned.checked.prog.readableRec ·)) = true := by kernel_rfl
theorem leafNone_fact4 : (namedTie Tryz.pinned.checked.prog Rows.leafNoneRow.named Rows.leafNoneSpec.vars) = true := by kernel_rfl
theorem leafNone_fact5 : ((Rows.leafNoneRow.stops == [])) = true := by kernel_rfl
theorem leafNone_fact7 : ((Rows.leafNoneRow.knobs == [])) = true := by kernel_rfl
theorem leafNone_fact9 : ((Rows.leafNoneRow.inPlace == Tryz.pinned.checked.prog.inPlace 3)) = true := by kernel_rfl
theorem leafNone_fact10 : ((Rows.leafNoneRow.unfollowed == Tryz.pinned.checked.prog.unfollowed 3)) = true := by kernel_rfl
theorem leafNone_fact11 : ((Rows.leafNoneRow.recurses == Tryz.pinned.checked.prog.recurses 3)) = true := by kernel_rfl
theorem leafNone_fact12 : ((Rows.leafNoneRow.named == Tryz.pinned.checked.prog.varsNamed 3)) = true := by kernel_rfl
theorem leafNone_fact13 : ((Rows.leafNoneRow.maps == (Tryz.f3.params.toList ++ Rows.leafNoneSpec.plain.varTypes Tryz.pinned.checked.prog).any (Tryz.pinned.checked.prog.mapsRec ·))) = true := by kernel_rfl
theorem leafNone_fact14 : ((Rows.leafNoneRow.ifaces == (Tryz.f3.params.toList ++ Rows.leafNoneSpec.plain.varTypes Tryz.pinned.checked.prog).any (Tryz.pinned.checked.prog.ifacesRec ·))) = true := by kernel_rfl
theorem leafNone_fact15 : ((Rows.leafNoneRow.mapsOut == Tryz.pinned.checked.prog.mapsAmong Tryz.f3.resultTypes.toList)) = true := by kernel_rfl
theorem leafNone_fact16 : ((Rows.leafNoneRow.loops == (Tryz.f3.params.toList ++ Rows.leafNoneSpec.plain.varTypes Tryz.pinned.checked.prog).any (Tryz.pinned.checked.prog.loopsFrom ·))) = true := by kernel_rfl
theorem leafNone_fact17 : ((Rows.leafNoneRow.wideKeys == (Tryz.f3.params.toList ++ Rows.leafNoneSpec.plain.varTypes Tryz.pinned.checked.prog ++ Tryz.f3.resultTypes.toList).any (Tryz.pinned.checked.prog.wideKeysFrom ·))) = true := by kernel_rfl
theorem leafNone_fact18 : (Rows.leafNoneSpec.vars.all (Tryz.pinned.checked.prog.varReadable ·)) = true := by kernel_rfl
theorem leafNone_fact19 : (Tryz.f3.resultTypes.all (fun t => Tryz.pinned.checked.prog.readableRec t && decide (t < Tryz.pinned.checked.prog.types.size))) = true := by kernel_rfl
theorem leafNone_fact20 : ((Rows.leafNoneRow.ifacesOut == Tryz.f3.resultTypes.toList.any (Tryz.pinned.checked.prog.ifacesRec ·))) = true := by kernel_rfl
theorem leafNone_fact21 : ((Rows.leafNoneRow.loopsOut == Tryz.f3.resultTypes.toList.any (Tryz.pinned.checked.prog.loopsFrom ·))) = true := by kernel_rfl
theorem leafNone_fact23 : (Rows.leafNoneRow.shortTexts.isNone) = true := by kernel_rfl
theorem leafNone_fact28 : ((Rows.leafNoneRow.kinds == (if Rows.leafNoneRow.domain.isEmpty then [] else Tryz.f3.params.toList.map fun t => match Tryz.pinned.checked.prog.underlying t with | some (.int k) => some k | _ => none))) = true := by kernel_rfl
theorem leafNone_fact29 : ((Rows.leafNoneRow.pinned == Rows.leafNoneRow.pinnedBy)) = true := by kernel_rfl
theorem leafNone_fact30 : ((Rows.leafNoneRow.veiled == (Tryz.f3.params.toList ++ Rows.leafNoneSpec.plain.varTypes Tryz.pinned.checked.prog ++ Tryz.f3.resultTypes.toList).any (Tryz.pinned.checked.prog.veiledRec ·))) = true := by kernel_rfl
theorem leafNone_fact31 : (Rows.leafNoneRow.veiledFits Tryz.pinned.checked.prog Tryz.f3.params.toList (Tryz.f3.params.toList ++ Rows.leafNoneSpec.plain.varTypes Tryz.pinned.checked.prog ++ Tryz.f3.resultTypes.toList)) = true := by kernel_rfl


end Go.Proofs.YtlbmblbeccafcaaGreat
