/- NormNil: what its row asks of the program; each by the kernel's own run. -/
import Derived.Test.YtkeipljdhcbfoaaGreatAbFacts
namespace Go.Proofs.YtkeipljdhcbfoaaGreat
open Go.ChangeShapes Go.WideShapes Go.ChangeAt Go.RowKit

theorem normNil_fact0 : (Rows.normNilRow.wf (OpenSpec.ofChange Rows.normNilSpec)) = true := by kernel_rfl
theorem normNil_fact3 : (Tryz.f4.params.all (Tryz.pinned.checked.prog.readableRec ·)) = true := by kernel_rfl
theorem normNil_fact4 : (namedTie Tryz.pinned.checked.prog Rows.normNilRow.named Rows.normNilSpec.vars) = true := by kernel_rfl
theorem normNil_fact5 : ((Rows.normNilRow.stops == [])) = true := by kernel_rfl
theorem normNil_fact7 : ((Rows.normNilRow.knobs == [])) = true := by kernel_rfl
theorem normNil_fact9 : ((Rows.normNilRow.inPlace == Tryz.pinned.checked.prog.inPlace 4)) = true := by kernel_rfl
theorem normNil_fact10 : ((Rows.normNilRow.unfollowed == Tryz.pinned.checked.prog.unfollowed 4)) = true := by kernel_rfl
theorem normNil_fact11 : ((Rows.normNilRow.recurses == Tryz.pinned.checked.prog.recurses 4)) = true := by kernel_rfl
theorem normNil_fact12 : ((Rows.normNilRow.named == Tryz.pinned.checked.prog.varsNamed 4)) = true := by kernel_rfl
theorem normNil_fact13 : ((Rows.normNilRow.maps == (Tryz.f4.params.toList ++ Rows.normNilSpec.plain.varTypes Tryz.pinned.checked.prog).any (Tryz.pinned.checked.prog.mapsRec ·))) = true := by kernel_rfl
theorem normNil_fact14 : ((Rows.normNilRow.ifaces == (Tryz.f4.params.toList ++ Rows.normNilSpec.plain.varTypes Tryz.pinned.checked.prog).any (Tryz.pinned.checked.prog.ifacesRec ·))) = true := by kernel_rfl
theorem normNil_fact15 : ((Rows.normNilRow.mapsOut == Tryz.pinned.checked.prog.mapsAmong Tryz.f4.resultTypes.toList)) = true := by kernel_rfl
theorem normNil_fact16 : ((Rows.normNilRow.loops == (Tryz.f4.params.toList ++ Rows.normNilSpec.plain.varTypes Tryz.pinned.checked.prog).any (Tryz.pinned.checked.prog.loopsFrom ·))) = true := by kernel_rfl
theorem normNil_fact17 : ((Rows.normNilRow.wideKeys == (Tryz.f4.params.toList ++ Rows.normNilSpec.plain.varTypes Tryz.pinned.checked.prog ++ Tryz.f4.resultTypes.toList).any (Tryz.pinned.checked.prog.wideKeysFrom ·))) = true := by kernel_rfl
theorem normNil_fact18 : (Rows.normNilSpec.vars.all (Tryz.pinned.checked.prog.varReadable ·)) = true := by kernel_rfl
theorem normNil_fact19 : (Tryz.f4.resultTypes.all (fun t => Tryz.pinned.checked.prog.readableRec t && decide (t < Tryz.pinned.checked.prog.types.size))) = true := by kernel_rfl
theorem normNil_fact20 : ((Rows.normNilRow.ifacesOut == Tryz.f4.resultTypes.toList.any (Tryz.pinned.checked.prog.ifacesRec ·))) = true := by kernel_rfl
theorem normNil_fact21 : ((Rows.normNilRow.loopsOut == Tryz.f4.resultTypes.toList.any (Tryz.pinned.checked.prog.loopsFrom ·))) = true := by kernel_rfl
theorem normNil_fact23 : (Rows.normNilRow.shortTexts.isNone) = true := by kernel_rfl
theorem normNil_fact28 : ((Rows.normNilRow.kinds == (if Rows.normNilRow.domain.isEmpty then [] else Tryz.f4.params.toList.map fun t => match Tryz.pinned.checked.prog.underlying t with | some (.int k) => some k | _ => none))) = true := by kernel_rfl
theorem normNil_fact29 : ((Rows.normNilRow.pinned == Rows.normNilRow.pinnedBy)) = true := by kernel_rfl
theorem normNil_fact30 : ((Rows.normNilRow.veiled == (Tryz.f4.params.toList ++ Rows.normNilSpec.plain.varTypes Tryz.pinned.checked.prog ++ Tryz.f4.resultTypes.toList).any (Tryz.pinned.checked.prog.veiledRec ·))) = true := by kernel_rfl
theorem normNil_fact31 : (Rows.normNilRow.veiledFits Tryz.pinned.checked.prog Tryz.f4.params.toList (Tryz.f4.params.toList ++ Rows.normNilSpec.plain.varTypes Tryz.pinned.checked.prog ++ Tryz.f4.resultTypes.toList)) = true := by kernel_rfl

end Go.Proofs.YtkeipljdhcbfoaaGreat
