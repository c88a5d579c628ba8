/- WhnfNil: what its row asks of the program; each by the kernel's own run. -/
import Derived.Test.YtkeipljdhcbfoaaGreatAbFacts
namespace Go.Proofs.YtkeipljdhcbfoaaGreat
open Go.ChangeShapes Go.WideShapes Go.ChangeAt Go.RowKit

theorem whnfNil_fact0 : (Rows.whnfNilRow.wf (OpenSpec.ofChange Rows.whnfNilSpec)) = true := by kernel_rfl
theorem whnfNil_fact3 : (Tryz.f3.params.all (Tryz.pinned.checked.prog.readableRec ·)) = true := by kernel_rfl
theorem whnfNil_fact4 : (namedTie Tryz.pinned.checked.prog Rows.whnfNilRow.named Rows.whnfNilSpec.vars) = true := by kernel_rfl
theorem whnfNil_fact5 : ((Rows.whnfNilRow.stops == [])) = true := by kernel_rfl
theorem whnfNil_fact7 : ((Rows.whnfNilRow.knobs == [])) = true := by kernel_rfl
theorem whnfNil_fact9 : ((Rows.whnfNilRow.inPlace == Tryz.pinned.checked.prog.inPlace 3)) = true := by kernel_rfl
theorem whnfNil_fact10 : ((Rows.whnfNilRow.unfollowed == Tryz.pinned.checked.prog.unfollowed 3)) = true := by kernel_rfl
theorem whnfNil_fact11 : ((Rows.whnfNilRow.recurses == Tryz.pinned.checked.prog.recurses 3)) = true := by kernel_rfl
theorem whnfNil_fact12 : ((Rows.whnfNilRow.named == Tryz.pinned.checked.prog.varsNamed 3)) = true := by kernel_rfl
theorem whnfNil_fact13 : ((Rows.whnfNilRow.maps == (Tryz.f3.params.toList ++ Rows.whnfNilSpec.plain.varTypes Tryz.pinned.checked.prog).any (Tryz.pinned.checked.prog.mapsRec ·))) = true := by kernel_rfl
theorem whnfNil_fact14 : ((Rows.whnfNilRow.ifaces == (Tryz.f3.params.toList ++ Rows.whnfNilSpec.plain.varTypes Tryz.pinned.checked.prog).any (Tryz.pinned.checked.prog.ifacesRec ·))) = true := by kernel_rfl
theorem whnfNil_fact15 : ((Rows.whnfNilRow.mapsOut == Tryz.pinned.checked.prog.mapsAmong Tryz.f3.resultTypes.toList)) = true := by kernel_rfl
theorem whnfNil_fact16 : ((Rows.whnfNilRow.loops == (Tryz.f3.params.toList ++ Rows.whnfNilSpec.plain.varTypes Tryz.pinned.checked.prog).any (Tryz.pinned.checked.prog.loopsFrom ·))) = true := by kernel_rfl
theorem whnfNil_fact17 : ((Rows.whnfNilRow.wideKeys == (Tryz.f3.params.toList ++ Rows.whnfNilSpec.plain.varTypes Tryz.pinned.checked.prog ++ Tryz.f3.resultTypes.toList).any (Tryz.pinned.checked.prog.wideKeysFrom ·))) = true := by kernel_rfl
theorem whnfNil_fact18 : (Rows.whnfNilSpec.vars.all (Tryz.pinned.checked.prog.varReadable ·)) = true := by kernel_rfl
theorem whnfNil_fact19 : (Tryz.f3.resultTypes.all (fun t => Tryz.pinned.checked.prog.readableRec t && decide (t < Tryz.pinned.checked.prog.types.size))) = true := by kernel_rfl
theorem whnfNil_fact20 : ((Rows.whnfNilRow.ifacesOut == Tryz.f3.resultTypes.toList.any (Tryz.pinned.checked.prog.ifacesRec ·))) = true := by kernel_rfl
theorem whnfNil_fact21 : ((Rows.whnfNilRow.loopsOut == Tryz.f3.resultTypes.toList.any (Tryz.pinned.checked.prog.loopsFrom ·))) = true := by kernel_rfl
theorem whnfNil_fact23 : (Rows.whnfNilRow.shortTexts.isNone) = true := by kernel_rfl
theorem whnfNil_fact28 : ((Rows.whnfNilRow.kinds == (if Rows.whnfNilRow.domain.isEmpty then [] else Tryz.f3.params.toList.map fun t => match Tryz.pinned.checked.prog.underlying t with | some (.int k) => some k | _ => none))) = true := by kernel_rfl
theorem whnfNil_fact29 : ((Rows.whnfNilRow.pinned == Rows.whnfNilRow.pinnedBy)) = true := by kernel_rfl
theorem whnfNil_fact30 : ((Rows.whnfNilRow.veiled == (Tryz.f3.params.toList ++ Rows.whnfNilSpec.plain.varTypes Tryz.pinned.checked.prog ++ Tryz.f3.resultTypes.toList).any (Tryz.pinned.checked.prog.veiledRec ·))) = true := by kernel_rfl
theorem whnfNil_fact31 : (Rows.whnfNilRow.veiledFits Tryz.pinned.checked.prog Tryz.f3.params.toList (Tryz.f3.params.toList ++ Rows.whnfNilSpec.plain.varTypes Tryz.pinned.checked.prog ++ Tryz.f3.resultTypes.toList)) = true := by kernel_rfl

end Go.Proofs.YtkeipljdhcbfoaaGreat
