/- InferNil: what its row asks of the program; each by the kernel's own run. -/
import Derived.Test.YtkeipljdhcbfoaaGreatAbFacts
namespace Go.Proofs.YtkeipljdhcbfoaaGreat
open Go.ChangeShapes Go.WideShapes Go.ChangeAt Go.RowKit

theorem inferNil_fact0 : (Rows.inferNilRow.wf (OpenSpec.ofChange Rows.inferNilSpec)) = true := by kernel_rfl
theorem inferNil_fact3 : (Tryz.f6.params.all (Tryz.pinned.checked.prog.readableRec ·)) = true := by kernel_rfl
theorem inferNil_fact4 : (namedTie Tryz.pinned.checked.prog Rows.inferNilRow.named Rows.inferNilSpec.vars) = true := by kernel_rfl
theorem inferNil_fact5 : ((Rows.inferNilRow.stops == [])) = true := by kernel_rfl
theorem inferNil_fact7 : ((Rows.inferNilRow.knobs == [])) = true := by kernel_rfl
theorem inferNil_fact9 : ((Rows.inferNilRow.inPlace == Tryz.pinned.checked.prog.inPlace 6)) = true := by kernel_rfl
theorem inferNil_fact10 : ((Rows.inferNilRow.unfollowed == Tryz.pinned.checked.prog.unfollowed 6)) = true := by kernel_rfl
theorem inferNil_fact11 : ((Rows.inferNilRow.recurses == Tryz.pinned.checked.prog.recurses 6)) = true := by kernel_rfl
theorem inferNil_fact12 : ((Rows.inferNilRow.named == Tryz.pinned.checked.prog.varsNamed 6)) = true := by kernel_rfl
theorem inferNil_fact13 : ((Rows.inferNilRow.maps == (Tryz.f6.params.toList ++ Rows.inferNilSpec.plain.varTypes Tryz.pinned.checked.prog).any (Tryz.pinned.checked.prog.mapsRec ·))) = true := by kernel_rfl
theorem inferNil_fact14 : ((Rows.inferNilRow.ifaces == (Tryz.f6.params.toList ++ Rows.inferNilSpec.plain.varTypes Tryz.pinned.checked.prog).any (Tryz.pinned.checked.prog.ifacesRec ·))) = true := by kernel_rfl
theorem inferNil_fact15 : ((Rows.inferNilRow.mapsOut == Tryz.pinned.checked.prog.mapsAmong Tryz.f6.resultTypes.toList)) = true := by kernel_rfl
theorem inferNil_fact16 : ((Rows.inferNilRow.loops == (Tryz.f6.params.toList ++ Rows.inferNilSpec.plain.varTypes Tryz.pinned.checked.prog).any (Tryz.pinned.checked.prog.loopsFrom ·))) = true := by kernel_rfl
theorem inferNil_fact17 : ((Rows.inferNilRow.wideKeys == (Tryz.f6.params.toList ++ Rows.inferNilSpec.plain.varTypes Tryz.pinned.checked.prog ++ Tryz.f6.resultTypes.toList).any (Tryz.pinned.checked.prog.wideKeysFrom ·))) = true := by kernel_rfl
theorem inferNil_fact18 : (Rows.inferNilSpec.vars.all (Tryz.pinned.checked.prog.varReadable ·)) = true := by kernel_rfl
theorem inferNil_fact19 : (Tryz.f6.resultTypes.all (fun t => Tryz.pinned.checked.prog.readableRec t && decide (t < Tryz.pinned.checked.prog.types.size))) = true := by kernel_rfl
theorem inferNil_fact20 : ((Rows.inferNilRow.ifacesOut == Tryz.f6.resultTypes.toList.any (Tryz.pinned.checked.prog.ifacesRec ·))) = true := by kernel_rfl
theorem inferNil_fact21 : ((Rows.inferNilRow.loopsOut == Tryz.f6.resultTypes.toList.any (Tryz.pinned.checked.prog.loopsFrom ·))) = true := by kernel_rfl
theorem inferNil_fact23 : (Rows.inferNilRow.shortTexts.isNone) = true := by kernel_rfl
theorem inferNil_fact28 : ((Rows.inferNilRow.kinds == (if Rows.inferNilRow.domain.isEmpty then [] else Tryz.f6.params.toList.map fun t => match Tryz.pinned.checked.prog.underlying t with | some (.int k) => some k | _ => none))) = true := by kernel_rfl
theorem inferNil_fact29 : ((Rows.inferNilRow.pinned == Rows.inferNilRow.pinnedBy)) = true := by kernel_rfl
theorem inferNil_fact30 : ((Rows.inferNilRow.veiled == (Tryz.f6.params.toList ++ Rows.inferNilSpec.plain.varTypes Tryz.pinned.checked.prog ++ Tryz.f6.resultTypes.toList).any (Tryz.pinned.checked.prog.veiledRec ·))) = true := by kernel_rfl
theorem inferNil_fact31 : (Rows.inferNilRow.veiledFits Tryz.pinned.checked.prog Tryz.f6.params.toList (Tryz.f6.params.toList ++ Rows.inferNilSpec.plain.varTypes Tryz.pinned.checked.prog ++ Tryz.f6.resultTypes.toList)) = true := by kernel_rfl

end Go.Proofs.YtkeipljdhcbfoaaGreat
