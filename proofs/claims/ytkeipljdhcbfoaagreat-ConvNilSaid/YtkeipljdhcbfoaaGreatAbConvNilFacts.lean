/- ConvNil: what its row asks of the program; each by the kernel's own run. -/
import Derived.Test.YtkeipljdhcbfoaaGreatAbFacts
namespace Go.Proofs.YtkeipljdhcbfoaaGreat
open Go.ChangeShapes Go.WideShapes Go.ChangeAt Go.RowKit

theorem convNil_fact0 : (Rows.convNilRow.wf (OpenSpec.ofChange Rows.convNilSpec)) = true := by kernel_rfl
theorem convNil_fact3 : (Tryz.f5.params.all (Tryz.pinned.checked.prog.readableRec ·)) = true := by kernel_rfl
theorem convNil_fact4 : (namedTie Tryz.pinned.checked.prog Rows.convNilRow.named Rows.convNilSpec.vars) = true := by kernel_rfl
theorem convNil_fact5 : ((Rows.convNilRow.stops == [])) = true := by kernel_rfl
theorem convNil_fact7 : ((Rows.convNilRow.knobs == [])) = true := by kernel_rfl
theorem convNil_fact9 : ((Rows.convNilRow.inPlace == Tryz.pinned.checked.prog.inPlace 5)) = true := by kernel_rfl
theorem convNil_fact10 : ((Rows.convNilRow.unfollowed == Tryz.pinned.checked.prog.unfollowed 5)) = true := by kernel_rfl
theorem convNil_fact11 : ((Rows.convNilRow.recurses == Tryz.pinned.checked.prog.recurses 5)) = true := by kernel_rfl
theorem convNil_fact12 : ((Rows.convNilRow.named == Tryz.pinned.checked.prog.varsNamed 5)) = true := by kernel_rfl
theorem convNil_fact13 : ((Rows.convNilRow.maps == (Tryz.f5.params.toList ++ Rows.convNilSpec.plain.varTypes Tryz.pinned.checked.prog).any (Tryz.pinned.checked.prog.mapsRec ·))) = true := by kernel_rfl
theorem convNil_fact14 : ((Rows.convNilRow.ifaces == (Tryz.f5.params.toList ++ Rows.convNilSpec.plain.varTypes Tryz.pinned.checked.prog).any (Tryz.pinned.checked.prog.ifacesRec ·))) = true := by kernel_rfl
theorem convNil_fact15 : ((Rows.convNilRow.mapsOut == Tryz.pinned.checked.prog.mapsAmong Tryz.f5.resultTypes.toList)) = true := by kernel_rfl
theorem convNil_fact16 : ((Rows.convNilRow.loops == (Tryz.f5.params.toList ++ Rows.convNilSpec.plain.varTypes Tryz.pinned.checked.prog).any (Tryz.pinned.checked.prog.loopsFrom ·))) = true := by kernel_rfl
theorem convNil_fact17 : ((Rows.convNilRow.wideKeys == (Tryz.f5.params.toList ++ Rows.convNilSpec.plain.varTypes Tryz.pinned.checked.prog ++ Tryz.f5.resultTypes.toList).any (Tryz.pinned.checked.prog.wideKeysFrom ·))) = true := by kernel_rfl
theorem convNil_fact18 : (Rows.convNilSpec.vars.all (Tryz.pinned.checked.prog.varReadable ·)) = true := by kernel_rfl
theorem convNil_fact19 : (Tryz.f5.resultTypes.all (fun t => Tryz.pinned.checked.prog.readableRec t && decide (t < Tryz.pinned.checked.prog.types.size))) = true := by kernel_rfl
theorem convNil_fact20 : ((Rows.convNilRow.ifacesOut == Tryz.f5.resultTypes.toList.any (Tryz.pinned.checked.prog.ifacesRec ·))) = true := by kernel_rfl
theorem convNil_fact21 : ((Rows.convNilRow.loopsOut == Tryz.f5.resultTypes.toList.any (Tryz.pinned.checked.prog.loopsFrom ·))) = true := by kernel_rfl
theorem convNil_fact23 : (Rows.convNilRow.shortTexts.isNone) = true := by kernel_rfl
theorem convNil_fact28 : ((Rows.convNilRow.kinds == (if Rows.convNilRow.domain.isEmpty then [] else Tryz.f5.params.toList.map fun t => match Tryz.pinned.checked.prog.underlying t with | some (.int k) => some k | _ => none))) = true := by kernel_rfl
theorem convNil_fact29 : ((Rows.convNilRow.pinned == Rows.convNilRow.pinnedBy)) = true := by kernel_rfl
theorem convNil_fact30 : ((Rows.convNilRow.veiled == (Tryz.f5.params.toList ++ Rows.convNilSpec.plain.varTypes Tryz.pinned.checked.prog ++ Tryz.f5.resultTypes.toList).any (Tryz.pinned.checked.prog.veiledRec ·))) = true := by kernel_rfl
theorem convNil_fact31 : (Rows.convNilRow.veiledFits Tryz.pinned.checked.prog Tryz.f5.params.toList (Tryz.f5.params.toList ++ Rows.convNilSpec.plain.varTypes Tryz.pinned.checked.prog ++ Tryz.f5.resultTypes.toList)) = true := by kernel_rfl

end Go.Proofs.YtkeipljdhcbfoaaGreat
