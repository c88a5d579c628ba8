/- ConvTurned: what its row asks of the program; each by the kernel's own run. -/
import Derived.Test.YtmfcobjnlabpoaaGreatAbB6
set_option linter.unusedVariables false
set_option linter.unusedSimpArgs false
namespace Go.Proofs.YtmfcobjnlabpoaaGreat
open Go.ChangeShapes Go.WideShapes Go.ChangeAt Go.RowKit
theorem convTurned_fact0 : (Rows.convTurnedRow.wf (OpenSpec.ofChange Rows.convTurnedSpec)) = true := by kernel_rfl
theorem convTurned_fact3 : (Tryz.f3.params.all (Tryz.pinned.checked.prog.readableRec ·)) = true := by kernel_rfl
theorem convTurned_fact4 : (namedTie Tryz.pinned.checked.prog Rows.convTurnedRow.named Rows.convTurnedSpec.vars) = true := by kernel_rfl
theorem convTurned_fact5 : ((Rows.convTurnedRow.stops == [])) = true := by kernel_rfl
theorem convTurned_fact7 : ((Rows.convTurnedRow.knobs == [])) = true := by kernel_rfl
theorem convTurned_fact9 : ((Rows.convTurnedRow.inPlace == Tryz.pinned.checked.prog.inPlace 3)) = true := by kernel_rfl
theorem convTurned_fact10 : ((Rows.convTurnedRow.unfollowed == Tryz.pinned.checked.prog.unfollowed 3)) = true := by kernel_rfl
theorem convTurned_fact11 : ((Rows.convTurnedRow.recurses == Tryz.pinned.checked.prog.recurses 3)) = true := by kernel_rfl
theorem convTurned_fact12 : ((Rows.convTurnedRow.named == Tryz.pinned.checked.prog.varsNamed 3)) = true := by kernel_rfl
theorem convTurned_fact13 : ((Rows.convTurnedRow.maps == (Tryz.f3.params.toList ++ Rows.convTurnedSpec.plain.varTypes Tryz.pinned.checked.prog).any (Tryz.pinned.checked.prog.mapsRec ·))) = true := by kernel_rfl
theorem convTurned_fact14 : ((Rows.convTurnedRow.ifaces == (Tryz.f3.params.toList ++ Rows.convTurnedSpec.plain.varTypes Tryz.pinned.checked.prog).any (Tryz.pinned.checked.prog.ifacesRec ·))) = true := by kernel_rfl
theorem convTurned_fact15 : ((Rows.convTurnedRow.mapsOut == Tryz.pinned.checked.prog.mapsAmong Tryz.f3.resultTypes.toList)) = true := by kernel_rfl
theorem convTurned_fact16 : ((Rows.convTurnedRow.loops == (Tryz.f3.params.toList ++ Rows.convTurnedSpec.plain.varTypes Tryz.pinned.checked.prog).any (Tryz.pinned.checked.prog.loopsFrom ·))) = true := by kernel_rfl
theorem convTurned_fact17 : ((Rows.convTurnedRow.wideKeys == (Tryz.f3.params.toList ++ Rows.convTurnedSpec.plain.varTypes Tryz.pinned.checked.prog ++ Tryz.f3.resultTypes.toList).any (Tryz.pinned.checked.prog.wideKeysFrom ·))) = true := by kernel_rfl
theorem convTurned_fact18 : (Rows.convTurnedSpec.vars.all (Tryz.pinned.checked.prog.varReadable ·)) = true := by kernel_rfl
theorem convTurned_fact19 : (Tryz.f3.resultTypes.all (fun t => Tryz.pinned.checked.prog.readableRec t && decide (t < Tryz.pinned.checked.prog.types.size))) = true := by kernel_rfl
theorem convTurned_fact20 : ((Rows.convTurnedRow.ifacesOut == Tryz.f3.resultTypes.toList.any (Tryz.pinned.checked.prog.ifacesRec ·))) = true := by kernel_rfl
theorem convTurned_fact21 : ((Rows.convTurnedRow.loopsOut == Tryz.f3.resultTypes.toList.any (Tryz.pinned.checked.prog.loopsFrom ·))) = true := by kernel_rfl
theorem convTurned_fact23 : (Rows.convTurnedRow.shortTexts.isNone) = true := by kernel_rfl
theorem convTurned_fact28 : ((Rows.convTurnedRow.kinds == (if Rows.convTurnedRow.domain.isEmpty then [] else Tryz.f3.params.toList.map fun t => match Tryz.pinned.checked.prog.underlying t with | some (.int k) => some k | _ => none))) = true := by kernel_rfl
theorem convTurned_fact29 : ((Rows.convTurnedRow.pinned == Rows.convTurnedRow.pinnedBy)) = true := by kernel_rfl
theorem convTurned_fact30 : ((Rows.convTurnedRow.veiled == (Tryz.f3.params.toList ++ Rows.convTurnedSpec.plain.varTypes Tryz.pinned.checked.prog ++ Tryz.f3.resultTypes.toList).any (Tryz.pinned.checked.prog.veiledRec ·))) = true := by kernel_rfl
theorem convTurned_fact31 : (Rows.convTurnedRow.veiledFits Tryz.pinned.checked.prog Tryz.f3.params.toList (Tryz.f3.params.toList ++ Rows.convTurnedSpec.plain.varTypes Tryz.pinned.checked.prog ++ Tryz.f3.resultTypes.toList)) = true := by kernel_rfl
end Go.Proofs.YtmfcobjnlabpoaaGreat
