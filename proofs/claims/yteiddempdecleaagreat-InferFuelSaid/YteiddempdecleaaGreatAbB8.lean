/- InferFuel: what its row asks of the program; each by the kernel's own run. -/
import Derived.Test.YteiddempdecleaaGreatAbB7
set_option linter.unusedVariables false
set_option linter.unusedSimpArgs false
namespace Go.Proofs.YteiddempdecleaaGreat
open Go.ChangeShapes Go.WideShapes Go.ChangeAt Go.RowKit
theorem inferFuel_fact0 : (Rows.inferFuelRow.wf (OpenSpec.ofChange Rows.inferFuelSpec)) = true := by kernel_rfl
theorem inferFuel_fact3 : (Tryz.f12.params.all (Tryz.pinned.checked.prog.readableRec ·)) = true := by kernel_rfl
theorem inferFuel_fact4 : (namedTie Tryz.pinned.checked.prog Rows.inferFuelRow.named Rows.inferFuelSpec.vars) = true := by kernel_rfl
theorem inferFuel_fact5 : ((Rows.inferFuelRow.stops == [])) = true := by kernel_rfl
theorem inferFuel_fact7 : ((Rows.inferFuelRow.knobs == [])) = true := by kernel_rfl
theorem inferFuel_fact9 : ((Rows.inferFuelRow.inPlace == Tryz.pinned.checked.prog.inPlace 12)) = true := by kernel_rfl
theorem inferFuel_fact10 : ((Rows.inferFuelRow.unfollowed == Tryz.pinned.checked.prog.unfollowed 12)) = true := by kernel_rfl
theorem inferFuel_fact11 : ((Rows.inferFuelRow.recurses == Tryz.pinned.checked.prog.recurses 12)) = true := by kernel_rfl
theorem inferFuel_fact12 : ((Rows.inferFuelRow.named == Tryz.pinned.checked.prog.varsNamed 12)) = true := by kernel_rfl
theorem inferFuel_fact13 : ((Rows.inferFuelRow.maps == (Tryz.f12.params.toList ++ Rows.inferFuelSpec.plain.varTypes Tryz.pinned.checked.prog).any (Tryz.pinned.checked.prog.mapsRec ·))) = true := by kernel_rfl
theorem inferFuel_fact14 : ((Rows.inferFuelRow.ifaces == (Tryz.f12.params.toList ++ Rows.inferFuelSpec.plain.varTypes Tryz.pinned.checked.prog).any (Tryz.pinned.checked.prog.ifacesRec ·))) = true := by kernel_rfl
theorem inferFuel_fact15 : ((Rows.inferFuelRow.mapsOut == Tryz.pinned.checked.prog.mapsAmong Tryz.f12.resultTypes.toList)) = true := by kernel_rfl
theorem inferFuel_fact16 : ((Rows.inferFuelRow.loops == (Tryz.f12.params.toList ++ Rows.inferFuelSpec.plain.varTypes Tryz.pinned.checked.prog).any (Tryz.pinned.checked.prog.loopsFrom ·))) = true := by kernel_rfl
theorem inferFuel_fact17 : ((Rows.inferFuelRow.wideKeys == (Tryz.f12.params.toList ++ Rows.inferFuelSpec.plain.varTypes Tryz.pinned.checked.prog ++ Tryz.f12.resultTypes.toList).any (Tryz.pinned.checked.prog.wideKeysFrom ·))) = true := by kernel_rfl
theorem inferFuel_fact18 : (Rows.inferFuelSpec.vars.all (Tryz.pinned.checked.prog.varReadable ·)) = true := by kernel_rfl
theorem inferFuel_fact19 : (Tryz.f12.resultTypes.all (fun t => Tryz.pinned.checked.prog.readableRec t && decide (t < Tryz.pinned.checked.prog.types.size))) = true := by kernel_rfl
theorem inferFuel_fact20 : ((Rows.inferFuelRow.ifacesOut == Tryz.f12.resultTypes.toList.any (Tryz.pinned.checked.prog.ifacesRec ·))) = true := by kernel_rfl
theorem inferFuel_fact21 : ((Rows.inferFuelRow.loopsOut == Tryz.f12.resultTypes.toList.any (Tryz.pinned.checked.prog.loopsFrom ·))) = true := by kernel_rfl
theorem inferFuel_fact23 : (Rows.inferFuelRow.shortTexts.isNone) = true := by kernel_rfl
theorem inferFuel_fact28 : ((Rows.inferFuelRow.kinds == (if Rows.inferFuelRow.domain.isEmpty then [] else Tryz.f12.params.toList.map fun t => match Tryz.pinned.checked.prog.underlying t with | some (.int k) => some k | _ => none))) = true := by kernel_rfl
theorem inferFuel_fact29 : ((Rows.inferFuelRow.pinned == Rows.inferFuelRow.pinnedBy)) = true := by kernel_rfl
theorem inferFuel_fact30 : ((Rows.inferFuelRow.veiled == (Tryz.f12.params.toList ++ Rows.inferFuelSpec.plain.varTypes Tryz.pinned.checked.prog ++ Tryz.f12.resultTypes.toList).any (Tryz.pinned.checked.prog.veiledRec ·))) = true := by kernel_rfl
theorem inferFuel_fact31 : (Rows.inferFuelRow.veiledFits Tryz.pinned.checked.prog Tryz.f12.params.toList (Tryz.f12.params.toList ++ Rows.inferFuelSpec.plain.varTypes Tryz.pinned.checked.prog ++ Tryz.f12.resultTypes.toList)) = true := by kernel_rfl
end Go.Proofs.YteiddempdecleaaGreat
