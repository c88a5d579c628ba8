/- WhnfFuel: what its row asks of the program; each by the kernel's own run. -/
import Derived.Test.YteiddempdecleaaGreatAbB7
set_option linter.unusedVariables false
set_option linter.unusedSimpArgs false

namespace Go.Proofs.YteiddempdecleaaGreat
open Go.ChangeShapes Go.WideShapes Go.ChangeAt Go.RowKit

theorem whnfFuel_fact0 : (Rows.whnfFuelRow.wf (OpenSpec.ofChange Rows.whnfFuelSpec)) = true := by kernel_rfl
theorem whnfFuel_fact3 : (Tryz.f4.params.all (Tryz.pinned.checked.prog.readableRec ·)) = true := by kernel_rfl
theorem whnfFuel_fact4 : (namedTie Tryz.pinned.checked.prog Rows.whnfFuelRow.named Rows.whnfFuelSpec.vars) = true := by kernel_rfl
theorem whnfFuel_fact5 : ((Rows.whnfFuelRow.stops == [])) = true := by kernel_rfl
theorem whnfFuel_fact7 : ((Rows.whnfFuelRow.knobs == [])) = true := by kernel_rfl
theorem whnfFuel_fact9 : ((Rows.whnfFuelRow.inPlace == Tryz.pinned.checked.prog.inPlace 4)) = true := by kernel_rfl
theorem whnfFuel_fact10 : ((Rows.whnfFuelRow.unfollowed == Tryz.pinned.checked.prog.unfollowed 4)) = true := by kernel_rfl
theorem whnfFuel_fact11 : ((Rows.whnfFuelRow.recurses == Tryz.pinned.checked.prog.recurses 4)) = true := by kernel_rfl
theorem whnfFuel_fact12 : ((Rows.whnfFuelRow.named == Tryz.pinned.checked.prog.varsNamed 4)) = true := by kernel_rfl
theorem whnfFuel_fact13 : ((Rows.whnfFuelRow.maps == (Tryz.f4.params.toList ++ Rows.whnfFuelSpec.plain.varTypes Tryz.pinned.checked.prog).any (Tryz.pinned.checked.prog.mapsRec ·))) = true := by kernel_rfl
theorem whnfFuel_fact14 : ((Rows.whnfFuelRow.ifaces == (Tryz.f4.params.toList ++ Rows.whnfFuelSpec.plain.varTypes Tryz.pinned.checked.prog).any (Tryz.pinned.checked.prog.ifacesRec ·))) = true := by kernel_rfl
theorem whnfFuel_fact15 : ((Rows.whnfFuelRow.mapsOut == Tryz.pinned.checked.prog.mapsAmong Tryz.f4.resultTypes.toList)) = true := by kernel_rfl
theorem whnfFuel_fact16 : ((Rows.whnfFuelRow.loops == (Tryz.f4.params.toList ++ Rows.whnfFuelSpec.plain.varTypes Tryz.pinned.checked.prog).any (Tryz.pinned.checked.prog.loopsFrom ·))) = true := by kernel_rfl
theorem whnfFuel_fact17 : ((Rows.whnfFuelRow.wideKeys == (Tryz.f4.params.toList ++ Rows.whnfFuelSpec.plain.varTypes Tryz.pinned.checked.prog ++ Tryz.f4.resultTypes.toList).any (Tryz.pinned.checked.prog.wideKeysFrom ·))) = true := by kernel_rfl
theorem whnfFuel_fact18 : (Rows.whnfFuelSpec.vars.all (Tryz.pinned.checked.prog.varReadable ·)) = true := by kernel_rfl
theorem whnfFuel_fact19 : (Tryz.f4.resultTypes.all (fun t => Tryz.pinned.checked.prog.readableRec t && decide (t < Tryz.pinned.checked.prog.types.size))) = true := by kernel_rfl
theorem whnfFuel_fact20 : ((Rows.whnfFuelRow.ifacesOut == Tryz.f4.resultTypes.toList.any (Tryz.pinned.checked.prog.ifacesRec ·))) = true := by kernel_rfl
theorem whnfFuel_fact21 : ((Rows.whnfFuelRow.loopsOut == Tryz.f4.resultTypes.toList.any (Tryz.pinned.checked.prog.loopsFrom ·))) = true := by kernel_rfl
theorem whnfFuel_fact23 : (Rows.whnfFuelRow.shortTexts.isNone) = true := by kernel_rfl
theorem whnfFuel_fact28 : ((Rows.whnfFuelRow.kinds == (if Rows.whnfFuelRow.domain.isEmpty then [] else Tryz.f4.params.toList.map fun t => match Tryz.pinned.checked.prog.underlying t with | some (.int k) => some k | _ => none))) = true := by kernel_rfl
theorem whnfFuel_fact29 : ((Rows.whnfFuelRow.pinned == Rows.whnfFuelRow.pinnedBy)) = true := by kernel_rfl
theorem whnfFuel_fact30 : ((Rows.whnfFuelRow.veiled == (Tryz.f4.params.toList ++ Rows.whnfFuelSpec.plain.varTypes Tryz.pinned.checked.prog ++ Tryz.f4.resultTypes.toList).any (Tryz.pinned.checked.prog.veiledRec ·))) = true := by kernel_rfl
theorem whnfFuel_fact31 : (Rows.whnfFuelRow.veiledFits Tryz.pinned.checked.prog Tryz.f4.params.toList (Tryz.f4.params.toList ++ Rows.whnfFuelSpec.plain.varTypes Tryz.pinned.checked.prog ++ Tryz.f4.resultTypes.toList)) = true := by kernel_rfl


end Go.Proofs.YteiddempdecleaaGreat
