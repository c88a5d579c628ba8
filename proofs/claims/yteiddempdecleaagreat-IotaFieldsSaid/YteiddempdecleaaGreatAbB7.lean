/- IotaFields: what its row asks of the program; each by the kernel's own run. -/
import Derived.Test.YteiddempdecleaaGreatAbB6
set_option linter.unusedVariables false
set_option linter.unusedSimpArgs false
namespace Go.Proofs.YteiddempdecleaaGreat
open Go.ChangeShapes Go.WideShapes Go.ChangeAt Go.RowKit
theorem iotaFields_fact0 : (Rows.iotaFieldsRow.wf (OpenSpec.ofChange Rows.iotaFieldsSpec)) = true := by kernel_rfl
theorem iotaFields_fact3 : (Tryz.f3.params.all (Tryz.pinned.checked.prog.readableRec ·)) = true := by kernel_rfl
theorem iotaFields_fact4 : (namedTie Tryz.pinned.checked.prog Rows.iotaFieldsRow.named Rows.iotaFieldsSpec.vars) = true := by kernel_rfl
theorem iotaFields_fact5 : ((Rows.iotaFieldsRow.stops == [])) = true := by kernel_rfl
theorem iotaFields_fact7 : ((Rows.iotaFieldsRow.knobs == [])) = true := by kernel_rfl
theorem iotaFields_fact9 : ((Rows.iotaFieldsRow.inPlace == Tryz.pinned.checked.prog.inPlace 3)) = true := by kernel_rfl
theorem iotaFields_fact10 : ((Rows.iotaFieldsRow.unfollowed == Tryz.pinned.checked.prog.unfollowed 3)) = true := by kernel_rfl
theorem iotaFields_fact11 : ((Rows.iotaFieldsRow.recurses == Tryz.pinned.checked.prog.recurses 3)) = true := by kernel_rfl
theorem iotaFields_fact12 : ((Rows.iotaFieldsRow.named == Tryz.pinned.checked.prog.varsNamed 3)) = true := by kernel_rfl
theorem iotaFields_fact13 : ((Rows.iotaFieldsRow.maps == (Tryz.f3.params.toList ++ Rows.iotaFieldsSpec.plain.varTypes Tryz.pinned.checked.prog).any (Tryz.pinned.checked.prog.mapsRec ·))) = true := by kernel_rfl
theorem iotaFields_fact14 : ((Rows.iotaFieldsRow.ifaces == (Tryz.f3.params.toList ++ Rows.iotaFieldsSpec.plain.varTypes Tryz.pinned.checked.prog).any (Tryz.pinned.checked.prog.ifacesRec ·))) = true := by kernel_rfl
theorem iotaFields_fact15 : ((Rows.iotaFieldsRow.mapsOut == Tryz.pinned.checked.prog.mapsAmong Tryz.f3.resultTypes.toList)) = true := by kernel_rfl
theorem iotaFields_fact16 : ((Rows.iotaFieldsRow.loops == (Tryz.f3.params.toList ++ Rows.iotaFieldsSpec.plain.varTypes Tryz.pinned.checked.prog).any (Tryz.pinned.checked.prog.loopsFrom ·))) = true := by kernel_rfl
theorem iotaFields_fact17 : ((Rows.iotaFieldsRow.wideKeys == (Tryz.f3.params.toList ++ Rows.iotaFieldsSpec.plain.varTypes Tryz.pinned.checked.prog ++ Tryz.f3.resultTypes.toList).any (Tryz.pinned.checked.prog.wideKeysFrom ·))) = true := by kernel_rfl
theorem iotaFields_fact18 : (Rows.iotaFieldsSpec.vars.all (Tryz.pinned.checked.prog.varReadable ·)) = true := by kernel_rfl
theorem iotaFields_fact19 : (Tryz.f3.resultTypes.all (fun t => Tryz.pinned.checked.prog.readableRec t && decide (t < Tryz.pinned.checked.prog.types.size))) = true := by kernel_rfl
theorem iotaFields_fact20 : ((Rows.iotaFieldsRow.ifacesOut == Tryz.f3.resultTypes.toList.any (Tryz.pinned.checked.prog.ifacesRec ·))) = true := by kernel_rfl
theorem iotaFields_fact21 : ((Rows.iotaFieldsRow.loopsOut == Tryz.f3.resultTypes.toList.any (Tryz.pinned.checked.prog.loopsFrom ·))) = true := by kernel_rfl
theorem iotaFields_fact23 : (Rows.iotaFieldsRow.shortTexts.isNone) = true := by kernel_rfl
theorem iotaFields_fact28 : ((Rows.iotaFieldsRow.kinds == (if Rows.iotaFieldsRow.domain.isEmpty then [] else Tryz.f3.params.toList.map fun t => match Tryz.pinned.checked.prog.underlying t with | some (.int k) => some k | _ => none))) = true := by kernel_rfl
theorem iotaFields_fact29 : ((Rows.iotaFieldsRow.pinned == Rows.iotaFieldsRow.pinnedBy)) = true := by kernel_rfl
theorem iotaFields_fact30 : ((Rows.iotaFieldsRow.veiled == (Tryz.f3.params.toList ++ Rows.iotaFieldsSpec.plain.varTypes Tryz.pinned.checked.prog ++ Tryz.f3.resultTypes.toList).any (Tryz.pinned.checked.prog.veiledRec ·))) = true := by kernel_rfl
theorem iotaFields_fact31 : (Rows.iotaFieldsRow.veiledFits Tryz.pinned.checked.prog Tryz.f3.params.toList (Tryz.f3.params.toList ++ Rows.iotaFieldsSpec.plain.varTypes Tryz.pinned.checked.prog ++ Tryz.f3.resultTypes.toList)) = true := by kernel_rfl
end Go.Proofs.YteiddempdecleaaGreat
