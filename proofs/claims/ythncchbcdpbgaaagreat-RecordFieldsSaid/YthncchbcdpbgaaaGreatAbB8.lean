/- RecordFields: what its row asks of the program; each by the kernel's own run. -/
import Derived.Test.YthncchbcdpbgaaaGreatAbB7
set_option linter.unusedVariables false
set_option linter.unusedSimpArgs false
set_option linter.unusedSectionVars false
namespace Go.Proofs.YthncchbcdpbgaaaGreat
open Go.ChangeShapes Go.WideShapes Go.ChangeAt Go.RowKit
theorem A4:(Rows.recordFieldsRow.wf (OpenSpec.ofChange Rows.recordFieldsSpec))=true:=by kernel_rfl
theorem A5:(Tryz.f4.params.all (Tryz.pinned.checked.prog.readableRec ·))=true:=by kernel_rfl
theorem A6:(namedTie Tryz.pinned.checked.prog Rows.recordFieldsRow.named Rows.recordFieldsSpec.vars)=true:=by kernel_rfl
theorem A7:((Rows.recordFieldsRow.stops==[]))=true:=by kernel_rfl
theorem A8:((Rows.recordFieldsRow.knobs==[]))=true:=by kernel_rfl
theorem A9:((Rows.recordFieldsRow.inPlace==Tryz.pinned.checked.prog.inPlace 4))=true:=by kernel_rfl
theorem cL:((Rows.recordFieldsRow.unfollowed==Tryz.pinned.checked.prog.unfollowed 4))=true:=by kernel_rfl
theorem cM:((Rows.recordFieldsRow.recurses==Tryz.pinned.checked.prog.recurses 4))=true:=by kernel_rfl
theorem cO:((Rows.recordFieldsRow.named==Tryz.pinned.checked.prog.varsNamed 4))=true:=by kernel_rfl
theorem cP:((Rows.recordFieldsRow.maps==(Tryz.f4.params.toList++Rows.recordFieldsSpec.plain.varTypes Tryz.pinned.checked.prog).any (Tryz.pinned.checked.prog.mapsRec ·)))=true:=by kernel_rfl
theorem cQ:((Rows.recordFieldsRow.ifaces==(Tryz.f4.params.toList++Rows.recordFieldsSpec.plain.varTypes Tryz.pinned.checked.prog).any (Tryz.pinned.checked.prog.ifacesRec ·)))=true:=by kernel_rfl
theorem cR:((Rows.recordFieldsRow.mapsOut==Tryz.pinned.checked.prog.mapsAmong Tryz.f4.resultTypes.toList))=true:=by kernel_rfl
theorem cS:((Rows.recordFieldsRow.loops==(Tryz.f4.params.toList++Rows.recordFieldsSpec.plain.varTypes Tryz.pinned.checked.prog).any (Tryz.pinned.checked.prog.loopsFrom ·)))=true:=by kernel_rfl
theorem cT:((Rows.recordFieldsRow.wideKeys==(Tryz.f4.params.toList++Rows.recordFieldsSpec.plain.varTypes Tryz.pinned.checked.prog++Tryz.f4.resultTypes.toList).any (Tryz.pinned.checked.prog.wideKeysFrom ·)))=true:=by kernel_rfl
theorem cU:(Rows.recordFieldsSpec.vars.all (Tryz.pinned.checked.prog.varReadable ·))=true:=by kernel_rfl
theorem cV:(Tryz.f4.resultTypes.all (λt=>Tryz.pinned.checked.prog.readableRec t&&decide (t<Tryz.pinned.checked.prog.types.size)))=true:=by kernel_rfl
theorem cW:((Rows.recordFieldsRow.ifacesOut==Tryz.f4.resultTypes.toList.any (Tryz.pinned.checked.prog.ifacesRec ·)))=true:=by kernel_rfl
theorem cX:((Rows.recordFieldsRow.loopsOut==Tryz.f4.resultTypes.toList.any (Tryz.pinned.checked.prog.loopsFrom ·)))=true:=by kernel_rfl
theorem cY:(Rows.recordFieldsRow.shortTexts.isNone)=true:=by kernel_rfl
theorem cZ:((Rows.recordFieldsRow.kinds==(if Rows.recordFieldsRow.domain.isEmpty then[]else Tryz.f4.params.toList.map λt=>match Tryz.pinned.checked.prog.underlying t with|some (.int k)=>some k|_=>none)))=true:=by kernel_rfl
theorem bA:((Rows.recordFieldsRow.pinned==Rows.recordFieldsRow.pinnedBy))=true:=by kernel_rfl
theorem bB:((Rows.recordFieldsRow.veiled==(Tryz.f4.params.toList++Rows.recordFieldsSpec.plain.varTypes Tryz.pinned.checked.prog++Tryz.f4.resultTypes.toList).any (Tryz.pinned.checked.prog.veiledRec ·)))=true:=by kernel_rfl
theorem bC:(Rows.recordFieldsRow.veiledFits Tryz.pinned.checked.prog Tryz.f4.params.toList (Tryz.f4.params.toList++Rows.recordFieldsSpec.plain.varTypes Tryz.pinned.checked.prog++Tryz.f4.resultTypes.toList))=true:=by kernel_rfl
end Go.Proofs.YthncchbcdpbgaaaGreat
