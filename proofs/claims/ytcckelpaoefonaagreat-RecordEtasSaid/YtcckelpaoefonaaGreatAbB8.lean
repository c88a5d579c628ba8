/- RecordEtas: what its row asks of the program; each by the kernel's own run. -/
import Derived.Test.YtcckelpaoefonaaGreatAbB7
set_option linter.unusedVariables false
set_option linter.unusedSimpArgs false
set_option linter.unusedSectionVars false
namespace Go.Proofs.YtcckelpaoefonaaGreat
open Go.ChangeShapes Go.WideShapes Go.ChangeAt Go.RowKit
theorem E2:(Rows.recordEtasRow.wf (OpenSpec.ofChange Rows.recordEtasSpec))=true:=by kernel_rfl
theorem E4:(Tryz.f3.params.all (Tryz.pinned.checked.prog.readableRec ·))=true:=by kernel_rfl
theorem E5:(namedTie Tryz.pinned.checked.prog Rows.recordEtasRow.named Rows.recordEtasSpec.vars)=true:=by kernel_rfl
theorem E6:((Rows.recordEtasRow.stops==[]))=true:=by kernel_rfl
theorem E7:((Rows.recordEtasRow.knobs==[]))=true:=by kernel_rfl
theorem E8:((Rows.recordEtasRow.inPlace==Tryz.pinned.checked.prog.inPlace 3))=true:=by kernel_rfl
theorem aL:((Rows.recordEtasRow.unfollowed==Tryz.pinned.checked.prog.unfollowed 3))=true:=by kernel_rfl
theorem aM:((Rows.recordEtasRow.recurses==Tryz.pinned.checked.prog.recurses 3))=true:=by kernel_rfl
theorem aN:((Rows.recordEtasRow.named==Tryz.pinned.checked.prog.varsNamed 3))=true:=by kernel_rfl
theorem aO:((Rows.recordEtasRow.maps==(Tryz.f3.params.toList++Rows.recordEtasSpec.plain.varTypes Tryz.pinned.checked.prog).any (Tryz.pinned.checked.prog.mapsRec ·)))=true:=by kernel_rfl
theorem aP:((Rows.recordEtasRow.ifaces==(Tryz.f3.params.toList++Rows.recordEtasSpec.plain.varTypes Tryz.pinned.checked.prog).any (Tryz.pinned.checked.prog.ifacesRec ·)))=true:=by kernel_rfl
theorem aQ:((Rows.recordEtasRow.mapsOut==Tryz.pinned.checked.prog.mapsAmong Tryz.f3.resultTypes.toList))=true:=by kernel_rfl
theorem aR:((Rows.recordEtasRow.loops==(Tryz.f3.params.toList++Rows.recordEtasSpec.plain.varTypes Tryz.pinned.checked.prog).any (Tryz.pinned.checked.prog.loopsFrom ·)))=true:=by kernel_rfl
theorem aS:((Rows.recordEtasRow.wideKeys==(Tryz.f3.params.toList++Rows.recordEtasSpec.plain.varTypes Tryz.pinned.checked.prog++Tryz.f3.resultTypes.toList).any (Tryz.pinned.checked.prog.wideKeysFrom ·)))=true:=by kernel_rfl
theorem aT:(Rows.recordEtasSpec.vars.all (Tryz.pinned.checked.prog.varReadable ·))=true:=by kernel_rfl
theorem aU:(Tryz.f3.resultTypes.all (fun t=>Tryz.pinned.checked.prog.readableRec t&&decide (t<Tryz.pinned.checked.prog.types.size)))=true:=by kernel_rfl
theorem aV:((Rows.recordEtasRow.ifacesOut==Tryz.f3.resultTypes.toList.any (Tryz.pinned.checked.prog.ifacesRec ·)))=true:=by kernel_rfl
theorem aW:((Rows.recordEtasRow.loopsOut==Tryz.f3.resultTypes.toList.any (Tryz.pinned.checked.prog.loopsFrom ·)))=true:=by kernel_rfl
theorem aX:(Rows.recordEtasRow.shortTexts.isNone)=true:=by kernel_rfl
theorem aY:((Rows.recordEtasRow.kinds==(if Rows.recordEtasRow.domain.isEmpty then []else Tryz.f3.params.toList.map fun t=>match Tryz.pinned.checked.prog.underlying t with|some (.int k)=>some k|_=>none)))=true:=by kernel_rfl
theorem aZ:((Rows.recordEtasRow.pinned==Rows.recordEtasRow.pinnedBy))=true:=by kernel_rfl
theorem A0:((Rows.recordEtasRow.veiled==(Tryz.f3.params.toList++Rows.recordEtasSpec.plain.varTypes Tryz.pinned.checked.prog++Tryz.f3.resultTypes.toList).any (Tryz.pinned.checked.prog.veiledRec ·)))=true:=by kernel_rfl
theorem A1:(Rows.recordEtasRow.veiledFits Tryz.pinned.checked.prog Tryz.f3.params.toList (Tryz.f3.params.toList++Rows.recordEtasSpec.plain.varTypes Tryz.pinned.checked.prog++Tryz.f3.resultTypes.toList))=true:=by kernel_rfl
end Go.Proofs.YtcckelpaoefonaaGreat
