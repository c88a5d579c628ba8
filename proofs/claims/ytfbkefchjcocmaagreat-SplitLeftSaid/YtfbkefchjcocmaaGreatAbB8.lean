/- SplitLeft: what its row asks of the program; each by the kernel's own run. -/
import Derived.Test.YtfbkefchjcocmaaGreatAbB7
set_option linter.unusedVariables false
set_option linter.unusedSimpArgs false
set_option linter.unusedSectionVars false
namespace Go.Proofs.YtfbkefchjcocmaaGreat
open Go.ChangeShapes Go.WideShapes Go.ChangeAt Go.RowKit
theorem L9:(Rows.splitLeftRow.wf (OpenSpec.ofChange Rows.splitLeftSpec))=true:=by kernel_rfl
theorem M0:(Tryz.f6.params.all (Tryz.pinned.checked.prog.readableRec ·))=true:=by kernel_rfl
theorem M1:(namedTie Tryz.pinned.checked.prog Rows.splitLeftRow.named Rows.splitLeftSpec.vars)=true:=by kernel_rfl
theorem M2:((Rows.splitLeftRow.stops==[]))=true:=by kernel_rfl
theorem M3:((Rows.splitLeftRow.knobs==[]))=true:=by kernel_rfl
theorem M4:((Rows.splitLeftRow.inPlace==Tryz.pinned.checked.prog.inPlace 6))=true:=by kernel_rfl
theorem H6:((Rows.splitLeftRow.unfollowed==Tryz.pinned.checked.prog.unfollowed 6))=true:=by kernel_rfl
theorem H7:((Rows.splitLeftRow.recurses==Tryz.pinned.checked.prog.recurses 6))=true:=by kernel_rfl
theorem H8:((Rows.splitLeftRow.named==Tryz.pinned.checked.prog.varsNamed 6))=true:=by kernel_rfl
theorem H9:((Rows.splitLeftRow.maps==(Tryz.f6.params.toList++Rows.splitLeftSpec.plain.varTypes Tryz.pinned.checked.prog).any (Tryz.pinned.checked.prog.mapsRec ·)))=true:=by kernel_rfl
theorem I0:((Rows.splitLeftRow.ifaces==(Tryz.f6.params.toList++Rows.splitLeftSpec.plain.varTypes Tryz.pinned.checked.prog).any (Tryz.pinned.checked.prog.ifacesRec ·)))=true:=by kernel_rfl
theorem I1:((Rows.splitLeftRow.mapsOut==Tryz.pinned.checked.prog.mapsAmong Tryz.f6.resultTypes.toList))=true:=by kernel_rfl
theorem I2:((Rows.splitLeftRow.loops==(Tryz.f6.params.toList++Rows.splitLeftSpec.plain.varTypes Tryz.pinned.checked.prog).any (Tryz.pinned.checked.prog.loopsFrom ·)))=true:=by kernel_rfl
theorem I3:((Rows.splitLeftRow.wideKeys==(Tryz.f6.params.toList++Rows.splitLeftSpec.plain.varTypes Tryz.pinned.checked.prog++Tryz.f6.resultTypes.toList).any (Tryz.pinned.checked.prog.wideKeysFrom ·)))=true:=by kernel_rfl
theorem I4:(Rows.splitLeftSpec.vars.all (Tryz.pinned.checked.prog.varReadable ·))=true:=by kernel_rfl
theorem I5:(Tryz.f6.resultTypes.all (fun t=>Tryz.pinned.checked.prog.readableRec t&&decide (t<Tryz.pinned.checked.prog.types.size)))=true:=by kernel_rfl
theorem I6:((Rows.splitLeftRow.ifacesOut==Tryz.f6.resultTypes.toList.any (Tryz.pinned.checked.prog.ifacesRec ·)))=true:=by kernel_rfl
theorem I7:((Rows.splitLeftRow.loopsOut==Tryz.f6.resultTypes.toList.any (Tryz.pinned.checked.prog.loopsFrom ·)))=true:=by kernel_rfl
theorem I8:(Rows.splitLeftRow.shortTexts.isNone)=true:=by kernel_rfl
theorem I9:((Rows.splitLeftRow.kinds==(if Rows.splitLeftRow.domain.isEmpty then []else Tryz.f6.params.toList.map fun t=>match Tryz.pinned.checked.prog.underlying t with|some (.int k)=>some k|_=>none)))=true:=by kernel_rfl
theorem J0:((Rows.splitLeftRow.pinned==Rows.splitLeftRow.pinnedBy))=true:=by kernel_rfl
theorem J1:((Rows.splitLeftRow.veiled==(Tryz.f6.params.toList++Rows.splitLeftSpec.plain.varTypes Tryz.pinned.checked.prog++Tryz.f6.resultTypes.toList).any (Tryz.pinned.checked.prog.veiledRec ·)))=true:=by kernel_rfl
theorem J2:(Rows.splitLeftRow.veiledFits Tryz.pinned.checked.prog Tryz.f6.params.toList (Tryz.f6.params.toList++Rows.splitLeftSpec.plain.varTypes Tryz.pinned.checked.prog++Tryz.f6.resultTypes.toList))=true:=by kernel_rfl
end Go.Proofs.YtfbkefchjcocmaaGreat
