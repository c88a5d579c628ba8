/- DefineK: what its row asks of the program; each by the kernel's own run. -/
import Derived.Test.YthncfoeaibgmnaaGreatAbB7
set_option linter.unusedVariables false
set_option linter.unusedSimpArgs false
set_option linter.unusedSectionVars false
namespace Go.Proofs.YthncfoeaibgmnaaGreat
open Go.ChangeShapes Go.WideShapes Go.ChangeAt Go.RowKit
theorem R7:(Rows.defineKRow.wf (OpenSpec.ofChange Rows.defineKSpec))=true:=by kernel_rfl
theorem R8:(Tryz.f3.params.all (Tryz.pinned.checked.prog.readableRec ·))=true:=by kernel_rfl
theorem R9:(namedTie Tryz.pinned.checked.prog Rows.defineKRow.named Rows.defineKSpec.vars)=true:=by kernel_rfl
theorem S0:((Rows.defineKRow.stops==[]))=true:=by kernel_rfl
theorem S1:((Rows.defineKRow.knobs==[]))=true:=by kernel_rfl
theorem S2:((Rows.defineKRow.inPlace==Tryz.pinned.checked.prog.inPlace 3))=true:=by kernel_rfl
theorem O3:((Rows.defineKRow.unfollowed==Tryz.pinned.checked.prog.unfollowed 3))=true:=by kernel_rfl
theorem O4:((Rows.defineKRow.recurses==Tryz.pinned.checked.prog.recurses 3))=true:=by kernel_rfl
theorem O5:((Rows.defineKRow.named==Tryz.pinned.checked.prog.varsNamed 3))=true:=by kernel_rfl
theorem O6:((Rows.defineKRow.maps==(Tryz.f3.params.toList++Rows.defineKSpec.plain.varTypes Tryz.pinned.checked.prog).any (Tryz.pinned.checked.prog.mapsRec ·)))=true:=by kernel_rfl
theorem O7:((Rows.defineKRow.ifaces==(Tryz.f3.params.toList++Rows.defineKSpec.plain.varTypes Tryz.pinned.checked.prog).any (Tryz.pinned.checked.prog.ifacesRec ·)))=true:=by kernel_rfl
theorem O8:((Rows.defineKRow.mapsOut==Tryz.pinned.checked.prog.mapsAmong Tryz.f3.resultTypes.toList))=true:=by kernel_rfl
theorem O9:((Rows.defineKRow.loops==(Tryz.f3.params.toList++Rows.defineKSpec.plain.varTypes Tryz.pinned.checked.prog).any (Tryz.pinned.checked.prog.loopsFrom ·)))=true:=by kernel_rfl
theorem P0:((Rows.defineKRow.wideKeys==(Tryz.f3.params.toList++Rows.defineKSpec.plain.varTypes Tryz.pinned.checked.prog++Tryz.f3.resultTypes.toList).any (Tryz.pinned.checked.prog.wideKeysFrom ·)))=true:=by kernel_rfl
theorem P1:(Rows.defineKSpec.vars.all (Tryz.pinned.checked.prog.varReadable ·))=true:=by kernel_rfl
theorem P2:(Tryz.f3.resultTypes.all (fun t=>Tryz.pinned.checked.prog.readableRec t&&decide (t<Tryz.pinned.checked.prog.types.size)))=true:=by kernel_rfl
theorem P3:((Rows.defineKRow.ifacesOut==Tryz.f3.resultTypes.toList.any (Tryz.pinned.checked.prog.ifacesRec ·)))=true:=by kernel_rfl
theorem P4:((Rows.defineKRow.loopsOut==Tryz.f3.resultTypes.toList.any (Tryz.pinned.checked.prog.loopsFrom ·)))=true:=by kernel_rfl
theorem P5:(Rows.defineKRow.shortTexts.isNone)=true:=by kernel_rfl
theorem P6:((Rows.defineKRow.kinds==(if Rows.defineKRow.domain.isEmpty then []else Tryz.f3.params.toList.map fun t=>match Tryz.pinned.checked.prog.underlying t with|some (.int k)=>some k|_=>none)))=true:=by kernel_rfl
theorem P7:((Rows.defineKRow.pinned==Rows.defineKRow.pinnedBy))=true:=by kernel_rfl
theorem P8:((Rows.defineKRow.veiled==(Tryz.f3.params.toList++Rows.defineKSpec.plain.varTypes Tryz.pinned.checked.prog++Tryz.f3.resultTypes.toList).any (Tryz.pinned.checked.prog.veiledRec ·)))=true:=by kernel_rfl
theorem P9:(Rows.defineKRow.veiledFits Tryz.pinned.checked.prog Tryz.f3.params.toList (Tryz.f3.params.toList++Rows.defineKSpec.plain.varTypes Tryz.pinned.checked.prog++Tryz.f3.resultTypes.toList))=true:=by kernel_rfl
end Go.Proofs.YthncfoeaibgmnaaGreat
