/- DataBase: what its row asks of the program; each by the kernel's own run. -/
import Derived.Test.YtedhamlfcienmaaGreatAbB6
set_option linter.unusedVariables false
set_option linter.unusedSimpArgs false
set_option linter.unusedSectionVars false
namespace Go.Proofs.YtedhamlfcienmaaGreat
open Go.ChangeShapes Go.WideShapes Go.ChangeAt Go.RowKit
theorem dataBase_fact0:(Rows.dataBaseRow.wf (OpenSpec.ofChange Rows.dataBaseSpec))=true:=by kernel_rfl
theorem dataBase_fact3:(Tryz.f3.params.all (Tryz.pinned.checked.prog.readableRec ·))=true:=by kernel_rfl
theorem dataBase_fact4:(namedTie Tryz.pinned.checked.prog Rows.dataBaseRow.named Rows.dataBaseSpec.vars)=true:=by kernel_rfl
theorem dataBase_fact5:((Rows.dataBaseRow.stops==[]))=true:=by kernel_rfl
theorem dataBase_fact7:((Rows.dataBaseRow.knobs==[]))=true:=by kernel_rfl
theorem dataBase_fact9:((Rows.dataBaseRow.inPlace==Tryz.pinned.checked.prog.inPlace 3))=true:=by kernel_rfl
theorem dataBase_fact10:((Rows.dataBaseRow.unfollowed==Tryz.pinned.checked.prog.unfollowed 3))=true:=by kernel_rfl
theorem dataBase_fact11:((Rows.dataBaseRow.recurses==Tryz.pinned.checked.prog.recurses 3))=true:=by kernel_rfl
theorem dataBase_fact12:((Rows.dataBaseRow.named==Tryz.pinned.checked.prog.varsNamed 3))=true:=by kernel_rfl
theorem dataBase_fact13:((Rows.dataBaseRow.maps==(Tryz.f3.params.toList++Rows.dataBaseSpec.plain.varTypes Tryz.pinned.checked.prog).any (Tryz.pinned.checked.prog.mapsRec ·)))=true:=by kernel_rfl
theorem dataBase_fact14:((Rows.dataBaseRow.ifaces==(Tryz.f3.params.toList++Rows.dataBaseSpec.plain.varTypes Tryz.pinned.checked.prog).any (Tryz.pinned.checked.prog.ifacesRec ·)))=true:=by kernel_rfl
theorem dataBase_fact15:((Rows.dataBaseRow.mapsOut==Tryz.pinned.checked.prog.mapsAmong Tryz.f3.resultTypes.toList))=true:=by kernel_rfl
theorem dataBase_fact16:((Rows.dataBaseRow.loops==(Tryz.f3.params.toList++Rows.dataBaseSpec.plain.varTypes Tryz.pinned.checked.prog).any (Tryz.pinned.checked.prog.loopsFrom ·)))=true:=by kernel_rfl
theorem dataBase_fact17:((Rows.dataBaseRow.wideKeys==(Tryz.f3.params.toList++Rows.dataBaseSpec.plain.varTypes Tryz.pinned.checked.prog++Tryz.f3.resultTypes.toList).any (Tryz.pinned.checked.prog.wideKeysFrom ·)))=true:=by kernel_rfl
theorem dataBase_fact18:(Rows.dataBaseSpec.vars.all (Tryz.pinned.checked.prog.varReadable ·))=true:=by kernel_rfl
theorem dataBase_fact19:(Tryz.f3.resultTypes.all (fun t=>Tryz.pinned.checked.prog.readableRec t&&decide (t<Tryz.pinned.checked.prog.types.size)))=true:=by kernel_rfl
theorem dataBase_fact20:((Rows.dataBaseRow.ifacesOut==Tryz.f3.resultTypes.toList.any (Tryz.pinned.checked.prog.ifacesRec ·)))=true:=by kernel_rfl
theorem dataBase_fact21:((Rows.dataBaseRow.loopsOut==Tryz.f3.resultTypes.toList.any (Tryz.pinned.checked.prog.loopsFrom ·)))=true:=by kernel_rfl
theorem dataBase_fact23:(Rows.dataBaseRow.shortTexts.isNone)=true:=by kernel_rfl
theorem dataBase_fact28:((Rows.dataBaseRow.kinds==(if Rows.dataBaseRow.domain.isEmpty then []else Tryz.f3.params.toList.map fun t=>match Tryz.pinned.checked.prog.underlying t with|some (.int k)=>some k|_=>none)))=true:=by kernel_rfl
theorem dataBase_fact29:((Rows.dataBaseRow.pinned==Rows.dataBaseRow.pinnedBy))=true:=by kernel_rfl
theorem dataBase_fact30:((Rows.dataBaseRow.veiled==(Tryz.f3.params.toList++Rows.dataBaseSpec.plain.varTypes Tryz.pinned.checked.prog++Tryz.f3.resultTypes.toList).any (Tryz.pinned.checked.prog.veiledRec ·)))=true:=by kernel_rfl
theorem dataBase_fact31:(Rows.dataBaseRow.veiledFits Tryz.pinned.checked.prog Tryz.f3.params.toList (Tryz.f3.params.toList++Rows.dataBaseSpec.plain.varTypes Tryz.pinned.checked.prog++Tryz.f3.resultTypes.toList))=true:=by kernel_rfl
end Go.Proofs.YtedhamlfcienmaaGreat
