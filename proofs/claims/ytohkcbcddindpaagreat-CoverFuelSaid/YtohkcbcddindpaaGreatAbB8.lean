/- CoverFuel: what its row asks of the program; each by the kernel's own run. -/
import Derived.Test.YtohkcbcddindpaaGreatAbB7
set_option linter.unusedVariables false
set_option linter.unusedSimpArgs false
set_option linter.unusedSectionVars false
namespace Go.Proofs.YtohkcbcddindpaaGreat
open Go.ChangeShapes Go.WideShapes Go.ChangeAt Go.RowKit
theorem V1:(Rows.coverFuelRow.wf (OpenSpec.ofChange Rows.coverFuelSpec))=true:=by kernel_rfl
theorem V2:(Tryz.f3.params.all (Tryz.pinned.checked.prog.readableRec ·))=true:=by kernel_rfl
theorem V3:(namedTie Tryz.pinned.checked.prog Rows.coverFuelRow.named Rows.coverFuelSpec.vars)=true:=by kernel_rfl
theorem V4:((Rows.coverFuelRow.stops==[]))=true:=by kernel_rfl
theorem V5:((Rows.coverFuelRow.knobs==[]))=true:=by kernel_rfl
theorem V6:((Rows.coverFuelRow.inPlace==Tryz.pinned.checked.prog.inPlace 3))=true:=by kernel_rfl
theorem P1:((Rows.coverFuelRow.unfollowed==Tryz.pinned.checked.prog.unfollowed 3))=true:=by kernel_rfl
theorem P3:((Rows.coverFuelRow.recurses==Tryz.pinned.checked.prog.recurses 3))=true:=by kernel_rfl
theorem P4:((Rows.coverFuelRow.named==Tryz.pinned.checked.prog.varsNamed 3))=true:=by kernel_rfl
theorem P5:((Rows.coverFuelRow.maps==(Tryz.f3.params.toList++Rows.coverFuelSpec.plain.varTypes Tryz.pinned.checked.prog).any (Tryz.pinned.checked.prog.mapsRec ·)))=true:=by kernel_rfl
theorem P6:((Rows.coverFuelRow.ifaces==(Tryz.f3.params.toList++Rows.coverFuelSpec.plain.varTypes Tryz.pinned.checked.prog).any (Tryz.pinned.checked.prog.ifacesRec ·)))=true:=by kernel_rfl
theorem P7:((Rows.coverFuelRow.mapsOut==Tryz.pinned.checked.prog.mapsAmong Tryz.f3.resultTypes.toList))=true:=by kernel_rfl
theorem P8:((Rows.coverFuelRow.loops==(Tryz.f3.params.toList++Rows.coverFuelSpec.plain.varTypes Tryz.pinned.checked.prog).any (Tryz.pinned.checked.prog.loopsFrom ·)))=true:=by kernel_rfl
theorem P9:((Rows.coverFuelRow.wideKeys==(Tryz.f3.params.toList++Rows.coverFuelSpec.plain.varTypes Tryz.pinned.checked.prog++Tryz.f3.resultTypes.toList).any (Tryz.pinned.checked.prog.wideKeysFrom ·)))=true:=by kernel_rfl
theorem Q0:(Rows.coverFuelSpec.vars.all (Tryz.pinned.checked.prog.varReadable ·))=true:=by kernel_rfl
theorem Q1:(Tryz.f3.resultTypes.all (λt=>Tryz.pinned.checked.prog.readableRec t&&decide (t<Tryz.pinned.checked.prog.types.size)))=true:=by kernel_rfl
theorem Q3:((Rows.coverFuelRow.ifacesOut==Tryz.f3.resultTypes.toList.any (Tryz.pinned.checked.prog.ifacesRec ·)))=true:=by kernel_rfl
theorem Q4:((Rows.coverFuelRow.loopsOut==Tryz.f3.resultTypes.toList.any (Tryz.pinned.checked.prog.loopsFrom ·)))=true:=by kernel_rfl
theorem Q5:(Rows.coverFuelRow.shortTexts.isNone)=true:=by kernel_rfl
theorem Q6:((Rows.coverFuelRow.kinds==(if Rows.coverFuelRow.domain.isEmpty then[]else Tryz.f3.params.toList.map λt=>match Tryz.pinned.checked.prog.underlying t with|some (.int k)=>some k|_=>none)))=true:=by kernel_rfl
theorem Q7:((Rows.coverFuelRow.pinned==Rows.coverFuelRow.pinnedBy))=true:=by kernel_rfl
theorem Q8:((Rows.coverFuelRow.veiled==(Tryz.f3.params.toList++Rows.coverFuelSpec.plain.varTypes Tryz.pinned.checked.prog++Tryz.f3.resultTypes.toList).any (Tryz.pinned.checked.prog.veiledRec ·)))=true:=by kernel_rfl
theorem Q9:(Rows.coverFuelRow.veiledFits Tryz.pinned.checked.prog Tryz.f3.params.toList (Tryz.f3.params.toList++Rows.coverFuelSpec.plain.varTypes Tryz.pinned.checked.prog++Tryz.f3.resultTypes.toList))=true:=by kernel_rfl
end Go.Proofs.YtohkcbcddindpaaGreat
