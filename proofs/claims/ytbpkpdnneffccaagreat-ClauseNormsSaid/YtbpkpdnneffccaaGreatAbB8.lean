/- ClauseNorms: what its row asks of the program; each by the kernel's own run. -/
import Derived.Test.YtbpkpdnneffccaaGreatAbB7
set_option linter.unusedVariables false
set_option linter.unusedSimpArgs false
set_option linter.unusedSectionVars false
namespace Go.Proofs.YtbpkpdnneffccaaGreat
open Go.ChangeShapes Go.WideShapes Go.ChangeAt Go.RowKit
theorem F2:(Rows.clauseNormsRow.wf (OpenSpec.ofChange Rows.clauseNormsSpec))=true:=by kernel_rfl
theorem F3:(Tryz.f3.params.all (Tryz.pinned.checked.prog.readableRec ·))=true:=by kernel_rfl
theorem F4:(namedTie Tryz.pinned.checked.prog Rows.clauseNormsRow.named Rows.clauseNormsSpec.vars)=true:=by kernel_rfl
theorem F5:((Rows.clauseNormsRow.stops==[]))=true:=by kernel_rfl
theorem F6:((Rows.clauseNormsRow.knobs==[]))=true:=by kernel_rfl
theorem F7:((Rows.clauseNormsRow.inPlace==Tryz.pinned.checked.prog.inPlace 3))=true:=by kernel_rfl
theorem bP:((Rows.clauseNormsRow.unfollowed==Tryz.pinned.checked.prog.unfollowed 3))=true:=by kernel_rfl
theorem bQ:((Rows.clauseNormsRow.recurses==Tryz.pinned.checked.prog.recurses 3))=true:=by kernel_rfl
theorem bR:((Rows.clauseNormsRow.named==Tryz.pinned.checked.prog.varsNamed 3))=true:=by kernel_rfl
theorem bS:((Rows.clauseNormsRow.maps==(Tryz.f3.params.toList++Rows.clauseNormsSpec.plain.varTypes Tryz.pinned.checked.prog).any (Tryz.pinned.checked.prog.mapsRec ·)))=true:=by kernel_rfl
theorem bT:((Rows.clauseNormsRow.ifaces==(Tryz.f3.params.toList++Rows.clauseNormsSpec.plain.varTypes Tryz.pinned.checked.prog).any (Tryz.pinned.checked.prog.ifacesRec ·)))=true:=by kernel_rfl
theorem bU:((Rows.clauseNormsRow.mapsOut==Tryz.pinned.checked.prog.mapsAmong Tryz.f3.resultTypes.toList))=true:=by kernel_rfl
theorem bV:((Rows.clauseNormsRow.loops==(Tryz.f3.params.toList++Rows.clauseNormsSpec.plain.varTypes Tryz.pinned.checked.prog).any (Tryz.pinned.checked.prog.loopsFrom ·)))=true:=by kernel_rfl
theorem bW:((Rows.clauseNormsRow.wideKeys==(Tryz.f3.params.toList++Rows.clauseNormsSpec.plain.varTypes Tryz.pinned.checked.prog++Tryz.f3.resultTypes.toList).any (Tryz.pinned.checked.prog.wideKeysFrom ·)))=true:=by kernel_rfl
theorem bX:(Rows.clauseNormsSpec.vars.all (Tryz.pinned.checked.prog.varReadable ·))=true:=by kernel_rfl
theorem bY:(Tryz.f3.resultTypes.all (fun t=>Tryz.pinned.checked.prog.readableRec t&&decide (t<Tryz.pinned.checked.prog.types.size)))=true:=by kernel_rfl
theorem bZ:((Rows.clauseNormsRow.ifacesOut==Tryz.f3.resultTypes.toList.any (Tryz.pinned.checked.prog.ifacesRec ·)))=true:=by kernel_rfl
theorem aA:((Rows.clauseNormsRow.loopsOut==Tryz.f3.resultTypes.toList.any (Tryz.pinned.checked.prog.loopsFrom ·)))=true:=by kernel_rfl
theorem aB:(Rows.clauseNormsRow.shortTexts.isNone)=true:=by kernel_rfl
theorem aC:((Rows.clauseNormsRow.kinds==(if Rows.clauseNormsRow.domain.isEmpty then []else Tryz.f3.params.toList.map fun t=>match Tryz.pinned.checked.prog.underlying t with|some (.int k)=>some k|_=>none)))=true:=by kernel_rfl
theorem aD:((Rows.clauseNormsRow.pinned==Rows.clauseNormsRow.pinnedBy))=true:=by kernel_rfl
theorem aE:((Rows.clauseNormsRow.veiled==(Tryz.f3.params.toList++Rows.clauseNormsSpec.plain.varTypes Tryz.pinned.checked.prog++Tryz.f3.resultTypes.toList).any (Tryz.pinned.checked.prog.veiledRec ·)))=true:=by kernel_rfl
theorem aF:(Rows.clauseNormsRow.veiledFits Tryz.pinned.checked.prog Tryz.f3.params.toList (Tryz.f3.params.toList++Rows.clauseNormsSpec.plain.varTypes Tryz.pinned.checked.prog++Tryz.f3.resultTypes.toList))=true:=by kernel_rfl
end Go.Proofs.YtbpkpdnneffccaaGreat
