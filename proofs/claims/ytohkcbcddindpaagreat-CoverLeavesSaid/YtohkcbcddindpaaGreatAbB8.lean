/- FACTS OF THE SEAT's PROGRAM that every row asks; each by the kernel's own run. -/
import Derived.ProofKit
import Derived.Test.YtohkcbcddindpaaGreatRows
import Derived.Test.YtohkcbcddindpaaGreatAbB7
set_option linter.unusedVariables false
set_option linter.unusedSimpArgs false
set_option linter.unusedSectionVars false
namespace Go.Proofs.YtohkcbcddindpaaGreat
open Go.ChangeShapes Go.WideShapes Go.ChangeAt Go.RowKit
theorem pD{a b:Bool}(h:a=true)(k:b=true):(a&&b)=true:=by rw[h,k];rfl
theorem yDz:(laidOutB Tryz.pinned.checked.prog)=true:=by kernel_rfl
theorem yDy:(mapsRowed Tryz.pinned.checked.prog)=true:=by kernel_rfl
theorem yDx:((Tryz.pinned.checked.prog.stops==[]))=true:=by kernel_rfl
theorem yDw:((Tryz.pinned.checked.prog.stopKnobs==[]))=true:=by kernel_rfl
theorem yAd:((Rows.coverLeavesRow.plainKeys==Tryz.pinned.checked.prog.plainKeys))=true:=by kernel_rfl
theorem yAc:(Tryz.pinned.checked.prog.stopsHeard)=true:=by kernel_rfl
theorem yAb:(Tryz.pinned.checked.prog.mayEnter)=true:=by kernel_rfl
theorem yAa:((Rows.coverLeavesRow.lifted==Tryz.pinned.checked.prog.liftsFinal))=true:=by kernel_rfl
theorem yAA:((Tryz.pinned.checked.prog.make==some Rows.coverLeavesRow.make))=true:=by kernel_rfl
end Go.Proofs.YtohkcbcddindpaaGreat
