/- FACTS OF THE SEAT's PROGRAM that every row asks; each by the kernel's own run. -/
import Derived.ProofKit
import Derived.Test.YtohkcbcddindpaaGreatRows
import Derived.Test.YtohkcbcddindpaaGreatAbB6
set_option linter.unusedVariables false
set_option linter.unusedSimpArgs false
set_option linter.unusedSectionVars false
namespace Go.Proofs.YtohkcbcddindpaaGreat
open Go.ChangeShapes Go.WideShapes Go.ChangeAt Go.RowKit
theorem qT{a b:Bool}(h:a=true)(k:b=true):(a&&b)=true:=by rw[h,k];rfl
theorem yAF:(laidOutB Tryz.pinned.checked.prog)=true:=by kernel_rfl
theorem yAG:(mapsRowed Tryz.pinned.checked.prog)=true:=by kernel_rfl
theorem yAH:((Tryz.pinned.checked.prog.stops==[]))=true:=by kernel_rfl
theorem yAI:((Tryz.pinned.checked.prog.stopKnobs==[]))=true:=by kernel_rfl
theorem zYt:((Rows.coverFuelRow.plainKeys==Tryz.pinned.checked.prog.plainKeys))=true:=by kernel_rfl
theorem zYs:(Tryz.pinned.checked.prog.stopsHeard)=true:=by kernel_rfl
theorem zYr:(Tryz.pinned.checked.prog.mayEnter)=true:=by kernel_rfl
theorem zYq:((Rows.coverFuelRow.lifted==Tryz.pinned.checked.prog.liftsFinal))=true:=by kernel_rfl
theorem zYp:((Tryz.pinned.checked.prog.make==some Rows.coverFuelRow.make))=true:=by kernel_rfl
end Go.Proofs.YtohkcbcddindpaaGreat
