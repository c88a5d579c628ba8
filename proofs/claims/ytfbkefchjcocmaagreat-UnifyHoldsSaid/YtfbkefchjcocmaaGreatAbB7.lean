/- FACTS OF THE SEAT's PROGRAM that every row asks; each by the kernel's own run. -/
import Derived.ProofKit
import Derived.Test.YtfbkefchjcocmaaGreatRows
import Derived.Test.YtfbkefchjcocmaaGreatAbB6
set_option linter.unusedVariables false
set_option linter.unusedSimpArgs false
set_option linter.unusedSectionVars false
namespace Go.Proofs.YtfbkefchjcocmaaGreat
open Go.ChangeShapes Go.WideShapes Go.ChangeAt Go.RowKit
theorem qN{a b:Bool}(h:a=true)(k:b=true):(a&&b)=true:=by rw[h,k];rfl
theorem yAl:(laidOutB Tryz.pinned.checked.prog)=true:=by kernel_rfl
theorem yAk:(mapsRowed Tryz.pinned.checked.prog)=true:=by kernel_rfl
theorem yAj:((Tryz.pinned.checked.prog.stops==[]))=true:=by kernel_rfl
theorem yAi:((Tryz.pinned.checked.prog.stopKnobs==[]))=true:=by kernel_rfl
theorem zXt:((Rows.unifyHoldsRow.plainKeys==Tryz.pinned.checked.prog.plainKeys))=true:=by kernel_rfl
theorem zXs:(Tryz.pinned.checked.prog.stopsHeard)=true:=by kernel_rfl
theorem zXr:(Tryz.pinned.checked.prog.mayEnter)=true:=by kernel_rfl
theorem zXq:((Rows.unifyHoldsRow.lifted==Tryz.pinned.checked.prog.liftsFinal))=true:=by kernel_rfl
theorem zXp:((Tryz.pinned.checked.prog.make==some Rows.unifyHoldsRow.make))=true:=by kernel_rfl
end Go.Proofs.YtfbkefchjcocmaaGreat
