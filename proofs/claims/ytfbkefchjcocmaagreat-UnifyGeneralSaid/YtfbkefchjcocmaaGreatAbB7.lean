/- FACTS OF THE SEAT's PROGRAM that every row asks; each by the kernel's own run. -/
import Derived.ProofKit
import Derived.Test.YtfbkefchjcocmaaGreatRows
import Derived.Test.YtfbkefchjcocmaaGreatAbB6
set_option linter.unusedVariables false
set_option linter.unusedSimpArgs false
set_option linter.unusedSectionVars false
namespace Go.Proofs.YtfbkefchjcocmaaGreat
open Go.ChangeShapes Go.WideShapes Go.ChangeAt Go.RowKit
theorem sX{a b:Bool}(h:a=true)(k:b=true):(a&&b)=true:=by rw[h,k];rfl
theorem yBZ:(laidOutB Tryz.pinned.checked.prog)=true:=by kernel_rfl
theorem yCz:(mapsRowed Tryz.pinned.checked.prog)=true:=by kernel_rfl
theorem yCy:((Tryz.pinned.checked.prog.stops==[]))=true:=by kernel_rfl
theorem yCx:((Tryz.pinned.checked.prog.stopKnobs==[]))=true:=by kernel_rfl
theorem zZQ:((Rows.unifyGeneralRow.plainKeys==Tryz.pinned.checked.prog.plainKeys))=true:=by kernel_rfl
theorem zZR:(Tryz.pinned.checked.prog.stopsHeard)=true:=by kernel_rfl
theorem zZS:(Tryz.pinned.checked.prog.mayEnter)=true:=by kernel_rfl
theorem zZT:((Rows.unifyGeneralRow.lifted==Tryz.pinned.checked.prog.liftsFinal))=true:=by kernel_rfl
theorem zZU:((Tryz.pinned.checked.prog.make==some Rows.unifyGeneralRow.make))=true:=by kernel_rfl
end Go.Proofs.YtfbkefchjcocmaaGreat
