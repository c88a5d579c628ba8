/- FACTS OF THE SEAT's PROGRAM that every row asks; each by the kernel's own run. -/
import Derived.ProofKit
import Derived.Test.YtfbkefchjcocmaaGreatRows
import Derived.Test.YtfbkefchjcocmaaGreatAbB6
set_option linter.unusedVariables false
set_option linter.unusedSimpArgs false
set_option linter.unusedSectionVars false
namespace Go.Proofs.YtfbkefchjcocmaaGreat
open Go.ChangeShapes Go.WideShapes Go.ChangeAt Go.RowKit
theorem rF{a b:Bool}(h:a=true)(k:b=true):(a&&b)=true:=by rw[h,k];rfl
theorem zWi:(laidOutB Tryz.pinned.checked.prog)=true:=by kernel_rfl
theorem zWh:(mapsRowed Tryz.pinned.checked.prog)=true:=by kernel_rfl
theorem zWg:((Tryz.pinned.checked.prog.stops==[]))=true:=by kernel_rfl
theorem zWf:((Tryz.pinned.checked.prog.stopKnobs==[]))=true:=by kernel_rfl
theorem zUx:((Rows.splitLeftRow.plainKeys==Tryz.pinned.checked.prog.plainKeys))=true:=by kernel_rfl
theorem zUw:(Tryz.pinned.checked.prog.stopsHeard)=true:=by kernel_rfl
theorem zUv:(Tryz.pinned.checked.prog.mayEnter)=true:=by kernel_rfl
theorem zUu:((Rows.splitLeftRow.lifted==Tryz.pinned.checked.prog.liftsFinal))=true:=by kernel_rfl
theorem zUt:((Tryz.pinned.checked.prog.make==some Rows.splitLeftRow.make))=true:=by kernel_rfl
end Go.Proofs.YtfbkefchjcocmaaGreat
