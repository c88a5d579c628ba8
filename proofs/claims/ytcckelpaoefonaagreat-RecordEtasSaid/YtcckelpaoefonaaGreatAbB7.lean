/- FACTS OF THE SEAT's PROGRAM that every row asks; each by the kernel's own run. -/
import Derived.ProofKit
import Derived.Test.YtcckelpaoefonaaGreatRows
import Derived.Test.YtcckelpaoefonaaGreatAbB6
set_option linter.unusedVariables false
set_option linter.unusedSimpArgs false
set_option linter.unusedSectionVars false
namespace Go.Proofs.YtcckelpaoefonaaGreat
open Go.ChangeShapes Go.WideShapes Go.ChangeAt Go.RowKit
theorem sY{a b:Bool}(h:a=true)(k:b=true):(a&&b)=true:=by rw[h,k];rfl
theorem zZS:(laidOutB Tryz.pinned.checked.prog)=true:=by kernel_rfl
theorem zZT:(mapsRowed Tryz.pinned.checked.prog)=true:=by kernel_rfl
theorem zZU:((Tryz.pinned.checked.prog.stops==[]))=true:=by kernel_rfl
theorem zZV:((Tryz.pinned.checked.prog.stopKnobs==[]))=true:=by kernel_rfl
theorem zWA:((Rows.recordEtasRow.plainKeys==Tryz.pinned.checked.prog.plainKeys))=true:=by kernel_rfl
theorem zWB:(Tryz.pinned.checked.prog.stopsHeard)=true:=by kernel_rfl
theorem zWC:(Tryz.pinned.checked.prog.mayEnter)=true:=by kernel_rfl
theorem zWD:((Rows.recordEtasRow.lifted==Tryz.pinned.checked.prog.liftsFinal))=true:=by kernel_rfl
theorem zWE:((Tryz.pinned.checked.prog.make==some Rows.recordEtasRow.make))=true:=by kernel_rfl
end Go.Proofs.YtcckelpaoefonaaGreat
