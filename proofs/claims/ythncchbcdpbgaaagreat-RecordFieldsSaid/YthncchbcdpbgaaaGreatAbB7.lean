/- FACTS OF THE SEAT's PROGRAM that every row asks; each by the kernel's own run. -/
import Derived.ProofKit
import Derived.Test.YthncchbcdpbgaaaGreatRows
import Derived.Test.YthncchbcdpbgaaaGreatAbB6
set_option linter.unusedVariables false
set_option linter.unusedSimpArgs false
set_option linter.unusedSectionVars false
namespace Go.Proofs.YthncchbcdpbgaaaGreat
open Go.ChangeShapes Go.WideShapes Go.ChangeAt Go.RowKit
theorem rQ{a b:Bool}(h:a=true)(k:b=true):(a&&b)=true:=by rw[h,k];rfl
theorem zZp:(laidOutB Tryz.pinned.checked.prog)=true:=by kernel_rfl
theorem zZo:(mapsRowed Tryz.pinned.checked.prog)=true:=by kernel_rfl
theorem zZn:((Tryz.pinned.checked.prog.stops==[]))=true:=by kernel_rfl
theorem zZm:((Tryz.pinned.checked.prog.stopKnobs==[]))=true:=by kernel_rfl
theorem zWK:((Rows.recordFieldsRow.plainKeys==Tryz.pinned.checked.prog.plainKeys))=true:=by kernel_rfl
theorem zWL:(Tryz.pinned.checked.prog.stopsHeard)=true:=by kernel_rfl
theorem zWM:(Tryz.pinned.checked.prog.mayEnter)=true:=by kernel_rfl
theorem zWN:((Rows.recordFieldsRow.lifted==Tryz.pinned.checked.prog.liftsFinal))=true:=by kernel_rfl
theorem zWO:((Tryz.pinned.checked.prog.make==some Rows.recordFieldsRow.make))=true:=by kernel_rfl
end Go.Proofs.YthncchbcdpbgaaaGreat
