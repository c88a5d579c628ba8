/- FACTS OF THE SEAT's PROGRAM that every row asks; each by the kernel's own run. -/
import Derived.ProofKit
import Derived.Test.YthncchbcdpbgaaaGreatRows
import Derived.Test.YthncchbcdpbgaaaGreatAbB7
set_option linter.unusedVariables false
set_option linter.unusedSimpArgs false
set_option linter.unusedSectionVars false
namespace Go.Proofs.YthncchbcdpbgaaaGreat
open Go.ChangeShapes Go.WideShapes Go.ChangeAt Go.RowKit
theorem qA{a b:Bool}(h:a=true)(k:b=true):(a&&b)=true:=by rw[h,k];rfl
theorem yCp:(laidOutB Tryz.pinned.checked.prog)=true:=by kernel_rfl
theorem yCo:(mapsRowed Tryz.pinned.checked.prog)=true:=by kernel_rfl
theorem yCn:((Tryz.pinned.checked.prog.stops==[]))=true:=by kernel_rfl
theorem yCm:((Tryz.pinned.checked.prog.stopKnobs==[]))=true:=by kernel_rfl
theorem zZK:((Rows.dataPassesRow.plainKeys==Tryz.pinned.checked.prog.plainKeys))=true:=by kernel_rfl
theorem zZL:(Tryz.pinned.checked.prog.stopsHeard)=true:=by kernel_rfl
theorem zZM:(Tryz.pinned.checked.prog.mayEnter)=true:=by kernel_rfl
theorem zZN:((Rows.dataPassesRow.lifted==Tryz.pinned.checked.prog.liftsFinal))=true:=by kernel_rfl
theorem zZO:((Tryz.pinned.checked.prog.make==some Rows.dataPassesRow.make))=true:=by kernel_rfl
end Go.Proofs.YthncchbcdpbgaaaGreat
