/- FACTS OF THE SEAT's PROGRAM that every row asks; each by the kernel's own run. -/
import Derived.ProofKit
import Derived.Test.YthncchbcdpbgaaaGreatRows
import Derived.Test.YthncchbcdpbgaaaGreatAbB6
set_option linter.unusedVariables false
set_option linter.unusedSimpArgs false
set_option linter.unusedSectionVars false
namespace Go.Proofs.YthncchbcdpbgaaaGreat
open Go.ChangeShapes Go.WideShapes Go.ChangeAt Go.RowKit
theorem sF{a b:Bool}(h:a=true)(k:b=true):(a&&b)=true:=by rw[h,k];rfl
theorem zUh:(laidOutB Tryz.pinned.checked.prog)=true:=by kernel_rfl
theorem zUg:(mapsRowed Tryz.pinned.checked.prog)=true:=by kernel_rfl
theorem zUf:((Tryz.pinned.checked.prog.stops==[]))=true:=by kernel_rfl
theorem zUe:((Tryz.pinned.checked.prog.stopKnobs==[]))=true:=by kernel_rfl
theorem zSE:((Rows.dataFuelRow.plainKeys==Tryz.pinned.checked.prog.plainKeys))=true:=by kernel_rfl
theorem zSF:(Tryz.pinned.checked.prog.stopsHeard)=true:=by kernel_rfl
theorem zSG:(Tryz.pinned.checked.prog.mayEnter)=true:=by kernel_rfl
theorem zSH:((Rows.dataFuelRow.lifted==Tryz.pinned.checked.prog.liftsFinal))=true:=by kernel_rfl
theorem zSI:((Tryz.pinned.checked.prog.make==some Rows.dataFuelRow.make))=true:=by kernel_rfl
end Go.Proofs.YthncchbcdpbgaaaGreat
