/- FACTS OF THE SEAT's PROGRAM that every row asks; each by the kernel's own run. -/
import Derived.ProofKit
import Derived.Test.YthncfoeaibgmnaaGreatRows
import Derived.Test.YthncfoeaibgmnaaGreatAbB6
set_option linter.unusedVariables false
set_option linter.unusedSimpArgs false
set_option linter.unusedSectionVars false
namespace Go.Proofs.YthncfoeaibgmnaaGreat
open Go.ChangeShapes Go.WideShapes Go.ChangeAt Go.RowKit
theorem tO{a b:Bool}(h:a=true)(k:b=true):(a&&b)=true:=by rw[h,k];rfl
theorem zVF:(laidOutB Tryz.pinned.checked.prog)=true:=by kernel_rfl
theorem zVG:(mapsRowed Tryz.pinned.checked.prog)=true:=by kernel_rfl
theorem zVH:((Tryz.pinned.checked.prog.stops==[]))=true:=by kernel_rfl
theorem zVI:((Tryz.pinned.checked.prog.stopKnobs==[]))=true:=by kernel_rfl
theorem zRS:((Rows.defineKRow.plainKeys==Tryz.pinned.checked.prog.plainKeys))=true:=by kernel_rfl
theorem zRT:(Tryz.pinned.checked.prog.stopsHeard)=true:=by kernel_rfl
theorem zRU:(Tryz.pinned.checked.prog.mayEnter)=true:=by kernel_rfl
theorem zRV:((Rows.defineKRow.lifted==Tryz.pinned.checked.prog.liftsFinal))=true:=by kernel_rfl
theorem zRW:((Tryz.pinned.checked.prog.make==some Rows.defineKRow.make))=true:=by kernel_rfl
end Go.Proofs.YthncfoeaibgmnaaGreat
