/- FACTS OF THE SEAT's PROGRAM that every row asks; each by the kernel's own run. -/
import Derived.ProofKit
import Derived.Test.YtbpkpdnneffccaaGreatRows
import Derived.Test.YtbpkpdnneffccaaGreatAbB6
set_option linter.unusedVariables false
set_option linter.unusedSimpArgs false
set_option linter.unusedSectionVars false
namespace Go.Proofs.YtbpkpdnneffccaaGreat
open Go.ChangeShapes Go.WideShapes Go.ChangeAt Go.RowKit
theorem rZ{a b:Bool}(h:a=true)(k:b=true):(a&&b)=true:=by rw[h,k];rfl
theorem zXH:(laidOutB Tryz.pinned.checked.prog)=true:=by kernel_rfl
theorem zXI:(mapsRowed Tryz.pinned.checked.prog)=true:=by kernel_rfl
theorem zXJ:((Tryz.pinned.checked.prog.stops==[]))=true:=by kernel_rfl
theorem zXK:((Tryz.pinned.checked.prog.stopKnobs==[]))=true:=by kernel_rfl
theorem zVo:((Rows.clauseNormsRow.plainKeys==Tryz.pinned.checked.prog.plainKeys))=true:=by kernel_rfl
theorem zVn:(Tryz.pinned.checked.prog.stopsHeard)=true:=by kernel_rfl
theorem zVm:(Tryz.pinned.checked.prog.mayEnter)=true:=by kernel_rfl
theorem zVl:((Rows.clauseNormsRow.lifted==Tryz.pinned.checked.prog.liftsFinal))=true:=by kernel_rfl
theorem zVk:((Tryz.pinned.checked.prog.make==some Rows.clauseNormsRow.make))=true:=by kernel_rfl
end Go.Proofs.YtbpkpdnneffccaaGreat
