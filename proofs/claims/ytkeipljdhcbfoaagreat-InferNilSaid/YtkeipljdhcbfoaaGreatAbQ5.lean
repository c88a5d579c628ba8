/- InferNil: what it comes to, run by the kernel. -/
import Derived.Test.YtkeipljdhcbfoaaGreatAbQ4
namespace Go.Proofs.YtkeipljdhcbfoaaGreat
open Go Go.Ab
theorem ev6 (t a : Tm) : e6 200 t a = some true := by kernel_rfl
theorem c6t (t a : Tm) : CT Tryz.prog 6 [] [tmA t, tmA a] (ab true) [] 0 := c6 (le6 200 (ev6 t a))
#print axioms c6t
end Go.Proofs.YtkeipljdhcbfoaaGreat
