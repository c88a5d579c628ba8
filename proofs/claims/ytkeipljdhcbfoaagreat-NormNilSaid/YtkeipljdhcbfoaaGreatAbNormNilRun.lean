/- NormNil: the law's run on the empty state, for a Term of whatever cells, comes to true. No condition. -/
import Derived.Test.YtkeipljdhcbfoaaGreatAbSeat
namespace Go.Proofs.YtkeipljdhcbfoaaGreat
open Go.Ab

theorem normNil_run : ∀ (k n : Int) (p : Option Addr) (m c : Nat), isTrue (acall Tryz.prog prim 100000 61 4 [termAV k n p m c] LSt.zero) = true := fun k n p m c => by kernel_rfl

end Go.Proofs.YtkeipljdhcbfoaaGreat
