/- ConvNil: the law's run on the empty state, for two Terms of whatever cells, comes to true. No condition. -/
import Derived.Test.YtkeipljdhcbfoaaGreatAbConvNilAwake
namespace Go.Proofs.YtkeipljdhcbfoaaGreat
open Go.Ab

def twoAV (k n : Int) (p : Option Addr) (m c : Nat) (k' n' : Int) (p' : Option Addr) (m' c' : Nat) : AV :=
  .agg [.val (.int .i64 k), .val (.int .i64 n), .val (.slice p m c), .val (.int .i64 k'), .val (.int .i64 n'), .val (.slice p' m' c')]

theorem convNil_run : ∀ (k n : Int) (p : Option Addr) (m c : Nat) (k' n' : Int) (p' : Option Addr) (m' c' : Nat), isTrue (acall Tryz.prog convPrim 100000 61 5 [twoAV k n p m c k' n' p' m' c'] LSt.zero) = true :=
  fun k n p m c k' n' p' m' c' => by kernel_rfl

end Go.Proofs.YtkeipljdhcbfoaaGreat
