/- ConvNil: the law's own check that the program answers comes to true. No condition. -/
import Derived.Test.YtkeipljdhcbfoaaGreatAbSeat
import Derived.Test.YtkeipljdhcbfoaaGreatAbClosed
namespace Go.Proofs.YtkeipljdhcbfoaaGreat
open Go.Ab

theorem convNil_awake : isTrue (acall Tryz.prog prim 100000 61 31 [] LSt.zero) = true := by kernel_rfl

def convPrim : FuncId → List AV → LSt → Option LA := known 31 (.bool true) prim

theorem convPrim_ok : CallsOk Tryz.prog convPrim := known_ok mixed hng prim_ok Tryz.func31 (by kernel_rfl) rfl convNil_awake
end Go.Proofs.YtkeipljdhcbfoaaGreat
