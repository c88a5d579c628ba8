/- SplitNone at the other numbers: run by the kernel. -/
import Derived.Test.YtlbmblbeccafcaaGreatAbB6
set_option linter.unusedVariables false
set_option linter.unusedSimpArgs false

namespace Go.Proofs.YtlbmblbeccafcaaGreat
open Go Go.Ab
theorem ev5b : upto (fun n => okB (e5 400 (n + 128))) 128 = true := by kernel_rfl
end Go.Proofs.YtlbmblbeccafcaaGreat
