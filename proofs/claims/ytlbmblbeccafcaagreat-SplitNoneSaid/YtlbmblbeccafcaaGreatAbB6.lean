/- SplitNone at the first numbers: run by the kernel. -/
import Derived.Test.YtlbmblbeccafcaaGreatAbB5
set_option linter.unusedVariables false
set_option linter.unusedSimpArgs false

namespace Go.Proofs.YtlbmblbeccafcaaGreat
open Go Go.Ab
def okB : Option Bool → Bool
  | some true => true
  | _ => false
def upto (f : Int → Bool) : Nat → Bool
  | 0 => true
  | n + 1 => bif f (Int.ofNat n) then upto f n else false
theorem okB_spec {x : Option Bool} (h : okB x = true) : x = some true := by
  unfold okB at h
  split at h
  · rfl
  · cases h
theorem upto_spec {f : Int → Bool} : ∀ {n : Nat}, upto f n = true → ∀ x : Int, 0 ≤ x → x < n → f x = true
  | 0, _, x, h0, h1 => by omega
  | n + 1, h, x, h0, h1 => by
    simp only [upto] at h
    cases hf : f (Int.ofNat n) with
    | false => rw [hf] at h; cases h
    | true =>
      rw [hf] at h
      by_cases e : x = n
      · subst e; exact hf
      · exact upto_spec h x h0 (by omega)
theorem ev5a : upto (fun n => okB (e5 400 n)) 128 = true := by kernel_rfl
end Go.Proofs.YtlbmblbeccafcaaGreat
