/- LISTS OF NUMBERS, rising, each once: as slices.Sort and slices.Compact make them, and in a form that the kernel can run. -/
import Derived.Lib.SlicesCompact
namespace Go.Ab
open Go.Lib

def isert (x : Int) : List Int → List Int
  | [] => [x]
  | y :: l => if x ≤ y then x :: y :: l else y :: isert x l
def isort : List Int → List Int
  | [] => []
  | x :: l => isert x (isort l)
def cpct : List Int → List Int
  | [] => []
  | x :: l => match l with
    | [] => [x]
    | y :: _ => if x = y then cpct l else x :: cpct l
def rise (l : List Int) : List Int := cpct (isort l)

theorem isert_perm (x : Int) : ∀ l, (isert x l).Perm (x :: l)
  | [] => .refl _
  | y :: l => by
    simp only [isert]
    split
    · exact .refl _
    · exact ((isert_perm x l).cons y).trans (.swap x y l)
theorem isort_perm : ∀ l, (isort l).Perm l
  | [] => .refl _
  | x :: l => (isert_perm x (isort l)).trans ((isort_perm l).cons x)
theorem isert_sorted (x : Int) : ∀ l, l.Pairwise (· ≤ ·) → (isert x l).Pairwise (· ≤ ·)
  | [], _ => by simp [isert]
  | y :: l, h => by
    simp only [isert]
    rw [List.pairwise_cons] at h
    split
    · rename_i hxy
      rw [List.pairwise_cons]
      refine ⟨fun z hz => ?_, List.pairwise_cons.2 h⟩
      rcases List.mem_cons.1 hz with rfl | hz
      · exact hxy
      · exact Int.le_trans hxy (h.1 z hz)
    · rename_i hxy
      rw [List.pairwise_cons]
      refine ⟨fun z hz => ?_, isert_sorted x l h.2⟩
      rcases List.mem_cons.1 ((isert_perm x l).mem_iff.1 hz) with rfl | hz
      · omega
      · exact h.1 z hz
theorem isort_sorted : ∀ l, (isort l).Pairwise (· ≤ ·)
  | [] => .nil
  | x :: l => isert_sorted x _ (isort_sorted l)

theorem mergeSort_isort (l : List Int) : l.mergeSort (fun x y => decide (x ≤ y)) = isort l := by
  have h1 : (l.mergeSort (fun x y => decide (x ≤ y))).Perm (isort l) := (List.mergeSort_perm l _).trans (isort_perm l).symm
  have h2 : (l.mergeSort (fun x y => decide (x ≤ y))).Pairwise (· ≤ ·) := by
    have := List.pairwise_mergeSort (le := fun (x y : Int) => decide (x ≤ y)) (fun a b c h1 h2 => by simp only [decide_eq_true_eq] at *; omega) (fun a b => by simp only [Bool.or_eq_true, decide_eq_true_eq]; omega) l
    exact this.imp fun h => by simpa using h
  exact h1.eq_of_pairwise (fun a b _ _ h1 h2 => Int.le_antisymm h1 h2) h2 (isort_sorted l)

theorem cpct_cons2 (x y : Int) (l : List Int) : cpct (x :: y :: l) = if x = y then cpct (y :: l) else x :: cpct (y :: l) := rfl

theorem cpct_snoc (x : Int) : ∀ l : List Int, cpct (l ++ [x]) = if l = [] ∨ l.getLast? ≠ some x then cpct l ++ [x] else cpct l
  | [] => by simp [cpct]
  | [y] => by
    show cpct (y :: x :: []) = _
    rw [cpct_cons2]
    by_cases h : y = x
    · subst h; simp [cpct]
    · simp [h, cpct]
  | y :: z :: l => by
    have ih := cpct_snoc x (z :: l)
    show cpct (y :: z :: (l ++ [x])) = _
    rw [cpct_cons2, cpct_cons2]
    simp only [List.cons_append] at ih
    rw [ih]
    have e : (y :: z :: l).getLast? = (z :: l).getLast? := by simp [List.getLast?_cons_cons]
    rw [e]
    by_cases h : y = z
    · simp only [h, if_true]
      split <;> split <;> simp_all
    · simp only [h, if_false]
      split <;> split <;> simp_all

theorem compact_cpct (zs : List Int) : ∀ m, m ≤ zs.length → compactUpTo zs.toArray m = cpct (zs.take m)
  | 0, _ => by simp [compactUpTo, cpct]
  | m + 1, h => by
    rw [compactUpTo_succ, compact_cpct zs m (by omega), List.take_succ_eq_append_getElem (by omega), cpct_snoc]
    have hm : zs.toArray[m]! = zs[m] := by simp [show m < zs.length by omega]
    rcases Nat.eq_zero_or_pos m with rfl | hpos
    · simp [keeps, cpct, show 0 < zs.length by omega]
    · have hl : (zs.take m).getLast? = some zs[m - 1] := by
        rw [List.getLast?_eq_getElem?, List.length_take, Nat.min_eq_left (show m ≤ zs.length by omega), List.getElem?_take_of_lt (show m - 1 < m by omega), List.getElem?_eq_getElem (show m - 1 < zs.length by omega)]
      have hm' : zs.toArray[m - 1]! = zs[m - 1] := by simp [show m - 1 < zs.length by omega]
      have hne : ¬ zs.take m = [] := by
        intro e
        have := congrArg List.length e
        rw [List.length_take, Nat.min_eq_left (show m ≤ zs.length by omega), List.length_nil] at this
        omega
      rw [hl]
      simp only [hne, false_or, ne_eq, Option.some.injEq]
      by_cases e : zs[m] = zs[m - 1]
      · rw [keeps_neg hpos (by rw [hm, hm', e])]
        simp [e]
      · rw [keeps_pos (by rw [hm, hm']; exact e)]
        have e' : ¬ zs[m - 1] = zs[m] := fun h => e h.symm
        simp [e', hm]

theorem sort_rise (l : List Int) : compactUpTo (l.mergeSort fun x y => decide (x ≤ y)).toArray (l.mergeSort fun x y => decide (x ≤ y)).toArray.size = rise l := by
  rw [mergeSort_isort]
  have := compact_cpct (isort l) (isort l).length (Nat.le_refl _)
  rw [List.take_length] at this
  simpa [rise] using this

theorem cpct_len : ∀ l : List Int, (cpct l).length ≤ l.length
  | [] => by simp [cpct]
  | [x] => by simp [cpct]
  | x :: y :: l => by
    rw [cpct_cons2]
    have := cpct_len (y :: l)
    split
    · simp at this ⊢; omega
    · simp at this ⊢; omega

theorem rise_len (l : List Int) : (rise l).length ≤ l.length := by
  have := cpct_len (isort l)
  rw [(isort_perm l).length_eq] at this
  exact this

end Go.Ab
