/- ROWS THAT ARE WRITTEN IN PLACE, of typed data: made, looked at, written, told as a slice. -/
import Derived.Test.YtkeipljdhcbfoaaGreatAbGo
import Derived.Test.YtkeipljdhcbfoaaGreatAbMs
namespace Go.Ab
open Go Go.RowKit

def gmk {α : Type} (B : Int) (d : α) (n : Int) : Option (List α) := if 0 ≤ n ∧ n * B ≤ 140737488355328 then some (List.replicate n.toNat d) else none
def gchk (n : Nat) (i : Int) : Option Nat := if 0 ≤ i ∧ i < n then some i.toNat else none
def gset {α : Type} (l : List α) (k : Nat) (x : α) : Option (List α) := if k < l.length then some (l.set k x) else none
def gfz {α : Type} (n : Nat) (l : List α) : Option (List α) := if l.length = n then some l else none

theorem gfz_spec {α : Type} {n : Nat} {l r : List α} (h : gfz n l = some r) : r = l ∧ n = r.length := by
  unfold gfz at h
  split at h
  · rename_i e; cases h; exact ⟨rfl, e.symm⟩
  · cases h

theorem rep_cells {f : Nat → AV} {s : Nat} (hs : 0 < s) : ∀ n : Nat, (List.range (n * s)).map (fun j => f (j % s)) = (List.replicate n ((List.range s).map f)).flatten
  | 0 => by simp
  | n + 1 => by
    rw [Nat.add_mul, Nat.one_mul, List.range_add, List.map_append, rep_cells hs n, List.replicate_succ', List.flatten_append]
    congr 1
    simp only [List.map_map, List.flatten_cons, List.flatten_nil, List.append_nil]
    apply List.map_congr_left
    intro j hj
    have : j < s := List.mem_range.1 hj
    simp [Function.comp, Nat.add_comm (n * s) j, Nat.mod_eq_of_lt this]

theorem flat_rep {α : Type} {c : α → List AV} {d : α} : ∀ n : Nat, (List.replicate n (c d)).flatten = flat c (List.replicate n d)
  | 0 => rfl
  | n + 1 => by simp only [List.replicate_succ, List.flatten_cons, flat, List.flatMap_cons]; rw [flat_rep n]; rfl

theorem mk_ok {P : Program} {α : Type} {c : α → List AV} {sz : Nat} {t e : TypeId} {ie : TypeInfo} {z : Value} (ht : P.underlying t = some (.slice e)) (hi : P.info? e = some ie) (hs : ie.size = sz) (hz : ie.zero = some z) (hzs : z.cells.size = sz) (h1 : 1 ≤ sz) {B : Nat} (hb : ie.bytes = B) (hB : 1 ≤ B) {d : α}
    (hd : (List.range sz).map (fun j => (ofV 8 (z.cells.getD j undef)).frz) = c d) {n : Int} {l : List α} (h : gmk (B : Int) d n = some l) : Ob.ok P (.mk (amakems P t (ai n) (ai n)) (flat c l) l.length) := by
  unfold gmk at h
  split at h
  · rename_i hc
    cases h
    show amakems P t (ai n) (ai n) = some (flat c (List.replicate n.toNat d), (List.replicate n.toNat d).length)
    unfold amakems
    simp only [ht, hi, hz]
    have hb' : (B : Int) ≥ 1 := by omega
    have hn : n ≤ n * B := by
      have := Int.mul_le_mul_of_nonneg_left hb' hc.1
      simpa using this
    rw [if_pos ⟨trivial, hc.1, by rw [hb]; exact hc.2, by omega, by rw [hzs, hs], by rw [hs]; exact h1⟩]
    simp only [List.length_replicate, Option.some.injEq, Prod.mk.injEq, and_true]
    rw [hs, hzs, rep_cells h1 (f := fun j => (ofV 8 (z.cells.getD j undef)).frz), hd, flat_rep]
  · cases h

theorem chk_ok {P : Program} {t e : TypeId} {ie : TypeInfo} (ht : P.underlying t = some (.slice e)) (hi : P.info? e = some ie) {sz : Nat} (hs : ie.size = sz) {b n k : Nat} {i : Int} (h : gchk n i = some k) :
    aindexAddr P t (.ms b 0 n) (ai i) = some (.mp b (k * sz)) := by
  unfold gchk at h
  split at h
  · rename_i hc
    cases h
    unfold aindexAddr
    simp only [ht, hi]
    rw [if_pos hc, hs, Nat.zero_add]
  · cases h

theorem ld_elem {α : Type} {c : α → List AV} {sz : Nat} (hc : Codec c sz) {l : List α} {k : Nat} {x : α} (h : gidx l (k : Int) = some x) : (flat c l).drop (k * sz) = c x ++ flat c (l.drop (k + 1)) := by
  obtain ⟨_, _, h2⟩ := gidx_spec h
  exact flat_at hc.len (by simpa using h2)

theorem ld_field {α : Type} {c : α → List AV} {sz : Nat} (hc : Codec c sz) {l : List α} {k off : Nat} {x : α} (h : gidx l (k : Int) = some x) : (flat c l).drop (k * sz + off) = (c x ++ flat c (l.drop (k + 1))).drop off := by
  rw [← List.drop_drop, ld_elem hc h]

theorem flat_set {α : Type} {c : α → List AV} {sz : Nat} (hc : ∀ x, (c x).length = sz) : ∀ (l : List α) (k : Nat) (x : α), k < l.length → splice (flat c l) (k * sz) (c x) = flat c (l.set k x)
  | [], k, x, h => by simp at h
  | y :: l, 0, x, h => by
    simp only [splice, Nat.zero_mul, List.take_zero, List.nil_append, Nat.zero_add, flat, List.flatMap_cons, List.set_cons_zero]
    rw [List.drop_left' (by rw [hc, hc])]
  | y :: l, k + 1, x, h => by
    have ih := flat_set hc l k x (by simpa using h)
    simp only [splice, flat] at ih
    simp only [splice, flat, List.flatMap_cons, List.set_cons_succ]
    rw [← ih]
    have e : (k + 1) * sz = sz + k * sz := by rw [Nat.add_mul, Nat.one_mul, Nat.add_comm]
    rw [e, List.take_append, List.take_of_length_le (by rw [hc]; omega), hc, Nat.add_sub_cancel_left, show sz + k * sz + (c x).length = sz + (k * sz + (c x).length) by omega, ← List.drop_drop, List.drop_left' (hc y)]
    simp only [List.append_assoc]

theorem all_one {l : List AV} (h : l.all AV.one = true) : (AV.agg l).sound = true := h

theorem wt_elem {P : Program} {α : Type} {c : α → List AV} {sz : Nat} (hc : Codec c sz) {l l2 : List α} {k : Nat} {x : α} (h : gset l k x = some l2) : Ob.ok P (.wt (flat c l) (k * sz) (.agg (c x)) sz (flat c l2)) := by
  unfold gset at h
  split at h
  · rename_i hk
    cases h
    refine ⟨hc.one x, hc.len x, ?_, flat_set hc.len l k x hk⟩
    rw [flat_len hc.len]
    have := Nat.mul_le_mul_right sz (show k + 1 ≤ l.length from hk)
    rw [Nat.add_mul, Nat.one_mul] at this
    exact this
  · cases h

theorem wt_one {P : Program} {α : Type} {c : α → List AV} {a : α → AV} (hc : Codec c 1) (ha : ∀ x, c x = [a x]) (hs : ∀ x, (a x).sound = true ∧ acells (a x) = [a x]) {l l2 : List α} {k : Nat} {x : α} (h : gset l k x = some l2) : Ob.ok P (.wt (flat c l) (k * 1) (a x) 1 (flat c l2)) := by
  obtain ⟨_, h2, h3, h4⟩ := wt_elem (P := P) hc h
  refine ⟨(hs x).1, by rw [(hs x).2]; rfl, h3, ?_⟩
  rw [(hs x).2]
  have h4' : splice (flat c l) (k * 1) (c x) = flat c l2 := h4
  rw [ha] at h4'
  exact h4'

theorem obMk {P : Program} {x : Option (List AV × Nat)} {cs : List AV} {n : Nat} (h : Ob.ok P (.mk x cs n)) : Ob.ok P (.mk x cs n) := h
theorem obLd {P : Program} {x : Option AV} {a : AV} (h : x = some a) : Ob.ok P (.ld x a) := h

/-- a part up to a bound, which is its capacity's bound too -/
theorem sliceTo3_ok {P : Program} {α : Type} {c : α → List AV} {sz : Nat} (hc : Codec c sz) {t e : TypeId} {ie : TypeInfo} (ht : P.underlying t = some (.slice e)) (hi : P.info? e = some ie) (hs : ie.size = sz) {l r : List α} {b : Int} {k k' : IntKind}
    {o : Own} (h : gsl l 0 b = some r) : aslice P t (.sl (flat c l) l.length o) none (some (.val (.int k b))) (some (.val (.int k' b))) = some (.sl (flat c r) r.length .full) := by
  obtain ⟨_, h1, h2, rfl⟩ := gsl_spec h
  subst hs
  have key : aslice P t (.sl (flat c l) l.length o) none (some (.val (.int k b))) (some (.val (.int k' b))) = some (.sl (flat c (l.take b.toNat)) (l.take b.toNat).length (o.cut 0 b.toNat (Nat.beq b.toNat l.length) (Nat.beq b.toNat b.toNat))) := by
    unfold aslice
    simp only [ht, hi, amx, abound, abound?]
    rw [if_pos ⟨h1, h2⟩]
    simp only [Option.map_some]
    have hbb : (0 ≤ b ∧ b ≤ (b.toNat : Nat)) := ⟨h1, by omega⟩
    rw [if_pos hbb]
    simp only [Option.isSome_some, Option.isNone_some, Bool.false_eq_true, and_false, if_false]
    rw [if_pos (by rw [flat_len hc.len]; simp)]
    simp only [Nat.sub_zero, Nat.zero_mul, List.drop_zero, Bool.true_and]
    rw [flat_take hc.len]
    have hl : (l.take b.toNat).length = b.toNat := by simp; omega
    rw [hl]
  rw [key]
  simp only [Own.cut, Nat.beq_refl, if_true, Int.sub_zero, Int.toNat_zero, List.drop_zero]

end Go.Ab
