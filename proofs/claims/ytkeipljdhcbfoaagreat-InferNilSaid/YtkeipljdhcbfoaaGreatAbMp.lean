/- MAPS FROM TEXTS TO NUMBERS -/
import Derived.Test.YtkeipljdhcbfoaaGreatAbGo
namespace Go.Ab
open Go Go.RowKit

def smapE : List (ByteArray × Int) → Nat → List MapEntry
  | [], _ => []
  | p :: m, c => { key := .string p.1, val := .int .i64 p.2, born := c } :: smapE m (c + 1)
def smap (m : List (ByteArray × Int)) : Blk := .obj (.map ⟨smapE m 0⟩ m.length)
def mget : List (ByteArray × Int) → ByteArray → Int
  | [], _ => 0
  | p :: m, k => if (k == p.1) = true then p.2 else mget m k
def mset : List (ByteArray × Int) → ByteArray → Int → List (ByteArray × Int)
  | [], k, v => [(k, v)]
  | p :: m, k, v => if (k == p.1) = true then (k, v) :: m else p :: mset m k v
def midx : List (ByteArray × Int) → ByteArray → Nat → Option (Nat × Value)
  | [], _, _ => none
  | p :: m, k, i => if (k == p.1) = true then some (i, .int .i64 p.2) else midx m k (i + 1)

theorem smapE_length : ∀ (m : List (ByteArray × Int)) (c : Nat), (smapE m c).length = m.length
  | [], _ => rfl
  | _ :: m, c => by simp [smapE, smapE_length m (c + 1)]

theorem findNow_smap (k : ByteArray) : ∀ (m : List (ByteArray × Int)) (c i : Nat), Instr.findNow .string (.string k) (smapE m c) i = some (midx m k i)
  | [], _, _ => rfl
  | p :: m, c, i => by
    simp only [smapE, Instr.findNow, Instr.sameNow, midx]
    cases hb : (k == p.1) with
    | true => rfl
    | false => simp only [Bool.false_eq_true, if_false]; exact findNow_smap k m (c + 1) (i + 1)

theorem midx_get (k : ByteArray) : ∀ (m : List (ByteArray × Int)) (i : Nat), mval (midx m k i) (.int .i64 0) = ai (mget m k)
  | [], _ => rfl
  | p :: m, i => by
    simp only [midx, mget]
    cases hb : (k == p.1) with
    | true => rfl
    | false => simp only [Bool.false_eq_true, if_false]; exact midx_get k m (i + 1)

theorem midx_set (k : ByteArray) (v : Int) : ∀ (m : List (ByteArray × Int)) (c i : Nat),
    (match midx m k i with
      | some (j, _) => i ≤ j ∧ (smapE m c).modify (j - i) (fun e => { e with key := .string k, val := .int .i64 v }) = smapE (mset m k v) c ∧ (mset m k v).length = m.length
      | none => smapE m c ++ [{ key := .string k, val := .int .i64 v, born := c + m.length }] = smapE (mset m k v) c ∧ (mset m k v).length = m.length + 1)
  | [], c, i => by simp [midx, mset, smapE]
  | p :: m, c, i => by
    simp only [midx, mset]
    cases hb : (k == p.1) with
    | true => simp [smapE]
    | false =>
      simp only [Bool.false_eq_true, if_false]
      have ih := midx_set k v m (c + 1) (i + 1)
      cases hm : midx m k (i + 1) with
      | none =>
        rw [hm] at ih
        simp only at ih ⊢
        refine ⟨?_, by simp [ih.2]⟩
        simp only [smapE, List.cons_append, List.length_cons]
        rw [← ih.1, show c + (m.length + 1) = c + 1 + m.length by omega]
      | some q =>
        obtain ⟨j, u⟩ := q
        rw [hm] at ih
        simp only at ih ⊢
        refine ⟨by omega, ?_, by simp [ih.2.2]⟩
        simp only [smapE]
        rw [show j - i = (j - (i + 1)) + 1 by omega, List.modify_succ_cons, ih.2.1]

variable {P : Program} {t kt et : TypeId} {ie : TypeInfo}

theorem lk_ok (ht : P.underlying t = some (.map kt et)) (hk : P.underlying kt = some .string) (he : P.info? et = some ie) (hz : ie.zero = some (.int .i64 0)) (m : List (ByteArray × Int)) (k : ByteArray) :
    Ob.ok P (.lk t (smap m) (at' k) false (ai (mget m k))) := by
  intro ev i s hl
  unfold alookup
  simp only [ht, at', hk, he, smap] at hl ⊢
  simp only [hl, hz, findNow_smap, plainKey, cond_true, Bool.false_eq_true, if_false, midx_get]

theorem mu_ok (ht : P.underlying t = some (.map kt et)) (hk : P.underlying kt = some .string) (m : List (ByteArray × Int)) (k : ByteArray) (v : Int) :
    Ob.ok P (.mu t (smap m) (at' k) (ai v) (smap (mset m k v))) := by
  intro ev i s hl
  unfold amapUpdate
  simp only [ht, at', ai, hk, smap] at hl ⊢
  simp only [hl, findNow_smap, plainKey, cond_true]
  have h := midx_set k v m 0 0
  cases hm : midx m k 0 with
  | none =>
    rw [hm] at h
    simp only [Nat.zero_add] at h ⊢
    rw [h.2, ← h.1]
    simp
  | some q =>
    obtain ⟨j, u⟩ := q
    rw [hm] at h
    simp only [Nat.sub_zero] at h ⊢
    have e : (⟨smapE m 0⟩ : Array MapEntry).modify j (fun e => { e with key := .string k, val := .int .i64 v }) = ⟨smapE (mset m k v) 0⟩ := by
      apply Array.ext'
      rw [Array.toList_modify]
      exact h.2.1
    rw [h.2.2, e]

def gbyte (s : ByteArray) (i : Int) : Option Int := if 0 ≤ i then (match s[i.toNat]? with | some b => some (b.toNat : Int) | none => none) else none

theorem ixStr_ok {k : IntKind} (ht : P.underlying t = some .string) {s : ByteArray} {i x : Int} (h : gbyte s i = some x) : aindex P t (at' s) (.val (.int k i)) = some (.val (.int .u8 x)) := by
  unfold gbyte at h
  unfold aindex
  simp only [ht, at']
  split at h
  · rename_i h0
    rw [if_pos h0]
    split at h
    · rename_i b hb
      cases h
      rw [hb]
    · cases h
  · cases h

def gsub (s : ByteArray) (a b : Int) : Option ByteArray := if 0 ≤ a ∧ a ≤ b ∧ b ≤ s.size then some (s.extract a.toNat b.toNat) else none

theorem slStr_ok {k k' : IntKind} (ht : P.underlying t = some .string) {s r : ByteArray} {a b : Int} (h : gsub s a b = some r) : aslice P t (at' s) (some (.val (.int k a))) (some (.val (.int k' b))) none = some (at' r) := by
  unfold gsub at h
  split at h
  · rename_i hc
    cases h
    unfold aslice
    simp only [ht, at', abound?, abound]
    rw [if_pos ⟨by omega, hc.2.2⟩]
    simp only
    rw [if_pos ⟨hc.1, by omega⟩]
  · cases h

theorem aints_u8 : ∀ l : List U8, aints (flat u8C l) = some l
  | [] => rfl
  | x :: l => by
    have := aints_u8 l
    unfold flat at this ⊢
    rw [List.flatMap_cons]
    show (aints (l.flatMap u8C)).map (x :: ·) = _
    rw [this]; rfl

theorem cvStr_ok {d e : TypeId} (hs : P.underlying t = some (.slice e)) (hd : P.underlying d = some .string) (he : P.underlying e = some (.int .u8)) (l : List U8) {o : Own} : aconvert P t d (.sl (flat u8C l) l.length o) = some (at' (gstr l)) := by
  unfold aconvert
  simp only [hs, hd, he, aints_u8]
  rfl

end Go.Ab
