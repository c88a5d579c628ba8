/- THE ABSTRACT STATE: values without addresses, a small store, and how they stand to the model's memory. -/
import Derived.Calls
import Derived.Orders
import Derived.Below
namespace Go.Ab
open Go Go.RowKit

/-- who may append in place: nobody; a slice whose capacity is its length; a nil slice; (nobody, and it is not nil;) (nobody, and it lies in the frame;) the holder of a stamp -/
inductive Own where
  | no
  | full
  | nl
  | nn
  | fr
  | st (k sz : Nat)

inductive AV where
  | val (v : Value)
  | agg (cs : List AV)
  | tup (cs : List AV)
  | sl (es : List AV) (n : Nat) (o : Own)
  | ip (es : List AV)
  | mp (b off : Nat)
  | ms (b off n : Nat)
  | obj (b : Nat)
  | clo (f : FuncId) (first caps : List AV)

/-- what a block holds: cells; something else; or the cells of a slice that is written in place (data alone) -/
inductive Blk where
  | cells (cs : List AV)
  | obj (o : Obj)
  | row (cs : List AV)

structure ASt where
  H : Nat → Option Blk
  own : Nat → Bool
  ns : Nat

structure Gh where
  ρ : Nat → Option Nat
  τ : Nat → Option (Nat × Nat × Nat)
  L : Nat → Nat → Prop
  w0 : World
  F : Nat → Prop

/-- What is kept: the blocks of a set are as they were; no block has gone. -/
structure Keep (F : Nat → Prop) (w w' : World) : Prop where
  os : w'.os = w.os
  tape : w'.tape = w.tape
  output : w'.output = w.output
  size : w.heap.size ≤ w'.heap.size
  block : ∀ k, F k → w'.heap[k]? = w.heap[k]?

theorem Keep.refl (F : Nat → Prop) (w : World) : Keep F w w := ⟨rfl, rfl, rfl, Nat.le_refl _, fun _ _ => rfl⟩
theorem Keep.trans {F : Nat → Prop} {a b c : World} (h : Keep F a b) (k : Keep F b c) : Keep F a c :=
  ⟨k.os.trans h.os, k.tape.trans h.tape, k.output.trans h.output, Nat.le_trans h.size k.size, fun i hi => (k.block i hi).trans (h.block i hi)⟩
theorem Keep.mono {F F' : Nat → Prop} {w w' : World} (h : Keep F w w') (hF : ∀ k, F' k → F k) : Keep F' w w' := ⟨h.os, h.tape, h.output, h.size, fun k hk => h.block k (hF k hk)⟩
theorem Keep.of_below {B : Nat} {w w' : World} (h : Below B w w') {F : Nat → Prop} (hF : ∀ k, F k → k < B) : Keep F w w' := ⟨h.os, h.tape, h.output, h.size, fun k hk => h.block k (hF k hk)⟩
theorem Keep.drew {F : Nat → Prop} {a w : World} (h : Keep F a w) : Keep F a w.drew := ⟨h.os, h.tape, h.output, h.size, h.block⟩
theorem Keep.alloc {F : Nat → Prop} {a w : World} (h : Keep F a w) (hF : ∀ k, F k → k < w.heap.size) (o : Obj) : Keep F a (w.alloc o) :=
  h.trans ⟨rfl, rfl, rfl, by simp, fun k hk => Below.heap_alloc _ _ _ (hF k hk)⟩

def OwnOk (G : Gh) (b off m n cap : Nat) : Own → Prop
  | .no => True
  | .full => cap = n
  | .nl => False
  | .nn => True
  | .fr => G.F b
  | .st k sz => (∃ q, G.τ k = some q) ∧ ((n = 0 ∧ cap = 0) ∨ (m = n * sz ∧ ¬ G.F b ∧ G.τ k = some (b, off + m, off + cap * sz)))

def Own.plain : Own → Prop
  | .st _ _ => False
  | .fr => False
  | _ => True

/-- where a slice points -/
def spOf : Value → Option Addr
  | .slice p _ _ => p
  | _ => none

/-- a slice without room may point anywhere, and may have any owner -/
def Own.nil (G : Gh) (p : Option Addr) : Own → Prop
  | .st k _ => ∃ q, G.τ k = some q
  | .nn => ∃ a, p = some a
  | .nl => p = none
  | _ => True

theorem Own.nil.mono {G G' : Gh} {p : Option Addr} {o : Own} (h : o.nil G p) (hτ : ∀ k r, G.τ k = some r → G'.τ k = some r) : o.nil G' p := by
  cases o with
  | no => trivial
  | full => trivial
  | nl => exact h
  | nn => exact h
  | fr => trivial
  | st k sz => obtain ⟨q, hq⟩ := h; exact ⟨q, hτ _ _ hq⟩

mutual
def V (G : Gh) (w : World) : AV → Value → Prop
  | .val v, u => u = v
  | .agg cs, u => ∃ vs : List Value, u = .agg vs.toArray ∧ VL G w cs vs
  | .tup cs, u => ∃ vs : List Value, u = .tuple vs.toArray ∧ VL G w cs vs
  | .sl es n o, u => ∃ cap, n ≤ cap ∧
      ((es = [] ∧ n = 0 ∧ cap = 0 ∧ u = .slice (spOf u) 0 0 ∧ o.nil G (spOf u)) ∨
       ∃ b off, u = .slice (some ⟨b, off, none⟩) n cap ∧ VC G w es b off ∧ OwnOk G b off es.length n cap o)
  | .ip es, u => ∃ b off, u = .pointer (some ⟨b, off, none⟩) ∧ VC G w es b off
  | .mp i off, u => ∃ b, G.ρ i = some b ∧ u = .pointer (some ⟨b, off, none⟩)
  | .ms i off n, u => ∃ b cap, G.ρ i = some b ∧ n ≤ cap ∧ u = .slice (some ⟨b, off, none⟩) n cap
  | .obj i, u => ∃ b, G.ρ i = some b ∧ u = .map (some b)
  | .clo f fs cs, u => ∃ l r : List Value, u = .func (.func f) l.toArray r.toArray ∧ VL G w fs l ∧ VL G w cs r
def VL (G : Gh) (w : World) : List AV → List Value → Prop
  | [], [] => True
  | a :: as, u :: us => V G w a u ∧ VL G w as us
  | _, _ => False
def VC (G : Gh) (w : World) : List AV → Nat → Nat → Prop
  | [], _, _ => True
  | a :: as, b, off => G.L b off ∧ (∃ v, w.cell? ⟨b, off, none⟩ = some v ∧ V G w a v) ∧ VC G w as b (off + 1)
end

/-- One ghost and world later than another. -/
structure Ext (G : Gh) (w : World) (G' : Gh) (w' : World) : Prop where
  ρ : ∀ i b, G.ρ i = some b → G'.ρ i = some b
  τ : ∀ k r, G.τ k = some r → G'.τ k = some r
  L : ∀ b o, G.L b o → G'.L b o
  cell : ∀ b o, G.L b o → w'.cell? ⟨b, o, none⟩ = w.cell? ⟨b, o, none⟩
  w0 : G'.w0 = G.w0
  F : G'.F = G.F
  newL : ∀ b o, G'.L b o → G.L b o ∨ ¬ G.F b

theorem Ext.refl (G : Gh) (w : World) : Ext G w G w :=
  ⟨fun _ _ h => h, fun _ _ h => h, fun _ _ h => h, fun _ _ _ => rfl, rfl, rfl, fun _ _ h => .inl h⟩

theorem Ext.trans {G G₁ G₂ : Gh} {w w₁ w₂ : World} (h : Ext G w G₁ w₁) (k : Ext G₁ w₁ G₂ w₂) : Ext G w G₂ w₂ :=
  ⟨fun i b e => k.ρ i b (h.ρ i b e), fun i b e => k.τ i b (h.τ i b e), fun b o e => k.L b o (h.L b o e),
   fun b o e => (k.cell b o (h.L b o e)).trans (h.cell b o e), k.w0.trans h.w0, k.F.trans h.F, fun b o e => (k.newL b o e).elim (h.newL b o) (fun q => .inr (h.F ▸ q))⟩

theorem OwnOk.mono {G G' : Gh} (hF : G'.F = G.F) (hτ : ∀ k r, G.τ k = some r → G'.τ k = some r) {b off m n cap : Nat} {o : Own}
    (h : OwnOk G b off m n cap o) : OwnOk G' b off m n cap o := by
  cases o with
  | no => trivial
  | full => exact h
  | nl => exact h
  | nn => trivial
  | fr => show G'.F b; rw [hF]; exact h
  | st k sz => exact ⟨h.1.imp fun q => hτ _ _, h.2.imp id fun ⟨h1, h2, h3⟩ => ⟨h1, by rw [hF]; exact h2, hτ _ _ h3⟩⟩

mutual
theorem V.mono {G G' : Gh} {w w' : World} (h : Ext G w G' w') : ∀ (a : AV) (u : Value), V G w a u → V G' w' a u
  | .val v, u, hv => by simpa only [V] using hv
  | .agg cs, u, hv => by
    simp only [V] at hv ⊢
    obtain ⟨vs, rfl, hl⟩ := hv
    exact ⟨vs, rfl, VL.mono h cs vs hl⟩
  | .tup cs, u, hv => by
    simp only [V] at hv ⊢
    obtain ⟨vs, rfl, hl⟩ := hv
    exact ⟨vs, rfl, VL.mono h cs vs hl⟩
  | .sl es n o, u, hv => by
    simp only [V] at hv ⊢
    obtain ⟨cap, hc, hh⟩ := hv
    refine ⟨cap, hc, ?_⟩
    rcases hh with hh | ⟨b, off, hu, hcells, ho⟩
    · exact .inl ⟨hh.1, hh.2.1, hh.2.2.1, hh.2.2.2.1, hh.2.2.2.2.mono h.τ⟩
    · exact .inr ⟨b, off, hu, VC.mono h es b off hcells, ho.mono h.F h.τ⟩
  | .ip es, u, hv => by
    simp only [V] at hv ⊢
    obtain ⟨b, off, hu, hcells⟩ := hv
    exact ⟨b, off, hu, VC.mono h es b off hcells⟩
  | .mp i off, u, hv => by
    simp only [V] at hv ⊢
    obtain ⟨b, hb, hu⟩ := hv
    exact ⟨b, h.ρ _ _ hb, hu⟩
  | .ms i off n, u, hv => by
    simp only [V] at hv ⊢
    obtain ⟨b, cap, hb, hu⟩ := hv
    exact ⟨b, cap, h.ρ _ _ hb, hu⟩
  | .obj i, u, hv => by
    simp only [V] at hv ⊢
    obtain ⟨b, hb, hu⟩ := hv
    exact ⟨b, h.ρ _ _ hb, hu⟩
  | .clo f fs cs, u, hv => by
    simp only [V] at hv ⊢
    obtain ⟨l, r, hu, h1, h2⟩ := hv
    exact ⟨l, r, hu, VL.mono h fs l h1, VL.mono h cs r h2⟩
theorem VL.mono {G G' : Gh} {w w' : World} (h : Ext G w G' w') : ∀ (as : List AV) (us : List Value), VL G w as us → VL G' w' as us
  | [], [], _ => by simp only [VL]
  | a :: as, u :: us, hv => by
    simp only [VL] at hv ⊢
    exact ⟨V.mono h a u hv.1, VL.mono h as us hv.2⟩
  | [], _ :: _, hv => by simp only [VL] at hv
  | _ :: _, [], hv => by simp only [VL] at hv
theorem VC.mono {G G' : Gh} {w w' : World} (h : Ext G w G' w') : ∀ (as : List AV) (b off : Nat), VC G w as b off → VC G' w' as b off
  | [], _, _, _ => by simp only [VC]
  | a :: as, b, off, hv => by
    simp only [VC] at hv ⊢
    obtain ⟨hL, ⟨v, hv, ha⟩, hr⟩ := hv
    exact ⟨h.L _ _ hL, ⟨v, (h.cell _ _ hL).trans hv, V.mono h a v ha⟩, VC.mono h as b (off + 1) hr⟩
end

/-- the first cells of a row are told -/
def VLp (G : Gh) (w : World) (cs : List AV) (l : List Value) : Prop := ∃ us rest, l = us ++ rest ∧ VL G w cs us

theorem VLp.of {G : Gh} {w : World} {cs : List AV} {l : List Value} (h : VL G w cs l) : VLp G w cs l := ⟨l, [], by simp, h⟩
theorem VLp.imp {G G' : Gh} {w w' : World} {cs cs' : List AV} {l : List Value} (h : VLp G w cs l) (k : ∀ us, VL G w cs us → VL G' w' cs' us) : VLp G' w' cs' l := by
  obtain ⟨us, rest, e, hv⟩ := h
  exact ⟨us, rest, e, k us hv⟩

def NoCells : Obj → Prop
  | .cells .. => False
  | _ => True

def BlkOk (G : Gh) (w : World) (b : Nat) : Blk → Prop
  | .cells cs => ∃ vs T, w.heap[b]? = some (.cells vs T (0, 0)) ∧ VLp G w cs vs.toList
  | .obj o => w.heap[b]? = some o ∧ NoCells o
  | .row cs => ∃ vs T, w.heap[b]? = some (.cells vs T (0, 0)) ∧ VLp G w cs vs.toList

structure RelS (G : Gh) (σ : ASt) (w : World) : Prop where
  dom : ∀ i, G.ρ i = none ↔ σ.H i = none
  fin : ∃ N, ∀ i, N ≤ i → σ.H i = none
  inj : ∀ i j b, G.ρ i = some b → G.ρ j = some b → i = j
  blk : ∀ i b X, G.ρ i = some b → σ.H i = some X → ¬ G.F b ∧ BlkOk G w b X
  live : ∀ b o, G.L b o → (∃ v, w.cell? ⟨b, o, none⟩ = some v) ∧ ∀ i, G.ρ i ≠ some b
  τns : ∀ k, σ.ns ≤ k → G.τ k = none
  own : ∀ k, σ.own k = true → ∃ b f t, G.τ k = some (b, f, t) ∧ (t < f ∨ (¬ G.F b ∧ (∀ i, G.ρ i ≠ some b) ∧
    (∀ o, f ≤ o → o < t → ¬ G.L b o) ∧ ∃ vs T, w.heap[b]? = some (.cells vs T (0, 0)) ∧ t ≤ vs.size))
  ownd : ∀ k k' b f t f' t', σ.own k = true → σ.own k' = true → G.τ k = some (b, f, t) → G.τ k' = some (b, f', t') → f < t → f' < t' → k = k'
  below : Keep G.F G.w0 w
  base : ∀ k, G.F k → k < w.heap.size

/- lists of values -/
theorem VL.length {G : Gh} {w : World} : ∀ (as : List AV) (us : List Value), VL G w as us → us.length = as.length
  | [], [], _ => rfl
  | _ :: as, _ :: us, h => by simp only [VL] at h; simp [VL.length as us h.2]
  | [], _ :: _, h => by simp only [VL] at h
  | _ :: _, [], h => by simp only [VL] at h

theorem VL.get {G : Gh} {w : World} : ∀ (as : List AV) (us : List Value), VL G w as us → ∀ (i : Nat) (a : AV), as[i]? = some a → ∃ u, us[i]? = some u ∧ V G w a u
  | [], [], _, i, a, h => by simp at h
  | x :: as, y :: us, h, i, a, ha => by
    simp only [VL] at h
    cases i with
    | zero => simp at ha; subst ha; exact ⟨y, rfl, h.1⟩
    | succ i => simp at ha; simpa using VL.get as us h.2 i a ha
  | [], _ :: _, h, _, _, _ => by simp only [VL] at h
  | _ :: _, [], h, _, _, _ => by simp only [VL] at h

theorem VL.set {G : Gh} {w : World} : ∀ (as : List AV) (us : List Value), VL G w as us → ∀ (i : Nat) (a : AV) (u : Value), V G w a u → VL G w (as.set i a) (us.set i u)
  | [], [], _, i, a, u, _ => by simp [VL]
  | x :: as, y :: us, h, i, a, u, hv => by
    simp only [VL] at h
    cases i with
    | zero => simp only [List.set_cons_zero, VL]; exact ⟨hv, h.2⟩
    | succ i => simp only [List.set_cons_succ, VL]; exact ⟨h.1, VL.set as us h.2 i a u hv⟩
  | [], _ :: _, h, _, _, _, _ => by simp only [VL] at h
  | _ :: _, [], h, _, _, _, _ => by simp only [VL] at h

theorem VL.append {G : Gh} {w : World} : ∀ (as : List AV) (us : List Value) (bs : List AV) (vs : List Value), VL G w as us → VL G w bs vs → VL G w (as ++ bs) (us ++ vs)
  | [], [], _, _, _, k => k
  | a :: as, u :: us, bs, vs, h, k => by
    simp only [VL] at h
    simp only [List.cons_append, VL]
    exact ⟨h.1, VL.append as us bs vs h.2 k⟩
  | [], _ :: _, _, _, h, _ => by simp only [VL] at h
  | _ :: _, [], _, _, h, _ => by simp only [VL] at h

theorem VL.drop {G : Gh} {w : World} : ∀ (as : List AV) (us : List Value) (n : Nat), VL G w as us → VL G w (as.drop n) (us.drop n)
  | as, us, 0, h => by simpa using h
  | [], [], n + 1, _ => by simp [VL]
  | a :: as, u :: us, n + 1, h => by simp only [VL] at h; simpa using VL.drop as us n h.2
  | [], _ :: _, _ + 1, h => by simp only [VL] at h
  | _ :: _, [], _ + 1, h => by simp only [VL] at h

theorem VL.take {G : Gh} {w : World} : ∀ (as : List AV) (us : List Value) (n : Nat), VL G w as us → VL G w (as.take n) (us.take n)
  | as, us, 0, h => by simp [VL]
  | [], [], n + 1, _ => by simp [VL]
  | a :: as, u :: us, n + 1, h => by
    simp only [VL] at h; simp only [List.take_succ_cons, VL]; exact ⟨h.1, VL.take as us n h.2⟩
  | [], _ :: _, _ + 1, h => by simp only [VL] at h
  | _ :: _, [], _ + 1, h => by simp only [VL] at h

theorem VC.drop {G : Gh} {w : World} : ∀ (as : List AV) (b off n : Nat), VC G w as b off → VC G w (as.drop n) b (off + n)
  | as, b, off, 0, h => by simpa using h
  | [], b, off, n + 1, _ => by simp [VC]
  | a :: as, b, off, n + 1, h => by
    simp only [VC] at h
    have := VC.drop as b (off + 1) n h.2.2
    simp only [List.drop_succ_cons]
    rwa [show off + (n + 1) = off + 1 + n by omega]

theorem VC.take {G : Gh} {w : World} : ∀ (as : List AV) (b off n : Nat), VC G w as b off → VC G w (as.take n) b off
  | as, b, off, 0, h => by simp [VC]
  | [], b, off, n + 1, _ => by simp [VC]
  | a :: as, b, off, n + 1, h => by
    simp only [VC] at h
    simp only [List.take_succ_cons, VC]
    exact ⟨h.1, h.2.1, VC.take as b (off + 1) n h.2.2⟩

theorem VC.append {G : Gh} {w : World} : ∀ (as bs : List AV) (b off : Nat), VC G w as b off → VC G w bs b (off + as.length) → VC G w (as ++ bs) b off
  | [], bs, b, off, _, k => by simpa using k
  | a :: as, bs, b, off, h, k => by
    simp only [VC] at h
    simp only [List.cons_append, VC]
    exact ⟨h.1, h.2.1, VC.append as bs b (off + 1) h.2.2 (by simpa [Nat.add_assoc, Nat.add_comm 1] using k)⟩

theorem VC.cell {G : Gh} {w : World} : ∀ (as : List AV) (b off i : Nat) (a : AV), VC G w as b off → as[i]? = some a →
    G.L b (off + i) ∧ ∃ v, w.cell? ⟨b, off + i, none⟩ = some v ∧ V G w a v
  | [], _, _, i, a, _, h => by simp at h
  | x :: as, b, off, i, a, h, ha => by
    simp only [VC] at h
    cases i with
    | zero => simp at ha; subst ha; exact ⟨h.1, h.2.1⟩
    | succ i =>
      simp at ha
      have := VC.cell as b (off + 1) i a h.2.2 ha
      rwa [show off + 1 + i = off + (i + 1) by omega] at this

theorem VLp.le {G : Gh} {w : World} {cs : List AV} {l : List Value} (h : VLp G w cs l) : cs.length ≤ l.length := by
  obtain ⟨us, rest, rfl, hv⟩ := h
  have := VL.length _ _ hv
  simp; omega

theorem VLp.get {G : Gh} {w : World} {cs : List AV} {l : List Value} (h : VLp G w cs l) (i : Nat) (a : AV) (ha : cs[i]? = some a) : ∃ u, l[i]? = some u ∧ V G w a u := by
  obtain ⟨us, rest, rfl, hv⟩ := h
  obtain ⟨u, h1, h2⟩ := VL.get _ _ hv i a ha
  exact ⟨u, by rw [List.getElem?_append_left (List.getElem?_eq_some_iff.1 h1).1]; exact h1, h2⟩

theorem VLp.set {G : Gh} {w : World} {cs : List AV} {l : List Value} (h : VLp G w cs l) (i : Nat) (hi : i < cs.length) (a : AV) (u : Value) (hu : V G w a u) : VLp G w (cs.set i a) (l.set i u) := by
  obtain ⟨us, rest, rfl, hv⟩ := h
  have := VL.length _ _ hv
  exact ⟨us.set i u, rest, by rw [List.set_append_left i u (by omega)], VL.set _ _ hv i a u hu⟩

theorem VLp.drop {G : Gh} {w : World} {cs : List AV} {l : List Value} (h : VLp G w cs l) (n : Nat) : VLp G w (cs.drop n) (l.drop n) := by
  obtain ⟨us, rest, rfl, hv⟩ := h
  have := VL.length _ _ hv
  rcases Nat.lt_or_ge us.length n with e | e
  · refine ⟨[], _, rfl, ?_⟩
    rw [List.drop_eq_nil_of_le (by omega)]; simp only [VL]
  · exact ⟨us.drop n, rest, by rw [List.drop_append_of_le_length e], VL.drop _ _ n hv⟩

theorem VLp.take {G : Gh} {w : World} {cs : List AV} {l : List Value} (h : VLp G w cs l) (n : Nat) (hn : n ≤ cs.length) : VL G w (cs.take n) (l.take n) := by
  obtain ⟨us, rest, rfl, hv⟩ := h
  have := VL.length _ _ hv
  rw [List.take_append_of_le_length (by omega)]
  exact VL.take _ _ n hv

/-- the cells of a row, read one by one -/
theorem VC.cells {G : Gh} {w : World} : ∀ (as : List AV) (b off : Nat), VC G w as b off →
    ∃ vs : List Value, VL G w as vs ∧ ∀ i (h : i < vs.length), w.cell? ⟨b, off + i, none⟩ = some vs[i]
  | [], _, _, _ => ⟨[], by simp [VL], fun i h => by simp at h⟩
  | x :: as, b, off, h => by
    simp only [VC] at h
    obtain ⟨_, ⟨v, hv, hx⟩, hr⟩ := h
    obtain ⟨vs, h1, h2⟩ := VC.cells as b (off + 1) hr
    refine ⟨v :: vs, by simp only [VL]; exact ⟨hx, h1⟩, fun i hi => ?_⟩
    cases i with
    | zero => simpa using hv
    | succ i =>
      have := h2 i (by simpa using hi)
      simpa [show off + (i + 1) = off + 1 + i by omega] using this

theorem VC.of_cells {G : Gh} {w : World} : ∀ (as : List AV) (vs : List Value) (b off : Nat), VL G w as vs → (∀ i, i < vs.length → G.L b (off + i)) →
    (∀ i (h : i < vs.length), w.cell? ⟨b, off + i, none⟩ = some vs[i]) → VC G w as b off
  | [], _, _, _, _, _, _ => by simp [VC]
  | a :: as, [], _, _, h, _, _ => by simp only [VL] at h
  | a :: as, v :: vs, b, off, h, hL, hc => by
    simp only [VL] at h
    simp only [VC]
    refine ⟨by simpa using hL 0 (by simp), ⟨v, hc 0 (Nat.succ_pos _), h.1⟩, VC.of_cells as vs b (off + 1) h.2 (fun i hi => ?_) (fun i hi => ?_)⟩
    · have := hL (i + 1) (by simpa using hi)
      rwa [show off + 1 + i = off + (i + 1) by omega]
    · have := hc (i + 1) (by simpa using hi)
      simpa [show off + 1 + i = off + (i + 1) by omega] using this

end Go.Ab
