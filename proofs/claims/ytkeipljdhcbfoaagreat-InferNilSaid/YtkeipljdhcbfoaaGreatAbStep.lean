/- THE STEPS OF THE ABSTRACT STATE: a new block, a store, a draw, an append in place. -/
import Derived.Test.YtkeipljdhcbfoaaGreatAbCore
import Derived.Laws.CopyRow
namespace Go.Ab
open Go Go.RowKit

theorem BlkOk.lt {G : Gh} {w : World} {b : Nat} {X : Blk} (hX : BlkOk G w b X) : b < w.heap.size := by
  cases X with
  | cells cs => obtain ⟨vs, T, hh, _⟩ := hX; exact (Array.getElem?_eq_some_iff.1 hh).1
  | obj o => exact (Array.getElem?_eq_some_iff.1 hX.1).1
  | row cs => obtain ⟨vs, T, hh, _⟩ := hX; exact (Array.getElem?_eq_some_iff.1 hh).1

theorem RelS.has {G : Gh} {σ : ASt} {w : World} (h : RelS G σ w) {i b : Nat} (hi : G.ρ i = some b) : ∃ X, σ.H i = some X := by
  cases hX : σ.H i with
  | none => rw [(h.dom i).2 hX] at hi; cases hi
  | some X => exact ⟨X, rfl⟩

theorem RelS.look {G : Gh} {σ : ASt} {w : World} (h : RelS G σ w) {i : Nat} {X : Blk} (hi : σ.H i = some X) : ∃ b, G.ρ i = some b ∧ ¬ G.F b ∧ BlkOk G w b X := by
  cases hb : G.ρ i with
  | none => rw [(h.dom i).1 hb] at hi; cases hi
  | some b => exact ⟨b, rfl, h.blk i b X hb hi⟩

theorem RelS.fnew {G : Gh} {σ : ASt} {w : World} (h : RelS G σ w) : ¬ G.F w.heap.size := fun hF => Nat.lt_irrefl _ (h.base _ hF)

theorem RelS.ρ_lt {G : Gh} {σ : ASt} {w : World} (h : RelS G σ w) {i b : Nat} (hi : G.ρ i = some b) : b < w.heap.size := by
  obtain ⟨X, hX⟩ := h.has hi
  exact (h.blk i b X hi hX).2.lt

theorem RelS.L_lt {G : Gh} {σ : ASt} {w : World} (h : RelS G σ w) {b o : Nat} (hL : G.L b o) : b < w.heap.size := by
  obtain ⟨⟨v, hv⟩, _⟩ := h.live b o hL
  exact World.block_lt_of_cell? w ⟨b, o, none⟩ hv

theorem BlkOk.mono {G G' : Gh} {w w' : World} (h : Ext G w G' w') {b : Nat} (hb : w'.heap[b]? = w.heap[b]?) {X : Blk} (hX : BlkOk G w b X) : BlkOk G' w' b X := by
  cases X with
  | cells cs => obtain ⟨vs, T, hh, hl⟩ := hX; exact ⟨vs, T, hb.trans hh, hl.imp (VL.mono h _)⟩
  | obj o => exact ⟨hb.trans hX.1, hX.2⟩
  | row cs => obtain ⟨vs, T, hh, hl⟩ := hX; exact ⟨vs, T, hb.trans hh, hl.imp (VL.mono h _)⟩

def up {α : Type} (f : Nat → Option α) (i : Nat) (x : α) : Nat → Option α := fun j => if j = i then some x else f j
theorem up_same {α : Type} (f : Nat → Option α) (i : Nat) (x : α) : up f i x i = some x := by simp [up]
theorem up_ne {α : Type} (f : Nat → Option α) {i j : Nat} (x : α) (h : j ≠ i) : up f i x j = f j := by simp [up, h]
theorem up_some {α : Type} {f : Nat → Option α} {i j : Nat} {x y : α} (h : up f i x j = some y) : (j = i ∧ y = x) ∨ (j ≠ i ∧ f j = some y) := by
  by_cases hj : j = i
  · subst hj; rw [up_same] at h; cases h; exact .inl ⟨rfl, rfl⟩
  · rw [up_ne f x hj] at h; exact .inr ⟨hj, h⟩
theorem up_old {α : Type} {f : Nat → Option α} {i j : Nat} {x y : α} (hi : f i = none) (h : f j = some y) : up f i x j = some y := by
  rw [up_ne]; exact h
  rintro rfl; rw [hi] at h; cases h

def Gh.addρ (G : Gh) (i b : Nat) : Gh := { G with ρ := up G.ρ i b }
def Gh.addL (G : Gh) (b lo hi : Nat) : Gh := { G with L := fun c o => G.L c o ∨ (c = b ∧ lo ≤ o ∧ o < hi) }
def Gh.addτ (G : Gh) (k : Nat) (r : Nat × Nat × Nat) : Gh := { G with τ := up G.τ k r }

theorem heap_alloc_lt (w : World) (o : Obj) {k : Nat} (h : k < w.heap.size) : (w.alloc o).heap[k]? = w.heap[k]? := Below.heap_alloc w o k h
theorem heap_alloc_new (w : World) (o : Obj) : (w.alloc o).heap[w.heap.size]? = some o := by
  show (w.heap.push o)[w.heap.size]? = _
  simp

theorem Ext.alloc {G : Gh} {σ : ASt} {w : World} (h : RelS G σ w) (o : Obj) {i : Nat} (hi : σ.H i = none) : Ext G w (G.addρ i w.heap.size) (w.alloc o) :=
  ⟨fun _ _ e => up_old ((h.dom i).2 hi) e, fun _ _ e => e, fun _ _ e => e,
   fun b o' e => World.cell?_alloc_lt w _ ⟨b, o', none⟩ (h.L_lt e), rfl, rfl, fun _ _ e => .inl e⟩

/-- a new block of the state's own -/
theorem RelS.alloc {G : Gh} {σ : ASt} {w : World} (h : RelS G σ w) (o : Obj) (X : Blk) {i : Nat} (hi : σ.H i = none)
    (hn : BlkOk (G.addρ i w.heap.size) (w.alloc o) w.heap.size X) :
    RelS (G.addρ i w.heap.size) ⟨up σ.H i X, σ.own, σ.ns⟩ (w.alloc o) := by
  have hE := Ext.alloc h o hi
  refine ⟨?_, ?_, ?_, ?_, ?_, h.τns, ?_, h.ownd, h.below.alloc h.base _, fun k hk => Nat.lt_of_lt_of_le (h.base k hk) (by simp)⟩
  · intro j
    by_cases hj : j = i
    · subst hj; simp [Gh.addρ, up]
    · simp only [Gh.addρ]; rw [up_ne _ _ hj, up_ne _ _ hj]; exact h.dom j
  · obtain ⟨N, hN⟩ := h.fin
    refine ⟨max N (i + 1), fun j hj => ?_⟩
    show up σ.H i X j = none
    rw [up_ne _ _ (by omega)]; exact hN j (by omega)
  · intro j k b hj hk
    rcases up_some hj with ⟨e1, e2⟩ | ⟨_, hj⟩ <;> rcases up_some hk with ⟨e3, e4⟩ | ⟨_, hk⟩
    · omega
    · have := h.ρ_lt hk; omega
    · have := h.ρ_lt hj; omega
    · exact h.inj j k b hj hk
  · intro j b Y hj hY
    rcases up_some hj with ⟨rfl, rfl⟩ | ⟨hne, hj⟩
    · simp only [up_same, Option.some.injEq] at hY; subst hY; exact ⟨h.fnew, hn⟩
    · rw [show (⟨up σ.H i X, σ.own, σ.ns⟩ : ASt).H j = σ.H j from up_ne _ _ hne] at hY
      obtain ⟨h1, h3⟩ := h.blk j b Y hj hY
      exact ⟨h1, BlkOk.mono hE (heap_alloc_lt w o (h.ρ_lt hj)) h3⟩
  · intro b o' hL
    replace hL : G.L b o' := hL
    obtain ⟨⟨v, hv⟩, h2⟩ := h.live b o' hL
    refine ⟨⟨v, (World.cell?_alloc_lt w _ _ (h.L_lt hL)).trans hv⟩, fun j hj => ?_⟩
    rcases up_some hj with ⟨_, e⟩ | ⟨_, hj⟩
    · have := h.L_lt hL; omega
    · exact h2 j hj
  · intro k hk
    obtain ⟨b, f, t, h1, h2 | ⟨h2, h3, h4, vs, T, h5, h6⟩⟩ := h.own k hk
    · exact ⟨b, f, t, h1, .inl h2⟩
    have hlt : b < w.heap.size := (Array.getElem?_eq_some_iff.1 h5).1
    refine ⟨b, f, t, h1, .inr ⟨h2, fun j hj => ?_, h4, vs, T, (heap_alloc_lt w o hlt).trans h5, h6⟩⟩
    rcases up_some hj with ⟨_, e⟩ | ⟨_, hj⟩
    · omega
    · exact h3 j hj

theorem RelS.alloc_cells {G : Gh} {σ : ASt} {w : World} (h : RelS G σ w) (cs : List AV) (vs : List Value) (T : TypeId) (hv : VL G w cs vs) {i : Nat} (hi : σ.H i = none) :
    RelS (G.addρ i w.heap.size) ⟨up σ.H i (.cells cs), σ.own, σ.ns⟩ (w.alloc (.cells vs.toArray T)) :=
  h.alloc _ (.cells cs) hi ⟨vs.toArray, T, heap_alloc_new w _, by simpa using VLp.of (VL.mono (Ext.alloc h _ hi) _ _ hv)⟩

theorem RelS.alloc_row {G : Gh} {σ : ASt} {w : World} (h : RelS G σ w) (cs : List AV) (vs : List Value) (T : TypeId) (hv : VL G w cs vs) {i : Nat} (hi : σ.H i = none) :
    RelS (G.addρ i w.heap.size) ⟨up σ.H i (.row cs), σ.own, σ.ns⟩ (w.alloc (.cells vs.toArray T)) :=
  h.alloc _ (.row cs) hi ⟨vs.toArray, T, heap_alloc_new w _, by simpa using VLp.of (VL.mono (Ext.alloc h _ hi) _ _ hv)⟩

theorem RelS.alloc_obj {G : Gh} {σ : ASt} {w : World} (h : RelS G σ w) (o : Obj) (ho : NoCells o) {i : Nat} (hi : σ.H i = none) :
    RelS (G.addρ i w.heap.size) ⟨up σ.H i (.obj o), σ.own, σ.ns⟩ (w.alloc o) :=
  h.alloc _ (.obj o) hi ⟨heap_alloc_new w _, ho⟩

/-- a draw -/
theorem Ext.drew (G : Gh) (w : World) : Ext G w G w.drew := ⟨fun _ _ e => e, fun _ _ e => e, fun _ _ e => e, fun _ _ _ => rfl, rfl, rfl, fun _ _ e => .inl e⟩
theorem RelS.drew {G : Gh} {σ : ASt} {w : World} (h : RelS G σ w) : RelS G σ w.drew := by
  refine ⟨h.dom, h.fin, h.inj, fun i b X hi hX => ?_, h.live, h.τns, h.own, h.ownd, h.below.drew, h.base⟩
  obtain ⟨h1, h3⟩ := h.blk i b X hi hX
  exact ⟨h1, BlkOk.mono (Ext.drew G w) rfl h3⟩

/-- stamps: one is used up (or none), a new one is given -/
def ASt.stamp (σ : ASt) (use : Option Nat) (new : Bool) : ASt :=
  ⟨σ.H, fun k => if k = σ.ns ∧ new = true then true else if use = some k then false else σ.own k, if new then σ.ns + 1 else σ.ns⟩

theorem RelS.own_lt {G : Gh} {σ : ASt} {w : World} (h : RelS G σ w) {k : Nat} (hk : σ.own k = true) : k < σ.ns := by
  obtain ⟨b, f, t, h1, _⟩ := h.own k hk
  rcases Nat.lt_or_ge k σ.ns with e | e
  · exact e
  · rw [h.τns k e] at h1; cases h1

/-- a new block whose first cells are read from now on, and whose rest may be appended to -/
theorem RelS.alloc_live {G : Gh} {σ : ASt} {w : World} (h : RelS G σ w) (cs : List AV) (vs rest : List Value) (T : TypeId) (hv : VL G w cs vs) :
    let G' := ((G.addL w.heap.size 0 vs.length).addτ σ.ns (w.heap.size, vs.length, vs.length + rest.length))
    let w' := w.alloc (.cells (vs ++ rest).toArray T)
    Ext G w G' w' ∧ RelS G' (σ.stamp none true) w' ∧ VC G' w' cs w.heap.size 0 := by
  intro G' w'
  have hcell : ∀ i (hi : i < vs.length), w'.cell? ⟨w.heap.size, i, none⟩ = some vs[i] := by
    intro i hi
    show (w.alloc _).cell? _ = _
    rw [World.cell?_alloc_new]
    simp [List.getElem?_append_left hi, hi]
  have hE : Ext G w G' w' := ⟨fun _ _ e => e, fun _ _ e => up_old (h.τns _ (Nat.le_refl _)) e, fun _ _ e => .inl e,
    fun b o e => World.cell?_alloc_lt w _ ⟨b, o, none⟩ (h.L_lt e), rfl, rfl, fun _ _ e => e.elim .inl fun q => .inr (by rw [q.1]; exact h.fnew)⟩
  refine ⟨hE, ⟨h.dom, h.fin, h.inj, ?_, ?_, ?_, ?_, ?_, h.below.alloc h.base _, fun k hk => Nat.lt_of_lt_of_le (h.base k hk) (show w.heap.size ≤ (w.alloc _).heap.size by simp)⟩, ?_⟩
  · intro i b X hi hX
    obtain ⟨h1, h3⟩ := h.blk i b X hi hX
    exact ⟨h1, BlkOk.mono hE (heap_alloc_lt w _ (h.ρ_lt hi)) h3⟩
  · intro b o hL
    rcases hL with hL | ⟨rfl, _, hlt⟩
    · obtain ⟨⟨v, hv⟩, h2⟩ := h.live b o hL
      exact ⟨⟨v, (World.cell?_alloc_lt w _ _ (h.L_lt hL)).trans hv⟩, h2⟩
    · exact ⟨⟨_, hcell o hlt⟩, fun i hi => absurd (h.ρ_lt hi) (Nat.lt_irrefl _)⟩
  · intro k hk
    have hk' : σ.ns + 1 ≤ k := by simpa [ASt.stamp] using hk
    show up G.τ σ.ns _ k = none
    rw [up_ne _ _ (by omega)]; exact h.τns k (by omega)
  · intro k hk
    by_cases e : k = σ.ns
    · subst e
      refine ⟨w.heap.size, vs.length, vs.length + rest.length, up_same _ _ _, .inr ⟨h.fnew, fun i hi => absurd (h.ρ_lt hi) (Nat.lt_irrefl _), fun o ho _ hL => ?_, (vs ++ rest).toArray, T, heap_alloc_new w _, by simp⟩⟩
      rcases hL with hL | ⟨_, _, hlt⟩
      · exact absurd (h.L_lt hL) (Nat.lt_irrefl _)
      · omega
    · have hk' : σ.own k = true := by simpa [ASt.stamp, e] using hk
      obtain ⟨b, f, t, h1, h2 | ⟨h2, h3, h4, vs', T', h5, h6⟩⟩ := h.own k hk'
      · exact ⟨b, f, t, (up_ne _ _ e).trans h1, .inl h2⟩
      have hlt : b < w.heap.size := (Array.getElem?_eq_some_iff.1 h5).1
      refine ⟨b, f, t, (up_ne _ _ e).trans h1, .inr ⟨h2, h3, fun o ho ht hL => ?_, vs', T', (heap_alloc_lt w _ hlt).trans h5, h6⟩⟩
      rcases hL with hL | ⟨e, _, _⟩
      · exact h4 o ho ht hL
      · omega
  · have key : ∀ k b f t, k ≠ σ.ns → (σ.stamp none true).own k = true → G'.τ k = some (b, f, t) → f < t → b < w.heap.size ∧ σ.own k = true ∧ G.τ k = some (b, f, t) := by
      intro k b f t e hk ht hft
      have hk' : σ.own k = true := by simpa [ASt.stamp, e] using hk
      have ht' : G.τ k = some (b, f, t) := (up_ne _ _ e).symm.trans ht
      obtain ⟨b', f'', t'', q1, q2 | ⟨q2, q3, q4, vs', T', q5, q6⟩⟩ := h.own k hk'
      · rw [ht'] at q1; cases q1; omega
      rw [ht'] at q1; cases q1
      exact ⟨(Array.getElem?_eq_some_iff.1 q5).1, hk', ht'⟩
    intro k k' b f t f' t' hk hk' ht ht' hl hl'
    by_cases e : k = σ.ns <;> by_cases e' : k' = σ.ns
    · omega
    · subst e
      have : G'.τ σ.ns = some (w.heap.size, vs.length, vs.length + rest.length) := up_same _ _ _
      rw [this] at ht; cases ht
      exact absurd (key k' _ _ _ e' hk' ht' hl').1 (Nat.lt_irrefl _)
    · subst e'
      have : G'.τ σ.ns = some (w.heap.size, vs.length, vs.length + rest.length) := up_same _ _ _
      rw [this] at ht'; cases ht'
      exact absurd (key k _ _ _ e hk ht hl).1 (Nat.lt_irrefl _)
    · obtain ⟨_, q1, q2⟩ := key k _ _ _ e hk ht hl
      obtain ⟨_, q3, q4⟩ := key k' _ _ _ e' hk' ht' hl'
      exact h.ownd k k' b f t f' t' q1 q3 q2 q4 hl hl'
  · refine VC.of_cells cs vs _ _ (VL.mono hE _ _ hv) (fun i hi => .inr ⟨rfl, Nat.zero_le _, by omega⟩) (fun i hi => ?_)
    simpa using hcell i hi

/-- one row is written -/
theorem Keep.setRow {F : Nat → Prop} {a w : World} (h : Keep F a w) {g : Nat} (hg : ¬ F g) (cs : Array Value) : Keep F a (w.setRow g cs) :=
  h.trans ⟨rfl, rfl, rfl, by simp [World.setRow], fun k hk => setRow_other w g k cs (fun e => hg (e ▸ hk))⟩

theorem size_setRow (w : World) (g : Nat) (cs : Array Value) : (w.setRow g cs).heap.size = w.heap.size := by simp [World.setRow]

theorem cell?_setRow_other (w : World) (g : Nat) (cs : Array Value) {b o : Nat} (h : b ≠ g) : (w.setRow g cs).cell? ⟨b, o, none⟩ = w.cell? ⟨b, o, none⟩ :=
  World.cell?_of_block (w := w) (setRow_other w g b cs h)

/-- a store into a block of the state's own -/
theorem Ext.setRow {G : Gh} {σ : ASt} {w : World} (h : RelS G σ w) {i b : Nat} (hi : G.ρ i = some b) (cs : Array Value) : Ext G w G (w.setRow b cs) :=
  ⟨fun _ _ e => e, fun _ _ e => e, fun _ _ e => e, fun c o e => cell?_setRow_other w b cs (fun ec => (h.live c o e).2 i (ec ▸ hi)), rfl, rfl, fun _ _ e => .inl e⟩

theorem RelS.setRowX {G : Gh} {σ : ASt} {w : World} (h : RelS G σ w) {i b : Nat} (hi : G.ρ i = some b) (vs : List Value) (Z : Blk) (hZ : BlkOk G (w.setRow b vs.toArray) b Z) :
    RelS G ⟨up σ.H i Z, σ.own, σ.ns⟩ (w.setRow b vs.toArray) := by
  have hE := Ext.setRow h hi vs.toArray
  obtain ⟨X, hX⟩ := h.has hi
  have hBb := (h.blk i b X hi hX).1
  refine ⟨?_, ?_, h.inj, ?_, ?_, h.τns, ?_, h.ownd, Keep.setRow h.below hBb _, fun k hk => by rw [size_setRow]; exact h.base k hk⟩
  · intro j
    by_cases hj : j = i
    · subst hj; simp [up, hi]
    · show G.ρ j = none ↔ up σ.H i _ j = none
      rw [up_ne _ _ hj]; exact h.dom j
  · obtain ⟨N, hN⟩ := h.fin
    refine ⟨max N (i + 1), fun j hj => ?_⟩
    show up σ.H i _ j = none
    rw [up_ne _ _ (by omega)]; exact hN j (by omega)
  · intro j c Y hj hY
    by_cases e : j = i
    · subst e
      rw [hi] at hj; cases hj
      simp only [up_same, Option.some.injEq] at hY; subst hY
      exact ⟨hBb, hZ⟩
    · rw [show (⟨up σ.H i Z, σ.own, σ.ns⟩ : ASt).H j = σ.H j from up_ne _ _ e] at hY
      obtain ⟨h1, h3⟩ := h.blk j c Y hj hY
      exact ⟨h1, BlkOk.mono hE (setRow_other w b c _ (fun ec => e (h.inj j i b (ec ▸ hj) hi))) h3⟩
  · intro c o hL
    obtain ⟨⟨v, hv⟩, h2⟩ := h.live c o hL
    exact ⟨⟨v, (hE.cell c o hL).trans hv⟩, h2⟩
  · intro k hk
    obtain ⟨c, f, t, h1, h2 | ⟨h2, h3, h4, vs', T', h5, h6⟩⟩ := h.own k hk
    · exact ⟨c, f, t, h1, .inl h2⟩
    exact ⟨c, f, t, h1, .inr ⟨h2, h3, h4, vs', T', (setRow_other w b c _ (fun e => h3 i (e ▸ hi))).trans h5, h6⟩⟩

theorem RelS.setRow {G : Gh} {σ : ASt} {w : World} (h : RelS G σ w) {i b : Nat} (hi : G.ρ i = some b) (vs : List Value) (cs : List AV) {old : Array Value} {T : TypeId}
    (hb : w.heap[b]? = some (.cells old T (0, 0))) (hv : VLp G w cs vs) :
    RelS G ⟨up σ.H i (.cells cs), σ.own, σ.ns⟩ (w.setRow b vs.toArray) :=
  h.setRowX hi vs (.cells cs) ⟨vs.toArray, T, setRow_heap w b old _ T _ hb, by simpa using hv.imp (VL.mono (Ext.setRow h hi vs.toArray) _)⟩

theorem RelS.setRowR {G : Gh} {σ : ASt} {w : World} (h : RelS G σ w) {i b : Nat} (hi : G.ρ i = some b) (vs : List Value) (cs : List AV) {old : Array Value} {T : TypeId}
    (hb : w.heap[b]? = some (.cells old T (0, 0))) (hv : VLp G w cs vs) :
    RelS G ⟨up σ.H i (.row cs), σ.own, σ.ns⟩ (w.setRow b vs.toArray) :=
  h.setRowX hi vs (.row cs) ⟨vs.toArray, T, setRow_heap w b old _ T _ hb, by simpa using hv.imp (VL.mono (Ext.setRow h hi vs.toArray) _)⟩

/-- an object of the state's own is turned -/
theorem RelS.setObj {G : Gh} {σ : ASt} {w : World} (h : RelS G σ w) {i b : Nat} (hi : G.ρ i = some b) (o o' : Obj) (ho : NoCells o') (hX : σ.H i = some (.obj o)) :
    let w' : World := { w with heap := w.heap.setIfInBounds b o' }
    Ext G w G w' ∧ RelS G ⟨up σ.H i (.obj o'), σ.own, σ.ns⟩ w' := by
  intro w'
  have hlt := h.ρ_lt hi
  have hother : ∀ c, c ≠ b → w'.heap[c]? = w.heap[c]? := fun c hc => by
    show (w.heap.setIfInBounds b o')[c]? = _
    rw [Array.getElem?_setIfInBounds_ne (fun e => hc e.symm)]
  have hE : Ext G w G w' := ⟨fun _ _ e => e, fun _ _ e => e, fun _ _ e => e,
    fun c o e => World.cell?_of_block (w := w) (hother c (fun ec => (h.live c o e).2 i (ec ▸ hi))), rfl, rfl, fun _ _ e => .inl e⟩
  have hBb := (h.blk i b _ hi hX).1
  refine ⟨hE, ?_, ?_, h.inj, ?_, ?_, h.τns, ?_, h.ownd, h.below.trans ⟨rfl, rfl, rfl, by simp [w'], fun k hk => hother k (fun e => hBb (e ▸ hk))⟩, fun k hk => by simpa [w'] using h.base k hk⟩
  · intro j
    by_cases hj : j = i
    · subst hj; simp [up, hi]
    · show G.ρ j = none ↔ up σ.H i _ j = none
      rw [up_ne _ _ hj]; exact h.dom j
  · obtain ⟨N, hN⟩ := h.fin
    refine ⟨max N (i + 1), fun j hj => ?_⟩
    show up σ.H i _ j = none
    rw [up_ne _ _ (by omega)]; exact hN j (by omega)
  · intro j c Y hj hY
    by_cases e : j = i
    · subst e
      rw [hi] at hj; cases hj
      simp only [up_same, Option.some.injEq] at hY; subst hY
      refine ⟨hBb, ?_, ho⟩
      show (w.heap.setIfInBounds b o')[b]? = _
      rw [Array.getElem?_setIfInBounds_self_of_lt hlt]
    · rw [show (⟨up σ.H i (.obj o'), σ.own, σ.ns⟩ : ASt).H j = σ.H j from up_ne _ _ e] at hY
      obtain ⟨h1, h3⟩ := h.blk j c Y hj hY
      exact ⟨h1, BlkOk.mono hE (hother c (fun ec => e (h.inj j i b (ec ▸ hj) hi))) h3⟩
  · intro c o hL
    obtain ⟨⟨v, hv⟩, h2⟩ := h.live c o hL
    exact ⟨⟨v, (hE.cell c o hL).trans hv⟩, h2⟩
  · intro k hk
    obtain ⟨c, f, t, h1, h2 | ⟨h2, h3, h4, vs', T', h5, h6⟩⟩ := h.own k hk
    · exact ⟨c, f, t, h1, .inl h2⟩
    exact ⟨c, f, t, h1, .inr ⟨h2, h3, h4, vs', T', (hother c (fun e => h3 i (e ▸ hi))).trans h5, h6⟩⟩

end Go.Ab
