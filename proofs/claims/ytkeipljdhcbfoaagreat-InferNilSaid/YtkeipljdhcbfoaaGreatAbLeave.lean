/- A CALL IS LEFT: what it made for itself alone is forgotten. -/
import Derived.Test.YtkeipljdhcbfoaaGreatAbDraw
namespace Go.Ab
open Go Go.RowKit

/- a value under another numbering, all owners given up -/
mutual
def AV.strip (r : Nat → Nat) : AV → AV
  | .val v => .val v
  | .agg cs => .agg (AV.stripL r cs)
  | .tup cs => .tup (AV.stripL r cs)
  | .sl es n _ => .sl (AV.stripL r es) n .no
  | .ip es => .ip (AV.stripL r es)
  | .mp i off => .mp (r i) off
  | .ms i off n => .ms (r i) off n
  | .obj i => .obj (r i)
  | .clo f fs cs => .clo f (AV.stripL r fs) (AV.stripL r cs)
def AV.stripL (r : Nat → Nat) : List AV → List AV
  | [] => []
  | a :: l => AV.strip r a :: AV.stripL r l
end

mutual
def AV.ids (p : Nat → Bool) : AV → Bool
  | .val _ => true
  | .agg cs => AV.idsL p cs
  | .tup cs => AV.idsL p cs
  | .sl es _ _ => AV.idsL p es
  | .ip es => AV.idsL p es
  | .mp i _ => p i
  | .ms i _ _ => p i
  | .obj i => p i
  | .clo _ fs cs => AV.idsL p fs && AV.idsL p cs
def AV.idsL (p : Nat → Bool) : List AV → Bool
  | [] => true
  | a :: l => AV.ids p a && AV.idsL p l
end

theorem stripL_length (r : Nat → Nat) : ∀ l : List AV, (AV.stripL r l).length = l.length
  | [] => rfl
  | _ :: l => by simp [AV.stripL, stripL_length r l]

structure Refit (G₁ G' : Gh) (r : Nat → Nat) (p : Nat → Bool) : Prop where
  F : G'.F = G₁.F
  ρ : ∀ i b, p i = true → G₁.ρ i = some b → G'.ρ (r i) = some b
  L : ∀ b o, G₁.L b o → G'.L b o

mutual
theorem V.strip {G₁ G' : Gh} {w : World} {r : Nat → Nat} {p : Nat → Bool} (h : Refit G₁ G' r p) : ∀ (a : AV) (u : Value), AV.ids p a = true → V G₁ w a u → V G' w (a.strip r) u
  | .val v, u, _, hv => by simpa only [AV.strip, V] using hv
  | .agg cs, u, hi, hv => by
    simp only [V, AV.ids, AV.strip] at hi hv ⊢
    obtain ⟨vs, rfl, hl⟩ := hv
    exact ⟨vs, rfl, VL.strip h cs vs hi hl⟩
  | .tup cs, u, hi, hv => by
    simp only [V, AV.ids, AV.strip] at hi hv ⊢
    obtain ⟨vs, rfl, hl⟩ := hv
    exact ⟨vs, rfl, VL.strip h cs vs hi hl⟩
  | .sl es n o, u, hi, hv => by
    simp only [V, AV.ids, AV.strip] at hi hv ⊢
    obtain ⟨cap, hc, hh⟩ := hv
    refine ⟨cap, hc, ?_⟩
    rcases hh with ⟨rfl, h2, h3, h4, _⟩ | ⟨b, off, hu, hcells, _⟩
    · exact .inl ⟨rfl, h2, h3, h4, trivial⟩
    · exact .inr ⟨b, off, hu, VC.strip h es b off hi hcells, trivial⟩
  | .ip es, u, hi, hv => by
    simp only [V, AV.ids, AV.strip] at hi hv ⊢
    obtain ⟨b, off, hu, hcells⟩ := hv
    exact ⟨b, off, hu, VC.strip h es b off hi hcells⟩
  | .mp i off, u, hi, hv => by
    simp only [V, AV.ids, AV.strip] at hi hv ⊢
    obtain ⟨b, hb, hu⟩ := hv
    exact ⟨b, h.ρ _ _ hi hb, hu⟩
  | .ms i off n, u, hi, hv => by
    simp only [V, AV.ids, AV.strip] at hi hv ⊢
    obtain ⟨b, cap, hb, hu⟩ := hv
    exact ⟨b, cap, h.ρ _ _ hi hb, hu⟩
  | .obj i, u, hi, hv => by
    simp only [V, AV.ids, AV.strip] at hi hv ⊢
    obtain ⟨b, hb, hu⟩ := hv
    exact ⟨b, h.ρ _ _ hi hb, hu⟩
  | .clo f fs cs, u, hi, hv => by
    simp only [V, AV.ids, AV.strip, Bool.and_eq_true] at hi hv ⊢
    obtain ⟨l, r', hu, h1, h2⟩ := hv
    exact ⟨l, r', hu, VL.strip h fs l hi.1 h1, VL.strip h cs r' hi.2 h2⟩
theorem VL.strip {G₁ G' : Gh} {w : World} {r : Nat → Nat} {p : Nat → Bool} (h : Refit G₁ G' r p) : ∀ (as : List AV) (us : List Value), AV.idsL p as = true → VL G₁ w as us → VL G' w (AV.stripL r as) us
  | [], [], _, _ => by simp only [AV.stripL, VL]
  | a :: as, u :: us, hi, hv => by
    simp only [VL, AV.idsL, AV.stripL, Bool.and_eq_true] at hi hv ⊢
    exact ⟨V.strip h a u hi.1 hv.1, VL.strip h as us hi.2 hv.2⟩
  | [], _ :: _, _, hv => by simp only [VL] at hv
  | _ :: _, [], _, hv => by simp only [VL] at hv
theorem VC.strip {G₁ G' : Gh} {w : World} {r : Nat → Nat} {p : Nat → Bool} (h : Refit G₁ G' r p) : ∀ (as : List AV) (b off : Nat), AV.idsL p as = true → VC G₁ w as b off → VC G' w (AV.stripL r as) b off
  | [], _, _, _, _ => by simp only [AV.stripL, VC]
  | a :: as, b, off, hi, hv => by
    simp only [VC, AV.idsL, AV.stripL, Bool.and_eq_true] at hi hv ⊢
    obtain ⟨hL, ⟨v, hv, ha⟩, hr⟩ := hv
    exact ⟨h.L _ _ hL, ⟨v, hv, V.strip h a v hi.1 ha⟩, VC.strip h as b (off + 1) hi.2 hr⟩
end

/-- a value in a place where it may keep its owner, under another number -/
def AV.top (r : Nat → Nat) (f : Nat → Option Nat) : AV → AV
  | .sl es n (.st k sz) => .sl (AV.stripL r es) n (match f k with | some k' => .st k' sz | none => .no)
  | .sl es n .full => .sl (AV.stripL r es) n .full
  | .sl es n .nl => .sl (AV.stripL r es) n .nl
  | a => a.strip r

theorem V.top {G₁ G' : Gh} {w : World} {r : Nat → Nat} {p : Nat → Bool} {f : Nat → Option Nat} (h : Refit G₁ G' r p) (hf : ∀ k k' q, f k = some k' → G₁.τ k = some q → G'.τ k' = some q) (a : AV) (u : Value) (hi : AV.ids p a = true) (hv : V G₁ w a u) :
    V G' w (a.top r f) u := by
  cases a with
  | sl es n o =>
    cases o with
    | no => exact V.strip h _ u hi hv
    | nn => exact V.strip h _ u hi hv
    | fr => exact V.strip h _ u hi hv
    | nl =>
      simp only [V, AV.ids, AV.top] at hi hv ⊢
      obtain ⟨cap, hc, hh⟩ := hv
      refine ⟨cap, hc, ?_⟩
      rcases hh with ⟨rfl, h2, h3, h4, h5⟩ | ⟨b, off, hu, hcells, ho⟩
      · exact .inl ⟨rfl, h2, h3, h4, h5⟩
      · exact ho.elim
    | full =>
      simp only [V, AV.ids, AV.top] at hi hv ⊢
      obtain ⟨cap, hc, hh⟩ := hv
      refine ⟨cap, hc, ?_⟩
      rcases hh with ⟨rfl, h2, h3, h4, _⟩ | ⟨b, off, hu, hcells, ho⟩
      · exact .inl ⟨rfl, h2, h3, h4, trivial⟩
      · exact .inr ⟨b, off, hu, VC.strip h es b off hi hcells, by rw [stripL_length]; exact ho⟩
    | st k sz =>
      simp only [V, AV.ids, AV.top] at hi hv ⊢
      obtain ⟨cap, hc, hh⟩ := hv
      refine ⟨cap, hc, ?_⟩
      rcases hh with ⟨rfl, h2, h3, h4, h5⟩ | ⟨b, off, hu, hcells, ho⟩
      · refine .inl ⟨rfl, h2, h3, h4, ?_⟩
        cases hk : f k with
        | none => trivial
        | some k' => exact h5.imp fun q hq => hf k k' q hk hq
      · refine .inr ⟨b, off, hu, VC.strip h es b off hi hcells, ?_⟩
        rw [stripL_length]
        cases hk : f k with
        | none => trivial
        | some k' => exact ⟨ho.1.imp fun q hq => hf k k' q hk hq, ho.2.imp id fun ⟨q1, q2, q3⟩ => ⟨q1, by rw [h.F]; exact q2, hf k k' _ hk q3⟩⟩
  | _ => exact V.strip h _ u hi hv

def AV.tops (r : Nat → Nat) (f : Nat → Option Nat) (l : List AV) : List AV := l.map (AV.top r f)

theorem VL.tops {G₁ G' : Gh} {w : World} {r : Nat → Nat} {p : Nat → Bool} {f : Nat → Option Nat} (h : Refit G₁ G' r p) (hf : ∀ k k' q, f k = some k' → G₁.τ k = some q → G'.τ k' = some q) : ∀ (as : List AV) (us : List Value), AV.idsL p as = true → VL G₁ w as us → VL G' w (AV.tops r f as) us
  | [], [], _, _ => by simp only [AV.tops, List.map_nil, VL]
  | a :: as, u :: us, hi, hv => by
    simp only [VL, AV.idsL, AV.tops, List.map_cons, Bool.and_eq_true] at hi hv ⊢
    exact ⟨V.top h hf a u hi.1 hv.1, VL.tops h hf as us hi.2 hv.2⟩
  | [], _ :: _, _, hv => by simp only [VL] at hv
  | _ :: _, [], _, hv => by simp only [VL] at hv

/-- a result -/
def AV.res (r : Nat → Nat) (f : Nat → Option Nat) : AV → AV
  | .tup cs => .tup (AV.tops r f cs)
  | a => a.top r f

theorem V.res {G₁ G' : Gh} {w : World} {r : Nat → Nat} {p : Nat → Bool} {f : Nat → Option Nat} (h : Refit G₁ G' r p) (hf : ∀ k k' q, f k = some k' → G₁.τ k = some q → G'.τ k' = some q) (a : AV) (u : Value) (hi : AV.ids p a = true) (hv : V G₁ w a u) :
    V G' w (a.res r f) u := by
  cases a with
  | tup cs =>
    simp only [V, AV.ids, AV.res] at hi hv ⊢
    obtain ⟨vs, rfl, hl⟩ := hv
    exact ⟨vs, rfl, VL.tops h hf cs vs hi hl⟩
  | _ => exact V.top h hf _ u hi hv

def Blk.fix (r : Nat → Nat) (f : Nat → Option Nat) : Blk → Blk
  | .cells cs => .cells (AV.tops r f cs)
  | .obj o => .obj o
  | .row cs => .row (AV.tops r f cs)

def Blk.ids (p : Nat → Bool) : Blk → Bool
  | .cells cs => AV.idsL p cs
  | .obj _ => true
  | .row cs => AV.idsL p cs

theorem BlkOk.fix {G₁ G' : Gh} {w : World} {r : Nat → Nat} {p : Nat → Bool} {f : Nat → Option Nat} (h : Refit G₁ G' r p) (hf : ∀ k k' q, f k = some k' → G₁.τ k = some q → G'.τ k' = some q) {X : Blk} {b : Nat} (hi : X.ids p = true) (hX : BlkOk G₁ w b X) : BlkOk G' w b (X.fix r f) := by
  cases X with
  | cells cs =>
    obtain ⟨vs, T, h1, h2⟩ := hX
    exact ⟨vs, T, h1, h2.imp fun us => VL.tops h hf _ us hi⟩
  | obj o => exact hX
  | row cs =>
    obtain ⟨vs, T, h1, h2⟩ := hX
    exact ⟨vs, T, h1, h2.imp fun us => VL.tops h hf _ us hi⟩

/- what was met ahead, met again -/
mutual
theorem V.both {G G₁ G' : Gh} {w w₁ : World} (hF : G'.F = G₁.F) (hρ : ∀ i b, G.ρ i = some b → G₁.ρ i = some b ∧ G'.ρ i = some b) (hτ : ∀ k q, G.τ k = some q → G₁.τ k = some q ∧ G'.τ k = some q) (hL : ∀ b o, G₁.L b o → G'.L b o) :
    ∀ (a : AV) (u₀ u : Value), V G w a u₀ → V G₁ w₁ a u → V G' w₁ a u
  | .val v, u₀, u, _, hv => by simpa only [V] using hv
  | .agg cs, u₀, u, h0, hv => by
    simp only [V] at h0 hv ⊢
    obtain ⟨v0, rfl, hl0⟩ := h0
    obtain ⟨vs, rfl, hl⟩ := hv
    exact ⟨vs, rfl, VL.both hF hρ hτ hL cs v0 vs hl0 hl⟩
  | .tup cs, u₀, u, h0, hv => by
    simp only [V] at h0 hv ⊢
    obtain ⟨v0, rfl, hl0⟩ := h0
    obtain ⟨vs, rfl, hl⟩ := hv
    exact ⟨vs, rfl, VL.both hF hρ hτ hL cs v0 vs hl0 hl⟩
  | .sl es n o, u₀, u, h0, hv => by
    simp only [V] at h0 hv ⊢
    obtain ⟨cap0, _, h0⟩ := h0
    obtain ⟨cap, hc, hv⟩ := hv
    refine ⟨cap, hc, ?_⟩
    rcases hv with hv | ⟨b, off, hu, hcells, ho⟩
    · refine .inl ⟨hv.1, hv.2.1, hv.2.2.1, hv.2.2.2.1, ?_⟩
      cases o with
      | no => trivial
      | full => trivial
      | nl => exact hv.2.2.2.2
      | nn => exact hv.2.2.2.2
      | fr => trivial
      | st k sz =>
        have : ∃ q, G.τ k = some q := by
          rcases h0 with ⟨_, _, _, _, h5⟩ | ⟨b0, off0, _, _, ho0⟩
          · exact h5
          · exact ho0.1
        obtain ⟨q, hq⟩ := this
        exact ⟨q, (hτ _ _ hq).2⟩
    · refine .inr ⟨b, off, hu, ?_, ?_⟩
      · rcases h0 with ⟨rfl, _⟩ | ⟨b0, off0, _, hc0, _⟩
        · simp only [VC]
        · exact VC.both hF hρ hτ hL es b0 off0 b off hc0 hcells
      · cases o with
        | no => trivial
        | full => exact ho
        | nl => exact ho
        | nn => trivial
        | fr => show G'.F b; rw [hF]; exact ho
        | st k sz =>
          have : ∃ q, G.τ k = some q := by
            rcases h0 with ⟨_, _, _, _, h5⟩ | ⟨b0, off0, _, _, ho0⟩
            · exact h5
            · exact ho0.1
          obtain ⟨q, hq⟩ := this
          obtain ⟨q1, q2⟩ := hτ _ _ hq
          refine ⟨⟨q, q2⟩, ho.2.imp id fun ⟨p1, p2, p3⟩ => ⟨p1, by rw [hF]; exact p2, ?_⟩⟩
          rw [q2, ← p3, q1]
  | .ip es, u₀, u, h0, hv => by
    simp only [V] at h0 hv ⊢
    obtain ⟨b0, off0, _, hc0⟩ := h0
    obtain ⟨b, off, hu, hcells⟩ := hv
    exact ⟨b, off, hu, VC.both hF hρ hτ hL es b0 off0 b off hc0 hcells⟩
  | .mp i off, u₀, u, h0, hv => by
    simp only [V] at h0 hv ⊢
    obtain ⟨b0, hb0, _⟩ := h0
    obtain ⟨b, hb, hu⟩ := hv
    obtain ⟨q1, q2⟩ := hρ _ _ hb0
    rw [q1] at hb; cases hb
    exact ⟨_, q2, hu⟩
  | .ms i off n, u₀, u, h0, hv => by
    simp only [V] at h0 hv ⊢
    obtain ⟨b0, cap0, hb0, _⟩ := h0
    obtain ⟨b, cap, hb, hu⟩ := hv
    obtain ⟨q1, q2⟩ := hρ _ _ hb0
    rw [q1] at hb; cases hb
    exact ⟨_, cap, q2, hu⟩
  | .obj i, u₀, u, h0, hv => by
    simp only [V] at h0 hv ⊢
    obtain ⟨b0, hb0, _⟩ := h0
    obtain ⟨b, hb, hu⟩ := hv
    obtain ⟨q1, q2⟩ := hρ _ _ hb0
    rw [q1] at hb; cases hb
    exact ⟨_, q2, hu⟩
  | .clo f fs cs, u₀, u, h0, hv => by
    simp only [V] at h0 hv ⊢
    obtain ⟨l0, r0, _, h01, h02⟩ := h0
    obtain ⟨l, r, hu, h1, h2⟩ := hv
    exact ⟨l, r, hu, VL.both hF hρ hτ hL fs l0 l h01 h1, VL.both hF hρ hτ hL cs r0 r h02 h2⟩
theorem VL.both {G G₁ G' : Gh} {w w₁ : World} (hF : G'.F = G₁.F) (hρ : ∀ i b, G.ρ i = some b → G₁.ρ i = some b ∧ G'.ρ i = some b) (hτ : ∀ k q, G.τ k = some q → G₁.τ k = some q ∧ G'.τ k = some q) (hL : ∀ b o, G₁.L b o → G'.L b o) :
    ∀ (as : List AV) (us₀ us : List Value), VL G w as us₀ → VL G₁ w₁ as us → VL G' w₁ as us
  | [], _, [], _, _ => by simp only [VL]
  | a :: as, u₀ :: us₀, u :: us, h0, hv => by
    simp only [VL] at h0 hv ⊢
    exact ⟨V.both hF hρ hτ hL a u₀ u h0.1 hv.1, VL.both hF hρ hτ hL as us₀ us h0.2 hv.2⟩
  | [], _, _ :: _, _, hv => by simp only [VL] at hv
  | _ :: _, [], _, h0, _ => by simp only [VL] at h0
  | _ :: _, _ :: _, [], _, hv => by simp only [VL] at hv
theorem VC.both {G G₁ G' : Gh} {w w₁ : World} (hF : G'.F = G₁.F) (hρ : ∀ i b, G.ρ i = some b → G₁.ρ i = some b ∧ G'.ρ i = some b) (hτ : ∀ k q, G.τ k = some q → G₁.τ k = some q ∧ G'.τ k = some q) (hL : ∀ b o, G₁.L b o → G'.L b o) :
    ∀ (as : List AV) (b₀ off₀ b off : Nat), VC G w as b₀ off₀ → VC G₁ w₁ as b off → VC G' w₁ as b off
  | [], _, _, _, _, _, _ => by simp only [VC]
  | a :: as, b₀, off₀, b, off, h0, hv => by
    simp only [VC] at h0 hv ⊢
    obtain ⟨_, ⟨v0, _, ha0⟩, hr0⟩ := h0
    obtain ⟨hLL, ⟨v, hv, ha⟩, hr⟩ := hv
    exact ⟨hL _ _ hLL, ⟨v, hv, V.both hF hρ hτ hL a v0 v ha0 ha⟩, VC.both hF hρ hτ hL as b₀ (off₀ + 1) b (off + 1) hr0 hr⟩
end

theorem BlkOk.both {G G₁ G' : Gh} {w w₁ : World} (hF : G'.F = G₁.F) (hρ : ∀ i b, G.ρ i = some b → G₁.ρ i = some b ∧ G'.ρ i = some b) (hτ : ∀ k q, G.τ k = some q → G₁.τ k = some q ∧ G'.τ k = some q) (hL : ∀ b o, G₁.L b o → G'.L b o) {X : Blk} {b b' : Nat} (h0 : BlkOk G w b' X) (h1 : BlkOk G₁ w₁ b X) : BlkOk G' w₁ b X := by
  cases X with
  | cells cs =>
    obtain ⟨v0, _, _, us0, _, _, hl0⟩ := h0
    obtain ⟨vs, T, hb, hl⟩ := h1
    exact ⟨vs, T, hb, hl.imp fun us hl => VL.both hF hρ hτ hL _ us0 us hl0 hl⟩
  | obj o => exact h1
  | row cs =>
    obtain ⟨v0, _, _, us0, _, _, hl0⟩ := h0
    obtain ⟨vs, T, hb, hl⟩ := h1
    exact ⟨vs, T, hb, hl.imp fun us hl => VL.both hF hρ hτ hL _ us0 us hl0 hl⟩

end Go.Ab
