/- A STATE UNDER ANOTHER NUMBERING: blocks and stamps that nobody needs any more are forgotten, the others are counted anew. -/
import Derived.Test.YtkeipljdhcbfoaaGreatAbUni
namespace Go.Ab
open Go Go.RowKit

mutual
/-- a value under another numbering; what lies in slices is data, and stays as it is -/
def AV.ren (r : Nat → Nat) (f : Nat → Option Nat) : AV → AV
  | .val v => .val v
  | .agg cs => .agg (AV.renL r f cs)
  | .tup cs => .tup (AV.renL r f cs)
  | .sl es n o => .sl es n (match o with | .st k sz => (match f k with | some k' => .st k' sz | none => .no) | .full => .full | .nl => .nl | .nn => .nn | .fr => .no | .no => .no)
  | .ip es => .ip es
  | .mp i off => .mp (r i) off
  | .ms i off n => .ms (r i) off n
  | .obj i => .obj (r i)
  | .clo g fs cs => .clo g (AV.renL r f fs) (AV.renL r f cs)
def AV.renL (r : Nat → Nat) (f : Nat → Option Nat) : List AV → List AV
  | [] => []
  | a :: l => AV.ren r f a :: AV.renL r f l
end

mutual
/-- its numbers are such, and what lies in slices is data -/
def AV.fine (p : Nat → Prop) : AV → Prop
  | .val _ => True
  | .agg cs => AV.fineL p cs
  | .tup cs => AV.fineL p cs
  | .sl es _ _ => AV.DataL es
  | .ip es => AV.DataL es
  | .mp i _ => p i
  | .ms i _ _ => p i
  | .obj i => p i
  | .clo _ fs cs => AV.fineL p fs ∧ AV.fineL p cs
def AV.fineL (p : Nat → Prop) : List AV → Prop
  | [] => True
  | a :: l => AV.fine p a ∧ AV.fineL p l
end

structure Ren (G G' : Gh) (r : Nat → Nat) (f : Nat → Option Nat) (p : Nat → Prop) : Prop where
  F : ∀ b, ¬ G.F b → ¬ G'.F b
  ρ : ∀ i b, p i → G.ρ i = some b → G'.ρ (r i) = some b
  τ : ∀ k k' q, f k = some k' → G.τ k = some q → G'.τ k' = some q
  L : ∀ b o, G.L b o → G'.L b o

mutual
theorem V.ren {G G' : Gh} {w : World} {r : Nat → Nat} {f : Nat → Option Nat} {p : Nat → Prop} (h : Ren G G' r f p) : ∀ (a : AV) (u : Value), a.fine p → V G w a u → V G' w (a.ren r f) u
  | .val v, u, _, hv => by simpa only [AV.ren, V] using hv
  | .agg cs, u, hi, hv => by
    simp only [V, AV.fine, AV.ren] at hi hv ⊢
    obtain ⟨vs, rfl, hl⟩ := hv
    exact ⟨vs, rfl, VL.ren h cs vs hi hl⟩
  | .tup cs, u, hi, hv => by
    simp only [V, AV.fine, AV.ren] at hi hv ⊢
    obtain ⟨vs, rfl, hl⟩ := hv
    exact ⟨vs, rfl, VL.ren h cs vs hi hl⟩
  | .sl es n o, u, hi, hv => by
    simp only [V, AV.fine, AV.ren] at hi hv ⊢
    obtain ⟨cap, hc, hh⟩ := hv
    refine ⟨cap, hc, ?_⟩
    rcases hh with ⟨rfl, h2, h3, h4, h5⟩ | ⟨b, off, hu, hcells, ho⟩
    · refine .inl ⟨rfl, h2, h3, h4, ?_⟩
      cases o with
      | no => trivial
      | full => trivial
      | nl => exact h5
      | nn => exact h5
      | fr => trivial
      | st k sz =>
        simp only
        cases hk : f k with
        | none => trivial
        | some k' => exact h5.imp fun q hq => h.τ k k' q hk hq
    · refine .inr ⟨b, off, hu, VC.data h.L es b off hi hcells, ?_⟩
      cases o with
      | no => trivial
      | full => exact ho
      | nl => exact ho
      | nn => trivial
      | fr => trivial
      | st k sz =>
        simp only
        cases hk : f k with
        | none => trivial
        | some k' => exact ⟨ho.1.imp fun q hq => h.τ k k' q hk hq, ho.2.imp id fun ⟨q1, q2, q3⟩ => ⟨q1, h.F _ q2, h.τ k k' _ hk q3⟩⟩
  | .ip es, u, hi, hv => by
    simp only [V, AV.fine, AV.ren] at hi hv ⊢
    obtain ⟨b, off, hu, hcells⟩ := hv
    exact ⟨b, off, hu, VC.data h.L es b off hi hcells⟩
  | .mp i off, u, hi, hv => by
    simp only [V, AV.fine, AV.ren] at hi hv ⊢
    obtain ⟨b, hb, hu⟩ := hv
    exact ⟨b, h.ρ _ _ hi hb, hu⟩
  | .ms i off n, u, hi, hv => by
    simp only [V, AV.fine, AV.ren] at hi hv ⊢
    obtain ⟨b, cap, hb, hu⟩ := hv
    exact ⟨b, cap, h.ρ _ _ hi hb, hu⟩
  | .obj i, u, hi, hv => by
    simp only [V, AV.fine, AV.ren] at hi hv ⊢
    obtain ⟨b, hb, hu⟩ := hv
    exact ⟨b, h.ρ _ _ hi hb, hu⟩
  | .clo g fs cs, u, hi, hv => by
    simp only [V, AV.fine, AV.ren] at hi hv ⊢
    obtain ⟨l, r', hu, h1, h2⟩ := hv
    exact ⟨l, r', hu, VL.ren h fs l hi.1 h1, VL.ren h cs r' hi.2 h2⟩
theorem VL.ren {G G' : Gh} {w : World} {r : Nat → Nat} {f : Nat → Option Nat} {p : Nat → Prop} (h : Ren G G' r f p) : ∀ (as : List AV) (us : List Value), AV.fineL p as → VL G w as us → VL G' w (AV.renL r f as) us
  | [], [], _, _ => by simp only [AV.renL, VL]
  | a :: as, u :: us, hi, hv => by
    simp only [VL, AV.fineL, AV.renL] at hi hv ⊢
    exact ⟨V.ren h a u hi.1 hv.1, VL.ren h as us hi.2 hv.2⟩
  | [], _ :: _, _, hv => by simp only [VL] at hv
  | _ :: _, [], _, hv => by simp only [VL] at hv
end

mutual
/-- its numbers are such, it owns nothing, what lies in slices is data -/
def AV.arg (p : Nat → Prop) : AV → Prop
  | .val _ => True
  | .agg cs => AV.argL p cs
  | .tup cs => AV.argL p cs
  | .sl es _ o => o.plain ∧ AV.DataL es
  | .ip es => AV.DataL es
  | .mp i _ => p i
  | .ms i _ _ => p i
  | .obj i => p i
  | .clo _ fs cs => AV.argL p fs ∧ AV.argL p cs
def AV.argL (p : Nat → Prop) : List AV → Prop
  | [] => True
  | a :: l => AV.arg p a ∧ AV.argL p l
end

mutual
/-- the way back: what is met under the caller's numbers is met under the callee's -/
theorem V.unren {G G' : Gh} {w : World} {r : Nat → Nat} {f : Nat → Option Nat} {p : Nat → Prop} (hρ : ∀ i, p i → G'.ρ i = G.ρ (r i)) (hL : ∀ b o, G.L b o → G'.L b o) : ∀ (a : AV) (u : Value), a.arg p → V G w (a.ren r f) u → V G' w a u
  | .val v, u, _, hv => by simpa only [AV.ren, V] using hv
  | .agg cs, u, hi, hv => by
    simp only [V, AV.arg, AV.ren] at hi hv ⊢
    obtain ⟨vs, rfl, hl⟩ := hv
    exact ⟨vs, rfl, VL.unren hρ hL cs vs hi hl⟩
  | .tup cs, u, hi, hv => by
    simp only [V, AV.arg, AV.ren] at hi hv ⊢
    obtain ⟨vs, rfl, hl⟩ := hv
    exact ⟨vs, rfl, VL.unren hρ hL cs vs hi hl⟩
  | .sl es n o, u, hi, hv => by
    simp only [V, AV.arg, AV.ren] at hi hv ⊢
    obtain ⟨cap, hc, hh⟩ := hv
    refine ⟨cap, hc, ?_⟩
    cases o with
    | no =>
      rcases hh with ⟨q1, q2, q3, q4, _⟩ | ⟨b, off, hu, hcells, ho⟩
      · exact .inl ⟨q1, q2, q3, q4, trivial⟩
      · exact .inr ⟨b, off, hu, VC.data hL es b off hi.2 hcells, ho⟩
    | full =>
      rcases hh with ⟨q1, q2, q3, q4, _⟩ | ⟨b, off, hu, hcells, ho⟩
      · exact .inl ⟨q1, q2, q3, q4, trivial⟩
      · exact .inr ⟨b, off, hu, VC.data hL es b off hi.2 hcells, ho⟩
    | nl =>
      rcases hh with ⟨q1, q2, q3, q4, q5⟩ | ⟨b, off, hu, hcells, ho⟩
      · exact .inl ⟨q1, q2, q3, q4, q5⟩
      · exact ho.elim
    | nn =>
      rcases hh with ⟨q1, q2, q3, q4, q5⟩ | ⟨b, off, hu, hcells, ho⟩
      · exact .inl ⟨q1, q2, q3, q4, q5⟩
      · exact .inr ⟨b, off, hu, VC.data hL es b off hi.2 hcells, trivial⟩
    | fr => exact hi.1.elim
    | st k sz => exact hi.1.elim
  | .ip es, u, hi, hv => by
    simp only [V, AV.arg, AV.ren] at hi hv ⊢
    obtain ⟨b, off, hu, hcells⟩ := hv
    exact ⟨b, off, hu, VC.data hL es b off hi hcells⟩
  | .mp i off, u, hi, hv => by
    simp only [V, AV.arg, AV.ren] at hi hv ⊢
    obtain ⟨b, hb, hu⟩ := hv
    exact ⟨b, (hρ _ hi).trans hb, hu⟩
  | .ms i off n, u, hi, hv => by
    simp only [V, AV.arg, AV.ren] at hi hv ⊢
    obtain ⟨b, cap, hb, hu⟩ := hv
    exact ⟨b, cap, (hρ _ hi).trans hb, hu⟩
  | .obj i, u, hi, hv => by
    simp only [V, AV.arg, AV.ren] at hi hv ⊢
    obtain ⟨b, hb, hu⟩ := hv
    exact ⟨b, (hρ _ hi).trans hb, hu⟩
  | .clo g fs cs, u, hi, hv => by
    simp only [V, AV.arg, AV.ren] at hi hv ⊢
    obtain ⟨l, r', hu, h1, h2⟩ := hv
    exact ⟨l, r', hu, VL.unren hρ hL fs l hi.1 h1, VL.unren hρ hL cs r' hi.2 h2⟩
theorem VL.unren {G G' : Gh} {w : World} {r : Nat → Nat} {f : Nat → Option Nat} {p : Nat → Prop} (hρ : ∀ i, p i → G'.ρ i = G.ρ (r i)) (hL : ∀ b o, G.L b o → G'.L b o) : ∀ (as : List AV) (us : List Value), AV.argL p as → VL G w (AV.renL r f as) us → VL G' w as us
  | [], [], _, _ => by simp only [VL]
  | a :: as, u :: us, hi, hv => by
    simp only [VL, AV.argL, AV.renL] at hi hv ⊢
    exact ⟨V.unren hρ hL a u hi.1 hv.1, VL.unren hρ hL as us hi.2 hv.2⟩
  | [], _ :: _, _, hv => by simp only [AV.renL, VL] at hv
  | _ :: _, [], _, hv => by simp only [AV.renL, VL] at hv
end

def Blk.ren (r : Nat → Nat) (f : Nat → Option Nat) : Blk → Blk
  | .cells cs => .cells (AV.renL r f cs)
  | .obj o => .obj o
  | .row cs => .row cs
def Blk.fine (p : Nat → Prop) : Blk → Prop
  | .cells cs => AV.fineL p cs
  | .obj _ => True
  | .row cs => AV.DataL cs
def Blk.arg (p : Nat → Prop) : Blk → Prop
  | .cells cs => AV.argL p cs
  | .obj _ => True
  | .row cs => AV.DataL cs

theorem BlkOk.ren {G G' : Gh} {w : World} {r : Nat → Nat} {f : Nat → Option Nat} {p : Nat → Prop} (h : Ren G G' r f p) {X : Blk} {b : Nat} (hi : X.fine p) (hX : BlkOk G w b X) : BlkOk G' w b (X.ren r f) := by
  cases X with
  | cells cs =>
    obtain ⟨vs, T, h1, h2⟩ := hX
    exact ⟨vs, T, h1, h2.imp fun us => VL.ren h _ us hi⟩
  | obj o => exact hX
  | row cs =>
    obtain ⟨vs, T, h1, h2⟩ := hX
    exact ⟨vs, T, h1, h2.imp fun us => VL.data h.L _ us hi⟩

theorem BlkOk.unren {G G' : Gh} {w : World} {r : Nat → Nat} {f : Nat → Option Nat} {p : Nat → Prop} (hρ : ∀ i, p i → G'.ρ i = G.ρ (r i)) (hL : ∀ b o, G.L b o → G'.L b o) {X : Blk} {b : Nat} (hi : X.arg p) (hX : BlkOk G w b (X.ren r f)) : BlkOk G' w b X := by
  cases X with
  | cells cs =>
    obtain ⟨vs, T, h1, h2⟩ := hX
    exact ⟨vs, T, h1, h2.imp fun us => VL.unren hρ hL _ us hi⟩
  | obj o => exact hX
  | row cs =>
    obtain ⟨vs, T, h1, h2⟩ := hX
    exact ⟨vs, T, h1, h2.imp fun us => VL.data hL _ us hi⟩

/-- where a number stands in a list -/
def place (l : List Nat) (k : Nat) : Option Nat := idx k l 0

theorem place_spec {l : List Nat} {k t : Nat} (h : place l k = some t) : l[t]? = some k := by
  have := (idx_spec l 0 t h).2
  simpa using this

theorem idx_mem {k : Nat} : ∀ (l : List Nat) (t : Nat), k ∈ l → ∃ r, idx k l t = some r
  | j :: l, t, h => by
    simp only [idx]
    cases hb : Nat.beq k j with
    | true => exact ⟨t, rfl⟩
    | false =>
      rcases List.mem_cons.1 h with rfl | h
      · simp at hb
      · exact idx_mem l (t + 1) h

theorem place_mem {l : List Nat} {k : Nat} (h : k ∈ l) : ∃ t, place l k = some t := idx_mem l 0 h

theorem place_nodup {l : List Nat} (hn : l.Nodup) {k t : Nat} (h : l[t]? = some k) : place l k = some t := by
  obtain ⟨t', ht'⟩ := place_mem (List.mem_of_getElem? h)
  have h' := place_spec ht'
  have := (List.getElem?_inj (List.getElem?_eq_some_iff.1 h).1 hn).1 (h.trans h'.symm)
  rw [ht', this]

def newId (keep : List Nat) (i : Nat) : Nat := (place keep i).getD 0

def reBlks (H : List (Nat × Blk)) (keep ks : List Nat) : List Nat → Nat → List (Nat × Blk)
  | [], _ => []
  | i :: l, j => (j, ((look H i).getD (.cells [])).ren (newId keep) (place ks)) :: reBlks H keep ks l (j + 1)

theorem look_reBlks {H : List (Nat × Blk)} {keep ks : List Nat} : ∀ (l : List Nat) (j t : Nat), look (reBlks H keep ks l j) t = if j ≤ t then (l[t - j]?).map fun i => ((look H i).getD (.cells [])).ren (newId keep) (place ks) else none
  | [], j, t => by simp [reBlks, look]
  | i :: l, j, t => by
    simp only [reBlks, look]
    by_cases e : t = j
    · subst e; simp
    · have : Nat.beq t j = false := beq_ne e
      simp only [this, cond_false]
      rw [look_reBlks l (j + 1) t]
      by_cases h : j + 1 ≤ t
      · rw [if_pos h, if_pos (by omega), show t - j = (t - (j + 1)) + 1 by omega]; simp
      · rw [if_neg h, if_neg (by omega)]

def range' : Nat → Nat → List Nat
  | _, 0 => []
  | j, n + 1 => j :: range' (j + 1) n

theorem mem_range' {k : Nat} : ∀ (n j : Nat), k ∈ range' j n ↔ j ≤ k ∧ k < j + n
  | 0, j => by simp [range']
  | n + 1, j => by simp only [range', List.mem_cons, mem_range' n (j + 1)]; omega

/-- the state, counted anew -/
def reSt (keep ks : List Nat) (s : LSt) : LSt := ⟨reBlks s.H keep ks keep 0, keep.length, range' 0 ks.length, ks.length, []⟩

def nodupB : List Nat → Bool
  | [] => true
  | k :: l => !(l.any (Nat.beq k)) && nodupB l

theorem nodupB_spec : ∀ l : List Nat, nodupB l = true → l.Nodup
  | [], _ => .nil
  | k :: l, h => by
    simp only [nodupB, Bool.and_eq_true] at h
    rw [List.nodup_cons]
    refine ⟨fun hm => ?_, nodupB_spec l h.2⟩
    rw [any_beq.2 hm] at h
    simp at h

/-- the first so many numbers stay; all that is kept is there -/
def reB (na : Nat) (keep ks : List Nat) (s : LSt) : Bool :=
  nodupB keep && nodupB ks && (keep.all fun i => (look s.H i).isSome) && (ks.all fun k => s.own.any (Nat.beq k)) && Nat.ble na keep.length && (range' 0 na).all fun i => match keep[i]? with | some j => Nat.beq j i | none => false

def fineBlks (keep : List Nat) (s : LSt) : List Nat → Prop
  | [] => True
  | i :: l => ((look s.H i).getD (.cells [])).fine (fun i => i ∈ keep) ∧ fineBlks keep s l

theorem fineBlks_mem {keep : List Nat} {s : LSt} : ∀ {l : List Nat} {i : Nat}, fineBlks keep s l → i ∈ l → ((look s.H i).getD (.cells [])).fine (fun i => i ∈ keep)
  | j :: l, i, h, hi => by
    rcases List.mem_cons.1 hi with rfl | hi
    · exact h.1
    · exact fineBlks_mem h.2 hi

theorem renumber {na : Nat} {keep ks : List Nat} {s : LSt} (hB : reB na keep ks s = true) (hf : fineBlks keep s keep) {G0 G : Gh} {W w : World} (h0 : ∀ i, na ≤ i → G0.ρ i = none) (h0τ : ∀ k, G0.τ k = none)
    (hE : Ext G0 W G w) (hR : RelS G (over (Emp 0) s) w) :
    ∃ G', Ext G0 W G' w ∧ (reSt keep ks s).On (Emp 0) 0 ∧ RelS G' (over (Emp 0) (reSt keep ks s)) w ∧ Ren G G' (newId keep) (place ks) (fun i => i ∈ keep) := by
  simp only [reB, Bool.and_eq_true, List.all_eq_true] at hB
  obtain ⟨⟨⟨⟨⟨b1, b2⟩, b3⟩, b4⟩, b5⟩, b6⟩ := hB
  have n1 := nodupB_spec _ b1
  have n2 := nodupB_spec _ b2
  have hσ : ∀ i, (over (Emp 0) s).H i = look s.H i := by
    intro i
    show (match look s.H i with | some X => some X | none => none) = _
    cases look s.H i <;> rfl
  have hlook : ∀ j, look (reBlks s.H keep ks keep 0) j = (keep[j]?).map fun i => ((look s.H i).getD (.cells [])).ren (newId keep) (place ks) := by
    intro j; rw [look_reBlks]; simp
  have hσ' : ∀ j, (over (Emp 0) (reSt keep ks s)).H j = (keep[j]?).map fun i => ((look s.H i).getD (.cells [])).ren (newId keep) (place ks) := by
    intro j
    show (match look (reBlks s.H keep ks keep 0) j with | some X => some X | none => none) = _
    rw [hlook]
    cases keep[j]? <;> rfl
  have hkept : ∀ i, i ∈ keep → ∃ X, look s.H i = some X := fun i hi => Option.isSome_iff_exists.1 (b3 i hi)
  have hown' : ∀ k, (over (Emp 0) (reSt keep ks s)).own k = true ↔ k < ks.length := by
    intro k
    show ((range' 0 ks.length).any (Nat.beq k) || false) = true ↔ _
    rw [Bool.or_false, any_beq, mem_range']; omega
  let G' : Gh := { G with ρ := fun j => (keep[j]?).bind G.ρ, τ := fun k => (ks[k]?).bind G.τ }
  have hρG : ∀ j i, keep[j]? = some i → G'.ρ j = G.ρ i := by intro j i h; show (keep[j]?).bind G.ρ = _; rw [h]; rfl
  have hτG : ∀ j i, ks[j]? = some i → G'.τ j = G.τ i := by intro j i h; show (ks[j]?).bind G.τ = _; rw [h]; rfl
  have hρ' : ∀ j b, G'.ρ j = some b → ∃ i, keep[j]? = some i ∧ G.ρ i = some b := by
    intro j b h
    have h' : (keep[j]?).bind G.ρ = some b := h
    cases hk : keep[j]? with
    | none => rw [hk] at h'; cases h'
    | some i => rw [hk] at h'; exact ⟨i, rfl, h'⟩
  have hstamp : ∀ k, k < ks.length → ∃ k1, ks[k]? = some k1 ∧ (over (Emp 0) s).own k1 = true := by
    intro k hk
    refine ⟨ks[k], List.getElem?_eq_getElem hk, ?_⟩
    have := b4 _ (List.getElem_mem hk)
    show (s.own.any (Nat.beq ks[k]) || false) = true
    rw [this]; rfl
  have hren : Ren G G' (newId keep) (place ks) (fun i => i ∈ keep) := by
    refine ⟨fun _ h => h, fun i b hi hb => ?_, fun k k' q hk hq => ?_, fun _ _ h => h⟩
    · obtain ⟨t, ht⟩ := place_mem hi
      have := place_spec ht
      simp only [newId, ht, Option.getD_some]
      rw [hρG _ _ this]; exact hb
    · rw [hτG _ _ (place_spec hk)]; exact hq
  refine ⟨G', ⟨fun i b h => ?_, fun k q h => ?_, hE.L, hE.cell, hE.w0, hE.F, hE.newL⟩, ⟨?_, ?_, ?_, Nat.zero_le _⟩, ⟨?_, ?_, ?_, ?_, ?_, ?_, ?_, ?_, hR.below, hR.base⟩, hren⟩
  · have hi : i < na := by
      rcases Nat.lt_or_ge i na with e | e
      · exact e
      · rw [h0 i e] at h; cases h
    have := b6 i ((mem_range' _ _).2 ⟨Nat.zero_le _, by omega⟩)
    split at this
    · rename_i j hj
      have := Nat.eq_of_beq_eq_true this
      subst this
      rw [hρG _ _ hj]; exact hE.ρ _ _ h
    · cases this
  · rw [h0τ] at h; cases h
  · intro j X hX
    have hX' : look (reBlks s.H keep ks keep 0) j = some X := hX
    rw [hlook] at hX'
    cases hk : keep[j]? with
    | none => rw [hk] at hX'; cases hX'
    | some i => exact (List.getElem?_eq_some_iff.1 hk).1
  · intro k hk
    have := (mem_range' _ _).1 hk
    exact ⟨Nat.zero_le _, by simpa [reSt] using this.2⟩
  · intro k h; cases h
  · intro j
    rw [hσ']
    constructor
    · intro h
      cases hk : keep[j]? with
      | none => rfl
      | some i =>
        obtain ⟨X, hX⟩ := hkept i (List.mem_of_getElem? hk)
        rw [hρG _ _ hk] at h
        have := (hR.dom i).1 h
        rw [hσ, hX] at this; cases this
    · intro h
      cases hk : keep[j]? with
      | none => show (keep[j]?).bind G.ρ = none; rw [hk]; rfl
      | some i => rw [hk] at h; cases h
  · refine ⟨keep.length, fun i hi => ?_⟩
    rw [hσ', List.getElem?_eq_none hi]; rfl
  · intro i j b hi hj
    obtain ⟨i', hi', e1⟩ := hρ' i b hi
    obtain ⟨j', hj', e2⟩ := hρ' j b hj
    have := hR.inj i' j' b e1 e2
    subst this
    exact (List.getElem?_inj (List.getElem?_eq_some_iff.1 hi').1 n1).1 (hi'.trans hj'.symm)
  · intro j b X hb hX
    obtain ⟨i, hi, e1⟩ := hρ' j b hb
    rw [hσ', hi] at hX
    simp only [Option.map_some, Option.some.injEq] at hX
    subst hX
    obtain ⟨Y, hY⟩ := hkept i (List.mem_of_getElem? hi)
    have hfi := fineBlks_mem hf (List.mem_of_getElem? hi)
    rw [hY, Option.getD_some] at hfi ⊢
    obtain ⟨q1, q2⟩ := hR.blk i b Y e1 (by rw [hσ]; exact hY)
    exact ⟨q1, q2.ren hren hfi⟩
  · intro b o hL
    obtain ⟨q1, q2⟩ := hR.live b o hL
    refine ⟨q1, fun j hj => ?_⟩
    obtain ⟨i, _, e1⟩ := hρ' j b hj
    exact q2 i e1
  · intro k hk
    have hk' : ks.length ≤ k := hk
    show (ks[k]?).bind G.τ = none
    rw [List.getElem?_eq_none hk']; rfl
  · intro k hk
    obtain ⟨k1, hk1, ho⟩ := hstamp k ((hown' k).1 hk)
    obtain ⟨b, f, t, q1, q2 | ⟨q2, q3, q4⟩⟩ := hR.own k1 ho
    · exact ⟨b, f, t, (hτG _ _ hk1).trans q1, .inl q2⟩
    refine ⟨b, f, t, (hτG _ _ hk1).trans q1, .inr ⟨q2, fun j hj => ?_, q4⟩⟩
    obtain ⟨i, _, e1⟩ := hρ' j b hj
    exact q3 i e1
  · intro k k' b f t f' t' hk hk' ht ht' l1 l2
    obtain ⟨k1, e1, o1⟩ := hstamp k ((hown' k).1 hk)
    obtain ⟨k2, e2, o2⟩ := hstamp k' ((hown' k').1 hk')
    rw [hτG _ _ e1] at ht
    rw [hτG _ _ e2] at ht'
    have := hR.ownd k1 k2 b f t f' t' o1 o2 ht ht' l1 l2
    subst this
    exact (List.getElem?_inj (List.getElem?_eq_some_iff.1 e1).1 n2).1 (e1.trans e2.symm)

end Go.Ab
