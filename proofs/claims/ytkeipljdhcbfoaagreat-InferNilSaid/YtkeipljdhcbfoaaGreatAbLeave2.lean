/- A CALL IS LEFT: the state behind it. -/
import Derived.Test.YtkeipljdhcbfoaaGreatAbLeave
namespace Go.Ab
open Go Go.RowKit

/-- What must hold of the state at a body's end, so that the call did what 'la' says: kf, kb: new blocks that are kept, under their numbers in the body and behind the call; ks: stamps that are kept. -/
structure Left (σ σ₁ : ASt) (la : LA) (res : AV) (kf kb : Nat → Option Nat) (ks : List Nat) (p : Nat → Bool) (f : Nat → Option Nat) : Prop where
  inv : ∀ i j, kf i = some j ↔ kb j = some i
  kbal : ∀ j, (∃ i, kb j = some i) ↔ j ∈ la.as
  kfree : ∀ i j, kf i = some j → σ.H i = none
  pin : ∀ i, p i = true → (∃ j, kf i = some j) ∨ (∃ X, σ.H i = some X)
  old : ∀ i X, σ.H i = some X → i ∉ la.ws → σ₁.H i = some X
  wr : ∀ i X, i ∈ la.ws → (la.app σ).H i = some X → ∃ Z, σ₁.H i = some Z ∧ X = Z.fix (fun i => (kf i).getD i) f ∧ Z.ids p = true
  al : ∀ i j X, kf i = some j → (la.app σ).H j = some X → ∃ Z, σ₁.H i = some Z ∧ X = Z.fix (fun i => (kf i).getD i) f ∧ Z.ids p = true
  kin : ∀ i j, kf i = some j → ∃ Z, σ₁.H i = some Z
  val : la.v = res.res (fun i => (kf i).getD i) f
  ids : res.ids p = true
  new : la.new = ks.length
  ksn : ks.Nodup
  kso : ∀ k ∈ ks, σ₁.own k = true ∧ σ.ns ≤ k
  keep : ∀ k, σ.own k = true → k ∉ la.use → σ₁.own k = true
  f : ∀ k k', f k = some k' → (k < σ.ns ∧ k' = k) ∨ (∃ t : Nat, ks[t]? = some k ∧ k' = σ.ns + t)

theorem app_H_as {la : LA} {σ : ASt} {j : Nat} (h : j ∈ la.as) : ∃ X, (la.app σ).H j = some X := by
  show ∃ X, ups (ups σ.H (la.wr.map fun p => (p.1, p.2.2))) la.al j = some X
  generalize ups σ.H (la.wr.map fun p => (p.1, p.2.2)) = H
  unfold LA.as at h
  generalize la.al = l at h
  induction l with
  | nil => simp at h
  | cons q l ih =>
    simp only [ups]
    by_cases e : j = q.1
    · subst e; exact ⟨_, up_same _ _ _⟩
    · rw [up_ne _ _ e]
      simp only [List.map_cons, List.mem_cons] at h
      exact ih (h.resolve_left e)

theorem app_H_ws {la : LA} {σ : ASt} {j : Nat} (h : j ∈ la.ws) : ∃ X, (la.app σ).H j = some X := by
  by_cases h2 : j ∈ la.as
  · exact app_H_as h2
  · show ∃ X, ups (ups σ.H (la.wr.map fun p => (p.1, p.2.2))) la.al j = some X
    rw [ups_not _ h2]
    unfold LA.ws at h
    generalize la.wr = l at h
    induction l with
    | nil => simp at h
    | cons q l ih =>
      simp only [List.map_cons, ups]
      by_cases e : j = q.1
      · subst e; exact ⟨_, up_same _ _ _⟩
      · rw [up_ne _ _ e]
        simp only [List.map_cons, List.mem_cons] at h
        exact ih (h.resolve_left e)

theorem leave {σ σ₁ : ASt} {la : LA} {res : AV} {kf kb : Nat → Option Nat} {ks : List Nat} {p : Nat → Bool} {f : Nat → Option Nat} (hL : Left σ σ₁ la res kf kb ks p f)
    {G G₁ : Gh} {w w₁ : World} (hR : RelS G σ w) (hE : Ext G w G₁ w₁) (hR₁ : RelS G₁ σ₁ w₁) (hc : la.can σ) {u : Value} (hv : V G₁ w₁ res u) :
    ∃ G', Ext G w G' w₁ ∧ RelS G' (la.app σ) w₁ ∧ V G' w₁ la.v u := by
  let G' : Gh := { G₁ with
    ρ := fun j => match kb j with | some i => G₁.ρ i | none => (σ.H j).bind fun _ => G₁.ρ j
    τ := fun k => if k < σ.ns then G₁.τ k else (ks[k - σ.ns]?).bind fun k => G₁.τ k }
  have ρk : ∀ {i j}, kf i = some j → G'.ρ j = G₁.ρ i := by
    intro i j h
    show (match kb j with | some i => G₁.ρ i | none => _) = _
    rw [(hL.inv i j).1 h]
  have ρo : ∀ {j X}, σ.H j = some X → j ∉ la.as → G'.ρ j = G₁.ρ j := by
    intro j X h hn
    show (match kb j with | some i => G₁.ρ i | none => (σ.H j).bind fun _ => G₁.ρ j) = _
    cases hk : kb j with
    | some i => exact absurd ((hL.kbal j).1 ⟨i, hk⟩) hn
    | none => simp [h]
  have aln : ∀ {j}, j ∈ la.as → σ.H j = none := by
    intro j hj
    obtain ⟨q, hq, rfl⟩ := List.mem_map.1 hj
    exact hc.al q.1 q.2 hq
  have ρo' : ∀ {j X}, σ.H j = some X → G'.ρ j = G₁.ρ j := by
    intro j X h
    exact ρo h (fun hj => by rw [aln hj] at h; cases h)
  -- where a number comes from
  have pre : ∀ {j b}, G'.ρ j = some b → ∃ i, G₁.ρ i = some b ∧ ((kf i = some j) ∨ (i = j ∧ kb j = none ∧ ∃ X, σ.H j = some X)) := by
    intro j b h
    have h' : (match kb j with | some i => G₁.ρ i | none => (σ.H j).bind fun _ => G₁.ρ j) = some b := h
    cases hk : kb j with
    | some i => rw [hk] at h'; exact ⟨i, h', .inl ((hL.inv i j).2 hk)⟩
    | none =>
      rw [hk] at h'
      cases hX : σ.H j with
      | none => simp [hX] at h'
      | some X => simp [hX] at h'; exact ⟨j, h', .inr ⟨rfl, rfl, X, rfl⟩⟩
  have hE' : Ext G w G' w₁ := by
    refine ⟨fun i b h => ?_, fun k q h => ?_, hE.L, hE.cell, hE.w0, hE.F, hE.newL⟩
    · obtain ⟨X, hX⟩ := hR.has h
      rw [ρo' hX]; exact hE.ρ i b h
    · have hk : k < σ.ns := by
        rcases Nat.lt_or_ge k σ.ns with e | e
        · exact e
        · rw [hR.τns k e] at h; cases h
      show (if k < σ.ns then _ else _) = _
      rw [if_pos hk]; exact hE.τ k q h
  have hfit : Refit G₁ G' (fun i => (kf i).getD i) p := by
    refine ⟨rfl, fun i b hp hb => ?_, fun _ _ h => h⟩
    rcases hL.pin i hp with ⟨j, hj⟩ | ⟨X, hX⟩
    · simp only [hj, Option.getD_some]; rw [ρk hj]; exact hb
    · have hk : kf i = none := by
        cases hk : kf i with
        | none => rfl
        | some j => rw [hL.kfree i j hk] at hX; cases hX
      simp only [hk, Option.getD_none]; rw [ρo' hX]; exact hb
  have hf : ∀ k k' q, f k = some k' → G₁.τ k = some q → G'.τ k' = some q := by
    intro k k' q h1 h2
    rcases hL.f k k' h1 with ⟨h3, rfl⟩ | ⟨t, h3, rfl⟩
    · show (if k' < σ.ns then _ else _) = _
      rw [if_pos h3]; exact h2
    · show (if σ.ns + t < σ.ns then _ else _) = _
      rw [if_neg (by omega), show σ.ns + t - σ.ns = t by omega, h3]; exact h2
  -- a stamp behind the call
  have stp : ∀ {k}, (la.app σ).own k = true → ∃ k₁, σ₁.own k₁ = true ∧ G'.τ k = G₁.τ k₁ ∧ ((k < σ.ns ∧ k₁ = k) ∨ ∃ t : Nat, k = σ.ns + t ∧ ks[t]? = some k₁) := by
    intro k hk
    have hk' : (if σ.ns ≤ k ∧ k < σ.ns + la.new then true else if k ∈ la.use then false else σ.own k) = true := hk
    by_cases hn : σ.ns ≤ k ∧ k < σ.ns + la.new
    · have hlt : k - σ.ns < ks.length := by rw [← hL.new]; omega
      have hget : ks[k - σ.ns]? = some ks[k - σ.ns] := List.getElem?_eq_getElem hlt
      refine ⟨ks[k - σ.ns], (hL.kso _ (List.getElem_mem hlt)).1, ?_, .inr ⟨k - σ.ns, by omega, hget⟩⟩
      show (if k < σ.ns then _ else _) = _
      rw [if_neg (by omega), hget]; rfl
    · rw [if_neg hn] at hk'
      by_cases hu : k ∈ la.use
      · rw [if_pos hu] at hk'; cases hk'
      · rw [if_neg hu] at hk'
        have hlt := hR.own_lt hk'
        refine ⟨k, hL.keep k hk' hu, ?_, .inl ⟨hlt, rfl⟩⟩
        show (if k < σ.ns then _ else _) = _
        rw [if_pos hlt]
  have ρne : ∀ {b}, (∀ i, G₁.ρ i ≠ some b) → ∀ i, G'.ρ i ≠ some b := by
    intro b h i hi
    obtain ⟨j, hj, _⟩ := pre hi
    exact h j hj
  refine ⟨G', hE', ⟨?_, ?_, ?_, ?_, ?_, ?_, ?_, ?_, ?_, ?_⟩, by rw [hL.val]; exact V.res hfit hf res u hL.ids hv⟩
  · intro j
    constructor
    · intro h
      cases hX : (la.app σ).H j with
      | none => rfl
      | some X =>
        exfalso
        by_cases ha : j ∈ la.as
        · obtain ⟨i, hi⟩ := (hL.kbal j).2 ha
          have hi' := (hL.inv i j).2 hi
          obtain ⟨Z, hZ⟩ := hL.kin i j hi'
          rw [ρk hi'] at h
          rw [(hR₁.dom i).1 h] at hZ; cases hZ
        · have : ∃ Y, σ.H j = some Y := by
            by_cases hw : j ∈ la.ws
            · obtain ⟨q, hq, rfl⟩ := List.mem_map.1 hw
              exact ⟨_, hc.wr q.1 q.2.1 q.2.2 hq⟩
            · rw [app_H_not hw ha] at hX; exact ⟨X, hX⟩
          obtain ⟨Y, hY⟩ := this
          rw [ρo hY ha] at h
          obtain ⟨b, hb, _⟩ := hR.look hY
          rw [hE.ρ j b hb] at h; cases h
    · intro h
      cases hb : G'.ρ j with
      | none => rfl
      | some b =>
        exfalso
        obtain ⟨i, _, hi | ⟨rfl, hk, X, hX⟩⟩ := pre hb
        · obtain ⟨X, hX⟩ := app_H_as (σ := σ) ((hL.kbal j).1 ⟨i, (hL.inv i j).1 hi⟩)
          rw [hX] at h; cases h
        · by_cases hw : i ∈ la.ws
          · obtain ⟨X, hX⟩ := app_H_ws (σ := σ) hw
            rw [hX] at h; cases h
          · have ha : i ∉ la.as := fun ha => by rw [aln ha] at hX; cases hX
            rw [app_H_not hw ha, hX] at h; cases h
  · obtain ⟨N, hN⟩ := hR.fin
    refine ⟨N + (la.ws ++ la.as).foldr (fun i s => i + 1 + s) 0, fun i hi => ?_⟩
    have big : ∀ (l : List Nat) i, i ∈ l → i < l.foldr (fun i s => i + 1 + s) 0 := by
      intro l
      induction l with
      | nil => intro i hi; cases hi
      | cons x l ih =>
        intro i hi
        simp only [List.foldr_cons]
        rcases List.mem_cons.1 hi with rfl | hi
        · omega
        · have := ih i hi; omega
    have hn : i ∉ la.ws ++ la.as := fun h => by have := big _ i h; omega
    simp only [List.mem_append, not_or] at hn
    rw [app_H_not hn.1 hn.2]
    exact hN i (by omega)
  · intro i j b hi hj
    obtain ⟨i', hi', ci⟩ := pre hi
    obtain ⟨j', hj', cj⟩ := pre hj
    have e := hR₁.inj i' j' b hi' hj'
    subst e
    rcases ci with ci | ⟨rfl, _, X, hX⟩ <;> rcases cj with cj | ⟨rfl, _, Y, hY⟩
    · rw [ci] at cj; cases cj; rfl
    · rw [hL.kfree _ _ ci] at hY; cases hY
    · rw [hL.kfree _ _ cj] at hX; cases hX
    · rfl
  · intro j b X hb hX
    obtain ⟨i, hi, hcase⟩ := pre hb
    rcases hcase with hk | ⟨rfl, _, Y, hY⟩
    · obtain ⟨Z, hZ, rfl, hids⟩ := hL.al i j X hk hX
      obtain ⟨h1, h2⟩ := hR₁.blk i b Z hi hZ
      exact ⟨h1, BlkOk.fix hfit hf hids h2⟩
    · by_cases hw : i ∈ la.ws
      · obtain ⟨Z, hZ, rfl, hids⟩ := hL.wr i X hw hX
        obtain ⟨h1, h2⟩ := hR₁.blk i b Z hi hZ
        exact ⟨h1, BlkOk.fix hfit hf hids h2⟩
      · have ha : i ∉ la.as := fun ha => by rw [aln ha] at hY; cases hY
        rw [app_H_not hw ha, hY] at hX
        simp only [Option.some.injEq] at hX
        subst hX
        obtain ⟨h1, h2⟩ := hR₁.blk i b Y hi (hL.old i Y hY hw)
        obtain ⟨b0, hb0, _, hblk0⟩ := hR.look hY
        refine ⟨h1, BlkOk.both (G := G) (w := w) (b' := b0) (show G'.F = G₁.F from rfl) (fun i b h => ⟨hE.ρ i b h, hE'.ρ i b h⟩) (fun k q h => ⟨hE.τ k q h, hE'.τ k q h⟩) (fun _ _ h => h) hblk0 h2⟩
  · intro b o hLL
    obtain ⟨h1, h2⟩ := hR₁.live b o hLL
    exact ⟨h1, ρne h2⟩
  · intro k hk
    have hk' : σ.ns + la.new ≤ k := hk
    show (if k < σ.ns then _ else _) = _
    rw [if_neg (by omega), List.getElem?_eq_none (by rw [← hL.new]; omega)]; rfl
  · intro k hk
    obtain ⟨k₁, h1, h2, _⟩ := stp hk
    obtain ⟨b, f', t, q1, q2 | ⟨q2, q3, q4, q5⟩⟩ := hR₁.own k₁ h1
    · exact ⟨b, f', t, h2.trans q1, .inl q2⟩
    · exact ⟨b, f', t, h2.trans q1, .inr ⟨q2, ρne q3, q4, q5⟩⟩
  · intro k k' b f1 t1 f2 t2 hk hk' ht ht' l1 l2
    obtain ⟨k₁, h1, h2, c1⟩ := stp hk
    obtain ⟨k₂, h3, h4, c2⟩ := stp hk'
    rw [h2] at ht; rw [h4] at ht'
    have e := hR₁.ownd k₁ k₂ b f1 t1 f2 t2 h1 h3 ht ht' l1 l2
    subst e
    rcases c1 with ⟨a1, rfl⟩ | ⟨t, rfl, a1⟩ <;> rcases c2 with ⟨a2, rfl⟩ | ⟨t', rfl, a2⟩
    · rfl
    · have := (hL.kso _ (List.mem_of_getElem? a2)).2; omega
    · have := (hL.kso _ (List.mem_of_getElem? a1)).2; omega
    · have := (List.getElem?_inj (List.getElem?_eq_some_iff.1 a1).1 hL.ksn).1 (a1.trans a2.symm)
      omega
  · have := hR₁.below; exact this
  · exact hR₁.base

end Go.Ab
