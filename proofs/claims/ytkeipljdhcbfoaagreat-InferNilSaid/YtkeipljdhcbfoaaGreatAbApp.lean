/- AN APPEND IN PLACE. -/
import Derived.Test.YtkeipljdhcbfoaaGreatAbStep
namespace Go.Ab
open Go Go.RowKit

theorem RelS.appendIn {G : Gh} {σ : ASt} {w : World} (h : RelS G σ w) (cs : List AV) (vs : List Value) (hv : VL G w cs vs) {k b f t : Nat}
    (hk : σ.own k = true) (ht : G.τ k = some (b, f, t)) (hft : f < t) (hroom : f + vs.length ≤ t) {cur : Array Value} {T : TypeId} (hb : w.heap[b]? = some (.cells cur T (0, 0))) :
    let G' := (G.addL b f (f + vs.length)).addτ σ.ns (b, f + vs.length, t)
    let w' := w.setRow b (cur.toList.take f ++ vs ++ cur.toList.drop (f + vs.length)).toArray
    Ext G w G' w' ∧ RelS G' (σ.stamp (some k) true) w' ∧ VC G' w' cs b f := by
  intro G' w'
  obtain ⟨b', f', t', q1, q2 | ⟨hB, hρ, hL0, cur', T', hb', hsz⟩⟩ := h.own k hk
  · rw [ht] at q1; cases q1; omega
  rw [ht] at q1; cases q1
  rw [hb] at hb'; cases hb'
  have hklt := h.own_lt hk
  have hw' : w'.heap[b]? = some (.cells (cur.toList.take f ++ vs ++ cur.toList.drop (f + vs.length)).toArray T (0, 0)) := setRow_heap w b cur _ T _ hb
  have hlen : (cur.toList.take f ++ vs ++ cur.toList.drop (f + vs.length)).length = cur.size := by
    simp; omega
  have hcell : ∀ i (hi : i < vs.length), w'.cell? ⟨b, f + i, none⟩ = some vs[i] := by
    intro i hi
    simp only [World.cell?, hw']
    simp only [Option.isSome_none, Bool.false_eq_true, if_false, List.getElem?_toArray]
    rw [List.append_assoc, List.getElem?_append_right (by simp; omega), List.getElem?_append_left (by simp; omega)]
    simp only [List.length_take, Array.length_toList]
    rw [show f + i - min f cur.size = i by omega]
    simp [hi]
  have hold : ∀ o, o < f → w'.cell? ⟨b, o, none⟩ = w.cell? ⟨b, o, none⟩ := by
    intro o ho
    simp only [World.cell?, hw', hb]
    simp only [Option.isSome_none, Bool.false_eq_true, if_false, List.getElem?_toArray]
    rw [List.append_assoc, List.getElem?_append_left (by simp; omega)]
    simp [ho]
  have hE : Ext G w G' w' := by
    refine ⟨fun _ _ e => e, fun _ _ e => up_old (h.τns _ (Nat.le_refl _)) e, fun _ _ e => .inl e, fun c o e => ?_, rfl, rfl, fun _ _ e => e.elim .inl fun q => .inr (by rw [q.1]; exact hB)⟩
    by_cases hc : c = b
    · subst hc
      rcases Nat.lt_or_ge o f with ho | ho
      · exact hold o ho
      · rcases Nat.lt_or_ge o t with ho2 | ho2
        · exact absurd e (hL0 o ho ho2)
        · simp only [World.cell?, hw', hb]
          simp only [Option.isSome_none, Bool.false_eq_true, if_false, List.getElem?_toArray]
          rw [List.getElem?_append_right (by simp; omega)]
          simp only [List.length_append, List.length_take, Array.length_toList, List.getElem?_drop]
          rw [show f + vs.length + (o - (min f cur.size + vs.length)) = o by omega]
          simp
    · exact cell?_setRow_other w b _ hc
  have hblk : ∀ c, c ≠ b → w'.heap[c]? = w.heap[c]? := fun c hc => setRow_other w b c _ hc
  refine ⟨hE, ⟨h.dom, h.fin, h.inj, ?_, ?_, ?_, ?_, ?_, Keep.setRow h.below hB _, fun k hk => by rw [size_setRow]; exact h.base k hk⟩, ?_⟩
  · intro i c X hi hX
    obtain ⟨h1, h3⟩ := h.blk i c X hi hX
    exact ⟨h1, BlkOk.mono hE (hblk c (fun e => hρ i (e ▸ hi))) h3⟩
  · intro c o hL
    rcases hL with hL | ⟨rfl, h1, h2⟩
    · obtain ⟨⟨v, hv⟩, h2⟩ := h.live c o hL
      exact ⟨⟨v, (hE.cell c o hL).trans hv⟩, h2⟩
    · have := hcell (o - f) (by omega)
      rw [show f + (o - f) = o by omega] at this
      exact ⟨⟨_, this⟩, hρ⟩
  · intro j hj
    have hj' : σ.ns + 1 ≤ j := by simpa [ASt.stamp] using hj
    show up G.τ σ.ns _ j = none
    rw [up_ne _ _ (by omega)]; exact h.τns j (by omega)
  · intro j hj
    by_cases e : j = σ.ns
    · subst e
      refine ⟨b, f + vs.length, t, up_same _ _ _, .inr ⟨hB, hρ, fun o ho ho2 hL => ?_, _, T, hw', by rw [List.size_toArray, hlen]; exact hsz⟩⟩
      rcases hL with hL | ⟨_, _, hlt⟩
      · exact hL0 o (by omega) ho2 hL
      · omega
    · have hj' : j ≠ k ∧ σ.own j = true := by
        by_cases ej : j = k
        · subst ej; simp [ASt.stamp, e] at hj
        · have ek : ¬ k = j := fun x => ej x.symm
          exact ⟨ej, by simpa [ASt.stamp, e, ek] using hj⟩
      obtain ⟨c, f', t', h1, h2'⟩ := h.own j hj'.2
      rcases h2' with h2' | ⟨h2, h3, h4, vs', T', h5, h6⟩
      · exact ⟨c, f', t', (up_ne _ _ e).trans h1, .inl h2'⟩
      by_cases hcb : c = b
      · have h5b : w.heap[b]? = some (.cells vs' T' (0, 0)) := hcb ▸ h5
        rw [hb] at h5b; cases h5b
        have hemp : t' ≤ f' := by
          rcases Nat.lt_or_ge f' t' with hl | hl
          · exact absurd (h.ownd j k c f' t' f t hj'.2 hk h1 (hcb ▸ ht) hl hft) hj'.1
          · exact hl
        exact ⟨c, f', t', (up_ne _ _ e).trans h1, .inr ⟨h2, h3, fun o ho hlt _ => by omega, _, T, by rw [hcb]; exact hw', by rw [List.size_toArray, hlen]; exact h6⟩⟩
      refine ⟨c, f', t', (up_ne _ _ e).trans h1, .inr ⟨h2, h3, fun o ho hlt hL => ?_, vs', T', (hblk c hcb).trans h5, h6⟩⟩
      rcases hL with hL | ⟨e', _, _⟩
      · exact h4 o ho hlt hL
      · exact hcb e'
  · have key : ∀ j c f' t', j ≠ σ.ns → (σ.stamp (some k) true).own j = true → G'.τ j = some (c, f', t') → f' < t' → c ≠ b ∧ σ.own j = true ∧ G.τ j = some (c, f', t') := by
      intro j c f' t' e hj ht' hl
      have hj' : j ≠ k ∧ σ.own j = true := by
        by_cases ej : j = k
        · subst ej; simp [ASt.stamp, e] at hj
        · have ek : ¬ k = j := fun x => ej x.symm
          exact ⟨ej, by simpa [ASt.stamp, e, ek] using hj⟩
      have ht2 : G.τ j = some (c, f', t') := (up_ne _ _ e).symm.trans ht'
      refine ⟨?_, hj'.2, ht2⟩
      rintro rfl
      exact hj'.1 (h.ownd j k c f' t' f t hj'.2 hk ht2 ht hl hft)
    intro j j' c f1 t1 f2 t2 hj hj' h1 h2 l1 l2
    have hnew : G'.τ σ.ns = some (b, f + vs.length, t) := up_same _ _ _
    by_cases e : j = σ.ns <;> by_cases e' : j' = σ.ns
    · omega
    · subst e; rw [hnew] at h1; cases h1
      exact absurd rfl (key j' _ _ _ e' hj' h2 l2).1
    · subst e'; rw [hnew] at h2; cases h2
      exact absurd rfl (key j _ _ _ e hj h1 l1).1
    · obtain ⟨_, q1, q2⟩ := key j _ _ _ e hj h1 l1
      obtain ⟨_, q3, q4⟩ := key j' _ _ _ e' hj' h2 l2
      exact h.ownd j j' c f1 t1 f2 t2 q1 q3 q2 q4 l1 l2
  · exact VC.of_cells cs vs _ _ (VL.mono hE _ _ hv) (fun i hi => .inr ⟨rfl, by omega, by omega⟩) hcell


/-- a new block that is read from now on, whole -/
theorem RelS.alloc_full {G : Gh} {σ : ASt} {w : World} (h : RelS G σ w) (cs : List AV) (vs : List Value) (T : TypeId) (hv : VL G w cs vs) :
    let G' := G.addL w.heap.size 0 vs.length
    let w' := w.alloc (.cells vs.toArray T)
    Ext G w G' w' ∧ RelS G' σ w' ∧ VC G' w' cs w.heap.size 0 := by
  intro G' w'
  have hcell : ∀ i (hi : i < vs.length), w'.cell? ⟨w.heap.size, i, none⟩ = some vs[i] := by
    intro i hi
    show (w.alloc _).cell? _ = _
    rw [World.cell?_alloc_new]
    simp [hi]
  have hE : Ext G w G' w' := ⟨fun _ _ e => e, fun _ _ e => e, fun _ _ e => .inl e,
    fun b o e => World.cell?_alloc_lt w _ ⟨b, o, none⟩ (h.L_lt e), rfl, rfl, fun _ _ e => e.elim .inl fun q => .inr (by rw [q.1]; exact h.fnew)⟩
  refine ⟨hE, ⟨h.dom, h.fin, h.inj, ?_, ?_, h.τns, ?_, h.ownd, h.below.alloc h.base _, fun k hk => Nat.lt_of_lt_of_le (h.base k hk) (show w.heap.size ≤ (w.alloc _).heap.size by simp)⟩, ?_⟩
  · intro i b X hi hX
    obtain ⟨h1, h3⟩ := h.blk i b X hi hX
    exact ⟨h1, BlkOk.mono hE (heap_alloc_lt w _ (h.ρ_lt hi)) h3⟩
  · intro b o hL
    rcases hL with hL | ⟨rfl, _, hlt⟩
    · obtain ⟨⟨v, hv⟩, h2⟩ := h.live b o hL
      exact ⟨⟨v, (World.cell?_alloc_lt w _ _ (h.L_lt hL)).trans hv⟩, h2⟩
    · exact ⟨⟨_, hcell o (by omega)⟩, fun i hi => absurd (h.ρ_lt hi) (Nat.lt_irrefl _)⟩
  · intro k hk
    obtain ⟨b, f, t, h1, h2 | ⟨h2, h3, h4, vs', T', h5, h6⟩⟩ := h.own k hk
    · exact ⟨b, f, t, h1, .inl h2⟩
    have hlt : b < w.heap.size := (Array.getElem?_eq_some_iff.1 h5).1
    refine ⟨b, f, t, h1, .inr ⟨h2, h3, fun o ho ht hL => ?_, vs', T', (heap_alloc_lt w _ hlt).trans h5, h6⟩⟩
    rcases hL with hL | ⟨e, _, _⟩
    · exact h4 o ho ht hL
    · omega
  · refine VC.of_cells cs vs _ _ (VL.mono hE _ _ hv) (fun i hi => .inr ⟨rfl, Nat.zero_le _, by omega⟩) (fun i hi => ?_)
    simpa using hcell i hi

/-- a stamp is given up -/
theorem RelS.drop {G : Gh} {σ : ASt} {w : World} (h : RelS G σ w) (own' : Nat → Bool) (ho : ∀ k, own' k = true → σ.own k = true) : RelS G ⟨σ.H, own', σ.ns⟩ w :=
  ⟨h.dom, h.fin, h.inj, h.blk, h.live, h.τns, fun k hk => h.own k (ho k hk), fun k k' b f t f' t' hk hk' => h.ownd k k' b f t f' t' (ho k hk) (ho k' hk'), h.below, h.base⟩

end Go.Ab
