/- AN EMPTY SLICE IS GIVEN A STAMP: so that a list that grows has one form, ahead of its first element too. -/
import Derived.Test.YtkeipljdhcbfoaaGreatAbXc
namespace Go.Ab
open Go Go.RowKit

def reown (k sz : Nat) : AV → Option AV
  | .sl es n .full => match es, n with
    | [], 0 => some (.sl [] 0 (.st k sz))
    | _, _ => none
  | .sl es n .nl => some (.sl es n (.st k sz))
  | _ => none

def LSt.more (s : LSt) : LSt := { s with own := s.ns :: s.own, ns := s.ns + 1 }

def setBlk : List (Nat × Blk) → Nat → Blk → List (Nat × Blk)
  | [], _, _ => []
  | p :: l, i, X => bif Nat.beq i p.1 then (p.1, X) :: l else p :: setBlk l i X

theorem look_setBlk : ∀ (l : List (Nat × Blk)) (i j : Nat) (X Y : Blk), look l i = some Y → look (setBlk l i X) j = if j = i then some X else look l j
  | [], _, _, _, _, h => by cases h
  | p :: l, i, j, X, Y, h => by
    simp only [look] at h
    simp only [setBlk]
    cases hb : Nat.beq i p.1 with
    | true =>
      have := Nat.eq_of_beq_eq_true hb
      subst this
      simp only [cond_true, look]
      by_cases e : j = p.1
      · subst e; simp
      · rw [if_neg e, beq_ne e]; rfl
    | false =>
      rw [hb] at h
      have ih := look_setBlk l i j X Y h
      simp only [cond_false, look]
      by_cases e : j = p.1
      · subst e
        have hne : p.1 ≠ i := by rintro rfl; simp at hb
        rw [if_neg hne]; simp
      · rw [beq_ne e]; simp only [cond_false]; exact ih

/-- one place: a slot, or a block's cell -/
def restamp (it : Option Nat × Nat × Nat) (env : List AV) (s : LSt) : Option (List AV × LSt) :=
  match it with
  | (none, t, sz) => match env[t]? with
    | some a => match reown s.ns sz a with
      | some a' => some (env.set t a', s.more)
      | none => none
    | none => none
  | (some b, c, sz) => match look s.H b with
    | some (.cells cs) => match cs[c]? with
      | some a => match reown s.ns sz a with
        | some a' => some (env, { s.more with H := setBlk s.H b (.cells (cs.set c a')) })
        | none => none
      | none => none
    | _ => none

def restamps : List (Option Nat × Nat × Nat) → List AV → LSt → Option (List AV × LSt)
  | [], env, s => some (env, s)
  | it :: l, env, s => match restamp it env s with
    | some (env', s') => restamps l env' s'
    | none => none

theorem V.reown {G : Gh} {w : World} {k sz : Nat} {a a' : AV} {u : Value} (h : Ab.reown k sz a = some a') (hτ : ∃ q, G.τ k = some q) (hv : V G w a u) : V G w a' u := by
  unfold Ab.reown at h
  split at h
  · split at h
    · cases h
      simp only [V] at hv ⊢
      obtain ⟨cap, hc, ⟨_, _, q3, q4, _⟩ | ⟨b, off, q1, q2, q3⟩⟩ := hv
      · exact ⟨cap, hc, .inl ⟨trivial, trivial, q3, q4, hτ⟩⟩
      · refine ⟨cap, hc, .inr ⟨b, off, q1, q2, hτ, .inl ⟨rfl, q3⟩⟩⟩
    · cases h
  · cases h
    simp only [V] at hv ⊢
    obtain ⟨cap, hc, ⟨q1, q2, q3, q4, _⟩ | ⟨b, off, q1, q2, q3⟩⟩ := hv
    · exact ⟨cap, hc, .inl ⟨q1, q2, q3, q4, hτ⟩⟩
    · exact q3.elim
  · cases h

theorem VL.set' {G : Gh} {w : World} : ∀ (as : List AV) (us : List Value), VL G w as us → ∀ (i : Nat) (a a' : AV), as[i]? = some a → (∀ u, V G w a u → V G w a' u) → VL G w (as.set i a') us
  | [], [], _, i, a, a', h, _ => by simp at h
  | x :: as, y :: us, h, i, a, a', ha, hq => by
    simp only [VL] at h
    cases i with
    | zero => simp at ha; subst ha; simp only [List.set_cons_zero, VL]; exact ⟨hq _ h.1, h.2⟩
    | succ i => simp at ha; simp only [List.set_cons_succ, VL]; exact ⟨h.1, VL.set' as us h.2 i a a' ha hq⟩
  | [], _ :: _, h, _, _, _, _, _ => by simp only [VL] at h
  | _ :: _, [], h, _, _, _, _, _ => by simp only [VL] at h

theorem Ext.more {G : Gh} {s : LSt} {w : World} (hR : RelS G (over (Emp 0) s) w) : Ext G w (G.addτ s.ns (0, 1, 0)) w :=
  ⟨fun _ _ h => h, fun k r h => up_old (hR.τns s.ns (Nat.le_refl _)) h, fun _ _ h => h, fun _ _ _ => rfl, rfl, rfl, fun _ _ h => .inl h⟩

theorem RelS.more {G : Gh} {s : LSt} {w : World} (hR : RelS G (over (Emp 0) s) w) : RelS (G.addτ s.ns (0, 1, 0)) (over (Emp 0) s.more) w := by
  have hE := Ext.more hR
  have hold : ∀ k, (over (Emp 0) s.more).own k = true → k = s.ns ∨ (k ≠ s.ns ∧ (over (Emp 0) s).own k = true ∧ (G.addτ s.ns (0, 1, 0)).τ k = G.τ k) := by
    intro k hk
    by_cases e : k = s.ns
    · exact .inl e
    · refine .inr ⟨e, ?_, up_ne _ _ e⟩
      rw [over_own] at hk ⊢
      simp only [LSt.more, List.any_cons, Bool.or_eq_true] at hk
      exact hk.resolve_left (fun h => e (Nat.eq_of_beq_eq_true h))
  have hnew : (G.addτ s.ns (0, 1, 0)).τ s.ns = some (0, 1, 0) := up_same _ _ _
  refine ⟨hR.dom, hR.fin, hR.inj, fun i b X hi hX => ?_, hR.live, fun k hk => ?_, fun k hk => ?_, fun k k' b f t f' t' hk hk' h1 h2 l1 l2 => ?_, hR.below, hR.base⟩
  · obtain ⟨q1, q2⟩ := hR.blk i b X hi hX
    exact ⟨q1, q2.mono hE rfl⟩
  · have hk' : s.ns + 1 ≤ k := hk
    show up G.τ s.ns _ k = none
    rw [up_ne _ _ (by omega)]; exact hR.τns k (show s.ns ≤ k by omega)
  · rcases hold k hk with rfl | ⟨e, h1, h2⟩
    · exact ⟨0, 1, 0, hnew, .inl (Nat.lt_succ_self _)⟩
    · obtain ⟨b, f, t, q1, q2⟩ := hR.own k h1
      exact ⟨b, f, t, h2.trans q1, q2⟩
  · rcases hold k hk with rfl | ⟨e, q1, q2⟩
    · rw [hnew] at h1; cases h1; omega
    · rcases hold k' hk' with rfl | ⟨e', q3, q4⟩
      · rw [hnew] at h2; cases h2; omega
      · rw [q2] at h1; rw [q4] at h2
        exact hR.ownd k k' b f t f' t' q1 q3 h1 h2 l1 l2

theorem more_ok {s : LSt} (h : s.Ok) : s.more.Ok :=
  ⟨h.H, fun k hk => by
    rcases List.mem_cons.1 hk with rfl | hk
    · exact ⟨Nat.zero_le _, Nat.lt_succ_self _⟩
    · exact ⟨Nat.zero_le _, Nat.lt_succ_of_lt (h.own k hk).2⟩, h.fr, Nat.zero_le _⟩

theorem Rel.restamp {it : Option Nat × Nat × Nat} {env env' : List AV} {s s' : LSt} (h : Ab.restamp it env s = some (env', s')) {G : Gh} {a : Act} {w : World} (ho : s.Ok) (hR : Rel G ⟨env, over (Emp 0) s⟩ a w) :
    ∃ G', Ext G w G' w ∧ s'.Ok ∧ Rel G' ⟨env', over (Emp 0) s'⟩ a w := by
  have hE := Ext.more hR.st
  have hM := RelS.more hR.st
  have hτ : ∃ q, (G.addτ s.ns (0, 1, 0)).τ s.ns = some q := ⟨_, up_same _ _ _⟩
  have henv := VL.mono hE _ _ hR.env
  obtain ⟨ob, c, sz⟩ := it
  cases ob with
  | none =>
    simp only [Ab.restamp] at h
    split at h
    · rename_i x hx
      split at h
      · rename_i x' hx'
        cases h
        refine ⟨_, hE, more_ok ho, hM, ?_, hR.dfr⟩
        exact VL.set' _ _ henv c x x' hx fun u hu => V.reown hx' hτ hu
      · cases h
    · cases h
  | some b =>
    simp only [Ab.restamp] at h
    split at h
    · rename_i cs hcs
      split at h
      · rename_i x hx
        split at h
        · rename_i x' hx'
          cases h
          have hl : ∀ j, look (setBlk s.H b (.cells (cs.set c x'))) j = if j = b then some (.cells (cs.set c x')) else look s.H j := fun j => look_setBlk _ _ _ _ _ hcs
          refine ⟨_, hE, ⟨fun i X hX => ?_, (more_ok ho).own, ho.fr, Nat.zero_le _⟩, ⟨fun i => ?_, ?_, hM.inj, fun i q X hi hX => ?_, hM.live, hM.τns, hM.own, hM.ownd, hM.below, hM.base⟩, henv, hR.dfr⟩
          · have hX' : look (setBlk s.H b (.cells (cs.set c x'))) i = some X := hX
            rw [hl] at hX'
            by_cases e : i = b
            · subst e; exact ho.H i _ hcs
            · rw [if_neg e] at hX'; exact ho.H i X hX'
          · have := hM.dom i
            rw [this, over_H, over_H]
            show look s.H i = none ↔ look (setBlk s.H b (.cells (cs.set c x'))) i = none
            rw [hl]
            by_cases e : i = b
            · subst e; simp [hcs]
            · rw [if_neg e]
          · obtain ⟨N, hN⟩ := hM.fin
            refine ⟨max N (b + 1), fun i hi => ?_⟩
            have := hN i (by omega)
            rw [over_H] at this ⊢
            show look (setBlk s.H b (.cells (cs.set c x'))) i = none
            rw [hl, if_neg (by omega)]; exact this
          · rw [over_H] at hX
            have hX' : look (setBlk s.H b (.cells (cs.set c x'))) i = some X := hX
            rw [hl] at hX'
            by_cases e : i = b
            · subst e
              rw [if_pos rfl] at hX'
              cases hX'
              obtain ⟨q1, vs, T, q2, q3⟩ := hM.blk i q _ hi (by rw [over_H]; exact hcs)
              exact ⟨q1, vs, T, q2, q3.imp fun us q3 => VL.set' _ _ q3 c x x' hx fun u hu => V.reown hx' hτ hu⟩
            · rw [if_neg e] at hX'
              exact hM.blk i q X hi (by rw [over_H]; exact hX')
        · cases h
      · cases h
    · cases h

theorem Rel.restamps : ∀ (l : List (Option Nat × Nat × Nat)) {env env' : List AV} {s s' : LSt}, Ab.restamps l env s = some (env', s') → ∀ {G : Gh} {a : Act} {w : World}, s.Ok → Rel G ⟨env, over (Emp 0) s⟩ a w →
    ∃ G', Ext G w G' w ∧ s'.Ok ∧ Rel G' ⟨env', over (Emp 0) s'⟩ a w
  | [], env, env', s, s', h, G, a, w, ho, hR => by
    simp only [Ab.restamps, Option.some.injEq, Prod.mk.injEq] at h
    obtain ⟨rfl, rfl⟩ := h
    exact ⟨G, Ext.refl G w, ho, hR⟩
  | it :: l, env, env', s, s', h, G, a, w, ho, hR => by
    simp only [Ab.restamps] at h
    split at h
    · rename_i env1 s1 h1
      obtain ⟨G1, e1, o1, r1⟩ := Rel.restamp h1 ho hR
      obtain ⟨G2, e2, o2, r2⟩ := Rel.restamps l h o1 r1
      exact ⟨G2, e1.trans e2, o2, r2⟩
    · cases h

end Go.Ab
