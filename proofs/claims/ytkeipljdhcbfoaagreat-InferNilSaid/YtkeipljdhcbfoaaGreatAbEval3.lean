/- THE EVALUATOR: code. -/
import Derived.Test.YtkeipljdhcbfoaaGreatAbEval2
namespace Go.Ab
open Go Go.RowKit

def Just (x : AX) (S : ST) : AX → ST → Prop := fun x₁ S₁ => x₁ = x ∧ S₁ = S

structure CodeOk (P : Program) (c : Code) (env : List AV) (s : LSt) (x : AX) (env' : List AV) (s' : LSt) : Prop where
  later : Later s s'
  run : ∀ (σ₀ : ASt) (b : Nat), s.On σ₀ b → (∀ j, s.nx ≤ j → j < s'.nx → σ₀.H j = none) → s'.On σ₀ b ∧ Cw P c ⟨env, over σ₀ s⟩ (Just x ⟨env', over σ₀ s'⟩) ∧
    ∀ c', c = .loop c' → ∃ m, CwR P c' (Just x ⟨env', over σ₀ s'⟩) m ⟨env, over σ₀ s⟩

theorem ecode_ok {P : Program} (hm : P.follows .mixedOrders = true) {call : FuncId → List AV → LSt → Option LA} (hc : CallsOk P call) : ∀ (n : Nat) (c : Code) (env : List AV) (s : LSt) (x : AX) (env' : List AV) (s' : LSt),
    ecode P call n c env s = some (x, env', s') → CodeOk P c env s x env' s' := by
  intro n
  induction n with
  | zero => intro c env s x env' s' h; cases h
  | succ n ih =>
    intro c env s x env' s' h
    cases c with
    | skip =>
      simp only [ecode, Option.some.injEq, Prod.mk.injEq] at h
      obtain ⟨rfl, rfl, rfl⟩ := h
      exact ⟨Later.refl _, fun σ₀ b ho _ => ⟨ho, Cw.skip ⟨rfl, rfl⟩, fun _ e => by cases e⟩⟩
    | label l =>
      simp only [ecode, Option.some.injEq, Prod.mk.injEq] at h
      obtain ⟨rfl, rfl, rfl⟩ := h
      exact ⟨Later.refl _, fun σ₀ b ho _ => ⟨ho, Cw.label ⟨rfl, rfl⟩, fun _ e => by cases e⟩⟩
    | exit i =>
      simp only [ecode, Option.some.injEq, Prod.mk.injEq] at h
      obtain ⟨rfl, rfl, rfl⟩ := h
      exact ⟨Later.refl _, fun σ₀ b ho _ => ⟨ho, Cw.exit ⟨rfl, rfl⟩, fun _ e => by cases e⟩⟩
    | ret =>
      simp only [ecode, Option.some.injEq, Prod.mk.injEq] at h
      obtain ⟨rfl, rfl, rfl⟩ := h
      exact ⟨Later.refl _, fun σ₀ b ho _ => ⟨ho, Cw.ret ⟨rfl, rfl⟩, fun _ e => by cases e⟩⟩
    | seq y z =>
      simp only [ecode] at h
      cases hy : ecode P call n y env s with
      | none => rw [hy] at h; cases h
      | some r =>
        obtain ⟨x1, env1, s1⟩ := r
        rw [hy] at h
        have h1 := ih _ _ _ _ _ _ hy
        cases x1 with
        | normal =>
          simp only at h
          have h2 := ih _ _ _ _ _ _ h
          refine ⟨h1.later.trans h2.later, fun σ₀ b ho hf => ?_⟩
          obtain ⟨o1, c1, _⟩ := h1.run σ₀ b ho (fun j a1 a2 => hf j a1 (Nat.lt_of_lt_of_le a2 h2.later.nx))
          obtain ⟨o2, c2, _⟩ := h2.run σ₀ b o1 (fun j a1 a2 => hf j (Nat.le_trans h1.later.nx a1) a2)
          refine ⟨o2, Cw.seq (c1.mono ?_), fun _ e => by cases e⟩
          rintro _ _ ⟨rfl, rfl⟩; exact c2
        | exit i =>
          simp only [Option.some.injEq, Prod.mk.injEq] at h
          obtain ⟨rfl, rfl, rfl⟩ := h
          refine ⟨h1.later, fun σ₀ b ho hf => ?_⟩
          obtain ⟨o1, c1, _⟩ := h1.run σ₀ b ho hf
          refine ⟨o1, Cw.seq (c1.mono ?_), fun _ e => by cases e⟩
          rintro _ _ ⟨rfl, rfl⟩; exact ⟨rfl, rfl⟩
        | ret =>
          simp only [Option.some.injEq, Prod.mk.injEq] at h
          obtain ⟨rfl, rfl, rfl⟩ := h
          refine ⟨h1.later, fun σ₀ b ho hf => ?_⟩
          obtain ⟨o1, c1, _⟩ := h1.run σ₀ b ho hf
          refine ⟨o1, Cw.seq (c1.mono ?_), fun _ e => by cases e⟩
          rintro _ _ ⟨rfl, rfl⟩; exact ⟨rfl, rfl⟩
    | cond o y z =>
      simp only [ecode] at h
      split at h
      · rename_i t ht
        have h1 := ih _ _ _ _ _ _ h
        refine ⟨h1.later, fun σ₀ b ho hf => ?_⟩
        obtain ⟨o1, c1, _⟩ := h1.run σ₀ b ho hf
        refine ⟨o1, Cw.cond (b := t) ht ?_, fun _ e => by cases e⟩
        cases t <;> exact c1
      · cases h
    | block i y =>
      simp only [ecode] at h
      cases hy : ecode P call n y env s with
      | none => rw [hy] at h; cases h
      | some r =>
        obtain ⟨x1, env1, s1⟩ := r
        rw [hy] at h
        have h1 := ih _ _ _ _ _ _ hy
        cases x1 with
        | normal =>
          simp only [Option.some.injEq, Prod.mk.injEq] at h
          obtain ⟨rfl, rfl, rfl⟩ := h
          refine ⟨h1.later, fun σ₀ b ho hf => ?_⟩
          obtain ⟨o1, c1, _⟩ := h1.run σ₀ b ho hf
          refine ⟨o1, Cw.block (c1.mono ?_), fun _ e => by cases e⟩
          rintro _ _ ⟨rfl, rfl⟩; exact ⟨rfl, rfl⟩
        | ret =>
          simp only [Option.some.injEq, Prod.mk.injEq] at h
          obtain ⟨rfl, rfl, rfl⟩ := h
          refine ⟨h1.later, fun σ₀ b ho hf => ?_⟩
          obtain ⟨o1, c1, _⟩ := h1.run σ₀ b ho hf
          refine ⟨o1, Cw.block (c1.mono ?_), fun _ e => by cases e⟩
          rintro _ _ ⟨rfl, rfl⟩; exact ⟨rfl, rfl⟩
        | exit j =>
          simp only [Option.some.injEq, Prod.mk.injEq] at h
          obtain ⟨rfl, rfl, rfl⟩ := h
          refine ⟨h1.later, fun σ₀ b ho hf => ?_⟩
          obtain ⟨o1, c1, _⟩ := h1.run σ₀ b ho hf
          refine ⟨o1, Cw.block (c1.mono ?_), fun _ e => by cases e⟩
          rintro _ _ ⟨rfl, rfl⟩
          simp only [AX.block]
          cases hb : Nat.beq j i with
          | true => rw [if_pos (Nat.eq_of_beq_eq_true hb)]; exact ⟨rfl, rfl⟩
          | false =>
            rw [if_neg (fun e => by subst e; simp at hb)]; exact ⟨rfl, rfl⟩
    | loop y =>
      simp only [ecode] at h
      cases hy : ecode P call n y env s with
      | none => rw [hy] at h; cases h
      | some r =>
        obtain ⟨x1, env1, s1⟩ := r
        rw [hy] at h
        have h1 := ih _ _ _ _ _ _ hy
        have fin : ∀ {s' : LSt} {x : AX} {env' : List AV}, Later s s' → (∀ (σ₀ : ASt) (b : Nat), s.On σ₀ b → (∀ j, s.nx ≤ j → j < s'.nx → σ₀.H j = none) → s'.On σ₀ b ∧ ∃ m, CwR P y (Just x ⟨env', over σ₀ s'⟩) m ⟨env, over σ₀ s⟩) → CodeOk P (.loop y) env s x env' s' := by
          intro s' x env' hl hr
          refine ⟨hl, fun σ₀ b ho hf => ?_⟩
          obtain ⟨o1, m, hcw⟩ := hr σ₀ b ho hf
          exact ⟨o1, Cw.loop m hcw, fun c' e => by cases e; exact ⟨m, hcw⟩⟩
        cases x1 with
        | normal =>
          simp only at h
          have h2 := ih _ _ _ _ _ _ h
          refine fin (h1.later.trans h2.later) fun σ₀ b ho hf => ?_
          obtain ⟨o1, c1, _⟩ := h1.run σ₀ b ho (fun j a1 a2 => hf j a1 (Nat.lt_of_lt_of_le a2 h2.later.nx))
          obtain ⟨o2, _, c2⟩ := h2.run σ₀ b o1 (fun j a1 a2 => hf j (Nat.le_trans h1.later.nx a1) a2)
          obtain ⟨m, hm'⟩ := c2 y rfl
          refine ⟨o2, m + 1, c1.mono ?_⟩
          rintro _ _ ⟨rfl, rfl⟩; exact hm'
        | exit i =>
          simp only [Option.some.injEq, Prod.mk.injEq] at h
          obtain ⟨rfl, rfl, rfl⟩ := h
          refine fin h1.later fun σ₀ b ho hf => ?_
          obtain ⟨o1, c1, _⟩ := h1.run σ₀ b ho hf
          refine ⟨o1, 1, c1.mono ?_⟩
          rintro _ _ ⟨rfl, rfl⟩; exact ⟨rfl, rfl⟩
        | ret =>
          simp only [Option.some.injEq, Prod.mk.injEq] at h
          obtain ⟨rfl, rfl, rfl⟩ := h
          refine fin h1.later fun σ₀ b ho hf => ?_
          obtain ⟨o1, c1, _⟩ := h1.run σ₀ b ho hf
          refine ⟨o1, 1, c1.mono ?_⟩
          rintro _ _ ⟨rfl, rfl⟩; exact ⟨rfl, rfl⟩
    | scope y =>
      simp only [ecode] at h
      have h1 := ih _ _ _ _ _ _ h
      refine ⟨h1.later, fun σ₀ b ho hf => ?_⟩
      obtain ⟨o1, c1, _⟩ := h1.run σ₀ b ho hf
      exact ⟨o1, Cw.scope c1, fun _ e => by cases e⟩
    | region id ops draw =>
      simp only [ecode] at h
      split at h
      · rename_i l env1 s1 hr
        cases hb : (!draw || (edgesB ops && freeB ops (ancs ops.toList []) l)) with
        | false => rw [hb] at h; cases h
        | true =>
          rw [hb] at h
          simp only [cond_true, Option.some.injEq, Prod.mk.injEq] at h
          obtain ⟨rfl, rfl, rfl⟩ := h
          obtain ⟨q1, q2, q3⟩ := eops_ok hc ops.toList 0 env s l _ _ (fun k => by simp) hr
          have q2' : l.map (·.1) = List.range ops.size := by rw [q2, List.range_eq_range']; simp
          refine ⟨q1, fun σ₀ b ho hf => ?_⟩
          obtain ⟨o1, r1⟩ := q3 σ₀ b ho hf
          refine ⟨o1, ?_, fun _ e => by cases e⟩
          cases draw with
          | false => exact Cw.region r1 q2' ⟨rfl, rfl⟩
          | true =>
            simp only [Bool.not_true, Bool.false_or, Bool.and_eq_true] at hb
            exact Cw.draw hm hb.1 hb.2 r1 q2' ⟨rfl, rfl⟩
      · cases h
    | rangeFunc => cases h
    | goto => cases h
    | refuse => cases h

/- CALLS -/
mutual
def AV.idl : AV → List Nat
  | .val _ => []
  | .agg cs => AV.idlL cs
  | .tup cs => AV.idlL cs
  | .sl _ _ _ => []
  | .ip _ => []
  | .mp i _ => [i]
  | .ms i _ _ => [i]
  | .obj i => [i]
  | .clo _ fs cs => AV.idlL fs ++ AV.idlL cs
def AV.idlL : List AV → List Nat
  | [] => []
  | a :: l => AV.idl a ++ AV.idlL l
end

def Blk.idl : Blk → List Nat
  | .cells cs => AV.idlL cs
  | .obj _ => []
  | .row _ => []

/-- the blocks that can be reached -/
def reach (H : List (Nat × Blk)) : Nat → List Nat → List Nat → List Nat
  | 0, _, seen => seen
  | _ + 1, [], seen => seen
  | n + 1, i :: l, seen => bif seen.any (Nat.beq i) then reach H n l seen else
    match look H i with
    | some X => reach H n (X.idl ++ l) (i :: seen)
    | none => reach H n l (i :: seen)

def AV.stm1 : AV → List Nat
  | .sl _ _ (.st k _) => [k]
  | _ => []
def AV.stms : AV → List Nat
  | .tup cs => cs.flatMap AV.stm1
  | a => a.stm1
def Blk.stms : Blk → List Nat
  | .cells cs => cs.flatMap AV.stm1
  | .obj _ => []
  | .row _ => []

def dedup : List Nat → List Nat
  | [] => []
  | k :: l => bif (dedup l).any (Nat.beq k) then dedup l else k :: dedup l

def idx (k : Nat) : List Nat → Nat → Option Nat
  | [], _ => none
  | j :: l, t => bif Nat.beq k j then some t else idx k l (t + 1)

theorem idx_spec {k : Nat} : ∀ (l : List Nat) (t r : Nat), idx k l t = some r → t ≤ r ∧ l[r - t]? = some k
  | [], _, _, h => by cases h
  | j :: l, t, r, h => by
    simp only [idx] at h
    cases hb : Nat.beq k j with
    | true =>
      rw [hb] at h
      simp only [cond_true, Option.some.injEq] at h
      subst h
      have := Nat.eq_of_beq_eq_true hb
      subst this
      simp
    | false =>
      rw [hb] at h
      obtain ⟨h1, h2⟩ := idx_spec l (t + 1) r h
      refine ⟨by omega, ?_⟩
      rw [show r - t = (r - (t + 1)) + 1 by omega]
      simpa using h2

theorem dedup_nodup : ∀ l : List Nat, (dedup l).Nodup
  | [] => .nil
  | k :: l => by
    simp only [dedup]
    cases h : (dedup l).any (Nat.beq k) with
    | true => exact dedup_nodup l
    | false =>
      simp only [cond_false, List.nodup_cons]
      refine ⟨fun hm => ?_, dedup_nodup l⟩
      rw [any_beq.2 hm] at h
      cases h

theorem dedup_sub : ∀ (l : List Nat) (k : Nat), k ∈ dedup l → k ∈ l
  | [], _, h => h
  | j :: l, k, h => by
    simp only [dedup] at h
    cases hb : (dedup l).any (Nat.beq j) with
    | true => rw [hb] at h; exact List.mem_cons_of_mem _ (dedup_sub l k h)
    | false =>
      rw [hb] at h
      rcases List.mem_cons.1 h with rfl | h
      · simp
      · exact List.mem_cons_of_mem _ (dedup_sub l k h)

end Go.Ab
