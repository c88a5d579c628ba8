/- A STEP WITH VARIABLES: code without loops in one go. -/
import Derived.Test.YtkeipljdhcbfoaaGreatAbSym
namespace Go.Ab
open Go Go.RowKit

abbrev VR := AX × List AV × LSt × List LA × List Obl

def vcode (P : Program) : Nat → Code → List AV → LSt → List LA → Option VR
  | 0, _, _, _, _ => none
  | n + 1, c, env, s, vs =>
    match c with
    | .skip => some (.normal, env, s, vs, [])
    | .label _ => some (.normal, env, s, vs, [])
    | .exit i => some (.exit i, env, s, vs, [])
    | .ret => some (.ret, env, s, vs, [])
    | .seq x y => match vcode P n x env s vs with
      | some (.normal, env1, s1, vs1, o1) => match vcode P n y env1 s1 vs1 with
        | some (x2, env2, s2, vs2, o2) => some (x2, env2, s2, vs2, o1 ++ o2)
        | none => none
      | r => r
    | .cond c x y => match aev env c with
      | .val (.bool b) => vcode P n (bif b then x else y) env s vs
      | _ => none
    | .block i c => match vcode P n c env s vs with
      | some (.exit j, env1, s1, vs1, o1) => some (bif Nat.beq j i then .normal else .exit j, env1, s1, vs1, o1)
      | r => r
    | .scope c => vcode P n c env s vs
    | .region _ ops draw => match vops P ops ops.toList 0 env s vs with
      | some (l, env1, s1, vs1, o1) => bif !draw || (edgesB ops && freeB ops (ancs ops.toList []) l) then some (.normal, env1, s1, vs1, o1) else none
      | none => none
    | _ => none

theorem region_any {P : Program} (hm : P.follows .mixedOrders = true) {ops : Array Oper} {id : Nat} {draw : Bool} {env env' : List AV} {s s' : LSt} {vs vs' : List LA} {r : List (Nat × Option LA)} {ob : List Obl} {Q : AX → List AV → LSt → Prop}
    (h : vops P ops ops.toList 0 env s vs = some (r, env', s', vs', ob)) (hd : (!draw || (edgesB ops && freeB ops (ancs ops.toList []) r)) = true) (hob : OblsOk P ob) (hQ : Q .normal env' s') : Ev P (.region id ops draw) env s Q := by
  intro ho
  obtain ⟨_, q2, q3⟩ := vops_ok ops.toList 0 env s vs r _ _ _ _ (fun k => by simp) h hob
  obtain ⟨o1, r1⟩ := q3 (Emp 0) 0 ho (fun _ _ _ => rfl)
  have q2' : r.map (·.1) = List.range ops.size := by rw [q2, List.range_eq_range']; simp
  cases draw with
  | false => exact Cw.region r1 q2' ⟨_, _, rfl, o1, hQ⟩
  | true =>
    simp only [Bool.not_true, Bool.false_or, Bool.and_eq_true] at hd
    exact Cw.draw hm hd.1 hd.2 r1 q2' ⟨_, _, rfl, o1, hQ⟩

theorem vcode_ok {P : Program} (hm : P.follows .mixedOrders = true) : ∀ (n : Nat) (c : Code) (env : List AV) (s : LSt) (vs : List LA) (x : AX) (env' : List AV) (s' : LSt) (vs' : List LA) (ob : List Obl),
    vcode P n c env s vs = some (x, env', s', vs', ob) → OblsOk P ob → ∀ {Q : AX → List AV → LSt → Prop}, Q x env' s' → Ev P c env s Q := by
  intro n
  induction n with
  | zero => intro c env s vs x env' s' vs' ob h; cases h
  | succ n ih =>
    intro c env s vs x env' s' vs' ob h hob Q hQ
    cases c with
    | skip =>
      simp only [vcode, Option.some.injEq, Prod.mk.injEq] at h
      obtain ⟨rfl, rfl, rfl, rfl, rfl⟩ := h
      exact Ev.skip hQ
    | label l =>
      simp only [vcode, Option.some.injEq, Prod.mk.injEq] at h
      obtain ⟨rfl, rfl, rfl, rfl, rfl⟩ := h
      exact Ev.label hQ
    | exit i =>
      simp only [vcode, Option.some.injEq, Prod.mk.injEq] at h
      obtain ⟨rfl, rfl, rfl, rfl, rfl⟩ := h
      exact Ev.exit hQ
    | ret =>
      simp only [vcode, Option.some.injEq, Prod.mk.injEq] at h
      obtain ⟨rfl, rfl, rfl, rfl, rfl⟩ := h
      exact Ev.ret hQ
    | seq y z =>
      simp only [vcode] at h
      cases hy : vcode P n y env s vs with
      | none => rw [hy] at h; cases h
      | some r =>
        obtain ⟨x1, env1, s1, vs1, o1⟩ := r
        rw [hy] at h
        cases x1 with
        | normal =>
          simp only at h
          split at h
          · rename_i x2 env2 s2 vs2 o2 hz
            cases h
            obtain ⟨q1, q2⟩ := OblsOk.append hob
            exact Ev.seq (ih _ _ _ _ _ _ _ _ _ hy q1 (ih _ _ _ _ _ _ _ _ _ hz q2 hQ))
          · cases h
        | exit i =>
          simp only [Option.some.injEq, Prod.mk.injEq] at h
          obtain ⟨rfl, rfl, rfl, rfl, rfl⟩ := h
          exact Ev.seq (ih _ _ _ _ _ _ _ _ _ hy hob hQ)
        | ret =>
          simp only [Option.some.injEq, Prod.mk.injEq] at h
          obtain ⟨rfl, rfl, rfl, rfl, rfl⟩ := h
          exact Ev.seq (ih _ _ _ _ _ _ _ _ _ hy hob hQ)
    | cond o y z =>
      simp only [vcode] at h
      split at h
      · rename_i t ht
        have h1 := ih _ _ _ _ _ _ _ _ _ h hob hQ
        exact Ev.cond ht (by cases t <;> exact h1)
      · cases h
    | block i y =>
      simp only [vcode] at h
      cases hy : vcode P n y env s vs with
      | none => rw [hy] at h; cases h
      | some r =>
        obtain ⟨x1, env1, s1, vs1, o1⟩ := r
        rw [hy] at h
        cases x1 with
        | normal =>
          simp only [Option.some.injEq, Prod.mk.injEq] at h
          obtain ⟨rfl, rfl, rfl, rfl, rfl⟩ := h
          exact Ev.block (ih _ _ _ _ _ _ _ _ _ hy hob hQ)
        | ret =>
          simp only [Option.some.injEq, Prod.mk.injEq] at h
          obtain ⟨rfl, rfl, rfl, rfl, rfl⟩ := h
          exact Ev.block (ih _ _ _ _ _ _ _ _ _ hy hob hQ)
        | exit j =>
          simp only [Option.some.injEq, Prod.mk.injEq] at h
          obtain ⟨rfl, rfl, rfl, rfl, rfl⟩ := h
          refine Ev.block (ih _ _ _ _ _ _ _ _ _ hy hob ?_)
          simp only [blockQ]
          cases hb : Nat.beq j i with
          | true => rw [if_pos (Nat.eq_of_beq_eq_true hb)]; rw [hb] at hQ; exact hQ
          | false =>
            rw [if_neg (fun e => by subst e; simp at hb)]; rw [hb] at hQ; exact hQ
    | loop y => cases h
    | scope y =>
      simp only [vcode] at h
      exact Ev.scope (ih _ _ _ _ _ _ _ _ _ h hob hQ)
    | region id ops draw =>
      simp only [vcode] at h
      split at h
      · rename_i l env1 s1 vs1 o1 hr
        cases hb : (!draw || (edgesB ops && freeB ops (ancs ops.toList []) l)) with
        | false => rw [hb] at h; cases h
        | true =>
          rw [hb] at h
          simp only [cond_true, Option.some.injEq, Prod.mk.injEq] at h
          obtain ⟨rfl, rfl, rfl, rfl, rfl⟩ := h
          exact region_any hm hr hb hob hQ
      · cases h
    | rangeFunc => cases h
    | goto => cases h
    | refuse => cases h

/-- a test on what is not known -/
theorem Ev.test {P : Program} {c : Operand} {x y : Code} {env : List AV} {s : LSt} {Q : AX → List AV → LSt → Prop} (b : Bool) (hc : aev env c = .val (.bool b)) (h1 : b = true → Ev P x env s Q) (h2 : b = false → Ev P y env s Q) : Ev P (.cond c x y) env s Q :=
  Ev.cond hc (by cases b with | true => exact h1 rfl | false => exact h2 rfl)

end Go.Ab
