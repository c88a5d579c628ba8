/- THE EVALUATOR, and that it tells the truth. -/
import Derived.Test.YtkeipljdhcbfoaaGreatAbEval
namespace Go.Ab
open Go Go.RowKit

theorem fit_pure {s : LSt} {ev : Operand → AV} {v : AV} : s.fit { ev := ev, v := v } :=
  ⟨fun i X h => by simp at h, fun i X Y h => by simp at h, fun i X h => by simp at h, fun h => by simp at h, fun k h => by simp at h, fun h => by simp at h⟩
theorem fit_al {s : LSt} {ev : Operand → AV} {v : AV} {X : Blk} : s.fit { ev := ev, al := [(s.nx, X)], v := v } :=
  ⟨fun i X h => by simp at h, fun i X Y h => by simp at h, fun i X h => by simp at h; omega, fun h => by simp at h, fun k h => by simp at h, fun h => by simp at h⟩
theorem fit_rd {s : LSt} {ev : Operand → AV} {v : AV} {i : Nat} {X : Blk} (hX : look s.H i = some X) : s.fit { ev := ev, rd := [(i, X)], v := v } :=
  ⟨fun j Y h => by simp at h; obtain ⟨rfl, rfl⟩ := h; exact hX, fun i X Y h => by simp at h, fun i X h => by simp at h, fun h => by simp at h, fun k h => by simp at h, fun h => by simp at h⟩
theorem fit_wr {s : LSt} {ev : Operand → AV} {v : AV} {i : Nat} {X Y : Blk} (hX : look s.H i = some X) : s.fit { ev := ev, v := v, wr := [(i, X, Y)] } :=
  ⟨fun j Y h => by simp at h, fun j A B h => by simp at h; obtain ⟨rfl, rfl, rfl⟩ := h; exact hX, fun i X h => by simp at h, fun h => by simp at h, fun k h => by simp at h, fun h => by simp at h⟩

theorem eop_fit {P : Program} {o : Op} {ev : Operand → AV} {s : LSt} {la : LA} (h : eop P o ev s = some la) : s.fit la := by
  unfold eop at h
  split at h
  · split at h
    · split at h
      · cases h; exact fit_al
      · cases h
    · cases h
  · rename_i x
    cases hs : (ev x).sound <;> simp only [hs, cond_true, cond_false, Option.some.injEq, reduceCtorEq] at h
    subst h; exact fit_al
  · split at h
    · split at h
      · split at h
        · rename_i hl _ _ _; cases h; exact fit_rd (by assumption)
        · cases h
      · cases h
    · cases h
  · split at h
    · split at h
      · rename_i hl
        generalize (AV.sound _ && _ && _) = c at h
        cases c <;> simp only [cond_true, cond_false, Option.some.injEq, reduceCtorEq] at h
        subst h; exact fit_wr hl
      · cases h
    · cases h
  · split at h
    · split at h
      · split at h
        · generalize (Nat.beq _ _ && _ && _) = c at h
          cases c <;> simp only [cond_true, cond_false, reduceCtorEq] at h
          split at h
          · cases h; exact fit_pure
          · cases h
        · cases h
      · cases h
    · cases h
  · split at h
    · split at h
      · split at h
        · split at h
          · cases h; exact fit_pure
          · cases h
        · cases h
      · cases h
    · cases h
  · cases h; exact fit_al
  · cases h

theorem aappend_fit {P : Program} {t t2 : TypeId} {ev : Operand → AV} {a b : AV} {s : LSt} {la : LA} (h : aappend P t t2 ev a b s = some la) : s.fit la := by
  unfold aappend at h
  split at h
  · rename_i e es n o es2 n2 o2 _
    split at h
    · split at h
      · generalize (Nat.beq t t2 && _ && _ && _ && _ && _ && _ && _) = c at h
        cases c with
        | false => cases h
        | true =>
          simp only [cond_true] at h
          generalize Nat.beq n2 0 = d at h
          cases d with
          | true => simp only [cond_true, Option.some.injEq] at h; subst h; exact fit_pure
          | false =>
            simp only [cond_false] at h
            split at h
            · cases h
              exact ⟨fun i X h => by simp at h, fun i X Y h => by simp at h, fun i X h => by simp at h, fun h => by simp at h, fun k h => by simp at h, fun _ => rfl⟩
            · rename_i k sz
              cases hk : (s.own.any (Nat.beq k) && Nat.beq sz _) with
              | false => rw [hk] at h; cases h
              | true =>
                rw [hk] at h
                simp only [cond_true, Option.some.injEq] at h
                subst h
                simp only [Bool.and_eq_true] at hk
                exact ⟨fun i X h => by simp at h, fun i X Y h => by simp at h, fun i X h => by simp at h, fun h => by simp at h, fun j h => by simp at h; subst h; exact any_beq.1 hk.1, fun _ => rfl⟩
            · cases h
              exact ⟨fun i X h => by simp at h, fun i X Y h => by simp at h, fun i X h => by simp at h, fun h => by simp at h, fun k h => by simp at h, fun _ => rfl⟩
            · cases h
      · cases h
    · cases h
  · cases h

theorem aop_fit {P : Program} {o : Op} {ev : Operand → AV} {s : LSt} {la : LA} (h : aop P o ev s = some la) : s.fit la := by
  unfold aop at h
  split at h
  · cases h; exact fit_pure
  · rename_i hn
    clear hn
    split at h
    · unfold alookup at h
      split at h
      · split at h
        · rename_i hl
          split at h
          · generalize plainKey _ = c at h
            cases c with
            | false => cases h
            | true => simp only [cond_true, Option.some.injEq] at h; subst h; exact fit_rd hl
          · cases h
        · cases h
      · cases h
    · unfold amapUpdate at h
      split at h
      · split at h
        · rename_i hl
          split at h
          · generalize plainKey _ = c at h
            cases c with
            | false => cases h
            | true => simp only [cond_true, Option.some.injEq] at h; subst h; exact fit_wr hl
          · cases h
        · cases h
      · cases h
    · split at h
      · exact aappend_fit h
      · cases h
    · exact eop_fit h

/- THE EVALUATOR -/
def eact (P : Program) (call : FuncId → List AV → LSt → Option LA) (op : Op) (ev : Operand → AV) (s : LSt) : Option LA :=
  match op with
  | .call { callee := .value g, args, argTypes := _ } =>
    match ev g with
    | .clo f first caps => match call f (first ++ args.toList.map ev ++ caps) s with
      | some la => some { la with ev := ev }
      | none => none
    | _ => none
  | op => aop P op ev s

def estep (P : Program) (call : FuncId → List AV → LSt → Option LA) (ops : Array Oper) (env : List AV) (s : LSt) (o : Oper) : Option (Option LA × List AV × LSt) :=
  match awant ops env o with
  | some false => some (none, eset env o.dst (.val undef), s)
  | some true =>
    match eact P call o.op (aev env) s with
    | some la => some (some la, eset env o.dst la.v, s.app la)
    | none => none
  | none => none

def eops (P : Program) (call : FuncId → List AV → LSt → Option LA) (ops : Array Oper) : List Oper → Nat → List AV → LSt → Option (List (Nat × Option LA) × List AV × LSt)
  | [], _, env, s => some ([], env, s)
  | o :: l, i, env, s =>
    match estep P call ops env s o with
    | some (la, env1, s1) => match eops P call ops l (i + 1) env1 s1 with
      | some (r, env2, s2) => some ((i, la) :: r, env2, s2)
      | none => none
    | none => none

def ecode (P : Program) (call : FuncId → List AV → LSt → Option LA) : Nat → Code → List AV → LSt → Option (AX × List AV × LSt)
  | 0, _, _, _ => none
  | n + 1, c, env, s =>
    match c with
    | .skip => some (.normal, env, s)
    | .label _ => some (.normal, env, s)
    | .exit i => some (.exit i, env, s)
    | .ret => some (.ret, env, s)
    | .seq x y => match ecode P call n x env s with
      | some (.normal, env1, s1) => ecode P call n y env1 s1
      | r => r
    | .cond c x y => match aev env c with
      | .val (.bool b) => ecode P call n (bif b then x else y) env s
      | _ => none
    | .block i c => match ecode P call n c env s with
      | some (.exit j, env1, s1) => some (bif Nat.beq j i then .normal else .exit j, env1, s1)
      | r => r
    | .loop c => match ecode P call n c env s with
      | some (.normal, env1, s1) => ecode P call n (.loop c) env1 s1
      | r => r
    | .scope c => ecode P call n c env s
    | .region _ ops draw => match eops P call ops ops.toList 0 env s with
      | some (l, env1, s1) => bif !draw || (edgesB ops && freeB ops (ancs ops.toList []) l) then some (.normal, env1, s1) else none
      | none => none
    | _ => none

/-- what a call of f with such arguments does -/
def CallOk (P : Program) (f : FuncId) (args : List AV) (la : LA) : Prop :=
  ∀ (dst : Option Tmp) (type : TypeId) (pos : String) (after : Array Edge) (guard : Option (Nat × Bool)) (g : Operand) (cargs : Array Operand) (argTypes : Array TypeId) (first caps : List AV) (ev : Operand → AV),
    ev g = .clo f first caps → args = first ++ cargs.toList.map ev ++ caps → OpOk P ⟨dst, .call { callee := .value g, args := cargs, argTypes := argTypes }, type, pos, after, guard⟩ { la with ev := ev }

def CallsOk (P : Program) (call : FuncId → List AV → LSt → Option LA) : Prop := ∀ f args s la, call f args s = some la → s.fit la ∧ CallOk P f args la

theorem eact_ok {P : Program} {call : FuncId → List AV → LSt → Option LA} (hc : CallsOk P call) {o : Oper} {ev : Operand → AV} {s : LSt} {la : LA} (h : eact P call o.op ev s = some la) : s.fit la ∧ OpOk P o la ∧ la.ev = ev := by
  obtain ⟨dst, op, type, pos, after, guard⟩ := o
  have h' : eact P call op ev s = some la := h
  clear h
  unfold eact at h'
  split at h'
  · rename_i g args argTypes
    split at h'
    · rename_i f first caps hg
      split at h'
      · rename_i la' hla
        cases h'
        obtain ⟨h1, h2⟩ := hc _ _ _ _ hla
        exact ⟨⟨h1.rd, h1.wr, h1.al, h1.lo, h1.use, h1.ns⟩, h2 dst type pos after guard g args argTypes first caps ev hg rfl, rfl⟩
      · cases h'
    · cases h'
  · exact ⟨aop_fit h', aop_ok h'⟩

structure Later (s s' : LSt) : Prop where
  nx : s.nx ≤ s'.nx
  dirty : ∀ i, i ∈ s.dirty → i ∈ s'.dirty
  still : ∀ i X, look s.H i = some X → i < s.nx → i ∉ s'.dirty → look s'.H i = some X
  held : ∀ i X, look s'.H i = some X → s.nx ≤ i ∨ ∃ Y, look s.H i = some Y

theorem Later.refl (s : LSt) : Later s s := ⟨Nat.le_refl _, fun _ h => h, fun _ _ h _ _ => h, fun _ X h => .inr ⟨X, h⟩⟩
theorem Later.trans {s s₁ s₂ : LSt} (h : Later s s₁) (k : Later s₁ s₂) : Later s s₂ :=
  ⟨Nat.le_trans h.nx k.nx, fun i hi => k.dirty i (h.dirty i hi), fun i X hX hlt hd => k.still i X (h.still i X hX hlt (fun e => hd (k.dirty i e))) (Nat.lt_of_lt_of_le hlt h.nx) hd,
   fun i X hX => (k.held i X hX).elim (fun hle => .inl (Nat.le_trans h.nx hle)) (fun ⟨Y, hY⟩ => h.held i Y hY)⟩

theorem look_puts_ne {H : List (Nat × Blk)} : ∀ (l : List (Nat × Blk × Blk)) (i : Nat), i ∉ l.map (·.1) → look (puts H l) i = look H i
  | [], _, _ => rfl
  | p :: l, i, h => by
    simp only [List.map_cons, List.mem_cons, not_or] at h
    simp only [puts, look_put]
    rw [if_neg (fun e => h.1 e.1)]
    exact look_puts_ne l i h.2

theorem look_none : ∀ (l : List (Nat × Blk)) (i : Nat), (∀ X, (i, X) ∉ l) → look l i = none
  | [], _, _ => rfl
  | p :: l, i, h => by
    simp only [look]
    have hne : i ≠ p.1 := by rintro rfl; exact h p.2 (by simp)
    rw [beq_ne hne]
    exact look_none l i (fun X hX => h X (by simp [hX]))

theorem Later.app {s : LSt} {la : LA} (h : s.fit la) : Later s (s.app la) := by
  refine ⟨(s.app_nx la).1, fun i hi => ?_, fun i X hX hlt hd => ?_, fun i X hX => ?_⟩
  · show i ∈ la.wr.map (·.1) ++ s.dirty
    simp [hi]
  · have hd' : i ∉ la.wr.map (·.1) ++ s.dirty := hd
    simp only [List.mem_append, not_or] at hd'
    show look (la.al ++ puts s.H la.wr) i = some X
    rw [look_append, look_none la.al i (fun Y hY => by have := h.al i Y hY; omega)]
    simp only
    rw [look_puts_ne _ _ hd'.1, hX]
  · have hX' : look (la.al ++ puts s.H la.wr) i = some X := hX
    by_cases hi : s.nx ≤ i
    · exact .inl hi
    · rw [look_append, look_none la.al i (fun Y hY => hi (h.al i Y hY))] at hX'
      simp only at hX'
      have hpw : ∀ p ∈ la.wr, (look s.H p.1).isSome = true := fun p hp => by rw [h.wr p.1 p.2.1 p.2.2 hp]; rfl
      have hp1 := (look_puts la.wr i hpw).1 i
      rw [hX'] at hp1
      exact .inr (Option.isSome_iff_exists.1 (by simpa using hp1))

theorem eops_ok {P : Program} {call : FuncId → List AV → LSt → Option LA} (hc : CallsOk P call) {ops : Array Oper} : ∀ (l : List Oper) (i : Nat) (env : List AV) (s : LSt) (r : List (Nat × Option LA)) (env' : List AV) (s' : LSt),
    (∀ k, l[k]? = ops[i + k]?) → eops P call ops l i env s = some (r, env', s') → Later s s' ∧ r.map (·.1) = List.range' i l.length ∧ ∀ (σ₀ : ASt) (b : Nat), s.On σ₀ b → (∀ j, s.nx ≤ j → j < s'.nx → σ₀.H j = none) →
      s'.On σ₀ b ∧ ARun P ops r ⟨env, over σ₀ s⟩ ⟨env', over σ₀ s'⟩
  | [], i, env, s, r, env', s', _, h => by
    simp only [eops, Option.some.injEq, Prod.mk.injEq] at h
    obtain ⟨rfl, rfl, rfl⟩ := h
    exact ⟨Later.refl _, rfl, fun σ₀ b ho _ => ⟨ho, rfl⟩⟩
  | o :: l, i, env, s, r, env', s', hl, h => by
    simp only [eops] at h
    split at h
    · rename_i la env1 s1 hst
      split at h
      · rename_i r' env2 s2 hr
        cases h
        have h0 : ops[i]? = some o := by have := hl 0; simpa using this.symm
        have step : Later s s1 ∧ ∀ (σ₀ : ASt) (b : Nat), s.On σ₀ b → (∀ j, s.nx ≤ j → j < s1.nx → σ₀.H j = none) → s1.On σ₀ b ∧ AStep P ops i la ⟨env, over σ₀ s⟩ ⟨env1, over σ₀ s1⟩ := by
          unfold estep at hst
          split at hst
          · rename_i hw
            cases hst
            exact ⟨Later.refl _, fun σ₀ b ho _ => ⟨ho, o, h0, hw, rfl⟩⟩
          · rename_i hw
            split at hst
            · rename_i la' hla
              cases hst
              obtain ⟨f1, f2, f3⟩ := eact_ok hc hla
              refine ⟨Later.app f1, fun σ₀ b ho hfree => ⟨On.app f1 ho, o, h0, hw, f2, fun x _ => by rw [f3], LSt.can f1 ho hfree, ?_⟩⟩
              rw [over_app f1 ho]
            · cases hst
          · cases hst
        obtain ⟨q1, q2, q3⟩ := eops_ok hc l (i + 1) env1 s1 r' _ _ (fun k => by have := hl (k + 1); simp only [List.getElem?_cons_succ] at this; rw [this]; congr 1; omega) hr
        refine ⟨step.1.trans q1, by simp [List.range'_succ, q2], fun σ₀ b ho hfree => ?_⟩
        obtain ⟨o1, a1⟩ := step.2 σ₀ b ho (fun j h1 h2 => hfree j h1 (Nat.lt_of_lt_of_le h2 q1.nx))
        obtain ⟨o2, a2⟩ := q3 σ₀ b o1 (fun j h1 h2 => hfree j (Nat.le_trans step.1.nx h1) h2)
        exact ⟨o2, _, a1, a2⟩
      · cases h
    · cases h

end Go.Ab
