/- A STEP WITH VARIABLES: a run that is told what its calls come to, and lists what it was told. -/
import Derived.Test.YtkeipljdhcbfoaaGreatAbUni
namespace Go.Ab
open Go Go.RowKit

structure Obl where
  f : FuncId
  args : List AV
  s : LSt
  la : LA

def Obl.ok (P : Program) (o : Obl) : Prop := o.s.fit o.la ∧ CallOk P o.f o.args o.la

def OblsOk (P : Program) : List Obl → Prop
  | [] => True
  | o :: l => o.ok P ∧ OblsOk P l

def vact (P : Program) (op : Op) (ev : Operand → AV) (s : LSt) (vs : List LA) : Option (LA × List LA × List Obl) :=
  match op with
  | .call { callee := .value g, args, argTypes := _ } =>
    match ev g, vs with
    | .clo f first caps, la :: vs => some ({ la with ev := ev }, vs, [⟨f, first ++ args.toList.map ev ++ caps, s, la⟩])
    | _, _ => none
  | op => match aop P op ev s with
    | some la => some (la, vs, [])
    | none => none

theorem vact_ok {P : Program} {o : Oper} {ev : Operand → AV} {s : LSt} {vs vs' : List LA} {la : LA} {ob : List Obl} (h : vact P o.op ev s vs = some (la, vs', ob)) (hob : OblsOk P ob) : s.fit la ∧ OpOk P o la ∧ la.ev = ev := by
  obtain ⟨dst, op, type, pos, after, guard⟩ := o
  have h' : vact P op ev s vs = some (la, vs', ob) := h
  clear h
  unfold vact at h'
  split at h'
  · rename_i g args argTypes
    split at h'
    · rename_i f first caps la' vs1 hg
      cases h'
      obtain ⟨⟨h1, h2⟩, _⟩ := hob
      exact ⟨⟨h1.rd, h1.wr, h1.al, h1.lo, h1.use, h1.ns⟩, h2 dst type pos after guard g args argTypes first caps ev hg rfl, rfl⟩
    · cases h'
  · split at h'
    · rename_i la' hla
      cases h'
      exact ⟨aop_fit hla, aop_ok hla⟩
    · cases h'

def vstep (P : Program) (ops : Array Oper) (env : List AV) (s : LSt) (vs : List LA) (o : Oper) : Option (Option LA × List AV × LSt × List LA × List Obl) :=
  match awant ops env o with
  | some false => some (none, eset env o.dst (.val undef), s, vs, [])
  | some true =>
    match vact P o.op (aev env) s vs with
    | some (la, vs, ob) => some (some la, eset env o.dst la.v, s.app la, vs, ob)
    | none => none
  | none => none

def vops (P : Program) (ops : Array Oper) : List Oper → Nat → List AV → LSt → List LA → Option (List (Nat × Option LA) × List AV × LSt × List LA × List Obl)
  | [], _, env, s, vs => some ([], env, s, vs, [])
  | o :: l, i, env, s, vs =>
    match vstep P ops env s vs o with
    | some (la, env1, s1, vs1, ob1) => match vops P ops l (i + 1) env1 s1 vs1 with
      | some (r, env2, s2, vs2, ob2) => some ((i, la) :: r, env2, s2, vs2, ob1 ++ ob2)
      | none => none
    | none => none

theorem OblsOk.append {P : Program} : ∀ {a b : List Obl}, OblsOk P (a ++ b) → OblsOk P a ∧ OblsOk P b
  | [], _, h => ⟨trivial, h⟩
  | _ :: a, _, h => by
    obtain ⟨h1, h2⟩ := h
    obtain ⟨h3, h4⟩ := OblsOk.append (a := a) h2
    exact ⟨⟨h1, h3⟩, h4⟩

theorem vops_ok {P : Program} {ops : Array Oper} : ∀ (l : List Oper) (i : Nat) (env : List AV) (s : LSt) (vs : List LA) (r : List (Nat × Option LA)) (env' : List AV) (s' : LSt) (vs' : List LA) (ob : List Obl),
    (∀ k, l[k]? = ops[i + k]?) → vops P ops l i env s vs = some (r, env', s', vs', ob) → OblsOk P ob → Later s s' ∧ r.map (·.1) = List.range' i l.length ∧ ∀ (σ₀ : ASt) (b : Nat), s.On σ₀ b → (∀ j, s.nx ≤ j → j < s'.nx → σ₀.H j = none) →
      s'.On σ₀ b ∧ ARun P ops r ⟨env, over σ₀ s⟩ ⟨env', over σ₀ s'⟩
  | [], i, env, s, vs, r, env', s', vs', ob, _, h, _ => by
    simp only [vops, Option.some.injEq, Prod.mk.injEq] at h
    obtain ⟨rfl, rfl, rfl, rfl, rfl⟩ := h
    exact ⟨Later.refl _, rfl, fun σ₀ b ho _ => ⟨ho, rfl⟩⟩
  | o :: l, i, env, s, vs, r, env', s', vs', ob, hl, h, hob => by
    simp only [vops] at h
    split at h
    · rename_i la env1 s1 vs1 ob1 hst
      split at h
      · rename_i r' env2 s2 vs2 ob2 hr
        cases h
        obtain ⟨hob1, hob2⟩ := OblsOk.append hob
        have h0 : ops[i]? = some o := by have := hl 0; simpa using this.symm
        have step : Later s s1 ∧ ∀ (σ₀ : ASt) (b : Nat), s.On σ₀ b → (∀ j, s.nx ≤ j → j < s1.nx → σ₀.H j = none) → s1.On σ₀ b ∧ AStep P ops i la ⟨env, over σ₀ s⟩ ⟨env1, over σ₀ s1⟩ := by
          unfold vstep at hst
          split at hst
          · rename_i hw
            cases hst
            exact ⟨Later.refl _, fun σ₀ b ho _ => ⟨ho, o, h0, hw, rfl⟩⟩
          · rename_i hw
            split at hst
            · rename_i la' vs1' ob1' hla
              cases hst
              obtain ⟨f1, f2, f3⟩ := vact_ok hla hob1
              refine ⟨Later.app f1, fun σ₀ b ho hfree => ⟨On.app f1 ho, o, h0, hw, f2, fun x _ => by rw [f3], LSt.can f1 ho hfree, ?_⟩⟩
              rw [over_app f1 ho]
            · cases hst
          · cases hst
        obtain ⟨q1, q2, q3⟩ := vops_ok l (i + 1) env1 s1 vs1 r' _ _ _ _ (fun k => by have := hl (k + 1); simp only [List.getElem?_cons_succ] at this; rw [this]; congr 1; omega) hr hob2
        refine ⟨step.1.trans q1, by simp [List.range'_succ, q2], fun σ₀ b ho hfree => ?_⟩
        obtain ⟨o1, a1⟩ := step.2 σ₀ b ho (fun j h1 h2 => hfree j h1 (Nat.lt_of_lt_of_le h2 q1.nx))
        obtain ⟨o2, a2⟩ := q3 σ₀ b o1 (fun j h1 h2 => hfree j (Nat.le_trans step.1.nx h1) h2)
        exact ⟨o2, _, a1, a2⟩
      · cases h
    · cases h

/- CODE FROM THE EMPTY STATE -/
def LSt.Ok (s : LSt) : Prop := s.On (Emp 0) 0

/-- the weakest precondition, over list states -/
def Ev (P : Program) (c : Code) (env : List AV) (s : LSt) (Q : AX → List AV → LSt → Prop) : Prop :=
  s.Ok → Cw P c ⟨env, over (Emp 0) s⟩ fun x S => ∃ env' s', S = ⟨env', over (Emp 0) s'⟩ ∧ s'.Ok ∧ Q x env' s'

theorem Ev.mono {P : Program} {c : Code} {env : List AV} {s : LSt} {Q Q' : AX → List AV → LSt → Prop} (h : Ev P c env s Q) (hq : ∀ x env s, Q x env s → Q' x env s) : Ev P c env s Q' :=
  fun ho => (h ho).mono fun x _ ⟨e, s', h1, h2, h3⟩ => ⟨e, s', h1, h2, hq x e s' h3⟩

theorem Ev.skip {P : Program} {env : List AV} {s : LSt} {Q : AX → List AV → LSt → Prop} (h : Q .normal env s) : Ev P .skip env s Q := fun ho => Cw.skip ⟨_, _, rfl, ho, h⟩
theorem Ev.label {P : Program} {l : Nat} {env : List AV} {s : LSt} {Q : AX → List AV → LSt → Prop} (h : Q .normal env s) : Ev P (.label l) env s Q := fun ho => Cw.label ⟨_, _, rfl, ho, h⟩
theorem Ev.exit {P : Program} {i : Nat} {env : List AV} {s : LSt} {Q : AX → List AV → LSt → Prop} (h : Q (.exit i) env s) : Ev P (.exit i) env s Q := fun ho => Cw.exit ⟨_, _, rfl, ho, h⟩
theorem Ev.ret {P : Program} {env : List AV} {s : LSt} {Q : AX → List AV → LSt → Prop} (h : Q .ret env s) : Ev P .ret env s Q := fun ho => Cw.ret ⟨_, _, rfl, ho, h⟩

def seqQ (next : List AV → LSt → Prop) (Q : AX → List AV → LSt → Prop) : AX → List AV → LSt → Prop
  | .normal, e, s => next e s
  | x, e, s => Q x e s

theorem Ev.seq {P : Program} {x y : Code} {env : List AV} {s : LSt} {Q : AX → List AV → LSt → Prop} (h : Ev P x env s (seqQ (fun e s => Ev P y e s Q) Q)) : Ev P (.seq x y) env s Q := by
  intro ho
  refine Cw.seq ((h ho).mono ?_)
  rintro x S ⟨e, s', rfl, h2, h3⟩
  cases x with
  | normal => exact h3 h2
  | exit i => exact ⟨e, s', rfl, h2, h3⟩
  | ret => exact ⟨e, s', rfl, h2, h3⟩

theorem Ev.cond {P : Program} {c : Operand} {x y : Code} {env : List AV} {s : LSt} {Q : AX → List AV → LSt → Prop} {b : Bool} (hc : aev env c = .val (.bool b)) (h : Ev P (if b then x else y) env s Q) : Ev P (.cond c x y) env s Q :=
  fun ho => Cw.cond hc (h ho)

def blockQ (i : Nat) (Q : AX → List AV → LSt → Prop) : AX → List AV → LSt → Prop
  | .exit j, e, s => if j = i then Q .normal e s else Q (.exit j) e s
  | x, e, s => Q x e s

theorem Ev.block {P : Program} {i : Nat} {c : Code} {env : List AV} {s : LSt} {Q : AX → List AV → LSt → Prop} (h : Ev P c env s (blockQ i Q)) : Ev P (.block i c) env s Q := by
  intro ho
  refine Cw.block ((h ho).mono ?_)
  rintro x S ⟨e, s', rfl, h2, h3⟩
  cases x with
  | normal => exact ⟨e, s', rfl, h2, h3⟩
  | ret => exact ⟨e, s', rfl, h2, h3⟩
  | exit j =>
    simp only [AX.block, blockQ] at h3 ⊢
    by_cases hj : j = i
    · rw [if_pos hj] at h3 ⊢; exact ⟨e, s', rfl, h2, h3⟩
    · rw [if_neg hj] at h3 ⊢; exact ⟨e, s', rfl, h2, h3⟩

/-- a loop, by an invariant that counts down -/
theorem Ev.loop {P : Program} {c : Code} {Q : AX → List AV → LSt → Prop} (I : Nat → List AV → LSt → Prop) (step : ∀ n env s, I n env s → Ev P c env s (seqQ (fun e s => ∃ m, m < n ∧ I m e s) Q)) :
    ∀ n env s, I n env s → Ev P (.loop c) env s Q := by
  intro n env s hI ho
  have key : ∀ n env s, I n env s → s.Ok → CwR P c (fun x S => ∃ env' s', S = ⟨env', over (Emp 0) s'⟩ ∧ s'.Ok ∧ Q x env' s') (n + 1) ⟨env, over (Emp 0) s⟩ := by
    intro n
    induction n using Nat.strongRecOn with
    | ind n ih =>
      intro env s hI ho
      refine (step n env s hI ho).mono ?_
      rintro x S ⟨e, s', rfl, h2, h3⟩
      cases x with
      | normal =>
        obtain ⟨m, hm, hI'⟩ := h3
        have := ih m hm e s' hI' h2
        have lift : ∀ k S, CwR P c (fun x S => ∃ env' s', S = ⟨env', over (Emp 0) s'⟩ ∧ s'.Ok ∧ Q x env' s') k S → CwR P c (fun x S => ∃ env' s', S = ⟨env', over (Emp 0) s'⟩ ∧ s'.Ok ∧ Q x env' s') (k + 1) S := by
          intro k
          induction k with
          | zero => intro S h; exact h.elim
          | succ k ihk =>
            intro S h
            refine Cw.mono h ?_
            intro x S' hx
            cases x with
            | normal => exact ihk S' hx
            | exit i => exact hx
            | ret => exact hx
        have lifts : ∀ d S, CwR P c (fun x S => ∃ env' s', S = ⟨env', over (Emp 0) s'⟩ ∧ s'.Ok ∧ Q x env' s') (m + 1) S → CwR P c (fun x S => ∃ env' s', S = ⟨env', over (Emp 0) s'⟩ ∧ s'.Ok ∧ Q x env' s') (m + 1 + d) S := by
          intro d
          induction d with
          | zero => intro S h; exact h
          | succ d ihd => intro S h; exact lift _ _ (ihd S h)
        have e' : n = m + 1 + (n - (m + 1)) := by omega
        show CwR P c _ n _
        rw [e']
        exact lifts _ _ this
      | exit i => exact ⟨e, s', rfl, h2, h3⟩
      | ret => exact ⟨e, s', rfl, h2, h3⟩
  exact Cw.loop (n + 1) (key n env s hI ho)

theorem Ev.scope {P : Program} {c : Code} {env : List AV} {s : LSt} {Q : AX → List AV → LSt → Prop} (h : Ev P c env s Q) : Ev P (.scope c) env s Q := fun ho => Cw.scope (h ho)

theorem Ev.region {P : Program} {ops : Array Oper} {id : Nat} {env env' : List AV} {s s' : LSt} {vs : List LA} {r : List (Nat × Option LA)} {ob : List Obl} {Q : AX → List AV → LSt → Prop}
    (h : vops P ops ops.toList 0 env s vs = some (r, env', s', [], ob)) (hob : OblsOk P ob) (hQ : Q .normal env' s') : Ev P (.region id ops false) env s Q := by
  intro ho
  obtain ⟨q1, q2, q3⟩ := vops_ok ops.toList 0 env s vs r _ _ _ _ (fun k => by simp) h hob
  obtain ⟨o1, r1⟩ := q3 (Emp 0) 0 ho (fun _ _ _ => rfl)
  exact Cw.region r1 (by rw [q2, List.range_eq_range']; simp) ⟨_, _, rfl, o1, hQ⟩

theorem Ev.draw {P : Program} (hm : P.follows .mixedOrders = true) {ops : Array Oper} {id : Nat} {env env' : List AV} {s s' : LSt} {vs : List LA} {r : List (Nat × Option LA)} {ob : List Obl} {Q : AX → List AV → LSt → Prop}
    (h : vops P ops ops.toList 0 env s vs = some (r, env', s', [], ob)) (hed : edgesB ops = true) (hfree : freeB ops (ancs ops.toList []) r = true) (hob : OblsOk P ob) (hQ : Q .normal env' s') : Ev P (.region id ops true) env s Q := by
  intro ho
  obtain ⟨q1, q2, q3⟩ := vops_ok ops.toList 0 env s vs r _ _ _ _ (fun k => by simp) h hob
  obtain ⟨o1, r1⟩ := q3 (Emp 0) 0 ho (fun _ _ _ => rfl)
  exact Cw.draw hm hed hfree r1 (by rw [q2, List.range_eq_range']; simp) ⟨_, _, rfl, o1, hQ⟩

theorem zero_ok : LSt.zero.Ok := ⟨fun _ _ h => (nomatch h), fun _ h => (nomatch h), fun _ h => (nomatch h), Nat.le_refl _⟩

theorem over_zero : over (Emp 0) LSt.zero = Emp 0 := rfl

/-- a contract out of a body -/
theorem PTri.ev {P : Program} {f : FuncId} {fn : Func} {c : Code} {args : List AV} {v : AV} (hf : P.funcs[f]? = some fn) (hb : fn.body = some c)
    (h : Ev P c (args ++ List.replicate (fn.ntmps - args.length) (.val undef)) LSt.zero fun x env s => (x = .normal ∨ x = .ret) ∧
      ∃ res, ares P (look s.H) env fn.results.toList = some res ∧ ∀ G w u, V G w res u → V G w v u) : PTri P f args v := by
  refine PTri.body hf hb ?_
  have := h zero_ok
  rw [over_zero] at this
  refine this.mono ?_
  rintro x S ⟨e, s', rfl, _, hx, res, hres, hv⟩
  refine ⟨hx, res, ares_mono (fun i X hX => ?_) hres, hv⟩
  show (match look s'.H i with | some X => some X | none => none) = some X
  rw [hX]

/-- what a pure contract pays -/
theorem PTri.obl {P : Program} {f : FuncId} {args : List AV} {v : AV} {s : LSt} {fn : Func} (h : PTri P f args v) (ha : AV.DataL args) (hv : v.Data) (hf : P.funcs[f]? = some fn) (hname : (fn.name == "runtime.NumGoroutine") = false) (hb : fn.body.isNone = false) :
    Obl.ok P ⟨f, args, s, pureLA v⟩ := ⟨fit_pure, CallOk.of hf hname hb (h.uni ha hv)⟩

end Go.Ab
