/- Texts: AbCode AbEval AbEval2 AbEval3 AbCall AbClosed AbUni AbRen AbSym AbSym2 AbPath AbDv AbCt AbXc AbRs AbK -/
import Derived.LoopN
import Derived.Scope
import Derived.Test.YteiddempdecleaaGreatAbB0
set_option linter.unusedVariables false
set_option linter.unusedSimpArgs false

namespace Go.Ab
open Go Go.RowKit

inductive AX where
  | normal
  | exit (id : Nat)
  | ret

def AX.toExit : AX → Exit
  | .normal => .normal
  | .exit i => .exit i
  | .ret => .ret

/-- the post of a piece of code, in the model's own terms -/
def CPost (G : Gh) (w : World) (Q : AX → ST → Prop) : Exit → Act → World → Prop := fun e a' w' => ∃ x S' G', e = AX.toExit x ∧ Q x S' ∧ Ext G w G' w' ∧ Rel G' S' a' w'

def Cw (P : Program) (c : Code) (S : ST) (Q : AX → ST → Prop) : Prop := ∀ (G : Gh) (a : Act) (w : World), Rel G S a w → c.wp P (CPost G w Q) a w

theorem Cw.mono {P : Program} {c : Code} {S : ST} {Q Q' : AX → ST → Prop} (h : Cw P c S Q) (hq : ∀ x S, Q x S → Q' x S) : Cw P c S Q' :=
  fun G a w hR => wp_mono (h G a w hR) fun _ _ _ ⟨x, S', G', h1, h2, h3, h4⟩ => ⟨x, S', G', h1, hq _ _ h2, h3, h4⟩

theorem Cw.skip {P : Program} {S : ST} {Q : AX → ST → Prop} (h : Q .normal S) : Cw P .skip S Q :=
  fun G _ w hR => wp_skip ⟨.normal, S, G, rfl, h, Ext.refl G w, hR⟩
theorem Cw.label {P : Program} {l : Nat} {S : ST} {Q : AX → ST → Prop} (h : Q .normal S) : Cw P (.label l) S Q :=
  fun G _ w hR => wp_label ⟨.normal, S, G, rfl, h, Ext.refl G w, hR⟩
theorem Cw.exit {P : Program} {i : Nat} {S : ST} {Q : AX → ST → Prop} (h : Q (.exit i) S) : Cw P (.exit i) S Q :=
  fun G _ w hR => wp_exit ⟨.exit i, S, G, rfl, h, Ext.refl G w, hR⟩
theorem Cw.ret {P : Program} {S : ST} {Q : AX → ST → Prop} (h : Q .ret S) : Cw P .ret S Q :=
  fun G _ w hR => wp_ret ⟨.ret, S, G, rfl, h, Ext.refl G w, hR⟩

def AX.seq (next : ST → Prop) (Q : AX → ST → Prop) : AX → ST → Prop
  | .normal, S => next S
  | x, S => Q x S

theorem CPost.trans {G G₁ : Gh} {w w₁ : World} {Q : AX → ST → Prop} (h : Ext G w G₁ w₁) {e : Exit} {a : Act} {w' : World} (k : CPost G₁ w₁ Q e a w') : CPost G w Q e a w' := by
  obtain ⟨x, S', G', h1, h2, h3, h4⟩ := k
  exact ⟨x, S', G', h1, h2, h.trans h3, h4⟩

theorem Cw.seq {P : Program} {x y : Code} {S : ST} {Q : AX → ST → Prop} (h : Cw P x S (AX.seq (fun S' => Cw P y S' Q) Q)) : Cw P (.seq x y) S Q := by
  intro G a w hR
  refine wp_seq (wp_mono (h G a w hR) fun e a' w' hp => ?_)
  obtain ⟨x', S', G', rfl, h2, h3, h4⟩ := hp
  cases x' with
  | normal => exact wp_mono (h2 G' a' w' h4) fun _ _ _ k => k.trans h3
  | exit i => exact ⟨.exit i, S', G', rfl, h2, h3, h4⟩
  | ret => exact ⟨.ret, S', G', rfl, h2, h3, h4⟩

theorem Cw.cond {P : Program} {c : Operand} {x y : Code} {S : ST} {Q : AX → ST → Prop} {b : Bool} (hc : aev S.env c = .val (.bool b)) (h : Cw P (if b then x else y) S Q) : Cw P (.cond c x y) S Q := by
  intro G a w hR
  have hv := V.aev hR.env c
  rw [hc] at hv
  simp only [V] at hv
  exact wp_cond hv (h G a w hR)

def AX.block (i : Nat) (Q : AX → ST → Prop) : AX → ST → Prop
  | .exit j, S => if j = i then Q .normal S else Q (.exit j) S
  | x, S => Q x S

theorem Cw.block {P : Program} {i : Nat} {c : Code} {S : ST} {Q : AX → ST → Prop} (h : Cw P c S (AX.block i Q)) : Cw P (.block i c) S Q := by
  intro G a w hR
  refine wp_block (wp_mono (h G a w hR) fun e a' w' hp => ?_)
  obtain ⟨x', S', G', rfl, h2, h3, h4⟩ := hp
  cases x' with
  | normal => exact ⟨.normal, S', G', rfl, h2, h3, h4⟩
  | ret => exact ⟨.ret, S', G', rfl, h2, h3, h4⟩
  | exit j =>
    simp only [AX.block] at h2
    simp only [AX.toExit, Exit.inBlock]
    by_cases e : j = i
    · rw [if_pos e] at h2 ⊢; exact ⟨.normal, S', G', rfl, h2, h3, h4⟩
    · rw [if_neg e] at h2 ⊢; exact ⟨.exit j, S', G', rfl, h2, h3, h4⟩

def CwR (P : Program) (c : Code) (Q : AX → ST → Prop) : Nat → ST → Prop
  | 0, _ => False
  | n + 1, S => Cw P c S (AX.seq (CwR P c Q n) Q)

theorem CwR.rounds {P : Program} {c : Code} {Q : AX → ST → Prop} : ∀ (n : Nat) (S : ST), CwR P c Q n S → ∀ (G₀ G : Gh) (a : Act) (w₀ w : World), Ext G₀ w₀ G w → Rel G S a w → Code.rounds P c (CPost G₀ w₀ Q) n a w
  | 0, _, h, _, _, _, _, _, _, _ => h.elim
  | n + 1, S, h, G₀, G, a, w₀, w, hE, hR => by
    rw [rounds_succ]
    refine wp_mono (h G a w hR) fun e a' w' hp => ?_
    obtain ⟨x', S', G', rfl, h2, h3, h4⟩ := hp
    cases x' with
    | normal => exact CwR.rounds n S' h2 G₀ G' a' w₀ w' (hE.trans h3) h4
    | exit i => exact ⟨.exit i, S', G', rfl, h2, hE.trans h3, h4⟩
    | ret => exact ⟨.ret, S', G', rfl, h2, hE.trans h3, h4⟩

theorem Cw.loop {P : Program} {c : Code} {S : ST} {Q : AX → ST → Prop} (n : Nat) (h : CwR P c Q n S) : Cw P (.loop c) S Q :=
  fun G a w hR => wp_loop_rounds n (CwR.rounds n S h G G a w w (Ext.refl G w) hR)

theorem Cw.scope {P : Program} {c : Code} {S : ST} {Q : AX → ST → Prop} (h : Cw P c S Q) : Cw P (.scope c) S Q := by
  intro G a w hR
  refine wp_scope_straight (wp_mono (h G a w hR) fun e a' w' hp => ?_)
  obtain ⟨x', S', G', rfl, h2, h3, h4⟩ := hp
  cases x' with
  | normal => exact ⟨.normal, S', G', rfl, h2, h3, h4⟩
  | exit i => exact ⟨.exit i, S', G', rfl, h2, h3, h4⟩
  | ret => exact ⟨.ret, S', G', rfl, h2, h3, h4⟩

theorem Cw.region {P : Program} {ops : Array Oper} {id : Nat} {l : List (Nat × Option LA)} {S S' : ST} {Q : AX → ST → Prop} (h : ARun P ops l S S') (hl : l.map (·.1) = List.range ops.size) (hQ : Q .normal S') : Cw P (.region id ops false) S Q :=
  fun _ _ _ hR => region_wp h hl hR fun G' _ _ hE hR' => ⟨.normal, S', G', rfl, hQ, hE, hR'⟩

theorem Cw.draw {P : Program} {ops : Array Oper} {id : Nat} {l : List (Nat × Option LA)} {S S' : ST} {Q : AX → ST → Prop} (hm : P.follows .mixedOrders = true) (hed : edgesB ops = true)
    (hfree : freeB ops (ancs ops.toList []) l = true) (h : ARun P ops l S S') (hl : l.map (·.1) = List.range ops.size) (hQ : Q .normal S') : Cw P (.region id ops true) S Q :=
  fun _ _ _ hR => region_draw_wp hm hed hfree h hl hR fun G' _ _ hE hR' => ⟨.normal, S', G', rfl, hQ, hE, hR'⟩

/- CALLS -/
/-- A call of a function with such arguments does just what 'la' says, in whatever state that has what 'la' asks. -/
def UTri (P : Program) (f : FuncId) (args : List AV) (la : LA) : Prop :=
  ∀ (G : Gh) (σ : ASt) (w : World) (cargs : Array Value), RelS G σ w → VL G w args cargs.toList → la.can σ →
    Calls P f cargs w fun e w' => ∃ u G', e = .returned u ∧ Ext G w G' w' ∧ RelS G' (la.app σ) w' ∧ V G' w' la.v u

theorem OpOk.call {P : Program} {dst : Option Tmp} {type : TypeId} {pos : String} {after : Array Edge} {guard : Option (Nat × Bool)} {g : Operand} {args : Array Operand} {argTypes : Array TypeId} {la : LA} {f : FuncId} {first caps : List AV} {fn : Func}
    (hg : la.ev g = .clo f first caps) (hf : P.funcs[f]? = some fn) (hname : (fn.name == "runtime.NumGoroutine") = false) (hb : fn.body.isNone = false)
    (h : UTri P f (first ++ args.toList.map la.ev ++ caps) la) : OpOk P ⟨dst, .call { callee := .value g, args := args, argTypes := argTypes }, type, pos, after, guard⟩ la := by
  intro G σ w a K Q hR hx hc hK
  have hgx := hx g (by simp [Op.operands, Call.operands])
  rw [hg] at hgx
  simp only [V] at hgx
  obtain ⟨l, r, hge, hl, hr⟩ := hgx
  have hargs : VL G w (args.toList.map la.ev) (args.toList.map a.eval) := VL.mapv _ fun p hp => hx p (by simp [Op.operands, Call.operands]; exact .inr (by simpa using hp))
  have hrun : (execOp a.eval ⟨dst, .call { callee := .value g, args := args, argTypes := argTypes }, type, pos, after, guard⟩).run P w = .ok (.enter f (l.toArray ++ args.map a.eval ++ r.toArray)) w := by
    simp only [execOp, resolve, hge, Deferred.ofValue, Sem.run_bind, Sem.run_pure, Result.andThen_ok, invoke, callFunc]
    have hname' : ¬ fn.name = "runtime.NumGoroutine" := by simpa using hname
    have hb' : ¬ fn.body = none := by intro e; rw [e] at hb; cases hb
    simp [program, Sem.run, hf, hname', hb']
  unfold Oper.wp
  rw [hrun, Oper.upon_enter]
  refine (h G σ w (l.toArray ++ args.map a.eval ++ r.toArray) hR ?_ hc).mono fun e w' he => ?_
  · have := VL.append _ _ _ _ (VL.append _ _ _ _ hl hargs) hr
    simpa using this
  · obtain ⟨u, G', rfl, h1, h2, h3⟩ := he
    exact hK u G' w' h1 h2 h3

/- A FUNCTION OUT OF ITS BODY -/
def ares1 (P : Program) (H : Nat → Option Blk) (env : List AV) : ResultVar → Option AV
  | .tmp t => some (eget env t)
  | .cell a t => match tsz P t, eget env a with
    | some q, .mp i off => match H i with
      | some (.cells cs) => part1 q (cs.drop off)
      | _ => none
    | _, _ => none

def aresL (P : Program) (H : Nat → Option Blk) (env : List AV) : List ResultVar → Option (List AV)
  | [] => some []
  | r :: l => match ares1 P H env r, aresL P H env l with
    | some v, some vs => some (v :: vs)
    | _, _ => none

def ares (P : Program) (H : Nat → Option Blk) (env : List AV) (rs : List ResultVar) : Option AV :=
  match aresL P H env rs with
  | some [v] => some v
  | some vs => some (.tup vs)
  | none => none

theorem ares1_ok {P : Program} {S : ST} {G : Gh} {a : Act} {w : World} (hR : Rel G S a w) {r : ResultVar} {v : AV} (h : ares1 P S.σ.H S.env r = some v) :
    ∃ u, (match r with | .tmp t => (pure (a.tmps.getD t undef) : Sem Value) | .cell b t => do loadVar t (← asAddr (a.tmps.getD b undef))).run P w = .ok u w ∧ V G w v u := by
  have hget : ∀ t, V G w (eget S.env t) (a.tmps.getD t undef) := by
    intro t
    have := V.eget S.env _ hR.env t
    simpa using this
  cases r with
  | tmp t =>
    simp only [ares1, Option.some.injEq] at h
    subst h
    exact ⟨_, rfl, hget t⟩
  | cell b t =>
    simp only [ares1] at h
    split at h
    · rename_i q i off hq he
      split at h
      · rename_i cs hcs
        have hb := hget b
        rw [he] at hb
        simp only [V] at hb
        obtain ⟨c, hc, hbe⟩ := hb
        obtain ⟨c', hc', _, hblk⟩ := hR.st.look hcs
        rw [hc] at hc'; cases hc'
        obtain ⟨vs, T, hh, hl⟩ := hblk
        obtain ⟨u, hu, hv⟩ := part1_mem hq hh hl h
        refine ⟨u, ?_, hv⟩
        simp only [Instr.loadAt, Instr.sureAddr, Sem.run_bind, Sem.run_pure, Result.andThen_ok] at hu
        simp only [hbe, asAddr, Sem.run_bind, Sem.run_pure, Result.andThen_ok, hu]
      · cases h
    · cases h

theorem aresL_ok {P : Program} {S : ST} {G : Gh} {a : Act} {w : World} (hR : Rel G S a w) : ∀ (rs : List ResultVar) (vs : List AV), aresL P S.σ.H S.env rs = some vs →
    ∃ us, (rs.mapM fun (r : ResultVar) => match r with | .tmp t => (pure (a.tmps.getD t undef) : Sem Value) | .cell b t => do loadVar t (← asAddr (a.tmps.getD b undef))).run P w = .ok us w ∧ VL G w vs us
  | [], vs, h => by simp only [aresL, Option.some.injEq] at h; subst h; exact ⟨[], by simp, by simp [VL]⟩
  | r :: rs, vs, h => by
    simp only [aresL] at h
    split at h
    · rename_i v vs' h1 h2
      cases h
      obtain ⟨u, hu, hv⟩ := ares1_ok hR h1
      obtain ⟨us, hus, hvs⟩ := aresL_ok hR rs vs' h2
      refine ⟨u :: us, ?_, by simp only [VL]; exact ⟨hv, hvs⟩⟩
      simp only [List.mapM_cons, Sem.run_bind, hu, Result.andThen_ok, hus, Sem.run_pure]
    · cases h

theorem ares_ok {P : Program} {S : ST} {G : Gh} {a : Act} {w : World} (hR : Rel G S a w) {fn : Func} {v : AV} (h : ares P S.σ.H S.env fn.results.toList = some v) :
    ∃ u, (results fn a.tmps).run P w = .ok u w ∧ V G w v u := by
  unfold ares at h
  have key : ∀ vs, aresL P S.σ.H S.env fn.results.toList = some vs → ∃ us : List Value, (results fn a.tmps).run P w = .ok (if h : us.toArray.size = 1 then us.toArray[0] else .tuple us.toArray) w ∧ VL G w vs us := by
    intro vs hvs
    obtain ⟨us, hus, hv⟩ := aresL_ok hR _ _ hvs
    refine ⟨us, ?_, hv⟩
    unfold results
    rw [Array.mapM_eq_mapM_toList]
    simp only [Sem.run_bind, Sem.run_map, Sem.run_pure]
    erw [hus]
    rfl
  split at h
  · rename_i v' hvs
    cases h
    obtain ⟨us, h1, h2⟩ := key _ hvs
    have hl := VL.length _ _ h2
    match us, hl, h1, h2 with
    | [u], _, h1, h2 =>
      simp only [VL] at h2
      exact ⟨u, by simpa using h1, h2.1⟩
  · rename_i vs hne hvs
    cases h
    obtain ⟨us, h1, h2⟩ := key _ hvs
    have hl := VL.length _ _ h2
    have hne' : ¬ us.toArray.size = 1 := by
      intro e
      simp only [List.size_toArray] at e
      rw [hl] at e
      match vs, e with
      | [v'], _ => exact hne v' rfl
    rw [dif_neg hne'] at h1
    exact ⟨_, h1, by simp only [V]; exact ⟨us, rfl, h2⟩⟩
  · cases h

theorem VL.replicate {G : Gh} {w : World} : ∀ n, VL G w (List.replicate n (.val undef)) (List.replicate n undef)
  | 0 => by simp [VL]
  | n + 1 => by simp only [List.replicate_succ, VL]; exact ⟨by simp [V], VL.replicate n⟩

theorem UTri.body {P : Program} {f : FuncId} {fn : Func} {c : Code} {args : List AV} {la : LA} (hf : P.funcs[f]? = some fn) (hb : fn.body = some c)
    (h : ∀ σ : ASt, la.can σ → (∃ N, ∀ i, N ≤ i → σ.H i = none) → (∀ k, σ.own k = true → k < σ.ns) → Cw P c ⟨args ++ List.replicate (fn.ntmps - args.length) (.val undef), σ⟩ fun x S => (x = .normal ∨ x = .ret) ∧
      ∃ res kf kb ks p g, ares P S.σ.H S.env fn.results.toList = some res ∧ Left σ S.σ la res kf kb ks p g) : UTri P f args la := by
  intro G σ w cargs hR hv hc
  refine calls_of_wp hf hb ?_
  have hlen := VL.length _ _ hv
  have hR0 : Rel G ⟨args ++ List.replicate (fn.ntmps - args.length) (.val undef), σ⟩ { tmps := cargs ++ Array.replicate (fn.ntmps - cargs.size) undef, defers := [] } w := by
    refine ⟨hR, ?_, rfl⟩
    have : cargs.size = args.length := by rw [← hlen]; simp
    simp only [Array.toList_append, Array.toList_replicate, this]
    exact VL.append _ _ _ _ hv (VL.replicate _)
  refine wp_mono (h σ hc hR.fin (fun k hk => hR.own_lt hk) G _ w hR0) fun e a' w' hp => ?_
  obtain ⟨x, S', G₁, rfl, ⟨hx, res, kf, kb, ks, p, g, hres, hL⟩, hE, hR'⟩ := hp
  obtain ⟨u, hu, huv⟩ := ares_ok (fn := fn) hR' hres
  obtain ⟨G', h1, h2, h3⟩ := leave hL hR hE hR'.st hc huv
  have hend : a'.defers = [] ∧ ∃ v, (results fn a'.tmps).run P w' = .ok v w' ∧ ∃ u G', Ending.returned v = .returned u ∧ Ext G w G' w' ∧ RelS G' (la.app σ) w' ∧ V G' w' la.v u :=
    ⟨hR'.dfr, u, hu, u, G', rfl, h1, h2, h3⟩
  rcases hx with rfl | rfl
  · exact hend
  · exact hend

end Go.Ab

namespace Go.Ab
open Go Go.RowKit

def put : List (Nat × Blk) → Nat → Blk → List (Nat × Blk)
  | [], _, _ => []
  | p :: l, i, Y => bif Nat.beq i p.1 then (p.1, Y) :: l else p :: put l i Y

def puts (H : List (Nat × Blk)) : List (Nat × Blk × Blk) → List (Nat × Blk)
  | [] => H
  | p :: l => put (puts H l) p.1 p.2.2

theorem beq_ne {i j : Nat} (h : i ≠ j) : Nat.beq i j = false := by
  cases hb : Nat.beq i j with
  | false => rfl
  | true => exact absurd (Nat.eq_of_beq_eq_true hb) h

theorem look_put : ∀ (H : List (Nat × Blk)) (i j : Nat) (Y : Blk), look (put H i Y) j = if j = i ∧ (look H i).isSome = true then some Y else look H j
  | [], i, j, Y => by simp [put, look]
  | p :: H, i, j, Y => by
    simp only [put]
    cases hi : Nat.beq i p.1 with
    | true =>
      have := Nat.eq_of_beq_eq_true hi
      subst this
      simp only [cond_true, look, hi]
      by_cases hj : j = p.1
      · subst hj; simp
      · have : Nat.beq j p.1 = false := beq_ne hj
        simp [this, hj]
    | false =>
      have hne : i ≠ p.1 := by rintro rfl; simp at hi
      simp only [cond_false, look, hi]
      rw [look_put H i j Y]
      by_cases hj : j = p.1
      · subst hj
        have hb : Nat.beq p.1 p.1 = true := by simp
        simp only [hb, cond_true]
        rw [if_neg (fun e => hne e.1.symm)]
      · have hb : Nat.beq j p.1 = false := beq_ne hj
        simp only [hb, cond_false]

def over (σ₀ : ASt) (s : LSt) : ASt := ⟨fun i => match look s.H i with | some X => some X | none => σ₀.H i, fun k => s.own.any (Nat.beq k) || σ₀.own k, s.ns⟩

/-- the new stamps -/
def fresh (ns : Nat) : Nat → List Nat
  | 0 => []
  | n + 1 => (ns + n) :: fresh ns n

theorem mem_fresh {ns k : Nat} : ∀ n, k ∈ fresh ns n ↔ ns ≤ k ∧ k < ns + n
  | 0 => by simp [fresh]
  | n + 1 => by simp only [fresh, List.mem_cons, mem_fresh n]; omega

def LSt.app (s : LSt) (la : LA) : LSt :=
  ⟨la.al ++ puts s.H la.wr, max (max s.nx la.hi) (la.al.foldl (fun m p => max m (p.1 + 1)) 0), fresh s.ns la.new ++ s.own.filter (fun k => !(la.use.any (Nat.beq k))), s.ns + la.new, la.wr.map (·.1) ++ s.dirty⟩

/-- the abstract operation is one that the state can have -/
structure LSt.fit (s : LSt) (la : LA) : Prop where
  rd : ∀ i X, (i, X) ∈ la.rd → look s.H i = some X
  wr : ∀ i X Y, (i, X, Y) ∈ la.wr → look s.H i = some X
  al : ∀ i X, (i, X) ∈ la.al → s.nx ≤ i
  lo : la.lo < la.hi → s.nx ≤ la.lo
  use : ∀ k, k ∈ la.use → k ∈ s.own
  ns : la.use ≠ [] ∨ la.new ≠ 0 ∨ la.st = true → la.ns = s.ns

/-- a state that lies over a frame -/
structure LSt.On (s : LSt) (σ₀ : ASt) (b : Nat) : Prop where
  H : ∀ i X, look s.H i = some X → i < s.nx
  own : ∀ k, k ∈ s.own → b ≤ k ∧ k < s.ns
  fr : ∀ k, σ₀.own k = true → k < b
  b : b ≤ s.ns

theorem any_beq {l : List Nat} {k : Nat} : l.any (Nat.beq k) = true ↔ k ∈ l := by
  rw [List.any_eq_true]
  constructor
  · rintro ⟨x, hx, h⟩; have := Nat.eq_of_beq_eq_true h; subst this; exact hx
  · intro h; exact ⟨k, h, by simp⟩

theorem le_foldl_max : ∀ (l : List (Nat × Blk)) (m i : Nat) (X : Blk), m ≤ l.foldl (fun m p => max m (p.1 + 1)) m ∧ ((i, X) ∈ l → i < l.foldl (fun m p => max m (p.1 + 1)) m)
  | [], m, i, X => by simp
  | p :: l, m, i, X => by
    simp only [List.foldl_cons, List.mem_cons]
    obtain ⟨h1, h2⟩ := le_foldl_max l (max m (p.1 + 1)) i X
    refine ⟨by omega, ?_⟩
    rintro (rfl | h)
    · have h1' : max m (i + 1) ≤ List.foldl (fun m p => max m (p.fst + 1)) (max m (i + 1)) l := h1
      show i < List.foldl (fun m p => max m (p.fst + 1)) (max m (i + 1)) l
      omega
    · exact h2 h

theorem LSt.app_nx (s : LSt) (la : LA) : s.nx ≤ (s.app la).nx ∧ la.hi ≤ (s.app la).nx ∧ ∀ i X, (i, X) ∈ la.al → i < (s.app la).nx := by
  simp only [LSt.app]
  refine ⟨by omega, by omega, fun i X h => ?_⟩
  have := (le_foldl_max la.al 0 i X).2 h
  omega

theorem LSt.can {s : LSt} {la : LA} (h : s.fit la) {σ₀ : ASt} {b : Nat} (ho : s.On σ₀ b) (hfree : ∀ i, s.nx ≤ i → i < (s.app la).nx → σ₀.H i = none) : la.can (over σ₀ s) := by
  have hn : ∀ i, s.nx ≤ i → i < (s.app la).nx → (over σ₀ s).H i = none := by
    intro i h1 h2
    show (match look s.H i with | some X => some X | none => σ₀.H i) = none
    cases hl : look s.H i with
    | some X => have := ho.H i X hl; omega
    | none => exact hfree i h1 h2
  obtain ⟨n1, n2, n3⟩ := s.app_nx la
  refine ⟨fun i X hX => ?_, fun i X Y hX => ?_, fun i X hX => hn i (h.al i X hX) (n3 i X hX), fun k hk => ?_, h.ns, fun i h1 h2 => hn i (Nat.le_trans (h.lo (by omega)) h1) (by omega)⟩
  · show (match look s.H i with | some X => some X | none => σ₀.H i) = some X
    rw [h.rd i X hX]
  · show (match look s.H i with | some X => some X | none => σ₀.H i) = some X
    rw [h.wr i X Y hX]
  · show (s.own.any (Nat.beq k) || σ₀.own k) = true
    rw [any_beq.2 (h.use k hk)]; rfl

theorem look_puts {H : List (Nat × Blk)} : ∀ (l : List (Nat × Blk × Blk)) (i : Nat), (∀ p ∈ l, (look H p.1).isSome = true) → (∀ i, (look H i).isSome = (look (puts H l) i).isSome) ∧
    (match look (puts H l) i with | some X => some X | none => none) = (if (look H i).isSome = true then ups (look H) (l.map fun p => (p.1, p.2.2)) i else none)
  | [], i, _ => by
    refine ⟨fun _ => rfl, ?_⟩
    simp only [puts, List.map_nil, ups]
    cases look H i <;> rfl
  | p :: l, i, h => by
    have ih := fun i => look_puts l i (fun q hq => h q (by simp [hq]))
    have hp := h p (by simp)
    have hs : ∀ j, (look H j).isSome = (look (puts H (p :: l)) j).isSome := by
      intro j
      simp only [puts, look_put]
      have hj := (ih j).1 j
      by_cases e : j = p.1 ∧ (look (puts H l) p.1).isSome = true
      · rw [if_pos e, e.1, hp]; rfl
      · rw [if_neg e]; exact hj
    refine ⟨hs, ?_⟩
    simp only [puts, look_put, List.map_cons, ups]
    have hpl : (look (puts H l) p.1).isSome = true := by rw [← (ih p.1).1 p.1]; exact hp
    by_cases e : i = p.1
    · subst e
      rw [if_pos ⟨rfl, hpl⟩, if_pos hp, up_same]
    · rw [if_neg (fun q => e q.1), up_ne _ _ e]
      exact (ih i).2

theorem look_append : ∀ (l m : List (Nat × Blk)) (i : Nat), look (l ++ m) i = match look l i with | some X => some X | none => look m i
  | [], m, i => by simp [look]
  | p :: l, m, i => by
    simp only [List.cons_append, look]
    cases Nat.beq i p.1 with
    | true => rfl
    | false => simp only [cond_false]; exact look_append l m i

theorem look_ups : ∀ (l : List (Nat × Blk)) (H : Nat → Option Blk) (i : Nat), ups H l i = match look l i with | some X => some X | none => H i
  | [], H, i => by simp [look, ups]
  | p :: l, H, i => by
    simp only [look, ups]
    by_cases e : i = p.1
    · subst e; rw [up_same]; simp
    · rw [up_ne _ _ e]
      have : Nat.beq i p.1 = false := beq_ne e
      simp only [this, cond_false]
      exact look_ups l H i

theorem over_app {s : LSt} {la : LA} (h : s.fit la) {σ₀ : ASt} {b : Nat} (ho : s.On σ₀ b) : la.app (over σ₀ s) = over σ₀ (s.app la) := by
  have hH : (la.app (over σ₀ s)).H = (over σ₀ (s.app la)).H := by
    funext i
    show ups (ups (over σ₀ s).H (la.wr.map fun p => (p.1, p.2.2))) la.al i = match look (la.al ++ puts s.H la.wr) i with | some X => some X | none => σ₀.H i
    rw [look_ups, look_append]
    cases look la.al i with
    | some X => rfl
    | none =>
      simp only
      have hpw : ∀ p ∈ la.wr, (look s.H p.1).isSome = true := fun p hp => by rw [h.wr p.1 p.2.1 p.2.2 hp]; rfl
      obtain ⟨_, hp2⟩ := look_puts la.wr i hpw
      have hp1 := (look_puts la.wr i hpw).1 i
      have hu : ∀ (l : List (Nat × Blk × Blk)), (∀ p ∈ l, (look s.H p.1).isSome = true) → ups (over σ₀ s).H (l.map fun p => (p.1, p.2.2)) i = if (look s.H i).isSome = true then ups (look s.H) (l.map fun p => (p.1, p.2.2)) i else σ₀.H i := by
        intro l hl
        induction l with
        | nil =>
          simp only [List.map_nil, ups, over]
          cases look s.H i <;> rfl
        | cons p l ih =>
          simp only [List.map_cons, ups]
          by_cases e : i = p.1
          · subst e; rw [up_same, up_same, if_pos (hl p (by simp))]
          · rw [up_ne _ _ e, up_ne _ _ e]; exact ih (fun q hq => hl q (by simp [hq]))
      rw [hu la.wr hpw]
      cases hl : look s.H i with
      | none =>
        rw [hl] at hp1
        simp only [Option.isSome_none] at hp1
        have : look (puts s.H la.wr) i = none := by
          cases hq : look (puts s.H la.wr) i with
          | none => rfl
          | some X => rw [hq] at hp1; cases hp1
        rw [this]; rfl
      | some X =>
        rw [hl] at hp2 hp1
        simp only [Option.isSome_some, if_true] at hp2 hp1 ⊢
        rw [← hp2]
        cases hq : look (puts s.H la.wr) i with
        | none => rw [hq] at hp1; cases hp1
        | some Y => rfl
  have hO : (la.app (over σ₀ s)).own = (over σ₀ (s.app la)).own := by
    funext k
    show (if s.ns ≤ k ∧ k < s.ns + la.new then true else if k ∈ la.use then false else (s.own.any (Nat.beq k) || σ₀.own k)) = ((fresh s.ns la.new ++ s.own.filter (fun k => !(la.use.any (Nat.beq k)))).any (Nat.beq k) || σ₀.own k)
    rw [List.any_append]
    by_cases hk : s.ns ≤ k ∧ k < s.ns + la.new
    · rw [if_pos hk, any_beq.2 ((mem_fresh la.new).2 hk)]; rfl
    · rw [if_neg hk]
      have h1 : (fresh s.ns la.new).any (Nat.beq k) = false := by
        cases hf : (fresh s.ns la.new).any (Nat.beq k) with
        | false => rfl
        | true => exact absurd ((mem_fresh la.new).1 (any_beq.1 hf)) hk
      rw [h1, Bool.false_or]
      by_cases hu : k ∈ la.use
      · rw [if_pos hu]
        have h2 : (s.own.filter (fun k => !(la.use.any (Nat.beq k)))).any (Nat.beq k) = false := by
          cases hf : (s.own.filter (fun k => !(la.use.any (Nat.beq k)))).any (Nat.beq k) with
          | false => rfl
          | true =>
            have := any_beq.1 hf
            rw [List.mem_filter] at this
            rw [any_beq.2 hu] at this
            simp at this
        have h3 : σ₀.own k = false := by
          cases hf : σ₀.own k with
          | false => rfl
          | true =>
            have := ho.fr k hf
            have := (ho.own k (h.use k hu)).1
            omega
        rw [h2, h3]; rfl
      · rw [if_neg hu]
        congr 1
        rw [Bool.eq_iff_iff, any_beq, any_beq, List.mem_filter]
        constructor
        · intro hm
          refine ⟨hm, ?_⟩
          cases hf : la.use.any (Nat.beq k) with
          | false => rfl
          | true => exact absurd (any_beq.1 hf) hu
        · exact fun hm => hm.1
  calc la.app (over σ₀ s) = ⟨(la.app (over σ₀ s)).H, (la.app (over σ₀ s)).own, (la.app (over σ₀ s)).ns⟩ := rfl
    _ = ⟨(over σ₀ (s.app la)).H, (over σ₀ (s.app la)).own, (over σ₀ (s.app la)).ns⟩ := by rw [hH, hO]; rfl
    _ = over σ₀ (s.app la) := rfl

theorem On.app {s : LSt} {la : LA} (h : s.fit la) {σ₀ : ASt} {b : Nat} (ho : s.On σ₀ b) : (s.app la).On σ₀ b := by
  obtain ⟨n1, n2, n3⟩ := s.app_nx la
  refine ⟨fun i X hX => ?_, fun k hk => ?_, ho.fr, Nat.le_trans ho.b (Nat.le_add_right _ _)⟩
  · have hX' : look (la.al ++ puts s.H la.wr) i = some X := hX
    rw [look_append] at hX'
    cases hl : look la.al i with
    | some Y =>
      have mem : ∀ (l : List (Nat × Blk)) (i : Nat) (Y : Blk), look l i = some Y → (i, Y) ∈ l := by
        intro l
        induction l with
        | nil => intro i Y h; cases h
        | cons p l ih =>
          intro i Y h
          simp only [look] at h
          cases hb : Nat.beq i p.1 with
          | true =>
            rw [hb] at h
            have := Nat.eq_of_beq_eq_true hb
            subst this
            simp only [cond_true, Option.some.injEq] at h
            subst h
            simp
          | false => rw [hb] at h; exact List.mem_cons_of_mem _ (ih i Y h)
      exact n3 i Y (mem _ _ _ hl)
    | none =>
      rw [hl] at hX'
      simp only at hX'
      have hpw : ∀ p ∈ la.wr, (look s.H p.1).isSome = true := fun p hp => by rw [h.wr p.1 p.2.1 p.2.2 hp]; rfl
      have hp1 := (look_puts la.wr i hpw).1 i
      rw [hX'] at hp1
      cases hq : look s.H i with
      | none => rw [hq] at hp1; cases hp1
      | some Y => exact Nat.lt_of_lt_of_le (ho.H i Y hq) n1
  · have hk' : k ∈ fresh s.ns la.new ++ s.own.filter (fun k => !(la.use.any (Nat.beq k))) := hk
    have hns : (s.app la).ns = s.ns + la.new := rfl
    have := ho.b
    rcases List.mem_append.1 hk' with h1 | h1
    · have := (mem_fresh la.new).1 h1
      omega
    · have := ho.own k (List.mem_filter.1 h1).1
      omega

end Go.Ab

namespace Go.Ab
open Go Go.RowKit

theorem fit_pure {s : LSt} {ev : Operand → AV} {v : AV} : s.fit { ev := ev, v := v } :=
  ⟨fun i X h => by simp at h, fun i X Y h => by simp at h, fun i X h => by simp at h, fun h => by simp at h, fun k h => by simp at h, fun h => by simp at h⟩
theorem fit_al {s : LSt} {ev : Operand → AV} {v : AV} {X : Blk} : s.fit { ev := ev, al := [(s.nx, X)], v := v } :=
  ⟨fun i X h => by simp at h, fun i X Y h => by simp at h, fun i X h => by simp at h; omega, fun h => by simp at h, fun k h => by simp at h, fun h => by simp at h⟩
theorem fit_rd {s : LSt} {ev : Operand → AV} {v : AV} {i : Nat} {X : Blk} (hX : look s.H i = some X) : s.fit { ev := ev, rd := [(i, X)], v := v } :=
  ⟨fun j Y h => by simp at h; obtain ⟨rfl, rfl⟩ := h; exact hX, fun i X Y h => by simp at h, fun i X h => by simp at h, fun h => by simp at h, fun k h => by simp at h, fun h => by simp at h⟩
theorem fit_wr {s : LSt} {ev : Operand → AV} {v : AV} {i : Nat} {X Y : Blk} (hX : look s.H i = some X) : s.fit { ev := ev, v := v, wr := [(i, X, Y)] } :=
  ⟨fun j Y h => by simp at h, fun j A B h => by simp at h; obtain ⟨rfl, rfl, rfl⟩ := h; exact hX, fun i X h => by simp at h, fun h => by simp at h, fun k h => by simp at h, fun h => by simp at h⟩

theorem eop_fit {P : Program} {o : Op} {ev : Operand → AV} {s : LSt} {la : LA} (h : eop P o ev s = some la) : s.fit la := by
  unfold eop at h
  split at h
  · split at h
    · split at h
      · cases h; exact fit_al
      · cases h
    · cases h
  · rename_i x
    cases hs : (ev x).sound <;> simp only [hs, cond_true, cond_false, Option.some.injEq, reduceCtorEq] at h
    subst h; exact fit_al
  · split at h
    · split at h
      · split at h
        · rename_i hl _ _ _; cases h; exact fit_rd (by assumption)
        · cases h
      · cases h
    · cases h
  · split at h
    · split at h
      · rename_i hl
        generalize (AV.sound _ && _ && _) = c at h
        cases c <;> simp only [cond_true, cond_false, Option.some.injEq, reduceCtorEq] at h
        subst h; exact fit_wr hl
      · cases h
    · cases h
  · split at h
    · split at h
      · split at h
        · generalize (Nat.beq _ _ && _ && _) = c at h
          cases c <;> simp only [cond_true, cond_false, reduceCtorEq] at h
          split at h
          · cases h; exact fit_pure
          · cases h
        · cases h
      · cases h
    · cases h
  · split at h
    · split at h
      · split at h
        · split at h
          · cases h; exact fit_pure
          · cases h
        · cases h
      · cases h
    · cases h
  · cases h; exact fit_al
  · cases h

theorem aappend_fit {P : Program} {t t2 : TypeId} {ev : Operand → AV} {a b : AV} {s : LSt} {la : LA} (h : aappend P t t2 ev a b s = some la) : s.fit la := by
  unfold aappend at h
  split at h
  · rename_i e es n o es2 n2 o2 _
    split at h
    · split at h
      · generalize (Nat.beq t t2 && _ && _ && _ && _ && _ && _ && _) = c at h
        cases c with
        | false => cases h
        | true =>
          simp only [cond_true] at h
          generalize Nat.beq n2 0 = d at h
          cases d with
          | true => simp only [cond_true, Option.some.injEq] at h; subst h; exact fit_pure
          | false =>
            simp only [cond_false] at h
            split at h
            · cases h
              exact ⟨fun i X h => by simp at h, fun i X Y h => by simp at h, fun i X h => by simp at h, fun h => by simp at h, fun k h => by simp at h, fun _ => rfl⟩
            · rename_i k sz
              cases hk : (s.own.any (Nat.beq k) && Nat.beq sz _) with
              | false => rw [hk] at h; cases h
              | true =>
                rw [hk] at h
                simp only [cond_true, Option.some.injEq] at h
                subst h
                simp only [Bool.and_eq_true] at hk
                exact ⟨fun i X h => by simp at h, fun i X Y h => by simp at h, fun i X h => by simp at h, fun h => by simp at h, fun j h => by simp at h; subst h; exact any_beq.1 hk.1, fun _ => rfl⟩
            · cases h
              exact ⟨fun i X h => by simp at h, fun i X Y h => by simp at h, fun i X h => by simp at h, fun h => by simp at h, fun k h => by simp at h, fun _ => rfl⟩
            · cases h
      · cases h
    · cases h
  · cases h

theorem aop_fit {P : Program} {o : Op} {ev : Operand → AV} {s : LSt} {la : LA} (h : aop P o ev s = some la) : s.fit la := by
  unfold aop at h
  split at h
  · cases h; exact fit_pure
  · rename_i hn
    clear hn
    split at h
    · unfold alookup at h
      split at h
      · split at h
        · rename_i hl
          split at h
          · generalize plainKey _ = c at h
            cases c with
            | false => cases h
            | true => simp only [cond_true, Option.some.injEq] at h; subst h; exact fit_rd hl
          · cases h
        · cases h
      · cases h
    · unfold amapUpdate at h
      split at h
      · split at h
        · rename_i hl
          split at h
          · generalize plainKey _ = c at h
            cases c with
            | false => cases h
            | true => simp only [cond_true, Option.some.injEq] at h; subst h; exact fit_wr hl
          · cases h
        · cases h
      · cases h
    · split at h
      · exact aappend_fit h
      · cases h
    · exact eop_fit h

/- THE EVALUATOR -/
def eact (P : Program) (call : FuncId → List AV → LSt → Option LA) (op : Op) (ev : Operand → AV) (s : LSt) : Option LA :=
  match op with
  | .call { callee := .value g, args, argTypes := _ } =>
    match ev g with
    | .clo f first caps => match call f (first ++ args.toList.map ev ++ caps) s with
      | some la => some { la with ev := ev }
      | none => none
    | _ => none
  | op => aop P op ev s

def estep (P : Program) (call : FuncId → List AV → LSt → Option LA) (ops : Array Oper) (env : List AV) (s : LSt) (o : Oper) : Option (Option LA × List AV × LSt) :=
  match awant ops env o with
  | some false => some (none, eset env o.dst (.val undef), s)
  | some true =>
    match eact P call o.op (aev env) s with
    | some la => some (some la, eset env o.dst la.v, s.app la)
    | none => none
  | none => none

def eops (P : Program) (call : FuncId → List AV → LSt → Option LA) (ops : Array Oper) : List Oper → Nat → List AV → LSt → Option (List (Nat × Option LA) × List AV × LSt)
  | [], _, env, s => some ([], env, s)
  | o :: l, i, env, s =>
    match estep P call ops env s o with
    | some (la, env1, s1) => match eops P call ops l (i + 1) env1 s1 with
      | some (r, env2, s2) => some ((i, la) :: r, env2, s2)
      | none => none
    | none => none

def ecode (P : Program) (call : FuncId → List AV → LSt → Option LA) : Nat → Code → List AV → LSt → Option (AX × List AV × LSt)
  | 0, _, _, _ => none
  | n + 1, c, env, s =>
    match c with
    | .skip => some (.normal, env, s)
    | .label _ => some (.normal, env, s)
    | .exit i => some (.exit i, env, s)
    | .ret => some (.ret, env, s)
    | .seq x y => match ecode P call n x env s with
      | some (.normal, env1, s1) => ecode P call n y env1 s1
      | r => r
    | .cond c x y => match aev env c with
      | .val (.bool b) => ecode P call n (bif b then x else y) env s
      | _ => none
    | .block i c => match ecode P call n c env s with
      | some (.exit j, env1, s1) => some (bif Nat.beq j i then .normal else .exit j, env1, s1)
      | r => r
    | .loop c => match ecode P call n c env s with
      | some (.normal, env1, s1) => ecode P call n (.loop c) env1 s1
      | r => r
    | .scope c => ecode P call n c env s
    | .region _ ops draw => match eops P call ops ops.toList 0 env s with
      | some (l, env1, s1) => bif !draw || (edgesB ops && freeB ops (ancs ops.toList []) l) then some (.normal, env1, s1) else none
      | none => none
    | _ => none

/-- what a call of f with such arguments does -/
def CallOk (P : Program) (f : FuncId) (args : List AV) (la : LA) : Prop :=
  ∀ (dst : Option Tmp) (type : TypeId) (pos : String) (after : Array Edge) (guard : Option (Nat × Bool)) (g : Operand) (cargs : Array Operand) (argTypes : Array TypeId) (first caps : List AV) (ev : Operand → AV),
    ev g = .clo f first caps → args = first ++ cargs.toList.map ev ++ caps → OpOk P ⟨dst, .call { callee := .value g, args := cargs, argTypes := argTypes }, type, pos, after, guard⟩ { la with ev := ev }

def CallsOk (P : Program) (call : FuncId → List AV → LSt → Option LA) : Prop := ∀ f args s la, call f args s = some la → s.fit la ∧ CallOk P f args la

theorem eact_ok {P : Program} {call : FuncId → List AV → LSt → Option LA} (hc : CallsOk P call) {o : Oper} {ev : Operand → AV} {s : LSt} {la : LA} (h : eact P call o.op ev s = some la) : s.fit la ∧ OpOk P o la ∧ la.ev = ev := by
  obtain ⟨dst, op, type, pos, after, guard⟩ := o
  have h' : eact P call op ev s = some la := h
  clear h
  unfold eact at h'
  split at h'
  · rename_i g args argTypes
    split at h'
    · rename_i f first caps hg
      split at h'
      · rename_i la' hla
        cases h'
        obtain ⟨h1, h2⟩ := hc _ _ _ _ hla
        exact ⟨⟨h1.rd, h1.wr, h1.al, h1.lo, h1.use, h1.ns⟩, h2 dst type pos after guard g args argTypes first caps ev hg rfl, rfl⟩
      · cases h'
    · cases h'
  · exact ⟨aop_fit h', aop_ok h'⟩

structure Later (s s' : LSt) : Prop where
  nx : s.nx ≤ s'.nx
  dirty : ∀ i, i ∈ s.dirty → i ∈ s'.dirty
  still : ∀ i X, look s.H i = some X → i < s.nx → i ∉ s'.dirty → look s'.H i = some X
  held : ∀ i X, look s'.H i = some X → s.nx ≤ i ∨ ∃ Y, look s.H i = some Y

theorem Later.refl (s : LSt) : Later s s := ⟨Nat.le_refl _, fun _ h => h, fun _ _ h _ _ => h, fun _ X h => .inr ⟨X, h⟩⟩
theorem Later.trans {s s₁ s₂ : LSt} (h : Later s s₁) (k : Later s₁ s₂) : Later s s₂ :=
  ⟨Nat.le_trans h.nx k.nx, fun i hi => k.dirty i (h.dirty i hi), fun i X hX hlt hd => k.still i X (h.still i X hX hlt (fun e => hd (k.dirty i e))) (Nat.lt_of_lt_of_le hlt h.nx) hd,
   fun i X hX => (k.held i X hX).elim (fun hle => .inl (Nat.le_trans h.nx hle)) (fun ⟨Y, hY⟩ => h.held i Y hY)⟩

theorem look_puts_ne {H : List (Nat × Blk)} : ∀ (l : List (Nat × Blk × Blk)) (i : Nat), i ∉ l.map (·.1) → look (puts H l) i = look H i
  | [], _, _ => rfl
  | p :: l, i, h => by
    simp only [List.map_cons, List.mem_cons, not_or] at h
    simp only [puts, look_put]
    rw [if_neg (fun e => h.1 e.1)]
    exact look_puts_ne l i h.2

theorem look_none : ∀ (l : List (Nat × Blk)) (i : Nat), (∀ X, (i, X) ∉ l) → look l i = none
  | [], _, _ => rfl
  | p :: l, i, h => by
    simp only [look]
    have hne : i ≠ p.1 := by rintro rfl; exact h p.2 (by simp)
    rw [beq_ne hne]
    exact look_none l i (fun X hX => h X (by simp [hX]))

theorem Later.app {s : LSt} {la : LA} (h : s.fit la) : Later s (s.app la) := by
  refine ⟨(s.app_nx la).1, fun i hi => ?_, fun i X hX hlt hd => ?_, fun i X hX => ?_⟩
  · show i ∈ la.wr.map (·.1) ++ s.dirty
    simp [hi]
  · have hd' : i ∉ la.wr.map (·.1) ++ s.dirty := hd
    simp only [List.mem_append, not_or] at hd'
    show look (la.al ++ puts s.H la.wr) i = some X
    rw [look_append, look_none la.al i (fun Y hY => by have := h.al i Y hY; omega)]
    simp only
    rw [look_puts_ne _ _ hd'.1, hX]
  · have hX' : look (la.al ++ puts s.H la.wr) i = some X := hX
    by_cases hi : s.nx ≤ i
    · exact .inl hi
    · rw [look_append, look_none la.al i (fun Y hY => hi (h.al i Y hY))] at hX'
      simp only at hX'
      have hpw : ∀ p ∈ la.wr, (look s.H p.1).isSome = true := fun p hp => by rw [h.wr p.1 p.2.1 p.2.2 hp]; rfl
      have hp1 := (look_puts la.wr i hpw).1 i
      rw [hX'] at hp1
      exact .inr (Option.isSome_iff_exists.1 (by simpa using hp1))

theorem eops_ok {P : Program} {call : FuncId → List AV → LSt → Option LA} (hc : CallsOk P call) {ops : Array Oper} : ∀ (l : List Oper) (i : Nat) (env : List AV) (s : LSt) (r : List (Nat × Option LA)) (env' : List AV) (s' : LSt),
    (∀ k, l[k]? = ops[i + k]?) → eops P call ops l i env s = some (r, env', s') → Later s s' ∧ r.map (·.1) = List.range' i l.length ∧ ∀ (σ₀ : ASt) (b : Nat), s.On σ₀ b → (∀ j, s.nx ≤ j → j < s'.nx → σ₀.H j = none) →
      s'.On σ₀ b ∧ ARun P ops r ⟨env, over σ₀ s⟩ ⟨env', over σ₀ s'⟩
  | [], i, env, s, r, env', s', _, h => by
    simp only [eops, Option.some.injEq, Prod.mk.injEq] at h
    obtain ⟨rfl, rfl, rfl⟩ := h
    exact ⟨Later.refl _, rfl, fun σ₀ b ho _ => ⟨ho, rfl⟩⟩
  | o :: l, i, env, s, r, env', s', hl, h => by
    simp only [eops] at h
    split at h
    · rename_i la env1 s1 hst
      split at h
      · rename_i r' env2 s2 hr
        cases h
        have h0 : ops[i]? = some o := by have := hl 0; simpa using this.symm
        have step : Later s s1 ∧ ∀ (σ₀ : ASt) (b : Nat), s.On σ₀ b → (∀ j, s.nx ≤ j → j < s1.nx → σ₀.H j = none) → s1.On σ₀ b ∧ AStep P ops i la ⟨env, over σ₀ s⟩ ⟨env1, over σ₀ s1⟩ := by
          unfold estep at hst
          split at hst
          · rename_i hw
            cases hst
            exact ⟨Later.refl _, fun σ₀ b ho _ => ⟨ho, o, h0, hw, rfl⟩⟩
          · rename_i hw
            split at hst
            · rename_i la' hla
              cases hst
              obtain ⟨f1, f2, f3⟩ := eact_ok hc hla
              refine ⟨Later.app f1, fun σ₀ b ho hfree => ⟨On.app f1 ho, o, h0, hw, f2, fun x _ => by rw [f3], LSt.can f1 ho hfree, ?_⟩⟩
              rw [over_app f1 ho]
            · cases hst
          · cases hst
        obtain ⟨q1, q2, q3⟩ := eops_ok hc l (i + 1) env1 s1 r' _ _ (fun k => by have := hl (k + 1); simp only [List.getElem?_cons_succ] at this; rw [this]; congr 1; omega) hr
        refine ⟨step.1.trans q1, by simp [List.range'_succ, q2], fun σ₀ b ho hfree => ?_⟩
        obtain ⟨o1, a1⟩ := step.2 σ₀ b ho (fun j h1 h2 => hfree j h1 (Nat.lt_of_lt_of_le h2 q1.nx))
        obtain ⟨o2, a2⟩ := q3 σ₀ b o1 (fun j h1 h2 => hfree j (Nat.le_trans step.1.nx h1) h2)
        exact ⟨o2, _, a1, a2⟩
      · cases h
    · cases h

end Go.Ab

namespace Go.Ab
open Go Go.RowKit

def Just (x : AX) (S : ST) : AX → ST → Prop := fun x₁ S₁ => x₁ = x ∧ S₁ = S

structure CodeOk (P : Program) (c : Code) (env : List AV) (s : LSt) (x : AX) (env' : List AV) (s' : LSt) : Prop where
  later : Later s s'
  run : ∀ (σ₀ : ASt) (b : Nat), s.On σ₀ b → (∀ j, s.nx ≤ j → j < s'.nx → σ₀.H j = none) → s'.On σ₀ b ∧ Cw P c ⟨env, over σ₀ s⟩ (Just x ⟨env', over σ₀ s'⟩) ∧
    ∀ c', c = .loop c' → ∃ m, CwR P c' (Just x ⟨env', over σ₀ s'⟩) m ⟨env, over σ₀ s⟩

theorem ecode_ok {P : Program} (hm : P.follows .mixedOrders = true) {call : FuncId → List AV → LSt → Option LA} (hc : CallsOk P call) : ∀ (n : Nat) (c : Code) (env : List AV) (s : LSt) (x : AX) (env' : List AV) (s' : LSt),
    ecode P call n c env s = some (x, env', s') → CodeOk P c env s x env' s' := by
  intro n
  induction n with
  | zero => intro c env s x env' s' h; cases h
  | succ n ih =>
    intro c env s x env' s' h
    cases c with
    | skip =>
      simp only [ecode, Option.some.injEq, Prod.mk.injEq] at h
      obtain ⟨rfl, rfl, rfl⟩ := h
      exact ⟨Later.refl _, fun σ₀ b ho _ => ⟨ho, Cw.skip ⟨rfl, rfl⟩, fun _ e => by cases e⟩⟩
    | label l =>
      simp only [ecode, Option.some.injEq, Prod.mk.injEq] at h
      obtain ⟨rfl, rfl, rfl⟩ := h
      exact ⟨Later.refl _, fun σ₀ b ho _ => ⟨ho, Cw.label ⟨rfl, rfl⟩, fun _ e => by cases e⟩⟩
    | exit i =>
      simp only [ecode, Option.some.injEq, Prod.mk.injEq] at h
      obtain ⟨rfl, rfl, rfl⟩ := h
      exact ⟨Later.refl _, fun σ₀ b ho _ => ⟨ho, Cw.exit ⟨rfl, rfl⟩, fun _ e => by cases e⟩⟩
    | ret =>
      simp only [ecode, Option.some.injEq, Prod.mk.injEq] at h
      obtain ⟨rfl, rfl, rfl⟩ := h
      exact ⟨Later.refl _, fun σ₀ b ho _ => ⟨ho, Cw.ret ⟨rfl, rfl⟩, fun _ e => by cases e⟩⟩
    | seq y z =>
      simp only [ecode] at h
      cases hy : ecode P call n y env s with
      | none => rw [hy] at h; cases h
      | some r =>
        obtain ⟨x1, env1, s1⟩ := r
        rw [hy] at h
        have h1 := ih _ _ _ _ _ _ hy
        cases x1 with
        | normal =>
          simp only at h
          have h2 := ih _ _ _ _ _ _ h
          refine ⟨h1.later.trans h2.later, fun σ₀ b ho hf => ?_⟩
          obtain ⟨o1, c1, _⟩ := h1.run σ₀ b ho (fun j a1 a2 => hf j a1 (Nat.lt_of_lt_of_le a2 h2.later.nx))
          obtain ⟨o2, c2, _⟩ := h2.run σ₀ b o1 (fun j a1 a2 => hf j (Nat.le_trans h1.later.nx a1) a2)
          refine ⟨o2, Cw.seq (c1.mono ?_), fun _ e => by cases e⟩
          rintro _ _ ⟨rfl, rfl⟩; exact c2
        | exit i =>
          simp only [Option.some.injEq, Prod.mk.injEq] at h
          obtain ⟨rfl, rfl, rfl⟩ := h
          refine ⟨h1.later, fun σ₀ b ho hf => ?_⟩
          obtain ⟨o1, c1, _⟩ := h1.run σ₀ b ho hf
          refine ⟨o1, Cw.seq (c1.mono ?_), fun _ e => by cases e⟩
          rintro _ _ ⟨rfl, rfl⟩; exact ⟨rfl, rfl⟩
        | ret =>
          simp only [Option.some.injEq, Prod.mk.injEq] at h
          obtain ⟨rfl, rfl, rfl⟩ := h
          refine ⟨h1.later, fun σ₀ b ho hf => ?_⟩
          obtain ⟨o1, c1, _⟩ := h1.run σ₀ b ho hf
          refine ⟨o1, Cw.seq (c1.mono ?_), fun _ e => by cases e⟩
          rintro _ _ ⟨rfl, rfl⟩; exact ⟨rfl, rfl⟩
    | cond o y z =>
      simp only [ecode] at h
      split at h
      · rename_i t ht
        have h1 := ih _ _ _ _ _ _ h
        refine ⟨h1.later, fun σ₀ b ho hf => ?_⟩
        obtain ⟨o1, c1, _⟩ := h1.run σ₀ b ho hf
        refine ⟨o1, Cw.cond (b := t) ht ?_, fun _ e => by cases e⟩
        cases t <;> exact c1
      · cases h
    | block i y =>
      simp only [ecode] at h
      cases hy : ecode P call n y env s with
      | none => rw [hy] at h; cases h
      | some r =>
        obtain ⟨x1, env1, s1⟩ := r
        rw [hy] at h
        have h1 := ih _ _ _ _ _ _ hy
        cases x1 with
        | normal =>
          simp only [Option.some.injEq, Prod.mk.injEq] at h
          obtain ⟨rfl, rfl, rfl⟩ := h
          refine ⟨h1.later, fun σ₀ b ho hf => ?_⟩
          obtain ⟨o1, c1, _⟩ := h1.run σ₀ b ho hf
          refine ⟨o1, Cw.block (c1.mono ?_), fun _ e => by cases e⟩
          rintro _ _ ⟨rfl, rfl⟩; exact ⟨rfl, rfl⟩
        | ret =>
          simp only [Option.some.injEq, Prod.mk.injEq] at h
          obtain ⟨rfl, rfl, rfl⟩ := h
          refine ⟨h1.later, fun σ₀ b ho hf => ?_⟩
          obtain ⟨o1, c1, _⟩ := h1.run σ₀ b ho hf
          refine ⟨o1, Cw.block (c1.mono ?_), fun _ e => by cases e⟩
          rintro _ _ ⟨rfl, rfl⟩; exact ⟨rfl, rfl⟩
        | exit j =>
          simp only [Option.some.injEq, Prod.mk.injEq] at h
          obtain ⟨rfl, rfl, rfl⟩ := h
          refine ⟨h1.later, fun σ₀ b ho hf => ?_⟩
          obtain ⟨o1, c1, _⟩ := h1.run σ₀ b ho hf
          refine ⟨o1, Cw.block (c1.mono ?_), fun _ e => by cases e⟩
          rintro _ _ ⟨rfl, rfl⟩
          simp only [AX.block]
          cases hb : Nat.beq j i with
          | true => rw [if_pos (Nat.eq_of_beq_eq_true hb)]; exact ⟨rfl, rfl⟩
          | false =>
            rw [if_neg (fun e => by subst e; simp at hb)]; exact ⟨rfl, rfl⟩
    | loop y =>
      simp only [ecode] at h
      cases hy : ecode P call n y env s with
      | none => rw [hy] at h; cases h
      | some r =>
        obtain ⟨x1, env1, s1⟩ := r
        rw [hy] at h
        have h1 := ih _ _ _ _ _ _ hy
        have fin : ∀ {s' : LSt} {x : AX} {env' : List AV}, Later s s' → (∀ (σ₀ : ASt) (b : Nat), s.On σ₀ b → (∀ j, s.nx ≤ j → j < s'.nx → σ₀.H j = none) → s'.On σ₀ b ∧ ∃ m, CwR P y (Just x ⟨env', over σ₀ s'⟩) m ⟨env, over σ₀ s⟩) → CodeOk P (.loop y) env s x env' s' := by
          intro s' x env' hl hr
          refine ⟨hl, fun σ₀ b ho hf => ?_⟩
          obtain ⟨o1, m, hcw⟩ := hr σ₀ b ho hf
          exact ⟨o1, Cw.loop m hcw, fun c' e => by cases e; exact ⟨m, hcw⟩⟩
        cases x1 with
        | normal =>
          simp only at h
          have h2 := ih _ _ _ _ _ _ h
          refine fin (h1.later.trans h2.later) fun σ₀ b ho hf => ?_
          obtain ⟨o1, c1, _⟩ := h1.run σ₀ b ho (fun j a1 a2 => hf j a1 (Nat.lt_of_lt_of_le a2 h2.later.nx))
          obtain ⟨o2, _, c2⟩ := h2.run σ₀ b o1 (fun j a1 a2 => hf j (Nat.le_trans h1.later.nx a1) a2)
          obtain ⟨m, hm'⟩ := c2 y rfl
          refine ⟨o2, m + 1, c1.mono ?_⟩
          rintro _ _ ⟨rfl, rfl⟩; exact hm'
        | exit i =>
          simp only [Option.some.injEq, Prod.mk.injEq] at h
          obtain ⟨rfl, rfl, rfl⟩ := h
          refine fin h1.later fun σ₀ b ho hf => ?_
          obtain ⟨o1, c1, _⟩ := h1.run σ₀ b ho hf
          refine ⟨o1, 1, c1.mono ?_⟩
          rintro _ _ ⟨rfl, rfl⟩; exact ⟨rfl, rfl⟩
        | ret =>
          simp only [Option.some.injEq, Prod.mk.injEq] at h
          obtain ⟨rfl, rfl, rfl⟩ := h
          refine fin h1.later fun σ₀ b ho hf => ?_
          obtain ⟨o1, c1, _⟩ := h1.run σ₀ b ho hf
          refine ⟨o1, 1, c1.mono ?_⟩
          rintro _ _ ⟨rfl, rfl⟩; exact ⟨rfl, rfl⟩
    | scope y =>
      simp only [ecode] at h
      have h1 := ih _ _ _ _ _ _ h
      refine ⟨h1.later, fun σ₀ b ho hf => ?_⟩
      obtain ⟨o1, c1, _⟩ := h1.run σ₀ b ho hf
      exact ⟨o1, Cw.scope c1, fun _ e => by cases e⟩
    | region id ops draw =>
      simp only [ecode] at h
      split at h
      · rename_i l env1 s1 hr
        cases hb : (!draw || (edgesB ops && freeB ops (ancs ops.toList []) l)) with
        | false => rw [hb] at h; cases h
        | true =>
          rw [hb] at h
          simp only [cond_true, Option.some.injEq, Prod.mk.injEq] at h
          obtain ⟨rfl, rfl, rfl⟩ := h
          obtain ⟨q1, q2, q3⟩ := eops_ok hc ops.toList 0 env s l _ _ (fun k => by simp) hr
          have q2' : l.map (·.1) = List.range ops.size := by rw [q2, List.range_eq_range']; simp
          refine ⟨q1, fun σ₀ b ho hf => ?_⟩
          obtain ⟨o1, r1⟩ := q3 σ₀ b ho hf
          refine ⟨o1, ?_, fun _ e => by cases e⟩
          cases draw with
          | false => exact Cw.region r1 q2' ⟨rfl, rfl⟩
          | true =>
            simp only [Bool.not_true, Bool.false_or, Bool.and_eq_true] at hb
            exact Cw.draw hm hb.1 hb.2 r1 q2' ⟨rfl, rfl⟩
      · cases h
    | rangeFunc => cases h
    | goto => cases h
    | refuse => cases h

/- CALLS -/
mutual
def AV.idl : AV → List Nat
  | .val _ => []
  | .agg cs => AV.idlL cs
  | .tup cs => AV.idlL cs
  | .sl _ _ _ => []
  | .ip _ => []
  | .mp i _ => [i]
  | .ms i _ _ _ _ => [i]
  | .obj i => [i]
  | .clo _ fs cs => AV.idlL fs ++ AV.idlL cs
def AV.idlL : List AV → List Nat
  | [] => []
  | a :: l => AV.idl a ++ AV.idlL l
end

def Blk.idl : Blk → List Nat
  | .cells cs => AV.idlL cs
  | .obj _ => []
  | .row _ => []
  | .dead => []

/-- the blocks that can be reached -/
def reach (H : List (Nat × Blk)) : Nat → List Nat → List Nat → List Nat
  | 0, _, seen => seen
  | _ + 1, [], seen => seen
  | n + 1, i :: l, seen => bif seen.any (Nat.beq i) then reach H n l seen else
    match look H i with
    | some X => reach H n (X.idl ++ l) (i :: seen)
    | none => reach H n l (i :: seen)

def AV.stm1 : AV → List Nat
  | .sl _ _ (.st k _) => [k]
  | _ => []
def AV.stms : AV → List Nat
  | .tup cs => cs.flatMap AV.stm1
  | a => a.stm1
def Blk.stms : Blk → List Nat
  | .cells cs => cs.flatMap AV.stm1
  | .obj _ => []
  | .row _ => []
  | .dead => []

def dedup : List Nat → List Nat
  | [] => []
  | k :: l => bif (dedup l).any (Nat.beq k) then dedup l else k :: dedup l

def idx (k : Nat) : List Nat → Nat → Option Nat
  | [], _ => none
  | j :: l, t => bif Nat.beq k j then some t else idx k l (t + 1)

theorem idx_spec {k : Nat} : ∀ (l : List Nat) (t r : Nat), idx k l t = some r → t ≤ r ∧ l[r - t]? = some k
  | [], _, _, h => by cases h
  | j :: l, t, r, h => by
    simp only [idx] at h
    cases hb : Nat.beq k j with
    | true =>
      rw [hb] at h
      simp only [cond_true, Option.some.injEq] at h
      subst h
      have := Nat.eq_of_beq_eq_true hb
      subst this
      simp
    | false =>
      rw [hb] at h
      obtain ⟨h1, h2⟩ := idx_spec l (t + 1) r h
      refine ⟨by omega, ?_⟩
      rw [show r - t = (r - (t + 1)) + 1 by omega]
      simpa using h2

theorem dedup_nodup : ∀ l : List Nat, (dedup l).Nodup
  | [] => .nil
  | k :: l => by
    simp only [dedup]
    cases h : (dedup l).any (Nat.beq k) with
    | true => exact dedup_nodup l
    | false =>
      simp only [cond_false, List.nodup_cons]
      refine ⟨fun hm => ?_, dedup_nodup l⟩
      rw [any_beq.2 hm] at h
      cases h

theorem dedup_sub : ∀ (l : List Nat) (k : Nat), k ∈ dedup l → k ∈ l
  | [], _, h => h
  | j :: l, k, h => by
    simp only [dedup] at h
    cases hb : (dedup l).any (Nat.beq j) with
    | true => rw [hb] at h; exact List.mem_cons_of_mem _ (dedup_sub l k h)
    | false =>
      rw [hb] at h
      rcases List.mem_cons.1 h with rfl | h
      · simp
      · exact List.mem_cons_of_mem _ (dedup_sub l k h)

end Go.Ab

namespace Go.Ab
open Go Go.RowKit

def fromMap (ns : Nat) (ks : List Nat) (k : Nat) : Option Nat := bif Nat.blt k ns then some k else (idx k ks 0).map (ns + ·)

def sDirty (s₁ : LSt) (R : List Nat) : List Nat := R.filter fun i => s₁.dirty.any (Nat.beq i)
def sBlk (s₁ : LSt) (i : Nat) : Blk := (look s₁.H i).getD (.cells [])
def sKept (s s₁ : LSt) (dirty : List Nat) (res : AV) : List Nat := (dedup (reach s₁.H 4096 (res.idl ++ dirty.flatMap fun i => (sBlk s₁ i).idl) [])).filter fun i => Nat.ble s.nx i
def sKs (s s₁ : LSt) (dirty kept : List Nat) (res : AV) : List Nat :=
  dedup ((res.stms ++ dirty.flatMap (fun i => (sBlk s₁ i).stms) ++ kept.flatMap fun i => (sBlk s₁ i).stms).filter fun k => Nat.ble s.ns k && s₁.own.any (Nat.beq k))

def sumLA (s s₁ : LSt) (R : List Nat) (H₀ : List (Nat × Blk)) (res : AV) (dirty kept ks : List Nat) : LA :=
  { ev := fun _ => .val undef
    rd := (R.filter fun i => !(s₁.dirty.any (Nat.beq i))).map fun i => (i, (look H₀ i).getD (.cells []))
    wr := dirty.map fun i => (i, (look H₀ i).getD (.cells []), (sBlk s₁ i).fix (fun i => i) (fromMap s.ns ks))
    al := kept.map fun i => (i, (sBlk s₁ i).fix (fun i => i) (fromMap s.ns ks))
    ns := s.ns
    new := ks.length
    lo := s.nx
    hi := s₁.nx
    st := true
    v := res.res (fun i => i) (fromMap s.ns ks) }

def sumOk (s s₁ : LSt) (R : List Nat) (H₀ : List (Nat × Blk)) (res : AV) (dirty kept : List Nat) : Bool :=
  res.ids (fun i => (R ++ kept).any (Nat.beq i)) && (dirty ++ kept).all (fun i => (look s₁.H i).isSome && (sBlk s₁ i).ids (fun i => (R ++ kept).any (Nat.beq i))) && R.all (fun i => (look H₀ i).isSome && Nat.blt i s.nx)

/-- what a call comes to, out of the state at its body's end -/
def summary (s s₁ : LSt) (R : List Nat) (H₀ : List (Nat × Blk)) (res : AV) : Option LA :=
  let dirty := sDirty s₁ R
  let kept := sKept s s₁ dirty res
  bif sumOk s s₁ R H₀ res dirty kept then some (sumLA s s₁ R H₀ res dirty kept (sKs s s₁ dirty kept res)) else none

def acall (P : Program) (prim : FuncId → List AV → LSt → Option LA) (fuel : Nat) : Nat → FuncId → List AV → LSt → Option LA
  | 0, _, _, _ => none
  | n + 1, f, args, s =>
    match prim f args s with
    | some la => some la
    | none =>
      match P.funcs[f]? with
      | none => none
      | some fn =>
        match fn.body with
        | none => none
        | some c =>
          let R := dedup (reach s.H 4096 (AV.idlL args) [])
          let H₀ := R.filterMap fun i => (look s.H i).map fun X => (i, X)
          match ecode P (acall P prim fuel n) fuel c (args ++ List.replicate (fn.ntmps - args.length) (.val undef)) ⟨H₀, s.nx, [], s.ns, []⟩ with
          | none => none
          | some (x, env', s₁) =>
            match x with
            | .exit _ => none
            | _ =>
              match ares P (look s₁.H) env' fn.results.toList with
              | some res => summary s s₁ R H₀ res
              | none => none

theorem look_filterMap {H : List (Nat × Blk)} : ∀ (R : List Nat) (i : Nat) (X : Blk), look (R.filterMap fun i => (look H i).map fun X => (i, X)) i = some X → look H i = some X
  | [], _, _, h => by cases h
  | j :: R, i, X, h => by
    simp only [List.filterMap_cons] at h
    cases hj : look H j with
    | none => rw [hj] at h; exact look_filterMap R i X h
    | some Y =>
      rw [hj] at h
      simp only [Option.map_some, look] at h
      cases hb : Nat.beq i j with
      | true =>
        rw [hb] at h
        have := Nat.eq_of_beq_eq_true hb
        subst this
        rw [hj]; simpa using h
      | false => rw [hb] at h; exact look_filterMap R i X h

theorem ups_map (g : Nat → Blk) {H : Nat → Option Blk} : ∀ (l : List Nat) {i : Nat}, i ∈ l → ups H (l.map fun i => (i, g i)) i = some (g i)
  | [], _, h => by cases h
  | j :: l, i, h => by
    simp only [List.map_cons, ups]
    by_cases e : i = j
    · subst e; exact up_same _ _ _
    · rw [up_ne _ _ e]
      rcases List.mem_cons.1 h with rfl | h
      · exact absurd rfl e
      · exact ups_map g l h

theorem summary_left {s s₁ : LSt} {R : List Nat} {H₀ : List (Nat × Blk)} {res : AV} {la : LA} (h : summary s s₁ R H₀ res = some la) (hsub : ∀ i X, look H₀ i = some X → look s.H i = some X)
    (hstill : ∀ i X, look H₀ i = some X → i < s.nx → i ∉ s₁.dirty → look s₁.H i = some X) (hold : ∀ i X, look s₁.H i = some X → s.nx ≤ i ∨ ∃ Y, look H₀ i = some Y) (hRH : ∀ i X, look H₀ i = some X → i ∈ R)
    (hnx : ∀ i X, look s₁.H i = some X → i < s₁.nx) :
    s.fit la ∧ ∀ σ : ASt, la.can σ → (s.ns = σ.ns ∧ (∀ i X, look H₀ i = some X → σ.H i = some X) ∧ ∀ j, s.nx ≤ j → j < s₁.nx → σ.H j = none) ∧ ∃ kf kb ks p g, Left σ (over σ s₁) la res kf kb ks p g := by
  have h' : (bif sumOk s s₁ R H₀ res (sDirty s₁ R) (sKept s s₁ (sDirty s₁ R) res) then some (sumLA s s₁ R H₀ res (sDirty s₁ R) (sKept s s₁ (sDirty s₁ R) res) (sKs s s₁ (sDirty s₁ R) (sKept s s₁ (sDirty s₁ R) res) res)) else none) = some la := h
  clear h
  generalize hd : sDirty s₁ R = dirty at h'
  generalize hkept : sKept s s₁ dirty res = kept at h'
  generalize hks : sKs s s₁ dirty kept res = ks at h'
  let blk := sBlk s₁
  let p : Nat → Bool := fun i => (R ++ kept).any (Nat.beq i)
  cases hc : sumOk s s₁ R H₀ res dirty kept with
  | false => rw [hc] at h'; cases h'
  | true =>
    rw [hc] at h'
    simp only [cond_true, Option.some.injEq] at h'
    simp only [sumOk, Bool.and_eq_true, List.all_eq_true] at hc
    obtain ⟨⟨c1, c2⟩, c3⟩ := hc
    have hkb : ∀ i, i ∈ kept → s.nx ≤ i := by
      intro i hi
      rw [← hkept, sKept, List.mem_filter] at hi
      exact Nat.le_of_ble_eq_true hi.2
    have hR0 : ∀ i, i ∈ R → ∃ X, look H₀ i = some X ∧ i < s.nx := by
      intro i hi
      have := c3 i hi
      obtain ⟨X, hX⟩ := Option.isSome_iff_exists.1 this.1
      exact ⟨X, hX, by simpa using this.2⟩
    have hdR : ∀ i, i ∈ dirty → i ∈ R ∧ i ∈ s₁.dirty := by
      intro i hi
      rw [← hd, sDirty, List.mem_filter] at hi
      exact ⟨hi.1, any_beq.1 hi.2⟩
    have hsome : ∀ i, i ∈ dirty ++ kept → look s₁.H i = some (blk i) ∧ (blk i).ids p = true := by
      intro i hi
      obtain ⟨q1, q2⟩ := c2 i hi
      obtain ⟨X, hX⟩ := Option.isSome_iff_exists.1 q1
      refine ⟨?_, q2⟩
      show look s₁.H i = some (sBlk s₁ i)
      simp only [sBlk, hX, Option.getD_some]
    have hksp : ∀ k, k ∈ ks → s.ns ≤ k ∧ k ∈ s₁.own := by
      intro k hk
      rw [← hks, sKs] at hk
      have := dedup_sub _ _ hk
      rw [List.mem_filter] at this
      simp only [Bool.and_eq_true] at this
      exact ⟨Nat.le_of_ble_eq_true this.2.1, any_beq.1 this.2.2⟩
    subst h'
    have hfit : s.fit (sumLA s s₁ R H₀ res dirty kept ks) := by
      refine ⟨fun i X hX => ?_, fun i X Y hX => ?_, fun i X hX => ?_, fun _ => Nat.le_refl _, fun k hk => by simp [sumLA] at hk, fun _ => rfl⟩
      · simp only [sumLA, List.mem_map, List.mem_filter, Prod.mk.injEq] at hX
        obtain ⟨j, ⟨hj, _⟩, rfl, rfl⟩ := hX
        obtain ⟨Z, hZ, _⟩ := hR0 j hj
        rw [hZ]; exact hsub j Z hZ
      · simp only [sumLA, List.mem_map, Prod.mk.injEq] at hX
        obtain ⟨j, hj, rfl, rfl, rfl⟩ := hX
        obtain ⟨Z, hZ, _⟩ := hR0 j (hdR j hj).1
        rw [hZ]; exact hsub j Z hZ
      · simp only [sumLA, List.mem_map, Prod.mk.injEq] at hX
        obtain ⟨j, hj, rfl, rfl⟩ := hX
        exact hkb j hj
    refine ⟨hfit, fun σ hcan => ?_⟩
    have hns : s.ns = σ.ns := hcan.ns (.inr (.inr rfl))
    have hws : ∀ i, i ∈ dirty.map (fun i => i) ↔ i ∈ dirty := by intro i; simp
    have hRσ : ∀ i, i ∈ R → ∃ X, look H₀ i = some X ∧ σ.H i = some X := by
      intro i hi
      obtain ⟨Z, hZ, _⟩ := hR0 i hi
      by_cases hdi : i ∈ dirty
      · have := hcan.wr i ((look H₀ i).getD (.cells [])) _ (List.mem_map.2 ⟨i, hdi, rfl⟩)
        rw [hZ] at this; exact ⟨Z, hZ, this⟩
      · have hnd : (!(s₁.dirty.any (Nat.beq i))) = true := by
          cases hq : s₁.dirty.any (Nat.beq i) with
          | false => rfl
          | true => exact absurd (by rw [← hd, sDirty, List.mem_filter]; exact ⟨hi, hq⟩) hdi
        have := hcan.rd i ((look H₀ i).getD (.cells [])) (List.mem_map.2 ⟨i, List.mem_filter.2 ⟨hi, hnd⟩, rfl⟩)
        rw [hZ] at this; exact ⟨Z, hZ, this⟩
    have hkσ : ∀ i, i ∈ kept → σ.H i = none := fun i hi => hcan.hole i (hkb i hi) (hnx i _ (hsome i (by simp [hi])).1)
    have hid : (fun i => (if i ∈ kept then some i else none : Option Nat).getD i) = fun i => i := by
      funext i; split <;> rfl
    refine ⟨⟨hns, fun i X hX => ?_, fun j h1 h2 => hcan.hole j h1 h2⟩, ?_⟩
    · obtain ⟨Z, hZ, hσ⟩ := hRσ i (hRH i X hX)
      rw [hX] at hZ; cases hZ; exact hσ
    refine ⟨fun i => if i ∈ kept then some i else none, fun i => if i ∈ kept then some i else none, ks, p, fromMap s.ns ks, ?_⟩
    have hf : (fun i => ((fun i => if i ∈ kept then some i else none : Nat → Option Nat) i).getD i) = fun i => i := hid
    refine ⟨fun i j => ?_, fun j => ?_, fun i j hij => ?_, fun i hpi => ?_, fun i X hX hni => ?_, fun i X hi hX => ?_, fun i j X hij hX => ?_, fun i j hij => ?_, by rw [hf]; rfl, c1, rfl, by rw [← hks]; exact dedup_nodup _, fun k hk => ?_, fun k hk _ => ?_, fun k k' hkk => ?_⟩
    · by_cases h1 : i ∈ kept <;> by_cases h2 : j ∈ kept <;> simp [h1, h2] <;> first | exact eq_comm | (rintro rfl; contradiction)
    · simp only [LA.as, sumLA, List.map_map, List.mem_map, Function.comp]
      constructor
      · rintro ⟨i, hi⟩
        by_cases hj : j ∈ kept
        · exact ⟨j, hj, rfl⟩
        · simp [hj] at hi
      · rintro ⟨i, hi, rfl⟩; exact ⟨i, by simp [hi]⟩
    · by_cases hi : i ∈ kept
      · exact hkσ i hi
      · simp [hi] at hij
    · have := any_beq.1 hpi
      rcases List.mem_append.1 this with h1 | h1
      · obtain ⟨X, _, hX⟩ := hRσ i h1; exact .inr ⟨X, hX⟩
      · exact .inl ⟨i, by simp [h1]⟩
    · show (match look s₁.H i with | some X => some X | none => σ.H i) = some X
      cases hl : look s₁.H i with
      | none => exact hX
      | some Y =>
        simp only [Option.some.injEq]
        rcases hold i Y hl with hge | ⟨Z, hZ⟩
        · have := hcan.hole i hge (hnx i Y hl)
          rw [hX] at this; cases this
        · have hiR := hRH i Z hZ
          obtain ⟨Z', hZ', hσ⟩ := hRσ i hiR
          rw [hX] at hσ; cases hσ
          rw [hZ] at hZ'; cases hZ'
          obtain ⟨_, _, hlt⟩ := hR0 i hiR
          have hnd : i ∉ s₁.dirty := by
            intro hdd
            apply hni
            simp only [LA.ws, sumLA, List.map_map, List.mem_map, Function.comp]
            exact ⟨i, by rw [← hd, sDirty, List.mem_filter]; exact ⟨hiR, any_beq.2 hdd⟩, rfl⟩
          have := hstill i X hZ hlt hnd
          rw [hl] at this; cases this; rfl
    · simp only [LA.ws, sumLA, List.map_map, List.mem_map, Function.comp] at hi
      obtain ⟨j, hj, rfl⟩ := hi
      obtain ⟨q1, q2⟩ := hsome j (by simp [hj])
      refine ⟨blk j, ?_, ?_, q2⟩
      · show (match look s₁.H j with | some X => some X | none => σ.H j) = some (blk j)
        rw [q1]
      · have hna : j ∉ kept := fun hk => by
          have := hkb j hk
          obtain ⟨_, _, hlt⟩ := hR0 j (hdR j hj).1
          omega
        have hX' : ups (ups σ.H ((dirty.map fun i => (i, (look H₀ i).getD (.cells []), (blk i).fix (fun i => i) (fromMap s.ns ks))).map fun p => (p.1, p.2.2))) (kept.map fun i => (i, (blk i).fix (fun i => i) (fromMap s.ns ks))) j = some X := hX
        rw [ups_not _ (by simpa [List.map_map, Function.comp] using hna), List.map_map] at hX'
        have := ups_map (H := σ.H) (fun i => (blk i).fix (fun i => i) (fromMap s.ns ks)) dirty hj
        rw [hf]
        have e : ups σ.H (dirty.map ((fun p : Nat × Blk × Blk => (p.1, p.2.2)) ∘ fun i => (i, (look H₀ i).getD (.cells []), (blk i).fix (fun i => i) (fromMap s.ns ks)))) j = some X := hX'
        have e2 : ups σ.H (dirty.map fun i => (i, (blk i).fix (fun i => i) (fromMap s.ns ks))) j = some X := e
        rw [this] at e2
        exact (Option.some.inj e2).symm
    · have hik : i ∈ kept := by
        by_cases hi : i ∈ kept
        · exact hi
        · simp [hi] at hij
      have hij' : i = j := by simpa [hik] using hij
      subst hij'
      obtain ⟨q1, q2⟩ := hsome i (by simp [hik])
      refine ⟨blk i, ?_, ?_, q2⟩
      · show (match look s₁.H i with | some X => some X | none => σ.H i) = some (blk i)
        rw [q1]
      · have hX' : ups (ups σ.H ((dirty.map fun i => (i, (look H₀ i).getD (.cells []), (blk i).fix (fun i => i) (fromMap s.ns ks))).map fun p => (p.1, p.2.2))) (kept.map fun i => (i, (blk i).fix (fun i => i) (fromMap s.ns ks))) i = some X := hX
        rw [ups_map (fun i => (blk i).fix (fun i => i) (fromMap s.ns ks)) kept hik] at hX'
        rw [hf]
        exact (Option.some.inj hX').symm
    · have hik : i ∈ kept := by
        by_cases hi : i ∈ kept
        · exact hi
        · simp [hi] at hij
      refine ⟨blk i, ?_⟩
      show (match look s₁.H i with | some X => some X | none => σ.H i) = some (blk i)
      rw [(hsome i (by simp [hik])).1]
    · obtain ⟨q1, q2⟩ := hksp k hk
      refine ⟨?_, by omega⟩
      show (s₁.own.any (Nat.beq k) || σ.own k) = true
      rw [any_beq.2 q2]; rfl
    · show (s₁.own.any (Nat.beq k) || σ.own k) = true
      rw [hk]; simp
    · unfold fromMap at hkk
      cases hb : Nat.blt k s.ns with
      | true =>
        rw [hb] at hkk
        simp only [cond_true, Option.some.injEq] at hkk
        refine .inl ⟨?_, hkk.symm⟩
        have : k < s.ns := by simpa using hb
        omega
      | false =>
        rw [hb] at hkk
        simp only [cond_false, Option.map_eq_some_iff] at hkk
        obtain ⟨t, ht, rfl⟩ := hkk
        obtain ⟨_, h2⟩ := idx_spec ks 0 t ht
        exact .inr ⟨t, by simpa using h2, by rw [hns]⟩

theorem look_filterMap_mem {H : List (Nat × Blk)} : ∀ (R : List Nat) (i : Nat) (X : Blk), look (R.filterMap fun i => (look H i).map fun X => (i, X)) i = some X → i ∈ R
  | [], _, _, h => by cases h
  | j :: R, i, X, h => by
    simp only [List.filterMap_cons] at h
    cases hj : look H j with
    | none => rw [hj] at h; exact List.mem_cons_of_mem _ (look_filterMap_mem R i X h)
    | some Y =>
      rw [hj] at h
      simp only [Option.map_some, look] at h
      cases hb : Nat.beq i j with
      | true =>
        have := Nat.eq_of_beq_eq_true hb
        subst this; simp
      | false => rw [hb] at h; exact List.mem_cons_of_mem _ (look_filterMap_mem R i X h)

theorem ares1_mono {P : Program} {H H' : Nat → Option Blk} (hH : ∀ i X, H i = some X → H' i = some X) {env : List AV} {r : ResultVar} {v : AV} (h : ares1 P H env r = some v) : ares1 P H' env r = some v := by
  cases r with
  | tmp t => exact h
  | cell b t =>
    simp only [ares1] at h ⊢
    split at h
    · rename_i q i off hq he
      split at h
      · rename_i cs hcs
        rw [hH _ _ hcs]; exact h
      · cases h
    · cases h

theorem aresL_mono {P : Program} {H H' : Nat → Option Blk} (hH : ∀ i X, H i = some X → H' i = some X) {env : List AV} : ∀ {rs : List ResultVar} {v : List AV}, aresL P H env rs = some v → aresL P H' env rs = some v
  | [], _, h => h
  | r :: rs, v, h => by
    simp only [aresL] at h ⊢
    split at h
    · rename_i v' vs h1 h2
      rw [ares1_mono hH h1, aresL_mono hH h2]; exact h
    · cases h

theorem ares_mono {P : Program} {H H' : Nat → Option Blk} (hH : ∀ i X, H i = some X → H' i = some X) {env : List AV} {rs : List ResultVar} {v : AV} (h : ares P H env rs = some v) : ares P H' env rs = some v := by
  unfold ares at h ⊢
  cases hr : aresL P H env rs with
  | none => rw [hr] at h; cases h
  | some vs => rw [hr] at h; rw [aresL_mono hH hr]; exact h

theorem UTri.ev {P : Program} {f : FuncId} {args : List AV} {la : LA} (h : UTri P f args la) (ev : Operand → AV) : UTri P f args { la with ev := ev } :=
  fun G σ w cargs hR hv hc => h G σ w cargs hR hv ⟨hc.rd, hc.wr, hc.al, hc.use, hc.ns, hc.hole⟩

theorem CallOk.of {P : Program} {f : FuncId} {args : List AV} {la : LA} {fn : Func} (hf : P.funcs[f]? = some fn) (hname : (fn.name == "runtime.NumGoroutine") = false) (hb : fn.body.isNone = false) (h : UTri P f args la) : CallOk P f args la := by
  intro dst type pos after guard g cargs argTypes first caps ev hg hargs
  subst hargs
  exact OpOk.call (la := { la with ev := ev }) hg hf hname hb (h.ev ev)

theorem acall_step {P : Program} (hm : P.follows .mixedOrders = true) (hng : ∀ (f : FuncId) (fn : Func), P.funcs[f]? = some fn → fn.body.isNone = false → (fn.name == "runtime.NumGoroutine") = false)
    {prim : FuncId → List AV → LSt → Option LA} {fuel n : Nat} (ih : CallsOk P (acall P prim fuel n)) {f : FuncId} {args : List AV} {s : LSt} {la : LA} (hpr : prim f args s = none) (h : acall P prim fuel (n + 1) f args s = some la) :
    s.fit la ∧ UTri P f args la ∧ CallOk P f args la := by
  simp only [acall, hpr] at h
  split at h
  · cases h
  · rename_i fn hfn
    split at h
    · cases h
    · rename_i c hc
      generalize hR : dedup (reach s.H 4096 (AV.idlL args) []) = R at h
      generalize hH0 : (R.filterMap fun i => (look s.H i).map fun X => (i, X)) = H₀ at h
      cases hec : ecode P (acall P prim fuel n) fuel c (args ++ List.replicate (fn.ntmps - args.length) (.val undef)) ⟨H₀, s.nx, [], s.ns, []⟩ with
      | none => rw [hec] at h; cases h
      | some r =>
        obtain ⟨x, env', s₁⟩ := r
        rw [hec] at h
        have hx : ∃ res, (x = .normal ∨ x = .ret) ∧ ares P (look s₁.H) env' fn.results.toList = some res ∧ summary s s₁ R H₀ res = some la := by
          cases x with
          | exit i => cases h
          | normal =>
            simp only at h
            split at h
            · rename_i res hres; exact ⟨res, .inl rfl, hres, h⟩
            · cases h
          | ret =>
            simp only at h
            split at h
            · rename_i res hres; exact ⟨res, .inr rfl, hres, h⟩
            · cases h
        obtain ⟨res, hx, hres, hsum⟩ := hx
        have hcode := ecode_ok hm ih _ _ _ _ _ _ _ hec
        have hsub : ∀ i X, look H₀ i = some X → look s.H i = some X := by subst hH0; exact fun i X => look_filterMap R i X
        have hRH : ∀ i X, look H₀ i = some X → i ∈ R := by subst hH0; exact fun i X => look_filterMap_mem R i X
        have hlt : ∀ i X, look H₀ i = some X → i < s.nx := by
          intro i X hX
          unfold summary at hsum
          simp only at hsum
          cases hq : sumOk s s₁ R H₀ res (sDirty s₁ R) (sKept s s₁ (sDirty s₁ R) res) with
          | false => rw [hq] at hsum; cases hsum
          | true =>
            simp only [sumOk, Bool.and_eq_true, List.all_eq_true] at hq
            have := (hq.2 i (hRH i X hX)).2
            simpa using this
        have hon : ∀ σ : ASt, s.ns = σ.ns → (∀ k, σ.own k = true → k < σ.ns) → LSt.On ⟨H₀, s.nx, [], s.ns, []⟩ σ σ.ns := by
          intro σ hns ho
          exact ⟨hlt, fun k hk => by simp at hk, ho, Nat.le_of_eq hns.symm⟩
        have hnx : ∀ i X, look s₁.H i = some X → i < s₁.nx := by
          have := (hcode.run ⟨fun _ => none, fun _ => false, s.ns⟩ s.ns (hon _ rfl (fun k hk => by simp at hk)) (fun _ _ _ => rfl)).1
          exact this.H
        obtain ⟨hfit, hleft⟩ := summary_left hsum hsub (fun i X hX hi hd => hcode.later.still i X hX hi hd) hcode.later.held hRH hnx
        have hu : UTri P f args la := ?_
        · exact ⟨hfit, hu, CallOk.of hfn (hng f fn hfn (by rw [hc]; rfl)) (by rw [hc]; rfl) hu⟩
        refine UTri.body hfn hc fun σ hcan hfin hown => ?_
        obtain ⟨⟨hns, hσ, hhole⟩, kf, kb, ks, p, g, hL⟩ := hleft σ hcan
        have hover : over σ ⟨H₀, s.nx, [], s.ns, []⟩ = σ := by
          have h1 : (over σ ⟨H₀, s.nx, [], s.ns, []⟩).H = σ.H := by
            funext i
            show (match look H₀ i with | some X => some X | none => σ.H i) = σ.H i
            cases hl : look H₀ i with
            | none => rfl
            | some X => exact (hσ i X hl).symm
          calc over σ ⟨H₀, s.nx, [], s.ns, []⟩ = ⟨(over σ ⟨H₀, s.nx, [], s.ns, []⟩).H, σ.own, s.ns⟩ := by simp [over]
            _ = σ := by rw [h1, hns]
        have hcw := (hcode.run σ σ.ns (hon σ hns hown) hhole).2.1
        rw [hover] at hcw
        refine hcw.mono ?_
        rintro _ _ ⟨rfl, rfl⟩
        refine ⟨hx, res, kf, kb, ks, p, g, ares_mono (fun i X hX => ?_) hres, hL⟩
        show (match look s₁.H i with | some X => some X | none => σ.H i) = some X
        rw [hX]


theorem acall_ok {P : Program} (hm : P.follows .mixedOrders = true) (hng : ∀ (f : FuncId) (fn : Func), P.funcs[f]? = some fn → fn.body.isNone = false → (fn.name == "runtime.NumGoroutine") = false)
    {prim : FuncId → List AV → LSt → Option LA} (hp : CallsOk P prim) (fuel : Nat) : ∀ n, CallsOk P (acall P prim fuel n)
  | 0 => fun f args s la h => by cases h
  | n + 1 => fun f args s la h => by
    cases hpr : prim f args s with
    | some la' =>
      simp only [acall, hpr, Option.some.injEq] at h
      subst h
      exact hp _ _ _ _ hpr
    | none =>
      obtain ⟨h1, _, h2⟩ := acall_step hm hng (acall_ok hm hng hp fuel n) hpr h
      exact ⟨h1, h2⟩

/-- the state that is empty -/
def Emp (k : Nat) : ASt := ⟨fun _ => none, fun _ => false, k⟩

def base (W : World) (L : Nat → Nat → Prop) : Gh := ⟨fun _ => none, fun _ => none, L, W, fun k => k < W.heap.size⟩

theorem base_ok {W : World} {L : Nat → Nat → Prop} (hL : ∀ b o, L b o → ∃ v, W.cell? ⟨b, o, none⟩ = some v) (k : Nat) : RelS (base W L) (Emp k) W :=
  ⟨fun _ => ⟨fun _ => rfl, fun _ => rfl⟩, ⟨0, fun _ _ => rfl⟩, fun _ _ _ h => (nomatch h), fun _ _ _ h => (nomatch h), fun b o h => ⟨hL b o h, fun _ h => (nomatch h)⟩, fun _ _ => rfl,
   fun _ h => (nomatch h), fun _ _ _ _ _ _ _ h => (nomatch h), Keep.refl _ _, fun _ h => h⟩

def LSt.zero : LSt := ⟨[], 0, [], 0, []⟩

/-- A contract that asks nothing of memory, at a world. -/
theorem UTri.top {P : Program} {f : FuncId} {args : List AV} {la : LA} {v : Value} (hfit : LSt.zero.fit la) (h : UTri P f args la) (hv : la.v = .val v) {W : World} {L : Nat → Nat → Prop} (hL : ∀ b o, L b o → ∃ v, W.cell? ⟨b, o, none⟩ = some v)
    {cargs : Array Value} (ha : VL (base W L) W args cargs.toList) : Calls P f cargs W fun e W' => e = .returned v ∧ Below W.heap.size W W' := by
  have hcan := LSt.can hfit (σ₀ := Emp 0) (b := 0) ⟨fun _ _ h => (nomatch h), fun _ h => (nomatch h), fun _ h => (nomatch h), Nat.le_refl _⟩ (fun _ _ _ => rfl)
  refine (h (base W L) (over (Emp 0) LSt.zero) W cargs (base_ok hL 0) ha hcan).mono fun e W' he => ?_
  obtain ⟨u, G', rfl, h1, h2, h3⟩ := he
  rw [hv] at h3
  simp only [V] at h3
  subst h3
  have := h2.below
  rw [h1.w0, h1.F] at this
  exact ⟨rfl, this.os, this.tape, this.output, this.size, this.block⟩

def isTrue : Option LA → Bool
  | some la => match la.v with | .val (.bool b) => b | _ => false
  | none => false

theorem isTrue_spec {r : Option LA} (h : isTrue r = true) : ∃ la, r = some la ∧ la.v = .val (.bool true) := by
  unfold isTrue at h
  split at h
  · rename_i la
    split at h
    · rename_i b hb; subst h; exact ⟨la, rfl, hb⟩
    · cases h
  · cases h

/-- A run on the empty state that comes to true: so does the call, and it turns nothing that was there. -/
theorem acall_true {P : Program} (hm : P.follows .mixedOrders = true) (hng : ∀ (f : FuncId) (fn : Func), P.funcs[f]? = some fn → fn.body.isNone = false → (fn.name == "runtime.NumGoroutine") = false)
    {prim : FuncId → List AV → LSt → Option LA} (hp : CallsOk P prim) {fuel n : Nat} {f : FuncId} {args : List AV} (hpr : prim f args LSt.zero = none) (h : isTrue (acall P prim fuel (n + 1) f args LSt.zero) = true)
    {W : World} {L : Nat → Nat → Prop} (hL : ∀ b o, L b o → ∃ v, W.cell? ⟨b, o, none⟩ = some v) {cargs : Array Value} (ha : VL (base W L) W args cargs.toList) :
    Calls P f cargs W fun e W' => e = .returned (.bool true) ∧ Below W.heap.size W W' := by
  obtain ⟨la, h1, h2⟩ := isTrue_spec h
  obtain ⟨q1, q2, _⟩ := acall_step hm hng (acall_ok hm hng hp fuel n) hpr h1
  exact UTri.top q1 q2 h2 hL ha

end Go.Ab

namespace Go.Ab
open Go Go.RowKit

theorem RelS.behind {G : Gh} {σ : ASt} {w w' : World} (h : RelS G σ w) (hb : Below w.heap.size w w') : Ext G w G w' ∧ RelS G σ w' := by
  have hE : Ext G w G w' := ⟨fun _ _ e => e, fun _ _ e => e, fun _ _ e => e, fun b o hL => hb.cell (p := ⟨b, o, none⟩) (h.L_lt hL), rfl, rfl, fun _ _ e => .inl e, fun _ _ _ hi r => r.same (hb.block _ (h.ρ_lt hi))⟩
  refine ⟨hE, h.dom, h.fin, h.inj, fun i b X hi hX => ?_, fun b o hL => ?_, h.τns, fun k hk => ?_, h.ownd, h.below.trans (Keep.of_below hb h.base), fun k hk => Nat.lt_of_lt_of_le (h.base k hk) hb.size⟩
  · obtain ⟨h1, h3⟩ := h.blk i b X hi hX
    exact ⟨h1, BlkOk.mono hE (hb.block b (h.ρ_lt hi)) h3⟩
  · obtain ⟨⟨v, hv⟩, h2⟩ := h.live b o hL
    exact ⟨⟨v, (hE.cell b o hL).trans hv⟩, h2⟩
  · obtain ⟨b, f, t, h1, h2 | ⟨h2, h3, h4, vs, T, h5, h6⟩⟩ := h.own k hk
    · exact ⟨b, f, t, h1, .inl h2⟩
    have hlt : b < w.heap.size := (Array.getElem?_eq_some_iff.1 h5).1
    exact ⟨b, f, t, h1, .inr ⟨h2, h3, h4, vs, T, (hb.block b hlt).trans h5, h6⟩⟩

/-- what a call with no arguments comes to -/
def valLA (v : Value) : LA := { ev := fun _ => .val undef, v := .val v }

theorem UTri.closed {P : Program} {f : FuncId} {la : LA} {v : Value} (hfit : LSt.zero.fit la) (h : UTri P f [] la) (hv : la.v = .val v) : UTri P f [] (valLA v) := by
  intro G σ w cargs hR ha _
  have hL : ∀ b o, G.L b o → ∃ v, w.cell? ⟨b, o, none⟩ = some v := fun b o hl => (hR.live b o hl).1
  have ha' : VL (base w G.L) w [] cargs.toList := by
    obtain ⟨l⟩ := cargs
    cases l with
    | nil => simp [VL]
    | cons a l => simp only [VL] at ha
  refine (UTri.top hfit h hv hL ha').mono fun e w' ⟨he, hb⟩ => ?_
  obtain ⟨hE, hR'⟩ := hR.behind hb
  refine ⟨v, G, he, hE, ?_, by simp [valLA, V]⟩
  show RelS G ((ASt.mk σ.H σ.own σ.ns).stamps [] 0) w'
  rw [ASt.stamps_zero]
  exact hR'

/-- one call more is known -/
def known (f₀ : FuncId) (v : Value) (prim : FuncId → List AV → LSt → Option LA) (f : FuncId) (args : List AV) (s : LSt) : Option LA :=
  bif Nat.beq f f₀ && args.isEmpty then some (valLA v) else prim f args s

theorem known_ok {P : Program} (hm : P.follows .mixedOrders = true) (hng : ∀ (f : FuncId) (fn : Func), P.funcs[f]? = some fn → fn.body.isNone = false → (fn.name == "runtime.NumGoroutine") = false)
    {prim : FuncId → List AV → LSt → Option LA} (hp : CallsOk P prim) {fuel n : Nat} {f₀ : FuncId} {fn : Func} (hf : P.funcs[f₀]? = some fn) (hb : fn.body.isNone = false) (hpr : prim f₀ [] LSt.zero = none)
    (h : isTrue (acall P prim fuel (n + 1) f₀ [] LSt.zero) = true) : CallsOk P (known f₀ (.bool true) prim) := by
  intro f args s la hk
  unfold known at hk
  cases hc : (Nat.beq f f₀ && args.isEmpty) with
  | false => rw [hc] at hk; exact hp _ _ _ _ hk
  | true =>
    rw [hc] at hk
    simp only [cond_true, Option.some.injEq] at hk
    subst hk
    simp only [Bool.and_eq_true] at hc
    have := Nat.eq_of_beq_eq_true hc.1
    subst this
    have ha : args = [] := List.isEmpty_iff.1 hc.2
    subst ha
    obtain ⟨la, h1, h2⟩ := isTrue_spec h
    obtain ⟨q1, q2, _⟩ := acall_step hm hng (acall_ok hm hng hp fuel n) hpr h1
    exact ⟨fit_pure, CallOk.of hf (hng f fn hf hb) hb (UTri.closed q1 q2 h2)⟩

end Go.Ab

namespace Go.Ab
open Go Go.RowKit

mutual
/-- no block, no stamp: data alone -/
def AV.Data : AV → Prop
  | .val _ => True
  | .agg cs => AV.DataL cs
  | .tup cs => AV.DataL cs
  | .sl es _ o => o.plain ∧ AV.DataL es
  | .ip es => AV.DataL es
  | .mp _ _ => False
  | .ms _ _ _ _ _ => False
  | .obj _ => False
  | .clo _ fs cs => AV.DataL fs ∧ AV.DataL cs
def AV.DataL : List AV → Prop
  | [] => True
  | a :: l => AV.Data a ∧ AV.DataL l
end

mutual
theorem V.data {G G' : Gh} {w : World} (hL : ∀ b o, G.L b o → G'.L b o) : ∀ (a : AV) (u : Value), a.Data → V G w a u → V G' w a u
  | .val v, u, _, hv => by simpa only [V] using hv
  | .agg cs, u, hd, hv => by
    simp only [V, AV.Data] at hd hv ⊢
    obtain ⟨vs, rfl, hl⟩ := hv
    exact ⟨vs, rfl, VL.data hL cs vs hd hl⟩
  | .tup cs, u, hd, hv => by
    simp only [V, AV.Data] at hd hv ⊢
    obtain ⟨vs, rfl, hl⟩ := hv
    exact ⟨vs, rfl, VL.data hL cs vs hd hl⟩
  | .sl es n o, u, hd, hv => by
    simp only [V, AV.Data] at hd hv ⊢
    obtain ⟨cap, hc, hh⟩ := hv
    refine ⟨cap, hc, ?_⟩
    rcases hh with hh | ⟨b, off, hu, hcells, ho⟩
    · refine .inl ⟨hh.1, hh.2.1, hh.2.2.1, hh.2.2.2.1, ?_⟩
      cases o with
      | no => trivial
      | full => trivial
      | nl => exact hh.2.2.2.2
      | nn => exact hh.2.2.2.2
      | fr => exact hd.1.elim
      | st k sz => exact hd.1.elim
    · refine .inr ⟨b, off, hu, VC.data hL es b off hd.2 hcells, ?_⟩
      cases o with
      | no => trivial
      | full => exact ho
      | nl => exact ho
      | nn => trivial
      | fr => exact hd.1.elim
      | st k sz => exact hd.1.elim
  | .ip es, u, hd, hv => by
    simp only [V, AV.Data] at hd hv ⊢
    obtain ⟨b, off, hu, hcells⟩ := hv
    exact ⟨b, off, hu, VC.data hL es b off hd hcells⟩
  | .mp _ _, _, hd, _ => by simp only [AV.Data] at hd
  | .ms _ _ _ _ _, _, hd, _ => by simp only [AV.Data] at hd
  | .obj _, _, hd, _ => by simp only [AV.Data] at hd
  | .clo f fs cs, u, hd, hv => by
    simp only [V, AV.Data] at hd hv ⊢
    obtain ⟨l, r, hu, h1, h2⟩ := hv
    exact ⟨l, r, hu, VL.data hL fs l hd.1 h1, VL.data hL cs r hd.2 h2⟩
theorem VL.data {G G' : Gh} {w : World} (hL : ∀ b o, G.L b o → G'.L b o) : ∀ (as0 : List AV) (us : List Value), AV.DataL as0 → VL G w as0 us → VL G' w as0 us
  | [], [], _, _ => by simp only [VL]
  | a :: as0, u :: us, hd, hv => by
    simp only [VL, AV.DataL] at hd hv ⊢
    exact ⟨V.data hL a u hd.1 hv.1, VL.data hL as0 us hd.2 hv.2⟩
  | [], _ :: _, _, hv => by simp only [VL] at hv
  | _ :: _, [], _, hv => by simp only [VL] at hv
theorem VC.data {G G' : Gh} {w : World} (hL : ∀ b o, G.L b o → G'.L b o) : ∀ (as0 : List AV) (b off : Nat), AV.DataL as0 → VC G w as0 b off → VC G' w as0 b off
  | [], _, _, _, _ => by simp only [VC]
  | a :: as0, b, off, hd, hv => by
    simp only [VC, AV.DataL] at hd hv ⊢
    obtain ⟨h1, ⟨v, h2, h3⟩, h4⟩ := hv
    exact ⟨hL _ _ h1, ⟨v, h2, V.data hL a v hd.1 h3⟩, VC.data hL as0 b (off + 1) hd.2 h4⟩
end

theorem RelS.lift {G G₁ : Gh} {σ σ₁ : ASt} {w w₁ : World} (h : RelS G σ w) (hE : Ext (Go.Ab.base w G.L) w G₁ w₁) (h₁ : RelS G₁ σ₁ w₁) :
    Ext G w { G with L := fun b o => G.L b o ∨ G₁.L b o } w₁ ∧ RelS { G with L := fun b o => G.L b o ∨ G₁.L b o } σ w₁ := by
  have hb : Below w.heap.size w w₁ := by
    have := h₁.below
    rw [hE.w0, hE.F] at this
    exact ⟨this.os, this.tape, this.output, this.size, this.block⟩
  have hnew : ∀ b o, G₁.L b o → G.L b o ∨ w.heap.size ≤ b := fun b o h => (hE.newL b o h).imp id Nat.le_of_not_lt
  have hEx : Ext G w { G with L := fun b o => G.L b o ∨ G₁.L b o } w₁ :=
    ⟨fun _ _ e => e, fun _ _ e => e, fun _ _ e => .inl e, fun b o hL => hb.cell (p := ⟨b, o, none⟩) (h.L_lt hL), rfl, rfl,
     fun b o e => e.elim .inl fun q => (hnew b o q).elim .inl fun q => .inr (fun hF => Nat.lt_irrefl _ (Nat.lt_of_lt_of_le (h.base _ hF) q)), fun _ _ _ hi r => r.same (hb.block _ (h.ρ_lt hi))⟩
  refine ⟨hEx, h.dom, h.fin, h.inj, fun i b X hi hX => ?_, fun b o hL => ?_, h.τns, fun k hk => ?_, h.ownd, h.below.trans (Keep.of_below hb h.base), fun k hk => Nat.lt_of_lt_of_le (h.base k hk) hb.size⟩
  · obtain ⟨q1, q3⟩ := h.blk i b X hi hX
    exact ⟨q1, BlkOk.mono hEx (hb.block b (h.ρ_lt hi)) q3⟩
  · rcases hL with hL | hL
    · obtain ⟨⟨v, hv⟩, q2⟩ := h.live b o hL
      exact ⟨⟨v, (hEx.cell b o hL).trans hv⟩, q2⟩
    · refine ⟨(h₁.live b o hL).1, fun i hi => ?_⟩
      rcases hnew b o hL with q | q
      · exact (h.live b o q).2 i hi
      · have hi' : G.ρ i = some b := hi
        have := h.ρ_lt hi'
        omega
  · obtain ⟨b, f, t, q1, q2 | ⟨q2, q3, q4, vs, T, q5, q6⟩⟩ := h.own k hk
    · exact ⟨b, f, t, q1, .inl q2⟩
    have hlt : b < w.heap.size := (Array.getElem?_eq_some_iff.1 q5).1
    refine ⟨b, f, t, q1, .inr ⟨q2, q3, fun o ho ht hL => ?_, vs, T, (hb.block b hlt).trans q5, q6⟩⟩
    rcases hL with hL | hL
    · exact q4 o ho ht hL
    · rcases hnew b o hL with q | q
      · exact q4 o ho ht q
      · omega

def pureLA (v : AV) : LA := { ev := fun _ => .val undef, v := v }

/-- what is known of a call from memory of which only its data is known -/
def PTri (P : Program) (f : FuncId) (args : List AV) (v : AV) : Prop :=
  ∀ (W : World) (L : Nat → Nat → Prop) (cargs : Array Value), (∀ b o, L b o → ∃ v, W.cell? ⟨b, o, none⟩ = some v) → VL (base W L) W args cargs.toList →
    Calls P f cargs W fun e W' => ∃ u G' σ', e = .returned u ∧ Ext (base W L) W G' W' ∧ RelS G' σ' W' ∧ V G' W' v u

theorem PTri.uni {P : Program} {f : FuncId} {args : List AV} {v : AV} (h : PTri P f args v) (ha : AV.DataL args) (hv : v.Data) : UTri P f args (pureLA v) := by
  intro G σ w cargs hR hargs _
  have hL : ∀ b o, G.L b o → ∃ v, w.cell? ⟨b, o, none⟩ = some v := fun b o hl => (hR.live b o hl).1
  refine (h w G.L cargs hL (VL.data (G := G) (G' := base w G.L) (fun _ _ e => e) _ _ ha hargs)).mono fun e w' he => ?_
  obtain ⟨u, G₁, σ₁, rfl, hE, hR₁, hu⟩ := he
  obtain ⟨q1, q2⟩ := hR.lift hE hR₁
  refine ⟨u, _, rfl, q1, ?_, V.data (G' := { G with L := fun b o => G.L b o ∨ G₁.L b o }) (fun _ _ e => .inr e) v u hv hu⟩
  show RelS _ ((ASt.mk σ.H σ.own σ.ns).stamps [] 0) w'
  rw [ASt.stamps_zero]
  exact q2

theorem UTri.pri {P : Program} {f : FuncId} {args : List AV} {la : LA} (h : UTri P f args la) (hfit : LSt.zero.fit la) : PTri P f args la.v := by
  intro W L cargs hL ha
  have hcan := LSt.can hfit (σ₀ := Emp 0) (b := 0) ⟨fun _ _ h => (nomatch h), fun _ h => (nomatch h), fun _ h => (nomatch h), Nat.le_refl _⟩ (fun _ _ _ => rfl)
  refine (h (base W L) (over (Emp 0) LSt.zero) W cargs (base_ok hL 0) ha hcan).mono fun e W' he => ?_
  obtain ⟨u, G', rfl, h1, h2, h3⟩ := he
  exact ⟨u, G', _, rfl, h1, h2, h3⟩

/-- a pure contract out of a body run from the empty state -/
theorem PTri.body {P : Program} {f : FuncId} {fn : Func} {c : Code} {args : List AV} {v : AV} (hf : P.funcs[f]? = some fn) (hb : fn.body = some c)
    (h : Cw P c ⟨args ++ List.replicate (fn.ntmps - args.length) (.val undef), Emp 0⟩ fun x S => (x = .normal ∨ x = .ret) ∧
      ∃ res, ares P S.σ.H S.env fn.results.toList = some res ∧ ∀ G w u, V G w res u → V G w v u) : PTri P f args v := by
  intro W L cargs hL hv
  refine calls_of_wp hf hb ?_
  have hlen := VL.length _ _ hv
  have hR0 : Rel (base W L) ⟨args ++ List.replicate (fn.ntmps - args.length) (.val undef), Emp 0⟩ { tmps := cargs ++ Array.replicate (fn.ntmps - cargs.size) undef, defers := [] } W := by
    refine ⟨base_ok hL 0, ?_, rfl⟩
    have : cargs.size = args.length := by rw [← hlen]; simp
    simp only [Array.toList_append, Array.toList_replicate, this]
    exact VL.append _ _ _ _ hv (VL.replicate _)
  refine wp_mono (h (base W L) _ W hR0) fun e a' w' hp => ?_
  obtain ⟨x, S', G₁, rfl, ⟨hx, res, hres, hv'⟩, hE, hR'⟩ := hp
  obtain ⟨u, hu, huv⟩ := ares_ok (fn := fn) hR' hres
  have hend : a'.defers = [] ∧ ∃ v', (results fn a'.tmps).run P w' = .ok v' w' ∧ ∃ u G' σ', Ending.returned v' = .returned u ∧ Ext (base W L) W G' w' ∧ RelS G' σ' w' ∧ V G' w' v u :=
    ⟨hR'.dfr, u, hu, u, G₁, _, rfl, hE, hR'.st, hv' _ _ _ huv⟩
  rcases hx with rfl | rfl
  · exact hend
  · exact hend

end Go.Ab

namespace Go.Ab
open Go Go.RowKit

mutual
/-- a value under another numbering; what lies in slices is data, and stays as it is -/
def AV.ren (r : Nat → Nat) (f : Nat → Option Nat) : AV → AV
  | .val v => .val v
  | .agg cs => .agg (AV.renL r f cs)
  | .tup cs => .tup (AV.renL r f cs)
  | .sl es n o => .sl es n (match o with | .st k sz => (match f k with | some k' => .st k' sz | none => .no) | .full => .full | .nl => .nl | .nn => .nn | .fr => .no | .no => .no)
  | .ip es => .ip es
  | .mp i off => .mp (r i) off
  | .ms i off n c sz => .ms (r i) off n c sz
  | .obj i => .obj (r i)
  | .clo g fs cs => .clo g (AV.renL r f fs) (AV.renL r f cs)
def AV.renL (r : Nat → Nat) (f : Nat → Option Nat) : List AV → List AV
  | [] => []
  | a :: l => AV.ren r f a :: AV.renL r f l
end

mutual
/-- its numbers are such, and what lies in slices is data -/
def AV.fine (p : Nat → Prop) : AV → Prop
  | .val _ => True
  | .agg cs => AV.fineL p cs
  | .tup cs => AV.fineL p cs
  | .sl es _ _ => AV.DataL es
  | .ip es => AV.DataL es
  | .mp i _ => p i
  | .ms i _ _ _ _ => p i
  | .obj i => p i
  | .clo _ fs cs => AV.fineL p fs ∧ AV.fineL p cs
def AV.fineL (p : Nat → Prop) : List AV → Prop
  | [] => True
  | a :: l => AV.fine p a ∧ AV.fineL p l
end

structure Ren (G G' : Gh) (r : Nat → Nat) (f : Nat → Option Nat) (p : Nat → Prop) : Prop where
  F : ∀ b, ¬ G.F b → ¬ G'.F b
  ρ : ∀ i b, p i → G.ρ i = some b → G'.ρ (r i) = some b
  τ : ∀ k k' q, f k = some k' → G.τ k = some q → G'.τ k' = some q
  L : ∀ b o, G.L b o → G'.L b o

mutual
theorem V.ren {G G' : Gh} {w : World} {r : Nat → Nat} {f : Nat → Option Nat} {p : Nat → Prop} (h : Ren G G' r f p) : ∀ (a : AV) (u : Value), a.fine p → V G w a u → V G' w (a.ren r f) u
  | .val v, u, _, hv => by simpa only [AV.ren, V] using hv
  | .agg cs, u, hi, hv => by
    simp only [V, AV.fine, AV.ren] at hi hv ⊢
    obtain ⟨vs, rfl, hl⟩ := hv
    exact ⟨vs, rfl, VL.ren h cs vs hi hl⟩
  | .tup cs, u, hi, hv => by
    simp only [V, AV.fine, AV.ren] at hi hv ⊢
    obtain ⟨vs, rfl, hl⟩ := hv
    exact ⟨vs, rfl, VL.ren h cs vs hi hl⟩
  | .sl es n o, u, hi, hv => by
    simp only [V, AV.fine, AV.ren] at hi hv ⊢
    obtain ⟨cap, hc, hh⟩ := hv
    refine ⟨cap, hc, ?_⟩
    rcases hh with ⟨rfl, h2, h3, h4, h5⟩ | ⟨b, off, hu, hcells, ho⟩
    · refine .inl ⟨rfl, h2, h3, h4, ?_⟩
      cases o with
      | no => trivial
      | full => trivial
      | nl => exact h5
      | nn => exact h5
      | fr => trivial
      | st k sz =>
        simp only
        cases hk : f k with
        | none => trivial
        | some k' => exact h5.imp fun q hq => h.τ k k' q hk hq
    · refine .inr ⟨b, off, hu, VC.data h.L es b off hi hcells, ?_⟩
      cases o with
      | no => trivial
      | full => exact ho
      | nl => exact ho
      | nn => trivial
      | fr => trivial
      | st k sz =>
        simp only
        cases hk : f k with
        | none => trivial
        | some k' => exact ⟨ho.1.imp fun q hq => h.τ k k' q hk hq, ho.2.imp id fun ⟨q1, q2, q3⟩ => ⟨q1, h.F _ q2, h.τ k k' _ hk q3⟩⟩
  | .ip es, u, hi, hv => by
    simp only [V, AV.fine, AV.ren] at hi hv ⊢
    obtain ⟨b, off, hu, hcells⟩ := hv
    exact ⟨b, off, hu, VC.data h.L es b off hi hcells⟩
  | .mp i off, u, hi, hv => by
    simp only [V, AV.fine, AV.ren] at hi hv ⊢
    obtain ⟨b, hb, hu⟩ := hv
    exact ⟨b, h.ρ _ _ hi hb, hu⟩
  | .ms i off n c sz, u, hi, hv => by
    simp only [V, AV.fine, AV.ren] at hi hv ⊢
    obtain ⟨b, cap, hb, hu⟩ := hv
    exact ⟨b, cap, h.ρ _ _ hi hb, hu⟩
  | .obj i, u, hi, hv => by
    simp only [V, AV.fine, AV.ren] at hi hv ⊢
    obtain ⟨b, hb, hu⟩ := hv
    exact ⟨b, h.ρ _ _ hi hb, hu⟩
  | .clo g fs cs, u, hi, hv => by
    simp only [V, AV.fine, AV.ren] at hi hv ⊢
    obtain ⟨l, r', hu, h1, h2⟩ := hv
    exact ⟨l, r', hu, VL.ren h fs l hi.1 h1, VL.ren h cs r' hi.2 h2⟩
theorem VL.ren {G G' : Gh} {w : World} {r : Nat → Nat} {f : Nat → Option Nat} {p : Nat → Prop} (h : Ren G G' r f p) : ∀ (as0 : List AV) (us : List Value), AV.fineL p as0 → VL G w as0 us → VL G' w (AV.renL r f as0) us
  | [], [], _, _ => by simp only [AV.renL, VL]
  | a :: as0, u :: us, hi, hv => by
    simp only [VL, AV.fineL, AV.renL] at hi hv ⊢
    exact ⟨V.ren h a u hi.1 hv.1, VL.ren h as0 us hi.2 hv.2⟩
  | [], _ :: _, _, hv => by simp only [VL] at hv
  | _ :: _, [], _, hv => by simp only [VL] at hv
end

mutual
/-- its numbers are such, it owns nothing, what lies in slices is data -/
def AV.arg (p : Nat → Prop) : AV → Prop
  | .val _ => True
  | .agg cs => AV.argL p cs
  | .tup cs => AV.argL p cs
  | .sl es _ o => o.plain ∧ AV.DataL es
  | .ip es => AV.DataL es
  | .mp i _ => p i
  | .ms i _ _ _ _ => p i
  | .obj i => p i
  | .clo _ fs cs => AV.argL p fs ∧ AV.argL p cs
def AV.argL (p : Nat → Prop) : List AV → Prop
  | [] => True
  | a :: l => AV.arg p a ∧ AV.argL p l
end

mutual
/-- the way back: what is met under the caller's numbers is met under the callee's -/
theorem V.unren {G G' : Gh} {w : World} {r : Nat → Nat} {f : Nat → Option Nat} {p : Nat → Prop} (hρ : ∀ i, p i → G'.ρ i = G.ρ (r i)) (hL : ∀ b o, G.L b o → G'.L b o) : ∀ (a : AV) (u : Value), a.arg p → V G w (a.ren r f) u → V G' w a u
  | .val v, u, _, hv => by simpa only [AV.ren, V] using hv
  | .agg cs, u, hi, hv => by
    simp only [V, AV.arg, AV.ren] at hi hv ⊢
    obtain ⟨vs, rfl, hl⟩ := hv
    exact ⟨vs, rfl, VL.unren hρ hL cs vs hi hl⟩
  | .tup cs, u, hi, hv => by
    simp only [V, AV.arg, AV.ren] at hi hv ⊢
    obtain ⟨vs, rfl, hl⟩ := hv
    exact ⟨vs, rfl, VL.unren hρ hL cs vs hi hl⟩
  | .sl es n o, u, hi, hv => by
    simp only [V, AV.arg, AV.ren] at hi hv ⊢
    obtain ⟨cap, hc, hh⟩ := hv
    refine ⟨cap, hc, ?_⟩
    cases o with
    | no =>
      rcases hh with ⟨q1, q2, q3, q4, _⟩ | ⟨b, off, hu, hcells, ho⟩
      · exact .inl ⟨q1, q2, q3, q4, trivial⟩
      · exact .inr ⟨b, off, hu, VC.data hL es b off hi.2 hcells, ho⟩
    | full =>
      rcases hh with ⟨q1, q2, q3, q4, _⟩ | ⟨b, off, hu, hcells, ho⟩
      · exact .inl ⟨q1, q2, q3, q4, trivial⟩
      · exact .inr ⟨b, off, hu, VC.data hL es b off hi.2 hcells, ho⟩
    | nl =>
      rcases hh with ⟨q1, q2, q3, q4, q5⟩ | ⟨b, off, hu, hcells, ho⟩
      · exact .inl ⟨q1, q2, q3, q4, q5⟩
      · exact ho.elim
    | nn =>
      rcases hh with ⟨q1, q2, q3, q4, q5⟩ | ⟨b, off, hu, hcells, ho⟩
      · exact .inl ⟨q1, q2, q3, q4, q5⟩
      · exact .inr ⟨b, off, hu, VC.data hL es b off hi.2 hcells, trivial⟩
    | fr => exact hi.1.elim
    | st k sz => exact hi.1.elim
  | .ip es, u, hi, hv => by
    simp only [V, AV.arg, AV.ren] at hi hv ⊢
    obtain ⟨b, off, hu, hcells⟩ := hv
    exact ⟨b, off, hu, VC.data hL es b off hi hcells⟩
  | .mp i off, u, hi, hv => by
    simp only [V, AV.arg, AV.ren] at hi hv ⊢
    obtain ⟨b, hb, hu⟩ := hv
    exact ⟨b, (hρ _ hi).trans hb, hu⟩
  | .ms i off n c sz, u, hi, hv => by
    simp only [V, AV.arg, AV.ren] at hi hv ⊢
    obtain ⟨b, cap, hb, hu⟩ := hv
    exact ⟨b, cap, (hρ _ hi).trans hb, hu⟩
  | .obj i, u, hi, hv => by
    simp only [V, AV.arg, AV.ren] at hi hv ⊢
    obtain ⟨b, hb, hu⟩ := hv
    exact ⟨b, (hρ _ hi).trans hb, hu⟩
  | .clo g fs cs, u, hi, hv => by
    simp only [V, AV.arg, AV.ren] at hi hv ⊢
    obtain ⟨l, r', hu, h1, h2⟩ := hv
    exact ⟨l, r', hu, VL.unren hρ hL fs l hi.1 h1, VL.unren hρ hL cs r' hi.2 h2⟩
theorem VL.unren {G G' : Gh} {w : World} {r : Nat → Nat} {f : Nat → Option Nat} {p : Nat → Prop} (hρ : ∀ i, p i → G'.ρ i = G.ρ (r i)) (hL : ∀ b o, G.L b o → G'.L b o) : ∀ (as0 : List AV) (us : List Value), AV.argL p as0 → VL G w (AV.renL r f as0) us → VL G' w as0 us
  | [], [], _, _ => by simp only [VL]
  | a :: as0, u :: us, hi, hv => by
    simp only [VL, AV.argL, AV.renL] at hi hv ⊢
    exact ⟨V.unren hρ hL a u hi.1 hv.1, VL.unren hρ hL as0 us hi.2 hv.2⟩
  | [], _ :: _, _, hv => by simp only [AV.renL, VL] at hv
  | _ :: _, [], _, hv => by simp only [AV.renL, VL] at hv
end

def Blk.ren (r : Nat → Nat) (f : Nat → Option Nat) : Blk → Blk
  | .cells cs => .cells (AV.renL r f cs)
  | .obj o => .obj o
  | .row cs => .row cs
  | .dead => .dead
def Blk.fine (p : Nat → Prop) : Blk → Prop
  | .cells cs => AV.fineL p cs
  | .obj _ => True
  | .row cs => AV.DataL cs
  | .dead => True
def Blk.arg (p : Nat → Prop) : Blk → Prop
  | .cells cs => AV.argL p cs
  | .obj _ => True
  | .row cs => AV.DataL cs
  | .dead => False

theorem BlkOk.ren {G G' : Gh} {w : World} {r : Nat → Nat} {f : Nat → Option Nat} {p : Nat → Prop} (h : Ren G G' r f p) {X : Blk} {b : Nat} (hi : X.fine p) (hX : BlkOk G w b X) : BlkOk G' w b (X.ren r f) := by
  cases X with
  | cells cs =>
    obtain ⟨vs, T, h1, h2⟩ := hX
    exact ⟨vs, T, h1, h2.imp fun us => VL.ren h _ us hi⟩
  | obj o => exact hX
  | row cs =>
    obtain ⟨vs, T, h1, h2⟩ := hX
    exact ⟨vs, T, h1, h2.imp fun us => VL.data h.L _ us hi⟩
  | dead => exact hX

theorem BlkOk.unren {G G' : Gh} {w : World} {r : Nat → Nat} {f : Nat → Option Nat} {p : Nat → Prop} (hρ : ∀ i, p i → G'.ρ i = G.ρ (r i)) (hL : ∀ b o, G.L b o → G'.L b o) {X : Blk} {b : Nat} (hi : X.arg p) (hX : BlkOk G w b (X.ren r f)) : BlkOk G' w b X := by
  cases X with
  | cells cs =>
    obtain ⟨vs, T, h1, h2⟩ := hX
    exact ⟨vs, T, h1, h2.imp fun us => VL.unren hρ hL _ us hi⟩
  | obj o => exact hX
  | row cs =>
    obtain ⟨vs, T, h1, h2⟩ := hX
    exact ⟨vs, T, h1, h2.imp fun us => VL.data hL _ us hi⟩
  | dead => exact hi.elim

/-- where a number stands in a list -/
def place (l : List Nat) (k : Nat) : Option Nat := idx k l 0

theorem place_spec {l : List Nat} {k t : Nat} (h : place l k = some t) : l[t]? = some k := by
  have := (idx_spec l 0 t h).2
  simpa using this

theorem idx_mem {k : Nat} : ∀ (l : List Nat) (t : Nat), k ∈ l → ∃ r, idx k l t = some r
  | j :: l, t, h => by
    simp only [idx]
    cases hb : Nat.beq k j with
    | true => exact ⟨t, rfl⟩
    | false =>
      rcases List.mem_cons.1 h with rfl | h
      · simp at hb
      · exact idx_mem l (t + 1) h

theorem place_mem {l : List Nat} {k : Nat} (h : k ∈ l) : ∃ t, place l k = some t := idx_mem l 0 h

theorem place_nodup {l : List Nat} (hn : l.Nodup) {k t : Nat} (h : l[t]? = some k) : place l k = some t := by
  obtain ⟨t', ht'⟩ := place_mem (List.mem_of_getElem? h)
  have h' := place_spec ht'
  have := (List.getElem?_inj (List.getElem?_eq_some_iff.1 h).1 hn).1 (h.trans h'.symm)
  rw [ht', this]

def newId (keep : List Nat) (i : Nat) : Nat := (place keep i).getD 0

def reBlks (H : List (Nat × Blk)) (keep ks : List Nat) : List Nat → Nat → List (Nat × Blk)
  | [], _ => []
  | i :: l, j => (j, ((look H i).getD (.cells [])).ren (newId keep) (place ks)) :: reBlks H keep ks l (j + 1)

theorem look_reBlks {H : List (Nat × Blk)} {keep ks : List Nat} : ∀ (l : List Nat) (j t : Nat), look (reBlks H keep ks l j) t = if j ≤ t then (l[t - j]?).map fun i => ((look H i).getD (.cells [])).ren (newId keep) (place ks) else none
  | [], j, t => by simp [reBlks, look]
  | i :: l, j, t => by
    simp only [reBlks, look]
    by_cases e : t = j
    · subst e; simp
    · have : Nat.beq t j = false := beq_ne e
      simp only [this, cond_false]
      rw [look_reBlks l (j + 1) t]
      by_cases h : j + 1 ≤ t
      · rw [if_pos h, if_pos (by omega), show t - j = (t - (j + 1)) + 1 by omega]; simp
      · rw [if_neg h, if_neg (by omega)]

def range' : Nat → Nat → List Nat
  | _, 0 => []
  | j, n + 1 => j :: range' (j + 1) n

theorem mem_range' {k : Nat} : ∀ (n j : Nat), k ∈ range' j n ↔ j ≤ k ∧ k < j + n
  | 0, j => by simp [range']
  | n + 1, j => by simp only [range', List.mem_cons, mem_range' n (j + 1)]; omega

/-- the state, counted anew -/
def reSt (keep ks : List Nat) (s : LSt) : LSt := ⟨reBlks s.H keep ks keep 0, keep.length, range' 0 ks.length, ks.length, []⟩

def nodupB : List Nat → Bool
  | [] => true
  | k :: l => !(l.any (Nat.beq k)) && nodupB l

theorem nodupB_spec : ∀ l : List Nat, nodupB l = true → l.Nodup
  | [], _ => .nil
  | k :: l, h => by
    simp only [nodupB, Bool.and_eq_true] at h
    rw [List.nodup_cons]
    refine ⟨fun hm => ?_, nodupB_spec l h.2⟩
    rw [any_beq.2 hm] at h
    simp at h

/-- the first so many numbers stay; all that is kept is there -/
def reB (na : Nat) (keep ks : List Nat) (s : LSt) : Bool :=
  nodupB keep && nodupB ks && (keep.all fun i => (look s.H i).isSome) && (ks.all fun k => s.own.any (Nat.beq k)) && Nat.ble na keep.length && (range' 0 na).all fun i => match keep[i]? with | some j => Nat.beq j i | none => false

def fineBlks (keep : List Nat) (s : LSt) : List Nat → Prop
  | [] => True
  | i :: l => ((look s.H i).getD (.cells [])).fine (fun i => i ∈ keep) ∧ fineBlks keep s l

theorem fineBlks_mem {keep : List Nat} {s : LSt} : ∀ {l : List Nat} {i : Nat}, fineBlks keep s l → i ∈ l → ((look s.H i).getD (.cells [])).fine (fun i => i ∈ keep)
  | j :: l, i, h, hi => by
    rcases List.mem_cons.1 hi with rfl | hi
    · exact h.1
    · exact fineBlks_mem h.2 hi

theorem renumber {na : Nat} {keep ks : List Nat} {s : LSt} (hB : reB na keep ks s = true) (hf : fineBlks keep s keep) {G0 G : Gh} {W w : World} (h0 : ∀ i, na ≤ i → G0.ρ i = none) (h0τ : ∀ k, G0.τ k = none)
    (hE : Ext G0 W G w) (hR : RelS G (over (Emp 0) s) w) :
    ∃ G', Ext G0 W G' w ∧ (reSt keep ks s).On (Emp 0) 0 ∧ RelS G' (over (Emp 0) (reSt keep ks s)) w ∧ Ren G G' (newId keep) (place ks) (fun i => i ∈ keep) := by
  simp only [reB, Bool.and_eq_true, List.all_eq_true] at hB
  obtain ⟨⟨⟨⟨⟨b1, b2⟩, b3⟩, b4⟩, b5⟩, b6⟩ := hB
  have n1 := nodupB_spec _ b1
  have n2 := nodupB_spec _ b2
  have hσ : ∀ i, (over (Emp 0) s).H i = look s.H i := by
    intro i
    show (match look s.H i with | some X => some X | none => none) = _
    cases look s.H i <;> rfl
  have hlook : ∀ j, look (reBlks s.H keep ks keep 0) j = (keep[j]?).map fun i => ((look s.H i).getD (.cells [])).ren (newId keep) (place ks) := by
    intro j; rw [look_reBlks]; simp
  have hσ' : ∀ j, (over (Emp 0) (reSt keep ks s)).H j = (keep[j]?).map fun i => ((look s.H i).getD (.cells [])).ren (newId keep) (place ks) := by
    intro j
    show (match look (reBlks s.H keep ks keep 0) j with | some X => some X | none => none) = _
    rw [hlook]
    cases keep[j]? <;> rfl
  have hkept : ∀ i, i ∈ keep → ∃ X, look s.H i = some X := fun i hi => Option.isSome_iff_exists.1 (b3 i hi)
  have hown' : ∀ k, (over (Emp 0) (reSt keep ks s)).own k = true ↔ k < ks.length := by
    intro k
    show ((range' 0 ks.length).any (Nat.beq k) || false) = true ↔ _
    rw [Bool.or_false, any_beq, mem_range']; omega
  let G' : Gh := { G with ρ := fun j => (keep[j]?).bind G.ρ, τ := fun k => (ks[k]?).bind G.τ }
  have hρG : ∀ j i, keep[j]? = some i → G'.ρ j = G.ρ i := by intro j i h; show (keep[j]?).bind G.ρ = _; rw [h]; rfl
  have hτG : ∀ j i, ks[j]? = some i → G'.τ j = G.τ i := by intro j i h; show (ks[j]?).bind G.τ = _; rw [h]; rfl
  have hρ' : ∀ j b, G'.ρ j = some b → ∃ i, keep[j]? = some i ∧ G.ρ i = some b := by
    intro j b h
    have h' : (keep[j]?).bind G.ρ = some b := h
    cases hk : keep[j]? with
    | none => rw [hk] at h'; cases h'
    | some i => rw [hk] at h'; exact ⟨i, rfl, h'⟩
  have hstamp : ∀ k, k < ks.length → ∃ k1, ks[k]? = some k1 ∧ (over (Emp 0) s).own k1 = true := by
    intro k hk
    refine ⟨ks[k], List.getElem?_eq_getElem hk, ?_⟩
    have := b4 _ (List.getElem_mem hk)
    show (s.own.any (Nat.beq ks[k]) || false) = true
    rw [this]; rfl
  have hren : Ren G G' (newId keep) (place ks) (fun i => i ∈ keep) := by
    refine ⟨fun _ h => h, fun i b hi hb => ?_, fun k k' q hk hq => ?_, fun _ _ h => h⟩
    · obtain ⟨t, ht⟩ := place_mem hi
      have := place_spec ht
      simp only [newId, ht, Option.getD_some]
      rw [hρG _ _ this]; exact hb
    · rw [hτG _ _ (place_spec hk)]; exact hq
  refine ⟨G', ⟨fun i b h => ?_, fun k q h => ?_, hE.L, hE.cell, hE.w0, hE.F, hE.newL, hE.room⟩, ⟨?_, ?_, ?_, Nat.zero_le _⟩, ⟨?_, ?_, ?_, ?_, ?_, ?_, ?_, ?_, hR.below, hR.base⟩, hren⟩
  · have hi : i < na := by
      rcases Nat.lt_or_ge i na with e | e
      · exact e
      · rw [h0 i e] at h; cases h
    have := b6 i ((mem_range' _ _).2 ⟨Nat.zero_le _, by omega⟩)
    split at this
    · rename_i j hj
      have := Nat.eq_of_beq_eq_true this
      subst this
      rw [hρG _ _ hj]; exact hE.ρ _ _ h
    · cases this
  · rw [h0τ] at h; cases h
  · intro j X hX
    have hX' : look (reBlks s.H keep ks keep 0) j = some X := hX
    rw [hlook] at hX'
    cases hk : keep[j]? with
    | none => rw [hk] at hX'; cases hX'
    | some i => exact (List.getElem?_eq_some_iff.1 hk).1
  · intro k hk
    have := (mem_range' _ _).1 hk
    exact ⟨Nat.zero_le _, by simpa [reSt] using this.2⟩
  · intro k h; cases h
  · intro j
    rw [hσ']
    constructor
    · intro h
      cases hk : keep[j]? with
      | none => rfl
      | some i =>
        obtain ⟨X, hX⟩ := hkept i (List.mem_of_getElem? hk)
        rw [hρG _ _ hk] at h
        have := (hR.dom i).1 h
        rw [hσ, hX] at this; cases this
    · intro h
      cases hk : keep[j]? with
      | none => show (keep[j]?).bind G.ρ = none; rw [hk]; rfl
      | some i => rw [hk] at h; cases h
  · refine ⟨keep.length, fun i hi => ?_⟩
    rw [hσ', List.getElem?_eq_none hi]; rfl
  · intro i j b hi hj
    obtain ⟨i', hi', e1⟩ := hρ' i b hi
    obtain ⟨j', hj', e2⟩ := hρ' j b hj
    have hdead : ∀ {t t' : Nat}, keep[t]? = some t' → (over (Emp 0) s).H t' = some .dead → (over (Emp 0) (reSt keep ks s)).H t = some .dead := by
      intro t t' h1 h2
      rw [hσ] at h2
      rw [hσ', h1, Option.map_some, h2]; rfl
    rcases hR.inj i' j' b e1 e2 with this | this | this
    · left
      subst this
      exact (List.getElem?_inj (List.getElem?_eq_some_iff.1 hi').1 n1).1 (hi'.trans hj'.symm)
    · exact .inr (.inl (hdead hi' this))
    · exact .inr (.inr (hdead hj' this))
  · intro j b X hb hX
    obtain ⟨i, hi, e1⟩ := hρ' j b hb
    rw [hσ', hi] at hX
    simp only [Option.map_some, Option.some.injEq] at hX
    subst hX
    obtain ⟨Y, hY⟩ := hkept i (List.mem_of_getElem? hi)
    have hfi := fineBlks_mem hf (List.mem_of_getElem? hi)
    rw [hY, Option.getD_some] at hfi ⊢
    obtain ⟨q1, q2⟩ := hR.blk i b Y e1 (by rw [hσ]; exact hY)
    exact ⟨q1, q2.ren hren hfi⟩
  · intro b o hL
    obtain ⟨q1, q2⟩ := hR.live b o hL
    refine ⟨q1, fun j hj => ?_⟩
    obtain ⟨i, _, e1⟩ := hρ' j b hj
    exact q2 i e1
  · intro k hk
    have hk' : ks.length ≤ k := hk
    show (ks[k]?).bind G.τ = none
    rw [List.getElem?_eq_none hk']; rfl
  · intro k hk
    obtain ⟨k1, hk1, ho⟩ := hstamp k ((hown' k).1 hk)
    obtain ⟨b, f, t, q1, q2 | ⟨q2, q3, q4⟩⟩ := hR.own k1 ho
    · exact ⟨b, f, t, (hτG _ _ hk1).trans q1, .inl q2⟩
    refine ⟨b, f, t, (hτG _ _ hk1).trans q1, .inr ⟨q2, fun j hj => ?_, q4⟩⟩
    obtain ⟨i, _, e1⟩ := hρ' j b hj
    exact q3 i e1
  · intro k k' b f t f' t' hk hk' ht ht' l1 l2
    obtain ⟨k1, e1, o1⟩ := hstamp k ((hown' k).1 hk)
    obtain ⟨k2, e2, o2⟩ := hstamp k' ((hown' k').1 hk')
    rw [hτG _ _ e1] at ht
    rw [hτG _ _ e2] at ht'
    have := hR.ownd k1 k2 b f t f' t' o1 o2 ht ht' l1 l2
    subst this
    exact (List.getElem?_inj (List.getElem?_eq_some_iff.1 e1).1 n2).1 (e1.trans e2.symm)

end Go.Ab

namespace Go.Ab
open Go Go.RowKit

structure Obl where
  f : FuncId
  args : List AV
  s : LSt
  la : LA

def Obl.ok (P : Program) (o : Obl) : Prop := o.s.fit o.la ∧ CallOk P o.f o.args o.la

def OblsOk (P : Program) : List Obl → Prop
  | [] => True
  | o :: l => o.ok P ∧ OblsOk P l

def vact (P : Program) (op : Op) (ev : Operand → AV) (s : LSt) (vs : List LA) : Option (LA × List LA × List Obl) :=
  match op with
  | .call { callee := .value g, args, argTypes := _ } =>
    match ev g, vs with
    | .clo f first caps, la :: vs => some ({ la with ev := ev }, vs, [⟨f, first ++ args.toList.map ev ++ caps, s, la⟩])
    | _, _ => none
  | op => match aop P op ev s with
    | some la => some (la, vs, [])
    | none => none

theorem vact_ok {P : Program} {o : Oper} {ev : Operand → AV} {s : LSt} {vs vs' : List LA} {la : LA} {ob : List Obl} (h : vact P o.op ev s vs = some (la, vs', ob)) (hob : OblsOk P ob) : s.fit la ∧ OpOk P o la ∧ la.ev = ev := by
  obtain ⟨dst, op, type, pos, after, guard⟩ := o
  have h' : vact P op ev s vs = some (la, vs', ob) := h
  clear h
  unfold vact at h'
  split at h'
  · rename_i g args argTypes
    split at h'
    · rename_i f first caps la' vs1 hg
      cases h'
      obtain ⟨⟨h1, h2⟩, _⟩ := hob
      exact ⟨⟨h1.rd, h1.wr, h1.al, h1.lo, h1.use, h1.ns⟩, h2 dst type pos after guard g args argTypes first caps ev hg rfl, rfl⟩
    · cases h'
  · split at h'
    · rename_i la' hla
      cases h'
      exact ⟨aop_fit hla, aop_ok hla⟩
    · cases h'

def vstep (P : Program) (ops : Array Oper) (env : List AV) (s : LSt) (vs : List LA) (o : Oper) : Option (Option LA × List AV × LSt × List LA × List Obl) :=
  match awant ops env o with
  | some false => some (none, eset env o.dst (.val undef), s, vs, [])
  | some true =>
    match vact P o.op (aev env) s vs with
    | some (la, vs, ob) => some (some la, eset env o.dst la.v, s.app la, vs, ob)
    | none => none
  | none => none

def vops (P : Program) (ops : Array Oper) : List Oper → Nat → List AV → LSt → List LA → Option (List (Nat × Option LA) × List AV × LSt × List LA × List Obl)
  | [], _, env, s, vs => some ([], env, s, vs, [])
  | o :: l, i, env, s, vs =>
    match vstep P ops env s vs o with
    | some (la, env1, s1, vs1, ob1) => match vops P ops l (i + 1) env1 s1 vs1 with
      | some (r, env2, s2, vs2, ob2) => some ((i, la) :: r, env2, s2, vs2, ob1 ++ ob2)
      | none => none
    | none => none

theorem OblsOk.append {P : Program} : ∀ {a b : List Obl}, OblsOk P (a ++ b) → OblsOk P a ∧ OblsOk P b
  | [], _, h => ⟨trivial, h⟩
  | _ :: a, _, h => by
    obtain ⟨h1, h2⟩ := h
    obtain ⟨h3, h4⟩ := OblsOk.append (a := a) h2
    exact ⟨⟨h1, h3⟩, h4⟩

theorem vops_ok {P : Program} {ops : Array Oper} : ∀ (l : List Oper) (i : Nat) (env : List AV) (s : LSt) (vs : List LA) (r : List (Nat × Option LA)) (env' : List AV) (s' : LSt) (vs' : List LA) (ob : List Obl),
    (∀ k, l[k]? = ops[i + k]?) → vops P ops l i env s vs = some (r, env', s', vs', ob) → OblsOk P ob → Later s s' ∧ r.map (·.1) = List.range' i l.length ∧ ∀ (σ₀ : ASt) (b : Nat), s.On σ₀ b → (∀ j, s.nx ≤ j → j < s'.nx → σ₀.H j = none) →
      s'.On σ₀ b ∧ ARun P ops r ⟨env, over σ₀ s⟩ ⟨env', over σ₀ s'⟩
  | [], i, env, s, vs, r, env', s', vs', ob, _, h, _ => by
    simp only [vops, Option.some.injEq, Prod.mk.injEq] at h
    obtain ⟨rfl, rfl, rfl, rfl, rfl⟩ := h
    exact ⟨Later.refl _, rfl, fun σ₀ b ho _ => ⟨ho, rfl⟩⟩
  | o :: l, i, env, s, vs, r, env', s', vs', ob, hl, h, hob => by
    simp only [vops] at h
    split at h
    · rename_i la env1 s1 vs1 ob1 hst
      split at h
      · rename_i r' env2 s2 vs2 ob2 hr
        cases h
        obtain ⟨hob1, hob2⟩ := OblsOk.append hob
        have h0 : ops[i]? = some o := by have := hl 0; simpa using this.symm
        have step : Later s s1 ∧ ∀ (σ₀ : ASt) (b : Nat), s.On σ₀ b → (∀ j, s.nx ≤ j → j < s1.nx → σ₀.H j = none) → s1.On σ₀ b ∧ AStep P ops i la ⟨env, over σ₀ s⟩ ⟨env1, over σ₀ s1⟩ := by
          unfold vstep at hst
          split at hst
          · rename_i hw
            cases hst
            exact ⟨Later.refl _, fun σ₀ b ho _ => ⟨ho, o, h0, hw, rfl⟩⟩
          · rename_i hw
            split at hst
            · rename_i la' vs1' ob1' hla
              cases hst
              obtain ⟨f1, f2, f3⟩ := vact_ok hla hob1
              refine ⟨Later.app f1, fun σ₀ b ho hfree => ⟨On.app f1 ho, o, h0, hw, f2, fun x _ => by rw [f3], LSt.can f1 ho hfree, ?_⟩⟩
              rw [over_app f1 ho]
            · cases hst
          · cases hst
        obtain ⟨q1, q2, q3⟩ := vops_ok l (i + 1) env1 s1 vs1 r' _ _ _ _ (fun k => by have := hl (k + 1); simp only [List.getElem?_cons_succ] at this; rw [this]; congr 1; omega) hr hob2
        refine ⟨step.1.trans q1, by simp [List.range'_succ, q2], fun σ₀ b ho hfree => ?_⟩
        obtain ⟨o1, a1⟩ := step.2 σ₀ b ho (fun j h1 h2 => hfree j h1 (Nat.lt_of_lt_of_le h2 q1.nx))
        obtain ⟨o2, a2⟩ := q3 σ₀ b o1 (fun j h1 h2 => hfree j (Nat.le_trans step.1.nx h1) h2)
        exact ⟨o2, _, a1, a2⟩
      · cases h
    · cases h

/- CODE FROM THE EMPTY STATE -/
def LSt.Ok (s : LSt) : Prop := s.On (Emp 0) 0

/-- the weakest precondition, over list states -/
def Ev (P : Program) (c : Code) (env : List AV) (s : LSt) (Q : AX → List AV → LSt → Prop) : Prop :=
  s.Ok → Cw P c ⟨env, over (Emp 0) s⟩ fun x S => ∃ env' s', S = ⟨env', over (Emp 0) s'⟩ ∧ s'.Ok ∧ Q x env' s'

theorem Ev.mono {P : Program} {c : Code} {env : List AV} {s : LSt} {Q Q' : AX → List AV → LSt → Prop} (h : Ev P c env s Q) (hq : ∀ x env s, Q x env s → Q' x env s) : Ev P c env s Q' :=
  fun ho => (h ho).mono fun x _ ⟨e, s', h1, h2, h3⟩ => ⟨e, s', h1, h2, hq x e s' h3⟩

theorem Ev.skip {P : Program} {env : List AV} {s : LSt} {Q : AX → List AV → LSt → Prop} (h : Q .normal env s) : Ev P .skip env s Q := fun ho => Cw.skip ⟨_, _, rfl, ho, h⟩
theorem Ev.label {P : Program} {l : Nat} {env : List AV} {s : LSt} {Q : AX → List AV → LSt → Prop} (h : Q .normal env s) : Ev P (.label l) env s Q := fun ho => Cw.label ⟨_, _, rfl, ho, h⟩
theorem Ev.exit {P : Program} {i : Nat} {env : List AV} {s : LSt} {Q : AX → List AV → LSt → Prop} (h : Q (.exit i) env s) : Ev P (.exit i) env s Q := fun ho => Cw.exit ⟨_, _, rfl, ho, h⟩
theorem Ev.ret {P : Program} {env : List AV} {s : LSt} {Q : AX → List AV → LSt → Prop} (h : Q .ret env s) : Ev P .ret env s Q := fun ho => Cw.ret ⟨_, _, rfl, ho, h⟩

def seqQ (next : List AV → LSt → Prop) (Q : AX → List AV → LSt → Prop) : AX → List AV → LSt → Prop
  | .normal, e, s => next e s
  | x, e, s => Q x e s

theorem Ev.seq {P : Program} {x y : Code} {env : List AV} {s : LSt} {Q : AX → List AV → LSt → Prop} (h : Ev P x env s (seqQ (fun e s => Ev P y e s Q) Q)) : Ev P (.seq x y) env s Q := by
  intro ho
  refine Cw.seq ((h ho).mono ?_)
  rintro x S ⟨e, s', rfl, h2, h3⟩
  cases x with
  | normal => exact h3 h2
  | exit i => exact ⟨e, s', rfl, h2, h3⟩
  | ret => exact ⟨e, s', rfl, h2, h3⟩

theorem Ev.cond {P : Program} {c : Operand} {x y : Code} {env : List AV} {s : LSt} {Q : AX → List AV → LSt → Prop} {b : Bool} (hc : aev env c = .val (.bool b)) (h : Ev P (if b then x else y) env s Q) : Ev P (.cond c x y) env s Q :=
  fun ho => Cw.cond hc (h ho)

def blockQ (i : Nat) (Q : AX → List AV → LSt → Prop) : AX → List AV → LSt → Prop
  | .exit j, e, s => if j = i then Q .normal e s else Q (.exit j) e s
  | x, e, s => Q x e s

theorem Ev.block {P : Program} {i : Nat} {c : Code} {env : List AV} {s : LSt} {Q : AX → List AV → LSt → Prop} (h : Ev P c env s (blockQ i Q)) : Ev P (.block i c) env s Q := by
  intro ho
  refine Cw.block ((h ho).mono ?_)
  rintro x S ⟨e, s', rfl, h2, h3⟩
  cases x with
  | normal => exact ⟨e, s', rfl, h2, h3⟩
  | ret => exact ⟨e, s', rfl, h2, h3⟩
  | exit j =>
    simp only [AX.block, blockQ] at h3 ⊢
    by_cases hj : j = i
    · rw [if_pos hj] at h3 ⊢; exact ⟨e, s', rfl, h2, h3⟩
    · rw [if_neg hj] at h3 ⊢; exact ⟨e, s', rfl, h2, h3⟩

/-- a loop, by an invariant that counts down -/
theorem Ev.loop {P : Program} {c : Code} {Q : AX → List AV → LSt → Prop} (I : Nat → List AV → LSt → Prop) (step : ∀ n env s, I n env s → Ev P c env s (seqQ (fun e s => ∃ m, m < n ∧ I m e s) Q)) :
    ∀ n env s, I n env s → Ev P (.loop c) env s Q := by
  intro n env s hI ho
  have key : ∀ n env s, I n env s → s.Ok → CwR P c (fun x S => ∃ env' s', S = ⟨env', over (Emp 0) s'⟩ ∧ s'.Ok ∧ Q x env' s') (n + 1) ⟨env, over (Emp 0) s⟩ := by
    intro n
    induction n using Nat.strongRecOn with
    | ind n ih =>
      intro env s hI ho
      refine (step n env s hI ho).mono ?_
      rintro x S ⟨e, s', rfl, h2, h3⟩
      cases x with
      | normal =>
        obtain ⟨m, hm, hI'⟩ := h3
        have := ih m hm e s' hI' h2
        have lift : ∀ k S, CwR P c (fun x S => ∃ env' s', S = ⟨env', over (Emp 0) s'⟩ ∧ s'.Ok ∧ Q x env' s') k S → CwR P c (fun x S => ∃ env' s', S = ⟨env', over (Emp 0) s'⟩ ∧ s'.Ok ∧ Q x env' s') (k + 1) S := by
          intro k
          induction k with
          | zero => intro S h; exact h.elim
          | succ k ihk =>
            intro S h
            refine Cw.mono h ?_
            intro x S' hx
            cases x with
            | normal => exact ihk S' hx
            | exit i => exact hx
            | ret => exact hx
        have lifts : ∀ d S, CwR P c (fun x S => ∃ env' s', S = ⟨env', over (Emp 0) s'⟩ ∧ s'.Ok ∧ Q x env' s') (m + 1) S → CwR P c (fun x S => ∃ env' s', S = ⟨env', over (Emp 0) s'⟩ ∧ s'.Ok ∧ Q x env' s') (m + 1 + d) S := by
          intro d
          induction d with
          | zero => intro S h; exact h
          | succ d ihd => intro S h; exact lift _ _ (ihd S h)
        have e' : n = m + 1 + (n - (m + 1)) := by omega
        show CwR P c _ n _
        rw [e']
        exact lifts _ _ this
      | exit i => exact ⟨e, s', rfl, h2, h3⟩
      | ret => exact ⟨e, s', rfl, h2, h3⟩
  exact Cw.loop (n + 1) (key n env s hI ho)

theorem Ev.scope {P : Program} {c : Code} {env : List AV} {s : LSt} {Q : AX → List AV → LSt → Prop} (h : Ev P c env s Q) : Ev P (.scope c) env s Q := fun ho => Cw.scope (h ho)

theorem Ev.region {P : Program} {ops : Array Oper} {id : Nat} {env env' : List AV} {s s' : LSt} {vs : List LA} {r : List (Nat × Option LA)} {ob : List Obl} {Q : AX → List AV → LSt → Prop}
    (h : vops P ops ops.toList 0 env s vs = some (r, env', s', [], ob)) (hob : OblsOk P ob) (hQ : Q .normal env' s') : Ev P (.region id ops false) env s Q := by
  intro ho
  obtain ⟨q1, q2, q3⟩ := vops_ok ops.toList 0 env s vs r _ _ _ _ (fun k => by simp) h hob
  obtain ⟨o1, r1⟩ := q3 (Emp 0) 0 ho (fun _ _ _ => rfl)
  exact Cw.region r1 (by rw [q2, List.range_eq_range']; simp) ⟨_, _, rfl, o1, hQ⟩

theorem Ev.draw {P : Program} (hm : P.follows .mixedOrders = true) {ops : Array Oper} {id : Nat} {env env' : List AV} {s s' : LSt} {vs : List LA} {r : List (Nat × Option LA)} {ob : List Obl} {Q : AX → List AV → LSt → Prop}
    (h : vops P ops ops.toList 0 env s vs = some (r, env', s', [], ob)) (hed : edgesB ops = true) (hfree : freeB ops (ancs ops.toList []) r = true) (hob : OblsOk P ob) (hQ : Q .normal env' s') : Ev P (.region id ops true) env s Q := by
  intro ho
  obtain ⟨q1, q2, q3⟩ := vops_ok ops.toList 0 env s vs r _ _ _ _ (fun k => by simp) h hob
  obtain ⟨o1, r1⟩ := q3 (Emp 0) 0 ho (fun _ _ _ => rfl)
  exact Cw.draw hm hed hfree r1 (by rw [q2, List.range_eq_range']; simp) ⟨_, _, rfl, o1, hQ⟩

theorem zero_ok : LSt.zero.Ok := ⟨fun _ _ h => (nomatch h), fun _ h => (nomatch h), fun _ h => (nomatch h), Nat.le_refl _⟩

theorem over_zero : over (Emp 0) LSt.zero = Emp 0 := rfl

/-- a contract out of a body -/
theorem PTri.ev {P : Program} {f : FuncId} {fn : Func} {c : Code} {args : List AV} {v : AV} (hf : P.funcs[f]? = some fn) (hb : fn.body = some c)
    (h : Ev P c (args ++ List.replicate (fn.ntmps - args.length) (.val undef)) LSt.zero fun x env s => (x = .normal ∨ x = .ret) ∧
      ∃ res, ares P (look s.H) env fn.results.toList = some res ∧ ∀ G w u, V G w res u → V G w v u) : PTri P f args v := by
  refine PTri.body hf hb ?_
  have := h zero_ok
  rw [over_zero] at this
  refine this.mono ?_
  rintro x S ⟨e, s', rfl, _, hx, res, hres, hv⟩
  refine ⟨hx, res, ares_mono (fun i X hX => ?_) hres, hv⟩
  show (match look s'.H i with | some X => some X | none => none) = some X
  rw [hX]

/-- what a pure contract pays -/
theorem PTri.obl {P : Program} {f : FuncId} {args : List AV} {v : AV} {s : LSt} {fn : Func} (h : PTri P f args v) (ha : AV.DataL args) (hv : v.Data) (hf : P.funcs[f]? = some fn) (hname : (fn.name == "runtime.NumGoroutine") = false) (hb : fn.body.isNone = false) :
    Obl.ok P ⟨f, args, s, pureLA v⟩ := ⟨fit_pure, CallOk.of hf hname hb (h.uni ha hv)⟩

end Go.Ab

namespace Go.Ab
open Go Go.RowKit

abbrev VR := AX × List AV × LSt × List LA × List Obl

def vcode (P : Program) : Nat → Code → List AV → LSt → List LA → Option VR
  | 0, _, _, _, _ => none
  | n + 1, c, env, s, vs =>
    match c with
    | .skip => some (.normal, env, s, vs, [])
    | .label _ => some (.normal, env, s, vs, [])
    | .exit i => some (.exit i, env, s, vs, [])
    | .ret => some (.ret, env, s, vs, [])
    | .seq x y => match vcode P n x env s vs with
      | some (.normal, env1, s1, vs1, o1) => match vcode P n y env1 s1 vs1 with
        | some (x2, env2, s2, vs2, o2) => some (x2, env2, s2, vs2, o1 ++ o2)
        | none => none
      | r => r
    | .cond c x y => match aev env c with
      | .val (.bool b) => vcode P n (bif b then x else y) env s vs
      | _ => none
    | .block i c => match vcode P n c env s vs with
      | some (.exit j, env1, s1, vs1, o1) => some (bif Nat.beq j i then .normal else .exit j, env1, s1, vs1, o1)
      | r => r
    | .scope c => vcode P n c env s vs
    | .region _ ops draw => match vops P ops ops.toList 0 env s vs with
      | some (l, env1, s1, vs1, o1) => bif !draw || (edgesB ops && freeB ops (ancs ops.toList []) l) then some (.normal, env1, s1, vs1, o1) else none
      | none => none
    | _ => none

theorem region_any {P : Program} (hm : P.follows .mixedOrders = true) {ops : Array Oper} {id : Nat} {draw : Bool} {env env' : List AV} {s s' : LSt} {vs vs' : List LA} {r : List (Nat × Option LA)} {ob : List Obl} {Q : AX → List AV → LSt → Prop}
    (h : vops P ops ops.toList 0 env s vs = some (r, env', s', vs', ob)) (hd : (!draw || (edgesB ops && freeB ops (ancs ops.toList []) r)) = true) (hob : OblsOk P ob) (hQ : Q .normal env' s') : Ev P (.region id ops draw) env s Q := by
  intro ho
  obtain ⟨_, q2, q3⟩ := vops_ok ops.toList 0 env s vs r _ _ _ _ (fun k => by simp) h hob
  obtain ⟨o1, r1⟩ := q3 (Emp 0) 0 ho (fun _ _ _ => rfl)
  have q2' : r.map (·.1) = List.range ops.size := by rw [q2, List.range_eq_range']; simp
  cases draw with
  | false => exact Cw.region r1 q2' ⟨_, _, rfl, o1, hQ⟩
  | true =>
    simp only [Bool.not_true, Bool.false_or, Bool.and_eq_true] at hd
    exact Cw.draw hm hd.1 hd.2 r1 q2' ⟨_, _, rfl, o1, hQ⟩

theorem vcode_ok {P : Program} (hm : P.follows .mixedOrders = true) : ∀ (n : Nat) (c : Code) (env : List AV) (s : LSt) (vs : List LA) (x : AX) (env' : List AV) (s' : LSt) (vs' : List LA) (ob : List Obl),
    vcode P n c env s vs = some (x, env', s', vs', ob) → OblsOk P ob → ∀ {Q : AX → List AV → LSt → Prop}, Q x env' s' → Ev P c env s Q := by
  intro n
  induction n with
  | zero => intro c env s vs x env' s' vs' ob h; cases h
  | succ n ih =>
    intro c env s vs x env' s' vs' ob h hob Q hQ
    cases c with
    | skip =>
      simp only [vcode, Option.some.injEq, Prod.mk.injEq] at h
      obtain ⟨rfl, rfl, rfl, rfl, rfl⟩ := h
      exact Ev.skip hQ
    | label l =>
      simp only [vcode, Option.some.injEq, Prod.mk.injEq] at h
      obtain ⟨rfl, rfl, rfl, rfl, rfl⟩ := h
      exact Ev.label hQ
    | exit i =>
      simp only [vcode, Option.some.injEq, Prod.mk.injEq] at h
      obtain ⟨rfl, rfl, rfl, rfl, rfl⟩ := h
      exact Ev.exit hQ
    | ret =>
      simp only [vcode, Option.some.injEq, Prod.mk.injEq] at h
      obtain ⟨rfl, rfl, rfl, rfl, rfl⟩ := h
      exact Ev.ret hQ
    | seq y z =>
      simp only [vcode] at h
      cases hy : vcode P n y env s vs with
      | none => rw [hy] at h; cases h
      | some r =>
        obtain ⟨x1, env1, s1, vs1, o1⟩ := r
        rw [hy] at h
        cases x1 with
        | normal =>
          simp only at h
          split at h
          · rename_i x2 env2 s2 vs2 o2 hz
            cases h
            obtain ⟨q1, q2⟩ := OblsOk.append hob
            exact Ev.seq (ih _ _ _ _ _ _ _ _ _ hy q1 (ih _ _ _ _ _ _ _ _ _ hz q2 hQ))
          · cases h
        | exit i =>
          simp only [Option.some.injEq, Prod.mk.injEq] at h
          obtain ⟨rfl, rfl, rfl, rfl, rfl⟩ := h
          exact Ev.seq (ih _ _ _ _ _ _ _ _ _ hy hob hQ)
        | ret =>
          simp only [Option.some.injEq, Prod.mk.injEq] at h
          obtain ⟨rfl, rfl, rfl, rfl, rfl⟩ := h
          exact Ev.seq (ih _ _ _ _ _ _ _ _ _ hy hob hQ)
    | cond o y z =>
      simp only [vcode] at h
      split at h
      · rename_i t ht
        have h1 := ih _ _ _ _ _ _ _ _ _ h hob hQ
        exact Ev.cond ht (by cases t <;> exact h1)
      · cases h
    | block i y =>
      simp only [vcode] at h
      cases hy : vcode P n y env s vs with
      | none => rw [hy] at h; cases h
      | some r =>
        obtain ⟨x1, env1, s1, vs1, o1⟩ := r
        rw [hy] at h
        cases x1 with
        | normal =>
          simp only [Option.some.injEq, Prod.mk.injEq] at h
          obtain ⟨rfl, rfl, rfl, rfl, rfl⟩ := h
          exact Ev.block (ih _ _ _ _ _ _ _ _ _ hy hob hQ)
        | ret =>
          simp only [Option.some.injEq, Prod.mk.injEq] at h
          obtain ⟨rfl, rfl, rfl, rfl, rfl⟩ := h
          exact Ev.block (ih _ _ _ _ _ _ _ _ _ hy hob hQ)
        | exit j =>
          simp only [Option.some.injEq, Prod.mk.injEq] at h
          obtain ⟨rfl, rfl, rfl, rfl, rfl⟩ := h
          refine Ev.block (ih _ _ _ _ _ _ _ _ _ hy hob ?_)
          simp only [blockQ]
          cases hb : Nat.beq j i with
          | true => rw [if_pos (Nat.eq_of_beq_eq_true hb)]; rw [hb] at hQ; exact hQ
          | false =>
            rw [if_neg (fun e => by subst e; simp at hb)]; rw [hb] at hQ; exact hQ
    | loop y => cases h
    | scope y =>
      simp only [vcode] at h
      exact Ev.scope (ih _ _ _ _ _ _ _ _ _ h hob hQ)
    | region id ops draw =>
      simp only [vcode] at h
      split at h
      · rename_i l env1 s1 vs1 o1 hr
        cases hb : (!draw || (edgesB ops && freeB ops (ancs ops.toList []) l)) with
        | false => rw [hb] at h; cases h
        | true =>
          rw [hb] at h
          simp only [cond_true, Option.some.injEq, Prod.mk.injEq] at h
          obtain ⟨rfl, rfl, rfl, rfl, rfl⟩ := h
          exact region_any hm hr hb hob hQ
      · cases h
    | rangeFunc => cases h
    | goto => cases h
    | refuse => cases h

/-- a test on what is not known -/
theorem Ev.test {P : Program} {c : Operand} {x y : Code} {env : List AV} {s : LSt} {Q : AX → List AV → LSt → Prop} (b : Bool) (hc : aev env c = .val (.bool b)) (h1 : b = true → Ev P x env s Q) (h2 : b = false → Ev P y env s Q) : Ev P (.cond c x y) env s Q :=
  Ev.cond hc (by cases b with | true => exact h1 rfl | false => exact h2 rfl)

end Go.Ab

namespace Go.Ab
open Go Go.RowKit

def bod (fn : Func) : Code := fn.body.getD .skip
def lft : Code → Code
  | .seq x _ => x
  | .cond _ x _ => x
  | c => c
def rgt : Code → Code
  | .seq _ y => y
  | .cond _ _ y => y
  | c => c
def inn : Code → Code
  | .loop c => c
  | .block _ c => c
  | .scope c => c
  | c => c
def cnd : Code → Operand
  | .cond c _ _ => c
  | _ => .tmp 0
def bid : Code → Nat
  | .block i _ => i
  | _ => 0
/-- 1 seq, 2 cond, 3 block, 4 loop, 5 scope -/
def knd : Code → Nat
  | .seq .. => 1
  | .cond .. => 2
  | .block .. => 3
  | .loop .. => 4
  | .scope .. => 5
  | _ => 0

variable {P : Program} {c : Code} {env : List AV} {s : LSt} {Q : AX → List AV → LSt → Prop}

theorem Ev.seqP (hk : knd c = 1) (h : Ev P (lft c) env s (seqQ (fun e s => Ev P (rgt c) e s Q) Q)) : Ev P c env s Q := by
  cases c <;> first | exact Ev.seq h | cases hk
theorem Ev.condP (hk : knd c = 2) (b : Bool) (hc : aev env (cnd c) = .val (.bool b)) (h1 : b = true → Ev P (lft c) env s Q) (h2 : b = false → Ev P (rgt c) env s Q) : Ev P c env s Q := by
  cases c <;> first | exact Ev.test b hc h1 h2 | cases hk
theorem Ev.blockP (hk : knd c = 3) (h : Ev P (inn c) env s (blockQ (bid c) Q)) : Ev P c env s Q := by
  cases c <;> first | exact Ev.block h | cases hk
theorem Ev.loopP (hk : knd c = 4) (I : Nat → List AV → LSt → Prop) (step : ∀ n env s, I n env s → Ev P (inn c) env s (seqQ (fun e s => ∃ m, m < n ∧ I m e s) Q)) {n : Nat} (hI : I n env s) : Ev P c env s Q := by
  cases c <;> first | exact Ev.loop I step n env s hI | cases hk
theorem Ev.scopeP (hk : knd c = 5) (h : Ev P (inn c) env s Q) : Ev P c env s Q := by
  cases c <;> first | exact Ev.scope h | cases hk

/-- a piece of code without loops, run in one go -/
theorem Ev.go (hm : P.follows .mixedOrders = true) (n : Nat) {vs vs' : List LA} {x : AX} {env' : List AV} {s' : LSt} {ob : List Obl} (h : vcode P n c env s vs = some (x, env', s', vs', ob)) (hob : OblsOk P ob) (hQ : Q x env' s') : Ev P c env s Q :=
  vcode_ok hm n c env s vs x env' s' vs' ob h hob hQ

theorem PTri.evP {f : FuncId} {fn : Func} {args : List AV} {v : AV} (hf : P.funcs[f]? = some fn) (hb : fn.body.isNone = false)
    (h : Ev P (bod fn) (args ++ List.replicate (fn.ntmps - args.length) (.val undef)) LSt.zero fun x env s => (x = .normal ∨ x = .ret) ∧
      ∃ res, ares P (look s.H) env fn.results.toList = some res ∧ ∀ G w u, V G w res u → V G w v u) : PTri P f args v := by
  cases hb' : fn.body with
  | none => rw [hb'] at hb; cases hb
  | some c => exact PTri.ev hf hb' (by simpa [bod, hb'] using h)

end Go.Ab

namespace Go.Ab
open Go Go.RowKit

/-- how many blocks a function begins with; and whatever else is known of where it began -/
structure Nb where
  n : Nat
  κ : Gh → Prop
instance : Coe Nat Nb := ⟨fun n => ⟨n, fun _ => True⟩⟩
instance (k : Nat) : OfNat Nb k := ⟨⟨k, fun _ => True⟩⟩

/-- what is known where the function began: these blocks, no stamp -/
structure Base (na : Nb) (G0 : Gh) : Prop where
  ρ : ∀ i, na.n ≤ i → G0.ρ i = none
  τ : ∀ k, G0.τ k = none
  LF : ∀ b o, G0.L b o → G0.F b
  κ : na.κ G0

/-- the post, in the model's own terms -/
def DPost (G0 : Gh) (W : World) (Q : AX → List AV → LSt → Prop) : Exit → Act → World → Prop := fun e a' w' =>
  ∃ x env' s' G', e = AX.toExit x ∧ Q x env' s' ∧ Ext G0 W G' w' ∧ s'.Ok ∧ Rel G' ⟨env', over (Emp 0) s'⟩ a' w'

def Dv (P : Program) (na : Nb) (c : Code) (env : List AV) (s : LSt) (Q : AX → List AV → LSt → Prop) : Prop :=
  ∀ G0 W, Base na G0 → ∀ G a w, Ext G0 W G w → s.Ok → Rel G ⟨env, over (Emp 0) s⟩ a w → c.wp P (DPost G0 W Q) a w

theorem DPost.mono {G0 : Gh} {W : World} {Q Q' : AX → List AV → LSt → Prop} (hq : ∀ x e s, Q x e s → Q' x e s) {e : Exit} {a : Act} {w : World} (h : DPost G0 W Q e a w) : DPost G0 W Q' e a w := by
  obtain ⟨x, env', s', G', h1, h2, h3⟩ := h
  exact ⟨x, env', s', G', h1, hq _ _ _ h2, h3⟩

theorem Dv.mono {P : Program} {na : Nb} {c : Code} {env : List AV} {s : LSt} {Q Q' : AX → List AV → LSt → Prop} (h : Dv P na c env s Q) (hq : ∀ x e s, Q x e s → Q' x e s) : Dv P na c env s Q' :=
  fun G0 W hB G a w hE ho hR => wp_mono (h G0 W hB G a w hE ho hR) fun _ _ _ => DPost.mono hq

theorem Dv.ofEv {P : Program} {na : Nb} {c : Code} {env : List AV} {s : LSt} {Q : AX → List AV → LSt → Prop} (h : Ev P c env s Q) : Dv P na c env s Q := by
  intro G0 W _ G a w hE ho hR
  refine wp_mono (h ho G a w hR) ?_
  rintro e a' w' ⟨x, S, G', rfl, ⟨env', s', rfl, h2, h3⟩, h4, h5⟩
  exact ⟨x, env', s', G', rfl, h3, hE.trans h4, h2, h5⟩

theorem Dv.seq {P : Program} {na : Nb} {x y : Code} {env : List AV} {s : LSt} {Q : AX → List AV → LSt → Prop} (h : Dv P na x env s (seqQ (fun e s => Dv P na y e s Q) Q)) : Dv P na (.seq x y) env s Q := by
  intro G0 W hB G a w hE ho hR
  refine wp_seq (wp_mono (h G0 W hB G a w hE ho hR) ?_)
  rintro e a' w' ⟨x, env', s', G', rfl, h2, h3, h4, h5⟩
  cases x with
  | normal => exact h2 G0 W hB G' a' w' h3 h4 h5
  | exit i => exact ⟨.exit i, env', s', G', rfl, h2, h3, h4, h5⟩
  | ret => exact ⟨.ret, env', s', G', rfl, h2, h3, h4, h5⟩

theorem Dv.cond {P : Program} {na : Nb} {c : Operand} {x y : Code} {env : List AV} {s : LSt} {Q : AX → List AV → LSt → Prop} {b : Bool} (hc : aev env c = .val (.bool b)) (h : Dv P na (if b then x else y) env s Q) : Dv P na (.cond c x y) env s Q := by
  intro G0 W hB G a w hE ho hR
  have hv := V.aev hR.env c
  simp only at hv
  rw [hc] at hv
  simp only [V] at hv
  exact wp_cond hv (h G0 W hB G a w hE ho hR)

theorem Dv.block {P : Program} {na : Nb} {i : Nat} {c : Code} {env : List AV} {s : LSt} {Q : AX → List AV → LSt → Prop} (h : Dv P na c env s (blockQ i Q)) : Dv P na (.block i c) env s Q := by
  intro G0 W hB G a w hE ho hR
  refine wp_block (wp_mono (h G0 W hB G a w hE ho hR) ?_)
  rintro e a' w' ⟨x, env', s', G', rfl, h2, h3, h4, h5⟩
  cases x with
  | normal => exact ⟨.normal, env', s', G', rfl, h2, h3, h4, h5⟩
  | ret => exact ⟨.ret, env', s', G', rfl, h2, h3, h4, h5⟩
  | exit j =>
    simp only [AX.toExit, Exit.inBlock, blockQ] at h2 ⊢
    by_cases hj : j = i
    · rw [if_pos hj] at h2 ⊢; exact ⟨.normal, env', s', G', rfl, h2, h3, h4, h5⟩
    · rw [if_neg hj] at h2 ⊢; exact ⟨.exit j, env', s', G', rfl, h2, h3, h4, h5⟩

theorem Dv.scope {P : Program} {na : Nb} {c : Code} {env : List AV} {s : LSt} {Q : AX → List AV → LSt → Prop} (h : Dv P na c env s Q) : Dv P na (.scope c) env s Q := by
  intro G0 W hB G a w hE ho hR
  refine wp_scope_straight (wp_mono (h G0 W hB G a w hE ho hR) ?_)
  rintro e a' w' ⟨x, env', s', G', rfl, h2, h3, h4, h5⟩
  cases x with
  | normal => exact ⟨.normal, env', s', G', rfl, h2, h3, h4, h5⟩
  | exit i => exact ⟨.exit i, env', s', G', rfl, h2, h3, h4, h5⟩
  | ret => exact ⟨.ret, env', s', G', rfl, h2, h3, h4, h5⟩

/- LOOPS -/
/-- a loop's head: the body ahead, the loop behind -/
def LoopWp (P : Program) (c : Code) (Q : Exit → Act → World → Prop) (a : Act) (w : World) : Prop :=
  ∀ (b : Frame) (k : List Item) (cs : List Frame), ∃ e a' w', Q e a' w' ∧ Arrives P (lone (b.at a (.code c :: .inLoop c :: k)) cs w) b k cs e a' w'

theorem LoopWp.step {P : Program} {c : Code} {Q : Exit → Act → World → Prop} {a : Act} {w : World} (h : c.wp P (Exit.then (LoopWp P c Q) Q) a w) : LoopWp P c Q a w := by
  intro b k cs
  obtain ⟨e, a₁, w₁, hq, harr⟩ := h b (.inLoop c :: k) cs
  cases e with
  | normal =>
    obtain ⟨e₂, a₂, w₂, hq₂, harr₂⟩ := hq b k cs
    exact ⟨e₂, a₂, w₂, hq₂, .of_steps (Steps.trans harr (.one step_inLoop)) harr₂⟩
  | exit id => exact ⟨_, a₁, w₁, hq, .pass (x := .inLoop c) rfl (fun _ _ => .inl (by simp)) harr⟩
  | goto l => exact ⟨_, a₁, w₁, hq, .pass (x := .inLoop c) rfl (fun _ _ => .inl (by simp)) harr⟩
  | ret => exact ⟨_, a₁, w₁, hq, .pass (x := .inLoop c) rfl (fun _ _ => .inl (by simp)) harr⟩
  | panic ch => exact ⟨_, a₁, w₁, hq, .pass (x := .inLoop c) rfl (fun _ _ => .inl (by simp)) harr⟩
  | outgrown => exact ⟨_, a₁, w₁, hq, .pass (x := .inLoop c) rfl (fun _ _ => .inl (by simp)) harr⟩

theorem LoopWp.loop {P : Program} {c : Code} {Q : Exit → Act → World → Prop} {a : Act} {w : World} (h : LoopWp P c Q a w) : (Code.loop c).wp P Q a w := by
  intro b k cs
  obtain ⟨e, a', w', hq, harr⟩ := h b k cs
  exact ⟨e, a', w', hq, .of_steps (.one step_loop) harr⟩

def Dl (P : Program) (na : Nb) (c : Code) (env : List AV) (s : LSt) (Q : AX → List AV → LSt → Prop) : Prop :=
  ∀ G0 W, Base na G0 → ∀ G a w, Ext G0 W G w → s.Ok → Rel G ⟨env, over (Emp 0) s⟩ a w → LoopWp P c (DPost G0 W Q) a w

theorem Dl.step {P : Program} {na : Nb} {c : Code} {env : List AV} {s : LSt} {Q : AX → List AV → LSt → Prop} (h : Dv P na c env s (seqQ (fun e s => Dl P na c e s Q) Q)) : Dl P na c env s Q := by
  intro G0 W hB G a w hE ho hR
  refine LoopWp.step (wp_mono (h G0 W hB G a w hE ho hR) ?_)
  rintro e a' w' ⟨x, env', s', G', rfl, h2, h3, h4, h5⟩
  cases x with
  | normal => exact h2 G0 W hB G' a' w' h3 h4 h5
  | exit i => exact ⟨.exit i, env', s', G', rfl, h2, h3, h4, h5⟩
  | ret => exact ⟨.ret, env', s', G', rfl, h2, h3, h4, h5⟩

theorem Dv.loop {P : Program} {na : Nb} {c : Code} {env : List AV} {s : LSt} {Q : AX → List AV → LSt → Prop} (h : Dl P na c env s Q) : Dv P na (.loop c) env s Q :=
  fun G0 W hB G a w hE ho hR => LoopWp.loop (h G0 W hB G a w hE ho hR)

/- THE STATE COUNTED ANEW -/
def memB (l : List Nat) (i : Nat) : Bool := l.any (Nat.beq i)

/-- slots that live keep their value, under the new numbers; the others hold whatever they held -/
def reEnv (keep ks live : List Nat) (j : Nat → Value) : List AV → Nat → List AV
  | [], _ => []
  | a :: l, t => (bif memB live t then a.ren (newId keep) (place ks) else .val (j t)) :: reEnv keep ks live j l (t + 1)

def fineEnv (keep live : List Nat) : List AV → Nat → Prop
  | [], _ => True
  | a :: l, t => (bif memB live t then a.fine (fun i => i ∈ keep) else True) ∧ fineEnv keep live l (t + 1)

theorem VL.reEnv {G G' : Gh} {w : World} {keep ks live : List Nat} (h : Ren G G' (newId keep) (place ks) (fun i => i ∈ keep)) (us0 : List Value) : ∀ (env : List AV) (us : List Value) (t : Nat), fineEnv keep live env t → VL G w env us → (∀ i, us0.getD (t + i) undef = us.getD i undef) →
    VL G' w (reEnv keep ks live (fun t => us0.getD t undef) env t) us
  | [], [], _, _, _, _ => by simp [Ab.reEnv, VL]
  | a :: as0, u :: us, t, hf, hv, hu => by
    simp only [VL] at hv
    simp only [fineEnv] at hf
    simp only [Ab.reEnv, VL]
    refine ⟨?_, VL.reEnv h us0 as0 us (t + 1) hf.2 hv.2 (fun i => ?_)⟩
    · cases hm : memB live t with
      | true => rw [hm] at hf; exact V.ren h a u hf.1 hv.1
      | false =>
        have := hu 0
        simp only [Nat.add_zero, List.getD_cons_zero] at this
        simp only [cond_false, this, V]
    · have := hu (i + 1)
      rw [show t + 1 + i = t + (i + 1) by omega, this]; simp
  | [], _ :: _, _, _, h, _ => by simp only [VL] at h
  | _ :: _, [], _, _, h, _ => by simp only [VL] at h

theorem Rel.reB {na : Nb} {keep ks live : List Nat} {s : LSt} {env : List AV} (hB : Ab.reB na.n keep ks s = true) (hf : fineBlks keep s keep) (hfe : fineEnv keep live env 0) {G0 G : Gh} {W w : World} {a : Act} (h0 : Base na G0) (hE : Ext G0 W G w) (hR : Rel G ⟨env, over (Emp 0) s⟩ a w) :
    ∃ G' j, Ext G0 W G' w ∧ (reSt keep ks s).Ok ∧ Rel G' ⟨reEnv keep ks live j env 0, over (Emp 0) (reSt keep ks s)⟩ a w := by
  obtain ⟨G', h1, h2, h3, h4⟩ := renumber hB hf h0.ρ h0.τ hE hR.st
  exact ⟨G', fun t => a.tmps.toList.getD t undef, h1, h2, h3, VL.reEnv h4 _ _ _ 0 hfe hR.env (fun i => by rw [Nat.zero_add]), hR.dfr⟩

theorem Dl.re {P : Program} {na : Nb} (keep ks live : List Nat) {c : Code} {env : List AV} {s : LSt} {Q : AX → List AV → LSt → Prop} (hB : Ab.reB na.n keep ks s = true) (hf : fineBlks keep s keep) (hfe : fineEnv keep live env 0)
    (h : ∀ j, Dl P na c (reEnv keep ks live j env 0) (reSt keep ks s) Q) : Dl P na c env s Q := by
  intro G0 W h0 G a w hE ho hR
  obtain ⟨G', j, h1, h2, h3⟩ := hR.reB hB hf hfe h0 hE
  exact h j G0 W h0 G' a w h1 h2 h3

theorem Dv.re {P : Program} {na : Nb} (keep ks live : List Nat) {c : Code} {env : List AV} {s : LSt} {Q : AX → List AV → LSt → Prop} (hB : Ab.reB na.n keep ks s = true) (hf : fineBlks keep s keep) (hfe : fineEnv keep live env 0)
    (h : ∀ j, Dv P na c (reEnv keep ks live j env 0) (reSt keep ks s) Q) : Dv P na c env s Q := by
  intro G0 W h0 G a w hE ho hR
  obtain ⟨G', j, h1, h2, h3⟩ := hR.reB hB hf hfe h0 hE
  exact h j G0 W h0 G' a w h1 h2 h3

end Go.Ab

namespace Go.Ab
open Go Go.RowKit

def idxBlks : List Blk → Nat → List (Nat × Blk)
  | [], _ => []
  | X :: l, j => (j, X) :: idxBlks l (j + 1)

theorem look_idxBlks : ∀ (l : List Blk) (j t : Nat), look (idxBlks l j) t = if j ≤ t then l[t - j]? else none
  | [], j, t => by simp [idxBlks, look]
  | X :: l, j, t => by
    simp only [idxBlks, look]
    by_cases e : t = j
    · subst e; simp
    · have : Nat.beq t j = false := beq_ne e
      simp only [this, cond_false]
      rw [look_idxBlks l (j + 1) t]
      by_cases h : j + 1 ≤ t
      · rw [if_pos h, if_pos (by omega), show t - j = (t - (j + 1)) + 1 by omega]; simp
      · rw [if_neg h, if_neg (by omega)]

/-- the state in which a function begins: its arguments' blocks, and no other -/
def st0 (H0 : List Blk) : LSt := ⟨idxBlks H0 0, H0.length, [], 0, []⟩

theorem st0_H (H0 : List Blk) (i : Nat) : (over (Emp 0) (st0 H0)).H i = H0[i]? := by
  show (match look (idxBlks H0 0) i with | some X => some X | none => none) = _
  rw [look_idxBlks]
  simp only [Nat.zero_le, if_true, Nat.sub_zero]
  cases H0[i]? <;> rfl

theorem over_H (s : LSt) (i : Nat) : (over (Emp 0) s).H i = look s.H i := by
  show (match look s.H i with | some X => some X | none => none) = _
  cases look s.H i <;> rfl

theorem over_own (s : LSt) (k : Nat) : (over (Emp 0) s).own k = s.own.any (Nat.beq k) := by
  show (s.own.any (Nat.beq k) || false) = _
  simp

/-- What a call comes to: H0: the blocks that its arguments lead to, at the numbers 0, 1, ..; H1: these behind it, and the new ones; nst: how many stamps its result has. -/
def CTri (P : Program) (f : FuncId) (H0 : List Blk) (args : List AV) (res : AV) (H1 : List Blk) (nst : Nat) : Prop :=
  ∀ G0 W cargs, Base H0.length G0 → RelS G0 (over (Emp 0) (st0 H0)) W → VL G0 W args cargs.toList →
    Calls P f cargs W fun e W' => ∃ u G' s', e = .returned u ∧ Ext G0 W G' W' ∧ RelS G' (over (Emp 0) s') W' ∧ V G' W' res u ∧
      (∀ i X, H1[i]? = some X → look s'.H i = some X) ∧ ∀ k, k < nst → s'.own.any (Nat.beq k) = true

def cren (ι : List Nat) (nx i : Nat) : Nat := match ι[i]? with | some j => j | none => nx + (i - ι.length)
def cst (ns nst k : Nat) : Option Nat := bif Nat.blt k nst then some (ns + k) else none
def noSt (_ : Nat) : Option Nat := none

def wrs (r : Nat → Nat) (f : Nat → Option Nat) : List Nat → List Blk → List Blk → List (Nat × Blk × Blk)
  | i :: ι, X :: H0, Y :: H1 => (i, X.ren r noSt, Y.ren r f) :: wrs r f ι H0 H1
  | _, _, _ => []
def als (r : Nat → Nat) (f : Nat → Option Nat) : Nat → List Blk → List (Nat × Blk)
  | nx, Y :: H1 => (nx, Y.ren r f) :: als r f (nx + 1) H1
  | _, [] => []

def callLA (ι : List Nat) (nx ns : Nat) (H0 H1 : List Blk) (nst : Nat) (res : AV) : LA :=
  { ev := fun _ => .val undef
    wr := wrs (cren ι nx) (cst ns nst) ι H0 H1
    al := als (cren ι nx) (cst ns nst) nx (H1.drop ι.length)
    ns := ns
    new := nst
    v := res.ren (cren ι nx) (cst ns nst) }

theorem wrs_mem {r : Nat → Nat} {f : Nat → Option Nat} : ∀ (ι : List Nat) (H0 H1 : List Blk), ι.length = H0.length → H0.length ≤ H1.length → ∀ (i : Nat) (j : Nat) (X Y : Blk), ι[i]? = some j → H0[i]? = some X → H1[i]? = some Y → (j, X.ren r noSt, Y.ren r f) ∈ wrs r f ι H0 H1
  | [], _, _, _, _, i, j, X, Y, h, _, _ => by simp at h
  | _ :: _, [], _, h, _, _, _, _, _, _, _, _ => by simp at h
  | _ :: _, _ :: _, [], _, h, _, _, _, _, _, _, _ => by simp at h
  | a :: ι, b :: H0, c :: H1, h1, h2, i, j, X, Y, h3, h4, h5 => by
    simp only [wrs, List.mem_cons]
    cases i with
    | zero => simp at h3 h4 h5; subst h3 h4 h5; exact .inl rfl
    | succ i =>
      simp at h3 h4 h5
      exact .inr (wrs_mem ι H0 H1 (by simpa using h1) (by simpa using h2) i j X Y h3 h4 h5)

theorem wrs_of {r : Nat → Nat} {f : Nat → Option Nat} : ∀ (ι : List Nat) (H0 H1 : List Blk) (j : Nat) (X Y : Blk), (j, X, Y) ∈ wrs r f ι H0 H1 → j ∈ ι
  | [], _, _, _, _, _, h => by simp [wrs] at h
  | _ :: _, [], _, _, _, _, h => by simp [wrs] at h
  | _ :: _, _ :: _, [], _, _, _, h => by simp [wrs] at h
  | a :: ι, b :: H0, c :: H1, j, X, Y, h => by
    simp only [wrs, List.mem_cons, Prod.mk.injEq] at h
    rcases h with ⟨rfl, _⟩ | h
    · simp
    · exact List.mem_cons_of_mem _ (wrs_of ι H0 H1 j X Y h)

theorem look_wrs {r : Nat → Nat} {f : Nat → Option Nat} : ∀ (ι : List Nat) (H0 H1 : List Blk), ι.length = H0.length → H0.length ≤ H1.length → ι.Nodup → ∀ (i j : Nat) (Y : Blk), ι[i]? = some j → H1[i]? = some Y → look ((wrs r f ι H0 H1).map fun p => (p.1, p.2.2)) j = some (Y.ren r f)
  | [], _, _, _, _, _, i, j, Y, h, _ => by simp at h
  | _ :: _, [], _, h, _, _, _, _, _, _, _ => by simp at h
  | _ :: _, _ :: _, [], _, h, _, _, _, _, _, _ => by simp at h
  | a :: ι, b :: H0, c :: H1, h1, h2, hn, i, j, Y, h3, h5 => by
    rw [List.nodup_cons] at hn
    simp only [wrs, List.map_cons, look]
    cases i with
    | zero => simp at h3 h5; subst h3 h5; simp
    | succ i =>
      simp at h3 h5
      have hne : j ≠ a := by rintro rfl; exact hn.1 (List.mem_of_getElem? h3)
      rw [beq_ne hne]
      exact look_wrs ι H0 H1 (by simpa using h1) (by simpa using h2) hn.2 i j Y h3 h5

theorem look_wrs_none {r : Nat → Nat} {f : Nat → Option Nat} (ι : List Nat) (H0 H1 : List Blk) {j : Nat} (hj : j ∉ ι) : look ((wrs r f ι H0 H1).map fun p => (p.1, p.2.2)) j = none := by
  refine look_none _ _ fun X hX => ?_
  obtain ⟨q, hq, he⟩ := List.mem_map.1 hX
  simp only [Prod.mk.injEq] at he
  exact hj (he.1 ▸ wrs_of ι H0 H1 q.1 q.2.1 q.2.2 hq)

theorem look_als {r : Nat → Nat} {f : Nat → Option Nat} : ∀ (H1 : List Blk) (nx j : Nat), look (als r f nx H1) j = if nx ≤ j then (H1[j - nx]?).map fun Y => Y.ren r f else none
  | [], nx, j => by simp [als, look]
  | Y :: H1, nx, j => by
    simp only [als, look]
    by_cases e : j = nx
    · subst e; simp
    · rw [beq_ne e]
      simp only [cond_false]
      rw [look_als H1 (nx + 1) j]
      by_cases h : nx + 1 ≤ j
      · rw [if_pos h, if_pos (by omega), show j - nx = (j - (nx + 1)) + 1 by omega]; simp
      · rw [if_neg h, if_neg (by omega)]

theorem als_mem {r : Nat → Nat} {f : Nat → Option Nat} : ∀ (H1 : List Blk) (nx j : Nat) (X : Blk), (j, X) ∈ als r f nx H1 → nx ≤ j ∧ j < nx + H1.length
  | [], _, _, _, h => by simp [als] at h
  | Y :: H1, nx, j, X, h => by
    simp only [als, List.mem_cons, Prod.mk.injEq] at h
    rcases h with ⟨rfl, _⟩ | h
    · simp
    · have := als_mem H1 (nx + 1) j X h
      simp only [List.length_cons]; omega

theorem als_has {r : Nat → Nat} {f : Nat → Option Nat} : ∀ (H1 : List Blk) (nx j : Nat), nx ≤ j → j < nx + H1.length → ∃ X, (j, X) ∈ als r f nx H1
  | [], nx, j, h1, h2 => by simp at h2; omega
  | Y :: H1, nx, j, h1, h2 => by
    simp only [List.length_cons] at h2
    by_cases e : j = nx
    · subst e; exact ⟨_, List.mem_cons_self ..⟩
    · obtain ⟨X, hX⟩ := als_has H1 (nx + 1) j (by omega) (by omega)
      exact ⟨X, List.mem_cons_of_mem _ hX⟩

theorem CTri.uni {P : Program} {f : FuncId} {H0 : List Blk} {args : List AV} {res : AV} {H1 : List Blk} {nst : Nat} (h : CTri P f H0 args res H1 nst)
    (hargs : AV.argL (fun i => i < H0.length) args) (hH0 : ∀ X ∈ H0, X.arg (fun i => i < H0.length)) (hres : res.fine (fun i => i < H1.length)) (hH1 : ∀ X ∈ H1, X.fine (fun i => i < H1.length))
    (ι : List Nat) (hι : ι.length = H0.length) (hle : H0.length ≤ H1.length) (hn : ι.Nodup) (nx ns : Nat) :
    UTri P f (AV.renL (cren ι nx) noSt args) (callLA ι nx ns H0 H1 nst res) := by
  intro G σ w cargs hR hv hc
  -- the arguments' blocks, at the caller's numbers
  have hin : ∀ i, i < H0.length → ∃ j, ι[i]? = some j ∧ cren ι nx i = j := by
    intro i hi
    have hi' : i < ι.length := by omega
    exact ⟨ι[i], List.getElem?_eq_getElem hi', by simp [cren, List.getElem?_eq_getElem hi']⟩
  have hblk : ∀ (i : Nat) (X : Blk) (j : Nat), H0[i]? = some X → ι[i]? = some j → σ.H j = some (X.ren (cren ι nx) noSt) := by
    intro i X j hX hj
    have hlt : i < H1.length := by have := (List.getElem?_eq_some_iff.1 hX).1; omega
    exact hc.wr j _ _ (wrs_mem ι H0 H1 hι hle i j X _ hj hX (List.getElem?_eq_getElem hlt))
  have hnew : ∀ j, nx ≤ j → j < nx + (H1.length - H0.length) → σ.H j = none := by
    intro j h1 h2
    obtain ⟨X, hX⟩ := als_has (r := cren ι nx) (f := cst ns nst) (H1.drop ι.length) nx j h1 (by rw [List.length_drop, hι]; exact h2)
    exact hc.al j X hX
  -- the arguments' blocks live
  have notdead : ∀ {i j : Nat}, ι[i]? = some j → σ.H j ≠ some .dead := by
    intro i j hj hd
    have hi : i < H0.length := by have := (List.getElem?_eq_some_iff.1 hj).1; omega
    have h1 := hblk i _ j (List.getElem?_eq_getElem hi) hj
    rw [hd] at h1
    have h2 := hH0 _ (List.getElem_mem hi)
    cases hX : H0[i] with
    | dead => rw [hX] at h2; exact h2
    | cells cs => rw [hX] at h1; cases h1
    | obj o => rw [hX] at h1; cases h1
    | row cs => rw [hX] at h1; cases h1
  have alive : ∀ {i i' j j' b : Nat}, ι[i]? = some j → ι[i']? = some j' → G.ρ j = some b → G.ρ j' = some b → j = j' := by
    intro i i' j j' b hj hj' e e'
    rcases hR.inj j j' b e e' with q | q | q
    · exact q
    · exact (notdead hj q).elim
    · exact (notdead hj' q).elim
  let F0 : Nat → Prop := fun b => b < w.heap.size ∧ ∀ i ∈ ι, G.ρ i ≠ some b
  let G0 : Gh := ⟨fun i => (ι[i]?).bind G.ρ, fun _ => none, G.L, w, F0⟩
  have hρ0 : ∀ i j, ι[i]? = some j → G0.ρ i = G.ρ j := by intro i j e; show (ι[i]?).bind G.ρ = _; rw [e]; rfl
  have hρ0' : ∀ i b, G0.ρ i = some b → ∃ j, ι[i]? = some j ∧ G.ρ j = some b := by
    intro i b e
    have e' : (ι[i]?).bind G.ρ = some b := e
    cases hj : ι[i]? with
    | none => rw [hj] at e'; cases e'
    | some j => rw [hj] at e'; exact ⟨j, rfl, e'⟩
  have hB : Base H0.length G0 := ⟨fun i hi => by replace hi : H0.length ≤ i := hi; show (ι[i]?).bind G.ρ = none; rw [List.getElem?_eq_none (by omega)]; rfl, fun _ => rfl, fun b o e => ⟨hR.L_lt e, fun i _ => (hR.live b o e).2 i⟩, trivial⟩
  have hR0 : RelS G0 (over (Emp 0) (st0 H0)) w := by
    refine ⟨fun i => ?_, ⟨H0.length, fun i hi => ?_⟩, fun i i' b e1 e2 => ?_, fun i b X e1 e2 => ?_, fun b o e => ?_, fun _ _ => rfl, fun k hk => ?_, fun k k' b f t f' t' hk => ?_, Keep.refl _ _, fun k hk => hk.1⟩
    · rw [st0_H]
      constructor
      · intro e
        cases hX : H0[i]? with
        | none => rfl
        | some X =>
          obtain ⟨j, hj, _⟩ := hin i (List.getElem?_eq_some_iff.1 hX).1
          obtain ⟨b, hb, _⟩ := hR.look (hblk i X j hX hj)
          rw [hρ0 i j hj, hb] at e; cases e
      · intro e
        exact hB.ρ i (List.getElem?_eq_none_iff.1 e)
    · rw [st0_H]; exact List.getElem?_eq_none hi
    · obtain ⟨j, hj, e3⟩ := hρ0' i b e1
      obtain ⟨j', hj', e4⟩ := hρ0' i' b e2
      left
      have := alive hj hj' e3 e4
      subst this
      exact (List.getElem?_inj (List.getElem?_eq_some_iff.1 hj).1 hn).1 (hj.trans hj'.symm)
    · rw [st0_H] at e2
      obtain ⟨j, hj, e3⟩ := hρ0' i b e1
      obtain ⟨q1, q2⟩ := hR.blk j b _ e3 (hblk i X j e2 hj)
      refine ⟨fun hF => hF.2 j (List.mem_of_getElem? hj) e3, BlkOk.unren (G := G) (G' := G0) (r := cren ι nx) (f := noSt) (fun i hi => ?_) (fun _ _ e => e) (hH0 X (List.mem_of_getElem? e2)) q2⟩
      obtain ⟨j', hj', e5⟩ := hin i hi
      rw [hρ0 i j' hj', e5]
    · obtain ⟨q1, q2⟩ := hR.live b o e
      refine ⟨q1, fun i hi => ?_⟩
      obtain ⟨j, _, e3⟩ := hρ0' i b hi
      exact q2 j e3
    · simp [over_own, st0] at hk
    · simp [over_own, st0] at hk
  have hv0 : VL G0 w args cargs.toList := VL.unren (G := G) (G' := G0) (r := cren ι nx) (f := noSt) (fun i hi => by
    obtain ⟨j, hj, e⟩ := hin i hi
    rw [hρ0 i j hj, e]) (fun _ _ e => e) _ _ hargs hv
  refine (h G0 w cargs hB hR0 hv0).mono fun e w' he => ?_
  obtain ⟨u, G₁, s₁, rfl, hE, hR₁, hu, hH1', hst⟩ := he
  have hkeep : Keep F0 w w' := by
    have := hR₁.below
    rw [hE.w0, hE.F] at this
    exact this
  let m := H1.length - H0.length
  let G' : Gh := ⟨fun i => if nx ≤ i ∧ i < nx + m then G₁.ρ (H0.length + (i - nx)) else G.ρ i, fun k => if k < σ.ns then G.τ k else if k < σ.ns + nst then G₁.τ (k - σ.ns) else none, G₁.L, G.w0, G.F⟩
  have ρnew : ∀ i, nx ≤ i → i < nx + m → G'.ρ i = G₁.ρ (H0.length + (i - nx)) := fun i a b => if_pos ⟨a, b⟩
  have ρold : ∀ i, σ.H i ≠ none → G'.ρ i = G.ρ i := by
    intro i hi
    refine if_neg fun e => hi (hnew i e.1 e.2)
  have ρarg : ∀ i j, ι[i]? = some j → G₁.ρ i = G.ρ j ∧ G'.ρ j = G.ρ j := by
    intro i j hj
    have hi : i < H0.length := by have := (List.getElem?_eq_some_iff.1 hj).1; omega
    have hX := hblk i _ j (List.getElem?_eq_getElem hi) hj
    obtain ⟨b, hb, _⟩ := hR.look hX
    exact ⟨by rw [hb]; exact hE.ρ i b (by rw [hρ0 i j hj]; exact hb), ρold j (by rw [hX]; simp)⟩
  -- where a block comes from
  have pre : ∀ i b, G'.ρ i = some b → (∃ i₁, G₁.ρ i₁ = some b ∧ cren ι nx i₁ = i ∧ i₁ < H1.length ∧ (ι[i₁]? = some i ∨ (nx ≤ i ∧ i < nx + m ∧ i₁ = H0.length + (i - nx)))) ∨ (G.ρ i = some b ∧ (F0 b ∨ σ.H i = some .dead) ∧ i ∉ ι ∧ ¬ (nx ≤ i ∧ i < nx + m)) := by
    intro i b e
    by_cases hi : nx ≤ i ∧ i < nx + m
    · rw [ρnew i hi.1 hi.2] at e
      refine .inl ⟨H0.length + (i - nx), e, ?_, by omega, .inr ⟨hi.1, hi.2, rfl⟩⟩
      unfold cren
      rw [List.getElem?_eq_none (by omega)]
      simp only; omega
    · have e' : G.ρ i = some b := by have : G'.ρ i = G.ρ i := if_neg hi; rw [← this]; exact e
      by_cases hm : i ∈ ι
      · obtain ⟨t, ht, rfl⟩ := List.getElem_of_mem hm
        have hj : ι[t]? = some ι[t] := List.getElem?_eq_getElem ht
        refine .inl ⟨t, by rw [(ρarg t _ hj).1]; exact e', by simp [cren, hj], by omega, .inl hj⟩
      · refine .inr ⟨e', ?_, hm, hi⟩
        by_cases hd : σ.H i = some .dead
        · exact .inr hd
        · refine .inl ⟨hR.ρ_lt e', fun j hj e2 => ?_⟩
          obtain ⟨t, ht, rfl⟩ := List.getElem_of_mem hj
          rcases hR.inj _ i b e2 e' with q | q | q
          · exact hm (q ▸ hj)
          · exact notdead (List.getElem?_eq_getElem ht) q
          · exact hd q
  have notF0 : ∀ {b : Nat}, ¬ F0 b → b < w.heap.size → ∃ t : Nat, G₁.ρ t = some b ∧ G0.ρ t = some b := by
    intro b h1 h2
    obtain ⟨j, hj, e⟩ : ∃ j, j ∈ ι ∧ G.ρ j = some b := by
      refine Classical.byContradiction fun hn' => h1 ⟨h2, fun j hj e => hn' ⟨j, hj, e⟩⟩
    obtain ⟨t, ht, rfl⟩ := List.getElem_of_mem hj
    exact ⟨t, by rw [(ρarg t _ (List.getElem?_eq_getElem ht)).1]; exact e, by rw [hρ0 t _ (List.getElem?_eq_getElem ht)]; exact e⟩
  have hF : ∀ b, ¬ F0 b → ¬ G.F b := by
    intro b hb hG
    apply hb
    refine ⟨hR.base b hG, fun i _ e => ?_⟩
    obtain ⟨X, hX⟩ := hR.has e
    exact (hR.blk i b X e hX).1 hG
  have hLsub : ∀ b o, G.L b o → G₁.L b o := hE.L
  have hnewL : ∀ b o, G₁.L b o → G.L b o ∨ ¬ F0 b := hE.newL
  have hcell : ∀ b o, G.L b o → w'.cell? ⟨b, o, none⟩ = w.cell? ⟨b, o, none⟩ := hE.cell
  have hExt : Ext G w G' w' := by
    refine ⟨fun i b e => ?_, fun k q e => ?_, hLsub, hcell, rfl, rfl, fun b o e => (hnewL b o e).imp id (hF b), fun i b k e r => ?_⟩
    rotate_left 2
    · by_cases hb : F0 b
      · exact r.same (hkeep.block b hb)
      · obtain ⟨t, _, h2⟩ := notF0 hb r.lt
        exact hE.room t b k h2 r
    · obtain ⟨X, hX⟩ := hR.has e
      rw [ρold i (by rw [hX]; simp)]; exact e
    · have : k < σ.ns := by
        rcases Nat.lt_or_ge k σ.ns with e1 | e1
        · exact e1
        · rw [hR.τns k e1] at e; cases e
      show (if k < σ.ns then _ else _) = _
      rw [if_pos this]; exact e
  have hns : nst ≠ 0 → ns = σ.ns := fun e => hc.ns (.inr (.inl e))
  have hren : Ren G₁ G' (cren ι nx) (cst ns nst) (fun i => i < H1.length) := by
    refine ⟨fun b hb => hF b (by rw [hE.F] at hb; exact hb), fun i b hi e => ?_, fun k k' q hk hq => ?_, fun _ _ e => e⟩
    · by_cases hi' : i < H0.length
      · obtain ⟨j, hj, e1⟩ := hin i hi'
        rw [e1, (ρarg i j hj).2, ← (ρarg i j hj).1]; exact e
      · have e1 : cren ι nx i = nx + (i - ι.length) := by
          unfold cren
          rw [List.getElem?_eq_none (by omega)]
        rw [e1, ρnew _ (by omega) (by omega)]
        rw [show H0.length + (nx + (i - ι.length) - nx) = i by omega]; exact e
    · unfold cst at hk
      cases hb : Nat.blt k nst with
      | false => rw [hb] at hk; cases hk
      | true =>
        rw [hb] at hk
        simp only [cond_true, Option.some.injEq] at hk
        subst hk
        have hlt : k < nst := by simpa using hb
        have := hns (by omega)
        subst this
        show (if σ.ns + k < σ.ns then _ else if σ.ns + k < σ.ns + nst then G₁.τ (σ.ns + k - σ.ns) else none) = _
        rw [if_neg (by omega), if_pos (by omega), show σ.ns + k - σ.ns = k by omega]
        exact hq
  -- the blocks behind the call
  have happ : ∀ i, ((callLA ι nx ns H0 H1 nst res).app σ).H i = match look (als (cren ι nx) (cst ns nst) nx (H1.drop ι.length)) i with | some X => some X | none => (match look ((wrs (cren ι nx) (cst ns nst) ι H0 H1).map fun p => (p.1, p.2.2)) i with | some X => some X | none => σ.H i) := by
    intro i
    show ups (ups σ.H ((wrs (cren ι nx) (cst ns nst) ι H0 H1).map fun p => (p.1, p.2.2))) (als (cren ι nx) (cst ns nst) nx (H1.drop ι.length)) i = _
    rw [look_ups, look_ups] <;> rfl
  have happNew : ∀ i, nx ≤ i → i < nx + m → ∃ Y : Blk, H1[H0.length + (i - nx)]? = some Y ∧ ((callLA ι nx ns H0 H1 nst res).app σ).H i = some (Y.ren (cren ι nx) (cst ns nst)) := by
    intro i h1 h2
    have hlt : H0.length + (i - nx) < H1.length := by omega
    refine ⟨H1[H0.length + (i - nx)], List.getElem?_eq_getElem hlt, ?_⟩
    rw [happ, look_als, if_pos h1, List.getElem?_drop, hι, List.getElem?_eq_getElem hlt]
    rfl
  have hnotnew : ∀ i, ¬ (nx ≤ i ∧ i < nx + m) → look (als (cren ι nx) (cst ns nst) nx (H1.drop ι.length)) i = none := by
    intro i hi
    rw [look_als]
    split
    · rw [List.getElem?_eq_none (by rw [List.length_drop]; omega)]; rfl
    · rfl
  have happArg : ∀ (t j : Nat), ι[t]? = some j → ∃ Y : Blk, H1[t]? = some Y ∧ ((callLA ι nx ns H0 H1 nst res).app σ).H j = some (Y.ren (cren ι nx) (cst ns nst)) := by
    intro t j hj
    have ht : t < H0.length := by have := (List.getElem?_eq_some_iff.1 hj).1; omega
    have hlt : t < H1.length := by omega
    refine ⟨H1[t], List.getElem?_eq_getElem hlt, ?_⟩
    have hX := hblk t _ j (List.getElem?_eq_getElem ht) hj
    rw [happ, hnotnew j (fun e => by rw [hnew j e.1 e.2] at hX; cases hX), look_wrs ι H0 H1 hι hle hn t j _ hj (List.getElem?_eq_getElem hlt)]
  have happOld : ∀ i, i ∉ ι → ¬ (nx ≤ i ∧ i < nx + m) → ((callLA ι nx ns H0 H1 nst res).app σ).H i = σ.H i := by
    intro i h1 h2
    rw [happ, hnotnew i h2, look_wrs_none ι H0 H1 h1]
  have hown : ∀ k, ((callLA ι nx ns H0 H1 nst res).app σ).own k = true → (k < σ.ns ∧ σ.own k = true ∧ G'.τ k = G.τ k) ∨ (σ.ns ≤ k ∧ k < σ.ns + nst ∧ G'.τ k = G₁.τ (k - σ.ns) ∧ (over (Emp 0) s₁).own (k - σ.ns) = true) := by
    intro k hk
    have hk' : (if σ.ns ≤ k ∧ k < σ.ns + nst then true else if k ∈ ([] : List Nat) then false else σ.own k) = true := hk
    by_cases h1 : σ.ns ≤ k ∧ k < σ.ns + nst
    · refine .inr ⟨h1.1, h1.2, ?_, ?_⟩
      · show (if k < σ.ns then _ else _) = _
        rw [if_neg (by omega), if_pos h1.2]
      · rw [over_own]; exact hst _ (by omega)
    · rw [if_neg h1, if_neg (by simp)] at hk'
      have := hR.own_lt hk'
      refine .inl ⟨this, hk', ?_⟩
      show (if k < σ.ns then _ else _) = _
      rw [if_pos this]
  have hpreN : ∀ b, (∀ i, G₁.ρ i ≠ some b) → ¬ F0 b → ∀ i, G'.ρ i ≠ some b := by
    intro b h1 h2 i e
    rcases pre i b e with ⟨i₁, e1, _⟩ | ⟨e0, e2, _⟩
    · exact h1 i₁ e1
    · obtain ⟨t, q1, _⟩ := notF0 h2 (hR.ρ_lt e0)
      exact h1 t q1
  refine ⟨u, G', rfl, hExt, ⟨?_, ?_, ?_, ?_, ?_, ?_, ?_, ?_, ?_, ?_⟩, V.ren hren res u hres hu⟩
  · intro i
    constructor
    · intro e
      by_cases h1 : nx ≤ i ∧ i < nx + m
      · exfalso
        obtain ⟨Y, hY, _⟩ := happNew i h1.1 h1.2
        rw [ρnew i h1.1 h1.2] at e
        have := (hR₁.dom _).1 e
        rw [over_H, hH1' _ _ hY] at this; cases this
      · have e' : G.ρ i = none := by have : G'.ρ i = G.ρ i := if_neg h1; rw [← this]; exact e
        by_cases h2 : i ∈ ι
        · exfalso
          obtain ⟨t, ht, rfl⟩ := List.getElem_of_mem h2
          have hX := hblk t _ _ (List.getElem?_eq_getElem (by omega)) (List.getElem?_eq_getElem ht)
          rw [(hR.dom _).1 e'] at hX; cases hX
        · rw [happOld i h2 h1]; exact (hR.dom i).1 e'
    · intro e
      cases hb : G'.ρ i with
      | none => rfl
      | some b =>
        exfalso
        rcases pre i b hb with ⟨i₁, _, _, _, h2 | ⟨h2, h3, _⟩⟩ | ⟨e1, _, h2, h3⟩
        · obtain ⟨Y, _, hY⟩ := happArg i₁ _ h2
          rw [hY] at e; cases e
        · obtain ⟨Y, _, hY⟩ := happNew i h2 h3
          rw [hY] at e; cases e
        · rw [happOld i h2 h3] at e
          rw [(hR.dom i).2 e] at e1; cases e1
  · obtain ⟨N, hN⟩ := hR.fin
    refine ⟨N + nx + m + ι.foldr (fun i s => i + 1 + s) 0, fun i hi => ?_⟩
    have big : ∀ (l : List Nat) i, i ∈ l → i < l.foldr (fun i s => i + 1 + s) 0 := by
      intro l
      induction l with
      | nil => intro i hi; cases hi
      | cons x l ih =>
        intro i hi
        simp only [List.foldr_cons]
        rcases List.mem_cons.1 hi with rfl | hi
        · omega
        · have := ih i hi; omega
    rw [happOld i (fun hm => by have := big _ i hm; omega) (by omega)]
    exact hN i (by omega)
  · intro i i' b e1 e2
    have hdead : ∀ {i a : Nat}, (ι[a]? = some i ∨ (nx ≤ i ∧ i < nx + m ∧ a = H0.length + (i - nx))) → (over (Emp 0) s₁).H a = some .dead → ((callLA ι nx ns H0 H1 nst res).app σ).H i = some .dead := by
      intro i a hc hd
      have : ∃ Y : Blk, H1[a]? = some Y ∧ ((callLA ι nx ns H0 H1 nst res).app σ).H i = some (Y.ren (cren ι nx) (cst ns nst)) := by
        rcases hc with hc | ⟨h1, h2, rfl⟩
        · exact happArg a i hc
        · exact happNew i h1 h2
      obtain ⟨Y, h1, h2⟩ := this
      rw [over_H, hH1' _ _ h1] at hd
      cases hd
      rw [h2]; rfl
    rcases pre i b e1 with ⟨a, q1, q2, q3, q4⟩ | ⟨q1, q2, q3, q4⟩ <;> rcases pre i' b e2 with ⟨a', p1, p2, p3, p4⟩ | ⟨p1, p2, p3, p4⟩
    · rcases hR₁.inj a a' b q1 p1 with this | this | this
      · left; subst this; rw [← q2, ← p2]
      · exact .inr (.inl (hdead q4 this))
      · exact .inr (.inr (hdead p4 this))
    · rcases p2 with p2 | p2
      · exfalso
        obtain ⟨X, hX⟩ := hR₁.has q1
        have := (hR₁.blk a b X q1 hX).1
        rw [hE.F] at this; exact this p2
      · exact .inr (.inr (by rw [happOld i' p3 p4]; exact p2))
    · rcases q2 with q2 | q2
      · exfalso
        obtain ⟨X, hX⟩ := hR₁.has p1
        have := (hR₁.blk a' b X p1 hX).1
        rw [hE.F] at this; exact this q2
      · exact .inr (.inl (by rw [happOld i q3 q4]; exact q2))
    · rw [happOld i q3 q4, happOld i' p3 p4]
      exact hR.inj i i' b q1 p1
  · intro i b X hb hX
    rcases pre i b hb with ⟨i₁, e1, _, e3, hcase⟩ | ⟨e1, e2, e3, e4⟩
    · have hX' : ∃ Y : Blk, H1[i₁]? = some Y ∧ X = Y.ren (cren ι nx) (cst ns nst) := by
        rcases hcase with h2 | ⟨h2, h3, rfl⟩
        · obtain ⟨Y, hY, hY'⟩ := happArg i₁ _ h2
          rw [hX] at hY'; cases hY'
          exact ⟨Y, hY, rfl⟩
        · obtain ⟨Y, hY, hY'⟩ := happNew i h2 h3
          rw [hX] at hY'; cases hY'
          exact ⟨Y, hY, rfl⟩
      obtain ⟨Y, hY, rfl⟩ := hX'
      obtain ⟨q1, q2⟩ := hR₁.blk i₁ b Y e1 (by rw [over_H]; exact hH1' _ _ hY)
      rw [hE.F] at q1
      exact ⟨hF b q1, q2.ren hren (hH1 Y (List.mem_of_getElem? hY))⟩
    · rw [happOld i e3 e4] at hX
      obtain ⟨q1, q2⟩ := hR.blk i b X e1 hX
      rcases e2 with e2 | e2
      · exact ⟨q1, q2.mono hExt (hkeep.block b e2)⟩
      · rw [e2] at hX; cases hX
        exact ⟨q1, Nat.lt_of_lt_of_le q2 hkeep.size⟩
  · intro b o hL
    obtain ⟨q1, q2⟩ := hR₁.live b o hL
    refine ⟨q1, fun i e => ?_⟩
    rcases pre i b e with ⟨i₁, e1, _⟩ | ⟨e1, e2, _⟩
    · exact q2 i₁ e1
    · rcases hnewL b o hL with q | q
      · exact (hR.live b o q).2 i e1
      · obtain ⟨t, q3, _⟩ := notF0 q (hR.ρ_lt e1)
        exact q2 t q3
  · intro k hk
    have hk' : σ.ns + nst ≤ k := hk
    show (if k < σ.ns then _ else if k < σ.ns + nst then _ else none) = none
    rw [if_neg (by omega), if_neg (by omega)]
  · intro k hk
    rcases hown k hk with ⟨_, h2, h3⟩ | ⟨_, _, h3, h4⟩
    · obtain ⟨b, f', t, q1, q2 | ⟨q2, q3, q4, vs, T, q5, q6⟩⟩ := hR.own k h2
      · exact ⟨b, f', t, h3.trans q1, .inl q2⟩
      have hb : b < w.heap.size := (Array.getElem?_eq_some_iff.1 q5).1
      have hFb : F0 b := ⟨hb, fun i _ => q3 i⟩
      refine ⟨b, f', t, h3.trans q1, .inr ⟨q2, fun i e => ?_, fun o ho ht hL => ?_, vs, T, (hkeep.block b hFb).trans q5, q6⟩⟩
      · rcases pre i b e with ⟨i₁, e1, _⟩ | ⟨e1, _⟩
        · obtain ⟨X, hX⟩ := hR₁.has e1
          have := (hR₁.blk i₁ b X e1 hX).1
          rw [hE.F] at this; exact this hFb
        · exact q3 i e1
      · rcases hnewL b o hL with q | q
        · exact q4 o ho ht q
        · exact q hFb
    · obtain ⟨b, f', t, q1, q2 | ⟨q2, q3, q4, q5⟩⟩ := hR₁.own _ h4
      · exact ⟨b, f', t, h3.trans q1, .inl q2⟩
      rw [hE.F] at q2
      exact ⟨b, f', t, h3.trans q1, .inr ⟨hF b q2, hpreN b q3 q2, q4, q5⟩⟩
  · intro k k' b f1 t1 f2 t2 hk hk' ht ht' l1 l2
    rcases hown k hk with ⟨a1, a2, a3⟩ | ⟨a1, a2, a3, a4⟩ <;> rcases hown k' hk' with ⟨c1, c2, c3⟩ | ⟨c1, c2, c3, c4⟩
    · rw [a3] at ht; rw [c3] at ht'; exact hR.ownd k k' b f1 t1 f2 t2 a2 c2 ht ht' l1 l2
    · exfalso
      rw [a3] at ht
      obtain ⟨b', f', t, q1, q2 | ⟨q2, q3, q4, vs, T, q5, q6⟩⟩ := hR.own k a2
      · rw [ht] at q1; cases q1; omega
      rw [ht] at q1; cases q1
      have hb : b < w.heap.size := (Array.getElem?_eq_some_iff.1 q5).1
      obtain ⟨b', f', t, p1, p2 | ⟨p2, _⟩⟩ := hR₁.own _ c4
      · rw [← c3, ht'] at p1; cases p1; omega
      rw [← c3, ht'] at p1; cases p1
      rw [hE.F] at p2
      exact p2 ⟨hb, fun i _ => q3 i⟩
    · exfalso
      rw [c3] at ht'
      obtain ⟨b', f', t, q1, q2 | ⟨q2, q3, q4, vs, T, q5, q6⟩⟩ := hR.own k' c2
      · rw [ht'] at q1; cases q1; omega
      rw [ht'] at q1; cases q1
      have hb : b < w.heap.size := (Array.getElem?_eq_some_iff.1 q5).1
      obtain ⟨b', f', t, p1, p2 | ⟨p2, _⟩⟩ := hR₁.own _ a4
      · rw [← a3, ht] at p1; cases p1; omega
      rw [← a3, ht] at p1; cases p1
      rw [hE.F] at p2
      exact p2 ⟨hb, fun i _ => q3 i⟩
    · rw [a3] at ht; rw [c3] at ht'
      have := hR₁.ownd _ _ b f1 t1 f2 t2 a4 c4 ht ht' l1 l2
      omega
  · have hb := hR.below
    refine hb.trans ⟨hkeep.os, hkeep.tape, hkeep.output, hkeep.size, fun k hk => hkeep.block k ⟨hR.base k hk, fun i _ e => ?_⟩⟩
    obtain ⟨X, hX⟩ := hR.has e
    exact (hR.blk i k X e hX).1 hk
  · intro k hk
    exact Nat.lt_of_lt_of_le (hR.base k hk) hkeep.size

end Go.Ab

namespace Go.Ab
open Go Go.RowKit

mutual
/-- a value that owns nothing (what lies in slices stays as it is) -/
def AV.frz : AV → AV
  | .val v => .val v
  | .agg cs => .agg (AV.frzL cs)
  | .tup cs => .tup (AV.frzL cs)
  | .sl es n _ => .sl es n .no
  | .ip es => .ip es
  | .mp i off => .mp i off
  | .ms i off n c sz => .ms i off n c sz
  | .obj i => .obj i
  | .clo g fs cs => .clo g (AV.frzL fs) (AV.frzL cs)
def AV.frzL : List AV → List AV
  | [] => []
  | a :: l => AV.frz a :: AV.frzL l
end

theorem frzL_append : ∀ a b : List AV, AV.frzL (a ++ b) = AV.frzL a ++ AV.frzL b
  | [], _ => rfl
  | x :: a, b => by simp only [List.cons_append, AV.frzL, frzL_append a b]

theorem frzL_length : ∀ a : List AV, (AV.frzL a).length = a.length
  | [] => rfl
  | _ :: a => by simp [AV.frzL, frzL_length a]

theorem frzL_map {α : Type} (f : α → AV) : ∀ l : List α, AV.frzL (l.map f) = l.map fun x => (f x).frz
  | [] => rfl
  | x :: l => by simp only [List.map_cons, AV.frzL, frzL_map f l]

mutual
theorem V.frz {G : Gh} {w : World} : ∀ (a : AV) (u : Value), V G w a u → V G w a.frz u
  | .val v, u, hv => hv
  | .agg cs, u, hv => by
    simp only [V, AV.frz] at hv ⊢
    obtain ⟨vs, rfl, hl⟩ := hv
    exact ⟨vs, rfl, VL.frz cs vs hl⟩
  | .tup cs, u, hv => by
    simp only [V, AV.frz] at hv ⊢
    obtain ⟨vs, rfl, hl⟩ := hv
    exact ⟨vs, rfl, VL.frz cs vs hl⟩
  | .sl es n o, u, hv => by
    simp only [V, AV.frz] at hv ⊢
    obtain ⟨cap, hc, hh⟩ := hv
    refine ⟨cap, hc, ?_⟩
    rcases hh with ⟨rfl, h2, h3, h4, h5⟩ | ⟨b, off, hu, hcells, ho⟩
    · exact .inl ⟨rfl, h2, h3, h4, trivial⟩
    · exact .inr ⟨b, off, hu, hcells, trivial⟩
  | .ip es, u, hv => hv
  | .mp i off, u, hv => hv
  | .ms i off n c sz, u, hv => hv
  | .obj i, u, hv => hv
  | .clo g fs cs, u, hv => by
    simp only [V, AV.frz] at hv ⊢
    obtain ⟨l, r', hu, h1, h2⟩ := hv
    exact ⟨l, r', hu, VL.frz fs l h1, VL.frz cs r' h2⟩
theorem VL.frz {G : Gh} {w : World} : ∀ (as0 : List AV) (us : List Value), VL G w as0 us → VL G w (AV.frzL as0) us
  | [], [], _ => by simp only [AV.frzL, VL]
  | a :: as0, u :: us, hv => by
    simp only [VL, AV.frzL] at hv ⊢
    exact ⟨V.frz a u hv.1, VL.frz as0 us hv.2⟩
  | [], _ :: _, hv => by simp only [VL] at hv
  | _ :: _, [], hv => by simp only [VL] at hv
end

theorem VC.frz {G : Gh} {w : World} : ∀ (as0 : List AV) (b off : Nat), VC G w as0 b off → VC G w (AV.frzL as0) b off
  | [], _, _, _ => by simp only [AV.frzL, VC]
  | a :: as0, b, off, h => by
    simp only [VC, AV.frzL] at h ⊢
    obtain ⟨h1, ⟨v, h2, h3⟩, h4⟩ := h
    exact ⟨h1, ⟨v, h2, V.frz a v h3⟩, VC.frz as0 b (off + 1) h4⟩

/-- what an operation makes: the elements of a new slice own nothing -/
def tidy (op : Op) (v : AV) : AV :=
  match op, v with
  | .buildSlice _ _ _, .sl es n o => .sl (AV.frzL es) n o
  | _, v => v

theorem V.tidy {G : Gh} {w : World} {op : Op} {v : AV} {u : Value} (h : V G w v u) : V G w (tidy op v) u := by
  unfold Ab.tidy
  split
  · simp only [V] at h ⊢
    obtain ⟨cap, hc, hh⟩ := h
    refine ⟨cap, hc, ?_⟩
    rcases hh with ⟨rfl, h2, h3, h4, h5⟩ | ⟨b, off, hu, hcells, ho⟩
    · exact .inl ⟨rfl, h2, h3, h4, h5⟩
    · exact .inr ⟨b, off, hu, VC.frz _ _ _ hcells, by rw [frzL_length]; exact ho⟩
  · exact h

/-- what is given -/
inductive Orc where
  | no
  | bit (b : Bool)
  | av (a : AV)
  | app (es : List AV) (n sz : Nat) (empty : Bool)
  | sl (es : List AV) (n : Nat)
  | fz (a : AV)
  | lk (a : AV)
  | mu (Y : Blk)
  | mk (cs : List AV) (n : Nat)
  | ld (a : AV)
  | wt (cs : List AV)
  | same
  | inp (cs : List AV)
  | clr
  | call (ι : List Nat) (H1 : List Blk) (nst : Nat) (res : AV) (b : Option Bool)

/-- an append, whoever owns -/
def appLA (ev : Operand → AV) (ns : Nat) (own : List Nat) (o : Own) (es' : List AV) (n' sz : Nat) (empty : Bool) : Option LA :=
  bif empty then some { ev := ev, v := .sl es' n' o }
  else match o with
    | .full => some { ev := ev, ns := ns, new := 1, v := .sl es' n' (.st ns sz) }
    | .nl => some { ev := ev, ns := ns, new := 1, v := .sl es' n' (.st ns sz) }
    | .st k sz' => bif own.any (Nat.beq k) && Nat.beq sz' sz then some { ev := ev, use := [k], ns := ns, new := 1, v := .sl es' n' (.st ns sz) } else none
    | _ => none

/-- What is known of a function: what a call comes to, and that nothing but data is in it. -/
structure CT (P : Program) (f : FuncId) (H0 : List Blk) (args : List AV) (res : AV) (H1 : List Blk) (nst : Nat) : Prop where
  tri : CTri P f H0 args res H1 nst
  args : AV.argL (fun i => i < H0.length) args
  H0 : ∀ X ∈ H0, X.arg (fun i => i < H0.length)
  res : res.fine (fun i => i < H1.length)
  H1 : ∀ X ∈ H1, X.fine (fun i => i < H1.length)

/-- what is to be shown -/
inductive Ob where
  | call (f : FuncId) (H0 : List Blk) (args : List AV) (res : AV) (H1 : List Blk) (nst : Nat)
  | bit (b b' : Bool)
  | av (x : Option AV) (a : AV)
  | app (t t2 : TypeId) (es es2 es' : List AV) (n n2 n' sz : Nat) (empty : Bool)
  | data (es : List AV)
  | cells (cs es : List AV) (len n : Nat)
  | fz (x : Option AV) (a : AV)
  | lk (t : TypeId) (X : Blk) (key : AV) (ok : Bool) (a : AV)
  | mu (t : TypeId) (X : Blk) (key val : AV) (Y : Blk)
  | mk (x : Option (List AV × Nat)) (cs : List AV) (n : Nat)
  | ld (x : Option AV) (a : AV)
  | wt (cs : List AV) (off : Nat) (v : AV) (sz : Nat) (cs' : List AV)
  | same (t t2 : TypeId) (n : Nat)
  | inp (x : Option (List AV)) (cs : List AV)
  | clr (t : TypeId) (l off z : Nat)
  | ln (t : TypeId) (X : Blk) (a : AV)

def Ob.ok (P : Program) : Ob → Prop
  | .call f H0 args res H1 nst => CT P f H0 args res H1 nst
  | .bit b b' => b = b'
  | .av x a => x = some a
  | .app t t2 es es2 es' n n2 n' sz empty => ∀ (ev : Operand → AV) (s : LSt) (o o2 : Own), aappend P t t2 ev (.sl es n o) (.sl es2 n2 o2) s = appLA ev s.ns s.own o es' n' sz empty
  | .data es => AV.DataL es
  | .cells cs es len n => cs = es ∧ len = n
  | .fz x a => ∃ a0, x = some a0 ∧ a0.frz = a
  | .lk t X key ok a => ∀ (ev : Operand → AV) (i : Nat) (s : LSt), look s.H i = some X → alookup P t ev (.obj i) key ok s = some { ev := ev, rd := [(i, X)], v := a }
  | .mu t X key val Y => ∀ (ev : Operand → AV) (i : Nat) (s : LSt), look s.H i = some X → amapUpdate P t ev (.obj i) key val s = some { ev := ev, v := .val undef, wr := [(i, X, Y)] }

  | .mk x cs n => x = some (cs, n)
  | .ld x a => x = some a
  | .ln t X a => ∃ es c kt et, X = .obj (.map es c) ∧ P.underlying t = some (.map kt et) ∧ a = .val (goInt es.size)
  | .inp x cs => x = some cs
  | .clr t l off z => l ≤ off ∧ ∃ e ie zv, P.underlying t = some (.slice e) ∧ P.info? e = some ie ∧ ie.zero = some zv ∧ zv.cells.size = z ∧ zv.cells.toList.all Value.oneCell' = true
  | .same t t2 n => t = t2 ∧ n = 0 ∧ ∃ e ie, P.underlying t = some (.slice e) ∧ P.info? e = some ie
  | .wt cs off v sz cs' => v.sound = true ∧ (acells v).length = sz ∧ off + sz ≤ cs.length ∧ splice cs off (acells v) = cs'

/-- how many cells an element has -/
def szOf (P : Program) (t : TypeId) : Nat :=
  match P.underlying t with
  | some (.slice e) => match P.info? e with
    | some ie => ie.size
    | none => 0
  | _ => 0

/-- a new slice that will be written -/
def amakems (P : Program) (t : TypeId) (l c : AV) : Option (List AV × Nat) :=
  match P.underlying t, l, c with
  | some (.slice e), .val (.int .i64 l), .val (.int .i64 c) => match P.info? e with
    | some ie => match ie.zero with
      | some z =>
        if l = c ∧ 0 ≤ l ∧ l * ie.bytes ≤ 140737488355328 ∧ l ≤ 9223372036854775807 ∧ z.cells.size = ie.size ∧ 1 ≤ ie.size then
          some ((List.range (l.toNat * ie.size)).map fun j => (ofV 8 (z.cells.getD (j % z.cells.size) undef)).frz, l.toNat)
        else none
      | none => none
    | none => none
  | _, _, _ => none

theorem amakems_ok {P : Program} {dst : Option Tmp} {t : TypeId} {l c : Operand} {type : TypeId} {pos : String} {after : Array Edge} {guard : Option (Nat × Bool)} {ev : Operand → AV} {s : LSt} {cs : List AV} {n : Nat} (h : amakems P t (ev l) (ev c) = some (cs, n)) :
    OpOk P ⟨dst, .makeSlice t l c, type, pos, after, guard⟩ { ev := ev, al := [(s.nx, .row cs)], v := .ms s.nx 0 n n (szOf P t) } := by
  unfold amakems at h
  split at h
  · rename_i e l' c' hut hl hc
    split at h
    · rename_i ie hie
      split at h
      · rename_i z hz
        split at h
        · rename_i hcond
          obtain ⟨rfl, h0, hb, h63, hzs, h1⟩ := hcond
          cases h
          refine OpOk.value fun G σ w a hR hx hcan => ?_
          have hlx : V G w (ev l) (a.eval l) := hx l (by simp [Op.operands])
          have hcx : V G w (ev c) (a.eval c) := hx c (by simp [Op.operands])
          rw [hl] at hlx; rw [hc] at hcx
          simp only [V] at hlx hcx
          have hn : σ.H s.nx = none := hcan.al _ _ (List.mem_singleton.2 rfl)
          have hzl : ∀ m, VL G w ((List.range m).map fun j => (ofV 8 (z.cells.getD (j % z.cells.size) undef)).frz) ((List.range m).map fun j => z.cells.getD (j % z.cells.size) undef) := by
            intro m
            have := VL.map_ofV (G := G) (w := w) (f := fun v => (ofV 8 v).frz) (fun v => V.frz _ _ (V.ofV 8 v)) ((List.range m).map fun j => z.cells.getD (j % z.cells.size) undef)
            simpa [List.map_map, Function.comp_def] using this
          refine ⟨.slice (some ⟨w.heap.size, 0, none⟩) l'.toNat l'.toNat, w.alloc (.cells ((List.range (l'.toNat * ie.size)).map fun j => z.cells.getD (j % z.cells.size) undef).toArray e), G.addρ s.nx w.heap.size, ?_, Ext.alloc hR _ hn, ?_, ?_⟩
          · have hz' : madeCells z.cells (l'.toNat * ie.size) = ((List.range (l'.toNat * ie.size)).map fun j => z.cells.getD (j % z.cells.size) undef).toArray := by
              apply Array.ext'
              rw [madeCells, Array.toList_map, Array.toList_range]
              apply List.map_congr_left
              intro j _
              have hlt : j % z.cells.size < z.cells.size := Nat.mod_lt _ (by omega)
              simp [hlt]
            have hm := run_make (P := P) w t e ie z hut hie hz .i64 .i64 l' l' h0 (Int.le_refl _) (by rw [Int.mul_comm]; omega) h63
            rw [hz'] at hm
            simp [execOp, hlx, hcx, hm]
          · rw [app_al]
            exact hR.alloc_row _ _ e (hzl (l'.toNat * ie.size)) hn
          · simp only [V]
            exact ⟨w.heap.size, l'.toNat, up_same _ _ _, ⟨Nat.le_refl _, Nat.le_refl _⟩, 0, rfl, .inl ⟨rfl, _, e, heap_alloc_new w _, by simp [szOf, hut, hie]⟩⟩
        · cases h
      · cases h
    · cases h
  · cases h

def ObsOk (P : Program) : List Ob → Prop
  | [] => True
  | o :: l => o.ok P ∧ ObsOk P l

theorem ObsOk.append {P : Program} : ∀ {a b : List Ob}, ObsOk P (a ++ b) → ObsOk P a ∧ ObsOk P b
  | [], _, h => ⟨trivial, h⟩
  | _ :: a, _, h => by
    obtain ⟨h1, h2⟩ := h
    obtain ⟨h3, h4⟩ := ObsOk.append (a := a) h2
    exact ⟨⟨h1, h3⟩, h4⟩

def asks : Op → Bool
  | .buildSlice .. | .binOp .. | .unOp .. | .call _ | .extract .. | .index .. | .indexAddr .. | .slice .. | .lookup .. | .mapUpdate .. | .convert .. | .load .. | .store .. | .makeSlice .. => true
  | _ => false

def LA.bit? (la : LA) : Option Bool := match la.v with | .val (.bool b) => some b | _ => none

def LA.set (la : LA) (v : AV) : LA := { la with v := v }

/-- an operation that is no call -/
def xplain (P : Program) (op : Op) (ev : Operand → AV) (s : LSt) (os : List Orc) : Option (LA × List Orc × List Ob) :=
  bif asks op then
    match os with
    | .no :: os => (aop P op ev s).map fun la => (la.set (tidy op la.v), os, [])
    | .bit b :: os => match aop P op ev s with
      | some la => match la.bit? with
        | some b0 => some (la.set (.val (.bool b)), os, [.bit b0 b])
        | none => none
      | none => none
    | .av a :: os => some ({ ev := ev, v := a }, os, [.av (pop P op ev) a])
    | .fz a :: os => some ({ ev := ev, v := a }, os, [.fz (pop P op ev) a])
    | .lk a :: os => match op with
      | .lookup t x y ok => match ev x with
        | .obj i => match look s.H i with
          | some X => some ({ ev := ev, rd := [(i, X)], v := a }, os, [.lk t X (ev y) ok a])
          | none => none
        | _ => none
      | .call { callee := .builtin .len, args, argTypes } => match args.toList, argTypes.toList with
        | [x], [t] => match ev x with
          | .obj i => match look s.H i with
            | some X => some ({ ev := ev, rd := [(i, X)], v := a }, os, [.ln t X a])
            | none => none
          | _ => none
        | _, _ => none
      | _ => none
    | .mu Y :: os => match op with
      | .mapUpdate t x y z => match ev x with
        | .obj i => match look s.H i with
          | some X => some ({ ev := ev, v := .val undef, wr := [(i, X, Y)] }, os, [.mu t X (ev y) (ev z) Y])
          | none => none
        | _ => none
      | _ => none
    | .mk cs n :: os => match op with
      | .makeSlice t l c => some ({ ev := ev, al := [(s.nx, .row cs)], v := .ms s.nx 0 n n (szOf P t) }, os, [.mk (amakems P t (ev l) (ev c)) cs n])
      | .call { callee := .builtin .append, args, argTypes } => match args.toList, argTypes.toList with
        | [x, y], [t, t2] => match rdst s.H (ev x), rsrc s.H (ev y) with
          | some (d, m, c), some (sr, es, m2, z2) => some ({ ev := ev, rd := srd sr, wr := d.wr, al := [(s.nx, .row cs)], v := .ms s.nx 0 n n (szOf' P t) }, os, [.mk (rapp P t t2 (d.z (ev x)) c m (sr.map fun q => (q.1, q.1, z2)) es m2) cs n])
          | _, _ => none
        | _, _ => none
      | _ => none
    | .same :: os => match op with
      | .call { callee := .builtin .append, args, argTypes } => match args.toList, argTypes.toList with
        | [x, y], [t, t2] => match rdst s.H (ev x), rsrc s.H (ev y) with
          | some _, some (_, _, m2, _) => some ({ ev := ev, v := ev x }, os, [.same t t2 m2])
          | _, _ => none
        | _, _ => none
      | _ => none
    | .inp cs :: os => match op with
      | .call { callee := .builtin .append, args, argTypes } => match args.toList, argTypes.toList with
        | [x, y], [t, t2] => match ev x with
          | .ms i 0 n c z => match look s.H i, rsrc s.H (ev y) with
            | some (.row c0), some (sr, es, n2, z2) => some ({ ev := ev, rd := srd sr, wr := [(i, .row c0, .row cs)], v := .ms i 0 (n + n2) c z }, os, [.inp (rinp P t t2 z c0 n c (sr.map fun _ => z2) es n2) cs])
            | _, _ => none
          | _ => none
        | _, _ => none
      | _ => none
    | .clr :: os => match op with
      | .call { callee := .builtin .clear, args, argTypes } => match args.toList, argTypes.toList with
        | [x], [t] => match ev x with
          | .ms i off _ _ z => match look s.H i with
            | some (.row c0) => some ({ ev := ev, wr := [(i, .row c0, .row c0)], v := .tup [] }, os, [.clr t c0.length off z])
            | _ => none
          | _ => none
        | _, _ => none
      | _ => none
    | .ld a :: os => match op with
      | .load t x => match tsz P t, ev x with
        | some q, .mp i off => match look s.H i with
          | some (.row cs) => some ({ ev := ev, rd := [(i, .row cs)], v := a }, os, [.ld (part1 q (cs.drop off)) a])
          | _ => none
        | _, _ => none
      | _ => none
    | .wt cs' :: os => match op with
      | .store t x y => match P.info? t, ev x with
        | some ti, .mp i off => match look s.H i with
          | some (.row cs) => some ({ ev := ev, wr := [(i, .row cs, .row cs')], v := .val undef }, os, [.wt cs off (ev y) ti.size cs'])
          | _ => none
        | _, _ => none
      | _ => none
    | .sl es' n' :: os => match aop P op ev s with
      | some la => match tidy op la.v with
        | .sl cs len o => some (la.set (.sl es' n' o), os, [.cells cs es' len n'])
        | _ => none
      | none => none
    | .app es' n' sz empty :: os => match op with
      | .call { callee := .builtin .append, args, argTypes } => match args.toList, argTypes.toList with
        | [x, y], [t, t2] => match ev x, ev y with
          | .sl es n o, .sl es2 n2 _ => match appLA ev s.ns s.own o es' n' sz empty with
            | some la => some (la, os, [.app t t2 es es2 es' n n2 n' sz empty])
            | none => none
          | _, _ => none
        | _, _ => none
      | _ => none
    | _ => none
  else (aop P op ev s).map fun la => (la.set (tidy op la.v), os, [])

mutual
/-- its numbers are such; it owns nothing (in what is not in slices) -/
def AV.numB (ι : List Nat) : AV → Bool
  | .val _ => true
  | .agg cs => AV.numLB ι cs
  | .tup cs => AV.numLB ι cs
  | .sl _ _ o => match o with | .st _ _ => false | .fr => false | _ => true
  | .ip _ => true
  | .mp i _ => ι.any (Nat.beq i)
  | .ms i _ _ _ _ => ι.any (Nat.beq i)
  | .obj i => ι.any (Nat.beq i)
  | .clo _ fs cs => AV.numLB ι fs && AV.numLB ι cs
def AV.numLB (ι : List Nat) : List AV → Bool
  | [] => true
  | a :: l => AV.numB ι a && AV.numLB ι l
end

mutual
theorem ren_ren {ι : List Nat} {nx : Nat} : ∀ a : AV, a.numB ι = true → (a.ren (newId ι) noSt).ren (cren ι nx) noSt = a
  | .val _, _ => rfl
  | .agg cs, h => by simp only [AV.ren, renL_renL cs h]
  | .tup cs, h => by simp only [AV.ren, renL_renL cs h]
  | .sl es n o, h => by
    cases o with
    | no => rfl
    | full => rfl
    | nl => rfl
    | nn => rfl
    | fr => simp [AV.numB] at h
    | st k sz => simp [AV.numB] at h
  | .ip _, _ => rfl
  | .mp i off, h => by
    obtain ⟨t, ht⟩ := place_mem (any_beq.1 h)
    simp only [AV.ren, newId, ht, Option.getD_some, cren, place_spec ht]
  | .ms i off n c sz, h => by
    obtain ⟨t, ht⟩ := place_mem (any_beq.1 h)
    simp only [AV.ren, newId, ht, Option.getD_some, cren, place_spec ht]
  | .obj i, h => by
    obtain ⟨t, ht⟩ := place_mem (any_beq.1 h)
    simp only [AV.ren, newId, ht, Option.getD_some, cren, place_spec ht]
  | .clo g fs cs, h => by
    simp only [AV.numB, Bool.and_eq_true] at h
    simp only [AV.ren, renL_renL fs h.1, renL_renL cs h.2]
theorem renL_renL {ι : List Nat} {nx : Nat} : ∀ as0 : List AV, AV.numLB ι as0 = true → AV.renL (cren ι nx) noSt (AV.renL (newId ι) noSt as0) = as0
  | [], _ => rfl
  | a :: as0, h => by
    simp only [AV.numLB, Bool.and_eq_true] at h
    simp only [AV.renL, ren_ren a h.1, renL_renL as0 h.2]
end

def Blk.numB (ι : List Nat) : Blk → Bool
  | .cells cs => AV.numLB ι cs
  | .obj _ => true
  | .row _ => true
  | .dead => true

theorem blk_ren_ren {ι : List Nat} {nx : Nat} {X : Blk} (h : X.numB ι = true) : (X.ren (newId ι) noSt).ren (cren ι nx) noSt = X := by
  cases X with
  | cells cs => simp only [Blk.ren, renL_renL cs h]
  | obj o => rfl
  | row cs => rfl
  | dead => rfl

/-- the blocks that a call is led to, under its own numbers -/
def inBlks (H : List (Nat × Blk)) (ι : List Nat) : List Nat → List Blk
  | [] => []
  | i :: l => ((look H i).getD (.cells [])).ren (newId ι) noSt :: inBlks H ι l

def inB (H : List (Nat × Blk)) (ι : List Nat) : List Nat → Bool
  | [] => true
  | i :: l => (match look H i with | some X => X.numB ι | none => false) && inB H ι l

theorem inBlks_len {H : List (Nat × Blk)} {ι : List Nat} : ∀ l, (inBlks H ι l).length = l.length
  | [] => rfl
  | _ :: l => by simp [inBlks, inBlks_len l]

theorem wrs_in {H : List (Nat × Blk)} {ι : List Nat} {nx : Nat} {f : Nat → Option Nat} : ∀ (l : List Nat) (H1 : List Blk), inB H ι l = true → ∀ i X Y, (i, X, Y) ∈ wrs (cren ι nx) f l (inBlks H ι l) H1 → look H i = some X
  | [], _, _, i, X, Y, h => by simp [wrs] at h
  | j :: l, [], _, i, X, Y, h => by simp [wrs, inBlks] at h
  | j :: l, Z :: H1, hb, i, X, Y, h => by
    simp only [inB, Bool.and_eq_true] at hb
    simp only [wrs, inBlks, List.mem_cons, Prod.mk.injEq] at h
    rcases h with ⟨rfl, rfl, _⟩ | h
    · cases hl : look H i with
      | none => rw [hl] at hb; exact absurd hb.1 (by simp)
      | some W =>
        rw [hl] at hb
        simp only [Option.getD_some, blk_ren_ren hb.1]
    · exact wrs_in l H1 hb.2 i X Y h

def xcall (f : FuncId) (aa : List AV) (ev : Operand → AV) (s : LSt) (ι : List Nat) (H1 : List Blk) (nst : Nat) (res : AV) (b : Option Bool) : Option (LA × List Ob) :=
  bif nodupB ι && inB s.H ι ι && Nat.ble ι.length H1.length && AV.numLB ι aa then
    match b with
    | none => some ({ callLA ι s.nx s.ns (inBlks s.H ι ι) H1 nst res with ev := ev }, [.call f (inBlks s.H ι ι) (AV.renL (newId ι) noSt aa) res H1 nst])
    | some b => match (callLA ι s.nx s.ns (inBlks s.H ι ι) H1 nst res).bit? with
      | some b0 => some ({ callLA ι s.nx s.ns (inBlks s.H ι ι) H1 nst res with ev := ev, v := .val (.bool b) }, [.bit b0 b, .call f (inBlks s.H ι ι) (AV.renL (newId ι) noSt aa) res H1 nst])
      | none => none
  else none

/-- a function that can be called: it has a body, and is not the one that the model treats apart -/
def callB (P : Program) (f : FuncId) : Bool := match P.funcs[f]? with | some fn => !(fn.name == "runtime.NumGoroutine") && !fn.body.isNone | none => false

def xact (P : Program) (pr : FuncId → List AV → LSt → Option LA) (op : Op) (ev : Operand → AV) (s : LSt) (os : List Orc) : Option (LA × List Orc × List Ob) :=
  match op with
  | .call { callee := .value g, args, argTypes := _ } =>
    match ev g, os with
    | .clo f first caps, .call ι H1 nst res b :: os => bif callB P f then match xcall f (AV.frzL (first ++ args.toList.map ev ++ caps)) ev s ι H1 nst res b with
      | some (la, ob) => some (la, os, ob)
      | none => none
      else none
    | .clo f first caps, .no :: os => match pr f (first ++ args.toList.map ev ++ caps) s with
      | some la => some ({ la with ev := ev }, os, [])
      | none => none
    | _, _ => none
  | op => xplain P op ev s os

theorem fit_set {s : LSt} {la : LA} (h : s.fit la) {ev : Operand → AV} {v : AV} : s.fit { la with ev := ev, v := v } := ⟨h.rd, h.wr, h.al, h.lo, h.use, h.ns⟩

theorem OpOk.set {P : Program} {o : Oper} {la : LA} (h : OpOk P o la) {v : AV} (hv : ∀ G w u, V G w la.v u → V G w v u) : OpOk P o { la with v := v } := by
  intro G σ w a K Q hR hx hc hK
  exact h G σ w a K Q hR hx ⟨hc.rd, hc.wr, hc.al, hc.use, hc.ns, hc.hole⟩ fun u G' w' hE hR' hu => hK u G' w' hE hR' (hv _ _ _ hu)

theorem aop_append {P : Program} {args : Array Operand} {argTypes : Array TypeId} {x y : Operand} {t t2 : TypeId} {ev : Operand → AV} {s : LSt} (h1 : args.toList = [x, y]) (h2 : argTypes.toList = [t, t2]) :
    aop P (.call { callee := .builtin .append, args := args, argTypes := argTypes }) ev s = aappend P t t2 ev (ev x) (ev y) s := by
  unfold aop
  simp only [pop, h1, h2]

theorem aop_lookup {P : Program} {t : TypeId} {x y : Operand} {ok : Bool} {ev : Operand → AV} {s : LSt} : aop P (.lookup t x y ok) ev s = alookup P t ev (ev x) (ev y) ok s := by
  unfold aop
  simp only [pop]

theorem aop_mapUpdate {P : Program} {t : TypeId} {x y z : Operand} {ev : Operand → AV} {s : LSt} : aop P (.mapUpdate t x y z) ev s = amapUpdate P t ev (ev x) (ev y) (ev z) s := by
  unfold aop
  simp only [pop]

theorem aop_of_pop {P : Program} {op : Op} {ev : Operand → AV} {s : LSt} {a : AV} (h : pop P op ev = some a) : aop P op ev s = some { ev := ev, v := a } := by
  unfold aop
  rw [h]

/-- a call whose arguments are told weaker -/
theorem CallOk.weak {P : Program} {f : FuncId} {args : List AV} {la : LA} (h : CallOk P f (AV.frzL args) la) : CallOk P f args la := by
  intro dst type pos after guard g cargs argTypes first caps ev hg hargs
  have h' := h dst type pos after guard g cargs argTypes (AV.frzL first) (AV.frzL caps) (fun x => (ev x).frz) (by simp only [hg, AV.frz]) (by rw [hargs, frzL_append, frzL_append, frzL_map])
  intro G σ w a K Q hR hx hc hK
  refine h' G σ w a K Q hR (fun x hxm => V.frz _ _ (hx x hxm)) ⟨hc.rd, hc.wr, hc.al, hc.use, hc.ns, hc.hole⟩ hK

theorem callLA_fit {s : LSt} {ι : List Nat} {H1 : List Blk} {nst : Nat} {res : AV} (hb : inB s.H ι ι = true) : s.fit (callLA ι s.nx s.ns (inBlks s.H ι ι) H1 nst res) :=
  ⟨fun i X h => by simp [callLA] at h, fun i X Y h => wrs_in ι H1 hb i X Y h, fun i X h => (als_mem _ _ _ _ h).1, fun h => by simp [callLA] at h, fun k h => by simp [callLA] at h, fun _ => rfl⟩

theorem xcall_ok {P : Program} {f : FuncId} {aa : List AV} {ev : Operand → AV} {s : LSt} {ι : List Nat} {H1 : List Blk} {nst : Nat} {res : AV} {b : Option Bool} {la : LA} {ob : List Ob} (hf : callB P f = true) (h : xcall f (AV.frzL aa) ev s ι H1 nst res b = some (la, ob)) (hob : ObsOk P ob) :
    ∃ la0, s.fit la0 ∧ CallOk P f aa la0 ∧ (∀ G w u, V G w la0.v u → V G w la.v u) ∧ la = { la0 with ev := ev, v := la.v } := by
  unfold xcall at h
  cases hc : (nodupB ι && inB s.H ι ι && Nat.ble ι.length H1.length && AV.numLB ι (AV.frzL aa)) with
  | false => rw [hc] at h; cases h
  | true =>
    rw [hc] at h
    simp only [cond_true] at h
    simp only [Bool.and_eq_true] at hc
    obtain ⟨⟨⟨c1, c2⟩, c3⟩, c4⟩ := hc
    have hlen : ι.length = (inBlks s.H ι ι).length := (inBlks_len ι).symm
    have key : CT P f (inBlks s.H ι ι) (AV.renL (newId ι) noSt (AV.frzL aa)) res H1 nst → CallOk P f aa (callLA ι s.nx s.ns (inBlks s.H ι ι) H1 nst res) := by
      intro hct
      have hu := CTri.uni hct.tri hct.args hct.H0 hct.res hct.H1 ι hlen (by rw [← hlen]; exact Nat.le_of_ble_eq_true c3) (nodupB_spec _ c1) s.nx s.ns
      rw [renL_renL _ c4] at hu
      unfold callB at hf
      split at hf
      · rename_i fn hfn
        simp only [Bool.and_eq_true, Bool.not_eq_true'] at hf
        exact (CallOk.of hfn hf.1 hf.2 hu).weak
      · cases hf
    cases b with
    | none =>
      simp only [Option.some.injEq, Prod.mk.injEq] at h
      obtain ⟨rfl, rfl⟩ := h
      exact ⟨_, callLA_fit c2, key hob.1, fun _ _ _ e => e, rfl⟩
    | some b =>
      simp only at h
      split at h
      · rename_i b0 hb
        simp only [Option.some.injEq, Prod.mk.injEq] at h
        obtain ⟨rfl, rfl⟩ := h
        have hb' : b0 = b := hob.1
        subst hb'
        refine ⟨_, callLA_fit c2, key hob.2.1, fun G w u e => ?_, rfl⟩
        unfold LA.bit? at hb
        split at hb
        · rename_i b1 hv
          cases hb
          rw [hv] at e; exact e
        · cases hb
      · cases h

theorem rowLoad_ok {P : Program} {dst : Option Tmp} {t : TypeId} {x : Operand} {type : TypeId} {pos : String} {after : Array Edge} {guard : Option (Nat × Bool)} {ev : Operand → AV} {i off : Nat} {q : Bool × Nat} {cs : List AV} {r : AV} (hq : tsz P t = some q) (he : ev x = .mp i off) (hr : part1 q (cs.drop off) = some r) :
    OpOk P ⟨dst, .load t x, type, pos, after, guard⟩ { ev := ev, rd := [(i, .row cs)], v := r } := by
  refine OpOk.reads fun G σ w a hR hx hrd => ?_
  have hX := hrd _ _ (List.mem_singleton.2 rfl)
  obtain ⟨b, hb, _, hblk⟩ := hR.look hX
  obtain ⟨vs, T, hh, hl⟩ := hblk
  have hxx := hx x (by simp [Op.operands])
  rw [he] at hxx
  simp only [V] at hxx
  obtain ⟨b', hb', hxe⟩ := hxx
  rw [hb] at hb'; cases hb'
  obtain ⟨u, hu, hv⟩ := part1_mem hq hh hl hr
  exact ⟨u, by simp [execOp, hxe, hu], hv⟩

theorem rowStore_ok {P : Program} {dst : Option Tmp} {t : TypeId} {x y : Operand} {type : TypeId} {pos : String} {after : Array Edge} {guard : Option (Nat × Bool)} {ev : Operand → AV} {i off : Nat} {ti : TypeInfo} {cs cs' : List AV} (hi : P.info? t = some ti) (he : ev x = .mp i off)
    (c1 : (ev y).sound = true) (c2 : (acells (ev y)).length = ti.size) (c3 : off + ti.size ≤ cs.length) (c4 : splice cs off (acells (ev y)) = cs') :
    OpOk P ⟨dst, .store t x y, type, pos, after, guard⟩ { ev := ev, wr := [(i, .row cs, .row cs')], v := .val undef } := by
  subst c4
  refine OpOk.skip rfl fun G σ w a hR hx hc => ?_
  have hX := hc.wr _ _ _ (List.mem_singleton.2 rfl)
  obtain ⟨b, hb, _, hblk⟩ := hR.look hX
  obtain ⟨vs, T, hh, hl⟩ := hblk
  have hxx : V G w (ev x) (a.eval x) := hx x (by simp [Op.operands])
  rw [he] at hxx
  simp only [V] at hxx
  obtain ⟨b', hb', hxe⟩ := hxx
  rw [hb] at hb'; cases hb'
  obtain ⟨hyv, hy1⟩ := V.cells (a := ev y) (hx y (by simp [Op.operands])) c1
  have hyl := VL.length _ _ hyv
  have hvl := hl.le
  have hsz : (a.eval y).cells.size = ti.size := by rw [← c2, ← hyl]; simp
  have hst := run_storeCells_at P b off T (a.eval y).cells.toList 0 vs w hh (by simp only [Array.length_toList] at hvl ⊢; omega) hy1
  simp only [Nat.add_zero] at hst
  have hlen : vs.size ≤ (vs.toList.take off ++ (a.eval y).cells.toList ++ vs.toList.drop (off + (a.eval y).cells.toList.length)).length := by
    simp only [List.length_append, List.length_take, List.length_drop, Array.length_toList] at hvl ⊢
    omega
  refine ⟨w.setRow b (vs.toList.take off ++ (a.eval y).cells.toList ++ vs.toList.drop (off + (a.eval y).cells.toList.length)).toArray, G, ?_, (Ext.setRow hR hb _ (fun o T' e => by rw [hh] at e; cases e; simpa using hlen)), ?_⟩
  · simp only [execOp, Sem.run_bind, hxe, Instr.storeAt, Instr.sureAddr, Sem.run_pure, Result.andThen_ok, storeVar, run_sizeOf' hi]
    rw [if_neg (by simp [hsz])]
    simp only [Result.andThen_ok, hst]
  · rw [app_wr]
    exact hR.setRowR hb (by rw [hX]; simp) _ _ hlen hh (VLp.splice hl hyv off (by omega))

theorem xplain_ok {P : Program} {o : Oper} {ev : Operand → AV} {s : LSt} {os os' : List Orc} {la : LA} {ob : List Ob} (h : xplain P o.op ev s os = some (la, os', ob)) (hob : ObsOk P ob) : s.fit la ∧ OpOk P o la ∧ la.ev = ev := by
  have base : ∀ {la0 : LA} {v : AV}, aop P o.op ev s = some la0 → (∀ G w u, V G w la0.v u → V G w v u) → s.fit (la0.set v) ∧ OpOk P o (la0.set v) ∧ (la0.set v).ev = ev := by
    intro la0 v ha hv
    obtain ⟨h1, h2⟩ := aop_ok ha
    exact ⟨fit_set (aop_fit ha), h1.set hv, h2⟩
  unfold xplain at h
  cases hask : asks o.op with
  | false =>
    rw [hask] at h
    simp only [cond_false, Option.map_eq_some_iff] at h
    obtain ⟨la0, ha, he⟩ := h
    cases he
    exact base ha fun _ _ _ => V.tidy
  | true =>
    rw [hask] at h
    simp only [cond_true] at h
    split at h
    · simp only [Option.map_eq_some_iff] at h
      obtain ⟨la0, ha, he⟩ := h
      cases he
      exact base ha fun _ _ _ => V.tidy
    · rename_i b _
      split at h
      · rename_i la0 ha
        split at h
        · rename_i b0 hb
          cases h
          have hb' : b0 = b := hob.1
          subst hb'
          unfold LA.bit? at hb
          split at hb
          · rename_i b1 hv
            cases hb
            exact base ha fun G w u hu => by rw [hv] at hu; exact hu
          · cases hb
        · cases h
      · cases h
    · rename_i a _
      cases h
      have ha := aop_of_pop (s := s) hob.1
      exact ⟨aop_fit ha, (aop_ok ha).1, rfl⟩
    · rename_i a _
      cases h
      obtain ⟨a0, h1, h2⟩ := hob.1
      subst h2
      have ha := aop_of_pop (s := s) h1
      exact ⟨fit_set (aop_fit ha), OpOk.set (aop_ok ha).1 (fun G w u hu => V.frz _ _ hu), rfl⟩
    · rename_i a _
      split at h
      · rename_i t x y ok hop
        split at h
        · rename_i i hx
          split at h
          · rename_i X hX
            cases h
            have ha : aop P o.op ev s = some { ev := ev, rd := [(i, X)], v := a } := by
              rw [hop, aop_lookup, hx]; exact hob.1 ev i s hX
            exact ⟨aop_fit ha, aop_ok ha⟩
          · cases h
        · cases h
      · rename_i args argTypes hop
        split at h
        · rename_i x t h1 h2
          split at h
          · rename_i i hx
            split at h
            · rename_i X hX
              cases h
              obtain ⟨⟨es, c, kt, et, rfl, hut, rfl⟩, _⟩ := hob
              obtain ⟨dst, op, type, pos, after, guard⟩ := o
              simp only at hop
              subst hop
              obtain ⟨l1⟩ := args
              obtain ⟨l2⟩ := argTypes
              simp only at h1 h2
              subst h1 h2
              refine ⟨⟨fun j Y h => by simp only [List.mem_singleton, Prod.mk.injEq] at h; obtain ⟨rfl, rfl⟩ := h; exact hX, fun i X Y h => by simp at h, fun i X h => by simp at h, fun h => by simp at h, fun k h => by simp at h, fun h => by simp at h⟩, maplen_ok hut hx, rfl⟩
            · cases h
          · cases h
        · cases h
      · cases h
    · rename_i Y _
      split at h
      · rename_i t x y z hop
        split at h
        · rename_i i hx
          split at h
          · rename_i X hX
            cases h
            have ha : aop P o.op ev s = some { ev := ev, v := .val undef, wr := [(i, X, Y)] } := by
              rw [hop, aop_mapUpdate, hx]; exact hob.1 ev i s hX
            exact ⟨aop_fit ha, aop_ok ha⟩
          · cases h
        · cases h
      · cases h
    · rename_i cs n _
      split at h
      · rename_i t l c hop
        cases h
        obtain ⟨dst, op, type, pos, after, guard⟩ := o
        simp only at hop
        subst hop
        refine ⟨⟨fun i X h => by simp at h, fun i X Y h => by simp at h, fun i X h => by simp only [List.mem_singleton, Prod.mk.injEq] at h; exact Nat.le_of_eq h.1.symm, fun h => by simp at h, fun k h => by simp at h, fun h => by simp at h⟩, amakems_ok hob.1, rfl⟩
      · rename_i args argTypes hop
        split at h
        · rename_i x y t t2 h1 h2
          split at h
          · rename_i d m c sr es m2 z2 hdd hss
            cases h
            obtain ⟨dst, op, type, pos, after, guard⟩ := o
            simp only at hop
            subst hop
            obtain ⟨l1⟩ := args
            obtain ⟨l2⟩ := argTypes
            simp only at h1 h2
            subst h1 h2
            refine ⟨⟨rsrc_rd hss, rdst_wr hdd, fun i X h => by simp only [List.mem_singleton, Prod.mk.injEq] at h; exact Nat.le_of_eq h.1.symm, fun h => by simp at h, fun k h => by simp at h, fun h => by simp at h⟩, rapp_ok hdd hss hob.1, rfl⟩
          · cases h
        · cases h
      · cases h
    · split at h
      · rename_i args argTypes hop
        split at h
        · rename_i x y t t2 h1 h2
          split at h
          · rename_i d q1 m2 q2 hdd hss
            cases h
            obtain ⟨⟨rfl, h0, e, ie, hut, hie⟩, _⟩ := hob
            obtain ⟨dst, op, type, pos, after, guard⟩ := o
            simp only at hop
            subst hop
            obtain ⟨l1⟩ := args
            obtain ⟨l2⟩ := argTypes
            simp only at h1 h2
            subst h1 h2
            refine ⟨⟨fun i X h => by simp at h, fun i X Y h => by simp at h, fun i X h => by simp at h, fun h => by simp at h, fun k h => by simp at h, fun h => by simp at h⟩, rapp_none hut hie hdd hss h0, rfl⟩
          · cases h
        · cases h
      · cases h
    · rename_i cs _
      split at h
      · rename_i args argTypes hop
        split at h
        · rename_i x y t t2 h1 h2
          split at h
          · rename_i i n c z hx
            split at h
            · rename_i c0 sr es n2 z2 hl hss
              cases h
              obtain ⟨dst, op, type, pos, after, guard⟩ := o
              simp only at hop
              subst hop
              obtain ⟨l1⟩ := args
              obtain ⟨l2⟩ := argTypes
              simp only at h1 h2
              subst h1 h2
              refine ⟨⟨rsrc_rd hss, fun i X Y h => by simp only [List.mem_singleton, Prod.mk.injEq] at h; obtain ⟨rfl, rfl, rfl⟩ := h; exact hl, fun i X h => by simp at h, fun h => by simp at h, fun k h => by simp at h, fun h => by simp at h⟩, rinp_ok hx hss hob.1, rfl⟩
            · cases h
          · cases h
        · cases h
      · cases h
    · split at h
      · rename_i args argTypes hop
        split at h
        · rename_i x t h1 h2
          split at h
          · rename_i i off n c z hx
            split at h
            · rename_i c0 hl
              cases h
              obtain ⟨⟨hlo, e, ie, zv, hut, hie, hz, hzs, hone⟩, _⟩ := hob
              obtain ⟨dst, op, type, pos, after, guard⟩ := o
              simp only at hop
              subst hop
              obtain ⟨l1⟩ := args
              obtain ⟨l2⟩ := argTypes
              simp only at h1 h2
              subst h1 h2
              refine ⟨⟨fun i X h => by simp at h, fun i X Y h => by simp only [List.mem_singleton, Prod.mk.injEq] at h; obtain ⟨rfl, rfl, rfl⟩ := h; exact hl, fun i X h => by simp at h, fun h => by simp at h, fun k h => by simp at h, fun h => by simp at h⟩, rclr_ok hut hie hz hzs hone hx hlo, rfl⟩
            · cases h
          · cases h
        · cases h
      · cases h
    · rename_i a _
      split at h
      · rename_i t x hop
        split at h
        · rename_i q i off hq hx
          split at h
          · rename_i cs hX
            cases h
            obtain ⟨dst, op, type, pos, after, guard⟩ := o
            simp only at hop
            subst hop
            refine ⟨⟨fun i X h => by simp only [List.mem_singleton, Prod.mk.injEq] at h; obtain ⟨rfl, rfl⟩ := h; exact hX, fun i X Y h => by simp at h, fun i X h => by simp at h, fun h => by simp at h, fun k h => by simp at h, fun h => by simp at h⟩, rowLoad_ok hq hx hob.1, rfl⟩
          · cases h
        · cases h
      · cases h
    · rename_i cs' _
      split at h
      · rename_i t x y hop
        split at h
        · rename_i ti i off hq hx
          split at h
          · rename_i cs hX
            cases h
            obtain ⟨⟨h1, h2, h3, h4⟩, _⟩ := hob
            obtain ⟨dst, op, type, pos, after, guard⟩ := o
            simp only at hop
            subst hop
            refine ⟨⟨fun i X h => by simp at h, fun i X Y h => by simp only [List.mem_singleton, Prod.mk.injEq] at h; obtain ⟨rfl, rfl, rfl⟩ := h; exact hX, fun i X h => by simp at h, fun h => by simp at h, fun k h => by simp at h, fun h => by simp at h⟩, rowStore_ok hq hx h1 h2 h3 h4, rfl⟩
          · cases h
        · cases h
      · cases h
    · rename_i es' n' _
      split at h
      · rename_i la0 ha
        split at h
        · rename_i cs len o hv
          cases h
          obtain ⟨h1, h2⟩ := hob.1
          subst h1 h2
          exact base ha fun G w u hu => by rw [← hv]; exact V.tidy hu
        · cases h
      · cases h
    · rename_i es' n' sz empty _
      split at h
      · rename_i args argTypes hop
        split at h
        · rename_i x y t t2 h1 h2
          split at h
          · rename_i es n o1 es2 n2 o2 hx hy
            split at h
            · rename_i la0 hla
              cases h
              have ha : aop P o.op ev s = some la := by
                rw [hop, aop_append h1 h2, hx, hy, hob.1]
                exact hla
              exact ⟨aop_fit ha, aop_ok ha⟩
            · cases h
          · cases h
        · cases h
      · cases h
    · cases h

theorem xact_ok {P : Program} {pr : FuncId → List AV → LSt → Option LA} (hp : CallsOk P pr) {o : Oper} {ev : Operand → AV} {s : LSt} {os os' : List Orc} {la : LA} {ob : List Ob} (h : xact P pr o.op ev s os = some (la, os', ob)) (hob : ObsOk P ob) : s.fit la ∧ OpOk P o la ∧ la.ev = ev := by
  obtain ⟨dst, op, type, pos, after, guard⟩ := o
  have h' : xact P pr op ev s os = some (la, os', ob) := h
  clear h
  unfold xact at h'
  split at h'
  · rename_i g args argTypes
    split at h'
    · rename_i f first caps ι H1 nst res b os1 hg
      cases hf : callB P f with
      | false => rw [hf] at h'; cases h'
      | true =>
        rw [hf] at h'
        simp only [cond_true] at h'
        split at h'
        · rename_i la1 ob1 hx
          cases h'
          obtain ⟨la0, h1, h2, h3, h4⟩ := xcall_ok hf hx hob
          have h5 := h2 dst type pos after guard g args argTypes first caps ev hg rfl
          rw [h4]
          exact ⟨fit_set h1, OpOk.set h5 (v := la.v) h3, rfl⟩
        · cases h'
    · rename_i f first caps os1 hg
      split at h'
      · rename_i la0 hla
        cases h'
        obtain ⟨q1, q2⟩ := hp _ _ _ _ hla
        exact ⟨⟨q1.rd, q1.wr, q1.al, q1.lo, q1.use, q1.ns⟩, q2 dst type pos after guard g args argTypes first caps ev hg rfl, rfl⟩
      · cases h'
    · cases h'
  · exact xplain_ok h' hob

def xstep (P : Program) (pr : FuncId → List AV → LSt → Option LA) (ops : Array Oper) (env : List AV) (s : LSt) (os : List Orc) (o : Oper) : Option (Option LA × List AV × LSt × List Orc × List Ob) :=
  match awant ops env o with
  | some false => some (none, eset env o.dst (.val undef), s, os, [])
  | some true =>
    match xact P pr o.op (aev env) s os with
    | some (la, os, ob) => some (some la, eset env o.dst la.v, s.app la, os, ob)
    | none => none
  | none => none

def xops (P : Program) (pr : FuncId → List AV → LSt → Option LA) (ops : Array Oper) : List Oper → Nat → List AV → LSt → List Orc → Option (List (Nat × Option LA) × List AV × LSt × List Orc × List Ob)
  | [], _, env, s, os => some ([], env, s, os, [])
  | o :: l, i, env, s, os =>
    match xstep P pr ops env s os o with
    | some (la, env1, s1, os1, ob1) => match xops P pr ops l (i + 1) env1 s1 os1 with
      | some (r, env2, s2, os2, ob2) => some ((i, la) :: r, env2, s2, os2, ob1 ++ ob2)
      | none => none
    | none => none

theorem xops_ok {P : Program} {pr : FuncId → List AV → LSt → Option LA} (hp : CallsOk P pr) {ops : Array Oper} : ∀ (l : List Oper) (i : Nat) (env : List AV) (s : LSt) (os : List Orc) (r : List (Nat × Option LA)) (env' : List AV) (s' : LSt) (os' : List Orc) (ob : List Ob),
    (∀ k o, l[k]? = some o → ops[i + k]? = some o) → xops P pr ops l i env s os = some (r, env', s', os', ob) → ObsOk P ob → Later s s' ∧ r.map (·.1) = List.range' i l.length ∧ ∀ (σ₀ : ASt) (b : Nat), s.On σ₀ b → (∀ j, s.nx ≤ j → j < s'.nx → σ₀.H j = none) →
      s'.On σ₀ b ∧ ARun P ops r ⟨env, over σ₀ s⟩ ⟨env', over σ₀ s'⟩
  | [], i, env, s, os, r, env', s', os', ob, _, h, _ => by
    simp only [xops, Option.some.injEq, Prod.mk.injEq] at h
    obtain ⟨rfl, rfl, rfl, rfl, rfl⟩ := h
    exact ⟨Later.refl _, rfl, fun σ₀ b ho _ => ⟨ho, rfl⟩⟩
  | o :: l, i, env, s, os, r, env', s', os', ob, hl, h, hob => by
    simp only [xops] at h
    split at h
    · rename_i la env1 s1 os1 ob1 hst
      split at h
      · rename_i r' env2 s2 os2 ob2 hr
        cases h
        obtain ⟨hob1, hob2⟩ := ObsOk.append hob
        have h0 : ops[i]? = some o := by have := hl 0 o rfl; simpa using this
        have step : Later s s1 ∧ ∀ (σ₀ : ASt) (b : Nat), s.On σ₀ b → (∀ j, s.nx ≤ j → j < s1.nx → σ₀.H j = none) → s1.On σ₀ b ∧ AStep P ops i la ⟨env, over σ₀ s⟩ ⟨env1, over σ₀ s1⟩ := by
          unfold xstep at hst
          split at hst
          · rename_i hw
            cases hst
            exact ⟨Later.refl _, fun σ₀ b ho _ => ⟨ho, o, h0, hw, rfl⟩⟩
          · rename_i hw
            split at hst
            · rename_i la' os1' ob1' hla
              cases hst
              obtain ⟨f1, f2, f3⟩ := xact_ok hp hla hob1
              refine ⟨Later.app f1, fun σ₀ b ho hfree => ⟨On.app f1 ho, o, h0, hw, f2, fun x _ => by rw [f3], LSt.can f1 ho hfree, ?_⟩⟩
              rw [over_app f1 ho]
            · cases hst
          · cases hst
        obtain ⟨q1, q2, q3⟩ := xops_ok hp l (i + 1) env1 s1 os1 r' _ _ _ _ (fun k o e => by have := hl (k + 1) o (by simpa using e); rw [← this]; congr 1; omega) hr hob2
        refine ⟨step.1.trans q1, by simp [List.range'_succ, q2], fun σ₀ b ho hfree => ?_⟩
        obtain ⟨o1, a1⟩ := step.2 σ₀ b ho (fun j h1 h2 => hfree j h1 (Nat.lt_of_lt_of_le h2 q1.nx))
        obtain ⟨o2, a2⟩ := q3 σ₀ b o1 (fun j h1 h2 => hfree j (Nat.le_trans step.1.nx h1) h2)
        exact ⟨o2, _, a1, a2⟩
      · cases h
    · cases h

abbrev XR := AX × List AV × LSt × List Orc × List Ob

def xcode (P : Program) (pr : FuncId → List AV → LSt → Option LA) : Nat → Code → List AV → LSt → List Orc → Option XR
  | 0, _, _, _, _ => none
  | n + 1, c, env, s, os =>
    match c with
    | .skip => some (.normal, env, s, os, [])
    | .label _ => some (.normal, env, s, os, [])
    | .exit i => some (.exit i, env, s, os, [])
    | .ret => some (.ret, env, s, os, [])
    | .seq x y => match xcode P pr n x env s os with
      | some (.normal, env1, s1, os1, o1) => match xcode P pr n y env1 s1 os1 with
        | some (x2, env2, s2, os2, o2) => some (x2, env2, s2, os2, o1 ++ o2)
        | none => none
      | r => r
    | .cond c x y => match aev env c with
      | .val (.bool b) => xcode P pr n (bif b then x else y) env s os
      | _ => none
    | .block i c => match xcode P pr n c env s os with
      | some (.exit j, env1, s1, os1, o1) => some (bif Nat.beq j i then .normal else .exit j, env1, s1, os1, o1)
      | r => r
    | .scope c => xcode P pr n c env s os
    | .region _ ops draw => match xops P pr ops ops.toList 0 env s os with
      | some (l, env1, s1, os1, o1) => bif !draw || (edgesB ops && freeB ops (ancs ops.toList []) l) then some (.normal, env1, s1, os1, o1) else none
      | none => none
    | _ => none

theorem xregion_any {P : Program} {pr : FuncId → List AV → LSt → Option LA} (hp : CallsOk P pr) (hm : P.follows .mixedOrders = true) {ops : Array Oper} {id : Nat} {draw : Bool} {env env' : List AV} {s s' : LSt} {os os' : List Orc} {r : List (Nat × Option LA)} {ob : List Ob} {Q : AX → List AV → LSt → Prop}
    (h : xops P pr ops ops.toList 0 env s os = some (r, env', s', os', ob)) (hd : (!draw || (edgesB ops && freeB ops (ancs ops.toList []) r)) = true) (hob : ObsOk P ob) (hQ : Q .normal env' s') : Ev P (.region id ops draw) env s Q := by
  intro ho
  obtain ⟨_, q2, q3⟩ := xops_ok hp ops.toList 0 env s os r _ _ _ _ (fun k o e => by simpa using e) h hob
  obtain ⟨o1, r1⟩ := q3 (Emp 0) 0 ho (fun _ _ _ => rfl)
  have q2' : r.map (·.1) = List.range ops.size := by rw [q2, List.range_eq_range']; simp
  cases draw with
  | false => exact Cw.region r1 q2' ⟨_, _, rfl, o1, hQ⟩
  | true =>
    simp only [Bool.not_true, Bool.false_or, Bool.and_eq_true] at hd
    exact Cw.draw hm hd.1 hd.2 r1 q2' ⟨_, _, rfl, o1, hQ⟩

theorem xcode_ok {P : Program} {pr : FuncId → List AV → LSt → Option LA} (hp : CallsOk P pr) (hm : P.follows .mixedOrders = true) : ∀ (n : Nat) (c : Code) (env : List AV) (s : LSt) (os : List Orc) (x : AX) (env' : List AV) (s' : LSt) (os' : List Orc) (ob : List Ob),
    xcode P pr n c env s os = some (x, env', s', os', ob) → ObsOk P ob → ∀ {Q : AX → List AV → LSt → Prop}, Q x env' s' → Ev P c env s Q := by
  intro n
  induction n with
  | zero => intro c env s os x env' s' os' ob h; cases h
  | succ n ih =>
    intro c env s os x env' s' os' ob h hob Q hQ
    cases c with
    | skip =>
      simp only [xcode, Option.some.injEq, Prod.mk.injEq] at h
      obtain ⟨rfl, rfl, rfl, rfl, rfl⟩ := h
      exact Ev.skip hQ
    | label l =>
      simp only [xcode, Option.some.injEq, Prod.mk.injEq] at h
      obtain ⟨rfl, rfl, rfl, rfl, rfl⟩ := h
      exact Ev.label hQ
    | exit i =>
      simp only [xcode, Option.some.injEq, Prod.mk.injEq] at h
      obtain ⟨rfl, rfl, rfl, rfl, rfl⟩ := h
      exact Ev.exit hQ
    | ret =>
      simp only [xcode, Option.some.injEq, Prod.mk.injEq] at h
      obtain ⟨rfl, rfl, rfl, rfl, rfl⟩ := h
      exact Ev.ret hQ
    | seq y z =>
      simp only [xcode] at h
      cases hy : xcode P pr n y env s os with
      | none => rw [hy] at h; cases h
      | some r =>
        obtain ⟨x1, env1, s1, os1, o1⟩ := r
        rw [hy] at h
        cases x1 with
        | normal =>
          simp only at h
          split at h
          · rename_i x2 env2 s2 os2 o2 hz
            cases h
            obtain ⟨q1, q2⟩ := ObsOk.append hob
            exact Ev.seq (ih _ _ _ _ _ _ _ _ _ hy q1 (ih _ _ _ _ _ _ _ _ _ hz q2 hQ))
          · cases h
        | exit i =>
          simp only [Option.some.injEq, Prod.mk.injEq] at h
          obtain ⟨rfl, rfl, rfl, rfl, rfl⟩ := h
          exact Ev.seq (ih _ _ _ _ _ _ _ _ _ hy hob hQ)
        | ret =>
          simp only [Option.some.injEq, Prod.mk.injEq] at h
          obtain ⟨rfl, rfl, rfl, rfl, rfl⟩ := h
          exact Ev.seq (ih _ _ _ _ _ _ _ _ _ hy hob hQ)
    | cond o y z =>
      simp only [xcode] at h
      split at h
      · rename_i t ht
        have h1 := ih _ _ _ _ _ _ _ _ _ h hob hQ
        exact Ev.cond ht (by cases t <;> exact h1)
      · cases h
    | block i y =>
      simp only [xcode] at h
      cases hy : xcode P pr n y env s os with
      | none => rw [hy] at h; cases h
      | some r =>
        obtain ⟨x1, env1, s1, os1, o1⟩ := r
        rw [hy] at h
        cases x1 with
        | normal =>
          simp only [Option.some.injEq, Prod.mk.injEq] at h
          obtain ⟨rfl, rfl, rfl, rfl, rfl⟩ := h
          exact Ev.block (ih _ _ _ _ _ _ _ _ _ hy hob hQ)
        | ret =>
          simp only [Option.some.injEq, Prod.mk.injEq] at h
          obtain ⟨rfl, rfl, rfl, rfl, rfl⟩ := h
          exact Ev.block (ih _ _ _ _ _ _ _ _ _ hy hob hQ)
        | exit j =>
          simp only [Option.some.injEq, Prod.mk.injEq] at h
          obtain ⟨rfl, rfl, rfl, rfl, rfl⟩ := h
          refine Ev.block (ih _ _ _ _ _ _ _ _ _ hy hob ?_)
          simp only [blockQ]
          cases hb : Nat.beq j i with
          | true => rw [if_pos (Nat.eq_of_beq_eq_true hb)]; rw [hb] at hQ; exact hQ
          | false =>
            rw [if_neg (fun e => by subst e; simp at hb)]; rw [hb] at hQ; exact hQ
    | loop y => cases h
    | scope y =>
      simp only [xcode] at h
      exact Ev.scope (ih _ _ _ _ _ _ _ _ _ h hob hQ)
    | region id ops draw =>
      simp only [xcode] at h
      split at h
      · rename_i l env1 s1 os1 o1 hr
        cases hb : (!draw || (edgesB ops && freeB ops (ancs ops.toList []) l)) with
        | false => rw [hb] at h; cases h
        | true =>
          rw [hb] at h
          simp only [cond_true, Option.some.injEq, Prod.mk.injEq] at h
          obtain ⟨rfl, rfl, rfl, rfl, rfl⟩ := h
          exact xregion_any hp hm hr hb hob hQ
      · cases h
    | rangeFunc => cases h
    | goto => cases h
    | refuse => cases h

end Go.Ab

namespace Go.Ab
open Go Go.RowKit

def reown (k sz : Nat) : AV → Option AV
  | .sl es n .full => match es, n with
    | [], 0 => some (.sl [] 0 (.st k sz))
    | _, _ => none
  | .sl es n .nl => some (.sl es n (.st k sz))
  | _ => none

def LSt.more (s : LSt) : LSt := { s with own := s.ns :: s.own, ns := s.ns + 1 }

def setBlk : List (Nat × Blk) → Nat → Blk → List (Nat × Blk)
  | [], _, _ => []
  | p :: l, i, X => bif Nat.beq i p.1 then (p.1, X) :: l else p :: setBlk l i X

theorem look_setBlk : ∀ (l : List (Nat × Blk)) (i j : Nat) (X Y : Blk), look l i = some Y → look (setBlk l i X) j = if j = i then some X else look l j
  | [], _, _, _, _, h => by cases h
  | p :: l, i, j, X, Y, h => by
    simp only [look] at h
    simp only [setBlk]
    cases hb : Nat.beq i p.1 with
    | true =>
      have := Nat.eq_of_beq_eq_true hb
      subst this
      simp only [cond_true, look]
      by_cases e : j = p.1
      · subst e; simp
      · rw [if_neg e, beq_ne e]; rfl
    | false =>
      rw [hb] at h
      have ih := look_setBlk l i j X Y h
      simp only [cond_false, look]
      by_cases e : j = p.1
      · subst e
        have hne : p.1 ≠ i := by rintro rfl; simp at hb
        rw [if_neg hne]; simp
      · rw [beq_ne e]; simp only [cond_false]; exact ih

/- a row under a new number -/
mutual
def AV.mv (i j : Nat) : AV → AV
  | .val v => .val v
  | .agg cs => .agg (AV.mvL i j cs)
  | .tup cs => .tup (AV.mvL i j cs)
  | .sl es n o => .sl es n o
  | .ip es => .ip es
  | .mp k off => .mp k off
  | .ms k off n c z => .ms (bif Nat.beq k i then j else k) off n c z
  | .obj k => .obj k
  | .clo f fs cs => .clo f fs cs
def AV.mvL (i j : Nat) : List AV → List AV
  | [] => []
  | a :: l => AV.mv i j a :: AV.mvL i j l
end

mutual
theorem V.mv {G G' : Gh} {w w' : World} {i j : Nat} (hE : Ext G w G' w') (hj : ∀ b, G.ρ i = some b → G'.ρ j = some b) : ∀ (a : AV) (u : Value), V G w a u → V G' w' (a.mv i j) u
  | .val v, u, hv => by simpa only [V, AV.mv] using hv
  | .agg cs, u, hv => by
    simp only [V, AV.mv] at hv ⊢
    obtain ⟨vs, rfl, hl⟩ := hv
    exact ⟨vs, rfl, VL.mv hE hj cs vs hl⟩
  | .tup cs, u, hv => by
    simp only [V, AV.mv] at hv ⊢
    obtain ⟨vs, rfl, hl⟩ := hv
    exact ⟨vs, rfl, VL.mv hE hj cs vs hl⟩
  | .sl es n o, u, hv => by simpa only [AV.mv] using V.mono hE _ _ hv
  | .ip es, u, hv => by simpa only [AV.mv] using V.mono hE _ _ hv
  | .mp k off, u, hv => by simpa only [AV.mv] using V.mono hE _ _ hv
  | .obj k, u, hv => by simpa only [AV.mv] using V.mono hE _ _ hv
  | .clo f fs cs, u, hv => by simpa only [AV.mv] using V.mono hE _ _ hv
  | .ms k off n c z, u, hv => by
    simp only [AV.mv]
    cases hb : Nat.beq k i with
    | false => exact V.mono hE _ _ hv
    | true =>
      have := Nat.eq_of_beq_eq_true hb
      subst this
      simp only [V, cond_true] at hv ⊢
      obtain ⟨b, cap, h1, h2, o, h3, h4⟩ := hv
      exact ⟨b, cap, hj b h1, h2, o, h3, h4.imp (fun q => ⟨q.1, hE.room _ _ _ h1 q.2⟩) id⟩
theorem VL.mv {G G' : Gh} {w w' : World} {i j : Nat} (hE : Ext G w G' w') (hj : ∀ b, G.ρ i = some b → G'.ρ j = some b) : ∀ (as0 : List AV) (us : List Value), VL G w as0 us → VL G' w' (AV.mvL i j as0) us
  | [], [], _ => by simp only [AV.mvL, VL]
  | a :: as0, u :: us, hv => by
    simp only [VL, AV.mvL] at hv ⊢
    exact ⟨V.mv hE hj a u hv.1, VL.mv hE hj as0 us hv.2⟩
  | [], _ :: _, hv => by simp only [VL] at hv
  | _ :: _, [], hv => by simp only [VL] at hv
end

def Blk.mv (i j : Nat) : Blk → Blk
  | .cells cs => .cells (AV.mvL i j cs)
  | .obj o => .obj o
  | .row cs => .row cs
  | .dead => .dead

def mvBlks (i j : Nat) : List (Nat × Blk) → List (Nat × Blk)
  | [] => []
  | p :: l => (p.1, bif Nat.beq p.1 i then .dead else p.2.mv i j) :: mvBlks i j l

theorem look_mvBlks (i j : Nat) : ∀ (l : List (Nat × Blk)) (k : Nat), look (mvBlks i j l) k = (look l k).map fun X => if k = i then .dead else X.mv i j
  | [], _ => rfl
  | p :: l, k => by
    simp only [mvBlks, look]
    cases hb : Nat.beq k p.1 with
    | false => simp only [cond_false]; exact look_mvBlks i j l k
    | true =>
      have := Nat.eq_of_beq_eq_true hb
      subst this
      simp only [cond_true, Option.map_some]
      by_cases e : p.1 = i
      · rw [if_pos e, e]; simp
      · rw [if_neg e]
        have : Nat.beq p.1 i = false := beq_ne e
        rw [this]; rfl

/-- the state in which a row has another number -/
def LSt.mv (s : LSt) (i : Nat) (cs : List AV) : LSt := { s with H := (s.nx, .row cs) :: mvBlks i s.nx s.H, nx := s.nx + 1 }

theorem RelS.mv {G : Gh} {s : LSt} {w : World} (ho : s.Ok) (h : RelS G (over (Emp 0) s) w) {i : Nat} {cs : List AV} (hX : Ab.look s.H i = some (.row cs)) :
    ∃ G', Ext G w G' w ∧ (∀ b, G.ρ i = some b → G'.ρ s.nx = some b) ∧ RelS G' (over (Emp 0) (s.mv i cs)) w := by
  have hX' : (over (Emp 0) s).H i = some (.row cs) := by rw [over_H]; exact hX
  obtain ⟨b, hb, hF, hblk⟩ := h.look hX'
  have hn : Ab.look s.H s.nx = none := by
    cases hl : Ab.look s.H s.nx with
    | none => rfl
    | some X => exact absurd (ho.H _ _ hl) (Nat.lt_irrefl _)
  have hn' : (over (Emp 0) s).H s.nx = none := by rw [over_H]; exact hn
  have hE0 : Ext G w (G.addρ s.nx b) w := ⟨fun _ _ e => up_old ((h.dom s.nx).2 hn') e, fun _ _ e => e, fun _ _ e => e, fun _ _ _ => rfl, rfl, rfl, fun _ _ e => .inl e, fun _ _ _ _ r => r⟩
  have hZ : BlkOk (G.addρ s.nx b) w b (.row cs) := by
    obtain ⟨vs, T, h1, h2⟩ := hblk
    exact ⟨vs, T, h1, h2.imp (VL.mono hE0 _)⟩
  obtain ⟨q1, q2⟩ := h.renew hX' (by simp) hb hn' hZ
  have hj : ∀ b, G.ρ i = some b → (G.addρ s.nx b).ρ s.nx = some b := fun b _ => up_same _ _ _
  have hjj : ∀ c, (G.addρ s.nx b).ρ i = some c → (G.addρ s.nx b).ρ s.nx = some c := by
    intro c hc
    have : (G.addρ s.nx b).ρ i = some b := hE0.ρ i b hb
    rw [this] at hc; cases hc
    exact up_same _ _ _
  refine ⟨_, q1, fun c hc => by rw [hb] at hc; cases hc; exact up_same _ _ _, ?_⟩
  have hH : ∀ k, (over (Emp 0) (s.mv i cs)).H k = ((⟨up (up (over (Emp 0) s).H i .dead) s.nx (.row cs), (over (Emp 0) s).own, (over (Emp 0) s).ns⟩ : ASt).H k).map fun X => if k = s.nx then X else X.mv i s.nx := by
    intro k
    rw [over_H]
    show Ab.look ((s.nx, Blk.row cs) :: mvBlks i s.nx s.H) k = (up (up (over (Emp 0) s).H i .dead) s.nx (.row cs) k).map _
    simp only [Ab.look]
    by_cases e : k = s.nx
    · subst e; rw [up_same]; simp
    · have hbq : Nat.beq k s.nx = false := beq_ne e
      rw [hbq, up_ne _ _ e]
      simp only [cond_false, if_neg e]
      rw [look_mvBlks]
      by_cases e2 : k = i
      · subst e2; rw [up_same, hX]; simp [Blk.mv]
      · rw [up_ne _ _ e2, over_H]; simp only [if_neg e2]
  have hdd : ∀ k, (⟨up (up (over (Emp 0) s).H i .dead) s.nx (.row cs), (over (Emp 0) s).own, (over (Emp 0) s).ns⟩ : ASt).H k = some .dead → (over (Emp 0) (s.mv i cs)).H k = some .dead := fun k hk => by
    rw [hH, hk]; simp [Blk.mv]
  refine ⟨fun k => ?_, ?_, fun k l c hk hl => (q2.inj k l c hk hl).imp id (Or.imp (hdd k) (hdd l)), fun k c X hk hX => ?_, q2.live, q2.τns, q2.own, q2.ownd, q2.below, q2.base⟩
  · rw [hH, q2.dom k]; simp
  · obtain ⟨N, hN⟩ := q2.fin
    exact ⟨N, fun k hk => by rw [hH, hN k hk]; rfl⟩
  · rw [hH] at hX
    cases hY : (⟨up (up (over (Emp 0) s).H i .dead) s.nx (.row cs), (over (Emp 0) s).own, (over (Emp 0) s).ns⟩ : ASt).H k with
    | none => rw [hY] at hX; cases hX
    | some Y =>
      rw [hY] at hX
      simp only [Option.map_some, Option.some.injEq] at hX
      obtain ⟨p1, p2⟩ := q2.blk k c Y hk hY
      refine ⟨p1, ?_⟩
      split at hX
      · subst hX; exact p2
      · subst hX
        cases Y with
        | cells ds =>
          obtain ⟨vs, T, h1, h2⟩ := p2
          exact ⟨vs, T, h1, h2.imp fun us => VL.mv (Ext.refl _ _) hjj _ us⟩
        | obj o => exact p2
        | row ds => exact p2
        | dead => exact p2

theorem mv_ok {s : LSt} (h : s.Ok) (i : Nat) (cs : List AV) : (s.mv i cs).Ok := by
  refine ⟨fun k X hk => ?_, h.own, h.fr, Nat.zero_le _⟩
  have hk' : look ((s.nx, Blk.row cs) :: mvBlks i s.nx s.H) k = some X := hk
  show k < s.nx + 1
  simp only [look] at hk'
  cases hb : Nat.beq k s.nx with
  | true => have := Nat.eq_of_beq_eq_true hb; omega
  | false =>
    rw [hb] at hk'
    simp only [cond_false] at hk'
    rw [look_mvBlks] at hk'
    cases hl : look s.H k with
    | none => rw [hl] at hk'; cases hk'
    | some Y => have := h.H k Y hl; omega

/-- one place: a slot, or a block's cell -/
def restamp (it : Option Nat × Nat × Nat) (env : List AV) (s : LSt) : Option (List AV × LSt) :=
  match it with
  | (some i, _, 0) => match look s.H i with
    | some (.row cs) => some (AV.mvL i s.nx env, s.mv i cs)
    | _ => none
  | (none, t, sz) => match env[t]? with
    | some a => match reown s.ns sz a with
      | some a' => some (env.set t a', s.more)
      | none => none
    | none => none
  | (some b, c, sz) => match look s.H b with
    | some (.cells cs) => match cs[c]? with
      | some a => match reown s.ns sz a with
        | some a' => some (env, { s.more with H := setBlk s.H b (.cells (cs.set c a')) })
        | none => none
      | none => none
    | _ => none

def restamps : List (Option Nat × Nat × Nat) → List AV → LSt → Option (List AV × LSt)
  | [], env, s => some (env, s)
  | it :: l, env, s => match restamp it env s with
    | some (env', s') => restamps l env' s'
    | none => none

theorem V.reown {G : Gh} {w : World} {k sz : Nat} {a a' : AV} {u : Value} (h : Ab.reown k sz a = some a') (hτ : ∃ q, G.τ k = some q) (hv : V G w a u) : V G w a' u := by
  unfold Ab.reown at h
  split at h
  · split at h
    · cases h
      simp only [V] at hv ⊢
      obtain ⟨cap, hc, ⟨_, _, q3, q4, _⟩ | ⟨b, off, q1, q2, q3⟩⟩ := hv
      · exact ⟨cap, hc, .inl ⟨trivial, trivial, q3, q4, hτ⟩⟩
      · refine ⟨cap, hc, .inr ⟨b, off, q1, q2, hτ, .inl ⟨rfl, q3⟩⟩⟩
    · cases h
  · cases h
    simp only [V] at hv ⊢
    obtain ⟨cap, hc, ⟨q1, q2, q3, q4, _⟩ | ⟨b, off, q1, q2, q3⟩⟩ := hv
    · exact ⟨cap, hc, .inl ⟨q1, q2, q3, q4, hτ⟩⟩
    · exact q3.elim
  · cases h

theorem VL.set' {G : Gh} {w : World} : ∀ (as0 : List AV) (us : List Value), VL G w as0 us → ∀ (i : Nat) (a a' : AV), as0[i]? = some a → (∀ u, V G w a u → V G w a' u) → VL G w (as0.set i a') us
  | [], [], _, i, a, a', h, _ => by simp at h
  | x :: as0, y :: us, h, i, a, a', ha, hq => by
    simp only [VL] at h
    cases i with
    | zero => simp at ha; subst ha; simp only [List.set_cons_zero, VL]; exact ⟨hq _ h.1, h.2⟩
    | succ i => simp at ha; simp only [List.set_cons_succ, VL]; exact ⟨h.1, VL.set' as0 us h.2 i a a' ha hq⟩
  | [], _ :: _, h, _, _, _, _, _ => by simp only [VL] at h
  | _ :: _, [], h, _, _, _, _, _ => by simp only [VL] at h

theorem Ext.more {G : Gh} {s : LSt} {w : World} (hR : RelS G (over (Emp 0) s) w) : Ext G w (G.addτ s.ns (0, 1, 0)) w :=
  ⟨fun _ _ h => h, fun k r h => up_old (hR.τns s.ns (Nat.le_refl _)) h, fun _ _ h => h, fun _ _ _ => rfl, rfl, rfl, fun _ _ h => .inl h, fun _ _ _ _ r => r⟩

theorem RelS.more {G : Gh} {s : LSt} {w : World} (hR : RelS G (over (Emp 0) s) w) : RelS (G.addτ s.ns (0, 1, 0)) (over (Emp 0) s.more) w := by
  have hE := Ext.more hR
  have hold : ∀ k, (over (Emp 0) s.more).own k = true → k = s.ns ∨ (k ≠ s.ns ∧ (over (Emp 0) s).own k = true ∧ (G.addτ s.ns (0, 1, 0)).τ k = G.τ k) := by
    intro k hk
    by_cases e : k = s.ns
    · exact .inl e
    · refine .inr ⟨e, ?_, up_ne _ _ e⟩
      rw [over_own] at hk ⊢
      simp only [LSt.more, List.any_cons, Bool.or_eq_true] at hk
      exact hk.resolve_left (fun h => e (Nat.eq_of_beq_eq_true h))
  have hnew : (G.addτ s.ns (0, 1, 0)).τ s.ns = some (0, 1, 0) := up_same _ _ _
  refine ⟨hR.dom, hR.fin, hR.inj, fun i b X hi hX => ?_, hR.live, fun k hk => ?_, fun k hk => ?_, fun k k' b f t f' t' hk hk' h1 h2 l1 l2 => ?_, hR.below, hR.base⟩
  · obtain ⟨q1, q2⟩ := hR.blk i b X hi hX
    exact ⟨q1, q2.mono hE rfl⟩
  · have hk' : s.ns + 1 ≤ k := hk
    show up G.τ s.ns _ k = none
    rw [up_ne _ _ (by omega)]; exact hR.τns k (show s.ns ≤ k by omega)
  · rcases hold k hk with rfl | ⟨e, h1, h2⟩
    · exact ⟨0, 1, 0, hnew, .inl (Nat.lt_succ_self _)⟩
    · obtain ⟨b, f, t, q1, q2⟩ := hR.own k h1
      exact ⟨b, f, t, h2.trans q1, q2⟩
  · rcases hold k hk with rfl | ⟨e, q1, q2⟩
    · rw [hnew] at h1; cases h1; omega
    · rcases hold k' hk' with rfl | ⟨e', q3, q4⟩
      · rw [hnew] at h2; cases h2; omega
      · rw [q2] at h1; rw [q4] at h2
        exact hR.ownd k k' b f t f' t' q1 q3 h1 h2 l1 l2

theorem more_ok {s : LSt} (h : s.Ok) : s.more.Ok :=
  ⟨h.H, fun k hk => by
    rcases List.mem_cons.1 hk with rfl | hk
    · exact ⟨Nat.zero_le _, Nat.lt_succ_self _⟩
    · exact ⟨Nat.zero_le _, Nat.lt_succ_of_lt (h.own k hk).2⟩, h.fr, Nat.zero_le _⟩

theorem Rel.restamp {it : Option Nat × Nat × Nat} {env env' : List AV} {s s' : LSt} (h : Ab.restamp it env s = some (env', s')) {G : Gh} {a : Act} {w : World} (ho : s.Ok) (hR : Rel G ⟨env, over (Emp 0) s⟩ a w) :
    ∃ G', Ext G w G' w ∧ s'.Ok ∧ Rel G' ⟨env', over (Emp 0) s'⟩ a w := by
  by_cases hit : ∃ i c, it = (some i, c, 0)
  · obtain ⟨i, c, rfl⟩ := hit
    simp only [Ab.restamp] at h
    split at h
    · rename_i cs hcs
      cases h
      obtain ⟨G', q1, q2, q3⟩ := RelS.mv ho hR.st hcs
      exact ⟨G', q1, mv_ok ho i cs, q3, VL.mv q1 q2 _ _ hR.env, hR.dfr⟩
    · cases h
  have hE := Ext.more hR.st
  have hM := RelS.more hR.st
  have hτ : ∃ q, (G.addτ s.ns (0, 1, 0)).τ s.ns = some q := ⟨_, up_same _ _ _⟩
  have henv := VL.mono hE _ _ hR.env
  obtain ⟨ob, c, sz⟩ := it
  cases ob with
  | none =>
    simp only [Ab.restamp] at h
    split at h
    · rename_i x hx
      split at h
      · rename_i x' hx'
        cases h
        refine ⟨_, hE, more_ok ho, hM, ?_, hR.dfr⟩
        exact VL.set' _ _ henv c x x' hx fun u hu => V.reown hx' hτ hu
      · cases h
    · cases h
  | some b =>
    obtain ⟨sz, rfl⟩ : ∃ m, sz = m + 1 := by
      cases sz with
      | zero => exact (hit ⟨b, c, rfl⟩).elim
      | succ m => exact ⟨m, rfl⟩
    simp only [Ab.restamp] at h
    split at h
    · rename_i cs hcs
      split at h
      · rename_i x hx
        split at h
        · rename_i x' hx'
          cases h
          have hl : ∀ j, look (setBlk s.H b (.cells (cs.set c x'))) j = if j = b then some (.cells (cs.set c x')) else look s.H j := fun j => look_setBlk _ _ _ _ _ hcs
          have hdd : ∀ i, (over (Emp 0) s.more).H i = some .dead → (over (Emp 0) ⟨setBlk s.H b (.cells (cs.set c x')), s.more.nx, s.more.own, s.more.ns, s.more.dirty⟩).H i = some .dead := by
            intro i hi
            rw [over_H] at hi ⊢
            have hi' : look s.H i = some .dead := hi
            show look (setBlk s.H b (.cells (cs.set c x'))) i = _
            rw [hl, if_neg (fun e => by subst e; rw [hcs] at hi'; cases hi')]
            exact hi'
          refine ⟨_, hE, ⟨fun i X hX => ?_, (more_ok ho).own, ho.fr, Nat.zero_le _⟩, ⟨fun i => ?_, ?_, fun i j q hi hj => (hM.inj i j q hi hj).imp id (Or.imp (hdd i) (hdd j)), fun i q X hi hX => ?_, hM.live, hM.τns, hM.own, hM.ownd, hM.below, hM.base⟩, henv, hR.dfr⟩
          · have hX' : look (setBlk s.H b (.cells (cs.set c x'))) i = some X := hX
            rw [hl] at hX'
            by_cases e : i = b
            · subst e; exact ho.H i _ hcs
            · rw [if_neg e] at hX'; exact ho.H i X hX'
          · have := hM.dom i
            rw [this, over_H, over_H]
            show look s.H i = none ↔ look (setBlk s.H b (.cells (cs.set c x'))) i = none
            rw [hl]
            by_cases e : i = b
            · subst e; simp [hcs]
            · rw [if_neg e]
          · obtain ⟨N, hN⟩ := hM.fin
            refine ⟨max N (b + 1), fun i hi => ?_⟩
            have := hN i (by omega)
            rw [over_H] at this ⊢
            show look (setBlk s.H b (.cells (cs.set c x'))) i = none
            rw [hl, if_neg (by omega)]; exact this
          · rw [over_H] at hX
            have hX' : look (setBlk s.H b (.cells (cs.set c x'))) i = some X := hX
            rw [hl] at hX'
            by_cases e : i = b
            · subst e
              rw [if_pos rfl] at hX'
              cases hX'
              obtain ⟨q1, vs, T, q2, q3⟩ := hM.blk i q _ hi (by rw [over_H]; exact hcs)
              exact ⟨q1, vs, T, q2, q3.imp fun us q3 => VL.set' _ _ q3 c x x' hx fun u hu => V.reown hx' hτ hu⟩
            · rw [if_neg e] at hX'
              exact hM.blk i q X hi (by rw [over_H]; exact hX')
        · cases h
      · cases h
    · cases h

theorem Rel.restamps : ∀ (l : List (Option Nat × Nat × Nat)) {env env' : List AV} {s s' : LSt}, Ab.restamps l env s = some (env', s') → ∀ {G : Gh} {a : Act} {w : World}, s.Ok → Rel G ⟨env, over (Emp 0) s⟩ a w →
    ∃ G', Ext G w G' w ∧ s'.Ok ∧ Rel G' ⟨env', over (Emp 0) s'⟩ a w
  | [], env, env', s, s', h, G, a, w, ho, hR => by
    simp only [Ab.restamps, Option.some.injEq, Prod.mk.injEq] at h
    obtain ⟨rfl, rfl⟩ := h
    exact ⟨G, Ext.refl G w, ho, hR⟩
  | it :: l, env, env', s, s', h, G, a, w, ho, hR => by
    simp only [Ab.restamps] at h
    split at h
    · rename_i env1 s1 h1
      obtain ⟨G1, e1, o1, r1⟩ := Rel.restamp h1 ho hR
      obtain ⟨G2, e2, o2, r2⟩ := Rel.restamps l h o1 r1
      exact ⟨G2, e1.trans e2, o2, r2⟩
    · cases h

end Go.Ab

namespace Go.Ab
open Go Go.RowKit

inductive Fr where
  | seq (y : Code)
  | blk (i : Nat)
  | loop (c : Code)

def frameQ (P : Program) (na : Nb) (Q : AX → List AV → LSt → Prop) : List Fr → AX → List AV → LSt → Prop
  | [] => Q
  | .seq y :: fs => seqQ (fun e s => Dv P na y e s (frameQ P na Q fs)) (frameQ P na Q fs)
  | .blk i :: fs => blockQ i (frameQ P na Q fs)
  | .loop c :: fs => seqQ (fun e s => Dl P na c e s (frameQ P na Q fs)) (frameQ P na Q fs)

inductive Md where
  | run (c : Code)
  | ret (x : AX)

inductive KR where
  | fin (x : AX)
  | head (c : Code) (fs : List Fr)

def krun (P : Program) (pr : FuncId → List AV → LSt → Option LA) : Nat → Md → List Fr → List AV → LSt → List Orc → Option (KR × List AV × LSt × List Orc × List Ob)
  | 0, _, _, _, _, _ => none
  | n + 1, .run c, fs, env, s, os =>
    match c with
    | .skip => krun P pr n (.ret .normal) fs env s os
    | .label _ => krun P pr n (.ret .normal) fs env s os
    | .exit i => krun P pr n (.ret (.exit i)) fs env s os
    | .ret => krun P pr n (.ret .ret) fs env s os
    | .seq x y => krun P pr n (.run x) (.seq y :: fs) env s os
    | .cond c x y => match aev env c with
      | .val (.bool b) => krun P pr n (.run (bif b then x else y)) fs env s os
      | _ => none
    | .block i c => krun P pr n (.run c) (.blk i :: fs) env s os
    | .scope c => krun P pr n (.run c) fs env s os
    | .loop c => some (.head c fs, env, s, os, [])
    | .region _ ops draw => match xops P pr ops ops.toList 0 env s os with
      | some (l, env1, s1, os1, o1) => bif !draw || (edgesB ops && freeB ops (ancs ops.toList []) l) then
          match krun P pr n (.ret .normal) fs env1 s1 os1 with
          | some (k, env2, s2, os2, o2) => some (k, env2, s2, os2, o1 ++ o2)
          | none => none
        else none
      | none => none
    | _ => none
  | n + 1, .ret x, fs, env, s, os =>
    match fs with
    | [] => some (.fin x, env, s, os, [])
    | .seq y :: fs => match x with
      | .normal => krun P pr n (.run y) fs env s os
      | x => krun P pr n (.ret x) fs env s os
    | .blk i :: fs => match x with
      | .exit j => krun P pr n (.ret (bif Nat.beq j i then .normal else .exit j)) fs env s os
      | x => krun P pr n (.ret x) fs env s os
    | .loop c :: fs => match x with
      | .normal => some (.head c fs, env, s, os, [])
      | x => krun P pr n (.ret x) fs env s os

def KGoal (P : Program) (na : Nb) (Q : AX → List AV → LSt → Prop) (fs : List Fr) (env : List AV) (s : LSt) : Md → Prop
  | .run c => Dv P na c env s (frameQ P na Q fs)
  | .ret x => frameQ P na Q fs x env s

def KQ (P : Program) (na : Nb) (Q : AX → List AV → LSt → Prop) (env : List AV) (s : LSt) : KR → Prop
  | .fin x => Q x env s
  | .head c fs => Dl P na c env s (frameQ P na Q fs)

theorem krun_ok {P : Program} {pr : FuncId → List AV → LSt → Option LA} (hp : CallsOk P pr) (hm : P.follows .mixedOrders = true) {na : Nb} {Q : AX → List AV → LSt → Prop} : ∀ (n : Nat) (m : Md) (fs : List Fr) (env : List AV) (s : LSt) (os : List Orc) (k : KR) (env' : List AV) (s' : LSt) (os' : List Orc) (ob : List Ob),
    krun P pr n m fs env s os = some (k, env', s', os', ob) → ObsOk P ob → KQ P na Q env' s' k → KGoal P na Q fs env s m := by
  intro n
  induction n with
  | zero => intro m fs env s os k env' s' os' ob h; cases m <;> cases h
  | succ n ih =>
    intro m fs env s os k env' s' os' ob h hob hk
    cases m with
    | ret x =>
      cases fs with
      | nil =>
        simp only [krun, Option.some.injEq, Prod.mk.injEq] at h
        obtain ⟨rfl, rfl, rfl, rfl, rfl⟩ := h
        exact hk
      | cons f fs =>
        cases f with
        | seq y =>
          cases x with
          | normal => exact ih (.run y) fs env s os k env' s' os' ob h hob hk
          | exit i => exact ih (.ret (.exit i)) fs env s os k env' s' os' ob h hob hk
          | ret => exact ih (.ret .ret) fs env s os k env' s' os' ob h hob hk
        | blk i =>
          cases x with
          | normal => exact ih (.ret .normal) fs env s os k env' s' os' ob h hob hk
          | ret => exact ih (.ret .ret) fs env s os k env' s' os' ob h hob hk
          | exit j =>
            have := ih (.ret (bif Nat.beq j i then .normal else .exit j)) fs env s os k env' s' os' ob h hob hk
            simp only [KGoal, frameQ, blockQ] at this ⊢
            cases hb : Nat.beq j i with
            | true => rw [if_pos (Nat.eq_of_beq_eq_true hb)]; rw [hb] at this; exact this
            | false => rw [if_neg (fun e => by subst e; simp at hb)]; rw [hb] at this; exact this
        | loop c =>
          cases x with
          | normal =>
            simp only [krun, Option.some.injEq, Prod.mk.injEq] at h
            obtain ⟨rfl, rfl, rfl, rfl, rfl⟩ := h
            exact hk
          | exit i => exact ih (.ret (.exit i)) fs env s os k env' s' os' ob h hob hk
          | ret => exact ih (.ret .ret) fs env s os k env' s' os' ob h hob hk
    | run c =>
      cases c with
      | skip => exact Dv.ofEv (Ev.skip (ih (.ret .normal) fs env s os k env' s' os' ob h hob hk))
      | label l => exact Dv.ofEv (Ev.label (ih (.ret .normal) fs env s os k env' s' os' ob h hob hk))
      | exit i => exact Dv.ofEv (Ev.exit (ih (.ret (.exit i)) fs env s os k env' s' os' ob h hob hk))
      | ret => exact Dv.ofEv (Ev.ret (ih (.ret .ret) fs env s os k env' s' os' ob h hob hk))
      | seq y z => exact Dv.seq (ih (.run y) (.seq z :: fs) env s os k env' s' os' ob h hob hk)
      | cond o y z =>
        simp only [krun] at h
        split at h
        · rename_i t ht
          have h1 := ih (.run (bif t then y else z)) fs env s os k env' s' os' ob h hob hk
          exact Dv.cond ht (by cases t <;> exact h1)
        · cases h
      | block i y => exact Dv.block (ih (.run y) (.blk i :: fs) env s os k env' s' os' ob h hob hk)
      | loop y =>
        simp only [krun, Option.some.injEq, Prod.mk.injEq] at h
        obtain ⟨rfl, rfl, rfl, rfl, rfl⟩ := h
        exact Dv.loop hk
      | scope y => exact Dv.scope (ih (.run y) fs env s os k env' s' os' ob h hob hk)
      | region id ops draw =>
        simp only [krun] at h
        split at h
        · rename_i l env1 s1 os1 o1 hr
          cases hb : (!draw || (edgesB ops && freeB ops (ancs ops.toList []) l)) with
          | false => rw [hb] at h; cases h
          | true =>
            rw [hb] at h
            simp only [cond_true] at h
            split at h
            · rename_i k2 env2 s2 os2 o2 hr2
              cases h
              obtain ⟨q1, q2⟩ := ObsOk.append hob
              exact Dv.ofEv (xregion_any hp hm hr hb q1 (ih (.ret .normal) fs env1 s1 os1 _ _ _ _ _ hr2 q2 hk))
            · cases h
        · cases h
      | rangeFunc => cases h
      | goto => cases h
      | refuse => cases h

/- what is to be data -/
mutual
def AV.dobs (keep : List Nat) : AV → Option (List Ob)
  | .val _ => some []
  | .agg cs => AV.dobsL keep cs
  | .tup cs => AV.dobsL keep cs
  | .sl es _ _ => some [.data es]
  | .ip es => some [.data es]
  | .mp i _ => bif memB keep i then some [] else none
  | .ms i _ _ _ _ => bif memB keep i then some [] else none
  | .obj i => bif memB keep i then some [] else none
  | .clo _ fs cs => match AV.dobsL keep fs, AV.dobsL keep cs with
    | some a, some b => some (a ++ b)
    | _, _ => none
def AV.dobsL (keep : List Nat) : List AV → Option (List Ob)
  | [] => some []
  | a :: l => match AV.dobs keep a, AV.dobsL keep l with
    | some x, some y => some (x ++ y)
    | _, _ => none
end

mutual
theorem AV.dobs_ok {P : Program} {keep : List Nat} : ∀ (a : AV) (ob : List Ob), a.dobs keep = some ob → ObsOk P ob → a.fine (fun i => i ∈ keep)
  | .val _, _, _, _ => trivial
  | .agg cs, ob, h, hob => AV.dobsL_ok cs ob h hob
  | .tup cs, ob, h, hob => AV.dobsL_ok cs ob h hob
  | .sl es _ _, ob, h, hob => by
    simp only [AV.dobs, Option.some.injEq] at h
    subst h; exact hob.1
  | .ip es, ob, h, hob => by
    simp only [AV.dobs, Option.some.injEq] at h
    subst h; exact hob.1
  | .mp i _, ob, h, _ => by
    simp only [AV.dobs] at h
    cases hm : memB keep i with
    | false => rw [hm] at h; cases h
    | true => exact any_beq.1 hm
  | .ms i _ _ _ _, ob, h, _ => by
    simp only [AV.dobs] at h
    cases hm : memB keep i with
    | false => rw [hm] at h; cases h
    | true => exact any_beq.1 hm
  | .obj i, ob, h, _ => by
    simp only [AV.dobs] at h
    cases hm : memB keep i with
    | false => rw [hm] at h; cases h
    | true => exact any_beq.1 hm
  | .clo _ fs cs, ob, h, hob => by
    simp only [AV.dobs] at h
    split at h
    · rename_i a b h1 h2
      cases h
      obtain ⟨q1, q2⟩ := ObsOk.append hob
      exact ⟨AV.dobsL_ok fs a h1 q1, AV.dobsL_ok cs b h2 q2⟩
    · cases h
theorem AV.dobsL_ok {P : Program} {keep : List Nat} : ∀ (as0 : List AV) (ob : List Ob), AV.dobsL keep as0 = some ob → ObsOk P ob → AV.fineL (fun i => i ∈ keep) as0
  | [], _, _, _ => trivial
  | a :: as0, ob, h, hob => by
    simp only [AV.dobsL] at h
    split at h
    · rename_i x y h1 h2
      cases h
      obtain ⟨q1, q2⟩ := ObsOk.append hob
      exact ⟨AV.dobs_ok a x h1 q1, AV.dobsL_ok as0 y h2 q2⟩
    · cases h
end

def Blk.dobs (keep : List Nat) : Blk → Option (List Ob)
  | .cells cs => AV.dobsL keep cs
  | .obj _ => some []
  | .row cs => some [.data cs]
  | .dead => some []

def blksObs (keep : List Nat) (s : LSt) : List Nat → Option (List Ob)
  | [] => some []
  | i :: l => match ((look s.H i).getD (.cells [])).dobs keep, blksObs keep s l with
    | some a, some b => some (a ++ b)
    | _, _ => none

theorem blksObs_ok {P : Program} {keep : List Nat} {s : LSt} : ∀ (l : List Nat) (ob : List Ob), blksObs keep s l = some ob → ObsOk P ob → fineBlks keep s l
  | [], _, _, _ => trivial
  | i :: l, ob, h, hob => by
    simp only [blksObs] at h
    split at h
    · rename_i a b h1 h2
      cases h
      obtain ⟨q1, q2⟩ := ObsOk.append hob
      refine ⟨?_, blksObs_ok l b h2 q2⟩
      cases hX : (look s.H i).getD (.cells []) with
      | cells cs => rw [hX] at h1; exact AV.dobsL_ok cs a h1 q1
      | obj o => trivial
      | row cs =>
        rw [hX] at h1
        simp only [Blk.dobs, Option.some.injEq] at h1
        subst h1
        exact q1.1
      | dead => trivial
    · cases h

def envObs (keep live : List Nat) : List AV → Nat → Option (List Ob)
  | [], _ => some []
  | a :: l, t => match (bif memB live t then a.dobs keep else some []), envObs keep live l (t + 1) with
    | some x, some y => some (x ++ y)
    | _, _ => none

theorem envObs_ok {P : Program} {keep live : List Nat} : ∀ (env : List AV) (t : Nat) (ob : List Ob), envObs keep live env t = some ob → ObsOk P ob → fineEnv keep live env t
  | [], _, _, _, _ => trivial
  | a :: l, t, ob, h, hob => by
    simp only [envObs] at h
    split at h
    · rename_i x y h1 h2
      cases h
      obtain ⟨q1, q2⟩ := ObsOk.append hob
      refine ⟨?_, envObs_ok l (t + 1) y h2 q2⟩
      cases hm : memB live t with
      | true => rw [hm] at h1; exact AV.dobs_ok a x h1 q1
      | false => trivial
    · cases h

theorem Dl.restamps {P : Program} {na : Nb} {c : Code} {env env' : List AV} {s s' : LSt} {Q : AX → List AV → LSt → Prop} {rs : List (Option Nat × Nat × Nat)} (hr : Ab.restamps rs env s = some (env', s')) (h : Dl P na c env' s' Q) : Dl P na c env s Q := by
  intro G0 W h0 G a w hE ho hR
  obtain ⟨G', e, o, r⟩ := Rel.restamps rs hr ho hR
  exact h G0 W h0 G' a w (hE.trans e) o r

/-- a run to a loop's head, and the state counted anew there -/
def khead (P : Program) (pr : FuncId → List AV → LSt → Option LA) (na n : Nat) (m : Md) (fs : List Fr) (env : List AV) (s : LSt) (os : List Orc) (rs : List (Option Nat × Nat × Nat)) (keep ks live : List Nat) (j : Nat → Value) : Option (Code × List Fr × List AV × LSt × List Ob) :=
  match krun P pr n m fs env s os with
  | some (.head c fs', env1, s1, [], ob) =>
    match restamps rs env1 s1 with
    | none => none
    | some (env', s') =>
    bif reB na keep ks s' then
      match blksObs keep s' keep, envObs keep live env' 0 with
      | some o1, some o2 => some (c, fs', reEnv keep ks live j env' 0, reSt keep ks s', ob ++ (o1 ++ o2))
      | _, _ => none
    else none
  | _ => none

theorem khead_ok {P : Program} {pr : FuncId → List AV → LSt → Option LA} (hp : CallsOk P pr) (hm : P.follows .mixedOrders = true) {na : Nb} {Q : AX → List AV → LSt → Prop} {n : Nat} {m : Md} {fs fs' : List Fr} {env : List AV} {E : (Nat → Value) → List AV} {s S : LSt} {os : List Orc} {rs : List (Option Nat × Nat × Nat)} {keep ks live : List Nat} {c : Code} {ob : List Ob}
    (h : ∀ j, khead P pr na.n n m fs env s os rs keep ks live j = some (c, fs', E j, S, ob)) (hob : ObsOk P ob) (hk : ∀ j, Dl P na c (E j) S (frameQ P na Q fs')) : KGoal P na Q fs env s m := by
  have h0 := h fun _ => undef
  unfold khead at h0
  split at h0
  · rename_i c' fs1 env1 s1 ob' hr
    split at h0
    · cases h0
    rename_i env' s' hrs
    cases hb : reB na.n keep ks s' with
    | false => rw [hb] at h0; cases h0
    | true =>
      rw [hb] at h0
      simp only [cond_true] at h0
      split at h0
      · rename_i o1 o2 h1 h2
        simp only [Option.some.injEq, Prod.mk.injEq] at h0
        obtain ⟨rfl, rfl, _, rfl, rfl⟩ := h0
        obtain ⟨q1, q2⟩ := ObsOk.append hob
        obtain ⟨q3, q4⟩ := ObsOk.append q2
        refine krun_ok hp hm _ _ _ _ _ _ _ _ _ _ _ hr q1 ?_
        refine Dl.restamps hrs ?_
        refine Dl.re keep ks live hb (blksObs_ok _ _ h1 q3) (envObs_ok _ _ _ h2 q4) fun j => ?_
        have hj := h j
        unfold khead at hj
        rw [hr] at hj
        simp only [hrs, hb, cond_true, h1, h2, Option.some.injEq, Prod.mk.injEq] at hj
        rw [hj.2.2.1]
        exact hk j
      · cases h0
  · cases h0

def blkList (H : List (Nat × Blk)) (j : Nat) : Nat → List Blk
  | 0 => []
  | n + 1 => (look H j).getD (.cells []) :: blkList H (j + 1) n

theorem blkList_get {H : List (Nat × Blk)} : ∀ (n j i : Nat) (X : Blk), (blkList H j n)[i]? = some X → (∃ Y, look H (j + i) = some Y) → look H (j + i) = some X
  | 0, _, _, _, h, _ => by simp [blkList] at h
  | n + 1, j, i, X, h, ⟨Y, hY⟩ => by
    cases i with
    | zero =>
      simp only [blkList, List.getElem?_cons_zero, Option.some.injEq] at h
      simp only [Nat.add_zero] at hY ⊢
      rw [hY] at h ⊢
      simpa using h
    | succ i =>
      simp only [blkList, List.getElem?_cons_succ] at h
      rw [show j + (i + 1) = j + 1 + i by omega] at hY ⊢
      exact blkList_get n (j + 1) i X h ⟨Y, hY⟩

/-- told weaker, but that nothing is nothing -/
def Own.nlB : Own → Bool
  | .nl => true
  | .full => true
  | _ => false
def AV.frzK : AV → AV
  | .sl es n o => bif o.nlB then (match es with | [] => .sl [] n o | es => .sl es n .no) else .sl es n .no
  | a => a.frz
theorem V.frzK {G : Gh} {w : World} {a : AV} {u : Value} (h : V G w a u) : V G w a.frzK u := by
  unfold AV.frzK
  split
  · rename_i es n o
    cases o.nlB with
    | false => exact V.frz (.sl es n o) _ h
    | true =>
      simp only [cond_true]
      split
      · exact h
      · exact V.frz (.sl es n o) _ h
  · exact V.frz _ _ h
theorem VL.frzK {G : Gh} {w : World} : ∀ (as0 : List AV) (us : List Value), VL G w as0 us → VL G w (as0.map AV.frzK) us
  | [], [], _ => by simp only [List.map_nil, VL]
  | a :: as0, u :: us, h => by
    simp only [VL, List.map_cons] at h ⊢
    exact ⟨V.frzK h.1, VL.frzK as0 us h.2⟩
  | [], _ :: _, h => by simp only [VL] at h
  | _ :: _, [], h => by simp only [VL] at h
def Blk.fzB (k : Bool) : Blk → Blk
  | .cells cs => .cells (bif k then cs.map AV.frzK else AV.frzL cs)
  | .obj o => .obj o
  | .row cs => .row cs
  | .dead => .dead

theorem BlkOk.frz {G : Gh} {w : World} {b : Nat} {X : Blk} (h : BlkOk G w b X) (k : Bool) : BlkOk G w b (X.fzB k) := by
  cases X with
  | cells cs =>
    obtain ⟨vs, T, h1, h2⟩ := h
    cases k with
    | true => exact ⟨vs, T, h1, h2.imp (VL.frzK _)⟩
    | false => exact ⟨vs, T, h1, h2.imp (VL.frz _)⟩
  | obj o => exact h
  | row cs => exact h
  | dead => exact h

def frzBlks (k : Bool) : List (Nat × Blk) → List (Nat × Blk)
  | [] => []
  | p :: l => (p.1, p.2.fzB k) :: frzBlks k l

theorem look_frzBlks (k : Bool) : ∀ (l : List (Nat × Blk)) (i : Nat), look (frzBlks k l) i = (look l i).map (Blk.fzB k)
  | [], _ => rfl
  | p :: l, i => by
    simp only [frzBlks, look]
    cases Nat.beq i p.1 with
    | true => rfl
    | false => simp only [cond_false]; exact look_frzBlks k l i

/-- the same state, its blocks told weaker -/
def frzSt (k : Bool) (s : LSt) : LSt := { s with H := frzBlks k s.H }

theorem RelS.frz {G : Gh} {s : LSt} {w : World} (h : RelS G (over (Emp 0) s) w) (k : Bool) : RelS G (over (Emp 0) (frzSt k s)) w := by
  have hH : ∀ i, (over (Emp 0) (frzSt k s)).H i = ((over (Emp 0) s).H i).map (Blk.fzB k) := by
    intro i; rw [over_H, over_H]; exact look_frzBlks k s.H i
  have hdd : ∀ i, (over (Emp 0) s).H i = some .dead → (over (Emp 0) (frzSt k s)).H i = some .dead := fun i hi => by rw [hH, hi]; rfl
  refine ⟨fun i => ?_, ?_, fun i j q hi hj => (h.inj i j q hi hj).imp id (Or.imp (hdd i) (hdd j)), fun i b X hi hX => ?_, h.live, h.τns, h.own, h.ownd, h.below, h.base⟩
  · rw [hH, h.dom i]; simp
  · obtain ⟨N, hN⟩ := h.fin
    exact ⟨N, fun i hi => by rw [hH, hN i hi]; rfl⟩
  · rw [hH] at hX
    cases hY : (over (Emp 0) s).H i with
    | none => rw [hY] at hX; cases hX
    | some Y =>
      rw [hY] at hX
      simp only [Option.map_some, Option.some.injEq] at hX
      subst hX
      obtain ⟨q1, q2⟩ := h.blk i b Y hi hY
      exact ⟨q1, q2.frz k⟩

/-- a result that may keep a stamp at its top -/
def frz1 : AV → AV
  | .sl es n (.st k sz) => .sl es n (.st k sz)
  | a => a.frz
def frzT : AV → AV
  | .tup cs => .tup (cs.map frz1)
  | a => frz1 a
/-- likewise; where there is nothing else, that nothing has no room -/
def frzN (keep : List Nat) (a : AV) : AV :=
  match keep, a with
  | [], .sl es n o => bif o.nlB then (match es with | [] => .sl [] n .full | es => frzT (.sl es n o)) else frzT (.sl es n o)
  | _, a => frzT a
theorem V.frz1 {G : Gh} {w : World} {a : AV} {u : Value} (h : V G w a u) : V G w (Ab.frz1 a) u := by
  unfold Ab.frz1
  split
  · exact h
  · exact V.frz _ _ h
theorem VL.frz1 {G : Gh} {w : World} : ∀ (as0 : List AV) (us : List Value), VL G w as0 us → VL G w (as0.map Ab.frz1) us
  | [], [], _ => by simp [VL]
  | a :: as0, u :: us, h => by
    simp only [VL, List.map_cons] at h ⊢
    exact ⟨V.frz1 h.1, VL.frz1 as0 us h.2⟩
  | [], _ :: _, h => by simp only [VL] at h
  | _ :: _, [], h => by simp only [VL] at h
theorem V.frzT {G : Gh} {w : World} {a : AV} {u : Value} (h : V G w a u) : V G w (Ab.frzT a) u := by
  unfold Ab.frzT
  split
  · simp only [V] at h ⊢
    obtain ⟨vs, rfl, hl⟩ := h
    exact ⟨vs, rfl, VL.frz1 _ _ hl⟩
  · exact V.frz1 h

theorem V.frzN {G : Gh} {w : World} {keep : List Nat} {a : AV} {u : Value} (h : V G w a u) : V G w (Ab.frzN keep a) u := by
  unfold Ab.frzN
  split
  · rename_i es n o
    cases hb : o.nlB with
    | false => exact V.frzT h
    | true =>
      simp only [cond_true]
      split
      · simp only [V] at h ⊢
        obtain ⟨cap, hc, ⟨h1, h2, h3, h4, _⟩ | ⟨b, off, h1, h2, ho⟩⟩ := h
        · exact ⟨cap, hc, .inl ⟨h1, h2, h3, h4, trivial⟩⟩
        · cases o with
          | nl => exact ho.elim
          | full => exact ⟨cap, hc, .inr ⟨b, off, h1, h2, ho⟩⟩
          | no => cases hb
          | nn => cases hb
          | fr => cases hb
          | st _ _ => cases hb
      · exact V.frzT h
  · exact V.frzT h

/-- a run to the function's end: its result, its blocks -/
def kfin (P : Program) (pr : FuncId → List AV → LSt → Option LA) (na : Nat) (fn : Func) (n : Nat) (m : Md) (fs : List Fr) (env : List AV) (s : LSt) (os : List Orc) (rs : List (Option Nat × Nat × Nat)) (keep ks : List Nat) (own : Bool) : Option (AV × List Blk × List Ob) :=
  match krun P pr n m fs env s os with
  | some (.fin x, env1, s1, [], ob) =>
    match x with
    | .exit _ => none
    | _ =>
      match restamps rs env1 s1 with
      | none => none
      | some (env', s') =>
      match ares P (look s'.H) env' fn.results.toList with
      | some r => bif reB na keep ks s' then
          match blksObs keep s' keep, r.dobs keep with
          | some o1, some o2 => some (bif own then frzN keep (r.ren (newId keep) (place ks)) else (r.ren (newId keep) (place ks)).frz, (blkList (reSt keep ks s').H 0 keep.length).map (Blk.fzB own), ob ++ (o1 ++ o2))
          | _, _ => none
        else none
      | none => none
  | _ => none

/-- the post of a function -/
def FinQ (P : Program) (na : Nb) (fn : Func) (res : AV) (H1 : List Blk) (nst : Nat) : AX → List AV → LSt → Prop := fun x env0 s0 =>
  (x = .normal ∨ x = .ret) ∧ ∃ rs env s, restamps rs env0 s0 = some (env, s) ∧ ∃ r keep ks, ares P (look s.H) env fn.results.toList = some r ∧ reB na.n keep ks s = true ∧ fineBlks keep s keep ∧ r.fine (fun i => i ∈ keep) ∧
    (∀ G w u, V G w (r.ren (newId keep) (place ks)) u → V G w res u) ∧ (∃ ow : Bool, H1 = (blkList (reSt keep ks s).H 0 keep.length).map (Blk.fzB ow)) ∧ nst ≤ ks.length

theorem kfin_ok {P : Program} {pr : FuncId → List AV → LSt → Option LA} (hp : CallsOk P pr) (hm : P.follows .mixedOrders = true) {na : Nb} {fn : Func} {n : Nat} {m : Md} {fs : List Fr} {env : List AV} {s : LSt} {os : List Orc} {rs : List (Option Nat × Nat × Nat)} {keep ks : List Nat} {own : Bool} {res : AV} {H1 : List Blk} {nst : Nat} {ob : List Ob}
    (h : kfin P pr na.n fn n m fs env s os rs keep ks own = some (res, H1, ob)) (hob : ObsOk P ob) (hn : nst ≤ ks.length) : KGoal P na (FinQ P na fn res H1 nst) fs env s m := by
  unfold kfin at h
  split at h
  · rename_i x env1 s1 ob' hr
    have key : (x = .normal ∨ x = .ret) ∧ ∃ env' s', restamps rs env1 s1 = some (env', s') ∧ ∃ r, ares P (look s'.H) env' fn.results.toList = some r ∧ (bif reB na.n keep ks s' then
          match blksObs keep s' keep, r.dobs keep with
          | some o1, some o2 => some (bif own then frzN keep (r.ren (newId keep) (place ks)) else (r.ren (newId keep) (place ks)).frz, (blkList (reSt keep ks s').H 0 keep.length).map (Blk.fzB own), ob' ++ (o1 ++ o2))
          | _, _ => none
        else none) = some (res, H1, ob) := by
      cases x with
      | exit i => cases h
      | normal =>
        simp only at h
        split at h
        · cases h
        rename_i env' s' hrs
        split at h
        · rename_i r hr; exact ⟨.inl rfl, env', s', hrs, r, hr, h⟩
        · cases h
      | ret =>
        simp only at h
        split at h
        · cases h
        rename_i env' s' hrs
        split at h
        · rename_i r hr; exact ⟨.inr rfl, env', s', hrs, r, hr, h⟩
        · cases h
    obtain ⟨hx, env', s', hrs, r, hres, h⟩ := key
    cases hb : reB na.n keep ks s' with
    | false => rw [hb] at h; cases h
    | true =>
      rw [hb] at h
      simp only [cond_true] at h
      split at h
      · rename_i o1 o2 h1 h2
        simp only [Option.some.injEq, Prod.mk.injEq] at h
        obtain ⟨e1, rfl, rfl⟩ := h
        obtain ⟨q1, q2⟩ := ObsOk.append hob
        obtain ⟨q3, q4⟩ := ObsOk.append q2
        refine krun_ok hp hm _ _ _ _ _ _ _ _ _ _ _ hr q1 ⟨hx, rs, env', s', hrs, r, keep, ks, hres, hb, blksObs_ok _ _ h1 q3, AV.dobs_ok _ _ h2 q4, fun G w u hu => ?_, ⟨own, rfl⟩, hn⟩
        subst e1
        cases own with
        | true => exact V.frzN hu
        | false => exact V.frz _ _ hu
      · cases h
  · cases h

theorem CTri.body {P : Program} {f : FuncId} {fn : Func} {H0 : List Blk} {args : List AV} {res : AV} {H1 : List Blk} {nst : Nat} (hf : P.funcs[f]? = some fn) (hb : fn.body.isNone = false)
    (h : Dv P H0.length (bod fn) (args ++ List.replicate (fn.ntmps - args.length) (.val undef)) (st0 H0) (FinQ P H0.length fn res H1 nst)) : CTri P f H0 args res H1 nst := by
  intro G0 W cargs hB hR hv
  cases hb' : fn.body with
  | none => rw [hb'] at hb; cases hb
  | some c =>
  have hbod : bod fn = c := by simp [bod, hb']
  rw [hbod] at h
  refine calls_of_wp hf hb' ?_
  have hlen := VL.length _ _ hv
  have hR0 : Rel G0 ⟨args ++ List.replicate (fn.ntmps - args.length) (.val undef), over (Emp 0) (st0 H0)⟩ { tmps := cargs ++ Array.replicate (fn.ntmps - cargs.size) undef, defers := [] } W := by
    refine ⟨hR, ?_, rfl⟩
    have : cargs.size = args.length := by rw [← hlen]; simp
    simp only [Array.toList_append, Array.toList_replicate, this]
    exact VL.append _ _ _ _ hv (VL.replicate _)
  have hok : (st0 H0).Ok := by
    refine ⟨fun i X hX => ?_, fun k hk => by simp [st0] at hk, (fun k h => by cases h), Nat.zero_le _⟩
    have hX' : look (idxBlks H0 0) i = some X := hX
    rw [look_idxBlks] at hX'
    simp only [Nat.zero_le, if_true, Nat.sub_zero] at hX'
    exact (List.getElem?_eq_some_iff.1 hX').1
  refine wp_mono (h G0 W hB G0 _ W (Ext.refl G0 W) hok hR0) ?_
  rintro e a' w' ⟨x, env1, s1, G₂, rfl, ⟨hx, rs, env', s', hrs, r, keep, ks, hres, hreB, hfb, hfr, hle, ⟨ow, hH1⟩, hnst⟩, hE2, hok2, hR2⟩
  obtain ⟨G₁, hE1, hok', hR'⟩ := Rel.restamps rs hrs hok2 hR2
  have hE := hE2.trans hE1
  have hres' : ares P (over (Emp 0) s').H env' fn.results.toList = some r := by
    refine ares_mono (fun i X hX => ?_) hres
    rw [over_H]; exact hX
  obtain ⟨u, hu, huv⟩ := ares_ok (fn := fn) hR' hres'
  obtain ⟨G', h1, h2, h3, h4⟩ := renumber hreB hfb hB.ρ hB.τ hE hR'.st
  have hV := hle _ _ _ (V.ren h4 r u hfr huv)
  have hend : a'.defers = [] ∧ ∃ v', (results fn a'.tmps).run P w' = .ok v' w' ∧ ∃ u G' s', Ending.returned v' = .returned u ∧ Ext G0 W G' w' ∧ RelS G' (over (Emp 0) s') w' ∧ V G' w' res u ∧
      (∀ i X, H1[i]? = some X → look s'.H i = some X) ∧ ∀ k, k < nst → s'.own.any (Nat.beq k) = true := by
    refine ⟨hR'.dfr, u, hu, u, G', frzSt ow (reSt keep ks s'), rfl, h1, h3.frz ow, hV, fun i X hX => ?_, fun k hk => ?_⟩
    · rw [hH1, List.getElem?_map] at hX
      cases hY : (blkList (reSt keep ks s').H 0 keep.length)[i]? with
      | none => rw [hY] at hX; cases hX
      | some Y =>
      rw [hY] at hX
      simp only [Option.map_some, Option.some.injEq] at hX
      subst hX
      show look (frzBlks ow (reSt keep ks s').H) i = _
      rw [look_frzBlks]
      have := blkList_get keep.length 0 i Y hY
      simp only [Nat.zero_add] at this
      rw [this]
      · rfl
      have hlt : i < keep.length := by
        have := (List.getElem?_eq_some_iff.1 hY).1
        have hl : ∀ n j, (blkList (reSt keep ks s').H j n).length = n := by
          intro n
          induction n with
          | zero => intro j; rfl
          | succ n ih => intro j; simp [blkList, ih]
        rwa [hl] at this
      show ∃ Y, look (reBlks s'.H keep ks keep 0) i = some Y
      rw [look_reBlks]
      simp only [Nat.zero_le, if_true, Nat.sub_zero, List.getElem?_eq_getElem hlt, Option.map_some]
      exact ⟨_, rfl⟩
    · show (range' 0 ks.length).any (Nat.beq k) = true
      rw [any_beq, mem_range']; omega
  rcases hx with rfl | rfl
  · exact hend
  · exact hend

end Go.Ab
