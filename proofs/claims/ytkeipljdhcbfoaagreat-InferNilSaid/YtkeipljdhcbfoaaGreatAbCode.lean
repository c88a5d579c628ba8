/- CODE: statement by statement; calls; a function out of its body. -/
import Derived.Test.YtkeipljdhcbfoaaGreatAbLeave2
import Derived.Scope
import Derived.LoopN
namespace Go.Ab
open Go Go.RowKit

inductive AX where
  | normal
  | exit (id : Nat)
  | ret

def AX.toExit : AX → Exit
  | .normal => .normal
  | .exit i => .exit i
  | .ret => .ret

/-- the post of a piece of code, in the model's own terms -/
def CPost (G : Gh) (w : World) (Q : AX → ST → Prop) : Exit → Act → World → Prop := fun e a' w' => ∃ x S' G', e = AX.toExit x ∧ Q x S' ∧ Ext G w G' w' ∧ Rel G' S' a' w'

def Cw (P : Program) (c : Code) (S : ST) (Q : AX → ST → Prop) : Prop := ∀ (G : Gh) (a : Act) (w : World), Rel G S a w → c.wp P (CPost G w Q) a w

theorem Cw.mono {P : Program} {c : Code} {S : ST} {Q Q' : AX → ST → Prop} (h : Cw P c S Q) (hq : ∀ x S, Q x S → Q' x S) : Cw P c S Q' :=
  fun G a w hR => wp_mono (h G a w hR) fun _ _ _ ⟨x, S', G', h1, h2, h3, h4⟩ => ⟨x, S', G', h1, hq _ _ h2, h3, h4⟩

theorem Cw.skip {P : Program} {S : ST} {Q : AX → ST → Prop} (h : Q .normal S) : Cw P .skip S Q :=
  fun G _ w hR => wp_skip ⟨.normal, S, G, rfl, h, Ext.refl G w, hR⟩
theorem Cw.label {P : Program} {l : Nat} {S : ST} {Q : AX → ST → Prop} (h : Q .normal S) : Cw P (.label l) S Q :=
  fun G _ w hR => wp_label ⟨.normal, S, G, rfl, h, Ext.refl G w, hR⟩
theorem Cw.exit {P : Program} {i : Nat} {S : ST} {Q : AX → ST → Prop} (h : Q (.exit i) S) : Cw P (.exit i) S Q :=
  fun G _ w hR => wp_exit ⟨.exit i, S, G, rfl, h, Ext.refl G w, hR⟩
theorem Cw.ret {P : Program} {S : ST} {Q : AX → ST → Prop} (h : Q .ret S) : Cw P .ret S Q :=
  fun G _ w hR => wp_ret ⟨.ret, S, G, rfl, h, Ext.refl G w, hR⟩

def AX.seq (next : ST → Prop) (Q : AX → ST → Prop) : AX → ST → Prop
  | .normal, S => next S
  | x, S => Q x S

theorem CPost.trans {G G₁ : Gh} {w w₁ : World} {Q : AX → ST → Prop} (h : Ext G w G₁ w₁) {e : Exit} {a : Act} {w' : World} (k : CPost G₁ w₁ Q e a w') : CPost G w Q e a w' := by
  obtain ⟨x, S', G', h1, h2, h3, h4⟩ := k
  exact ⟨x, S', G', h1, h2, h.trans h3, h4⟩

theorem Cw.seq {P : Program} {x y : Code} {S : ST} {Q : AX → ST → Prop} (h : Cw P x S (AX.seq (fun S' => Cw P y S' Q) Q)) : Cw P (.seq x y) S Q := by
  intro G a w hR
  refine wp_seq (wp_mono (h G a w hR) fun e a' w' hp => ?_)
  obtain ⟨x', S', G', rfl, h2, h3, h4⟩ := hp
  cases x' with
  | normal => exact wp_mono (h2 G' a' w' h4) fun _ _ _ k => k.trans h3
  | exit i => exact ⟨.exit i, S', G', rfl, h2, h3, h4⟩
  | ret => exact ⟨.ret, S', G', rfl, h2, h3, h4⟩

theorem Cw.cond {P : Program} {c : Operand} {x y : Code} {S : ST} {Q : AX → ST → Prop} {b : Bool} (hc : aev S.env c = .val (.bool b)) (h : Cw P (if b then x else y) S Q) : Cw P (.cond c x y) S Q := by
  intro G a w hR
  have hv := V.aev hR.env c
  rw [hc] at hv
  simp only [V] at hv
  exact wp_cond hv (h G a w hR)

def AX.block (i : Nat) (Q : AX → ST → Prop) : AX → ST → Prop
  | .exit j, S => if j = i then Q .normal S else Q (.exit j) S
  | x, S => Q x S

theorem Cw.block {P : Program} {i : Nat} {c : Code} {S : ST} {Q : AX → ST → Prop} (h : Cw P c S (AX.block i Q)) : Cw P (.block i c) S Q := by
  intro G a w hR
  refine wp_block (wp_mono (h G a w hR) fun e a' w' hp => ?_)
  obtain ⟨x', S', G', rfl, h2, h3, h4⟩ := hp
  cases x' with
  | normal => exact ⟨.normal, S', G', rfl, h2, h3, h4⟩
  | ret => exact ⟨.ret, S', G', rfl, h2, h3, h4⟩
  | exit j =>
    simp only [AX.block] at h2
    simp only [AX.toExit, Exit.inBlock]
    by_cases e : j = i
    · rw [if_pos e] at h2 ⊢; exact ⟨.normal, S', G', rfl, h2, h3, h4⟩
    · rw [if_neg e] at h2 ⊢; exact ⟨.exit j, S', G', rfl, h2, h3, h4⟩

def CwR (P : Program) (c : Code) (Q : AX → ST → Prop) : Nat → ST → Prop
  | 0, _ => False
  | n + 1, S => Cw P c S (AX.seq (CwR P c Q n) Q)

theorem CwR.rounds {P : Program} {c : Code} {Q : AX → ST → Prop} : ∀ (n : Nat) (S : ST), CwR P c Q n S → ∀ (G₀ G : Gh) (a : Act) (w₀ w : World), Ext G₀ w₀ G w → Rel G S a w → Code.rounds P c (CPost G₀ w₀ Q) n a w
  | 0, _, h, _, _, _, _, _, _, _ => h.elim
  | n + 1, S, h, G₀, G, a, w₀, w, hE, hR => by
    rw [rounds_succ]
    refine wp_mono (h G a w hR) fun e a' w' hp => ?_
    obtain ⟨x', S', G', rfl, h2, h3, h4⟩ := hp
    cases x' with
    | normal => exact CwR.rounds n S' h2 G₀ G' a' w₀ w' (hE.trans h3) h4
    | exit i => exact ⟨.exit i, S', G', rfl, h2, hE.trans h3, h4⟩
    | ret => exact ⟨.ret, S', G', rfl, h2, hE.trans h3, h4⟩

theorem Cw.loop {P : Program} {c : Code} {S : ST} {Q : AX → ST → Prop} (n : Nat) (h : CwR P c Q n S) : Cw P (.loop c) S Q :=
  fun G a w hR => wp_loop_rounds n (CwR.rounds n S h G G a w w (Ext.refl G w) hR)

theorem Cw.scope {P : Program} {c : Code} {S : ST} {Q : AX → ST → Prop} (h : Cw P c S Q) : Cw P (.scope c) S Q := by
  intro G a w hR
  refine wp_scope_straight (wp_mono (h G a w hR) fun e a' w' hp => ?_)
  obtain ⟨x', S', G', rfl, h2, h3, h4⟩ := hp
  cases x' with
  | normal => exact ⟨.normal, S', G', rfl, h2, h3, h4⟩
  | exit i => exact ⟨.exit i, S', G', rfl, h2, h3, h4⟩
  | ret => exact ⟨.ret, S', G', rfl, h2, h3, h4⟩

theorem Cw.region {P : Program} {ops : Array Oper} {id : Nat} {l : List (Nat × Option LA)} {S S' : ST} {Q : AX → ST → Prop} (h : ARun P ops l S S') (hl : l.map (·.1) = List.range ops.size) (hQ : Q .normal S') : Cw P (.region id ops false) S Q :=
  fun _ _ _ hR => region_wp h hl hR fun G' _ _ hE hR' => ⟨.normal, S', G', rfl, hQ, hE, hR'⟩

theorem Cw.draw {P : Program} {ops : Array Oper} {id : Nat} {l : List (Nat × Option LA)} {S S' : ST} {Q : AX → ST → Prop} (hm : P.follows .mixedOrders = true) (hed : edgesB ops = true)
    (hfree : freeB ops (ancs ops.toList []) l = true) (h : ARun P ops l S S') (hl : l.map (·.1) = List.range ops.size) (hQ : Q .normal S') : Cw P (.region id ops true) S Q :=
  fun _ _ _ hR => region_draw_wp hm hed hfree h hl hR fun G' _ _ hE hR' => ⟨.normal, S', G', rfl, hQ, hE, hR'⟩

/- CALLS -/
/-- A call of a function with such arguments does just what 'la' says, in whatever state that has what 'la' asks. -/
def UTri (P : Program) (f : FuncId) (args : List AV) (la : LA) : Prop :=
  ∀ (G : Gh) (σ : ASt) (w : World) (cargs : Array Value), RelS G σ w → VL G w args cargs.toList → la.can σ →
    Calls P f cargs w fun e w' => ∃ u G', e = .returned u ∧ Ext G w G' w' ∧ RelS G' (la.app σ) w' ∧ V G' w' la.v u

theorem OpOk.call {P : Program} {dst : Option Tmp} {type : TypeId} {pos : String} {after : Array Edge} {guard : Option (Nat × Bool)} {g : Operand} {args : Array Operand} {argTypes : Array TypeId} {la : LA} {f : FuncId} {first caps : List AV} {fn : Func}
    (hg : la.ev g = .clo f first caps) (hf : P.funcs[f]? = some fn) (hname : (fn.name == "runtime.NumGoroutine") = false) (hb : fn.body.isNone = false)
    (h : UTri P f (first ++ args.toList.map la.ev ++ caps) la) : OpOk P ⟨dst, .call { callee := .value g, args := args, argTypes := argTypes }, type, pos, after, guard⟩ la := by
  intro G σ w a K Q hR hx hc hK
  have hgx := hx g (by simp [Op.operands, Call.operands])
  rw [hg] at hgx
  simp only [V] at hgx
  obtain ⟨l, r, hge, hl, hr⟩ := hgx
  have hargs : VL G w (args.toList.map la.ev) (args.toList.map a.eval) := VL.mapv _ fun p hp => hx p (by simp [Op.operands, Call.operands]; exact .inr (by simpa using hp))
  have hrun : (execOp a.eval ⟨dst, .call { callee := .value g, args := args, argTypes := argTypes }, type, pos, after, guard⟩).run P w = .ok (.enter f (l.toArray ++ args.map a.eval ++ r.toArray)) w := by
    simp only [execOp, resolve, hge, Deferred.ofValue, Sem.run_bind, Sem.run_pure, Result.andThen_ok, invoke, callFunc]
    have hname' : ¬ fn.name = "runtime.NumGoroutine" := by simpa using hname
    have hb' : ¬ fn.body = none := by intro e; rw [e] at hb; cases hb
    simp [program, Sem.run, hf, hname', hb']
  unfold Oper.wp
  rw [hrun, Oper.upon_enter]
  refine (h G σ w (l.toArray ++ args.map a.eval ++ r.toArray) hR ?_ hc).mono fun e w' he => ?_
  · have := VL.append _ _ _ _ (VL.append _ _ _ _ hl hargs) hr
    simpa using this
  · obtain ⟨u, G', rfl, h1, h2, h3⟩ := he
    exact hK u G' w' h1 h2 h3

/- A FUNCTION OUT OF ITS BODY -/
def ares1 (P : Program) (H : Nat → Option Blk) (env : List AV) : ResultVar → Option AV
  | .tmp t => some (eget env t)
  | .cell a t => match tsz P t, eget env a with
    | some q, .mp i off => match H i with
      | some (.cells cs) => part1 q (cs.drop off)
      | _ => none
    | _, _ => none

def aresL (P : Program) (H : Nat → Option Blk) (env : List AV) : List ResultVar → Option (List AV)
  | [] => some []
  | r :: l => match ares1 P H env r, aresL P H env l with
    | some v, some vs => some (v :: vs)
    | _, _ => none

def ares (P : Program) (H : Nat → Option Blk) (env : List AV) (rs : List ResultVar) : Option AV :=
  match aresL P H env rs with
  | some [v] => some v
  | some vs => some (.tup vs)
  | none => none

theorem ares1_ok {P : Program} {S : ST} {G : Gh} {a : Act} {w : World} (hR : Rel G S a w) {r : ResultVar} {v : AV} (h : ares1 P S.σ.H S.env r = some v) :
    ∃ u, (match r with | .tmp t => (pure (a.tmps.getD t undef) : Sem Value) | .cell b t => do loadVar t (← asAddr (a.tmps.getD b undef))).run P w = .ok u w ∧ V G w v u := by
  have hget : ∀ t, V G w (eget S.env t) (a.tmps.getD t undef) := by
    intro t
    have := V.eget S.env _ hR.env t
    simpa using this
  cases r with
  | tmp t =>
    simp only [ares1, Option.some.injEq] at h
    subst h
    exact ⟨_, rfl, hget t⟩
  | cell b t =>
    simp only [ares1] at h
    split at h
    · rename_i q i off hq he
      split at h
      · rename_i cs hcs
        have hb := hget b
        rw [he] at hb
        simp only [V] at hb
        obtain ⟨c, hc, hbe⟩ := hb
        obtain ⟨c', hc', _, hblk⟩ := hR.st.look hcs
        rw [hc] at hc'; cases hc'
        obtain ⟨vs, T, hh, hl⟩ := hblk
        obtain ⟨u, hu, hv⟩ := part1_mem hq hh hl h
        refine ⟨u, ?_, hv⟩
        simp only [Instr.loadAt, Instr.sureAddr, Sem.run_bind, Sem.run_pure, Result.andThen_ok] at hu
        simp only [hbe, asAddr, Sem.run_bind, Sem.run_pure, Result.andThen_ok, hu]
      · cases h
    · cases h

theorem aresL_ok {P : Program} {S : ST} {G : Gh} {a : Act} {w : World} (hR : Rel G S a w) : ∀ (rs : List ResultVar) (vs : List AV), aresL P S.σ.H S.env rs = some vs →
    ∃ us, (rs.mapM fun (r : ResultVar) => match r with | .tmp t => (pure (a.tmps.getD t undef) : Sem Value) | .cell b t => do loadVar t (← asAddr (a.tmps.getD b undef))).run P w = .ok us w ∧ VL G w vs us
  | [], vs, h => by simp only [aresL, Option.some.injEq] at h; subst h; exact ⟨[], by simp, by simp [VL]⟩
  | r :: rs, vs, h => by
    simp only [aresL] at h
    split at h
    · rename_i v vs' h1 h2
      cases h
      obtain ⟨u, hu, hv⟩ := ares1_ok hR h1
      obtain ⟨us, hus, hvs⟩ := aresL_ok hR rs vs' h2
      refine ⟨u :: us, ?_, by simp only [VL]; exact ⟨hv, hvs⟩⟩
      simp only [List.mapM_cons, Sem.run_bind, hu, Result.andThen_ok, hus, Sem.run_pure]
    · cases h

theorem ares_ok {P : Program} {S : ST} {G : Gh} {a : Act} {w : World} (hR : Rel G S a w) {fn : Func} {v : AV} (h : ares P S.σ.H S.env fn.results.toList = some v) :
    ∃ u, (results fn a.tmps).run P w = .ok u w ∧ V G w v u := by
  unfold ares at h
  have key : ∀ vs, aresL P S.σ.H S.env fn.results.toList = some vs → ∃ us : List Value, (results fn a.tmps).run P w = .ok (if h : us.toArray.size = 1 then us.toArray[0] else .tuple us.toArray) w ∧ VL G w vs us := by
    intro vs hvs
    obtain ⟨us, hus, hv⟩ := aresL_ok hR _ _ hvs
    refine ⟨us, ?_, hv⟩
    unfold results
    rw [Array.mapM_eq_mapM_toList]
    simp only [Sem.run_bind, Sem.run_map, Sem.run_pure]
    erw [hus]
    rfl
  split at h
  · rename_i v' hvs
    cases h
    obtain ⟨us, h1, h2⟩ := key _ hvs
    have hl := VL.length _ _ h2
    match us, hl, h1, h2 with
    | [u], _, h1, h2 =>
      simp only [VL] at h2
      exact ⟨u, by simpa using h1, h2.1⟩
  · rename_i vs hne hvs
    cases h
    obtain ⟨us, h1, h2⟩ := key _ hvs
    have hl := VL.length _ _ h2
    have hne' : ¬ us.toArray.size = 1 := by
      intro e
      simp only [List.size_toArray] at e
      rw [hl] at e
      match vs, e with
      | [v'], _ => exact hne v' rfl
    rw [dif_neg hne'] at h1
    exact ⟨_, h1, by simp only [V]; exact ⟨us, rfl, h2⟩⟩
  · cases h

theorem VL.replicate {G : Gh} {w : World} : ∀ n, VL G w (List.replicate n (.val undef)) (List.replicate n undef)
  | 0 => by simp [VL]
  | n + 1 => by simp only [List.replicate_succ, VL]; exact ⟨by simp [V], VL.replicate n⟩

theorem UTri.body {P : Program} {f : FuncId} {fn : Func} {c : Code} {args : List AV} {la : LA} (hf : P.funcs[f]? = some fn) (hb : fn.body = some c)
    (h : ∀ σ : ASt, la.can σ → (∃ N, ∀ i, N ≤ i → σ.H i = none) → (∀ k, σ.own k = true → k < σ.ns) → Cw P c ⟨args ++ List.replicate (fn.ntmps - args.length) (.val undef), σ⟩ fun x S => (x = .normal ∨ x = .ret) ∧
      ∃ res kf kb ks p g, ares P S.σ.H S.env fn.results.toList = some res ∧ Left σ S.σ la res kf kb ks p g) : UTri P f args la := by
  intro G σ w cargs hR hv hc
  refine calls_of_wp hf hb ?_
  have hlen := VL.length _ _ hv
  have hR0 : Rel G ⟨args ++ List.replicate (fn.ntmps - args.length) (.val undef), σ⟩ { tmps := cargs ++ Array.replicate (fn.ntmps - cargs.size) undef, defers := [] } w := by
    refine ⟨hR, ?_, rfl⟩
    have : cargs.size = args.length := by rw [← hlen]; simp
    simp only [Array.toList_append, Array.toList_replicate, this]
    exact VL.append _ _ _ _ hv (VL.replicate _)
  refine wp_mono (h σ hc hR.fin (fun k hk => hR.own_lt hk) G _ w hR0) fun e a' w' hp => ?_
  obtain ⟨x, S', G₁, rfl, ⟨hx, res, kf, kb, ks, p, g, hres, hL⟩, hE, hR'⟩ := hp
  obtain ⟨u, hu, huv⟩ := ares_ok (fn := fn) hR' hres
  obtain ⟨G', h1, h2, h3⟩ := leave hL hR hE hR'.st hc huv
  have hend : a'.defers = [] ∧ ∃ v, (results fn a'.tmps).run P w' = .ok v w' ∧ ∃ u G', Ending.returned v = .returned u ∧ Ext G w G' w' ∧ RelS G' (la.app σ) w' ∧ V G' w' la.v u :=
    ⟨hR'.dfr, u, hu, u, G', rfl, h1, h2, h3⟩
  rcases hx with rfl | rfl
  · exact hend
  · exact hend

end Go.Ab
