/- OPERATIONS ONE BEHIND THE OTHER, and in another order. -/
import Derived.Test.YtkeipljdhcbfoaaGreatAbMap
namespace Go.Ab
open Go Go.RowKit

structure ST where
  env : List AV
  σ : ASt

def eset : List AV → Option Tmp → AV → List AV
  | env, none, _ => env
  | env, some d, v => env.set d v

structure Rel (G : Gh) (S : ST) (a : Act) (w : World) : Prop where
  st : RelS G S.σ w
  env : VL G w S.env a.tmps.toList
  dfr : a.defers = []

theorem VL.eset {G : Gh} {w : World} {env : List AV} {a : Act} (h : VL G w env a.tmps.toList) (d : Option Tmp) {v : AV} {u : Value} (hv : V G w v u) : VL G w (eset env d v) (a.put d u).tmps.toList := by
  cases d with
  | none => exact h
  | some d =>
    simp only [Ab.eset, Act.put, Array.toList_setIfInBounds]
    exact VL.set _ _ h d v u hv

theorem put_dfr (a : Act) (d : Option Tmp) (u : Value) : (a.put d u).defers = a.defers := by cases d <;> rfl

/-- is an operation wanted? (none: it can't be told) -/
def awant (ops : Array Oper) (env : List AV) (o : Oper) : Option Bool :=
  match o.guard with
  | none => some true
  | some (j, want) =>
    match (ops[j]?).bind (·.dst) with
    | none => some false
    | some t => match eget env t with
      | .val (.bool b) => some (b == want)
      | .val _ => some false
      | _ => none

theorem awant_ok {G : Gh} {w : World} {ops : Array Oper} {env : List AV} {o : Oper} {a : Act} {b : Bool} (h : VL G w env a.tmps.toList) (hw : awant ops env o = some b) :
    Region.wanted o (yielded ops a.tmps) = b := by
  unfold awant at hw
  unfold Region.wanted
  split at hw
  · rename_i hg; rw [hg]; simpa using hw
  · rename_i j want hg
    rw [hg]
    simp only
    split at hw
    · rename_i hd
      simp only [Option.some.injEq] at hw; subst hw
      simp [yielded, hd]
    · rename_i t hd
      have hv := V.eget env _ h t
      have hget : a.tmps.toList.getD t undef = a.tmps.getD t undef := by simp
      rw [hget] at hv
      split at hw
      · rename_i b' he
        rw [he] at hv
        simp only [V] at hv
        simp only [Option.some.injEq] at hw; subst hw
        simp only [yielded, hd, Option.bind_some]
        have : a.tmps[t]? = some (.bool b') := by
          rw [Array.getD_eq_getD_getElem?] at hv
          cases hx : a.tmps[t]? with
          | none => rw [hx] at hv; cases hv
          | some z => rw [hx] at hv; simp only [Option.getD_some] at hv; rw [hv]
        rw [this]
        cases b' <;> cases want <;> rfl
      · rename_i v hnb he
        rw [he] at hv
        simp only [V] at hv
        simp only [Option.some.injEq] at hw; subst hw
        simp only [yielded, hd, Option.bind_some]
        cases hx : a.tmps[t]? with
        | none => rfl
        | some z =>
          rw [Array.getD_eq_getD_getElem?, hx] at hv
          simp only [Option.getD_some] at hv
          subst hv
          cases z <;> first | rfl | exact (hnb _ rfl).elim
      · cases hw

/-- one operation of a region (a call too), by what it does; none: it is passed over -/
def AStep (P : Program) (ops : Array Oper) (i : Nat) (l : Option LA) (S S' : ST) : Prop :=
  ∃ o, ops[i]? = some o ∧
    match l with
    | none => awant ops S.env o = some false ∧ S' = ⟨eset S.env o.dst (.val undef), S.σ⟩
    | some la => awant ops S.env o = some true ∧ OpOk P o la ∧ (∀ x ∈ o.op.operands, la.ev x = aev S.env x) ∧ la.can S.σ ∧ S' = ⟨eset S.env o.dst la.v, la.app S.σ⟩

theorem AStep.wp {P : Program} {ops : Array Oper} {i : Nat} {l : Option LA} {S S' : ST} (h : AStep P ops i l S S') {G : Gh} {a : Act} {w : World} (hR : Rel G S a w)
    {K : Act → World → Prop} {Q : Exit → Act → World → Prop} (hK : ∀ G' a' w', Ext G w G' w' → Rel G' S' a' w' → K a' w') : wpOp P ops Q i K a w := by
  obtain ⟨o, ho, h⟩ := h
  unfold wpOp
  simp only [ho]
  cases l with
  | none =>
    obtain ⟨h1, rfl⟩ := h
    rw [awant_ok hR.env h1]
    simp only [Bool.false_eq_true, if_false]
    exact hK G _ w (Ext.refl G w) ⟨hR.st, VL.eset hR.env _ (by simp [V]), by rw [put_dfr]; exact hR.dfr⟩
  | some la =>
    obtain ⟨h1, h2, h3, h4, rfl⟩ := h
    rw [awant_ok hR.env h1]
    simp only [if_true]
    refine .inl (h2 G S.σ w a K Q hR.st (fun x hx => by rw [h3 x hx]; exact V.aev hR.env x) h4 fun u G' w' hE hR' hv => ?_)
    exact hK G' _ w' hE ⟨hR', VL.eset (VL.mono hE _ _ hR.env) _ hv, by rw [put_dfr]; exact hR.dfr⟩

def ARun (P : Program) (ops : Array Oper) : List (Nat × Option LA) → ST → ST → Prop
  | [], S, S' => S = S'
  | p :: l, S, S' => ∃ S₁, AStep P ops p.1 p.2 S S₁ ∧ ARun P ops l S₁ S'

theorem ARun.wpOps {P : Program} {ops : Array Oper} {Q : Exit → Act → World → Prop} : ∀ (l : List (Nat × Option LA)) (S S' : ST), ARun P ops l S S' → ∀ (G : Gh) (a : Act) (w : World), Rel G S a w →
    (∀ G' a' w', Ext G w G' w' → Rel G' S' a' w' → Q .normal a' w') → wpOps P ops Q (l.map (·.1)) a w
  | [], S, S', h, G, a, w, hR, hQ => by
    simp only [ARun] at h
    subst h
    exact hQ G a w (Ext.refl G w) hR
  | p :: l, S, S', h, G, a, w, hR, hQ => by
    obtain ⟨S₁, h1, h2⟩ := h
    rw [List.map_cons, wpOps_cons]
    refine h1.wp hR fun G' a' w' hE hR' => ?_
    exact ARun.wpOps l S₁ S' h2 G' a' w' hR' fun G2 a2 w2 hE2 hR2 => hQ G2 a2 w2 (hE.trans hE2) hR2

/-- a region in its own order -/
theorem region_wp {P : Program} {ops : Array Oper} {id : Nat} {Q : Exit → Act → World → Prop} {l : List (Nat × Option LA)} {S S' : ST} (h : ARun P ops l S S') (hl : l.map (·.1) = List.range ops.size) {G : Gh} {a : Act} {w : World} (hR : Rel G S a w)
    (hQ : ∀ G' a' w', Ext G w G' w' → Rel G' S' a' w' → Q .normal a' w') : (Code.region id ops false).wp P Q a w := by
  refine wp_region ?_
  rw [← hl]
  exact ARun.wpOps l S S' h G a w hR hQ

/- TWO OPERATIONS THAT DO NOT MEET -/
def disj (l m : List Nat) : Bool := l.all fun i => !(m.any (Nat.beq i))

theorem disj_spec {l m : List Nat} (h : disj l m = true) {i : Nat} (h1 : i ∈ l) (h2 : i ∈ m) : False := by
  unfold disj at h
  have := List.all_eq_true.1 h i h1
  simp only [Bool.not_eq_true', List.any_eq_false] at this
  exact this i h2 (by simp)

def LA.rs (la : LA) : List Nat := la.rd.map (·.1)
def LA.ws (la : LA) : List Nat := la.wr.map (·.1)
def LA.as (la : LA) : List Nat := la.al.map (·.1)
def LA.stm (la : LA) : Bool := (!la.use.isEmpty || !Nat.beq la.new 0) || la.st

def LA.clear (a b : LA) : Bool := (b.ws ++ b.as).all fun i => Nat.blt i a.lo || Nat.ble a.hi i

theorem LA.clear_spec {a b : LA} (h : a.clear b = true) {i : Nat} (h1 : a.lo ≤ i) (h2 : i < a.hi) : i ∉ b.ws ∧ i ∉ b.as := by
  have key : i ∉ b.ws ++ b.as := fun hi => by
    have := List.all_eq_true.1 h i hi
    simp only [Bool.or_eq_true, Nat.blt_eq, Nat.ble_eq] at this
    omega
  simp only [List.mem_append, not_or] at key
  exact key

def apartM (a b : Option LA) : Bool :=
  match a, b with
  | some a, some b => disj (a.rs ++ a.ws ++ a.as) (b.ws ++ b.as) && disj (a.ws ++ a.as) (b.rs ++ b.ws ++ b.as) && !(a.stm && b.stm) && (a.clear b && b.clear a)
  | _, _ => true

theorem ups_not {H : Nat → Option Blk} : ∀ (l : List (Nat × Blk)) {i : Nat}, i ∉ l.map (·.1) → ups H l i = H i
  | [], _, _ => rfl
  | p :: l, i, h => by
    simp only [List.map_cons, List.mem_cons, not_or] at h
    simp only [ups]
    rw [up_ne _ _ h.1]
    exact ups_not l h.2

theorem ups_mem {H H' : Nat → Option Blk} : ∀ (l : List (Nat × Blk)) {i : Nat}, i ∈ l.map (·.1) → ups H l i = ups H' l i
  | [], _, h => by simp at h
  | p :: l, i, h => by
    simp only [ups]
    by_cases e : i = p.1
    · subst e; rw [up_same, up_same]
    · rw [up_ne _ _ e, up_ne _ _ e]
      simp only [List.map_cons, List.mem_cons] at h
      exact ups_mem l (h.resolve_left e)

theorem app_H_not {la : LA} {σ : ASt} {i : Nat} (h1 : i ∉ la.ws) (h2 : i ∉ la.as) : (la.app σ).H i = σ.H i := by
  show ups (ups σ.H (la.wr.map fun p => (p.1, p.2.2))) la.al i = σ.H i
  rw [ups_not _ h2, ups_not]
  simpa [LA.ws] using h1

theorem app_H_mem {la : LA} {σ σ' : ASt} {i : Nat} (h : i ∈ la.ws ∨ i ∈ la.as) : (la.app σ).H i = (la.app σ').H i := by
  show ups (ups σ.H (la.wr.map fun p => (p.1, p.2.2))) la.al i = ups (ups σ'.H (la.wr.map fun p => (p.1, p.2.2))) la.al i
  by_cases h2 : i ∈ la.as
  · exact ups_mem _ h2
  · rw [ups_not _ h2, ups_not _ h2]
    exact ups_mem _ (by simpa [LA.ws] using h.resolve_right h2)

theorem stm_false' {la : LA} (h : la.stm = false) : la.use = [] ∧ la.new = 0 ∧ la.st = false := by
  simp only [LA.stm, Bool.or_eq_false_iff, Bool.not_eq_false', List.isEmpty_iff] at h
  exact ⟨h.1.1, Nat.eq_of_beq_eq_true h.1.2, h.2⟩

theorem stm_false {la : LA} (h : la.stm = false) : la.use = [] ∧ la.new = 0 := ⟨(stm_false' h).1, (stm_false' h).2.1⟩

theorem app_own_still {la : LA} {σ : ASt} (h : la.stm = false) : (la.app σ).own = σ.own ∧ (la.app σ).ns = σ.ns := by
  obtain ⟨h1, h2⟩ := stm_false h
  unfold LA.app
  rw [h1, h2, ASt.stamps_zero]
  exact ⟨rfl, rfl⟩

theorem app_own_congr {la : LA} {σ σ' : ASt} (h1 : σ.own = σ'.own) (h2 : σ.ns = σ'.ns) : (la.app σ).own = (la.app σ').own ∧ (la.app σ).ns = (la.app σ').ns := by
  unfold LA.app ASt.stamps
  simp only [h1, h2, and_self]

theorem can_of {a b : LA} {σ : ASt} (hm : apartM (some a) (some b) = true) (hb : b.can (a.app σ)) : b.can σ := by
  simp only [apartM, Bool.and_eq_true, Bool.not_eq_true', Bool.and_eq_false_iff] at hm
  obtain ⟨⟨⟨h1, h2⟩, h3⟩, h4⟩ := hm
  have hH : ∀ i, i ∈ b.rs ++ b.ws ++ b.as → (a.app σ).H i = σ.H i := fun i hi =>
    app_H_not (fun e => disj_spec h2 (List.mem_append_left _ e) hi) (fun e => disj_spec h2 (List.mem_append_right _ e) hi)
  refine ⟨fun i X hX => ?_, fun i X Y hX => ?_, fun i X hX => ?_, fun k hk => ?_, fun hs => ?_, fun i q1 q2 => ?_⟩
  · rw [← hH i (by simp only [LA.rs, List.mem_append, List.mem_map]; exact .inl (.inl ⟨_, hX, rfl⟩))]; exact hb.rd i X hX
  · rw [← hH i (by simp only [LA.ws, List.mem_append, List.mem_map]; exact .inl (.inr ⟨_, hX, rfl⟩))]; exact hb.wr i X Y hX
  · rw [← hH i (by simp only [LA.as, List.mem_append, List.mem_map]; exact .inr ⟨_, hX, rfl⟩)]; exact hb.al i X hX
  · have := hb.use k hk
    rcases h3 with h3 | h3
    · rw [(app_own_still h3).1] at this; exact this
    · rw [(stm_false h3).1] at hk; cases hk
  · have := hb.ns hs
    rcases h3 with h3 | h3
    · rw [(app_own_still h3).2] at this; exact this
    · obtain ⟨e1, e2, e3⟩ := stm_false' h3
      rcases hs with hs | hs | hs
      · exact absurd e1 hs
      · exact absurd e2 hs
      · rw [e3] at hs; cases hs
  · obtain ⟨n1, n2⟩ := LA.clear_spec h4.2 q1 q2
    have := hb.hole i q1 q2
    rwa [app_H_not n1 n2] at this

theorem can_to {a b : LA} {σ : ASt} (hm : apartM (some a) (some b) = true) (ha : a.can σ) : a.can (b.app σ) := by
  simp only [apartM, Bool.and_eq_true, Bool.not_eq_true', Bool.and_eq_false_iff] at hm
  obtain ⟨⟨⟨h1, h2⟩, h3⟩, h4⟩ := hm
  have hH : ∀ i, i ∈ a.rs ++ a.ws ++ a.as → (b.app σ).H i = σ.H i := fun i hi =>
    app_H_not (fun e => disj_spec h1 hi (List.mem_append_left _ e)) (fun e => disj_spec h1 hi (List.mem_append_right _ e))
  refine ⟨fun i X hX => ?_, fun i X Y hX => ?_, fun i X hX => ?_, fun k hk => ?_, fun hs => ?_, fun i q1 q2 => ?_⟩
  · rw [hH i (by simp only [LA.rs, List.mem_append, List.mem_map]; exact .inl (.inl ⟨_, hX, rfl⟩))]; exact ha.rd i X hX
  · rw [hH i (by simp only [LA.ws, List.mem_append, List.mem_map]; exact .inl (.inr ⟨_, hX, rfl⟩))]; exact ha.wr i X Y hX
  · rw [hH i (by simp only [LA.as, List.mem_append, List.mem_map]; exact .inr ⟨_, hX, rfl⟩)]; exact ha.al i X hX
  · rcases h3 with h3 | h3
    · rw [(stm_false h3).1] at hk; cases hk
    · rw [(app_own_still h3).1]; exact ha.use k hk
  · rcases h3 with h3 | h3
    · obtain ⟨e1, e2, e3⟩ := stm_false' h3
      rcases hs with hs | hs | hs
      · exact absurd e1 hs
      · exact absurd e2 hs
      · rw [e3] at hs; cases hs
    · rw [(app_own_still h3).2]; exact ha.ns hs
  · obtain ⟨n1, n2⟩ := LA.clear_spec h4.1 q1 q2
    rw [app_H_not n1 n2]
    exact ha.hole i q1 q2

theorem app_comm {a b : LA} {σ : ASt} (hm : apartM (some a) (some b) = true) : a.app (b.app σ) = b.app (a.app σ) := by
  simp only [apartM, Bool.and_eq_true, Bool.not_eq_true', Bool.and_eq_false_iff] at hm
  obtain ⟨⟨⟨h1, h2⟩, h3⟩, h4⟩ := hm
  have hH : (a.app (b.app σ)).H = (b.app (a.app σ)).H := by
    funext i
    by_cases ha : i ∈ a.ws ∨ i ∈ a.as
    · have hb1 : i ∉ b.ws := fun e => disj_spec h2 (List.mem_append.2 ha) (by simp [e])
      have hb2 : i ∉ b.as := fun e => disj_spec h2 (List.mem_append.2 ha) (by simp [e])
      rw [app_H_not hb1 hb2]
      exact app_H_mem ha
    · have ha' := not_or.1 ha
      rw [app_H_not ha'.1 ha'.2]
      by_cases hb : i ∈ b.ws ∨ i ∈ b.as
      · exact app_H_mem hb
      · have hb' := not_or.1 hb
        rw [app_H_not hb'.1 hb'.2, app_H_not hb'.1 hb'.2, app_H_not ha'.1 ha'.2]
  have hO : (a.app (b.app σ)).own = (b.app (a.app σ)).own ∧ (a.app (b.app σ)).ns = (b.app (a.app σ)).ns := by
    rcases h3 with h3 | h3
    · obtain ⟨e1, e2⟩ := app_own_still (σ := b.app σ) h3
      obtain ⟨e3, e4⟩ := app_own_still (σ := σ) h3
      obtain ⟨e5, e6⟩ := app_own_congr (la := b) e3 e4
      exact ⟨e1.trans e5.symm, e2.trans e6.symm⟩
    · obtain ⟨e1, e2⟩ := app_own_still (σ := a.app σ) h3
      obtain ⟨e3, e4⟩ := app_own_still (σ := σ) h3
      obtain ⟨e5, e6⟩ := app_own_congr (la := a) e3 e4
      exact ⟨e5.trans e1.symm, e6.trans e2.symm⟩
  calc a.app (b.app σ) = ⟨(a.app (b.app σ)).H, (a.app (b.app σ)).own, (a.app (b.app σ)).ns⟩ := rfl
    _ = ⟨(b.app (a.app σ)).H, (b.app (a.app σ)).own, (b.app (a.app σ)).ns⟩ := by rw [hH, hO.1, hO.2]
    _ = b.app (a.app σ) := rfl

end Go.Ab
