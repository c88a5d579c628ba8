/- A REGION IN WHATEVER ORDER ITS EDGES ALLOW. -/
import Derived.Test.YtkeipljdhcbfoaaGreatAbRun
namespace Go.Ab
open Go Go.RowKit

theorem eget_set_ne : ∀ (env : List AV) (d t : Nat) (v : AV), t ≠ d → eget (env.set d v) t = eget env t
  | [], _, _, _, _ => rfl
  | a :: r, 0, 0, _, h => absurd rfl h
  | a :: r, 0, t + 1, _, _ => rfl
  | a :: r, d + 1, 0, _, _ => rfl
  | a :: r, d + 1, t + 1, v, h => by
    simp only [List.set_cons_succ, eget]
    exact eget_set_ne r d t v (fun e => h (by omega))

theorem aev_eset {env : List AV} {dst : Option Tmp} {v : AV} {x : Operand} (h : ∀ d, dst = some d → x ≠ .tmp d) : aev (eset env dst v) x = aev env x := by
  cases dst with
  | none => rfl
  | some d =>
    cases x with
    | tmp t =>
      have : t ≠ d := fun e => h d rfl (by rw [e])
      simp only [aev, eset, eget_set_ne _ _ _ _ this]
    | _ => rfl

theorem awant_eset {ops : Array Oper} {o : Oper} {env : List AV} {dst : Option Tmp} {v : AV} (h : ∀ d, dst = some d → d ∉ o.looksAt ops) : awant ops (eset env dst v) o = awant ops env o := by
  cases dst with
  | none => rfl
  | some d =>
    unfold awant
    cases hg : o.guard with
    | none => rfl
    | some g =>
      obtain ⟨j, want⟩ := g
      simp only
      cases ht : (ops[j]?).bind (·.dst) with
      | none => rfl
      | some t =>
        have hne : t ≠ d := fun e => h d rfl (by subst e; simp [Oper.looksAt, hg, ht])
        simp only [eset, eget_set_ne _ _ _ _ hne]

theorem aev_looks {ops : Array Oper} {o : Oper} {env : List AV} {dst : Option Tmp} {v : AV} (h : ∀ d, dst = some d → d ∉ o.looksAt ops) (x : Operand) (hx : x ∈ o.op.operands) : aev (eset env dst v) x = aev env x :=
  aev_eset fun d hd hxd => h d hd (by
    subst hxd
    exact List.mem_append_left _ (List.mem_filterMap.2 ⟨.tmp d, by simpa using hx, rfl⟩))

theorem eset_comm {env : List AV} {d e : Option Tmp} {u v : AV} (h : ∀ x, d = some x → e ≠ some x) : eset (eset env d u) e v = eset (eset env e v) d u := by
  cases d with
  | none => cases e <;> rfl
  | some x =>
    cases e with
    | none => rfl
    | some y =>
      have hne : x ≠ y := fun q => h x rfl (by rw [q])
      simp only [eset]
      exact List.set_comm _ _ hne

def outv (l : Option LA) : AV := match l with | none => .val undef | some la => la.v
def outσ (l : Option LA) (σ : ASt) : ASt := match l with | none => σ | some la => la.app σ

theorem outσ_comm {a b : Option LA} {σ : ASt} (hm : apartM a b = true) : outσ a (outσ b σ) = outσ b (outσ a σ) := by
  cases a with
  | none => rfl
  | some a => cases b with
    | none => rfl
    | some b => exact app_comm hm

theorem apartM_symm {a b : Option LA} (h : apartM a b = true) : apartM b a = true := by
  cases a with
  | none => cases b <;> rfl
  | some a =>
    cases b with
    | none => rfl
    | some b =>
      simp only [apartM, Bool.and_eq_true, Bool.not_eq_true', Bool.and_eq_false_iff] at h ⊢
      obtain ⟨⟨⟨h1, h2⟩, h3⟩, h4⟩ := h
      have flip : ∀ l m : List Nat, (∀ i, i ∈ l → i ∈ m → False) → disj l m = true := by
        intro l m hh
        unfold disj
        rw [List.all_eq_true]
        intro i hi
        simp only [Bool.not_eq_true', List.any_eq_false]
        intro j hj e
        have := Nat.eq_of_beq_eq_true e
        subst this
        exact hh i hi hj
      refine ⟨⟨⟨flip _ _ fun i hi hj => disj_spec h2 hj hi, flip _ _ fun i hi hj => disj_spec h1 hj hi⟩, h3.symm⟩, h4.2, h4.1⟩

theorem AStep.out {P : Program} {ops : Array Oper} {i : Nat} {l : Option LA} {S S' : ST} {o : Oper} (h : AStep P ops i l S S') (ho : ops[i]? = some o) : S' = ⟨eset S.env o.dst (outv l), outσ l S.σ⟩ := by
  obtain ⟨o', ho', h⟩ := h
  rw [ho] at ho'; cases ho'
  cases l with
  | none => exact h.2
  | some la => exact h.2.2.2.2

/-- the same operation, in another state in which it is met alike -/
theorem AStep.move {P : Program} {ops : Array Oper} {i : Nat} {l : Option LA} {S S' T : ST} {o : Oper} (h : AStep P ops i l S S') (ho : ops[i]? = some o)
    (h1 : awant ops T.env o = awant ops S.env o) (h2 : ∀ x ∈ o.op.operands, aev T.env x = aev S.env x) (h3 : ∀ la, l = some la → la.can S.σ → la.can T.σ) :
    AStep P ops i l T ⟨eset T.env o.dst (outv l), outσ l T.σ⟩ := by
  obtain ⟨o', ho', h⟩ := h
  rw [ho] at ho'; cases ho'
  refine ⟨o, ho, ?_⟩
  cases l with
  | none => exact ⟨h1.trans h.1, rfl⟩
  | some la =>
    obtain ⟨q1, q2, q3, q4, _⟩ := h
    exact ⟨h1.trans q1, q2, fun x hx => (q3 x hx).trans (h2 x hx).symm, h3 la rfl q4, rfl⟩

theorem AStep.swap {P : Program} {ops : Array Oper} {i j : Nat} {a b : Option LA} {S S₁ S₂ : ST} {x y : Oper} (hx : ops[i]? = some x) (hy : ops[j]? = some y) (hap : x.apart ops y = true) (hm : apartM a b = true)
    (h1 : AStep P ops i a S S₁) (h2 : AStep P ops j b S₁ S₂) : ∃ T, AStep P ops j b S T ∧ AStep P ops i a T S₂ := by
  obtain ⟨c1, c2, c3⟩ := Oper.apart_spec hap
  have e1 := h1.out hx
  have e2 := h2.out hy
  have g2 := h2.move (T := S) hy (by rw [e1]; exact (awant_eset c1).symm) (fun z hz => by rw [e1]; exact (aev_looks c1 z hz).symm) (fun lb hb hc => by
    subst hb
    rw [e1] at hc
    cases a with
    | none => exact hc
    | some la => exact can_of hm hc)
  have g1 := h1.move (T := ⟨eset S.env y.dst (outv b), outσ b S.σ⟩) hx (awant_eset c3) (fun z hz => aev_looks c3 z hz) (fun la ha hc => by
    subst ha
    cases b with
    | none => exact hc
    | some lb => exact can_to hm hc)
  refine ⟨_, g2, ?_⟩
  have : S₂ = ⟨eset (eset S.env y.dst (outv b)) x.dst (outv a), outσ a (outσ b S.σ)⟩ := by
    rw [e2, e1]
    congr 1
    · exact eset_comm c2
    · exact (outσ_comm hm).symm
  rw [this]
  exact g1

/-- the ancestors of each operation, as bits -/
def anc (m : List Nat) (o : Oper) : Nat := o.after.toList.foldl (fun s e => bif Region.binds .any e then Nat.lor (Nat.lor s (Nat.shiftLeft 1 e.on)) (m.getD e.on 0) else s) 0
def ancs : List Oper → List Nat → List Nat
  | [], m => m
  | o :: l, m => ancs l (m ++ [anc m o])

/-- do all two operations of which none waits for the other go past each other? -/
def apartOps (ops : Array Oper) (x y : Nat × Option LA) : Bool :=
  match ops[x.1]?, ops[y.1]? with
  | some o, some p => o.apart ops p && apartM x.2 y.2
  | _, _ => false

def freeB (ops : Array Oper) (m : List Nat) : List (Nat × Option LA) → Bool
  | [] => true
  | x :: l => (l.all fun y => Nat.testBit (m.getD y.1 0) x.1 || apartOps ops x y) && freeB ops m l

/-- what is listed has all that it waits for listed -/
def Closed (ops : Array Oper) (listed : Array Bool) : Prop := ∀ i o, listed.getD i false = true → ops[i]? = some o → ∀ e ∈ o.after, Region.binds .any e = true → listed.getD e.on false = true

theorem anc_spec {listed : Array Bool} {m : List Nat} (hm : ∀ i j, listed.getD i false = true → Nat.testBit (m.getD i 0) j = true → listed.getD j false = true) :
    ∀ (l : List Edge) (s : Nat), (∀ j, Nat.testBit s j = true → listed.getD j false = true) → (∀ e ∈ l, Region.binds .any e = true → listed.getD e.on false = true) →
      ∀ j, Nat.testBit (l.foldl (fun s e => bif Region.binds .any e then Nat.lor (Nat.lor s (Nat.shiftLeft 1 e.on)) (m.getD e.on 0) else s) s) j = true → listed.getD j false = true
  | [], s, hs, _, j, h => hs j h
  | e :: l, s, hs, hl, j, h => by
    simp only [List.foldl_cons] at h
    refine anc_spec hm l _ ?_ (fun e he => hl e (by simp [he])) j h
    intro k hk
    cases hb : Region.binds .any e with
    | false => simp only [hb, cond_false] at hk; exact hs k hk
    | true =>
      simp only [hb, cond_true] at hk
      have he := hl e (by simp) hb
      have hk' : Nat.testBit (s ||| (1 <<< e.on) ||| m.getD e.on 0) k = true := hk
      rw [Nat.testBit_or, Nat.testBit_or] at hk'
      simp only [Bool.or_eq_true] at hk'
      rcases hk' with (hk' | hk') | hk'
      · exact hs k hk'
      · rw [Nat.one_shiftLeft, Nat.testBit_two_pow] at hk'
        simp only [decide_eq_true_eq] at hk'
        rw [← hk']; exact he
      · exact hm e.on k he hk'

theorem ancs_spec {ops : Array Oper} {listed : Array Bool} (hc : Closed ops listed) : ∀ (l : List Oper) (m : List Nat), (∀ k, l[k]? = ops[m.length + k]?) →
    (∀ i j, listed.getD i false = true → Nat.testBit (m.getD i 0) j = true → listed.getD j false = true) →
    ∀ i j, listed.getD i false = true → Nat.testBit ((ancs l m).getD i 0) j = true → listed.getD j false = true
  | [], m, _, hm, i, j, hi, h => hm i j hi h
  | o :: l, m, hl, hm, i, j, hi, h => by
    refine ancs_spec hc l (m ++ [anc m o]) (fun k => ?_) ?_ i j hi h
    · have := hl (k + 1)
      simp only [List.getElem?_cons_succ, List.length_append, List.length_cons, List.length_nil] at this ⊢
      rw [this]; congr 1; omega
    · intro i j hi h
      by_cases hlt : i < m.length
      · rw [List.getD_eq_getElem?_getD, List.getElem?_append_left hlt, ← List.getD_eq_getElem?_getD] at h
        exact hm i j hi h
      · by_cases heq : i = m.length
        · subst heq
          have h0 : ops[m.length]? = some o := by have := hl 0; simpa using this.symm
          have hg : (m ++ [anc m o]).getD m.length 0 = anc m o := by simp [List.getD]
          rw [hg] at h
          exact anc_spec hm o.after.toList 0 (fun j hj => by simp at hj) (fun e he hb => hc m.length o hi h0 e (by simpa using he) hb) j h
        · have hg : (m ++ [anc m o]).getD i 0 = 0 := by
            rw [List.getD_eq_getElem?_getD, List.getElem?_eq_none (by simp; omega)]; rfl
          rw [hg] at h
          simp at h


def edgesB (ops : Array Oper) : Bool := ops.toList.zipIdx.all fun p => p.1.after.toList.all fun e => !Region.binds .any e || Nat.blt e.on p.2

theorem edgesB_spec {ops : Array Oper} (h : edgesB ops = true) {i : Nat} {o : Oper} (ho : ops[i]? = some o) {e : Edge} (he : e ∈ o.after) (hb : Region.binds .any e = true) : e.on < i := by
  unfold edgesB at h
  have := List.all_eq_true.1 h (o, i) (by rw [List.mk_mem_zipIdx_iff_getElem?]; simpa using ho)
  have := List.all_eq_true.1 this e (by simpa using he)
  simp only [hb, Bool.not_true, Bool.false_or, Nat.blt_eq] at this
  exact this

def Free (ops : Array Oper) (m : List Nat) (x y : Nat × Option LA) : Prop := (Nat.testBit (m.getD y.1 0) x.1 || apartOps ops x y) = true

theorem freeB_spec {ops : Array Oper} {m : List Nat} : ∀ (l : List (Nat × Option LA)), freeB ops m l = true → l.Pairwise (Free ops m)
  | [], _ => .nil
  | x :: l, h => by
    simp only [freeB, Bool.and_eq_true, List.all_eq_true] at h
    exact .cons (fun y hy => h.1 y hy) (freeB_spec l h.2)

theorem ARun.front {P : Program} {ops : Array Oper} {p : Nat × Option LA} : ∀ (l₁ l₂ : List (Nat × Option LA)) (S S' : ST), (∀ x ∈ l₁, apartOps ops x p = true) → ARun P ops (l₁ ++ p :: l₂) S S' →
    ∃ S₁, AStep P ops p.1 p.2 S S₁ ∧ ARun P ops (l₁ ++ l₂) S₁ S'
  | [], l₂, S, S', _, h => h
  | x :: l₁, l₂, S, S', ha, h => by
    obtain ⟨S₁, h1, h2⟩ := h
    obtain ⟨S₂, h3, h4⟩ := ARun.front l₁ l₂ S₁ S' (fun y hy => ha y (by simp [hy])) h2
    have hx := ha x (by simp)
    unfold apartOps at hx
    cases hi : ops[x.1]? with
    | none => simp [hi] at hx
    | some o =>
      cases hj : ops[p.1]? with
      | none => simp [hi, hj] at hx
      | some q =>
        simp only [hi, hj, Bool.and_eq_true] at hx
        obtain ⟨T, t1, t2⟩ := AStep.swap hi hj hx.1 hx.2 h1 h3
        exact ⟨T, t1, S₂, t2, h4⟩

theorem AStep.lt {P : Program} {ops : Array Oper} {i : Nat} {l : Option LA} {S S' : ST} (h : AStep P ops i l S S') : i < ops.size := by
  obtain ⟨o, ho, _⟩ := h
  exact (Array.getElem?_eq_some_iff.1 ho).1

theorem wpAny_of_run {P : Program} {ops : Array Oper} {Q : Exit → Act → World → Prop} {S' : ST} (hed : edgesB ops = true) : ∀ (fuel : Nat) (l : List (Nat × Option LA)) (listed : Array Bool) (S : ST) (G : Gh) (a : Act) (w : World),
    l.length ≤ fuel → listed.size = ops.size → (∀ i, i < ops.size → (listed.getD i true = false ↔ i ∈ l.map (·.1))) → (l.map (·.1)).Nodup → (∀ x ∈ l, x.1 < ops.size) → Closed ops listed → l.Pairwise (Free ops (ancs ops.toList [])) →
    ARun P ops l S S' → Rel G S a w → (∀ G' a' w', Ext G w G' w' → Rel G' S' a' w' → Q .normal a' w') → wpAny P .any ops Q fuel listed a w := by
  intro fuel
  have getD_eq : ∀ (listed : Array Bool) i, i < listed.size → listed.getD i true = listed.getD i false := by
    intro listed i hi; simp [hi]
  have ready_mem : ∀ (listed : Array Bool) i, i ∈ Region.ready .any ops listed → i < ops.size ∧ listed.getD i true = false ∧ ∀ o, ops[i]? = some o → ∀ e ∈ o.after, Region.binds .any e = true → listed.getD e.on false = true := by
    intro listed i hi
    unfold Region.ready at hi
    simp only [List.mem_filter, List.mem_range, Bool.and_eq_true, Bool.not_eq_true'] at hi
    obtain ⟨h1, h2, h3⟩ := hi
    refine ⟨h1, h2, fun o ho e he hb => ?_⟩
    rw [ho] at h3
    simp only [Option.map_some, Option.getD_some] at h3
    have := Array.all_eq_true_iff_forall_mem.1 h3 e he
    simpa [hb] using this
  have empty : ∀ (l : List (Nat × Option LA)) (listed : Array Bool), listed.size = ops.size → (∀ i, i < ops.size → (listed.getD i true = false ↔ i ∈ l.map (·.1))) → (∀ x ∈ l, x.1 < ops.size) → Region.ready .any ops listed = [] → l = [] := by
    intro l listed hsz hiff hlt hr
    cases l with
    | nil => rfl
    | cons x l =>
      exfalso
      -- the least index in l
      have : ∀ n, (∃ i, i ∈ (x :: l).map (·.1) ∧ i ≤ n) → ∃ i, i ∈ (x :: l).map (·.1) ∧ ∀ j, j ∈ (x :: l).map (·.1) → i ≤ j := by
        intro n
        induction n with
        | zero => rintro ⟨i, hi, h0⟩; exact ⟨i, hi, fun j _ => by omega⟩
        | succ n ih =>
          rintro ⟨i, hi, h0⟩
          by_cases hex : ∃ i, i ∈ (x :: l).map (·.1) ∧ i ≤ n
          · exact ih hex
          · refine ⟨i, hi, fun j hj => ?_⟩
            have : ¬ j ≤ n := fun h => hex ⟨j, hj, h⟩
            omega
      obtain ⟨i, hi, hmin⟩ := this x.1 ⟨x.1, by simp, Nat.le_refl _⟩
      have hilt : i < ops.size := by
        obtain ⟨y, hy, rfl⟩ := List.mem_map.1 hi
        exact hlt y hy
      have hmem : i ∈ Region.ready .any ops listed := by
        unfold Region.ready
        simp only [List.mem_filter, List.mem_range, Bool.and_eq_true, Bool.not_eq_true']
        refine ⟨hilt, (hiff i hilt).2 hi, ?_⟩
        rw [Array.getElem?_eq_getElem hilt]
        simp only [Option.map_some, Option.getD_some]
        rw [Array.all_eq_true_iff_forall_mem]
        intro e he
        cases hb : Region.binds .any e with
        | false => rfl
        | true =>
          have hon := edgesB_spec hed (Array.getElem?_eq_getElem hilt) he hb
          have : ¬ listed.getD e.on true = false := fun h => by
            have := hmin e.on ((hiff e.on (by omega)).1 h)
            omega
          simp only [Bool.not_true, Bool.false_or]
          rw [← getD_eq listed e.on (by omega)]
          simpa using this
      rw [hr] at hmem
      cases hmem
  induction fuel with
  | zero =>
    intro l listed S G a w hlen hsz hiff hnd hlt hcl hpw hrun hR hQ
    have hl : l = [] := List.eq_nil_of_length_eq_zero (by omega)
    subst hl
    simp only [ARun] at hrun
    subst hrun
    refine ⟨?_, hQ G a w (Ext.refl G w) hR⟩
    cases hr : Region.ready .any ops listed with
    | nil => rfl
    | cons i r =>
      have hi : i ∈ Region.ready .any ops listed := by rw [hr]; simp
      obtain ⟨h1, h2, _⟩ := ready_mem listed i hi
      have := (hiff i h1).1 h2
      simp at this
  | succ fuel ih =>
    intro l listed S G a w hlen hsz hiff hnd hlt hcl hpw hrun hR hQ
    refine ⟨fun hr => ?_, fun i hi => ?_⟩
    · have hl := empty l listed hsz hiff hlt hr
      subst hl
      simp only [ARun] at hrun
      subst hrun
      exact hQ G a w (Ext.refl G w) hR
    · obtain ⟨h1, h2, h3⟩ := ready_mem listed i hi
      obtain ⟨p, hp, rfl⟩ := List.mem_map.1 ((hiff i h1).1 h2)
      obtain ⟨l₁, l₂, rfl⟩ := List.append_of_mem hp
      -- with p listed all is closed
      have hcl' : Closed ops (listed.setIfInBounds p.1 true) := by
        intro j o hj ho e he hb
        have hge : ∀ k, listed.getD k false = true → (listed.setIfInBounds p.1 true).getD k false = true := by
          intro k hk
          by_cases hkp : k = p.1
          · subst hkp; simp [hsz, h1]
          · simpa [Array.getElem?_setIfInBounds_ne (fun q => hkp q.symm)] using hk
        by_cases hjp : j = p.1
        · subst hjp; exact hge _ (h3 o ho e he hb)
        · exact hge _ (hcl j o (by simpa [Array.getElem?_setIfInBounds_ne (fun q => hjp q.symm)] using hj) ho e he hb)
      have hnd' := hnd
      simp only [List.map_append, List.map_cons] at hnd'
      have happ : ∀ x ∈ l₁, apartOps ops x p = true := by
        intro x hx
        have hfree : Free ops (ancs ops.toList []) x p := (List.pairwise_append.1 hpw).2.2 x hx p (by simp)
        unfold Free at hfree
        rw [Bool.or_eq_true] at hfree
        rcases hfree with hbit | hap
        · exfalso
          have hself : (listed.setIfInBounds p.1 true).getD p.1 false = true := by simp [hsz, h1]
          have := ancs_spec hcl' ops.toList [] (fun k => by simp) (fun i j _ hj => by simp at hj) p.1 x.1 hself hbit
          have hne : x.1 ≠ p.1 := by
            rw [List.nodup_append] at hnd'
            exact fun e => hnd'.2.2 x.1 (List.mem_map.2 ⟨x, hx, rfl⟩) p.1 (by simp) e
          have hx1 : listed.getD x.1 false = true := by simpa [Array.getElem?_setIfInBounds_ne (fun q => hne q.symm)] using this
          have hxl : listed.getD x.1 true = false := (hiff x.1 (hlt x (by simp [hx]))).2 (List.mem_map.2 ⟨x, by simp [hx], rfl⟩)
          rw [getD_eq listed x.1 (by have := hlt x (by simp [hx]); omega)] at hxl
          rw [hx1] at hxl; cases hxl
        · exact hap
      obtain ⟨S₁, t1, t2⟩ := ARun.front l₁ l₂ S S' happ hrun
      refine t1.wp hR fun G' a' w' hE hR' => ?_
      have hsub : (l₁ ++ l₂).Sublist (l₁ ++ p :: l₂) := List.Sublist.append (List.Sublist.refl _) (List.sublist_cons_self _ _)
      refine ih (l₁ ++ l₂) _ S₁ G' a' w' (by simp at hlen ⊢; omega) (by simpa using hsz) (fun j hj => ?_) ((hsub.map _).nodup hnd) (fun x hx => hlt x (hsub.subset hx)) hcl' (hpw.sublist hsub) t2 hR' (fun G2 a2 w2 hE2 hR2 => hQ G2 a2 w2 (hE.trans hE2) hR2)
      by_cases hjp : j = p.1
      · subst hjp
        rw [List.nodup_append] at hnd'
        obtain ⟨_, n2, n3⟩ := hnd'
        rw [List.nodup_cons] at n2
        simp only [List.map_append, List.mem_append]
        constructor
        · intro h; simp [hsz, h1] at h
        · rintro (h | h)
          · exact absurd rfl (n3 p.1 h p.1 (by simp))
          · exact absurd h n2.1
      · have : (listed.setIfInBounds p.1 true).getD j true = listed.getD j true := by simp [Array.getElem?_setIfInBounds_ne (fun q => hjp q.symm)]
        rw [this, hiff j hj]
        simp only [List.map_append, List.map_cons, List.mem_append, List.mem_cons]
        constructor
        · rintro (h | rfl | h)
          · exact .inl h
          · exact absurd rfl hjp
          · exact .inr h
        · rintro (h | h)
          · exact .inl h
          · exact .inr (.inr h)

/-- a region that draws its order -/
theorem region_draw_wp {P : Program} {ops : Array Oper} {id : Nat} {Q : Exit → Act → World → Prop} {l : List (Nat × Option LA)} {S S' : ST} (hm : P.follows .mixedOrders = true) (hed : edgesB ops = true)
    (hfree : freeB ops (ancs ops.toList []) l = true) (h : ARun P ops l S S') (hl : l.map (·.1) = List.range ops.size) {G : Gh} {a : Act} {w : World} (hR : Rel G S a w)
    (hQ : ∀ G' a' w', Ext G w G' w' → Rel G' S' a' w' → Q .normal a' w') : (Code.region id ops true).wp P Q a w := by
  have hR' : Rel G S a w.drew := ⟨RelS.drew hR.st, VL.mono (Ext.drew G w) _ _ hR.env, hR.dfr⟩
  refine wp_region_any hm ?_
  refine wpAny_of_run hed ops.size l (Array.replicate ops.size false) S G a w.drew (by rw [← List.length_map (f := (·.1)), hl]; simp) (by simp) (fun i hi => ?_) (by rw [hl]; exact List.nodup_range) (fun x hx => ?_) (fun i o hi _ _ _ _ => ?_) (freeB_spec l hfree) h hR' (fun G2 a2 w2 hE2 hR2 => hQ G2 a2 w2 ((Ext.drew G w).trans hE2) hR2)
  · rw [hl]; simp [hi]
  · have : x.1 ∈ l.map (·.1) := List.mem_map.2 ⟨x, hx, rfl⟩
    rw [hl] at this
    simpa using this
  · by_cases hlt : i < ops.size
    · simp [hlt] at hi
    · simp [hlt] at hi

end Go.Ab
