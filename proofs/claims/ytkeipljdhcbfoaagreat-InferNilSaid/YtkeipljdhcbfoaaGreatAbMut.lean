/- A CALL THAT WRITES IN PLACE, in a function's middle: what is kept are literals, and what stood where the function began. -/
import Derived.Test.YtkeipljdhcbfoaaGreatAbMu
import Derived.Sort.Row
import Derived.Sort.Grow
namespace Go.Ab
open Go Go.RowKit

def pickH (keep : List Nat) : List (Nat × Blk) → List (Nat × Blk)
  | [] => []
  | p :: l => bif memB keep p.1 then p :: pickH keep l else pickH keep l

theorem look_pickH {keep : List Nat} : ∀ (l : List (Nat × Blk)) (i : Nat), look (pickH keep l) i = if memB keep i = true then look l i else none
  | [], i => by simp [pickH, look]
  | p :: l, i => by
    simp only [pickH]
    cases hb : memB keep p.1 with
    | true =>
      simp only [cond_true, look, look_pickH l i]
      cases he : Nat.beq i p.1 with
      | true => have := Nat.eq_of_beq_eq_true he; subst this; simp only [cond_true, hb, if_true]
      | false => simp only [cond_false]
    | false =>
      simp only [cond_false, look, look_pickH l i]
      cases he : Nat.beq i p.1 with
      | true => have := Nat.eq_of_beq_eq_true he; subst this; simp [hb]
      | false => simp only [cond_false]

def pickSt (keep : List Nat) (s : LSt) : LSt := ⟨pickH keep s.H, s.nx, [], 0, []⟩

/-- what it holds stands in the frame, or in no memory -/
def Blk.lit : Blk → Prop
  | .cells cs => ∀ (G G' : Gh) (w w' : World) (us : List Value), G'.F = G.F → (∀ b o, G.F b → G.L b o → G'.L b o) → (∀ b o, G.F b → w'.cell? ⟨b, o, none⟩ = w.cell? ⟨b, o, none⟩) → VL G w cs us → VL G' w' cs us
  | _ => False

def mutG (G0 G : Gh) (keep : List Nat) (S : Nat → Nat → Prop) : Gh := ⟨fun i => if memB keep i = true then G.ρ i else none, fun _ => none, fun b o => G0.L b o ∨ S b o, G0.w0, G0.F⟩

theorem VL.litEq {G : Gh} {w : World} : ∀ (vs us : List Value), VL G w (vs.map .val) us → us = vs
  | [], [], _ => rfl
  | v :: vs, u :: us, h => by
    simp only [List.map_cons, VL, V] at h
    rw [h.1, VL.litEq vs us h.2]
  | [], _ :: _, h => by simp only [List.map_nil, VL] at h
  | _ :: _, [], h => by simp only [List.map_cons, VL] at h

theorem mut_ok {na : Nb} {G0 G : Gh} {W w w' : World} {s : LSt} {keep : List Nat} {S : Nat → Nat → Prop} {b : Nat} (hB : Base na G0) (hn : na.n = 0) (hE : Ext G0 W G w) (hR : RelS G (over (Emp 0) s) w) (hbF : ¬ G0.F b) (hbρ : ∀ i, G.ρ i ≠ some b)
    (hK : Keep (fun c => c < w.heap.size ∧ c ≠ b) w w') (hlit : ∀ i X, memB keep i = true → look s.H i = some X → X.lit) (hS : ∀ c o, S c o → c = b ∧ ∃ v, w'.cell? ⟨c, o, none⟩ = some v) :
    Ext G0 W (mutG G0 G keep S) w' ∧ RelS (mutG G0 G keep S) (over (Emp 0) (pickSt keep s)) w' := by
  have hLlt : ∀ c o, G0.L c o → c < w.heap.size ∧ c ≠ b := fun c o e => ⟨hR.base c (by rw [hE.F]; exact hB.LF c o e), fun ec => hbF (ec ▸ hB.LF c o e)⟩
  have hcell : ∀ c o, G0.L c o → w'.cell? ⟨c, o, none⟩ = w.cell? ⟨c, o, none⟩ := fun c o e => hK.cell (hLlt c o e)
  have hH : ∀ i, (over (Emp 0) (pickSt keep s)).H i = if memB keep i = true then look s.H i else none := fun i => by rw [over_H]; exact look_pickH _ _
  refine ⟨⟨fun i c e => ?_, fun k r e => ?_, fun _ _ e => .inl e, fun c o e => (hcell c o e).trans (hE.cell c o e), rfl, rfl, fun c o e => e.imp id fun q => by rw [(hS c o q).1]; exact hbF⟩, ⟨fun i => ?_, ?_, fun i j c hi hj => ?_, fun i c X hi hX => ?_, fun c o e => ?_, fun _ _ => rfl, fun k hk => ?_, fun k k' c f t f' t' hk => ?_, ?_, fun k hk => ?_⟩⟩
  · rw [hB.ρ i (by omega)] at e; cases e
  · rw [hB.τ k] at e; cases e
  · rw [hH]
    show (if memB keep i = true then G.ρ i else none) = none ↔ _
    split
    · rw [hR.dom i, over_H]
    · simp
  · obtain ⟨N, hN⟩ := hR.fin
    refine ⟨N, fun i hi => ?_⟩
    have := hN i hi
    rw [over_H] at this
    rw [hH]
    split
    · exact this
    · rfl
  · have hi' : (if memB keep i = true then G.ρ i else none) = some c := hi
    have hj' : (if memB keep j = true then G.ρ j else none) = some c := hj
    split at hi'
    · split at hj'
      · exact hR.inj i j c hi' hj'
      · cases hj'
    · cases hi'
  · have hi' : (if memB keep i = true then G.ρ i else none) = some c := hi
    split at hi'
    · rename_i hm
      rw [hH, if_pos hm] at hX
      obtain ⟨q1, q2⟩ := hR.blk i c X hi' (by rw [over_H]; exact hX)
      refine ⟨by rw [hE.F] at q1; exact q1, ?_⟩
      have hl := hlit i X hm hX
      cases X with
      | cells cs =>
        obtain ⟨vs', T, q3, q4⟩ := q2
        refine ⟨vs', T, ?_, q4.imp fun us h => hl G _ w w' us hE.F.symm (fun b o h1 h2 => ?_) (fun b o h1 => ?_) h⟩
        · rw [hK.block c ⟨(Array.getElem?_eq_some_iff.1 q3).1, fun e => hbρ i (e ▸ hi')⟩]; exact q3
        · exact .inl ((hE.newL b o h2).resolve_right fun h => h (by rw [← hE.F]; exact h1))
        · exact hK.cell ⟨hR.base b h1, fun e => hbF (by rw [← hE.F]; exact e ▸ h1)⟩
      | obj o => exact hl.elim
      | row cs => exact hl.elim
    · cases hi'
  · rcases e with e | e
    · obtain ⟨⟨v, hv⟩, q⟩ := hR.live c o (hE.L c o e)
      refine ⟨⟨v, (hcell c o e).trans hv⟩, fun i hi => ?_⟩
      have hi' : (if memB keep i = true then G.ρ i else none) = some c := hi
      split at hi'
      · exact q i hi'
      · cases hi'
    · obtain ⟨rfl, hv⟩ := hS c o e
      refine ⟨hv, fun i hi => ?_⟩
      have hi' : (if memB keep i = true then G.ρ i else none) = some c := hi
      split at hi'
      · exact hbρ i hi'
      · cases hi'
  · simp [over_own, pickSt] at hk
  · simp [over_own, pickSt] at hk
  · have := hR.below
    rw [hE.F, hE.w0] at this
    exact this.trans (hK.mono fun k hk => ⟨hR.base k (by rw [hE.F]; exact hk), fun e => hbF (e ▸ hk)⟩)
  · exact Nat.lt_of_lt_of_le (hR.base k (by rw [hE.F]; exact hk)) hK.size

theorem pickSt_ok {keep : List Nat} {s : LSt} (h : s.Ok) : (pickSt keep s).Ok := by
  refine ⟨fun i X hX => ?_, fun k hk => by simp [pickSt] at hk, (fun k h => by cases h), Nat.zero_le _⟩
  have hX' : look (pickH keep s.H) i = some X := hX
  rw [look_pickH] at hX'
  split at hX'
  · exact h.H i X hX'
  · cases hX'

/-- slots: literals stay, pointers to what is kept stay, others are told by what they hold -/
def mutEnv (keep : List Nat) (j : Nat → Value) : List AV → Nat → List AV
  | [], _ => []
  | a :: l, t => (match a with | .val v => .val v | .mp i off => bif memB keep i then .mp i off else .val (j t) | _ => .val (j t)) :: mutEnv keep j l (t + 1)

theorem VL.mutEnv {G0 G : Gh} {w w' : World} {keep : List Nat} {S : Nat → Nat → Prop} (us0 : List Value) : ∀ (env : List AV) (us : List Value) (t : Nat), VL G w env us → (∀ i, us0.getD (t + i) undef = us.getD i undef) →
    VL (mutG G0 G keep S) w' (Ab.mutEnv keep (fun t => us0.getD t undef) env t) us
  | [], [], _, _, _ => by simp [Ab.mutEnv, VL]
  | a :: as, u :: us, t, hv, hu => by
    simp only [VL] at hv
    have h0 : us0.getD t undef = u := by
      have := hu 0
      simpa using this
    simp only [Ab.mutEnv, VL]
    refine ⟨?_, VL.mutEnv us0 as us (t + 1) hv.2 (fun i => ?_)⟩
    · have h1 := hv.1
      split
      · simpa only [V] using h1
      · rename_i i off
        cases hm : memB keep i with
        | true =>
          simp only [V, cond_true] at h1 ⊢
          obtain ⟨c, hc, rfl⟩ := h1
          exact ⟨c, by show (if memB keep i = true then G.ρ i else none) = _; rw [if_pos hm]; exact hc, rfl⟩
        | false => simp only [cond_false, V]; exact h0.symm
      · simp only [V]; exact h0.symm
    · have := hu (i + 1)
      rw [show t + 1 + i = t + (i + 1) by omega, this]; simp
  | [], _ :: _, _, h, _ => by simp only [VL] at h
  | _ :: _, [], _, h, _ => by simp only [VL] at h

/-- what stood where the function began stands -/
theorem V.later {na : Nb} {G0 G : Gh} {W w : World} {a : AV} {u : Value} (hB : Base na G0) (hE : Ext G0 W G w) (hR : Keep G.F G.w0 w) (h : V G0 G0.w0 a u) : V G w a u := by
  refine V.mono (G := G0) (w := G0.w0) ⟨hE.ρ, hE.τ, hE.L, fun b o e => ?_, hE.w0, hE.F, hE.newL⟩ a u h
  have := hR.cell (b := b) (o := o) (by rw [hE.F]; exact hB.LF b o e)
  rw [hE.w0] at this
  exact this

theorem VL.later {na : Nb} {G0 G : Gh} {W w : World} {a : List AV} {u : List Value} (hB : Base na G0) (hE : Ext G0 W G w) (hR : Keep G.F G.w0 w) (h : VL G0 G0.w0 a u) : VL G w a u := by
  refine VL.mono (G := G0) (w := G0.w0) ⟨hE.ρ, hE.τ, hE.L, fun b o e => ?_, hE.w0, hE.F, hE.newL⟩ a u h
  have := hR.cell (b := b) (o := o) (by rw [hE.F]; exact hB.LF b o e)
  rw [hE.w0] at this
  exact this

theorem VL.back {na : Nb} {G0 : Gh} {σ : ASt} {W : World} {a : List AV} {u : List Value} (hB : Base na G0) (hR : RelS G0 σ W) (h : VL G0 W a u) : VL G0 G0.w0 a u := by
  refine VL.mono (G := G0) (w := W) ⟨fun _ _ e => e, fun _ _ e => e, fun _ _ e => e, fun b o e => ?_, rfl, rfl, fun _ _ e => .inl e⟩ a u h
  exact (hR.below.cell (hB.LF b o e)).symm

/-- a body, run where its function is called -/
theorem body_at {P : Program} {f : FuncId} {fn : Func} {H0 : List Blk} {args : List AV} {res : AV} {H1 : List Blk} {nst : Nat} {na : Nb} (hna : na.n = H0.length) (hf : P.funcs[f]? = some fn) (hb : fn.body.isNone = false)
    (h : Dv P na (bod fn) (args ++ List.replicate (fn.ntmps - args.length) (.val undef)) (st0 H0) (FinQ P na fn res H1 nst)) {G0 : Gh} {W : World} {cargs : Array Value} (hB : Base na G0) (hR : RelS G0 (over (Emp 0) (st0 H0)) W) (hv : VL G0 W args cargs.toList) :
    Calls P f cargs W fun e W' => ∃ u G' s', e = .returned u ∧ Ext G0 W G' W' ∧ RelS G' (over (Emp 0) s') W' ∧ V G' W' res u ∧
      (∀ i X, H1[i]? = some X → look s'.H i = some X) ∧ ∀ k, k < nst → s'.own.any (Nat.beq k) = true := by
  cases hb' : fn.body with
  | none => rw [hb'] at hb; cases hb
  | some c =>
  have hbod : bod fn = c := by simp [bod, hb']
  rw [hbod] at h
  refine calls_of_wp hf hb' ?_
  have hlen := VL.length _ _ hv
  have hR0 : Rel G0 ⟨args ++ List.replicate (fn.ntmps - args.length) (.val undef), over (Emp 0) (st0 H0)⟩ { tmps := cargs ++ Array.replicate (fn.ntmps - cargs.size) undef, defers := [] } W := by
    refine ⟨hR, ?_, rfl⟩
    have : cargs.size = args.length := by rw [← hlen]; simp
    simp only [Array.toList_append, Array.toList_replicate, this]
    exact VL.append _ _ _ _ hv (VL.replicate _)
  have hok : (st0 H0).Ok := by
    refine ⟨fun i X hX => ?_, fun k hk => by simp [st0] at hk, (fun k h => by cases h), Nat.zero_le _⟩
    have hX' : look (idxBlks H0 0) i = some X := hX
    rw [look_idxBlks] at hX'
    simp only [Nat.zero_le, if_true, Nat.sub_zero] at hX'
    exact (List.getElem?_eq_some_iff.1 hX').1
  refine wp_mono (h G0 W hB G0 _ W (Ext.refl G0 W) hok hR0) ?_
  rintro e a' w' ⟨x, env1, s1, G₂, rfl, ⟨hx, rs, env', s', hrs, r, keep, ks, hres, hreB, hfb, hfr, hle, hH1, hnst⟩, hE2, hok2, hR2⟩
  obtain ⟨G₁, hE1, hok', hR'⟩ := Rel.restamps rs hrs hok2 hR2
  have hE := hE2.trans hE1
  have hres' : ares P (over (Emp 0) s').H env' fn.results.toList = some r := by
    refine ares_mono (fun i X hX => ?_) hres
    rw [over_H]; exact hX
  obtain ⟨u, hu, huv⟩ := ares_ok (fn := fn) hR' hres'
  obtain ⟨G', h1, h2, h3, h4⟩ := renumber hreB hfb hB.ρ hB.τ hE hR'.st
  have hV := hle _ _ _ (V.ren h4 r u hfr huv)
  have hend : a'.defers = [] ∧ ∃ v', (results fn a'.tmps).run P w' = .ok v' w' ∧ ∃ u G' s', Ending.returned v' = .returned u ∧ Ext G0 W G' w' ∧ RelS G' (over (Emp 0) s') w' ∧ V G' w' res u ∧
      (∀ i X, H1[i]? = some X → look s'.H i = some X) ∧ ∀ k, k < nst → s'.own.any (Nat.beq k) = true := by
    refine ⟨hR'.dfr, u, hu, u, G', frzSt (reSt keep ks s'), rfl, h1, h3.frz, hV, fun i X hX => ?_, fun k hk => ?_⟩
    · rw [hH1, List.getElem?_map] at hX
      cases hY : (blkList (reSt keep ks s').H 0 keep.length)[i]? with
      | none => rw [hY] at hX; cases hX
      | some Y =>
      rw [hY] at hX
      simp only [Option.map_some, Option.some.injEq] at hX
      subst hX
      show look (frzBlks (reSt keep ks s').H) i = _
      rw [look_frzBlks]
      have := blkList_get keep.length 0 i Y hY
      simp only [Nat.zero_add] at this
      rw [this]
      · rfl
      have hlt : i < keep.length := by
        have := (List.getElem?_eq_some_iff.1 hY).1
        have hl : ∀ n j, (blkList (reSt keep ks s').H j n).length = n := by
          intro n
          induction n with
          | zero => intro j; rfl
          | succ n ih => intro j; simp [blkList, ih]
        rwa [hl] at this
      show ∃ Y, look (reBlks s'.H keep ks keep 0) i = some Y
      rw [look_reBlks]
      simp only [Nat.zero_le, if_true, Nat.sub_zero, List.getElem?_eq_getElem hlt, Option.map_some]
      exact ⟨_, rfl⟩
    · show (range' 0 ks.length).any (Nat.beq k) = true
      rw [any_beq, mem_range']; omega
  rcases hx with rfl | rfl
  · exact hend
  · exact hend


theorem VL.put {G : Gh} {w : World} : ∀ (as : List AV) (us : List Value), VL G w as us → ∀ (i : Nat) (a : AV), (∀ u, us[i]? = some u → V G w a u) → VL G w (as.set i a) us
  | [], [], _, i, a, _ => by simp [VL]
  | x :: as, y :: us, h, i, a, hv => by
    simp only [VL] at h
    cases i with
    | zero => simp only [List.set_cons_zero, VL]; exact ⟨hv y rfl, h.2⟩
    | succ i => simp only [List.set_cons_succ, VL]; exact ⟨h.1, VL.put as us h.2 i a fun u hu => hv u (by simpa using hu)⟩
  | [], _ :: _, h, _, _, _ => by simp only [VL] at h
  | _ :: _, [], h, _, _, _ => by simp only [VL] at h

def regOps : Code → Array Oper | .region _ ops _ => ops | _ => #[]
def isReg : Code → Bool | .region _ _ false => true | _ => false
def isRet : Code → Bool | .ret => true | _ => false
/-- what an operation moves; what it calls -/
def mvOf : Option Oper → Option (Option Tmp × Operand)
  | some ⟨d, .move x, _, _, _, none⟩ => some (d, x)
  | some ⟨d, .assign x, _, _, _, none⟩ => some (d, x)
  | _ => none
def clOf : Option Oper → Option (Option Tmp × FuncId × Array Operand)
  | some ⟨d, .call { callee := .value (.func f), args, argTypes := _ }, _, _, _, none⟩ => some (d, f, args)
  | _ => none

section
variable {P : Program} {a : Act} {w : World} {Q : Exit → Act → World → Prop}
theorem wp_seqP {c : Code} (hk : knd c = 1) (h : (lft c).wp P (Exit.then ((rgt c).wp P Q) Q) a w) : c.wp P Q a w := by
  cases c <;> first | exact wp_seq h | cases hk
theorem wp_regionP {c : Code} (hk : isReg c = true) {l : List Nat} (hl : List.range (regOps c).size = l) (h : wpOps P (regOps c) Q l a w) : c.wp P Q a w := by
  subst hl
  cases c with
  | region id ops draw =>
    cases draw with
    | false => exact wp_region h
    | true => cases hk
  | _ => cases hk
theorem wp_retP {c : Code} (hk : isRet c = true) (h : Q .ret a w) : c.wp P Q a w := by
  cases c <;> first | exact wp_ret h | cases hk

theorem wpOps_mv {ops : Array Oper} {rest : List Nat} {i : Nat} {d : Option Tmp} {x : Operand} (hop : mvOf ops[i]? = some (d, x)) (h : wpOps P ops Q rest (a.put d (a.eval x)) w) : wpOps P ops Q (i :: rest) a w := by
  rw [wpOps_cons]
  unfold wpOp
  unfold mvOf at hop
  split at hop
  · rename_i o e
    cases hop
    rw [e]
    simp only [Region.wanted, if_true]
    refine .inl ?_
    unfold Oper.wp
    simpa [execOp, Oper.upon] using h
  · rename_i o e
    cases hop
    rw [e]
    simp only [Region.wanted, if_true]
    refine .inl ?_
    unfold Oper.wp
    simpa [execOp, Oper.upon] using h
  · cases hop

theorem wpOps_cl {ops : Array Oper} {rest : List Nat} {i : Nat} {d : Option Tmp} {args : Array Operand} {f : FuncId} {fn : Func} (hop : clOf ops[i]? = some (d, f, args))
    (hf : P.funcs[f]? = some fn) (hname : (fn.name == "runtime.NumGoroutine") = false) (hb : fn.body.isNone = false)
    (h : Calls P f (args.map a.eval) w fun e w' => ∃ u, e = .returned u ∧ wpOps P ops Q rest (a.put d u) w') : wpOps P ops Q (i :: rest) a w := by
  rw [wpOps_cons]
  unfold wpOp
  unfold clOf at hop
  split at hop
  · rename_i e
    cases hop
    rw [e]
    simp only [Region.wanted, if_true]
    exact .inl (wp_callOp (f := f) (fn := fn) rfl hf hname hb h)
  · cases hop
end

def tells : List (Nat × AV) → List AV → List AV
  | [], env => env
  | p :: l, env => tells l (env.set p.1 p.2)

theorem VL.tells {G : Gh} {w : World} : ∀ (l : List (Nat × AV)) (as : List AV) (us : List Value), VL G w as us → (∀ p ∈ l, ∀ u, us[p.1]? = some u → V G w p.2 u) → VL G w (Ab.tells l as) us
  | [], _, _, h, _ => h
  | p :: l, as, us, h, k => VL.tells l _ us (VL.put as us h p.1 p.2 (k p List.mem_cons_self)) fun q hq => k q (List.mem_cons_of_mem _ hq)

theorem VL.getE {G : Gh} {w : World} {env : List AV} {us : List Value} (h : VL G w env us) {t : Nat} {u : Value} (hu : us[t]? = some u) : V G w (eget env t) u := by
  have := V.eget env us h t
  have e : us.getD t undef = u := by simp [List.getD, hu]
  rwa [e] at this

/-- a region, one of whose calls writes in place -/
theorem Dv.mut {P : Program} {pr : FuncId → List AV → LSt → Option LA} (hp : CallsOk P pr) {na : Nb} (hn : na.n = 0) {Q : AX → List AV → LSt → Prop} {id : Nat} {ops : Array Oper} {env env1 : List AV} {s s1 s3 : LSt} {os os2 : List Orc} {ob ob2 : List Ob} (p : Nat) (keep : List Nat) (tell : List (Nat × AV)) (res : AV)
    {dst : Option Tmp} {tA : Tmp} {f : FuncId} {fn : Func} {E3 : (Nat → Value) → List AV}
    (h1' : (xops P pr ops (ops.toList.take p) 0 env s os).map Prod.snd = some (env1, s1, [], ob)) (hob : ObsOk P ob)
    (hop : clOf ops[p]? = some (dst, f, #[.tmp tA]))
    (hf : P.funcs[f]? = some fn) (hname : (fn.name == "runtime.NumGoroutine") = false) (hb : fn.body.isNone = false)
    (hlit : ∀ i X, memB keep i = true → look s1.H i = some X → X.lit)
    (hcall : ∀ G0 W, Base na G0 → ∀ G w, Ext G0 W G w → RelS G (over (Emp 0) s1) w → ∀ u, V G w (eget env1 tA) u → Calls P f #[u] w fun e w' => ∃ (v : Value) (b : Nat) (S : Nat → Nat → Prop), e = .returned v ∧ ¬ G.F b ∧ (∀ i, G.ρ i ≠ some b) ∧ Keep (fun c => c < w.heap.size ∧ c ≠ b) w w' ∧
      (∀ c o, S c o → c = b ∧ ∃ x, w'.cell? ⟨c, o, none⟩ = some x) ∧ ∀ G', Ext G0 W G' w' → Keep G'.F G'.w0 w' → (∀ c o, S c o → G'.L c o) → V G' w' res v ∧ ∀ q ∈ tell, ∀ u', V G w (eget env1 q.1) u' → V G' w' q.2 u')
    (h2' : ∀ j, (xops P pr ops (ops.toList.drop (p + 1)) (p + 1) (eset (tells tell (mutEnv keep j env1 0)) dst res) (pickSt keep s1) os2).map Prod.snd = some (E3 j, s3, [], ob2)) (hob2 : ObsOk P ob2)
    (hk : ∀ j, Q .normal (E3 j) s3) : Dv P na (.region id ops false) env s Q := by
  have mp : ∀ {x : Option (List (Nat × Option LA) × List AV × LSt × List Orc × List Ob)} {y}, x.map Prod.snd = some y → ∃ r, x = some (r, y) := by
    intro x y h
    simp only [Option.map_eq_some_iff] at h
    obtain ⟨⟨r, z⟩, h1, rfl⟩ := h
    exact ⟨r, h1⟩
  obtain ⟨r, h1⟩ := mp h1'
  intro G0 W hB G a w hE hok hR
  have hlt : p < ops.size := by
    rcases Nat.lt_or_ge p ops.size with h | h
    · exact h
    · rw [Array.getElem?_eq_none h] at hop; cases hop
  obtain ⟨_, q2, q3⟩ := xops_ok hp (ops.toList.take p) 0 env s os r _ _ _ _ (fun k o e => by
    rw [List.getElem?_take] at e
    split at e
    · simpa using e
    · cases e) h1 hob
  obtain ⟨o1, r1⟩ := q3 (Emp 0) 0 hok (fun _ _ _ => rfl)
  refine wp_region ?_
  have hr : List.range ops.size = r.map (·.1) ++ p :: List.range' (p + 1) (ops.size - (p + 1)) := by
    rw [q2, List.range_eq_range']
    have hl : (ops.toList.take p).length = p := by simp; omega
    rw [hl, show p :: List.range' (p + 1) (ops.size - (p + 1)) = List.range' p (ops.size - p) by
      rw [show ops.size - p = (ops.size - (p + 1)) + 1 by omega, List.range'_succ]]
    have := List.range'_append (s := 0) (m := p) (n := ops.size - p) (step := 1)
    simp only [Nat.one_mul, Nat.zero_add] at this
    rw [this]; congr 1; omega
  rw [hr]
  refine ARun_then r _ _ r1 G a w hR fun G1 a1 w1 hE1 hR1 => ?_
  have hEE := hE.trans hE1
  have hu : V G1 w1 (eget env1 tA) (a1.eval (.tmp tA)) := by
    have := V.aev hR1.env (.tmp tA)
    simpa [aev] using this
  refine wpOps_cl hop hf hname hb ?_
  rw [show Array.map a1.eval #[Operand.tmp tA] = #[a1.eval (Operand.tmp tA)] by simp]
  refine (hcall G0 W hB G1 w1 hEE hR1.st _ hu).mono ?_
  rintro e w2 ⟨v, b, S, rfl, hbF, hbρ, hK, hS, hV⟩
  refine ⟨v, rfl, ?_⟩
  obtain ⟨hE2, hR2⟩ := mut_ok (keep := keep) hB hn hEE hR1.st (by rw [← hEE.F]; exact hbF) hbρ hK hlit hS
  obtain ⟨hv, ht⟩ := hV _ hE2 hR2.below (fun c o h => .inr h)
  have henv : VL (mutG G0 G1 keep S) w2 (eset (tells tell (mutEnv keep (fun t => a1.tmps.toList.getD t undef) env1 0)) dst res) (a1.put dst v).tmps.toList := by
    refine VL.eset ?_ dst hv
    refine VL.tells tell _ _ (VL.mutEnv _ env1 _ 0 hR1.env (fun i => by rw [Nat.zero_add])) fun q hq u' hu' => ht q hq u' (hR1.env.getE hu')
  have hR3 : Rel (mutG G0 G1 keep S) ⟨eset (tells tell (mutEnv keep (fun t => a1.tmps.toList.getD t undef) env1 0)) dst res, over (Emp 0) (pickSt keep s1)⟩ (a1.put dst v) w2 := ⟨hR2, henv, by rw [put_dfr]; exact hR1.dfr⟩
  have hok2 := pickSt_ok (keep := keep) o1
  obtain ⟨r2, h2⟩ := mp (h2' fun t => a1.tmps.toList.getD t undef)
  obtain ⟨_, q5, q6⟩ := xops_ok hp (ops.toList.drop (p + 1)) (p + 1) _ _ os2 r2 _ _ _ _ (fun k o e => by
    rw [List.getElem?_drop] at e
    simpa using e) h2 hob2
  obtain ⟨o3, r3⟩ := q6 (Emp 0) 0 hok2 (fun _ _ _ => rfl)
  have e5 : List.range' (p + 1) (ops.size - (p + 1)) = r2.map (·.1) ++ [] := by
    rw [q5, List.append_nil]; simp
  rw [e5]
  refine ARun_then r2 _ _ r3 _ _ w2 hR3 fun G4 a4 w4 hE4 hR4 => ?_
  exact ⟨.normal, _, s3, G4, rfl, hk _, hE2.trans hE4, o3, hR4⟩

theorem regP {c : Code} (hk : isReg c = true) : ∃ id, c = .region id (regOps c) false := by
  cases c with
  | region id ops draw =>
    cases draw with
    | false => exact ⟨id, rfl⟩
    | true => cases hk
  | _ => cases hk

theorem Dv.seqP {P : Program} {na : Nb} {c : Code} {env : List AV} {s : LSt} {Q : AX → List AV → LSt → Prop} (hk : knd c = 1) (h : Dv P na (lft c) env s (seqQ (fun e s => Dv P na (rgt c) e s Q) Q)) : Dv P na c env s Q := by
  cases c <;> first | exact Dv.seq h | cases hk
theorem Dv.blockP {P : Program} {na : Nb} {c : Code} {env : List AV} {s : LSt} {Q : AX → List AV → LSt → Prop} (hk : knd c = 3) (h : Dv P na (inn c) env s (blockQ (bid c) Q)) : Dv P na c env s Q := by
  cases c <;> first | exact Dv.block h | cases hk

/-- a block told otherwise -/
theorem Dl.openB {P : Program} {na : Nb} {c : Code} {env : List AV} {s : LSt} {Q : AX → List AV → LSt → Prop} {b : Nat} {cs cs' : List AV} (hcs : look s.H b = some (.cells cs))
    (h : ∀ G0 W, Base na G0 → ∀ G w, Ext G0 W G w → Keep G.F G.w0 w → ∀ us, VL G w cs us → VL G w cs' us) (k : Dl P na c env { s with H := setBlk s.H b (.cells cs') } Q) : Dl P na c env s Q := by
  intro G0 W hB G a w hE ho hR
  have hM := hR.st
  have hl : ∀ j, look (setBlk s.H b (.cells cs')) j = if j = b then some (.cells cs') else look s.H j := fun j => look_setBlk _ _ _ _ _ hcs
  refine k G0 W hB G a w hE ⟨fun i X hX => ?_, ho.own, ho.fr, Nat.zero_le _⟩ ⟨⟨fun i => ?_, ?_, hM.inj, fun i q X hi hX => ?_, hM.live, hM.τns, hM.own, hM.ownd, hM.below, hM.base⟩, hR.env, hR.dfr⟩
  · have hX' : look (setBlk s.H b (.cells cs')) i = some X := hX
    rw [hl] at hX'
    by_cases e : i = b
    · subst e; exact ho.H i _ hcs
    · rw [if_neg e] at hX'; exact ho.H i X hX'
  · have := hM.dom i
    rw [this, over_H, over_H]
    show look s.H i = none ↔ look (setBlk s.H b (.cells cs')) i = none
    rw [hl]
    by_cases e : i = b
    · subst e; simp [hcs]
    · rw [if_neg e]
  · obtain ⟨N, hN⟩ := hM.fin
    refine ⟨max N (b + 1), fun i hi => ?_⟩
    have := hN i (by omega)
    rw [over_H] at this ⊢
    show look (setBlk s.H b (.cells cs')) i = none
    rw [hl, if_neg (by omega)]; exact this
  · rw [over_H] at hX
    have hX' : look (setBlk s.H b (.cells cs')) i = some X := hX
    rw [hl] at hX'
    by_cases e : i = b
    · subst e
      rw [if_pos rfl] at hX'
      cases hX'
      obtain ⟨q1, vs, T, q2, q3⟩ := hM.blk i q _ hi (by rw [over_H]; exact hcs)
      exact ⟨q1, vs, T, q2, q3.imp fun us q3 => h G0 W hB G w hE hM.below us q3⟩
    · rw [if_neg e] at hX'
      exact hM.blk i q X hi (by rw [over_H]; exact hX')

end Go.Ab
