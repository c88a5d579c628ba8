/- Texts: AbGo AbMu AbMut AbRise AbIn AbRev AbMp AbMs AbRow AbRow2 AbMpI AbO AbTyS AbStS AbF271 AbF229 AbF230 AbF168 AbF231 AbF169 AbF91 AbPb AbF235 AbF178 AbF234 AbF179 AbF108 AbF177 AbPc AbF206 AbF146 AbF142 AbF158 AbF165 AbF84 AbPi -/
import Derived.Lib.SlicesCompact
import Derived.Sort.Grow
import Derived.Sort.Row
import Derived.Test.YteiddempdecleaaGreatAbB3
set_option linter.unusedVariables false
set_option linter.unusedSimpArgs false

namespace Go.Ab
open Go Go.RowKit

theorem obind {α β : Type} {x : Option α} {f : α → Option β} {r : β} (h : (x >>= f) = some r) : ∃ v, x = some v ∧ f v = some r := by
  cases x with
  | none => cases h
  | some v => exact ⟨v, rfl, h⟩
theorem ifT {α : Type} {b : Bool} {x y r : α} (hb : b = true) (h : (if b = true then x else y) = r) : x = r := by rwa [if_pos hb] at h
theorem ifF {α : Type} {b : Bool} {x y r : α} (hb : b = false) (h : (if b = true then x else y) = r) : y = r := by rw [hb, if_neg (by simp)] at h; exact h

theorem ObsOk.nil {P : Program} : ObsOk P [] := trivial
theorem ObsOk.cons {P : Program} {o : Ob} {l : List Ob} (h : o.ok P) (k : ObsOk P l) : ObsOk P (o :: l) := ⟨h, k⟩
theorem obBit {P : Program} {b b' : Bool} (h : b = b') : Ob.ok P (.bit b b') := h
theorem obAv {P : Program} {x : Option AV} {a : AV} (h : x = some a) : Ob.ok P (.av x a) := h
theorem obCall {P : Program} {f : FuncId} {H0 : List Blk} {args : List AV} {res : AV} {H1 : List Blk} {nst : Nat} (h : CT P f H0 args res H1 nst) : Ob.ok P (.call f H0 args res H1 nst) := h
theorem obFz {P : Program} {x : Option AV} {a : AV} (h : ∃ a0, x = some a0 ∧ a0.frz = a) : Ob.ok P (.fz x a) := h
theorem obLit {P : Program} (l : List Tm) : Ob.ok P (.cells (flat tmL l) (flat tmCells l) l.length l.length) := ⟨by rw [show tmL = tmCells from funext fun t => (tm_eq t).symm], rfl⟩
theorem obData {P : Program} {es : List AV} (h : AV.DataL es) : Ob.ok P (.data es) := h

/-- a slice that nobody owns is nil, or it is not -/
theorem CTri.nilcase {P : Program} {f : FuncId} {H0 H1 : List Blk} {es : List AV} {n : Nat} {as0 : List AV} {res : AV} {nst : Nat} (h0 : es = [] → CTri P f H0 (.sl es n .nl :: as0) res H1 nst) (h1 : CTri P f H0 (.sl es n .nn :: as0) res H1 nst) : CTri P f H0 (.sl es n .no :: as0) res H1 nst := by
  intro G0 W cargs hB hR hv
  cases hc : cargs.toList with
  | nil => rw [hc] at hv; simp only [VL] at hv
  | cons u us =>
    rw [hc] at hv
    simp only [VL] at hv
    obtain ⟨hu, hus⟩ := hv
    simp only [V] at hu
    obtain ⟨cap, hcap, ⟨q1, q2, q3, q4, _⟩ | ⟨b, off, q1, q2, _⟩⟩ := hu
    · cases hs : spOf u with
      | none =>
        refine h0 q1 G0 W cargs hB hR ?_
        rw [hc]
        simp only [VL]
        exact ⟨by simp only [V]; exact ⟨cap, hcap, .inl ⟨q1, q2, q3, q4, hs⟩⟩, hus⟩
      | some a =>
        refine h1 G0 W cargs hB hR ?_
        rw [hc]
        simp only [VL]
        exact ⟨by simp only [V]; exact ⟨cap, hcap, .inl ⟨q1, q2, q3, q4, a, hs⟩⟩, hus⟩
    · refine h1 G0 W cargs hB hR ?_
      rw [hc]
      simp only [VL]
      exact ⟨by simp only [V]; exact ⟨cap, hcap, .inr ⟨b, off, q1, q2, trivial⟩⟩, hus⟩

theorem flat_nil {α : Type} {c : α → List AV} {sz : Nat} (hc : Codec c sz) (h : 0 < sz) {l : List α} (hl : flat c l = []) : l = [] := by
  have := flat_len hc.len l
  rw [hl] at this
  cases l with
  | nil => rfl
  | cons x l =>
    simp only [List.length_nil, List.length_cons] at this
    exact absurd this.symm (Nat.ne_of_gt (Nat.mul_pos (Nat.succ_pos _) h))

variable {P : Program} {pr : FuncId → List AV → LSt → Option LA} (hp : CallsOk P pr) (hm : P.follows .mixedOrders = true) {na : Nb} {fn : Func} {f : FuncId}
include hp hm

theorem CTri.toHead {H0 H1 : List Blk} {args : List AV} {res : AV} {nst : Nat} (hf : P.funcs[f]? = some fn) (hb : fn.body.isNone = false) (n : Nat) (os : List Orc) (rs : List (Option Nat × Nat × Nat)) (keep ks live : List Nat) {c : Code} {fs' : List Fr} {E : (Nat → Value) → List AV} {S : LSt} {ob : List Ob}
    (h : ∀ j, khead P pr H0.length n (.run (bod fn)) [] (args ++ List.replicate (fn.ntmps - args.length) (.val undef)) (st0 H0) os rs keep ks live j = some (c, fs', E j, S, ob)) (hob : ObsOk P ob)
    (hk : ∀ j, Dl P H0.length c (E j) S (frameQ P H0.length (FinQ P H0.length fn res H1 nst) fs')) : CTri P f H0 args res H1 nst :=
  CTri.body hf hb (khead_ok (na := (H0.length : Nb)) (m := .run (bod fn)) (fs := []) hp hm h hob hk)

theorem CTri.toFin {H0 H1 : List Blk} {args : List AV} {res : AV} {nst : Nat} (hf : P.funcs[f]? = some fn) (hb : fn.body.isNone = false) (n : Nat) (os : List Orc) (rs : List (Option Nat × Nat × Nat)) (keep ks : List Nat) (own : Bool) {ob : List Ob}
    (h : kfin P pr H0.length fn n (.run (bod fn)) [] (args ++ List.replicate (fn.ntmps - args.length) (.val undef)) (st0 H0) os rs keep ks own = some (res, H1, ob)) (hob : ObsOk P ob) (hn : nst ≤ ks.length) : CTri P f H0 args res H1 nst :=
  CTri.body hf hb (kfin_ok (na := (H0.length : Nb)) (m := .run (bod fn)) (fs := []) hp hm h hob hn)

theorem Dl.toHead {Q : AX → List AV → LSt → Prop} {c c' : Code} {fs fs' : List Fr} {env : List AV} {s S : LSt} (n : Nat) (os : List Orc) (rs : List (Option Nat × Nat × Nat)) (keep ks live : List Nat) {E : (Nat → Value) → List AV} {ob : List Ob}
    (h : ∀ j, khead P pr na.n n (.run c) (.loop c :: fs) env s os rs keep ks live j = some (c', fs', E j, S, ob)) (hob : ObsOk P ob) (hk : ∀ j, Dl P na c' (E j) S (frameQ P na Q fs')) : Dl P na c env s (frameQ P na Q fs) :=
  Dl.step (khead_ok hp hm (Q := Q) (m := .run c) (fs := .loop c :: fs) h hob hk)

theorem Dl.toFin {c : Code} {fs : List Fr} {env : List AV} {s : LSt} {res : AV} {H1 : List Blk} {nst : Nat} (n : Nat) (os : List Orc) (rs : List (Option Nat × Nat × Nat)) (keep ks : List Nat) (own : Bool) {ob : List Ob}
    (h : kfin P pr na.n fn n (.run c) (.loop c :: fs) env s os rs keep ks own = some (res, H1, ob)) (hob : ObsOk P ob) (hn : nst ≤ ks.length) : Dl P na c env s (frameQ P na (FinQ P na fn res H1 nst) fs) :=
  Dl.step (kfin_ok hp hm (m := .run c) (fs := .loop c :: fs) h hob hn)

end Go.Ab

namespace Go.Ab
open Go Go.RowKit

/-- operations, and then others -/
theorem ARun_then {P : Program} {ops : Array Oper} {Q : Exit → Act → World → Prop} {rest : List Nat} : ∀ (l : List (Nat × Option LA)) (S S' : ST), ARun P ops l S S' → ∀ (G : Gh) (a : Act) (w : World), Rel G S a w →
    (∀ G' a' w', Ext G w G' w' → Rel G' S' a' w' → wpOps P ops Q rest a' w') → wpOps P ops Q (l.map (·.1) ++ rest) a w
  | [], S, S', h, G, a, w, hR, hQ => by
    simp only [ARun] at h
    subst h
    exact hQ G a w (Ext.refl G w) hR
  | p :: l, S, S', h, G, a, w, hR, hQ => by
    obtain ⟨S₁, h1, h2⟩ := h
    rw [List.map_cons, List.cons_append, wpOps_cons]
    refine h1.wp hR fun G' a' w' hE hR' => ?_
    exact ARun_then l S₁ S' h2 G' a' w' hR' fun G2 a2 w2 hE2 hR2 => hQ G2 a2 w2 (hE.trans hE2) hR2

/-- a call, by what it comes to here -/
theorem wp_callOp {P : Program} {dst : Option Tmp} {type : TypeId} {pos : String} {after : Array Edge} {guard : Option (Nat × Bool)} {g : Operand} {args : Array Operand} {argTypes : Array TypeId} {f : FuncId} {fn : Func} {a : Act} {w : World} {K : Act → World → Prop} {Q : Exit → Act → World → Prop}
    (hg : a.eval g = .func (.func f) #[] #[]) (hf : P.funcs[f]? = some fn) (hname : (fn.name == "runtime.NumGoroutine") = false) (hb : fn.body.isNone = false)
    (h : Calls P f (args.map a.eval) w fun e w' => ∃ u, e = .returned u ∧ K (a.put dst u) w') : Oper.wp P ⟨dst, .call { callee := .value g, args := args, argTypes := argTypes }, type, pos, after, guard⟩ a w K Q := by
  have hrun : (execOp a.eval ⟨dst, .call { callee := .value g, args := args, argTypes := argTypes }, type, pos, after, guard⟩).run P w = .ok (.enter f (args.map a.eval)) w := by
    simp only [execOp, resolve, hg, Deferred.ofValue, Sem.run_bind, Sem.run_pure, Result.andThen_ok, invoke, callFunc]
    have hname' : ¬ fn.name = "runtime.NumGoroutine" := by simpa using hname
    have hb' : ¬ fn.body = none := by intro e; rw [e] at hb; cases hb
    simp [program, Sem.run, hf, hname', hb']
  unfold Oper.wp
  rw [hrun, Oper.upon_enter]
  refine h.mono fun e w' he => ?_
  obtain ⟨u, rfl, hK⟩ := he
  exact hK

/-- no block, no stamp -/
def s0 : LSt := ⟨[], 0, [], 0, []⟩

/-- what is known behind such a call: what was known where the function began, and some new cells -/
def freshG (G0 : Gh) (S : Nat → Nat → Prop) : Gh := ⟨fun _ => none, fun _ => none, fun b o => G0.L b o ∨ S b o, G0.w0, G0.F⟩

theorem Keep.cell {F : Nat → Prop} {w w' : World} (h : Keep F w w') {b o : Nat} (hb : F b) : w'.cell? ⟨b, o, none⟩ = w.cell? ⟨b, o, none⟩ := by
  simp only [World.cell?, h.block b hb]

theorem fresh_ok {na : Nb} {G0 : Gh} {W w : World} {σ : ASt} (hB : Base na G0) (hn : na.n = 0) (hR : RelS G0 σ W) (hK : Keep G0.F W w) {S : Nat → Nat → Prop} (hS : ∀ b o, S b o → ¬ G0.F b ∧ ∃ v, w.cell? ⟨b, o, none⟩ = some v) :
    Ext G0 W (freshG G0 S) w ∧ RelS (freshG G0 S) (over (Emp 0) s0) w := by
  have hcell : ∀ b o, G0.L b o → w.cell? ⟨b, o, none⟩ = W.cell? ⟨b, o, none⟩ := fun b o e => hK.cell (hB.LF b o e)
  refine ⟨⟨fun i b e => ?_, fun k r e => ?_, fun _ _ e => .inl e, hcell, rfl, rfl, fun b o e => e.imp id fun q => (hS b o q).1, fun i b m e _ => by rw [hB.ρ i (by omega)] at e; cases e⟩, ⟨fun i => ?_, ⟨0, fun i _ => rfl⟩, fun i j b e => (by cases e), fun i b X e => ?_, fun b o e => ?_, fun _ _ => rfl, fun k hk => ?_, fun k k' b f t f' t' hk => ?_, ?_, fun k hk => ?_⟩⟩
  · rw [hB.ρ i (by omega)] at e; cases e
  · rw [hB.τ k] at e; cases e
  · exact ⟨fun _ => rfl, fun _ => rfl⟩
  · cases e
  · refine ⟨?_, fun i e' => by cases e'⟩
    rcases e with e | e
    · rw [hcell b o e]; exact (hR.live b o e).1
    · exact (hS b o e).2
  · simp [over_own, s0] at hk
  · simp [over_own, s0] at hk
  · exact hR.below.trans hK
  · exact Nat.lt_of_lt_of_le (hR.base k hk) hK.size

/-- a slice whose cells are known, one by one -/
theorem V.ofCells {G : Gh} {w : World} {es : List AV} {vs : List Value} {b off n cap : Nat} (hv : VL G w es vs) (hL : ∀ i, i < vs.length → G.L b (off + i)) (hc : ∀ i (h : i < vs.length), w.cell? ⟨b, off + i, none⟩ = some vs[i]) (hn : n ≤ cap) :
    V G w (.sl es n .no) (.slice (some ⟨b, off, none⟩) n cap) := by
  simp only [V]
  exact ⟨cap, hn, .inr ⟨b, off, rfl, VC.of_cells _ _ _ _ hv hL hc, trivial⟩⟩

/-- slots that hold whatever they hold -/
theorem VL.lits {G : Gh} {w : World} : ∀ us : List Value, VL G w (us.map .val) us
  | [] => by simp [VL]
  | u :: us => by simp only [List.map_cons, VL, V]; exact ⟨trivial, VL.lits us⟩

end Go.Ab

namespace Go.Ab
open Go Go.RowKit

def pickH (keep : List Nat) : List (Nat × Blk) → List (Nat × Blk)
  | [] => []
  | p :: l => bif memB keep p.1 then p :: pickH keep l else pickH keep l

theorem look_pickH {keep : List Nat} : ∀ (l : List (Nat × Blk)) (i : Nat), look (pickH keep l) i = if memB keep i = true then look l i else none
  | [], i => by simp [pickH, look]
  | p :: l, i => by
    simp only [pickH]
    cases hb : memB keep p.1 with
    | true =>
      simp only [cond_true, look, look_pickH l i]
      cases he : Nat.beq i p.1 with
      | true => have := Nat.eq_of_beq_eq_true he; subst this; simp only [cond_true, hb, if_true]
      | false => simp only [cond_false]
    | false =>
      simp only [cond_false, look, look_pickH l i]
      cases he : Nat.beq i p.1 with
      | true => have := Nat.eq_of_beq_eq_true he; subst this; simp [hb]
      | false => simp only [cond_false]

def pickSt (keep : List Nat) (s : LSt) : LSt := ⟨pickH keep s.H, s.nx, [], 0, []⟩

/-- what it holds stands in the frame, or in no memory -/
def Blk.lit : Blk → Prop
  | .cells cs => ∀ (G G' : Gh) (w w' : World) (us : List Value), G'.F = G.F → (∀ b o, G.F b → G.L b o → G'.L b o) → (∀ b o, G.F b → w'.cell? ⟨b, o, none⟩ = w.cell? ⟨b, o, none⟩) → VL G w cs us → VL G' w' cs us
  | _ => False

def mutG (G0 G : Gh) (keep : List Nat) (S : Nat → Nat → Prop) : Gh := ⟨fun i => if memB keep i = true then G.ρ i else none, fun _ => none, fun b o => G0.L b o ∨ S b o, G0.w0, G0.F⟩

theorem VL.litEq {G : Gh} {w : World} : ∀ (vs us : List Value), VL G w (vs.map .val) us → us = vs
  | [], [], _ => rfl
  | v :: vs, u :: us, h => by
    simp only [List.map_cons, VL, V] at h
    rw [h.1, VL.litEq vs us h.2]
  | [], _ :: _, h => by simp only [List.map_nil, VL] at h
  | _ :: _, [], h => by simp only [List.map_cons, VL] at h

theorem mut_ok {na : Nb} {G0 G : Gh} {W w w' : World} {s : LSt} {keep : List Nat} {S : Nat → Nat → Prop} {b : Nat} (hB : Base na G0) (hn : na.n = 0) (hE : Ext G0 W G w) (hR : RelS G (over (Emp 0) s) w) (hbF : ¬ G0.F b) (hbρ : ∀ i, G.ρ i ≠ some b)
    (hK : Keep (fun c => c < w.heap.size ∧ c ≠ b) w w') (hlit : ∀ i X, memB keep i = true → look s.H i = some X → X.lit) (hS : ∀ c o, S c o → c = b ∧ ∃ v, w'.cell? ⟨c, o, none⟩ = some v) :
    Ext G0 W (mutG G0 G keep S) w' ∧ RelS (mutG G0 G keep S) (over (Emp 0) (pickSt keep s)) w' := by
  have hLlt : ∀ c o, G0.L c o → c < w.heap.size ∧ c ≠ b := fun c o e => ⟨hR.base c (by rw [hE.F]; exact hB.LF c o e), fun ec => hbF (ec ▸ hB.LF c o e)⟩
  have hcell : ∀ c o, G0.L c o → w'.cell? ⟨c, o, none⟩ = w.cell? ⟨c, o, none⟩ := fun c o e => hK.cell (hLlt c o e)
  have hH : ∀ i, (over (Emp 0) (pickSt keep s)).H i = if memB keep i = true then look s.H i else none := fun i => by rw [over_H]; exact look_pickH _ _
  refine ⟨⟨fun i c e => ?_, fun k r e => ?_, fun _ _ e => .inl e, fun c o e => (hcell c o e).trans (hE.cell c o e), rfl, rfl, fun c o e => e.imp id fun q => by rw [(hS c o q).1]; exact hbF, fun i b m e _ => by rw [hB.ρ i (by omega)] at e; cases e⟩, ⟨fun i => ?_, ?_, fun i j c hi hj => ?_, fun i c X hi hX => ?_, fun c o e => ?_, fun _ _ => rfl, fun k hk => ?_, fun k k' c f t f' t' hk => ?_, ?_, fun k hk => ?_⟩⟩
  · rw [hB.ρ i (by omega)] at e; cases e
  · rw [hB.τ k] at e; cases e
  · rw [hH]
    show (if memB keep i = true then G.ρ i else none) = none ↔ _
    split
    · rw [hR.dom i, over_H]
    · simp
  · obtain ⟨N, hN⟩ := hR.fin
    refine ⟨N, fun i hi => ?_⟩
    have := hN i hi
    rw [over_H] at this
    rw [hH]
    split
    · exact this
    · rfl
  · have hi' : (if memB keep i = true then G.ρ i else none) = some c := hi
    have hj' : (if memB keep j = true then G.ρ j else none) = some c := hj
    split at hi'
    · split at hj'
      · rename_i h1 h2
        have hno : ∀ t, memB keep t = true → (over (Emp 0) s).H t ≠ some .dead := fun t ht hd => by
          rw [over_H] at hd; exact hlit t _ ht hd
        rcases hR.inj i j c hi' hj' with q | q | q
        · exact .inl q
        · exact (hno i h1 q).elim
        · exact (hno j h2 q).elim
      · cases hj'
    · cases hi'
  · have hi' : (if memB keep i = true then G.ρ i else none) = some c := hi
    split at hi'
    · rename_i hm
      rw [hH, if_pos hm] at hX
      obtain ⟨q1, q2⟩ := hR.blk i c X hi' (by rw [over_H]; exact hX)
      refine ⟨by rw [hE.F] at q1; exact q1, ?_⟩
      have hl := hlit i X hm hX
      cases X with
      | cells cs =>
        obtain ⟨vs', T, q3, q4⟩ := q2
        refine ⟨vs', T, ?_, q4.imp fun us h => hl G _ w w' us hE.F.symm (fun b o h1 h2 => ?_) (fun b o h1 => ?_) h⟩
        · rw [hK.block c ⟨(Array.getElem?_eq_some_iff.1 q3).1, fun e => hbρ i (e ▸ hi')⟩]; exact q3
        · exact .inl ((hE.newL b o h2).resolve_right fun h => h (by rw [← hE.F]; exact h1))
        · exact hK.cell ⟨hR.base b h1, fun e => hbF (by rw [← hE.F]; exact e ▸ h1)⟩
      | obj o => exact hl.elim
      | row cs => exact hl.elim
      | dead => exact hl.elim
    · cases hi'
  · rcases e with e | e
    · obtain ⟨⟨v, hv⟩, q⟩ := hR.live c o (hE.L c o e)
      refine ⟨⟨v, (hcell c o e).trans hv⟩, fun i hi => ?_⟩
      have hi' : (if memB keep i = true then G.ρ i else none) = some c := hi
      split at hi'
      · exact q i hi'
      · cases hi'
    · obtain ⟨rfl, hv⟩ := hS c o e
      refine ⟨hv, fun i hi => ?_⟩
      have hi' : (if memB keep i = true then G.ρ i else none) = some c := hi
      split at hi'
      · exact hbρ i hi'
      · cases hi'
  · simp [over_own, pickSt] at hk
  · simp [over_own, pickSt] at hk
  · have := hR.below
    rw [hE.F, hE.w0] at this
    exact this.trans (hK.mono fun k hk => ⟨hR.base k (by rw [hE.F]; exact hk), fun e => hbF (e ▸ hk)⟩)
  · exact Nat.lt_of_lt_of_le (hR.base k (by rw [hE.F]; exact hk)) hK.size

theorem pickSt_ok {keep : List Nat} {s : LSt} (h : s.Ok) : (pickSt keep s).Ok := by
  refine ⟨fun i X hX => ?_, fun k hk => by simp [pickSt] at hk, (fun k h => by cases h), Nat.zero_le _⟩
  have hX' : look (pickH keep s.H) i = some X := hX
  rw [look_pickH] at hX'
  split at hX'
  · exact h.H i X hX'
  · cases hX'

/-- slots: literals stay, pointers to what is kept stay, others are told by what they hold -/
def mutEnv (keep : List Nat) (j : Nat → Value) : List AV → Nat → List AV
  | [], _ => []
  | a :: l, t => (match a with | .val v => .val v | .mp i off => bif memB keep i then .mp i off else .val (j t) | _ => .val (j t)) :: mutEnv keep j l (t + 1)

theorem VL.mutEnv {G0 G : Gh} {w w' : World} {keep : List Nat} {S : Nat → Nat → Prop} (us0 : List Value) : ∀ (env : List AV) (us : List Value) (t : Nat), VL G w env us → (∀ i, us0.getD (t + i) undef = us.getD i undef) →
    VL (mutG G0 G keep S) w' (Ab.mutEnv keep (fun t => us0.getD t undef) env t) us
  | [], [], _, _, _ => by simp [Ab.mutEnv, VL]
  | a :: as0, u :: us, t, hv, hu => by
    simp only [VL] at hv
    have h0 : us0.getD t undef = u := by
      have := hu 0
      simpa using this
    simp only [Ab.mutEnv, VL]
    refine ⟨?_, VL.mutEnv us0 as0 us (t + 1) hv.2 (fun i => ?_)⟩
    · have h1 := hv.1
      split
      · simpa only [V] using h1
      · rename_i i off
        cases hm : memB keep i with
        | true =>
          simp only [V, cond_true] at h1 ⊢
          obtain ⟨c, hc, rfl⟩ := h1
          exact ⟨c, by show (if memB keep i = true then G.ρ i else none) = _; rw [if_pos hm]; exact hc, rfl⟩
        | false => simp only [cond_false, V]; exact h0.symm
      · simp only [V]; exact h0.symm
    · have := hu (i + 1)
      rw [show t + 1 + i = t + (i + 1) by omega, this]; simp
  | [], _ :: _, _, h, _ => by simp only [VL] at h
  | _ :: _, [], _, h, _ => by simp only [VL] at h

/-- what stood where the function began stands -/
theorem V.later {na : Nb} {G0 G : Gh} {W w : World} {a : AV} {u : Value} (hB : Base na G0) (hE : Ext G0 W G w) (hR : Keep G.F G.w0 w) (h : V G0 G0.w0 a u) (hn : na.n = 0 := by first | rfl | assumption) : V G w a u := by
  refine V.mono (G := G0) (w := G0.w0) ⟨hE.ρ, hE.τ, hE.L, fun b o e => ?_, hE.w0, hE.F, hE.newL, fun i b m e _ => by rw [hB.ρ i (by omega)] at e; cases e⟩ a u h
  have := hR.cell (b := b) (o := o) (by rw [hE.F]; exact hB.LF b o e)
  rw [hE.w0] at this
  exact this

theorem VL.later {na : Nb} {G0 G : Gh} {W w : World} {a : List AV} {u : List Value} (hB : Base na G0) (hE : Ext G0 W G w) (hR : Keep G.F G.w0 w) (h : VL G0 G0.w0 a u) (hn : na.n = 0 := by first | rfl | assumption) : VL G w a u := by
  refine VL.mono (G := G0) (w := G0.w0) ⟨hE.ρ, hE.τ, hE.L, fun b o e => ?_, hE.w0, hE.F, hE.newL, fun i b m e _ => by rw [hB.ρ i (by omega)] at e; cases e⟩ a u h
  have := hR.cell (b := b) (o := o) (by rw [hE.F]; exact hB.LF b o e)
  rw [hE.w0] at this
  exact this

theorem VL.back {na : Nb} {G0 : Gh} {σ : ASt} {W : World} {a : List AV} {u : List Value} (hB : Base na G0) (hR : RelS G0 σ W) (h : VL G0 W a u) (hn : na.n = 0 := by first | rfl | assumption) : VL G0 G0.w0 a u := by
  refine VL.mono (G := G0) (w := W) ⟨fun _ _ e => e, fun _ _ e => e, fun _ _ e => e, fun b o e => ?_, rfl, rfl, fun _ _ e => .inl e, fun i b m e _ => by rw [hB.ρ i (by omega)] at e; cases e⟩ a u h
  exact (hR.below.cell (hB.LF b o e)).symm

/-- a body, run where its function is called -/
theorem body_at {P : Program} {f : FuncId} {fn : Func} {H0 : List Blk} {args : List AV} {res : AV} {H1 : List Blk} {nst : Nat} {na : Nb} (hna : na.n = H0.length) (hf : P.funcs[f]? = some fn) (hb : fn.body.isNone = false)
    (h : Dv P na (bod fn) (args ++ List.replicate (fn.ntmps - args.length) (.val undef)) (st0 H0) (FinQ P na fn res H1 nst)) {G0 : Gh} {W : World} {cargs : Array Value} (hB : Base na G0) (hR : RelS G0 (over (Emp 0) (st0 H0)) W) (hv : VL G0 W args cargs.toList) :
    Calls P f cargs W fun e W' => ∃ u G' s', e = .returned u ∧ Ext G0 W G' W' ∧ RelS G' (over (Emp 0) s') W' ∧ V G' W' res u ∧
      (∀ i X, H1[i]? = some X → look s'.H i = some X) ∧ ∀ k, k < nst → s'.own.any (Nat.beq k) = true := by
  cases hb' : fn.body with
  | none => rw [hb'] at hb; cases hb
  | some c =>
  have hbod : bod fn = c := by simp [bod, hb']
  rw [hbod] at h
  refine calls_of_wp hf hb' ?_
  have hlen := VL.length _ _ hv
  have hR0 : Rel G0 ⟨args ++ List.replicate (fn.ntmps - args.length) (.val undef), over (Emp 0) (st0 H0)⟩ { tmps := cargs ++ Array.replicate (fn.ntmps - cargs.size) undef, defers := [] } W := by
    refine ⟨hR, ?_, rfl⟩
    have : cargs.size = args.length := by rw [← hlen]; simp
    simp only [Array.toList_append, Array.toList_replicate, this]
    exact VL.append _ _ _ _ hv (VL.replicate _)
  have hok : (st0 H0).Ok := by
    refine ⟨fun i X hX => ?_, fun k hk => by simp [st0] at hk, (fun k h => by cases h), Nat.zero_le _⟩
    have hX' : look (idxBlks H0 0) i = some X := hX
    rw [look_idxBlks] at hX'
    simp only [Nat.zero_le, if_true, Nat.sub_zero] at hX'
    exact (List.getElem?_eq_some_iff.1 hX').1
  refine wp_mono (h G0 W hB G0 _ W (Ext.refl G0 W) hok hR0) ?_
  rintro e a' w' ⟨x, env1, s1, G₂, rfl, ⟨hx, rs, env', s', hrs, r, keep, ks, hres, hreB, hfb, hfr, hle, ⟨ow, hH1⟩, hnst⟩, hE2, hok2, hR2⟩
  obtain ⟨G₁, hE1, hok', hR'⟩ := Rel.restamps rs hrs hok2 hR2
  have hE := hE2.trans hE1
  have hres' : ares P (over (Emp 0) s').H env' fn.results.toList = some r := by
    refine ares_mono (fun i X hX => ?_) hres
    rw [over_H]; exact hX
  obtain ⟨u, hu, huv⟩ := ares_ok (fn := fn) hR' hres'
  obtain ⟨G', h1, h2, h3, h4⟩ := renumber hreB hfb hB.ρ hB.τ hE hR'.st
  have hV := hle _ _ _ (V.ren h4 r u hfr huv)
  have hend : a'.defers = [] ∧ ∃ v', (results fn a'.tmps).run P w' = .ok v' w' ∧ ∃ u G' s', Ending.returned v' = .returned u ∧ Ext G0 W G' w' ∧ RelS G' (over (Emp 0) s') w' ∧ V G' w' res u ∧
      (∀ i X, H1[i]? = some X → look s'.H i = some X) ∧ ∀ k, k < nst → s'.own.any (Nat.beq k) = true := by
    refine ⟨hR'.dfr, u, hu, u, G', frzSt ow (reSt keep ks s'), rfl, h1, h3.frz ow, hV, fun i X hX => ?_, fun k hk => ?_⟩
    · rw [hH1, List.getElem?_map] at hX
      cases hY : (blkList (reSt keep ks s').H 0 keep.length)[i]? with
      | none => rw [hY] at hX; cases hX
      | some Y =>
      rw [hY] at hX
      simp only [Option.map_some, Option.some.injEq] at hX
      subst hX
      show look (frzBlks ow (reSt keep ks s').H) i = _
      rw [look_frzBlks]
      have := blkList_get keep.length 0 i Y hY
      simp only [Nat.zero_add] at this
      rw [this]
      · rfl
      have hlt : i < keep.length := by
        have := (List.getElem?_eq_some_iff.1 hY).1
        have hl : ∀ n j, (blkList (reSt keep ks s').H j n).length = n := by
          intro n
          induction n with
          | zero => intro j; rfl
          | succ n ih => intro j; simp [blkList, ih]
        rwa [hl] at this
      show ∃ Y, look (reBlks s'.H keep ks keep 0) i = some Y
      rw [look_reBlks]
      simp only [Nat.zero_le, if_true, Nat.sub_zero, List.getElem?_eq_getElem hlt, Option.map_some]
      exact ⟨_, rfl⟩
    · show (range' 0 ks.length).any (Nat.beq k) = true
      rw [any_beq, mem_range']; omega
  rcases hx with rfl | rfl
  · exact hend
  · exact hend


theorem VL.put {G : Gh} {w : World} : ∀ (as0 : List AV) (us : List Value), VL G w as0 us → ∀ (i : Nat) (a : AV), (∀ u, us[i]? = some u → V G w a u) → VL G w (as0.set i a) us
  | [], [], _, i, a, _ => by simp [VL]
  | x :: as0, y :: us, h, i, a, hv => by
    simp only [VL] at h
    cases i with
    | zero => simp only [List.set_cons_zero, VL]; exact ⟨hv y rfl, h.2⟩
    | succ i => simp only [List.set_cons_succ, VL]; exact ⟨h.1, VL.put as0 us h.2 i a fun u hu => hv u (by simpa using hu)⟩
  | [], _ :: _, h, _, _, _ => by simp only [VL] at h
  | _ :: _, [], h, _, _, _ => by simp only [VL] at h

def regOps : Code → Array Oper | .region _ ops _ => ops | _ => #[]
def isReg : Code → Bool | .region _ _ false => true | _ => false
def isRet : Code → Bool | .ret => true | _ => false
/-- what an operation moves; what it calls -/
def mvOf : Option Oper → Option (Option Tmp × Operand)
  | some ⟨d, .move x, _, _, _, none⟩ => some (d, x)
  | some ⟨d, .assign x, _, _, _, none⟩ => some (d, x)
  | _ => none
def clOf : Option Oper → Option (Option Tmp × FuncId × Array Operand)
  | some ⟨d, .call { callee := .value (.func f), args, argTypes := _ }, _, _, _, none⟩ => some (d, f, args)
  | _ => none

section
variable {P : Program} {a : Act} {w : World} {Q : Exit → Act → World → Prop}
theorem wp_seqP {c : Code} (hk : knd c = 1) (h : (lft c).wp P (Exit.then ((rgt c).wp P Q) Q) a w) : c.wp P Q a w := by
  cases c <;> first | exact wp_seq h | cases hk
theorem wp_regionP {c : Code} (hk : isReg c = true) {l : List Nat} (hl : List.range (regOps c).size = l) (h : wpOps P (regOps c) Q l a w) : c.wp P Q a w := by
  subst hl
  cases c with
  | region id ops draw =>
    cases draw with
    | false => exact wp_region h
    | true => cases hk
  | _ => cases hk
theorem wp_retP {c : Code} (hk : isRet c = true) (h : Q .ret a w) : c.wp P Q a w := by
  cases c <;> first | exact wp_ret h | cases hk

theorem wpOps_mv {ops : Array Oper} {rest : List Nat} {i : Nat} {d : Option Tmp} {x : Operand} (hop : mvOf ops[i]? = some (d, x)) (h : wpOps P ops Q rest (a.put d (a.eval x)) w) : wpOps P ops Q (i :: rest) a w := by
  rw [wpOps_cons]
  unfold wpOp
  unfold mvOf at hop
  split at hop
  · rename_i o e
    cases hop
    rw [e]
    simp only [Region.wanted, if_true]
    refine .inl ?_
    unfold Oper.wp
    simpa [execOp, Oper.upon] using h
  · rename_i o e
    cases hop
    rw [e]
    simp only [Region.wanted, if_true]
    refine .inl ?_
    unfold Oper.wp
    simpa [execOp, Oper.upon] using h
  · cases hop

theorem wpOps_cl {ops : Array Oper} {rest : List Nat} {i : Nat} {d : Option Tmp} {args : Array Operand} {f : FuncId} {fn : Func} (hop : clOf ops[i]? = some (d, f, args))
    (hf : P.funcs[f]? = some fn) (hname : (fn.name == "runtime.NumGoroutine") = false) (hb : fn.body.isNone = false)
    (h : Calls P f (args.map a.eval) w fun e w' => ∃ u, e = .returned u ∧ wpOps P ops Q rest (a.put d u) w') : wpOps P ops Q (i :: rest) a w := by
  rw [wpOps_cons]
  unfold wpOp
  unfold clOf at hop
  split at hop
  · rename_i e
    cases hop
    rw [e]
    simp only [Region.wanted, if_true]
    exact .inl (wp_callOp (f := f) (fn := fn) rfl hf hname hb h)
  · cases hop
end

def tells : List (Nat × AV) → List AV → List AV
  | [], env => env
  | p :: l, env => tells l (env.set p.1 p.2)

theorem VL.tells {G : Gh} {w : World} : ∀ (l : List (Nat × AV)) (as0 : List AV) (us : List Value), VL G w as0 us → (∀ p ∈ l, ∀ u, us[p.1]? = some u → V G w p.2 u) → VL G w (Ab.tells l as0) us
  | [], _, _, h, _ => h
  | p :: l, as0, us, h, k => VL.tells l _ us (VL.put as0 us h p.1 p.2 (k p List.mem_cons_self)) fun q hq => k q (List.mem_cons_of_mem _ hq)

theorem VL.getE {G : Gh} {w : World} {env : List AV} {us : List Value} (h : VL G w env us) {t : Nat} {u : Value} (hu : us[t]? = some u) : V G w (eget env t) u := by
  have := V.eget env us h t
  have e : us.getD t undef = u := by simp [List.getD, hu]
  rwa [e] at this

/-- a region, one of whose calls writes in place -/
theorem Dv.mut {P : Program} {pr : FuncId → List AV → LSt → Option LA} (hp : CallsOk P pr) {na : Nb} (hn : na.n = 0) {Q : AX → List AV → LSt → Prop} {id : Nat} {ops : Array Oper} {env env1 : List AV} {s s1 s3 : LSt} {os os2 : List Orc} {ob ob2 : List Ob} (p : Nat) (keep : List Nat) (tell : List (Nat × AV)) (res : AV)
    {dst : Option Tmp} {tA : Tmp} {f : FuncId} {fn : Func} {E3 : (Nat → Value) → List AV}
    (h1' : (xops P pr ops (ops.toList.take p) 0 env s os).map Prod.snd = some (env1, s1, [], ob)) (hob : ObsOk P ob)
    (hop : clOf ops[p]? = some (dst, f, #[.tmp tA]))
    (hf : P.funcs[f]? = some fn) (hname : (fn.name == "runtime.NumGoroutine") = false) (hb : fn.body.isNone = false)
    (hlit : ∀ i X, memB keep i = true → look s1.H i = some X → X.lit)
    (hcall : ∀ G0 W, Base na G0 → ∀ G w, Ext G0 W G w → RelS G (over (Emp 0) s1) w → ∀ u, V G w (eget env1 tA) u → Calls P f #[u] w fun e w' => ∃ (v : Value) (b : Nat) (S : Nat → Nat → Prop), e = .returned v ∧ ¬ G.F b ∧ (∀ i, G.ρ i ≠ some b) ∧ Keep (fun c => c < w.heap.size ∧ c ≠ b) w w' ∧
      (∀ c o, S c o → c = b ∧ ∃ x, w'.cell? ⟨c, o, none⟩ = some x) ∧ ∀ G', Ext G0 W G' w' → Keep G'.F G'.w0 w' → (∀ c o, S c o → G'.L c o) → V G' w' res v ∧ ∀ q ∈ tell, ∀ u', V G w (eget env1 q.1) u' → V G' w' q.2 u')
    (h2' : ∀ j, (xops P pr ops (ops.toList.drop (p + 1)) (p + 1) (eset (tells tell (mutEnv keep j env1 0)) dst res) (pickSt keep s1) os2).map Prod.snd = some (E3 j, s3, [], ob2)) (hob2 : ObsOk P ob2)
    (hk : ∀ j, Q .normal (E3 j) s3) : Dv P na (.region id ops false) env s Q := by
  have mp : ∀ {x : Option (List (Nat × Option LA) × List AV × LSt × List Orc × List Ob)} {y}, x.map Prod.snd = some y → ∃ r, x = some (r, y) := by
    intro x y h
    simp only [Option.map_eq_some_iff] at h
    obtain ⟨⟨r, z⟩, h1, rfl⟩ := h
    exact ⟨r, h1⟩
  obtain ⟨r, h1⟩ := mp h1'
  intro G0 W hB G a w hE hok hR
  have hlt : p < ops.size := by
    rcases Nat.lt_or_ge p ops.size with h | h
    · exact h
    · rw [Array.getElem?_eq_none h] at hop; cases hop
  obtain ⟨_, q2, q3⟩ := xops_ok hp (ops.toList.take p) 0 env s os r _ _ _ _ (fun k o e => by
    rw [List.getElem?_take] at e
    split at e
    · simpa using e
    · cases e) h1 hob
  obtain ⟨o1, r1⟩ := q3 (Emp 0) 0 hok (fun _ _ _ => rfl)
  refine wp_region ?_
  have hr : List.range ops.size = r.map (·.1) ++ p :: List.range' (p + 1) (ops.size - (p + 1)) := by
    rw [q2, List.range_eq_range']
    have hl : (ops.toList.take p).length = p := by simp; omega
    rw [hl, show p :: List.range' (p + 1) (ops.size - (p + 1)) = List.range' p (ops.size - p) by
      rw [show ops.size - p = (ops.size - (p + 1)) + 1 by omega, List.range'_succ]]
    have := List.range'_append (s := 0) (m := p) (n := ops.size - p) (step := 1)
    simp only [Nat.one_mul, Nat.zero_add] at this
    rw [this]; congr 1; omega
  rw [hr]
  refine ARun_then r _ _ r1 G a w hR fun G1 a1 w1 hE1 hR1 => ?_
  have hEE := hE.trans hE1
  have hu : V G1 w1 (eget env1 tA) (a1.eval (.tmp tA)) := by
    have := V.aev hR1.env (.tmp tA)
    simpa [aev] using this
  refine wpOps_cl hop hf hname hb ?_
  rw [show Array.map a1.eval #[Operand.tmp tA] = #[a1.eval (Operand.tmp tA)] by simp]
  refine (hcall G0 W hB G1 w1 hEE hR1.st _ hu).mono ?_
  rintro e w2 ⟨v, b, S, rfl, hbF, hbρ, hK, hS, hV⟩
  refine ⟨v, rfl, ?_⟩
  obtain ⟨hE2, hR2⟩ := mut_ok (keep := keep) hB hn hEE hR1.st (by rw [← hEE.F]; exact hbF) hbρ hK hlit hS
  obtain ⟨hv, ht⟩ := hV _ hE2 hR2.below (fun c o h => .inr h)
  have henv : VL (mutG G0 G1 keep S) w2 (eset (tells tell (mutEnv keep (fun t => a1.tmps.toList.getD t undef) env1 0)) dst res) (a1.put dst v).tmps.toList := by
    refine VL.eset ?_ dst hv
    refine VL.tells tell _ _ (VL.mutEnv _ env1 _ 0 hR1.env (fun i => by rw [Nat.zero_add])) fun q hq u' hu' => ht q hq u' (hR1.env.getE hu')
  have hR3 : Rel (mutG G0 G1 keep S) ⟨eset (tells tell (mutEnv keep (fun t => a1.tmps.toList.getD t undef) env1 0)) dst res, over (Emp 0) (pickSt keep s1)⟩ (a1.put dst v) w2 := ⟨hR2, henv, by rw [put_dfr]; exact hR1.dfr⟩
  have hok2 := pickSt_ok (keep := keep) o1
  obtain ⟨r2, h2⟩ := mp (h2' fun t => a1.tmps.toList.getD t undef)
  obtain ⟨_, q5, q6⟩ := xops_ok hp (ops.toList.drop (p + 1)) (p + 1) _ _ os2 r2 _ _ _ _ (fun k o e => by
    rw [List.getElem?_drop] at e
    simpa using e) h2 hob2
  obtain ⟨o3, r3⟩ := q6 (Emp 0) 0 hok2 (fun _ _ _ => rfl)
  have e5 : List.range' (p + 1) (ops.size - (p + 1)) = r2.map (·.1) ++ [] := by
    rw [q5, List.append_nil]; simp
  rw [e5]
  refine ARun_then r2 _ _ r3 _ _ w2 hR3 fun G4 a4 w4 hE4 hR4 => ?_
  exact ⟨.normal, _, s3, G4, rfl, hk _, hE2.trans hE4, o3, hR4⟩

theorem regP {c : Code} (hk : isReg c = true) : ∃ id, c = .region id (regOps c) false := by
  cases c with
  | region id ops draw =>
    cases draw with
    | false => exact ⟨id, rfl⟩
    | true => cases hk
  | _ => cases hk

theorem Dv.seqP {P : Program} {na : Nb} {c : Code} {env : List AV} {s : LSt} {Q : AX → List AV → LSt → Prop} (hk : knd c = 1) (h : Dv P na (lft c) env s (seqQ (fun e s => Dv P na (rgt c) e s Q) Q)) : Dv P na c env s Q := by
  cases c <;> first | exact Dv.seq h | cases hk
theorem Dv.blockP {P : Program} {na : Nb} {c : Code} {env : List AV} {s : LSt} {Q : AX → List AV → LSt → Prop} (hk : knd c = 3) (h : Dv P na (inn c) env s (blockQ (bid c) Q)) : Dv P na c env s Q := by
  cases c <;> first | exact Dv.block h | cases hk

/-- a block told otherwise -/
theorem Dl.openB {P : Program} {na : Nb} {c : Code} {env : List AV} {s : LSt} {Q : AX → List AV → LSt → Prop} {b : Nat} {cs cs' : List AV} (hcs : look s.H b = some (.cells cs))
    (h : ∀ G0 W, Base na G0 → ∀ G w, Ext G0 W G w → Keep G.F G.w0 w → ∀ us, VL G w cs us → VL G w cs' us) (k : Dl P na c env { s with H := setBlk s.H b (.cells cs') } Q) : Dl P na c env s Q := by
  intro G0 W hB G a w hE ho hR
  have hM := hR.st
  have hl : ∀ j, look (setBlk s.H b (.cells cs')) j = if j = b then some (.cells cs') else look s.H j := fun j => look_setBlk _ _ _ _ _ hcs
  have hdd : ∀ i, (over (Emp 0) s).H i = some .dead → (over (Emp 0) ⟨setBlk s.H b (.cells cs'), s.nx, s.own, s.ns, s.dirty⟩).H i = some .dead := by
    intro i hi
    rw [over_H] at hi ⊢
    show look (setBlk s.H b (.cells cs')) i = _
    rw [hl, if_neg (fun e => by subst e; rw [hcs] at hi; cases hi)]
    exact hi
  refine k G0 W hB G a w hE ⟨fun i X hX => ?_, ho.own, ho.fr, Nat.zero_le _⟩ ⟨⟨fun i => ?_, ?_, fun i j q hi hj => (hM.inj i j q hi hj).imp id (Or.imp (hdd i) (hdd j)), fun i q X hi hX => ?_, hM.live, hM.τns, hM.own, hM.ownd, hM.below, hM.base⟩, hR.env, hR.dfr⟩
  · have hX' : look (setBlk s.H b (.cells cs')) i = some X := hX
    rw [hl] at hX'
    by_cases e : i = b
    · subst e; exact ho.H i _ hcs
    · rw [if_neg e] at hX'; exact ho.H i X hX'
  · have := hM.dom i
    rw [this, over_H, over_H]
    show look s.H i = none ↔ look (setBlk s.H b (.cells cs')) i = none
    rw [hl]
    by_cases e : i = b
    · subst e; simp [hcs]
    · rw [if_neg e]
  · obtain ⟨N, hN⟩ := hM.fin
    refine ⟨max N (b + 1), fun i hi => ?_⟩
    have := hN i (by omega)
    rw [over_H] at this ⊢
    show look (setBlk s.H b (.cells cs')) i = none
    rw [hl, if_neg (by omega)]; exact this
  · rw [over_H] at hX
    have hX' : look (setBlk s.H b (.cells cs')) i = some X := hX
    rw [hl] at hX'
    by_cases e : i = b
    · subst e
      rw [if_pos rfl] at hX'
      cases hX'
      obtain ⟨q1, vs, T, q2, q3⟩ := hM.blk i q _ hi (by rw [over_H]; exact hcs)
      exact ⟨q1, vs, T, q2, q3.imp fun us q3 => h G0 W hB G w hE hM.below us q3⟩
    · rw [if_neg e] at hX'
      exact hM.blk i q X hi (by rw [over_H]; exact hX')

end Go.Ab

namespace Go.Ab
open Go.Lib

def isert (x : Int) : List Int → List Int
  | [] => [x]
  | y :: l => if x ≤ y then x :: y :: l else y :: isert x l
def isort : List Int → List Int
  | [] => []
  | x :: l => isert x (isort l)
def cpct : List Int → List Int
  | [] => []
  | x :: l => match l with
    | [] => [x]
    | y :: _ => if x = y then cpct l else x :: cpct l
def rise (l : List Int) : List Int := cpct (isort l)

theorem isert_perm (x : Int) : ∀ l, (isert x l).Perm (x :: l)
  | [] => .refl _
  | y :: l => by
    simp only [isert]
    split
    · exact .refl _
    · exact ((isert_perm x l).cons y).trans (.swap x y l)
theorem isort_perm : ∀ l, (isort l).Perm l
  | [] => .refl _
  | x :: l => (isert_perm x (isort l)).trans ((isort_perm l).cons x)
theorem isert_sorted (x : Int) : ∀ l, l.Pairwise (· ≤ ·) → (isert x l).Pairwise (· ≤ ·)
  | [], _ => by simp [isert]
  | y :: l, h => by
    simp only [isert]
    rw [List.pairwise_cons] at h
    split
    · rename_i hxy
      rw [List.pairwise_cons]
      refine ⟨fun z hz => ?_, List.pairwise_cons.2 h⟩
      rcases List.mem_cons.1 hz with rfl | hz
      · exact hxy
      · exact Int.le_trans hxy (h.1 z hz)
    · rename_i hxy
      rw [List.pairwise_cons]
      refine ⟨fun z hz => ?_, isert_sorted x l h.2⟩
      rcases List.mem_cons.1 ((isert_perm x l).mem_iff.1 hz) with rfl | hz
      · omega
      · exact h.1 z hz
theorem isort_sorted : ∀ l, (isort l).Pairwise (· ≤ ·)
  | [] => .nil
  | x :: l => isert_sorted x _ (isort_sorted l)

theorem mergeSort_isort (l : List Int) : l.mergeSort (fun x y => decide (x ≤ y)) = isort l := by
  have h1 : (l.mergeSort (fun x y => decide (x ≤ y))).Perm (isort l) := (List.mergeSort_perm l _).trans (isort_perm l).symm
  have h2 : (l.mergeSort (fun x y => decide (x ≤ y))).Pairwise (· ≤ ·) := by
    have := List.pairwise_mergeSort (le := fun (x y : Int) => decide (x ≤ y)) (fun a b c h1 h2 => by simp only [decide_eq_true_eq] at *; omega) (fun a b => by simp only [Bool.or_eq_true, decide_eq_true_eq]; omega) l
    exact this.imp fun h => by simpa using h
  exact h1.eq_of_pairwise (fun a b _ _ h1 h2 => Int.le_antisymm h1 h2) h2 (isort_sorted l)

theorem cpct_cons2 (x y : Int) (l : List Int) : cpct (x :: y :: l) = if x = y then cpct (y :: l) else x :: cpct (y :: l) := rfl

theorem cpct_snoc (x : Int) : ∀ l : List Int, cpct (l ++ [x]) = if l = [] ∨ l.getLast? ≠ some x then cpct l ++ [x] else cpct l
  | [] => by simp [cpct]
  | [y] => by
    show cpct (y :: x :: []) = _
    rw [cpct_cons2]
    by_cases h : y = x
    · subst h; simp [cpct]
    · simp [h, cpct]
  | y :: z :: l => by
    have ih := cpct_snoc x (z :: l)
    show cpct (y :: z :: (l ++ [x])) = _
    rw [cpct_cons2, cpct_cons2]
    simp only [List.cons_append] at ih
    rw [ih]
    have e : (y :: z :: l).getLast? = (z :: l).getLast? := by simp [List.getLast?_cons_cons]
    rw [e]
    by_cases h : y = z
    · simp only [h, if_true]
      split <;> split <;> simp_all
    · simp only [h, if_false]
      split <;> split <;> simp_all

theorem compact_cpct (zs : List Int) : ∀ m, m ≤ zs.length → compactUpTo zs.toArray m = cpct (zs.take m)
  | 0, _ => by simp [compactUpTo, cpct]
  | m + 1, h => by
    rw [compactUpTo_succ, compact_cpct zs m (by omega), List.take_succ_eq_append_getElem (by omega), cpct_snoc]
    have hm : zs.toArray[m]! = zs[m] := by simp [show m < zs.length by omega]
    rcases Nat.eq_zero_or_pos m with rfl | hpos
    · simp [keeps, cpct, show 0 < zs.length by omega]
    · have hl : (zs.take m).getLast? = some zs[m - 1] := by
        rw [List.getLast?_eq_getElem?, List.length_take, Nat.min_eq_left (show m ≤ zs.length by omega), List.getElem?_take_of_lt (show m - 1 < m by omega), List.getElem?_eq_getElem (show m - 1 < zs.length by omega)]
      have hm' : zs.toArray[m - 1]! = zs[m - 1] := by simp [show m - 1 < zs.length by omega]
      have hne : ¬ zs.take m = [] := by
        intro e
        have := congrArg List.length e
        rw [List.length_take, Nat.min_eq_left (show m ≤ zs.length by omega), List.length_nil] at this
        omega
      rw [hl]
      simp only [hne, false_or, ne_eq, Option.some.injEq]
      by_cases e : zs[m] = zs[m - 1]
      · rw [keeps_neg hpos (by rw [hm, hm', e])]
        simp [e]
      · rw [keeps_pos (by rw [hm, hm']; exact e)]
        have e' : ¬ zs[m - 1] = zs[m] := fun h => e h.symm
        simp [e', hm]

theorem sort_rise (l : List Int) : compactUpTo (l.mergeSort fun x y => decide (x ≤ y)).toArray (l.mergeSort fun x y => decide (x ≤ y)).toArray.size = rise l := by
  rw [mergeSort_isort]
  have := compact_cpct (isort l) (isort l).length (Nat.le_refl _)
  rw [List.take_length] at this
  simpa [rise] using this

theorem cpct_len : ∀ l : List Int, (cpct l).length ≤ l.length
  | [] => by simp [cpct]
  | [x] => by simp [cpct]
  | x :: y :: l => by
    rw [cpct_cons2]
    have := cpct_len (y :: l)
    split
    · simp at this ⊢; omega
    · simp at this ⊢; omega

theorem rise_len (l : List Int) : (rise l).length ≤ l.length := by
  have := cpct_len (isort l)
  rw [(isort_perm l).length_eq] at this
  exact this

end Go.Ab

namespace Go.Ab
open Go Go.RowKit Go.Sort

variable {P : Program}

theorem Calls.args {P : Program} {f : FuncId} {a b : Array Value} {w : World} {R : Ending → World → Prop} (h : a = b) (k : Calls P f b w R) : Calls P f a w R := h ▸ k
theorem wp_act {P : Program} {c : Code} {Q : Exit → Act → World → Prop} {a b : Act} {w : World} (h : a = b) (k : c.wp P Q b w) : c.wp P Q a w := h ▸ k

theorem heap_putRow_other {α : Type} [Inhabited α] (enc : α → Value) (w : World) (b off : Nat) (d : Array α) {k : Nat} (hk : k ≠ b) : (putRow enc w b off d).heap[k]? = w.heap[k]? := by
  simp only [putRow, mapBlock, Array.getElem?_modify]
  rw [if_neg (fun e => hk e.symm)]

theorem Keep.putRow {α : Type} [Inhabited α] (enc : α → Value) (w : World) (n b off : Nat) (d : Array α) : Keep (fun c => c < w.heap.size ∧ c ≠ b) w (putRow enc (Sort.ahead w n) b off d) :=
  ⟨rfl, rfl, rfl, by simp, fun k hk => by rw [heap_putRow_other _ _ _ _ _ hk.2]; rfl⟩

theorem Keep.grow (w : World) (os : Array Obj) (b : Nat) : Keep (fun c => c < w.heap.size ∧ c ≠ b) w (grow w os) :=
  ⟨rfl, rfl, rfl, by simp [Sort.grow], fun k hk => by
    show (w.heap ++ os)[k]? = _
    rw [Array.getElem?_append_left hk.1]⟩

end Go.Ab

namespace Go.Proofs.YteiddempdecleaaGreat
open Go Go.Ab Go.RowKit Go.Sort Go.Proofs

theorem sort_some {w : World} {b off cap : Nat} {zs : List Int} (hH : Holds (Value.int .i64) w b off zs.toArray) (hb : b < w.heap.size) (hsz : zs.length < 4611686018427387904) :
    Calls Tryz.prog 273 #[.slice (some ⟨b, off, none⟩) zs.length cap] w fun e w' => e = .returned (.tuple #[]) ∧ ∃ n os, w' = Sort.grow (putRow (Value.int .i64) (Sort.ahead w n) b off (zs.mergeSort fun x y => decide (x ≤ y)).toArray) os :=
  AnyM.slices_Sort_int Tryz.sortI b off cap zs w hH hb hsz

theorem compact_some {w : World} {b off cap : Nat} {zs : List Int} (hH : Holds (Value.int .i64) w b off zs.toArray) (hsz : zs.length < 4611686018427387904) (hcap : zs.length ≤ cap) :
    Calls Tryz.prog 274 #[.slice (some ⟨b, off, none⟩) zs.length cap] w fun e w' => e = .returned (.slice (some ⟨b, off, none⟩) (Go.Lib.compactUpTo zs.toArray zs.toArray.size).length cap) ∧ ∃ q, w' = putRow (Value.int .i64) (Sort.ahead w q) b off (Go.Lib.compactUpTo zs.toArray zs.toArray.size ++ List.replicate (zs.toArray.size - (Go.Lib.compactUpTo zs.toArray zs.toArray.size).length) 0).toArray := by
  have := AnyE.slices_Compact Tryz.cmpI (Value.int .i64) (fun _ => rfl) (EqlAt.intD _ _ .i64) (NeqAt.intD _ _ .i64) 0 Tryz.zeroValue3 b off cap zs.toArray w hH (by simp; omega) (by simpa using hcap)
  simpa [show Tryz.cmpI_ren.f 43 = 274 from rfl] using this

theorem rise_walk {w : World} {u : Value} {M : World → Prop} {N : World → Value → Prop} (hs : Calls Tryz.prog 273 #[u] w fun e w1 => e = .returned (.tuple #[]) ∧ M w1) (hc : ∀ w1, M w1 → Calls Tryz.prog 274 #[u] w1 fun e w2 => ∃ v, e = .returned v ∧ N w2 v) :
    Calls Tryz.prog 233 #[u] w fun e w' => ∃ v, e = .returned v ∧ N w' v := by
  refine calls_of_wp Tryz.func233 (c := bod Tryz.f233) (by kernel_rfl) ?_
  have k0 : knd (bod Tryz.f233) = 1 := by kernel_rfl
  have k1 : isReg (lft (bod Tryz.f233)) = true := by kernel_rfl
  have k2 : List.range (regOps (lft (bod Tryz.f233))).size = [0] := by kernel_rfl
  have k3 : mvOf (regOps (lft (bod Tryz.f233)))[0]? = some (some 2, .const (.slice none 0 0)) := by kernel_rfl
  have k4 : knd (rgt (bod Tryz.f233)) = 1 := by kernel_rfl
  have k5 : isReg (lft (rgt (bod Tryz.f233))) = true := by kernel_rfl
  have k6 : List.range (regOps (lft (rgt (bod Tryz.f233)))).size = [0, 1] := by kernel_rfl
  have k7 : mvOf (regOps (lft (rgt (bod Tryz.f233))))[0]? = some (some 3, .tmp 0) := by kernel_rfl
  have k8 : clOf (regOps (lft (rgt (bod Tryz.f233))))[1]? = some (some 4, 273, #[.tmp 3]) := by kernel_rfl
  have k9 : knd (rgt (rgt (bod Tryz.f233))) = 1 := by kernel_rfl
  have k10 : isReg (lft (rgt (rgt (bod Tryz.f233)))) = true := by kernel_rfl
  have k11 : List.range (regOps (lft (rgt (rgt (bod Tryz.f233))))).size = [0, 1, 2] := by kernel_rfl
  have k12 : mvOf (regOps (lft (rgt (rgt (bod Tryz.f233)))))[0]? = some (some 5, .tmp 0) := by kernel_rfl
  have k13 : clOf (regOps (lft (rgt (rgt (bod Tryz.f233)))))[1]? = some (some 6, 274, #[.tmp 5]) := by kernel_rfl
  have k14 : mvOf (regOps (lft (rgt (rgt (bod Tryz.f233)))))[2]? = some (some 2, .tmp 6) := by kernel_rfl
  have k15 : isRet (rgt (rgt (rgt (bod Tryz.f233)))) = true := by kernel_rfl
  have k16 : (Tryz.f273.name == "runtime.NumGoroutine") = false := by kernel_rfl
  have k17 : Tryz.f273.body.isNone = false := by kernel_rfl
  have k18 : (Tryz.f274.name == "runtime.NumGoroutine") = false := by kernel_rfl
  have k19 : Tryz.f274.body.isNone = false := by kernel_rfl
  have k20 : Tryz.f233.ntmps = 7 := by kernel_rfl
  have k21 : Tryz.f233.results = #[.tmp 2] := by kernel_rfl
  rw [k20]
  revert k0 k1 k2 k3 k4 k5 k6 k7 k8 k9 k10 k11 k12 k13 k14 k15
  generalize bod Tryz.f233 = B
  intro k0 k1 k2 k3 k4 k5 k6 k7 k8 k9 k10 k11 k12 k13 k14 k15
  refine wp_seqP k0 ?_
  refine wp_regionP k1 k2 ?_
  refine wpOps_mv k3 ?_
  unfold wpOps
  unfold Exit.then
  dsimp only
  refine wp_seqP k4 ?_
  refine wp_regionP k5 k6 ?_
  refine wpOps_mv k7 ?_
  refine wpOps_cl k8 Tryz.func273 k16 k17 ?_
  refine Calls.args (b := #[u]) (by simp [Act.eval, Act.put]) (Calls.mono hs ?_)
  rintro e w1 ⟨rfl, hM⟩
  refine ⟨_, rfl, ?_⟩
  unfold wpOps
  unfold Exit.then
  dsimp only
  refine wp_act (b := ⟨#[u, undef, .slice none 0 0, u, .tuple #[], undef, undef], []⟩) (by simp [Act.eval, Act.put, Array.replicate_succ]) ?_
  refine wp_seqP k9 ?_
  refine wp_regionP k10 k11 ?_
  refine wpOps_mv k12 ?_
  refine wpOps_cl k13 Tryz.func274 k18 k19 ?_
  refine Calls.args (b := #[u]) (by simp [Act.eval, Act.put]) (Calls.mono (hc w1 hM) ?_)
  rintro e w2 ⟨v, rfl, hN⟩
  refine ⟨_, rfl, ?_⟩
  refine wpOps_mv k14 ?_
  unfold wpOps
  unfold Exit.then
  dsimp only
  refine wp_act (b := ⟨#[u, undef, v, u, .tuple #[], u, v], []⟩) (by simp [Act.eval, Act.put]) ?_
  refine wp_retP k15 ?_
  exact ⟨rfl, v, by simp [results, k21], v, rfl, hN⟩

theorem rise_some {w : World} {b off cap : Nat} {zs : List Int} (hH : Holds (Value.int .i64) w b off zs.toArray) (hb : b < w.heap.size) (hsz : zs.length < 4611686018427387904) (hcap : zs.length ≤ cap) :
    Calls Tryz.prog 233 #[.slice (some ⟨b, off, none⟩) zs.length cap] w fun e w' => e = .returned (.slice (some ⟨b, off, none⟩) (rise zs).length cap) ∧ Keep (fun c => c < w.heap.size ∧ c ≠ b) w w' ∧
      ∀ i (h : i < (rise zs).length), w'.cell? ⟨b, off + i, none⟩ = some (.int .i64 (rise zs)[i]) := by
  have hl : (zs.mergeSort fun x y => decide (x ≤ y)).length = zs.length := List.length_mergeSort _
  refine (rise_walk (sort_some (cap := cap) hH hb hsz) (N := fun w' v => v = .slice (some ⟨b, off, none⟩) (rise zs).length cap ∧ Keep (fun c => c < w.heap.size ∧ c ≠ b) w w' ∧
      ∀ i (h : i < (rise zs).length), w'.cell? ⟨b, off + i, none⟩ = some (.int .i64 (rise zs)[i])) ?_).mono (fun e w' ⟨v, h1, h2, h3, h4⟩ => ⟨by rw [h1, h2], h3, h4⟩)
  rintro w1 ⟨n, os, rfl⟩
  have hH1 : Holds (Value.int .i64) (Sort.grow (putRow (Value.int .i64) (Sort.ahead w n) b off (zs.mergeSort fun x y => decide (x ≤ y)).toArray) os) b off (zs.mergeSort fun x y => decide (x ≤ y)).toArray :=
    holds_grow _ _ _ _ _ _ (by simpa using hb) (holds_putRow _ _ _ _ zs.toArray _ hH (by simp [hl]))
  have hc := compact_some (cap := cap) hH1 (by omega) (by omega)
  rw [hl] at hc
  refine Calls.mono hc ?_
  rintro e w2 ⟨rfl, q, rfl⟩
  refine ⟨_, rfl, ?_⟩
  rw [sort_rise]
  have hrl := rise_len zs
  refine ⟨rfl, (Keep.trans (Keep.trans (Keep.putRow _ w n b off _) ((Keep.grow _ os b).mono fun k hk => ⟨by simpa using hk.1, hk.2⟩)) ((Keep.putRow _ _ q b off _).mono fun k hk => ⟨?_, hk.2⟩)), fun i h => ?_⟩
  · show k < ((putRow _ _ _ _ _).heap ++ os).size
    simp; have := hk.1; omega
  · rw [cell?_putRow (Value.int .i64) _ b off (zs.mergeSort fun x y => decide (x ≤ y)).toArray _ (holds_ahead _ _ _ _ _ _ hH1) (by simp [hl]; omega) i (by simp; omega)]
    simp [List.getElem?_append_left h, h]

theorem c264e : CTri Tryz.prog 274 [] [.sl [] 0 .no] (.sl [] 0 .no) [] 0 :=
  CTri.toFin prim_ok mixed Tryz.func274 (by kernel_rfl) 3000 [.no, .no] [] [] [] false (by kernel_rfl) (ObsOk.cons (obData (es := []) trivial) ObsOk.nil) (by decide)

/-- nothing is known but what there is -/
def atW (w : World) : Gh := ⟨fun _ => none, fun _ => none, fun _ _ => False, w, fun c => c < w.heap.size⟩
theorem atW_rel (w : World) : RelS (atW w) (over (Emp 0) (st0 [])) w := by
  refine ⟨fun _ => ⟨fun _ => rfl, fun _ => rfl⟩, ⟨0, fun _ _ => rfl⟩, fun _ _ _ h => ?_, fun _ _ _ h => ?_, fun _ _ h => False.elim h, fun _ _ => rfl, fun _ h => ?_, fun _ _ _ _ _ _ _ h => ?_, Keep.refl _ _, fun _ h => h⟩
  · cases h
  · cases h
  · cases h
  · cases h
theorem atW_base (w : World) : Base (0 : Nat) (atW w) := ⟨fun _ _ => rfl, fun _ => rfl, fun _ _ h => False.elim h, trivial⟩

theorem V.none {G G' : Gh} {w w' : World} {v : Value} (h : V G w (.sl [] 0 .no) v) : V G' w' (.sl [] 0 .no) v := by
  simp only [V] at h ⊢
  obtain ⟨cap, h1, ⟨_, _, h2, h3, _⟩ | ⟨b, off, h2, _, _⟩⟩ := h
  · exact ⟨cap, h1, .inl ⟨trivial, trivial, h2, h3, trivial⟩⟩
  · exact ⟨cap, h1, .inr ⟨b, off, h2, by simp only [VC], trivial⟩⟩

theorem rise_none {w : World} {u : Value} {p : Option Addr} {cap : Nat} (hu : u = .slice p 0 cap) {G : Gh} (hV : V G w (.sl [] 0 .no) u) :
    Calls Tryz.prog 233 #[u] w fun e w' => ∃ v, e = .returned v ∧ (Keep (fun c => c < w.heap.size) w w' ∧ ∀ G', V G' w' (.sl [] 0 .no) v) := by
  refine rise_walk (M := fun w1 => w1 = w) (by subst hu; exact AnyM.slices_Sort_int_none Tryz.sortI p cap w) ?_
  rintro w1 rfl
  refine (c264e (atW w1) w1 #[u] (atW_base w1) (atW_rel w1) ?_).mono ?_
  · simp only [VL]; exact ⟨V.none hV, trivial⟩
  · rintro e w2 ⟨v, G', s', rfl, hE, hR, hv, _⟩
    refine ⟨v, rfl, ?_, fun G' => V.none hv⟩
    have := hR.below
    rw [hE.F, hE.w0] at this
    exact this

theorem VL.ints {G : Gh} {w : World} : ∀ l : List Int, VL G w (flat intC l) (l.map (Value.int .i64))
  | [] => by simp [flat, VL]
  | x :: l => by simp only [flat, List.flatMap_cons, List.map_cons]; simp only [intC, List.cons_append, List.nil_append, VL, V]; exact ⟨trivial, VL.ints l⟩
theorem VL.ints_eq {G : Gh} {w : World} : ∀ (l : List Int) (us : List Value), VL G w (flat intC l) us → us = l.map (Value.int .i64)
  | [], [], _ => rfl
  | [], _ :: _, h => by simp only [flat, List.flatMap_nil, VL] at h
  | x :: l, [], h => by simp only [flat, List.flatMap_cons, intC, List.cons_append, VL] at h
  | x :: l, u :: us, h => by
    simp only [flat, List.flatMap_cons, intC, List.cons_append, List.nil_append, VL, V] at h
    rw [h.1, VL.ints_eq l us h.2]; rfl

theorem rise_call {G : Gh} {w : World} {s : LSt} {k : Nat} {l : List Int} {u : Value} (hR : RelS G (over (Emp 0) s) w) (ho : s.own.any (Nat.beq k) = true) (hsz : l.length < 4611686018427387904) (hu : V G w (.sl (flat intC l) l.length (.st k 1)) u) :
    Calls Tryz.prog 233 #[u] w fun e w' => ∃ (v : Value) (b : Nat) (S : Nat → Nat → Prop), e = .returned v ∧ ¬ G.F b ∧ (∀ i, G.ρ i ≠ some b) ∧ Keep (fun c => c < w.heap.size ∧ c ≠ b) w w' ∧
      (∀ c o, S c o → c = b ∧ ∃ x, w'.cell? ⟨c, o, none⟩ = some x) ∧ ∀ G', (∀ c o, S c o → G'.L c o) → V G' w' (.sl (flat intC (rise l)) (rise l).length .no) v := by
  have hempty : l = [] → ∀ p cap, u = .slice p 0 cap → V G w (.sl [] 0 .no) u → Calls Tryz.prog 233 #[u] w fun e w' => ∃ (v : Value) (b : Nat) (S : Nat → Nat → Prop), e = .returned v ∧ ¬ G.F b ∧ (∀ i, G.ρ i ≠ some b) ∧ Keep (fun c => c < w.heap.size ∧ c ≠ b) w w' ∧
      (∀ c o, S c o → c = b ∧ ∃ x, w'.cell? ⟨c, o, none⟩ = some x) ∧ ∀ G', (∀ c o, S c o → G'.L c o) → V G' w' (.sl (flat intC (rise l)) (rise l).length .no) v := by
    rintro rfl p cap hp hV
    refine (rise_none hp hV).mono ?_
    rintro e w' ⟨v, rfl, hK, hv⟩
    exact ⟨v, w.heap.size, fun _ _ => False, rfl, fun h => Nat.lt_irrefl _ (hR.base _ h), fun i hi => Nat.lt_irrefl _ (hR.ρ_lt hi), hK.mono fun k hk => hk.1, fun _ _ h => h.elim, fun G' _ => hv G'⟩
  have hu0 := hu
  simp only [V] at hu
  obtain ⟨cap, hcap, ⟨he, hn, hc0, hu', _⟩ | ⟨b, off, rfl, hC, hq, hO⟩⟩ := hu
  · have hl : l = [] := List.length_eq_zero_iff.1 hn
    subst hl
    exact hempty rfl (spOf u) 0 hu' (by simp only [V]; exact ⟨0, Nat.le_refl _, .inl ⟨trivial, trivial, rfl, hu', trivial⟩⟩)
  · rcases hO with ⟨hn, _⟩ | ⟨hm, hF, hτ⟩
    · have hl : l = [] := List.length_eq_zero_iff.1 hn
      subst hl
      exact hempty rfl _ cap rfl (by simp only [V]; exact ⟨cap, Nat.zero_le _, .inr ⟨b, off, rfl, by simp only [VC], trivial⟩⟩)
    · obtain ⟨b', f, t, q1, q2⟩ := hR.own k (by rw [over_own]; exact ho)
      rw [hτ] at q1
      cases q1
      rcases q2 with q2 | ⟨_, q3, _, vs, T, q5, q6⟩
      · omega
      obtain ⟨us, h1, h2⟩ := VC.cells _ _ _ hC
      have hus := VL.ints_eq l us h1
      subst hus
      have hH : Holds (Value.int .i64) w b off l.toArray := by
        intro j hj
        have hj' : j < l.length := by simpa using hj
        refine ⟨?_, by simp [World.frozen?, q5]⟩
        rw [h2 j (by simpa using hj')]
        simp [hj']
      have hb : b < w.heap.size := (Array.getElem?_eq_some_iff.1 q5).1
      refine (rise_some hH hb hsz hcap).mono ?_
      rintro e w' ⟨rfl, hK, hcell⟩
      refine ⟨_, b, fun c o => c = b ∧ off ≤ o ∧ o < off + (rise l).length, rfl, hF, q3, hK, ?_, fun G' hS => ?_⟩
      · rintro c o ⟨rfl, h1, h2⟩
        exact ⟨rfl, .int .i64 ((rise l)[o - off]'(by omega)), by have := hcell (o - off) (by omega); rwa [show off + (o - off) = o by omega] at this⟩
      · simp only [V]
        refine ⟨cap, Nat.le_trans (rise_len l) hcap, .inr ⟨b, off, rfl, VC.of_cells _ _ b off (VL.ints (rise l)) (fun i hi => hS _ _ ⟨rfl, by omega, ?_⟩) (fun i hi => ?_), trivial⟩⟩
        · have : i < (rise l).length := by simpa using hi
          omega
        · rw [hcell i (by simpa using hi)]; simp

end Go.Proofs.YteiddempdecleaaGreat

namespace Go.Ab
open Go Go.RowKit Go.Sort

/-- three cells -/
structure L3 where
  a : Value
  b : Value
  c : Value
  ha : a.oneCell' = true
  hb : b.oneCell' = true
  hc : c.oneCell' = true
instance : Inhabited L3 := ⟨⟨.int .i64 0, .int .i64 0, .int .i64 0, rfl, rfl, rfl⟩⟩
def L3.vs (x : L3) : List Value := [x.a, x.b, x.c]
def c3 (x : L3) : List AV := [.val x.a, .val x.b, .val x.c]
theorem codec3 : Codec c3 3 := ⟨fun _ => rfl, fun _ => ⟨trivial, trivial, trivial, trivial⟩, fun x => by simp [c3, AV.one, x.ha, x.hb, x.hc]⟩
def vals (l : List L3) : List Value := l.flatMap L3.vs

theorem flat_c3 : ∀ l : List L3, flat c3 l = (vals l).map .val
  | [] => rfl
  | x :: l => by
    have := flat_c3 l
    simp only [flat, vals] at this
    simp only [flat, vals, List.flatMap_cons, List.map_append, this]; rfl

theorem vals_len : ∀ l : List L3, (vals l).length = l.length * 3
  | [] => rfl
  | x :: l => by
    have := vals_len l
    simp only [vals] at this
    simp only [vals, List.flatMap_cons, List.length_append, this, L3.vs, List.length_cons, List.length_nil]; omega

theorem vals_get : ∀ (l : List L3) (i c : Nat) (hi : i < l.length) (hc : c < 3), (vals l)[i * 3 + c]? = some ((l[i].vs)[c]'(by simpa [L3.vs] using hc))
  | x :: l, 0, c, _, hc => by
    simp only [vals, List.flatMap_cons, Nat.zero_mul, Nat.zero_add, List.getElem_cons_zero]
    rw [List.getElem?_append_left (by simpa [L3.vs] using hc), List.getElem?_eq_getElem]
  | x :: l, i + 1, c, hi, hc => by
    have := vals_get l i c (by simpa using hi) hc
    simp only [vals] at this
    simp only [vals, List.flatMap_cons, List.getElem_cons_succ]
    rw [List.getElem?_append_right (by simp [L3.vs]; omega)]
    rw [← this]; congr 1; simp [L3.vs]; omega

theorem vals_at (l : List L3) (t : Nat) (ht : t < l.length * 3) : (vals l)[t]? = some (L3.vs l.toArray[t / 3]!)[t % 3]! := by
  have h1 : t / 3 < l.length := by omega
  have h2 : t % 3 < 3 := Nat.mod_lt _ (by omega)
  have := vals_get l (t / 3) (t % 3) h1 h2
  rw [show t / 3 * 3 + t % 3 = t by omega] at this
  rw [this]
  have e : l.toArray[t / 3]! = l[t / 3] := by simp [h1]
  rw [e]
  have h3 : t % 3 < l[t / 3].vs.length := by simpa [L3.vs] using h2
  simp [h3]

theorem holds_vals {w : World} {b off : Nat} {l : List L3} (hcell : ∀ i (h : i < (vals l).length), w.cell? ⟨b, off + i, none⟩ = some (vals l)[i]) (hfr : ∀ o, w.frozen? ⟨b, o, none⟩ = false) : HoldsK L3.vs 3 w b off l.toArray := by
  intro t ht
  have ht' : t < l.length * 3 := by simpa using ht
  refine ⟨?_, hfr _⟩
  have hlt : t < (vals l).length := by rw [vals_len]; exact ht'
  rw [hcell t hlt, get_flatK _ _ _ _ (by simpa using ht')]
  have := vals_at l t ht'
  rw [List.getElem?_eq_getElem hlt] at this
  exact this

theorem vals_holds {w : World} {b off : Nat} {l : List L3} (h : HoldsK L3.vs 3 w b off l.toArray) : ∀ i (h : i < (vals l).length), w.cell? ⟨b, off + i, none⟩ = some (vals l)[i] := by
  intro t ht
  have ht' : t < l.length * 3 := by rw [vals_len] at ht; exact ht
  rw [(h t (by simpa using ht')).1, get_flatK _ _ _ _ (by simpa using ht')]
  have := vals_at l t ht'
  rw [List.getElem?_eq_getElem ht] at this
  exact this.symm

end Go.Ab

namespace Go.Proofs.YteiddempdecleaaGreat
open Go Go.Ab Go.RowKit Go.Sort Go.Proofs

theorem rev_some {w : World} {b off cap : Nat} {l : List L3} (hH : HoldsK L3.vs 3 w b off l.toArray) (hsz : l.length ≤ 9223372036854775807) :
    Calls Tryz.prog 224 #[.slice (some ⟨b, off, none⟩) l.length cap] w fun e w' => e = .returned (.tuple #[]) ∧ Keep (fun c => c < w.heap.size ∧ c ≠ b) w w' ∧ ∀ i (h : i < (vals l.reverse).length), w'.cell? ⟨b, off + i, none⟩ = some (vals l.reverse)[i] := by
  have h1 : ∀ x : L3, ∀ v ∈ x.vs, v.oneCell' = true := by
    intro x v hv
    simp only [L3.vs, List.mem_cons, List.not_mem_nil, or_false] at hv
    rcases hv with rfl | rfl | rfl
    · exact x.ha
    · exact x.hb
    · exact x.hc
  have := AnyQ.slices_Reverse Tryz.revT 3 Tryz.isAgg27 Tryz.sizeOf27 L3.vs (fun _ => rfl) h1 b off cap l.toArray w hH (by simpa using hsz)
  refine Calls.mono (this : Calls Tryz.prog 224 _ w _) ?_
  rintro e w' ⟨rfl, n, rfl⟩
  refine ⟨rfl, Keep.putRow _ w n b off _, ?_⟩
  have := holdsK_putRowK L3.vs 3 (Sort.ahead w n) b off l.toArray l.toArray.reverse hH (by simp)
  refine vals_holds ?_
  simpa using this

theorem V.st3 {G : Gh} {w : World} {k n : Nat} {es : List AV} {u u' : Value} (hn : n ≠ 0) (h : V G w (.sl es n (.st k 3)) u) (h' : V G w (.sl es n (.st k 3)) u') (_hes : es.length = n * 3) : u = u' := by
  simp only [V] at h h'
  obtain ⟨cap, hc, ⟨_, h0, _⟩ | ⟨b, off, rfl, _, _, ho⟩⟩ := h
  · exact (hn h0).elim
  obtain ⟨cap', hc', ⟨_, h0, _⟩ | ⟨b', off', rfl, _, _, ho'⟩⟩ := h'
  · exact (hn h0).elim
  rcases ho with ho | ⟨_, _, ho⟩
  · exact (hn ho.1).elim
  rcases ho' with ho' | ⟨_, _, ho'⟩
  · exact (hn ho'.1).elim
  rw [ho] at ho'
  simp only [Option.some.injEq, Prod.mk.injEq] at ho'
  obtain ⟨rfl, e1, e2⟩ := ho'
  have : off = off' := by omega
  subst this
  have : cap = cap' := by omega
  subst this
  rfl

theorem rev_call {G : Gh} {w : World} {s : LSt} {k : Nat} {l : List L3} {u : Value} (hR : RelS G (over (Emp 0) s) w) (ho : s.own.any (Nat.beq k) = true) (hsz : l.length ≤ 9223372036854775807) (hu : V G w (.sl (flat c3 l) l.length (.st k 3)) u) :
    Calls Tryz.prog 224 #[u] w fun e w' => ∃ (v : Value) (b : Nat) (S : Nat → Nat → Prop), e = .returned v ∧ ¬ G.F b ∧ (∀ i, G.ρ i ≠ some b) ∧ Keep (fun c => c < w.heap.size ∧ c ≠ b) w w' ∧
      (∀ c o, S c o → c = b ∧ ∃ x, w'.cell? ⟨c, o, none⟩ = some x) ∧ v = .tuple #[] ∧ ∀ G', (∀ c o, S c o → G'.L c o) → ∀ es, VL G' w' es (vals l.reverse) → ∀ u', V G w (.sl (flat c3 l) l.length (.st k 3)) u' → V G' w' (.sl es l.length .no) u' := by
  by_cases hl : l = []
  · subst hl
    have hp : ∃ p cap, u = .slice p 0 cap := by
      simp only [V] at hu
      obtain ⟨cap, _, ⟨_, _, _, h, _⟩ | ⟨b, off, h, _⟩⟩ := hu
      · exact ⟨_, _, h⟩
      · exact ⟨_, _, h⟩
    obtain ⟨p, cap, rfl⟩ := hp
    refine Calls.mono (AnyQ.slices_Reverse_empty Tryz.revT p cap w : Calls Tryz.prog 224 _ w _) ?_
    rintro e w' ⟨rfl, rfl⟩
    refine ⟨_, w'.heap.size, fun _ _ => False, rfl, fun h => Nat.lt_irrefl _ (hR.base _ h), fun i hi => Nat.lt_irrefl _ (hR.ρ_lt hi), Keep.refl _ _, fun _ _ h => h.elim, rfl, fun G' _ es hes u' hu' => ?_⟩
    have hes' : es = [] := by
      have := VL.length _ _ hes
      exact List.length_eq_zero_iff.1 this.symm
    subst hes'
    refine V.none (G := G) (w := w') ?_
    simp only [V] at hu' ⊢
    obtain ⟨cap', h1, ⟨_, _, h2, h3, _⟩ | ⟨b, off, h2, _, _⟩⟩ := hu'
    · exact ⟨cap', h1, .inl ⟨trivial, trivial, h2, h3, trivial⟩⟩
    · exact ⟨cap', h1, .inr ⟨b, off, h2, by simp only [VC], trivial⟩⟩
  · have hn : l.length ≠ 0 := fun h => hl (List.length_eq_zero_iff.1 h)
    have hlen : (flat c3 l).length = l.length * 3 := flat_len codec3.len l
    have huniq : ∀ u', V G w (.sl (flat c3 l) l.length (.st k 3)) u' → u = u' := fun u' h => V.st3 hn hu h hlen
    simp only [V] at hu
    obtain ⟨cap, hcap, ⟨_, h0, _⟩ | ⟨b, off, rfl, hC, hq, hO⟩⟩ := hu
    · exact (hn h0).elim
    rcases hO with ⟨h0, _⟩ | ⟨hm, hF, hτ⟩
    · exact (hn h0).elim
    obtain ⟨b', f, t, q1, q2⟩ := hR.own k (by rw [over_own]; exact ho)
    rw [hτ] at q1
    cases q1
    rcases q2 with q2 | ⟨_, q3, _, vs, T, q5, q6⟩
    · rw [hlen] at q2
      have := Nat.mul_le_mul_right 3 hcap
      omega
    obtain ⟨us, h1, h2⟩ := VC.cells _ _ _ hC
    rw [flat_c3] at h1
    have hus := VL.litEq _ us h1
    subst hus
    have hH : HoldsK L3.vs 3 w b off l.toArray := holds_vals h2 (fun o => by simp [World.frozen?, q5])
    refine (rev_some (cap := cap) hH hsz).mono ?_
    rintro e w' ⟨rfl, hK, hcell⟩
    refine ⟨_, b, fun c o => c = b ∧ off ≤ o ∧ o < off + (vals l.reverse).length, rfl, hF, q3, hK, ?_, rfl, fun G' hS es hes u' hu' => ?_⟩
    · rintro c o ⟨rfl, h1, h2⟩
      exact ⟨rfl, (vals l.reverse)[o - off]'(by omega), by have := hcell (o - off) (by omega); rwa [show off + (o - off) = o by omega] at this⟩
    · rw [← huniq u' hu']
      simp only [V]
      exact ⟨cap, hcap, .inr ⟨b, off, rfl, VC.of_cells es _ b off hes (fun i hi => hS _ _ ⟨rfl, by omega, by omega⟩) hcell, trivial⟩⟩

end Go.Proofs.YteiddempdecleaaGreat

namespace Go.Ab
open Go Go.RowKit

def smapE : List (ByteArray × Int) → Nat → List MapEntry
  | [], _ => []
  | p :: m, c => { key := .string p.1, val := .int .i64 p.2, born := c } :: smapE m (c + 1)
def smap (m : List (ByteArray × Int)) : Blk := .obj (.map ⟨smapE m 0⟩ m.length)
def mget : List (ByteArray × Int) → ByteArray → Int
  | [], _ => 0
  | p :: m, k => if (k == p.1) = true then p.2 else mget m k
def mset : List (ByteArray × Int) → ByteArray → Int → List (ByteArray × Int)
  | [], k, v => [(k, v)]
  | p :: m, k, v => if (k == p.1) = true then (k, v) :: m else p :: mset m k v
def midx : List (ByteArray × Int) → ByteArray → Nat → Option (Nat × Value)
  | [], _, _ => none
  | p :: m, k, i => if (k == p.1) = true then some (i, .int .i64 p.2) else midx m k (i + 1)

theorem smapE_length : ∀ (m : List (ByteArray × Int)) (c : Nat), (smapE m c).length = m.length
  | [], _ => rfl
  | _ :: m, c => by simp [smapE, smapE_length m (c + 1)]

theorem findNow_smap (k : ByteArray) : ∀ (m : List (ByteArray × Int)) (c i : Nat), Instr.findNow .string (.string k) (smapE m c) i = some (midx m k i)
  | [], _, _ => rfl
  | p :: m, c, i => by
    simp only [smapE, Instr.findNow, Instr.sameNow, midx]
    cases hb : (k == p.1) with
    | true => rfl
    | false => simp only [Bool.false_eq_true, if_false]; exact findNow_smap k m (c + 1) (i + 1)

theorem midx_get (k : ByteArray) : ∀ (m : List (ByteArray × Int)) (i : Nat), mval (midx m k i) (.int .i64 0) = ai (mget m k)
  | [], _ => rfl
  | p :: m, i => by
    simp only [midx, mget]
    cases hb : (k == p.1) with
    | true => rfl
    | false => simp only [Bool.false_eq_true, if_false]; exact midx_get k m (i + 1)

theorem midx_set (k : ByteArray) (v : Int) : ∀ (m : List (ByteArray × Int)) (c i : Nat),
    (match midx m k i with
      | some (j, _) => i ≤ j ∧ (smapE m c).modify (j - i) (fun e => { e with key := .string k, val := .int .i64 v }) = smapE (mset m k v) c ∧ (mset m k v).length = m.length
      | none => smapE m c ++ [{ key := .string k, val := .int .i64 v, born := c + m.length }] = smapE (mset m k v) c ∧ (mset m k v).length = m.length + 1)
  | [], c, i => by simp [midx, mset, smapE]
  | p :: m, c, i => by
    simp only [midx, mset]
    cases hb : (k == p.1) with
    | true => simp [smapE]
    | false =>
      simp only [Bool.false_eq_true, if_false]
      have ih := midx_set k v m (c + 1) (i + 1)
      cases hm : midx m k (i + 1) with
      | none =>
        rw [hm] at ih
        simp only at ih ⊢
        refine ⟨?_, by simp [ih.2]⟩
        simp only [smapE, List.cons_append, List.length_cons]
        rw [← ih.1, show c + (m.length + 1) = c + 1 + m.length by omega]
      | some q =>
        obtain ⟨j, u⟩ := q
        rw [hm] at ih
        simp only at ih ⊢
        refine ⟨by omega, ?_, by simp [ih.2.2]⟩
        simp only [smapE]
        rw [show j - i = (j - (i + 1)) + 1 by omega, List.modify_succ_cons, ih.2.1]

variable {P : Program} {t kt et : TypeId} {ie : TypeInfo}

theorem lk_ok (ht : P.underlying t = some (.map kt et)) (hk : P.underlying kt = some .string) (he : P.info? et = some ie) (hz : ie.zero = some (.int .i64 0)) (m : List (ByteArray × Int)) (k : ByteArray) :
    Ob.ok P (.lk t (smap m) (at' k) false (ai (mget m k))) := by
  intro ev i s hl
  unfold alookup
  simp only [ht, at', hk, he, smap] at hl ⊢
  simp only [hl, hz, findNow_smap, plainKey, cond_true, Bool.false_eq_true, if_false, midx_get]

theorem mu_ok (ht : P.underlying t = some (.map kt et)) (hk : P.underlying kt = some .string) (m : List (ByteArray × Int)) (k : ByteArray) (v : Int) :
    Ob.ok P (.mu t (smap m) (at' k) (ai v) (smap (mset m k v))) := by
  intro ev i s hl
  unfold amapUpdate
  simp only [ht, at', ai, hk, smap] at hl ⊢
  simp only [hl, findNow_smap, plainKey, cond_true]
  have h := midx_set k v m 0 0
  cases hm : midx m k 0 with
  | none =>
    rw [hm] at h
    simp only [Nat.zero_add] at h ⊢
    rw [h.2, ← h.1]
    simp
  | some q =>
    obtain ⟨j, u⟩ := q
    rw [hm] at h
    simp only [Nat.sub_zero] at h ⊢
    have e : (⟨smapE m 0⟩ : Array MapEntry).modify j (fun e => { e with key := .string k, val := .int .i64 v }) = ⟨smapE (mset m k v) 0⟩ := by
      apply Array.ext'
      rw [Array.toList_modify]
      exact h.2.1
    rw [h.2.2, e]

def gbyte (s : ByteArray) (i : Int) : Option Int := if 0 ≤ i then (match s[i.toNat]? with | some b => some (b.toNat : Int) | none => none) else none

theorem ixStr_ok {k : IntKind} (ht : P.underlying t = some .string) {s : ByteArray} {i x : Int} (h : gbyte s i = some x) : aindex P t (at' s) (.val (.int k i)) = some (.val (.int .u8 x)) := by
  unfold gbyte at h
  unfold aindex
  simp only [ht, at']
  split at h
  · rename_i h0
    rw [if_pos h0]
    split at h
    · rename_i b hb
      cases h
      rw [hb]
    · cases h
  · cases h

def gsub (s : ByteArray) (a b : Int) : Option ByteArray := if 0 ≤ a ∧ a ≤ b ∧ b ≤ s.size then some (s.extract a.toNat b.toNat) else none

theorem slStr_ok {k k' : IntKind} (ht : P.underlying t = some .string) {s r : ByteArray} {a b : Int} (h : gsub s a b = some r) : aslice P t (at' s) (some (.val (.int k a))) (some (.val (.int k' b))) none = some (at' r) := by
  unfold gsub at h
  split at h
  · rename_i hc
    cases h
    unfold aslice
    simp only [ht, at', abound?, abound]
    rw [if_pos ⟨by omega, hc.2.2⟩]
    simp only
    rw [if_pos ⟨hc.1, by omega⟩]
  · cases h

theorem aints_u8 : ∀ l : List U8, aints (flat u8C l) = some l
  | [] => rfl
  | x :: l => by
    have := aints_u8 l
    unfold flat at this ⊢
    rw [List.flatMap_cons]
    show (aints (l.flatMap u8C)).map (x :: ·) = _
    rw [this]; rfl

theorem cvStr_ok {d e : TypeId} (hs : P.underlying t = some (.slice e)) (hd : P.underlying d = some .string) (he : P.underlying e = some (.int .u8)) (l : List U8) {o : Own} : aconvert P t d (.sl (flat u8C l) l.length o) = some (at' (gstr l)) := by
  unfold aconvert
  simp only [hs, hd, he, aints_u8]
  rfl

end Go.Ab

namespace Go.Ab
open Go Go.RowKit

/-- less is numbered, more lives -/
structure Sub (G G' : Gh) (p : Nat → Prop) : Prop where
  F : G'.F = G.F
  ρ : ∀ i b, p i → G.ρ i = some b → G'.ρ i = some b
  τ : ∀ k q, G.τ k = some q → G'.τ k = some q
  L : ∀ b o, G.L b o → G'.L b o

mutual
theorem V.less {G G' : Gh} {w : World} {p : Nat → Prop} (h : Sub G G' p) : ∀ (a : AV) (u : Value), a.fine p → V G w a u → V G' w a u
  | .val v, u, _, hv => by simpa only [V] using hv
  | .agg cs, u, hi, hv => by
    simp only [V, AV.fine] at hi hv ⊢
    obtain ⟨vs, rfl, hl⟩ := hv
    exact ⟨vs, rfl, VL.less h cs vs hi hl⟩
  | .tup cs, u, hi, hv => by
    simp only [V, AV.fine] at hi hv ⊢
    obtain ⟨vs, rfl, hl⟩ := hv
    exact ⟨vs, rfl, VL.less h cs vs hi hl⟩
  | .sl es n o, u, hi, hv => by
    simp only [V, AV.fine] at hi hv ⊢
    obtain ⟨cap, hc, hh⟩ := hv
    refine ⟨cap, hc, ?_⟩
    rcases hh with ⟨rfl, h2, h3, h4, h5⟩ | ⟨b, off, hu, hcells, ho⟩
    · exact .inl ⟨rfl, h2, h3, h4, h5.mono h.τ⟩
    · exact .inr ⟨b, off, hu, VC.data h.L es b off hi hcells, ho.mono h.F h.τ⟩
  | .ip es, u, hi, hv => by
    simp only [V, AV.fine] at hi hv ⊢
    obtain ⟨b, off, hu, hcells⟩ := hv
    exact ⟨b, off, hu, VC.data h.L es b off hi hcells⟩
  | .mp i off, u, hi, hv => by
    simp only [V, AV.fine] at hi hv ⊢
    obtain ⟨b, hb, hu⟩ := hv
    exact ⟨b, h.ρ _ _ hi hb, hu⟩
  | .ms i off n c sz, u, hi, hv => by
    simp only [V, AV.fine] at hi hv ⊢
    obtain ⟨b, cap, hb, hu⟩ := hv
    exact ⟨b, cap, h.ρ _ _ hi hb, hu⟩
  | .obj i, u, hi, hv => by
    simp only [V, AV.fine] at hi hv ⊢
    obtain ⟨b, hb, hu⟩ := hv
    exact ⟨b, h.ρ _ _ hi hb, hu⟩
  | .clo g fs cs, u, hi, hv => by
    simp only [V, AV.fine] at hi hv ⊢
    obtain ⟨l, r', hu, h1, h2⟩ := hv
    exact ⟨l, r', hu, VL.less h fs l hi.1 h1, VL.less h cs r' hi.2 h2⟩
theorem VL.less {G G' : Gh} {w : World} {p : Nat → Prop} (h : Sub G G' p) : ∀ (as0 : List AV) (us : List Value), AV.fineL p as0 → VL G w as0 us → VL G' w as0 us
  | [], [], _, _ => by simp only [VL]
  | a :: as0, u :: us, hi, hv => by
    simp only [VL, AV.fineL] at hi hv ⊢
    exact ⟨V.less h a u hi.1 hv.1, VL.less h as0 us hi.2 hv.2⟩
  | [], _ :: _, _, hv => by simp only [VL] at hv
  | _ :: _, [], _, hv => by simp only [VL] at hv
end

mutual
/-- a value in which a block's slices are told by what the block holds -/
def AV.fz (m : Nat) (cs : List AV) : AV → AV
  | .val v => .val v
  | .agg l => .agg (AV.fzL m cs l)
  | .tup l => .tup (AV.fzL m cs l)
  | .sl es n o => .sl es n o
  | .ip es => .ip es
  | .mp i off => .mp i off
  | .ms i off n c sz => bif Nat.beq i m then .sl (cs.drop off) n .no else .ms i off n c sz
  | .obj i => .obj i
  | .clo g a b => .clo g a b
def AV.fzL (m : Nat) (cs : List AV) : List AV → List AV
  | [] => []
  | a :: l => AV.fz m cs a :: AV.fzL m cs l
end

mutual
def AV.fzOk (m : Nat) : AV → Prop
  | .val _ => True
  | .agg l => AV.fzOkL m l
  | .tup l => AV.fzOkL m l
  | .sl es _ _ => AV.DataL es
  | .ip es => AV.DataL es
  | .mp i _ => i < m
  | .ms i off _ _ _ => (i = m ∧ off = 0) ∨ i < m
  | .obj i => i < m
  | .clo _ a b => AV.fineL (fun i => i < m) a ∧ AV.fineL (fun i => i < m) b
def AV.fzOkL (m : Nat) : List AV → Prop
  | [] => True
  | a :: l => AV.fzOk m a ∧ AV.fzOkL m l
end

theorem DataL_drop : ∀ (l : List AV) (n : Nat), AV.DataL l → AV.DataL (l.drop n)
  | l, 0, h => by simpa using h
  | [], _ + 1, _ => trivial
  | _ :: l, n + 1, h => by simpa using DataL_drop l n h.2

mutual
theorem AV.fz_fine {m : Nat} {cs : List AV} (hc : AV.DataL cs) : ∀ a : AV, a.fzOk m → (a.fz m cs).fine (fun i => i < m)
  | .val _, _ => trivial
  | .agg l, h => AV.fzL_fine hc l h
  | .tup l, h => AV.fzL_fine hc l h
  | .sl _ _ _, h => h
  | .ip _, h => h
  | .mp _ _, h => h
  | .ms i off n c sz, h => by
    simp only [AV.fz]
    cases hb : Nat.beq i m with
    | true => exact DataL_drop _ _ hc
    | false =>
      rcases h with ⟨rfl, _⟩ | h
      · simp at hb
      · exact h
  | .obj _, h => h
  | .clo _ _ _, h => h
theorem AV.fzL_fine {m : Nat} {cs : List AV} (hc : AV.DataL cs) : ∀ l : List AV, AV.fzOkL m l → AV.fineL (fun i => i < m) (AV.fzL m cs l)
  | [], _ => trivial
  | a :: l, h => ⟨AV.fz_fine hc a h.1, AV.fzL_fine hc l h.2⟩
end

mutual
theorem V.fz {G G' : Gh} {w : World} {m b : Nat} {cs : List AV} (h : Sub G G' (fun i => i < m)) (hm : G.ρ m = some b) (hc : VC G' w cs b 0) : ∀ (a : AV) (u : Value), a.fzOk m → V G w a u → V G' w (a.fz m cs) u
  | .val v, u, _, hv => by simpa only [AV.fz, V] using hv
  | .agg l, u, hi, hv => by
    simp only [V, AV.fzOk, AV.fz] at hi hv ⊢
    obtain ⟨vs, rfl, hl⟩ := hv
    exact ⟨vs, rfl, VL.fz h hm hc l vs hi hl⟩
  | .tup l, u, hi, hv => by
    simp only [V, AV.fzOk, AV.fz] at hi hv ⊢
    obtain ⟨vs, rfl, hl⟩ := hv
    exact ⟨vs, rfl, VL.fz h hm hc l vs hi hl⟩
  | .sl es n o, u, hi, hv => V.less h (.sl es n o) u hi hv
  | .ip es, u, hi, hv => V.less h (.ip es) u hi hv
  | .mp i off, u, hi, hv => V.less h (.mp i off) u hi hv
  | .ms i off n c sz, u, hi, hv => by
    simp only [AV.fz]
    cases hb : Nat.beq i m with
    | false =>
      rcases hi with ⟨rfl, _⟩ | hi
      · simp at hb
      · exact V.less h (.ms i off n c sz) u hi hv
    | true =>
      have := Nat.eq_of_beq_eq_true hb
      subst this
      simp only [V, cond_true] at hv ⊢
      obtain ⟨b', cap, hb', hn, o, rfl, hro⟩ := hv
      rw [hm] at hb'; cases hb'
      rcases hi with ⟨_, e0⟩ | hi
      · subst e0
        rcases hro with ⟨eo, _⟩ | ⟨_, h0⟩
        · subst eo
          exact ⟨cap, Nat.le_trans hn.1 hn.2, .inr ⟨b, _, rfl, by simpa using hc, trivial⟩⟩
        · exact absurd h0 (Nat.lt_irrefl _)
      · exact absurd hi (Nat.lt_irrefl _)
  | .obj i, u, hi, hv => V.less h (.obj i) u hi hv
  | .clo g a b, u, hi, hv => V.less h (.clo g a b) u hi hv
theorem VL.fz {G G' : Gh} {w : World} {m b : Nat} {cs : List AV} (h : Sub G G' (fun i => i < m)) (hm : G.ρ m = some b) (hc : VC G' w cs b 0) : ∀ (as0 : List AV) (us : List Value), AV.fzOkL m as0 → VL G w as0 us → VL G' w (AV.fzL m cs as0) us
  | [], [], _, _ => by simp only [AV.fzL, VL]
  | a :: as0, u :: us, hi, hv => by
    simp only [VL, AV.fzOkL, AV.fzL] at hi hv ⊢
    exact ⟨V.fz h hm hc a u hi.1 hv.1, VL.fz h hm hc as0 us hi.2 hv.2⟩
  | [], _ :: _, _, hv => by simp only [VL] at hv
  | _ :: _, [], _, hv => by simp only [VL] at hv
end

/-- the blocks below a number -/
def cutH (m : Nat) : List (Nat × Blk) → List (Nat × Blk)
  | [] => []
  | p :: l => bif Nat.blt p.1 m then p :: cutH m l else cutH m l

theorem look_cutH {m : Nat} : ∀ (l : List (Nat × Blk)) (i : Nat), look (cutH m l) i = if i < m then look l i else none
  | [], i => by simp [cutH, look]
  | p :: l, i => by
    simp only [cutH]
    cases hb : Nat.blt p.1 m with
    | true =>
      have hb' : p.1 < m := Nat.le_of_ble_eq_true hb
      simp only [cond_true, look, look_cutH l i]
      cases he : Nat.beq i p.1 with
      | true => have := Nat.eq_of_beq_eq_true he; simp only [cond_true]; rw [if_pos (by omega)]
      | false => simp only [cond_false]
    | false =>
      have hb' : ¬ p.1 < m := by intro h; rw [Nat.blt, Nat.ble_eq_true_of_le h] at hb; cases hb
      simp only [cond_false, look, look_cutH l i]
      cases he : Nat.beq i p.1 with
      | true => have := Nat.eq_of_beq_eq_true he; rw [if_neg (by omega), if_neg (by omega)]
      | false => simp only [cond_false]

def Blk.alive : Blk → Bool
  | .dead => false
  | _ => true

theorem CTri.freeze {P : Program} {f : FuncId} {H0 H1 : List Blk} {args cs : List AV} {res : AV} {nst : Nat} (h : CTri P f H0 args res (H1 ++ [.row cs]) nst) (hle : H0.length ≤ H1.length) (hH1 : ∀ X ∈ H1, X.fine (fun i => i < H1.length)) (hcs : AV.DataL cs) (hr : res.fzOk H1.length) (hnd : H1.all Blk.alive = true) :
    CTri P f H0 args (res.fz H1.length cs) H1 nst := by
  intro G0 W cargs hB hR hv
  refine (h G0 W cargs hB hR hv).mono ?_
  rintro e W' ⟨u, G', s', rfl, hE, hR', hu, hb, ho⟩
  have hm : look s'.H H1.length = some (.row cs) := hb H1.length _ (by simp)
  obtain ⟨b, hρ, hF, vs, T, hh, us, rest, hus, hvl⟩ := hR'.look (i := H1.length) (X := .row cs) (by rw [over_H]; exact hm)
  have hlen := VL.length _ _ hvl
  let G'' : Gh := { G' with ρ := fun i => if i < H1.length then G'.ρ i else none, L := fun c o => G'.L c o ∨ (c = b ∧ o < cs.length) }
  have hS : Sub G' G'' (fun i => i < H1.length) := ⟨rfl, fun i b hi e => by show (if i < H1.length then G'.ρ i else none) = _; rw [if_pos hi]; exact e, fun _ _ e => e, fun _ _ e => .inl e⟩
  have hcell : ∀ i (hi : i < us.length), W'.cell? ⟨b, 0 + i, none⟩ = some us[i] := by
    intro i hi
    have : vs[i]? = some us[i] := by
      have h1 : vs.toList[i]? = some us[i] := by rw [hus, List.getElem?_append_left hi, List.getElem?_eq_getElem hi]
      simpa using h1
    rw [Nat.zero_add]
    simp [World.cell?, hh, this]
  have hC : VC G'' W' cs b 0 := VC.of_cells cs us b 0 (VL.data hS.L cs us hcs hvl) (fun i hi => .inr ⟨rfl, by omega⟩) hcell
  have hσ : ∀ i, (over (Emp 0) { s' with H := cutH H1.length s'.H }).H i = if i < H1.length then look s'.H i else none := fun i => by rw [over_H]; exact look_cutH _ _
  have hσ' : ∀ i, (over (Emp 0) s').H i = look s'.H i := fun i => over_H _ _
  refine ⟨u, G'', { s' with H := cutH H1.length s'.H }, rfl, ⟨fun i c hc => ?_, hE.τ, fun c o e => .inl (hE.L c o e), hE.cell, hE.w0, hE.F, fun c o e => ?_, hE.room⟩, ⟨fun i => ?_, ⟨H1.length, fun i hi => ?_⟩, fun i j c hi hj => ?_, fun i c X hi hX => ?_, fun c o hL => ?_, hR'.τns, fun k hk => ?_, hR'.ownd, hR'.below, hR'.base⟩, V.fz hS hρ hC _ _ hr hu, fun i X hX => ?_, ho⟩
  · have hi : i < H0.length := Nat.lt_of_not_le fun hge => by rw [hB.ρ i hge] at hc; cases hc
    show (if i < H1.length then G'.ρ i else none) = _
    rw [if_pos (by omega)]; exact hE.ρ i c hc
  · rcases e with e | ⟨rfl, _⟩
    · exact hE.newL c o e
    · exact .inr (by rw [← hE.F]; exact hF)
  · rw [hσ]
    show (if i < H1.length then G'.ρ i else none) = none ↔ _
    split
    · rw [hR'.dom i, hσ']
    · simp
  · rw [hσ, if_neg (by omega)]
  · have hi' : (if i < H1.length then G'.ρ i else none) = some c := hi
    have hj' : (if j < H1.length then G'.ρ j else none) = some c := hj
    split at hi'
    · split at hj'
      · rename_i h1 h2
        rw [hσ, hσ, if_pos h1, if_pos h2, ← hσ', ← hσ']
        exact hR'.inj i j c hi' hj'
      · cases hj'
    · cases hi'
  · have hi' : (if i < H1.length then G'.ρ i else none) = some c := hi
    split at hi'
    · rename_i hlt
      rw [hσ, if_pos hlt] at hX
      obtain ⟨q1, q2⟩ := hR'.blk i c X hi' (by rw [hσ']; exact hX)
      refine ⟨q1, ?_⟩
      have hget : (H1 ++ [.row cs])[i]? = some H1[i] := by rw [List.getElem?_append_left hlt, List.getElem?_eq_getElem hlt]
      have := hb i _ hget
      rw [this] at hX; cases hX
      have hf := hH1 _ (List.getElem_mem hlt)
      cases hY : H1[i] with
      | cells ds =>
        rw [hY] at q2 hf
        obtain ⟨vs', T', q3, q4⟩ := q2
        exact ⟨vs', T', q3, q4.imp fun us => VL.less hS _ us hf⟩
      | obj o => rw [hY] at q2; exact q2
      | row ds =>
        rw [hY] at q2 hf
        obtain ⟨vs', T', q3, q4⟩ := q2
        exact ⟨vs', T', q3, q4.imp fun us => VL.data hS.L _ us hf⟩
      | dead => rw [hY] at q2; exact q2
    · cases hi'
  · rcases hL with hL | ⟨rfl, hlt⟩
    · obtain ⟨q1, q2⟩ := hR'.live c o hL
      refine ⟨q1, fun i hi => ?_⟩
      have hi' : (if i < H1.length then G'.ρ i else none) = some c := hi
      split at hi'
      · exact q2 i hi'
      · cases hi'
    · refine ⟨⟨us[o]'(by omega), ?_⟩, fun i hi => ?_⟩
      · have := hcell o (by omega)
        rwa [Nat.zero_add] at this
      · have hi' : (if i < H1.length then G'.ρ i else none) = some c := hi
        split at hi'
        · rename_i hlt'
          have hi2 : look s'.H i = some H1[i] := hb i _ (by rw [List.getElem?_append_left hlt', List.getElem?_eq_getElem hlt'])
          rcases hR'.inj i H1.length c hi' hρ with this | this | this
          · omega
          · rw [hσ', hi2] at this
            have h3 := List.all_eq_true.1 hnd _ (List.getElem_mem hlt')
            rw [Option.some.inj this] at h3
            cases h3
          · rw [hσ', hm] at this; cases this
        · cases hi'
  · obtain ⟨c, f1, t, q1, q2 | ⟨q2, q3, q4, q5⟩⟩ := hR'.own k hk
    · exact ⟨c, f1, t, q1, .inl q2⟩
    · refine ⟨c, f1, t, q1, .inr ⟨q2, fun i hi => ?_, fun o h1 h2 hL => ?_, q5⟩⟩
      · have hi' : (if i < H1.length then G'.ρ i else none) = some c := hi
        split at hi'
        · exact q3 i hi'
        · cases hi'
      · rcases hL with hL | ⟨rfl, _⟩
        · exact q4 o h1 h2 hL
        · exact q3 _ hρ
  · have hlt := (List.getElem?_eq_some_iff.1 hX).1
    show look (cutH H1.length s'.H) i = some X
    rw [look_cutH, if_pos hlt]
    exact hb i X (by rw [List.getElem?_append_left hlt]; exact hX)

theorem CT.freeze {P : Program} {f : FuncId} {H0 H1 : List Blk} {args cs : List AV} {res res' : AV} {nst : Nat} (h : CT P f H0 args res (H1 ++ [.row cs]) nst) (hle : H0.length ≤ H1.length) (hH1 : ∀ X ∈ H1, X.fine (fun i => i < H1.length)) (hcs : AV.DataL cs) (hr : res.fzOk H1.length) (hnd : H1.all Blk.alive = true) (e : res.fz H1.length cs = res') :
    CT P f H0 args res' H1 nst := by
  subst e
  exact ⟨h.tri.freeze hle hH1 hcs hr hnd, h.args, h.H0, AV.fz_fine hcs _ hr, hH1⟩

/-- a new slice that was written in place, and is handed on with the right to append to it -/
theorem CTri.freezeS {P : Program} {f : FuncId} {args cs : List AV} {n c sz : Nat} (h : CTri P f [] args (.ms 0 0 n c sz) [.row cs] 0) (hcs : AV.DataL cs) (hl : cs.length = n * sz) :
    CTri P f [] args (.sl cs n (.st 0 sz)) [] 1 := by
  intro G0 W cargs hB hR hv
  refine (h G0 W cargs hB hR hv).mono ?_
  rintro e W' ⟨u, G', s', rfl, hE, hR', hu, hb, -⟩
  have hm : look s'.H 0 = some (.row cs) := hb 0 _ (by simp)
  obtain ⟨b, hρ, hF, vs, T, hh, us, rest, hus, hvl⟩ := hR'.look (i := 0) (X := .row cs) (by rw [over_H]; exact hm)
  have hlen := VL.length _ _ hvl
  simp only [V] at hu
  obtain ⟨b', cap, hb', hn, o, rfl, hro⟩ := hu
  rw [hρ] at hb'; cases hb'
  rcases hro with ⟨rfl, vs2, T2, hh2, hroom⟩ | ⟨_, h0⟩
  rotate_left
  · exact absurd h0 (Nat.lt_irrefl _)
  rw [hh] at hh2; cases hh2
  let G'' : Gh := { G' with ρ := fun _ => none, τ := fun k => if k = 0 then some (b, 0 + cs.length, 0 + cap * sz) else none, L := fun c o => G'.L c o ∨ (c = b ∧ o < cs.length) }
  have hcell : ∀ i (hi : i < us.length), W'.cell? ⟨b, 0 + i, none⟩ = some us[i] := by
    intro i hi
    have : vs[i]? = some us[i] := by
      have h1 : vs.toList[i]? = some us[i] := by rw [hus, List.getElem?_append_left hi, List.getElem?_eq_getElem hi]
      simpa using h1
    rw [Nat.zero_add]
    simp [World.cell?, hh, this]
  have hC : VC G'' W' cs b 0 := VC.of_cells cs us b 0 (VL.data (G' := G'') (fun c o e => Or.inl e) cs us hcs hvl) (fun i hi => .inr ⟨rfl, by omega⟩) hcell
  refine ⟨_, G'', { s' with H := [], own := [0], ns := 1 }, rfl, ⟨fun i c hc => ?_, fun k r hk => ?_, fun c o e => .inl (hE.L c o e), hE.cell, hE.w0, hE.F, fun c o e => ?_, fun i c m hc => ?_⟩, ⟨fun i => ?_, ⟨0, fun i _ => ?_⟩, fun i j c hi => ?_, fun i c X hi => ?_, fun c o hL => ?_, fun k hk => ?_, fun k hk => ?_, fun k k' _ _ _ _ _ hk hk' => ?_, hR'.below, hR'.base⟩, ?_, fun i X hX => ?_, fun k hk => ?_⟩
  · rw [hB.ρ i (Nat.zero_le _)] at hc; cases hc
  · rw [hB.τ k] at hk; cases hk
  · rcases e with e | ⟨rfl, _⟩
    · exact hE.newL c o e
    · exact .inr (by rw [← hE.F]; exact hF)
  · rw [hB.ρ i (Nat.zero_le _)] at hc; cases hc
  · rw [over_H]; simp [look, G'']
  · rw [over_H]; rfl
  · cases hi
  · cases hi
  · rcases hL with hL | ⟨rfl, hlt⟩
    · exact ⟨(hR'.live c o hL).1, fun i hi => by cases hi⟩
    · refine ⟨⟨us[o]'(by omega), ?_⟩, fun i hi => by cases hi⟩
      have := hcell o (by omega)
      rwa [Nat.zero_add] at this
  · have hk1 : 1 ≤ k := hk
    show (if k = 0 then some (b, 0 + cs.length, 0 + cap * sz) else none) = none
    rw [if_neg (by omega)]
  · rw [over_own] at hk
    have e : k = 0 := by simpa using hk
    subst e
    refine ⟨b, 0 + cs.length, 0 + cap * sz, rfl, .inr ⟨hF, fun i hi => (by cases hi), fun o h1 h2 hL => ?_, vs, T, hh, hroom⟩⟩
    rcases hL with hL | ⟨_, h3⟩
    · exact (hR'.live b o hL).2 0 hρ
    · omega
  · rw [over_own] at hk hk'
    have e : k = 0 := by simpa using hk
    have e' : k' = 0 := by simpa using hk'
    intros; omega
  · simp only [V]
    exact ⟨cap, Nat.le_trans hn.1 hn.2, .inr ⟨b, 0, rfl, hC, ⟨_, rfl⟩, .inr ⟨hl, hF, rfl⟩⟩⟩
  · cases hX
  · have : k = 0 := by omega
    subst this; rfl

/-- nothing, with the right to append to it -/
theorem CTri.stampNil {P : Program} {f : FuncId} {args : List AV} {sz : Nat} (h : CTri P f [] args (.sl [] 0 .full) [] 0) : CTri P f [] args (.sl [] 0 (.st 0 sz)) [] 1 := by
  intro G0 W cargs hB hR hv
  refine (h G0 W cargs hB hR hv).mono ?_
  rintro e W' ⟨u, G', s', rfl, hE, hR', hu, hb, -⟩
  let G'' : Gh := { G' with ρ := fun _ => none, τ := fun k => if k = 0 then some (0, 1, 0) else none }
  refine ⟨u, G'', { s' with H := [], own := [0], ns := 1 }, rfl, ⟨fun i c hc => ?_, fun k r hk => ?_, hE.L, hE.cell, hE.w0, hE.F, hE.newL, fun i c m hc => ?_⟩, ⟨fun i => ?_, ⟨0, fun i _ => ?_⟩, fun i j c hi => ?_, fun i c X hi => ?_, fun c o hL => ?_, fun k hk => ?_, fun k hk => ?_, fun k k' _ _ _ _ _ hk hk' => ?_, hR'.below, hR'.base⟩, ?_, fun i X hX => ?_, fun k hk => ?_⟩
  · rw [hB.ρ i (Nat.zero_le _)] at hc; cases hc
  · rw [hB.τ k] at hk; cases hk
  · rw [hB.ρ i (Nat.zero_le _)] at hc; cases hc
  · rw [over_H]; simp [look, G'']
  · rw [over_H]; rfl
  · cases hi
  · cases hi
  · exact ⟨(hR'.live c o hL).1, fun i hi => by cases hi⟩
  · have hk1 : 1 ≤ k := hk
    show (if k = 0 then some (0, 1, 0) else none) = none
    rw [if_neg (by omega)]
  · rw [over_own] at hk
    have e : k = 0 := by simpa using hk
    subst e
    exact ⟨0, 1, 0, rfl, .inl (by decide)⟩
  · rw [over_own] at hk hk'
    have e : k = 0 := by simpa using hk
    have e' : k' = 0 := by simpa using hk'
    intros; omega
  · simp only [V] at hu ⊢
    obtain ⟨cap, hc, ⟨_, _, h3, h4, _⟩ | ⟨b, off, rfl, _, ho⟩⟩ := hu
    · exact ⟨cap, hc, .inl ⟨(by trivial), (by trivial), h3, h4, _, rfl⟩⟩
    · have ho' : cap = 0 := ho
      exact ⟨cap, hc, .inr ⟨b, off, rfl, by simp only [VC], ⟨_, rfl⟩, .inl ⟨rfl, ho'⟩⟩⟩
  · cases hX
  · have : k = 0 := by omega
    subst this; rfl

theorem CT.freezeS {P : Program} {f : FuncId} {args cs : List AV} {n c sz : Nat} (h : CT P f [] args (.ms 0 0 n c sz) [.row cs] 0) (hcs : AV.DataL cs) (hl : cs.length = n * sz) : CT P f [] args (.sl cs n (.st 0 sz)) [] 1 :=
  ⟨h.tri.freezeS hcs hl, h.args, h.H0, hcs, fun _ h => nomatch h⟩
theorem CT.stampNil {P : Program} {f : FuncId} {args : List AV} {sz : Nat} (h : CT P f [] args (.sl [] 0 .full) [] 0) : CT P f [] args (.sl [] 0 (.st 0 sz)) [] 1 :=
  ⟨h.tri.stampNil, h.args, h.H0, trivial, fun _ h => nomatch h⟩

end Go.Ab

namespace Go.Ab
open Go Go.RowKit

def gmk {α : Type} (B : Int) (d : α) (n : Int) : Option (List α) := if 0 ≤ n ∧ n * B ≤ 140737488355328 then some (List.replicate n.toNat d) else none
def gchk (n : Nat) (i : Int) : Option Nat := if 0 ≤ i ∧ i < n then some i.toNat else none
def gset {α : Type} (l : List α) (k : Nat) (x : α) : Option (List α) := if k < l.length then some (l.set k x) else none
def gfz {α : Type} (n : Nat) (l : List α) : Option (List α) := if l.length = n then some l else none

theorem gfz_spec {α : Type} {n : Nat} {l r : List α} (h : gfz n l = some r) : r = l ∧ n = r.length := by
  unfold gfz at h
  split at h
  · rename_i e; cases h; exact ⟨rfl, e.symm⟩
  · cases h

theorem rep_cells {f : Nat → AV} {s : Nat} (hs : 0 < s) : ∀ n : Nat, (List.range (n * s)).map (fun j => f (j % s)) = (List.replicate n ((List.range s).map f)).flatten
  | 0 => by simp
  | n + 1 => by
    rw [Nat.add_mul, Nat.one_mul, List.range_add, List.map_append, rep_cells hs n, List.replicate_succ', List.flatten_append]
    congr 1
    simp only [List.map_map, List.flatten_cons, List.flatten_nil, List.append_nil]
    apply List.map_congr_left
    intro j hj
    have : j < s := List.mem_range.1 hj
    simp [Function.comp, Nat.add_comm (n * s) j, Nat.mod_eq_of_lt this]

theorem flat_rep {α : Type} {c : α → List AV} {d : α} : ∀ n : Nat, (List.replicate n (c d)).flatten = flat c (List.replicate n d)
  | 0 => rfl
  | n + 1 => by simp only [List.replicate_succ, List.flatten_cons, flat, List.flatMap_cons]; rw [flat_rep n]; rfl

theorem mk_ok {P : Program} {α : Type} {c : α → List AV} {sz : Nat} {t e : TypeId} {ie : TypeInfo} {z : Value} (ht : P.underlying t = some (.slice e)) (hi : P.info? e = some ie) (hs : ie.size = sz) (hz : ie.zero = some z) (hzs : z.cells.size = sz) (h1 : 1 ≤ sz) {B : Nat} (hb : ie.bytes = B) (hB : 1 ≤ B) {d : α}
    (hd : (List.range sz).map (fun j => (ofV 8 (z.cells.getD j undef)).frz) = c d) {n : Int} {l : List α} (h : gmk (B : Int) d n = some l) : Ob.ok P (.mk (amakems P t (ai n) (ai n)) (flat c l) l.length) := by
  unfold gmk at h
  split at h
  · rename_i hc
    cases h
    show amakems P t (ai n) (ai n) = some (flat c (List.replicate n.toNat d), (List.replicate n.toNat d).length)
    unfold amakems
    simp only [ht, hi, hz]
    have hb' : (B : Int) ≥ 1 := by omega
    have hn : n ≤ n * B := by
      have := Int.mul_le_mul_of_nonneg_left hb' hc.1
      simpa using this
    rw [if_pos ⟨trivial, hc.1, by rw [hb]; exact hc.2, by omega, by rw [hzs, hs], by rw [hs]; exact h1⟩]
    simp only [List.length_replicate, Option.some.injEq, Prod.mk.injEq, and_true]
    rw [hs, hzs, rep_cells h1 (f := fun j => (ofV 8 (z.cells.getD j undef)).frz), hd, flat_rep]
  · cases h

theorem chk_ok {P : Program} {t e : TypeId} {ie : TypeInfo} (ht : P.underlying t = some (.slice e)) (hi : P.info? e = some ie) {sz : Nat} (hs : ie.size = sz) {b n k c z : Nat} {i : Int} (h : gchk n i = some k) :
    aindexAddr P t (.ms b 0 n c z) (ai i) = some (.mp b (k * sz)) := by
  unfold gchk at h
  split at h
  · rename_i hc
    cases h
    unfold aindexAddr
    simp only [ht, hi]
    rw [if_pos hc, hs, Nat.zero_add]
  · cases h

theorem ld_elem {α : Type} {c : α → List AV} {sz : Nat} (hc : Codec c sz) {l : List α} {k : Nat} {x : α} (h : gidx l (k : Int) = some x) : (flat c l).drop (k * sz) = c x ++ flat c (l.drop (k + 1)) := by
  obtain ⟨_, _, h2⟩ := gidx_spec h
  exact flat_at hc.len (by simpa using h2)

theorem ld_field {α : Type} {c : α → List AV} {sz : Nat} (hc : Codec c sz) {l : List α} {k off : Nat} {x : α} (h : gidx l (k : Int) = some x) : (flat c l).drop (k * sz + off) = (c x ++ flat c (l.drop (k + 1))).drop off := by
  rw [← List.drop_drop, ld_elem hc h]

theorem flat_set {α : Type} {c : α → List AV} {sz : Nat} (hc : ∀ x, (c x).length = sz) : ∀ (l : List α) (k : Nat) (x : α), k < l.length → splice (flat c l) (k * sz) (c x) = flat c (l.set k x)
  | [], k, x, h => by simp at h
  | y :: l, 0, x, h => by
    simp only [splice, Nat.zero_mul, List.take_zero, List.nil_append, Nat.zero_add, flat, List.flatMap_cons, List.set_cons_zero]
    rw [List.drop_left' (by rw [hc, hc])]
  | y :: l, k + 1, x, h => by
    have ih := flat_set hc l k x (by simpa using h)
    simp only [splice, flat] at ih
    simp only [splice, flat, List.flatMap_cons, List.set_cons_succ]
    rw [← ih]
    have e : (k + 1) * sz = sz + k * sz := by rw [Nat.add_mul, Nat.one_mul, Nat.add_comm]
    rw [e, List.take_append, List.take_of_length_le (by rw [hc]; omega), hc, Nat.add_sub_cancel_left, show sz + k * sz + (c x).length = sz + (k * sz + (c x).length) by omega, ← List.drop_drop, List.drop_left' (hc y)]
    simp only [List.append_assoc]

theorem all_one {l : List AV} (h : l.all AV.one = true) : (AV.agg l).sound = true := h

theorem wt_elem {P : Program} {α : Type} {c : α → List AV} {sz : Nat} (hc : Codec c sz) {l l2 : List α} {k : Nat} {x : α} (h : gset l k x = some l2) : Ob.ok P (.wt (flat c l) (k * sz) (.agg (c x)) sz (flat c l2)) := by
  unfold gset at h
  split at h
  · rename_i hk
    cases h
    refine ⟨hc.one x, hc.len x, ?_, flat_set hc.len l k x hk⟩
    rw [flat_len hc.len]
    have := Nat.mul_le_mul_right sz (show k + 1 ≤ l.length from hk)
    rw [Nat.add_mul, Nat.one_mul] at this
    exact this
  · cases h

theorem wt_one {P : Program} {α : Type} {c : α → List AV} {a : α → AV} (hc : Codec c 1) (ha : ∀ x, c x = [a x]) (hs : ∀ x, (a x).sound = true ∧ acells (a x) = [a x]) {l l2 : List α} {k : Nat} {x : α} (h : gset l k x = some l2) : Ob.ok P (.wt (flat c l) (k * 1) (a x) 1 (flat c l2)) := by
  obtain ⟨_, h2, h3, h4⟩ := wt_elem (P := P) hc h
  refine ⟨(hs x).1, by rw [(hs x).2]; rfl, h3, ?_⟩
  rw [(hs x).2]
  have h4' : splice (flat c l) (k * 1) (c x) = flat c l2 := h4
  rw [ha] at h4'
  exact h4'

theorem obMk {P : Program} {x : Option (List AV × Nat)} {cs : List AV} {n : Nat} (h : Ob.ok P (.mk x cs n)) : Ob.ok P (.mk x cs n) := h
theorem obLd {P : Program} {x : Option AV} {a : AV} (h : x = some a) : Ob.ok P (.ld x a) := h

/-- a part up to a bound, which is its capacity's bound too -/
theorem sliceTo3_ok {P : Program} {α : Type} {c : α → List AV} {sz : Nat} (hc : Codec c sz) {t e : TypeId} {ie : TypeInfo} (ht : P.underlying t = some (.slice e)) (hi : P.info? e = some ie) (hs : ie.size = sz) {l r : List α} {b : Int} {k k' : IntKind}
    {o : Own} (h : gsl l 0 b = some r) : aslice P t (.sl (flat c l) l.length o) none (some (.val (.int k b))) (some (.val (.int k' b))) = some (.sl (flat c r) r.length .full) := by
  obtain ⟨_, h1, h2, rfl⟩ := gsl_spec h
  subst hs
  have key : aslice P t (.sl (flat c l) l.length o) none (some (.val (.int k b))) (some (.val (.int k' b))) = some (.sl (flat c (l.take b.toNat)) (l.take b.toNat).length (o.cut 0 b.toNat (Nat.beq b.toNat l.length) (Nat.beq b.toNat b.toNat))) := by
    unfold aslice
    simp only [ht, hi, amx, abound, abound?]
    rw [if_pos ⟨h1, h2⟩]
    simp only [Option.map_some]
    have hbb : (0 ≤ b ∧ b ≤ (b.toNat : Nat)) := ⟨h1, by omega⟩
    rw [if_pos hbb]
    simp only [Option.isSome_some, Option.isNone_some, Bool.false_eq_true, and_false, if_false]
    rw [if_pos (by rw [flat_len hc.len]; simp)]
    simp only [Nat.sub_zero, Nat.zero_mul, List.drop_zero, Bool.true_and]
    rw [flat_take hc.len]
    have hl : (l.take b.toNat).length = b.toNat := by simp; omega
    rw [hl]
  rw [key]
  simp only [Own.cut, Nat.beq_refl, if_true, Int.sub_zero, Int.toNat_zero, List.drop_zero]

end Go.Ab

namespace Go.Ab
open Go Go.RowKit

theorem chk2_ok {P : Program} {t e : TypeId} {ie : TypeInfo} (ht : P.underlying t = some (.slice e)) (hi : P.info? e = some ie) {sz : Nat} (hs : ie.size = sz) {b o n k c z : Nat} {i : Int} (h : gchk n i = some k) :
    aindexAddr P t (.ms b (o * sz) n c z) (ai i) = some (.mp b ((o + k) * sz)) := by
  unfold gchk at h
  split at h
  · rename_i hc
    cases h
    unfold aindexAddr
    simp only [ht, hi]
    rw [if_pos hc, hs, Nat.add_mul]
  · cases h

/-- where a part begins, and how long it is -/
def gcut (n : Nat) (a b : Int) : Option (Nat × Nat) := if 0 ≤ a ∧ a ≤ b ∧ b ≤ n then some (a.toNat, (b - a).toNat) else none
theorem gcut_spec {n : Nat} {a b : Int} {r : Nat × Nat} (h : gcut n a b = some r) : 0 ≤ a ∧ a ≤ b ∧ b ≤ n ∧ r.1 = a.toNat ∧ r.2 = b.toNat - a.toNat := by
  unfold gcut at h
  split at h
  · rename_i q
    cases h
    exact ⟨q.1, q.2.1, q.2.2, rfl, by show (b - a).toNat = _; omega⟩
  · cases h

theorem slM_core {P : Program} {t e : TypeId} {ie : TypeInfo} (ht : P.underlying t = some (.slice e)) (hi : P.info? e = some ie) {sz : Nat} (hs : ie.size = sz) (h1 : 1 ≤ sz) {b o n c m : Nat} {x y : Int} {r : Nat × Nat} {lo hi' : Option AV} (hm : msb n c hi' none = m) (h : gcut m x y = some r)
    (hlo : ∀ h, abound? h 0 lo = if 0 ≤ x ∧ x ≤ h then some x.toNat else none) (hhi : abound? m m hi' = if 0 ≤ y ∧ y ≤ m then some y.toNat else none) :
    aslice P t (.ms b (o * sz) n c sz) lo hi' none = some (.ms b ((o + r.1) * sz) r.2 (c - r.1) sz) := by
  obtain ⟨q1, q2, q3, q4, q5⟩ := gcut_spec h
  subst hs
  unfold aslice
  simp only [ht, hi, amx, hm, hhi]
  rw [if_pos ⟨by omega, q3⟩]
  simp only [hlo]
  rw [if_neg (by simp), if_pos ⟨q1, by omega⟩]
  simp only
  rw [if_pos ⟨trivial, h1⟩, q4, q5, Nat.add_mul]
  rfl

theorem slM_ok {P : Program} {t e : TypeId} {ie : TypeInfo} (ht : P.underlying t = some (.slice e)) (hi : P.info? e = some ie) {sz : Nat} (hs : ie.size = sz) (h1 : 1 ≤ sz) {b o n c : Nat} {x y : Int} {r : Nat × Nat} (h : gcut c x y = some r) :
    aslice P t (.ms b (o * sz) n c sz) (some (ai x)) (some (ai y)) none = some (.ms b ((o + r.1) * sz) r.2 (c - r.1) sz) := slM_core ht hi hs h1 rfl h (fun _ => rfl) rfl
theorem slMFrom_ok {P : Program} {t e : TypeId} {ie : TypeInfo} (ht : P.underlying t = some (.slice e)) (hi : P.info? e = some ie) {sz : Nat} (hs : ie.size = sz) (h1 : 1 ≤ sz) {b o n c : Nat} {x : Int} {r : Nat × Nat} (h : gcut n x n = some r) :
    aslice P t (.ms b (o * sz) n c sz) (some (ai x)) none none = some (.ms b ((o + r.1) * sz) r.2 (c - r.1) sz) := slM_core ht hi hs h1 rfl h (fun _ => rfl) (by simp [abound?, msb])
/-- its beginning -/
theorem slMTo_ok {P : Program} {t e : TypeId} {ie : TypeInfo} (ht : P.underlying t = some (.slice e)) (hi : P.info? e = some ie) {sz : Nat} (hs : ie.size = sz) (h1 : 1 ≤ sz) {b off n c : Nat} {y : Int} {r : Nat × Nat} (h : gcut c 0 y = some r) :
    aslice P t (.ms b off n c sz) none (some (ai y)) none = some (.ms b off r.2 c sz) := by
  obtain ⟨q1, q2, q3, q4, q5⟩ := gcut_spec h
  subst hs
  have h2 : abound? c c (some (ai y)) = some y.toNat := by
    show (if 0 ≤ y ∧ y ≤ (c : Int) then some y.toNat else none) = _
    rw [if_pos ⟨by omega, q3⟩]
  unfold aslice
  simp only [ht, hi, amx, show msb n c (some (ai y)) none = c from rfl, h2]
  rw [if_neg (by simp)]
  simp only [abound?]
  rw [if_pos ⟨trivial, h1⟩, q5]
  simp
/-- all of it, up to its end alone -/
theorem slMAll_ok {P : Program} {t e : TypeId} {ie : TypeInfo} (ht : P.underlying t = some (.slice e)) (hi : P.info? e = some ie) {sz : Nat} (hs : ie.size = sz) (h1 : 1 ≤ sz) (b off n c : Nat) :
    aslice P t (.ms b off n c sz) none (some (ai (n : Int))) (some (ai (n : Int))) = some (.ms b off n n sz) := by
  subst hs
  have hc : abound n (ai (n : Int)) = some n := by
    show (if 0 ≤ (n : Int) ∧ (n : Int) ≤ (n : Int) then some (n : Int).toNat else none) = _
    rw [if_pos ⟨by omega, by omega⟩, Int.toNat_natCast]
  have hd : abound? n n (some (ai (n : Int))) = some n := hc
  unfold aslice
  simp only [ht, hi, show msb n c (some (ai (n : Int))) (some (ai (n : Int))) = n from rfl, amx, hc, Option.map_some, hd]
  rw [if_neg (by simp)]
  simp only [abound?]
  rw [if_pos ⟨trivial, h1⟩]
  simp

/-- a part, up to its end alone -/
theorem slM3_ok {P : Program} {t e : TypeId} {ie : TypeInfo} (ht : P.underlying t = some (.slice e)) (hi : P.info? e = some ie) {sz : Nat} (hs : ie.size = sz) (h1 : 1 ≤ sz) {b o n c : Nat} {x y : Int} {r : Nat × Nat} (h : gcut n x y = some r) :
    aslice P t (.ms b (o * sz) n c sz) (some (ai x)) (some (ai y)) (some (ai (n : Int))) = some (.ms b ((o + r.1) * sz) r.2 (n - r.1) sz) := by
  obtain ⟨q1, q2, q3, q4, q5⟩ := gcut_spec h
  subst hs
  have hc : abound n (ai (n : Int)) = some n := by
    show (if 0 ≤ (n : Int) ∧ (n : Int) ≤ (n : Int) then some (n : Int).toNat else none) = _
    rw [if_pos ⟨by omega, by omega⟩, Int.toNat_natCast]
  have hd : abound? n n (some (ai y)) = some y.toNat := by
    show (if 0 ≤ y ∧ y ≤ (n : Int) then some y.toNat else none) = _
    rw [if_pos ⟨by omega, q3⟩]
  have he : abound? y.toNat 0 (some (ai x)) = some x.toNat := by
    show (if 0 ≤ x ∧ x ≤ (y.toNat : Int) then some x.toNat else none) = _
    rw [if_pos ⟨q1, by omega⟩]
  unfold aslice
  simp only [ht, hi, show msb n c (some (ai y)) (some (ai (n : Int))) = n from rfl, amx, hc, Option.map_some, hd]
  rw [if_neg (by simp)]
  simp only [he]
  rw [if_pos ⟨trivial, h1⟩, q4, q5, Nat.add_mul]
  rfl

/-- a list that nobody owns any more -/
theorem CT.weakS {P : Program} {f : FuncId} {H0 H1 : List Blk} {args es : List AV} {m : Nat} {o : Own} {n : Nat} (h : CT P f H0 args (.sl es m o) H1 n) : CT P f H0 args (.sl es m .no) H1 0 :=
  ⟨fun G0 W cargs hB hR hv => (h.tri G0 W cargs hB hR hv).mono fun e W' ⟨u, G', s', q1, q2, q3, q4, q5, _⟩ => ⟨u, G', s', q1, q2, q3, V.frz (.sl es m o) _ q4, q5, fun k hk => absurd hk (Nat.not_lt_zero _)⟩, h.args, h.H0, h.res, h.H1⟩

/- READING -/
theorem ldF {P : Program} {α : Type} {c : α → List AV} {sz : Nat} (hc : Codec c sz) {l : List α} {k : Nat} {x : α} (h : gidx l (k : Int) = some x) (off : Nat) (q : Bool × Nat) {val : AV} (e : part1 q ((c x ++ flat c (l.drop (k + 1))).drop off) = some val) :
    Ob.ok P (.ld (part1 q ((flat c l).drop (k * sz + off))) val) := by
  show part1 q _ = some val
  rw [ld_field hc h, e]
theorem ldE {P : Program} {α : Type} {c : α → List AV} {sz : Nat} (hc : Codec c sz) {l : List α} {k : Nat} {x : α} (h : gidx l (k : Int) = some x) (q : Bool × Nat) {val : AV} (e : part1 q (c x ++ flat c (l.drop (k + 1))) = some val) :
    Ob.ok P (.ld (part1 q ((flat c l).drop (k * sz))) val) := by
  show part1 q _ = some val
  rw [ld_elem hc h, e]

/- WRITING A PART OF AN ELEMENT -/
theorem flat_setF {α : Type} {c : α → List AV} {sz : Nat} (hc : ∀ x, (c x).length = sz) {l : List α} {k off : Nat} {x x' : α} {vs : List AV} (h : l[k]? = some x) (hv : off + vs.length ≤ sz) (e : splice (c x) off vs = c x') :
    splice (flat c l) (k * sz + off) vs = flat c (l.set k x') := by
  obtain ⟨hk, hx⟩ := List.getElem?_eq_some_iff.1 h
  have h1 : l = l.take k ++ x :: l.drop (k + 1) := by
    rw [← hx]; simp
  have h2 : l.set k x' = l.take k ++ x' :: l.drop (k + 1) := List.set_eq_take_append_cons_drop.trans (by rw [if_pos hk])
  have hlen : (flat c (l.take k)).length = k * sz := by rw [flat_len hc, List.length_take, Nat.min_eq_left (Nat.le_of_lt hk)]
  have e1 : flat c l = flat c (l.take k) ++ (c x ++ flat c (l.drop (k + 1))) := by
    conv => lhs; rw [h1]
    rw [← flat_app]; simp [flat]
  have e2 : flat c (l.set k x') = flat c (l.take k) ++ (c x' ++ flat c (l.drop (k + 1))) := by
    rw [h2, ← flat_app]; simp [flat]
  rw [e1, e2, ← e]
  clear e1 e2 h1 h2
  generalize flat c (l.drop (k + 1)) = R
  generalize flat c (l.take k) = A at hlen ⊢
  simp only [splice]
  rw [List.take_append, List.take_of_length_le (by rw [hlen]; omega), hlen, Nat.add_sub_cancel_left, show k * sz + off + vs.length = k * sz + (off + vs.length) by omega, List.drop_append, List.drop_of_length_le (by rw [hlen]; omega), hlen, Nat.add_sub_cancel_left]
  rw [List.take_append_of_le_length (by rw [hc]; omega), List.drop_append_of_le_length (by rw [hc]; omega)]
  simp

theorem wtF {P : Program} {α : Type} {c : α → List AV} {sz : Nat} (hc : Codec c sz) {l l2 : List α} {k : Nat} {x x' : α} (hx : gidx l (k : Int) = some x) (h : gset l k x' = some l2) (off m : Nat) (v : AV) (hs : v.sound = true) (hm : (acells v).length = m) (ho : off + m ≤ sz) (e : splice (c x) off (acells v) = c x') :
    Ob.ok P (.wt (flat c l) (k * sz + off) v m (flat c l2)) := by
  unfold gset at h
  split at h
  · rename_i hk
    cases h
    obtain ⟨_, _, h2⟩ := gidx_spec hx
    refine ⟨hs, hm, ?_, flat_setF hc.len (by simpa using h2) (by omega) e⟩
    rw [flat_len hc.len]
    have := Nat.mul_le_mul_right sz (show k + 1 ≤ l.length from hk)
    rw [Nat.add_mul, Nat.one_mul] at this
    omega
  · cases h

/-- an element written whole, told as what it is made of -/
theorem wtE {P : Program} {α : Type} {c : α → List AV} {sz : Nat} (hc : Codec c sz) {l l2 : List α} {k : Nat} {x : α} {cs : List AV} (he : c x = cs) (h : gset l k x = some l2) : Ob.ok P (.wt (flat c l) (k * sz) (.agg cs) sz (flat c l2)) := he ▸ wt_elem hc h

/- ADDING -/
/-- a part of a list -/
def gpart {α : Type} (l : List α) (o n : Nat) : Option (List α) := if o + n ≤ l.length then some ((l.drop o).take n) else none
theorem gpart_spec {α : Type} {l r : List α} {o n : Nat} (h : gpart l o n = some r) : r = (l.drop o).take n ∧ r.length = n := by
  unfold gpart at h
  split at h
  · cases h
    exact ⟨rfl, by rw [List.length_take, List.length_drop]; omega⟩
  · cases h

theorem rapp_core {P : Program} {α : Type} {c : α → List AV} {sz : Nat} (hc : Codec c sz) {t e : TypeId} {ie : TypeInfo} {z : Value} (ht : P.underlying t = some (.slice e)) (hi : P.info? e = some ie) (hs : ie.size = sz) (hz : ie.zero = some z) (hzs : z.cells.size = sz) (h1 : 1 ≤ sz) {B : Nat} (hb : ie.bytes = B) (hB : 1 ≤ B)
    {l m r : List α} (h : gapp B l m = some r) (hm : m.length ≠ 0) (z1 : Option Nat) (hz1 : ∀ q, z1 = some q → q = sz) (src : Option (Nat × Nat × Nat)) (hsrc : ∀ q, src = some q → q.2.2 = sz) :
    rapp P t t z1 (flat c l) l.length src (flat c m) m.length = some (flat c r, r.length) := by
  obtain ⟨h2, rfl⟩ := gapp_spec h
  subst hs
  subst hb
  have h3 : (l.length + m.length) * 1 ≤ (l.length + m.length) * ie.bytes := Nat.mul_le_mul_left _ hB
  unfold rapp
  simp only [ht, hi, hz]
  rw [if_pos ⟨trivial, flat_len hc.len l, flat_len hc.len m, h1, hzs, h2, by omega, flat_one hc.one m, hm, hz1, hsrc⟩, flat_app, List.length_append]

theorem rpart_flat {α : Type} {c : α → List AV} {sz : Nat} (hc : ∀ x, (c x).length = sz) (l : List α) (o n : Nat) : rpart (flat c l) (o * sz) n sz = flat c ((l.drop o).take n) := by
  unfold rpart
  rw [flat_drop hc, flat_take hc]

/-- to nothing -/
theorem rappN_ok {P : Program} {α : Type} {c : α → List AV} {sz : Nat} (hc : Codec c sz) {t e : TypeId} {ie : TypeInfo} {z : Value} (ht : P.underlying t = some (.slice e)) (hi : P.info? e = some ie) (hs : ie.size = sz) (hz : ie.zero = some z) (hzs : z.cells.size = sz) (h1 : 1 ≤ sz) {B : Nat} (hb : ie.bytes = B) (hB : 1 ≤ B)
    {m r : List α} (h : gapp B ([] : List α) m = some r) (hm : m.length ≠ 0) : Ob.ok P (.mk (rapp P t t none [] 0 none (flat c m) m.length) (flat c r) r.length) :=
  rapp_core hc ht hi hs hz hzs h1 hb hB h hm none (fun _ h => nomatch h) none (fun _ h => nomatch h)
/-- to a row -/
theorem rappR_ok {P : Program} {α : Type} {c : α → List AV} {sz : Nat} (hc : Codec c sz) {t e : TypeId} {ie : TypeInfo} {z : Value} (ht : P.underlying t = some (.slice e)) (hi : P.info? e = some ie) (hs : ie.size = sz) (hz : ie.zero = some z) (hzs : z.cells.size = sz) (h1 : 1 ≤ sz) {B : Nat} (hb : ie.bytes = B) (hB : 1 ≤ B)
    {l m r : List α} (h : gapp B l m = some r) (hm : m.length ≠ 0) : Ob.ok P (.mk (rapp P t t (some sz) (flat c l) l.length none (flat c m) m.length) (flat c r) r.length) :=
  rapp_core hc ht hi hs hz hzs h1 hb hB h hm _ (fun _ h => (Option.some.inj h).symm) none (fun _ h => nomatch h)
theorem rappRn_ok {P : Program} {α : Type} {c : α → List AV} {sz : Nat} (hc : Codec c sz) {t e : TypeId} {ie : TypeInfo} {z : Value} (ht : P.underlying t = some (.slice e)) (hi : P.info? e = some ie) (hs : ie.size = sz) (hz : ie.zero = some z) (hzs : z.cells.size = sz) (h1 : 1 ≤ sz) {B : Nat} (hb : ie.bytes = B) (hB : 1 ≤ B)
    {l l' m r : List α} {n : Nat} (hf : gfz n l = some l') (h : gapp B l' m = some r) (hm : m.length ≠ 0) : Ob.ok P (.mk (rapp P t t (some sz) (flat c l) n none (flat c m) m.length) (flat c r) r.length) := by
  obtain ⟨rfl, rfl⟩ := gfz_spec hf
  exact rappR_ok hc ht hi hs hz hzs h1 hb hB h hm
/-- a part of a row, to a row -/
theorem rappP_ok {P : Program} {α : Type} {c : α → List AV} {sz : Nat} (hc : Codec c sz) {t e : TypeId} {ie : TypeInfo} {z : Value} (ht : P.underlying t = some (.slice e)) (hi : P.info? e = some ie) (hs : ie.size = sz) (hz : ie.zero = some z) (hzs : z.cells.size = sz) (h1 : 1 ≤ sz) {B : Nat} (hb : ie.bytes = B) (hB : 1 ≤ B)
    {l m' m r : List α} {o n j : Nat} (hp : gpart m' o n = some m) (h : gapp B l m = some r) (hm : m.length ≠ 0) : Ob.ok P (.mk (rapp P t t (some sz) (flat c l) l.length (some (j, j, sz)) (rpart (flat c m') (o * sz) n sz) n) (flat c r) r.length) := by
  obtain ⟨rfl, hn⟩ := gpart_spec hp
  rw [rpart_flat hc.len]
  have := rapp_core hc ht hi hs hz hzs h1 hb hB h hm (some sz) (fun _ h => (Option.some.inj h).symm) (some (j, j, sz)) (fun _ h => by cases h; rfl)
  rw [hn] at this
  exact this
/-- into the room behind -/
theorem rinp_fl {P : Program} {α : Type} {c : α → List AV} {sz : Nat} (hc : Codec c sz) {t e : TypeId} {ie : TypeInfo} (ht : P.underlying t = some (.slice e)) (hi : P.info? e = some ie) (hs : ie.size = sz) {l m r : List α} {n k : Nat} (hr : r = l.take n ++ m) (hn : n ≤ l.length) (hk : n + m.length ≤ k) (src : Option Nat) (hsrc : ∀ q, src = some q → q = sz) :
    rinp P t t sz (flat c l) n k src (flat c m) m.length = some (flat c r) := by
  subst hs
  subst hr
  unfold rinp
  simp only [ht, hi]
  rw [if_pos ⟨trivial, trivial, by rw [flat_len hc.len]; exact Nat.mul_le_mul_right _ hn, flat_len hc.len m, hk, flat_one hc.one m, hsrc⟩, flat_take hc.len, flat_app]
/-- is there room? -/
def ginp {α : Type} (c n : Nat) (l m : List α) : Option (List α) := if n + m.length ≤ c ∧ n ≤ l.length then some (l.take n ++ m) else none
theorem ginp_spec {α : Type} {c n : Nat} {l m r : List α} (h : ginp c n l m = some r) : r = l.take n ++ m ∧ n ≤ l.length ∧ n + m.length ≤ c := by
  unfold ginp at h
  split at h
  · rename_i q; cases h; exact ⟨rfl, q.2, q.1⟩
  · cases h
theorem rinpM_ok {P : Program} {α : Type} {c : α → List AV} {sz : Nat} (hc : Codec c sz) {t e : TypeId} {ie : TypeInfo} (ht : P.underlying t = some (.slice e)) (hi : P.info? e = some ie) (hs : ie.size = sz) {l m r : List α} {n k : Nat} (h : ginp k n l m = some r) :
    Ob.ok P (.inp (rinp P t t sz (flat c l) n k none (flat c m) m.length) (flat c r)) := by
  obtain ⟨q1, q2, q3⟩ := ginp_spec h
  exact rinp_fl hc ht hi hs q1 q2 q3 none (fun _ h => nomatch h)
theorem rinpP_ok {P : Program} {α : Type} {c : α → List AV} {sz : Nat} (hc : Codec c sz) {t e : TypeId} {ie : TypeInfo} (ht : P.underlying t = some (.slice e)) (hi : P.info? e = some ie) (hs : ie.size = sz) {l m' m r : List α} {n k o n2 : Nat} (hp : gpart m' o n2 = some m) (h : ginp k n l m = some r) :
    Ob.ok P (.inp (rinp P t t sz (flat c l) n k (some sz) (rpart (flat c m') (o * sz) n2 sz) n2) (flat c r)) := by
  obtain ⟨rfl, hn⟩ := gpart_spec hp
  obtain ⟨q1, q2, q3⟩ := ginp_spec h
  rw [rpart_flat hc.len]
  have := rinp_fl hc ht hi hs q1 q2 q3 (some sz) (fun _ h => (Option.some.inj h).symm)
  rw [hn] at this
  exact this
def gle (a b : Nat) : Option Unit := if a ≤ b then some () else none
theorem gle_spec {a b : Nat} {u : Unit} (h : gle a b = some u) : a ≤ b := by
  unfold gle at h
  split at h
  · assumption
  · cases h
/-- a row's part, to nothing -/
theorem rappNP_ok {P : Program} {α : Type} {c : α → List AV} {sz : Nat} (hc : Codec c sz) {t e : TypeId} {ie : TypeInfo} {z : Value} (ht : P.underlying t = some (.slice e)) (hi : P.info? e = some ie) (hs : ie.size = sz) (hz : ie.zero = some z) (hzs : z.cells.size = sz) (h1 : 1 ≤ sz) {B : Nat} (hb : ie.bytes = B) (hB : 1 ≤ B)
    {m' m r : List α} {o n j : Nat} (hp : gpart m' o n = some m) (h : gapp B ([] : List α) m = some r) (hm : m.length ≠ 0) : Ob.ok P (.mk (rapp P t t none [] 0 (some (j, j, sz)) (rpart (flat c m') (o * sz) n sz) n) (flat c r) r.length) := by
  obtain ⟨rfl, hn⟩ := gpart_spec hp
  rw [rpart_flat hc.len]
  have := rapp_core hc ht hi hs hz hzs h1 hb hB h hm none (fun _ h => nomatch h) (some (j, j, sz)) (fun _ h => by cases h; rfl)
  rw [hn] at this
  exact this
/-- cleared behind -/
theorem clr_ok {P : Program} {t e : TypeId} {ie : TypeInfo} {zv : Value} (ht : P.underlying t = some (.slice e)) (hi : P.info? e = some ie) (hz : ie.zero = some zv) {sz : Nat} (hzs : zv.cells.size = sz) (h1 : zv.cells.toList.all Value.oneCell' = true) {l off : Nat} (h : l ≤ off) : Ob.ok P (.clr t l off sz) :=
  ⟨h, e, ie, zv, ht, hi, hz, hzs, h1⟩
theorem clrF {P : Program} {α : Type} {c : α → List AV} {sz : Nat} (hc : Codec c sz) {t e : TypeId} {ie : TypeInfo} {zv : Value} (ht : P.underlying t = some (.slice e)) (hi : P.info? e = some ie) (hz : ie.zero = some zv) (hzs : zv.cells.size = sz) (h1 : zv.cells.toList.all Value.oneCell' = true) {l : List α} {o : Nat} {u : Unit} (h : gle l.length o = some u) : Ob.ok P (.clr t (flat c l).length (o * sz) sz) :=
  clr_ok ht hi hz hzs h1 (by rw [flat_len hc.len]; exact Nat.mul_le_mul_right _ (gle_spec h))
/-- nothing to a row, or to nothing -/
theorem same_ok {P : Program} {t e : TypeId} {ie : TypeInfo} (ht : P.underlying t = some (.slice e)) (hi : P.info? e = some ie) {n : Nat} (h : n = 0) : Ob.ok P (.same t t n) := ⟨rfl, h, e, ie, ht, hi⟩

end Go.Ab

namespace Go.Ab
open Go Go.RowKit

def imapE : List (Int × Int) → Nat → List MapEntry
  | [], _ => []
  | p :: m, c => { key := .int .i64 p.1, val := .int .i64 p.2, born := c } :: imapE m (c + 1)
def imap (m : List (Int × Int)) : Blk := .obj (.map ⟨imapE m 0⟩ m.length)
def igot : List (Int × Int) → Int → Option Int
  | [], _ => none
  | p :: m, k => if (k == p.1) = true then some p.2 else igot m k
def iget (m : List (Int × Int)) (k : Int) : Int := match igot m k with | some v => v | none => 0
def ihas (m : List (Int × Int)) (k : Int) : Bool := match igot m k with | some _ => true | none => false
def iset : List (Int × Int) → Int → Int → List (Int × Int)
  | [], k, v => [(k, v)]
  | p :: m, k, v => if (k == p.1) = true then (k, v) :: m else p :: iset m k v
def iidx : List (Int × Int) → Int → Nat → Option (Nat × Value)
  | [], _, _ => none
  | p :: m, k, i => if (k == p.1) = true then some (i, .int .i64 p.2) else iidx m k (i + 1)

theorem findNow_imap (k : Int) : ∀ (m : List (Int × Int)) (c i : Nat), Instr.findNow (.int .i64) (.int .i64 k) (imapE m c) i = some (iidx m k i)
  | [], _, _ => rfl
  | p :: m, c, i => by
    simp only [imapE, Instr.findNow, Instr.sameNow, iidx, if_true]
    cases hb : (k == p.1) with
    | true => rfl
    | false => simp only [Bool.false_eq_true, if_false]; exact findNow_imap k m (c + 1) (i + 1)

theorem iidx_got (k : Int) : ∀ (m : List (Int × Int)) (i : Nat), (iidx m k i).map Prod.snd = (igot m k).map (Value.int .i64)
  | [], _ => rfl
  | p :: m, i => by
    simp only [iidx, igot]
    cases hb : (k == p.1) with
    | true => rfl
    | false => simp only [Bool.false_eq_true, if_false]; exact iidx_got k m (i + 1)

theorem iidx_get (k : Int) (m : List (Int × Int)) : mval (iidx m k 0) (.int .i64 0) = ai (iget m k) := by
  have h := iidx_got k m 0
  unfold iget
  cases h1 : iidx m k 0 <;> cases h2 : igot m k <;> rw [h1, h2] at h
  · rfl
  · cases h
  · cases h
  · simp only [Option.map_some, Option.some.injEq] at h
    rename_i q v
    obtain ⟨j, u⟩ := q
    simp only at h
    subst h
    rfl
theorem iidx_has (k : Int) (m : List (Int × Int)) : (iidx m k 0).isSome = ihas m k := by
  have h := iidx_got k m 0
  unfold ihas
  cases h1 : iidx m k 0 <;> cases h2 : igot m k <;> rw [h1, h2] at h
  · rfl
  · cases h
  · cases h
  · rfl

theorem imapE_length : ∀ (m : List (Int × Int)) (c : Nat), (imapE m c).length = m.length
  | [], _ => rfl
  | _ :: m, c => by simp [imapE, imapE_length m (c + 1)]

theorem iidx_set (k v : Int) : ∀ (m : List (Int × Int)) (c i : Nat),
    (match iidx m k i with
      | some (j, _) => i ≤ j ∧ (imapE m c).modify (j - i) (fun e => { e with key := .int .i64 k, val := .int .i64 v }) = imapE (iset m k v) c ∧ (iset m k v).length = m.length
      | none => imapE m c ++ [{ key := .int .i64 k, val := .int .i64 v, born := c + m.length }] = imapE (iset m k v) c ∧ (iset m k v).length = m.length + 1)
  | [], c, i => by simp [iidx, iset, imapE]
  | p :: m, c, i => by
    simp only [iidx, iset]
    cases hb : (k == p.1) with
    | true => simp [imapE]
    | false =>
      simp only [Bool.false_eq_true, if_false]
      have ih := iidx_set k v m (c + 1) (i + 1)
      cases hm : iidx m k (i + 1) with
      | none =>
        rw [hm] at ih
        simp only at ih ⊢
        refine ⟨?_, by simp [ih.2]⟩
        simp only [imapE, List.cons_append, List.length_cons]
        rw [← ih.1, show c + (m.length + 1) = c + 1 + m.length by omega]
      | some q =>
        obtain ⟨j, u⟩ := q
        rw [hm] at ih
        simp only at ih ⊢
        refine ⟨by omega, ?_, by simp [ih.2.2]⟩
        simp only [imapE]
        rw [show j - i = (j - (i + 1)) + 1 by omega, List.modify_succ_cons, ih.2.1]

variable {P : Program} {t kt et : TypeId} {ie : TypeInfo}

theorem lkI_ok (ht : P.underlying t = some (.map kt et)) (hk : P.underlying kt = some (.int .i64)) (he : P.info? et = some ie) (hz : ie.zero = some (.int .i64 0)) (m : List (Int × Int)) (k : Int) :
    Ob.ok P (.lk t (imap m) (ai k) false (ai (iget m k))) := by
  intro ev i s hl
  unfold alookup
  simp only [ht, ai, hk, he, imap] at hl ⊢
  simp only [hl, hz, findNow_imap, plainKey, cond_true, Bool.false_eq_true, if_false, iidx_get]

theorem lkJ_ok (ht : P.underlying t = some (.map kt et)) (hk : P.underlying kt = some (.int .i64)) (he : P.info? et = some ie) (hz : ie.zero = some (.int .i64 0)) (m : List (Int × Int)) (k : Int) :
    Ob.ok P (.lk t (imap m) (ai k) true (.tup [ai (iget m k), ab (ihas m k)])) := by
  intro ev i s hl
  unfold alookup
  simp only [ht, ai, hk, he, imap] at hl ⊢
  simp only [hl, hz, findNow_imap, plainKey, cond_true, if_true, iidx_get, iidx_has]

theorem muI_ok (ht : P.underlying t = some (.map kt et)) (hk : P.underlying kt = some (.int .i64)) (m : List (Int × Int)) (k v : Int) :
    Ob.ok P (.mu t (imap m) (ai k) (ai v) (imap (iset m k v))) := by
  intro ev i s hl
  unfold amapUpdate
  simp only [ht, ai, hk, imap] at hl ⊢
  simp only [hl, findNow_imap, plainKey, cond_true]
  have h := iidx_set k v m 0 0
  cases hm : iidx m k 0 with
  | none =>
    rw [hm] at h
    simp only [Nat.zero_add] at h ⊢
    rw [h.2, ← h.1]
    simp
  | some q =>
    obtain ⟨j, u⟩ := q
    rw [hm] at h
    simp only [Nat.sub_zero] at h ⊢
    have e : (⟨imapE m 0⟩ : Array MapEntry).modify j (fun e => { e with key := .int .i64 k, val := .int .i64 v }) = ⟨imapE (iset m k v) 0⟩ := by
      apply Array.ext'
      rw [Array.toList_modify]
      exact h.2.1
    rw [h.2.2, e]

theorem lnI_ok (ht : P.underlying t = some (.map kt et)) (m : List (Int × Int)) : Ob.ok P (.ln t (imap m) (ai (m.length : Int))) :=
  ⟨_, _, _, _, rfl, ht, by simp [goInt, imapE_length]⟩

end Go.Ab

namespace Go.Ab
open Go Go.RowKit

abbrev nos (n : Nat) : List Orc := List.replicate n .no

/-- what was answered, and what is owed for it -/
structure OL (P : Program) (os : List Orc) (ob : List Ob) : Prop where
  ok : ObsOk P ob

theorem ObsOk.rev {P : Program} : ∀ (a b : List Ob), ObsOk P a → ObsOk P b → ObsOk P (a.reverseAux b)
  | [], _, _, k => k
  | x :: a, b, h, k => ObsOk.rev a (x :: b) h.2 ⟨h.1, k⟩

section
variable {P : Program} {os : List Orc} {ob : List Ob}
theorem OL.nil : OL P [] [] := ⟨trivial⟩
theorem oB {b b' : Bool} (n : Nat) (h : b = b') (k : OL P os ob) : OL P (.bit b' :: (nos n ++ os)) (.bit b b' :: ob) := ⟨⟨h, k.ok⟩⟩
theorem oA {x : Option AV} {a : AV} (n : Nat) (h : x = some a) (k : OL P os ob) : OL P (.av a :: (nos n ++ os)) (.av x a :: ob) := ⟨⟨h, k.ok⟩⟩
theorem oC {f : FuncId} {H0 : List Blk} {args : List AV} {res : AV} {H1 : List Blk} {nst : Nat} (n : Nat) (ι : List Nat) (h : CT P f H0 args res H1 nst) (k : OL P os ob) : OL P (.call ι H1 nst res none :: (nos n ++ os)) (.call f H0 args res H1 nst :: ob) := ⟨⟨h, k.ok⟩⟩
theorem oK {b b' : Bool} {f : FuncId} {H0 : List Blk} {args : List AV} {res : AV} {H1 : List Blk} {nst : Nat} (n : Nat) (ι : List Nat) (hb : b = b') (h : CT P f H0 args res H1 nst) (k : OL P os ob) : OL P (.call ι H1 nst res (some b') :: (nos n ++ os)) (.call f H0 args res H1 nst :: .bit b b' :: ob) := ⟨⟨h, hb, k.ok⟩⟩
theorem oF {x : Option AV} {a : AV} (n : Nat) (h : ∃ a0, x = some a0 ∧ a0.frz = a) (k : OL P os ob) : OL P (.fz a :: (nos n ++ os)) (.fz x a :: ob) := ⟨⟨h, k.ok⟩⟩
theorem oP {t t2 : TypeId} {es es2 es' : List AV} {n1 n2 n' sz : Nat} {e : Bool} (n : Nat) (h : Ob.ok P (.app t t2 es es2 es' n1 n2 n' sz e)) (k : OL P os ob) : OL P (.app es' n' sz e :: (nos n ++ os)) (.app t t2 es es2 es' n1 n2 n' sz e :: ob) := ⟨⟨h, k.ok⟩⟩
theorem oS {cs es : List AV} {l m : Nat} (n : Nat) (h : Ob.ok P (.cells cs es l m)) (k : OL P os ob) : OL P (.sl es m :: (nos n ++ os)) (.cells cs es l m :: ob) := ⟨⟨h, k.ok⟩⟩
theorem oL {t : TypeId} {X : Blk} {key : AV} {o : Bool} {a : AV} (n : Nat) (h : Ob.ok P (.lk t X key o a)) (k : OL P os ob) : OL P (.lk a :: (nos n ++ os)) (.lk t X key o a :: ob) := ⟨⟨h, k.ok⟩⟩
theorem oU {t : TypeId} {X Y : Blk} {key v : AV} (n : Nat) (h : Ob.ok P (.mu t X key v Y)) (k : OL P os ob) : OL P (.mu Y :: (nos n ++ os)) (.mu t X key v Y :: ob) := ⟨⟨h, k.ok⟩⟩
theorem oM {x : Option (List AV × Nat)} {cs : List AV} {m : Nat} (n : Nat) (h : Ob.ok P (.mk x cs m)) (k : OL P os ob) : OL P (.mk cs m :: (nos n ++ os)) (.mk x cs m :: ob) := ⟨⟨h, k.ok⟩⟩
theorem oG {x : Option AV} {a : AV} (n : Nat) (h : Ob.ok P (.ld x a)) (k : OL P os ob) : OL P (.ld a :: (nos n ++ os)) (.ld x a :: ob) := ⟨⟨h, k.ok⟩⟩
theorem oW {cs : List AV} {off : Nat} {v : AV} {sz : Nat} {cs' : List AV} (n : Nat) (h : Ob.ok P (.wt cs off v sz cs')) (k : OL P os ob) : OL P (.wt cs' :: (nos n ++ os)) (.wt cs off v sz cs' :: ob) := ⟨⟨h, k.ok⟩⟩
/-- a map's length; an append in place; an append of nothing; a clearing -/
theorem oN {t : TypeId} {X : Blk} {a : AV} (n : Nat) (h : Ob.ok P (.ln t X a)) (k : OL P os ob) : OL P (.lk a :: (nos n ++ os)) (.ln t X a :: ob) := ⟨⟨h, k.ok⟩⟩
theorem oI {x : Option (List AV)} {cs : List AV} (n : Nat) (h : Ob.ok P (.inp x cs)) (k : OL P os ob) : OL P (.inp cs :: (nos n ++ os)) (.inp x cs :: ob) := ⟨⟨h, k.ok⟩⟩
theorem oQ {t t2 : TypeId} {m : Nat} (n : Nat) (h : Ob.ok P (.same t t2 m)) (k : OL P os ob) : OL P (.same :: (nos n ++ os)) (.same t t2 m :: ob) := ⟨⟨h, k.ok⟩⟩
theorem oR {t : TypeId} {l off z : Nat} (n : Nat) (h : Ob.ok P (.clr t l off z)) (k : OL P os ob) : OL P (.clr :: (nos n ++ os)) (.clr t l off z :: ob) := ⟨⟨h, k.ok⟩⟩
theorem oD {es : List AV} (h : AV.DataL es) (k : OL P os ob) : OL P os (.data es :: ob) := ⟨⟨h, k.ok⟩⟩
/-- nothing's cells -/
theorem oE (k : OL P os ob) : OL P os (.data [] :: ob) := ⟨⟨trivial, k.ok⟩⟩
end

theorem spl {α : Type} {b : Bool} {x y : Option α} {r : α} (h : (if b = true then x else y) = some r) : (b = true ∧ x = some r) ∨ (b = false ∧ y = some r) := by
  cases b
  · exact .inr ⟨rfl, by simpa using h⟩
  · exact .inl ⟨rfl, by simpa using h⟩
theorem spT {α : Type} {b : Bool} {x : Option α} {r : α} (h : (if b = true then x else none) = some r) : b = true ∧ x = some r := by
  rcases spl h with h | ⟨_, h⟩
  · exact h
  · cases h
theorem splF {α : Type} {b : Bool} {x : Option α} {r : α} (h : (if b = true then none else x) = some r) : b = false ∧ x = some r := by
  rcases spl h with ⟨_, h⟩ | h
  · cases h
  · exact h
theorem nn {α : Type} {r : α} {p : Prop} (h : (none : Option α) = some r) : p := nomatch h
theorem ifTe {α : Type} {b : Bool} {x y : α} (h : b = true) : (if b = true then x else y) = x := if_pos h
theorem ifFe {α : Type} {b : Bool} {x y : α} (h : b = false) : (if b = true then x else y) = y := by subst h; rfl
theorem obk {α β : Type} {f : Option α} {k : α → Option β} {a : α} {r : β} (h : f = some a) (h2 : k a = some r) : (f >>= k) = some r := by subst h; exact h2
theorem sj {α : Type} {x y : α} (h : some x = some y) : x = y := Option.some.inj h

/-- a frame's cells: some are told, of the others nothing is known -/
def sp (j : Nat → Value) : Nat → Nat → List (Nat × AV) → List AV
  | 0, _, _ => []
  | n + 1, i, l => match l with
    | [] => .val (j i) :: sp j n (i + 1) []
    | (m, a) :: l' => bif Nat.beq m i then a :: sp j n (i + 1) l' else .val (j i) :: sp j n (i + 1) l

section
variable {P : Program} {pr : FuncId → List AV → LSt → Option LA} (hp : CallsOk P pr) (hm : P.follows .mixedOrders = true) {na : Nb} {fn : Func} {f : FuncId}
include hp hm

theorem OL.toHead {H0 H1 : List Blk} {args : List AV} {res : AV} {nst : Nat} (q : P.funcs[f]? = some fn ∧ fn.body.isNone = false) (m : Nat) (rs : List (Option Nat × Nat × Nat)) (keep ks live : List Nat) {os : List Orc} {ob : List Ob} (k : OL P os ob) {c : Code} {fs' : List Fr} {E : (Nat → Value) → List AV} {S : LSt}
    (hk : ∀ j, Dl P H0.length c (E j) S (frameQ P H0.length (FinQ P H0.length fn res H1 nst) fs'))
    (h : ∀ j, khead P pr H0.length 3000 (.run (bod fn)) [] (args ++ List.replicate (fn.ntmps - args.length) (.val undef)) (st0 H0) ((nos m ++ os).reverseAux []) rs keep ks live j = some (c, fs', E j, S, ob.reverseAux [])) : CTri P f H0 args res H1 nst :=
  CTri.toHead hp hm q.1 q.2 3000 _ rs keep ks live h (ObsOk.rev _ _ k.ok trivial) hk

theorem OL.toFin {H0 H1 : List Blk} {args : List AV} {res : AV} {nst : Nat} (q : P.funcs[f]? = some fn ∧ fn.body.isNone = false) (m : Nat) (rs : List (Option Nat × Nat × Nat)) (keep ks : List Nat) (own : Bool) {os : List Orc} {ob : List Ob} (k : OL P os ob)
    (h : kfin P pr H0.length fn 3000 (.run (bod fn)) [] (args ++ List.replicate (fn.ntmps - args.length) (.val undef)) (st0 H0) ((nos m ++ os).reverseAux []) rs keep ks own = some (res, H1, ob.reverseAux [])) (hn : nst ≤ ks.length) : CTri P f H0 args res H1 nst :=
  CTri.toFin hp hm q.1 q.2 3000 _ rs keep ks own h (ObsOk.rev _ _ k.ok trivial) hn

theorem OL.lHead {Q : AX → List AV → LSt → Prop} {c c' : Code} {fs fs' : List Fr} {env : List AV} {s S : LSt} (m : Nat) (rs : List (Option Nat × Nat × Nat)) (keep ks live : List Nat) {os : List Orc} {ob : List Ob} (k : OL P os ob) {E : (Nat → Value) → List AV}
    (hk : ∀ j, Dl P na c' (E j) S (frameQ P na Q fs')) (h : ∀ j, khead P pr na.n 3000 (.run c) (.loop c :: fs) env s ((nos m ++ os).reverseAux []) rs keep ks live j = some (c', fs', E j, S, ob.reverseAux [])) : Dl P na c env s (frameQ P na Q fs) :=
  Dl.toHead hp hm 3000 _ rs keep ks live h (ObsOk.rev _ _ k.ok trivial) hk

theorem OL.lFin {c : Code} {fs : List Fr} {env : List AV} {s : LSt} {res : AV} {H1 : List Blk} {nst : Nat} (m : Nat) (rs : List (Option Nat × Nat × Nat)) (keep ks : List Nat) (own : Bool) {os : List Orc} {ob : List Ob} (k : OL P os ob)
    (h : kfin P pr na.n fn 3000 (.run c) (.loop c :: fs) env s ((nos m ++ os).reverseAux []) rs keep ks own = some (res, H1, ob.reverseAux [])) (hn : nst ≤ ks.length) : Dl P na c env s (frameQ P na (FinQ P na fn res H1 nst) fs) :=
  Dl.toFin hp hm 3000 _ rs keep ks own h (ObsOk.rev _ _ k.ok trivial) hn
end
end Go.Ab

set_option linter.unusedSimpArgs false
namespace Go.Ab
open Go Go.RowKit

/-- a slice as a cell -/
def slC {α : Type} (c : α → List AV) (l : List α) : List AV := [.sl (flat c l) l.length .no]
theorem codSl {α : Type} {c : α → List AV} {n : Nat} (h : Codec c n) : Codec (slC c) 1 := ⟨fun _ => rfl, fun l => ⟨⟨trivial, flat_data h.data l⟩, trivial⟩, fun _ => rfl⟩
theorem dSl {α : Type} {c : α → List AV} {n : Nat} (h : Codec c n) (l : List (List α)) : AV.DataL (flat (slC c) l) := flat_data (codSl h).data l
def boC (b : Bool) : List AV := [ab b]
theorem codecB : Codec boC 1 := ⟨fun _ => rfl, fun _ => ⟨trivial, trivial⟩, fun _ => rfl⟩
theorem dB (l : List Bool) : AV.DataL (flat boC l) := flat_data codecB.data l
theorem obLitR {P : Program} {α : Type} {C L : α → List AV} (he : ∀ t, C t = L t) (l : List α) : Ob.ok P (.cells (flat L l) (flat C l) l.length l.length) := ⟨by rw [show L = C from funext fun t => (he t).symm], rfl⟩

structure LeafFound where
  yes_ : Bool
  row_ : Int
  binds_ : List Tm
  path_ : List Int
instance : Inhabited LeafFound := ⟨⟨default, default, default, default⟩⟩
def leafFoundL (x : LeafFound) : List AV := [ab x.yes_, ai x.row_, .sl (flat tmCells x.binds_) (List.length x.binds_) .no, .sl (flat intC x.path_) (List.length x.path_) .no]
def leafFoundA (x : LeafFound) : AV := .agg (leafFoundL x)
theorem codecLeafFound : Codec leafFoundL 4 := ⟨fun _ => rfl, fun _ => ⟨trivial, trivial, ⟨trivial, dT _⟩, ⟨trivial, dI _⟩, trivial⟩, fun _ => rfl⟩
theorem dLeafFound (l : List LeafFound) : AV.DataL (flat leafFoundL l) := flat_data codecLeafFound.data l

structure UnifySolved where
  n_ : Int
  t_ : Tm
instance : Inhabited UnifySolved := ⟨⟨default, default⟩⟩
def unifySolvedL (x : UnifySolved) : List AV := [ai x.n_, ai x.t_.k, ai x.t_.n, .sl (flat tmCells x.t_.sub) (List.length x.t_.sub) .no]
def unifySolvedA (x : UnifySolved) : AV := .agg (unifySolvedL x)
theorem codecUnifySolved : Codec unifySolvedL 4 := ⟨fun _ => rfl, fun _ => ⟨trivial, trivial, trivial, ⟨trivial, dT _⟩, trivial⟩, fun _ => rfl⟩
theorem dUnifySolved (l : List UnifySolved) : AV.DataL (flat unifySolvedL l) := flat_data codecUnifySolved.data l

structure FreeVar where
  n_ : Int
  type_ : Tm
instance : Inhabited FreeVar := ⟨⟨default, default⟩⟩
def freeVarL (x : FreeVar) : List AV := [ai x.n_, ai x.type_.k, ai x.type_.n, .sl (flat tmCells x.type_.sub) (List.length x.type_.sub) .no]
def freeVarA (x : FreeVar) : AV := .agg (freeVarL x)
theorem codecFreeVar : Codec freeVarL 4 := ⟨fun _ => rfl, fun _ => ⟨trivial, trivial, trivial, ⟨trivial, dT _⟩, trivial⟩, fun _ => rfl⟩
theorem dFreeVar (l : List FreeVar) : AV.DataL (flat freeVarL l) := flat_data codecFreeVar.data l

mutual
inductive CoverKid where
  | mk (con_ : Int) (yes_ : Bool) (args_ : List Int) (solved_ : List UnifySolved) (t_ : CoverTree)
inductive CoverTree where
  | mk (kind_ : Int) (row_ : Int) (var_ : Int) (vars_ : List FreeVar) (binds_ : List Tm) (args_ : List Tm) (kids_ : List CoverKid)
end
def CoverKid.con_ : CoverKid → Int | .mk x _ _ _ _ => x
def CoverKid.yes_ : CoverKid → Bool | .mk _ x _ _ _ => x
def CoverKid.args_ : CoverKid → List Int | .mk _ _ x _ _ => x
def CoverKid.solved_ : CoverKid → List UnifySolved | .mk _ _ _ x _ => x
def CoverKid.t_ : CoverKid → CoverTree | .mk _ _ _ _ x => x
def CoverTree.kind_ : CoverTree → Int | .mk x _ _ _ _ _ _ => x
def CoverTree.row_ : CoverTree → Int | .mk _ x _ _ _ _ _ => x
def CoverTree.var_ : CoverTree → Int | .mk _ _ x _ _ _ _ => x
def CoverTree.vars_ : CoverTree → List FreeVar | .mk _ _ _ x _ _ _ => x
def CoverTree.binds_ : CoverTree → List Tm | .mk _ _ _ _ x _ _ => x
def CoverTree.args_ : CoverTree → List Tm | .mk _ _ _ _ _ x _ => x
def CoverTree.kids_ : CoverTree → List CoverKid | .mk _ _ _ _ _ _ x => x
instance : Inhabited CoverTree := ⟨.mk default default default default default default default⟩
instance : Inhabited CoverKid := ⟨.mk default default default default default⟩
mutual
def coverKidC : CoverKid → List AV
  | .mk con_ yes_ args_ solved_ t_ => [ai con_, ab yes_, .sl (flat intC args_) (List.length args_) .no, .sl (flat unifySolvedL solved_) (List.length solved_) .no] ++ coverTreeC t_
def coverTreeC : CoverTree → List AV
  | .mk kind_ row_ var_ vars_ binds_ args_ kids_ => [ai kind_, ai row_, ai var_, .sl (flat freeVarL vars_) (List.length vars_) .no, .sl (flat tmCells binds_) (List.length binds_) .no, .sl (flat tmCells args_) (List.length args_) .no, .sl (coverKidsC kids_) kids_.length .no]
def coverKidsC : List CoverKid → List AV
  | [] => []
  | t :: l => coverKidC t ++ coverKidsC l
end
theorem coverKids_flat : ∀ l : List CoverKid, coverKidsC l = flat coverKidC l
  | [] => rfl
  | t :: l => by simp only [coverKidsC, coverKids_flat l, flat, List.flatMap_cons]
def coverTreeL (x : CoverTree) : List AV := [ai x.kind_, ai x.row_, ai x.var_, .sl (flat freeVarL x.vars_) (List.length x.vars_) .no, .sl (flat tmCells x.binds_) (List.length x.binds_) .no, .sl (flat tmCells x.args_) (List.length x.args_) .no, .sl (flat coverKidC x.kids_) (List.length x.kids_) .no]
theorem coverTree_eq (x : CoverTree) : coverTreeC x = coverTreeL x := by
  cases x; simp only [coverTreeC, coverTreeL, CoverTree.kind_, CoverTree.row_, CoverTree.var_, CoverTree.vars_, CoverTree.binds_, CoverTree.args_, CoverTree.kids_, coverKids_flat, List.cons_append, List.nil_append]
def coverTreeA (x : CoverTree) : AV := .agg (coverTreeL x)
def coverKidL (x : CoverKid) : List AV := [ai x.con_, ab x.yes_, .sl (flat intC x.args_) (List.length x.args_) .no, .sl (flat unifySolvedL x.solved_) (List.length x.solved_) .no, ai x.t_.kind_, ai x.t_.row_, ai x.t_.var_, .sl (flat freeVarL x.t_.vars_) (List.length x.t_.vars_) .no, .sl (flat tmCells x.t_.binds_) (List.length x.t_.binds_) .no, .sl (flat tmCells x.t_.args_) (List.length x.t_.args_) .no, .sl (flat coverKidC x.t_.kids_) (List.length x.t_.kids_) .no]
theorem coverKid_eq (x : CoverKid) : coverKidC x = coverKidL x := by
  cases x; simp only [coverKidC, coverKidL, CoverKid.con_, CoverKid.yes_, CoverKid.args_, CoverKid.solved_, CoverKid.t_, coverTree_eq, coverTreeL, coverKids_flat, List.cons_append, List.nil_append]
def coverKidA (x : CoverKid) : AV := .agg (coverKidL x)
mutual
theorem coverKid_data : ∀ t : CoverKid, AV.DataL (coverKidC t)
  | .mk con_ yes_ args_ solved_ t_ => by rw [coverKidC]; exact DataL_append (⟨trivial, trivial, ⟨trivial, dI _⟩, ⟨trivial, dUnifySolved _⟩, trivial⟩) (coverTree_data t_)
theorem coverTree_data : ∀ t : CoverTree, AV.DataL (coverTreeC t)
  | .mk kind_ row_ var_ vars_ binds_ args_ kids_ => by rw [coverTreeC]; exact ⟨trivial, trivial, trivial, ⟨trivial, dFreeVar _⟩, ⟨trivial, dT _⟩, ⟨trivial, dT _⟩, ⟨trivial, coverKids_data kids_⟩, trivial⟩
theorem coverKids_data : ∀ l : List CoverKid, AV.DataL (coverKidsC l)
  | [] => trivial
  | t :: l => by rw [coverKidsC]; exact DataL_append (coverKid_data t) (coverKids_data l)
end
theorem codecCoverKid : Codec coverKidC 11 := ⟨fun x => by rw [coverKid_eq]; rfl, coverKid_data, fun x => by rw [coverKid_eq]; rfl⟩
theorem dCoverKid (l : List CoverKid) : AV.DataL (flat coverKidC l) := flat_data codecCoverKid.data l
theorem codecCoverTree : Codec coverTreeC 7 := ⟨fun x => by rw [coverTree_eq]; rfl, coverTree_data, fun x => by rw [coverTree_eq]; rfl⟩
theorem dCoverTree (l : List CoverTree) : AV.DataL (flat coverTreeC l) := flat_data codecCoverTree.data l

structure R22Var where
  n_ : Int
  type_ : Tm
instance : Inhabited R22Var := ⟨⟨default, default⟩⟩
def r22VarL (x : R22Var) : List AV := [ai x.n_, ai x.type_.k, ai x.type_.n, .sl (flat tmCells x.type_.sub) (List.length x.type_.sub) .no]
def r22VarA (x : R22Var) : AV := .agg (r22VarL x)
theorem codecR22Var : Codec r22VarL 4 := ⟨fun _ => rfl, fun _ => ⟨trivial, trivial, trivial, ⟨trivial, dT _⟩, trivial⟩, fun _ => rfl⟩
theorem dR22Var (l : List R22Var) : AV.DataL (flat r22VarL l) := flat_data codecR22Var.data l

structure R23Solved where
  n_ : Int
  t_ : Tm
instance : Inhabited R23Solved := ⟨⟨default, default⟩⟩
def r23SolvedL (x : R23Solved) : List AV := [ai x.n_, ai x.t_.k, ai x.t_.n, .sl (flat tmCells x.t_.sub) (List.length x.t_.sub) .no]
def r23SolvedA (x : R23Solved) : AV := .agg (r23SolvedL x)
theorem codecR23Solved : Codec r23SolvedL 4 := ⟨fun _ => rfl, fun _ => ⟨trivial, trivial, trivial, ⟨trivial, dT _⟩, trivial⟩, fun _ => rfl⟩
theorem dR23Solved (l : List R23Solved) : AV.DataL (flat r23SolvedL l) := flat_data codecR23Solved.data l

mutual
inductive R26Kid where
  | mk (con_ : Int) (yes_ : Bool) (args_ : List Int) (solved_ : List R23Solved) (t_ : R26Tree)
inductive R26Tree where
  | mk (kind_ : Int) (row_ : Int) (var_ : Int) (vars_ : List R22Var) (binds_ : List Tm) (args_ : List Tm) (kids_ : List R26Kid)
end
def R26Kid.con_ : R26Kid → Int | .mk x _ _ _ _ => x
def R26Kid.yes_ : R26Kid → Bool | .mk _ x _ _ _ => x
def R26Kid.args_ : R26Kid → List Int | .mk _ _ x _ _ => x
def R26Kid.solved_ : R26Kid → List R23Solved | .mk _ _ _ x _ => x
def R26Kid.t_ : R26Kid → R26Tree | .mk _ _ _ _ x => x
def R26Tree.kind_ : R26Tree → Int | .mk x _ _ _ _ _ _ => x
def R26Tree.row_ : R26Tree → Int | .mk _ x _ _ _ _ _ => x
def R26Tree.var_ : R26Tree → Int | .mk _ _ x _ _ _ _ => x
def R26Tree.vars_ : R26Tree → List R22Var | .mk _ _ _ x _ _ _ => x
def R26Tree.binds_ : R26Tree → List Tm | .mk _ _ _ _ x _ _ => x
def R26Tree.args_ : R26Tree → List Tm | .mk _ _ _ _ _ x _ => x
def R26Tree.kids_ : R26Tree → List R26Kid | .mk _ _ _ _ _ _ x => x
instance : Inhabited R26Tree := ⟨.mk default default default default default default default⟩
instance : Inhabited R26Kid := ⟨.mk default default default default default⟩
mutual
def r26KidC : R26Kid → List AV
  | .mk con_ yes_ args_ solved_ t_ => [ai con_, ab yes_, .sl (flat intC args_) (List.length args_) .no, .sl (flat r23SolvedL solved_) (List.length solved_) .no] ++ r26TreeC t_
def r26TreeC : R26Tree → List AV
  | .mk kind_ row_ var_ vars_ binds_ args_ kids_ => [ai kind_, ai row_, ai var_, .sl (flat r22VarL vars_) (List.length vars_) .no, .sl (flat tmCells binds_) (List.length binds_) .no, .sl (flat tmCells args_) (List.length args_) .no, .sl (r26KidsC kids_) kids_.length .no]
def r26KidsC : List R26Kid → List AV
  | [] => []
  | t :: l => r26KidC t ++ r26KidsC l
end
theorem r26Kids_flat : ∀ l : List R26Kid, r26KidsC l = flat r26KidC l
  | [] => rfl
  | t :: l => by simp only [r26KidsC, r26Kids_flat l, flat, List.flatMap_cons]
def r26TreeL (x : R26Tree) : List AV := [ai x.kind_, ai x.row_, ai x.var_, .sl (flat r22VarL x.vars_) (List.length x.vars_) .no, .sl (flat tmCells x.binds_) (List.length x.binds_) .no, .sl (flat tmCells x.args_) (List.length x.args_) .no, .sl (flat r26KidC x.kids_) (List.length x.kids_) .no]
theorem r26Tree_eq (x : R26Tree) : r26TreeC x = r26TreeL x := by
  cases x; simp only [r26TreeC, r26TreeL, R26Tree.kind_, R26Tree.row_, R26Tree.var_, R26Tree.vars_, R26Tree.binds_, R26Tree.args_, R26Tree.kids_, r26Kids_flat, List.cons_append, List.nil_append]
def r26TreeA (x : R26Tree) : AV := .agg (r26TreeL x)
def r26KidL (x : R26Kid) : List AV := [ai x.con_, ab x.yes_, .sl (flat intC x.args_) (List.length x.args_) .no, .sl (flat r23SolvedL x.solved_) (List.length x.solved_) .no, ai x.t_.kind_, ai x.t_.row_, ai x.t_.var_, .sl (flat r22VarL x.t_.vars_) (List.length x.t_.vars_) .no, .sl (flat tmCells x.t_.binds_) (List.length x.t_.binds_) .no, .sl (flat tmCells x.t_.args_) (List.length x.t_.args_) .no, .sl (flat r26KidC x.t_.kids_) (List.length x.t_.kids_) .no]
theorem r26Kid_eq (x : R26Kid) : r26KidC x = r26KidL x := by
  cases x; simp only [r26KidC, r26KidL, R26Kid.con_, R26Kid.yes_, R26Kid.args_, R26Kid.solved_, R26Kid.t_, r26Tree_eq, r26TreeL, r26Kids_flat, List.cons_append, List.nil_append]
def r26KidA (x : R26Kid) : AV := .agg (r26KidL x)
mutual
theorem r26Kid_data : ∀ t : R26Kid, AV.DataL (r26KidC t)
  | .mk con_ yes_ args_ solved_ t_ => by rw [r26KidC]; exact DataL_append (⟨trivial, trivial, ⟨trivial, dI _⟩, ⟨trivial, dR23Solved _⟩, trivial⟩) (r26Tree_data t_)
theorem r26Tree_data : ∀ t : R26Tree, AV.DataL (r26TreeC t)
  | .mk kind_ row_ var_ vars_ binds_ args_ kids_ => by rw [r26TreeC]; exact ⟨trivial, trivial, trivial, ⟨trivial, dR22Var _⟩, ⟨trivial, dT _⟩, ⟨trivial, dT _⟩, ⟨trivial, r26Kids_data kids_⟩, trivial⟩
theorem r26Kids_data : ∀ l : List R26Kid, AV.DataL (r26KidsC l)
  | [] => trivial
  | t :: l => by rw [r26KidsC]; exact DataL_append (r26Kid_data t) (r26Kids_data l)
end
theorem codecR26Kid : Codec r26KidC 11 := ⟨fun x => by rw [r26Kid_eq]; rfl, r26Kid_data, fun x => by rw [r26Kid_eq]; rfl⟩
theorem dR26Kid (l : List R26Kid) : AV.DataL (flat r26KidC l) := flat_data codecR26Kid.data l
theorem codecR26Tree : Codec r26TreeC 7 := ⟨fun x => by rw [r26Tree_eq]; rfl, r26Tree_data, fun x => by rw [r26Tree_eq]; rfl⟩
theorem dR26Tree (l : List R26Tree) : AV.DataL (flat r26TreeC l) := flat_data codecR26Tree.data l

structure ClauseDone where
  row_ : Int
  binds_ : List Tm
  term_ : Tm
instance : Inhabited ClauseDone := ⟨⟨default, default, default⟩⟩
def clauseDoneL (x : ClauseDone) : List AV := [ai x.row_, .sl (flat tmCells x.binds_) (List.length x.binds_) .no, ai x.term_.k, ai x.term_.n, .sl (flat tmCells x.term_.sub) (List.length x.term_.sub) .no]
def clauseDoneA (x : ClauseDone) : AV := .agg (clauseDoneL x)
theorem codecClauseDone : Codec clauseDoneL 5 := ⟨fun _ => rfl, fun _ => ⟨trivial, ⟨trivial, dT _⟩, trivial, trivial, ⟨trivial, dT _⟩, trivial⟩, fun _ => rfl⟩
theorem dClauseDone (l : List ClauseDone) : AV.DataL (flat clauseDoneL l) := flat_data codecClauseDone.data l

structure L17Case where
  l_ : List Ent
  context_ : List Tm
  names_ : List Int
  types_ : List Tm
  fuel_ : Int
instance : Inhabited L17Case := ⟨⟨default, default, default, default, default⟩⟩
def l17CaseL (x : L17Case) : List AV := [.sl (flat entL x.l_) (List.length x.l_) .no, .sl (flat tmCells x.context_) (List.length x.context_) .no, .sl (flat intC x.names_) (List.length x.names_) .no, .sl (flat tmCells x.types_) (List.length x.types_) .no, ai x.fuel_]
def l17CaseA (x : L17Case) : AV := .agg (l17CaseL x)
theorem codecL17Case : Codec l17CaseL 5 := ⟨fun _ => rfl, fun _ => ⟨⟨trivial, dE _⟩, ⟨trivial, dT _⟩, ⟨trivial, dI _⟩, ⟨trivial, dT _⟩, trivial, trivial⟩, fun _ => rfl⟩
theorem dL17Case (l : List L17Case) : AV.DataL (flat l17CaseL l) := flat_data codecL17Case.data l

structure IotaRules where
  l_ : List Ent
  parts_ : List Con'
instance : Inhabited IotaRules := ⟨⟨default, default⟩⟩
def iotaRulesL (x : IotaRules) : List AV := [.sl (flat entL x.l_) (List.length x.l_) .no, .sl (flat conL x.parts_) (List.length x.parts_) .no]
def iotaRulesA (x : IotaRules) : AV := .agg (iotaRulesL x)
theorem codecIotaRules : Codec iotaRulesL 2 := ⟨fun _ => rfl, fun _ => ⟨⟨trivial, dE _⟩, ⟨trivial, dC _⟩, trivial⟩, fun _ => rfl⟩
theorem dIotaRules (l : List IotaRules) : AV.DataL (flat iotaRulesL l) := flat_data codecIotaRules.data l

inductive PatternPat where
  | mk (kind_ : Int) (n_ : Int) (at_ : Int) (sub_ : List PatternPat) (t_ : Tm)
def PatternPat.kind_ : PatternPat → Int | .mk x _ _ _ _ => x
def PatternPat.n_ : PatternPat → Int | .mk _ x _ _ _ => x
def PatternPat.at_ : PatternPat → Int | .mk _ _ x _ _ => x
def PatternPat.sub_ : PatternPat → List PatternPat | .mk _ _ _ x _ => x
def PatternPat.t_ : PatternPat → Tm | .mk _ _ _ _ x => x
instance : Inhabited PatternPat := ⟨.mk default default default default default⟩
mutual
def patternPatC : PatternPat → List AV
  | .mk kind_ n_ at_ sub_ t_ => [ai kind_, ai n_, ai at_, .sl (patternPatsC sub_) sub_.length .no, ai t_.k, ai t_.n, .sl (flat tmCells t_.sub) (List.length t_.sub) .no]
def patternPatsC : List PatternPat → List AV
  | [] => []
  | t :: l => patternPatC t ++ patternPatsC l
end
theorem patternPats_flat : ∀ l : List PatternPat, patternPatsC l = flat patternPatC l
  | [] => rfl
  | t :: l => by simp only [patternPatsC, patternPats_flat l, flat, List.flatMap_cons]
def patternPatL (x : PatternPat) : List AV := [ai x.kind_, ai x.n_, ai x.at_, .sl (flat patternPatC x.sub_) (List.length x.sub_) .no, ai x.t_.k, ai x.t_.n, .sl (flat tmCells x.t_.sub) (List.length x.t_.sub) .no]
theorem patternPat_eq (x : PatternPat) : patternPatC x = patternPatL x := by
  cases x; simp only [patternPatC, patternPatL, PatternPat.kind_, PatternPat.n_, PatternPat.at_, PatternPat.sub_, PatternPat.t_, patternPats_flat, List.cons_append, List.nil_append]
def patternPatA (x : PatternPat) : AV := .agg (patternPatL x)
mutual
theorem patternPat_data : ∀ t : PatternPat, AV.DataL (patternPatC t)
  | .mk kind_ n_ at_ sub_ t_ => by rw [patternPatC]; exact ⟨trivial, trivial, trivial, ⟨trivial, patternPats_data sub_⟩, trivial, trivial, ⟨trivial, dT _⟩, trivial⟩
theorem patternPats_data : ∀ l : List PatternPat, AV.DataL (patternPatsC l)
  | [] => trivial
  | t :: l => by rw [patternPatsC]; exact DataL_append (patternPat_data t) (patternPats_data l)
end
theorem codecPatternPat : Codec patternPatC 7 := ⟨fun x => by rw [patternPat_eq]; rfl, patternPat_data, fun x => by rw [patternPat_eq]; rfl⟩
theorem dPatternPat (l : List PatternPat) : AV.DataL (flat patternPatC l) := flat_data codecPatternPat.data l

structure ClauseClause where
  pats_ : List PatternPat
  has_ : Bool
  body_ : Tm
instance : Inhabited ClauseClause := ⟨⟨default, default, default⟩⟩
def clauseClauseL (x : ClauseClause) : List AV := [.sl (flat patternPatC x.pats_) (List.length x.pats_) .no, ab x.has_, ai x.body_.k, ai x.body_.n, .sl (flat tmCells x.body_.sub) (List.length x.body_.sub) .no]
def clauseClauseA (x : ClauseClause) : AV := .agg (clauseClauseL x)
theorem codecClauseClause : Codec clauseClauseL 5 := ⟨fun _ => rfl, fun _ => ⟨⟨trivial, dPatternPat _⟩, trivial, trivial, trivial, ⟨trivial, dT _⟩, trivial⟩, fun _ => rfl⟩
theorem dClauseClause (l : List ClauseClause) : AV.DataL (flat clauseClauseL l) := flat_data codecClauseClause.data l

inductive R24Pat where
  | mk (kind_ : Int) (n_ : Int) (at_ : Int) (sub_ : List R24Pat) (t_ : Tm)
def R24Pat.kind_ : R24Pat → Int | .mk x _ _ _ _ => x
def R24Pat.n_ : R24Pat → Int | .mk _ x _ _ _ => x
def R24Pat.at_ : R24Pat → Int | .mk _ _ x _ _ => x
def R24Pat.sub_ : R24Pat → List R24Pat | .mk _ _ _ x _ => x
def R24Pat.t_ : R24Pat → Tm | .mk _ _ _ _ x => x
instance : Inhabited R24Pat := ⟨.mk default default default default default⟩
mutual
def r24PatC : R24Pat → List AV
  | .mk kind_ n_ at_ sub_ t_ => [ai kind_, ai n_, ai at_, .sl (r24PatsC sub_) sub_.length .no, ai t_.k, ai t_.n, .sl (flat tmCells t_.sub) (List.length t_.sub) .no]
def r24PatsC : List R24Pat → List AV
  | [] => []
  | t :: l => r24PatC t ++ r24PatsC l
end
theorem r24Pats_flat : ∀ l : List R24Pat, r24PatsC l = flat r24PatC l
  | [] => rfl
  | t :: l => by simp only [r24PatsC, r24Pats_flat l, flat, List.flatMap_cons]
def r24PatL (x : R24Pat) : List AV := [ai x.kind_, ai x.n_, ai x.at_, .sl (flat r24PatC x.sub_) (List.length x.sub_) .no, ai x.t_.k, ai x.t_.n, .sl (flat tmCells x.t_.sub) (List.length x.t_.sub) .no]
theorem r24Pat_eq (x : R24Pat) : r24PatC x = r24PatL x := by
  cases x; simp only [r24PatC, r24PatL, R24Pat.kind_, R24Pat.n_, R24Pat.at_, R24Pat.sub_, R24Pat.t_, r24Pats_flat, List.cons_append, List.nil_append]
def r24PatA (x : R24Pat) : AV := .agg (r24PatL x)
mutual
theorem r24Pat_data : ∀ t : R24Pat, AV.DataL (r24PatC t)
  | .mk kind_ n_ at_ sub_ t_ => by rw [r24PatC]; exact ⟨trivial, trivial, trivial, ⟨trivial, r24Pats_data sub_⟩, trivial, trivial, ⟨trivial, dT _⟩, trivial⟩
theorem r24Pats_data : ∀ l : List R24Pat, AV.DataL (r24PatsC l)
  | [] => trivial
  | t :: l => by rw [r24PatsC]; exact DataL_append (r24Pat_data t) (r24Pats_data l)
end
theorem codecR24Pat : Codec r24PatC 7 := ⟨fun x => by rw [r24Pat_eq]; rfl, r24Pat_data, fun x => by rw [r24Pat_eq]; rfl⟩
theorem dR24Pat (l : List R24Pat) : AV.DataL (flat r24PatC l) := flat_data codecR24Pat.data l

structure R28Clause where
  pats_ : List R24Pat
  has_ : Bool
  body_ : Tm
instance : Inhabited R28Clause := ⟨⟨default, default, default⟩⟩
def r28ClauseL (x : R28Clause) : List AV := [.sl (flat r24PatC x.pats_) (List.length x.pats_) .no, ab x.has_, ai x.body_.k, ai x.body_.n, .sl (flat tmCells x.body_.sub) (List.length x.body_.sub) .no]
def r28ClauseA (x : R28Clause) : AV := .agg (r28ClauseL x)
theorem codecR28Clause : Codec r28ClauseL 5 := ⟨fun _ => rfl, fun _ => ⟨⟨trivial, dR24Pat _⟩, trivial, trivial, trivial, ⟨trivial, dT _⟩, trivial⟩, fun _ => rfl⟩
theorem dR28Clause (l : List R28Clause) : AV.DataL (flat r28ClauseL l) := flat_data codecR28Clause.data l

structure IotaMaker where
  e_ : Int
instance : Inhabited IotaMaker := ⟨⟨default⟩⟩
def iotaMakerL (x : IotaMaker) : List AV := [ai x.e_]
def iotaMakerA (x : IotaMaker) : AV := .agg (iotaMakerL x)
theorem codecIotaMaker : Codec iotaMakerL 1 := ⟨fun _ => rfl, fun _ => ⟨trivial, trivial⟩, fun _ => rfl⟩
theorem dIotaMaker (l : List IotaMaker) : AV.DataL (flat iotaMakerL l) := flat_data codecIotaMaker.data l

end Go.Ab

namespace Go.Proofs.YteiddempdecleaaGreat
open Go Go.Ab

theorem bcases (b : Bool) : b = true ∨ b = false := by cases b <;> simp
theorem gapp_nil {α : Type} {B : Nat} {l m r : List α} (h : gapp B l m = some r) (hm : m.length = 0) : l = r := by
  obtain ⟨_, rfl⟩ := gapp_spec h
  rw [List.length_eq_zero_iff.1 hm, List.append_nil]
theorem forall_nil {α : Type} {p : α → Prop} : ∀ x ∈ ([] : List α), p x := fun _ h => nomatch h
theorem forall_cons {α : Type} {p : α → Prop} {a : α} {l : List α} (h : p a) (k : ∀ x ∈ l, p x) : ∀ x ∈ a :: l, p x := by
  intro x hx
  rcases List.mem_cons.1 hx with rfl | hx
  · exact h
  · exact k x hx
theorem o0 : OL Tryz.prog [] [] := OL.nil
section
variable {f : FuncId} {fn : Func} {H0 H1 : List Blk} {args : List AV} {res : AV} {nst : Nat} {os : List Orc} {ob : List Ob}
theorem tF (q : Tryz.prog.funcs[f]? = some fn ∧ fn.body.isNone = false) (m : Nat) (keep : List Nat) (k : OL Tryz.prog os ob) (h : kfin Tryz.prog prim H0.length fn 3000 (.run (bod fn)) [] (args ++ List.replicate (fn.ntmps - args.length) (.val undef)) (st0 H0) ((nos m ++ os).reverseAux []) [] keep [] false = some (res, H1, ob.reverseAux [])) : CTri Tryz.prog f H0 args res H1 0 := OL.toFin prim_ok mixed q m [] keep [] false k h (Nat.le_refl _)
theorem tG (q : Tryz.prog.funcs[f]? = some fn ∧ fn.body.isNone = false) (m : Nat) (rs : List (Option Nat × Nat × Nat)) (keep ks : List Nat) (own : Bool) (k : OL Tryz.prog os ob) (h : kfin Tryz.prog prim H0.length fn 3000 (.run (bod fn)) [] (args ++ List.replicate (fn.ntmps - args.length) (.val undef)) (st0 H0) ((nos m ++ os).reverseAux []) rs keep ks own = some (res, H1, ob.reverseAux [])) (hn : nst ≤ ks.length) : CTri Tryz.prog f H0 args res H1 nst := OL.toFin prim_ok mixed q m rs keep ks own k h hn
theorem tH (q : Tryz.prog.funcs[f]? = some fn ∧ fn.body.isNone = false) (m : Nat) (rs : List (Option Nat × Nat × Nat)) (keep ks live : List Nat) (k : OL Tryz.prog os ob) {c : Code} {fs' : List Fr} {E : (Nat → Value) → List AV} {S : LSt} (hk : ∀ j, Dl Tryz.prog H0.length c (E j) S (frameQ Tryz.prog H0.length (FinQ Tryz.prog H0.length fn res H1 nst) fs')) (h : ∀ j, khead Tryz.prog prim H0.length 3000 (.run (bod fn)) [] (args ++ List.replicate (fn.ntmps - args.length) (.val undef)) (st0 H0) ((nos m ++ os).reverseAux []) rs keep ks live j = some (c, fs', E j, S, ob.reverseAux [])) : CTri Tryz.prog f H0 args res H1 nst := OL.toHead prim_ok mixed q m rs keep ks live k hk h
variable {na : Nb} {Q : AX → List AV → LSt → Prop} {c c' : Code} {fs fs' : List Fr} {env : List AV} {s S : LSt}
theorem lH (m : Nat) (rs : List (Option Nat × Nat × Nat)) (keep ks live : List Nat) (k : OL Tryz.prog os ob) {E : (Nat → Value) → List AV} (hk : ∀ j, Dl Tryz.prog na c' (E j) S (frameQ Tryz.prog na Q fs')) (h : ∀ j, khead Tryz.prog prim na.n 3000 (.run c) (.loop c :: fs) env s ((nos m ++ os).reverseAux []) rs keep ks live j = some (c', fs', E j, S, ob.reverseAux [])) : Dl Tryz.prog na c env s (frameQ Tryz.prog na Q fs) := OL.lHead prim_ok mixed m rs keep ks live k hk h
theorem lF (m : Nat) (keep : List Nat) (k : OL Tryz.prog os ob) (h : kfin Tryz.prog prim na.n fn 3000 (.run c) (.loop c :: fs) env s ((nos m ++ os).reverseAux []) [] keep [] false = some (res, H1, ob.reverseAux [])) : Dl Tryz.prog na c env s (frameQ Tryz.prog na (FinQ Tryz.prog na fn res H1 0) fs) := OL.lFin prim_ok mixed m [] keep [] false k h (Nat.le_refl _)
theorem lG (m : Nat) (rs : List (Option Nat × Nat × Nat)) (keep ks : List Nat) (own : Bool) (k : OL Tryz.prog os ob) (h : kfin Tryz.prog prim na.n fn 3000 (.run c) (.loop c :: fs) env s ((nos m ++ os).reverseAux []) rs keep ks own = some (res, H1, ob.reverseAux [])) (hn : nst ≤ ks.length) : Dl Tryz.prog na c env s (frameQ Tryz.prog na (FinQ Tryz.prog na fn res H1 nst) fs) := OL.lFin prim_ok mixed m rs keep ks own k h hn
end
theorem info27 : Tryz.prog.info? 27 = some Tryz.t27 := by kernel_rfl
theorem apN23 {l m r : List Tm} (h : gapp 40 l m = some r) (hm : m.length = 0) : Ob.ok Tryz.prog (.app 23 23 (flat tmCells l) (flat tmCells m) (flat tmCells r) l.length m.length r.length 3 true) := app_none' codecT Tryz.underlying23 info27 rfl rfl rfl (by decide) rfl (by decide) h hm
theorem info3 : Tryz.prog.info? 3 = some Tryz.t3 := by kernel_rfl
theorem apN34 {l m r : List Int} (h : gapp 8 l m = some r) (hm : m.length = 0) : Ob.ok Tryz.prog (.app 34 34 (flat intC l) (flat intC m) (flat intC r) l.length m.length r.length 1 true) := app_none' codecI Tryz.underlying34 info3 rfl rfl rfl (by decide) rfl (by decide) h hm
theorem apQ23 {n : Nat} (h : n = 0) : Ob.ok Tryz.prog (.same 23 23 n) := same_ok Tryz.underlying23 info27 h
theorem info9 : Tryz.prog.info? 9 = some Tryz.t9 := by kernel_rfl
theorem apS116 {l m r : List ByteArray} (h : gapp 16 l m = some r) (hm : m.length ≠ 0) : Ob.ok Tryz.prog (.app 116 116 (flat strC l) (flat strC m) (flat strC r) l.length m.length r.length 1 false) := app_some codecS Tryz.underlying116 info9 rfl rfl rfl (by decide) rfl (by decide) h hm
theorem info36 : Tryz.prog.info? 36 = some Tryz.t36 := by kernel_rfl
theorem apS22 {l m r : List Ent} (h : gapp 192 l m = some r) (hm : m.length ≠ 0) : Ob.ok Tryz.prog (.app 22 22 (flat entL l) (flat entL m) (flat entL r) l.length m.length r.length 15 false) := app_some codecE Tryz.underlying22 info36 rfl rfl rfl (by decide) rfl (by decide) h hm
theorem apS23 {l m r : List Tm} (h : gapp 40 l m = some r) (hm : m.length ≠ 0) : Ob.ok Tryz.prog (.app 23 23 (flat tmCells l) (flat tmCells m) (flat tmCells r) l.length m.length r.length 3 false) := app_some codecT Tryz.underlying23 info27 rfl rfl rfl (by decide) rfl (by decide) h hm
theorem info270 : Tryz.prog.info? 270 = some Tryz.t270 := by kernel_rfl
theorem apS230 {l m r : List Rec'} (h : gapp 56 l m = some r) (hm : m.length ≠ 0) : Ob.ok Tryz.prog (.app 230 230 (flat recL l) (flat recL m) (flat recL r) l.length m.length r.length 3 false) := app_some codecR Tryz.underlying230 info270 rfl rfl rfl (by decide) rfl (by decide) h hm
theorem apS34 {l m r : List Int} (h : gapp 8 l m = some r) (hm : m.length ≠ 0) : Ob.ok Tryz.prog (.app 34 34 (flat intC l) (flat intC m) (flat intC r) l.length m.length r.length 1 false) := app_some codecI Tryz.underlying34 info3 rfl rfl rfl (by decide) rfl (by decide) h hm
theorem apW23 {m r : List Tm} (h : gapp 40 ([] : List Tm) m = some r) (hm : m.length ≠ 0) : Ob.ok Tryz.prog (.mk (rapp Tryz.prog 23 23 (none) [] 0 none (flat tmCells m) m.length) (flat tmCells r) r.length) := rappN_ok codecT Tryz.underlying23 info27 rfl rfl rfl (by decide) rfl (by decide) h hm
theorem ix116 {l : List ByteArray} {i : Int} {o : Own} {x : ByteArray} (h : gidx l i = some x) : aindexAddr Tryz.prog 116 (.sl (flat strC l) l.length o) (ai i) = some (.ip (strC x ++ flat strC (l.drop (i.toNat + 1)))) := by
  have := ix_ok codecS (k := .i64) Tryz.underlying116 info9 rfl h (o := o)
  exact this
theorem info232 : Tryz.prog.info? 232 = some Tryz.t232 := by kernel_rfl
theorem ix120 {l : List Con'} {i : Int} {o : Own} {x : Con'} (h : gidx l i = some x) : aindexAddr Tryz.prog 120 (.sl (flat conL l) l.length o) (ai i) = some (.ip (conL x ++ flat conL (l.drop (i.toNat + 1)))) := by
  have := ix_ok codecC (k := .i64) Tryz.underlying120 info232 rfl h (o := o)
  exact this
theorem ix22 {l : List Ent} {i : Int} {o : Own} {x : Ent} (h : gidx l i = some x) : aindexAddr Tryz.prog 22 (.sl (flat entL l) l.length o) (ai i) = some (.ip (entL x ++ flat entL (l.drop (i.toNat + 1)))) := by
  have := ix_ok codecE (k := .i64) Tryz.underlying22 info36 rfl h (o := o)
  exact this
theorem ix23 {l : List Tm} {i : Int} {o : Own} {x : Tm} (h : gidx l i = some x) : aindexAddr Tryz.prog 23 (.sl (flat tmCells l) l.length o) (ai i) = some (.ip (tmL x ++ flat tmCells (l.drop (i.toNat + 1)))) := by
  have := ix_ok codecT (k := .i64) Tryz.underlying23 info27 rfl h (o := o)
  rw [tm_eq] at this
  exact this
theorem ix230 {l : List Rec'} {i : Int} {o : Own} {x : Rec'} (h : gidx l i = some x) : aindexAddr Tryz.prog 230 (.sl (flat recL l) l.length o) (ai i) = some (.ip (recL x ++ flat recL (l.drop (i.toNat + 1)))) := by
  have := ix_ok codecR (k := .i64) Tryz.underlying230 info270 rfl h (o := o)
  exact this
theorem ix34 {l : List Int} {i : Int} {o : Own} {x : Int} (h : gidx l i = some x) : aindexAddr Tryz.prog 34 (.sl (flat intC l) l.length o) (ai i) = some (.ip (intC x ++ flat intC (l.drop (i.toNat + 1)))) := by
  have := ix_ok codecI (k := .i64) Tryz.underlying34 info3 rfl h (o := o)
  exact this
theorem ixArr313 {l : List Int} {i x : Int} (h : gidx l i = some x) (hl : l.length = 9) : aindex Tryz.prog 313 (.agg (flat intC l)) (ai i) = some (ai x) := ixArr_ok (k := .i64) Tryz.underlying313 (q := (false, 1)) (by kernel_rfl) rfl hl h
theorem ixM120 {b n k c z : Nat} {i : Int} (h : gchk n i = some k) : aindexAddr Tryz.prog 120 (.ms b 0 n c z) (ai i) = some (.mp b (k * 3)) := chk_ok Tryz.underlying120 info232 rfl h
theorem ixStr9 {s : ByteArray} {i x : Int} (h : gbyte s i = some x) : aindex Tryz.prog 9 (at' s) (ai i) = some (.val (.int .u8 x)) := ixStr_ok Tryz.underlying9 h
theorem lk285 (m : List (ByteArray × Int)) (k : ByteArray) : Ob.ok Tryz.prog (.lk 285 (smap m) (at' k) false (ai (mget m k))) := lk_ok Tryz.underlying285 Tryz.underlying9 info3 rfl m k
theorem mkM120 {n : Int} {l : List Con'} (h : gmk 72 (default : Con') n = some l) : Ob.ok Tryz.prog (.mk (amakems Tryz.prog 120 (ai n) (ai n)) (flat conL l) l.length) := mk_ok Tryz.underlying120 info232 rfl rfl rfl (by decide) rfl (by decide) (by rfl) h
theorem mu285 (m : List (ByteArray × Int)) (k : ByteArray) (v : Int) : Ob.ok Tryz.prog (.mu 285 (smap m) (at' k) (ai v) (smap (mset m k v))) := mu_ok Tryz.underlying285 Tryz.underlying9 m k v
theorem slFrom23 {l r : List Tm} {a : Int} (h : gsl l a l.length = some r) : aslice Tryz.prog 23 (.sl (flat tmCells l) l.length .no) (some (ai a)) none none = some (.sl (flat tmCells r) r.length .no) := sliceFrom_ok codecT Tryz.underlying23 info27 rfl h
theorem slFrom34 {l r : List Int} {a : Int} (h : gsl l a l.length = some r) : aslice Tryz.prog 34 (.sl (flat intC l) l.length .no) (some (ai a)) none none = some (.sl (flat intC r) r.length .no) := sliceFrom_ok codecI Tryz.underlying34 info3 rfl h
theorem slTo23 {l r : List Tm} {b : Int} (h : gsl l 0 b = some r) : aslice Tryz.prog 23 (.sl (flat tmCells l) l.length .no) none (some (ai b)) none = some (.sl (flat tmCells r) r.length .no) := sliceTo_ok codecT Tryz.underlying23 info27 rfl h
theorem slToO23 {l r : List Tm} {b : Int} {o : Own} (h : gsl l 0 b = some r) : ∃ a0, aslice Tryz.prog 23 (.sl (flat tmCells l) l.length o) none (some (ai b)) none = some a0 ∧ a0.frz = .sl (flat tmCells r) r.length .no := sliceToO_ok codecT Tryz.underlying23 info27 rfl h
end Go.Proofs.YteiddempdecleaaGreat

namespace Go.Proofs.YteiddempdecleaaGreat
open Go Go.Ab

/- scholium/term.size -/
mutual
def e271 : Nat → Tm → Int →  Option (Int)
  | 0, _, _ => none
  | qq + 1, p0, p1 =>
    e271L62606 qq p0 (w64 (p1 + 1)) 0
def e271L62606 : Nat → Tm → Int → Int →  Option (Int)
  | 0, _, _, _ => none
  | qq + 1, p0, v1, v12 =>
    if decide (v12 < (List.length p0.sub : Int)) = true then
      (gidx p0.sub v12) >>= fun x2 =>
      if decide (v1 > 8192) = true then
        some v1
      else
        (e271 qq x2 v1) >>= fun r5 =>
        e271L62606 qq p0 r5 (w64 (v12 + 1))
    else
      some v1
end
def g271L62606E0 (j : Nat → Value) (p0 : Tm) (v1 : Int) (v12 : Int) : List AV := sp j 23 0 [(1, ai v1), (10, .sl (flat tmCells p0.sub) (List.length p0.sub) .no), (11, ai (List.length p0.sub : Int)), (12, ai v12)]
def g271L62606S0 (p0 : Tm) (v1 : Int) (v12 : Int) : LSt := ⟨[], 0, [], 0, []⟩
theorem q271 : Tryz.prog.funcs[271]? = some Tryz.f271 ∧ Tryz.f271.body.isNone = false := ⟨Tryz.func271, by kernel_rfl⟩
theorem k271 {p0 : Tm} {p1 : Int} {r : Int} (h : CTri Tryz.prog 271 [] [tmA p0, ai p1] (ai r) [] 0) : CT Tryz.prog 271 [] [tmA p0, ai p1] (ai r) [] 0 := ⟨h, ⟨⟨trivial, trivial, ⟨trivial, dT _⟩, trivial⟩, trivial, trivial⟩, forall_nil, trivial, forall_nil⟩
theorem a271_271L62606 : ∀ qq : Nat, (∀ (p0 : Tm) (p1 : Int) (r : Int), e271 qq p0 p1 = some r → CT Tryz.prog 271 [] [tmA p0, ai p1] (ai r) [] 0) ∧ (∀ (p0 : Tm) (v1 : Int) (v12 : Int) (r : Int), e271L62606 qq p0 v1 v12 = some r → (∀ j, Dl Tryz.prog 0 (inn (inn (rgt (lft (rgt (rgt (bod Tryz.f271))))))) (g271L62606E0 j p0 v1 v12) (g271L62606S0 p0 v1 v12) (frameQ Tryz.prog 0 (FinQ Tryz.prog 0 Tryz.f271 (ai r) [] 0) [.blk 0, .seq (rgt (rgt (rgt (bod Tryz.f271))))]))) := by
  intro qq
  induction qq with
  | zero =>
    exact ⟨fun _ _ _ h => nn h, fun _ _ _ _ h => nn h⟩
  | succ qq ih =>
    obtain ⟨ih271, ih271L62606⟩ := ih
    refine ⟨?_, ?_⟩
    · intro p0 p1 r h
      rw [e271] at h
      exact k271 (tH q271 3 [] [] [] [1, 10, 11, 12] (oD (dT p0.sub) o0) (ih271L62606 _ _ _ _ h) (fun j => by kernel_rfl))
    · intro p0 v1 v12 r h
      rw [e271L62606] at h
      rcases spl h with ⟨h1, h⟩ | ⟨h1, h⟩
      · obtain ⟨x2, h3, h⟩ := obind h
        have k := oA 0 (ix23 (o := .no) h3) <| oB 0 h1 o0
        rcases spl h with ⟨h4, h⟩ | ⟨h4, h⟩
        · obtain rfl := sj h
          exact fun j => lF 0 [] (oB 2 h4 k) (by kernel_rfl)
        · obtain ⟨r5, h6, h⟩ := obind h
          exact fun j => lH 1 [] [] [] [1, 10, 11, 12] (oD (dT p0.sub) <| oC 1 [] (ih271 _ _ _ h6) <| oB 2 h4 k) (ih271L62606 _ _ _ _ h) (fun j => by kernel_rfl)
      · obtain rfl := sj h
        exact fun j => lF 0 [] (oB 0 h1 o0) (by kernel_rfl)
theorem c271 {qq : Nat} {p0 : Tm} {p1 : Int} {r : Int} (h : e271 qq p0 p1 = some r) : CT Tryz.prog 271 [] [tmA p0, ai p1] (ai r) [] 0 := (a271_271L62606 _).1 _ _ _ h

end Go.Proofs.YteiddempdecleaaGreat

namespace Go.Proofs.YteiddempdecleaaGreat
open Go Go.Ab

/- scholium/term.Size -/
def e229 (qq : Nat) (p0 : Tm) : Option (Int) :=
  (e271 qq p0 0) >>= fun r1 =>
  some r1
theorem q229 : Tryz.prog.funcs[229]? = some Tryz.f229 ∧ Tryz.f229.body.isNone = false := ⟨Tryz.func229, by kernel_rfl⟩
theorem k229 {p0 : Tm} {r : Int} (h : CTri Tryz.prog 229 [] [tmA p0] (ai r) [] 0) : CT Tryz.prog 229 [] [tmA p0] (ai r) [] 0 := ⟨h, ⟨⟨trivial, trivial, ⟨trivial, dT _⟩, trivial⟩, trivial⟩, forall_nil, trivial, forall_nil⟩
theorem c229 {qq : Nat} {p0 : Tm} {r : Int} (h : e229 qq p0 = some r) : CT Tryz.prog 229 [] [tmA p0] (ai r) [] 0 := by
  unfold e229 at h
  obtain ⟨r1, h2, h⟩ := obind h
  obtain rfl := sj h
  exact k229 (tF q229 0 [] (oC 1 [] (c271 h2) o0) (by kernel_rfl))

end Go.Proofs.YteiddempdecleaaGreat

namespace Go.Proofs.YteiddempdecleaaGreat
open Go Go.Ab

/- scholium/term.deep -/
mutual
def e230 : Nat → Tm → Int →  Option (Int)
  | 0, _, _ => none
  | qq + 1, p0, p1 =>
    if decide (p1 > 128) = true then
      some p1
    else
      e230L65367 qq p0 p1 0 p1
def e230L65367 : Nat → Tm → Int → Int → Int →  Option (Int)
  | 0, _, _, _, _ => none
  | qq + 1, p0, p1, v15, v5 =>
    if decide (v15 < (List.length p0.sub : Int)) = true then
      (gidx p0.sub v15) >>= fun x3 =>
      (e230 qq x3 (w64 (p1 + 1))) >>= fun r5 =>
      e230L65367 qq p0 p1 (w64 (v15 + 1)) (imax v5 r5)
    else
      some v5
end
def g230L65367E0 (j : Nat → Value) (p0 : Tm) (p1 : Int) (v15 : Int) (v5 : Int) : List AV := sp j 27 0 [(1, ai p1), (5, ai v5), (13, .sl (flat tmCells p0.sub) (List.length p0.sub) .no), (14, ai (List.length p0.sub : Int)), (15, ai v15)]
def g230L65367S0 (p0 : Tm) (p1 : Int) (v15 : Int) (v5 : Int) : LSt := ⟨[], 0, [], 0, []⟩
theorem q230 : Tryz.prog.funcs[230]? = some Tryz.f230 ∧ Tryz.f230.body.isNone = false := ⟨Tryz.func230, by kernel_rfl⟩
theorem k230 {p0 : Tm} {p1 : Int} {r : Int} (h : CTri Tryz.prog 230 [] [tmA p0, ai p1] (ai r) [] 0) : CT Tryz.prog 230 [] [tmA p0, ai p1] (ai r) [] 0 := ⟨h, ⟨⟨trivial, trivial, ⟨trivial, dT _⟩, trivial⟩, trivial, trivial⟩, forall_nil, trivial, forall_nil⟩
theorem a230_230L65367 : ∀ qq : Nat, (∀ (p0 : Tm) (p1 : Int) (r : Int), e230 qq p0 p1 = some r → CT Tryz.prog 230 [] [tmA p0, ai p1] (ai r) [] 0) ∧ (∀ (p0 : Tm) (p1 : Int) (v15 : Int) (v5 : Int) (r : Int), e230L65367 qq p0 p1 v15 v5 = some r → (∀ j, Dl Tryz.prog 0 (inn (inn (rgt (lft (rgt (rgt (rgt (bod Tryz.f230)))))))) (g230L65367E0 j p0 p1 v15 v5) (g230L65367S0 p0 p1 v15 v5) (frameQ Tryz.prog 0 (FinQ Tryz.prog 0 Tryz.f230 (ai r) [] 0) [.blk 0, .seq (rgt (rgt (rgt (rgt (bod Tryz.f230)))))]))) := by
  intro qq
  induction qq with
  | zero =>
    exact ⟨fun _ _ _ h => nn h, fun _ _ _ _ _ h => nn h⟩
  | succ qq ih =>
    obtain ⟨ih230, ih230L65367⟩ := ih
    refine ⟨?_, ?_⟩
    · intro p0 p1 r h
      rw [e230] at h
      rcases spl h with ⟨h1, h⟩ | ⟨h1, h⟩
      · obtain rfl := sj h
        exact k230 (tF q230 0 [] (oB 0 h1 o0) (by kernel_rfl))
      · exact k230 (tH q230 2 [] [] [] [1, 5, 13, 14, 15] (oD (dT p0.sub) <| oB 0 h1 o0) (ih230L65367 _ _ _ _ _ h) (fun j => by kernel_rfl))
    · intro p0 p1 v15 v5 r h
      rw [e230L65367] at h
      rcases spl h with ⟨h2, h⟩ | ⟨h2, h⟩
      · obtain ⟨x3, h4, h⟩ := obind h
        obtain ⟨r5, h6, h⟩ := obind h
        exact fun j => lH 2 [] [] [] [1, 5, 13, 14, 15] (oD (dT p0.sub) <| oC 4 [] (ih230 _ _ _ h6) <| oA 0 (ix23 (o := .no) h4) <| oB 0 h2 o0) (ih230L65367 _ _ _ _ _ h) (fun j => by kernel_rfl)
      · obtain rfl := sj h
        exact fun j => lF 0 [] (oB 0 h2 o0) (by kernel_rfl)
theorem c230 {qq : Nat} {p0 : Tm} {p1 : Int} {r : Int} (h : e230 qq p0 p1 = some r) : CT Tryz.prog 230 [] [tmA p0, ai p1] (ai r) [] 0 := (a230_230L65367 _).1 _ _ _ h

end Go.Proofs.YteiddempdecleaaGreat

namespace Go.Proofs.YteiddempdecleaaGreat
open Go Go.Ab

/- scholium/term.Depth -/
def e168 (qq : Nat) (p0 : Tm) : Option (Int) :=
  (e229 qq p0) >>= fun r1 =>
  if decide (r1 > 8192) = true then
    some 129
  else
    (e230 qq p0 1) >>= fun r4 =>
    some r4
theorem q168 : Tryz.prog.funcs[168]? = some Tryz.f168 ∧ Tryz.f168.body.isNone = false := ⟨Tryz.func168, by kernel_rfl⟩
theorem k168 {p0 : Tm} {r : Int} (h : CTri Tryz.prog 168 [] [tmA p0] (ai r) [] 0) : CT Tryz.prog 168 [] [tmA p0] (ai r) [] 0 := ⟨h, ⟨⟨trivial, trivial, ⟨trivial, dT _⟩, trivial⟩, trivial⟩, forall_nil, trivial, forall_nil⟩
theorem c168 {qq : Nat} {p0 : Tm} {r : Int} (h : e168 qq p0 = some r) : CT Tryz.prog 168 [] [tmA p0] (ai r) [] 0 := by
  unfold e168 at h
  obtain ⟨r1, h2, h⟩ := obind h
  have k := oC 1 [] (c229 h2) o0
  rcases spl h with ⟨h3, h⟩ | ⟨h3, h⟩
  · obtain rfl := sj h
    exact k168 (tF q168 0 [] (oB 0 h3 k) (by kernel_rfl))
  · obtain ⟨r4, h5, h⟩ := obind h
    obtain rfl := sj h
    exact k168 (tF q168 0 [] (oC 1 [] (c230 h5) <| oB 0 h3 k) (by kernel_rfl))

end Go.Proofs.YteiddempdecleaaGreat

namespace Go.Proofs.YteiddempdecleaaGreat
open Go Go.Ab

/- scholium/term.head -/
def e231 (qq : Nat) (p0 : Tm) : Option (Bool) :=
  if decide (p0.k < 1) = true then
    some false
  else
    if decide (p0.k > 8) = true then
      some false
    else
      (gidx ([0, 0, 0, 2, 2, 2, 0, 1, 0] : List Int) p0.k) >>= fun x3 =>
      (gidx ([0, 1048576, 7, 0, 0, 0, 1048576, 1048576, 1048576] : List Int) p0.k) >>= fun x5 =>
      if ((List.length p0.sub : Int) == x3) = true then
        if decide (p0.n ≥ 0) = true then
          if decide (p0.n ≤ x5) = true then
            if (p0.k != 7) = true then
              some true
            else
              (gidx p0.sub 0) >>= fun x11 =>
              some (x11.k == 2)
          else
            some false
        else
          some false
      else
        some false
theorem q231 : Tryz.prog.funcs[231]? = some Tryz.f231 ∧ Tryz.f231.body.isNone = false := ⟨Tryz.func231, by kernel_rfl⟩
theorem k231 {p0 : Tm} {r : Bool} (h : CTri Tryz.prog 231 [] [tmA p0] (ab r) [] 0) : CT Tryz.prog 231 [] [tmA p0] (ab r) [] 0 := ⟨h, ⟨⟨trivial, trivial, ⟨trivial, dT _⟩, trivial⟩, trivial⟩, forall_nil, trivial, forall_nil⟩
theorem c231 {qq : Nat} {p0 : Tm} {r : Bool} (h : e231 qq p0 = some r) : CT Tryz.prog 231 [] [tmA p0] (ab r) [] 0 := by
  unfold e231 at h
  rcases spl h with ⟨h1, h⟩ | ⟨h1, h⟩
  · obtain rfl := sj h
    exact k231 (tF q231 0 [] (oB 1 h1 o0) (by kernel_rfl))
  · have k := oB 1 h1 o0
    rcases spl h with ⟨h2, h⟩ | ⟨h2, h⟩
    · obtain rfl := sj h
      exact k231 (tF q231 0 [] (oB 1 h2 k) (by kernel_rfl))
    · obtain ⟨x3, h4, h⟩ := obind h
      obtain ⟨x5, h6, h⟩ := obind h
      have k := oA 1 (ixArr313 h6 rfl) <| oA 1 (ixArr313 h4 rfl) <| oB 1 h2 k
      rcases spl h with ⟨h7, h⟩ | ⟨h7, h⟩
      · have k := oB 2 h7 k
        rcases spl h with ⟨h8, h⟩ | ⟨h8, h⟩
        · have k := oB 1 h8 k
          rcases spl h with ⟨h9, h⟩ | ⟨h9, h⟩
          · have k := oB 1 h9 k
            rcases spl h with ⟨h10, h⟩ | ⟨h10, h⟩
            · obtain rfl := sj h
              exact k231 (tF q231 0 [] (oB 1 h10 k) (by kernel_rfl))
            · obtain ⟨x11, h12, h⟩ := obind h
              obtain rfl := sj h
              exact k231 (tF q231 2 [] (oA 1 (ix23 (o := .no) h12) <| oB 1 h10 k) (by kernel_rfl))
          · obtain rfl := sj h
            exact k231 (tF q231 0 [] (oB 1 h9 k) (by kernel_rfl))
        · obtain rfl := sj h
          exact k231 (tF q231 0 [] (oB 1 h8 k) (by kernel_rfl))
      · obtain rfl := sj h
        exact k231 (tF q231 0 [] (oB 2 h7 k) (by kernel_rfl))

end Go.Proofs.YteiddempdecleaaGreat

namespace Go.Proofs.YteiddempdecleaaGreat
open Go Go.Ab

/- scholium/term.good -/
mutual
def e169 : Nat → Tm →  Option (Bool)
  | 0, _ => none
  | qq + 1, p0 =>
    (e231 qq p0) >>= fun r1 =>
    if r1 = true then
      e169L52189 qq p0 0
    else
      some false
def e169L52189 : Nat → Tm → Int →  Option (Bool)
  | 0, _, _ => none
  | qq + 1, p0, v11 =>
    if decide (v11 < (List.length p0.sub : Int)) = true then
      (gidx p0.sub v11) >>= fun x5 =>
      (e169 qq x5) >>= fun r7 =>
      if r7 = true then
        e169L52189 qq p0 (w64 (v11 + 1))
      else
        some false
    else
      some true
end
def g169L52189E0 (j : Nat → Value) (p0 : Tm) (v11 : Int) : List AV := sp j 19 0 [(9, .sl (flat tmCells p0.sub) (List.length p0.sub) .no), (10, ai (List.length p0.sub : Int)), (11, ai v11)]
def g169L52189S0 (p0 : Tm) (v11 : Int) : LSt := ⟨[], 0, [], 0, []⟩
theorem q169 : Tryz.prog.funcs[169]? = some Tryz.f169 ∧ Tryz.f169.body.isNone = false := ⟨Tryz.func169, by kernel_rfl⟩
theorem k169 {p0 : Tm} {r : Bool} (h : CTri Tryz.prog 169 [] [tmA p0] (ab r) [] 0) : CT Tryz.prog 169 [] [tmA p0] (ab r) [] 0 := ⟨h, ⟨⟨trivial, trivial, ⟨trivial, dT _⟩, trivial⟩, trivial⟩, forall_nil, trivial, forall_nil⟩
theorem a169_169L52189 : ∀ qq : Nat, (∀ (p0 : Tm) (r : Bool), e169 qq p0 = some r → CT Tryz.prog 169 [] [tmA p0] (ab r) [] 0) ∧ (∀ (p0 : Tm) (v11 : Int) (r : Bool), e169L52189 qq p0 v11 = some r → (∀ j, Dl Tryz.prog 0 (inn (inn (rgt (lft (rgt (rgt (bod Tryz.f169))))))) (g169L52189E0 j p0 v11) (g169L52189S0 p0 v11) (frameQ Tryz.prog 0 (FinQ Tryz.prog 0 Tryz.f169 (ab r) [] 0) [.blk 0, .seq (rgt (rgt (rgt (bod Tryz.f169))))]))) := by
  intro qq
  induction qq with
  | zero =>
    exact ⟨fun _ _ h => nn h, fun _ _ _ h => nn h⟩
  | succ qq ih =>
    obtain ⟨ih169, ih169L52189⟩ := ih
    refine ⟨?_, ?_⟩
    · intro p0 r h
      rw [e169] at h
      obtain ⟨r1, h2, h⟩ := obind h
      rcases spl h with ⟨h3, h⟩ | ⟨h3, h⟩
      · exact k169 (tH q169 3 [] [] [] [9, 10, 11] (oD (dT p0.sub) <| oK 1 [] h3 (c231 h2) o0) (ih169L52189 _ _ _ h) (fun j => by kernel_rfl))
      · obtain rfl := sj h
        exact k169 (tF q169 1 [] (oK 1 [] h3 (c231 h2) o0) (by kernel_rfl))
    · intro p0 v11 r h
      rw [e169L52189] at h
      rcases spl h with ⟨h4, h⟩ | ⟨h4, h⟩
      · obtain ⟨x5, h6, h⟩ := obind h
        obtain ⟨r7, h8, h⟩ := obind h
        have k := oA 0 (ix23 (o := .no) h6) <| oB 0 h4 o0
        rcases spl h with ⟨h9, h⟩ | ⟨h9, h⟩
        · exact fun j => lH 2 [] [] [] [9, 10, 11] (oD (dT p0.sub) <| oK 3 [] h9 (ih169 _ _ h8) k) (ih169L52189 _ _ _ h) (fun j => by kernel_rfl)
        · obtain rfl := sj h
          exact fun j => lF 1 [] (oK 3 [] h9 (ih169 _ _ h8) k) (by kernel_rfl)
      · obtain rfl := sj h
        exact fun j => lF 0 [] (oB 0 h4 o0) (by kernel_rfl)
theorem c169 {qq : Nat} {p0 : Tm} {r : Bool} (h : e169 qq p0 = some r) : CT Tryz.prog 169 [] [tmA p0] (ab r) [] 0 := (a169_169L52189 _).1 _ _ h

end Go.Proofs.YteiddempdecleaaGreat

namespace Go.Proofs.YteiddempdecleaaGreat
open Go Go.Ab

/- scholium/term.Shaped -/
def e91 (qq : Nat) (p0 : Tm) : Option (Bool) :=
  (e168 qq p0) >>= fun r1 =>
  if decide (r1 ≤ 128) = true then
    (e169 qq p0) >>= fun r4 =>
    some r4
  else
    some false
theorem q91 : Tryz.prog.funcs[91]? = some Tryz.f91 ∧ Tryz.f91.body.isNone = false := ⟨Tryz.func91, by kernel_rfl⟩
theorem k91 {p0 : Tm} {r : Bool} (h : CTri Tryz.prog 91 [] [tmA p0] (ab r) [] 0) : CT Tryz.prog 91 [] [tmA p0] (ab r) [] 0 := ⟨h, ⟨⟨trivial, trivial, ⟨trivial, dT _⟩, trivial⟩, trivial⟩, forall_nil, trivial, forall_nil⟩
theorem c91 {qq : Nat} {p0 : Tm} {r : Bool} (h : e91 qq p0 = some r) : CT Tryz.prog 91 [] [tmA p0] (ab r) [] 0 := by
  unfold e91 at h
  obtain ⟨r1, h2, h⟩ := obind h
  have k := oC 1 [] (c168 h2) o0
  rcases spl h with ⟨h3, h⟩ | ⟨h3, h⟩
  · obtain ⟨r4, h5, h⟩ := obind h
    obtain rfl := sj h
    exact k91 (tF q91 0 [] (oC 1 [] (c169 h5) <| oB 0 h3 k) (by kernel_rfl))
  · obtain rfl := sj h
    exact k91 (tF q91 0 [] (oB 0 h3 k) (by kernel_rfl))

end Go.Proofs.YteiddempdecleaaGreat

namespace Go.Proofs.YteiddempdecleaaGreat
open Go Go.Ab

mutual
theorem ev_size : ∀ (t : Tm) (h : Int), t.Ok → 0 ≤ h → h ≤ 8192 → Evt (fun q => e271 q t h) (szT t h)
  | .mk k n l, h, ho, h0, h1 => by
    refine Evt.succ ?_
    simp only [e271]
    rw [w64_id (by omega) (by omega), szT]
    exact ev_sizeL l (.mk k n l) 0 (h + 1) rfl ho.1 ho.2 (by omega) (by omega)
theorem ev_sizeL : ∀ (l : List Tm) (p : Tm) (v : Nat) (h : Int), p.sub.drop v = l → p.sub.length < 9223372036854775808 → OkL l → 0 ≤ h → h ≤ 8193 → Evt (fun q => e271L62606 q p h (v : Int)) (szL l h)
  | [], p, v, h, hd, hl, ho, h0, h1 => by
    refine Evt.succ ?_
    simp only [e271L62606]
    rw [szL]
    exact Evt.ifF (drop_nil hd) Evt.ret
  | t :: l, p, v, h, hd, hl, ho, h0, h1 => by
    refine Evt.succ ?_
    simp only [e271L62606]
    refine Evt.ifT (drop_dec hd) (Evt.pure (drop_idx hd) ?_)
    rw [szL]
    by_cases h2 : h > 8192
    · rw [if_pos h2]; exact Evt.ifT (by simpa using h2) Evt.ret
    · rw [if_neg h2]
      refine Evt.ifF (by simpa using h2) ((ev_size t h ho.1 h0 (by omega)).bind ?_)
      rw [w64_nat v (by have := drop_lt hd; omega)]
      have := szT_b t h h0 (by omega)
      exact ev_sizeL l p (v + 1) (szT t h) (drop_next hd) hl ho.2 (by omega) (by omega)
end
theorem ev_Size (t : Tm) (ho : t.Ok) : Evt (fun q => e229 q t) (szT t 0) := by
  simp only [e229]
  exact (ev_size t 0 ho (by omega) (by omega)).bind Evt.ret

mutual
theorem ev_deep : ∀ (t : Tm) (a : Int), t.Ok → 0 ≤ a → a ≤ 129 → Evt (fun q => e230 q t a) (dpT t a)
  | .mk k n l, a, ho, h0, h1 => by
    refine Evt.succ ?_
    simp only [e230]
    rw [dpT]
    by_cases h2 : a > 128
    · rw [if_pos h2]; exact Evt.ifT (by simpa using h2) Evt.ret
    · rw [if_neg h2]; exact Evt.ifF (by simpa using h2) (ev_deepL l (.mk k n l) 0 a a rfl ho.1 ho.2 h0 (by omega))
theorem ev_deepL : ∀ (l : List Tm) (p : Tm) (v : Nat) (a m : Int), p.sub.drop v = l → p.sub.length < 9223372036854775808 → OkL l → 0 ≤ a → a ≤ 128 → Evt (fun q => e230L65367 q p a (v : Int) m) (dpL l a m)
  | [], p, v, a, m, hd, hl, ho, h0, h1 => by
    refine Evt.succ ?_
    simp only [e230L65367]
    rw [dpL]
    exact Evt.ifF (drop_nil hd) Evt.ret
  | t :: l, p, v, a, m, hd, hl, ho, h0, h1 => by
    refine Evt.succ ?_
    simp only [e230L65367]
    refine Evt.ifT (drop_dec hd) (Evt.pure (drop_idx hd) ?_)
    rw [dpL, w64_id (x := a + 1) (by omega) (by omega)]
    refine (ev_deep t (a + 1) ho.1 (by omega) (by omega)).bind ?_
    rw [w64_nat v (by have := drop_lt hd; omega)]
    exact ev_deepL l p (v + 1) a _ (drop_next hd) hl ho.2 h0 h1
end

/-- as term.Depth tells it -/
def depT (t : Tm) : Int := if szT t 0 > 8192 then 129 else dpT t 1
theorem ev_Depth (t : Tm) (ho : t.Ok) : Evt (fun q => e168 q t) (depT t) := by
  simp only [e168]
  refine (ev_Size t ho).bind ?_
  unfold depT
  by_cases h : szT t 0 > 8192
  · rw [if_pos h]; exact Evt.ifT (by simpa using h) Evt.ret
  · rw [if_neg h]; exact Evt.ifF (by simpa using h) ((ev_deep t 1 ho (by omega) (by omega)).bind Evt.ret)
theorem depT_le (t : Tm) : depT t ≤ 128 ↔ t.nodes ≤ 8192 ∧ t.high ≤ 128 := by
  have h1 := szT_eq t 0 (by omega) (by omega)
  have h2 := dpT_eq t 1 (by omega) (by omega)
  unfold depT
  by_cases h3 : t.nodes ≤ 8192
  · rw [if_neg (by rw [h1.1 (by omega)]; omega)]
    by_cases h4 : t.high ≤ 128
    · rw [h2.1 (by omega)]; omega
    · rw [h2.2 (by omega)]; omega
  · rw [if_pos (by rw [h1.2 (by omega)]; omega)]; omega

theorem ev_head (t : Tm) : Evt (fun q => e231 q t) (headT t) := by
  refine Evt.mk fun q => ?_
  unfold e231 headT
  generalize t.k = k
  generalize t.n = n
  generalize t.sub = l
  by_cases h1 : k < 1
  · rw [ifTe (decide_eq_true h1)]; simp; omega
  · by_cases h2 : k > 8
    · rw [ifFe (decide_eq_false h1), ifTe (decide_eq_true h2)]; simp; omega
    · rw [ifFe (decide_eq_false h1), ifFe (decide_eq_false h2)]
      have : k = 1 ∨ k = 2 ∨ k = 3 ∨ k = 4 ∨ k = 5 ∨ k = 6 ∨ k = 7 ∨ k = 8 := by omega
      rcases this with rfl | rfl | rfl | rfl | rfl | rfl | rfl | rfl
      case inr.inr.inr.inr.inr.inr.inl =>
        rcases l with _ | ⟨x, _ | ⟨y, l⟩⟩ <;> simp [gidx] <;> grind
      case inr.inr.inl | inr.inr.inr.inl | inr.inr.inr.inr.inl =>
        by_cases hl : l.length = 2
        · simp [gidx, hl]; grind
        · have h' : ¬ ((l.length : Int) = 2) := by omega
          simp [gidx, hl, h']
      all_goals (simp [gidx]; grind)
mutual
theorem ev_good : ∀ (t : Tm), t.Ok → Evt (fun q => e169 q t) (goodT t)
  | .mk k n l, ho => by
    refine Evt.succ ?_
    simp only [e169]
    refine (ev_head (.mk k n l)).bind ?_
    rw [goodT]
    cases headT (.mk k n l) with
    | false => exact Evt.ifF rfl Evt.ret
    | true => exact Evt.ifT rfl (ev_goodL l (.mk k n l) 0 rfl ho.1 ho.2)
theorem ev_goodL : ∀ (l : List Tm) (p : Tm) (v : Nat), p.sub.drop v = l → p.sub.length < 9223372036854775808 → OkL l → Evt (fun q => e169L52189 q p (v : Int)) (goodL l)
  | [], p, v, hd, hl, ho => by
    refine Evt.succ ?_
    simp only [e169L52189]
    rw [goodL]
    exact Evt.ifF (drop_nil hd) Evt.ret
  | t :: l, p, v, hd, hl, ho => by
    refine Evt.succ ?_
    simp only [e169L52189]
    refine Evt.ifT (drop_dec hd) (Evt.pure (drop_idx hd) ((ev_good t ho.1).bind ?_))
    rw [goodL]
    cases goodT t with
    | false => exact Evt.ifF rfl Evt.ret
    | true =>
      refine Evt.ifT rfl ?_
      rw [w64_nat v (by have := drop_lt hd; omega)]
      exact ev_goodL l p (v + 1) (drop_next hd) hl ho.2
end
theorem ev_Shaped (t : Tm) (ho : t.Ok) : Evt (fun q => e91 q t) (shapedT t) := by
  simp only [e91]
  refine (ev_Depth t ho).bind ?_
  have h := depT_le t
  unfold shapedT
  by_cases h1 : depT t ≤ 128
  · refine Evt.ifT (by simpa using h1) (((ev_good t ho).bind Evt.ret).eq ?_)
    have := h.1 h1
    simp [this.1, this.2]
  · refine Evt.ifF (by simpa using h1) (Evt.ret.eq ?_)
    by_cases h2 : t.nodes ≤ 8192
    · by_cases h3 : t.high ≤ 128
      · exact absurd (h.2 ⟨h2, h3⟩) h1
      · simp [h3]
    · simp [h2]
end Go.Proofs.YteiddempdecleaaGreat

namespace Go.Proofs.YteiddempdecleaaGreat
open Go Go.Ab

/- scholium/term.under -/
def e235 (qq : Nat) (p0 : Tm) (p1 : Int) : Option (Int) :=
  if (p1 == 1) = true then
    if (p0.k == 3) = true then
      some 1
    else
      if (p0.k == 4) = true then
        some 1
      else
        some 0
  else
    some 0
theorem q235 : Tryz.prog.funcs[235]? = some Tryz.f235 ∧ Tryz.f235.body.isNone = false := ⟨Tryz.func235, by kernel_rfl⟩
theorem k235 {p0 : Tm} {p1 : Int} {r : Int} (h : CTri Tryz.prog 235 [] [tmA p0, ai p1] (ai r) [] 0) : CT Tryz.prog 235 [] [tmA p0, ai p1] (ai r) [] 0 := ⟨h, ⟨⟨trivial, trivial, ⟨trivial, dT _⟩, trivial⟩, trivial, trivial⟩, forall_nil, trivial, forall_nil⟩
theorem c235 {qq : Nat} {p0 : Tm} {p1 : Int} {r : Int} (h : e235 qq p0 p1 = some r) : CT Tryz.prog 235 [] [tmA p0, ai p1] (ai r) [] 0 := by
  unfold e235 at h
  rcases spl h with ⟨h1, h⟩ | ⟨h1, h⟩
  · have k := oB 0 h1 o0
    rcases spl h with ⟨h2, h⟩ | ⟨h2, h⟩
    · obtain rfl := sj h
      exact k235 (tF q235 0 [] (oB 1 h2 k) (by kernel_rfl))
    · have k := oB 1 h2 k
      rcases spl h with ⟨h3, h⟩ | ⟨h3, h⟩
      · obtain rfl := sj h
        exact k235 (tF q235 0 [] (oB 1 h3 k) (by kernel_rfl))
      · obtain rfl := sj h
        exact k235 (tF q235 0 [] (oB 1 h3 k) (by kernel_rfl))
  · obtain rfl := sj h
    exact k235 (tF q235 0 [] (oB 0 h1 o0) (by kernel_rfl))

end Go.Proofs.YteiddempdecleaaGreat

namespace Go.Proofs.YteiddempdecleaaGreat
open Go Go.Ab

/- scholium/term.loose -/
mutual
def e178 : Nat → Tm → Int →  Option (Int)
  | 0, _, _ => none
  | qq + 1, p0, p1 =>
    if (p0.k == 1) = true then
      some (imax 0 (w64 ((w64 (p0.n + 1)) - p1)))
    else
      e178L24878 qq p0 p1 0 0
def e178L24878 : Nat → Tm → Int → Int → Int →  Option (Int)
  | 0, _, _, _, _ => none
  | qq + 1, p0, p1, v20, v5 =>
    if decide (v20 < (List.length p0.sub : Int)) = true then
      (gidx p0.sub v20) >>= fun x3 =>
      (e235 qq p0 v20) >>= fun r5 =>
      (e178 qq x3 (w64 (p1 + r5))) >>= fun r7 =>
      e178L24878 qq p0 p1 (w64 (v20 + 1)) (imax v5 r7)
    else
      some v5
end
def g178L24878E0 (j : Nat → Value) (p0 : Tm) (p1 : Int) (v20 : Int) (v5 : Int) : List AV := sp j 36 0 [(1, ai p1), (2, .mp 0 0), (5, ai v5), (18, .sl (flat tmCells p0.sub) (List.length p0.sub) .no), (19, ai (List.length p0.sub : Int)), (20, ai v20)]
def g178L24878S0 (p0 : Tm) (p1 : Int) (v20 : Int) (v5 : Int) : LSt := ⟨[(0, .cells [ai p0.k, ai p0.n, .sl (flat tmCells p0.sub) (List.length p0.sub) .no])], 1, [], 0, []⟩
theorem q178 : Tryz.prog.funcs[178]? = some Tryz.f178 ∧ Tryz.f178.body.isNone = false := ⟨Tryz.func178, by kernel_rfl⟩
theorem k178 {p0 : Tm} {p1 : Int} {r : Int} (h : CTri Tryz.prog 178 [] [tmA p0, ai p1] (ai r) [] 0) : CT Tryz.prog 178 [] [tmA p0, ai p1] (ai r) [] 0 := ⟨h, ⟨⟨trivial, trivial, ⟨trivial, dT _⟩, trivial⟩, trivial, trivial⟩, forall_nil, trivial, forall_nil⟩
theorem a178_178L24878 : ∀ qq : Nat, (∀ (p0 : Tm) (p1 : Int) (r : Int), e178 qq p0 p1 = some r → CT Tryz.prog 178 [] [tmA p0, ai p1] (ai r) [] 0) ∧ (∀ (p0 : Tm) (p1 : Int) (v20 : Int) (v5 : Int) (r : Int), e178L24878 qq p0 p1 v20 v5 = some r → (∀ j, Dl Tryz.prog 0 (inn (inn (rgt (lft (rgt (rgt (rgt (bod Tryz.f178)))))))) (g178L24878E0 j p0 p1 v20 v5) (g178L24878S0 p0 p1 v20 v5) (frameQ Tryz.prog 0 (FinQ Tryz.prog 0 Tryz.f178 (ai r) [] 0) [.blk 0, .seq (rgt (rgt (rgt (rgt (bod Tryz.f178)))))]))) := by
  intro qq
  induction qq with
  | zero =>
    exact ⟨fun _ _ _ h => nn h, fun _ _ _ _ _ h => nn h⟩
  | succ qq ih =>
    obtain ⟨ih178, ih178L24878⟩ := ih
    refine ⟨?_, ?_⟩
    · intro p0 p1 r h
      rw [e178] at h
      rcases spl h with ⟨h1, h⟩ | ⟨h1, h⟩
      · obtain rfl := sj h
        exact k178 (tF q178 4 [] (oB 1 h1 o0) (by kernel_rfl))
      · exact k178 (tH q178 2 [] [0] [] [1, 2, 5, 18, 19, 20] (oD (dT p0.sub) <| oD (dT p0.sub) <| oB 1 h1 o0) (ih178L24878 _ _ _ _ _ h) (fun j => by kernel_rfl))
    · intro p0 p1 v20 v5 r h
      rw [e178L24878] at h
      rcases spl h with ⟨h2, h⟩ | ⟨h2, h⟩
      · obtain ⟨x3, h4, h⟩ := obind h
        obtain ⟨r5, h6, h⟩ := obind h
        obtain ⟨r7, h8, h⟩ := obind h
        exact fun j => lH 2 [] [0] [] [1, 2, 5, 18, 19, 20] (oD (dT p0.sub) <| oD (dT p0.sub) <| oC 1 [] (ih178 _ _ _ h8) <| oC 4 [] (c235 h6) <| oA 0 (ix23 (o := .no) h4) <| oB 0 h2 o0) (ih178L24878 _ _ _ _ _ h) (fun j => by kernel_rfl)
      · obtain rfl := sj h
        exact fun j => lF 0 [] (oB 0 h2 o0) (by kernel_rfl)
theorem c178 {qq : Nat} {p0 : Tm} {p1 : Int} {r : Int} (h : e178 qq p0 p1 = some r) : CT Tryz.prog 178 [] [tmA p0, ai p1] (ai r) [] 0 := (a178_178L24878 _).1 _ _ _ h

end Go.Proofs.YteiddempdecleaaGreat

namespace Go.Proofs.YteiddempdecleaaGreat
open Go Go.Ab

/- scholium/term.collect -/
mutual
def e234 : Nat → Tm → Int → Int →  Option (List Int)
  | 0, _, _, _ => none
  | qq + 1, p0, p1, p2 =>
    if (p0.k == p1) = true then
      (gapp 8 ([] : List Int) [p0.n]) >>= fun l2 =>
      e234L29545 qq p0 p1 p2 0 l2
    else
      if (p0.k == p2) = true then
        (gapp 8 ([] : List Int) [p0.n]) >>= fun l5 =>
        e234L29545 qq p0 p1 p2 0 l5
      else
        e234L29545 qq p0 p1 p2 0 []
def e234L29545 : Nat → Tm → Int → Int → Int → (List Int) →  Option (List Int)
  | 0, _, _, _, _, _ => none
  | qq + 1, p0, p1, p2, v28, v7 =>
    if decide (v28 < (List.length p0.sub : Int)) = true then
      (gidx p0.sub v28) >>= fun x5 =>
      (e234 qq x5 p1 p2) >>= fun r7 =>
      (gapp 8 v7 r7) >>= fun l9 =>
      e234L29545 qq p0 p1 p2 (w64 (v28 + 1)) l9
    else
      some v7
end
def g234L29545E0 (j : Nat → Value) (p0 : Tm) (p1 : Int) (p2 : Int) (v28 : Int) (v7 : List Int) : List AV := sp j 40 0 [(1, ai p1), (2, ai p2), (7, .sl (flat intC v7) (List.length v7) (.st 0 1)), (26, .sl (flat tmCells p0.sub) (List.length p0.sub) .no), (27, ai (List.length p0.sub : Int)), (28, ai v28)]
def g234L29545S0 (p0 : Tm) (p1 : Int) (p2 : Int) (v28 : Int) (v7 : List Int) : LSt := ⟨[], 0, [0], 1, []⟩
def g234L29545E1 (j : Nat → Value) (p0 : Tm) (p1 : Int) (p2 : Int) (v28 : Int) (v7 : List Int) : List AV := sp j 40 0 [(1, ai p1), (2, ai p2), (7, .sl (flat intC v7) (List.length v7) .nl), (26, .sl (flat tmCells p0.sub) (List.length p0.sub) .no), (27, ai (List.length p0.sub : Int)), (28, ai v28)]
def g234L29545S1 (p0 : Tm) (p1 : Int) (p2 : Int) (v28 : Int) (v7 : List Int) : LSt := ⟨[], 0, [], 0, []⟩
theorem q234 : Tryz.prog.funcs[234]? = some Tryz.f234 ∧ Tryz.f234.body.isNone = false := ⟨Tryz.func234, by kernel_rfl⟩
theorem k234 {p0 : Tm} {p1 : Int} {p2 : Int} {r : List Int} (h : CTri Tryz.prog 234 [] [tmA p0, ai p1, ai p2] (.sl (flat intC r) (List.length r) (.st 0 1)) [] 1) : CT Tryz.prog 234 [] [tmA p0, ai p1, ai p2] (.sl (flat intC r) (List.length r) (.st 0 1)) [] 1 := ⟨h, ⟨⟨trivial, trivial, ⟨trivial, dT _⟩, trivial⟩, trivial, trivial, trivial⟩, forall_nil, dI _, forall_nil⟩
theorem a234_234L29545 : ∀ qq : Nat, (∀ (p0 : Tm) (p1 : Int) (p2 : Int) (r : List Int), e234 qq p0 p1 p2 = some r → CT Tryz.prog 234 [] [tmA p0, ai p1, ai p2] (.sl (flat intC r) (List.length r) (.st 0 1)) [] 1) ∧ (∀ (p0 : Tm) (p1 : Int) (p2 : Int) (v28 : Int) (v7 : List Int) (r : List Int), e234L29545 qq p0 p1 p2 v28 v7 = some r → (∀ j, Dl Tryz.prog 0 (inn (inn (rgt (lft (rgt (rgt (rgt (bod Tryz.f234)))))))) (g234L29545E0 j p0 p1 p2 v28 v7) (g234L29545S0 p0 p1 p2 v28 v7) (frameQ Tryz.prog 0 (FinQ Tryz.prog 0 Tryz.f234 (.sl (flat intC r) (List.length r) (.st 0 1)) [] 1) [.blk 0, .seq (rgt (rgt (rgt (rgt (bod Tryz.f234)))))])) ∧ (∀ j, Dl Tryz.prog 0 (inn (inn (rgt (lft (rgt (rgt (rgt (bod Tryz.f234)))))))) (g234L29545E1 j p0 p1 p2 v28 v7) (g234L29545S1 p0 p1 p2 v28 v7) (frameQ Tryz.prog 0 (FinQ Tryz.prog 0 Tryz.f234 (.sl (flat intC r) (List.length r) (.st 0 1)) [] 1) [.blk 0, .seq (rgt (rgt (rgt (rgt (bod Tryz.f234)))))]))) := by
  intro qq
  induction qq with
  | zero =>
    exact ⟨fun _ _ _ _ h => nn h, fun _ _ _ _ _ _ h => nn h⟩
  | succ qq ih =>
    obtain ⟨ih234, ih234L29545⟩ := ih
    refine ⟨?_, ?_⟩
    · intro p0 p1 p2 r h
      rw [e234] at h
      rcases spl h with ⟨h1, h⟩ | ⟨h1, h⟩
      · obtain ⟨l2, h3, h⟩ := obind h
        exact k234 (tH q234 2 [] [] [0] [1, 2, 7, 26, 27, 28] (oD (dT p0.sub) <| oD (dI l2) <| oP 2 (apS34 h3 (by simp)) <| oB 1 h1 o0) ((ih234L29545 _ _ _ _ _ _ h).1) (fun j => by kernel_rfl))
      · have k := oB 1 h1 o0
        rcases spl h with ⟨h4, h⟩ | ⟨h4, h⟩
        · obtain ⟨l5, h6, h⟩ := obind h
          exact k234 (tH q234 2 [] [] [0] [1, 2, 7, 26, 27, 28] (oD (dT p0.sub) <| oD (dI l5) <| oP 2 (apS34 h6 (by simp)) <| oB 1 h4 k) ((ih234L29545 _ _ _ _ _ _ h).1) (fun j => by kernel_rfl))
        · exact k234 (tH q234 2 [] [] [] [1, 2, 7, 26, 27, 28] (oD (dT p0.sub) <| oD (dI ([] : List Int)) <| oB 1 h4 k) ((ih234L29545 _ _ _ _ _ _ h).2) (fun j => by kernel_rfl))
    · intro p0 p1 p2 v28 v7 r h
      rw [e234L29545] at h
      refine ⟨?_, ?_⟩
      · rcases spl h with ⟨h4, h⟩ | ⟨h4, h⟩
        · obtain ⟨x5, h6, h⟩ := obind h
          obtain ⟨r7, h8, h⟩ := obind h
          obtain ⟨l9, h10, h⟩ := obind h
          have k := oC 3 [] (ih234 _ _ _ _ h8) <| oA 0 (ix23 (o := .no) h6) <| oB 0 h4 o0
          by_cases h11 : List.length r7 = 0
          · exact fun j => lH 1 [] [] [0] [1, 2, 7, 26, 27, 28] (oD (dT p0.sub) <| oD (dI l9) <| oP 0 (apN34 h10 h11) k) ((ih234L29545 _ _ _ _ _ _ h).1) (fun j => by kernel_rfl)
          · exact fun j => lH 1 [] [] [2] [1, 2, 7, 26, 27, 28] (oD (dT p0.sub) <| oD (dI l9) <| oP 0 (apS34 h10 h11) k) ((ih234L29545 _ _ _ _ _ _ h).1) (fun j => by kernel_rfl)
        · obtain rfl := sj h
          exact fun j => lG 0 [] [] [0] true (oD (dI v7) <| oB 0 h4 o0) (by kernel_rfl) (by decide)
      · rcases spl h with ⟨h4, h⟩ | ⟨h4, h⟩
        · obtain ⟨x5, h6, h⟩ := obind h
          obtain ⟨r7, h8, h⟩ := obind h
          obtain ⟨l9, h10, h⟩ := obind h
          have k := oC 3 [] (ih234 _ _ _ _ h8) <| oA 0 (ix23 (o := .no) h6) <| oB 0 h4 o0
          by_cases h11 : List.length r7 = 0
          · exact fun j => lH 1 [] [] [] [1, 2, 7, 26, 27, 28] (oD (dT p0.sub) <| oD (dI l9) <| oP 0 (apN34 h10 h11) k) ((ih234L29545 _ _ _ _ _ _ h).2) (fun j => by kernel_rfl)
          · exact fun j => lH 1 [] [] [1] [1, 2, 7, 26, 27, 28] (oD (dT p0.sub) <| oD (dI l9) <| oP 0 (apS34 h10 h11) k) ((ih234L29545 _ _ _ _ _ _ h).1) (fun j => by kernel_rfl)
        · obtain rfl := sj h
          exact fun j => lG 0 [(none, 6, 1)] [] [0] true (oD (dI v7) <| oB 0 h4 o0) (by kernel_rfl) (by decide)
theorem c234 {qq : Nat} {p0 : Tm} {p1 : Int} {p2 : Int} {r : List Int} (h : e234 qq p0 p1 p2 = some r) : CT Tryz.prog 234 [] [tmA p0, ai p1, ai p2] (.sl (flat intC r) (List.length r) (.st 0 1)) [] 1 := (a234_234L29545 _).1 _ _ _ _ h

end Go.Proofs.YteiddempdecleaaGreat

namespace Go.Proofs.YteiddempdecleaaGreat
open Go Go.Ab

/- scholium/term.Entries -/
def e179 (qq : Nat) (p0 : Tm) : Option (List Int) :=
  (e91 qq p0) >>= fun r1 =>
  if r1 = true then
    (e234 qq p0 6 7) >>= fun r4 =>
    if decide (List.length r4 < 4611686018427387904) = true then some (rise r4) else none
  else
    some []
theorem c179 {qq : Nat} {p0 : Tm} {r : List Int} (h : e179 qq p0 = some r) : CT Tryz.prog 179 [] [tmA p0] (.sl (flat intC r) (List.length r) .no) [] 0 := by
  unfold e179 at h
  obtain ⟨r1, h2, h⟩ := obind h
  rcases bcases r1 with h3 | h3
  · replace h := ifT h3 h
    obtain ⟨l, h5, h⟩ := obind h
    rcases bcases (decide (List.length l < 4611686018427387904)) with h6 | h6
    · replace h := ifT h6 h
      replace h := Option.some.inj h
      subst h
      subst h3
      have hsz : List.length l < 4611686018427387904 := by simpa using h6
      refine ⟨?_, ⟨⟨trivial, trivial, ⟨trivial, dT _⟩, trivial⟩, trivial⟩, (fun _ h => nomatch h), dI _, (fun _ h => nomatch h)⟩
      have k0 : knd (bod Tryz.f179) = 1 := by kernel_rfl
      have k1 : knd (rgt (bod Tryz.f179)) = 1 := by kernel_rfl
      have k2 : knd (rgt (rgt (bod Tryz.f179))) = 1 := by kernel_rfl
      have k3 : isReg (lft (rgt (rgt (bod Tryz.f179)))) = true := by kernel_rfl
      have k4 : clOf (regOps (lft (rgt (rgt (bod Tryz.f179)))))[2]? = some (some 8, 233, #[.tmp 7]) := by kernel_rfl
      have k5 : (Tryz.f233.name == "runtime.NumGoroutine") = false := by kernel_rfl
      have k6 : Tryz.f233.body.isNone = false := by kernel_rfl
      have x1 : krun Tryz.prog prim 3000 (.run (lft (bod Tryz.f179))) [] ([tmA p0] ++ List.replicate (Tryz.f179.ntmps - 1) (.val undef)) (st0 []) [] = some (.fin .normal, [tmA p0, .mp 0 0, .sl [] 0 .nl, .val undef, .val undef, .val undef, .val undef, .val undef, .val undef], ⟨[(0, .cells (tmL p0))], 1, [], 0, []⟩, [], []) := by kernel_rfl
      have x2 : krun Tryz.prog prim 3000 (.run (lft (rgt (bod Tryz.f179)))) [] [tmA p0, .mp 0 0, .sl [] 0 .nl, .val undef, .val undef, .val undef, .val undef, .val undef, .val undef] ⟨[(0, .cells (tmL p0))], 1, [], 0, []⟩ [.no, .call [] [] 0 (ab true) (some true), .no] = some (.fin .normal, [tmA p0, .mp 0 0, .sl [] 0 .nl, tmA p0, ab true, ab false, .val undef, .val undef, .val undef], ⟨[(0, .cells (tmL p0))], 1, [], 0, []⟩, [], [.bit true true, .call 91 [] [tmA p0] (ab true) [] 0]) := by kernel_rfl
      have x3 : (xops Tryz.prog prim (regOps (lft (rgt (rgt (bod Tryz.f179))))) ((regOps (lft (rgt (rgt (bod Tryz.f179))))).toList.take 2) 0 [tmA p0, .mp 0 0, .sl [] 0 .nl, tmA p0, ab true, ab false, .val undef, .val undef, .val undef] ⟨[(0, .cells (tmL p0))], 1, [], 0, []⟩ [.no, .call [] [] 1 (.sl (flat intC l) l.length (.st 0 1)) none]).map Prod.snd = some ([tmA p0, .mp 0 0, .sl [] 0 .nl, tmA p0, ab true, ab false, tmA p0, .sl (flat intC l) l.length (.st 0 1), .val undef], ⟨[(0, .cells (tmL p0))], 1, [0], 1, []⟩, [], [.call 234 [] [tmA p0, ai 6, ai 7] (.sl (flat intC l) l.length (.st 0 1)) [] 1]) := by kernel_rfl
      have x4 : ∀ j : Nat → Value, (xops Tryz.prog prim (regOps (lft (rgt (rgt (bod Tryz.f179))))) ((regOps (lft (rgt (rgt (bod Tryz.f179))))).toList.drop 3) 3 (eset (tells [] (mutEnv [] j [tmA p0, .mp 0 0, .sl [] 0 .nl, tmA p0, ab true, ab false, tmA p0, .sl (flat intC l) l.length (.st 0 1), .val undef] 0)) (some 8) (.sl (flat intC (rise l)) (rise l).length .no)) (pickSt [] ⟨[(0, .cells (tmL p0))], 1, [0], 1, []⟩) []).map Prod.snd = some ([.val (j 0), .val (j 1), .sl (flat intC (rise l)) (rise l).length .no, .val (j 3), ab true, ab false, .val (j 6), .val (j 7), .sl (flat intC (rise l)) (rise l).length .no], ⟨[], 1, [], 0, []⟩, [], []) := fun j => by kernel_rfl
      have x5 : ∀ j : Nat → Value, kfin Tryz.prog prim 0 Tryz.f179 3000 (.run (rgt (rgt (rgt (bod Tryz.f179))))) [] [.val (j 0), .val (j 1), .sl (flat intC (rise l)) (rise l).length .no, .val (j 3), ab true, ab false, .val (j 6), .val (j 7), .sl (flat intC (rise l)) (rise l).length .no] ⟨[], 1, [], 0, []⟩ [] [] [] [] false = some (.sl (flat intC (rise l)) (rise l).length .no, [], [.data (flat intC (rise l))]) := fun j => by kernel_rfl
      refine CTri.body Tryz.func179 (by kernel_rfl) ?_
      refine Dv.seqP k0 ?_
      refine krun_ok (Q := _) prim_ok mixed 3000 (.run (lft (bod Tryz.f179))) [] _ _ _ _ _ _ _ _ x1 ObsOk.nil ?_
      refine Dv.seqP k1 ?_
      refine krun_ok (Q := _) prim_ok mixed 3000 (.run (lft (rgt (bod Tryz.f179)))) [] _ _ _ _ _ _ _ _ x2 (ObsOk.cons (obBit rfl) (ObsOk.cons (obCall (c91 h2)) ObsOk.nil)) ?_
      refine Dv.seqP k2 ?_
      obtain ⟨id, k7⟩ := regP k3
      rw [k7]
      refine Dv.mut prim_ok (na := (0 : Nat)) rfl 2 [] [] _ x3 (ObsOk.cons (obCall (c234 h5)) ObsOk.nil) k4 Tryz.func233 k5 k6 (fun i X h => by cases h) ?_ x4 ObsOk.nil ?_
      · intro G0 W hB G w hE hR u hu
        refine (rise_call hR (by rfl) hsz hu).mono ?_
        rintro e w' ⟨v, b, S, z1, z2, z3, z4, z5, z6⟩
        exact ⟨v, b, S, z1, z2, z3, z4, z5, fun G' _ _ hS => ⟨z6 G' hS, fun q hq => by cases hq⟩⟩
      · intro j
        exact kfin_ok (na := (0 : Nat)) prim_ok mixed (x5 j) (ObsOk.cons (obData (dI _)) ObsOk.nil) (by decide)
    · replace h := ifF h6 h
      cases h
  · replace h := ifF h3 h
    replace h := Option.some.inj h
    subst h
    exact ⟨CTri.toFin prim_ok mixed Tryz.func179 (by kernel_rfl) 3000 [.no, .call [] [] 0 (ab r1) (some false), .no] [] [] [] false (by kernel_rfl) (ObsOk.cons (obBit h3) (ObsOk.cons (obCall (c91 h2)) (ObsOk.cons (obData (dI ([] : List Int))) ObsOk.nil))) (by decide), ⟨⟨trivial, trivial, ⟨trivial, dT _⟩, trivial⟩, trivial⟩, (fun _ h => nomatch h), dI _, (fun _ h => nomatch h)⟩

end Go.Proofs.YteiddempdecleaaGreat

namespace Go.Proofs.YteiddempdecleaaGreat
open Go Go.Ab

/- scholium/term.Right -/
def e108 (qq : Nat) (p0 : Tm) (p1 : Int) (p2 : Int) : Option (Bool) :=
  (e91 qq p0) >>= fun r1 =>
  if r1 = true then
    (e178 qq p0 0) >>= fun r4 =>
    if decide (r4 > p1) = true then
      some false
    else
      (e179 qq p0) >>= fun r7 =>
      if ((List.length r7 : Int) == 0) = true then
        some true
      else
        (gidx r7 (w64 ((List.length r7 : Int) - 1))) >>= fun x10 =>
        some (decide (x10 < p2))
  else
    some false
theorem q108 : Tryz.prog.funcs[108]? = some Tryz.f108 ∧ Tryz.f108.body.isNone = false := ⟨Tryz.func108, by kernel_rfl⟩
theorem k108 {p0 : Tm} {p1 : Int} {p2 : Int} {r : Bool} (h : CTri Tryz.prog 108 [] [tmA p0, ai p1, ai p2] (ab r) [] 0) : CT Tryz.prog 108 [] [tmA p0, ai p1, ai p2] (ab r) [] 0 := ⟨h, ⟨⟨trivial, trivial, ⟨trivial, dT _⟩, trivial⟩, trivial, trivial, trivial⟩, forall_nil, trivial, forall_nil⟩
theorem c108 {qq : Nat} {p0 : Tm} {p1 : Int} {p2 : Int} {r : Bool} (h : e108 qq p0 p1 p2 = some r) : CT Tryz.prog 108 [] [tmA p0, ai p1, ai p2] (ab r) [] 0 := by
  unfold e108 at h
  obtain ⟨r1, h2, h⟩ := obind h
  rcases spl h with ⟨h3, h⟩ | ⟨h3, h⟩
  · obtain ⟨r4, h5, h⟩ := obind h
    have k := oC 2 [] (c178 h5) <| oK 1 [] h3 (c91 h2) o0
    rcases spl h with ⟨h6, h⟩ | ⟨h6, h⟩
    · obtain rfl := sj h
      exact k108 (tF q108 0 [] (oB 0 h6 k) (by kernel_rfl))
    · obtain ⟨r7, h8, h⟩ := obind h
      have k := oC 1 [] (c179 h8) <| oB 0 h6 k
      rcases spl h with ⟨h9, h⟩ | ⟨h9, h⟩
      · obtain rfl := sj h
        exact k108 (tF q108 0 [] (oB 1 h9 k) (by kernel_rfl))
      · obtain ⟨x10, h11, h⟩ := obind h
        obtain rfl := sj h
        exact k108 (tF q108 2 [] (oA 2 (ix34 (o := .no) h11) <| oB 1 h9 k) (by kernel_rfl))
  · obtain rfl := sj h
    exact k108 (tF q108 1 [] (oK 1 [] h3 (c91 h2) o0) (by kernel_rfl))

end Go.Proofs.YteiddempdecleaaGreat

namespace Go.Proofs.YteiddempdecleaaGreat
open Go Go.Ab

/- scholium/term.Frees -/
def e177 (qq : Nat) (p0 : Tm) : Option (List Int) :=
  (e91 qq p0) >>= fun r1 =>
  if r1 = true then
    (e234 qq p0 8 8) >>= fun r4 =>
    if decide (List.length r4 < 4611686018427387904) = true then some (rise r4) else none
  else
    some []
theorem c177 {qq : Nat} {p0 : Tm} {r : List Int} (h : e177 qq p0 = some r) : CT Tryz.prog 177 [] [tmA p0] (.sl (flat intC r) (List.length r) .no) [] 0 := by
  unfold e177 at h
  obtain ⟨r1, h2, h⟩ := obind h
  rcases bcases r1 with h3 | h3
  · replace h := ifT h3 h
    obtain ⟨l, h5, h⟩ := obind h
    rcases bcases (decide (List.length l < 4611686018427387904)) with h6 | h6
    · replace h := ifT h6 h
      replace h := Option.some.inj h
      subst h
      subst h3
      have hsz : List.length l < 4611686018427387904 := by simpa using h6
      refine ⟨?_, ⟨⟨trivial, trivial, ⟨trivial, dT _⟩, trivial⟩, trivial⟩, (fun _ h => nomatch h), dI _, (fun _ h => nomatch h)⟩
      have k0 : knd (bod Tryz.f177) = 1 := by kernel_rfl
      have k1 : knd (rgt (bod Tryz.f177)) = 1 := by kernel_rfl
      have k2 : knd (rgt (rgt (bod Tryz.f177))) = 1 := by kernel_rfl
      have k3 : isReg (lft (rgt (rgt (bod Tryz.f177)))) = true := by kernel_rfl
      have k4 : clOf (regOps (lft (rgt (rgt (bod Tryz.f177)))))[2]? = some (some 8, 233, #[.tmp 7]) := by kernel_rfl
      have k5 : (Tryz.f233.name == "runtime.NumGoroutine") = false := by kernel_rfl
      have k6 : Tryz.f233.body.isNone = false := by kernel_rfl
      have x1 : krun Tryz.prog prim 3000 (.run (lft (bod Tryz.f177))) [] ([tmA p0] ++ List.replicate (Tryz.f177.ntmps - 1) (.val undef)) (st0 []) [] = some (.fin .normal, [tmA p0, .mp 0 0, .sl [] 0 .nl, .val undef, .val undef, .val undef, .val undef, .val undef, .val undef], ⟨[(0, .cells (tmL p0))], 1, [], 0, []⟩, [], []) := by kernel_rfl
      have x2 : krun Tryz.prog prim 3000 (.run (lft (rgt (bod Tryz.f177)))) [] [tmA p0, .mp 0 0, .sl [] 0 .nl, .val undef, .val undef, .val undef, .val undef, .val undef, .val undef] ⟨[(0, .cells (tmL p0))], 1, [], 0, []⟩ [.no, .call [] [] 0 (ab true) (some true), .no] = some (.fin .normal, [tmA p0, .mp 0 0, .sl [] 0 .nl, tmA p0, ab true, ab false, .val undef, .val undef, .val undef], ⟨[(0, .cells (tmL p0))], 1, [], 0, []⟩, [], [.bit true true, .call 91 [] [tmA p0] (ab true) [] 0]) := by kernel_rfl
      have x3 : (xops Tryz.prog prim (regOps (lft (rgt (rgt (bod Tryz.f177))))) ((regOps (lft (rgt (rgt (bod Tryz.f177))))).toList.take 2) 0 [tmA p0, .mp 0 0, .sl [] 0 .nl, tmA p0, ab true, ab false, .val undef, .val undef, .val undef] ⟨[(0, .cells (tmL p0))], 1, [], 0, []⟩ [.no, .call [] [] 1 (.sl (flat intC l) l.length (.st 0 1)) none]).map Prod.snd = some ([tmA p0, .mp 0 0, .sl [] 0 .nl, tmA p0, ab true, ab false, tmA p0, .sl (flat intC l) l.length (.st 0 1), .val undef], ⟨[(0, .cells (tmL p0))], 1, [0], 1, []⟩, [], [.call 234 [] [tmA p0, ai 8, ai 8] (.sl (flat intC l) l.length (.st 0 1)) [] 1]) := by kernel_rfl
      have x4 : ∀ j : Nat → Value, (xops Tryz.prog prim (regOps (lft (rgt (rgt (bod Tryz.f177))))) ((regOps (lft (rgt (rgt (bod Tryz.f177))))).toList.drop 3) 3 (eset (tells [] (mutEnv [] j [tmA p0, .mp 0 0, .sl [] 0 .nl, tmA p0, ab true, ab false, tmA p0, .sl (flat intC l) l.length (.st 0 1), .val undef] 0)) (some 8) (.sl (flat intC (rise l)) (rise l).length .no)) (pickSt [] ⟨[(0, .cells (tmL p0))], 1, [0], 1, []⟩) []).map Prod.snd = some ([.val (j 0), .val (j 1), .sl (flat intC (rise l)) (rise l).length .no, .val (j 3), ab true, ab false, .val (j 6), .val (j 7), .sl (flat intC (rise l)) (rise l).length .no], ⟨[], 1, [], 0, []⟩, [], []) := fun j => by kernel_rfl
      have x5 : ∀ j : Nat → Value, kfin Tryz.prog prim 0 Tryz.f177 3000 (.run (rgt (rgt (rgt (bod Tryz.f177))))) [] [.val (j 0), .val (j 1), .sl (flat intC (rise l)) (rise l).length .no, .val (j 3), ab true, ab false, .val (j 6), .val (j 7), .sl (flat intC (rise l)) (rise l).length .no] ⟨[], 1, [], 0, []⟩ [] [] [] [] false = some (.sl (flat intC (rise l)) (rise l).length .no, [], [.data (flat intC (rise l))]) := fun j => by kernel_rfl
      refine CTri.body Tryz.func177 (by kernel_rfl) ?_
      refine Dv.seqP k0 ?_
      refine krun_ok (Q := _) prim_ok mixed 3000 (.run (lft (bod Tryz.f177))) [] _ _ _ _ _ _ _ _ x1 ObsOk.nil ?_
      refine Dv.seqP k1 ?_
      refine krun_ok (Q := _) prim_ok mixed 3000 (.run (lft (rgt (bod Tryz.f177)))) [] _ _ _ _ _ _ _ _ x2 (ObsOk.cons (obBit rfl) (ObsOk.cons (obCall (c91 h2)) ObsOk.nil)) ?_
      refine Dv.seqP k2 ?_
      obtain ⟨id, k7⟩ := regP k3
      rw [k7]
      refine Dv.mut prim_ok (na := (0 : Nat)) rfl 2 [] [] _ x3 (ObsOk.cons (obCall (c234 h5)) ObsOk.nil) k4 Tryz.func233 k5 k6 (fun i X h => by cases h) ?_ x4 ObsOk.nil ?_
      · intro G0 W hB G w hE hR u hu
        refine (rise_call hR (by rfl) hsz hu).mono ?_
        rintro e w' ⟨v, b, S, z1, z2, z3, z4, z5, z6⟩
        exact ⟨v, b, S, z1, z2, z3, z4, z5, fun G' _ _ hS => ⟨z6 G' hS, fun q hq => by cases hq⟩⟩
      · intro j
        exact kfin_ok (na := (0 : Nat)) prim_ok mixed (x5 j) (ObsOk.cons (obData (dI _)) ObsOk.nil) (by decide)
    · replace h := ifF h6 h
      cases h
  · replace h := ifF h3 h
    replace h := Option.some.inj h
    subst h
    exact ⟨CTri.toFin prim_ok mixed Tryz.func177 (by kernel_rfl) 3000 [.no, .call [] [] 0 (ab r1) (some false), .no] [] [] [] false (by kernel_rfl) (ObsOk.cons (obBit h3) (ObsOk.cons (obCall (c91 h2)) (ObsOk.cons (obData (dI ([] : List Int))) ObsOk.nil))) (by decide), ⟨⟨trivial, trivial, ⟨trivial, dT _⟩, trivial⟩, trivial⟩, (fun _ h => nomatch h), dI _, (fun _ h => nomatch h)⟩

end Go.Proofs.YteiddempdecleaaGreat

namespace Go.Proofs.YteiddempdecleaaGreat
open Go Go.Ab

theorem imax_eq (a b : Int) : imax a b = max a b := by unfold imax; split <;> omega
theorem goodT_mk {k n : Int} {l : List Tm} (h : goodT (.mk k n l) = true) : headT (.mk k n l) = true ∧ goodL l = true := by
  rw [goodT] at h; simpa using h
theorem goodL_cons {t : Tm} {l : List Tm} (h : goodL (t :: l) = true) : goodT t = true ∧ goodL l = true := by
  rw [goodL] at h; simpa using h
theorem head_n {k n : Int} {l : List Tm} (h : headT (.mk k n l) = true) : 0 ≤ n ∧ n ≤ 1048576 ∧ 1 ≤ k ∧ k ≤ 8 ∧ l.length ≤ 2 := by
  have := head_spec h
  exact ⟨this.2.2.1, this.2.2.2.1, this.1, this.2.1, this.2.2.2.2.1⟩
mutual
theorem good_ok : ∀ t : Tm, goodT t = true → t.Ok
  | .mk k n l, h => by
    have h1 := goodT_mk h
    rw [Tm.Ok]
    exact ⟨by have := (head_n h1.1).2.2.2.2; omega, good_okL l h1.2⟩
theorem good_okL : ∀ l : List Tm, goodL l = true → OkL l
  | [], _ => by rw [OkL]; trivial
  | t :: l, h => by
    have := goodL_cons h
    rw [OkL]
    exact ⟨good_ok t this.1, good_okL l this.2⟩
end
mutual
theorem looT_nn : ∀ (t : Tm) (b : Int), 0 ≤ looT t b
  | .mk k n l, b => by
    rw [looT]; split
    · omega
    · exact looL_nn l k 0 b
theorem looL_nn : ∀ (l : List Tm) (k : Int) (i : Nat) (b : Int), 0 ≤ looL l k i b
  | [], k, i, b => by rw [looL]; omega
  | t :: l, k, i, b => by rw [looL]; have := looT_nn t (b + undT k i); omega
end
theorem ev_under (t : Tm) (i : Nat) : Evt (fun q => e235 q t (i : Int)) (undT t.k i) := by
  refine Evt.mk fun q => ?_
  simp only [e235, undT]
  by_cases h1 : i = 1
  · subst h1; simp; by_cases h3 : t.k = 3 <;> by_cases h4 : t.k = 4 <;> simp [h3, h4]
  · have : ¬ ((i : Int) = 1) := by omega
    simp [h1, this]
theorem undT_01 (k : Int) (i : Nat) : 0 ≤ undT k i ∧ undT k i ≤ 1 := by unfold undT; split <;> omega
mutual
theorem ev_loose : ∀ (t : Tm) (b : Int), goodT t = true → 0 ≤ b → b + t.high ≤ 4611686018427387904 → Evt (fun q => e178 q t b) (looT t b)
  | .mk k n l, b, hg, h0, h1 => by
    refine Evt.succ ?_
    simp only [e178, Tm.k, Tm.n]
    have hh := goodT_mk hg
    have hn := head_n hh.1
    rw [looT]
    by_cases hk : k = 1
    · rw [if_pos hk]
      rw [Tm.high] at h1
      refine Evt.ifT (by simpa using hk) (Evt.ret.eq ?_)
      rw [w64_id (x := n + 1) (by omega) (by omega), w64_id (by omega) (by omega), imax_eq]
    · rw [if_neg hk]
      refine Evt.ifF (by simpa using hk) ?_
      rw [Tm.high] at h1
      exact (ev_looseL l (.mk k n l) 0 b 0 rfl (by have := hn.2.2.2.2; simp only [Tm.sub]; omega) hh.2 h0 (by omega) (by omega)).eq (by have := looL_nn l k 0 b; simp only [Tm.k]; omega)
theorem ev_looseL : ∀ (l : List Tm) (p : Tm) (v : Nat) (b m : Int), p.sub.drop v = l → p.sub.length < 9223372036854775808 → goodL l = true → 0 ≤ b → 0 ≤ m → b + 1 + highL l ≤ 4611686018427387904 → Evt (fun q => e178L24878 q p b (v : Int) m) (max m (looL l p.k v b))
  | [], p, v, b, m, hd, hl, ho, h0, hm, h1 => by
    refine Evt.succ ?_
    simp only [e178L24878]
    rw [looL]
    exact Evt.ifF (drop_nil hd) (Evt.ret.eq (by omega))
  | t :: l, p, v, b, m, hd, hl, ho, h0, hm, h1 => by
    refine Evt.succ ?_
    simp only [e178L24878]
    have hg := goodL_cons ho
    have hu := undT_01 p.k v
    rw [highL] at h1
    refine Evt.ifT (drop_dec hd) (Evt.pure (drop_idx hd) ((ev_under p v).bind ?_))
    rw [w64_id (x := b + undT p.k v) (by omega) (by omega)]
    refine (ev_loose t (b + undT p.k v) hg.1 (by omega) (by omega)).bind ?_
    rw [w64_nat v (by have := drop_lt hd; omega), imax_eq]
    refine (ev_looseL l p (v + 1) b _ (drop_next hd) hl hg.2 h0 (by omega) (by omega)).eq ?_
    rw [looL]; omega
end

mutual
theorem col_len : ∀ (t : Tm) (a b : Int), (colT t a b).length ≤ t.nodes
  | .mk k n l, a, b => by
    rw [colT, Tm.nodes]
    have := col_lenL l a b
    split <;> simp <;> omega
theorem col_lenL : ∀ (l : List Tm) (a b : Int), (colL l a b).length ≤ nodesL l
  | [], a, b => by rw [colL, nodesL]; simp
  | t :: l, a, b => by
    rw [colL, nodesL]
    have := col_len t a b
    have := col_lenL l a b
    simp; omega
end
mutual
theorem ev_collect : ∀ (t : Tm) (a b : Int), t.Ok → t.nodes ≤ 8192 → Evt (fun q => e234 q t a b) (colT t a b)
  | .mk k n l, a, b, ho, hn => by
    refine Evt.succ ?_
    simp only [e234, Tm.k, Tm.n]
    rw [colT]
    rw [Tm.nodes] at hn
    by_cases ha : k = a
    · refine Evt.ifT (by simpa using ha) (Evt.pure (gapp_ok (by simp)) ?_)
      rw [if_pos (.inl ha)]
      exact ev_collectL l (.mk k n l) 0 a b [n] rfl ho.1 ho.2 (by simp; omega)
    · refine Evt.ifF (by simpa using ha) ?_
      by_cases hb : k = b
      · refine Evt.ifT (by simpa using hb) (Evt.pure (gapp_ok (by simp)) ?_)
        rw [if_pos (.inr hb)]
        exact ev_collectL l (.mk k n l) 0 a b [n] rfl ho.1 ho.2 (by simp; omega)
      · refine Evt.ifF (by simpa using hb) ?_
        rw [if_neg (by simp [ha, hb])]
        exact ev_collectL l (.mk k n l) 0 a b [] rfl ho.1 ho.2 (by simp; omega)
theorem ev_collectL : ∀ (l : List Tm) (p : Tm) (v : Nat) (a b : Int) (m : List Int), p.sub.drop v = l → p.sub.length < 9223372036854775808 → OkL l → m.length + nodesL l ≤ 8192 → Evt (fun q => e234L29545 q p a b (v : Int) m) (m ++ colL l a b)
  | [], p, v, a, b, m, hd, hl, ho, hn => by
    refine Evt.succ ?_
    simp only [e234L29545]
    rw [colL]
    exact Evt.ifF (drop_nil hd) (Evt.ret.eq (by simp))
  | t :: l, p, v, a, b, m, hd, hl, ho, hn => by
    refine Evt.succ ?_
    simp only [e234L29545]
    rw [nodesL] at hn
    have hc := col_len t a b
    refine Evt.ifT (drop_dec hd) (Evt.pure (drop_idx hd) ((ev_collect t a b ho.1 (by omega)).bind (Evt.pure (gapp_ok (by omega)) ?_)))
    rw [w64_nat v (by have := drop_lt hd; omega)]
    refine (ev_collectL l p (v + 1) a b _ (drop_next hd) hl ho.2 (by simp; omega)).eq ?_
    rw [colL]; simp
end

theorem shapedT_spec {t : Tm} (h : shapedT t = true) : t.nodes ≤ 8192 ∧ t.high ≤ 128 ∧ goodT t = true := by
  unfold shapedT at h; simp at h; exact ⟨h.1.1, h.1.2, h.2⟩
/-- numbers of two kinds, rising -/
def numsT (t : Tm) (a b : Int) : List Int := if shapedT t = true then rise (colT t a b) else []
theorem ev_Frees (t : Tm) (ho : t.Ok) : Evt (fun q => e177 q t) (numsT t 8 8) := by
  simp only [e177]
  refine (ev_Shaped t ho).bind ?_
  unfold numsT
  by_cases h : shapedT t = true
  · have hs := shapedT_spec h
    have := col_len t 8 8
    rw [if_pos h]
    refine Evt.ifT h ((ev_collect t 8 8 ho hs.1).bind (Evt.mk fun q => ?_))
    rw [if_pos (by simp; omega)]
  · rw [if_neg h]; exact Evt.ifF (by simpa using h) Evt.ret
theorem ev_Entries (t : Tm) (ho : t.Ok) : Evt (fun q => e179 q t) (numsT t 6 7) := by
  simp only [e179]
  refine (ev_Shaped t ho).bind ?_
  unfold numsT
  by_cases h : shapedT t = true
  · have hs := shapedT_spec h
    have := col_len t 6 7
    rw [if_pos h]
    refine Evt.ifT h ((ev_collect t 6 7 ho hs.1).bind (Evt.mk fun q => ?_))
    rw [if_pos (by simp; omega)]
  · rw [if_neg h]; exact Evt.ifF (by simpa using h) Evt.ret

/- what rises -/
theorem mem_cpct (x : Int) : ∀ l : List Int, x ∈ cpct l ↔ x ∈ l
  | [] => by simp [cpct]
  | [y] => by simp [cpct]
  | y :: z :: l => by
    rw [cpct_cons2]
    have := mem_cpct x (z :: l)
    split
    · subst_vars; rw [this]; simp
    · rw [List.mem_cons, this]; simp
theorem mem_rise (x : Int) (l : List Int) : x ∈ rise l ↔ x ∈ l := by
  unfold rise
  rw [mem_cpct]
  exact (isort_perm l).mem_iff
theorem cpct_sorted : ∀ l : List Int, l.Pairwise (· ≤ ·) → (cpct l).Pairwise (· ≤ ·)
  | [], _ => by simp [cpct]
  | [y], _ => by simp [cpct]
  | y :: z :: l, h => by
    rw [cpct_cons2]
    have h2 := cpct_sorted (z :: l) (List.pairwise_cons.1 h).2
    split
    · exact h2
    · refine List.pairwise_cons.2 ⟨fun w hw => ?_, h2⟩
      exact (List.pairwise_cons.1 h).1 w ((mem_cpct w _).1 hw)
theorem rise_sorted (l : List Int) : (rise l).Pairwise (· ≤ ·) := cpct_sorted _ (isort_sorted l)
theorem last_max : ∀ (l : List Int) (h : l ≠ []), l.Pairwise (· ≤ ·) → ∀ x ∈ l, x ≤ l.getLast h
  | [y], _, _, x, hx => by simp at hx; simp [hx]
  | y :: z :: l, _, hp, x, hx => by
    rw [List.getLast_cons (by simp)]
    have h2 := List.pairwise_cons.1 hp
    rcases List.mem_cons.1 hx with rfl | hx
    · exact h2.1 _ (List.getLast_mem _)
    · exact last_max (z :: l) (by simp) h2.2 x hx

/-- what may come -/
def rightT (t : Tm) (f n : Int) : Bool := shapedT t && decide (looT t 0 ≤ f) && (colT t 6 7).all fun x => decide (x < n)
theorem ev_Right (t : Tm) (f n : Int) (ho : t.Ok) : Evt (fun q => e108 q t f n) (rightT t f n) := by
  simp only [e108]
  refine (ev_Shaped t ho).bind ?_
  unfold rightT
  by_cases h : shapedT t = true
  · have hs := shapedT_spec h
    have hlen := col_len t 6 7
    refine Evt.ifT h ((ev_loose t 0 hs.2.2 (by omega) (by omega)).bind ?_)
    rw [h]
    by_cases h2 : looT t 0 > f
    · exact Evt.ifT (by simpa using h2) (Evt.ret.eq (by simp; omega))
    · refine Evt.ifF (by simpa using h2) ((ev_Entries t ho).bind ?_)
      have h2' : decide (looT t 0 ≤ f) = true := by simp; omega
      rw [h2']
      unfold numsT
      rw [if_pos h]
      have hr := rise_len (colT t 6 7)
      by_cases h3 : rise (colT t 6 7) = []
      · refine Evt.ifT (by rw [h3]; rfl) (Evt.ret.eq ?_)
        symm
        simp only [Bool.true_and, List.all_eq_true]
        intro x hx
        rw [← mem_rise, h3] at hx; cases hx
      · have hpos : 0 < (rise (colT t 6 7)).length := List.length_pos_iff.2 h3
        refine Evt.ifF (by simp; omega) (Evt.pure (a := (rise (colT t 6 7)).getLast h3) ?_ (Evt.ret.eq ?_))
        · rw [w64_id (by omega) (by omega)]
          unfold gidx
          rw [if_pos (by omega), List.getLast_eq_getElem, show ((rise (colT t 6 7)).length - 1 : Int).toNat = (rise (colT t 6 7)).length - 1 by omega]
          exact List.getElem?_eq_getElem _
        · have hm := last_max _ h3 (rise_sorted _)
          rw [Bool.eq_iff_iff]
          simp only [decide_eq_true_eq, Bool.true_and, List.all_eq_true]
          constructor
          · intro h4 x hx
            have := hm x ((mem_rise x _).2 hx)
            omega
          · intro h4
            exact h4 _ ((mem_rise _ _).1 (List.getLast_mem h3))
  · exact Evt.ifF (by simpa using h) (Evt.ret.eq (by simp [h]))
end Go.Proofs.YteiddempdecleaaGreat

namespace Go.Proofs.YteiddempdecleaaGreat
open Go Go.Ab

/- scholium/term.node -/
def e206 (qq : Nat) (p0 : Int) (p1 : Int) (p2 : List Tm) : Option (Tm) :=
  some (Tm.mk p0 p1 p2)
theorem q206 : Tryz.prog.funcs[206]? = some Tryz.f206 ∧ Tryz.f206.body.isNone = false := ⟨Tryz.func206, by kernel_rfl⟩
theorem k206 {p0 : Int} {p1 : Int} {p2 : List Tm} {r : Tm} (h : CTri Tryz.prog 206 [] [ai p0, ai p1, .sl (flat tmCells p2) (List.length p2) .no] (tmA r) [] 0) : CT Tryz.prog 206 [] [ai p0, ai p1, .sl (flat tmCells p2) (List.length p2) .no] (tmA r) [] 0 := ⟨h, ⟨trivial, trivial, ⟨trivial, dT _⟩, trivial⟩, forall_nil, ⟨trivial, trivial, dT _, trivial⟩, forall_nil⟩
theorem c206 {qq : Nat} {p0 : Int} {p1 : Int} {p2 : List Tm} {r : Tm} (h : e206 qq p0 p1 p2 = some r) : CT Tryz.prog 206 [] [ai p0, ai p1, .sl (flat tmCells p2) (List.length p2) .no] (tmA r) [] 0 := by
  unfold e206 at h
  obtain rfl := sj h
  exact k206 (tF q206 1 [] (oD (dT p2) o0) (by kernel_rfl))

end Go.Proofs.YteiddempdecleaaGreat

namespace Go.Proofs.YteiddempdecleaaGreat
open Go Go.Ab

/- scholium/term.App -/
def e146 (qq : Nat) (p0 : Tm) (p1 : Tm) : Option (Tm) :=
  (e206 qq 5 0 [p0, p1]) >>= fun r1 =>
  some r1
theorem q146 : Tryz.prog.funcs[146]? = some Tryz.f146 ∧ Tryz.f146.body.isNone = false := ⟨Tryz.func146, by kernel_rfl⟩
theorem k146 {p0 : Tm} {p1 : Tm} {r : Tm} (h : CTri Tryz.prog 146 [] [tmA p0, tmA p1] (tmA r) [] 0) : CT Tryz.prog 146 [] [tmA p0, tmA p1] (tmA r) [] 0 := ⟨h, ⟨⟨trivial, trivial, ⟨trivial, dT _⟩, trivial⟩, ⟨trivial, trivial, ⟨trivial, dT _⟩, trivial⟩, trivial⟩, forall_nil, ⟨trivial, trivial, dT _, trivial⟩, forall_nil⟩
theorem c146 {qq : Nat} {p0 : Tm} {p1 : Tm} {r : Tm} (h : e146 qq p0 p1 = some r) : CT Tryz.prog 146 [] [tmA p0, tmA p1] (tmA r) [] 0 := by
  unfold e146 at h
  obtain ⟨r1, h2, h⟩ := obind h
  obtain rfl := sj h
  exact k146 (tF q146 1 [] (oD (dT r1.sub) <| oC 0 [] (c206 h2) <| oS 2 (obLitR tm_eq [p0, p1]) o0) (by kernel_rfl))

end Go.Proofs.YteiddempdecleaaGreat

namespace Go.Proofs.YteiddempdecleaaGreat
open Go Go.Ab

/- scholium/term.Apply -/
def e142L37223 : Nat → (List Tm) → Int → Int → Int → (List Tm) →  Option (Tm)
  | 0, _, _, _, _, _ => none
  | qq + 1, p1, v9, vb0_0, vb0_1, vb0_2 =>
    if decide (v9 < (List.length p1 : Int)) = true then
      (gidx p1 v9) >>= fun x2 =>
      (e146 qq (Tm.mk vb0_0 vb0_1 vb0_2) x2) >>= fun r4 =>
      e142L37223 qq p1 (w64 (v9 + 1)) r4.k r4.n r4.sub
    else
      some (Tm.mk vb0_0 vb0_1 vb0_2)
def e142 (qq : Nat) (p0 : Tm) (p1 : List Tm) : Option (Tm) :=
  e142L37223 qq p1 0 p0.k p0.n p0.sub
def g142L37223E0 (j : Nat → Value) (p1 : List Tm) (v9 : Int) (vb0_0 : Int) (vb0_1 : Int) (vb0_2 : List Tm) : List AV := sp j 18 0 [(2, .mp 0 0), (4, .mp 1 0), (7, .sl (flat tmCells p1) (List.length p1) .no), (8, ai (List.length p1 : Int)), (9, ai v9)]
def g142L37223S0 (p1 : List Tm) (v9 : Int) (vb0_0 : Int) (vb0_1 : Int) (vb0_2 : List Tm) : LSt := ⟨[(0, .cells [ai vb0_0, ai vb0_1, .sl (flat tmCells vb0_2) (List.length vb0_2) .no]), (1, .cells [ai 0, ai 0, .sl (flat tmCells ([] : List Tm)) (List.length ([] : List Tm)) .nl])], 2, [], 0, []⟩
theorem q142 : Tryz.prog.funcs[142]? = some Tryz.f142 ∧ Tryz.f142.body.isNone = false := ⟨Tryz.func142, by kernel_rfl⟩
theorem k142 {p0 : Tm} {p1 : List Tm} {r : Tm} (h : CTri Tryz.prog 142 [] [tmA p0, .sl (flat tmCells p1) (List.length p1) .no] (tmA r) [] 0) : CT Tryz.prog 142 [] [tmA p0, .sl (flat tmCells p1) (List.length p1) .no] (tmA r) [] 0 := ⟨h, ⟨⟨trivial, trivial, ⟨trivial, dT _⟩, trivial⟩, ⟨trivial, dT _⟩, trivial⟩, forall_nil, ⟨trivial, trivial, dT _, trivial⟩, forall_nil⟩
theorem l142L37223 : ∀ qq : Nat, (∀ (p1 : List Tm) (v9 : Int) (vb0_0 : Int) (vb0_1 : Int) (vb0_2 : List Tm) (r : Tm), e142L37223 qq p1 v9 vb0_0 vb0_1 vb0_2 = some r → (∀ j, Dl Tryz.prog 0 (inn (inn (rgt (lft (rgt (bod Tryz.f142)))))) (g142L37223E0 j p1 v9 vb0_0 vb0_1 vb0_2) (g142L37223S0 p1 v9 vb0_0 vb0_1 vb0_2) (frameQ Tryz.prog 0 (FinQ Tryz.prog 0 Tryz.f142 (tmA r) [] 0) [.blk 0, .seq (rgt (rgt (bod Tryz.f142)))]))) := by
  intro qq
  induction qq with
  | zero =>
    exact fun _ _ _ _ _ _ h => nn h
  | succ qq ih =>
    intro p1 v9 vb0_0 vb0_1 vb0_2 r h
    rw [e142L37223] at h
    rcases spl h with ⟨h1, h⟩ | ⟨h1, h⟩
    · obtain ⟨x2, h3, h⟩ := obind h
      obtain ⟨r4, h5, h⟩ := obind h
      exact fun j => lH 2 [] [0, 1] [] [2, 4, 7, 8, 9] (oD (dT p1) <| oD (dT ([] : List Tm)) <| oD (dT r4.sub) <| oC 4 [] (c146 h5) <| oA 0 (ix23 (o := .no) h3) <| oB 0 h1 o0) (ih _ _ _ _ _ _ h) (fun j => by kernel_rfl)
    · obtain rfl := sj h
      exact fun j => lF 2 [] (oD (dT vb0_2) <| oB 0 h1 o0) (by kernel_rfl)
theorem c142 {qq : Nat} {p0 : Tm} {p1 : List Tm} {r : Tm} (h : e142 qq p0 p1 = some r) : CT Tryz.prog 142 [] [tmA p0, .sl (flat tmCells p1) (List.length p1) .no] (tmA r) [] 0 := by
  unfold e142 at h
  exact k142 (tH q142 1 [] [0, 1] [] [2, 4, 7, 8, 9] (oD (dT p1) <| oD (dT ([] : List Tm)) <| oD (dT p0.sub) o0) (l142L37223 _ _ _ _ _ _ _ h) (fun j => by kernel_rfl))

end Go.Proofs.YteiddempdecleaaGreat

namespace Go.Proofs.YteiddempdecleaaGreat
open Go Go.Ab

/- THE WALK OF term.Spine: its loop, and slices.Reverse behind it. -/
theorem spA1 (j : Nat → Value) (ls : List L3) (x : Tm) (u : List AV) (vs : List Value) (o : Own) : krun Tryz.prog prim 3000 (.run (inn (inn (lft (rgt (rgt (rgt (bod Tryz.f158)))))))) [] [.val (j 0), .mp 0 0, .mp 1 0, .val (j 3), .sl (flat c3 ls) ls.length (.st 0 3), .mp 2 0, .val (j 6), .val (j 7), .val (j 8), .val (j 9), .val (j 10), .val (j 11), .val (j 12), .val (j 13), .val (j 14), .val (j 15), .val (j 16), .val (j 17), .val (j 18), .val (j 19), .val (j 20), .val (j 21), .val (j 22), .val (j 23), .val (j 24), .val (j 25), .val (j 26), .val (j 27), .val (j 28), .val (j 29), .val (j 30), .val (j 31), .val (j 32), .val (j 33), .val (j 34)] ⟨[(0, .cells u), (1, .cells [ai 0, ai 0, .sl [] 0 .nl]), (2, .cells [ai x.k, ai x.n, .sl (vs.map .val) x.sub.length o])], 3, [0], 1, []⟩ [.no, .bit false] = some (.fin (.exit 0), [.val (j 0), .mp 0 0, .mp 1 0, .val (j 3), .sl (flat c3 ls) ls.length (.st 0 3), .mp 2 0, .val (j 6), .mp 2 0, ai x.k, ab false, ab false, .val undef, .val undef, .val undef, .val undef, ab false, .val (j 16), .val (j 17), .val (j 18), .val (j 19), .val (j 20), .val (j 21), .val (j 22), .val (j 23), .val (j 24), .val (j 25), .val (j 26), .val (j 27), .val (j 28), .val (j 29), .val (j 30), .val (j 31), .val (j 32), .val (j 33), .val (j 34)], ⟨[(0, .cells u), (1, .cells [ai 0, ai 0, .sl [] 0 .nl]), (2, .cells [ai x.k, ai x.n, .sl (vs.map .val) x.sub.length o])], 3, [0], 1, []⟩, [], [.bit (x.k == 5) false]) := by kernel_rfl
theorem spA2 (j : Nat → Value) (ls : List L3) (x : Tm) (u : List AV) (vs : List Value) (o : Own) : (xops Tryz.prog prim (regOps (lft (rgt (rgt (rgt (rgt (bod Tryz.f158))))))) ((regOps (lft (rgt (rgt (rgt (rgt (bod Tryz.f158))))))).toList.take 1) 0 [.val (j 0), .mp 0 0, .mp 1 0, .val (j 3), .sl (flat c3 ls) ls.length (.st 0 3), .mp 2 0, .val (j 6), .mp 2 0, ai x.k, ab false, ab false, .val undef, .val undef, .val undef, .val undef, ab false, .val (j 16), .val (j 17), .val (j 18), .val (j 19), .val (j 20), .val (j 21), .val (j 22), .val (j 23), .val (j 24), .val (j 25), .val (j 26), .val (j 27), .val (j 28), .val (j 29), .val (j 30), .val (j 31), .val (j 32), .val (j 33), .val (j 34)] ⟨[(0, .cells u), (1, .cells [ai 0, ai 0, .sl [] 0 .nl]), (2, .cells [ai x.k, ai x.n, .sl (vs.map .val) x.sub.length o])], 3, [0], 1, []⟩ []).map Prod.snd = some ([.val (j 0), .mp 0 0, .mp 1 0, .val (j 3), .sl (flat c3 ls) ls.length (.st 0 3), .mp 2 0, .val (j 6), .mp 2 0, ai x.k, ab false, ab false, .val undef, .val undef, .val undef, .val undef, ab false, .val (j 16), .val (j 17), .val (j 18), .val (j 19), .val (j 20), .val (j 21), .val (j 22), .val (j 23), .val (j 24), .val (j 25), .val (j 26), .val (j 27), .val (j 28), .val (j 29), .val (j 30), .sl (flat c3 ls) ls.length (.st 0 3), .val (j 32), .val (j 33), .val (j 34)], ⟨[(0, .cells u), (1, .cells [ai 0, ai 0, .sl [] 0 .nl]), (2, .cells [ai x.k, ai x.n, .sl (vs.map .val) x.sub.length o])], 3, [0], 1, []⟩, [], []) := by kernel_rfl
theorem spA3 (j i : Nat → Value) (ls : List L3) (l : List Tm) (x : Tm) (u : List AV) (vs : List Value) (o : Own) : (xops Tryz.prog prim (regOps (lft (rgt (rgt (rgt (rgt (bod Tryz.f158))))))) ((regOps (lft (rgt (rgt (rgt (rgt (bod Tryz.f158))))))).toList.drop 2) 2 (eset (tells [(4, .sl (flat tmCells l.reverse) l.length .no)] (mutEnv [1, 2] i [.val (j 0), .mp 0 0, .mp 1 0, .val (j 3), .sl (flat c3 ls) ls.length (.st 0 3), .mp 2 0, .val (j 6), .mp 2 0, ai x.k, ab false, ab false, .val undef, .val undef, .val undef, .val undef, ab false, .val (j 16), .val (j 17), .val (j 18), .val (j 19), .val (j 20), .val (j 21), .val (j 22), .val (j 23), .val (j 24), .val (j 25), .val (j 26), .val (j 27), .val (j 28), .val (j 29), .val (j 30), .sl (flat c3 ls) ls.length (.st 0 3), .val (j 32), .val (j 33), .val (j 34)] 0)) (some 32) (.tup [])) (pickSt [1, 2] ⟨[(0, .cells u), (1, .cells [ai 0, ai 0, .sl [] 0 .nl]), (2, .cells [ai x.k, ai x.n, .sl (vs.map .val) x.sub.length o])], 3, [0], 1, []⟩) []).map Prod.snd = some ([.val (j 0), .val (i 1), .mp 1 0, .val (j 3), .sl (flat tmCells l.reverse) l.length .no, .mp 2 0, .val (j 6), .mp 2 0, ai x.k, ab false, ab false, .val undef, .val undef, .val undef, .val undef, ab false, .val (j 16), .val (j 17), .val (j 18), .val (j 19), .val (j 20), .val (j 21), .val (j 22), .val (j 23), .val (j 24), .val (j 25), .val (j 26), .val (j 27), .val (j 28), .val (j 29), .val (j 30), .val (i 31), .tup [], .val (j 33), .val (j 34)], ⟨[(1, .cells [ai 0, ai 0, .sl [] 0 .nl]), (2, .cells [ai x.k, ai x.n, .sl (vs.map .val) x.sub.length o])], 3, [], 0, []⟩, [], []) := by kernel_rfl
theorem spA4 (j i : Nat → Value) (l : List Tm) (x : Tm) (vs : List Value) (o : Own) : kfin Tryz.prog prim 0 Tryz.f158 3000 (.run (rgt (rgt (rgt (rgt (rgt (bod Tryz.f158))))))) [] [.val (j 0), .val (i 1), .mp 1 0, .val (j 3), .sl (flat tmCells l.reverse) l.length .no, .mp 2 0, .val (j 6), .mp 2 0, ai x.k, ab false, ab false, .val undef, .val undef, .val undef, .val undef, ab false, .val (j 16), .val (j 17), .val (j 18), .val (j 19), .val (j 20), .val (j 21), .val (j 22), .val (j 23), .val (j 24), .val (j 25), .val (j 26), .val (j 27), .val (j 28), .val (j 29), .val (j 30), .val (i 31), .tup [], .val (j 33), .val (j 34)] ⟨[(1, .cells [ai 0, ai 0, .sl [] 0 .nl]), (2, .cells [ai x.k, ai x.n, .sl (vs.map .val) x.sub.length o])], 3, [], 0, []⟩ [.no, .no] [] [] [] false = some (.tup [.agg [ai x.k, ai x.n, .sl (vs.map .val) x.sub.length .no], .sl (flat tmCells l.reverse) l.length .no], [], [.data (vs.map .val), .data (flat tmCells l.reverse)]) := by kernel_rfl
theorem spB1 (j : Nat → Value) (ls : List L3) (x : Tm) (u : List AV) (vs : List Value) (o : Own) : krun Tryz.prog prim 3000 (.run (inn (inn (lft (rgt (rgt (rgt (bod Tryz.f158)))))))) [] [.val (j 0), .mp 0 0, .mp 1 0, .val (j 3), .sl (flat c3 ls) ls.length (.st 0 3), .mp 2 0, .val (j 6), .val (j 7), .val (j 8), .val (j 9), .val (j 10), .val (j 11), .val (j 12), .val (j 13), .val (j 14), .val (j 15), .val (j 16), .val (j 17), .val (j 18), .val (j 19), .val (j 20), .val (j 21), .val (j 22), .val (j 23), .val (j 24), .val (j 25), .val (j 26), .val (j 27), .val (j 28), .val (j 29), .val (j 30), .val (j 31), .val (j 32), .val (j 33), .val (j 34)] ⟨[(0, .cells u), (1, .cells [ai 0, ai 0, .sl [] 0 .nl]), (2, .cells [ai x.k, ai x.n, .sl (vs.map .val) x.sub.length o])], 3, [0], 1, []⟩ [.no, .bit true, .no, .no, .bit false] = some (.fin (.exit 0), [.val (j 0), .mp 0 0, .mp 1 0, .val (j 3), .sl (flat c3 ls) ls.length (.st 0 3), .mp 2 0, .val (j 6), .mp 2 0, ai x.k, ab true, ab true, .mp 2 2, .sl (vs.map .val) x.sub.length o, ai (x.sub.length : Int), ab false, ab false, .val (j 16), .val (j 17), .val (j 18), .val (j 19), .val (j 20), .val (j 21), .val (j 22), .val (j 23), .val (j 24), .val (j 25), .val (j 26), .val (j 27), .val (j 28), .val (j 29), .val (j 30), .val (j 31), .val (j 32), .val (j 33), .val (j 34)], ⟨[(0, .cells u), (1, .cells [ai 0, ai 0, .sl [] 0 .nl]), (2, .cells [ai x.k, ai x.n, .sl (vs.map .val) x.sub.length o])], 3, [0], 1, []⟩, [], [.bit (x.k == 5) true, .bit ((x.sub.length : Int) == 2) false]) := by kernel_rfl
theorem spB2 (j : Nat → Value) (ls : List L3) (x : Tm) (u : List AV) (vs : List Value) (o : Own) : (xops Tryz.prog prim (regOps (lft (rgt (rgt (rgt (rgt (bod Tryz.f158))))))) ((regOps (lft (rgt (rgt (rgt (rgt (bod Tryz.f158))))))).toList.take 1) 0 [.val (j 0), .mp 0 0, .mp 1 0, .val (j 3), .sl (flat c3 ls) ls.length (.st 0 3), .mp 2 0, .val (j 6), .mp 2 0, ai x.k, ab true, ab true, .mp 2 2, .sl (vs.map .val) x.sub.length o, ai (x.sub.length : Int), ab false, ab false, .val (j 16), .val (j 17), .val (j 18), .val (j 19), .val (j 20), .val (j 21), .val (j 22), .val (j 23), .val (j 24), .val (j 25), .val (j 26), .val (j 27), .val (j 28), .val (j 29), .val (j 30), .val (j 31), .val (j 32), .val (j 33), .val (j 34)] ⟨[(0, .cells u), (1, .cells [ai 0, ai 0, .sl [] 0 .nl]), (2, .cells [ai x.k, ai x.n, .sl (vs.map .val) x.sub.length o])], 3, [0], 1, []⟩ []).map Prod.snd = some ([.val (j 0), .mp 0 0, .mp 1 0, .val (j 3), .sl (flat c3 ls) ls.length (.st 0 3), .mp 2 0, .val (j 6), .mp 2 0, ai x.k, ab true, ab true, .mp 2 2, .sl (vs.map .val) x.sub.length o, ai (x.sub.length : Int), ab false, ab false, .val (j 16), .val (j 17), .val (j 18), .val (j 19), .val (j 20), .val (j 21), .val (j 22), .val (j 23), .val (j 24), .val (j 25), .val (j 26), .val (j 27), .val (j 28), .val (j 29), .val (j 30), .sl (flat c3 ls) ls.length (.st 0 3), .val (j 32), .val (j 33), .val (j 34)], ⟨[(0, .cells u), (1, .cells [ai 0, ai 0, .sl [] 0 .nl]), (2, .cells [ai x.k, ai x.n, .sl (vs.map .val) x.sub.length o])], 3, [0], 1, []⟩, [], []) := by kernel_rfl
theorem spB3 (j i : Nat → Value) (ls : List L3) (l : List Tm) (x : Tm) (u : List AV) (vs : List Value) (o : Own) : (xops Tryz.prog prim (regOps (lft (rgt (rgt (rgt (rgt (bod Tryz.f158))))))) ((regOps (lft (rgt (rgt (rgt (rgt (bod Tryz.f158))))))).toList.drop 2) 2 (eset (tells [(4, .sl (flat tmCells l.reverse) l.length .no)] (mutEnv [1, 2] i [.val (j 0), .mp 0 0, .mp 1 0, .val (j 3), .sl (flat c3 ls) ls.length (.st 0 3), .mp 2 0, .val (j 6), .mp 2 0, ai x.k, ab true, ab true, .mp 2 2, .sl (vs.map .val) x.sub.length o, ai (x.sub.length : Int), ab false, ab false, .val (j 16), .val (j 17), .val (j 18), .val (j 19), .val (j 20), .val (j 21), .val (j 22), .val (j 23), .val (j 24), .val (j 25), .val (j 26), .val (j 27), .val (j 28), .val (j 29), .val (j 30), .sl (flat c3 ls) ls.length (.st 0 3), .val (j 32), .val (j 33), .val (j 34)] 0)) (some 32) (.tup [])) (pickSt [1, 2] ⟨[(0, .cells u), (1, .cells [ai 0, ai 0, .sl [] 0 .nl]), (2, .cells [ai x.k, ai x.n, .sl (vs.map .val) x.sub.length o])], 3, [0], 1, []⟩) []).map Prod.snd = some ([.val (j 0), .val (i 1), .mp 1 0, .val (j 3), .sl (flat tmCells l.reverse) l.length .no, .mp 2 0, .val (j 6), .mp 2 0, ai x.k, ab true, ab true, .mp 2 2, .val (i 12), ai (x.sub.length : Int), ab false, ab false, .val (j 16), .val (j 17), .val (j 18), .val (j 19), .val (j 20), .val (j 21), .val (j 22), .val (j 23), .val (j 24), .val (j 25), .val (j 26), .val (j 27), .val (j 28), .val (j 29), .val (j 30), .val (i 31), .tup [], .val (j 33), .val (j 34)], ⟨[(1, .cells [ai 0, ai 0, .sl [] 0 .nl]), (2, .cells [ai x.k, ai x.n, .sl (vs.map .val) x.sub.length o])], 3, [], 0, []⟩, [], []) := by kernel_rfl
theorem spB4 (j i : Nat → Value) (l : List Tm) (x : Tm) (vs : List Value) (o : Own) : kfin Tryz.prog prim 0 Tryz.f158 3000 (.run (rgt (rgt (rgt (rgt (rgt (bod Tryz.f158))))))) [] [.val (j 0), .val (i 1), .mp 1 0, .val (j 3), .sl (flat tmCells l.reverse) l.length .no, .mp 2 0, .val (j 6), .mp 2 0, ai x.k, ab true, ab true, .mp 2 2, .val (i 12), ai (x.sub.length : Int), ab false, ab false, .val (j 16), .val (j 17), .val (j 18), .val (j 19), .val (j 20), .val (j 21), .val (j 22), .val (j 23), .val (j 24), .val (j 25), .val (j 26), .val (j 27), .val (j 28), .val (j 29), .val (j 30), .val (i 31), .tup [], .val (j 33), .val (j 34)] ⟨[(1, .cells [ai 0, ai 0, .sl [] 0 .nl]), (2, .cells [ai x.k, ai x.n, .sl (vs.map .val) x.sub.length o])], 3, [], 0, []⟩ [.no, .no] [] [] [] false = some (.tup [.agg [ai x.k, ai x.n, .sl (vs.map .val) x.sub.length .no], .sl (flat tmCells l.reverse) l.length .no], [], [.data (vs.map .val), .data (flat tmCells l.reverse)]) := by kernel_rfl
theorem spC (j : Nat → Value) (p0 : Tm) (q0 : Option Addr × Nat × Nat) (ls : List L3) (x : Tm) (vs : List Value) (o : Own) : kfin Tryz.prog prim 0 Tryz.f158 3000 (.run (inn (inn (lft (rgt (rgt (rgt (bod Tryz.f158)))))))) [.loop (inn (inn (lft (rgt (rgt (rgt (bod Tryz.f158))))))), .blk 0, .seq (rgt (rgt (rgt (rgt (bod Tryz.f158)))))] [.val (j 0), .mp 0 0, .mp 1 0, .val (j 3), .sl (flat c3 ls) ls.length (.st 0 3), .mp 2 0, .val (j 6), .val (j 7), .val (j 8), .val (j 9), .val (j 10), .val (j 11), .val (j 12), .val (j 13), .val (j 14), .val (j 15), .val (j 16), .val (j 17), .val (j 18), .val (j 19), .val (j 20), .val (j 21), .val (j 22), .val (j 23), .val (j 24), .val (j 25), .val (j 26), .val (j 27), .val (j 28), .val (j 29), .val (j 30), .val (j 31), .val (j 32), .val (j 33), .val (j 34)] ⟨[(0, .cells [.val (.int .i64 p0.k), .val (.int .i64 p0.n), .val (.slice q0.1 q0.2.1 q0.2.2)]), (1, .cells [ai 0, ai 0, .sl [] 0 .nl]), (2, .cells [ai x.k, ai x.n, .sl (vs.map .val) x.sub.length o])], 3, [0], 1, []⟩ [.no, .bit true, .no, .no, .bit true, .no, .bit true, .no, .no] [] [] [] false = some (.tup [.agg [.val (.int .i64 p0.k), .val (.int .i64 p0.n), .val (.slice q0.1 q0.2.1 q0.2.2)], .sl [] 0 .no], [], [.bit (x.k == 5) true, .bit ((x.sub.length : Int) == 2) true, .bit (decide ((ls.length : Int) ≥ 8192)) true, .data []]) := by kernel_rfl
theorem spD (i j : Nat → Value) (k n : Int) (a b : Tm) (qa qb : Option Addr × Nat × Nat) (u0 u1 u2 : Value) (ls ls2 : List L3) (o : Own) : khead Tryz.prog prim 0 3000 (.run (inn (inn (lft (rgt (rgt (rgt (bod Tryz.f158)))))))) [.loop (inn (inn (lft (rgt (rgt (rgt (bod Tryz.f158))))))), .blk 0, .seq (rgt (rgt (rgt (rgt (bod Tryz.f158)))))] [.val (j 0), .mp 0 0, .mp 1 0, .val (j 3), .sl (flat c3 ls) ls.length (.st 0 3), .mp 2 0, .val (j 6), .val (j 7), .val (j 8), .val (j 9), .val (j 10), .val (j 11), .val (j 12), .val (j 13), .val (j 14), .val (j 15), .val (j 16), .val (j 17), .val (j 18), .val (j 19), .val (j 20), .val (j 21), .val (j 22), .val (j 23), .val (j 24), .val (j 25), .val (j 26), .val (j 27), .val (j 28), .val (j 29), .val (j 30), .val (j 31), .val (j 32), .val (j 33), .val (j 34)] ⟨[(0, .cells [.val u0, .val u1, .val u2]), (1, .cells [ai 0, ai 0, .sl [] 0 .nl]), (2, .cells [ai k, ai n, .sl [.val (.int .i64 a.k), .val (.int .i64 a.n), .val (.slice qa.1 qa.2.1 qa.2.2), .val (.int .i64 b.k), .val (.int .i64 b.n), .val (.slice qb.1 qb.2.1 qb.2.2)] 2 o])], 3, [0], 1, []⟩ [.no, .bit true, .no, .no, .bit true, .no, .bit false, .no, .no, .no, .no, .app (flat c3 ls2) ls2.length 3 false, .no, .no, .no, .no] [] [0, 1, 2] [1] [1, 2, 4, 5] i = some (inn (inn (lft (rgt (rgt (rgt (bod Tryz.f158)))))), [.blk 0, .seq (rgt (rgt (rgt (rgt (bod Tryz.f158)))))], [.val (i 0), .mp 0 0, .mp 1 0, .val (i 3), .sl (flat c3 ls2) ls2.length (.st 0 3), .mp 2 0, .val (i 6), .val (i 7), .val (i 8), .val (i 9), .val (i 10), .val (i 11), .val (i 12), .val (i 13), .val (i 14), .val (i 15), .val (i 16), .val (i 17), .val (i 18), .val (i 19), .val (i 20), .val (i 21), .val (i 22), .val (i 23), .val (i 24), .val (i 25), .val (i 26), .val (i 27), .val (i 28), .val (i 29), .val (i 30), .val (i 31), .val (i 32), .val (i 33), .val (i 34)], ⟨[(0, .cells [.val u0, .val u1, .val u2]), (1, .cells [ai 0, ai 0, .sl [] 0 .nl]), (2, .cells [.val (.int .i64 a.k), .val (.int .i64 a.n), .val (.slice qa.1 qa.2.1 qa.2.2)])], 3, [0], 1, []⟩, [.bit (k == 5) true, .bit ((2 : Int) == 2) true, .bit (decide ((ls.length : Int) ≥ 8192)) false, .app 23 23 (flat c3 ls) [.val (.int .i64 b.k), .val (.int .i64 b.n), .val (.slice qb.1 qb.2.1 qb.2.2)] (flat c3 ls2) ls.length 1 ls2.length 3 false, .data [], .data (flat c3 ls2)]) := by kernel_rfl
theorem spE (i : Nat → Value) (u0 u1 : Int) (u2 : Option Addr × Nat × Nat) : khead Tryz.prog prim 0 3000 (.run (bod Tryz.f158)) [] ([.agg [.val (.int .i64 u0), .val (.int .i64 u1), .val (.slice u2.1 u2.2.1 u2.2.2)]] ++ List.replicate (Tryz.f158.ntmps - 1) (.val undef)) (st0 []) [.no, .no] [(none, 4, 3)] [0, 1, 2] [0] [1, 2, 4, 5] i = some (inn (inn (lft (rgt (rgt (rgt (bod Tryz.f158)))))), [.blk 0, .seq (rgt (rgt (rgt (rgt (bod Tryz.f158)))))], [.val (i 0), .mp 0 0, .mp 1 0, .val (i 3), .sl [] 0 (.st 0 3), .mp 2 0, .val (i 6), .val (i 7), .val (i 8), .val (i 9), .val (i 10), .val (i 11), .val (i 12), .val (i 13), .val (i 14), .val (i 15), .val (i 16), .val (i 17), .val (i 18), .val (i 19), .val (i 20), .val (i 21), .val (i 22), .val (i 23), .val (i 24), .val (i 25), .val (i 26), .val (i 27), .val (i 28), .val (i 29), .val (i 30), .val (i 31), .val (i 32), .val (i 33), .val (i 34)], ⟨[(0, .cells [.val (.int .i64 u0), .val (.int .i64 u1), .val (.slice u2.1 u2.2.1 u2.2.2)]), (1, .cells [ai 0, ai 0, .sl [] 0 .nl]), (2, .cells [.val (.int .i64 u0), .val (.int .i64 u1), .val (.slice u2.1 u2.2.1 u2.2.2)])], 3, [0], 1, []⟩, [.data [], .data []]) := by kernel_rfl

/-- a term's three cells, told as what they hold -/
def sv (x : Tm) (q : Option Addr × Nat × Nat) : List Value := [.int .i64 x.k, .int .i64 x.n, .slice q.1 q.2.1 q.2.2]
def sv3 (x : Tm) (q : Option Addr × Nat × Nat) : L3 := ⟨.int .i64 x.k, .int .i64 x.n, .slice q.1 q.2.1 q.2.2, rfl, rfl, rfl⟩

theorem VL.split {G : Gh} {w : World} : ∀ (cs bs : List AV) (us : List Value), VL G w (cs ++ bs) us → ∃ u1 u2, us = u1 ++ u2 ∧ VL G w cs u1 ∧ VL G w bs u2
  | [], bs, us, h => ⟨[], us, rfl, by simp only [VL], h⟩
  | a :: cs, bs, [], h => by simp only [List.cons_append, VL] at h
  | a :: cs, bs, u :: us, h => by
    simp only [List.cons_append, VL] at h
    obtain ⟨u1, u2, rfl, h1, h2⟩ := VL.split cs bs us h.2
    exact ⟨u :: u1, u2, rfl, by simp only [VL]; exact ⟨h.1, h1⟩, h2⟩

theorem sv_of {G : Gh} {w : World} {x : Tm} {us : List Value} (h : VL G w (tmL x) us) : ∃ q, us = sv x q := by
  unfold tmL at h
  match us, h with
  | [], h => simp only [VL] at h
  | [_], h => simp only [VL, and_false] at h
  | [_, _], h => simp only [VL, and_false] at h
  | [u0, u1, u2], h =>
    simp only [VL, and_true] at h
    obtain ⟨h0, h1, h2⟩ := h
    simp only [V] at h0 h1 h2
    obtain ⟨cap, _, ⟨_, _, _, h, _⟩ | ⟨b, off, h, _⟩⟩ := h2
    · obtain ⟨p, h⟩ : ∃ p, u2 = .slice p 0 0 := ⟨_, h⟩
      exact ⟨(p, 0, 0), by simp [sv, h0, h1, h]⟩
    · exact ⟨(some ⟨b, off, none⟩, x.sub.length, cap), by simp [sv, h0, h1, h]⟩
  | _ :: _ :: _ :: _ :: _, h => simp only [VL, and_false] at h

theorem VC.lit {G G' : Gh} {w w' : World} (b : Nat) (hL : ∀ o, G.L b o → G'.L b o) (hc : ∀ o, w'.cell? ⟨b, o, none⟩ = w.cell? ⟨b, o, none⟩) : ∀ (vs : List Value) (off : Nat), VC G w (vs.map .val) b off → VC G' w' (vs.map .val) b off
  | [], _, _ => by simp only [List.map_nil, VC]
  | v :: vs, off, h => by
    simp only [List.map_cons, VC] at h ⊢
    obtain ⟨h1, ⟨u, h2, h3⟩, h4⟩ := h
    exact ⟨hL _ h1, ⟨u, (hc _).trans h2, by simpa only [V] using h3⟩, VC.lit b hL hc vs (off + 1) h4⟩

theorem relit {G : Gh} {w : World} {vs : List Value} {n : Nat} {o : Own} {u : Value} {es : List AV} (h : V G w (.sl (vs.map .val) n o) u) (he : VL G w es vs) : V G w (.sl es n .no) u := by
  simp only [V] at h ⊢
  obtain ⟨cap, hc, ⟨h1, h2, h3, h4, _⟩ | ⟨b, off, h1, h2, _⟩⟩ := h
  · have hv : vs = [] := by simpa using h1
    subst hv
    have := VL.length _ _ he
    exact ⟨cap, hc, .inl ⟨List.length_eq_zero_iff.1 this.symm, h2, h3, h4, trivial⟩⟩
  · refine ⟨cap, hc, .inr ⟨b, off, h1, ?_, trivial⟩⟩
    obtain ⟨us, q1, q2⟩ := VC.cells _ _ _ h2
    have := VL.litEq _ _ q1
    subst this
    exact VC.of_cells es us b off he (fun i hi => (VC.cell _ _ _ i (.val us[i]) h2 (by simp [hi])).1) q2

/-- a term opened by one level -/
theorem open_tm {na : Nb} {G0 : Gh} {w : World} (hB : Base na G0) {x : Tm} {q : Option Addr × Nat × Nat} (h : VL G0 w (tmL x) (sv x q)) :
    ∃ (vs : List Value) (o : Own), VL G0 w (flat tmCells x.sub) vs ∧ VL G0 w [ai x.k, ai x.n, .sl (vs.map .val) x.sub.length o] (sv x q) ∧ Blk.lit (.cells [ai x.k, ai x.n, .sl (vs.map .val) x.sub.length o]) := by
  unfold tmL sv at h
  simp only [VL, and_true] at h
  obtain ⟨_, _, h2⟩ := h
  have key : ∃ (vs : List Value) (o : Own), VL G0 w (flat tmCells x.sub) vs ∧ V G0 w (.sl (vs.map .val) x.sub.length o) (.slice q.1 q.2.1 q.2.2) ∧
      ∀ (G G' : Gh) (w w' : World) (u : Value), G'.F = G.F → (∀ b o, G.F b → G.L b o → G'.L b o) → (∀ b o, G.F b → w'.cell? ⟨b, o, none⟩ = w.cell? ⟨b, o, none⟩) → V G w (.sl (vs.map .val) x.sub.length o) u → V G' w' (.sl (vs.map .val) x.sub.length o) u := by
    simp only [V] at h2
    obtain ⟨cap, hc, ⟨h1, h2, h3, h4, _⟩ | ⟨b, off, h1, h2, _⟩⟩ := h2
    · refine ⟨[], .no, by rw [h1]; simp only [VL], ?_, ?_⟩
      · simp only [V]; exact ⟨cap, hc, .inl ⟨rfl, h2, h3, h4, trivial⟩⟩
      · intro G G' w w' u _ _ _ hu
        rw [h2] at hu ⊢
        exact V.none hu
    · obtain ⟨vs, q1, q2⟩ := VC.cells _ _ _ h2
      have hL : ∀ i, i < vs.length → G0.L b (off + i) := by
        intro i hi
        have hl := VL.length _ _ q1
        exact (VC.cell _ _ _ i ((flat tmCells x.sub)[i]'(by omega)) h2 (by rw [List.getElem?_eq_getElem])).1
      have hcl : VC G0 w (vs.map .val) b off := VC.of_cells _ vs b off (VL.lits vs) hL q2
      by_cases hs : vs = []
      · subst hs
        have hl := VL.length _ _ q1
        have hfl := flat_len codecT.len x.sub
        have h0 : x.sub.length = 0 := by simp at hl; omega
        refine ⟨[], .no, q1, ?_, ?_⟩
        · simp only [V]; exact ⟨cap, hc, .inr ⟨b, off, h1, hcl, trivial⟩⟩
        · intro G G' w w' u _ _ _ hu
          rw [h0] at hu ⊢
          exact V.none hu
      · have hF : G0.F b := hB.LF b (off + 0) (hL 0 (List.length_pos_iff.2 hs))
        refine ⟨vs, .fr, q1, ?_, ?_⟩
        · simp only [V]; exact ⟨cap, hc, .inr ⟨b, off, h1, hcl, hF⟩⟩
        · intro G G' w w' u e1 e2 e3 hu
          simp only [V] at hu ⊢
          obtain ⟨cap', hc', ⟨p1, p2, p3, p4, _⟩ | ⟨b', off', p1, p2, p3⟩⟩ := hu
          · exact ⟨cap', hc', .inl ⟨p1, p2, p3, p4, trivial⟩⟩
          · have p3' : G.F b' := p3
            exact ⟨cap', hc', .inr ⟨b', off', p1, VC.lit b' (fun o h => e2 b' o p3' h) (fun o => e3 b' o p3') vs off' p2, by show G'.F b'; rw [e1]; exact p3'⟩⟩
  obtain ⟨vs, o, k1, k2, k3⟩ := key
  refine ⟨vs, o, k1, ?_, ?_⟩
  · simp only [sv, VL, V]; simp only [V] at k2; exact ⟨trivial, trivial, k2, trivial⟩
  · intro G G' w w' us e1 e2 e3 hu
    match us, hu with
    | [], hu => simp only [VL] at hu
    | [_], hu => simp only [VL, and_false] at hu
    | [_, _], hu => simp only [VL, and_false] at hu
    | [u0, u1, u2], hu =>
      simp only [VL, and_true] at hu ⊢
      exact ⟨by simpa only [V] using hu.1, by simpa only [V] using hu.2.1, k3 G G' w w' u2 e1 e2 e3 hu.2.2⟩
    | _ :: _ :: _ :: _ :: _, hu => simp only [VL, and_false] at hu

theorem zlit : Blk.lit (.cells [ai 0, ai 0, .sl [] 0 .nl]) := by
  intro G G' w w' us e1 e2 e3 hu
  match us, hu with
  | [], hu => simp only [VL] at hu
  | [_], hu => simp only [VL, and_false] at hu
  | [_, _], hu => simp only [VL, and_false] at hu
  | [u0, u1, u2], hu =>
    simp only [VL, and_true] at hu ⊢
    refine ⟨by simpa only [V] using hu.1, by simpa only [V] using hu.2.1, ?_⟩
    have := hu.2.2
    simp only [V] at this ⊢
    obtain ⟨cap, h1, ⟨_, _, h2, h3, h4⟩ | ⟨b, off, h2, _, h3⟩⟩ := this
    · exact ⟨cap, h1, .inl ⟨trivial, trivial, h2, h3, h4⟩⟩
    · exact h3.elim
  | _ :: _ :: _ :: _ :: _, hu => simp only [VL, and_false] at hu

def Good (G0 : Gh) (res : AV) (r : Tm × List Tm) : Prop := ∀ W G' W', Ext G0 W G' W' → Keep G'.F G'.w0 W' → ∀ u, V G' W' res u → V G' W' (.tup [tmA r.1, .sl (flat tmCells r.2) (List.length r.2) .no]) u

/- scholium/term.Spine -/
def g158L0 (p0 : Tm) : Tm → List Tm → Option (Tm × List Tm)
  | .mk k n [a, b], l =>
    if (k == 5) = true then
      if decide ((List.length l : Int) ≥ 8192) = true then some (p0, []) else (gapp 40 l [b]) >>= fun l2 => g158L0 p0 a l2
    else some (.mk k n [a, b], l.reverse)
  | x, l => some (x, l.reverse)
def g158 (p0 : Tm) : Option (Tm × List Tm) := g158L0 p0 p0 []

theorem dVals : ∀ vs : List Value, AV.DataL (vs.map .val)
  | [] => trivial
  | _ :: vs => ⟨trivial, dVals vs⟩

theorem VL.rev {G : Gh} {w : World} : ∀ (l : List Tm) (ls : List L3), VL G w (flat tmCells l) (vals ls) → ls.length = l.length → VL G w (flat tmCells l.reverse) (vals ls.reverse)
  | [], [], _, _ => by simp [flat, vals, VL]
  | x :: l, y :: ls, h, hl => by
    simp only [flat, vals, List.flatMap_cons] at h
    obtain ⟨u1, u2, e, h1, h2⟩ := VL.split _ _ _ h
    have n1 := VL.length _ _ h1
    rw [codecT.len] at n1
    obtain ⟨rfl, rfl⟩ := List.append_inj e (by rw [n1]; rfl)
    have ih := VL.rev l ls h2 (by simpa using hl)
    simp only [List.reverse_cons, flat, vals, List.flatMap_append, List.flatMap_cons, List.flatMap_nil, List.append_nil]
    exact VL.append _ _ _ _ ih h1
  | [], _ :: _, _, h => by simp at h
  | _ :: _, [], _, h => by simp at h

theorem good_exit {na : Nb} {G0 : Gh} (hB : Base na G0) {x : Tm} {l : List Tm} {vs : List Value} (v1 : VL G0 G0.w0 (flat tmCells x.sub) vs) (hn : na.n = 0 := by first | rfl | assumption) : Good G0 (.tup [.agg [ai x.k, ai x.n, .sl (vs.map .val) x.sub.length .no], .sl (flat tmCells l.reverse) l.length .no]) (x, l.reverse) := by
  intro W G' W' hE hK u hu
  have v := VL.later hB hE hK v1
  simp only [V, VL] at hu
  obtain ⟨us, rfl, hus⟩ := hu
  match us, hus with
  | [], h => simp only [VL] at h
  | [_], h => simp only [VL, and_false] at h
  | [ua, ub], h =>
    simp only [VL, and_true] at h
    obtain ⟨h1, h2⟩ := h
    simp only [V] at h1
    obtain ⟨ws, rfl, hws⟩ := h1
    match ws, hws with
    | [], h => simp only [VL] at h
    | [_], h => simp only [VL, and_false] at h
    | [_, _], h => simp only [VL, and_false] at h
    | [w0, w1, w2], h =>
      simp only [VL, and_true] at h
      obtain ⟨g0, g1, g2⟩ := h
      have g3 := relit g2 v
      simp only [V]
      refine ⟨[.agg #[w0, w1, w2], ub], rfl, ?_⟩
      simp only [VL, and_true]
      refine ⟨?_, by simpa using h2⟩
      simp only [tmA, V]
      exact ⟨[w0, w1, w2], rfl, by simp only [tmL, VL, and_true]; exact ⟨g0, g1, g3⟩⟩
    | _ :: _ :: _ :: _ :: _, h => simp only [VL, and_false] at h
  | _ :: _ :: _ :: _, h => simp only [VL, and_false] at h

theorem good_long {na : Nb} {G0 : Gh} (hB : Base na G0) {x : Tm} {q : Option Addr × Nat × Nat} (h0 : VL G0 G0.w0 (tmL x) (sv x q)) (hn : na.n = 0 := by first | rfl | assumption) : Good G0 (.tup [.agg [.val (.int .i64 x.k), .val (.int .i64 x.n), .val (.slice q.1 q.2.1 q.2.2)], .sl [] 0 .no]) (x, []) := by
  intro W G' W' hE hK u hu
  have v := VL.later hB hE hK h0
  simp only [V, VL] at hu
  obtain ⟨us, rfl, hus⟩ := hu
  match us, hus with
  | [], h => simp only [VL] at h
  | [_], h => simp only [VL, and_false] at h
  | [ua, ub], h =>
    simp only [VL, and_true] at h
    obtain ⟨h1, h2⟩ := h
    simp only [V] at h1
    obtain ⟨ws, rfl, hws⟩ := h1
    have hw : ws = sv x q := VL.litEq (sv x q) ws hws
    subst hw
    simp only [V]
    refine ⟨[.agg (sv x q).toArray, ub], rfl, ?_⟩
    simp only [VL, and_true]
    refine ⟨?_, by simpa [flat] using h2⟩
    simp only [tmA, V]
    exact ⟨sv x q, rfl, v⟩
  | _ :: _ :: _ :: _, h => simp only [VL, and_false] at h

theorem spAX {G0 : Gh} {p0 x : Tm} {q0 : Option Addr × Nat × Nat} {l : List Tm} {ls : List L3} {vs : List Value} {o : Own} (j : Nat → Value) (hlit : Blk.lit (.cells [ai x.k, ai x.n, .sl (vs.map .val) x.sub.length o])) (hl : VL G0 G0.w0 (flat tmCells l) (vals ls)) (hlen : ls.length = l.length) (h8 : l.length ≤ 8192) :
    Dv Tryz.prog (⟨0, fun G => G = G0⟩ : Nb) (rgt (rgt (rgt (rgt (bod Tryz.f158))))) [.val (j 0), .mp 0 0, .mp 1 0, .val (j 3), .sl (flat c3 ls) ls.length (.st 0 3), .mp 2 0, .val (j 6), .mp 2 0, ai x.k, ab false, ab false, .val undef, .val undef, .val undef, .val undef, ab false, .val (j 16), .val (j 17), .val (j 18), .val (j 19), .val (j 20), .val (j 21), .val (j 22), .val (j 23), .val (j 24), .val (j 25), .val (j 26), .val (j 27), .val (j 28), .val (j 29), .val (j 30), .val (j 31), .val (j 32), .val (j 33), .val (j 34)] ⟨[(0, .cells [.val (.int .i64 p0.k), .val (.int .i64 p0.n), .val (.slice q0.1 q0.2.1 q0.2.2)]), (1, .cells [ai 0, ai 0, .sl [] 0 .nl]), (2, .cells [ai x.k, ai x.n, .sl (vs.map .val) x.sub.length o])], 3, [0], 1, []⟩ (FinQ Tryz.prog (⟨0, fun G => G = G0⟩ : Nb) Tryz.f158 (.tup [.agg [ai x.k, ai x.n, .sl (vs.map .val) x.sub.length .no], .sl (flat tmCells l.reverse) l.length .no]) [] 0) := by
  have k1 : knd (rgt (rgt (rgt (rgt (bod Tryz.f158))))) = 1 := by kernel_rfl
  have k3 : isReg (lft (rgt (rgt (rgt (rgt (bod Tryz.f158)))))) = true := by kernel_rfl
  have k4 : clOf (regOps (lft (rgt (rgt (rgt (rgt (bod Tryz.f158)))))))[1]? = some (some 32, 224, #[.tmp 31]) := by kernel_rfl
  have k5 : (Tryz.f224.name == "runtime.NumGoroutine") = false := by kernel_rfl
  have k6 : Tryz.f224.body.isNone = false := by kernel_rfl
  refine Dv.seqP k1 ?_
  obtain ⟨id, k7⟩ := regP k3
  rw [k7]
  refine Dv.mut prim_ok (na := (⟨0, fun G => G = G0⟩ : Nb)) rfl 1 [1, 2] [(4, .sl (flat tmCells l.reverse) l.length .no)] (.tup []) (spA2 j ls x _ vs o) ObsOk.nil k4 Tryz.func224 k5 k6 ?_ ?_ (fun i => spA3 j i ls l x _ vs o) ObsOk.nil ?_
  · intro i X hm hX
    have : i = 1 ∨ i = 2 := by simpa using any_beq.1 hm
    rcases this with rfl | rfl
    · cases hX; exact zlit
    · cases hX; exact hlit
  · intro G1 W hB' G w hE hR u hu
    have e := hB'.κ
    subst e
    refine (rev_call (l := ls) hR (by rfl) (by omega) hu).mono ?_
    rintro e w' ⟨v, b, S, e1, e2, e3, e4, e5, e6, e7⟩
    refine ⟨v, b, S, e1, e2, e3, e4, e5, fun G' hE' hK' hS => ⟨by subst e6; simp only [V]; exact ⟨[], rfl, by simp only [VL]⟩, ?_⟩⟩
    intro p hp u' hu'
    have hp' := List.mem_singleton.1 hp
    subst hp'
    have := e7 G' hS _ (VL.later hB' hE' hK' (VL.rev l ls hl hlen)) u' hu'
    rw [hlen] at this
    exact this
  · intro i
    exact kfin_ok (na := (⟨0, fun G => G = G0⟩ : Nb)) prim_ok mixed (spA4 j i l x vs o) (ObsOk.cons (obData (dVals vs)) (ObsOk.cons (obData (dT _)) ObsOk.nil)) (by decide)

theorem spBX {G0 : Gh} {p0 x : Tm} {q0 : Option Addr × Nat × Nat} {l : List Tm} {ls : List L3} {vs : List Value} {o : Own} (j : Nat → Value) (hlit : Blk.lit (.cells [ai x.k, ai x.n, .sl (vs.map .val) x.sub.length o])) (hl : VL G0 G0.w0 (flat tmCells l) (vals ls)) (hlen : ls.length = l.length) (h8 : l.length ≤ 8192) :
    Dv Tryz.prog (⟨0, fun G => G = G0⟩ : Nb) (rgt (rgt (rgt (rgt (bod Tryz.f158))))) [.val (j 0), .mp 0 0, .mp 1 0, .val (j 3), .sl (flat c3 ls) ls.length (.st 0 3), .mp 2 0, .val (j 6), .mp 2 0, ai x.k, ab true, ab true, .mp 2 2, .sl (vs.map .val) x.sub.length o, ai (x.sub.length : Int), ab false, ab false, .val (j 16), .val (j 17), .val (j 18), .val (j 19), .val (j 20), .val (j 21), .val (j 22), .val (j 23), .val (j 24), .val (j 25), .val (j 26), .val (j 27), .val (j 28), .val (j 29), .val (j 30), .val (j 31), .val (j 32), .val (j 33), .val (j 34)] ⟨[(0, .cells [.val (.int .i64 p0.k), .val (.int .i64 p0.n), .val (.slice q0.1 q0.2.1 q0.2.2)]), (1, .cells [ai 0, ai 0, .sl [] 0 .nl]), (2, .cells [ai x.k, ai x.n, .sl (vs.map .val) x.sub.length o])], 3, [0], 1, []⟩ (FinQ Tryz.prog (⟨0, fun G => G = G0⟩ : Nb) Tryz.f158 (.tup [.agg [ai x.k, ai x.n, .sl (vs.map .val) x.sub.length .no], .sl (flat tmCells l.reverse) l.length .no]) [] 0) := by
  have k1 : knd (rgt (rgt (rgt (rgt (bod Tryz.f158))))) = 1 := by kernel_rfl
  have k3 : isReg (lft (rgt (rgt (rgt (rgt (bod Tryz.f158)))))) = true := by kernel_rfl
  have k4 : clOf (regOps (lft (rgt (rgt (rgt (rgt (bod Tryz.f158)))))))[1]? = some (some 32, 224, #[.tmp 31]) := by kernel_rfl
  have k5 : (Tryz.f224.name == "runtime.NumGoroutine") = false := by kernel_rfl
  have k6 : Tryz.f224.body.isNone = false := by kernel_rfl
  refine Dv.seqP k1 ?_
  obtain ⟨id, k7⟩ := regP k3
  rw [k7]
  refine Dv.mut prim_ok (na := (⟨0, fun G => G = G0⟩ : Nb)) rfl 1 [1, 2] [(4, .sl (flat tmCells l.reverse) l.length .no)] (.tup []) (spB2 j ls x _ vs o) ObsOk.nil k4 Tryz.func224 k5 k6 ?_ ?_ (fun i => spB3 j i ls l x _ vs o) ObsOk.nil ?_
  · intro i X hm hX
    have : i = 1 ∨ i = 2 := by simpa using any_beq.1 hm
    rcases this with rfl | rfl
    · cases hX; exact zlit
    · cases hX; exact hlit
  · intro G1 W hB' G w hE hR u hu
    have e := hB'.κ
    subst e
    refine (rev_call (l := ls) hR (by rfl) (by omega) hu).mono ?_
    rintro e w' ⟨v, b, S, e1, e2, e3, e4, e5, e6, e7⟩
    refine ⟨v, b, S, e1, e2, e3, e4, e5, fun G' hE' hK' hS => ⟨by subst e6; simp only [V]; exact ⟨[], rfl, by simp only [VL]⟩, ?_⟩⟩
    intro p hp u' hu'
    have hp' := List.mem_singleton.1 hp
    subst hp'
    have := e7 G' hS _ (VL.later hB' hE' hK' (VL.rev l ls hl hlen)) u' hu'
    rw [hlen] at this
    exact this
  · intro i
    exact kfin_ok (na := (⟨0, fun G => G = G0⟩ : Nb)) prim_ok mixed (spB4 j i l x vs o) (ObsOk.cons (obData (dVals vs)) (ObsOk.cons (obData (dT _)) ObsOk.nil)) (by decide)


theorem apC22 {l m r : List L3} (h : gapp 40 l m = some r) (hm : m.length ≠ 0) : Ob.ok Tryz.prog (.app 23 23 (flat c3 l) (flat c3 m) (flat c3 r) l.length m.length r.length 3 false) := app_some codec3 Tryz.underlying23 info27 rfl rfl rfl (by decide) rfl (by decide) h hm

theorem g135_exit {p0 x : Tm} {l : List Tm} {r : Tm × List Tm} (h : g158L0 p0 x l = some r) (hx : ¬ ((x.k == 5) = true ∧ x.sub.length = 2)) : r = (x, l.reverse) := by
  obtain ⟨k, n, sub⟩ := x
  unfold g158L0 at h
  split at h
  · rename_i k' n' a b e
    cases e
    split at h
    · rename_i hk
      exact (hx ⟨hk, rfl⟩).elim
    · cases h; rfl
  · cases h; rfl

theorem spine_loop {p0 : Tm} {q0 : Option Addr × Nat × Nat} {G0 : Gh} (hB : Base (⟨0, fun G => G = G0⟩ : Nb) G0) (h0 : VL G0 G0.w0 (tmL p0) (sv p0 q0)) : ∀ (N : Nat) (x : Tm) (l : List Tm) (r : Tm × List Tm) (hN : SizeOf.sizeOf x ≤ N) (h : g158L0 p0 x l = some r) (h8 : l.length ≤ 8192) (q : Option Addr × Nat × Nat) (ls : List L3)
    (hx : VL G0 G0.w0 (tmL x) (sv x q)) (hl : VL G0 G0.w0 (flat tmCells l) (vals ls)) (hlen : ls.length = l.length), ∃ res, Good G0 res r ∧ ∀ j : Nat → Value, Dl Tryz.prog (⟨0, fun G => G = G0⟩ : Nb) (inn (inn (lft (rgt (rgt (rgt (bod Tryz.f158))))))) [.val (j 0), .mp 0 0, .mp 1 0, .val (j 3), .sl (flat c3 ls) ls.length (.st 0 3), .mp 2 0, .val (j 6), .val (j 7), .val (j 8), .val (j 9), .val (j 10), .val (j 11), .val (j 12), .val (j 13), .val (j 14), .val (j 15), .val (j 16), .val (j 17), .val (j 18), .val (j 19), .val (j 20), .val (j 21), .val (j 22), .val (j 23), .val (j 24), .val (j 25), .val (j 26), .val (j 27), .val (j 28), .val (j 29), .val (j 30), .val (j 31), .val (j 32), .val (j 33), .val (j 34)] ⟨[(0, .cells [.val (.int .i64 p0.k), .val (.int .i64 p0.n), .val (.slice q0.1 q0.2.1 q0.2.2)]), (1, .cells [ai 0, ai 0, .sl [] 0 .nl]), (2, .cells [.val (.int .i64 x.k), .val (.int .i64 x.n), .val (.slice q.1 q.2.1 q.2.2)])], 3, [0], 1, []⟩ (frameQ Tryz.prog (⟨0, fun G => G = G0⟩ : Nb) (FinQ Tryz.prog (⟨0, fun G => G = G0⟩ : Nb) Tryz.f158 res [] 0) [.blk 0, .seq (rgt (rgt (rgt (rgt (bod Tryz.f158)))))]) := by
  intro N
  induction N with
  | zero =>
    intro x l r hN
    obtain ⟨k, n, sub⟩ := x
    simp at hN
  | succ N spine_ih =>
  intro x l r hN h h8 q ls hx hl hlen
  obtain ⟨vs, o, v1, v2, v3⟩ := open_tm hB hx
  have hopen : ∀ {res : AV} (j : Nat → Value), Dl Tryz.prog (⟨0, fun G => G = G0⟩ : Nb) (inn (inn (lft (rgt (rgt (rgt (bod Tryz.f158))))))) [.val (j 0), .mp 0 0, .mp 1 0, .val (j 3), .sl (flat c3 ls) ls.length (.st 0 3), .mp 2 0, .val (j 6), .val (j 7), .val (j 8), .val (j 9), .val (j 10), .val (j 11), .val (j 12), .val (j 13), .val (j 14), .val (j 15), .val (j 16), .val (j 17), .val (j 18), .val (j 19), .val (j 20), .val (j 21), .val (j 22), .val (j 23), .val (j 24), .val (j 25), .val (j 26), .val (j 27), .val (j 28), .val (j 29), .val (j 30), .val (j 31), .val (j 32), .val (j 33), .val (j 34)] ⟨[(0, .cells [.val (.int .i64 p0.k), .val (.int .i64 p0.n), .val (.slice q0.1 q0.2.1 q0.2.2)]), (1, .cells [ai 0, ai 0, .sl [] 0 .nl]), (2, .cells [ai x.k, ai x.n, .sl (vs.map .val) x.sub.length o])], 3, [0], 1, []⟩ (frameQ Tryz.prog (⟨0, fun G => G = G0⟩ : Nb) (FinQ Tryz.prog (⟨0, fun G => G = G0⟩ : Nb) Tryz.f158 res [] 0) [.blk 0, .seq (rgt (rgt (rgt (rgt (bod Tryz.f158)))))]) → Dl Tryz.prog (⟨0, fun G => G = G0⟩ : Nb) (inn (inn (lft (rgt (rgt (rgt (bod Tryz.f158))))))) [.val (j 0), .mp 0 0, .mp 1 0, .val (j 3), .sl (flat c3 ls) ls.length (.st 0 3), .mp 2 0, .val (j 6), .val (j 7), .val (j 8), .val (j 9), .val (j 10), .val (j 11), .val (j 12), .val (j 13), .val (j 14), .val (j 15), .val (j 16), .val (j 17), .val (j 18), .val (j 19), .val (j 20), .val (j 21), .val (j 22), .val (j 23), .val (j 24), .val (j 25), .val (j 26), .val (j 27), .val (j 28), .val (j 29), .val (j 30), .val (j 31), .val (j 32), .val (j 33), .val (j 34)] ⟨[(0, .cells [.val (.int .i64 p0.k), .val (.int .i64 p0.n), .val (.slice q0.1 q0.2.1 q0.2.2)]), (1, .cells [ai 0, ai 0, .sl [] 0 .nl]), (2, .cells [.val (.int .i64 x.k), .val (.int .i64 x.n), .val (.slice q.1 q.2.1 q.2.2)])], 3, [0], 1, []⟩ (frameQ Tryz.prog (⟨0, fun G => G = G0⟩ : Nb) (FinQ Tryz.prog (⟨0, fun G => G = G0⟩ : Nb) Tryz.f158 res [] 0) [.blk 0, .seq (rgt (rgt (rgt (rgt (bod Tryz.f158)))))]) := by
    intro res j hd
    refine Dl.openB (b := 2) (cs := [.val (.int .i64 x.k), .val (.int .i64 x.n), .val (.slice q.1 q.2.1 q.2.2)]) (cs' := [ai x.k, ai x.n, .sl (vs.map .val) x.sub.length o]) rfl (fun G1 W hB' G w hE hK us hus => ?_) hd
    have e := hB'.κ
    subst e
    have hu : us = sv x q := VL.litEq (sv x q) us hus
    subst hu
    exact VL.later hB' hE hK v2
  by_cases hk : (x.k == 5) = true
  · by_cases h2 : x.sub.length = 2
    · obtain ⟨k, n, sub⟩ := x
      match sub, h2 with
      | [a, b], _ =>
      rw [g158L0] at h
      replace h := ifT hk h
      rcases bcases (decide ((List.length l : Int) ≥ 8192)) with h3 | h3
      · replace h := ifT h3 h
        cases h
        exact ⟨_, good_long hB h0, fun j => hopen j (Dl.toFin (na := (⟨0, fun G => G = G0⟩ : Nb)) prim_ok mixed 3000 _ _ _ _ _ (spC j p0 q0 ls (.mk k n [a, b]) vs o) (ObsOk.cons (obBit hk) (ObsOk.cons (obBit rfl) (ObsOk.cons (obBit (by rw [hlen]; exact h3)) (ObsOk.cons (obData trivial) ObsOk.nil)))) (by decide))⟩
      · replace h := ifF h3 h
        obtain ⟨l2, hg, h⟩ := obind h
        obtain ⟨hg1, rfl⟩ := gapp_spec hg
        have w1 : VL G0 G0.w0 (tmCells a ++ (tmCells b ++ [])) vs := v1
        obtain ⟨ua, u2, rfl, wa, w2⟩ := VL.split _ _ _ w1
        obtain ⟨ub, u3, rfl, wb, w3⟩ := VL.split _ _ _ w2
        have e3 : u3 = [] := by
          have := VL.length _ _ w3
          exact List.length_eq_zero_iff.1 this
        subst e3
        rw [tm_eq] at wa wb
        obtain ⟨qa, rfl⟩ := sv_of wa
        obtain ⟨qb, rfl⟩ := sv_of wb
        have h3' : List.length l < 8192 := by
          have := of_decide_eq_false h3
          omega
        have hl2 : VL G0 G0.w0 (flat tmCells (l ++ [b])) (vals (ls ++ [sv3 b qb])) := by
          simp only [flat, vals, List.flatMap_append, List.flatMap_cons, List.flatMap_nil, List.append_nil]
          refine VL.append _ _ _ _ hl ?_
          rw [tm_eq]; exact wb
        have hga : gapp 40 ls [sv3 b qb] = some (ls ++ [sv3 b qb]) := by
          unfold gapp
          rw [if_pos]
          simp only [List.length_cons, List.length_nil] at hg1 ⊢
          rw [hlen]; exact hg1
        obtain ⟨res, hgood, hdl⟩ := spine_ih a (l ++ [b]) r (by simp at hN; omega) h (by simp; omega) qa (ls ++ [sv3 b qb]) wa hl2 (by simp [hlen])
        refine ⟨res, hgood, fun j => hopen j (Dl.toHead (na := (⟨0, fun G => G = G0⟩ : Nb)) prim_ok mixed 3000 _ _ _ _ _ (fun i => spD i j k n a b qa qb _ _ _ ls (ls ++ [sv3 b qb]) o) ?_ fun i => hdl i)⟩
        exact ObsOk.cons (obBit hk) (ObsOk.cons (obBit rfl) (ObsOk.cons (obBit (by rw [hlen]; exact h3)) (ObsOk.cons (apC22 (m := [sv3 b qb]) hga (by simp)) (ObsOk.cons (obData trivial) (ObsOk.cons (obData (flat_data codec3.data _)) ObsOk.nil)))))
    · have hr := g135_exit h (fun e => h2 e.2)
      subst hr
      refine ⟨.tup [.agg [ai x.k, ai x.n, .sl (vs.map .val) x.sub.length .no], .sl (flat tmCells l.reverse) l.length .no], good_exit hB v1, fun j => hopen j (Dl.step ?_)⟩
      have hx1 := spBX (G0 := G0) (p0 := p0) (q0 := q0) j v3 hl hlen h8
      refine krun_ok (Q := _) prim_ok mixed 3000 (.run (inn (inn (lft (rgt (rgt (rgt (bod Tryz.f158)))))))) [] _ _ _ _ _ _ _ _ (spB1 j ls x _ vs o) (ObsOk.cons (obBit hk) (ObsOk.cons (obBit (by simp; omega)) ObsOk.nil)) ?_
      simp only [KQ, seqQ, frameQ, blockQ, if_true]
      exact hx1
  · have hr := g135_exit h (fun e => hk e.1)
    subst hr
    · refine ⟨.tup [.agg [ai x.k, ai x.n, .sl (vs.map .val) x.sub.length .no], .sl (flat tmCells l.reverse) l.length .no], good_exit hB v1, fun j => hopen j (Dl.step ?_)⟩
      have hx1 := spAX (G0 := G0) (p0 := p0) (q0 := q0) j v3 hl hlen h8
      refine krun_ok (Q := _) prim_ok mixed 3000 (.run (inn (inn (lft (rgt (rgt (rgt (bod Tryz.f158)))))))) [] _ _ _ _ _ _ _ _ (spA1 j ls x _ vs o) (ObsOk.cons (obBit (by simpa using hk)) ObsOk.nil) ?_
      simp only [KQ, seqQ, frameQ, blockQ, if_true]
      exact hx1

theorem c158g {p0 : Tm} {r : Tm × List Tm} (h : g158 p0 = some r) : CT Tryz.prog 158 [] [tmA p0] (.tup [tmA r.1, .sl (flat tmCells r.2) (List.length r.2) .no]) [] 0 := by
  refine ⟨?_, ⟨⟨trivial, trivial, ⟨trivial, dT _⟩, trivial⟩, trivial⟩, (fun _ h => nomatch h), ⟨⟨trivial, trivial, dT _, trivial⟩, dT _, trivial⟩, (fun _ h => nomatch h)⟩
  intro G0 W cargs hB hR hv
  cases hc : cargs.toList with
  | nil => rw [hc] at hv; simp only [VL] at hv
  | cons u us =>
    rw [hc] at hv
    simp only [VL] at hv
    obtain ⟨hu, hus⟩ := hv
    have hus' : us = [] := by
      have := VL.length _ _ hus
      exact List.length_eq_zero_iff.1 this
    subst hus'
    simp only [tmA, V] at hu
    obtain ⟨ws, rfl, hws⟩ := hu
    obtain ⟨q0, rfl⟩ := sv_of hws
    have hBK : Base (⟨0, fun G => G = G0⟩ : Nb) G0 := ⟨hB.ρ, hB.τ, hB.LF, rfl⟩
    have h0 := VL.back hB hR hws
    obtain ⟨res, hgood, hdl⟩ := spine_loop hBK h0 _ p0 [] r (Nat.le_refl _) h (by simp) q0 [] h0 (by simp [flat, vals, VL]) rfl
    have hv2 : VL G0 W [.agg [.val (.int .i64 p0.k), .val (.int .i64 p0.n), .val (.slice q0.1 q0.2.1 q0.2.2)]] cargs.toList := by
      rw [hc]
      simp only [VL, V, and_true]
      exact ⟨sv p0 q0, rfl, VL.lits (sv p0 q0)⟩
    have hb := body_at (na := (⟨0, fun G => G = G0⟩ : Nb)) (res := res) (H1 := []) (nst := 0) rfl Tryz.func158 (by kernel_rfl) (khead_ok (na := (⟨0, fun G => G = G0⟩ : Nb)) (m := .run (bod Tryz.f158)) (fs := []) prim_ok mixed (fun i => spE i p0.k p0.n q0) (ObsOk.cons (obData trivial) (ObsOk.cons (obData trivial) ObsOk.nil)) fun i => hdl i) hBK hR hv2
    refine hb.mono ?_
    rintro e W' ⟨u, G', s', rfl, hE, hR', hu, h1, h2⟩
    exact ⟨u, G', s', rfl, hE, hR', hgood W G' W' hE hR'.below u hu, h1, h2⟩

def e158 (_qq : Nat) (p0 : Tm) : Option (Tm × List Tm) := g158 p0
theorem c158 {qq : Nat} {p0 : Tm} {r : Tm × List Tm} (h : e158 qq p0 = some r) : CT Tryz.prog 158 [] [tmA p0] (.tup [tmA r.1, .sl (flat tmCells r.2) (List.length r.2) .no]) [] 0 := c158g h


end Go.Proofs.YteiddempdecleaaGreat

namespace Go.Proofs.YteiddempdecleaaGreat
open Go Go.Ab

/- scholium/term.cloned -/
mutual
def e165 : Nat → Tm →  Option (Tm)
  | 0, _ => none
  | qq + 1, p0 =>
    e165L2927 qq p0 0 []
def e165L2927 : Nat → Tm → Int → (List Tm) →  Option (Tm)
  | 0, _, _, _ => none
  | qq + 1, p0, v14, vb1_2 =>
    if decide (v14 < (List.length p0.sub : Int)) = true then
      (gidx p0.sub v14) >>= fun x2 =>
      (e165 qq x2) >>= fun r4 =>
      (gapp 40 vb1_2 [r4]) >>= fun l6 =>
      e165L2927 qq p0 (w64 (v14 + 1)) l6
    else
      some (Tm.mk p0.k p0.n vb1_2)
end
def g165L2927E0 (j : Nat → Value) (p0 : Tm) (v14 : Int) (vb1_2 : List Tm) : List AV := sp j 27 0 [(2, .mp 0 0), (3, .mp 1 0), (12, .sl (flat tmCells p0.sub) (List.length p0.sub) .no), (13, ai (List.length p0.sub : Int)), (14, ai v14)]
def g165L2927S0 (p0 : Tm) (v14 : Int) (vb1_2 : List Tm) : LSt := ⟨[(0, .cells [ai 0, ai 0, .sl (flat tmCells ([] : List Tm)) (List.length ([] : List Tm)) .nl]), (1, .cells [ai p0.k, ai p0.n, .sl (flat tmCells vb1_2) (List.length vb1_2) (.st 0 3)])], 2, [0], 1, []⟩
theorem q165 : Tryz.prog.funcs[165]? = some Tryz.f165 ∧ Tryz.f165.body.isNone = false := ⟨Tryz.func165, by kernel_rfl⟩
theorem k165 {p0 : Tm} {r : Tm} (h : CTri Tryz.prog 165 [] [tmA p0] (tmA r) [] 0) : CT Tryz.prog 165 [] [tmA p0] (tmA r) [] 0 := ⟨h, ⟨⟨trivial, trivial, ⟨trivial, dT _⟩, trivial⟩, trivial⟩, forall_nil, ⟨trivial, trivial, dT _, trivial⟩, forall_nil⟩
theorem a165_165L2927 : ∀ qq : Nat, (∀ (p0 : Tm) (r : Tm), e165 qq p0 = some r → CT Tryz.prog 165 [] [tmA p0] (tmA r) [] 0) ∧ (∀ (p0 : Tm) (v14 : Int) (vb1_2 : List Tm) (r : Tm), e165L2927 qq p0 v14 vb1_2 = some r → (∀ j, Dl Tryz.prog 0 (inn (inn (rgt (lft (rgt (rgt (bod Tryz.f165))))))) (g165L2927E0 j p0 v14 vb1_2) (g165L2927S0 p0 v14 vb1_2) (frameQ Tryz.prog 0 (FinQ Tryz.prog 0 Tryz.f165 (tmA r) [] 0) [.blk 0, .seq (rgt (rgt (rgt (bod Tryz.f165))))]))) := by
  intro qq
  induction qq with
  | zero =>
    exact ⟨fun _ _ h => nn h, fun _ _ _ _ h => nn h⟩
  | succ qq ih =>
    obtain ⟨ih165, ih165L2927⟩ := ih
    refine ⟨?_, ?_⟩
    · intro p0 r h
      rw [e165] at h
      exact k165 (tH q165 5 [(some 2, 2, 3)] [1, 2] [0] [2, 3, 12, 13, 14] (oD (dT p0.sub) <| oD (dT ([] : List Tm)) <| oD (dT ([] : List Tm)) o0) (ih165L2927 _ _ _ _ h) (fun j => by kernel_rfl))
    · intro p0 v14 vb1_2 r h
      rw [e165L2927] at h
      rcases spl h with ⟨h1, h⟩ | ⟨h1, h⟩
      · obtain ⟨x2, h3, h⟩ := obind h
        obtain ⟨r4, h5, h⟩ := obind h
        obtain ⟨l6, h7, h⟩ := obind h
        exact fun j => lH 2 [] [0, 1] [1] [2, 3, 12, 13, 14] (oD (dT p0.sub) <| oD (dT l6) <| oD (dT ([] : List Tm)) <| oP 0 (apS23 h7 (by simp)) <| oS 0 (obLitR tm_eq [r4]) <| oC 4 [] (ih165 _ _ h5) <| oA 0 (ix23 (o := .no) h3) <| oB 0 h1 o0) (ih165L2927 _ _ _ _ h) (fun j => by kernel_rfl)
      · obtain rfl := sj h
        exact fun j => lF 2 [] (oD (dT vb1_2) <| oB 0 h1 o0) (by kernel_rfl)
theorem c165 {qq : Nat} {p0 : Tm} {r : Tm} (h : e165 qq p0 = some r) : CT Tryz.prog 165 [] [tmA p0] (tmA r) [] 0 := (a165_165L2927 _).1 _ _ h

end Go.Proofs.YteiddempdecleaaGreat

namespace Go.Proofs.YteiddempdecleaaGreat
open Go Go.Ab

/- scholium/term.Copy -/
def e84 (qq : Nat) (p0 : Tm) : Option (Tm) :=
  (e91 qq p0) >>= fun r1 =>
  if r1 = true then
    (e165 qq p0) >>= fun r4 =>
    some r4
  else
    some (Tm.mk 0 0 [])
theorem q84 : Tryz.prog.funcs[84]? = some Tryz.f84 ∧ Tryz.f84.body.isNone = false := ⟨Tryz.func84, by kernel_rfl⟩
theorem k84 {p0 : Tm} {r : Tm} (h : CTri Tryz.prog 84 [] [tmA p0] (tmA r) [] 0) : CT Tryz.prog 84 [] [tmA p0] (tmA r) [] 0 := ⟨h, ⟨⟨trivial, trivial, ⟨trivial, dT _⟩, trivial⟩, trivial⟩, forall_nil, ⟨trivial, trivial, dT _, trivial⟩, forall_nil⟩
theorem c84 {qq : Nat} {p0 : Tm} {r : Tm} (h : e84 qq p0 = some r) : CT Tryz.prog 84 [] [tmA p0] (tmA r) [] 0 := by
  unfold e84 at h
  obtain ⟨r1, h2, h⟩ := obind h
  rcases spl h with ⟨h3, h⟩ | ⟨h3, h⟩
  · obtain ⟨r4, h5, h⟩ := obind h
    obtain rfl := sj h
    exact k84 (tF q84 1 [] (oD (dT r4.sub) <| oC 2 [] (c165 h5) <| oK 1 [] h3 (c91 h2) o0) (by kernel_rfl))
  · obtain rfl := sj h
    exact k84 (tF q84 2 [] (oD (dT ([] : List Tm)) <| oK 1 [] h3 (c91 h2) o0) (by kernel_rfl))

end Go.Proofs.YteiddempdecleaaGreat

namespace Go.Proofs.YteiddempdecleaaGreat
open Go Go.Ab

theorem tm_eta (t : Tm) : Tm.mk t.k t.n t.sub = t := by cases t; rfl
theorem take_drop_next {α : Type} {l : List α} {v : Nat} {x : α} {r : List α} (h : l.drop v = x :: r) : l.take (v + 1) = l.take v ++ [x] := by
  have : l[v]? = some x := by
    have := congrArg (fun z => z[0]?) h
    simpa using this
  rw [List.take_add_one, this]; rfl
mutual
theorem ev_cloned : ∀ (t : Tm), goodT t = true → Evt (fun q => e165 q t) t
  | .mk k n l, hg => by
    refine Evt.succ ?_
    simp only [e165]
    have hh := goodT_mk hg
    exact ev_clonedL l (.mk k n l) 0 [] rfl hh.2 (by have := (head_n hh.1).2.2.2.2; exact this) rfl
theorem ev_clonedL : ∀ (l : List Tm) (p : Tm) (v : Nat) (acc : List Tm), p.sub.drop v = l → goodL l = true → p.sub.length ≤ 2 → acc = p.sub.take v → Evt (fun q => e165L2927 q p (v : Int) acc) p
  | [], p, v, acc, hd, hg, hl, ha => by
    refine Evt.succ ?_
    simp only [e165L2927]
    refine Evt.ifF (drop_nil hd) (Evt.ret.eq ?_)
    have : p.sub.length ≤ v := List.drop_eq_nil_iff.1 hd
    rw [ha, List.take_of_length_le this, tm_eta]
  | t :: l, p, v, acc, hd, hg, hl, ha => by
    have hlt := drop_lt hd
    have hc := goodL_cons hg
    refine Evt.succ ?_
    simp only [e165L2927]
    refine Evt.ifT (drop_dec hd) (Evt.pure (drop_idx hd) ((ev_cloned t hc.1).bind (Evt.pure (gapp_ok (by rw [ha]; simp <;> omega)) ?_)))
    rw [w64_nat v (by omega)]
    exact ev_clonedL l p (v + 1) _ (drop_next hd) hc.2 hl (by rw [ha, take_drop_next hd])
end
/-- a copy; of what is no term, the zero term -/
def copT (t : Tm) : Tm := if shapedT t = true then t else .mk 0 0 []
theorem ev_Copy (t : Tm) (ho : t.Ok) : Evt (fun q => e84 q t) (copT t) := by
  simp only [e84]
  refine (ev_Shaped t ho).bind ?_
  unfold copT
  by_cases h : shapedT t = true
  · rw [if_pos h]; exact Evt.ifT h ((ev_cloned t (shapedT_spec h).2.2).bind Evt.ret)
  · rw [if_neg h]; exact Evt.ifF (by simpa using h) Evt.ret

/- spines -/
def hdT : Tm → Tm
  | .mk k n [a, b] => if k = 5 then hdT a else .mk k n [a, b]
  | x => x
def arT : Tm → List Tm
  | .mk k _ [a, b] => if k = 5 then arT a ++ [b] else []
  | _ => []
theorem sub2 {l : List Tm} (h : l.length = 2) : ∃ a b, l = [a, b] := by
  rcases l with _ | ⟨a, _ | ⟨b, _ | ⟨c, l⟩⟩⟩ <;> simp at h
  exact ⟨a, b, rfl⟩
theorem hdT_app (n : Int) (a b : Tm) : hdT (.mk 5 n [a, b]) = hdT a := by rw [hdT]; simp
theorem arT_app (n : Int) (a b : Tm) : arT (.mk 5 n [a, b]) = arT a ++ [b] := by rw [arT]; simp
theorem hdT_not {t : Tm} (h : t.k ≠ 5) : hdT t = t := by
  unfold hdT
  split
  · exact if_neg h
  · rfl
theorem arT_not {t : Tm} (h : t.k ≠ 5) : arT t = [] := by
  unfold arT
  split
  · exact if_neg h
  · rfl
/-- what is so of a good term's applications -/
theorem app_ind {P : Tm → Prop} (h0 : ∀ t, goodT t = true → t.k ≠ 5 → P t) (h1 : ∀ n a b, goodT (.mk 5 n [a, b]) = true → goodT a = true → goodT b = true → P a → P (.mk 5 n [a, b])) : ∀ t : Tm, goodT t = true → P t := by
  intro t
  induction hn : t.nodes using Nat.strongRecOn generalizing t with
  | ind m ih =>
    intro hg
    by_cases h : t.k = 5
    · obtain ⟨k, n, l⟩ := t
      have hh := goodT_mk hg
      have hs := head_spec hh.1
      simp only [Tm.k] at h
      subst h
      obtain ⟨a, b, rfl⟩ := sub2 (hs.2.2.2.2.2.1 (.inr (.inr rfl))).1
      have hc := goodL_cons hh.2
      have hc2 := goodL_cons hc.2
      refine h1 n a b hg hc.1 hc2.1 (ih a.nodes ?_ a rfl hc.1)
      rw [Tm.nodes, nodesL] at hn; omega
    · exact h0 t hg h
theorem spine_eq (p0 : Tm) : ∀ t : Tm, goodT t = true → ∀ l : List Tm, l.length + t.nodes ≤ 8192 → g158L0 p0 t l = some (hdT t, arT t ++ l.reverse) := by
  refine app_ind ?_ ?_
  · intro t hg hk l hl
    rw [hdT_not hk, arT_not hk]
    obtain ⟨k, n, ls⟩ := t
    replace hk : ¬ k = 5 := hk
    rcases ls with _ | ⟨a, _ | ⟨b, _ | ⟨c, ls⟩⟩⟩ <;> unfold g158L0 <;> simp [hk]
  · intro n a b hg ha hb ih l hl
    rw [Tm.nodes, nodesL, nodesL, nodesL] at hl
    rw [hdT_app, arT_app]
    unfold g158L0
    rw [ifTe (show ((5 : Int) == 5) = true from rfl), ifFe (by simp <;> omega), gapp_ok (by simp <;> omega)]
    show g158L0 p0 a (l ++ [b]) = _
    rw [ih (l ++ [b]) (by simp <;> omega)]
    simp
theorem ev_Spine (t : Tm) (hs : shapedT t = true) : Evt (fun q => e158 q t) (hdT t, arT t) := by
  refine Evt.mk fun q => ?_
  have h := shapedT_spec hs
  show g158L0 t t [] = _
  rw [spine_eq t t h.2.2 [] (by simpa using h.1)]; simp
theorem hd_spec : ∀ t : Tm, goodT t = true → goodT (hdT t) = true ∧ (hdT t).k ≠ 5 ∧ (hdT t).nodes ≤ t.nodes ∧ (hdT t).high ≤ t.high ∧ ∀ x ∈ arT t, goodT x = true ∧ x.nodes < t.nodes ∧ x.high < t.high := by
  refine app_ind ?_ ?_
  · intro t hg hk
    rw [hdT_not hk, arT_not hk]
    exact ⟨hg, hk, Nat.le_refl _, Nat.le_refl _, fun x hx => by cases hx⟩
  · intro n a b hg ha hb ih
    rw [hdT_app, arT_app]
    simp only [Tm.nodes, nodesL, Tm.high, highL]
    refine ⟨ih.1, ih.2.1, by omega, by omega, fun x hx => ?_⟩
    rcases List.mem_append.1 hx with hx | hx
    · have := ih.2.2.2.2 x hx; exact ⟨this.1, by omega, by omega⟩
    · simp at hx; subst hx; exact ⟨hb, by omega, by omega⟩
theorem shapedT_of {t : Tm} (h1 : t.nodes ≤ 8192) (h2 : t.high ≤ 128) (h3 : goodT t = true) : shapedT t = true := by
  unfold shapedT; simp [h1, h2, h3]
theorem ar_shaped {t x : Tm} (h : shapedT t = true) (hx : x ∈ arT t) : shapedT x = true := by
  have hs := shapedT_spec h
  have := (hd_spec t hs.2.2).2.2.2.2 x hx
  exact shapedT_of (by omega) (by omega) this.1
theorem hd_shaped {t : Tm} (h : shapedT t = true) : shapedT (hdT t) = true := by
  have hs := shapedT_spec h
  have := hd_spec t hs.2.2
  exact shapedT_of (by omega) (by omega) this.1
theorem ar_len : ∀ t : Tm, goodT t = true → (arT t).length < t.nodes := by
  refine app_ind ?_ ?_
  · intro t hg hk
    rw [arT_not hk]; have := nodes_pos t; simp; omega
  · intro n a b hg ha hb ih
    rw [arT_app, Tm.nodes, nodesL, nodesL, nodesL]; simp; omega

/- applications -/
def apT (f : Tm) : List Tm → Tm
  | [] => f
  | a :: l => apT (.mk 5 0 [f, a]) l
theorem ev_App (f a : Tm) : Evt (fun q => e146 q f a) (.mk 5 0 [f, a]) := Evt.mk fun _ => rfl
theorem ev_ApplyL : ∀ (l p : List Tm) (v : Nat) (f : Tm), p.drop v = l → p.length < 9223372036854775808 → Evt (fun q => e142L37223 q p (v : Int) f.k f.n f.sub) (apT f l)
  | [], p, v, f, hd, hl => by
    refine Evt.succ ?_
    simp only [e142L37223]
    exact Evt.ifF (drop_nil hd) (Evt.ret.eq (by rw [tm_eta, apT]))
  | a :: l, p, v, f, hd, hl => by
    have hlt := drop_lt hd
    refine Evt.succ ?_
    simp only [e142L37223]
    rw [tm_eta]
    refine Evt.ifT (drop_dec hd) (Evt.pure (drop_idx hd) ((ev_App f a).bind ?_))
    rw [w64_nat v (by omega), apT]
    exact ev_ApplyL l p (v + 1) (.mk 5 0 [f, a]) (drop_next hd) hl
theorem ev_Apply (f : Tm) (l : List Tm) (h : l.length < 9223372036854775808) : Evt (fun q => e142 q f l) (apT f l) := by
  simp only [e142]
  exact ev_ApplyL l l 0 f rfl h
theorem apT_ok : ∀ (l : List Tm) (f : Tm), f.Ok → (∀ x ∈ l, x.Ok) → (apT f l).Ok
  | [], f, hf, _ => by rw [apT]; exact hf
  | a :: l, f, hf, hl => by
    rw [apT]
    refine apT_ok l _ ?_ fun x hx => hl x (by simp [hx])
    rw [Tm.Ok, OkL, OkL, OkL]
    exact ⟨by simp, hf, hl a (by simp), trivial⟩
end Go.Proofs.YteiddempdecleaaGreat
