/- A CALL THAT WRITES IN PLACE: what stands behind it is told anew, from where the function began. -/
import Derived.Test.YtkeipljdhcbfoaaGreatAbGo
namespace Go.Ab
open Go Go.RowKit

/-- operations, and then others -/
theorem ARun_then {P : Program} {ops : Array Oper} {Q : Exit → Act → World → Prop} {rest : List Nat} : ∀ (l : List (Nat × Option LA)) (S S' : ST), ARun P ops l S S' → ∀ (G : Gh) (a : Act) (w : World), Rel G S a w →
    (∀ G' a' w', Ext G w G' w' → Rel G' S' a' w' → wpOps P ops Q rest a' w') → wpOps P ops Q (l.map (·.1) ++ rest) a w
  | [], S, S', h, G, a, w, hR, hQ => by
    simp only [ARun] at h
    subst h
    exact hQ G a w (Ext.refl G w) hR
  | p :: l, S, S', h, G, a, w, hR, hQ => by
    obtain ⟨S₁, h1, h2⟩ := h
    rw [List.map_cons, List.cons_append, wpOps_cons]
    refine h1.wp hR fun G' a' w' hE hR' => ?_
    exact ARun_then l S₁ S' h2 G' a' w' hR' fun G2 a2 w2 hE2 hR2 => hQ G2 a2 w2 (hE.trans hE2) hR2

/-- a call, by what it comes to here -/
theorem wp_callOp {P : Program} {dst : Option Tmp} {type : TypeId} {pos : String} {after : Array Edge} {guard : Option (Nat × Bool)} {g : Operand} {args : Array Operand} {argTypes : Array TypeId} {f : FuncId} {fn : Func} {a : Act} {w : World} {K : Act → World → Prop} {Q : Exit → Act → World → Prop}
    (hg : a.eval g = .func (.func f) #[] #[]) (hf : P.funcs[f]? = some fn) (hname : (fn.name == "runtime.NumGoroutine") = false) (hb : fn.body.isNone = false)
    (h : Calls P f (args.map a.eval) w fun e w' => ∃ u, e = .returned u ∧ K (a.put dst u) w') : Oper.wp P ⟨dst, .call { callee := .value g, args := args, argTypes := argTypes }, type, pos, after, guard⟩ a w K Q := by
  have hrun : (execOp a.eval ⟨dst, .call { callee := .value g, args := args, argTypes := argTypes }, type, pos, after, guard⟩).run P w = .ok (.enter f (args.map a.eval)) w := by
    simp only [execOp, resolve, hg, Deferred.ofValue, Sem.run_bind, Sem.run_pure, Result.andThen_ok, invoke, callFunc]
    have hname' : ¬ fn.name = "runtime.NumGoroutine" := by simpa using hname
    have hb' : ¬ fn.body = none := by intro e; rw [e] at hb; cases hb
    simp [program, Sem.run, hf, hname', hb']
  unfold Oper.wp
  rw [hrun, Oper.upon_enter]
  refine h.mono fun e w' he => ?_
  obtain ⟨u, rfl, hK⟩ := he
  exact hK

/-- no block, no stamp -/
def s0 : LSt := ⟨[], 0, [], 0, []⟩

/-- what is known behind such a call: what was known where the function began, and some new cells -/
def freshG (G0 : Gh) (S : Nat → Nat → Prop) : Gh := ⟨fun _ => none, fun _ => none, fun b o => G0.L b o ∨ S b o, G0.w0, G0.F⟩

theorem Keep.cell {F : Nat → Prop} {w w' : World} (h : Keep F w w') {b o : Nat} (hb : F b) : w'.cell? ⟨b, o, none⟩ = w.cell? ⟨b, o, none⟩ := by
  simp only [World.cell?, h.block b hb]

theorem fresh_ok {na : Nb} {G0 : Gh} {W w : World} {σ : ASt} (hB : Base na G0) (hn : na.n = 0) (hR : RelS G0 σ W) (hK : Keep G0.F W w) {S : Nat → Nat → Prop} (hS : ∀ b o, S b o → ¬ G0.F b ∧ ∃ v, w.cell? ⟨b, o, none⟩ = some v) :
    Ext G0 W (freshG G0 S) w ∧ RelS (freshG G0 S) (over (Emp 0) s0) w := by
  have hcell : ∀ b o, G0.L b o → w.cell? ⟨b, o, none⟩ = W.cell? ⟨b, o, none⟩ := fun b o e => hK.cell (hB.LF b o e)
  refine ⟨⟨fun i b e => ?_, fun k r e => ?_, fun _ _ e => .inl e, hcell, rfl, rfl, fun b o e => e.imp id fun q => (hS b o q).1⟩, ⟨fun i => ?_, ⟨0, fun i _ => rfl⟩, fun i j b e => ?_, fun i b X e => ?_, fun b o e => ?_, fun _ _ => rfl, fun k hk => ?_, fun k k' b f t f' t' hk => ?_, ?_, fun k hk => ?_⟩⟩
  · rw [hB.ρ i (by omega)] at e; cases e
  · rw [hB.τ k] at e; cases e
  · exact ⟨fun _ => rfl, fun _ => rfl⟩
  · cases e
  · cases e
  · refine ⟨?_, fun i e' => by cases e'⟩
    rcases e with e | e
    · rw [hcell b o e]; exact (hR.live b o e).1
    · exact (hS b o e).2
  · simp [over_own, s0] at hk
  · simp [over_own, s0] at hk
  · exact hR.below.trans hK
  · exact Nat.lt_of_lt_of_le (hR.base k hk) hK.size

/-- a slice whose cells are known, one by one -/
theorem V.ofCells {G : Gh} {w : World} {es : List AV} {vs : List Value} {b off n cap : Nat} (hv : VL G w es vs) (hL : ∀ i, i < vs.length → G.L b (off + i)) (hc : ∀ i (h : i < vs.length), w.cell? ⟨b, off + i, none⟩ = some vs[i]) (hn : n ≤ cap) :
    V G w (.sl es n .no) (.slice (some ⟨b, off, none⟩) n cap) := by
  simp only [V]
  exact ⟨cap, hn, .inr ⟨b, off, rfl, VC.of_cells _ _ _ _ hv hL hc, trivial⟩⟩

/-- slots that hold whatever they hold -/
theorem VL.lits {G : Gh} {w : World} : ∀ us : List Value, VL G w (us.map .val) us
  | [] => by simp [VL]
  | u :: us => by simp only [List.map_cons, VL, V]; exact ⟨trivial, VL.lits us⟩

end Go.Ab
