/- CALLS THAT TAKE NOTHING: what one run on the empty state shows holds of the call in every state. -/
import Derived.Test.YtkeipljdhcbfoaaGreatAbCall
namespace Go.Ab
open Go Go.RowKit

theorem RelS.behind {G : Gh} {σ : ASt} {w w' : World} (h : RelS G σ w) (hb : Below w.heap.size w w') : Ext G w G w' ∧ RelS G σ w' := by
  have hE : Ext G w G w' := ⟨fun _ _ e => e, fun _ _ e => e, fun _ _ e => e, fun b o hL => hb.cell (p := ⟨b, o, none⟩) (h.L_lt hL), rfl, rfl, fun _ _ e => .inl e⟩
  refine ⟨hE, h.dom, h.fin, h.inj, fun i b X hi hX => ?_, fun b o hL => ?_, h.τns, fun k hk => ?_, h.ownd, h.below.trans (Keep.of_below hb h.base), fun k hk => Nat.lt_of_lt_of_le (h.base k hk) hb.size⟩
  · obtain ⟨h1, h3⟩ := h.blk i b X hi hX
    exact ⟨h1, BlkOk.mono hE (hb.block b (h.ρ_lt hi)) h3⟩
  · obtain ⟨⟨v, hv⟩, h2⟩ := h.live b o hL
    exact ⟨⟨v, (hE.cell b o hL).trans hv⟩, h2⟩
  · obtain ⟨b, f, t, h1, h2 | ⟨h2, h3, h4, vs, T, h5, h6⟩⟩ := h.own k hk
    · exact ⟨b, f, t, h1, .inl h2⟩
    have hlt : b < w.heap.size := (Array.getElem?_eq_some_iff.1 h5).1
    exact ⟨b, f, t, h1, .inr ⟨h2, h3, h4, vs, T, (hb.block b hlt).trans h5, h6⟩⟩

/-- what a call with no arguments comes to -/
def valLA (v : Value) : LA := { ev := fun _ => .val undef, v := .val v }

theorem UTri.closed {P : Program} {f : FuncId} {la : LA} {v : Value} (hfit : LSt.zero.fit la) (h : UTri P f [] la) (hv : la.v = .val v) : UTri P f [] (valLA v) := by
  intro G σ w cargs hR ha _
  have hL : ∀ b o, G.L b o → ∃ v, w.cell? ⟨b, o, none⟩ = some v := fun b o hl => (hR.live b o hl).1
  have ha' : VL (base w G.L) w [] cargs.toList := by
    obtain ⟨l⟩ := cargs
    cases l with
    | nil => simp [VL]
    | cons a l => simp only [VL] at ha
  refine (UTri.top hfit h hv hL ha').mono fun e w' ⟨he, hb⟩ => ?_
  obtain ⟨hE, hR'⟩ := hR.behind hb
  refine ⟨v, G, he, hE, ?_, by simp [valLA, V]⟩
  show RelS G ((ASt.mk σ.H σ.own σ.ns).stamps [] 0) w'
  rw [ASt.stamps_zero]
  exact hR'

/-- one call more is known -/
def known (f₀ : FuncId) (v : Value) (prim : FuncId → List AV → LSt → Option LA) (f : FuncId) (args : List AV) (s : LSt) : Option LA :=
  bif Nat.beq f f₀ && args.isEmpty then some (valLA v) else prim f args s

theorem known_ok {P : Program} (hm : P.follows .mixedOrders = true) (hng : ∀ (f : FuncId) (fn : Func), P.funcs[f]? = some fn → fn.body.isNone = false → (fn.name == "runtime.NumGoroutine") = false)
    {prim : FuncId → List AV → LSt → Option LA} (hp : CallsOk P prim) {fuel n : Nat} {f₀ : FuncId} {fn : Func} (hf : P.funcs[f₀]? = some fn) (hb : fn.body.isNone = false) (hpr : prim f₀ [] LSt.zero = none)
    (h : isTrue (acall P prim fuel (n + 1) f₀ [] LSt.zero) = true) : CallsOk P (known f₀ (.bool true) prim) := by
  intro f args s la hk
  unfold known at hk
  cases hc : (Nat.beq f f₀ && args.isEmpty) with
  | false => rw [hc] at hk; exact hp _ _ _ _ hk
  | true =>
    rw [hc] at hk
    simp only [cond_true, Option.some.injEq] at hk
    subst hk
    simp only [Bool.and_eq_true] at hc
    have := Nat.eq_of_beq_eq_true hc.1
    subst this
    have ha : args = [] := List.isEmpty_iff.1 hc.2
    subst ha
    obtain ⟨la, h1, h2⟩ := isTrue_spec h
    obtain ⟨q1, q2, _⟩ := acall_step hm hng (acall_ok hm hng hp fuel n) hpr h1
    exact ⟨fit_pure, CallOk.of hf (hng f fn hf hb) hb (UTri.closed q1 q2 h2)⟩

end Go.Ab
