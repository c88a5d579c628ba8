/- THE STEPS OF A WALK, as they are printed. -/
import Derived.Test.YtkeipljdhcbfoaaGreatAbTy
namespace Go.Ab
open Go Go.RowKit

theorem obind {α β : Type} {x : Option α} {f : α → Option β} {r : β} (h : (x >>= f) = some r) : ∃ v, x = some v ∧ f v = some r := by
  cases x with
  | none => cases h
  | some v => exact ⟨v, rfl, h⟩
theorem ifT {α : Type} {b : Bool} {x y r : α} (hb : b = true) (h : (if b = true then x else y) = r) : x = r := by rwa [if_pos hb] at h
theorem ifF {α : Type} {b : Bool} {x y r : α} (hb : b = false) (h : (if b = true then x else y) = r) : y = r := by rw [hb, if_neg (by simp)] at h; exact h

theorem ObsOk.nil {P : Program} : ObsOk P [] := trivial
theorem ObsOk.cons {P : Program} {o : Ob} {l : List Ob} (h : o.ok P) (k : ObsOk P l) : ObsOk P (o :: l) := ⟨h, k⟩
theorem obBit {P : Program} {b b' : Bool} (h : b = b') : Ob.ok P (.bit b b') := h
theorem obAv {P : Program} {x : Option AV} {a : AV} (h : x = some a) : Ob.ok P (.av x a) := h
theorem obCall {P : Program} {f : FuncId} {H0 : List Blk} {args : List AV} {res : AV} {H1 : List Blk} {nst : Nat} (h : CT P f H0 args res H1 nst) : Ob.ok P (.call f H0 args res H1 nst) := h
theorem obFz {P : Program} {x : Option AV} {a : AV} (h : ∃ a0, x = some a0 ∧ a0.frz = a) : Ob.ok P (.fz x a) := h
theorem obLit {P : Program} (l : List Tm) : Ob.ok P (.cells (flat tmL l) (flat tmCells l) l.length l.length) := ⟨by rw [show tmL = tmCells from funext fun t => (tm_eq t).symm], rfl⟩
theorem obData {P : Program} {es : List AV} (h : AV.DataL es) : Ob.ok P (.data es) := h

/-- a slice that nobody owns is nil, or it is not -/
theorem CTri.nilcase {P : Program} {f : FuncId} {H0 H1 : List Blk} {es : List AV} {n : Nat} {as : List AV} {res : AV} {nst : Nat} (h0 : es = [] → CTri P f H0 (.sl es n .nl :: as) res H1 nst) (h1 : CTri P f H0 (.sl es n .nn :: as) res H1 nst) : CTri P f H0 (.sl es n .no :: as) res H1 nst := by
  intro G0 W cargs hB hR hv
  cases hc : cargs.toList with
  | nil => rw [hc] at hv; simp only [VL] at hv
  | cons u us =>
    rw [hc] at hv
    simp only [VL] at hv
    obtain ⟨hu, hus⟩ := hv
    simp only [V] at hu
    obtain ⟨cap, hcap, ⟨q1, q2, q3, q4, _⟩ | ⟨b, off, q1, q2, _⟩⟩ := hu
    · cases hs : spOf u with
      | none =>
        refine h0 q1 G0 W cargs hB hR ?_
        rw [hc]
        simp only [VL]
        exact ⟨by simp only [V]; exact ⟨cap, hcap, .inl ⟨q1, q2, q3, q4, hs⟩⟩, hus⟩
      | some a =>
        refine h1 G0 W cargs hB hR ?_
        rw [hc]
        simp only [VL]
        exact ⟨by simp only [V]; exact ⟨cap, hcap, .inl ⟨q1, q2, q3, q4, a, hs⟩⟩, hus⟩
    · refine h1 G0 W cargs hB hR ?_
      rw [hc]
      simp only [VL]
      exact ⟨by simp only [V]; exact ⟨cap, hcap, .inr ⟨b, off, q1, q2, trivial⟩⟩, hus⟩

theorem flat_nil {α : Type} {c : α → List AV} {sz : Nat} (hc : Codec c sz) (h : 0 < sz) {l : List α} (hl : flat c l = []) : l = [] := by
  have := flat_len hc.len l
  rw [hl] at this
  cases l with
  | nil => rfl
  | cons x l =>
    simp only [List.length_nil, List.length_cons] at this
    exact absurd this.symm (Nat.ne_of_gt (Nat.mul_pos (Nat.succ_pos _) h))

variable {P : Program} {pr : FuncId → List AV → LSt → Option LA} (hp : CallsOk P pr) (hm : P.follows .mixedOrders = true) {na : Nb} {fn : Func} {f : FuncId}
include hp hm

theorem CTri.toHead {H0 H1 : List Blk} {args : List AV} {res : AV} {nst : Nat} (hf : P.funcs[f]? = some fn) (hb : fn.body.isNone = false) (n : Nat) (os : List Orc) (rs : List (Option Nat × Nat × Nat)) (keep ks live : List Nat) {c : Code} {fs' : List Fr} {E : (Nat → Value) → List AV} {S : LSt} {ob : List Ob}
    (h : ∀ j, khead P pr H0.length n (.run (bod fn)) [] (args ++ List.replicate (fn.ntmps - args.length) (.val undef)) (st0 H0) os rs keep ks live j = some (c, fs', E j, S, ob)) (hob : ObsOk P ob)
    (hk : ∀ j, Dl P H0.length c (E j) S (frameQ P H0.length (FinQ P H0.length fn res H1 nst) fs')) : CTri P f H0 args res H1 nst :=
  CTri.body hf hb (khead_ok (na := (H0.length : Nb)) (m := .run (bod fn)) (fs := []) hp hm h hob hk)

theorem CTri.toFin {H0 H1 : List Blk} {args : List AV} {res : AV} {nst : Nat} (hf : P.funcs[f]? = some fn) (hb : fn.body.isNone = false) (n : Nat) (os : List Orc) (rs : List (Option Nat × Nat × Nat)) (keep ks : List Nat) (own : Bool) {ob : List Ob}
    (h : kfin P pr H0.length fn n (.run (bod fn)) [] (args ++ List.replicate (fn.ntmps - args.length) (.val undef)) (st0 H0) os rs keep ks own = some (res, H1, ob)) (hob : ObsOk P ob) (hn : nst ≤ ks.length) : CTri P f H0 args res H1 nst :=
  CTri.body hf hb (kfin_ok (na := (H0.length : Nb)) (m := .run (bod fn)) (fs := []) hp hm h hob hn)

theorem Dl.toHead {Q : AX → List AV → LSt → Prop} {c c' : Code} {fs fs' : List Fr} {env : List AV} {s S : LSt} (n : Nat) (os : List Orc) (rs : List (Option Nat × Nat × Nat)) (keep ks live : List Nat) {E : (Nat → Value) → List AV} {ob : List Ob}
    (h : ∀ j, khead P pr na.n n (.run c) (.loop c :: fs) env s os rs keep ks live j = some (c', fs', E j, S, ob)) (hob : ObsOk P ob) (hk : ∀ j, Dl P na c' (E j) S (frameQ P na Q fs')) : Dl P na c env s (frameQ P na Q fs) :=
  Dl.step (khead_ok hp hm (Q := Q) (m := .run c) (fs := .loop c :: fs) h hob hk)

theorem Dl.toFin {c : Code} {fs : List Fr} {env : List AV} {s : LSt} {res : AV} {H1 : List Blk} {nst : Nat} (n : Nat) (os : List Orc) (rs : List (Option Nat × Nat × Nat)) (keep ks : List Nat) (own : Bool) {ob : List Ob}
    (h : kfin P pr na.n fn n (.run c) (.loop c :: fs) env s os rs keep ks own = some (res, H1, ob)) (hob : ObsOk P ob) (hn : nst ≤ ks.length) : Dl P na c env s (frameQ P na (FinQ P na fn res H1 nst) fs) :=
  Dl.step (kfin_ok hp hm (m := .run c) (fs := .loop c :: fs) h hob hn)

end Go.Ab
