/- THE SEAT's OWN: the functions without a body, and how a law's row comes of a run. -/
import Derived.Test.YtkeipljdhcbfoaaGreatAbPrim
import Derived.Test.YtkeipljdhcbfoaaGreatRows
import Derived.ProofKit
namespace Go.Proofs.YtkeipljdhcbfoaaGreat
open Go.Ab Go.ChangeShapes Go.WideShapes Go.ChangeAt Go.RowKit

/-- sync/atomic's three words, at this program's numbers. -/
def prim (f : FuncId) (args : List AV) (s : LSt) : Option LA :=
  bif Nat.beq f 132 then
    match args with
    | [.mp i off, .val (.int k y)] => match Go.Ab.look s.H i with
      | some (.cells cs) => match cs[off]? with
        | some _ => some (storeLA i off cs (.int k y))
        | none => none
      | _ => none
    | _ => none
  else bif Nat.beq f 233 then
    match args with
    | [.mp i off] => match Go.Ab.look s.H i with
      | some (.cells cs) => match cs[off]? with
        | some (.val (.int .i64 x)) => some (loadLA i cs (.val (.int .i64 x)))
        | _ => none
      | _ => none
    | _ => none
  else bif Nat.beq f 266 then
    match args with
    | [.mp i off, .val (.int .i64 y)] => match Go.Ab.look s.H i with
      | some (.cells cs) => match cs[off]? with
        | some (.val (.int .i64 x)) => some (addLA i off cs (.int .i64 (IntKind.i64.wrap (x + y))))
        | _ => none
      | _ => none
    | _ => none
  else none

theorem prim_ok : CallsOk Tryz.prog prim := by
  intro f args s la h
  unfold prim at h
  cases h1 : Nat.beq f 132 with
  | true =>
    have := Nat.eq_of_beq_eq_true h1
    subst this
    simp only [h1, cond_true] at h
    split at h
    · split at h
      · rename_i hl
        split at h
        · rename_i ha
          cases h
          exact ⟨⟨fun i X h => by simp [storeLA] at h, fun i A B h => by simp [storeLA] at h; obtain ⟨rfl, rfl, _⟩ := h; exact hl, fun i X h => by simp [storeLA] at h, fun h => by simp [storeLA] at h, fun k h => by simp [storeLA] at h, fun h => by simp [storeLA] at h⟩,
            store_call Tryz.func132 (by kernel_rfl) (by kernel_rfl) (by kernel_rfl) (by kernel_rfl) ha⟩
        · cases h
      · cases h
    · cases h
  | false =>
    simp only [h1, cond_false] at h
    cases h2 : Nat.beq f 233 with
    | true =>
      have := Nat.eq_of_beq_eq_true h2
      subst this
      simp only [h2, cond_true] at h
      split at h
      · split at h
        · rename_i hl
          split at h
          · rename_i ha
            cases h
            exact ⟨⟨fun i X h => by simp [loadLA] at h; obtain ⟨rfl, rfl⟩ := h; exact hl, fun i A B h => by simp [loadLA] at h, fun i X h => by simp [loadLA] at h, fun h => by simp [loadLA] at h, fun k h => by simp [loadLA] at h, fun h => by simp [loadLA] at h⟩,
              load_call Tryz.func233 (by kernel_rfl) (by kernel_rfl) (by kernel_rfl) .i64 (by kernel_rfl) ha⟩
          · cases h
        · cases h
      · cases h
    | false =>
      simp only [h2, cond_false] at h
      cases h3 : Nat.beq f 266 with
      | true =>
        have := Nat.eq_of_beq_eq_true h3
        subst this
        simp only [h3, cond_true] at h
        split at h
        · split at h
          · rename_i hl
            split at h
            · rename_i ha
              cases h
              exact ⟨⟨fun i X h => by simp [addLA] at h, fun i A B h => by simp [addLA] at h; obtain ⟨rfl, rfl, _⟩ := h; exact hl, fun i X h => by simp [addLA] at h, fun h => by simp [addLA] at h, fun k h => by simp [addLA] at h, fun h => by simp [addLA] at h⟩,
                add_call Tryz.func266 (by kernel_rfl) (by kernel_rfl) (by kernel_rfl) .i64 (by kernel_rfl) ha (fun w => by simp [Op.intArith])⟩
            · cases h
          · cases h
        · cases h
      | false => simp only [h3, cond_false] at h; cases h

theorem mixed : Tryz.prog.follows .mixedOrders = true := by kernel_rfl

def noGoB : List Func → Bool
  | [] => true
  | fn :: l => (fn.body.isNone || !(fn.name == "runtime.NumGoroutine")) && noGoB l

theorem noGo_mem : ∀ (l : List Func), noGoB l = true → ∀ fn ∈ l, fn.body.isNone = false → (fn.name == "runtime.NumGoroutine") = false
  | [], _, fn, h, _ => by cases h
  | g :: l, hb, fn, h, hn => by
    simp only [noGoB, Bool.and_eq_true] at hb
    rcases List.mem_cons.1 h with rfl | h
    · have := hb.1
      rw [hn] at this
      simpa using this
    · exact noGo_mem l hb.2 fn h hn

theorem noGo : noGoB Tryz.prog.funcs.toList = true := by kernel_rfl

theorem hng (f : FuncId) (fn : Func) (h : Tryz.prog.funcs[f]? = some fn) (hb : fn.body.isNone = false) : (fn.name == "runtime.NumGoroutine") = false :=
  noGo_mem _ noGo fn (by rw [Array.mem_toList_iff]; exact Array.mem_of_getElem? h) hb

theorem own : ownKnob Tryz.prog.godebug = none := by kernel_rfl
theorem laidOut : laidOutB Tryz.prog = true := by kernel_rfl

/-- The cells of a Term, whatever it is. -/
theorem termTypes : Tryz.prog.cellTypes Tryz.prog.depth 24 = some [3, 3, 22] := by kernel_rfl
theorem termCells : Tryz.prog.cellsOf 24 = 3 := by kernel_rfl

theorem open_term {W : World} {base : Nat} {v : Value} : Value.okWide Tryz.prog W .any base 24 v → ∃ (k n : Int) (p : Option Addr) (m c : Nat), v = .agg #[.int .i64 k, .int .i64 n, .slice p m c] :=
  open3 Tryz.underlying24 termTypes termCells Tryz.underlying3 Tryz.underlying3 Tryz.underlying22

def termAV (k n : Int) (p : Option Addr) (m c : Nat) : AV := .agg [.val (.int .i64 k), .val (.int .i64 n), .val (.slice p m c)]

theorem shut_true {H : Type} {enc : TypeId × Value → H} {W : World} {n : Nat} {sp : Nat → Bool} {hd : Bool} : DataW.Trod enc Tryz.prog W n sp hd 4 (.bool true) (.lit (.bool true)) [] := trod_bool Tryz.underlying4 true

end Go.Proofs.YtkeipljdhcbfoaaGreat
