/- ONE OPERATION: what it looks at, what it makes, and that it does so in whatever memory. -/
import Derived.Test.YtkeipljdhcbfoaaGreatAbApp
namespace Go.Ab
open Go Go.RowKit

/-- What an operation (or a call) does to the abstract state: blocks it looks at, blocks it changes, blocks it makes, stamps it uses up, how many it gives; its value. -/
structure LA where
  ev : Operand → AV
  rd : List (Nat × Blk) := []
  wr : List (Nat × Blk × Blk) := []
  al : List (Nat × Blk) := []
  use : List Nat := []
  ns : Nat := 0
  new : Nat := 0
  lo : Nat := 0
  hi : Nat := 0
  st : Bool := false
  v : AV

def ups (H : Nat → Option Blk) : List (Nat × Blk) → Nat → Option Blk
  | [] => H
  | p :: l => up (ups H l) p.1 p.2

def ASt.stamps (σ : ASt) (use : List Nat) (new : Nat) : ASt :=
  ⟨σ.H, fun k => if σ.ns ≤ k ∧ k < σ.ns + new then true else if k ∈ use then false else σ.own k, σ.ns + new⟩

def LA.app (la : LA) (σ : ASt) : ASt :=
  (ASt.mk (ups (ups σ.H (la.wr.map fun p => (p.1, p.2.2))) la.al) σ.own σ.ns).stamps la.use la.new

structure LA.can (la : LA) (σ : ASt) : Prop where
  rd : ∀ i X, (i, X) ∈ la.rd → σ.H i = some X
  wr : ∀ i X Y, (i, X, Y) ∈ la.wr → σ.H i = some X
  al : ∀ i X, (i, X) ∈ la.al → σ.H i = none
  use : ∀ k, k ∈ la.use → σ.own k = true
  ns : la.use ≠ [] ∨ la.new ≠ 0 ∨ la.st = true → la.ns = σ.ns
  hole : ∀ i, la.lo ≤ i → i < la.hi → σ.H i = none

def OpOk (P : Program) (o : Oper) (la : LA) : Prop :=
  ∀ (G : Gh) (σ : ASt) (w : World) (a : Act) (K : Act → World → Prop) (Q : Exit → Act → World → Prop), RelS G σ w →
    (∀ x ∈ o.op.operands, V G w (la.ev x) (a.eval x)) → la.can σ →
    (∀ (u : Value) (G' : Gh) (w' : World), Ext G w G' w' → RelS G' (la.app σ) w' → V G' w' la.v u → K (a.put o.dst u) w') → o.wp P a w K Q

theorem ASt.stamps_zero (σ : ASt) : σ.stamps [] 0 = σ := by
  cases σ
  simp only [ASt.stamps, Nat.add_zero, List.not_mem_nil, if_false]
  congr 1
  funext k
  rw [if_neg (by omega)]

theorem OpOk.value {P : Program} {o : Oper} {la : LA}
    (h : ∀ (G : Gh) (σ : ASt) (w : World) (a : Act), RelS G σ w → (∀ x ∈ o.op.operands, V G w (la.ev x) (a.eval x)) → la.can σ →
      ∃ u w' G', (execOp a.eval o).run P w = .ok (.value u) w' ∧ Ext G w G' w' ∧ RelS G' (la.app σ) w' ∧ V G' w' la.v u) : OpOk P o la := by
  intro G σ w a K Q hR hx hc hK
  obtain ⟨u, w', G', hr, hE, hR', hv⟩ := h G σ w a hR hx hc
  unfold Oper.wp
  rw [hr]
  exact hK u G' w' hE hR' hv

theorem OpOk.skip {P : Program} {o : Oper} {la : LA} (hv : la.v = .val undef)
    (h : ∀ (G : Gh) (σ : ASt) (w : World) (a : Act), RelS G σ w → (∀ x ∈ o.op.operands, V G w (la.ev x) (a.eval x)) → la.can σ →
      ∃ w' G', (execOp a.eval o).run P w = .ok .skip w' ∧ Ext G w G' w' ∧ RelS G' (la.app σ) w') : OpOk P o la := by
  intro G σ w a K Q hR hx hc hK
  obtain ⟨w', G', hr, hE, hR'⟩ := h G σ w a hR hx hc
  unfold Oper.wp
  rw [hr]
  exact hK undef G' w' hE hR' (by rw [hv]; simp [V])

/-- an operation that touches nothing -/
theorem OpOk.pure {P : Program} {o : Oper} {ev : Operand → AV} {v : AV}
    (h : ∀ (G : Gh) (w : World) (a : Act), (∀ x ∈ o.op.operands, V G w (ev x) (a.eval x)) → ∃ u, (execOp a.eval o).run P w = .ok (.value u) w ∧ V G w v u) :
    OpOk P o { ev := ev, v := v } := by
  refine OpOk.value fun G σ w a hR hx _ => ?_
  obtain ⟨u, hr, hv⟩ := h G w a hx
  refine ⟨u, w, G, hr, Ext.refl G w, ?_, hv⟩
  show RelS G ((ASt.mk σ.H σ.own σ.ns).stamps [] 0) w
  rw [ASt.stamps_zero]
  exact hR

/-- an operation that looks at some blocks -/
theorem OpOk.reads {P : Program} {o : Oper} {ev : Operand → AV} {v : AV} {rd : List (Nat × Blk)}
    (h : ∀ (G : Gh) (σ : ASt) (w : World) (a : Act), RelS G σ w → (∀ x ∈ o.op.operands, V G w (ev x) (a.eval x)) → (∀ i X, (i, X) ∈ rd → σ.H i = some X) →
      ∃ u, (execOp a.eval o).run P w = .ok (.value u) w ∧ V G w v u) :
    OpOk P o { ev := ev, rd := rd, v := v } := by
  refine OpOk.value fun G σ w a hR hx hc => ?_
  obtain ⟨u, hr, hv⟩ := h G σ w a hR hx hc.rd
  refine ⟨u, w, G, hr, Ext.refl G w, ?_, hv⟩
  show RelS G ((ASt.mk σ.H σ.own σ.ns).stamps [] 0) w
  rw [ASt.stamps_zero]
  exact hR

/- constants -/
def ofV : Nat → Value → AV
  | 0, v => .val v
  | n + 1, v =>
    match v with
    | .slice none 0 0 => .sl [] 0 .nl
    | .agg cs => .agg (cs.toList.map (ofV n))
    | .tuple cs => .tup (cs.toList.map (ofV n))
    | .func (.func f) fs cs => .clo f (fs.toList.map (ofV n)) (cs.toList.map (ofV n))
    | v => .val v

theorem VL.map_ofV {G : Gh} {w : World} {f : Value → AV} (h : ∀ v, V G w (f v) v) : ∀ vs : List Value, VL G w (vs.map f) vs
  | [] => by simp [VL]
  | v :: vs => by simp only [List.map_cons, VL]; exact ⟨h v, VL.map_ofV h vs⟩

theorem V.ofV {G : Gh} {w : World} : ∀ (n : Nat) (v : Value), V G w (ofV n v) v
  | 0, v => by simp [Ab.ofV, V]
  | n + 1, v => by
    simp only [Ab.ofV]
    split
    · simp [V, Own.nil, spOf]
    · rename_i cs; simp only [V]; exact ⟨cs.toList, by simp, VL.map_ofV (V.ofV n) _⟩
    · rename_i cs; simp only [V]; exact ⟨cs.toList, by simp, VL.map_ofV (V.ofV n) _⟩
    · rename_i f fs cs; simp only [V]; exact ⟨fs.toList, cs.toList, by simp, VL.map_ofV (V.ofV n) _, VL.map_ofV (V.ofV n) _⟩
    · simp [V]

def eget : List AV → Nat → AV
  | [], _ => .val undef
  | a :: _, 0 => a
  | _ :: r, n + 1 => eget r n

def aev (env : List AV) : Operand → AV
  | .tmp t => eget env t
  | .const v => ofV 8 v
  | .global g => .val (.pointer (some ⟨g, 0, none⟩))
  | .func f => .clo f [] []

theorem V.eget {G : Gh} {w : World} : ∀ (env : List AV) (us : List Value), VL G w env us → ∀ t, V G w (eget env t) (us.getD t undef)
  | [], [], _, t => by simp [Ab.eget, V]
  | a :: as, u :: us, h, 0 => by simp only [VL] at h; simpa [Ab.eget] using h.1
  | a :: as, u :: us, h, n + 1 => by simp only [VL] at h; simpa [Ab.eget] using V.eget as us h.2 n
  | [], _ :: _, h, _ => by simp only [VL] at h
  | _ :: _, [], h, _ => by simp only [VL] at h

theorem V.aev {G : Gh} {w : World} {env : List AV} {a : Act} (h : VL G w env a.tmps.toList) : ∀ x, V G w (aev env x) (a.eval x)
  | .tmp t => by
    have := V.eget env _ h t
    simpa [Ab.aev, Act.eval] using this
  | .const v => by simpa [Ab.aev, Act.eval] using V.ofV 8 v
  | .global g => by simp [Ab.aev, Act.eval, V]
  | .func f => by simp only [Ab.aev, Act.eval, V]; exact ⟨[], [], rfl, by simp [VL], by simp [VL]⟩

/- what a value of one cell, and of several, is -/
def acells : AV → List AV
  | .agg cs => cs
  | v => [v]

def AV.one : AV → Bool
  | .agg _ | .tup _ => false
  | .val v => v.oneCell'
  | _ => true

def AV.sound : AV → Bool
  | .agg cs => cs.all AV.one
  | v => v.one

theorem V.one {G : Gh} {w : World} {a : AV} {u : Value} (h : V G w a u) (ho : a.one = true) : u.oneCell' = true := by
  cases a <;> simp only [V] at h
  case val v => subst h; exact ho
  case agg => cases ho
  case tup => cases ho
  case sl es n o =>
    obtain ⟨cap, _, h | ⟨b, off, rfl, _⟩⟩ := h
    · rw [h.2.2.2.1]; rfl
    · rfl
  case ip => obtain ⟨b, off, rfl, _⟩ := h; rfl
  case mp => obtain ⟨b, _, rfl⟩ := h; rfl
  case ms => obtain ⟨b, cap, _, _, rfl⟩ := h; rfl
  case obj => obtain ⟨b, _, rfl⟩ := h; rfl
  case clo => obtain ⟨l, r, rfl, _⟩ := h; rfl

theorem cells_one {u : Value} (h : u.oneCell' = true) : u.cells = #[u] := by
  cases u <;> first | rfl | cases h

theorem VL.all_one {G : Gh} {w : World} : ∀ (as : List AV) (us : List Value), VL G w as us → as.all AV.one = true → ∀ u ∈ us, u.oneCell' = true
  | [], [], _, _ => by simp
  | a :: as, u :: us, h, ho => by
    simp only [VL] at h
    simp only [List.all_cons, Bool.and_eq_true] at ho
    intro x hx
    rcases List.mem_cons.1 hx with rfl | hx
    · exact h.1.one ho.1
    · exact VL.all_one as us h.2 ho.2 x hx
  | [], _ :: _, h, _ => by simp only [VL] at h
  | _ :: _, [], h, _ => by simp only [VL] at h

theorem V.cells {G : Gh} {w : World} {a : AV} {u : Value} (h : V G w a u) (ho : a.sound = true) :
    VL G w (acells a) u.cells.toList ∧ ∀ x ∈ u.cells.toList, x.oneCell' = true := by
  cases a with
  | agg cs =>
    simp only [V] at h
    obtain ⟨vs, rfl, hl⟩ := h
    exact ⟨by simpa [acells, Value.cells] using hl, by simpa [Value.cells] using VL.all_one _ _ hl ho⟩
  | _ =>
    have h1 := h.one ho
    rw [cells_one h1]
    simp only [acells, VL]
    exact ⟨⟨h, trivial⟩, by simpa using h1⟩

end Go.Ab
