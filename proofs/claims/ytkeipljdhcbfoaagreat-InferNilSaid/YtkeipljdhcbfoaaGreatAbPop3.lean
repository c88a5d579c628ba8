/- THE OPERATIONS THAT TOUCH NOTHING: one function for all, and its proof. -/
import Derived.Test.YtkeipljdhcbfoaaGreatAbPop2
namespace Go.Ab
open Go Go.RowKit

def apart_ (ev : Operand → AV) (parts : Array (Nat × Operand)) : List (Nat × AV) := parts.toList.map fun p => (p.1, ev p.2)

def pop (P : Program) (o : Op) (ev : Operand → AV) : Option AV :=
  match o with
  | .move x | .assign x => some (ev x)
  | .pick c a b => match ev c with
    | .val (.bool t) => some (bif t then ev a else ev b)
    | _ => none
  | .build t parts => abuild P t (apart_ ev parts)
  | .nilCheck x => match ev x with
    | .mp b off => some (.mp b off)
    | .ip es => some (.ip es)
    | .clo f fs cs => some (.clo f fs cs)
    | _ => none
  | .binOp op t x y _ => abinOp P op t (ev x) (ev y)
  | .unOp op _ x => match op, ev x with
    | .not, .val (.bool b) => some (.val (.bool (!b)))
    | .neg, .val (.int k n) => some (.val (.int k (k.wrap (0 - n))))
    | _, _ => none
  | .convert s d x => aconvert P s d (ev x)
  | .makeFunc (.func f) first captured => some (.clo f (first.toList.map ev) (captured.toList.map ev))
  | .slice t x lo hi mx => aslice P t (ev x) (lo.map ev) (hi.map ev) (mx.map ev)
  | .fieldAddr t x f => afieldAddr P t (ev x) f
  | .field t x f => afield P t (ev x) f
  | .indexAddr t x i => aindexAddr P t (ev x) (ev i)
  | .index t x i => aindex P t (ev x) (ev i)
  | .extract t i => match ev t with
    | .tup vs => vs[i]?
    | _ => none
  | .load t a => match tsz P t, ev a with
    | some q, .ip es => part1 q es
    | _, _ => none
  | .call { callee := .builtin .len, args, argTypes } => match args.toList, argTypes.toList with
    | [x], [t] => alen P t (ev x)
    | _, _ => none
  | .call { callee := .builtin .max, args, argTypes := _ } => match args.toList with
    | [x, y] => amax2 true (ev x) (ev y)
    | _ => none
  | .call { callee := .builtin .min, args, argTypes := _ } => match args.toList with
    | [x, y] => amax2 false (ev x) (ev y)
    | _ => none
  | _ => none

theorem VP.map {G : Gh} {w : World} {ev : Operand → AV} {a : Act} : ∀ (l : List (Nat × Operand)), (∀ p ∈ l, V G w (ev p.2) (a.eval p.2)) → VP G w (l.map fun p => (p.1, ev p.2)) (l.map fun p => (p.1, a.eval p.2))
  | [], _ => .nil
  | p :: l, h => .cons (h p (by simp)) (VP.map l fun q hq => h q (by simp [hq]))

theorem VL.mapv {G : Gh} {w : World} {ev : Operand → AV} {a : Act} : ∀ (l : List Operand), (∀ p ∈ l, V G w (ev p) (a.eval p)) → VL G w (l.map ev) (l.map a.eval)
  | [], _ => by simp [VL]
  | p :: l, h => by simp only [List.map_cons, VL]; exact ⟨h p (by simp), VL.mapv l fun q hq => h q (by simp [hq])⟩

/-- a load through a pointer into what is read alone -/
theorem part1_load {P : Program} {t : TypeId} {q : Bool × Nat} {G : Gh} {w : World} {es : List AV} {b off : Nat} {r : AV} (ht : tsz P t = some q) (hc : VC G w es b off) (h : part1 q es = some r) :
    ∃ u, (Instr.loadAt t (.pointer (some ⟨b, off, none⟩))).run P w = .ok u w ∧ V G w r u := by
  unfold tsz at ht
  cases hu : P.underlying t with
  | none => simp [hu] at ht
  | some d =>
    cases hi : P.info? t with
    | none => simp [hu, hi] at ht
    | some i =>
      simp only [hu, hi, Option.some.injEq] at ht
      subst ht
      unfold part1 at h
      split at h
      · rename_i n heq
        simp only [Prod.mk.injEq] at heq
        obtain ⟨h1, rfl⟩ := heq
        cases hle : Nat.ble i.size es.length with
        | false => simp [hle] at h
        | true =>
          simp only [hle, cond_true, Option.some.injEq] at h
          subst h
          have hle' : i.size ≤ es.length := Nat.le_of_ble_eq_true hle
          obtain ⟨vs, hv, hcell⟩ := VC.cells _ _ _ (VC.take es b off i.size hc)
          have hl : vs.length = i.size := by rw [VL.length _ _ hv]; simp; omega
          have hrun := run_loadCells_list (P := P) w ⟨b, off, none⟩ vs (fun j v hj => by
            have hjl := (List.getElem?_eq_some_iff.1 hj)
            obtain ⟨hj1, hj2⟩ := hjl
            rw [Addr.add_lit, hcell j hj1, hj2])
          rw [hl] at hrun
          refine ⟨.agg vs.toArray, ?_, by simp only [V]; exact ⟨vs, rfl, hv⟩⟩
          simp [Instr.loadAt, Instr.sureAddr, loadVar, run_isAgg hu, h1, run_sizeOf' hi, hrun]
      · rename_i n heq
        simp only [Prod.mk.injEq] at heq
        split at h
        · rename_i c cs'
          cases h
          simp only [VC] at hc
          obtain ⟨_, ⟨v, hv, hcv⟩, _⟩ := hc
          refine ⟨v, ?_, hcv⟩
          simp [Instr.loadAt, Instr.sureAddr, loadVar, run_isAgg hu, heq.1, hv]
        · cases h

theorem mem_ops {x : Operand} {l : List Operand} (h : x ∈ l) : x ∈ l := h

theorem pop_ok {P : Program} {o : Oper} {ev : Operand → AV} {v : AV} (h : pop P o.op ev = some v) : OpOk P o { ev := ev, v := v } := by
  refine OpOk.pure fun G w a hx => ?_
  obtain ⟨dst, op, type, pos, after, guard⟩ := o
  have val : ∀ {s : Sem Value}, (∃ q, s.run P w = .ok q w ∧ V G w v q) → (execOp a.eval ⟨dst, op, type, pos, after, guard⟩ = (do pure (.value (← s)))) →
      ∃ u, (execOp a.eval ⟨dst, op, type, pos, after, guard⟩).run P w = .ok (.value u) w ∧ V G w v u := by
    rintro s ⟨q, hq, hv⟩ he
    refine ⟨q, ?_, hv⟩
    rw [he]
    simp [hq]
  simp only [pop] at h
  split at h
  · cases h; exact ⟨_, rfl, hx _ (by simp [Op.operands])⟩
  · cases h; exact ⟨_, rfl, hx _ (by simp [Op.operands])⟩
  · rename_i c x y
    split at h
    · rename_i t ht
      cases h
      have hc := hx c (by simp [Op.operands])
      rw [ht] at hc
      simp only [V] at hc
      refine ⟨if t then a.eval x else a.eval y, ?_, ?_⟩
      · simp only [execOp, hc]; cases t <;> rfl
      · cases t
        · exact hx y (by simp [Op.operands])
        · exact hx x (by simp [Op.operands])
    · cases h
  · rename_i t parts
    refine val (abuild_ok (parts' := parts.map fun (i, x) => (i, a.eval x)) ?_ h) rfl
    have := VP.map (G := G) (w := w) (ev := ev) (a := a) parts.toList (fun p hp => hx p.2 (by simp [Op.operands]; exact ⟨p.1, by simpa using hp⟩))
    simpa [apart_] using this
  · rename_i x
    have hxx := hx x (by simp [Op.operands])
    split at h
    · rename_i b off he
      cases h
      rw [he] at hxx
      refine ⟨_, ?_, hxx⟩
      simp only [V] at hxx
      obtain ⟨q, _, hq⟩ := hxx
      simp [execOp, hq]
    · rename_i es he
      cases h
      rw [he] at hxx
      refine ⟨_, ?_, hxx⟩
      simp only [V] at hxx
      obtain ⟨q, _, hq, _⟩ := hxx
      simp [execOp, hq]
    · rename_i f fs cs he
      cases h
      rw [he] at hxx
      refine ⟨_, ?_, hxx⟩
      simp only [V] at hxx
      obtain ⟨q, r, hq, _⟩ := hxx
      simp [execOp, hq]
    · cases h
  · rename_i op t x y ty
    exact val (abinOp_ok (hx x (by simp [Op.operands])) (hx y (by simp [Op.operands])) x y h) rfl
  · rename_i op ty x
    have hxx := hx x (by simp [Op.operands])
    split at h
    · rename_i b he
      cases h
      rw [he] at hxx
      simp only [V] at hxx
      exact val ⟨.bool (!b), by simp [hxx, Op.unary], by simp only [V]⟩ rfl
    · rename_i k n he
      cases h
      rw [he] at hxx
      simp only [V] at hxx
      exact val ⟨.int k (k.wrap (0 - n)), by simp [hxx, Op.unary, Op.intArith], by simp only [V]⟩ rfl
    · cases h
  · rename_i s d x
    exact val (aconvert_ok (hx x (by simp [Op.operands])) h) rfl
  · rename_i f first captured
    cases h
    refine val ⟨.func (.func f) (first.map a.eval) (captured.map a.eval), rfl, ?_⟩ rfl
    simp only [V]
    refine ⟨first.toList.map a.eval, captured.toList.map a.eval, by rw [← Array.toList_map, ← Array.toList_map], VL.mapv _ fun p hp => hx p (by simp [Op.operands]; exact .inl (by simpa using hp)), VL.mapv _ fun p hp => hx p (by simp [Op.operands]; exact .inr (by simpa using hp))⟩
  · rename_i t x lo hi mx
    have mo : ∀ (z : Option Operand), (∀ y, z = some y → y ∈ (Op.slice t x lo hi mx).operands) → (∀ b, z.map ev = some b → ∃ u, z.map a.eval = some u ∧ V G w b u) := by
      intro z hz b hb
      cases z with
      | none => cases hb
      | some y => simp only [Option.map_some, Option.some.injEq] at hb; subst hb; exact ⟨_, rfl, hx y (hz y rfl)⟩
    have no : ∀ (z : Option Operand), z.map ev = none → z.map a.eval = none := by
      intro z hz; cases z with
      | none => rfl
      | some y => cases hz
    exact val (aslice_ok (hx x (by simp [Op.operands])) (mo lo (by simp [Op.operands]; intro y hy; simp [hy])) (mo hi (by simp [Op.operands]; intro y hy; simp [hy])) (mo mx (by simp [Op.operands]; intro y hy; simp [hy])) (no lo) (no hi) (no mx) h) rfl
  · rename_i t x f
    exact val (afieldAddr_ok (hx x (by simp [Op.operands])) h) rfl
  · rename_i t x f
    exact val (afield_ok (hx x (by simp [Op.operands])) h) rfl
  · rename_i t x i
    exact val (aindexAddr_ok (hx x (by simp [Op.operands])) (hx i (by simp [Op.operands])) h) rfl
  · rename_i t x i
    exact val (aindex_ok (hx x (by simp [Op.operands])) (hx i (by simp [Op.operands])) h) rfl
  · rename_i t i
    split at h
    · rename_i vs he
      have hxx := hx t (by simp [Op.operands])
      rw [he] at hxx
      simp only [V] at hxx
      obtain ⟨us, hus, hl⟩ := hxx
      obtain ⟨u, hu, hv⟩ := VL.get _ _ hl i v h
      refine val ⟨u, ?_, hv⟩ rfl
      simp [hus, Instr.extract, hu]
    · cases h
  · rename_i t x
    split at h
    · rename_i q es hq he
      have hxx := hx x (by simp [Op.operands])
      rw [he] at hxx
      simp only [V] at hxx
      obtain ⟨b, off, hb, hc⟩ := hxx
      refine val ?_ rfl
      rw [hb]
      exact part1_load hq hc h
    · cases h
  · rename_i args argTypes
    split at h
    · rename_i x t h1 h2
      have e1 : args = #[x] := by cases args; simp_all
      have e2 : argTypes = #[t] := by cases argTypes; simp_all
      subst e1 e2
      refine val (s := Builtin.len_ #[t] type #[a.eval x]) (alen_ok (hx x (by simp [Op.operands, Call.operands])) h) ?_
      simp [execOp, resolve, invoke, builtin]
    · cases h
  · rename_i args argTypes
    split at h
    · rename_i x y h1
      have e1 : args = #[x, y] := by cases args; simp_all
      subst e1
      unfold amax2 at h
      split at h
      · rename_i k n k' n' q1 q2
        cases h
        have w1 := hx x (by simp [Op.operands, Call.operands])
        have w2 := hx y (by simp [Op.operands, Call.operands])
        rw [q1] at w1; rw [q2] at w2
        simp only [V] at w1 w2
        refine ⟨_, ?_, by simp only [V]; rfl⟩
        simp [execOp, resolve, invoke, builtin, w1, w2, Builtin.max_, Builtin.max2]
      · cases h
    · cases h
  · rename_i args argTypes
    split at h
    · rename_i x y h1
      have e1 : args = #[x, y] := by cases args; simp_all
      subst e1
      unfold amax2 at h
      split at h
      · rename_i k n k' n' q1 q2
        cases h
        have w1 := hx x (by simp [Op.operands, Call.operands])
        have w2 := hx y (by simp [Op.operands, Call.operands])
        rw [q1] at w1; rw [q2] at w2
        simp only [V] at w1 w2
        refine ⟨_, ?_, by simp only [V]; rfl⟩
        simp [execOp, resolve, invoke, builtin, w1, w2, Builtin.min_, Builtin.min2]
      · cases h
    · cases h
  · cases h

end Go.Ab
