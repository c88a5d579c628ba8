/- maps of plain keys and plain values -/
import Derived.Test.YtkeipljdhcbfoaaGreatAbAppend
namespace Go.Ab
open Go Go.RowKit

theorem bytes_eq {a b : ByteArray} (h : (a == b) = true) : a = b := by
  cases a; cases b
  have h' : ({ data := _ } : ByteArray).beq { data := _ } = true := h
  unfold ByteArray.beq at h'
  simp at h'
  rw [h']
theorem bytes_refl (a : ByteArray) : (a == a) = true := by
  show a.beq a = true
  unfold ByteArray.beq
  simp

def plainKey : TypeDesc → Bool
  | .string | .int _ => true
  | _ => false

def mval : Option (Nat × Value) → Value → AV
  | some (_, v), _ => ofV 8 v
  | none, z => ofV 8 z

def alookup (P : Program) (t : TypeId) (ev : Operand → AV) (x k : AV) (ok : Bool) (s : LSt) : Option LA :=
  match P.underlying t, x, k with
  | some (.map kt et), .obj i, .val key =>
    match P.underlying kt, P.info? et, look s.H i with
    | some d, some ie, some (.obj (.map es clock)) =>
      match ie.zero, Instr.findNow d key es.toList 0 with
      | some z, some r =>
        bif plainKey d then
          some { ev := ev, rd := [(i, .obj (.map es clock))], v := if ok then .tup [mval r z, .val (.bool r.isSome)] else mval r z }
        else none
      | _, _ => none
    | _, _, _ => none
  | _, _, _ => none

theorem run_checkKey {P : Program} {kt : TypeId} {d : TypeDesc} (h : P.underlying kt = some d) (hd : plainKey d = true) (e : Bool) (n : Nat) (v : Value) (w : World) : (Instr.checkKey e (n + 1) kt v).run P w = .ok () w := by
  simp only [Instr.checkKey, Sem.run_bind, run_underlying h, Result.andThen_ok]
  cases d <;> first | (cases hd; done) | rfl

theorem alookup_ok {P : Program} {dst : Option Tmp} {type : TypeId} {pos : String} {after : Array Edge} {guard : Option (Nat × Bool)} {t : TypeId} {x y : Operand} {ok : Bool} {ev : Operand → AV} {s : LSt} {la : LA}
    (h : alookup P t ev (ev x) (ev y) ok s = some la) : OpOk P ⟨dst, .lookup t x y ok, type, pos, after, guard⟩ la ∧ la.ev = ev := by
  unfold alookup at h
  split at h
  · rename_i kt et i key hut hex hey
    split at h
    · rename_i d ie es clock hd hie hl
      split at h
      · rename_i z r hz hf
        cases hp : plainKey d with
        | false => simp only [hp, cond_false, reduceCtorEq] at h
        | true =>
          simp only [hp, cond_true, Option.some.injEq] at h
          subst h
          refine ⟨OpOk.reads fun G σ w a hR hx hrd => ?_, rfl⟩
          have hX := hrd _ _ (List.mem_singleton.2 rfl)
          obtain ⟨b, hb, _, hblk⟩ := hR.look hX
          have hxx : V G w (ev x) (a.eval x) := hx x (by simp [Op.operands])
          have hyy : V G w (ev y) (a.eval y) := hx y (by simp [Op.operands])
          rw [hex] at hxx; rw [hey] at hyy
          simp only [V] at hxx hyy
          obtain ⟨b', hb', hxe⟩ := hxx
          rw [hb] at hb'; cases hb'
          have hh : w.heap[b]? = some (.map es clock) := hblk.1
          have hget : (getObj b).run P w = .ok (.map es clock) w := by simp [getObj, Sem.run, hh]
          have hck := run_checkKey (P := P) hd hp es.isEmpty 9999 key w
          have hfk : (Instr.findKey kt key es.toList).run P w = .ok r w := by
            simp only [Instr.findKey, Sem.run_bind, run_underlying hd, Result.andThen_ok, hf, Sem.run_pure]
          have hrun : ∃ q, (Instr.lookup t (a.eval x) (a.eval y) ok).run P w = .ok q w ∧ V G w (if ok then .tup [mval r z, .val (.bool r.isSome)] else mval r z) q := by
            cases r with
            | none =>
              refine ⟨if ok then .tuple #[z, .bool false] else z, ?_, ?_⟩
              · simp only [Instr.lookup, Sem.run_bind, run_underlying hut, Result.andThen_ok, hxe, hyy, hget, Sem.run_pure, hck, hfk, run_zeroValue' hie hz]
              · cases ok
                · exact V.ofV 8 z
                · simp only [V, if_true]; exact ⟨[z, .bool false], rfl, by simp only [VL, V]; exact ⟨V.ofV 8 z, rfl, trivial⟩⟩
            | some p =>
              obtain ⟨j, v⟩ := p
              refine ⟨if ok then .tuple #[v, .bool true] else v, ?_, ?_⟩
              · simp only [Instr.lookup, Sem.run_bind, run_underlying hut, Result.andThen_ok, hxe, hyy, hget, Sem.run_pure, hck, hfk]
              · cases ok
                · exact V.ofV 8 v
                · simp only [V, if_true]; exact ⟨[v, .bool true], rfl, by simp only [VL, V]; exact ⟨V.ofV 8 v, rfl, trivial⟩⟩
          obtain ⟨q, hq, hv⟩ := hrun
          exact ⟨q, by simp [execOp, hq], hv⟩
      · cases h
    · cases h
  · cases h

theorem sameBits_of_now {d : TypeDesc} {k k' : Value} (hd : plainKey d = true) (h : Instr.sameNow d k k' = some true) : Instr.sameBits 10000 k' k = true := by
  unfold Instr.sameNow at h
  split at h
  · split at h
    · rename_i hk; subst hk
      simp only [Option.some.injEq, beq_iff_eq] at h
      subst h
      simp [Instr.sameBits]
    · cases h
  · simp only [Option.some.injEq] at h
    have := bytes_eq h
    subst this
    simp only [Instr.sameBits, bytes_refl]
  · cases hd
  · cases h

theorem findNow_same {d : TypeDesc} {k : Value} : ∀ (es : List MapEntry) (i j : Nat) (v : Value), Instr.findNow d k es i = some (some (j, v)) → i ≤ j ∧ ∃ e, es[j - i]? = some e ∧ Instr.sameNow d k e.key = some true
  | [], i, j, v, h => by simp [Instr.findNow] at h
  | e :: es, i, j, v, h => by
    simp only [Instr.findNow] at h
    split at h
    · rename_i hs
      simp only [Option.some.injEq, Prod.mk.injEq] at h
      obtain ⟨rfl, rfl⟩ := h
      exact ⟨Nat.le_refl _, e, by simp, hs⟩
    · obtain ⟨h1, e', h2, h3⟩ := findNow_same es (i + 1) j v h
      refine ⟨by omega, e', ?_, h3⟩
      rw [show j - i = (j - (i + 1)) + 1 by omega]
      simpa using h2
    · cases h

def amapUpdate (P : Program) (t : TypeId) (ev : Operand → AV) (x k y : AV) (s : LSt) : Option LA :=
  match P.underlying t, x, k, y with
  | some (.map kt _), .obj i, .val key, .val val =>
    match P.underlying kt, look s.H i with
    | some d, some (.obj (.map es clock)) =>
      match Instr.findNow d key es.toList 0 with
      | some r =>
        bif plainKey d then
          some { ev := ev, v := .val undef, wr := [(i, .obj (.map es clock), match r with
            | some (j, _) => .obj (.map (es.modify j fun e => { e with key := key, val := val }) clock)
            | none => .obj (.map (es.push { key := key, val := val, born := clock }) (clock + 1)))] }
        else none
      | none => none
    | _, _ => none
  | _, _, _, _ => none

theorem amapUpdate_ok {P : Program} {dst : Option Tmp} {type : TypeId} {pos : String} {after : Array Edge} {guard : Option (Nat × Bool)} {t : TypeId} {x y z : Operand} {ev : Operand → AV} {s : LSt} {la : LA}
    (h : amapUpdate P t ev (ev x) (ev y) (ev z) s = some la) : OpOk P ⟨dst, .mapUpdate t x y z, type, pos, after, guard⟩ la ∧ la.ev = ev := by
  unfold amapUpdate at h
  split at h
  · rename_i kt et i key val hut hex hey hez
    split at h
    · rename_i d es clock hd hl
      split at h
      · rename_i r hf
        cases hp : plainKey d with
        | false => simp only [hp, cond_false, reduceCtorEq] at h
        | true =>
          simp only [hp, cond_true, Option.some.injEq] at h
          subst h
          refine ⟨OpOk.skip rfl fun G σ w a hR hx hc => ?_, rfl⟩
          have hX := hc.wr _ _ _ (List.mem_singleton.2 rfl)
          obtain ⟨b, hb, _, hblk⟩ := hR.look hX
          have hxx : V G w (ev x) (a.eval x) := hx x (by simp [Op.operands])
          have hyy : V G w (ev y) (a.eval y) := hx y (by simp [Op.operands])
          have hzz : V G w (ev z) (a.eval z) := hx z (by simp [Op.operands])
          rw [hex] at hxx; rw [hey] at hyy; rw [hez] at hzz
          simp only [V] at hxx hyy hzz
          obtain ⟨b', hb', hxe⟩ := hxx
          rw [hb] at hb'; cases hb'
          have hh : w.heap[b]? = some (.map es clock) := hblk.1
          have hget : (getObj b).run P w = .ok (.map es clock) w := by simp [getObj, Sem.run, hh]
          have hset : ∀ o, (setObj b o).run P w = .ok () { w with heap := w.heap.setIfInBounds b o } := by intro o; simp [setObj, Sem.run, hh]
          have hck := run_checkKey (P := P) hd hp false 9999 key w
          have hfk : (Instr.findKey kt key es.toList).run P w = .ok r w := by
            simp only [Instr.findKey, Sem.run_bind, run_underlying hd, Result.andThen_ok, hf, Sem.run_pure]
          cases r with
          | none =>
            obtain ⟨g1, g2⟩ := hR.setObj hb _ (.map (es.push { key := key, val := val, born := clock }) (clock + 1)) trivial hX
            refine ⟨_, G, ?_, g1, by rw [app_wr]; exact g2⟩
            simp only [execOp, Sem.run_bind, Instr.mapUpdate, run_underlying hut, Result.andThen_ok, hxe, hyy, hzz, hget, hck, hfk, hset, Sem.run_pure]
          | some p =>
            obtain ⟨j, v⟩ := p
            obtain ⟨g1, g2⟩ := hR.setObj hb _ (.map (es.modify j fun e => { e with key := key, val := val }) clock) trivial hX
            refine ⟨_, G, ?_, g1, by rw [app_wr]; exact g2⟩
            obtain ⟨_, e, he, hs⟩ := findNow_same _ _ _ _ hf
            have hst : (Instr.keyThatStays (((es[j]?).map (·.key)).getD key) key).run P w = .ok key w := by
              have : es[j]? = some e := by simpa using he
              simp only [this, Option.map_some, Option.getD_some, Instr.keyThatStays, sameBits_of_now hp hs, if_true, Sem.run_pure]
            simp only [execOp, Sem.run_bind, Instr.mapUpdate, run_underlying hut, Result.andThen_ok, hxe, hyy, hzz, hget, hck, hfk, hset, hst, Sem.run_pure]
      · cases h
    · cases h
  · cases h

/-- all operations but calls -/
def aop (P : Program) (o : Op) (ev : Operand → AV) (s : LSt) : Option LA :=
  match pop P o ev with
  | some v => some { ev := ev, v := v }
  | none =>
    match o with
    | .lookup t x k ok => alookup P t ev (ev x) (ev k) ok s
    | .mapUpdate t m k x => amapUpdate P t ev (ev m) (ev k) (ev x) s
    | .call { callee := .builtin .append, args, argTypes } => match args.toList, argTypes.toList with
      | [x, y], [t, t2] => aappend P t t2 ev (ev x) (ev y) s
      | _, _ => none
    | o => eop P o ev s

theorem aop_ok {P : Program} {o : Oper} {ev : Operand → AV} {s : LSt} {la : LA} (h : aop P o.op ev s = some la) : OpOk P o la ∧ la.ev = ev := by
  obtain ⟨dst, op, type, pos, after, guard⟩ := o
  have h' : aop P op ev s = some la := h
  clear h
  unfold aop at h'
  split at h'
  · rename_i v hv
    cases h'
    exact ⟨pop_ok hv, rfl⟩
  · rename_i hn
    clear hn
    split at h'
    · exact alookup_ok h'
    · exact amapUpdate_ok h'
    · rename_i args argTypes
      split at h'
      · rename_i x y t t2 h1 h2
        have e1 : args = #[x, y] := by cases args; simp_all
        have e2 : argTypes = #[t, t2] := by cases argTypes; simp_all
        subst e1 e2
        exact aappend_ok h'
      · cases h'
    · exact eop_ok h'

end Go.Ab
