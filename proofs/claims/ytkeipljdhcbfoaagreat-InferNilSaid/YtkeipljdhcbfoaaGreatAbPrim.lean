/- FUNCTIONS WITHOUT A BODY: sync/atomic's words. -/
import Derived.Test.YtkeipljdhcbfoaaGreatAbCall
import Derived.Laws.LoneSync
namespace Go.Ab
open Go Go.RowKit

/-- a call of a function without a body -/
theorem CallOk.extern {P : Program} {f : FuncId} {args : List AV} {la : LA}
    (h : ∀ (G : Gh) (σ : ASt) (w : World) (cargs : Array Value), RelS G σ w → VL G w args cargs.toList → la.can σ →
      ∃ u w' G', (callFunc f cargs).run P w = .ok (.value u) w' ∧ Ext G w G' w' ∧ RelS G' (la.app σ) w' ∧ V G' w' la.v u) : CallOk P f args la := by
  intro dst type pos after guard g cargs argTypes first caps ev hg hargs
  subst hargs
  refine OpOk.value (la := { la with ev := ev }) fun G σ w a hR hx hc => ?_
  have hgx := hx g (by simp [Op.operands, Call.operands])
  have hg' : (LA.ev { la with ev := ev }) g = .clo f first caps := hg
  rw [hg'] at hgx
  simp only [V] at hgx
  obtain ⟨l, r, hge, hl, hr⟩ := hgx
  have hargs : VL G w (cargs.toList.map ev) (cargs.toList.map a.eval) := VL.mapv _ fun p hp => hx p (by simp [Op.operands, Call.operands]; exact .inr (by simpa using hp))
  obtain ⟨u, w', G', h1, h2, h3, h4⟩ := h G σ w (l.toArray ++ cargs.map a.eval ++ r.toArray) hR (by
    have := VL.append _ _ _ _ (VL.append _ _ _ _ hl hargs) hr
    simpa using this) ⟨hc.rd, hc.wr, hc.al, hc.use, hc.ns, hc.hole⟩
  refine ⟨u, w', G', ?_, h2, h3, h4⟩
  simp only [execOp, resolve, hge, Deferred.ofValue, Sem.run_bind, Sem.run_pure, Result.andThen_ok, invoke, h1]

theorem set_row {cur : Array Value} {off : Nat} {v : Value} : cur.setIfInBounds off v = (cur.toList.set off v).toArray := by
  apply Array.ext'
  simp

/-- what stands at a place of a block -/
theorem at_cell {G : Gh} {σ : ASt} {w : World} (hR : RelS G σ w) {i off : Nat} {cs : List AV} (hX : σ.H i = some (.cells cs)) {a : AV} (ha : cs[off]? = some a) {u : Value} (hu : V G w (.mp i off) u) :
    ∃ b vs T x, G.ρ i = some b ∧ u = .pointer (some ⟨b, off, none⟩) ∧ w.heap[b]? = some (.cells vs T (0, 0)) ∧ VLp G w cs vs.toList ∧ w.cell? ⟨b, off, none⟩ = some x ∧ w.frozen? ⟨b, off, none⟩ = false ∧ V G w a x := by
  obtain ⟨b, hb, _, hblk⟩ := hR.look hX
  obtain ⟨vs, T, hh, hl⟩ := hblk
  simp only [V] at hu
  obtain ⟨b', hb', rfl⟩ := hu
  rw [hb] at hb'; cases hb'
  obtain ⟨x, hx, hv⟩ := hl.get off a ha
  refine ⟨b, vs, T, x, hb, rfl, hh, hl, ?_, ?_, hv⟩
  · simp only [World.cell?, hh]; simpa using hx
  · simp [World.frozen?, hh]

theorem list_two {G : Gh} {w : World} {a b : AV} {l : Array Value} (h : VL G w [a, b] l.toList) : ∃ u v, l = #[u, v] ∧ V G w a u ∧ V G w b v := by
  obtain ⟨l⟩ := l
  match l, h with
  | [], h => simp only [VL] at h
  | [_], h => simp only [VL, and_false] at h
  | [u, v], h => simp only [VL, and_true] at h; exact ⟨u, v, rfl, h⟩
  | _ :: _ :: _ :: _, h => simp only [VL, and_false] at h

theorem list_one {G : Gh} {w : World} {a : AV} {l : Array Value} (h : VL G w [a] l.toList) : ∃ u, l = #[u] ∧ V G w a u := by
  obtain ⟨l⟩ := l
  match l, h with
  | [], h => simp only [VL] at h
  | [u], h => simp only [VL, and_true] at h; exact ⟨u, rfl, h⟩
  | _ :: _ :: _, h => simp only [VL, and_false] at h

def storeLA (i off : Nat) (cs : List AV) (v : Value) : LA := { ev := fun _ => .val undef, wr := [(i, .cells cs, .cells (cs.set off (.val v)))], v := .tup [] }
def loadLA (i : Nat) (cs : List AV) (v : AV) : LA := { ev := fun _ => .val undef, rd := [(i, .cells cs)], v := v }
def addLA (i off : Nat) (cs : List AV) (v : Value) : LA := { ev := fun _ => .val undef, wr := [(i, .cells cs, .cells (cs.set off (.val v)))], v := .val v }

theorem at_set {G : Gh} {σ : ASt} {w : World} (hR : RelS G σ w) {i off b : Nat} {cs : List AV} {vs : Array Value} {T : TypeId} (hb : G.ρ i = some b) (hh : w.heap[b]? = some (.cells vs T (0, 0))) (hl : VLp G w cs vs.toList) (hi : off < cs.length) (v : Value) :
    Ext G w G (w.setCell ⟨b, off, none⟩ v) ∧ RelS G ⟨up σ.H i (.cells (cs.set off (.val v))), σ.own, σ.ns⟩ (w.setCell ⟨b, off, none⟩ v) := by
  have e : w.setCell ⟨b, off, none⟩ v = w.setRow b (vs.toList.set off v).toArray := by
    have := setCell_eq_setRow w b off vs T (0, 0) v hh
    rw [this, set_row]
  rw [e]
  exact ⟨Ext.setRow hR hb _, hR.setRow hb _ _ hh (hl.set off hi _ _ (by simp [V]))⟩

section
variable {P : Program} {f : FuncId} {fn : Func} (hf : P.funcs[f]? = some fn) (hname : (fn.name == "runtime.NumGoroutine") = false) (hb : fn.body.isNone = true) (hn : Extern.findNext fn = none)
include hf hname hb hn

theorem store_call (he : Extern.find fn = some Extern.Atomic.storeT) {i off : Nat} {k : IntKind} {y : Int} {cs : List AV} {a : AV} (ha : cs[off]? = some a) :
    CallOk P f [.mp i off, .val (.int k y)] (storeLA i off cs (.int k y)) := by
  refine CallOk.extern fun G σ w cargs hR hv hc => ?_
  obtain ⟨u1, u2, rfl, h1, h2⟩ := list_two hv
  simp only [V] at h2
  subst h2
  have hX := hc.wr _ _ _ (List.mem_singleton.2 rfl)
  obtain ⟨b, vs, T, x, hbb, rfl, hh, hl, hcell, hfr, _⟩ := at_cell hR hX ha h1
  obtain ⟨hE, hR'⟩ := at_set hR (off := off) hbb hh hl (List.getElem?_eq_some_iff.1 ha).1 (.int k y)
  refine ⟨_, _, G, run_call_store hf hname hb hn he hcell hfr, hE, ?_, by simp only [storeLA, V]; exact ⟨[], rfl, by simp [VL]⟩⟩
  rw [storeLA, app_wr]; exact hR'

theorem load_call (k : IntKind) (he : Extern.find fn = some (Extern.Atomic.loadT (.int k))) {i off : Nat} {x : Int} {cs : List AV} (ha : cs[off]? = some (.val (.int k x))) :
    CallOk P f [.mp i off] (loadLA i cs (.val (.int k x))) := by
  refine CallOk.extern fun G σ w cargs hR hv hc => ?_
  obtain ⟨u1, rfl, h1⟩ := list_one hv
  have hX := hc.rd _ _ (List.mem_singleton.2 rfl)
  obtain ⟨b, vs, T, x', hbb, rfl, hh, hl, hcell, hfr, hx⟩ := at_cell hR hX ha h1
  simp only [V] at hx
  subst hx
  refine ⟨_, w, G, run_call_load hf hname hb hn k he hcell, Ext.refl G w, ?_, by simp [loadLA, V]⟩
  show RelS G ((ASt.mk σ.H σ.own σ.ns).stamps [] 0) w
  rw [ASt.stamps_zero]
  exact hR

theorem add_call (k : IntKind) (he : Extern.find fn = some (Extern.Atomic.update (Op.intArith .add) k true)) {i off : Nat} {x y s : Int} {cs : List AV} (ha : cs[off]? = some (.val (.int k x)))
    (hs : ∀ w, (Op.intArith .add k x y).run P w = .ok (.int k s) w) :
    CallOk P f [.mp i off, .val (.int k y)] (addLA i off cs (.int k s)) := by
  refine CallOk.extern fun G σ w cargs hR hv hc => ?_
  obtain ⟨u1, u2, rfl, h1, h2⟩ := list_two hv
  simp only [V] at h2
  subst h2
  have hX := hc.wr _ _ _ (List.mem_singleton.2 rfl)
  obtain ⟨b, vs, T, x', hbb, rfl, hh, hl, hcell, hfr, hx⟩ := at_cell hR hX ha h1
  simp only [V] at hx
  subst hx
  obtain ⟨hE, hR'⟩ := at_set hR (off := off) hbb hh hl (List.getElem?_eq_some_iff.1 ha).1 (.int k s)
  refine ⟨_, _, G, run_call_add hf hname hb hn k he hcell hfr (hs w), hE, ?_, by simp [addLA, V]⟩
  rw [addLA, app_wr]; exact hR'
end

/- arguments -/
theorem row3 {P : Program} {W : World} {base : Nat} {t t1 t2 t3 : TypeId} {cs : Array Value} (ht : P.cellTypes P.depth t = some [t1, t2, t3]) (hs : cs.size = 3) (h : Row.okWide P W .any base t cs) :
    ∃ a b c, cs = #[a, b, c] ∧ Cell.okWide P W .any base t1 a ∧ Cell.okWide P W .any base t2 b ∧ Cell.okWide P W .any base t3 c := by
  obtain ⟨ts, hts, _, hc⟩ := h
  rw [ht] at hts
  cases hts
  obtain ⟨cs⟩ := cs
  match cs, hs with
  | [a, b, c], _ =>
    obtain ⟨u, hu, ha⟩ := hc 0 a (by simp)
    obtain ⟨u', hu', hb⟩ := hc 1 b (by simp)
    obtain ⟨u'', hu'', hd⟩ := hc 2 c (by simp)
    simp at hu hu' hu''
    subst hu hu' hu''
    exact ⟨a, b, c, rfl, ha, hb, hd⟩

theorem okWide_row {P : Program} {W : World} {base : Nat} {t : TypeId} {fs : Array Field} {v : Value} (ht : P.underlying t = some (.struct fs)) (h : Value.okWide P W .any base t v) : ∃ cs, v = .agg cs ∧ cs.size = P.cellsOf t ∧ Row.okWide P W .any base t cs := by
  simp only [Value.okWide, ht] at h
  exact h

theorem okCell_int {P : Program} {W : World} {base : Nat} {t : TypeId} {k : IntKind} {v : Value} (ht : P.underlying t = some (.int k)) (h : Cell.okWide P W .any base t v) : ∃ n, v = .int k n := by
  simp only [Cell.okWide, Cell.ok, ht] at h
  cases v <;> simp_all

theorem okCell_slice {P : Program} {W : World} {base : Nat} {t e : TypeId} {v : Value} (ht : P.underlying t = some (.slice e)) (h : Cell.okWide P W .any base t v) : ∃ p m c, v = .slice p m c := by
  simp only [Cell.okWide, Cell.ok, ht] at h
  cases v <;> simp_all

theorem open3 {P : Program} {W : World} {base : Nat} {t t1 t2 t3 e : TypeId} {k1 k2 : IntKind} {fs : Array Field} {v : Value} (ht : P.underlying t = some (.struct fs)) (hts : P.cellTypes P.depth t = some [t1, t2, t3]) (hsz : P.cellsOf t = 3)
    (h1 : P.underlying t1 = some (.int k1)) (h2 : P.underlying t2 = some (.int k2)) (h3 : P.underlying t3 = some (.slice e)) (h : Value.okWide P W .any base t v) :
    ∃ (k n : Int) (p : Option Addr) (m c : Nat), v = .agg #[.int k1 k, .int k2 n, .slice p m c] := by
  obtain ⟨cs, rfl, hs, hr⟩ := okWide_row ht h
  obtain ⟨x, y, z, rfl, q1, q2, q3⟩ := row3 hts (hs.trans hsz) hr
  obtain ⟨k, rfl⟩ := okCell_int h1 q1
  obtain ⟨n, rfl⟩ := okCell_int h2 q2
  obtain ⟨p, m, c, rfl⟩ := okCell_slice h3 q3
  exact ⟨k, n, p, m, c, rfl⟩

theorem trod_bool {H : Type} {enc : TypeId × Value → H} {P : Program} {W : World} {n : Nat} {sp : Nat → Bool} {hd : Bool} {t : TypeId} (ht : P.underlying t = some .bool) (b : Bool) : DataW.Trod enc P W n sp hd t (.bool b) (.lit (.bool b)) [] :=
  ⟨1, by simp [DataW.trod, Value.cells, ht]⟩

end Go.Ab
