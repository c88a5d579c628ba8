/- READING: what can be read as a Term is one. -/
import Derived.ChangeArms
import Derived.ChangeShapes
import Derived.Test.YtlbmblbeccafcaaGreatAbB5
set_option linter.unusedVariables false
set_option linter.unusedSimpArgs false

namespace Go.Ab
open Go Go.RowKit

/-- every cell that there is may be read; every block is kept -/
def rdG (W : World) : Gh := ⟨fun _ => none, fun _ => none, fun b o => ∃ v, W.cell? ⟨b, o, none⟩ = some v, W, fun b => b < W.heap.size⟩

theorem rd_rel (W : World) : RelS (rdG W) (over (Emp 0) (st0 [])) W := by
  refine ⟨fun _ => ⟨fun _ => rfl, fun _ => rfl⟩, ⟨0, fun _ _ => rfl⟩, fun _ _ _ h => ?_, fun _ _ _ h => ?_, fun _ _ h => ⟨h, fun i e => by cases e⟩, fun _ _ => rfl, fun _ h => ?_, fun _ _ _ _ _ _ _ h => ?_, Keep.refl _ _, fun _ h => h⟩
  · cases h
  · cases h
  · cases h
  · cases h
theorem rd_base (W : World) : Base (0 : Nat) (rdG W) := ⟨fun _ _ => rfl, fun _ => rfl, fun _ _ ⟨_, h⟩ => World.block_lt_of_cell? W _ h, trivial⟩

theorem rd_cells {W : World} : ∀ (xs : List AV) (cs : List Value) (b off : Nat), VL (rdG W) W xs cs → (∀ i, i < xs.length → W.cell? ⟨b, off + i, none⟩ = cs[i]?) → VC (rdG W) W xs b off
  | [], _, _, _, _, _ => by simp only [VC]
  | a :: xs, c :: cs, b, off, hv, h => by
    simp only [VL] at hv
    have h0 := h 0 (by simp)
    simp only [Nat.add_zero, List.getElem?_cons_zero] at h0
    simp only [VC]
    refine ⟨⟨c, h0⟩, ⟨c, h0, hv.1⟩, rd_cells xs cs b (off + 1) hv.2 fun i hi => ?_⟩
    have := h (i + 1) (by simp; omega)
    simpa [Nat.add_assoc, Nat.add_comm 1 i] using this
  | _ :: _, [], _, _, hv, _ => by simp only [VL] at hv

theorem OkL_of : ∀ {l : List Tm}, (∀ t ∈ l, t.Ok) → OkL l
  | [], _ => by rw [OkL]; trivial
  | t :: l, h => by rw [OkL]; exact ⟨h t (by simp), OkL_of fun u hu => h u (by simp [hu])⟩
theorem rd_elems {W : World} {b : Nat} : ∀ (n off : Nat), (∀ i, i < n → ∃ (cs : List Value) (t : Tm), (∀ j, j < 3 → W.cell? ⟨b, off + i * 3 + j, none⟩ = cs[j]?) ∧ VL (rdG W) W (tmL t) cs ∧ t.Ok) →
    ∃ l : List Tm, l.length = n ∧ VC (rdG W) W (flat tmCells l) b off ∧ OkL l
  | 0, off, _ => ⟨[], rfl, by simp [flat, VC], by rw [OkL]; trivial⟩
  | n + 1, off, h => by
    obtain ⟨cs, t, hc, ht, hto⟩ := h 0 (by omega)
    obtain ⟨l, hl, hV, hlo⟩ := rd_elems (W := W) (b := b) n (off + 3) fun i hi => by
      obtain ⟨cs, t, hc, ht, hto⟩ := h (i + 1) (by omega)
      refine ⟨cs, t, fun j hj => ?_, ht, hto⟩
      rw [← hc j hj]
      congr 2
      omega
    refine ⟨t :: l, by simp [hl], ?_, by rw [OkL]; exact ⟨hto, hlo⟩⟩
    have e : flat tmCells (t :: l) = tmL t ++ flat tmCells l := by simp only [flat, List.flatMap_cons, tm_eq]
    rw [e]
    refine VC.append _ _ _ _ (rd_cells _ cs _ _ ht fun i hi => ?_) (by simpa [tmL] using hV)
    simpa using hc i (by simpa [tmL] using hi)

end Go.Ab

namespace Go.Proofs.YtlbmblbeccafcaaGreat
open Go Go.Ab Go.RowKit Go.Proofs

/-- a list of them, where each is read by less fuel -/
theorem rd_list {H : Type} {enc : TypeId × Value → H} {W : World} {n : Nat} {c2 : Value} {x : DataW H × List MemPlace}
    (ih : ∀ m, n = m + 1 → ∀ (cs : List Value) (x : DataW H × List MemPlace), DataW.trod enc Tryz.prog W 0 (fun _ => true) true m 29 cs = some x → ∃ t : Tm, VL (rdG W) W (tmL t) cs ∧ t.Ok)
    (f2 : DataW.trod enc Tryz.prog W 0 (fun _ => true) true n 22 [c2] = some x) : ∃ l : List Tm, V (rdG W) W (.sl (flat tmCells l) l.length .no) c2 ∧ OkL l ∧ l.length < 9223372036854775808 := by
  rcases DataW.trod_slice Tryz.underlying22 f2 with ⟨e2, -⟩ | ⟨a, len, cap, elems, rest, m, hm, e2, -, -, hle, hmx, hel, hE, hR, -⟩
  · cases e2
    exact ⟨[], by simp only [V]; exact ⟨0, Nat.le_refl _, .inl ⟨rfl, rfl, rfl, rfl, trivial⟩⟩, by rw [OkL]; trivial, by simp⟩
  · cases e2
    have rd : ∀ i, i < cap → ∃ (cs : List Value) (t : Tm), W.cells? 0 (a.add (i * 3)) 3 = some cs ∧ VL (rdG W) W (tmL t) cs ∧ t.Ok := by
      intro i hi
      have got : ∃ y, (W.cells? 0 (a.add (i * 3)) 3).bind (DataW.trod enc Tryz.prog W 0 (fun _ => true) true m 29) = some y := by
        rw [← termCells]
        rcases Nat.lt_or_ge i len with hlt | hge
        · rw [hE i hlt]; exact ⟨_, List.getElem?_eq_getElem (by omega)⟩
        · obtain ⟨r1, r2⟩ := hR rfl
          have := r2 (i - len) (by omega)
          rw [show len + (i - len) = i by omega] at this
          rw [this]; exact ⟨_, List.getElem?_eq_getElem (by omega)⟩
      obtain ⟨y, hy⟩ := got
      obtain ⟨cs, h1, h2⟩ := Option.bind_eq_some_iff.1 hy
      obtain ⟨t, ht⟩ := ih m hm cs y h2
      exact ⟨cs, t, h1, ht⟩
    rcases Nat.eq_zero_or_pos cap with e | hpos
    · subst e
      have : len = 0 := by omega
      subst this
      exact ⟨[], by simp only [V]; exact ⟨0, Nat.le_refl _, .inl ⟨rfl, rfl, rfl, rfl, trivial⟩⟩, by rw [OkL]; trivial, by simp⟩
    · obtain ⟨b, off, spot⟩ := a
      have hsp : spot = none := by
        obtain ⟨cs, t, h1, h2⟩ := rd 0 hpos
        obtain ⟨_, hl, hc⟩ := World.cells?_some h1
        have g0 := hc 0 (by omega)
        obtain ⟨c0, hc0⟩ : ∃ c0, cs[0]? = some c0 := ⟨_, List.getElem?_eq_getElem (by omega)⟩
        rw [hc0] at g0
        simpa [Addr.add] using World.cell?_spot g0
      subst hsp
      obtain ⟨l, hl, hV, hlo⟩ := rd_elems (W := W) (b := b) len off fun i hi => by
        obtain ⟨cs, t, h1, h2⟩ := rd i (by omega)
        obtain ⟨_, _, hc⟩ := World.cells?_some h1
        exact ⟨cs, t, fun j hj => by have := hc j hj; simpa [Addr.add_lit] using this, h2⟩
      refine ⟨l, ?_, hlo, by have : maxLen = 9223372036854775807 := rfl; omega⟩
      simp only [V]
      exact ⟨cap, by omega, .inr ⟨b, off, by rw [hl], hV, trivial⟩⟩

theorem rd_term {H : Type} {enc : TypeId × Value → H} {W : World} : ∀ (fuel : Nat) (cs : List Value) (x : DataW H × List MemPlace), DataW.trod enc Tryz.prog W 0 (fun _ => true) true fuel 29 cs = some x → ∃ t : Tm, VL (rdG W) W (tmL t) cs ∧ t.Ok := by
  intro fuel
  induction fuel using Nat.strongRecOn with
  | ind fuel ih =>
    intro cs x h
    obtain ⟨xs, n, hn, -, hlen, hxs, hf⟩ := DataW.trod_struct Tryz.underlying29 h
    have hlen : cs.length = 3 := hlen.trans termCells
    obtain ⟨c0, c1, c2, rfl⟩ : ∃ c0 c1 c2, cs = [c0, c1, c2] := by
      rcases cs with _ | ⟨a, _ | ⟨b, _ | ⟨c, _ | ⟨e, cs⟩⟩⟩⟩ <;> simp only [List.length_nil, List.length_cons] at hlen <;> first | exact ⟨a, b, c, rfl⟩ | omega
    have c3 : Tryz.prog.cellsOf 3 = 1 := by kernel_rfl
    have c56 : Tryz.prog.cellsOf 22 = 1 := by kernel_rfl
    have f0 : DataW.trod enc Tryz.prog W 0 (fun _ => true) true n 3 ((List.drop 0 [c0, c1, c2]).take (Tryz.prog.cellsOf 3)) = xs[0]? := hf 0 _ rfl
    have f1 : DataW.trod enc Tryz.prog W 0 (fun _ => true) true n 3 ((List.drop 1 [c0, c1, c2]).take (Tryz.prog.cellsOf 3)) = xs[1]? := hf 1 _ rfl
    have f2 : DataW.trod enc Tryz.prog W 0 (fun _ => true) true n 22 ((List.drop 2 [c0, c1, c2]).take (Tryz.prog.cellsOf 22)) = xs[2]? := hf 2 _ rfl
    rw [c3] at f0 f1
    rw [c56] at f2
    replace f0 : DataW.trod enc Tryz.prog W 0 (fun _ => true) true n 3 [c0] = xs[0]? := f0
    replace f1 : DataW.trod enc Tryz.prog W 0 (fun _ => true) true n 3 [c1] = xs[1]? := f1
    replace f2 : DataW.trod enc Tryz.prog W 0 (fun _ => true) true n 22 [c2] = xs[2]? := f2
    have hsz : xs.length = 3 := hxs
    obtain ⟨y0, y1, y2, rfl⟩ : ∃ y0 y1 y2, xs = [y0, y1, y2] := by
      rcases xs with _ | ⟨a, _ | ⟨b, _ | ⟨c, _ | ⟨e, xs⟩⟩⟩⟩ <;> simp only [List.length_nil, List.length_cons] at hsz <;> first | exact ⟨a, b, c, rfl⟩ | omega
    simp only [List.getElem?_cons_zero, List.getElem?_cons_succ] at f0 f1 f2
    obtain ⟨k0, e0, -, -⟩ := DataW.trod_int Tryz.underlying3 f0
    obtain ⟨k1, e1, -, -⟩ := DataW.trod_int Tryz.underlying3 f1
    cases e0; cases e1
    have key := rd_list (W := W) (n := n) (fun m hm cs x hx => ih m (by omega) cs x hx) f2
    obtain ⟨l, hl, ho, hlen⟩ := key
    refine ⟨.mk k0 k1 l, ?_, by rw [Tm.Ok]; exact ⟨hlen, ho⟩⟩
    simp only [tmL, Tm.k, Tm.n, Tm.sub, VL]
    exact ⟨by simp only [V], by simp only [V], hl, trivial⟩

theorem rd_tmA {H : Type} {enc : TypeId × Value → H} {W : World} {v : Value} {d : DataW H} {p : List MemPlace} (hv : ∃ (k n : Int) (p : Option Addr) (m c : Nat), v = .agg #[.int .i64 k, .int .i64 n, .slice p m c])
    (h : DataW.Trod enc Tryz.prog W 0 (fun _ => true) true 29 v d p) : ∃ t : Tm, V (rdG W) W (tmA t) v ∧ t.Ok := by
  obtain ⟨k, n, q, m, c, rfl⟩ := hv
  obtain ⟨fuel, hf⟩ := h
  obtain ⟨t, ht, ho⟩ := rd_term fuel _ _ hf
  refine ⟨t, ?_, ho⟩
  simp only [tmA, V]
  exact ⟨_, rfl, by simpa [Value.cells] using ht⟩

theorem rd_tms {H : Type} {enc : TypeId × Value → H} {W : World} {v : Value} {d : DataW H} {p : List MemPlace} (hv : ∃ (q : Option Addr) (m c : Nat), v = .slice q m c)
    (h : DataW.Trod enc Tryz.prog W 0 (fun _ => true) true 22 v d p) : ∃ l : List Tm, V (rdG W) W (.sl (flat tmCells l) l.length .no) v ∧ OkL l ∧ l.length < 9223372036854775808 := by
  obtain ⟨q, m, c, rfl⟩ := hv
  obtain ⟨fuel, hf⟩ := h
  exact rd_list (n := fuel) (fun m _ cs x hx => rd_term m cs x hx) (by simpa [Value.cells] using hf)

end Go.Proofs.YtlbmblbeccafcaaGreat
