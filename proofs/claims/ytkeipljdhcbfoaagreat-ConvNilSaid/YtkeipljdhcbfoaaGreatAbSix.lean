/- AN ARGUMENT OF TWO STRUCTS OF THREE CELLS, in an array. -/
import Derived.Test.YtkeipljdhcbfoaaGreatAbPrim
namespace Go.Ab
open Go Go.RowKit

theorem open6 {P : Program} {W : World} {base : Nat} {t e s ti : TypeId} {n₀ : Nat} {kd : IntKind} {v : Value} (ht : P.underlying t = some (.array n₀ e)) (hts : P.cellTypes P.depth t = some [ti, ti, s, ti, ti, s]) (hsz : P.cellsOf t = 6)
    (h1 : P.underlying ti = some (.int kd)) {u : TypeId} (h3 : P.underlying s = some (.slice u)) (h : Value.okWide P W .any base t v) :
    ∃ (k n : Int) (p : Option Addr) (m c : Nat) (k' n' : Int) (p' : Option Addr) (m' c' : Nat), v = .agg #[.int kd k, .int kd n, .slice p m c, .int kd k', .int kd n', .slice p' m' c'] := by
  simp only [Value.okWide, ht] at h
  obtain ⟨cs, rfl, hs, ts, hts', _, hc⟩ := h
  rw [hts] at hts'
  cases hts'
  rw [hsz] at hs
  obtain ⟨cs⟩ := cs
  match cs, hs with
  | [a1, a2, a3, a4, a5, a6], _ =>
    obtain ⟨u1, q1, r1⟩ := hc 0 a1 (by simp)
    obtain ⟨u2, q2, r2⟩ := hc 1 a2 (by simp)
    obtain ⟨u3, q3, r3⟩ := hc 2 a3 (by simp)
    obtain ⟨u4, q4, r4⟩ := hc 3 a4 (by simp)
    obtain ⟨u5, q5, r5⟩ := hc 4 a5 (by simp)
    obtain ⟨u6, q6, r6⟩ := hc 5 a6 (by simp)
    simp at q1 q2 q3 q4 q5 q6
    subst q1 q2 q3 q4 q5 q6
    obtain ⟨k, rfl⟩ := okCell_int h1 r1
    obtain ⟨n, rfl⟩ := okCell_int h1 r2
    obtain ⟨p, m, c, rfl⟩ := okCell_slice h3 r3
    obtain ⟨k', rfl⟩ := okCell_int h1 r4
    obtain ⟨n', rfl⟩ := okCell_int h1 r5
    obtain ⟨p', m', c', rfl⟩ := okCell_slice h3 r6
    exact ⟨k, n, p, m, c, k', n', p', m', c', rfl⟩

end Go.Ab
