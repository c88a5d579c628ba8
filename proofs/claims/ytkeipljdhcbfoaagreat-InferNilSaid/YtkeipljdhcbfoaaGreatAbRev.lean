/- slices.Reverse, called: at elements of three cells, told as what they hold. -/
import Derived.Test.YtkeipljdhcbfoaaGreatAbIn
namespace Go.Ab
open Go Go.RowKit Go.Sort

/-- three cells -/
structure L3 where
  a : Value
  b : Value
  c : Value
  ha : a.oneCell' = true
  hb : b.oneCell' = true
  hc : c.oneCell' = true
instance : Inhabited L3 := ⟨⟨.int .i64 0, .int .i64 0, .int .i64 0, rfl, rfl, rfl⟩⟩
def L3.vs (x : L3) : List Value := [x.a, x.b, x.c]
def c3 (x : L3) : List AV := [.val x.a, .val x.b, .val x.c]
theorem codec3 : Codec c3 3 := ⟨fun _ => rfl, fun _ => ⟨trivial, trivial, trivial, trivial⟩, fun x => by simp [c3, AV.one, x.ha, x.hb, x.hc]⟩
def vals (l : List L3) : List Value := l.flatMap L3.vs

theorem flat_c3 : ∀ l : List L3, flat c3 l = (vals l).map .val
  | [] => rfl
  | x :: l => by
    have := flat_c3 l
    simp only [flat, vals] at this
    simp only [flat, vals, List.flatMap_cons, List.map_append, this]; rfl

theorem vals_len : ∀ l : List L3, (vals l).length = l.length * 3
  | [] => rfl
  | x :: l => by
    have := vals_len l
    simp only [vals] at this
    simp only [vals, List.flatMap_cons, List.length_append, this, L3.vs, List.length_cons, List.length_nil]; omega

theorem vals_get : ∀ (l : List L3) (i c : Nat) (hi : i < l.length) (hc : c < 3), (vals l)[i * 3 + c]? = some ((l[i].vs)[c]'(by simpa [L3.vs] using hc))
  | x :: l, 0, c, _, hc => by
    simp only [vals, List.flatMap_cons, Nat.zero_mul, Nat.zero_add, List.getElem_cons_zero]
    rw [List.getElem?_append_left (by simpa [L3.vs] using hc), List.getElem?_eq_getElem]
  | x :: l, i + 1, c, hi, hc => by
    have := vals_get l i c (by simpa using hi) hc
    simp only [vals] at this
    simp only [vals, List.flatMap_cons, List.getElem_cons_succ]
    rw [List.getElem?_append_right (by simp [L3.vs]; omega)]
    rw [← this]; congr 1; simp [L3.vs]; omega

theorem vals_at (l : List L3) (t : Nat) (ht : t < l.length * 3) : (vals l)[t]? = some (L3.vs l.toArray[t / 3]!)[t % 3]! := by
  have h1 : t / 3 < l.length := by omega
  have h2 : t % 3 < 3 := Nat.mod_lt _ (by omega)
  have := vals_get l (t / 3) (t % 3) h1 h2
  rw [show t / 3 * 3 + t % 3 = t by omega] at this
  rw [this]
  have e : l.toArray[t / 3]! = l[t / 3] := by simp [h1]
  rw [e]
  have h3 : t % 3 < l[t / 3].vs.length := by simpa [L3.vs] using h2
  simp [h3]

theorem holds_vals {w : World} {b off : Nat} {l : List L3} (hcell : ∀ i (h : i < (vals l).length), w.cell? ⟨b, off + i, none⟩ = some (vals l)[i]) (hfr : ∀ o, w.frozen? ⟨b, o, none⟩ = false) : HoldsK L3.vs 3 w b off l.toArray := by
  intro t ht
  have ht' : t < l.length * 3 := by simpa using ht
  refine ⟨?_, hfr _⟩
  have hlt : t < (vals l).length := by rw [vals_len]; exact ht'
  rw [hcell t hlt, get_flatK _ _ _ _ (by simpa using ht')]
  have := vals_at l t ht'
  rw [List.getElem?_eq_getElem hlt] at this
  exact this

theorem vals_holds {w : World} {b off : Nat} {l : List L3} (h : HoldsK L3.vs 3 w b off l.toArray) : ∀ i (h : i < (vals l).length), w.cell? ⟨b, off + i, none⟩ = some (vals l)[i] := by
  intro t ht
  have ht' : t < l.length * 3 := by rw [vals_len] at ht; exact ht
  rw [(h t (by simpa using ht')).1, get_flatK _ _ _ _ (by simpa using ht')]
  have := vals_at l t ht'
  rw [List.getElem?_eq_getElem ht] at this
  exact this.symm

end Go.Ab

namespace Go.Proofs.YtkeipljdhcbfoaaGreat
open Go Go.Ab Go.RowKit Go.Sort Go.Proofs

theorem rev_some {w : World} {b off cap : Nat} {l : List L3} (hH : HoldsK L3.vs 3 w b off l.toArray) (hsz : l.length ≤ 9223372036854775807) :
    Calls Tryz.prog 191 #[.slice (some ⟨b, off, none⟩) l.length cap] w fun e w' => e = .returned (.tuple #[]) ∧ Keep (fun c => c < w.heap.size ∧ c ≠ b) w w' ∧ ∀ i (h : i < (vals l.reverse).length), w'.cell? ⟨b, off + i, none⟩ = some (vals l.reverse)[i] := by
  have h1 : ∀ x : L3, ∀ v ∈ x.vs, v.oneCell' = true := by
    intro x v hv
    simp only [L3.vs, List.mem_cons, List.not_mem_nil, or_false] at hv
    rcases hv with rfl | rfl | rfl
    · exact x.ha
    · exact x.hb
    · exact x.hc
  have := AnyQ.slices_Reverse Tryz.revT 3 Tryz.isAgg24 Tryz.sizeOf24 L3.vs (fun _ => rfl) h1 b off cap l.toArray w hH (by simpa using hsz)
  refine Calls.mono (this : Calls Tryz.prog 191 _ w _) ?_
  rintro e w' ⟨rfl, n, rfl⟩
  refine ⟨rfl, Keep.putRow _ w n b off _, ?_⟩
  have := holdsK_putRowK L3.vs 3 (Sort.ahead w n) b off l.toArray l.toArray.reverse hH (by simp)
  refine vals_holds ?_
  simpa using this

theorem V.st3 {G : Gh} {w : World} {k n : Nat} {es : List AV} {u u' : Value} (hn : n ≠ 0) (h : V G w (.sl es n (.st k 3)) u) (h' : V G w (.sl es n (.st k 3)) u') (_hes : es.length = n * 3) : u = u' := by
  simp only [V] at h h'
  obtain ⟨cap, hc, ⟨_, h0, _⟩ | ⟨b, off, rfl, _, _, ho⟩⟩ := h
  · exact (hn h0).elim
  obtain ⟨cap', hc', ⟨_, h0, _⟩ | ⟨b', off', rfl, _, _, ho'⟩⟩ := h'
  · exact (hn h0).elim
  rcases ho with ho | ⟨_, _, ho⟩
  · exact (hn ho.1).elim
  rcases ho' with ho' | ⟨_, _, ho'⟩
  · exact (hn ho'.1).elim
  rw [ho] at ho'
  simp only [Option.some.injEq, Prod.mk.injEq] at ho'
  obtain ⟨rfl, e1, e2⟩ := ho'
  have : off = off' := by omega
  subst this
  have : cap = cap' := by omega
  subst this
  rfl

theorem rev_call {G : Gh} {w : World} {s : LSt} {k : Nat} {l : List L3} {u : Value} (hR : RelS G (over (Emp 0) s) w) (ho : s.own.any (Nat.beq k) = true) (hsz : l.length ≤ 9223372036854775807) (hu : V G w (.sl (flat c3 l) l.length (.st k 3)) u) :
    Calls Tryz.prog 191 #[u] w fun e w' => ∃ (v : Value) (b : Nat) (S : Nat → Nat → Prop), e = .returned v ∧ ¬ G.F b ∧ (∀ i, G.ρ i ≠ some b) ∧ Keep (fun c => c < w.heap.size ∧ c ≠ b) w w' ∧
      (∀ c o, S c o → c = b ∧ ∃ x, w'.cell? ⟨c, o, none⟩ = some x) ∧ v = .tuple #[] ∧ ∀ G', (∀ c o, S c o → G'.L c o) → ∀ es, VL G' w' es (vals l.reverse) → ∀ u', V G w (.sl (flat c3 l) l.length (.st k 3)) u' → V G' w' (.sl es l.length .no) u' := by
  by_cases hl : l = []
  · subst hl
    have hp : ∃ p cap, u = .slice p 0 cap := by
      simp only [V] at hu
      obtain ⟨cap, _, ⟨_, _, _, h, _⟩ | ⟨b, off, h, _⟩⟩ := hu
      · exact ⟨_, _, h⟩
      · exact ⟨_, _, h⟩
    obtain ⟨p, cap, rfl⟩ := hp
    refine Calls.mono (AnyQ.slices_Reverse_empty Tryz.revT p cap w : Calls Tryz.prog 191 _ w _) ?_
    rintro e w' ⟨rfl, rfl⟩
    refine ⟨_, w'.heap.size, fun _ _ => False, rfl, fun h => Nat.lt_irrefl _ (hR.base _ h), fun i hi => Nat.lt_irrefl _ (hR.ρ_lt hi), Keep.refl _ _, fun _ _ h => h.elim, rfl, fun G' _ es hes u' hu' => ?_⟩
    have hes' : es = [] := by
      have := VL.length _ _ hes
      exact List.length_eq_zero_iff.1 this.symm
    subst hes'
    refine V.none (G := G) (w := w') ?_
    simp only [V] at hu' ⊢
    obtain ⟨cap', h1, ⟨_, _, h2, h3, _⟩ | ⟨b, off, h2, _, _⟩⟩ := hu'
    · exact ⟨cap', h1, .inl ⟨trivial, trivial, h2, h3, trivial⟩⟩
    · exact ⟨cap', h1, .inr ⟨b, off, h2, by simp only [VC], trivial⟩⟩
  · have hn : l.length ≠ 0 := fun h => hl (List.length_eq_zero_iff.1 h)
    have hlen : (flat c3 l).length = l.length * 3 := flat_len codec3.len l
    have huniq : ∀ u', V G w (.sl (flat c3 l) l.length (.st k 3)) u' → u = u' := fun u' h => V.st3 hn hu h hlen
    simp only [V] at hu
    obtain ⟨cap, hcap, ⟨_, h0, _⟩ | ⟨b, off, rfl, hC, hq, hO⟩⟩ := hu
    · exact (hn h0).elim
    rcases hO with ⟨h0, _⟩ | ⟨hm, hF, hτ⟩
    · exact (hn h0).elim
    obtain ⟨b', f, t, q1, q2⟩ := hR.own k (by rw [over_own]; exact ho)
    rw [hτ] at q1
    cases q1
    rcases q2 with q2 | ⟨_, q3, _, vs, T, q5, q6⟩
    · rw [hlen] at q2
      have := Nat.mul_le_mul_right 3 hcap
      omega
    obtain ⟨us, h1, h2⟩ := VC.cells _ _ _ hC
    rw [flat_c3] at h1
    have hus := VL.litEq _ us h1
    subst hus
    have hH : HoldsK L3.vs 3 w b off l.toArray := holds_vals h2 (fun o => by simp [World.frozen?, q5])
    refine (rev_some (cap := cap) hH hsz).mono ?_
    rintro e w' ⟨rfl, hK, hcell⟩
    refine ⟨_, b, fun c o => c = b ∧ off ≤ o ∧ o < off + (vals l.reverse).length, rfl, hF, q3, hK, ?_, rfl, fun G' hS es hes u' hu' => ?_⟩
    · rintro c o ⟨rfl, h1, h2⟩
      exact ⟨rfl, (vals l.reverse)[o - off]'(by omega), by have := hcell (o - off) (by omega); rwa [show off + (o - off) = o by omega] at this⟩
    · rw [← huniq u' hu']
      simp only [V]
      exact ⟨cap, hcap, .inr ⟨b, off, rfl, VC.of_cells es _ b off hes (fun i hi => hS _ _ ⟨rfl, by omega, by omega⟩) hcell, trivial⟩⟩

end Go.Proofs.YtkeipljdhcbfoaaGreat
