/- Texts: AbPc AbF28 AbF110 AbPd AbF111 AbF112 AbF65 AbF66 AbPe AbF67 AbF36 AbF35 AbF10 AbPf AbF70 AbF40 AbF43va36581 AbF43va38460 AbPg AbF46v0 AbF46v1 AbF46 AbF85 AbF50 AbF38 AbF93 AbF94 AbF253 AbF307 AbF308 AbF251 AbF191 AbF192 AbF194 AbF193 AbF140 AbF141 AbF97 AbF103 AbF195 AbF196 AbF96 AbF197 AbF142 AbF198 AbF106 -/
import Derived.Test.YtlbmblbeccafcaaGreatAbB2
set_option linter.unusedVariables false
set_option linter.unusedSimpArgs false

namespace Go.Proofs.YtlbmblbeccafcaaGreat
open Go Go.Ab

theorem imax_eq (a b : Int) : imax a b = max a b := by unfold imax; split <;> omega
theorem goodT_mk {k n : Int} {l : List Tm} (h : goodT (.mk k n l) = true) : headT (.mk k n l) = true ∧ goodL l = true := by
  rw [goodT] at h; simpa using h
theorem goodL_cons {t : Tm} {l : List Tm} (h : goodL (t :: l) = true) : goodT t = true ∧ goodL l = true := by
  rw [goodL] at h; simpa using h
theorem head_n {k n : Int} {l : List Tm} (h : headT (.mk k n l) = true) : 0 ≤ n ∧ n ≤ 1048576 ∧ 1 ≤ k ∧ k ≤ 8 ∧ l.length ≤ 2 := by
  have := head_spec h
  exact ⟨this.2.2.1, this.2.2.2.1, this.1, this.2.1, this.2.2.2.2.1⟩
mutual
theorem good_ok : ∀ t : Tm, goodT t = true → t.Ok
  | .mk k n l, h => by
    have h1 := goodT_mk h
    rw [Tm.Ok]
    exact ⟨by have := (head_n h1.1).2.2.2.2; omega, good_okL l h1.2⟩
theorem good_okL : ∀ l : List Tm, goodL l = true → OkL l
  | [], _ => by rw [OkL]; trivial
  | t :: l, h => by
    have := goodL_cons h
    rw [OkL]
    exact ⟨good_ok t this.1, good_okL l this.2⟩
end
mutual
theorem looT_nn : ∀ (t : Tm) (b : Int), 0 ≤ looT t b
  | .mk k n l, b => by
    rw [looT]; split
    · omega
    · exact looL_nn l k 0 b
theorem looL_nn : ∀ (l : List Tm) (k : Int) (i : Nat) (b : Int), 0 ≤ looL l k i b
  | [], k, i, b => by rw [looL]; omega
  | t :: l, k, i, b => by rw [looL]; have := looT_nn t (b + undT k i); omega
end
theorem ev_under (t : Tm) (i : Nat) : Evt (fun q => e116 q t (i : Int)) (undT t.k i) := by
  refine Evt.mk fun q => ?_
  simp only [e116, undT]
  by_cases h1 : i = 1
  · subst h1; simp; by_cases h3 : t.k = 3 <;> by_cases h4 : t.k = 4 <;> simp [h3, h4]
  · have : ¬ ((i : Int) = 1) := by omega
    simp [h1, this]
theorem undT_01 (k : Int) (i : Nat) : 0 ≤ undT k i ∧ undT k i ≤ 1 := by unfold undT; split <;> omega
mutual
theorem ev_loose : ∀ (t : Tm) (b : Int), goodT t = true → 0 ≤ b → b + t.high ≤ 4611686018427387904 → Evt (fun q => e72 q t b) (looT t b)
  | .mk k n l, b, hg, h0, h1 => by
    refine Evt.succ ?_
    simp only [e72, Tm.k, Tm.n]
    have hh := goodT_mk hg
    have hn := head_n hh.1
    rw [looT]
    by_cases hk : k = 1
    · rw [if_pos hk]
      rw [Tm.high] at h1
      refine Evt.ifT (by simpa using hk) (Evt.ret.eq ?_)
      rw [w64_id (x := n + 1) (by omega) (by omega), w64_id (by omega) (by omega), imax_eq]
    · rw [if_neg hk]
      refine Evt.ifF (by simpa using hk) ?_
      rw [Tm.high] at h1
      exact (ev_looseL l (.mk k n l) 0 b 0 rfl (by have := hn.2.2.2.2; simp only [Tm.sub]; omega) hh.2 h0 (by omega) (by omega)).eq (by have := looL_nn l k 0 b; simp only [Tm.k]; omega)
theorem ev_looseL : ∀ (l : List Tm) (p : Tm) (v : Nat) (b m : Int), p.sub.drop v = l → p.sub.length < 9223372036854775808 → goodL l = true → 0 ≤ b → 0 ≤ m → b + 1 + highL l ≤ 4611686018427387904 → Evt (fun q => e72L28235 q p b (v : Int) m) (max m (looL l p.k v b))
  | [], p, v, b, m, hd, hl, ho, h0, hm, h1 => by
    refine Evt.succ ?_
    simp only [e72L28235]
    rw [looL]
    exact Evt.ifF (drop_nil hd) (Evt.ret.eq (by omega))
  | t :: l, p, v, b, m, hd, hl, ho, h0, hm, h1 => by
    refine Evt.succ ?_
    simp only [e72L28235]
    have hg := goodL_cons ho
    have hu := undT_01 p.k v
    rw [highL] at h1
    refine Evt.ifT (drop_dec hd) (Evt.pure (drop_idx hd) ((ev_under p v).bind ?_))
    rw [w64_id (x := b + undT p.k v) (by omega) (by omega)]
    refine (ev_loose t (b + undT p.k v) hg.1 (by omega) (by omega)).bind ?_
    rw [w64_nat v (by have := drop_lt hd; omega), imax_eq]
    refine (ev_looseL l p (v + 1) b _ (drop_next hd) hl hg.2 h0 (by omega) (by omega)).eq ?_
    rw [looL]; omega
end

mutual
theorem col_len : ∀ (t : Tm) (a b : Int), (colT t a b).length ≤ t.nodes
  | .mk k n l, a, b => by
    rw [colT, Tm.nodes]
    have := col_lenL l a b
    split <;> simp <;> omega
theorem col_lenL : ∀ (l : List Tm) (a b : Int), (colL l a b).length ≤ nodesL l
  | [], a, b => by rw [colL, nodesL]; simp
  | t :: l, a, b => by
    rw [colL, nodesL]
    have := col_len t a b
    have := col_lenL l a b
    simp; omega
end
mutual
theorem ev_collect : ∀ (t : Tm) (a b : Int), t.Ok → t.nodes ≤ 8192 → Evt (fun q => e115 q t a b) (colT t a b)
  | .mk k n l, a, b, ho, hn => by
    refine Evt.succ ?_
    simp only [e115, Tm.k, Tm.n]
    rw [colT]
    rw [Tm.nodes] at hn
    by_cases ha : k = a
    · refine Evt.ifT (by simpa using ha) (Evt.pure (gapp_ok (by simp)) ?_)
      rw [if_pos (.inl ha)]
      exact ev_collectL l (.mk k n l) 0 a b [n] rfl ho.1 ho.2 (by simp; omega)
    · refine Evt.ifF (by simpa using ha) ?_
      by_cases hb : k = b
      · refine Evt.ifT (by simpa using hb) (Evt.pure (gapp_ok (by simp)) ?_)
        rw [if_pos (.inr hb)]
        exact ev_collectL l (.mk k n l) 0 a b [n] rfl ho.1 ho.2 (by simp; omega)
      · refine Evt.ifF (by simpa using hb) ?_
        rw [if_neg (by simp [ha, hb])]
        exact ev_collectL l (.mk k n l) 0 a b [] rfl ho.1 ho.2 (by simp; omega)
theorem ev_collectL : ∀ (l : List Tm) (p : Tm) (v : Nat) (a b : Int) (m : List Int), p.sub.drop v = l → p.sub.length < 9223372036854775808 → OkL l → m.length + nodesL l ≤ 8192 → Evt (fun q => e115L35933 q p a b (v : Int) m) (m ++ colL l a b)
  | [], p, v, a, b, m, hd, hl, ho, hn => by
    refine Evt.succ ?_
    simp only [e115L35933]
    rw [colL]
    exact Evt.ifF (drop_nil hd) (Evt.ret.eq (by simp))
  | t :: l, p, v, a, b, m, hd, hl, ho, hn => by
    refine Evt.succ ?_
    simp only [e115L35933]
    rw [nodesL] at hn
    have hc := col_len t a b
    refine Evt.ifT (drop_dec hd) (Evt.pure (drop_idx hd) ((ev_collect t a b ho.1 (by omega)).bind (Evt.pure (gapp_ok (by omega)) ?_)))
    rw [w64_nat v (by have := drop_lt hd; omega)]
    refine (ev_collectL l p (v + 1) a b _ (drop_next hd) hl ho.2 (by simp; omega)).eq ?_
    rw [colL]; simp
end

theorem shapedT_spec {t : Tm} (h : shapedT t = true) : t.nodes ≤ 8192 ∧ t.high ≤ 128 ∧ goodT t = true := by
  unfold shapedT at h; simp at h; exact ⟨h.1.1, h.1.2, h.2⟩
/-- numbers of two kinds, rising -/
def numsT (t : Tm) (a b : Int) : List Int := if shapedT t = true then rise (colT t a b) else []
theorem ev_Frees (t : Tm) (ho : t.Ok) : Evt (fun q => e71 q t) (numsT t 8 8) := by
  simp only [e71]
  refine (ev_Shaped t ho).bind ?_
  unfold numsT
  by_cases h : shapedT t = true
  · have hs := shapedT_spec h
    have := col_len t 8 8
    rw [if_pos h]
    refine Evt.ifT h ((ev_collect t 8 8 ho hs.1).bind (Evt.mk fun q => ?_))
    rw [if_pos (by simp; omega)]
  · rw [if_neg h]; exact Evt.ifF (by simpa using h) Evt.ret
theorem ev_Entries (t : Tm) (ho : t.Ok) : Evt (fun q => e73 q t) (numsT t 6 7) := by
  simp only [e73]
  refine (ev_Shaped t ho).bind ?_
  unfold numsT
  by_cases h : shapedT t = true
  · have hs := shapedT_spec h
    have := col_len t 6 7
    rw [if_pos h]
    refine Evt.ifT h ((ev_collect t 6 7 ho hs.1).bind (Evt.mk fun q => ?_))
    rw [if_pos (by simp; omega)]
  · rw [if_neg h]; exact Evt.ifF (by simpa using h) Evt.ret

/- what rises -/
theorem mem_cpct (x : Int) : ∀ l : List Int, x ∈ cpct l ↔ x ∈ l
  | [] => by simp [cpct]
  | [y] => by simp [cpct]
  | y :: z :: l => by
    rw [cpct_cons2]
    have := mem_cpct x (z :: l)
    split
    · subst_vars; rw [this]; simp
    · rw [List.mem_cons, this]; simp
theorem mem_rise (x : Int) (l : List Int) : x ∈ rise l ↔ x ∈ l := by
  unfold rise
  rw [mem_cpct]
  exact (isort_perm l).mem_iff
theorem cpct_sorted : ∀ l : List Int, l.Pairwise (· ≤ ·) → (cpct l).Pairwise (· ≤ ·)
  | [], _ => by simp [cpct]
  | [y], _ => by simp [cpct]
  | y :: z :: l, h => by
    rw [cpct_cons2]
    have h2 := cpct_sorted (z :: l) (List.pairwise_cons.1 h).2
    split
    · exact h2
    · refine List.pairwise_cons.2 ⟨fun w hw => ?_, h2⟩
      exact (List.pairwise_cons.1 h).1 w ((mem_cpct w _).1 hw)
theorem rise_sorted (l : List Int) : (rise l).Pairwise (· ≤ ·) := cpct_sorted _ (isort_sorted l)
theorem last_max : ∀ (l : List Int) (h : l ≠ []), l.Pairwise (· ≤ ·) → ∀ x ∈ l, x ≤ l.getLast h
  | [y], _, _, x, hx => by simp at hx; simp [hx]
  | y :: z :: l, _, hp, x, hx => by
    rw [List.getLast_cons (by simp)]
    have h2 := List.pairwise_cons.1 hp
    rcases List.mem_cons.1 hx with rfl | hx
    · exact h2.1 _ (List.getLast_mem _)
    · exact last_max (z :: l) (by simp) h2.2 x hx

/-- what may come -/
def rightT (t : Tm) (f n : Int) : Bool := shapedT t && decide (looT t 0 ≤ f) && (colT t 6 7).all fun x => decide (x < n)
theorem ev_Right (t : Tm) (f n : Int) (ho : t.Ok) : Evt (fun q => e41 q t f n) (rightT t f n) := by
  simp only [e41]
  refine (ev_Shaped t ho).bind ?_
  unfold rightT
  by_cases h : shapedT t = true
  · have hs := shapedT_spec h
    have hlen := col_len t 6 7
    refine Evt.ifT h ((ev_loose t 0 hs.2.2 (by omega) (by omega)).bind ?_)
    rw [h]
    by_cases h2 : looT t 0 > f
    · exact Evt.ifT (by simpa using h2) (Evt.ret.eq (by simp; omega))
    · refine Evt.ifF (by simpa using h2) ((ev_Entries t ho).bind ?_)
      have h2' : decide (looT t 0 ≤ f) = true := by simp; omega
      rw [h2']
      unfold numsT
      rw [if_pos h]
      have hr := rise_len (colT t 6 7)
      by_cases h3 : rise (colT t 6 7) = []
      · refine Evt.ifT (by rw [h3]; rfl) (Evt.ret.eq ?_)
        symm
        simp only [Bool.true_and, List.all_eq_true]
        intro x hx
        rw [← mem_rise, h3] at hx; cases hx
      · have hpos : 0 < (rise (colT t 6 7)).length := List.length_pos_iff.2 h3
        refine Evt.ifF (by simp; omega) (Evt.pure (a := (rise (colT t 6 7)).getLast h3) ?_ (Evt.ret.eq ?_))
        · rw [w64_id (by omega) (by omega)]
          unfold gidx
          rw [if_pos (by omega), List.getLast_eq_getElem, show ((rise (colT t 6 7)).length - 1 : Int).toNat = (rise (colT t 6 7)).length - 1 by omega]
          exact List.getElem?_eq_getElem _
        · have hm := last_max _ h3 (rise_sorted _)
          rw [Bool.eq_iff_iff]
          simp only [decide_eq_true_eq, Bool.true_and, List.all_eq_true]
          constructor
          · intro h4 x hx
            have := hm x ((mem_rise x _).2 hx)
            omega
          · intro h4
            exact h4 _ ((mem_rise _ _).1 (List.getLast_mem h3))
  · exact Evt.ifF (by simpa using h) (Evt.ret.eq (by simp [h]))
end Go.Proofs.YtlbmblbeccafcaaGreat

namespace Go.Proofs.YtlbmblbeccafcaaGreat
open Go Go.Ab

/- scholium/scholiumref07.Size -/
def e28L32426 : Nat → (List Tm) → Int →  Option (Int)
  | 0, _, _ => none
  | qq + 1, v3, v4 =>
    if decide ((List.length v3 : Int) > 0) = true then
      if decide (v4 ≤ 8192) = true then
        (gidx v3 (w64 ((List.length v3 : Int) - 1))) >>= fun x3 =>
        (gsl v3 0 (w64 ((List.length v3 : Int) - 1))) >>= fun x5 =>
        (gapp 40 ([] : List Tm) x5) >>= fun l7 =>
        (gsl x3.sub 0 (imin (List.length x3.sub : Int) 8193)) >>= fun x10 =>
        (gapp 40 l7 x10) >>= fun l12 =>
        e28L32426 qq l12 (w64 (v4 + 1))
      else
        some v4
    else
      some v4
def e28 (qq : Nat) (p0 : Tm) : Option (Int) :=
  e28L32426 qq [p0] 0
def g28L32426E0 (j : Nat → Value) (v3 : List Tm) (v4 : Int) : List AV := sp j 39 0 [(3, .sl (flat tmCells v3) (List.length v3) .full), (4, ai v4)]
def g28L32426S0 (v3 : List Tm) (v4 : Int) : LSt := ⟨[], 0, [], 0, []⟩
def g28L32426E1 (j : Nat → Value) (v3 : List Tm) (v4 : Int) : List AV := sp j 39 0 [(3, .sl (flat tmCells v3) (List.length v3) (.st 0 3)), (4, ai v4)]
def g28L32426S1 (v3 : List Tm) (v4 : Int) : LSt := ⟨[], 0, [0], 1, []⟩
theorem q28 : Tryz.prog.funcs[28]? = some Tryz.f28 ∧ Tryz.f28.body.isNone = false := ⟨Tryz.func28, by kernel_rfl⟩
theorem k28 {p0 : Tm} {r : Int} (h : CTri Tryz.prog 28 [] [tmA p0] (ai r) [] 0) : CT Tryz.prog 28 [] [tmA p0] (ai r) [] 0 := ⟨h, ⟨⟨trivial, trivial, ⟨trivial, dT _⟩, trivial⟩, trivial⟩, forall_nil, trivial, forall_nil⟩
theorem l28L32426 : ∀ qq : Nat, (∀ (v3 : List Tm) (v4 : Int) (r : Int), e28L32426 qq v3 v4 = some r → (∀ j, Dl Tryz.prog 0 (inn (inn (lft (rgt (rgt (rgt (bod Tryz.f28))))))) (g28L32426E0 j v3 v4) (g28L32426S0 v3 v4) (frameQ Tryz.prog 0 (FinQ Tryz.prog 0 Tryz.f28 (ai r) [] 0) [.blk 0, .seq (rgt (rgt (rgt (rgt (bod Tryz.f28)))))])) ∧ (∀ j, Dl Tryz.prog 0 (inn (inn (lft (rgt (rgt (rgt (bod Tryz.f28))))))) (g28L32426E1 j v3 v4) (g28L32426S1 v3 v4) (frameQ Tryz.prog 0 (FinQ Tryz.prog 0 Tryz.f28 (ai r) [] 0) [.blk 0, .seq (rgt (rgt (rgt (rgt (bod Tryz.f28)))))]))) := by
  intro qq
  induction qq with
  | zero =>
    exact fun _ _ _ h => nn h
  | succ qq ih =>
    intro v3 v4 r h
    rw [e28L32426] at h
    refine ⟨?_, ?_⟩
    · rcases spl h with ⟨h1, h⟩ | ⟨h1, h⟩
      · have k := oB 1 h1 o0
        rcases spl h with ⟨h2, h⟩ | ⟨h2, h⟩
        · obtain ⟨x3, h4, h⟩ := obind h
          obtain ⟨x5, h6, h⟩ := obind h
          obtain ⟨l7, h8, h⟩ := obind h
          have k := oF 5 (slToO22 (o := .full) h6) <| oA 2 (ix22 (o := .full) h4) <| oB 0 h2 k
          by_cases h9 : List.length x5 = 0
          · obtain ⟨x10, h11, h⟩ := obind h
            obtain ⟨l12, h13, h⟩ := obind h
            have k := oA 4 (slTo22 h11) <| oP 0 (apN22 h8 h9) k
            by_cases h14 : List.length x10 = 0
            · exact fun j => lH 1 [] [] [] [3, 4] (oD (dT l12) <| oP 0 (apN22 h13 h14) k) ((ih _ _ _ h).1) (fun j => by kernel_rfl)
            · exact fun j => lH 1 [] [] [0] [3, 4] (oD (dT l12) <| oP 0 (apS22 h13 h14) k) ((ih _ _ _ h).2) (fun j => by kernel_rfl)
          · obtain ⟨x10, h11, h⟩ := obind h
            obtain ⟨l12, h13, h⟩ := obind h
            have k := oA 4 (slTo22 h11) <| oP 0 (apS22 h8 h9) k
            by_cases h14 : List.length x10 = 0
            · exact fun j => lH 1 [] [] [0] [3, 4] (oD (dT l12) <| oP 0 (apN22 h13 h14) k) ((ih _ _ _ h).2) (fun j => by kernel_rfl)
            · exact fun j => lH 1 [] [] [1] [3, 4] (oD (dT l12) <| oP 0 (apS22 h13 h14) k) ((ih _ _ _ h).2) (fun j => by kernel_rfl)
        · obtain rfl := sj h
          exact fun j => lF 0 [] (oB 0 h2 k) (by kernel_rfl)
      · obtain rfl := sj h
        exact fun j => lF 0 [] (oB 1 h1 o0) (by kernel_rfl)
    · rcases spl h with ⟨h1, h⟩ | ⟨h1, h⟩
      · have k := oB 1 h1 o0
        rcases spl h with ⟨h2, h⟩ | ⟨h2, h⟩
        · obtain ⟨x3, h4, h⟩ := obind h
          obtain ⟨x5, h6, h⟩ := obind h
          obtain ⟨l7, h8, h⟩ := obind h
          have k := oF 5 (slToO22 (o := (.st 0 3)) h6) <| oA 2 (ix22 (o := (.st 0 3)) h4) <| oB 0 h2 k
          by_cases h9 : List.length x5 = 0
          · obtain ⟨x10, h11, h⟩ := obind h
            obtain ⟨l12, h13, h⟩ := obind h
            have k := oA 4 (slTo22 h11) <| oP 0 (apN22 h8 h9) k
            by_cases h14 : List.length x10 = 0
            · exact fun j => lH 1 [] [] [] [3, 4] (oD (dT l12) <| oP 0 (apN22 h13 h14) k) ((ih _ _ _ h).1) (fun j => by kernel_rfl)
            · exact fun j => lH 1 [] [] [1] [3, 4] (oD (dT l12) <| oP 0 (apS22 h13 h14) k) ((ih _ _ _ h).2) (fun j => by kernel_rfl)
          · obtain ⟨x10, h11, h⟩ := obind h
            obtain ⟨l12, h13, h⟩ := obind h
            have k := oA 4 (slTo22 h11) <| oP 0 (apS22 h8 h9) k
            by_cases h14 : List.length x10 = 0
            · exact fun j => lH 1 [] [] [1] [3, 4] (oD (dT l12) <| oP 0 (apN22 h13 h14) k) ((ih _ _ _ h).2) (fun j => by kernel_rfl)
            · exact fun j => lH 1 [] [] [2] [3, 4] (oD (dT l12) <| oP 0 (apS22 h13 h14) k) ((ih _ _ _ h).2) (fun j => by kernel_rfl)
        · obtain rfl := sj h
          exact fun j => lF 0 [] (oB 0 h2 k) (by kernel_rfl)
      · obtain rfl := sj h
        exact fun j => lF 0 [] (oB 1 h1 o0) (by kernel_rfl)
theorem c28 {qq : Nat} {p0 : Tm} {r : Int} (h : e28 qq p0 = some r) : CT Tryz.prog 28 [] [tmA p0] (ai r) [] 0 := by
  unfold e28 at h
  exact k28 (tH q28 0 [] [] [] [3, 4] (oD (dT [p0]) <| oS 1 (obLitR tm_eq [p0]) o0) ((l28L32426 _ _ _ _ h).1) (fun j => by kernel_rfl))
theorem mm28L32426 : ∀ qq : Nat, (∀ (v3 : List Tm) (v4 : Int) (r : Int), e28L32426 qq v3 v4 = some r → e28L32426 (qq + 1) v3 v4 = some r) := by
  intro qq
  induction qq with
  | zero => exact fun _ _ _ h => nn h
  | succ qq ih =>
    have ih28L32426 := ih
    intro v3 v4 r h
    rw [e28L32426] at h ⊢
    rcases spl h with ⟨k, h⟩ | ⟨k, h⟩
    · rw [ifTe k]
      rcases spl h with ⟨k, h⟩ | ⟨k, h⟩
      · rw [ifTe k]
        obtain ⟨x3, hx, h⟩ := obind h
        refine obk hx ?_
        obtain ⟨x5, hx, h⟩ := obind h
        refine obk hx ?_
        obtain ⟨l7, hx, h⟩ := obind h
        refine obk hx ?_
        obtain ⟨x10, hx, h⟩ := obind h
        refine obk hx ?_
        obtain ⟨l12, hx, h⟩ := obind h
        refine obk hx ?_
        exact ih28L32426 _ _ _ h
      · rw [ifFe k]
        exact h
    · rw [ifFe k]
      exact h
theorem m28L32426 {qq : Nat} {v3 : List Tm} {v4 : Int} {r : Int} (h : e28L32426 qq v3 v4 = some r) : e28L32426 (qq + 1) v3 v4 = some r := mm28L32426 _ _ _ _ h
theorem m28 {qq : Nat} {p0 : Tm} {r : Int} (h : e28 qq p0 = some r) : e28 (qq + 1) p0 = some r := by
  unfold e28 at h ⊢
  exact m28L32426 h

end Go.Proofs.YtlbmblbeccafcaaGreat

namespace Go.Proofs.YtlbmblbeccafcaaGreat
open Go Go.Ab

/- scholium/scholiumref07.Depth -/
mutual
def e110L18976 : Nat → (List Tm) → Int →  Option (Int)
  | 0, _, _ => none
  | qq + 1, v3, v4 =>
    if decide ((List.length v3 : Int) > 0) = true then
      if decide (v4 < 129) = true then
        e110L3844 qq v3 v4 [] 0
      else
        some v4
    else
      some v4
def e110L3844 : Nat → (List Tm) → Int → (List Tm) → Int →  Option (Int)
  | 0, _, _, _, _ => none
  | qq + 1, v3, v4, v5, v6 =>
    if decide (v6 < (List.length v3 : Int)) = true then
      (gidx v3 v6) >>= fun x7 =>
      (gapp 40 v5 x7.sub) >>= fun l9 =>
      e110L3844 qq v3 v4 l9 (w64 (v6 + 1))
    else
      e110L18976 qq v5 (w64 (v4 + 1))
end
def e110 (qq : Nat) (p0 : Tm) : Option (Int) :=
  (e28 qq p0) >>= fun r1 =>
  if decide (r1 > 8192) = true then
    some 129
  else
    e110L18976 qq [p0] 0
def g110L18976E0 (j : Nat → Value) (v3 : List Tm) (v4 : Int) : List AV := sp j 37 0 [(3, .sl (flat tmCells v3) (List.length v3) .full), (4, ai v4)]
def g110L18976S0 (v3 : List Tm) (v4 : Int) : LSt := ⟨[], 0, [], 0, []⟩
def g110L18976E1 (j : Nat → Value) (v3 : List Tm) (v4 : Int) : List AV := sp j 37 0 [(3, .sl (flat tmCells v3) (List.length v3) (.st 0 3)), (4, ai v4)]
def g110L18976S1 (v3 : List Tm) (v4 : Int) : LSt := ⟨[], 0, [0], 1, []⟩
def g110L3844E0 (j : Nat → Value) (v3 : List Tm) (v4 : Int) (v5 : List Tm) (v6 : Int) : List AV := sp j 37 0 [(3, .sl (flat tmCells v3) (List.length v3) .full), (4, ai v4), (5, .sl (flat tmCells v5) (List.length v5) (.st 0 3)), (6, ai v6)]
def g110L3844S0 (v3 : List Tm) (v4 : Int) (v5 : List Tm) (v6 : Int) : LSt := ⟨[], 0, [0], 1, []⟩
def g110L3844E1 (j : Nat → Value) (v3 : List Tm) (v4 : Int) (v5 : List Tm) (v6 : Int) : List AV := sp j 37 0 [(3, .sl (flat tmCells v3) (List.length v3) (.st 0 3)), (4, ai v4), (5, .sl (flat tmCells v5) (List.length v5) (.st 1 3)), (6, ai v6)]
def g110L3844S1 (v3 : List Tm) (v4 : Int) (v5 : List Tm) (v6 : Int) : LSt := ⟨[], 0, [0, 1], 2, []⟩
theorem q110 : Tryz.prog.funcs[110]? = some Tryz.f110 ∧ Tryz.f110.body.isNone = false := ⟨Tryz.func110, by kernel_rfl⟩
theorem k110 {p0 : Tm} {r : Int} (h : CTri Tryz.prog 110 [] [tmA p0] (ai r) [] 0) : CT Tryz.prog 110 [] [tmA p0] (ai r) [] 0 := ⟨h, ⟨⟨trivial, trivial, ⟨trivial, dT _⟩, trivial⟩, trivial⟩, forall_nil, trivial, forall_nil⟩
theorem a110L18976_110L3844 : ∀ qq : Nat, (∀ (v3 : List Tm) (v4 : Int) (r : Int), e110L18976 qq v3 v4 = some r → (∀ j, Dl Tryz.prog 0 (inn (inn (lft (rgt (rgt (rgt (rgt (bod Tryz.f110)))))))) (g110L18976E0 j v3 v4) (g110L18976S0 v3 v4) (frameQ Tryz.prog 0 (FinQ Tryz.prog 0 Tryz.f110 (ai r) [] 0) [.blk 0, .seq (rgt (rgt (rgt (rgt (rgt (bod Tryz.f110))))))])) ∧ (∀ j, Dl Tryz.prog 0 (inn (inn (lft (rgt (rgt (rgt (rgt (bod Tryz.f110)))))))) (g110L18976E1 j v3 v4) (g110L18976S1 v3 v4) (frameQ Tryz.prog 0 (FinQ Tryz.prog 0 Tryz.f110 (ai r) [] 0) [.blk 0, .seq (rgt (rgt (rgt (rgt (rgt (bod Tryz.f110))))))]))) ∧ (∀ (v3 : List Tm) (v4 : Int) (v5 : List Tm) (v6 : Int) (r : Int), e110L3844 qq v3 v4 v5 v6 = some r → (∀ j, Dl Tryz.prog 0 (inn (inn (rgt (lft (rgt (inn (rgt (inn (inn (lft (rgt (rgt (rgt (rgt (bod Tryz.f110))))))))))))))) (g110L3844E0 j v3 v4 v5 v6) (g110L3844S0 v3 v4 v5 v6) (frameQ Tryz.prog 0 (FinQ Tryz.prog 0 Tryz.f110 (ai r) [] 0) [.blk 2, .seq (rgt (rgt (inn (rgt (inn (inn (lft (rgt (rgt (rgt (rgt (bod Tryz.f110)))))))))))), .blk 1, .loop (inn (inn (lft (rgt (rgt (rgt (rgt (bod Tryz.f110)))))))), .blk 0, .seq (rgt (rgt (rgt (rgt (rgt (bod Tryz.f110))))))])) ∧ (∀ j, Dl Tryz.prog 0 (inn (inn (rgt (lft (rgt (inn (rgt (inn (inn (lft (rgt (rgt (rgt (rgt (bod Tryz.f110))))))))))))))) (g110L3844E1 j v3 v4 v5 v6) (g110L3844S1 v3 v4 v5 v6) (frameQ Tryz.prog 0 (FinQ Tryz.prog 0 Tryz.f110 (ai r) [] 0) [.blk 2, .seq (rgt (rgt (inn (rgt (inn (inn (lft (rgt (rgt (rgt (rgt (bod Tryz.f110)))))))))))), .blk 1, .loop (inn (inn (lft (rgt (rgt (rgt (rgt (bod Tryz.f110)))))))), .blk 0, .seq (rgt (rgt (rgt (rgt (rgt (bod Tryz.f110))))))]))) := by
  intro qq
  induction qq with
  | zero =>
    exact ⟨fun _ _ _ h => nn h, fun _ _ _ _ _ h => nn h⟩
  | succ qq ih =>
    obtain ⟨ih110L18976, ih110L3844⟩ := ih
    refine ⟨?_, ?_⟩
    · intro v3 v4 r h
      rw [e110L18976] at h
      refine ⟨?_, ?_⟩
      · rcases spl h with ⟨h4, h⟩ | ⟨h4, h⟩
        · have k := oB 1 h4 o0
          rcases spl h with ⟨h5, h⟩ | ⟨h5, h⟩
          · exact fun j => lH 1 [(none, 5, 3)] [] [0] [3, 4, 5, 6] (oD (dT ([] : List Tm)) <| oD (dT v3) <| oB 0 h5 k) ((ih110L3844 _ _ _ _ _ h).1) (fun j => by kernel_rfl)
          · obtain rfl := sj h
            exact fun j => lF 0 [] (oB 0 h5 k) (by kernel_rfl)
        · obtain rfl := sj h
          exact fun j => lF 0 [] (oB 1 h4 o0) (by kernel_rfl)
      · rcases spl h with ⟨h4, h⟩ | ⟨h4, h⟩
        · have k := oB 1 h4 o0
          rcases spl h with ⟨h5, h⟩ | ⟨h5, h⟩
          · exact fun j => lH 1 [(none, 5, 3)] [] [0, 1] [3, 4, 5, 6] (oD (dT ([] : List Tm)) <| oD (dT v3) <| oB 0 h5 k) ((ih110L3844 _ _ _ _ _ h).2) (fun j => by kernel_rfl)
          · obtain rfl := sj h
            exact fun j => lF 0 [] (oB 0 h5 k) (by kernel_rfl)
        · obtain rfl := sj h
          exact fun j => lF 0 [] (oB 1 h4 o0) (by kernel_rfl)
    · intro v3 v4 v5 v6 r h
      rw [e110L3844] at h
      refine ⟨?_, ?_⟩
      · rcases spl h with ⟨h6, h⟩ | ⟨h6, h⟩
        · obtain ⟨x7, h8, h⟩ := obind h
          obtain ⟨l9, h10, h⟩ := obind h
          have k := oA 0 (ix22 (o := .full) h8) <| oB 1 h6 o0
          by_cases h11 : List.length x7.sub = 0
          · exact fun j => lH 1 [] [] [0] [3, 4, 5, 6] (oD (dT l9) <| oD (dT v3) <| oP 1 (apN22 h10 h11) k) ((ih110L3844 _ _ _ _ _ h).1) (fun j => by kernel_rfl)
          · exact fun j => lH 1 [] [] [1] [3, 4, 5, 6] (oD (dT l9) <| oD (dT v3) <| oP 1 (apS22 h10 h11) k) ((ih110L3844 _ _ _ _ _ h).1) (fun j => by kernel_rfl)
        · exact fun j => lH 1 [] [] [0] [3, 4] (oD (dT v5) <| oB 1 h6 o0) ((ih110L18976 _ _ _ h).2) (fun j => by kernel_rfl)
      · rcases spl h with ⟨h6, h⟩ | ⟨h6, h⟩
        · obtain ⟨x7, h8, h⟩ := obind h
          obtain ⟨l9, h10, h⟩ := obind h
          have k := oA 0 (ix22 (o := (.st 0 3)) h8) <| oB 1 h6 o0
          by_cases h11 : List.length x7.sub = 0
          · exact fun j => lH 1 [] [] [0, 1] [3, 4, 5, 6] (oD (dT l9) <| oD (dT v3) <| oP 1 (apN22 h10 h11) k) ((ih110L3844 _ _ _ _ _ h).2) (fun j => by kernel_rfl)
          · exact fun j => lH 1 [] [] [0, 2] [3, 4, 5, 6] (oD (dT l9) <| oD (dT v3) <| oP 1 (apS22 h10 h11) k) ((ih110L3844 _ _ _ _ _ h).2) (fun j => by kernel_rfl)
        · exact fun j => lH 1 [] [] [1] [3, 4] (oD (dT v5) <| oB 1 h6 o0) ((ih110L18976 _ _ _ h).2) (fun j => by kernel_rfl)
theorem c110 {qq : Nat} {p0 : Tm} {r : Int} (h : e110 qq p0 = some r) : CT Tryz.prog 110 [] [tmA p0] (ai r) [] 0 := by
  unfold e110 at h
  obtain ⟨r1, h2, h⟩ := obind h
  have k := oC 1 [] (c28 h2) o0
  rcases spl h with ⟨h3, h⟩ | ⟨h3, h⟩
  · obtain rfl := sj h
    exact k110 (tF q110 0 [] (oB 0 h3 k) (by kernel_rfl))
  · exact k110 (tH q110 0 [] [] [] [3, 4] (oD (dT [p0]) <| oS 1 (obLitR tm_eq [p0]) <| oB 0 h3 k) ((((a110L18976_110L3844 _).1) _ _ _ h).1) (fun j => by kernel_rfl))
theorem mm110L18976_110L3844 : ∀ qq : Nat, (∀ (v3 : List Tm) (v4 : Int) (r : Int), e110L18976 qq v3 v4 = some r → e110L18976 (qq + 1) v3 v4 = some r) ∧ (∀ (v3 : List Tm) (v4 : Int) (v5 : List Tm) (v6 : Int) (r : Int), e110L3844 qq v3 v4 v5 v6 = some r → e110L3844 (qq + 1) v3 v4 v5 v6 = some r) := by
  intro qq
  induction qq with
  | zero => exact ⟨fun _ _ _ h => nn h, fun _ _ _ _ _ h => nn h⟩
  | succ qq ih =>
    obtain ⟨ih110L18976, ih110L3844⟩ := ih
    refine ⟨?_, ?_⟩
    · intro v3 v4 r h
      rw [e110L18976] at h ⊢
      rcases spl h with ⟨k, h⟩ | ⟨k, h⟩
      · rw [ifTe k]
        rcases spl h with ⟨k, h⟩ | ⟨k, h⟩
        · rw [ifTe k]
          exact ih110L3844 _ _ _ _ _ h
        · rw [ifFe k]
          exact h
      · rw [ifFe k]
        exact h
    · intro v3 v4 v5 v6 r h
      rw [e110L3844] at h ⊢
      rcases spl h with ⟨k, h⟩ | ⟨k, h⟩
      · rw [ifTe k]
        obtain ⟨x7, hx, h⟩ := obind h
        refine obk hx ?_
        obtain ⟨l9, hx, h⟩ := obind h
        refine obk hx ?_
        exact ih110L3844 _ _ _ _ _ h
      · rw [ifFe k]
        exact ih110L18976 _ _ _ h
theorem m110L18976 {qq : Nat} {v3 : List Tm} {v4 : Int} {r : Int} (h : e110L18976 qq v3 v4 = some r) : e110L18976 (qq + 1) v3 v4 = some r := (mm110L18976_110L3844 _).1 _ _ _ h
theorem m110L3844 {qq : Nat} {v3 : List Tm} {v4 : Int} {v5 : List Tm} {v6 : Int} {r : Int} (h : e110L3844 qq v3 v4 v5 v6 = some r) : e110L3844 (qq + 1) v3 v4 v5 v6 = some r := (mm110L18976_110L3844 _).2 _ _ _ _ _ h
theorem m110 {qq : Nat} {p0 : Tm} {r : Int} (h : e110 qq p0 = some r) : e110 (qq + 1) p0 = some r := by
  unfold e110 at h ⊢
  obtain ⟨r1, hx, h⟩ := obind h
  refine obk (m28 hx) ?_
  rcases spl h with ⟨k, h⟩ | ⟨k, h⟩
  · rw [ifTe k]
    exact h
  · rw [ifFe k]
    exact m110L18976 h

end Go.Proofs.YtlbmblbeccafcaaGreat

namespace Go.Proofs.YtlbmblbeccafcaaGreat
open Go Go.Ab

theorem nodesL_app : ∀ a b : List Tm, nodesL (a ++ b) = nodesL a + nodesL b
  | [], b => by simp [nodesL]
  | t :: a, b => by simp only [List.cons_append, nodesL, nodesL_app a b]; omega
theorem nodesL_len : ∀ l : List Tm, l.length ≤ nodesL l
  | [] => by simp [nodesL]
  | t :: l => by rw [nodesL]; have := nodesL_len l; have := nodes_pos t; simp; omega
theorem nodes_sub (t : Tm) : t.nodes = 1 + nodesL t.sub := by cases t; rw [Tm.nodes, Tm.sub]
theorem high_sub (t : Tm) : t.high = 1 + highL t.sub := by cases t; rw [Tm.high, Tm.sub]
theorem highL_app : ∀ a b : List Tm, highL (a ++ b) = max (highL a) (highL b)
  | [], b => by simp [highL]
  | t :: a, b => by simp only [List.cons_append, highL, highL_app a b]; omega
theorem gsl_ok {α : Type} {l : List α} {a b : Nat} (h1 : a ≤ b) (h2 : b ≤ l.length) : gsl l (a : Int) (b : Int) = some ((l.drop a).take (b - a)) := by
  unfold gsl
  rw [if_pos (by omega), show ((b : Int) - (a : Int)).toNat = b - a by omega, show (a : Int).toNat = a by omega]
theorem gidx_last {α : Type} (l : List α) (x : α) : gidx (l ++ [x]) (l.length : Int) = some x := by
  unfold gidx
  rw [if_pos (by omega)]; simp

/-- as the reference counts -/
theorem ev_rSizeL : ∀ (m h : Nat) (todo : List Tm), h + m = 8193 → todo.length ≤ 1 + h * 8193 → Evt (fun q => e28L32426 q todo (h : Int)) ((min (h + nodesL todo) 8193 : Nat) : Int) := by
  intro m
  induction m with
  | zero =>
    intro h todo hm hl
    refine Evt.succ ?_
    simp only [e28L32426]
    have : h = 8193 := by omega
    subst this
    rcases todo with _ | ⟨x, todo⟩
    · exact Evt.ifF (by simp) (Evt.ret.eq (by simp))
    · refine Evt.ifT (by simp <;> omega) (Evt.ifF (by simp) (Evt.ret.eq ?_))
      have : min (8193 + nodesL (x :: todo)) 8193 = 8193 := by omega
      rw [this]
  | succ m ih =>
    intro h todo hm hl
    refine Evt.succ ?_
    simp only [e28L32426]
    rcases List.eq_nil_or_concat todo with rfl | ⟨ini, x, rfl⟩
    · refine Evt.ifF (by simp) (Evt.ret.eq ?_)
      have : min (h + nodesL []) 8193 = h := by rw [nodesL]; omega
      rw [this]
    · simp only [List.concat_eq_append] at hl ⊢
      have hlen : (ini ++ [x]).length = ini.length + 1 := by simp
      have hb : h * 8193 ≤ 8192 * 8193 := Nat.mul_le_mul_right _ (by omega)
      have e1 : w64 (((ini ++ [x]).length : Int) - 1) = (ini.length : Int) := by rw [w64_id (by omega) (by omega), hlen]; omega
      refine Evt.ifT (by simp <;> omega) (Evt.ifT (by simp <;> omega) ?_)
      rw [e1]
      refine Evt.pure (gidx_last ini x) ?_
      have e2 : gsl (ini ++ [x]) 0 (ini.length : Int) = some ini := by
        have := gsl_ok (l := ini ++ [x]) (a := 0) (b := ini.length) (by omega) (by omega)
        simpa using this
      refine Evt.pure e2 (Evt.pure (gapp_ok (by simp <;> omega)) ?_)
      have e3 : imin (x.sub.length : Int) 8193 = ((min x.sub.length 8193 : Nat) : Int) := by unfold imin; split <;> omega
      rw [e3]
      have e4 := gsl_ok (l := x.sub) (a := 0) (b := min x.sub.length 8193) (by omega) (by omega)
      refine Evt.pure (by simpa using e4) (Evt.pure (gapp_ok (by simp <;> omega)) ?_)
      rw [w64_nat h (by omega)]
      refine (ih (h + 1) _ (by omega) (by simp <;> omega)).eq ?_
      have hn := nodes_sub x
      simp only [List.nil_append, nodesL_app, nodesL, Nat.add_zero]
      by_cases hs : x.sub.length ≤ 8193
      · rw [show min x.sub.length 8193 = x.sub.length by omega, List.take_length]
        omega
      · have h1 := nodesL_len (x.sub.take (min x.sub.length 8193))
        have h2 := nodesL_len x.sub
        simp only [List.length_take] at h1
        omega
theorem ev_rSize (t : Tm) : Evt (fun q => e28 q t) ((min t.nodes 8193 : Nat) : Int) := by
  simp only [e28]
  refine (ev_rSizeL 8193 0 [t] (by omega) (by simp)).eq ?_
  simp [nodesL]

theorem flat_high : ∀ l : List Tm, l ≠ [] → highL l = 1 + highL (l.flatMap Tm.sub)
  | [t], _ => by simp [highL, high_sub t]
  | t :: u :: l, _ => by
    have h1 := flat_high (u :: l) (by simp)
    have h2 : (t :: u :: l).flatMap Tm.sub = t.sub ++ (u :: l).flatMap Tm.sub := rfl
    rw [highL, h1, h2, highL_app, high_sub t]; omega
theorem flat_nodes : ∀ l : List Tm, nodesL l = l.length + nodesL (l.flatMap Tm.sub)
  | [] => by simp [nodesL]
  | t :: l => by rw [nodesL, List.flatMap_cons, nodesL_app, flat_nodes l, nodes_sub t]; simp; omega
theorem ev_rDepthL : ∀ (m d : Nat) (l : List Tm), d + m = 129 → nodesL l ≤ 8192 → Evt (fun q => e110L18976 q l (d : Int)) ((min (d + highL l) 129 : Nat) : Int) := by
  intro m
  induction m with
  | zero =>
    intro d l hm hl
    refine Evt.succ ?_
    simp only [e110L18976]
    have : d = 129 := by omega
    subst this
    rcases l with _ | ⟨x, l⟩
    · exact Evt.ifF (by simp) (Evt.ret.eq (by simp))
    · refine Evt.ifT (by simp <;> omega) (Evt.ifF (by simp) (Evt.ret.eq ?_))
      have : min (129 + highL (x :: l)) 129 = 129 := by omega
      rw [this]
  | succ m ih =>
    intro d l hm hl
    refine Evt.succ ?_
    simp only [e110L18976]
    by_cases h : l = []
    · subst h
      refine Evt.ifF (by simp) (Evt.ret.eq ?_)
      have : min (d + highL []) 129 = d := by rw [highL]; omega
      rw [this]
    · have hpos : 0 < l.length := List.length_pos_iff.2 h
      refine Evt.ifT (by simp <;> omega) (Evt.ifT (by simp <;> omega) ?_)
      have hfn := flat_nodes l
      -- the next level
      have key : ∀ (r : List Tm) (v : Nat) (acc : List Tm), l.drop v = r → acc.length + nodesL (r.flatMap Tm.sub) ≤ 8192 → Evt (fun q => e110L3844 q l (d : Int) acc (v : Int)) ((min (d + 1 + highL (acc ++ r.flatMap Tm.sub)) 129 : Nat) : Int) ∨ nodesL (acc ++ r.flatMap Tm.sub) > 8192 := by
        intro r
        induction r with
        | nil =>
          intro v acc hd ha
          by_cases hn : nodesL acc ≤ 8192
          · refine .inl (Evt.succ ?_)
            simp only [e110L3844]
            refine Evt.ifF (drop_nil hd) ?_
            rw [w64_nat d (by omega)]
            refine (ih (d + 1) acc (by omega) hn).eq (by simp)
          · exact .inr (by simp <;> omega)
        | cons x r ihr =>
          intro v acc hd ha
          have hlt := drop_lt hd
          have hll := nodesL_len l
          have hsl := nodesL_len x.sub
          rw [List.flatMap_cons, nodesL_app] at ha
          rcases ihr (v + 1) (acc ++ x.sub) (drop_next hd) (by simp <;> omega) with h1 | h1
          · refine .inl (Evt.succ ?_)
            simp only [e110L3844]
            refine Evt.ifT (drop_dec hd) (Evt.pure (drop_idx hd) (Evt.pure (gapp_ok (by omega)) ?_))
            rw [w64_nat v (by omega)]
            refine h1.eq ?_
            rw [List.flatMap_cons, List.append_assoc]
          · refine .inr ?_
            rw [List.flatMap_cons, ← List.append_assoc]; exact h1
      rcases key l 0 [] rfl (by simp <;> omega) with h1 | h1
      · refine h1.eq ?_
        rw [flat_high l h]; simp; omega
      · simp only [List.nil_append] at h1; omega
/-- as the reference tells it -/
def rdepT (t : Tm) : Int := if t.nodes ≤ 8192 then ((min t.high 129 : Nat) : Int) else 129
theorem ev_rDepth (t : Tm) : Evt (fun q => e110 q t) (rdepT t) := by
  simp only [e110]
  refine (ev_rSize t).bind ?_
  unfold rdepT
  by_cases h : t.nodes ≤ 8192
  · rw [if_pos h]
    refine Evt.ifF (by simp <;> omega) ((ev_rDepthL 129 0 [t] (by omega) (by simpa [nodesL] using h)).eq ?_)
    simp [highL]
  · rw [if_neg h]
    exact Evt.ifT (by simp <;> omega) Evt.ret

theorem tailG {p : Tm} {c : Nat} {m : Int} {X : Nat → Option Bool} {r : Bool} (h : p.sub.length = c → 0 ≤ p.n → p.n ≤ m → Evt X r) :
    Evt (fun q => if ((List.length p.sub : Int) != (c : Int)) = true then some false else if decide (p.n < 0) = true then some false else if decide (p.n > m) = true then some false else X q)
      (decide (p.sub.length = c) && decide (0 ≤ p.n) && decide (p.n ≤ m) && r) := by
  by_cases h1 : p.sub.length = c
  · refine Evt.ifF (by simp <;> omega) ?_
    by_cases h2 : p.n < 0
    · exact Evt.ifT (by simpa using h2) (Evt.ret.eq (by simp <;> omega))
    · refine Evt.ifF (by simpa using h2) ?_
      by_cases h3 : p.n > m
      · exact Evt.ifT (by simpa using h3) (Evt.ret.eq (by simp <;> omega))
      · refine Evt.ifF (by simpa using h3) ((h h1 (by omega) (by omega)).eq ?_)
        simp [h1, show 0 ≤ p.n by omega, show p.n ≤ m by omega]
  · exact Evt.ifT (by simp <;> omega) (Evt.ret.eq (by simp [h1]))
end Go.Proofs.YtlbmblbeccafcaaGreat

namespace Go.Proofs.YtlbmblbeccafcaaGreat
open Go Go.Ab

/- scholium/scholiumref07.good -/
mutual
def e111 : Nat → Tm →  Option (Bool)
  | 0, _ => none
  | qq + 1, p0 =>
    if (p0.k == 1) = true then
      if ((List.length p0.sub : Int) != 0) = true then
        some false
      else
        if decide (p0.n < 0) = true then
          some false
        else
          if decide (p0.n > 1048576) = true then
            some false
          else
            if (p0.k == 7) = true then
              (gidx p0.sub 0) >>= fun x6 =>
              if (x6.k != 2) = true then
                some false
              else
                e111L9584 qq p0 0 0
            else
              e111L9584 qq p0 0 0
    else
      if (p0.k == 6) = true then
        if ((List.length p0.sub : Int) != 0) = true then
          some false
        else
          if decide (p0.n < 0) = true then
            some false
          else
            if decide (p0.n > 1048576) = true then
              some false
            else
              if (p0.k == 7) = true then
                (gidx p0.sub 0) >>= fun x14 =>
                if (x14.k != 2) = true then
                  some false
                else
                  e111L9584 qq p0 0 0
              else
                e111L9584 qq p0 0 0
      else
        if (p0.k == 8) = true then
          if ((List.length p0.sub : Int) != 0) = true then
            some false
          else
            if decide (p0.n < 0) = true then
              some false
            else
              if decide (p0.n > 1048576) = true then
                some false
              else
                if (p0.k == 7) = true then
                  (gidx p0.sub 0) >>= fun x22 =>
                  if (x22.k != 2) = true then
                    some false
                  else
                    e111L9584 qq p0 0 0
                else
                  e111L9584 qq p0 0 0
        else
          if (p0.k == 2) = true then
            if ((List.length p0.sub : Int) != 0) = true then
              some false
            else
              if decide (p0.n < 0) = true then
                some false
              else
                if decide (p0.n > 7) = true then
                  some false
                else
                  if (p0.k == 7) = true then
                    (gidx p0.sub 0) >>= fun x30 =>
                    if (x30.k != 2) = true then
                      some false
                    else
                      e111L9584 qq p0 0 0
                  else
                    e111L9584 qq p0 0 0
          else
            if (p0.k == 3) = true then
              if ((List.length p0.sub : Int) != 2) = true then
                some false
              else
                if decide (p0.n < 0) = true then
                  some false
                else
                  if decide (p0.n > 0) = true then
                    some false
                  else
                    if (p0.k == 7) = true then
                      (gidx p0.sub 0) >>= fun x38 =>
                      if (x38.k != 2) = true then
                        some false
                      else
                        e111L9584 qq p0 2 0
                    else
                      e111L9584 qq p0 2 0
            else
              if (p0.k == 4) = true then
                if ((List.length p0.sub : Int) != 2) = true then
                  some false
                else
                  if decide (p0.n < 0) = true then
                    some false
                  else
                    if decide (p0.n > 0) = true then
                      some false
                    else
                      if (p0.k == 7) = true then
                        (gidx p0.sub 0) >>= fun x46 =>
                        if (x46.k != 2) = true then
                          some false
                        else
                          e111L9584 qq p0 2 0
                      else
                        e111L9584 qq p0 2 0
              else
                if (p0.k == 5) = true then
                  if ((List.length p0.sub : Int) != 2) = true then
                    some false
                  else
                    if decide (p0.n < 0) = true then
                      some false
                    else
                      if decide (p0.n > 0) = true then
                        some false
                      else
                        if (p0.k == 7) = true then
                          (gidx p0.sub 0) >>= fun x54 =>
                          if (x54.k != 2) = true then
                            some false
                          else
                            e111L9584 qq p0 2 0
                        else
                          e111L9584 qq p0 2 0
                else
                  if (p0.k == 7) = true then
                    if ((List.length p0.sub : Int) != 1) = true then
                      some false
                    else
                      if decide (p0.n < 0) = true then
                        some false
                      else
                        if decide (p0.n > 1048576) = true then
                          some false
                        else
                          (gidx p0.sub 0) >>= fun x61 =>
                          if (x61.k != 2) = true then
                            some false
                          else
                            e111L9584 qq p0 1 0
                  else
                    some false
def e111L9584 : Nat → Tm → Int → Int →  Option (Bool)
  | 0, _, _, _ => none
  | qq + 1, p0, v3, v5 =>
    if decide (v5 < v3) = true then
      (gidx p0.sub v5) >>= fun x10 =>
      (e111 qq x10) >>= fun r12 =>
      if r12 = true then
        e111L9584 qq p0 v3 (w64 (v5 + 1))
      else
        some false
    else
      some true
end
def g111L9584E0 (j : Nat → Value) (p0 : Tm) (v3 : Int) (v5 : Int) : List AV := sp j 61 0 [(1, .mp 0 0), (3, ai v3), (5, ai v5)]
def g111L9584S0 (p0 : Tm) (v3 : Int) (v5 : Int) : LSt := ⟨[(0, .cells [ai p0.k, ai p0.n, .sl (flat tmCells p0.sub) (List.length p0.sub) .no])], 1, [], 0, []⟩
theorem q111 : Tryz.prog.funcs[111]? = some Tryz.f111 ∧ Tryz.f111.body.isNone = false := ⟨Tryz.func111, by kernel_rfl⟩
theorem k111 {p0 : Tm} {r : Bool} (h : CTri Tryz.prog 111 [] [tmA p0] (ab r) [] 0) : CT Tryz.prog 111 [] [tmA p0] (ab r) [] 0 := ⟨h, ⟨⟨trivial, trivial, ⟨trivial, dT _⟩, trivial⟩, trivial⟩, forall_nil, trivial, forall_nil⟩
theorem a111_111L9584 : ∀ qq : Nat, (∀ (p0 : Tm) (r : Bool), e111 qq p0 = some r → CT Tryz.prog 111 [] [tmA p0] (ab r) [] 0) ∧ (∀ (p0 : Tm) (v3 : Int) (v5 : Int) (r : Bool), e111L9584 qq p0 v3 v5 = some r → (∀ j, Dl Tryz.prog 0 (inn (inn (rgt (lft (rgt (rgt (rgt (rgt (rgt (bod Tryz.f111)))))))))) (g111L9584E0 j p0 v3 v5) (g111L9584S0 p0 v3 v5) (frameQ Tryz.prog 0 (FinQ Tryz.prog 0 Tryz.f111 (ab r) [] 0) [.blk 1, .seq (rgt (rgt (rgt (rgt (rgt (rgt (bod Tryz.f111)))))))]))) := by
  intro qq
  induction qq with
  | zero =>
    exact ⟨fun _ _ h => nn h, fun _ _ _ _ h => nn h⟩
  | succ qq ih =>
    obtain ⟨ih111, ih111L9584⟩ := ih
    refine ⟨?_, ?_⟩
    · intro p0 r h
      rw [e111] at h
      rcases spl h with ⟨h1, h⟩ | ⟨h1, h⟩
      · have k := oB 1 h1 o0
        rcases spl h with ⟨h2, h⟩ | ⟨h2, h⟩
        · obtain rfl := sj h
          exact k111 (tF q111 0 [] (oB 2 h2 k) (by kernel_rfl))
        · have k := oB 2 h2 k
          rcases spl h with ⟨h3, h⟩ | ⟨h3, h⟩
          · obtain rfl := sj h
            exact k111 (tF q111 0 [] (oB 1 h3 k) (by kernel_rfl))
          · have k := oB 1 h3 k
            rcases spl h with ⟨h4, h⟩ | ⟨h4, h⟩
            · obtain rfl := sj h
              exact k111 (tF q111 0 [] (oB 1 h4 k) (by kernel_rfl))
            · have k := oB 1 h4 k
              rcases spl h with ⟨h5, h⟩ | ⟨h5, h⟩
              · obtain ⟨x6, h7, h⟩ := obind h
                have k := oA 1 (ix22 (o := .no) h7) <| oB 1 h5 k
                rcases spl h with ⟨h8, h⟩ | ⟨h8, h⟩
                · obtain rfl := sj h
                  exact k111 (tF q111 0 [] (oB 1 h8 k) (by kernel_rfl))
                · exact k111 (tH q111 0 [] [0] [] [1, 3, 5] (oD (dT p0.sub) <| oB 1 h8 k) (ih111L9584 _ _ _ _ h) (fun j => by kernel_rfl))
              · exact k111 (tH q111 0 [] [0] [] [1, 3, 5] (oD (dT p0.sub) <| oB 1 h5 k) (ih111L9584 _ _ _ _ h) (fun j => by kernel_rfl))
      · have k := oB 1 h1 o0
        rcases spl h with ⟨h9, h⟩ | ⟨h9, h⟩
        · have k := oB 0 h9 k
          rcases spl h with ⟨h10, h⟩ | ⟨h10, h⟩
          · obtain rfl := sj h
            exact k111 (tF q111 0 [] (oB 2 h10 k) (by kernel_rfl))
          · have k := oB 2 h10 k
            rcases spl h with ⟨h11, h⟩ | ⟨h11, h⟩
            · obtain rfl := sj h
              exact k111 (tF q111 0 [] (oB 1 h11 k) (by kernel_rfl))
            · have k := oB 1 h11 k
              rcases spl h with ⟨h12, h⟩ | ⟨h12, h⟩
              · obtain rfl := sj h
                exact k111 (tF q111 0 [] (oB 1 h12 k) (by kernel_rfl))
              · have k := oB 1 h12 k
                rcases spl h with ⟨h13, h⟩ | ⟨h13, h⟩
                · obtain ⟨x14, h15, h⟩ := obind h
                  have k := oA 1 (ix22 (o := .no) h15) <| oB 1 h13 k
                  rcases spl h with ⟨h16, h⟩ | ⟨h16, h⟩
                  · obtain rfl := sj h
                    exact k111 (tF q111 0 [] (oB 1 h16 k) (by kernel_rfl))
                  · exact k111 (tH q111 0 [] [0] [] [1, 3, 5] (oD (dT p0.sub) <| oB 1 h16 k) (ih111L9584 _ _ _ _ h) (fun j => by kernel_rfl))
                · exact k111 (tH q111 0 [] [0] [] [1, 3, 5] (oD (dT p0.sub) <| oB 1 h13 k) (ih111L9584 _ _ _ _ h) (fun j => by kernel_rfl))
        · have k := oB 0 h9 k
          rcases spl h with ⟨h17, h⟩ | ⟨h17, h⟩
          · have k := oB 0 h17 k
            rcases spl h with ⟨h18, h⟩ | ⟨h18, h⟩
            · obtain rfl := sj h
              exact k111 (tF q111 0 [] (oB 2 h18 k) (by kernel_rfl))
            · have k := oB 2 h18 k
              rcases spl h with ⟨h19, h⟩ | ⟨h19, h⟩
              · obtain rfl := sj h
                exact k111 (tF q111 0 [] (oB 1 h19 k) (by kernel_rfl))
              · have k := oB 1 h19 k
                rcases spl h with ⟨h20, h⟩ | ⟨h20, h⟩
                · obtain rfl := sj h
                  exact k111 (tF q111 0 [] (oB 1 h20 k) (by kernel_rfl))
                · have k := oB 1 h20 k
                  rcases spl h with ⟨h21, h⟩ | ⟨h21, h⟩
                  · obtain ⟨x22, h23, h⟩ := obind h
                    have k := oA 1 (ix22 (o := .no) h23) <| oB 1 h21 k
                    rcases spl h with ⟨h24, h⟩ | ⟨h24, h⟩
                    · obtain rfl := sj h
                      exact k111 (tF q111 0 [] (oB 1 h24 k) (by kernel_rfl))
                    · exact k111 (tH q111 0 [] [0] [] [1, 3, 5] (oD (dT p0.sub) <| oB 1 h24 k) (ih111L9584 _ _ _ _ h) (fun j => by kernel_rfl))
                  · exact k111 (tH q111 0 [] [0] [] [1, 3, 5] (oD (dT p0.sub) <| oB 1 h21 k) (ih111L9584 _ _ _ _ h) (fun j => by kernel_rfl))
          · have k := oB 0 h17 k
            rcases spl h with ⟨h25, h⟩ | ⟨h25, h⟩
            · have k := oB 0 h25 k
              rcases spl h with ⟨h26, h⟩ | ⟨h26, h⟩
              · obtain rfl := sj h
                exact k111 (tF q111 0 [] (oB 2 h26 k) (by kernel_rfl))
              · have k := oB 2 h26 k
                rcases spl h with ⟨h27, h⟩ | ⟨h27, h⟩
                · obtain rfl := sj h
                  exact k111 (tF q111 0 [] (oB 1 h27 k) (by kernel_rfl))
                · have k := oB 1 h27 k
                  rcases spl h with ⟨h28, h⟩ | ⟨h28, h⟩
                  · obtain rfl := sj h
                    exact k111 (tF q111 0 [] (oB 1 h28 k) (by kernel_rfl))
                  · have k := oB 1 h28 k
                    rcases spl h with ⟨h29, h⟩ | ⟨h29, h⟩
                    · obtain ⟨x30, h31, h⟩ := obind h
                      have k := oA 1 (ix22 (o := .no) h31) <| oB 1 h29 k
                      rcases spl h with ⟨h32, h⟩ | ⟨h32, h⟩
                      · obtain rfl := sj h
                        exact k111 (tF q111 0 [] (oB 1 h32 k) (by kernel_rfl))
                      · exact k111 (tH q111 0 [] [0] [] [1, 3, 5] (oD (dT p0.sub) <| oB 1 h32 k) (ih111L9584 _ _ _ _ h) (fun j => by kernel_rfl))
                    · exact k111 (tH q111 0 [] [0] [] [1, 3, 5] (oD (dT p0.sub) <| oB 1 h29 k) (ih111L9584 _ _ _ _ h) (fun j => by kernel_rfl))
            · have k := oB 0 h25 k
              rcases spl h with ⟨h33, h⟩ | ⟨h33, h⟩
              · have k := oB 0 h33 k
                rcases spl h with ⟨h34, h⟩ | ⟨h34, h⟩
                · obtain rfl := sj h
                  exact k111 (tF q111 0 [] (oB 2 h34 k) (by kernel_rfl))
                · have k := oB 2 h34 k
                  rcases spl h with ⟨h35, h⟩ | ⟨h35, h⟩
                  · obtain rfl := sj h
                    exact k111 (tF q111 0 [] (oB 1 h35 k) (by kernel_rfl))
                  · have k := oB 1 h35 k
                    rcases spl h with ⟨h36, h⟩ | ⟨h36, h⟩
                    · obtain rfl := sj h
                      exact k111 (tF q111 0 [] (oB 1 h36 k) (by kernel_rfl))
                    · have k := oB 1 h36 k
                      rcases spl h with ⟨h37, h⟩ | ⟨h37, h⟩
                      · obtain ⟨x38, h39, h⟩ := obind h
                        have k := oA 1 (ix22 (o := .no) h39) <| oB 1 h37 k
                        rcases spl h with ⟨h40, h⟩ | ⟨h40, h⟩
                        · obtain rfl := sj h
                          exact k111 (tF q111 0 [] (oB 1 h40 k) (by kernel_rfl))
                        · exact k111 (tH q111 0 [] [0] [] [1, 3, 5] (oD (dT p0.sub) <| oB 1 h40 k) (ih111L9584 _ _ _ _ h) (fun j => by kernel_rfl))
                      · exact k111 (tH q111 0 [] [0] [] [1, 3, 5] (oD (dT p0.sub) <| oB 1 h37 k) (ih111L9584 _ _ _ _ h) (fun j => by kernel_rfl))
              · have k := oB 0 h33 k
                rcases spl h with ⟨h41, h⟩ | ⟨h41, h⟩
                · have k := oB 0 h41 k
                  rcases spl h with ⟨h42, h⟩ | ⟨h42, h⟩
                  · obtain rfl := sj h
                    exact k111 (tF q111 0 [] (oB 2 h42 k) (by kernel_rfl))
                  · have k := oB 2 h42 k
                    rcases spl h with ⟨h43, h⟩ | ⟨h43, h⟩
                    · obtain rfl := sj h
                      exact k111 (tF q111 0 [] (oB 1 h43 k) (by kernel_rfl))
                    · have k := oB 1 h43 k
                      rcases spl h with ⟨h44, h⟩ | ⟨h44, h⟩
                      · obtain rfl := sj h
                        exact k111 (tF q111 0 [] (oB 1 h44 k) (by kernel_rfl))
                      · have k := oB 1 h44 k
                        rcases spl h with ⟨h45, h⟩ | ⟨h45, h⟩
                        · obtain ⟨x46, h47, h⟩ := obind h
                          have k := oA 1 (ix22 (o := .no) h47) <| oB 1 h45 k
                          rcases spl h with ⟨h48, h⟩ | ⟨h48, h⟩
                          · obtain rfl := sj h
                            exact k111 (tF q111 0 [] (oB 1 h48 k) (by kernel_rfl))
                          · exact k111 (tH q111 0 [] [0] [] [1, 3, 5] (oD (dT p0.sub) <| oB 1 h48 k) (ih111L9584 _ _ _ _ h) (fun j => by kernel_rfl))
                        · exact k111 (tH q111 0 [] [0] [] [1, 3, 5] (oD (dT p0.sub) <| oB 1 h45 k) (ih111L9584 _ _ _ _ h) (fun j => by kernel_rfl))
                · have k := oB 0 h41 k
                  rcases spl h with ⟨h49, h⟩ | ⟨h49, h⟩
                  · have k := oB 0 h49 k
                    rcases spl h with ⟨h50, h⟩ | ⟨h50, h⟩
                    · obtain rfl := sj h
                      exact k111 (tF q111 0 [] (oB 2 h50 k) (by kernel_rfl))
                    · have k := oB 2 h50 k
                      rcases spl h with ⟨h51, h⟩ | ⟨h51, h⟩
                      · obtain rfl := sj h
                        exact k111 (tF q111 0 [] (oB 1 h51 k) (by kernel_rfl))
                      · have k := oB 1 h51 k
                        rcases spl h with ⟨h52, h⟩ | ⟨h52, h⟩
                        · obtain rfl := sj h
                          exact k111 (tF q111 0 [] (oB 1 h52 k) (by kernel_rfl))
                        · have k := oB 1 h52 k
                          rcases spl h with ⟨h53, h⟩ | ⟨h53, h⟩
                          · obtain ⟨x54, h55, h⟩ := obind h
                            have k := oA 1 (ix22 (o := .no) h55) <| oB 1 h53 k
                            rcases spl h with ⟨h56, h⟩ | ⟨h56, h⟩
                            · obtain rfl := sj h
                              exact k111 (tF q111 0 [] (oB 1 h56 k) (by kernel_rfl))
                            · exact k111 (tH q111 0 [] [0] [] [1, 3, 5] (oD (dT p0.sub) <| oB 1 h56 k) (ih111L9584 _ _ _ _ h) (fun j => by kernel_rfl))
                          · exact k111 (tH q111 0 [] [0] [] [1, 3, 5] (oD (dT p0.sub) <| oB 1 h53 k) (ih111L9584 _ _ _ _ h) (fun j => by kernel_rfl))
                  · have k := oB 0 h49 k
                    rcases spl h with ⟨h57, h⟩ | ⟨h57, h⟩
                    · have k := oB 0 h57 k
                      rcases spl h with ⟨h58, h⟩ | ⟨h58, h⟩
                      · obtain rfl := sj h
                        exact k111 (tF q111 0 [] (oB 2 h58 k) (by kernel_rfl))
                      · have k := oB 2 h58 k
                        rcases spl h with ⟨h59, h⟩ | ⟨h59, h⟩
                        · obtain rfl := sj h
                          exact k111 (tF q111 0 [] (oB 1 h59 k) (by kernel_rfl))
                        · have k := oB 1 h59 k
                          rcases spl h with ⟨h60, h⟩ | ⟨h60, h⟩
                          · obtain rfl := sj h
                            exact k111 (tF q111 0 [] (oB 1 h60 k) (by kernel_rfl))
                          · obtain ⟨x61, h62, h⟩ := obind h
                            have k := oA 1 (ix22 (o := .no) h62) <| oB 1 h57 <| oB 1 h60 k
                            rcases spl h with ⟨h63, h⟩ | ⟨h63, h⟩
                            · obtain rfl := sj h
                              exact k111 (tF q111 0 [] (oB 1 h63 k) (by kernel_rfl))
                            · exact k111 (tH q111 0 [] [0] [] [1, 3, 5] (oD (dT p0.sub) <| oB 1 h63 k) (ih111L9584 _ _ _ _ h) (fun j => by kernel_rfl))
                    · obtain rfl := sj h
                      exact k111 (tF q111 0 [] (oB 0 h57 k) (by kernel_rfl))
    · intro p0 v3 v5 r h
      rw [e111L9584] at h
      rcases spl h with ⟨h9, h⟩ | ⟨h9, h⟩
      · obtain ⟨x10, h11, h⟩ := obind h
        obtain ⟨r12, h13, h⟩ := obind h
        have k := oA 1 (ix22 (o := .no) h11) <| oB 0 h9 o0
        rcases spl h with ⟨h14, h⟩ | ⟨h14, h⟩
        · exact fun j => lH 2 [] [0] [] [1, 3, 5] (oD (dT p0.sub) <| oK 1 [] h14 (ih111 _ _ h13) k) (ih111L9584 _ _ _ _ h) (fun j => by kernel_rfl)
        · obtain rfl := sj h
          exact fun j => lF 1 [] (oK 1 [] h14 (ih111 _ _ h13) k) (by kernel_rfl)
      · obtain rfl := sj h
        exact fun j => lF 0 [] (oB 0 h9 o0) (by kernel_rfl)
theorem c111 {qq : Nat} {p0 : Tm} {r : Bool} (h : e111 qq p0 = some r) : CT Tryz.prog 111 [] [tmA p0] (ab r) [] 0 := (a111_111L9584 _).1 _ _ h
theorem mm111_111L9584 : ∀ qq : Nat, (∀ (p0 : Tm) (r : Bool), e111 qq p0 = some r → e111 (qq + 1) p0 = some r) ∧ (∀ (p0 : Tm) (v3 : Int) (v5 : Int) (r : Bool), e111L9584 qq p0 v3 v5 = some r → e111L9584 (qq + 1) p0 v3 v5 = some r) := by
  intro qq
  induction qq with
  | zero => exact ⟨fun _ _ h => nn h, fun _ _ _ _ h => nn h⟩
  | succ qq ih =>
    obtain ⟨ih111, ih111L9584⟩ := ih
    refine ⟨?_, ?_⟩
    · intro p0 r h
      rw [e111] at h ⊢
      rcases spl h with ⟨k, h⟩ | ⟨k, h⟩
      · rw [ifTe k]
        rcases spl h with ⟨k, h⟩ | ⟨k, h⟩
        · rw [ifTe k]
          exact h
        · rw [ifFe k]
          rcases spl h with ⟨k, h⟩ | ⟨k, h⟩
          · rw [ifTe k]
            exact h
          · rw [ifFe k]
            rcases spl h with ⟨k, h⟩ | ⟨k, h⟩
            · rw [ifTe k]
              exact h
            · rw [ifFe k]
              rcases spl h with ⟨k, h⟩ | ⟨k, h⟩
              · rw [ifTe k]
                obtain ⟨x6, hx, h⟩ := obind h
                refine obk hx ?_
                rcases spl h with ⟨k, h⟩ | ⟨k, h⟩
                · rw [ifTe k]
                  exact h
                · rw [ifFe k]
                  exact ih111L9584 _ _ _ _ h
              · rw [ifFe k]
                exact ih111L9584 _ _ _ _ h
      · rw [ifFe k]
        rcases spl h with ⟨k, h⟩ | ⟨k, h⟩
        · rw [ifTe k]
          rcases spl h with ⟨k, h⟩ | ⟨k, h⟩
          · rw [ifTe k]
            exact h
          · rw [ifFe k]
            rcases spl h with ⟨k, h⟩ | ⟨k, h⟩
            · rw [ifTe k]
              exact h
            · rw [ifFe k]
              rcases spl h with ⟨k, h⟩ | ⟨k, h⟩
              · rw [ifTe k]
                exact h
              · rw [ifFe k]
                rcases spl h with ⟨k, h⟩ | ⟨k, h⟩
                · rw [ifTe k]
                  obtain ⟨x14, hx, h⟩ := obind h
                  refine obk hx ?_
                  rcases spl h with ⟨k, h⟩ | ⟨k, h⟩
                  · rw [ifTe k]
                    exact h
                  · rw [ifFe k]
                    exact ih111L9584 _ _ _ _ h
                · rw [ifFe k]
                  exact ih111L9584 _ _ _ _ h
        · rw [ifFe k]
          rcases spl h with ⟨k, h⟩ | ⟨k, h⟩
          · rw [ifTe k]
            rcases spl h with ⟨k, h⟩ | ⟨k, h⟩
            · rw [ifTe k]
              exact h
            · rw [ifFe k]
              rcases spl h with ⟨k, h⟩ | ⟨k, h⟩
              · rw [ifTe k]
                exact h
              · rw [ifFe k]
                rcases spl h with ⟨k, h⟩ | ⟨k, h⟩
                · rw [ifTe k]
                  exact h
                · rw [ifFe k]
                  rcases spl h with ⟨k, h⟩ | ⟨k, h⟩
                  · rw [ifTe k]
                    obtain ⟨x22, hx, h⟩ := obind h
                    refine obk hx ?_
                    rcases spl h with ⟨k, h⟩ | ⟨k, h⟩
                    · rw [ifTe k]
                      exact h
                    · rw [ifFe k]
                      exact ih111L9584 _ _ _ _ h
                  · rw [ifFe k]
                    exact ih111L9584 _ _ _ _ h
          · rw [ifFe k]
            rcases spl h with ⟨k, h⟩ | ⟨k, h⟩
            · rw [ifTe k]
              rcases spl h with ⟨k, h⟩ | ⟨k, h⟩
              · rw [ifTe k]
                exact h
              · rw [ifFe k]
                rcases spl h with ⟨k, h⟩ | ⟨k, h⟩
                · rw [ifTe k]
                  exact h
                · rw [ifFe k]
                  rcases spl h with ⟨k, h⟩ | ⟨k, h⟩
                  · rw [ifTe k]
                    exact h
                  · rw [ifFe k]
                    rcases spl h with ⟨k, h⟩ | ⟨k, h⟩
                    · rw [ifTe k]
                      obtain ⟨x30, hx, h⟩ := obind h
                      refine obk hx ?_
                      rcases spl h with ⟨k, h⟩ | ⟨k, h⟩
                      · rw [ifTe k]
                        exact h
                      · rw [ifFe k]
                        exact ih111L9584 _ _ _ _ h
                    · rw [ifFe k]
                      exact ih111L9584 _ _ _ _ h
            · rw [ifFe k]
              rcases spl h with ⟨k, h⟩ | ⟨k, h⟩
              · rw [ifTe k]
                rcases spl h with ⟨k, h⟩ | ⟨k, h⟩
                · rw [ifTe k]
                  exact h
                · rw [ifFe k]
                  rcases spl h with ⟨k, h⟩ | ⟨k, h⟩
                  · rw [ifTe k]
                    exact h
                  · rw [ifFe k]
                    rcases spl h with ⟨k, h⟩ | ⟨k, h⟩
                    · rw [ifTe k]
                      exact h
                    · rw [ifFe k]
                      rcases spl h with ⟨k, h⟩ | ⟨k, h⟩
                      · rw [ifTe k]
                        obtain ⟨x38, hx, h⟩ := obind h
                        refine obk hx ?_
                        rcases spl h with ⟨k, h⟩ | ⟨k, h⟩
                        · rw [ifTe k]
                          exact h
                        · rw [ifFe k]
                          exact ih111L9584 _ _ _ _ h
                      · rw [ifFe k]
                        exact ih111L9584 _ _ _ _ h
              · rw [ifFe k]
                rcases spl h with ⟨k, h⟩ | ⟨k, h⟩
                · rw [ifTe k]
                  rcases spl h with ⟨k, h⟩ | ⟨k, h⟩
                  · rw [ifTe k]
                    exact h
                  · rw [ifFe k]
                    rcases spl h with ⟨k, h⟩ | ⟨k, h⟩
                    · rw [ifTe k]
                      exact h
                    · rw [ifFe k]
                      rcases spl h with ⟨k, h⟩ | ⟨k, h⟩
                      · rw [ifTe k]
                        exact h
                      · rw [ifFe k]
                        rcases spl h with ⟨k, h⟩ | ⟨k, h⟩
                        · rw [ifTe k]
                          obtain ⟨x46, hx, h⟩ := obind h
                          refine obk hx ?_
                          rcases spl h with ⟨k, h⟩ | ⟨k, h⟩
                          · rw [ifTe k]
                            exact h
                          · rw [ifFe k]
                            exact ih111L9584 _ _ _ _ h
                        · rw [ifFe k]
                          exact ih111L9584 _ _ _ _ h
                · rw [ifFe k]
                  rcases spl h with ⟨k, h⟩ | ⟨k, h⟩
                  · rw [ifTe k]
                    rcases spl h with ⟨k, h⟩ | ⟨k, h⟩
                    · rw [ifTe k]
                      exact h
                    · rw [ifFe k]
                      rcases spl h with ⟨k, h⟩ | ⟨k, h⟩
                      · rw [ifTe k]
                        exact h
                      · rw [ifFe k]
                        rcases spl h with ⟨k, h⟩ | ⟨k, h⟩
                        · rw [ifTe k]
                          exact h
                        · rw [ifFe k]
                          rcases spl h with ⟨k, h⟩ | ⟨k, h⟩
                          · rw [ifTe k]
                            obtain ⟨x54, hx, h⟩ := obind h
                            refine obk hx ?_
                            rcases spl h with ⟨k, h⟩ | ⟨k, h⟩
                            · rw [ifTe k]
                              exact h
                            · rw [ifFe k]
                              exact ih111L9584 _ _ _ _ h
                          · rw [ifFe k]
                            exact ih111L9584 _ _ _ _ h
                  · rw [ifFe k]
                    rcases spl h with ⟨k, h⟩ | ⟨k, h⟩
                    · rw [ifTe k]
                      rcases spl h with ⟨k, h⟩ | ⟨k, h⟩
                      · rw [ifTe k]
                        exact h
                      · rw [ifFe k]
                        rcases spl h with ⟨k, h⟩ | ⟨k, h⟩
                        · rw [ifTe k]
                          exact h
                        · rw [ifFe k]
                          rcases spl h with ⟨k, h⟩ | ⟨k, h⟩
                          · rw [ifTe k]
                            exact h
                          · rw [ifFe k]
                            obtain ⟨x61, hx, h⟩ := obind h
                            refine obk hx ?_
                            rcases spl h with ⟨k, h⟩ | ⟨k, h⟩
                            · rw [ifTe k]
                              exact h
                            · rw [ifFe k]
                              exact ih111L9584 _ _ _ _ h
                    · rw [ifFe k]
                      exact h
    · intro p0 v3 v5 r h
      rw [e111L9584] at h ⊢
      rcases spl h with ⟨k, h⟩ | ⟨k, h⟩
      · rw [ifTe k]
        obtain ⟨x10, hx, h⟩ := obind h
        refine obk hx ?_
        obtain ⟨r12, hx, h⟩ := obind h
        refine obk (ih111 _ _ hx) ?_
        rcases spl h with ⟨k, h⟩ | ⟨k, h⟩
        · rw [ifTe k]
          exact ih111L9584 _ _ _ _ h
        · rw [ifFe k]
          exact h
      · rw [ifFe k]
        exact h
theorem m111 {qq : Nat} {p0 : Tm} {r : Bool} (h : e111 qq p0 = some r) : e111 (qq + 1) p0 = some r := (mm111_111L9584 _).1 _ _ h
theorem m111L9584 {qq : Nat} {p0 : Tm} {v3 : Int} {v5 : Int} {r : Bool} (h : e111L9584 qq p0 v3 v5 = some r) : e111L9584 (qq + 1) p0 v3 v5 = some r := (mm111_111L9584 _).2 _ _ _ _ h

end Go.Proofs.YtlbmblbeccafcaaGreat

namespace Go.Proofs.YtlbmblbeccafcaaGreat
open Go Go.Ab

/- scholium/scholiumref07.Beneath -/
def e112 (qq : Nat) (p0 : Tm) (p1 : Int) : Option (Int) :=
  if (p1 == 1) = true then
    if (p0.k != 5) = true then
      some 1
    else
      some 0
  else
    some 0
theorem q112 : Tryz.prog.funcs[112]? = some Tryz.f112 ∧ Tryz.f112.body.isNone = false := ⟨Tryz.func112, by kernel_rfl⟩
theorem k112 {p0 : Tm} {p1 : Int} {r : Int} (h : CTri Tryz.prog 112 [] [tmA p0, ai p1] (ai r) [] 0) : CT Tryz.prog 112 [] [tmA p0, ai p1] (ai r) [] 0 := ⟨h, ⟨⟨trivial, trivial, ⟨trivial, dT _⟩, trivial⟩, trivial, trivial⟩, forall_nil, trivial, forall_nil⟩
theorem c112 {qq : Nat} {p0 : Tm} {p1 : Int} {r : Int} (h : e112 qq p0 p1 = some r) : CT Tryz.prog 112 [] [tmA p0, ai p1] (ai r) [] 0 := by
  unfold e112 at h
  rcases spl h with ⟨h1, h⟩ | ⟨h1, h⟩
  · have k := oB 0 h1 o0
    rcases spl h with ⟨h2, h⟩ | ⟨h2, h⟩
    · obtain rfl := sj h
      exact k112 (tF q112 0 [] (oB 1 h2 k) (by kernel_rfl))
    · obtain rfl := sj h
      exact k112 (tF q112 0 [] (oB 1 h2 k) (by kernel_rfl))
  · obtain rfl := sj h
    exact k112 (tF q112 0 [] (oB 0 h1 o0) (by kernel_rfl))
theorem m112 {qq : Nat} {p0 : Tm} {p1 : Int} {r : Int} (h : e112 qq p0 p1 = some r) : e112 (qq + 1) p0 p1 = some r := by
  unfold e112 at h ⊢
  rcases spl h with ⟨k, h⟩ | ⟨k, h⟩
  · rw [ifTe k]
    rcases spl h with ⟨k, h⟩ | ⟨k, h⟩
    · rw [ifTe k]
      exact h
    · rw [ifFe k]
      exact h
  · rw [ifFe k]
    exact h

end Go.Proofs.YtlbmblbeccafcaaGreat

namespace Go.Proofs.YtlbmblbeccafcaaGreat
open Go Go.Ab

/- scholium/scholiumref07.Shaped -/
def e65 (qq : Nat) (p0 : Tm) : Option (Bool) :=
  (e110 qq p0) >>= fun r1 =>
  if decide (r1 ≤ 128) = true then
    (e111 qq p0) >>= fun r4 =>
    some r4
  else
    some false
theorem q65 : Tryz.prog.funcs[65]? = some Tryz.f65 ∧ Tryz.f65.body.isNone = false := ⟨Tryz.func65, by kernel_rfl⟩
theorem k65 {p0 : Tm} {r : Bool} (h : CTri Tryz.prog 65 [] [tmA p0] (ab r) [] 0) : CT Tryz.prog 65 [] [tmA p0] (ab r) [] 0 := ⟨h, ⟨⟨trivial, trivial, ⟨trivial, dT _⟩, trivial⟩, trivial⟩, forall_nil, trivial, forall_nil⟩
theorem c65 {qq : Nat} {p0 : Tm} {r : Bool} (h : e65 qq p0 = some r) : CT Tryz.prog 65 [] [tmA p0] (ab r) [] 0 := by
  unfold e65 at h
  obtain ⟨r1, h2, h⟩ := obind h
  have k := oC 1 [] (c110 h2) o0
  rcases spl h with ⟨h3, h⟩ | ⟨h3, h⟩
  · obtain ⟨r4, h5, h⟩ := obind h
    obtain rfl := sj h
    exact k65 (tF q65 0 [] (oC 1 [] (c111 h5) <| oB 0 h3 k) (by kernel_rfl))
  · obtain rfl := sj h
    exact k65 (tF q65 0 [] (oB 0 h3 k) (by kernel_rfl))
theorem m65 {qq : Nat} {p0 : Tm} {r : Bool} (h : e65 qq p0 = some r) : e65 (qq + 1) p0 = some r := by
  unfold e65 at h ⊢
  obtain ⟨r1, hx, h⟩ := obind h
  refine obk (m110 hx) ?_
  rcases spl h with ⟨k, h⟩ | ⟨k, h⟩
  · rw [ifTe k]
    obtain ⟨r4, hx, h⟩ := obind h
    refine obk (m111 hx) ?_
    exact h
  · rw [ifFe k]
    exact h

end Go.Proofs.YtlbmblbeccafcaaGreat

namespace Go.Proofs.YtlbmblbeccafcaaGreat
open Go Go.Ab

/- scholium/scholiumref07.Loose -/
mutual
def e66 : Nat → Tm → Int →  Option (Int)
  | 0, _, _ => none
  | qq + 1, p0, p1 =>
    if (p0.k == 1) = true then
      if decide (p0.n ≥ p1) = true then
        some (w64 ((w64 (p0.n - p1)) + 1))
      else
        e66L4643 qq p0 p1 0 0
    else
      e66L4643 qq p0 p1 0 0
def e66L4643 : Nat → Tm → Int → Int → Int →  Option (Int)
  | 0, _, _, _, _ => none
  | qq + 1, p0, p1, v5, v6 =>
    if decide (v6 < (List.length p0.sub : Int)) = true then
      (gidx p0.sub v6) >>= fun x4 =>
      (e112 qq p0 v6) >>= fun r6 =>
      (e66 qq x4 (w64 (p1 + r6))) >>= fun r8 =>
      e66L4643 qq p0 p1 (imax v5 r8) (w64 (v6 + 1))
    else
      some v5
end
def g66L4643E0 (j : Nat → Value) (p0 : Tm) (p1 : Int) (v5 : Int) (v6 : Int) : List AV := sp j 42 0 [(1, ai p1), (2, .mp 0 0), (5, ai v5), (6, ai v6)]
def g66L4643S0 (p0 : Tm) (p1 : Int) (v5 : Int) (v6 : Int) : LSt := ⟨[(0, .cells [ai p0.k, ai p0.n, .sl (flat tmCells p0.sub) (List.length p0.sub) .no])], 1, [], 0, []⟩
theorem q66 : Tryz.prog.funcs[66]? = some Tryz.f66 ∧ Tryz.f66.body.isNone = false := ⟨Tryz.func66, by kernel_rfl⟩
theorem k66 {p0 : Tm} {p1 : Int} {r : Int} (h : CTri Tryz.prog 66 [] [tmA p0, ai p1] (ai r) [] 0) : CT Tryz.prog 66 [] [tmA p0, ai p1] (ai r) [] 0 := ⟨h, ⟨⟨trivial, trivial, ⟨trivial, dT _⟩, trivial⟩, trivial, trivial⟩, forall_nil, trivial, forall_nil⟩
theorem a66_66L4643 : ∀ qq : Nat, (∀ (p0 : Tm) (p1 : Int) (r : Int), e66 qq p0 p1 = some r → CT Tryz.prog 66 [] [tmA p0, ai p1] (ai r) [] 0) ∧ (∀ (p0 : Tm) (p1 : Int) (v5 : Int) (v6 : Int) (r : Int), e66L4643 qq p0 p1 v5 v6 = some r → (∀ j, Dl Tryz.prog 0 (inn (inn (rgt (lft (rgt (rgt (rgt (bod Tryz.f66)))))))) (g66L4643E0 j p0 p1 v5 v6) (g66L4643S0 p0 p1 v5 v6) (frameQ Tryz.prog 0 (FinQ Tryz.prog 0 Tryz.f66 (ai r) [] 0) [.blk 0, .seq (rgt (rgt (rgt (rgt (bod Tryz.f66)))))]))) := by
  intro qq
  induction qq with
  | zero =>
    exact ⟨fun _ _ _ h => nn h, fun _ _ _ _ _ h => nn h⟩
  | succ qq ih =>
    obtain ⟨ih66, ih66L4643⟩ := ih
    refine ⟨?_, ?_⟩
    · intro p0 p1 r h
      rw [e66] at h
      rcases spl h with ⟨h1, h⟩ | ⟨h1, h⟩
      · have k := oB 1 h1 o0
        rcases spl h with ⟨h2, h⟩ | ⟨h2, h⟩
        · obtain rfl := sj h
          exact k66 (tF q66 3 [] (oB 1 h2 k) (by kernel_rfl))
        · exact k66 (tH q66 0 [] [0] [] [1, 2, 5, 6] (oD (dT p0.sub) <| oB 1 h2 k) (ih66L4643 _ _ _ _ _ h) (fun j => by kernel_rfl))
      · exact k66 (tH q66 0 [] [0] [] [1, 2, 5, 6] (oD (dT p0.sub) <| oB 1 h1 o0) (ih66L4643 _ _ _ _ _ h) (fun j => by kernel_rfl))
    · intro p0 p1 v5 v6 r h
      rw [e66L4643] at h
      rcases spl h with ⟨h3, h⟩ | ⟨h3, h⟩
      · obtain ⟨x4, h5, h⟩ := obind h
        obtain ⟨r6, h7, h⟩ := obind h
        obtain ⟨r8, h9, h⟩ := obind h
        exact fun j => lH 2 [] [0] [] [1, 2, 5, 6] (oD (dT p0.sub) <| oC 1 [] (ih66 _ _ _ h9) <| oC 2 [] (c112 h7) <| oA 1 (ix22 (o := .no) h5) <| oB 2 h3 o0) (ih66L4643 _ _ _ _ _ h) (fun j => by kernel_rfl)
      · obtain rfl := sj h
        exact fun j => lF 0 [] (oB 2 h3 o0) (by kernel_rfl)
theorem c66 {qq : Nat} {p0 : Tm} {p1 : Int} {r : Int} (h : e66 qq p0 p1 = some r) : CT Tryz.prog 66 [] [tmA p0, ai p1] (ai r) [] 0 := (a66_66L4643 _).1 _ _ _ h
theorem mm66_66L4643 : ∀ qq : Nat, (∀ (p0 : Tm) (p1 : Int) (r : Int), e66 qq p0 p1 = some r → e66 (qq + 1) p0 p1 = some r) ∧ (∀ (p0 : Tm) (p1 : Int) (v5 : Int) (v6 : Int) (r : Int), e66L4643 qq p0 p1 v5 v6 = some r → e66L4643 (qq + 1) p0 p1 v5 v6 = some r) := by
  intro qq
  induction qq with
  | zero => exact ⟨fun _ _ _ h => nn h, fun _ _ _ _ _ h => nn h⟩
  | succ qq ih =>
    obtain ⟨ih66, ih66L4643⟩ := ih
    refine ⟨?_, ?_⟩
    · intro p0 p1 r h
      rw [e66] at h ⊢
      rcases spl h with ⟨k, h⟩ | ⟨k, h⟩
      · rw [ifTe k]
        rcases spl h with ⟨k, h⟩ | ⟨k, h⟩
        · rw [ifTe k]
          exact h
        · rw [ifFe k]
          exact ih66L4643 _ _ _ _ _ h
      · rw [ifFe k]
        exact ih66L4643 _ _ _ _ _ h
    · intro p0 p1 v5 v6 r h
      rw [e66L4643] at h ⊢
      rcases spl h with ⟨k, h⟩ | ⟨k, h⟩
      · rw [ifTe k]
        obtain ⟨x4, hx, h⟩ := obind h
        refine obk hx ?_
        obtain ⟨r6, hx, h⟩ := obind h
        refine obk (m112 hx) ?_
        obtain ⟨r8, hx, h⟩ := obind h
        refine obk (ih66 _ _ _ hx) ?_
        exact ih66L4643 _ _ _ _ _ h
      · rw [ifFe k]
        exact h
theorem m66 {qq : Nat} {p0 : Tm} {p1 : Int} {r : Int} (h : e66 qq p0 p1 = some r) : e66 (qq + 1) p0 p1 = some r := (mm66_66L4643 _).1 _ _ _ h
theorem m66L4643 {qq : Nat} {p0 : Tm} {p1 : Int} {v5 : Int} {v6 : Int} {r : Int} (h : e66L4643 qq p0 p1 v5 v6 = some r) : e66L4643 (qq + 1) p0 p1 v5 v6 = some r := (mm66_66L4643 _).2 _ _ _ _ _ h

end Go.Proofs.YtlbmblbeccafcaaGreat

namespace Go.Proofs.YtlbmblbeccafcaaGreat
open Go Go.Ab

theorem goodT_iff (k n : Int) (l : List Tm) : goodT (.mk k n l) = (headT (.mk k n l) && goodL l) := by rw [goodT]
mutual
theorem ev_rgood : ∀ (t : Tm), t.Ok → Evt (fun q => e111 q t) (goodT t)
  | .mk k n l, ho => by
    refine Evt.succ ?_
    simp only [e111]
    have hL : ∀ c : Nat, l.length = c → Evt (fun q => e111L9584 q (.mk k n l) (c : Int) 0) (goodL l) := fun c hc =>
      ev_rgoodL l (.mk k n l) 0 c rfl (by simpa [Tm.sub] using hc) ho.1 ho.2
    by_cases h1 : k = 1
    · subst h1
      refine Evt.ifT rfl ((tailG (p := .mk 1 n l) (c := 0) (m := 1048576) (r := goodL l) fun hc _ _ => Evt.ifF rfl (hL 0 hc)).eq ?_)
      rw [goodT_iff]; simp [headT, Tm.k, Tm.n, Tm.sub]
      cases goodL l <;> simp [Bool.and_comm, Bool.and_left_comm, Bool.and_assoc]
    refine Evt.ifF (by simpa [Tm.k] using h1) ?_
    by_cases h6 : k = 6
    · subst h6
      refine Evt.ifT rfl ((tailG (p := .mk 6 n l) (c := 0) (m := 1048576) (r := goodL l) fun hc _ _ => Evt.ifF rfl (hL 0 hc)).eq ?_)
      rw [goodT_iff]; simp [headT, Tm.k, Tm.n, Tm.sub]
      cases goodL l <;> simp [Bool.and_comm, Bool.and_left_comm, Bool.and_assoc]
    refine Evt.ifF (by simpa [Tm.k] using h6) ?_
    by_cases h8 : k = 8
    · subst h8
      refine Evt.ifT rfl ((tailG (p := .mk 8 n l) (c := 0) (m := 1048576) (r := goodL l) fun hc _ _ => Evt.ifF rfl (hL 0 hc)).eq ?_)
      rw [goodT_iff]; simp [headT, Tm.k, Tm.n, Tm.sub]
      cases goodL l <;> simp [Bool.and_comm, Bool.and_left_comm, Bool.and_assoc]
    refine Evt.ifF (by simpa [Tm.k] using h8) ?_
    by_cases h2 : k = 2
    · subst h2
      refine Evt.ifT rfl ((tailG (p := .mk 2 n l) (c := 0) (m := 7) (r := goodL l) fun hc _ _ => Evt.ifF rfl (hL 0 hc)).eq ?_)
      rw [goodT_iff]; simp [headT, Tm.k, Tm.n, Tm.sub]
      cases goodL l <;> simp [Bool.and_comm, Bool.and_left_comm, Bool.and_assoc]
    refine Evt.ifF (by simpa [Tm.k] using h2) ?_
    by_cases h3 : k = 3
    · subst h3
      refine Evt.ifT rfl ((tailG (p := .mk 3 n l) (c := 2) (m := 0) (r := goodL l) fun hc _ _ => Evt.ifF rfl (hL 2 hc)).eq ?_)
      rw [goodT_iff]; simp [headT, Tm.k, Tm.n, Tm.sub]
      cases goodL l <;> simp [Bool.and_comm, Bool.and_left_comm, Bool.and_assoc]
    refine Evt.ifF (by simpa [Tm.k] using h3) ?_
    by_cases h4 : k = 4
    · subst h4
      refine Evt.ifT rfl ((tailG (p := .mk 4 n l) (c := 2) (m := 0) (r := goodL l) fun hc _ _ => Evt.ifF rfl (hL 2 hc)).eq ?_)
      rw [goodT_iff]; simp [headT, Tm.k, Tm.n, Tm.sub]
      cases goodL l <;> simp [Bool.and_comm, Bool.and_left_comm, Bool.and_assoc]
    refine Evt.ifF (by simpa [Tm.k] using h4) ?_
    by_cases h5 : k = 5
    · subst h5
      refine Evt.ifT rfl ((tailG (p := .mk 5 n l) (c := 2) (m := 0) (r := goodL l) fun hc _ _ => Evt.ifF rfl (hL 2 hc)).eq ?_)
      rw [goodT_iff]; simp [headT, Tm.k, Tm.n, Tm.sub]
      cases goodL l <;> simp [Bool.and_comm, Bool.and_left_comm, Bool.and_assoc]
    refine Evt.ifF (by simpa [Tm.k] using h5) ?_
    by_cases h7 : k = 7
    · subst h7
      refine Evt.ifT rfl ?_
      rcases l with _ | ⟨x, l⟩
      · refine (tailG (p := .mk 7 n []) (c := 1) (m := 1048576) (r := false) fun hc _ _ => by simp [Tm.sub] at hc).eq ?_
        rw [goodT_iff]; simp [headT, Tm.k, Tm.n, Tm.sub]
      · refine (tailG (p := .mk 7 n (x :: l)) (c := 1) (m := 1048576) (r := (x.k == 2) && goodL (x :: l)) fun hc _ _ => Evt.pure (a := x) rfl ?_).eq ?_
        · by_cases hx : x.k = 2
          · refine Evt.ifF (by simp [hx]) ((hL 1 (by simpa [Tm.sub] using hc)).eq (by simp [hx]))
          · exact Evt.ifT (by simp [hx]) (Evt.ret.eq (by simp [hx]))
        · rw [goodT_iff]; simp [headT, Tm.k, Tm.n, Tm.sub]
          cases goodL (x :: l) <;> cases (x.k == 2) <;> simp [Bool.and_comm, Bool.and_left_comm, Bool.and_assoc]
    refine Evt.ifF (by simpa [Tm.k] using h7) (Evt.ret.eq ?_)
    rw [goodT_iff]
    have : headT (.mk k n l) = false := by
      simp only [headT, Tm.k]
      by_cases h9 : 1 ≤ k ∧ k ≤ 8
      · omega
      · by_cases h10 : 1 ≤ k
        · simp [show ¬ k ≤ 8 by omega]
        · simp [h10]
    simp [this]
theorem ev_rgoodL : ∀ (l : List Tm) (p : Tm) (v c : Nat), p.sub.drop v = l → p.sub.length = c → p.sub.length < 9223372036854775808 → OkL l → Evt (fun q => e111L9584 q p (c : Int) (v : Int)) (goodL l)
  | [], p, v, c, hd, hc, hl, ho => by
    refine Evt.succ ?_
    simp only [e111L9584]
    rw [goodL, ← hc]
    exact Evt.ifF (drop_nil hd) Evt.ret
  | t :: l, p, v, c, hd, hc, hl, ho => by
    refine Evt.succ ?_
    simp only [e111L9584]
    refine Evt.ifT (by rw [← hc]; exact drop_dec hd) (Evt.pure (drop_idx hd) ((ev_rgood t ho.1).bind ?_))
    rw [goodL]
    cases goodT t with
    | false => exact Evt.ifF rfl Evt.ret
    | true =>
      refine Evt.ifT rfl ?_
      rw [w64_nat v (by have := drop_lt hd; omega)]
      exact ev_rgoodL l p (v + 1) c (drop_next hd) hc hl ho.2
end
theorem ev_rShaped (t : Tm) (ho : t.Ok) : Evt (fun q => e65 q t) (shapedT t) := by
  simp only [e65]
  refine (ev_rDepth t).bind ?_
  unfold shapedT rdepT
  by_cases h1 : t.nodes ≤ 8192
  · rw [if_pos h1]
    by_cases h2 : t.high ≤ 128
    · exact Evt.ifT (by simp <;> omega) (((ev_rgood t ho).bind Evt.ret).eq (by simp [h1, h2]))
    · exact Evt.ifF (by simp <;> omega) (Evt.ret.eq (by simp [h2]))
  · rw [if_neg h1]
    exact Evt.ifF (by simp) (Evt.ret.eq (by simp [h1]))

/-- as the reference counts binders -/
def undR (k : Int) (i : Nat) : Int := if i = 1 ∧ k ≠ 5 then 1 else 0
theorem ev_rBeneath (t : Tm) (i : Nat) : Evt (fun q => e112 q t (i : Int)) (undR t.k i) := by
  refine Evt.mk fun q => ?_
  simp only [e112, undR]
  by_cases h1 : i = 1
  · subst h1; by_cases h5 : t.k = 5 <;> simp [h5]
  · have : ¬ ((i : Int) = 1) := by omega
    simp [h1, this]
/-- above a second Sub the two ways to count agree -/
theorem und_ref {k n : Int} {l : List Tm} (h : headT (.mk k n l) = true) {i : Nat} (hi : i < l.length) : undR k i = undT k i := by
  unfold undT undR
  by_cases h1 : i = 1
  · subst h1
    have hs := head_spec h
    simp only [Tm.k, Tm.n, Tm.sub] at hs
    have : k = 3 ∨ k = 4 ∨ k = 5 := by
      by_cases h7 : k = 7
      · obtain ⟨x, hx, _⟩ := hs.2.2.2.2.2.2.1 h7
        rw [hx] at hi; simp at hi
      · by_cases h3 : k = 1 ∨ k = 2 ∨ k = 6 ∨ k = 8
        · rw [hs.2.2.2.2.2.2.2.1 h3] at hi; simp at hi
        · omega
    rcases this with rfl | rfl | rfl <;> simp
  · simp [h1]
mutual
theorem ev_rLoose : ∀ (t : Tm) (b : Int), goodT t = true → 0 ≤ b → b + t.high ≤ 4611686018427387904 → Evt (fun q => e66 q t b) (looT t b)
  | .mk k n l, b, hg, h0, h1 => by
    refine Evt.succ ?_
    simp only [e66, Tm.k, Tm.n]
    have hh := goodT_mk hg
    have hn := head_n hh.1
    have hl : Evt (fun q => e66L4643 q (.mk k n l) b 0 0) (looL l k 0 b) :=
      (ev_rLooseL l (.mk k n l) 0 b 0 rfl hh.1 hh.2 h0 (by omega) (by rw [Tm.high] at h1; omega)).eq (by have := looL_nn l k 0 b; simp only [Tm.k]; omega)
    rw [Tm.high] at h1
    rw [looT]
    by_cases hk : k = 1
    · rw [if_pos hk]
      refine Evt.ifT (by simpa using hk) ?_
      by_cases hb : n ≥ b
      · refine Evt.ifT (by simpa using hb) (Evt.ret.eq ?_)
        rw [w64_id (x := n - b) (by omega) (by omega), w64_id (by omega) (by omega)]; omega
      · refine Evt.ifF (by simpa using hb) (hl.eq ?_)
        have : l = [] := by
          have := hh.1
          subst hk
          simp [headT, Tm.k, Tm.n, Tm.sub] at this
          exact this.2.1
        subst this
        rw [looL]; omega
    · rw [if_neg hk]
      exact Evt.ifF (by simpa using hk) hl
theorem ev_rLooseL : ∀ (l : List Tm) (p : Tm) (v : Nat) (b m : Int), p.sub.drop v = l → headT p = true → goodL l = true → 0 ≤ b → 0 ≤ m → b + 1 + highL l ≤ 4611686018427387904 → Evt (fun q => e66L4643 q p b m (v : Int)) (max m (looL l p.k v b))
  | [], p, v, b, m, hd, hp, ho, h0, hm, h1 => by
    refine Evt.succ ?_
    simp only [e66L4643]
    rw [looL]
    exact Evt.ifF (drop_nil hd) (Evt.ret.eq (by omega))
  | t :: l, p, v, b, m, hd, hp, ho, h0, hm, h1 => by
    refine Evt.succ ?_
    simp only [e66L4643]
    have hg := goodL_cons ho
    have hu := undT_01 p.k v
    have hlt := drop_lt hd
    obtain ⟨k, n, ls⟩ := p
    have hls := (head_n hp).2.2.2.2
    simp only [Tm.sub] at hlt hd
    have he := und_ref hp hlt
    rw [highL] at h1
    refine Evt.ifT (drop_dec hd) (Evt.pure (drop_idx hd) ((ev_rBeneath (.mk k n ls) v).bind ?_))
    simp only [Tm.k] at hu ⊢
    rw [he, w64_id (x := b + undT k v) (by omega) (by omega)]
    refine (ev_rLoose t (b + undT k v) hg.1 (by omega) (by omega)).bind ?_
    rw [w64_nat v (by omega), imax_eq]
    refine (ev_rLooseL l (.mk k n ls) (v + 1) b _ (drop_next hd) hp hg.2 h0 (by omega) (by omega)).eq ?_
    simp only [Tm.k]
    rw [looL]; omega
end
end Go.Proofs.YtlbmblbeccafcaaGreat

namespace Go.Proofs.YtlbmblbeccafcaaGreat
open Go Go.Ab

/- scholium/scholiumref07.put -/
def e67L57108 : Nat → (List Int) → Int → (List Int) → Bool → Int →  Option (List Int)
  | 0, _, _, _, _, _ => none
  | qq + 1, p0, p1, v5, v6, v7 =>
    if v6 = true then
      if decide (v7 < (List.length p0 : Int)) = true then
        (gidx p0 v7) >>= fun x2 =>
        (gapp 8 v5 [x2]) >>= fun l4 =>
        e67L57108 qq p0 p1 l4 true (w64 (v7 + 1))
      else
        some v5
    else
      if decide (v7 < (List.length p0 : Int)) = true then
        (gidx p0 v7) >>= fun x7 =>
        if decide (x7 ≥ p1) = true then
          if decide (x7 > p1) = true then
            (gapp 8 v5 [p1]) >>= fun l11 =>
            (gapp 8 l11 [x7]) >>= fun l13 =>
            e67L57108 qq p0 p1 l13 true (w64 (v7 + 1))
          else
            (gapp 8 v5 [x7]) >>= fun l15 =>
            e67L57108 qq p0 p1 l15 true (w64 (v7 + 1))
        else
          (gapp 8 v5 [x7]) >>= fun l17 =>
          e67L57108 qq p0 p1 l17 false (w64 (v7 + 1))
      else
        (gapp 8 v5 [p1]) >>= fun l19 =>
        some l19
def e67 (qq : Nat) (p0 : List Int) (p1 : Int) : Option (List Int) :=
  e67L57108 qq p0 p1 [] false 0
def g67L57108E0 (j : Nat → Value) (p0 : List Int) (p1 : Int) (v5 : List Int) (v6 : Bool) (v7 : Int) : List AV := sp j 49 0 [(0, .sl (flat intC p0) (List.length p0) .no), (1, ai p1), (5, .sl (flat intC v5) (List.length v5) (.st 0 1)), (6, ab v6), (7, ai v7)]
def g67L57108S0 (p0 : List Int) (p1 : Int) (v5 : List Int) (v6 : Bool) (v7 : Int) : LSt := ⟨[], 0, [0], 1, []⟩
theorem q67 : Tryz.prog.funcs[67]? = some Tryz.f67 ∧ Tryz.f67.body.isNone = false := ⟨Tryz.func67, by kernel_rfl⟩
theorem k67 {p0 : List Int} {p1 : Int} {r : List Int} (h : CTri Tryz.prog 67 [] [.sl (flat intC p0) (List.length p0) .no, ai p1] (.sl (flat intC r) (List.length r) .no) [] 0) : CT Tryz.prog 67 [] [.sl (flat intC p0) (List.length p0) .no, ai p1] (.sl (flat intC r) (List.length r) .no) [] 0 := ⟨h, ⟨⟨trivial, dI _⟩, trivial, trivial⟩, forall_nil, dI _, forall_nil⟩
theorem l67L57108 : ∀ qq : Nat, (∀ (p0 : List Int) (p1 : Int) (v5 : List Int) (v6 : Bool) (v7 : Int) (r : List Int), e67L57108 qq p0 p1 v5 v6 v7 = some r → (∀ j, Dl Tryz.prog 0 (inn (inn (rgt (lft (rgt (rgt (rgt (bod Tryz.f67)))))))) (g67L57108E0 j p0 p1 v5 v6 v7) (g67L57108S0 p0 p1 v5 v6 v7) (frameQ Tryz.prog 0 (FinQ Tryz.prog 0 Tryz.f67 (.sl (flat intC r) (List.length r) .no) [] 0) [.blk 0, .seq (rgt (rgt (rgt (rgt (bod Tryz.f67)))))]))) := by
  intro qq
  induction qq with
  | zero =>
    exact fun _ _ _ _ _ _ h => nn h
  | succ qq ih =>
    intro p0 p1 v5 v6 v7 r h
    rw [e67L57108] at h
    cases v6
    · replace h := ifF rfl h
      rcases spl h with ⟨h6, h⟩ | ⟨h6, h⟩
      · obtain ⟨x7, h8, h⟩ := obind h
        have k := oA 1 (ix37 (o := .no) h8) <| oB 1 h6 o0
        rcases spl h with ⟨h9, h⟩ | ⟨h9, h⟩
        · have k := oA 0 (ix37 (o := .no) h8) <| oB 1 h9 k
          rcases spl h with ⟨h10, h⟩ | ⟨h10, h⟩
          · obtain ⟨l11, h12, h⟩ := obind h
            obtain ⟨l13, h14, h⟩ := obind h
            exact fun j => lH 1 [] [] [2] [0, 1, 5, 6, 7] (oD (dI l13) <| oD (dI p0) <| oP 2 (apS37 h14 (by simp)) <| oA 0 (ix37 (o := .no) h8) <| oP 1 (apS37 h12 (by simp)) <| oB 1 h10 k) (ih _ _ _ _ _ _ h) (fun j => by kernel_rfl)
          · obtain ⟨l15, h16, h⟩ := obind h
            exact fun j => lH 1 [] [] [1] [0, 1, 5, 6, 7] (oD (dI l15) <| oD (dI p0) <| oP 2 (apS37 h16 (by simp)) <| oA 0 (ix37 (o := .no) h8) <| oB 1 h10 k) (ih _ _ _ _ _ _ h) (fun j => by kernel_rfl)
        · obtain ⟨l17, h18, h⟩ := obind h
          exact fun j => lH 1 [] [] [1] [0, 1, 5, 6, 7] (oD (dI l17) <| oD (dI p0) <| oP 2 (apS37 h18 (by simp)) <| oA 0 (ix37 (o := .no) h8) <| oB 1 h9 k) (ih _ _ _ _ _ _ h) (fun j => by kernel_rfl)
      · obtain ⟨l19, h20, h⟩ := obind h
        obtain rfl := sj h
        exact fun j => lF 0 [] (oD (dI l19) <| oP 2 (apS37 h20 (by simp)) <| oB 1 h6 o0) (by kernel_rfl)
    · replace h := ifT rfl h
      rcases spl h with ⟨h1, h⟩ | ⟨h1, h⟩
      · obtain ⟨x2, h3, h⟩ := obind h
        obtain ⟨l4, h5, h⟩ := obind h
        exact fun j => lH 1 [] [] [1] [0, 1, 5, 6, 7] (oD (dI l4) <| oD (dI p0) <| oP 2 (apS37 h5 (by simp)) <| oA 1 (ix37 (o := .no) h3) <| oB 1 h1 o0) (ih _ _ _ _ _ _ h) (fun j => by kernel_rfl)
      · obtain rfl := sj h
        exact fun j => lF 1 [] (oD (dI v5) <| oB 1 h1 o0) (by kernel_rfl)
theorem c67 {qq : Nat} {p0 : List Int} {p1 : Int} {r : List Int} (h : e67 qq p0 p1 = some r) : CT Tryz.prog 67 [] [.sl (flat intC p0) (List.length p0) .no, ai p1] (.sl (flat intC r) (List.length r) .no) [] 0 := by
  unfold e67 at h
  exact k67 (tH q67 1 [(none, 5, 1)] [] [0] [0, 1, 5, 6, 7] (oD (dI ([] : List Int)) <| oD (dI p0) o0) (l67L57108 _ _ _ _ _ _ _ h) (fun j => by kernel_rfl))
theorem mm67L57108 : ∀ qq : Nat, (∀ (p0 : List Int) (p1 : Int) (v5 : List Int) (v6 : Bool) (v7 : Int) (r : List Int), e67L57108 qq p0 p1 v5 v6 v7 = some r → e67L57108 (qq + 1) p0 p1 v5 v6 v7 = some r) := by
  intro qq
  induction qq with
  | zero => exact fun _ _ _ _ _ _ h => nn h
  | succ qq ih =>
    have ih67L57108 := ih
    intro p0 p1 v5 v6 v7 r h
    rw [e67L57108] at h ⊢
    cases v6
    · replace h := ifF rfl h
      rw [ifFe rfl]
      rcases spl h with ⟨k, h⟩ | ⟨k, h⟩
      · rw [ifTe k]
        obtain ⟨x7, hx, h⟩ := obind h
        refine obk hx ?_
        rcases spl h with ⟨k, h⟩ | ⟨k, h⟩
        · rw [ifTe k]
          rcases spl h with ⟨k, h⟩ | ⟨k, h⟩
          · rw [ifTe k]
            obtain ⟨l11, hx, h⟩ := obind h
            refine obk hx ?_
            obtain ⟨l13, hx, h⟩ := obind h
            refine obk hx ?_
            exact ih67L57108 _ _ _ _ _ _ h
          · rw [ifFe k]
            obtain ⟨l15, hx, h⟩ := obind h
            refine obk hx ?_
            exact ih67L57108 _ _ _ _ _ _ h
        · rw [ifFe k]
          obtain ⟨l17, hx, h⟩ := obind h
          refine obk hx ?_
          exact ih67L57108 _ _ _ _ _ _ h
      · rw [ifFe k]
        obtain ⟨l19, hx, h⟩ := obind h
        refine obk hx ?_
        exact h
    · replace h := ifT rfl h
      rw [ifTe rfl]
      rcases spl h with ⟨k, h⟩ | ⟨k, h⟩
      · rw [ifTe k]
        obtain ⟨x2, hx, h⟩ := obind h
        refine obk hx ?_
        obtain ⟨l4, hx, h⟩ := obind h
        refine obk hx ?_
        exact ih67L57108 _ _ _ _ _ _ h
      · rw [ifFe k]
        exact h
theorem m67L57108 {qq : Nat} {p0 : List Int} {p1 : Int} {v5 : List Int} {v6 : Bool} {v7 : Int} {r : List Int} (h : e67L57108 qq p0 p1 v5 v6 v7 = some r) : e67L57108 (qq + 1) p0 p1 v5 v6 v7 = some r := mm67L57108 _ _ _ _ _ _ _ h
theorem m67 {qq : Nat} {p0 : List Int} {p1 : Int} {r : List Int} (h : e67 qq p0 p1 = some r) : e67 (qq + 1) p0 p1 = some r := by
  unfold e67 at h ⊢
  exact m67L57108 h

end Go.Proofs.YtlbmblbeccafcaaGreat

namespace Go.Proofs.YtlbmblbeccafcaaGreat
open Go Go.Ab

/- scholium/scholiumref07.Numbers -/
mutual
def e36 : Nat → Tm → Int → Int →  Option (List Int)
  | 0, _, _, _ => none
  | qq + 1, p0, p1, p2 =>
    if (p0.k == p1) = true then
      (gapp 8 ([] : List Int) [p0.n]) >>= fun l2 =>
      e36L36847 qq p0 p1 p2 l2 0
    else
      if (p0.k == p2) = true then
        (gapp 8 ([] : List Int) [p0.n]) >>= fun l5 =>
        e36L36847 qq p0 p1 p2 l5 0
      else
        e36L36847 qq p0 p1 p2 [] 0
def e36L36847 : Nat → Tm → Int → Int → (List Int) → Int →  Option (List Int)
  | 0, _, _, _, _, _ => none
  | qq + 1, p0, p1, p2, v7, v8 =>
    if decide (v8 < (List.length p0.sub : Int)) = true then
      (gidx p0.sub v8) >>= fun x5 =>
      (e36 qq x5 p1 p2) >>= fun r7 =>
      e36L58670 qq p0 p1 p2 v8 r7 0 v7
    else
      some v7
def e36L58670 : Nat → Tm → Int → Int → Int → (List Int) → Int → (List Int) →  Option (List Int)
  | 0, _, _, _, _, _, _, _ => none
  | qq + 1, p0, p1, p2, v8, r7, v10, v7 =>
    if decide (v10 < (List.length r7 : Int)) = true then
      (gidx r7 v10) >>= fun x10 =>
      (e67 qq v7 x10) >>= fun r12 =>
      e36L58670 qq p0 p1 p2 v8 r7 (w64 (v10 + 1)) r12
    else
      e36L36847 qq p0 p1 p2 v7 (w64 (v8 + 1))
end
def g36L36847E0 (j : Nat → Value) (p0 : Tm) (p1 : Int) (p2 : Int) (v7 : List Int) (v8 : Int) : List AV := sp j 55 0 [(1, ai p1), (2, ai p2), (3, .mp 0 0), (7, .sl (flat intC v7) (List.length v7) (.st 0 1)), (8, ai v8)]
def g36L36847S0 (p0 : Tm) (p1 : Int) (p2 : Int) (v7 : List Int) (v8 : Int) : LSt := ⟨[(0, .cells [ai p0.k, ai p0.n, .sl (flat tmCells p0.sub) (List.length p0.sub) .no])], 1, [0], 1, []⟩
def g36L36847E1 (j : Nat → Value) (p0 : Tm) (p1 : Int) (p2 : Int) (v7 : List Int) (v8 : Int) : List AV := sp j 55 0 [(1, ai p1), (2, ai p2), (3, .mp 0 0), (7, .sl (flat intC v7) (List.length v7) .no), (8, ai v8)]
def g36L36847S1 (p0 : Tm) (p1 : Int) (p2 : Int) (v7 : List Int) (v8 : Int) : LSt := ⟨[(0, .cells [ai p0.k, ai p0.n, .sl (flat tmCells p0.sub) (List.length p0.sub) .no])], 1, [], 0, []⟩
def g36L36847E2 (j : Nat → Value) (p0 : Tm) (p1 : Int) (p2 : Int) (v7 : List Int) (v8 : Int) : List AV := sp j 55 0 [(1, ai p1), (2, ai p2), (3, .mp 0 0), (7, .sl (flat intC v7) (List.length v7) .full), (8, ai v8)]
def g36L36847S2 (p0 : Tm) (p1 : Int) (p2 : Int) (v7 : List Int) (v8 : Int) : LSt := ⟨[(0, .cells [ai p0.k, ai p0.n, .sl (flat tmCells p0.sub) (List.length p0.sub) .no])], 1, [], 0, []⟩
def g36L58670E0 (j : Nat → Value) (p0 : Tm) (p1 : Int) (p2 : Int) (v8 : Int) (r7 : List Int) (v10 : Int) (v7 : List Int) : List AV := sp j 55 0 [(1, ai p1), (2, ai p2), (3, .mp 0 0), (7, .sl (flat intC v7) (List.length v7) (.st 0 1)), (8, ai v8), (9, .sl (flat intC r7) (List.length r7) .no), (10, ai v10)]
def g36L58670S0 (p0 : Tm) (p1 : Int) (p2 : Int) (v8 : Int) (r7 : List Int) (v10 : Int) (v7 : List Int) : LSt := ⟨[(0, .cells [ai p0.k, ai p0.n, .sl (flat tmCells p0.sub) (List.length p0.sub) .no])], 1, [0], 1, []⟩
def g36L58670E1 (j : Nat → Value) (p0 : Tm) (p1 : Int) (p2 : Int) (v8 : Int) (r7 : List Int) (v10 : Int) (v7 : List Int) : List AV := sp j 55 0 [(1, ai p1), (2, ai p2), (3, .mp 0 0), (7, .sl (flat intC v7) (List.length v7) .no), (8, ai v8), (9, .sl (flat intC r7) (List.length r7) .no), (10, ai v10)]
def g36L58670S1 (p0 : Tm) (p1 : Int) (p2 : Int) (v8 : Int) (r7 : List Int) (v10 : Int) (v7 : List Int) : LSt := ⟨[(0, .cells [ai p0.k, ai p0.n, .sl (flat tmCells p0.sub) (List.length p0.sub) .no])], 1, [], 0, []⟩
def g36L58670E2 (j : Nat → Value) (p0 : Tm) (p1 : Int) (p2 : Int) (v8 : Int) (r7 : List Int) (v10 : Int) (v7 : List Int) : List AV := sp j 55 0 [(1, ai p1), (2, ai p2), (3, .mp 0 0), (7, .sl (flat intC v7) (List.length v7) .full), (8, ai v8), (9, .sl (flat intC r7) (List.length r7) .no), (10, ai v10)]
def g36L58670S2 (p0 : Tm) (p1 : Int) (p2 : Int) (v8 : Int) (r7 : List Int) (v10 : Int) (v7 : List Int) : LSt := ⟨[(0, .cells [ai p0.k, ai p0.n, .sl (flat tmCells p0.sub) (List.length p0.sub) .no])], 1, [], 0, []⟩
theorem q36 : Tryz.prog.funcs[36]? = some Tryz.f36 ∧ Tryz.f36.body.isNone = false := ⟨Tryz.func36, by kernel_rfl⟩
theorem k36 {p0 : Tm} {p1 : Int} {p2 : Int} {r : List Int} (h : CTri Tryz.prog 36 [] [tmA p0, ai p1, ai p2] (.sl (flat intC r) (List.length r) .no) [] 0) : CT Tryz.prog 36 [] [tmA p0, ai p1, ai p2] (.sl (flat intC r) (List.length r) .no) [] 0 := ⟨h, ⟨⟨trivial, trivial, ⟨trivial, dT _⟩, trivial⟩, trivial, trivial, trivial⟩, forall_nil, dI _, forall_nil⟩
theorem a36_36L36847_36L58670 : ∀ qq : Nat, (∀ (p0 : Tm) (p1 : Int) (p2 : Int) (r : List Int), e36 qq p0 p1 p2 = some r → CT Tryz.prog 36 [] [tmA p0, ai p1, ai p2] (.sl (flat intC r) (List.length r) .no) [] 0) ∧ (∀ (p0 : Tm) (p1 : Int) (p2 : Int) (v7 : List Int) (v8 : Int) (r : List Int), e36L36847 qq p0 p1 p2 v7 v8 = some r → (∀ j, Dl Tryz.prog 0 (inn (inn (rgt (lft (rgt (rgt (rgt (bod Tryz.f36)))))))) (g36L36847E0 j p0 p1 p2 v7 v8) (g36L36847S0 p0 p1 p2 v7 v8) (frameQ Tryz.prog 0 (FinQ Tryz.prog 0 Tryz.f36 (.sl (flat intC r) (List.length r) .no) [] 0) [.blk 0, .seq (rgt (rgt (rgt (rgt (bod Tryz.f36)))))])) ∧ (∀ j, Dl Tryz.prog 0 (inn (inn (rgt (lft (rgt (rgt (rgt (bod Tryz.f36)))))))) (g36L36847E1 j p0 p1 p2 v7 v8) (g36L36847S1 p0 p1 p2 v7 v8) (frameQ Tryz.prog 0 (FinQ Tryz.prog 0 Tryz.f36 (.sl (flat intC r) (List.length r) .no) [] 0) [.blk 0, .seq (rgt (rgt (rgt (rgt (bod Tryz.f36)))))])) ∧ (∀ j, Dl Tryz.prog 0 (inn (inn (rgt (lft (rgt (rgt (rgt (bod Tryz.f36)))))))) (g36L36847E2 j p0 p1 p2 v7 v8) (g36L36847S2 p0 p1 p2 v7 v8) (frameQ Tryz.prog 0 (FinQ Tryz.prog 0 Tryz.f36 (.sl (flat intC r) (List.length r) .no) [] 0) [.blk 0, .seq (rgt (rgt (rgt (rgt (bod Tryz.f36)))))]))) ∧ (∀ (p0 : Tm) (p1 : Int) (p2 : Int) (v8 : Int) (r7 : List Int) (v10 : Int) (v7 : List Int) (r : List Int), e36L58670 qq p0 p1 p2 v8 r7 v10 v7 = some r → (∀ j, Dl Tryz.prog 0 (inn (inn (rgt (rgt (inn (lft (rgt (inn (inn (rgt (lft (rgt (rgt (rgt (bod Tryz.f36))))))))))))))) (g36L58670E0 j p0 p1 p2 v8 r7 v10 v7) (g36L58670S0 p0 p1 p2 v8 r7 v10 v7) (frameQ Tryz.prog 0 (FinQ Tryz.prog 0 Tryz.f36 (.sl (flat intC r) (List.length r) .no) [] 0) [.blk 2, .blk 1, .seq (rgt (rgt (inn (inn (rgt (lft (rgt (rgt (rgt (bod Tryz.f36)))))))))), .loop (inn (inn (rgt (lft (rgt (rgt (rgt (bod Tryz.f36)))))))), .blk 0, .seq (rgt (rgt (rgt (rgt (bod Tryz.f36)))))])) ∧ (∀ j, Dl Tryz.prog 0 (inn (inn (rgt (rgt (inn (lft (rgt (inn (inn (rgt (lft (rgt (rgt (rgt (bod Tryz.f36))))))))))))))) (g36L58670E1 j p0 p1 p2 v8 r7 v10 v7) (g36L58670S1 p0 p1 p2 v8 r7 v10 v7) (frameQ Tryz.prog 0 (FinQ Tryz.prog 0 Tryz.f36 (.sl (flat intC r) (List.length r) .no) [] 0) [.blk 2, .blk 1, .seq (rgt (rgt (inn (inn (rgt (lft (rgt (rgt (rgt (bod Tryz.f36)))))))))), .loop (inn (inn (rgt (lft (rgt (rgt (rgt (bod Tryz.f36)))))))), .blk 0, .seq (rgt (rgt (rgt (rgt (bod Tryz.f36)))))])) ∧ (∀ j, Dl Tryz.prog 0 (inn (inn (rgt (rgt (inn (lft (rgt (inn (inn (rgt (lft (rgt (rgt (rgt (bod Tryz.f36))))))))))))))) (g36L58670E2 j p0 p1 p2 v8 r7 v10 v7) (g36L58670S2 p0 p1 p2 v8 r7 v10 v7) (frameQ Tryz.prog 0 (FinQ Tryz.prog 0 Tryz.f36 (.sl (flat intC r) (List.length r) .no) [] 0) [.blk 2, .blk 1, .seq (rgt (rgt (inn (inn (rgt (lft (rgt (rgt (rgt (bod Tryz.f36)))))))))), .loop (inn (inn (rgt (lft (rgt (rgt (rgt (bod Tryz.f36)))))))), .blk 0, .seq (rgt (rgt (rgt (rgt (bod Tryz.f36)))))]))) := by
  intro qq
  induction qq with
  | zero =>
    exact ⟨fun _ _ _ _ h => nn h, fun _ _ _ _ _ _ h => nn h, fun _ _ _ _ _ _ _ _ h => nn h⟩
  | succ qq ih =>
    obtain ⟨ih36, ih36L36847, ih36L58670⟩ := ih
    refine ⟨?_, ?_, ?_⟩
    · intro p0 p1 p2 r h
      rw [e36] at h
      rcases spl h with ⟨h1, h⟩ | ⟨h1, h⟩
      · obtain ⟨l2, h3, h⟩ := obind h
        exact k36 (tH q36 0 [] [0] [0] [1, 2, 3, 7, 8] (oD (dI l2) <| oD (dT p0.sub) <| oP 2 (apS37 h3 (by simp)) <| oB 2 h1 o0) ((ih36L36847 _ _ _ _ _ _ h).1) (fun j => by kernel_rfl))
      · have k := oB 2 h1 o0
        rcases spl h with ⟨h4, h⟩ | ⟨h4, h⟩
        · obtain ⟨l5, h6, h⟩ := obind h
          exact k36 (tH q36 0 [] [0] [0] [1, 2, 3, 7, 8] (oD (dI l5) <| oD (dT p0.sub) <| oP 2 (apS37 h6 (by simp)) <| oB 1 h4 k) ((ih36L36847 _ _ _ _ _ _ h).1) (fun j => by kernel_rfl))
        · exact k36 (tH q36 0 [] [0] [] [1, 2, 3, 7, 8] (oD (dI ([] : List Int)) <| oD (dT p0.sub) <| oB 1 h4 k) ((ih36L36847 _ _ _ _ _ _ h).2.2) (fun j => by kernel_rfl))
    · intro p0 p1 p2 v7 v8 r h
      rw [e36L36847] at h
      refine ⟨?_, ?_, ?_⟩
      · rcases spl h with ⟨h4, h⟩ | ⟨h4, h⟩
        · obtain ⟨x5, h6, h⟩ := obind h
          obtain ⟨r7, h8, h⟩ := obind h
          exact fun j => lH 0 [] [0] [0] [1, 2, 3, 7, 8, 9, 10] (oD (dI r7) <| oD (dI v7) <| oD (dT p0.sub) <| oC 1 [] (ih36 _ _ _ _ h8) <| oA 1 (ix22 (o := .no) h6) <| oB 2 h4 o0) ((ih36L58670 _ _ _ _ _ _ _ _ h).1) (fun j => by kernel_rfl)
        · obtain rfl := sj h
          exact fun j => lF 0 [] (oD (dI v7) <| oB 2 h4 o0) (by kernel_rfl)
      · rcases spl h with ⟨h4, h⟩ | ⟨h4, h⟩
        · obtain ⟨x5, h6, h⟩ := obind h
          obtain ⟨r7, h8, h⟩ := obind h
          exact fun j => lH 0 [] [0] [] [1, 2, 3, 7, 8, 9, 10] (oD (dI r7) <| oD (dI v7) <| oD (dT p0.sub) <| oC 1 [] (ih36 _ _ _ _ h8) <| oA 1 (ix22 (o := .no) h6) <| oB 2 h4 o0) ((ih36L58670 _ _ _ _ _ _ _ _ h).2.1) (fun j => by kernel_rfl)
        · obtain rfl := sj h
          exact fun j => lF 0 [] (oD (dI v7) <| oB 2 h4 o0) (by kernel_rfl)
      · rcases spl h with ⟨h4, h⟩ | ⟨h4, h⟩
        · obtain ⟨x5, h6, h⟩ := obind h
          obtain ⟨r7, h8, h⟩ := obind h
          exact fun j => lH 0 [] [0] [] [1, 2, 3, 7, 8, 9, 10] (oD (dI r7) <| oD (dI v7) <| oD (dT p0.sub) <| oC 1 [] (ih36 _ _ _ _ h8) <| oA 1 (ix22 (o := .no) h6) <| oB 2 h4 o0) ((ih36L58670 _ _ _ _ _ _ _ _ h).2.2) (fun j => by kernel_rfl)
        · obtain rfl := sj h
          exact fun j => lF 0 [] (oD (dI v7) <| oB 2 h4 o0) (by kernel_rfl)
    · intro p0 p1 p2 v8 r7 v10 v7 r h
      rw [e36L58670] at h
      refine ⟨?_, ?_, ?_⟩
      · rcases spl h with ⟨h9, h⟩ | ⟨h9, h⟩
        · obtain ⟨x10, h11, h⟩ := obind h
          obtain ⟨r12, h13, h⟩ := obind h
          exact fun j => lH 1 [] [0] [] [1, 2, 3, 7, 8, 9, 10] (oD (dI r7) <| oD (dI r12) <| oD (dT p0.sub) <| oC 1 [] (c67 h13) <| oA 0 (ix37 (o := .no) h11) <| oB 1 h9 o0) ((ih36L58670 _ _ _ _ _ _ _ _ h).2.1) (fun j => by kernel_rfl)
        · exact fun j => lH 1 [] [0] [0] [1, 2, 3, 7, 8] (oD (dI v7) <| oD (dT p0.sub) <| oB 1 h9 o0) ((ih36L36847 _ _ _ _ _ _ h).1) (fun j => by kernel_rfl)
      · rcases spl h with ⟨h9, h⟩ | ⟨h9, h⟩
        · obtain ⟨x10, h11, h⟩ := obind h
          obtain ⟨r12, h13, h⟩ := obind h
          exact fun j => lH 1 [] [0] [] [1, 2, 3, 7, 8, 9, 10] (oD (dI r7) <| oD (dI r12) <| oD (dT p0.sub) <| oC 1 [] (c67 h13) <| oA 0 (ix37 (o := .no) h11) <| oB 1 h9 o0) ((ih36L58670 _ _ _ _ _ _ _ _ h).2.1) (fun j => by kernel_rfl)
        · exact fun j => lH 1 [] [0] [] [1, 2, 3, 7, 8] (oD (dI v7) <| oD (dT p0.sub) <| oB 1 h9 o0) ((ih36L36847 _ _ _ _ _ _ h).2.1) (fun j => by kernel_rfl)
      · rcases spl h with ⟨h9, h⟩ | ⟨h9, h⟩
        · obtain ⟨x10, h11, h⟩ := obind h
          obtain ⟨r12, h13, h⟩ := obind h
          exact fun j => lH 1 [] [0] [] [1, 2, 3, 7, 8, 9, 10] (oD (dI r7) <| oD (dI r12) <| oD (dT p0.sub) <| oC 1 [] (c67 h13) <| oA 0 (ix37 (o := .no) h11) <| oB 1 h9 o0) ((ih36L58670 _ _ _ _ _ _ _ _ h).2.1) (fun j => by kernel_rfl)
        · exact fun j => lH 1 [] [0] [] [1, 2, 3, 7, 8] (oD (dI v7) <| oD (dT p0.sub) <| oB 1 h9 o0) ((ih36L36847 _ _ _ _ _ _ h).2.2) (fun j => by kernel_rfl)
theorem c36 {qq : Nat} {p0 : Tm} {p1 : Int} {p2 : Int} {r : List Int} (h : e36 qq p0 p1 p2 = some r) : CT Tryz.prog 36 [] [tmA p0, ai p1, ai p2] (.sl (flat intC r) (List.length r) .no) [] 0 := (a36_36L36847_36L58670 _).1 _ _ _ _ h
theorem mm36_36L36847_36L58670 : ∀ qq : Nat, (∀ (p0 : Tm) (p1 : Int) (p2 : Int) (r : List Int), e36 qq p0 p1 p2 = some r → e36 (qq + 1) p0 p1 p2 = some r) ∧ (∀ (p0 : Tm) (p1 : Int) (p2 : Int) (v7 : List Int) (v8 : Int) (r : List Int), e36L36847 qq p0 p1 p2 v7 v8 = some r → e36L36847 (qq + 1) p0 p1 p2 v7 v8 = some r) ∧ (∀ (p0 : Tm) (p1 : Int) (p2 : Int) (v8 : Int) (r7 : List Int) (v10 : Int) (v7 : List Int) (r : List Int), e36L58670 qq p0 p1 p2 v8 r7 v10 v7 = some r → e36L58670 (qq + 1) p0 p1 p2 v8 r7 v10 v7 = some r) := by
  intro qq
  induction qq with
  | zero => exact ⟨fun _ _ _ _ h => nn h, fun _ _ _ _ _ _ h => nn h, fun _ _ _ _ _ _ _ _ h => nn h⟩
  | succ qq ih =>
    obtain ⟨ih36, ih36L36847, ih36L58670⟩ := ih
    refine ⟨?_, ?_, ?_⟩
    · intro p0 p1 p2 r h
      rw [e36] at h ⊢
      rcases spl h with ⟨k, h⟩ | ⟨k, h⟩
      · rw [ifTe k]
        obtain ⟨l2, hx, h⟩ := obind h
        refine obk hx ?_
        exact ih36L36847 _ _ _ _ _ _ h
      · rw [ifFe k]
        rcases spl h with ⟨k, h⟩ | ⟨k, h⟩
        · rw [ifTe k]
          obtain ⟨l5, hx, h⟩ := obind h
          refine obk hx ?_
          exact ih36L36847 _ _ _ _ _ _ h
        · rw [ifFe k]
          exact ih36L36847 _ _ _ _ _ _ h
    · intro p0 p1 p2 v7 v8 r h
      rw [e36L36847] at h ⊢
      rcases spl h with ⟨k, h⟩ | ⟨k, h⟩
      · rw [ifTe k]
        obtain ⟨x5, hx, h⟩ := obind h
        refine obk hx ?_
        obtain ⟨r7, hx, h⟩ := obind h
        refine obk (ih36 _ _ _ _ hx) ?_
        exact ih36L58670 _ _ _ _ _ _ _ _ h
      · rw [ifFe k]
        exact h
    · intro p0 p1 p2 v8 r7 v10 v7 r h
      rw [e36L58670] at h ⊢
      rcases spl h with ⟨k, h⟩ | ⟨k, h⟩
      · rw [ifTe k]
        obtain ⟨x10, hx, h⟩ := obind h
        refine obk hx ?_
        obtain ⟨r12, hx, h⟩ := obind h
        refine obk (m67 hx) ?_
        exact ih36L58670 _ _ _ _ _ _ _ _ h
      · rw [ifFe k]
        exact ih36L36847 _ _ _ _ _ _ h
theorem m36 {qq : Nat} {p0 : Tm} {p1 : Int} {p2 : Int} {r : List Int} (h : e36 qq p0 p1 p2 = some r) : e36 (qq + 1) p0 p1 p2 = some r := (mm36_36L36847_36L58670 _).1 _ _ _ _ h
theorem m36L36847 {qq : Nat} {p0 : Tm} {p1 : Int} {p2 : Int} {v7 : List Int} {v8 : Int} {r : List Int} (h : e36L36847 qq p0 p1 p2 v7 v8 = some r) : e36L36847 (qq + 1) p0 p1 p2 v7 v8 = some r := (mm36_36L36847_36L58670 _).2.1 _ _ _ _ _ _ h
theorem m36L58670 {qq : Nat} {p0 : Tm} {p1 : Int} {p2 : Int} {v8 : Int} {r7 : List Int} {v10 : Int} {v7 : List Int} {r : List Int} (h : e36L58670 qq p0 p1 p2 v8 r7 v10 v7 = some r) : e36L58670 (qq + 1) p0 p1 p2 v8 r7 v10 v7 = some r := (mm36_36L36847_36L58670 _).2.2 _ _ _ _ _ _ _ _ h

end Go.Proofs.YtlbmblbeccafcaaGreat

namespace Go.Proofs.YtlbmblbeccafcaaGreat
open Go Go.Ab

/- scholium/scholiumref07.Right -/
def e35L39885 : Nat → Int → (List Int) → Int →  Option (Bool)
  | 0, _, _, _ => none
  | qq + 1, p2, r7, v8 =>
    if decide (v8 < (List.length r7 : Int)) = true then
      (gidx r7 v8) >>= fun x10 =>
      if decide (x10 ≥ p2) = true then
        some false
      else
        e35L39885 qq p2 r7 (w64 (v8 + 1))
    else
      some true
def e35 (qq : Nat) (p0 : Tm) (p1 : Int) (p2 : Int) : Option (Bool) :=
  (e65 qq p0) >>= fun r1 =>
  if r1 = true then
    (e66 qq p0 0) >>= fun r4 =>
    if decide (r4 > p1) = true then
      some false
    else
      (e36 qq p0 6 7) >>= fun r7 =>
      e35L39885 qq p2 r7 0
  else
    some false
def g35L39885E0 (j : Nat → Value) (p2 : Int) (r7 : List Int) (v8 : Int) : List AV := sp j 32 0 [(2, ai p2), (7, .sl (flat intC r7) (List.length r7) .no), (8, ai v8)]
def g35L39885S0 (p2 : Int) (r7 : List Int) (v8 : Int) : LSt := ⟨[], 0, [], 0, []⟩
theorem q35 : Tryz.prog.funcs[35]? = some Tryz.f35 ∧ Tryz.f35.body.isNone = false := ⟨Tryz.func35, by kernel_rfl⟩
theorem k35 {p0 : Tm} {p1 : Int} {p2 : Int} {r : Bool} (h : CTri Tryz.prog 35 [] [tmA p0, ai p1, ai p2] (ab r) [] 0) : CT Tryz.prog 35 [] [tmA p0, ai p1, ai p2] (ab r) [] 0 := ⟨h, ⟨⟨trivial, trivial, ⟨trivial, dT _⟩, trivial⟩, trivial, trivial, trivial⟩, forall_nil, trivial, forall_nil⟩
theorem l35L39885 : ∀ qq : Nat, (∀ (p2 : Int) (r7 : List Int) (v8 : Int) (r : Bool), e35L39885 qq p2 r7 v8 = some r → (∀ j, Dl Tryz.prog 0 (inn (inn (rgt (lft (rgt (rgt (rgt (bod Tryz.f35)))))))) (g35L39885E0 j p2 r7 v8) (g35L39885S0 p2 r7 v8) (frameQ Tryz.prog 0 (FinQ Tryz.prog 0 Tryz.f35 (ab r) [] 0) [.blk 0, .seq (rgt (rgt (rgt (rgt (bod Tryz.f35)))))]))) := by
  intro qq
  induction qq with
  | zero =>
    exact fun _ _ _ _ h => nn h
  | succ qq ih =>
    intro p2 r7 v8 r h
    rw [e35L39885] at h
    rcases spl h with ⟨h9, h⟩ | ⟨h9, h⟩
    · obtain ⟨x10, h11, h⟩ := obind h
      have k := oA 0 (ix37 (o := .no) h11) <| oB 1 h9 o0
      rcases spl h with ⟨h12, h⟩ | ⟨h12, h⟩
      · obtain rfl := sj h
        exact fun j => lF 0 [] (oB 1 h12 k) (by kernel_rfl)
      · exact fun j => lH 1 [] [] [] [2, 7, 8] (oD (dI r7) <| oB 1 h12 k) (ih _ _ _ _ h) (fun j => by kernel_rfl)
    · obtain rfl := sj h
      exact fun j => lF 0 [] (oB 1 h9 o0) (by kernel_rfl)
theorem c35 {qq : Nat} {p0 : Tm} {p1 : Int} {p2 : Int} {r : Bool} (h : e35 qq p0 p1 p2 = some r) : CT Tryz.prog 35 [] [tmA p0, ai p1, ai p2] (ab r) [] 0 := by
  unfold e35 at h
  obtain ⟨r1, h2, h⟩ := obind h
  rcases spl h with ⟨h3, h⟩ | ⟨h3, h⟩
  · obtain ⟨r4, h5, h⟩ := obind h
    have k := oC 2 [] (c66 h5) <| oK 1 [] h3 (c65 h2) o0
    rcases spl h with ⟨h6, h⟩ | ⟨h6, h⟩
    · obtain rfl := sj h
      exact k35 (tF q35 0 [] (oB 0 h6 k) (by kernel_rfl))
    · obtain ⟨r7, h8, h⟩ := obind h
      exact k35 (tH q35 0 [] [] [] [2, 7, 8] (oD (dI r7) <| oC 1 [] (c36 h8) <| oB 0 h6 k) (l35L39885 _ _ _ _ _ h) (fun j => by kernel_rfl))
  · obtain rfl := sj h
    exact k35 (tF q35 1 [] (oK 1 [] h3 (c65 h2) o0) (by kernel_rfl))
theorem mm35L39885 : ∀ qq : Nat, (∀ (p2 : Int) (r7 : List Int) (v8 : Int) (r : Bool), e35L39885 qq p2 r7 v8 = some r → e35L39885 (qq + 1) p2 r7 v8 = some r) := by
  intro qq
  induction qq with
  | zero => exact fun _ _ _ _ h => nn h
  | succ qq ih =>
    have ih35L39885 := ih
    intro p2 r7 v8 r h
    rw [e35L39885] at h ⊢
    rcases spl h with ⟨k, h⟩ | ⟨k, h⟩
    · rw [ifTe k]
      obtain ⟨x10, hx, h⟩ := obind h
      refine obk hx ?_
      rcases spl h with ⟨k, h⟩ | ⟨k, h⟩
      · rw [ifTe k]
        exact h
      · rw [ifFe k]
        exact ih35L39885 _ _ _ _ h
    · rw [ifFe k]
      exact h
theorem m35L39885 {qq : Nat} {p2 : Int} {r7 : List Int} {v8 : Int} {r : Bool} (h : e35L39885 qq p2 r7 v8 = some r) : e35L39885 (qq + 1) p2 r7 v8 = some r := mm35L39885 _ _ _ _ _ h
theorem m35 {qq : Nat} {p0 : Tm} {p1 : Int} {p2 : Int} {r : Bool} (h : e35 qq p0 p1 p2 = some r) : e35 (qq + 1) p0 p1 p2 = some r := by
  unfold e35 at h ⊢
  obtain ⟨r1, hx, h⟩ := obind h
  refine obk (m65 hx) ?_
  rcases spl h with ⟨k, h⟩ | ⟨k, h⟩
  · rw [ifTe k]
    obtain ⟨r4, hx, h⟩ := obind h
    refine obk (m66 hx) ?_
    rcases spl h with ⟨k, h⟩ | ⟨k, h⟩
    · rw [ifTe k]
      exact h
    · rw [ifFe k]
      obtain ⟨r7, hx, h⟩ := obind h
      refine obk (m36 hx) ?_
      exact m35L39885 h
  · rw [ifFe k]
    exact h

end Go.Proofs.YtlbmblbeccafcaaGreat

namespace Go.Proofs.YtlbmblbeccafcaaGreat
open Go Go.Ab

/- scholium/scholiumref12.Closed -/
def e10 (qq : Nat) (p0 : Tm) (p1 : Int) : Option (Bool) :=
  (e35 qq p0 0 p1) >>= fun r1 =>
  if r1 = true then
    (e36 qq p0 8 8) >>= fun r4 =>
    some ((List.length r4 : Int) == 0)
  else
    some false
theorem q10 : Tryz.prog.funcs[10]? = some Tryz.f10 ∧ Tryz.f10.body.isNone = false := ⟨Tryz.func10, by kernel_rfl⟩
theorem k10 {p0 : Tm} {p1 : Int} {r : Bool} (h : CTri Tryz.prog 10 [] [tmA p0, ai p1] (ab r) [] 0) : CT Tryz.prog 10 [] [tmA p0, ai p1] (ab r) [] 0 := ⟨h, ⟨⟨trivial, trivial, ⟨trivial, dT _⟩, trivial⟩, trivial, trivial⟩, forall_nil, trivial, forall_nil⟩
theorem c10 {qq : Nat} {p0 : Tm} {p1 : Int} {r : Bool} (h : e10 qq p0 p1 = some r) : CT Tryz.prog 10 [] [tmA p0, ai p1] (ab r) [] 0 := by
  unfold e10 at h
  obtain ⟨r1, h2, h⟩ := obind h
  rcases spl h with ⟨h3, h⟩ | ⟨h3, h⟩
  · obtain ⟨r4, h5, h⟩ := obind h
    obtain rfl := sj h
    exact k10 (tF q10 2 [] (oC 1 [] (c36 h5) <| oK 1 [] h3 (c35 h2) o0) (by kernel_rfl))
  · obtain rfl := sj h
    exact k10 (tF q10 0 [] (oK 1 [] h3 (c35 h2) o0) (by kernel_rfl))
theorem m10 {qq : Nat} {p0 : Tm} {p1 : Int} {r : Bool} (h : e10 qq p0 p1 = some r) : e10 (qq + 1) p0 p1 = some r := by
  unfold e10 at h ⊢
  obtain ⟨r1, hx, h⟩ := obind h
  refine obk (m35 hx) ?_
  rcases spl h with ⟨k, h⟩ | ⟨k, h⟩
  · rw [ifTe k]
    obtain ⟨r4, hx, h⟩ := obind h
    refine obk (m36 hx) ?_
    exact h
  · rw [ifFe k]
    exact h

end Go.Proofs.YtlbmblbeccafcaaGreat

namespace Go.Proofs.YtlbmblbeccafcaaGreat
open Go Go.Ab

theorem tot_put : ∀ (r l : List Int) (n : Int) (v : Nat) (acc : List Int) (done : Bool), l.drop v = r → l.length ≤ 8192 → acc.length ≤ v + 1 → (done = false → acc.length ≤ v) → v ≤ l.length →
    Tot (fun q => e67L57108 q l n acc done (v : Int)) fun o => o.length ≤ acc.length + r.length + 1 ∧ (done = true → o.length ≤ acc.length + r.length) ∧ ∀ x, x ∈ o ↔ x ∈ acc ∨ x ∈ r ∨ (done = false ∧ x = n)
  | [], l, n, v, acc, done, hd, hl, ha, hb, hv => by
    refine Tot.succ ?_
    simp only [e67L57108]
    cases done with
    | true =>
      refine Tot.ite (fun _ => Tot.ite (fun h => ?_) fun _ => Tot.ret ⟨(by simp <;> omega), fun _ => (by simp), fun x => by simp⟩) (fun h => by cases h)
      rw [drop_nil hd] at h; cases h
    | false =>
      refine Tot.ite (fun h => by cases h) (fun _ => Tot.ite (fun h => ?_) fun _ => Tot.pure (gapp_ok (by simp <;> omega)) (Tot.ret ⟨(by simp), fun h => (by cases h), fun x => by simp⟩))
      rw [drop_nil hd] at h; cases h
  | y :: r, l, n, v, acc, done, hd, hl, ha, hb, hv => by
    have hlt := drop_lt hd
    refine Tot.succ ?_
    simp only [e67L57108]
    cases done with
    | true =>
      refine Tot.ite (fun _ => Tot.ite (fun _ => Tot.pure (drop_idx hd) (Tot.pure (gapp_ok (by simp <;> omega)) ?_)) fun h => ?_) (fun h => by cases h)
      · rw [w64_nat v (by omega)]
        refine (tot_put r l n (v + 1) (acc ++ [y]) true (drop_next hd) hl (by simp <;> omega) (fun h => by cases h) (by omega)).mono fun o ho => ?_
        refine ⟨by have := ho.2.1 rfl; simp at this ⊢ <;> omega, fun _ => by have := ho.2.1 rfl; simp at this ⊢ <;> omega, fun x => ?_⟩
        rw [ho.2.2 x]; simp [or_assoc]
      · rw [drop_dec hd] at h; cases h
    | false =>
      have hb' := hb rfl
      refine Tot.ite (fun h => by cases h) (fun _ => Tot.ite (fun _ => Tot.pure (drop_idx hd) (Tot.ite (fun h1 => Tot.ite (fun h2 => Tot.pure (gapp_ok (by simp <;> omega)) (Tot.pure (gapp_ok (by simp <;> omega)) ?_)) fun h2 => Tot.pure (gapp_ok (by simp <;> omega)) ?_) fun h1 => Tot.pure (gapp_ok (by simp <;> omega)) ?_)) fun h => ?_)
      · rw [w64_nat v (by omega)]
        refine (tot_put r l n (v + 1) (acc ++ [n] ++ [y]) true (drop_next hd) hl (by simp <;> omega) (fun h => by cases h) (by omega)).mono fun o ho => ?_
        refine ⟨by have := ho.2.1 rfl; simp at this ⊢ <;> omega, fun h => (by cases h), fun x => ?_⟩
        rw [ho.2.2 x]; simp; grind
      · rw [w64_nat v (by omega)]
        refine (tot_put r l n (v + 1) (acc ++ [y]) true (drop_next hd) hl (by simp <;> omega) (fun h => by cases h) (by omega)).mono fun o ho => ?_
        have e : y = n := by simp at h1 h2; omega
        subst e
        refine ⟨by have := ho.2.1 rfl; simp at this ⊢ <;> omega, fun h => (by cases h), fun x => ?_⟩
        rw [ho.2.2 x]; simp; grind
      · rw [w64_nat v (by omega)]
        refine (tot_put r l n (v + 1) (acc ++ [y]) false (drop_next hd) hl (by simp <;> omega) (fun _ => by simp <;> omega) (by omega)).mono fun o ho => ?_
        refine ⟨by have := ho.1; simp at this ⊢; omega, fun h => (by cases h), fun x => ?_⟩
        rw [ho.2.2 x]; simp; grind
      · rw [drop_dec hd] at h; cases h
theorem tot_put0 (l : List Int) (n : Int) (hl : l.length ≤ 8192) : Tot (fun q => e67 q l n) fun o => o.length ≤ l.length + 1 ∧ ∀ x, x ∈ o ↔ x ∈ l ∨ x = n := by
  simp only [e67]
  refine (tot_put l l n 0 [] false rfl hl (by simp) (fun _ => by simp) (by omega)).mono fun o ho => ⟨by have := ho.1; simpa using this, fun x => by rw [ho.2.2 x]; simp⟩

theorem tot_NumIn {p : Tm} {a b : Int} {v : Nat} {r7 : List Int} {Q : List Int → Prop} {N : Nat} {S : Int → Prop} (hN : N ≤ 8192) (hr : r7.length ≤ 8192) (hv : v < 9223372036854775807)
    (K : ∀ acc : List Int, acc.length ≤ N → (∀ x, x ∈ acc ↔ S x) → Tot (fun q => e36L36847 q p a b acc ((v + 1 : Nat) : Int)) Q) :
    ∀ (m : List Int) (w : Nat) (acc : List Int), r7.drop w = m → acc.length + m.length ≤ N → (∀ x, (x ∈ acc ∨ x ∈ m) ↔ S x) → Tot (fun q => e36L58670 q p a b (v : Int) r7 (w : Int) acc) Q
  | [], w, acc, hd, hl, hm => by
    refine Tot.succ ?_
    simp only [e36L58670]
    refine Tot.ite (fun h => ?_) fun _ => ?_
    · rw [drop_nil hd] at h; cases h
    · rw [w64_nat v (by omega)]
      exact K acc (by simpa using hl) fun x => by simpa using hm x
  | y :: m, w, acc, hd, hl, hm => by
    have hlt := drop_lt hd
    refine Tot.succ ?_
    simp only [e36L58670]
    refine Tot.ite (fun _ => Tot.pure (drop_idx hd) ((tot_put0 acc y (by simp at hl; omega)).bind fun o ho => ?_)) fun h => ?_
    · rw [w64_nat w (by omega)]
      refine tot_NumIn hN hr hv K m (w + 1) o (drop_next hd) (by simp at hl; have := ho.1; omega) fun x => ?_
      rw [← hm x, ho.2 x]; simp [or_assoc]
    · rw [drop_dec hd] at h; cases h
/-- the same numbers -/
def Same (r m : List Int) : Prop := ∀ x, x ∈ r ↔ x ∈ m
mutual
theorem tot_Numbers : ∀ (t : Tm) (a b : Int), t.Ok → t.nodes ≤ 8192 → Tot (fun q => e36 q t a b) fun o => o.length ≤ t.nodes ∧ Same o (colT t a b)
  | .mk k n l, a, b, ho, hn => by
    refine Tot.succ ?_
    simp only [e36, Tm.k, Tm.n]
    rw [Tm.nodes] at hn
    have key : ∀ acc : List Int, acc.length ≤ 1 → acc = (if k = a ∨ k = b then [n] else []) → Tot (fun q => e36L36847 q (.mk k n l) a b acc 0) fun o => o.length ≤ (Tm.mk k n l).nodes ∧ Same o (colT (.mk k n l) a b) := by
      intro acc h1 h2
      refine (tot_NumbersL l (.mk k n l) 0 a b acc rfl ho.1 ho.2 (by omega)).mono fun o ho => ⟨by rw [Tm.nodes]; have := ho.1; omega, fun x => ?_⟩
      rw [ho.2 x, colT, h2]; simp
    refine Tot.ite (fun h => Tot.pure (gapp_ok (by simp)) ?_) fun h => Tot.ite (fun h' => Tot.pure (gapp_ok (by simp)) ?_) fun h' => ?_
    · exact key _ (by simp) (by rw [if_pos (.inl (by simpa using h))]; rfl)
    · exact key _ (by simp) (by rw [if_pos (.inr (by simpa using h'))]; rfl)
    · exact key _ (by simp) (by rw [if_neg (by simp at h h'; simp [h, h'])])
theorem tot_NumbersL : ∀ (l : List Tm) (p : Tm) (v : Nat) (a b : Int) (acc : List Int), p.sub.drop v = l → p.sub.length < 9223372036854775808 → OkL l → acc.length + nodesL l ≤ 8192 →
    Tot (fun q => e36L36847 q p a b acc (v : Int)) fun o => o.length ≤ acc.length + nodesL l ∧ ∀ x, x ∈ o ↔ x ∈ acc ∨ x ∈ colL l a b
  | [], p, v, a, b, acc, hd, hl, ho, hn => by
    refine Tot.succ ?_
    simp only [e36L36847]
    refine Tot.ite (fun h => ?_) fun _ => Tot.ret ⟨by omega, fun x => by rw [colL]; simp⟩
    rw [drop_nil hd] at h; cases h
  | t :: l, p, v, a, b, acc, hd, hl, ho, hn => by
    have hlt := drop_lt hd
    rw [nodesL] at hn
    have IH := fun acc' h => tot_NumbersL l p (v + 1) a b acc' (drop_next hd) hl ho.2 h
    refine Tot.succ ?_
    simp only [e36L36847]
    refine Tot.ite (fun _ => Tot.pure (drop_idx hd) ((tot_Numbers t a b ho.1 (by omega)).bind fun r7 hr => ?_)) fun h => ?_
    · refine tot_NumIn (N := acc.length + t.nodes) (S := fun x => x ∈ acc ∨ x ∈ colT t a b) (by omega) (by have := hr.1; omega) (by omega) (fun acc' h1 h2 => ?_) r7 0 acc rfl (by have := hr.1; omega) fun x => by rw [hr.2 x]
      refine (IH acc' (by omega)).mono fun o ho => ⟨by rw [nodesL]; have := ho.1; omega, fun x => ?_⟩
      rw [ho.2 x, h2 x, colL]; simp [or_assoc]
    · rw [drop_dec hd] at h; cases h
end

theorem ev_all : ∀ (r l : List Int) (n : Int) (v : Nat), l.drop v = r → l.length ≤ 8192 → Evt (fun q => e35L39885 q n l (v : Int)) (r.all fun x => decide (x < n))
  | [], l, n, v, hd, hl => by
    refine Evt.succ ?_
    simp only [e35L39885]
    exact Evt.ifF (drop_nil hd) Evt.ret
  | y :: r, l, n, v, hd, hl => by
    have hlt := drop_lt hd
    refine Evt.succ ?_
    simp only [e35L39885]
    refine Evt.ifT (drop_dec hd) (Evt.pure (drop_idx hd) ?_)
    by_cases h : y ≥ n
    · exact Evt.ifT (by simpa using h) (Evt.ret.eq (by simp <;> omega))
    · refine Evt.ifF (by simpa using h) ?_
      rw [w64_nat v (by omega)]
      refine (ev_all r l n (v + 1) (drop_next hd) hl).eq ?_
      simp [show y < n by omega]
theorem all_same {r m : List Int} (h : Same r m) (n : Int) : (r.all fun x => decide (x < n)) = m.all fun x => decide (x < n) := by
  rw [Bool.eq_iff_iff]
  simp only [List.all_eq_true]
  exact ⟨fun k x hx => k x ((h x).2 hx), fun k x hx => k x ((h x).1 hx)⟩
theorem ev_rRight (t : Tm) (f n : Int) (ho : t.Ok) : Evt (fun q => e35 q t f n) (rightT t f n) := by
  simp only [e35]
  refine (ev_rShaped t ho).bind ?_
  unfold rightT
  by_cases h : shapedT t = true
  · have hs := shapedT_spec h
    refine Evt.ifT h ((ev_rLoose t 0 hs.2.2 (by omega) (by omega)).bind ?_)
    rw [h]
    by_cases h2 : looT t 0 > f
    · exact Evt.ifT (by simpa using h2) (Evt.ret.eq (by simp <;> omega))
    · obtain ⟨r, h3, h4, h5⟩ := tot_Numbers t 6 7 ho hs.1
      refine Evt.ifF (by simpa using h2) (h3.bind ((ev_all r r n 0 rfl (by omega)).eq ?_))
      rw [all_same h5, show decide (looT t 0 ≤ f) = true by simp <;> omega]; simp
  · exact Evt.ifF (by simpa using h) (Evt.ret.eq (by simp [h]))
/-- closed, with so many entries -/
def closedT (t : Tm) (n : Int) : Bool := rightT t 0 n && (colT t 8 8).isEmpty
theorem rightT_shaped {t : Tm} {f n : Int} (h : rightT t f n = true) : shapedT t = true := by
  unfold rightT at h; simp at h; exact h.1.1
theorem ev_rClosed (t : Tm) (n : Int) (ho : t.Ok) : Evt (fun q => e10 q t n) (closedT t n) := by
  simp only [e10]
  refine (ev_rRight t 0 n ho).bind ?_
  unfold closedT
  by_cases h : rightT t 0 n = true
  · have hs := shapedT_spec (rightT_shaped h)
    obtain ⟨r, h3, h4, h5⟩ := tot_Numbers t 8 8 ho hs.1
    refine Evt.ifT h (h3.bind (Evt.ret.eq ?_))
    rw [h, Bool.true_and, Bool.eq_iff_iff]
    simp only [beq_iff_eq, List.isEmpty_iff]
    constructor
    · intro h6
      have h6' : r = [] := List.length_eq_zero_iff.1 (by omega)
      refine List.eq_nil_iff_forall_not_mem.2 fun x hx => ?_
      rw [← h5 x, h6'] at hx; cases hx
    · intro h6
      have : r = [] := List.eq_nil_iff_forall_not_mem.2 fun x hx => by rw [h5 x, h6] at hx; cases hx
      rw [this]; rfl
  · exact Evt.ifF (by simpa using h) (Evt.ret.eq (by simp [h]))
end Go.Proofs.YtlbmblbeccafcaaGreat

namespace Go.Proofs.YtlbmblbeccafcaaGreat
open Go Go.Ab

/- scholium/term.Loose -/
def e70 (qq : Nat) (p0 : Tm) : Option (Int) :=
  (e51 qq p0) >>= fun r1 =>
  if r1 = true then
    (e72 qq p0 0) >>= fun r4 =>
    some r4
  else
    some 0
theorem q70 : Tryz.prog.funcs[70]? = some Tryz.f70 ∧ Tryz.f70.body.isNone = false := ⟨Tryz.func70, by kernel_rfl⟩
theorem k70 {p0 : Tm} {r : Int} (h : CTri Tryz.prog 70 [] [tmA p0] (ai r) [] 0) : CT Tryz.prog 70 [] [tmA p0] (ai r) [] 0 := ⟨h, ⟨⟨trivial, trivial, ⟨trivial, dT _⟩, trivial⟩, trivial⟩, forall_nil, trivial, forall_nil⟩
theorem c70 {qq : Nat} {p0 : Tm} {r : Int} (h : e70 qq p0 = some r) : CT Tryz.prog 70 [] [tmA p0] (ai r) [] 0 := by
  unfold e70 at h
  obtain ⟨r1, h2, h⟩ := obind h
  rcases spl h with ⟨h3, h⟩ | ⟨h3, h⟩
  · obtain ⟨r4, h5, h⟩ := obind h
    obtain rfl := sj h
    exact k70 (tF q70 0 [] (oC 2 [] (c72 h5) <| oK 1 [] h3 (c51 h2) o0) (by kernel_rfl))
  · obtain rfl := sj h
    exact k70 (tF q70 1 [] (oK 1 [] h3 (c51 h2) o0) (by kernel_rfl))
theorem m70 {qq : Nat} {p0 : Tm} {r : Int} (h : e70 qq p0 = some r) : e70 (qq + 1) p0 = some r := by
  unfold e70 at h ⊢
  obtain ⟨r1, hx, h⟩ := obind h
  refine obk (m51 hx) ?_
  rcases spl h with ⟨k, h⟩ | ⟨k, h⟩
  · rw [ifTe k]
    obtain ⟨r4, hx, h⟩ := obind h
    refine obk (m72 hx) ?_
    exact h
  · rw [ifFe k]
    exact h

end Go.Proofs.YtlbmblbeccafcaaGreat

namespace Go.Proofs.YtlbmblbeccafcaaGreat
open Go Go.Ab

/- scholium/leaf.closed -/
def e40 (qq : Nat) (p0 : Tm) : Option (Bool) :=
  (e51 qq p0) >>= fun r1 =>
  if r1 = true then
    (e70 qq p0) >>= fun r4 =>
    if (r4 == 0) = true then
      (e71 qq p0) >>= fun r7 =>
      some ((List.length r7 : Int) == 0)
    else
      some false
  else
    some false
theorem q40 : Tryz.prog.funcs[40]? = some Tryz.f40 ∧ Tryz.f40.body.isNone = false := ⟨Tryz.func40, by kernel_rfl⟩
theorem k40 {p0 : Tm} {r : Bool} (h : CTri Tryz.prog 40 [] [tmA p0] (ab r) [] 0) : CT Tryz.prog 40 [] [tmA p0] (ab r) [] 0 := ⟨h, ⟨⟨trivial, trivial, ⟨trivial, dT _⟩, trivial⟩, trivial⟩, forall_nil, trivial, forall_nil⟩
theorem c40 {qq : Nat} {p0 : Tm} {r : Bool} (h : e40 qq p0 = some r) : CT Tryz.prog 40 [] [tmA p0] (ab r) [] 0 := by
  unfold e40 at h
  obtain ⟨r1, h2, h⟩ := obind h
  rcases spl h with ⟨h3, h⟩ | ⟨h3, h⟩
  · obtain ⟨r4, h5, h⟩ := obind h
    have k := oC 1 [] (c70 h5) <| oK 1 [] h3 (c51 h2) o0
    rcases spl h with ⟨h6, h⟩ | ⟨h6, h⟩
    · obtain ⟨r7, h8, h⟩ := obind h
      obtain rfl := sj h
      exact k40 (tF q40 2 [] (oC 1 [] (c71 h8) <| oB 0 h6 k) (by kernel_rfl))
    · obtain rfl := sj h
      exact k40 (tF q40 0 [] (oB 0 h6 k) (by kernel_rfl))
  · obtain rfl := sj h
    exact k40 (tF q40 0 [] (oK 1 [] h3 (c51 h2) o0) (by kernel_rfl))
theorem m40 {qq : Nat} {p0 : Tm} {r : Bool} (h : e40 qq p0 = some r) : e40 (qq + 1) p0 = some r := by
  unfold e40 at h ⊢
  obtain ⟨r1, hx, h⟩ := obind h
  refine obk (m51 hx) ?_
  rcases spl h with ⟨k, h⟩ | ⟨k, h⟩
  · rw [ifTe k]
    obtain ⟨r4, hx, h⟩ := obind h
    refine obk (m70 hx) ?_
    rcases spl h with ⟨k, h⟩ | ⟨k, h⟩
    · rw [ifTe k]
      obtain ⟨r7, hx, h⟩ := obind h
      refine obk (m71 hx) ?_
      exact h
    · rw [ifFe k]
      exact h
  · rw [ifFe k]
    exact h

end Go.Proofs.YtlbmblbeccafcaaGreat

namespace Go.Proofs.YtlbmblbeccafcaaGreat
open Go Go.Ab

/- (*scholium/leaf.walker).set -/
def e43va36581L46433 : Nat → (List Ent) → (List Ent) → (List Con') → (List Int) → (List Int) → Int → Int → (List Int) → (List Tm) → Int → Nat → Nat → (List (Int × Int)) → (List Int) → (List Tm) →  Option (List Int × List Tm × Nat × Nat × (List (Int × Int)))
  | 0, _, _, _, _, _, _, _, _, _, _, _, _, _, _, _ => none
  | qq + 1, q0, q1, q2, q3, q4, q5, q6, p1, p2, v10, vb0_4_c, vb0_4_n, vb4_0, vb7_0, vb8_0 =>
    if decide (v10 < (List.length p1 : Int)) = true then
      (gidx p1 v10) >>= fun x2 =>
      (gapp 8 vb7_0 [x2]) >>= fun l4 =>
      (gidx p2 v10) >>= fun x6 =>
      (gfz vb0_4_n vb8_0) >>= fun l8 =>
      (gapp 40 l8 [(Tm.mk 0 0 [])]) >>= fun l10 =>
      (gchk (List.length l10) (vb0_4_n : Int)) >>= fun x12 =>
      (gset l10 x12 x6) >>= fun x14 =>
      e43va36581L46433 qq q0 q1 q2 q3 q4 q5 q6 p1 p2 (w64 (v10 + 1)) (List.length l10) (List.length l10) (iset vb4_0 x2 (vb0_4_n : Int)) l4 x14
    else
      some (vb7_0, vb8_0, vb0_4_n, vb0_4_c, vb4_0)
def e43va36581 (qq : Nat) (q0 : List Ent) (q1 : List Ent) (q2 : List Con') (q3 : List Int) (q4 : List Int) (q5 : Int) (q6 : Int) (q7 : List (Int × Int)) (q8 : List Int) (q9 : List Tm) (q10 : Nat) (q11 : Nat) (p1 : List Int) (p2 : List Tm) : Option (List Int × List Tm × Nat × Nat × (List (Int × Int))) :=
  e43va36581L46433 qq q0 q1 q2 q3 q4 q5 q6 p1 p2 0 q11 q10 q7 q8 q9
def g43va36581L46433E0 (j : Nat → Value) (q0 : List Ent) (q1 : List Ent) (q2 : List Con') (q3 : List Int) (q4 : List Int) (q5 : Int) (q6 : Int) (p1 : List Int) (p2 : List Tm) (v10 : Int) (vb0_4_c : Nat) (vb0_4_n : Nat) (vb4_0 : List (Int × Int)) (vb7_0 : List Int) (vb8_0 : List Tm) : List AV := sp j 50 0 [(0, .mp 0 0), (2, .sl (flat tmCells p2) (List.length p2) .no), (8, .sl (flat intC p1) (List.length p1) .no), (9, ai (List.length p1 : Int)), (10, ai v10)]
def g43va36581L46433S0 (q0 : List Ent) (q1 : List Ent) (q2 : List Con') (q3 : List Int) (q4 : List Int) (q5 : Int) (q6 : Int) (p1 : List Int) (p2 : List Tm) (v10 : Int) (vb0_4_c : Nat) (vb0_4_n : Nat) (vb4_0 : List (Int × Int)) (vb7_0 : List Int) (vb8_0 : List Tm) : LSt := ⟨[(0, .cells [.mp 1 0, .mp 3 0, .obj 4, .ms 7 0 (List.length vb7_0) (List.length vb7_0) 1, .ms 8 0 vb0_4_n vb0_4_c 3, .sl (flat intC ([] : List Int)) (List.length ([] : List Int)) .nl]), (1, .cells [.sl (flat entL q0) (List.length q0) .no, .mp 2 0, .sl (flat intC q3) (List.length q3) .no, .sl (flat intC q4) (List.length q4) .no]), (2, .cells [.sl (flat entL q1) (List.length q1) .no, .sl (flat conL q2) (List.length q2) .no]), (3, .cells [ai q5, ai q6]), (4, imap vb4_0), (5, .dead), (6, .dead), (7, .row (flat intC vb7_0)), (8, .row (flat tmCells vb8_0))], 9, [], 0, []⟩
theorem q43va36581 : Tryz.prog.funcs[43]? = some Tryz.f43 ∧ Tryz.f43.body.isNone = false := ⟨Tryz.func43, by kernel_rfl⟩
theorem k43va36581 {q0 : List Ent} {q1 : List Ent} {q2 : List Con'} {q3 : List Int} {q4 : List Int} {q5 : Int} {q6 : Int} {q7 : List (Int × Int)} {q8 : List Int} {q9 : List Tm} {q10 : Nat} {q11 : Nat} {p1 : List Int} {p2 : List Tm} {r : List Int × List Tm × Nat × Nat × (List (Int × Int))} (h : CTri Tryz.prog 43 [.cells [.mp 1 0, .mp 3 0, .obj 4, .ms 5 0 (List.length q8) (List.length q8) 1, .ms 6 0 q10 q11 3, .sl (flat intC ([] : List Int)) (List.length ([] : List Int)) .nl], .cells [.sl (flat entL q0) (List.length q0) .no, .mp 2 0, .sl (flat intC q3) (List.length q3) .no, .sl (flat intC q4) (List.length q4) .no], .cells [.sl (flat entL q1) (List.length q1) .no, .sl (flat conL q2) (List.length q2) .no], .cells [ai q5, ai q6], imap q7, .row (flat intC q8), .row (flat tmCells q9)] [.mp 0 0, .sl (flat intC p1) (List.length p1) .no, .sl (flat tmCells p2) (List.length p2) .no] (.tup []) [.cells [.mp 1 0, .mp 3 0, .obj 4, .ms 7 0 (List.length r.1) (List.length r.1) 1, .ms 8 0 r.2.2.1 r.2.2.2.1 3, .sl (flat intC ([] : List Int)) (List.length ([] : List Int)) .nl], .cells [.sl (flat entL q0) (List.length q0) .no, .mp 2 0, .sl (flat intC q3) (List.length q3) .no, .sl (flat intC q4) (List.length q4) .no], .cells [.sl (flat entL q1) (List.length q1) .no, .sl (flat conL q2) (List.length q2) .no], .cells [ai q5, ai q6], imap r.2.2.2.2, .dead, .dead, .row (flat intC r.1), .row (flat tmCells r.2.1)] 0) : CT Tryz.prog 43 [.cells [.mp 1 0, .mp 3 0, .obj 4, .ms 5 0 (List.length q8) (List.length q8) 1, .ms 6 0 q10 q11 3, .sl (flat intC ([] : List Int)) (List.length ([] : List Int)) .nl], .cells [.sl (flat entL q0) (List.length q0) .no, .mp 2 0, .sl (flat intC q3) (List.length q3) .no, .sl (flat intC q4) (List.length q4) .no], .cells [.sl (flat entL q1) (List.length q1) .no, .sl (flat conL q2) (List.length q2) .no], .cells [ai q5, ai q6], imap q7, .row (flat intC q8), .row (flat tmCells q9)] [.mp 0 0, .sl (flat intC p1) (List.length p1) .no, .sl (flat tmCells p2) (List.length p2) .no] (.tup []) [.cells [.mp 1 0, .mp 3 0, .obj 4, .ms 7 0 (List.length r.1) (List.length r.1) 1, .ms 8 0 r.2.2.1 r.2.2.2.1 3, .sl (flat intC ([] : List Int)) (List.length ([] : List Int)) .nl], .cells [.sl (flat entL q0) (List.length q0) .no, .mp 2 0, .sl (flat intC q3) (List.length q3) .no, .sl (flat intC q4) (List.length q4) .no], .cells [.sl (flat entL q1) (List.length q1) .no, .sl (flat conL q2) (List.length q2) .no], .cells [ai q5, ai q6], imap r.2.2.2.2, .dead, .dead, .row (flat intC r.1), .row (flat tmCells r.2.1)] 0 := ⟨h, ⟨(show 0 < 7 by decide), ⟨trivial, dI _⟩, ⟨trivial, dT _⟩, trivial⟩, (forall_cons ⟨(show 1 < 7 by decide), (show 3 < 7 by decide), (show 4 < 7 by decide), (show 5 < 7 by decide), (show 6 < 7 by decide), ⟨trivial, dI _⟩, trivial⟩ (forall_cons ⟨⟨trivial, dE _⟩, (show 2 < 7 by decide), ⟨trivial, dI _⟩, ⟨trivial, dI _⟩, trivial⟩ (forall_cons ⟨⟨trivial, dE _⟩, ⟨trivial, dC _⟩, trivial⟩ (forall_cons ⟨trivial, trivial, trivial⟩ (forall_cons trivial (forall_cons (dI _) (forall_cons (dT _) forall_nil))))))), trivial, (forall_cons ⟨(show 1 < 9 by decide), (show 3 < 9 by decide), (show 4 < 9 by decide), (show 7 < 9 by decide), (show 8 < 9 by decide), dI _, trivial⟩ (forall_cons ⟨dE _, (show 2 < 9 by decide), dI _, dI _, trivial⟩ (forall_cons ⟨dE _, dC _, trivial⟩ (forall_cons ⟨trivial, trivial, trivial⟩ (forall_cons trivial (forall_cons trivial (forall_cons trivial (forall_cons (dI _) (forall_cons (dT _) forall_nil)))))))))⟩
theorem l43va36581L46433 : ∀ qq : Nat, (∀ (q0 : List Ent) (q1 : List Ent) (q2 : List Con') (q3 : List Int) (q4 : List Int) (q5 : Int) (q6 : Int) (p1 : List Int) (p2 : List Tm) (v10 : Int) (vb0_4_c : Nat) (vb0_4_n : Nat) (vb4_0 : List (Int × Int)) (vb7_0 : List Int) (vb8_0 : List Tm) (r : List Int × List Tm × Nat × Nat × (List (Int × Int))), e43va36581L46433 qq q0 q1 q2 q3 q4 q5 q6 p1 p2 v10 vb0_4_c vb0_4_n vb4_0 vb7_0 vb8_0 = some r → (∀ j, Dl Tryz.prog 7 (inn (inn (rgt (bod Tryz.f43)))) (g43va36581L46433E0 j q0 q1 q2 q3 q4 q5 q6 p1 p2 v10 vb0_4_c vb0_4_n vb4_0 vb7_0 vb8_0) (g43va36581L46433S0 q0 q1 q2 q3 q4 q5 q6 p1 p2 v10 vb0_4_c vb0_4_n vb4_0 vb7_0 vb8_0) (frameQ Tryz.prog 7 (FinQ Tryz.prog 7 Tryz.f43 (.tup []) [.cells [.mp 1 0, .mp 3 0, .obj 4, .ms 7 0 (List.length r.1) (List.length r.1) 1, .ms 8 0 r.2.2.1 r.2.2.2.1 3, .sl (flat intC ([] : List Int)) (List.length ([] : List Int)) .nl], .cells [.sl (flat entL q0) (List.length q0) .no, .mp 2 0, .sl (flat intC q3) (List.length q3) .no, .sl (flat intC q4) (List.length q4) .no], .cells [.sl (flat entL q1) (List.length q1) .no, .sl (flat conL q2) (List.length q2) .no], .cells [ai q5, ai q6], imap r.2.2.2.2, .dead, .dead, .row (flat intC r.1), .row (flat tmCells r.2.1)] 0) [.blk 0]))) := by
  intro qq
  induction qq with
  | zero =>
    exact fun _ _ _ _ _ _ _ _ _ _ _ _ _ _ _ _ h => nn h
  | succ qq ih =>
    intro q0 q1 q2 q3 q4 q5 q6 p1 p2 v10 vb0_4_c vb0_4_n vb4_0 vb7_0 vb8_0 r h
    rw [e43va36581L46433] at h
    rcases spl h with ⟨h1, h⟩ | ⟨h1, h⟩
    · obtain ⟨x2, h3, h⟩ := obind h
      obtain ⟨l4, h5, h⟩ := obind h
      obtain ⟨x6, h7, h⟩ := obind h
      obtain ⟨l8, h9, h⟩ := obind h
      obtain ⟨l10, h11, h⟩ := obind h
      obtain ⟨x12, h13, h⟩ := obind h
      obtain ⟨x14, h15, h⟩ := obind h
      exact fun j => lH 2 [] [0, 1, 2, 3, 4, 5, 6, 9, 10] [] [0, 2, 8, 9, 10] (oD (dI p1) <| oD (dT p2) <| oD (dT x14) <| oD (dI l4) <| oD (dC q2) <| oD (dE q1) <| oD (dI q4) <| oD (dI q3) <| oD (dE q0) <| oD (dI ([] : List Int)) <| oW 0 (wtE (x := x6) (cs := [ai x6.k, ai x6.n, .sl (flat tmCells x6.sub) (List.length x6.sub) .no]) codecT (by rw [tm_eq]; rfl) h15) <| oA 0 (ixM22 (b := 10) (c := List.length l10) (z := 3) h13) <| oM 0 (apRn22 h9 h11 (by simp)) <| oS 2 (obLitR tm_eq [(Tm.mk 0 0 [])]) <| oA 2 (ix22 (o := .no) h7) <| oM 2 (apR37 h5 (by simp)) <| oU 4 (muI91 vb4_0 x2 (vb0_4_n : Int)) <| oA 0 (ix37 (o := .no) h3) <| oB 0 h1 o0) (ih _ _ _ _ _ _ _ _ _ _ _ _ _ _ _ _ h) (fun j => by kernel_rfl)
    · obtain rfl := sj h
      exact fun j => lG 0 [] [0, 1, 2, 3, 4, 5, 6, 7, 8] [] true (oD (dT vb8_0) <| oD (dI vb7_0) <| oD (dC q2) <| oD (dE q1) <| oD (dI q4) <| oD (dI q3) <| oD (dE q0) <| oD (dI ([] : List Int)) <| oB 0 h1 o0) (by kernel_rfl) (by decide)
theorem c43va36581 {qq : Nat} {q0 : List Ent} {q1 : List Ent} {q2 : List Con'} {q3 : List Int} {q4 : List Int} {q5 : Int} {q6 : Int} {q7 : List (Int × Int)} {q8 : List Int} {q9 : List Tm} {q10 : Nat} {q11 : Nat} {p1 : List Int} {p2 : List Tm} {r : List Int × List Tm × Nat × Nat × (List (Int × Int))} (h : e43va36581 qq q0 q1 q2 q3 q4 q5 q6 q7 q8 q9 q10 q11 p1 p2 = some r) : CT Tryz.prog 43 [.cells [.mp 1 0, .mp 3 0, .obj 4, .ms 5 0 (List.length q8) (List.length q8) 1, .ms 6 0 q10 q11 3, .sl (flat intC ([] : List Int)) (List.length ([] : List Int)) .nl], .cells [.sl (flat entL q0) (List.length q0) .no, .mp 2 0, .sl (flat intC q3) (List.length q3) .no, .sl (flat intC q4) (List.length q4) .no], .cells [.sl (flat entL q1) (List.length q1) .no, .sl (flat conL q2) (List.length q2) .no], .cells [ai q5, ai q6], imap q7, .row (flat intC q8), .row (flat tmCells q9)] [.mp 0 0, .sl (flat intC p1) (List.length p1) .no, .sl (flat tmCells p2) (List.length p2) .no] (.tup []) [.cells [.mp 1 0, .mp 3 0, .obj 4, .ms 7 0 (List.length r.1) (List.length r.1) 1, .ms 8 0 r.2.2.1 r.2.2.2.1 3, .sl (flat intC ([] : List Int)) (List.length ([] : List Int)) .nl], .cells [.sl (flat entL q0) (List.length q0) .no, .mp 2 0, .sl (flat intC q3) (List.length q3) .no, .sl (flat intC q4) (List.length q4) .no], .cells [.sl (flat entL q1) (List.length q1) .no, .sl (flat conL q2) (List.length q2) .no], .cells [ai q5, ai q6], imap r.2.2.2.2, .dead, .dead, .row (flat intC r.1), .row (flat tmCells r.2.1)] 0 := by
  unfold e43va36581 at h
  exact k43va36581 (tH q43va36581 1 [(some 5, 0, 0), (some 6, 0, 0)] [0, 1, 2, 3, 4, 5, 6, 7, 8] [] [0, 2, 8, 9, 10] (oD (dI p1) <| oD (dT p2) <| oD (dT q9) <| oD (dI q8) <| oD (dC q2) <| oD (dE q1) <| oD (dI q4) <| oD (dI q3) <| oD (dE q0) <| oD (dI ([] : List Int)) o0) (l43va36581L46433 _ _ _ _ _ _ _ _ _ _ _ _ _ _ _ _ _ h) (fun j => by kernel_rfl))
theorem mm43va36581L46433 : ∀ qq : Nat, (∀ (q0 : List Ent) (q1 : List Ent) (q2 : List Con') (q3 : List Int) (q4 : List Int) (q5 : Int) (q6 : Int) (p1 : List Int) (p2 : List Tm) (v10 : Int) (vb0_4_c : Nat) (vb0_4_n : Nat) (vb4_0 : List (Int × Int)) (vb7_0 : List Int) (vb8_0 : List Tm) (r : List Int × List Tm × Nat × Nat × (List (Int × Int))), e43va36581L46433 qq q0 q1 q2 q3 q4 q5 q6 p1 p2 v10 vb0_4_c vb0_4_n vb4_0 vb7_0 vb8_0 = some r → e43va36581L46433 (qq + 1) q0 q1 q2 q3 q4 q5 q6 p1 p2 v10 vb0_4_c vb0_4_n vb4_0 vb7_0 vb8_0 = some r) := by
  intro qq
  induction qq with
  | zero => exact fun _ _ _ _ _ _ _ _ _ _ _ _ _ _ _ _ h => nn h
  | succ qq ih =>
    have ih43va36581L46433 := ih
    intro q0 q1 q2 q3 q4 q5 q6 p1 p2 v10 vb0_4_c vb0_4_n vb4_0 vb7_0 vb8_0 r h
    rw [e43va36581L46433] at h ⊢
    rcases spl h with ⟨k, h⟩ | ⟨k, h⟩
    · rw [ifTe k]
      obtain ⟨x2, hx, h⟩ := obind h
      refine obk hx ?_
      obtain ⟨l4, hx, h⟩ := obind h
      refine obk hx ?_
      obtain ⟨x6, hx, h⟩ := obind h
      refine obk hx ?_
      obtain ⟨l8, hx, h⟩ := obind h
      refine obk hx ?_
      obtain ⟨l10, hx, h⟩ := obind h
      refine obk hx ?_
      obtain ⟨x12, hx, h⟩ := obind h
      refine obk hx ?_
      obtain ⟨x14, hx, h⟩ := obind h
      refine obk hx ?_
      exact ih43va36581L46433 _ _ _ _ _ _ _ _ _ _ _ _ _ _ _ _ h
    · rw [ifFe k]
      exact h
theorem m43va36581L46433 {qq : Nat} {q0 : List Ent} {q1 : List Ent} {q2 : List Con'} {q3 : List Int} {q4 : List Int} {q5 : Int} {q6 : Int} {p1 : List Int} {p2 : List Tm} {v10 : Int} {vb0_4_c : Nat} {vb0_4_n : Nat} {vb4_0 : List (Int × Int)} {vb7_0 : List Int} {vb8_0 : List Tm} {r : List Int × List Tm × Nat × Nat × (List (Int × Int))} (h : e43va36581L46433 qq q0 q1 q2 q3 q4 q5 q6 p1 p2 v10 vb0_4_c vb0_4_n vb4_0 vb7_0 vb8_0 = some r) : e43va36581L46433 (qq + 1) q0 q1 q2 q3 q4 q5 q6 p1 p2 v10 vb0_4_c vb0_4_n vb4_0 vb7_0 vb8_0 = some r := mm43va36581L46433 _ _ _ _ _ _ _ _ _ _ _ _ _ _ _ _ _ h
theorem m43va36581 {qq : Nat} {q0 : List Ent} {q1 : List Ent} {q2 : List Con'} {q3 : List Int} {q4 : List Int} {q5 : Int} {q6 : Int} {q7 : List (Int × Int)} {q8 : List Int} {q9 : List Tm} {q10 : Nat} {q11 : Nat} {p1 : List Int} {p2 : List Tm} {r : List Int × List Tm × Nat × Nat × (List (Int × Int))} (h : e43va36581 qq q0 q1 q2 q3 q4 q5 q6 q7 q8 q9 q10 q11 p1 p2 = some r) : e43va36581 (qq + 1) q0 q1 q2 q3 q4 q5 q6 q7 q8 q9 q10 q11 p1 p2 = some r := by
  unfold e43va36581 at h ⊢
  exact m43va36581L46433 h

end Go.Proofs.YtlbmblbeccafcaaGreat

namespace Go.Proofs.YtlbmblbeccafcaaGreat
open Go Go.Ab

/- (*scholium/leaf.walker).set -/
def e43va38460L36437 (qq : Nat) (q0 : List Ent) (q1 : List Ent) (q2 : List Con') (q3 : List Int) (q4 : List Int) (q5 : Int) (q6 : Int) (p1 : List Int) (p2 : List Tm) (v10 : Int) (vb0_4_c : Nat) (vb0_4_n : Nat) (vb4_0 : List (Int × Int)) (vb5_0 : List Int) (vb6_0 : List Tm) : Option (List Int × List Tm × Nat × Nat × (List (Int × Int))) :=
  if decide (v10 < (List.length p1 : Int)) = true then
    none
  else
    some (vb5_0, vb6_0, vb0_4_n, vb0_4_c, vb4_0)
def e43va38460L23890 (qq : Nat) (q0 : List Ent) (q1 : List Ent) (q2 : List Con') (q3 : List Int) (q4 : List Int) (q5 : Int) (q6 : Int) (q7 : List (Int × Int)) (p1 : List Int) (p2 : List Tm) (v10 : Int) : Option (List Int × List Tm × Nat × Nat × (List (Int × Int))) :=
  if decide (v10 < (List.length p1 : Int)) = true then
    (gidx p1 v10) >>= fun x2 =>
    (gapp 8 ([] : List Int) [x2]) >>= fun l4 =>
    (gidx p2 v10) >>= fun x6 =>
    (gapp 40 ([] : List Tm) [(Tm.mk 0 0 [])]) >>= fun l8 =>
    (gchk (List.length l8) 0) >>= fun x10 =>
    (gset l8 x10 x6) >>= fun x12 =>
    e43va38460L36437 qq q0 q1 q2 q3 q4 q5 q6 p1 p2 (w64 (v10 + 1)) (List.length l8) (List.length l8) (iset q7 x2 0) l4 x12
  else
    none
def e43va38460 (qq : Nat) (q0 : List Ent) (q1 : List Ent) (q2 : List Con') (q3 : List Int) (q4 : List Int) (q5 : Int) (q6 : Int) (q7 : List (Int × Int)) (p1 : List Int) (p2 : List Tm) : Option (List Int × List Tm × Nat × Nat × (List (Int × Int))) :=
  e43va38460L23890 qq q0 q1 q2 q3 q4 q5 q6 q7 p1 p2 0
def g43va38460L23890E0 (j : Nat → Value) (q0 : List Ent) (q1 : List Ent) (q2 : List Con') (q3 : List Int) (q4 : List Int) (q5 : Int) (q6 : Int) (q7 : List (Int × Int)) (p1 : List Int) (p2 : List Tm) (v10 : Int) : List AV := sp j 50 0 [(0, .mp 0 0), (2, .sl (flat tmCells p2) (List.length p2) .no), (8, .sl (flat intC p1) (List.length p1) .no), (9, ai (List.length p1 : Int)), (10, ai v10)]
def g43va38460L23890S0 (q0 : List Ent) (q1 : List Ent) (q2 : List Con') (q3 : List Int) (q4 : List Int) (q5 : Int) (q6 : Int) (q7 : List (Int × Int)) (p1 : List Int) (p2 : List Tm) (v10 : Int) : LSt := ⟨[(0, .cells [.mp 1 0, .mp 3 0, .obj 4, .sl (flat intC ([] : List Int)) (List.length ([] : List Int)) .nl, .sl (flat tmCells ([] : List Tm)) (List.length ([] : List Tm)) .nl, .sl (flat intC ([] : List Int)) (List.length ([] : List Int)) .nl]), (1, .cells [.sl (flat entL q0) (List.length q0) .no, .mp 2 0, .sl (flat intC q3) (List.length q3) .no, .sl (flat intC q4) (List.length q4) .no]), (2, .cells [.sl (flat entL q1) (List.length q1) .no, .sl (flat conL q2) (List.length q2) .no]), (3, .cells [ai q5, ai q6]), (4, imap q7)], 5, [], 0, []⟩
def g43va38460L36437E0 (j : Nat → Value) (q0 : List Ent) (q1 : List Ent) (q2 : List Con') (q3 : List Int) (q4 : List Int) (q5 : Int) (q6 : Int) (p1 : List Int) (p2 : List Tm) (v10 : Int) (vb0_4_c : Nat) (vb0_4_n : Nat) (vb4_0 : List (Int × Int)) (vb5_0 : List Int) (vb6_0 : List Tm) : List AV := sp j 50 0 [(0, .mp 0 0), (2, .sl (flat tmCells p2) (List.length p2) .no), (8, .sl (flat intC p1) (List.length p1) .no), (9, ai (List.length p1 : Int)), (10, ai v10)]
def g43va38460L36437S0 (q0 : List Ent) (q1 : List Ent) (q2 : List Con') (q3 : List Int) (q4 : List Int) (q5 : Int) (q6 : Int) (p1 : List Int) (p2 : List Tm) (v10 : Int) (vb0_4_c : Nat) (vb0_4_n : Nat) (vb4_0 : List (Int × Int)) (vb5_0 : List Int) (vb6_0 : List Tm) : LSt := ⟨[(0, .cells [.mp 1 0, .mp 3 0, .obj 4, .ms 5 0 (List.length vb5_0) (List.length vb5_0) 1, .ms 6 0 vb0_4_n vb0_4_c 3, .sl (flat intC ([] : List Int)) (List.length ([] : List Int)) .nl]), (1, .cells [.sl (flat entL q0) (List.length q0) .no, .mp 2 0, .sl (flat intC q3) (List.length q3) .no, .sl (flat intC q4) (List.length q4) .no]), (2, .cells [.sl (flat entL q1) (List.length q1) .no, .sl (flat conL q2) (List.length q2) .no]), (3, .cells [ai q5, ai q6]), (4, imap vb4_0), (5, .row (flat intC vb5_0)), (6, .row (flat tmCells vb6_0))], 7, [], 0, []⟩
theorem q43va38460 : Tryz.prog.funcs[43]? = some Tryz.f43 ∧ Tryz.f43.body.isNone = false := ⟨Tryz.func43, by kernel_rfl⟩
theorem k43va38460 {q0 : List Ent} {q1 : List Ent} {q2 : List Con'} {q3 : List Int} {q4 : List Int} {q5 : Int} {q6 : Int} {q7 : List (Int × Int)} {p1 : List Int} {p2 : List Tm} {r : List Int × List Tm × Nat × Nat × (List (Int × Int))} (h : CTri Tryz.prog 43 [.cells [.mp 1 0, .mp 3 0, .obj 4, .sl (flat intC ([] : List Int)) (List.length ([] : List Int)) .nl, .sl (flat tmCells ([] : List Tm)) (List.length ([] : List Tm)) .nl, .sl (flat intC ([] : List Int)) (List.length ([] : List Int)) .nl], .cells [.sl (flat entL q0) (List.length q0) .no, .mp 2 0, .sl (flat intC q3) (List.length q3) .no, .sl (flat intC q4) (List.length q4) .no], .cells [.sl (flat entL q1) (List.length q1) .no, .sl (flat conL q2) (List.length q2) .no], .cells [ai q5, ai q6], imap q7] [.mp 0 0, .sl (flat intC p1) (List.length p1) .no, .sl (flat tmCells p2) (List.length p2) .no] (.tup []) [.cells [.mp 1 0, .mp 3 0, .obj 4, .ms 5 0 (List.length r.1) (List.length r.1) 1, .ms 6 0 r.2.2.1 r.2.2.2.1 3, .sl (flat intC ([] : List Int)) (List.length ([] : List Int)) .nl], .cells [.sl (flat entL q0) (List.length q0) .no, .mp 2 0, .sl (flat intC q3) (List.length q3) .no, .sl (flat intC q4) (List.length q4) .no], .cells [.sl (flat entL q1) (List.length q1) .no, .sl (flat conL q2) (List.length q2) .no], .cells [ai q5, ai q6], imap r.2.2.2.2, .row (flat intC r.1), .row (flat tmCells r.2.1)] 0) : CT Tryz.prog 43 [.cells [.mp 1 0, .mp 3 0, .obj 4, .sl (flat intC ([] : List Int)) (List.length ([] : List Int)) .nl, .sl (flat tmCells ([] : List Tm)) (List.length ([] : List Tm)) .nl, .sl (flat intC ([] : List Int)) (List.length ([] : List Int)) .nl], .cells [.sl (flat entL q0) (List.length q0) .no, .mp 2 0, .sl (flat intC q3) (List.length q3) .no, .sl (flat intC q4) (List.length q4) .no], .cells [.sl (flat entL q1) (List.length q1) .no, .sl (flat conL q2) (List.length q2) .no], .cells [ai q5, ai q6], imap q7] [.mp 0 0, .sl (flat intC p1) (List.length p1) .no, .sl (flat tmCells p2) (List.length p2) .no] (.tup []) [.cells [.mp 1 0, .mp 3 0, .obj 4, .ms 5 0 (List.length r.1) (List.length r.1) 1, .ms 6 0 r.2.2.1 r.2.2.2.1 3, .sl (flat intC ([] : List Int)) (List.length ([] : List Int)) .nl], .cells [.sl (flat entL q0) (List.length q0) .no, .mp 2 0, .sl (flat intC q3) (List.length q3) .no, .sl (flat intC q4) (List.length q4) .no], .cells [.sl (flat entL q1) (List.length q1) .no, .sl (flat conL q2) (List.length q2) .no], .cells [ai q5, ai q6], imap r.2.2.2.2, .row (flat intC r.1), .row (flat tmCells r.2.1)] 0 := ⟨h, ⟨(show 0 < 5 by decide), ⟨trivial, dI _⟩, ⟨trivial, dT _⟩, trivial⟩, (forall_cons ⟨(show 1 < 5 by decide), (show 3 < 5 by decide), (show 4 < 5 by decide), ⟨trivial, dI _⟩, ⟨trivial, dT _⟩, ⟨trivial, dI _⟩, trivial⟩ (forall_cons ⟨⟨trivial, dE _⟩, (show 2 < 5 by decide), ⟨trivial, dI _⟩, ⟨trivial, dI _⟩, trivial⟩ (forall_cons ⟨⟨trivial, dE _⟩, ⟨trivial, dC _⟩, trivial⟩ (forall_cons ⟨trivial, trivial, trivial⟩ (forall_cons trivial forall_nil))))), trivial, (forall_cons ⟨(show 1 < 7 by decide), (show 3 < 7 by decide), (show 4 < 7 by decide), (show 5 < 7 by decide), (show 6 < 7 by decide), dI _, trivial⟩ (forall_cons ⟨dE _, (show 2 < 7 by decide), dI _, dI _, trivial⟩ (forall_cons ⟨dE _, dC _, trivial⟩ (forall_cons ⟨trivial, trivial, trivial⟩ (forall_cons trivial (forall_cons (dI _) (forall_cons (dT _) forall_nil)))))))⟩
theorem l43va38460L36437 (qq : Nat) (q0 : List Ent) (q1 : List Ent) (q2 : List Con') (q3 : List Int) (q4 : List Int) (q5 : Int) (q6 : Int) (p1 : List Int) (p2 : List Tm) (v10 : Int) (vb0_4_c : Nat) (vb0_4_n : Nat) (vb4_0 : List (Int × Int)) (vb5_0 : List Int) (vb6_0 : List Tm) (r : List Int × List Tm × Nat × Nat × (List (Int × Int))) (h : e43va38460L36437 qq q0 q1 q2 q3 q4 q5 q6 p1 p2 v10 vb0_4_c vb0_4_n vb4_0 vb5_0 vb6_0 = some r) : (∀ j, Dl Tryz.prog 5 (inn (inn (rgt (bod Tryz.f43)))) (g43va38460L36437E0 j q0 q1 q2 q3 q4 q5 q6 p1 p2 v10 vb0_4_c vb0_4_n vb4_0 vb5_0 vb6_0) (g43va38460L36437S0 q0 q1 q2 q3 q4 q5 q6 p1 p2 v10 vb0_4_c vb0_4_n vb4_0 vb5_0 vb6_0) (frameQ Tryz.prog 5 (FinQ Tryz.prog 5 Tryz.f43 (.tup []) [.cells [.mp 1 0, .mp 3 0, .obj 4, .ms 5 0 (List.length r.1) (List.length r.1) 1, .ms 6 0 r.2.2.1 r.2.2.2.1 3, .sl (flat intC ([] : List Int)) (List.length ([] : List Int)) .nl], .cells [.sl (flat entL q0) (List.length q0) .no, .mp 2 0, .sl (flat intC q3) (List.length q3) .no, .sl (flat intC q4) (List.length q4) .no], .cells [.sl (flat entL q1) (List.length q1) .no, .sl (flat conL q2) (List.length q2) .no], .cells [ai q5, ai q6], imap r.2.2.2.2, .row (flat intC r.1), .row (flat tmCells r.2.1)] 0) [.blk 0])) := by
  unfold e43va38460L36437 at h
  obtain ⟨h14, h⟩ := splF h
  obtain rfl := sj h
  exact fun j => lG 0 [] [0, 1, 2, 3, 4, 5, 6] [] true (oD (dT vb6_0) <| oD (dI vb5_0) <| oD (dC q2) <| oD (dE q1) <| oD (dI q4) <| oD (dI q3) <| oD (dE q0) <| oD (dI ([] : List Int)) <| oB 0 h14 o0) (by kernel_rfl) (by decide)
theorem l43va38460L23890 (qq : Nat) (q0 : List Ent) (q1 : List Ent) (q2 : List Con') (q3 : List Int) (q4 : List Int) (q5 : Int) (q6 : Int) (q7 : List (Int × Int)) (p1 : List Int) (p2 : List Tm) (v10 : Int) (r : List Int × List Tm × Nat × Nat × (List (Int × Int))) (h : e43va38460L23890 qq q0 q1 q2 q3 q4 q5 q6 q7 p1 p2 v10 = some r) : (∀ j, Dl Tryz.prog 5 (inn (inn (rgt (bod Tryz.f43)))) (g43va38460L23890E0 j q0 q1 q2 q3 q4 q5 q6 q7 p1 p2 v10) (g43va38460L23890S0 q0 q1 q2 q3 q4 q5 q6 q7 p1 p2 v10) (frameQ Tryz.prog 5 (FinQ Tryz.prog 5 Tryz.f43 (.tup []) [.cells [.mp 1 0, .mp 3 0, .obj 4, .ms 5 0 (List.length r.1) (List.length r.1) 1, .ms 6 0 r.2.2.1 r.2.2.2.1 3, .sl (flat intC ([] : List Int)) (List.length ([] : List Int)) .nl], .cells [.sl (flat entL q0) (List.length q0) .no, .mp 2 0, .sl (flat intC q3) (List.length q3) .no, .sl (flat intC q4) (List.length q4) .no], .cells [.sl (flat entL q1) (List.length q1) .no, .sl (flat conL q2) (List.length q2) .no], .cells [ai q5, ai q6], imap r.2.2.2.2, .row (flat intC r.1), .row (flat tmCells r.2.1)] 0) [.blk 0])) := by
  unfold e43va38460L23890 at h
  obtain ⟨h1, h⟩ := splT h
  obtain ⟨x2, h3, h⟩ := obind h
  obtain ⟨l4, h5, h⟩ := obind h
  obtain ⟨x6, h7, h⟩ := obind h
  obtain ⟨l8, h9, h⟩ := obind h
  obtain ⟨x10, h11, h⟩ := obind h
  obtain ⟨x12, h13, h⟩ := obind h
  exact fun j => lH 2 [] [0, 1, 2, 3, 4, 5, 6] [] [0, 2, 8, 9, 10] (oD (dI p1) <| oD (dT p2) <| oD (dT x12) <| oD (dI l4) <| oD (dC q2) <| oD (dE q1) <| oD (dI q4) <| oD (dI q3) <| oD (dE q0) <| oD (dI ([] : List Int)) <| oW 0 (wtE (x := x6) (cs := [ai x6.k, ai x6.n, .sl (flat tmCells x6.sub) (List.length x6.sub) .no]) codecT (by rw [tm_eq]; rfl) h13) <| oA 0 (ixM22 (b := 6) (c := List.length l8) (z := 3) h11) <| oM 0 (apW22 h9 (by simp)) <| oS 2 (obLitR tm_eq [(Tm.mk 0 0 [])]) <| oA 2 (ix22 (o := .no) h7) <| oM 2 (apW37 h5 (by simp)) <| oU 4 (muI91 q7 x2 0) <| oA 0 (ix37 (o := .no) h3) <| oB 0 h1 o0) (l43va38460L36437 qq _ _ _ _ _ _ _ _ _ _ _ _ _ _ _ _ h) (fun j => by kernel_rfl)
theorem c43va38460 {qq : Nat} {q0 : List Ent} {q1 : List Ent} {q2 : List Con'} {q3 : List Int} {q4 : List Int} {q5 : Int} {q6 : Int} {q7 : List (Int × Int)} {p1 : List Int} {p2 : List Tm} {r : List Int × List Tm × Nat × Nat × (List (Int × Int))} (h : e43va38460 qq q0 q1 q2 q3 q4 q5 q6 q7 p1 p2 = some r) : CT Tryz.prog 43 [.cells [.mp 1 0, .mp 3 0, .obj 4, .sl (flat intC ([] : List Int)) (List.length ([] : List Int)) .nl, .sl (flat tmCells ([] : List Tm)) (List.length ([] : List Tm)) .nl, .sl (flat intC ([] : List Int)) (List.length ([] : List Int)) .nl], .cells [.sl (flat entL q0) (List.length q0) .no, .mp 2 0, .sl (flat intC q3) (List.length q3) .no, .sl (flat intC q4) (List.length q4) .no], .cells [.sl (flat entL q1) (List.length q1) .no, .sl (flat conL q2) (List.length q2) .no], .cells [ai q5, ai q6], imap q7] [.mp 0 0, .sl (flat intC p1) (List.length p1) .no, .sl (flat tmCells p2) (List.length p2) .no] (.tup []) [.cells [.mp 1 0, .mp 3 0, .obj 4, .ms 5 0 (List.length r.1) (List.length r.1) 1, .ms 6 0 r.2.2.1 r.2.2.2.1 3, .sl (flat intC ([] : List Int)) (List.length ([] : List Int)) .nl], .cells [.sl (flat entL q0) (List.length q0) .no, .mp 2 0, .sl (flat intC q3) (List.length q3) .no, .sl (flat intC q4) (List.length q4) .no], .cells [.sl (flat entL q1) (List.length q1) .no, .sl (flat conL q2) (List.length q2) .no], .cells [ai q5, ai q6], imap r.2.2.2.2, .row (flat intC r.1), .row (flat tmCells r.2.1)] 0 := by
  unfold e43va38460 at h
  exact k43va38460 (tH q43va38460 1 [] [0, 1, 2, 3, 4] [] [0, 2, 8, 9, 10] (oD (dI p1) <| oD (dT p2) <| oD (dC q2) <| oD (dE q1) <| oD (dI q4) <| oD (dI q3) <| oD (dE q0) <| oD (dI ([] : List Int)) <| oD (dT ([] : List Tm)) <| oD (dI ([] : List Int)) o0) (l43va38460L23890 qq _ _ _ _ _ _ _ _ _ _ _ _ h) (fun j => by kernel_rfl))
theorem m43va38460L36437 {qq : Nat} {q0 : List Ent} {q1 : List Ent} {q2 : List Con'} {q3 : List Int} {q4 : List Int} {q5 : Int} {q6 : Int} {p1 : List Int} {p2 : List Tm} {v10 : Int} {vb0_4_c : Nat} {vb0_4_n : Nat} {vb4_0 : List (Int × Int)} {vb5_0 : List Int} {vb6_0 : List Tm} {r : List Int × List Tm × Nat × Nat × (List (Int × Int))} (h : e43va38460L36437 qq q0 q1 q2 q3 q4 q5 q6 p1 p2 v10 vb0_4_c vb0_4_n vb4_0 vb5_0 vb6_0 = some r) : e43va38460L36437 (qq + 1) q0 q1 q2 q3 q4 q5 q6 p1 p2 v10 vb0_4_c vb0_4_n vb4_0 vb5_0 vb6_0 = some r := by
  unfold e43va38460L36437 at h ⊢
  obtain ⟨k, h⟩ := splF h
  rw [ifFe k]
  exact h
theorem m43va38460L23890 {qq : Nat} {q0 : List Ent} {q1 : List Ent} {q2 : List Con'} {q3 : List Int} {q4 : List Int} {q5 : Int} {q6 : Int} {q7 : List (Int × Int)} {p1 : List Int} {p2 : List Tm} {v10 : Int} {r : List Int × List Tm × Nat × Nat × (List (Int × Int))} (h : e43va38460L23890 qq q0 q1 q2 q3 q4 q5 q6 q7 p1 p2 v10 = some r) : e43va38460L23890 (qq + 1) q0 q1 q2 q3 q4 q5 q6 q7 p1 p2 v10 = some r := by
  unfold e43va38460L23890 at h ⊢
  obtain ⟨k, h⟩ := splT h
  rw [ifTe k]
  obtain ⟨x2, hx, h⟩ := obind h
  refine obk hx ?_
  obtain ⟨l4, hx, h⟩ := obind h
  refine obk hx ?_
  obtain ⟨x6, hx, h⟩ := obind h
  refine obk hx ?_
  obtain ⟨l8, hx, h⟩ := obind h
  refine obk hx ?_
  obtain ⟨x10, hx, h⟩ := obind h
  refine obk hx ?_
  obtain ⟨x12, hx, h⟩ := obind h
  refine obk hx ?_
  exact m43va38460L36437 h
theorem m43va38460 {qq : Nat} {q0 : List Ent} {q1 : List Ent} {q2 : List Con'} {q3 : List Int} {q4 : List Int} {q5 : Int} {q6 : Int} {q7 : List (Int × Int)} {p1 : List Int} {p2 : List Tm} {r : List Int × List Tm × Nat × Nat × (List (Int × Int))} (h : e43va38460 qq q0 q1 q2 q3 q4 q5 q6 q7 p1 p2 = some r) : e43va38460 (qq + 1) q0 q1 q2 q3 q4 q5 q6 q7 p1 p2 = some r := by
  unfold e43va38460 at h ⊢
  exact m43va38460L23890 h

end Go.Proofs.YtlbmblbeccafcaaGreat

namespace Go.Proofs.YtlbmblbeccafcaaGreat
open Go Go.Ab

theorem Evt.mono {α : Type} {f : Nat → Option α} {r : α} (m : ∀ q r, f q = some r → f (q + 1) = some r) {q : Nat} (h : f q = some r) : Evt f r := by
  refine ⟨q, fun k hk => ?_⟩
  obtain ⟨d, rfl⟩ := Nat.exists_eq_add_of_le hk
  induction d with
  | zero => exact h
  | succ d ih => exact m _ _ (ih (by omega))
theorem closedT_spec {t : Tm} {n : Int} (h : closedT t n = true) : shapedT t = true ∧ looT t 0 = 0 ∧ rightT t 0 n = true ∧ colT t 8 8 = [] := by
  unfold closedT at h
  simp only [Bool.and_eq_true, List.isEmpty_iff] at h
  have h1 := h.1
  unfold rightT at h1
  simp only [Bool.and_eq_true, decide_eq_true_eq] at h1
  have := looT_nn t 0
  exact ⟨h1.1.1, by omega, h.1, h.2⟩
theorem ev_Loose (t : Tm) (ho : t.Ok) (h : shapedT t = true) : Evt (fun q => e70 q t) (looT t 0) := by
  simp only [e70]
  have hs := shapedT_spec h
  exact (ev_Shaped t ho).bind (Evt.ifT h ((ev_loose t 0 hs.2.2 (by omega) (by omega)).bind Evt.ret))
theorem ev_lclosed (t : Tm) (n : Int) (ho : t.Ok) (h : closedT t n = true) : Evt (fun q => e40 q t) true := by
  obtain ⟨h1, h2, h3, h4⟩ := closedT_spec h
  simp only [e40]
  refine (ev_Shaped t ho).bind (Evt.ifT h1 ((ev_Loose t ho h1).bind (Evt.ifT (by simp [h2]) ((ev_Frees t ho).bind (Evt.ret.eq ?_)))))
  unfold numsT
  rw [if_pos h1, h4]; rfl

theorem igot_iset (x k v : Int) : ∀ m, igot (iset m k v) x = if x = k then some v else igot m x := by
  intro m
  induction m with
  | nil => simp [iset, igot]
  | cons p m ih =>
    obtain ⟨a, b⟩ := p
    by_cases hk : k = a
    · subst hk
      by_cases hx : x = k <;> simp [iset, igot, hx]
    · by_cases hx : x = a
      · subst hx
        have : ¬ x = k := fun e => hk e.symm
        simp [iset, igot, hk, this]
      · simp [iset, igot, hk, hx, ih]
theorem ihas_iset (m : List (Int × Int)) (k v x : Int) (h : ihas (iset m k v) x = true) : x = k ∨ ihas m x = true := by
  unfold ihas at h ⊢
  rw [igot_iset] at h
  by_cases e : x = k
  · exact .inl e
  · rw [if_neg e] at h; exact .inr h

/-- every key is below a number -/
def Below' (m : List (Int × Int)) (i : Nat) : Prop := ∀ x, ihas m x = true → x < i
theorem Below'.set {m : List (Int × Int)} {i : Nat} (h : Below' m i) (v : Int) : Below' (iset m (i : Int) v) (i + 1) := by
  intro x hx
  rcases ihas_iset _ _ _ _ hx with rfl | hx
  · omega
  · have := h x hx; omega

theorem ev_set1 (l rl : List Ent) (pa : List Con') (ar ow : List Int) (fl fu v : Int) (x : Tm) :
    Evt (fun q => e43va38460 q l rl pa ar ow fl fu [] [v] [x]) ([v], [x], 1, 1, [(v, 0)]) := Evt.mk fun _ => rfl
theorem ev_set2 (l rl : List Ent) (pa : List Con') (ar ow : List Int) (fl fu v : Int) (x : Tm) (m : List (Int × Int)) (ns : List Int) (ts : List Tm) (c : Nat) (hn : ns.length ≤ 100) (ht : ts.length ≤ 100) :
    Evt (fun q => e43va36581 q l rl pa ar ow fl fu m ns ts ts.length c [v] [x]) (ns ++ [v], ts ++ [x], ts.length + 1, ts.length + 1, iset m v (ts.length : Int)) := by
  simp only [e43va36581]
  refine Evt.succ ?_
  simp only [e43va36581L46433]
  refine Evt.ifT rfl (Evt.pure (a := v) rfl (Evt.pure (gapp_ok (by simp; omega)) (Evt.pure (a := x) rfl (Evt.pure (a := ts) (by unfold gfz; simp) (Evt.pure (gapp_ok (by simp; omega)) ?_)))))
  refine Evt.pure (a := ts.length) (by unfold gchk; rw [if_pos (by simp; omega)]; simp) ?_
  refine Evt.pure (a := ts ++ [x]) (by unfold gset; rw [if_pos (by simp)]; simp) ?_
  refine Evt.succ ?_
  simp only [e43va36581L46433]
  refine Evt.ifF rfl (Evt.ret.eq ?_)
  simp
end Go.Proofs.YtlbmblbeccafcaaGreat

namespace Go.Proofs.YtlbmblbeccafcaaGreat
open Go Go.Ab

/- slices.Clone(()int,int) -/
def e46v0 (qq : Nat) (p0 : List Int) : Option (List Int) :=
  some []
theorem q46v0 : Tryz.prog.funcs[46]? = some Tryz.f46 ∧ Tryz.f46.body.isNone = false := ⟨Tryz.func46, by kernel_rfl⟩
theorem k46v0 {p0 : List Int} {r : List Int} (h : CTri Tryz.prog 46 [] [.sl (flat intC p0) (List.length p0) .nl] (.sl (flat intC r) (List.length r) .no) [] 0) : CT Tryz.prog 46 [] [.sl (flat intC p0) (List.length p0) .nl] (.sl (flat intC r) (List.length r) .no) [] 0 := ⟨h, ⟨⟨trivial, dI _⟩, trivial⟩, forall_nil, dI _, forall_nil⟩
theorem c46v0 {qq : Nat} {p0 : List Int} {r : List Int} (h : e46v0 qq p0 = some r) : CT Tryz.prog 46 [] [.sl (flat intC p0) (List.length p0) .nl] (.sl (flat intC r) (List.length r) .no) [] 0 := by
  unfold e46v0 at h
  obtain rfl := sj h
  exact k46v0 (tF q46v0 1 [] (oD (dI ([] : List Int)) o0) (by kernel_rfl))
theorem m46v0 {qq : Nat} {p0 : List Int} {r : List Int} (h : e46v0 qq p0 = some r) : e46v0 (qq + 1) p0 = some r := by
  unfold e46v0 at h ⊢
  exact h

end Go.Proofs.YtlbmblbeccafcaaGreat

namespace Go.Proofs.YtlbmblbeccafcaaGreat
open Go Go.Ab

/- slices.Clone(()int,int) -/
def e46v1 (qq : Nat) (p0 : List Int) : Option (List Int) :=
  (gapp 8 ([] : List Int) p0) >>= fun l1 =>
  some l1
theorem q46v1 : Tryz.prog.funcs[46]? = some Tryz.f46 ∧ Tryz.f46.body.isNone = false := ⟨Tryz.func46, by kernel_rfl⟩
theorem k46v1 {p0 : List Int} {r : List Int} (h : CTri Tryz.prog 46 [] [.sl (flat intC p0) (List.length p0) .nn] (.sl (flat intC r) (List.length r) .no) [] 0) : CT Tryz.prog 46 [] [.sl (flat intC p0) (List.length p0) .nn] (.sl (flat intC r) (List.length r) .no) [] 0 := ⟨h, ⟨⟨trivial, dI _⟩, trivial⟩, forall_nil, dI _, forall_nil⟩
theorem c46v1 {qq : Nat} {p0 : List Int} {r : List Int} (h : e46v1 qq p0 = some r) : CT Tryz.prog 46 [] [.sl (flat intC p0) (List.length p0) .nn] (.sl (flat intC r) (List.length r) .no) [] 0 := by
  unfold e46v1 at h
  obtain ⟨l1, h2, h⟩ := obind h
  by_cases h3 : List.length p0 = 0
  · obtain rfl := sj h
    exact k46v1 (tF q46v1 0 [] (oD (dI l1) <| oP 2 (apN37 h2 h3) o0) (by kernel_rfl))
  · obtain rfl := sj h
    exact k46v1 (tF q46v1 0 [] (oD (dI l1) <| oP 2 (apS37 h2 h3) o0) (by kernel_rfl))
theorem m46v1 {qq : Nat} {p0 : List Int} {r : List Int} (h : e46v1 qq p0 = some r) : e46v1 (qq + 1) p0 = some r := by
  unfold e46v1 at h ⊢
  obtain ⟨l1, hx, h⟩ := obind h
  refine obk hx ?_
  exact h

end Go.Proofs.YtlbmblbeccafcaaGreat

namespace Go.Proofs.YtlbmblbeccafcaaGreat
open Go Go.Ab

/- a clone, whatever it is of -/
def e46 (_qq : Nat) (p0 : List Int) : Option (List Int) := gapp 8 [] p0
theorem c46 {qq : Nat} {p0 : List Int} {r : List Int} (h : e46 qq p0 = some r) : CT Tryz.prog 46 [] [.sl (flat intC p0) (List.length p0) .no] (.sl (flat intC r) (List.length r) .no) [] 0 := by
  have hr : r = p0 := by have := (gapp_spec h).2; simpa using this
  have h1 : e46v1 qq p0 = some r := by unfold e46v1; rw [show gapp 8 ([] : List Int) p0 = some r from h]; rfl
  have k1 := c46v1 h1
  refine ⟨CTri.nilcase (fun hn => ?_) k1.tri, ⟨⟨trivial, dI _⟩, trivial⟩, (fun _ h => nomatch h), dI _, (fun _ h => nomatch h)⟩
  have hp : p0 = [] := flat_nil codecI (by decide) hn
  subst hr
  subst hp
  exact (c46v0 (qq := qq) rfl).tri
theorem m46 {qq : Nat} {p0 : List Int} {r : List Int} (h : e46 qq p0 = some r) : e46 (qq + 1) p0 = some r := h


end Go.Proofs.YtlbmblbeccafcaaGreat

namespace Go.Proofs.YtlbmblbeccafcaaGreat
open Go Go.Ab

/- scholium/term.cloned -/
mutual
def e85 : Nat → Tm →  Option (Tm)
  | 0, _ => none
  | qq + 1, p0 =>
    e85L40557 qq p0 0 []
def e85L40557 : Nat → Tm → Int → (List Tm) →  Option (Tm)
  | 0, _, _, _ => none
  | qq + 1, p0, v14, vb1_2 =>
    if decide (v14 < (List.length p0.sub : Int)) = true then
      (gidx p0.sub v14) >>= fun x2 =>
      (e85 qq x2) >>= fun r4 =>
      (gapp 40 vb1_2 [r4]) >>= fun l6 =>
      e85L40557 qq p0 (w64 (v14 + 1)) l6
    else
      some (Tm.mk p0.k p0.n vb1_2)
end
def g85L40557E0 (j : Nat → Value) (p0 : Tm) (v14 : Int) (vb1_2 : List Tm) : List AV := sp j 27 0 [(2, .mp 0 0), (3, .mp 1 0), (12, .sl (flat tmCells p0.sub) (List.length p0.sub) .no), (13, ai (List.length p0.sub : Int)), (14, ai v14)]
def g85L40557S0 (p0 : Tm) (v14 : Int) (vb1_2 : List Tm) : LSt := ⟨[(0, .cells [ai 0, ai 0, .sl (flat tmCells ([] : List Tm)) (List.length ([] : List Tm)) .nl]), (1, .cells [ai p0.k, ai p0.n, .sl (flat tmCells vb1_2) (List.length vb1_2) (.st 0 3)])], 2, [0], 1, []⟩
theorem q85 : Tryz.prog.funcs[85]? = some Tryz.f85 ∧ Tryz.f85.body.isNone = false := ⟨Tryz.func85, by kernel_rfl⟩
theorem k85 {p0 : Tm} {r : Tm} (h : CTri Tryz.prog 85 [] [tmA p0] (tmA r) [] 0) : CT Tryz.prog 85 [] [tmA p0] (tmA r) [] 0 := ⟨h, ⟨⟨trivial, trivial, ⟨trivial, dT _⟩, trivial⟩, trivial⟩, forall_nil, ⟨trivial, trivial, dT _, trivial⟩, forall_nil⟩
theorem a85_85L40557 : ∀ qq : Nat, (∀ (p0 : Tm) (r : Tm), e85 qq p0 = some r → CT Tryz.prog 85 [] [tmA p0] (tmA r) [] 0) ∧ (∀ (p0 : Tm) (v14 : Int) (vb1_2 : List Tm) (r : Tm), e85L40557 qq p0 v14 vb1_2 = some r → (∀ j, Dl Tryz.prog 0 (inn (inn (rgt (lft (rgt (rgt (bod Tryz.f85))))))) (g85L40557E0 j p0 v14 vb1_2) (g85L40557S0 p0 v14 vb1_2) (frameQ Tryz.prog 0 (FinQ Tryz.prog 0 Tryz.f85 (tmA r) [] 0) [.blk 0, .seq (rgt (rgt (rgt (bod Tryz.f85))))]))) := by
  intro qq
  induction qq with
  | zero =>
    exact ⟨fun _ _ h => nn h, fun _ _ _ _ h => nn h⟩
  | succ qq ih =>
    obtain ⟨ih85, ih85L40557⟩ := ih
    refine ⟨?_, ?_⟩
    · intro p0 r h
      rw [e85] at h
      exact k85 (tH q85 5 [(some 2, 2, 3)] [1, 2] [0] [2, 3, 12, 13, 14] (oD (dT p0.sub) <| oD (dT ([] : List Tm)) <| oD (dT ([] : List Tm)) o0) (ih85L40557 _ _ _ _ h) (fun j => by kernel_rfl))
    · intro p0 v14 vb1_2 r h
      rw [e85L40557] at h
      rcases spl h with ⟨h1, h⟩ | ⟨h1, h⟩
      · obtain ⟨x2, h3, h⟩ := obind h
        obtain ⟨r4, h5, h⟩ := obind h
        obtain ⟨l6, h7, h⟩ := obind h
        exact fun j => lH 2 [] [0, 1] [1] [2, 3, 12, 13, 14] (oD (dT p0.sub) <| oD (dT l6) <| oD (dT ([] : List Tm)) <| oP 0 (apS22 h7 (by simp)) <| oS 0 (obLitR tm_eq [r4]) <| oC 4 [] (ih85 _ _ h5) <| oA 0 (ix22 (o := .no) h3) <| oB 0 h1 o0) (ih85L40557 _ _ _ _ h) (fun j => by kernel_rfl)
      · obtain rfl := sj h
        exact fun j => lF 2 [] (oD (dT vb1_2) <| oB 0 h1 o0) (by kernel_rfl)
theorem c85 {qq : Nat} {p0 : Tm} {r : Tm} (h : e85 qq p0 = some r) : CT Tryz.prog 85 [] [tmA p0] (tmA r) [] 0 := (a85_85L40557 _).1 _ _ h
theorem mm85_85L40557 : ∀ qq : Nat, (∀ (p0 : Tm) (r : Tm), e85 qq p0 = some r → e85 (qq + 1) p0 = some r) ∧ (∀ (p0 : Tm) (v14 : Int) (vb1_2 : List Tm) (r : Tm), e85L40557 qq p0 v14 vb1_2 = some r → e85L40557 (qq + 1) p0 v14 vb1_2 = some r) := by
  intro qq
  induction qq with
  | zero => exact ⟨fun _ _ h => nn h, fun _ _ _ _ h => nn h⟩
  | succ qq ih =>
    obtain ⟨ih85, ih85L40557⟩ := ih
    refine ⟨?_, ?_⟩
    · intro p0 r h
      rw [e85] at h ⊢
      exact ih85L40557 _ _ _ _ h
    · intro p0 v14 vb1_2 r h
      rw [e85L40557] at h ⊢
      rcases spl h with ⟨k, h⟩ | ⟨k, h⟩
      · rw [ifTe k]
        obtain ⟨x2, hx, h⟩ := obind h
        refine obk hx ?_
        obtain ⟨r4, hx, h⟩ := obind h
        refine obk (ih85 _ _ hx) ?_
        obtain ⟨l6, hx, h⟩ := obind h
        refine obk hx ?_
        exact ih85L40557 _ _ _ _ h
      · rw [ifFe k]
        exact h
theorem m85 {qq : Nat} {p0 : Tm} {r : Tm} (h : e85 qq p0 = some r) : e85 (qq + 1) p0 = some r := (mm85_85L40557 _).1 _ _ h
theorem m85L40557 {qq : Nat} {p0 : Tm} {v14 : Int} {vb1_2 : List Tm} {r : Tm} (h : e85L40557 qq p0 v14 vb1_2 = some r) : e85L40557 (qq + 1) p0 v14 vb1_2 = some r := (mm85_85L40557 _).2 _ _ _ _ h

end Go.Proofs.YtlbmblbeccafcaaGreat

namespace Go.Proofs.YtlbmblbeccafcaaGreat
open Go Go.Ab

/- scholium/term.Copy -/
def e50 (qq : Nat) (p0 : Tm) : Option (Tm) :=
  (e51 qq p0) >>= fun r1 =>
  if r1 = true then
    (e85 qq p0) >>= fun r4 =>
    some r4
  else
    some (Tm.mk 0 0 [])
theorem q50 : Tryz.prog.funcs[50]? = some Tryz.f50 ∧ Tryz.f50.body.isNone = false := ⟨Tryz.func50, by kernel_rfl⟩
theorem k50 {p0 : Tm} {r : Tm} (h : CTri Tryz.prog 50 [] [tmA p0] (tmA r) [] 0) : CT Tryz.prog 50 [] [tmA p0] (tmA r) [] 0 := ⟨h, ⟨⟨trivial, trivial, ⟨trivial, dT _⟩, trivial⟩, trivial⟩, forall_nil, ⟨trivial, trivial, dT _, trivial⟩, forall_nil⟩
theorem c50 {qq : Nat} {p0 : Tm} {r : Tm} (h : e50 qq p0 = some r) : CT Tryz.prog 50 [] [tmA p0] (tmA r) [] 0 := by
  unfold e50 at h
  obtain ⟨r1, h2, h⟩ := obind h
  rcases spl h with ⟨h3, h⟩ | ⟨h3, h⟩
  · obtain ⟨r4, h5, h⟩ := obind h
    obtain rfl := sj h
    exact k50 (tF q50 1 [] (oD (dT r4.sub) <| oC 2 [] (c85 h5) <| oK 1 [] h3 (c51 h2) o0) (by kernel_rfl))
  · obtain rfl := sj h
    exact k50 (tF q50 2 [] (oD (dT ([] : List Tm)) <| oK 1 [] h3 (c51 h2) o0) (by kernel_rfl))
theorem m50 {qq : Nat} {p0 : Tm} {r : Tm} (h : e50 qq p0 = some r) : e50 (qq + 1) p0 = some r := by
  unfold e50 at h ⊢
  obtain ⟨r1, hx, h⟩ := obind h
  refine obk (m51 hx) ?_
  rcases spl h with ⟨k, h⟩ | ⟨k, h⟩
  · rw [ifTe k]
    obtain ⟨r4, hx, h⟩ := obind h
    refine obk (m85 hx) ?_
    exact h
  · rw [ifFe k]
    exact h

end Go.Proofs.YtlbmblbeccafcaaGreat

namespace Go.Proofs.YtlbmblbeccafcaaGreat
open Go Go.Ab

/- scholium/sign.Copy -/
def e38L9534 : Nat → (List Ent) → (List Ent) → Int →  Option (List Ent)
  | 0, _, _, _ => none
  | qq + 1, p0, v3, v8 =>
    if decide (v8 < (List.length p0 : Int)) = true then
      (gidx p0 v8) >>= fun x2 =>
      (e50 qq x2.type) >>= fun r4 =>
      (e50 qq x2.body) >>= fun r6 =>
      (e46 qq x2.cons) >>= fun r8 =>
      (e46 qq x2.fields) >>= fun r10 =>
      (gapp 192 v3 [(Ent.mk x2.kind x2.name r4 r6 x2.fam x2.place x2.pars x2.inds x2.level r8 r10)]) >>= fun l12 =>
      e38L9534 qq p0 l12 (w64 (v8 + 1))
    else
      some v3
def e38 (qq : Nat) (p0 : List Ent) : Option (List Ent) :=
  e38L9534 qq p0 [] 0
def g38L9534E0 (j : Nat → Value) (p0 : List Ent) (v3 : List Ent) (v8 : Int) : List AV := sp j 34 0 [(3, .sl (flat entL v3) (List.length v3) (.st 0 15)), (6, .sl (flat entL p0) (List.length p0) .no), (7, ai (List.length p0 : Int)), (8, ai v8)]
def g38L9534S0 (p0 : List Ent) (v3 : List Ent) (v8 : Int) : LSt := ⟨[], 0, [0], 1, []⟩
theorem q38 : Tryz.prog.funcs[38]? = some Tryz.f38 ∧ Tryz.f38.body.isNone = false := ⟨Tryz.func38, by kernel_rfl⟩
theorem k38 {p0 : List Ent} {r : List Ent} (h : CTri Tryz.prog 38 [] [.sl (flat entL p0) (List.length p0) .no] (.sl (flat entL r) (List.length r) .no) [] 0) : CT Tryz.prog 38 [] [.sl (flat entL p0) (List.length p0) .no] (.sl (flat entL r) (List.length r) .no) [] 0 := ⟨h, ⟨⟨trivial, dE _⟩, trivial⟩, forall_nil, dE _, forall_nil⟩
theorem l38L9534 : ∀ qq : Nat, (∀ (p0 : List Ent) (v3 : List Ent) (v8 : Int) (r : List Ent), e38L9534 qq p0 v3 v8 = some r → (∀ j, Dl Tryz.prog 0 (inn (inn (rgt (lft (rgt (rgt (bod Tryz.f38))))))) (g38L9534E0 j p0 v3 v8) (g38L9534S0 p0 v3 v8) (frameQ Tryz.prog 0 (FinQ Tryz.prog 0 Tryz.f38 (.sl (flat entL r) (List.length r) .no) [] 0) [.blk 0, .seq (rgt (rgt (rgt (bod Tryz.f38))))]))) := by
  intro qq
  induction qq with
  | zero =>
    exact fun _ _ _ _ h => nn h
  | succ qq ih =>
    intro p0 v3 v8 r h
    rw [e38L9534] at h
    rcases spl h with ⟨h1, h⟩ | ⟨h1, h⟩
    · obtain ⟨x2, h3, h⟩ := obind h
      obtain ⟨r4, h5, h⟩ := obind h
      obtain ⟨r6, h7, h⟩ := obind h
      obtain ⟨r8, h9, h⟩ := obind h
      obtain ⟨r10, h11, h⟩ := obind h
      obtain ⟨l12, h13, h⟩ := obind h
      exact fun j => lH 1 [] [] [1] [3, 6, 7, 8] (oD (dE p0) <| oD (dE l12) <| oP 4 (apS25 h13 (by simp)) <| oC 1 [] (c46 h11) <| oC 3 [] (c46 h9) <| oC 1 [] (c50 h7) <| oC 3 [] (c50 h5) <| oA 0 (ix25 (o := .no) h3) <| oB 0 h1 o0) (ih _ _ _ _ h) (fun j => by kernel_rfl)
    · obtain rfl := sj h
      exact fun j => lF 0 [] (oD (dE v3) <| oB 0 h1 o0) (by kernel_rfl)
theorem c38 {qq : Nat} {p0 : List Ent} {r : List Ent} (h : e38 qq p0 = some r) : CT Tryz.prog 38 [] [.sl (flat entL p0) (List.length p0) .no] (.sl (flat entL r) (List.length r) .no) [] 0 := by
  unfold e38 at h
  exact k38 (tH q38 1 [(none, 3, 15)] [] [0] [3, 6, 7, 8] (oD (dE p0) <| oD (dE ([] : List Ent)) o0) (l38L9534 _ _ _ _ _ h) (fun j => by kernel_rfl))
theorem mm38L9534 : ∀ qq : Nat, (∀ (p0 : List Ent) (v3 : List Ent) (v8 : Int) (r : List Ent), e38L9534 qq p0 v3 v8 = some r → e38L9534 (qq + 1) p0 v3 v8 = some r) := by
  intro qq
  induction qq with
  | zero => exact fun _ _ _ _ h => nn h
  | succ qq ih =>
    have ih38L9534 := ih
    intro p0 v3 v8 r h
    rw [e38L9534] at h ⊢
    rcases spl h with ⟨k, h⟩ | ⟨k, h⟩
    · rw [ifTe k]
      obtain ⟨x2, hx, h⟩ := obind h
      refine obk hx ?_
      obtain ⟨r4, hx, h⟩ := obind h
      refine obk (m50 hx) ?_
      obtain ⟨r6, hx, h⟩ := obind h
      refine obk (m50 hx) ?_
      obtain ⟨r8, hx, h⟩ := obind h
      refine obk (m46 hx) ?_
      obtain ⟨r10, hx, h⟩ := obind h
      refine obk (m46 hx) ?_
      obtain ⟨l12, hx, h⟩ := obind h
      refine obk hx ?_
      exact ih38L9534 _ _ _ _ h
    · rw [ifFe k]
      exact h
theorem m38L9534 {qq : Nat} {p0 : List Ent} {v3 : List Ent} {v8 : Int} {r : List Ent} (h : e38L9534 qq p0 v3 v8 = some r) : e38L9534 (qq + 1) p0 v3 v8 = some r := mm38L9534 _ _ _ _ _ h
theorem m38 {qq : Nat} {p0 : List Ent} {r : List Ent} (h : e38 qq p0 = some r) : e38 (qq + 1) p0 = some r := by
  unfold e38 at h ⊢
  exact m38L9534 h

end Go.Proofs.YtlbmblbeccafcaaGreat

namespace Go.Proofs.YtlbmblbeccafcaaGreat
open Go Go.Ab

/- scholium/name.Distinct -/
def e93L46123 : Nat → (List ByteArray) → Int → (List (ByteArray × Int)) →  Option (Bool)
  | 0, _, _, _ => none
  | qq + 1, p0, v9, vb0_0 =>
    if decide (v9 < (List.length p0 : Int)) = true then
      (gidx p0 v9) >>= fun x2 =>
      if decide ((mget vb0_0 x2) > 0) = true then
        none
      else
        e93L46123 qq p0 (w64 (v9 + 1)) (mset vb0_0 x2 (w64 ((mget vb0_0 x2) + 1)))
    else
      some true
def e93 (qq : Nat) (p0 : List ByteArray) : Option (Bool) :=
  e93L46123 qq p0 0 ([] : List (ByteArray × Int))
def g93L46123E0 (j : Nat → Value) (p0 : List ByteArray) (v9 : Int) (vb0_0 : List (ByteArray × Int)) : List AV := sp j 22 0 [(3, .obj 0), (7, .sl (flat strC p0) (List.length p0) .no), (8, ai (List.length p0 : Int)), (9, ai v9)]
def g93L46123S0 (p0 : List ByteArray) (v9 : Int) (vb0_0 : List (ByteArray × Int)) : LSt := ⟨[(0, smap vb0_0)], 1, [], 0, []⟩
theorem q93 : Tryz.prog.funcs[93]? = some Tryz.f93 ∧ Tryz.f93.body.isNone = false := ⟨Tryz.func93, by kernel_rfl⟩
theorem k93 {p0 : List ByteArray} {r : Bool} (h : CTri Tryz.prog 93 [] [.sl (flat strC p0) (List.length p0) .no] (ab r) [] 0) : CT Tryz.prog 93 [] [.sl (flat strC p0) (List.length p0) .no] (ab r) [] 0 := ⟨h, ⟨⟨trivial, dS _⟩, trivial⟩, forall_nil, trivial, forall_nil⟩
theorem l93L46123 : ∀ qq : Nat, (∀ (p0 : List ByteArray) (v9 : Int) (vb0_0 : List (ByteArray × Int)) (r : Bool), e93L46123 qq p0 v9 vb0_0 = some r → (∀ j, Dl Tryz.prog 0 (inn (inn (rgt (lft (rgt (rgt (bod Tryz.f93))))))) (g93L46123E0 j p0 v9 vb0_0) (g93L46123S0 p0 v9 vb0_0) (frameQ Tryz.prog 0 (FinQ Tryz.prog 0 Tryz.f93 (ab r) [] 0) [.blk 0, .seq (rgt (rgt (rgt (bod Tryz.f93))))]))) := by
  intro qq
  induction qq with
  | zero =>
    exact fun _ _ _ _ h => nn h
  | succ qq ih =>
    intro p0 v9 vb0_0 r h
    rw [e93L46123] at h
    rcases spl h with ⟨h1, h⟩ | ⟨h1, h⟩
    · obtain ⟨x2, h3, h⟩ := obind h
      have k := oL 1 (lk220 vb0_0 x2) <| oA 0 (ix133 (o := .no) h3) <| oB 0 h1 o0
      obtain ⟨h4, h⟩ := splF h
      exact fun j => lH 1 [] [0] [] [3, 7, 8, 9] (oD (dS p0) <| oU 1 (mu220 vb0_0 x2 (w64 ((mget vb0_0 x2) + 1))) <| oL 0 (lk220 vb0_0 x2) <| oB 0 h4 k) (ih _ _ _ _ h) (fun j => by kernel_rfl)
    · obtain rfl := sj h
      exact fun j => lF 0 [] (oB 0 h1 o0) (by kernel_rfl)
theorem c93 {qq : Nat} {p0 : List ByteArray} {r : Bool} (h : e93 qq p0 = some r) : CT Tryz.prog 93 [] [.sl (flat strC p0) (List.length p0) .no] (ab r) [] 0 := by
  unfold e93 at h
  exact k93 (tH q93 1 [] [0] [] [3, 7, 8, 9] (oD (dS p0) o0) (l93L46123 _ _ _ _ _ h) (fun j => by kernel_rfl))
theorem mm93L46123 : ∀ qq : Nat, (∀ (p0 : List ByteArray) (v9 : Int) (vb0_0 : List (ByteArray × Int)) (r : Bool), e93L46123 qq p0 v9 vb0_0 = some r → e93L46123 (qq + 1) p0 v9 vb0_0 = some r) := by
  intro qq
  induction qq with
  | zero => exact fun _ _ _ _ h => nn h
  | succ qq ih =>
    have ih93L46123 := ih
    intro p0 v9 vb0_0 r h
    rw [e93L46123] at h ⊢
    rcases spl h with ⟨k, h⟩ | ⟨k, h⟩
    · rw [ifTe k]
      obtain ⟨x2, hx, h⟩ := obind h
      refine obk hx ?_
      obtain ⟨k, h⟩ := splF h
      rw [ifFe k]
      exact ih93L46123 _ _ _ _ h
    · rw [ifFe k]
      exact h
theorem m93L46123 {qq : Nat} {p0 : List ByteArray} {v9 : Int} {vb0_0 : List (ByteArray × Int)} {r : Bool} (h : e93L46123 qq p0 v9 vb0_0 = some r) : e93L46123 (qq + 1) p0 v9 vb0_0 = some r := mm93L46123 _ _ _ _ _ h
theorem m93 {qq : Nat} {p0 : List ByteArray} {r : Bool} (h : e93 qq p0 = some r) : e93 (qq + 1) p0 = some r := by
  unfold e93 at h ⊢
  exact m93L46123 h

end Go.Proofs.YtlbmblbeccafcaaGreat

namespace Go.Proofs.YtlbmblbeccafcaaGreat
open Go Go.Ab

/- scholium/sign.Names -/
def e94L63904 : Nat → (List Ent) → (List ByteArray) → Int →  Option (List ByteArray)
  | 0, _, _, _ => none
  | qq + 1, p0, v3, v8 =>
    if decide (v8 < (List.length p0 : Int)) = true then
      (gidx p0 v8) >>= fun x2 =>
      (gapp 16 v3 [x2.name]) >>= fun l4 =>
      e94L63904 qq p0 l4 (w64 (v8 + 1))
    else
      some v3
def e94 (qq : Nat) (p0 : List Ent) : Option (List ByteArray) :=
  e94L63904 qq p0 [] 0
def g94L63904E0 (j : Nat → Value) (p0 : List Ent) (v3 : List ByteArray) (v8 : Int) : List AV := sp j 19 0 [(3, .sl (flat strC v3) (List.length v3) (.st 0 1)), (6, .sl (flat entL p0) (List.length p0) .no), (7, ai (List.length p0 : Int)), (8, ai v8)]
def g94L63904S0 (p0 : List Ent) (v3 : List ByteArray) (v8 : Int) : LSt := ⟨[], 0, [0], 1, []⟩
theorem q94 : Tryz.prog.funcs[94]? = some Tryz.f94 ∧ Tryz.f94.body.isNone = false := ⟨Tryz.func94, by kernel_rfl⟩
theorem k94 {p0 : List Ent} {r : List ByteArray} (h : CTri Tryz.prog 94 [] [.sl (flat entL p0) (List.length p0) .no] (.sl (flat strC r) (List.length r) .no) [] 0) : CT Tryz.prog 94 [] [.sl (flat entL p0) (List.length p0) .no] (.sl (flat strC r) (List.length r) .no) [] 0 := ⟨h, ⟨⟨trivial, dE _⟩, trivial⟩, forall_nil, dS _, forall_nil⟩
theorem l94L63904 : ∀ qq : Nat, (∀ (p0 : List Ent) (v3 : List ByteArray) (v8 : Int) (r : List ByteArray), e94L63904 qq p0 v3 v8 = some r → (∀ j, Dl Tryz.prog 0 (inn (inn (rgt (lft (rgt (rgt (bod Tryz.f94))))))) (g94L63904E0 j p0 v3 v8) (g94L63904S0 p0 v3 v8) (frameQ Tryz.prog 0 (FinQ Tryz.prog 0 Tryz.f94 (.sl (flat strC r) (List.length r) .no) [] 0) [.blk 0, .seq (rgt (rgt (rgt (bod Tryz.f94))))]))) := by
  intro qq
  induction qq with
  | zero =>
    exact fun _ _ _ _ h => nn h
  | succ qq ih =>
    intro p0 v3 v8 r h
    rw [e94L63904] at h
    rcases spl h with ⟨h1, h⟩ | ⟨h1, h⟩
    · obtain ⟨x2, h3, h⟩ := obind h
      obtain ⟨l4, h5, h⟩ := obind h
      exact fun j => lH 1 [] [] [1] [3, 6, 7, 8] (oD (dE p0) <| oD (dS l4) <| oP 4 (apS133 h5 (by simp)) <| oA 0 (ix25 (o := .no) h3) <| oB 0 h1 o0) (ih _ _ _ _ h) (fun j => by kernel_rfl)
    · obtain rfl := sj h
      exact fun j => lF 0 [] (oD (dS v3) <| oB 0 h1 o0) (by kernel_rfl)
theorem c94 {qq : Nat} {p0 : List Ent} {r : List ByteArray} (h : e94 qq p0 = some r) : CT Tryz.prog 94 [] [.sl (flat entL p0) (List.length p0) .no] (.sl (flat strC r) (List.length r) .no) [] 0 := by
  unfold e94 at h
  exact k94 (tH q94 1 [(none, 3, 1)] [] [0] [3, 6, 7, 8] (oD (dE p0) <| oD (dS ([] : List ByteArray)) o0) (l94L63904 _ _ _ _ _ h) (fun j => by kernel_rfl))
theorem mm94L63904 : ∀ qq : Nat, (∀ (p0 : List Ent) (v3 : List ByteArray) (v8 : Int) (r : List ByteArray), e94L63904 qq p0 v3 v8 = some r → e94L63904 (qq + 1) p0 v3 v8 = some r) := by
  intro qq
  induction qq with
  | zero => exact fun _ _ _ _ h => nn h
  | succ qq ih =>
    have ih94L63904 := ih
    intro p0 v3 v8 r h
    rw [e94L63904] at h ⊢
    rcases spl h with ⟨k, h⟩ | ⟨k, h⟩
    · rw [ifTe k]
      obtain ⟨x2, hx, h⟩ := obind h
      refine obk hx ?_
      obtain ⟨l4, hx, h⟩ := obind h
      refine obk hx ?_
      exact ih94L63904 _ _ _ _ h
    · rw [ifFe k]
      exact h
theorem m94L63904 {qq : Nat} {p0 : List Ent} {v3 : List ByteArray} {v8 : Int} {r : List ByteArray} (h : e94L63904 qq p0 v3 v8 = some r) : e94L63904 (qq + 1) p0 v3 v8 = some r := mm94L63904 _ _ _ _ _ h
theorem m94 {qq : Nat} {p0 : List Ent} {r : List ByteArray} (h : e94 qq p0 = some r) : e94 (qq + 1) p0 = some r := by
  unfold e94 at h ⊢
  exact m94L63904 h

end Go.Proofs.YtlbmblbeccafcaaGreat

namespace Go.Proofs.YtlbmblbeccafcaaGreat
open Go Go.Ab

/- scholium/utf.Right -/
def e253 (qq : Nat) (p0 : Int) : Option (Bool) :=
  if decide (p0 ≥ 0) = true then
    if decide (p0 ≤ 1114111) = true then
      if decide (p0 < 55296) = true then
        some true
      else
        none
    else
      none
  else
    none
theorem q253 : Tryz.prog.funcs[253]? = some Tryz.f253 ∧ Tryz.f253.body.isNone = false := ⟨Tryz.func253, by kernel_rfl⟩
theorem k253 {p0 : Int} {r : Bool} (h : CTri Tryz.prog 253 [] [ai p0] (ab r) [] 0) : CT Tryz.prog 253 [] [ai p0] (ab r) [] 0 := ⟨h, ⟨trivial, trivial⟩, forall_nil, trivial, forall_nil⟩
theorem c253 {qq : Nat} {p0 : Int} {r : Bool} (h : e253 qq p0 = some r) : CT Tryz.prog 253 [] [ai p0] (ab r) [] 0 := by
  unfold e253 at h
  obtain ⟨h1, h⟩ := splT h
  have k := oB 0 h1 o0
  obtain ⟨h2, h⟩ := splT h
  have k := oB 0 h2 k
  obtain ⟨h3, h⟩ := splT h
  obtain rfl := sj h
  exact k253 (tF q253 0 [] (oB 0 h3 k) (by kernel_rfl))
theorem m253 {qq : Nat} {p0 : Int} {r : Bool} (h : e253 qq p0 = some r) : e253 (qq + 1) p0 = some r := by
  unfold e253 at h ⊢
  obtain ⟨k, h⟩ := splT h
  rw [ifTe k]
  obtain ⟨k, h⟩ := splT h
  rw [ifTe k]
  obtain ⟨k, h⟩ := splT h
  rw [ifTe k]
  exact h

end Go.Proofs.YtlbmblbeccafcaaGreat

namespace Go.Proofs.YtlbmblbeccafcaaGreat
open Go Go.Ab

/- scholium/utf.lead -/
def e307 (qq : Nat) (p0 : U8) : Option (Int × Int) :=
  if decide (p0 < 128) = true then
    some (1, (w64 (p0)))
  else
    none
theorem q307 : Tryz.prog.funcs[307]? = some Tryz.f307 ∧ Tryz.f307.body.isNone = false := ⟨Tryz.func307, by kernel_rfl⟩
theorem k307 {p0 : U8} {r : Int × Int} (h : CTri Tryz.prog 307 [] [.val (.int .u8 p0)] (.tup [ai r.1, ai r.2]) [] 0) : CT Tryz.prog 307 [] [.val (.int .u8 p0)] (.tup [ai r.1, ai r.2]) [] 0 := ⟨h, ⟨trivial, trivial⟩, forall_nil, ⟨trivial, trivial, trivial⟩, forall_nil⟩
theorem c307 {qq : Nat} {p0 : U8} {r : Int × Int} (h : e307 qq p0 = some r) : CT Tryz.prog 307 [] [.val (.int .u8 p0)] (.tup [ai r.1, ai r.2]) [] 0 := by
  unfold e307 at h
  obtain ⟨h1, h⟩ := splT h
  obtain rfl := sj h
  exact k307 (tF q307 1 [] (oB 0 h1 o0) (by kernel_rfl))
theorem m307 {qq : Nat} {p0 : U8} {r : Int × Int} (h : e307 qq p0 = some r) : e307 (qq + 1) p0 = some r := by
  unfold e307 at h ⊢
  obtain ⟨k, h⟩ := splT h
  rw [ifTe k]
  exact h

end Go.Proofs.YtlbmblbeccafcaaGreat

namespace Go.Proofs.YtlbmblbeccafcaaGreat
open Go Go.Ab

/- scholium/utf.width -/
def e308 (qq : Nat) (p0 : Int) : Option (Int) :=
  if decide (p0 ≥ 65536) = true then
    none
  else
    if decide (p0 ≥ 2048) = true then
      none
    else
      if decide (p0 ≥ 128) = true then
        none
      else
        some 1
theorem q308 : Tryz.prog.funcs[308]? = some Tryz.f308 ∧ Tryz.f308.body.isNone = false := ⟨Tryz.func308, by kernel_rfl⟩
theorem k308 {p0 : Int} {r : Int} (h : CTri Tryz.prog 308 [] [ai p0] (ai r) [] 0) : CT Tryz.prog 308 [] [ai p0] (ai r) [] 0 := ⟨h, ⟨trivial, trivial⟩, forall_nil, trivial, forall_nil⟩
theorem c308 {qq : Nat} {p0 : Int} {r : Int} (h : e308 qq p0 = some r) : CT Tryz.prog 308 [] [ai p0] (ai r) [] 0 := by
  unfold e308 at h
  obtain ⟨h1, h⟩ := splF h
  have k := oB 0 h1 o0
  obtain ⟨h2, h⟩ := splF h
  have k := oB 0 h2 k
  obtain ⟨h3, h⟩ := splF h
  obtain rfl := sj h
  exact k308 (tF q308 0 [] (oB 0 h3 k) (by kernel_rfl))
theorem m308 {qq : Nat} {p0 : Int} {r : Int} (h : e308 qq p0 = some r) : e308 (qq + 1) p0 = some r := by
  unfold e308 at h ⊢
  obtain ⟨k, h⟩ := splF h
  rw [ifFe k]
  obtain ⟨k, h⟩ := splF h
  rw [ifFe k]
  obtain ⟨k, h⟩ := splF h
  rw [ifFe k]
  exact h

end Go.Proofs.YtlbmblbeccafcaaGreat

namespace Go.Proofs.YtlbmblbeccafcaaGreat
open Go Go.Ab

/- scholium/utf.Next -/
def e251L52715 (qq : Nat) (p0 : ByteArray) (p1 : Int) (r5 : Int × Int) (v8 : Int) (v9 : Int) : Option (Int × Int × Int) :=
  if decide (v9 < r5.1) = true then
    none
  else
    (e253 qq v8) >>= fun r13 =>
    if r13 = true then
      (e308 qq v8) >>= fun r16 =>
      if (r16 != r5.1) = true then
        none
      else
        some (v8, r5.1, 0)
    else
      none
def e251 (qq : Nat) (p0 : ByteArray) (p1 : Int) : Option (Int × Int × Int) :=
  if decide (p1 < 0) = true then
    none
  else
    if decide (p1 ≥ (p0.size : Int)) = true then
      none
    else
      (gbyte p0 p1) >>= fun x3 =>
      (e307 qq x3) >>= fun r5 =>
      if (r5.1 == 0) = true then
        none
      else
        if decide (r5.1 > (w64 ((p0.size : Int) - p1))) = true then
          none
        else
          e251L52715 qq p0 p1 r5 r5.2 1
def g251L52715E0 (j : Nat → Value) (p0 : ByteArray) (p1 : Int) (r5 : Int × Int) (v8 : Int) (v9 : Int) : List AV := sp j 66 0 [(0, at' p0), (1, ai p1), (7, ai r5.1), (8, ai v8), (9, ai v9)]
def g251L52715S0 (p0 : ByteArray) (p1 : Int) (r5 : Int × Int) (v8 : Int) (v9 : Int) : LSt := ⟨[], 0, [], 0, []⟩
theorem q251 : Tryz.prog.funcs[251]? = some Tryz.f251 ∧ Tryz.f251.body.isNone = false := ⟨Tryz.func251, by kernel_rfl⟩
theorem k251 {p0 : ByteArray} {p1 : Int} {r : Int × Int × Int} (h : CTri Tryz.prog 251 [] [at' p0, ai p1] (.tup [ai r.1, ai r.2.1, ai r.2.2]) [] 0) : CT Tryz.prog 251 [] [at' p0, ai p1] (.tup [ai r.1, ai r.2.1, ai r.2.2]) [] 0 := ⟨h, ⟨trivial, trivial, trivial⟩, forall_nil, ⟨trivial, trivial, trivial, trivial⟩, forall_nil⟩
theorem l251L52715 (qq : Nat) (p0 : ByteArray) (p1 : Int) (r5 : Int × Int) (v8 : Int) (v9 : Int) (r : Int × Int × Int) (h : e251L52715 qq p0 p1 r5 v8 v9 = some r) : (∀ j, Dl Tryz.prog 0 (inn (inn (rgt (lft (rgt (rgt (rgt (rgt (bod Tryz.f251))))))))) (g251L52715E0 j p0 p1 r5 v8 v9) (g251L52715S0 p0 p1 r5 v8 v9) (frameQ Tryz.prog 0 (FinQ Tryz.prog 0 Tryz.f251 (.tup [ai r.1, ai r.2.1, ai r.2.2]) [] 0) [.blk 0, .seq (rgt (rgt (rgt (rgt (rgt (bod Tryz.f251))))))])) := by
  unfold e251L52715 at h
  obtain ⟨h9, h⟩ := splF h
  obtain ⟨r13, h14, h⟩ := obind h
  have k := oB 0 h9 o0
  obtain ⟨h15, h⟩ := splT h
  obtain ⟨r16, h17, h⟩ := obind h
  have k := oC 1 [] (c308 h17) <| oK 0 [] h15 (c253 h14) k
  obtain ⟨h18, h⟩ := splF h
  obtain rfl := sj h
  exact fun j => lF 0 [] (oB 0 h18 k) (by kernel_rfl)
theorem c251 {qq : Nat} {p0 : ByteArray} {p1 : Int} {r : Int × Int × Int} (h : e251 qq p0 p1 = some r) : CT Tryz.prog 251 [] [at' p0, ai p1] (.tup [ai r.1, ai r.2.1, ai r.2.2]) [] 0 := by
  unfold e251 at h
  obtain ⟨h1, h⟩ := splF h
  have k := oB 0 h1 o0
  obtain ⟨h2, h⟩ := splF h
  obtain ⟨x3, h4, h⟩ := obind h
  obtain ⟨r5, h6, h⟩ := obind h
  have k := oC 0 [] (c307 h6) <| oA 0 (ixStr9 h4) <| oB 1 h2 k
  obtain ⟨h7, h⟩ := splF h
  have k := oB 2 h7 k
  obtain ⟨h8, h⟩ := splF h
  exact k251 (tH q251 0 [] [] [] [0, 1, 7, 8, 9] (oB 2 h8 k) (l251L52715 qq _ _ _ _ _ _ h) (fun j => by kernel_rfl))
theorem m251L52715 {qq : Nat} {p0 : ByteArray} {p1 : Int} {r5 : Int × Int} {v8 : Int} {v9 : Int} {r : Int × Int × Int} (h : e251L52715 qq p0 p1 r5 v8 v9 = some r) : e251L52715 (qq + 1) p0 p1 r5 v8 v9 = some r := by
  unfold e251L52715 at h ⊢
  obtain ⟨k, h⟩ := splF h
  rw [ifFe k]
  obtain ⟨r13, hx, h⟩ := obind h
  refine obk (m253 hx) ?_
  obtain ⟨k, h⟩ := splT h
  rw [ifTe k]
  obtain ⟨r16, hx, h⟩ := obind h
  refine obk (m308 hx) ?_
  obtain ⟨k, h⟩ := splF h
  rw [ifFe k]
  exact h
theorem m251 {qq : Nat} {p0 : ByteArray} {p1 : Int} {r : Int × Int × Int} (h : e251 qq p0 p1 = some r) : e251 (qq + 1) p0 p1 = some r := by
  unfold e251 at h ⊢
  obtain ⟨k, h⟩ := splF h
  rw [ifFe k]
  obtain ⟨k, h⟩ := splF h
  rw [ifFe k]
  obtain ⟨x3, hx, h⟩ := obind h
  refine obk hx ?_
  obtain ⟨r5, hx, h⟩ := obind h
  refine obk (m307 hx) ?_
  obtain ⟨k, h⟩ := splF h
  rw [ifFe k]
  obtain ⟨k, h⟩ := splF h
  rw [ifFe k]
  exact m251L52715 h

end Go.Proofs.YtlbmblbeccafcaaGreat

namespace Go.Proofs.YtlbmblbeccafcaaGreat
open Go Go.Ab

/- scholium/utf.All -/
def e191L39588 : Nat → ByteArray → (List Int) → Int →  Option (List Int × Int × Int)
  | 0, _, _, _ => none
  | qq + 1, p0, v5, v6 =>
    if decide (v6 < (p0.size : Int)) = true then
      (e251 qq p0 v6) >>= fun r3 =>
      if (r3.2.2 != 0) = true then
        none
      else
        (gapp 8 v5 [r3.1]) >>= fun l6 =>
        e191L39588 qq p0 l6 (w64 (v6 + r3.2.1))
    else
      some (v5, (p0.size : Int), 0)
def e191 (qq : Nat) (p0 : ByteArray) : Option (List Int × Int × Int) :=
  if decide ((p0.size : Int) > 65535) = true then
    none
  else
    e191L39588 qq p0 [] 0
def g191L39588E0 (j : Nat → Value) (p0 : ByteArray) (v5 : List Int) (v6 : Int) : List AV := sp j 38 0 [(0, at' p0), (5, .sl (flat intC v5) (List.length v5) (.st 0 1)), (6, ai v6)]
def g191L39588S0 (p0 : ByteArray) (v5 : List Int) (v6 : Int) : LSt := ⟨[], 0, [0], 1, []⟩
theorem q191 : Tryz.prog.funcs[191]? = some Tryz.f191 ∧ Tryz.f191.body.isNone = false := ⟨Tryz.func191, by kernel_rfl⟩
theorem k191 {p0 : ByteArray} {r : List Int × Int × Int} (h : CTri Tryz.prog 191 [] [at' p0] (.tup [.sl (flat intC r.1) (List.length r.1) .no, ai r.2.1, ai r.2.2]) [] 0) : CT Tryz.prog 191 [] [at' p0] (.tup [.sl (flat intC r.1) (List.length r.1) .no, ai r.2.1, ai r.2.2]) [] 0 := ⟨h, ⟨trivial, trivial⟩, forall_nil, ⟨dI _, trivial, trivial, trivial⟩, forall_nil⟩
theorem l191L39588 : ∀ qq : Nat, (∀ (p0 : ByteArray) (v5 : List Int) (v6 : Int) (r : List Int × Int × Int), e191L39588 qq p0 v5 v6 = some r → (∀ j, Dl Tryz.prog 0 (inn (inn (rgt (lft (rgt (rgt (rgt (bod Tryz.f191)))))))) (g191L39588E0 j p0 v5 v6) (g191L39588S0 p0 v5 v6) (frameQ Tryz.prog 0 (FinQ Tryz.prog 0 Tryz.f191 (.tup [.sl (flat intC r.1) (List.length r.1) .no, ai r.2.1, ai r.2.2]) [] 0) [.blk 0, .seq (rgt (rgt (rgt (rgt (bod Tryz.f191)))))]))) := by
  intro qq
  induction qq with
  | zero =>
    exact fun _ _ _ _ h => nn h
  | succ qq ih =>
    intro p0 v5 v6 r h
    rw [e191L39588] at h
    rcases spl h with ⟨h2, h⟩ | ⟨h2, h⟩
    · obtain ⟨r3, h4, h⟩ := obind h
      have k := oC 0 [] (c251 h4) <| oB 1 h2 o0
      obtain ⟨h5, h⟩ := splF h
      obtain ⟨l6, h7, h⟩ := obind h
      exact fun j => lH 1 [] [] [1] [0, 5, 6] (oD (dI l6) <| oP 1 (apS37 h7 (by simp)) <| oB 3 h5 k) (ih _ _ _ _ h) (fun j => by kernel_rfl)
    · obtain rfl := sj h
      exact fun j => lF 1 [] (oD (dI v5) <| oB 1 h2 o0) (by kernel_rfl)
theorem c191 {qq : Nat} {p0 : ByteArray} {r : List Int × Int × Int} (h : e191 qq p0 = some r) : CT Tryz.prog 191 [] [at' p0] (.tup [.sl (flat intC r.1) (List.length r.1) .no, ai r.2.1, ai r.2.2]) [] 0 := by
  unfold e191 at h
  obtain ⟨h1, h⟩ := splF h
  exact k191 (tH q191 0 [(none, 5, 1)] [] [0] [0, 5, 6] (oD (dI ([] : List Int)) <| oB 1 h1 o0) (l191L39588 _ _ _ _ _ h) (fun j => by kernel_rfl))
theorem mm191L39588 : ∀ qq : Nat, (∀ (p0 : ByteArray) (v5 : List Int) (v6 : Int) (r : List Int × Int × Int), e191L39588 qq p0 v5 v6 = some r → e191L39588 (qq + 1) p0 v5 v6 = some r) := by
  intro qq
  induction qq with
  | zero => exact fun _ _ _ _ h => nn h
  | succ qq ih =>
    have ih191L39588 := ih
    intro p0 v5 v6 r h
    rw [e191L39588] at h ⊢
    rcases spl h with ⟨k, h⟩ | ⟨k, h⟩
    · rw [ifTe k]
      obtain ⟨r3, hx, h⟩ := obind h
      refine obk (m251 hx) ?_
      obtain ⟨k, h⟩ := splF h
      rw [ifFe k]
      obtain ⟨l6, hx, h⟩ := obind h
      refine obk hx ?_
      exact ih191L39588 _ _ _ _ h
    · rw [ifFe k]
      exact h
theorem m191L39588 {qq : Nat} {p0 : ByteArray} {v5 : List Int} {v6 : Int} {r : List Int × Int × Int} (h : e191L39588 qq p0 v5 v6 = some r) : e191L39588 (qq + 1) p0 v5 v6 = some r := mm191L39588 _ _ _ _ _ h
theorem m191 {qq : Nat} {p0 : ByteArray} {r : List Int × Int × Int} (h : e191 qq p0 = some r) : e191 (qq + 1) p0 = some r := by
  unfold e191 at h ⊢
  obtain ⟨k, h⟩ := splF h
  rw [ifFe k]
  exact m191L39588 h

end Go.Proofs.YtlbmblbeccafcaaGreat

namespace Go.Proofs.YtlbmblbeccafcaaGreat
open Go Go.Ab

/- scholium/name.Keyword -/
def e192 (qq : Nat) (p0 : ByteArray) : Option (Bool) :=
  if (p0.toList == (⟨#[100, 97, 116, 97]⟩ : ByteArray).toList) = true then
    none
  else
    if (p0.toList == (⟨#[114, 101, 99, 111, 114, 100]⟩ : ByteArray).toList) = true then
      none
    else
      if (p0.toList == (⟨#[100, 101, 102]⟩ : ByteArray).toList) = true then
        none
      else
        if (p0.toList == (⟨#[83, 101, 116]⟩ : ByteArray).toList) = true then
          none
        else
          some false
theorem q192 : Tryz.prog.funcs[192]? = some Tryz.f192 ∧ Tryz.f192.body.isNone = false := ⟨Tryz.func192, by kernel_rfl⟩
theorem k192 {p0 : ByteArray} {r : Bool} (h : CTri Tryz.prog 192 [] [at' p0] (ab r) [] 0) : CT Tryz.prog 192 [] [at' p0] (ab r) [] 0 := ⟨h, ⟨trivial, trivial⟩, forall_nil, trivial, forall_nil⟩
theorem c192 {qq : Nat} {p0 : ByteArray} {r : Bool} (h : e192 qq p0 = some r) : CT Tryz.prog 192 [] [at' p0] (ab r) [] 0 := by
  unfold e192 at h
  obtain ⟨h1, h⟩ := splF h
  have k := oB 0 h1 o0
  obtain ⟨h2, h⟩ := splF h
  have k := oB 0 h2 k
  obtain ⟨h3, h⟩ := splF h
  have k := oB 0 h3 k
  obtain ⟨h4, h⟩ := splF h
  obtain rfl := sj h
  exact k192 (tF q192 0 [] (oB 0 h4 k) (by kernel_rfl))
theorem m192 {qq : Nat} {p0 : ByteArray} {r : Bool} (h : e192 qq p0 = some r) : e192 (qq + 1) p0 = some r := by
  unfold e192 at h ⊢
  obtain ⟨k, h⟩ := splF h
  rw [ifFe k]
  obtain ⟨k, h⟩ := splF h
  rw [ifFe k]
  obtain ⟨k, h⟩ := splF h
  rw [ifFe k]
  obtain ⟨k, h⟩ := splF h
  rw [ifFe k]
  exact h

end Go.Proofs.YtlbmblbeccafcaaGreat

namespace Go.Proofs.YtlbmblbeccafcaaGreat
open Go Go.Ab

/- scholium/name.Letter -/
def e194 (qq : Nat) (p0 : Int) : Option (Bool) :=
  if decide (p0 < 128) = true then
    if decide (p0 ≥ 97) = true then
      if decide (p0 ≤ 122) = true then
        some true
      else
        none
    else
      if decide (p0 ≥ 65) = true then
        some (decide (p0 ≤ 90))
      else
        none
  else
    none
theorem q194 : Tryz.prog.funcs[194]? = some Tryz.f194 ∧ Tryz.f194.body.isNone = false := ⟨Tryz.func194, by kernel_rfl⟩
theorem k194 {p0 : Int} {r : Bool} (h : CTri Tryz.prog 194 [] [ai p0] (ab r) [] 0) : CT Tryz.prog 194 [] [ai p0] (ab r) [] 0 := ⟨h, ⟨trivial, trivial⟩, forall_nil, trivial, forall_nil⟩
theorem c194 {qq : Nat} {p0 : Int} {r : Bool} (h : e194 qq p0 = some r) : CT Tryz.prog 194 [] [ai p0] (ab r) [] 0 := by
  unfold e194 at h
  obtain ⟨h1, h⟩ := splT h
  have k := oB 0 h1 o0
  rcases spl h with ⟨h2, h⟩ | ⟨h2, h⟩
  · have k := oB 0 h2 k
    obtain ⟨h3, h⟩ := splT h
    obtain rfl := sj h
    exact k194 (tF q194 0 [] (oB 0 h3 k) (by kernel_rfl))
  · have k := oB 0 h2 k
    obtain ⟨h5, h⟩ := splT h
    obtain rfl := sj h
    exact k194 (tF q194 1 [] (oB 0 h5 k) (by kernel_rfl))
theorem m194 {qq : Nat} {p0 : Int} {r : Bool} (h : e194 qq p0 = some r) : e194 (qq + 1) p0 = some r := by
  unfold e194 at h ⊢
  obtain ⟨k, h⟩ := splT h
  rw [ifTe k]
  rcases spl h with ⟨k, h⟩ | ⟨k, h⟩
  · rw [ifTe k]
    obtain ⟨k, h⟩ := splT h
    rw [ifTe k]
    exact h
  · rw [ifFe k]
    obtain ⟨k, h⟩ := splT h
    rw [ifTe k]
    exact h

end Go.Proofs.YtlbmblbeccafcaaGreat

namespace Go.Proofs.YtlbmblbeccafcaaGreat
open Go Go.Ab

/- scholium/name.inner -/
def e193 (qq : Nat) (p0 : Int) : Option (Bool) :=
  (e194 qq p0) >>= fun r1 =>
  if r1 = true then
    some true
  else
    none
theorem q193 : Tryz.prog.funcs[193]? = some Tryz.f193 ∧ Tryz.f193.body.isNone = false := ⟨Tryz.func193, by kernel_rfl⟩
theorem k193 {p0 : Int} {r : Bool} (h : CTri Tryz.prog 193 [] [ai p0] (ab r) [] 0) : CT Tryz.prog 193 [] [ai p0] (ab r) [] 0 := ⟨h, ⟨trivial, trivial⟩, forall_nil, trivial, forall_nil⟩
theorem c193 {qq : Nat} {p0 : Int} {r : Bool} (h : e193 qq p0 = some r) : CT Tryz.prog 193 [] [ai p0] (ab r) [] 0 := by
  unfold e193 at h
  obtain ⟨r1, h2, h⟩ := obind h
  obtain ⟨h3, h⟩ := splT h
  obtain rfl := sj h
  exact k193 (tF q193 0 [] (oK 0 [] h3 (c194 h2) o0) (by kernel_rfl))
theorem m193 {qq : Nat} {p0 : Int} {r : Bool} (h : e193 qq p0 = some r) : e193 (qq + 1) p0 = some r := by
  unfold e193 at h ⊢
  obtain ⟨r1, hx, h⟩ := obind h
  refine obk (m194 hx) ?_
  obtain ⟨k, h⟩ := splT h
  rw [ifTe k]
  exact h

end Go.Proofs.YtlbmblbeccafcaaGreat

namespace Go.Proofs.YtlbmblbeccafcaaGreat
open Go Go.Ab

/- scholium/name.Right -/
def e140L37498 : Nat → (List Int × Int × Int) → Int →  Option (Bool)
  | 0, _, _ => none
  | qq + 1, r1, v32 =>
    if decide (v32 < (List.length r1.1 : Int)) = true then
      (gidx r1.1 v32) >>= fun x10 =>
      (e193 qq x10) >>= fun r12 =>
      if r12 = true then
        e140L37498 qq r1 (w64 (v32 + 1))
      else
        none
    else
      (gidx r1.1 0) >>= fun x15 =>
      (e194 qq x15) >>= fun r17 =>
      if r17 = true then
        some true
      else
        none
def e140 (qq : Nat) (p0 : ByteArray) : Option (Bool) :=
  (e191 qq p0) >>= fun r1 =>
  if (r1.2.2 != 0) = true then
    none
  else
    if ((List.length r1.1 : Int) == 0) = true then
      none
    else
      if decide ((p0.size : Int) > 40) = true then
        none
      else
        (e192 qq p0) >>= fun r6 =>
        if r6 = true then
          none
        else
          e140L37498 qq r1 0
def g140L37498E0 (j : Nat → Value) (r1 : List Int × Int × Int) (v32 : Int) : List AV := sp j 55 0 [(3, .sl (flat intC r1.1) (List.length r1.1) .no), (30, .sl (flat intC r1.1) (List.length r1.1) .no), (31, ai (List.length r1.1 : Int)), (32, ai v32)]
def g140L37498S0 (r1 : List Int × Int × Int) (v32 : Int) : LSt := ⟨[], 0, [], 0, []⟩
theorem q140 : Tryz.prog.funcs[140]? = some Tryz.f140 ∧ Tryz.f140.body.isNone = false := ⟨Tryz.func140, by kernel_rfl⟩
theorem k140 {p0 : ByteArray} {r : Bool} (h : CTri Tryz.prog 140 [] [at' p0] (ab r) [] 0) : CT Tryz.prog 140 [] [at' p0] (ab r) [] 0 := ⟨h, ⟨trivial, trivial⟩, forall_nil, trivial, forall_nil⟩
theorem l140L37498 : ∀ qq : Nat, (∀ (r1 : List Int × Int × Int) (v32 : Int) (r : Bool), e140L37498 qq r1 v32 = some r → (∀ j, Dl Tryz.prog 0 (inn (inn (rgt (lft (rgt (rgt (rgt (bod Tryz.f140)))))))) (g140L37498E0 j r1 v32) (g140L37498S0 r1 v32) (frameQ Tryz.prog 0 (FinQ Tryz.prog 0 Tryz.f140 (ab r) [] 0) [.blk 0, .seq (rgt (rgt (rgt (rgt (bod Tryz.f140)))))]))) := by
  intro qq
  induction qq with
  | zero =>
    exact fun _ _ _ h => nn h
  | succ qq ih =>
    intro r1 v32 r h
    rw [e140L37498] at h
    rcases spl h with ⟨h9, h⟩ | ⟨h9, h⟩
    · obtain ⟨x10, h11, h⟩ := obind h
      obtain ⟨r12, h13, h⟩ := obind h
      have k := oA 0 (ix37 (o := .no) h11) <| oB 0 h9 o0
      obtain ⟨h14, h⟩ := splT h
      exact fun j => lH 2 [] [] [] [3, 30, 31, 32] (oD (dI r1.1) <| oD (dI r1.1) <| oK 1 [] h14 (c193 h13) k) (ih _ _ _ h) (fun j => by kernel_rfl)
    · obtain ⟨x15, h16, h⟩ := obind h
      obtain ⟨r17, h18, h⟩ := obind h
      have k := oA 0 (ix37 (o := .no) h16) <| oB 0 h9 o0
      obtain ⟨h19, h⟩ := splT h
      obtain rfl := sj h
      exact fun j => lF 0 [] (oK 1 [] h19 (c194 h18) k) (by kernel_rfl)
theorem c140 {qq : Nat} {p0 : ByteArray} {r : Bool} (h : e140 qq p0 = some r) : CT Tryz.prog 140 [] [at' p0] (ab r) [] 0 := by
  unfold e140 at h
  obtain ⟨r1, h2, h⟩ := obind h
  have k := oC 0 [] (c191 h2) o0
  obtain ⟨h3, h⟩ := splF h
  have k := oB 3 h3 k
  obtain ⟨h4, h⟩ := splF h
  have k := oB 1 h4 k
  obtain ⟨h5, h⟩ := splF h
  obtain ⟨r6, h7, h⟩ := obind h
  have k := oB 1 h5 k
  obtain ⟨h8, h⟩ := splF h
  exact k140 (tH q140 1 [] [] [] [3, 30, 31, 32] (oD (dI r1.1) <| oD (dI r1.1) <| oK 0 [] h8 (c192 h7) k) (l140L37498 _ _ _ _ h) (fun j => by kernel_rfl))
theorem mm140L37498 : ∀ qq : Nat, (∀ (r1 : List Int × Int × Int) (v32 : Int) (r : Bool), e140L37498 qq r1 v32 = some r → e140L37498 (qq + 1) r1 v32 = some r) := by
  intro qq
  induction qq with
  | zero => exact fun _ _ _ h => nn h
  | succ qq ih =>
    have ih140L37498 := ih
    intro r1 v32 r h
    rw [e140L37498] at h ⊢
    rcases spl h with ⟨k, h⟩ | ⟨k, h⟩
    · rw [ifTe k]
      obtain ⟨x10, hx, h⟩ := obind h
      refine obk hx ?_
      obtain ⟨r12, hx, h⟩ := obind h
      refine obk (m193 hx) ?_
      obtain ⟨k, h⟩ := splT h
      rw [ifTe k]
      exact ih140L37498 _ _ _ h
    · rw [ifFe k]
      obtain ⟨x15, hx, h⟩ := obind h
      refine obk hx ?_
      obtain ⟨r17, hx, h⟩ := obind h
      refine obk (m194 hx) ?_
      obtain ⟨k, h⟩ := splT h
      rw [ifTe k]
      exact h
theorem m140L37498 {qq : Nat} {r1 : List Int × Int × Int} {v32 : Int} {r : Bool} (h : e140L37498 qq r1 v32 = some r) : e140L37498 (qq + 1) r1 v32 = some r := mm140L37498 _ _ _ _ h
theorem m140 {qq : Nat} {p0 : ByteArray} {r : Bool} (h : e140 qq p0 = some r) : e140 (qq + 1) p0 = some r := by
  unfold e140 at h ⊢
  obtain ⟨r1, hx, h⟩ := obind h
  refine obk (m191 hx) ?_
  obtain ⟨k, h⟩ := splF h
  rw [ifFe k]
  obtain ⟨k, h⟩ := splF h
  rw [ifFe k]
  obtain ⟨k, h⟩ := splF h
  rw [ifFe k]
  obtain ⟨r6, hx, h⟩ := obind h
  refine obk (m192 hx) ?_
  obtain ⟨k, h⟩ := splF h
  rw [ifFe k]
  exact m140L37498 h

end Go.Proofs.YtlbmblbeccafcaaGreat

namespace Go.Proofs.YtlbmblbeccafcaaGreat
open Go Go.Ab

/- scholium/sign.closed -/
def e141 (qq : Nat) (p0 : Tm) (p1 : Int) : Option (Bool) :=
  (e41 qq p0 0 p1) >>= fun r1 =>
  if r1 = true then
    (e71 qq p0) >>= fun r4 =>
    some ((List.length r4 : Int) == 0)
  else
    none
theorem q141 : Tryz.prog.funcs[141]? = some Tryz.f141 ∧ Tryz.f141.body.isNone = false := ⟨Tryz.func141, by kernel_rfl⟩
theorem k141 {p0 : Tm} {p1 : Int} {r : Bool} (h : CTri Tryz.prog 141 [] [tmA p0, ai p1] (ab r) [] 0) : CT Tryz.prog 141 [] [tmA p0, ai p1] (ab r) [] 0 := ⟨h, ⟨⟨trivial, trivial, ⟨trivial, dT _⟩, trivial⟩, trivial, trivial⟩, forall_nil, trivial, forall_nil⟩
theorem c141 {qq : Nat} {p0 : Tm} {p1 : Int} {r : Bool} (h : e141 qq p0 p1 = some r) : CT Tryz.prog 141 [] [tmA p0, ai p1] (ab r) [] 0 := by
  unfold e141 at h
  obtain ⟨r1, h2, h⟩ := obind h
  obtain ⟨h3, h⟩ := splT h
  obtain ⟨r4, h5, h⟩ := obind h
  obtain rfl := sj h
  exact k141 (tF q141 2 [] (oC 1 [] (c71 h5) <| oK 1 [] h3 (c41 h2) o0) (by kernel_rfl))
theorem m141 {qq : Nat} {p0 : Tm} {p1 : Int} {r : Bool} (h : e141 qq p0 p1 = some r) : e141 (qq + 1) p0 p1 = some r := by
  unfold e141 at h ⊢
  obtain ⟨r1, hx, h⟩ := obind h
  refine obk (m41 hx) ?_
  obtain ⟨k, h⟩ := splT h
  rw [ifTe k]
  obtain ⟨r4, hx, h⟩ := obind h
  refine obk (m71 hx) ?_
  exact h

end Go.Proofs.YtlbmblbeccafcaaGreat

namespace Go.Proofs.YtlbmblbeccafcaaGreat
open Go Go.Ab

/- scholium/tele.Split -/
def e97L42644 : Nat → Int → Int → (List Tm) → Int → Int → (List Tm) →  Option (List Tm × Tm × Int)
  | 0, _, _, _, _, _, _ => none
  | qq + 1, p1, v25, v7, vb1_0, vb1_1, vb1_2 =>
    if decide (v25 < p1) = true then
      if (vb1_0 != 3) = true then
        none
      else
        (gidx vb1_2 0) >>= fun x10 =>
        (gapp 40 v7 [x10]) >>= fun l12 =>
        (gidx vb1_2 1) >>= fun x14 =>
        e97L42644 qq p1 (w64 (v25 + 1)) l12 x14.k x14.n x14.sub
    else
      some (v7, (Tm.mk vb1_0 vb1_1 vb1_2), 0)
def e97 (qq : Nat) (p0 : Tm) (p1 : Int) : Option (List Tm × Tm × Int) :=
  (e51 qq p0) >>= fun r1 =>
  if r1 = true then
    if decide (p1 < 0) = true then
      none
    else
      if decide (p1 > 24) = true then
        none
      else
        (e50 qq p0) >>= fun r6 =>
        e97L42644 qq p1 0 [] r6.k r6.n r6.sub
  else
    none
def g97L42644E0 (j : Nat → Value) (p1 : Int) (v25 : Int) (v7 : List Tm) (vb1_0 : Int) (vb1_1 : Int) (vb1_2 : List Tm) : List AV := sp j 45 0 [(5, .mp 0 0), (7, .sl (flat tmCells v7) (List.length v7) (.st 0 3)), (8, .mp 1 0), (24, ai p1), (25, ai v25)]
def g97L42644S0 (p1 : Int) (v25 : Int) (v7 : List Tm) (vb1_0 : Int) (vb1_1 : Int) (vb1_2 : List Tm) : LSt := ⟨[(0, .cells [ai 0, ai 0, .sl (flat tmCells ([] : List Tm)) (List.length ([] : List Tm)) .nl]), (1, .cells [ai vb1_0, ai vb1_1, .sl (flat tmCells vb1_2) (List.length vb1_2) .no])], 2, [0], 1, []⟩
theorem q97 : Tryz.prog.funcs[97]? = some Tryz.f97 ∧ Tryz.f97.body.isNone = false := ⟨Tryz.func97, by kernel_rfl⟩
theorem k97 {p0 : Tm} {p1 : Int} {r : List Tm × Tm × Int} (h : CTri Tryz.prog 97 [] [tmA p0, ai p1] (.tup [.sl (flat tmCells r.1) (List.length r.1) .no, tmA r.2.1, ai r.2.2]) [] 0) : CT Tryz.prog 97 [] [tmA p0, ai p1] (.tup [.sl (flat tmCells r.1) (List.length r.1) .no, tmA r.2.1, ai r.2.2]) [] 0 := ⟨h, ⟨⟨trivial, trivial, ⟨trivial, dT _⟩, trivial⟩, trivial, trivial⟩, forall_nil, ⟨dT _, ⟨trivial, trivial, dT _, trivial⟩, trivial, trivial⟩, forall_nil⟩
theorem l97L42644 : ∀ qq : Nat, (∀ (p1 : Int) (v25 : Int) (v7 : List Tm) (vb1_0 : Int) (vb1_1 : Int) (vb1_2 : List Tm) (r : List Tm × Tm × Int), e97L42644 qq p1 v25 v7 vb1_0 vb1_1 vb1_2 = some r → (∀ j, Dl Tryz.prog 0 (inn (inn (rgt (lft (rgt (rgt (rgt (rgt (bod Tryz.f97))))))))) (g97L42644E0 j p1 v25 v7 vb1_0 vb1_1 vb1_2) (g97L42644S0 p1 v25 v7 vb1_0 vb1_1 vb1_2) (frameQ Tryz.prog 0 (FinQ Tryz.prog 0 Tryz.f97 (.tup [.sl (flat tmCells r.1) (List.length r.1) .no, tmA r.2.1, ai r.2.2]) [] 0) [.blk 1, .seq (rgt (rgt (rgt (rgt (rgt (bod Tryz.f97))))))]))) := by
  intro qq
  induction qq with
  | zero =>
    exact fun _ _ _ _ _ _ _ h => nn h
  | succ qq ih =>
    intro p1 v25 v7 vb1_0 vb1_1 vb1_2 r h
    rw [e97L42644] at h
    rcases spl h with ⟨h8, h⟩ | ⟨h8, h⟩
    · have k := oB 0 h8 o0
      obtain ⟨h9, h⟩ := splF h
      obtain ⟨x10, h11, h⟩ := obind h
      obtain ⟨l12, h13, h⟩ := obind h
      obtain ⟨x14, h15, h⟩ := obind h
      exact fun j => lH 3 [] [0, 1] [1] [5, 7, 8, 24, 25] (oD (dT l12) <| oD (dT x14.sub) <| oD (dT ([] : List Tm)) <| oA 1 (ix22 (o := .no) h15) <| oP 0 (apS22 h13 (by simp)) <| oS 1 (obLitR tm_eq [x10]) <| oA 1 (ix22 (o := .no) h11) <| oB 1 h9 k) (ih _ _ _ _ _ _ _ h) (fun j => by kernel_rfl)
    · obtain rfl := sj h
      exact fun j => lF 2 [] (oD (dT vb1_2) <| oD (dT v7) <| oB 0 h8 o0) (by kernel_rfl)
theorem c97 {qq : Nat} {p0 : Tm} {p1 : Int} {r : List Tm × Tm × Int} (h : e97 qq p0 p1 = some r) : CT Tryz.prog 97 [] [tmA p0, ai p1] (.tup [.sl (flat tmCells r.1) (List.length r.1) .no, tmA r.2.1, ai r.2.2]) [] 0 := by
  unfold e97 at h
  obtain ⟨r1, h2, h⟩ := obind h
  obtain ⟨h3, h⟩ := splT h
  have k := oK 1 [] h3 (c51 h2) o0
  obtain ⟨h4, h⟩ := splF h
  have k := oB 1 h4 k
  obtain ⟨h5, h⟩ := splF h
  obtain ⟨r6, h7, h⟩ := obind h
  exact k97 (tH q97 1 [(none, 7, 3)] [1, 2] [0] [5, 7, 8, 24, 25] (oD (dT ([] : List Tm)) <| oD (dT r6.sub) <| oD (dT ([] : List Tm)) <| oC 1 [] (c50 h7) <| oB 0 h5 k) (l97L42644 _ _ _ _ _ _ _ _ h) (fun j => by kernel_rfl))
theorem mm97L42644 : ∀ qq : Nat, (∀ (p1 : Int) (v25 : Int) (v7 : List Tm) (vb1_0 : Int) (vb1_1 : Int) (vb1_2 : List Tm) (r : List Tm × Tm × Int), e97L42644 qq p1 v25 v7 vb1_0 vb1_1 vb1_2 = some r → e97L42644 (qq + 1) p1 v25 v7 vb1_0 vb1_1 vb1_2 = some r) := by
  intro qq
  induction qq with
  | zero => exact fun _ _ _ _ _ _ _ h => nn h
  | succ qq ih =>
    have ih97L42644 := ih
    intro p1 v25 v7 vb1_0 vb1_1 vb1_2 r h
    rw [e97L42644] at h ⊢
    rcases spl h with ⟨k, h⟩ | ⟨k, h⟩
    · rw [ifTe k]
      obtain ⟨k, h⟩ := splF h
      rw [ifFe k]
      obtain ⟨x10, hx, h⟩ := obind h
      refine obk hx ?_
      obtain ⟨l12, hx, h⟩ := obind h
      refine obk hx ?_
      obtain ⟨x14, hx, h⟩ := obind h
      refine obk hx ?_
      exact ih97L42644 _ _ _ _ _ _ _ h
    · rw [ifFe k]
      exact h
theorem m97L42644 {qq : Nat} {p1 : Int} {v25 : Int} {v7 : List Tm} {vb1_0 : Int} {vb1_1 : Int} {vb1_2 : List Tm} {r : List Tm × Tm × Int} (h : e97L42644 qq p1 v25 v7 vb1_0 vb1_1 vb1_2 = some r) : e97L42644 (qq + 1) p1 v25 v7 vb1_0 vb1_1 vb1_2 = some r := mm97L42644 _ _ _ _ _ _ _ _ h
theorem m97 {qq : Nat} {p0 : Tm} {p1 : Int} {r : List Tm × Tm × Int} (h : e97 qq p0 p1 = some r) : e97 (qq + 1) p0 p1 = some r := by
  unfold e97 at h ⊢
  obtain ⟨r1, hx, h⟩ := obind h
  refine obk (m51 hx) ?_
  obtain ⟨k, h⟩ := splT h
  rw [ifTe k]
  obtain ⟨k, h⟩ := splF h
  rw [ifFe k]
  obtain ⟨k, h⟩ := splF h
  rw [ifFe k]
  obtain ⟨r6, hx, h⟩ := obind h
  refine obk (m50 hx) ?_
  exact m97L42644 h

end Go.Proofs.YtlbmblbeccafcaaGreat

namespace Go.Proofs.YtlbmblbeccafcaaGreat
open Go Go.Ab

/- scholium/tele.Whole -/
def e103L57463 : Nat → Tm → Int → Int → Int → (List Tm) →  Option (List Tm × Tm × Int)
  | 0, _, _, _, _, _ => none
  | qq + 1, p0, v5, vb2_0, vb2_1, vb2_2 =>
    if (vb2_0 == 3) = true then
      if ((List.length vb2_2 : Int) == 2) = true then
        if decide (v5 ≤ 24) = true then
          (gidx vb2_2 1) >>= fun x4 =>
          e103L57463 qq p0 (w64 (v5 + 1)) x4.k x4.n x4.sub
        else
          none
      else
        none
    else
      (e97 qq p0 v5) >>= fun r10 =>
      some (r10.1, r10.2.1, r10.2.2)
def e103 (qq : Nat) (p0 : Tm) : Option (List Tm × Tm × Int) :=
  e103L57463 qq p0 0 p0.k p0.n p0.sub
def g103L57463E0 (j : Nat → Value) (p0 : Tm) (v5 : Int) (vb2_0 : Int) (vb2_1 : Int) (vb2_2 : List Tm) : List AV := sp j 34 0 [(1, .mp 0 0), (3, .mp 1 0), (5, ai v5), (6, .mp 2 0)]
def g103L57463S0 (p0 : Tm) (v5 : Int) (vb2_0 : Int) (vb2_1 : Int) (vb2_2 : List Tm) : LSt := ⟨[(0, .cells [ai p0.k, ai p0.n, .sl (flat tmCells p0.sub) (List.length p0.sub) .no]), (1, .cells [ai 0, ai 0, .sl (flat tmCells ([] : List Tm)) (List.length ([] : List Tm)) .nl]), (2, .cells [ai vb2_0, ai vb2_1, .sl (flat tmCells vb2_2) (List.length vb2_2) .no])], 3, [], 0, []⟩
theorem q103 : Tryz.prog.funcs[103]? = some Tryz.f103 ∧ Tryz.f103.body.isNone = false := ⟨Tryz.func103, by kernel_rfl⟩
theorem k103 {p0 : Tm} {r : List Tm × Tm × Int} (h : CTri Tryz.prog 103 [] [tmA p0] (.tup [.sl (flat tmCells r.1) (List.length r.1) .no, tmA r.2.1, ai r.2.2]) [] 0) : CT Tryz.prog 103 [] [tmA p0] (.tup [.sl (flat tmCells r.1) (List.length r.1) .no, tmA r.2.1, ai r.2.2]) [] 0 := ⟨h, ⟨⟨trivial, trivial, ⟨trivial, dT _⟩, trivial⟩, trivial⟩, forall_nil, ⟨dT _, ⟨trivial, trivial, dT _, trivial⟩, trivial, trivial⟩, forall_nil⟩
theorem l103L57463 : ∀ qq : Nat, (∀ (p0 : Tm) (v5 : Int) (vb2_0 : Int) (vb2_1 : Int) (vb2_2 : List Tm) (r : List Tm × Tm × Int), e103L57463 qq p0 v5 vb2_0 vb2_1 vb2_2 = some r → (∀ j, Dl Tryz.prog 0 (inn (inn (rgt (lft (rgt (rgt (bod Tryz.f103))))))) (g103L57463E0 j p0 v5 vb2_0 vb2_1 vb2_2) (g103L57463S0 p0 v5 vb2_0 vb2_1 vb2_2) (frameQ Tryz.prog 0 (FinQ Tryz.prog 0 Tryz.f103 (.tup [.sl (flat tmCells r.1) (List.length r.1) .no, tmA r.2.1, ai r.2.2]) [] 0) [.blk 0, .seq (rgt (rgt (rgt (bod Tryz.f103))))]))) := by
  intro qq
  induction qq with
  | zero =>
    exact fun _ _ _ _ _ _ h => nn h
  | succ qq ih =>
    intro p0 v5 vb2_0 vb2_1 vb2_2 r h
    rw [e103L57463] at h
    rcases spl h with ⟨h1, h⟩ | ⟨h1, h⟩
    · have k := oB 1 h1 o0
      obtain ⟨h2, h⟩ := splT h
      have k := oB 2 h2 k
      obtain ⟨h3, h⟩ := splT h
      obtain ⟨x4, h5, h⟩ := obind h
      exact fun j => lH 2 [] [0, 1, 3] [] [1, 3, 5, 6] (oD (dT x4.sub) <| oD (dT ([] : List Tm)) <| oD (dT p0.sub) <| oA 4 (ix22 (o := .no) h5) <| oB 0 h3 k) (ih _ _ _ _ _ _ h) (fun j => by kernel_rfl)
    · obtain ⟨r10, h11, h⟩ := obind h
      obtain rfl := sj h
      exact fun j => lF 4 [] (oD (dT r10.2.1.sub) <| oD (dT r10.1) <| oC 1 [] (c97 h11) <| oB 1 h1 o0) (by kernel_rfl)
theorem c103 {qq : Nat} {p0 : Tm} {r : List Tm × Tm × Int} (h : e103 qq p0 = some r) : CT Tryz.prog 103 [] [tmA p0] (.tup [.sl (flat tmCells r.1) (List.length r.1) .no, tmA r.2.1, ai r.2.2]) [] 0 := by
  unfold e103 at h
  exact k103 (tH q103 2 [] [0, 1, 2] [] [1, 3, 5, 6] (oD (dT p0.sub) <| oD (dT ([] : List Tm)) <| oD (dT p0.sub) o0) (l103L57463 _ _ _ _ _ _ _ h) (fun j => by kernel_rfl))
theorem mm103L57463 : ∀ qq : Nat, (∀ (p0 : Tm) (v5 : Int) (vb2_0 : Int) (vb2_1 : Int) (vb2_2 : List Tm) (r : List Tm × Tm × Int), e103L57463 qq p0 v5 vb2_0 vb2_1 vb2_2 = some r → e103L57463 (qq + 1) p0 v5 vb2_0 vb2_1 vb2_2 = some r) := by
  intro qq
  induction qq with
  | zero => exact fun _ _ _ _ _ _ h => nn h
  | succ qq ih =>
    have ih103L57463 := ih
    intro p0 v5 vb2_0 vb2_1 vb2_2 r h
    rw [e103L57463] at h ⊢
    rcases spl h with ⟨k, h⟩ | ⟨k, h⟩
    · rw [ifTe k]
      obtain ⟨k, h⟩ := splT h
      rw [ifTe k]
      obtain ⟨k, h⟩ := splT h
      rw [ifTe k]
      obtain ⟨x4, hx, h⟩ := obind h
      refine obk hx ?_
      exact ih103L57463 _ _ _ _ _ _ h
    · rw [ifFe k]
      obtain ⟨r10, hx, h⟩ := obind h
      refine obk (m97 hx) ?_
      exact h
theorem m103L57463 {qq : Nat} {p0 : Tm} {v5 : Int} {vb2_0 : Int} {vb2_1 : Int} {vb2_2 : List Tm} {r : List Tm × Tm × Int} (h : e103L57463 qq p0 v5 vb2_0 vb2_1 vb2_2 = some r) : e103L57463 (qq + 1) p0 v5 vb2_0 vb2_1 vb2_2 = some r := mm103L57463 _ _ _ _ _ _ _ h
theorem m103 {qq : Nat} {p0 : Tm} {r : List Tm × Tm × Int} (h : e103 qq p0 = some r) : e103 (qq + 1) p0 = some r := by
  unfold e103 at h ⊢
  exact m103L57463 h

end Go.Proofs.YtlbmblbeccafcaaGreat

namespace Go.Proofs.YtlbmblbeccafcaaGreat
open Go Go.Ab

/- scholium/sign.none -/
def e195 (qq : Nat) (p0 : Tm) : Option (Bool) :=
  if (p0.k == 0) = true then
    if (p0.n == 0) = true then
      some ((List.length p0.sub : Int) == 0)
    else
      none
  else
    none
theorem q195 : Tryz.prog.funcs[195]? = some Tryz.f195 ∧ Tryz.f195.body.isNone = false := ⟨Tryz.func195, by kernel_rfl⟩
theorem k195 {p0 : Tm} {r : Bool} (h : CTri Tryz.prog 195 [] [tmA p0] (ab r) [] 0) : CT Tryz.prog 195 [] [tmA p0] (ab r) [] 0 := ⟨h, ⟨⟨trivial, trivial, ⟨trivial, dT _⟩, trivial⟩, trivial⟩, forall_nil, trivial, forall_nil⟩
theorem c195 {qq : Nat} {p0 : Tm} {r : Bool} (h : e195 qq p0 = some r) : CT Tryz.prog 195 [] [tmA p0] (ab r) [] 0 := by
  unfold e195 at h
  obtain ⟨h1, h⟩ := splT h
  have k := oB 1 h1 o0
  obtain ⟨h2, h⟩ := splT h
  obtain rfl := sj h
  exact k195 (tF q195 3 [] (oB 1 h2 k) (by kernel_rfl))
theorem m195 {qq : Nat} {p0 : Tm} {r : Bool} (h : e195 qq p0 = some r) : e195 (qq + 1) p0 = some r := by
  unfold e195 at h ⊢
  obtain ⟨k, h⟩ := splT h
  rw [ifTe k]
  obtain ⟨k, h⟩ := splT h
  rw [ifTe k]
  exact h

end Go.Proofs.YtlbmblbeccafcaaGreat

namespace Go.Proofs.YtlbmblbeccafcaaGreat
open Go Go.Ab

/- scholium/sign.run -/
def e196L36214 : Nat → (List Int) → Int → Int →  Option (Bool)
  | 0, _, _, _ => none
  | qq + 1, p0, p1, v9 =>
    if decide (v9 < (List.length p0 : Int)) = true then
      (gidx p0 v9) >>= fun x2 =>
      if (x2 != (w64 (p1 + v9))) = true then
        none
      else
        e196L36214 qq p0 p1 (w64 (v9 + 1))
    else
      some true
def e196 (qq : Nat) (p0 : List Int) (p1 : Int) : Option (Bool) :=
  e196L36214 qq p0 p1 0
def g196L36214E0 (j : Nat → Value) (p0 : List Int) (p1 : Int) (v9 : Int) : List AV := sp j 20 0 [(1, ai p1), (7, .sl (flat intC p0) (List.length p0) .no), (8, ai (List.length p0 : Int)), (9, ai v9)]
def g196L36214S0 (p0 : List Int) (p1 : Int) (v9 : Int) : LSt := ⟨[], 0, [], 0, []⟩
theorem q196 : Tryz.prog.funcs[196]? = some Tryz.f196 ∧ Tryz.f196.body.isNone = false := ⟨Tryz.func196, by kernel_rfl⟩
theorem k196 {p0 : List Int} {p1 : Int} {r : Bool} (h : CTri Tryz.prog 196 [] [.sl (flat intC p0) (List.length p0) .no, ai p1] (ab r) [] 0) : CT Tryz.prog 196 [] [.sl (flat intC p0) (List.length p0) .no, ai p1] (ab r) [] 0 := ⟨h, ⟨⟨trivial, dI _⟩, trivial, trivial⟩, forall_nil, trivial, forall_nil⟩
theorem l196L36214 : ∀ qq : Nat, (∀ (p0 : List Int) (p1 : Int) (v9 : Int) (r : Bool), e196L36214 qq p0 p1 v9 = some r → (∀ j, Dl Tryz.prog 0 (inn (inn (rgt (lft (rgt (bod Tryz.f196)))))) (g196L36214E0 j p0 p1 v9) (g196L36214S0 p0 p1 v9) (frameQ Tryz.prog 0 (FinQ Tryz.prog 0 Tryz.f196 (ab r) [] 0) [.blk 0, .seq (rgt (rgt (bod Tryz.f196)))]))) := by
  intro qq
  induction qq with
  | zero =>
    exact fun _ _ _ _ h => nn h
  | succ qq ih =>
    intro p0 p1 v9 r h
    rw [e196L36214] at h
    rcases spl h with ⟨h1, h⟩ | ⟨h1, h⟩
    · obtain ⟨x2, h3, h⟩ := obind h
      have k := oA 0 (ix37 (o := .no) h3) <| oB 0 h1 o0
      obtain ⟨h4, h⟩ := splF h
      exact fun j => lH 1 [] [] [] [1, 7, 8, 9] (oD (dI p0) <| oB 2 h4 k) (ih _ _ _ _ h) (fun j => by kernel_rfl)
    · obtain rfl := sj h
      exact fun j => lF 0 [] (oB 0 h1 o0) (by kernel_rfl)
theorem c196 {qq : Nat} {p0 : List Int} {p1 : Int} {r : Bool} (h : e196 qq p0 p1 = some r) : CT Tryz.prog 196 [] [.sl (flat intC p0) (List.length p0) .no, ai p1] (ab r) [] 0 := by
  unfold e196 at h
  exact k196 (tH q196 1 [] [] [] [1, 7, 8, 9] (oD (dI p0) o0) (l196L36214 _ _ _ _ _ h) (fun j => by kernel_rfl))
theorem mm196L36214 : ∀ qq : Nat, (∀ (p0 : List Int) (p1 : Int) (v9 : Int) (r : Bool), e196L36214 qq p0 p1 v9 = some r → e196L36214 (qq + 1) p0 p1 v9 = some r) := by
  intro qq
  induction qq with
  | zero => exact fun _ _ _ _ h => nn h
  | succ qq ih =>
    have ih196L36214 := ih
    intro p0 p1 v9 r h
    rw [e196L36214] at h ⊢
    rcases spl h with ⟨k, h⟩ | ⟨k, h⟩
    · rw [ifTe k]
      obtain ⟨x2, hx, h⟩ := obind h
      refine obk hx ?_
      obtain ⟨k, h⟩ := splF h
      rw [ifFe k]
      exact ih196L36214 _ _ _ _ h
    · rw [ifFe k]
      exact h
theorem m196L36214 {qq : Nat} {p0 : List Int} {p1 : Int} {v9 : Int} {r : Bool} (h : e196L36214 qq p0 p1 v9 = some r) : e196L36214 (qq + 1) p0 p1 v9 = some r := mm196L36214 _ _ _ _ _ h
theorem m196 {qq : Nat} {p0 : List Int} {p1 : Int} {r : Bool} (h : e196 qq p0 p1 = some r) : e196 (qq + 1) p0 p1 = some r := by
  unfold e196 at h ⊢
  exact m196L36214 h

end Go.Proofs.YtlbmblbeccafcaaGreat

namespace Go.Proofs.YtlbmblbeccafcaaGreat
open Go Go.Ab

/- scholium/sign.is -/
def e96 (qq : Nat) (p0 : List Ent) (p1 : Int) (p2 : Int) : Option (Bool) :=
  if decide (p1 ≥ 0) = true then
    if decide (p1 < (List.length p0 : Int)) = true then
      (gidx p0 p1) >>= fun x3 =>
      some (x3.kind == p2)
    else
      none
  else
    none
theorem q96 : Tryz.prog.funcs[96]? = some Tryz.f96 ∧ Tryz.f96.body.isNone = false := ⟨Tryz.func96, by kernel_rfl⟩
theorem k96 {p0 : List Ent} {p1 : Int} {p2 : Int} {r : Bool} (h : CTri Tryz.prog 96 [] [.sl (flat entL p0) (List.length p0) .no, ai p1, ai p2] (ab r) [] 0) : CT Tryz.prog 96 [] [.sl (flat entL p0) (List.length p0) .no, ai p1, ai p2] (ab r) [] 0 := ⟨h, ⟨⟨trivial, dE _⟩, trivial, trivial, trivial⟩, forall_nil, trivial, forall_nil⟩
theorem c96 {qq : Nat} {p0 : List Ent} {p1 : Int} {p2 : Int} {r : Bool} (h : e96 qq p0 p1 p2 = some r) : CT Tryz.prog 96 [] [.sl (flat entL p0) (List.length p0) .no, ai p1, ai p2] (ab r) [] 0 := by
  unfold e96 at h
  obtain ⟨h1, h⟩ := splT h
  have k := oB 0 h1 o0
  obtain ⟨h2, h⟩ := splT h
  obtain ⟨x3, h4, h⟩ := obind h
  obtain rfl := sj h
  exact k96 (tF q96 2 [] (oA 0 (ix25 (o := .no) h4) <| oB 1 h2 k) (by kernel_rfl))
theorem m96 {qq : Nat} {p0 : List Ent} {p1 : Int} {p2 : Int} {r : Bool} (h : e96 qq p0 p1 p2 = some r) : e96 (qq + 1) p0 p1 p2 = some r := by
  unfold e96 at h ⊢
  obtain ⟨k, h⟩ := splT h
  rw [ifTe k]
  obtain ⟨k, h⟩ := splT h
  rw [ifTe k]
  obtain ⟨x3, hx, h⟩ := obind h
  refine obk hx ?_
  exact h

end Go.Proofs.YtlbmblbeccafcaaGreat

namespace Go.Proofs.YtlbmblbeccafcaaGreat
open Go Go.Ab

/- scholium/sign.members -/
def e197L13812 : Nat → (List Ent) → Int → (List Int) → Int → Int →  Option (Bool)
  | 0, _, _, _, _, _ => none
  | qq + 1, p0, p1, p2, p3, v13 =>
    if decide (v13 < (List.length p2 : Int)) = true then
      (gidx p2 v13) >>= fun x2 =>
      (e96 qq p0 x2 p3) >>= fun r4 =>
      if r4 = true then
        (gidx p0 x2) >>= fun x7 =>
        if (x7.fam != p1) = true then
          none
        else
          if (x7.place != v13) = true then
            none
          else
            e197L13812 qq p0 p1 p2 p3 (w64 (v13 + 1))
      else
        none
    else
      some true
def e197 (qq : Nat) (p0 : List Ent) (p1 : Int) (p2 : List Int) (p3 : Int) : Option (Bool) :=
  e197L13812 qq p0 p1 p2 p3 0
def g197L13812E0 (j : Nat → Value) (p0 : List Ent) (p1 : Int) (p2 : List Int) (p3 : Int) (v13 : Int) : List AV := sp j 42 0 [(0, .sl (flat entL p0) (List.length p0) .no), (1, ai p1), (3, ai p3), (11, .sl (flat intC p2) (List.length p2) .no), (12, ai (List.length p2 : Int)), (13, ai v13)]
def g197L13812S0 (p0 : List Ent) (p1 : Int) (p2 : List Int) (p3 : Int) (v13 : Int) : LSt := ⟨[], 0, [], 0, []⟩
theorem q197 : Tryz.prog.funcs[197]? = some Tryz.f197 ∧ Tryz.f197.body.isNone = false := ⟨Tryz.func197, by kernel_rfl⟩
theorem k197 {p0 : List Ent} {p1 : Int} {p2 : List Int} {p3 : Int} {r : Bool} (h : CTri Tryz.prog 197 [] [.sl (flat entL p0) (List.length p0) .no, ai p1, .sl (flat intC p2) (List.length p2) .no, ai p3] (ab r) [] 0) : CT Tryz.prog 197 [] [.sl (flat entL p0) (List.length p0) .no, ai p1, .sl (flat intC p2) (List.length p2) .no, ai p3] (ab r) [] 0 := ⟨h, ⟨⟨trivial, dE _⟩, trivial, ⟨trivial, dI _⟩, trivial, trivial⟩, forall_nil, trivial, forall_nil⟩
theorem l197L13812 : ∀ qq : Nat, (∀ (p0 : List Ent) (p1 : Int) (p2 : List Int) (p3 : Int) (v13 : Int) (r : Bool), e197L13812 qq p0 p1 p2 p3 v13 = some r → (∀ j, Dl Tryz.prog 0 (inn (inn (rgt (lft (rgt (bod Tryz.f197)))))) (g197L13812E0 j p0 p1 p2 p3 v13) (g197L13812S0 p0 p1 p2 p3 v13) (frameQ Tryz.prog 0 (FinQ Tryz.prog 0 Tryz.f197 (ab r) [] 0) [.blk 0, .seq (rgt (rgt (bod Tryz.f197)))]))) := by
  intro qq
  induction qq with
  | zero =>
    exact fun _ _ _ _ _ _ h => nn h
  | succ qq ih =>
    intro p0 p1 p2 p3 v13 r h
    rw [e197L13812] at h
    rcases spl h with ⟨h1, h⟩ | ⟨h1, h⟩
    · obtain ⟨x2, h3, h⟩ := obind h
      obtain ⟨r4, h5, h⟩ := obind h
      have k := oA 0 (ix37 (o := .no) h3) <| oB 0 h1 o0
      obtain ⟨h6, h⟩ := splT h
      obtain ⟨x7, h8, h⟩ := obind h
      have k := oA 1 (ix25 (o := .no) h8) <| oK 1 [] h6 (c96 h5) k
      obtain ⟨h9, h⟩ := splF h
      have k := oA 0 (ix25 (o := .no) h8) <| oB 1 h9 k
      obtain ⟨h10, h⟩ := splF h
      exact fun j => lH 1 [] [] [] [0, 1, 3, 11, 12, 13] (oD (dI p2) <| oD (dE p0) <| oB 1 h10 k) (ih _ _ _ _ _ _ h) (fun j => by kernel_rfl)
    · obtain rfl := sj h
      exact fun j => lF 0 [] (oB 0 h1 o0) (by kernel_rfl)
theorem c197 {qq : Nat} {p0 : List Ent} {p1 : Int} {p2 : List Int} {p3 : Int} {r : Bool} (h : e197 qq p0 p1 p2 p3 = some r) : CT Tryz.prog 197 [] [.sl (flat entL p0) (List.length p0) .no, ai p1, .sl (flat intC p2) (List.length p2) .no, ai p3] (ab r) [] 0 := by
  unfold e197 at h
  exact k197 (tH q197 1 [] [] [] [0, 1, 3, 11, 12, 13] (oD (dI p2) <| oD (dE p0) o0) (l197L13812 _ _ _ _ _ _ _ h) (fun j => by kernel_rfl))
theorem mm197L13812 : ∀ qq : Nat, (∀ (p0 : List Ent) (p1 : Int) (p2 : List Int) (p3 : Int) (v13 : Int) (r : Bool), e197L13812 qq p0 p1 p2 p3 v13 = some r → e197L13812 (qq + 1) p0 p1 p2 p3 v13 = some r) := by
  intro qq
  induction qq with
  | zero => exact fun _ _ _ _ _ _ h => nn h
  | succ qq ih =>
    have ih197L13812 := ih
    intro p0 p1 p2 p3 v13 r h
    rw [e197L13812] at h ⊢
    rcases spl h with ⟨k, h⟩ | ⟨k, h⟩
    · rw [ifTe k]
      obtain ⟨x2, hx, h⟩ := obind h
      refine obk hx ?_
      obtain ⟨r4, hx, h⟩ := obind h
      refine obk (m96 hx) ?_
      obtain ⟨k, h⟩ := splT h
      rw [ifTe k]
      obtain ⟨x7, hx, h⟩ := obind h
      refine obk hx ?_
      obtain ⟨k, h⟩ := splF h
      rw [ifFe k]
      obtain ⟨k, h⟩ := splF h
      rw [ifFe k]
      exact ih197L13812 _ _ _ _ _ _ h
    · rw [ifFe k]
      exact h
theorem m197L13812 {qq : Nat} {p0 : List Ent} {p1 : Int} {p2 : List Int} {p3 : Int} {v13 : Int} {r : Bool} (h : e197L13812 qq p0 p1 p2 p3 v13 = some r) : e197L13812 (qq + 1) p0 p1 p2 p3 v13 = some r := mm197L13812 _ _ _ _ _ _ _ h
theorem m197 {qq : Nat} {p0 : List Ent} {p1 : Int} {p2 : List Int} {p3 : Int} {r : Bool} (h : e197 qq p0 p1 p2 p3 = some r) : e197 (qq + 1) p0 p1 p2 p3 = some r := by
  unfold e197 at h ⊢
  exact m197L13812 h

end Go.Proofs.YtlbmblbeccafcaaGreat

namespace Go.Proofs.YtlbmblbeccafcaaGreat
open Go Go.Ab

/- scholium/sign.family -/
def e142 (qq : Nat) (p0 : List Ent) (p1 : Int) : Option (Bool) :=
  (gidx p0 p1) >>= fun x1 =>
  if decide (x1.pars < 0) = true then
    none
  else
    if decide (x1.inds < 0) = true then
      none
    else
      if decide (x1.pars > 24) = true then
        none
      else
        if decide (x1.inds > (w64 (24 - x1.pars))) = true then
          none
        else
          if (x1.fam != 0) = true then
            none
          else
            if (x1.place != 0) = true then
              none
            else
              (e195 qq x1.body) >>= fun r9 =>
              if r9 = true then
                (e97 qq x1.type (w64 (x1.pars + x1.inds))) >>= fun r12 =>
                if (r12.2.2 != 0) = true then
                  none
                else
                  if (r12.2.1.k != 2) = true then
                    none
                  else
                    if (r12.2.1.n != x1.level) = true then
                      none
                    else
                      if decide ((List.length x1.cons : Int) > 16) = true then
                        none
                      else
                        (e196 qq x1.cons (w64 (p1 + 1))) >>= fun r18 =>
                        if r18 = true then
                          (e197 qq p0 p1 x1.cons 2) >>= fun r21 =>
                          if r21 = true then
                            if ((List.length x1.fields : Int) == 0) = true then
                              some true
                            else
                              if (x1.inds != 0) = true then
                                none
                              else
                                if ((List.length x1.cons : Int) != 1) = true then
                                  none
                                else
                                  (e196 qq x1.fields (w64 (p1 + 2))) >>= fun r27 =>
                                  if r27 = true then
                                    (e197 qq p0 p1 x1.fields 4) >>= fun r30 =>
                                    if r30 = true then
                                      (gidx p0 (w64 (p1 + 1))) >>= fun x33 =>
                                      (e103 qq x33.type) >>= fun r35 =>
                                      if (r35.2.2 == 0) = true then
                                        some ((List.length r35.1 : Int) == (w64 (x1.pars + (List.length x1.fields : Int))))
                                      else
                                        none
                                    else
                                      none
                                  else
                                    none
                          else
                            none
                        else
                          none
              else
                none
theorem q142 : Tryz.prog.funcs[142]? = some Tryz.f142 ∧ Tryz.f142.body.isNone = false := ⟨Tryz.func142, by kernel_rfl⟩
theorem k142 {p0 : List Ent} {p1 : Int} {r : Bool} (h : CTri Tryz.prog 142 [] [.sl (flat entL p0) (List.length p0) .no, ai p1] (ab r) [] 0) : CT Tryz.prog 142 [] [.sl (flat entL p0) (List.length p0) .no, ai p1] (ab r) [] 0 := ⟨h, ⟨⟨trivial, dE _⟩, trivial, trivial⟩, forall_nil, trivial, forall_nil⟩
theorem c142 {qq : Nat} {p0 : List Ent} {p1 : Int} {r : Bool} (h : e142 qq p0 p1 = some r) : CT Tryz.prog 142 [] [.sl (flat entL p0) (List.length p0) .no, ai p1] (ab r) [] 0 := by
  unfold e142 at h
  obtain ⟨x1, h2, h⟩ := obind h
  have k := oA 0 (ix25 (o := .no) h2) o0
  obtain ⟨h3, h⟩ := splF h
  have k := oB 3 h3 k
  obtain ⟨h4, h⟩ := splF h
  have k := oB 1 h4 k
  obtain ⟨h5, h⟩ := splF h
  have k := oB 1 h5 k
  obtain ⟨h6, h⟩ := splF h
  have k := oB 3 h6 k
  obtain ⟨h7, h⟩ := splF h
  have k := oB 1 h7 k
  obtain ⟨h8, h⟩ := splF h
  obtain ⟨r9, h10, h⟩ := obind h
  have k := oB 1 h8 k
  obtain ⟨h11, h⟩ := splT h
  obtain ⟨r12, h13, h⟩ := obind h
  have k := oC 5 [] (c97 h13) <| oK 1 [] h11 (c195 h10) k
  obtain ⟨h14, h⟩ := splF h
  have k := oB 4 h14 k
  obtain ⟨h15, h⟩ := splF h
  have k := oB 1 h15 k
  obtain ⟨h16, h⟩ := splF h
  have k := oB 2 h16 k
  obtain ⟨h17, h⟩ := splF h
  obtain ⟨r18, h19, h⟩ := obind h
  have k := oB 2 h17 k
  obtain ⟨h20, h⟩ := splT h
  obtain ⟨r21, h22, h⟩ := obind h
  have k := oK 2 [] h20 (c196 h19) k
  obtain ⟨h23, h⟩ := splT h
  have k := oK 2 [] h23 (c197 h22) k
  rcases spl h with ⟨h24, h⟩ | ⟨h24, h⟩
  · obtain rfl := sj h
    exact k142 (tF q142 0 [] (oB 3 h24 k) (by kernel_rfl))
  · have k := oB 3 h24 k
    obtain ⟨h25, h⟩ := splF h
    have k := oB 1 h25 k
    obtain ⟨h26, h⟩ := splF h
    obtain ⟨r27, h28, h⟩ := obind h
    have k := oB 2 h26 k
    obtain ⟨h29, h⟩ := splT h
    obtain ⟨r30, h31, h⟩ := obind h
    have k := oK 2 [] h29 (c196 h28) k
    obtain ⟨h32, h⟩ := splT h
    obtain ⟨x33, h34, h⟩ := obind h
    obtain ⟨r35, h36, h⟩ := obind h
    have k := oC 1 [] (c103 h36) <| oA 2 (ix25 (o := .no) h34) <| oK 2 [] h32 (c197 h31) k
    obtain ⟨h37, h⟩ := splT h
    obtain rfl := sj h
    exact k142 (tF q142 6 [] (oB 4 h37 k) (by kernel_rfl))
theorem m142 {qq : Nat} {p0 : List Ent} {p1 : Int} {r : Bool} (h : e142 qq p0 p1 = some r) : e142 (qq + 1) p0 p1 = some r := by
  unfold e142 at h ⊢
  obtain ⟨x1, hx, h⟩ := obind h
  refine obk hx ?_
  obtain ⟨k, h⟩ := splF h
  rw [ifFe k]
  obtain ⟨k, h⟩ := splF h
  rw [ifFe k]
  obtain ⟨k, h⟩ := splF h
  rw [ifFe k]
  obtain ⟨k, h⟩ := splF h
  rw [ifFe k]
  obtain ⟨k, h⟩ := splF h
  rw [ifFe k]
  obtain ⟨k, h⟩ := splF h
  rw [ifFe k]
  obtain ⟨r9, hx, h⟩ := obind h
  refine obk (m195 hx) ?_
  obtain ⟨k, h⟩ := splT h
  rw [ifTe k]
  obtain ⟨r12, hx, h⟩ := obind h
  refine obk (m97 hx) ?_
  obtain ⟨k, h⟩ := splF h
  rw [ifFe k]
  obtain ⟨k, h⟩ := splF h
  rw [ifFe k]
  obtain ⟨k, h⟩ := splF h
  rw [ifFe k]
  obtain ⟨k, h⟩ := splF h
  rw [ifFe k]
  obtain ⟨r18, hx, h⟩ := obind h
  refine obk (m196 hx) ?_
  obtain ⟨k, h⟩ := splT h
  rw [ifTe k]
  obtain ⟨r21, hx, h⟩ := obind h
  refine obk (m197 hx) ?_
  obtain ⟨k, h⟩ := splT h
  rw [ifTe k]
  rcases spl h with ⟨k, h⟩ | ⟨k, h⟩
  · rw [ifTe k]
    exact h
  · rw [ifFe k]
    obtain ⟨k, h⟩ := splF h
    rw [ifFe k]
    obtain ⟨k, h⟩ := splF h
    rw [ifFe k]
    obtain ⟨r27, hx, h⟩ := obind h
    refine obk (m196 hx) ?_
    obtain ⟨k, h⟩ := splT h
    rw [ifTe k]
    obtain ⟨r30, hx, h⟩ := obind h
    refine obk (m197 hx) ?_
    obtain ⟨k, h⟩ := splT h
    rw [ifTe k]
    obtain ⟨x33, hx, h⟩ := obind h
    refine obk hx ?_
    obtain ⟨r35, hx, h⟩ := obind h
    refine obk (m103 hx) ?_
    obtain ⟨k, h⟩ := splT h
    rw [ifTe k]
    exact h

end Go.Proofs.YtlbmblbeccafcaaGreat

namespace Go.Proofs.YtlbmblbeccafcaaGreat
open Go Go.Ab

/- scholium/sign.owned -/
def e198 (qq : Nat) (p0 : List Ent) (p1 : Int) : Option (Bool) :=
  (gidx p0 p1) >>= fun x1 =>
  (e96 qq p0 x1.fam 1) >>= fun r3 =>
  if r3 = true then
    if decide (x1.fam ≥ p1) = true then
      none
    else
      (gidx p0 x1.fam) >>= fun x7 =>
      if (x1.pars != x7.pars) = true then
        none
      else
        (e195 qq x1.body) >>= fun r10 =>
        if r10 = true then
          if (x1.inds != 0) = true then
            none
          else
            if (x1.level != 0) = true then
              none
            else
              if decide ((w64 ((List.length x1.cons : Int) + (List.length x1.fields : Int))) > 0) = true then
                none
              else
                if (x1.kind == 4) = true then
                  if decide (x1.place ≥ 0) = true then
                    if decide (x1.place < (List.length x7.fields : Int)) = true then
                      (gidx x7.fields x1.place) >>= fun x19 =>
                      some (x19 == p1)
                    else
                      none
                  else
                    none
                else
                  if decide (x1.place ≥ 0) = true then
                    if decide (x1.place < (List.length x7.cons : Int)) = true then
                      (gidx x7.cons x1.place) >>= fun x23 =>
                      some (x23 == p1)
                    else
                      none
                  else
                    none
        else
          none
  else
    none
theorem q198 : Tryz.prog.funcs[198]? = some Tryz.f198 ∧ Tryz.f198.body.isNone = false := ⟨Tryz.func198, by kernel_rfl⟩
theorem k198 {p0 : List Ent} {p1 : Int} {r : Bool} (h : CTri Tryz.prog 198 [] [.sl (flat entL p0) (List.length p0) .no, ai p1] (ab r) [] 0) : CT Tryz.prog 198 [] [.sl (flat entL p0) (List.length p0) .no, ai p1] (ab r) [] 0 := ⟨h, ⟨⟨trivial, dE _⟩, trivial, trivial⟩, forall_nil, trivial, forall_nil⟩
theorem c198 {qq : Nat} {p0 : List Ent} {p1 : Int} {r : Bool} (h : e198 qq p0 p1 = some r) : CT Tryz.prog 198 [] [.sl (flat entL p0) (List.length p0) .no, ai p1] (ab r) [] 0 := by
  unfold e198 at h
  obtain ⟨x1, h2, h⟩ := obind h
  obtain ⟨r3, h4, h⟩ := obind h
  have k := oA 0 (ix25 (o := .no) h2) o0
  obtain ⟨h5, h⟩ := splT h
  have k := oK 3 [] h5 (c96 h4) k
  obtain ⟨h6, h⟩ := splF h
  obtain ⟨x7, h8, h⟩ := obind h
  have k := oA 2 (ix25 (o := .no) h8) <| oB 2 h6 k
  obtain ⟨h9, h⟩ := splF h
  obtain ⟨r10, h11, h⟩ := obind h
  have k := oB 1 h9 k
  obtain ⟨h12, h⟩ := splT h
  have k := oK 1 [] h12 (c195 h11) k
  obtain ⟨h13, h⟩ := splF h
  have k := oB 2 h13 k
  obtain ⟨h14, h⟩ := splF h
  have k := oB 1 h14 k
  obtain ⟨h15, h⟩ := splF h
  have k := oA 1 (ix25 (o := .no) h8) <| oB 5 h15 k
  rcases spl h with ⟨h16, h⟩ | ⟨h16, h⟩
  · have k := oA 1 (ix25 (o := .no) h8) <| oB 2 h16 k
    obtain ⟨h17, h⟩ := splT h
    have k := oB 2 h17 k
    obtain ⟨h18, h⟩ := splT h
    obtain ⟨x19, h20, h⟩ := obind h
    obtain rfl := sj h
    exact k198 (tF q198 2 [] (oA 1 (ix37 (o := .no) h20) <| oB 2 h18 k) (by kernel_rfl))
  · have k := oB 2 h16 k
    obtain ⟨h21, h⟩ := splT h
    have k := oB 1 h21 k
    obtain ⟨h22, h⟩ := splT h
    obtain ⟨x23, h24, h⟩ := obind h
    obtain rfl := sj h
    exact k198 (tF q198 2 [] (oA 1 (ix37 (o := .no) h24) <| oB 2 h22 k) (by kernel_rfl))
theorem m198 {qq : Nat} {p0 : List Ent} {p1 : Int} {r : Bool} (h : e198 qq p0 p1 = some r) : e198 (qq + 1) p0 p1 = some r := by
  unfold e198 at h ⊢
  obtain ⟨x1, hx, h⟩ := obind h
  refine obk hx ?_
  obtain ⟨r3, hx, h⟩ := obind h
  refine obk (m96 hx) ?_
  obtain ⟨k, h⟩ := splT h
  rw [ifTe k]
  obtain ⟨k, h⟩ := splF h
  rw [ifFe k]
  obtain ⟨x7, hx, h⟩ := obind h
  refine obk hx ?_
  obtain ⟨k, h⟩ := splF h
  rw [ifFe k]
  obtain ⟨r10, hx, h⟩ := obind h
  refine obk (m195 hx) ?_
  obtain ⟨k, h⟩ := splT h
  rw [ifTe k]
  obtain ⟨k, h⟩ := splF h
  rw [ifFe k]
  obtain ⟨k, h⟩ := splF h
  rw [ifFe k]
  obtain ⟨k, h⟩ := splF h
  rw [ifFe k]
  rcases spl h with ⟨k, h⟩ | ⟨k, h⟩
  · rw [ifTe k]
    obtain ⟨k, h⟩ := splT h
    rw [ifTe k]
    obtain ⟨k, h⟩ := splT h
    rw [ifTe k]
    obtain ⟨x19, hx, h⟩ := obind h
    refine obk hx ?_
    exact h
  · rw [ifFe k]
    obtain ⟨k, h⟩ := splT h
    rw [ifTe k]
    obtain ⟨k, h⟩ := splT h
    rw [ifTe k]
    obtain ⟨x23, hx, h⟩ := obind h
    refine obk hx ?_
    exact h

end Go.Proofs.YtlbmblbeccafcaaGreat

namespace Go.Proofs.YtlbmblbeccafcaaGreat
open Go Go.Ab

/- THE WALK OF term.Spine: its loop, and slices.Reverse behind it. -/
theorem spA1 (j : Nat → Value) (ls : List L3) (x : Tm) (u : List AV) (vs : List Value) (o : Own) : krun Tryz.prog prim 3000 (.run (inn (inn (lft (rgt (rgt (rgt (bod Tryz.f106)))))))) [] [.val (j 0), .mp 0 0, .mp 1 0, .val (j 3), .sl (flat c3 ls) ls.length (.st 0 3), .mp 2 0, .val (j 6), .val (j 7), .val (j 8), .val (j 9), .val (j 10), .val (j 11), .val (j 12), .val (j 13), .val (j 14), .val (j 15), .val (j 16), .val (j 17), .val (j 18), .val (j 19), .val (j 20), .val (j 21), .val (j 22), .val (j 23), .val (j 24), .val (j 25), .val (j 26), .val (j 27), .val (j 28), .val (j 29), .val (j 30), .val (j 31), .val (j 32), .val (j 33), .val (j 34)] ⟨[(0, .cells u), (1, .cells [ai 0, ai 0, .sl [] 0 .nl]), (2, .cells [ai x.k, ai x.n, .sl (vs.map .val) x.sub.length o])], 3, [0], 1, []⟩ [.no, .bit false] = some (.fin (.exit 0), [.val (j 0), .mp 0 0, .mp 1 0, .val (j 3), .sl (flat c3 ls) ls.length (.st 0 3), .mp 2 0, .val (j 6), .mp 2 0, ai x.k, ab false, ab false, .val undef, .val undef, .val undef, .val undef, ab false, .val (j 16), .val (j 17), .val (j 18), .val (j 19), .val (j 20), .val (j 21), .val (j 22), .val (j 23), .val (j 24), .val (j 25), .val (j 26), .val (j 27), .val (j 28), .val (j 29), .val (j 30), .val (j 31), .val (j 32), .val (j 33), .val (j 34)], ⟨[(0, .cells u), (1, .cells [ai 0, ai 0, .sl [] 0 .nl]), (2, .cells [ai x.k, ai x.n, .sl (vs.map .val) x.sub.length o])], 3, [0], 1, []⟩, [], [.bit (x.k == 5) false]) := by kernel_rfl
theorem spA2 (j : Nat → Value) (ls : List L3) (x : Tm) (u : List AV) (vs : List Value) (o : Own) : (xops Tryz.prog prim (regOps (lft (rgt (rgt (rgt (rgt (bod Tryz.f106))))))) ((regOps (lft (rgt (rgt (rgt (rgt (bod Tryz.f106))))))).toList.take 1) 0 [.val (j 0), .mp 0 0, .mp 1 0, .val (j 3), .sl (flat c3 ls) ls.length (.st 0 3), .mp 2 0, .val (j 6), .mp 2 0, ai x.k, ab false, ab false, .val undef, .val undef, .val undef, .val undef, ab false, .val (j 16), .val (j 17), .val (j 18), .val (j 19), .val (j 20), .val (j 21), .val (j 22), .val (j 23), .val (j 24), .val (j 25), .val (j 26), .val (j 27), .val (j 28), .val (j 29), .val (j 30), .val (j 31), .val (j 32), .val (j 33), .val (j 34)] ⟨[(0, .cells u), (1, .cells [ai 0, ai 0, .sl [] 0 .nl]), (2, .cells [ai x.k, ai x.n, .sl (vs.map .val) x.sub.length o])], 3, [0], 1, []⟩ []).map Prod.snd = some ([.val (j 0), .mp 0 0, .mp 1 0, .val (j 3), .sl (flat c3 ls) ls.length (.st 0 3), .mp 2 0, .val (j 6), .mp 2 0, ai x.k, ab false, ab false, .val undef, .val undef, .val undef, .val undef, ab false, .val (j 16), .val (j 17), .val (j 18), .val (j 19), .val (j 20), .val (j 21), .val (j 22), .val (j 23), .val (j 24), .val (j 25), .val (j 26), .val (j 27), .val (j 28), .val (j 29), .val (j 30), .sl (flat c3 ls) ls.length (.st 0 3), .val (j 32), .val (j 33), .val (j 34)], ⟨[(0, .cells u), (1, .cells [ai 0, ai 0, .sl [] 0 .nl]), (2, .cells [ai x.k, ai x.n, .sl (vs.map .val) x.sub.length o])], 3, [0], 1, []⟩, [], []) := by kernel_rfl
theorem spA3 (j i : Nat → Value) (ls : List L3) (l : List Tm) (x : Tm) (u : List AV) (vs : List Value) (o : Own) : (xops Tryz.prog prim (regOps (lft (rgt (rgt (rgt (rgt (bod Tryz.f106))))))) ((regOps (lft (rgt (rgt (rgt (rgt (bod Tryz.f106))))))).toList.drop 2) 2 (eset (tells [(4, .sl (flat tmCells l.reverse) l.length .no)] (mutEnv [1, 2] i [.val (j 0), .mp 0 0, .mp 1 0, .val (j 3), .sl (flat c3 ls) ls.length (.st 0 3), .mp 2 0, .val (j 6), .mp 2 0, ai x.k, ab false, ab false, .val undef, .val undef, .val undef, .val undef, ab false, .val (j 16), .val (j 17), .val (j 18), .val (j 19), .val (j 20), .val (j 21), .val (j 22), .val (j 23), .val (j 24), .val (j 25), .val (j 26), .val (j 27), .val (j 28), .val (j 29), .val (j 30), .sl (flat c3 ls) ls.length (.st 0 3), .val (j 32), .val (j 33), .val (j 34)] 0)) (some 32) (.tup [])) (pickSt [1, 2] ⟨[(0, .cells u), (1, .cells [ai 0, ai 0, .sl [] 0 .nl]), (2, .cells [ai x.k, ai x.n, .sl (vs.map .val) x.sub.length o])], 3, [0], 1, []⟩) []).map Prod.snd = some ([.val (j 0), .val (i 1), .mp 1 0, .val (j 3), .sl (flat tmCells l.reverse) l.length .no, .mp 2 0, .val (j 6), .mp 2 0, ai x.k, ab false, ab false, .val undef, .val undef, .val undef, .val undef, ab false, .val (j 16), .val (j 17), .val (j 18), .val (j 19), .val (j 20), .val (j 21), .val (j 22), .val (j 23), .val (j 24), .val (j 25), .val (j 26), .val (j 27), .val (j 28), .val (j 29), .val (j 30), .val (i 31), .tup [], .val (j 33), .val (j 34)], ⟨[(1, .cells [ai 0, ai 0, .sl [] 0 .nl]), (2, .cells [ai x.k, ai x.n, .sl (vs.map .val) x.sub.length o])], 3, [], 0, []⟩, [], []) := by kernel_rfl
theorem spA4 (j i : Nat → Value) (l : List Tm) (x : Tm) (vs : List Value) (o : Own) : kfin Tryz.prog prim 0 Tryz.f106 3000 (.run (rgt (rgt (rgt (rgt (rgt (bod Tryz.f106))))))) [] [.val (j 0), .val (i 1), .mp 1 0, .val (j 3), .sl (flat tmCells l.reverse) l.length .no, .mp 2 0, .val (j 6), .mp 2 0, ai x.k, ab false, ab false, .val undef, .val undef, .val undef, .val undef, ab false, .val (j 16), .val (j 17), .val (j 18), .val (j 19), .val (j 20), .val (j 21), .val (j 22), .val (j 23), .val (j 24), .val (j 25), .val (j 26), .val (j 27), .val (j 28), .val (j 29), .val (j 30), .val (i 31), .tup [], .val (j 33), .val (j 34)] ⟨[(1, .cells [ai 0, ai 0, .sl [] 0 .nl]), (2, .cells [ai x.k, ai x.n, .sl (vs.map .val) x.sub.length o])], 3, [], 0, []⟩ [.no, .no] [] [] [] false = some (.tup [.agg [ai x.k, ai x.n, .sl (vs.map .val) x.sub.length .no], .sl (flat tmCells l.reverse) l.length .no], [], [.data (vs.map .val), .data (flat tmCells l.reverse)]) := by kernel_rfl
theorem spB1 (j : Nat → Value) (ls : List L3) (x : Tm) (u : List AV) (vs : List Value) (o : Own) : krun Tryz.prog prim 3000 (.run (inn (inn (lft (rgt (rgt (rgt (bod Tryz.f106)))))))) [] [.val (j 0), .mp 0 0, .mp 1 0, .val (j 3), .sl (flat c3 ls) ls.length (.st 0 3), .mp 2 0, .val (j 6), .val (j 7), .val (j 8), .val (j 9), .val (j 10), .val (j 11), .val (j 12), .val (j 13), .val (j 14), .val (j 15), .val (j 16), .val (j 17), .val (j 18), .val (j 19), .val (j 20), .val (j 21), .val (j 22), .val (j 23), .val (j 24), .val (j 25), .val (j 26), .val (j 27), .val (j 28), .val (j 29), .val (j 30), .val (j 31), .val (j 32), .val (j 33), .val (j 34)] ⟨[(0, .cells u), (1, .cells [ai 0, ai 0, .sl [] 0 .nl]), (2, .cells [ai x.k, ai x.n, .sl (vs.map .val) x.sub.length o])], 3, [0], 1, []⟩ [.no, .bit true, .no, .no, .bit false] = some (.fin (.exit 0), [.val (j 0), .mp 0 0, .mp 1 0, .val (j 3), .sl (flat c3 ls) ls.length (.st 0 3), .mp 2 0, .val (j 6), .mp 2 0, ai x.k, ab true, ab true, .mp 2 2, .sl (vs.map .val) x.sub.length o, ai (x.sub.length : Int), ab false, ab false, .val (j 16), .val (j 17), .val (j 18), .val (j 19), .val (j 20), .val (j 21), .val (j 22), .val (j 23), .val (j 24), .val (j 25), .val (j 26), .val (j 27), .val (j 28), .val (j 29), .val (j 30), .val (j 31), .val (j 32), .val (j 33), .val (j 34)], ⟨[(0, .cells u), (1, .cells [ai 0, ai 0, .sl [] 0 .nl]), (2, .cells [ai x.k, ai x.n, .sl (vs.map .val) x.sub.length o])], 3, [0], 1, []⟩, [], [.bit (x.k == 5) true, .bit ((x.sub.length : Int) == 2) false]) := by kernel_rfl
theorem spB2 (j : Nat → Value) (ls : List L3) (x : Tm) (u : List AV) (vs : List Value) (o : Own) : (xops Tryz.prog prim (regOps (lft (rgt (rgt (rgt (rgt (bod Tryz.f106))))))) ((regOps (lft (rgt (rgt (rgt (rgt (bod Tryz.f106))))))).toList.take 1) 0 [.val (j 0), .mp 0 0, .mp 1 0, .val (j 3), .sl (flat c3 ls) ls.length (.st 0 3), .mp 2 0, .val (j 6), .mp 2 0, ai x.k, ab true, ab true, .mp 2 2, .sl (vs.map .val) x.sub.length o, ai (x.sub.length : Int), ab false, ab false, .val (j 16), .val (j 17), .val (j 18), .val (j 19), .val (j 20), .val (j 21), .val (j 22), .val (j 23), .val (j 24), .val (j 25), .val (j 26), .val (j 27), .val (j 28), .val (j 29), .val (j 30), .val (j 31), .val (j 32), .val (j 33), .val (j 34)] ⟨[(0, .cells u), (1, .cells [ai 0, ai 0, .sl [] 0 .nl]), (2, .cells [ai x.k, ai x.n, .sl (vs.map .val) x.sub.length o])], 3, [0], 1, []⟩ []).map Prod.snd = some ([.val (j 0), .mp 0 0, .mp 1 0, .val (j 3), .sl (flat c3 ls) ls.length (.st 0 3), .mp 2 0, .val (j 6), .mp 2 0, ai x.k, ab true, ab true, .mp 2 2, .sl (vs.map .val) x.sub.length o, ai (x.sub.length : Int), ab false, ab false, .val (j 16), .val (j 17), .val (j 18), .val (j 19), .val (j 20), .val (j 21), .val (j 22), .val (j 23), .val (j 24), .val (j 25), .val (j 26), .val (j 27), .val (j 28), .val (j 29), .val (j 30), .sl (flat c3 ls) ls.length (.st 0 3), .val (j 32), .val (j 33), .val (j 34)], ⟨[(0, .cells u), (1, .cells [ai 0, ai 0, .sl [] 0 .nl]), (2, .cells [ai x.k, ai x.n, .sl (vs.map .val) x.sub.length o])], 3, [0], 1, []⟩, [], []) := by kernel_rfl
theorem spB3 (j i : Nat → Value) (ls : List L3) (l : List Tm) (x : Tm) (u : List AV) (vs : List Value) (o : Own) : (xops Tryz.prog prim (regOps (lft (rgt (rgt (rgt (rgt (bod Tryz.f106))))))) ((regOps (lft (rgt (rgt (rgt (rgt (bod Tryz.f106))))))).toList.drop 2) 2 (eset (tells [(4, .sl (flat tmCells l.reverse) l.length .no)] (mutEnv [1, 2] i [.val (j 0), .mp 0 0, .mp 1 0, .val (j 3), .sl (flat c3 ls) ls.length (.st 0 3), .mp 2 0, .val (j 6), .mp 2 0, ai x.k, ab true, ab true, .mp 2 2, .sl (vs.map .val) x.sub.length o, ai (x.sub.length : Int), ab false, ab false, .val (j 16), .val (j 17), .val (j 18), .val (j 19), .val (j 20), .val (j 21), .val (j 22), .val (j 23), .val (j 24), .val (j 25), .val (j 26), .val (j 27), .val (j 28), .val (j 29), .val (j 30), .sl (flat c3 ls) ls.length (.st 0 3), .val (j 32), .val (j 33), .val (j 34)] 0)) (some 32) (.tup [])) (pickSt [1, 2] ⟨[(0, .cells u), (1, .cells [ai 0, ai 0, .sl [] 0 .nl]), (2, .cells [ai x.k, ai x.n, .sl (vs.map .val) x.sub.length o])], 3, [0], 1, []⟩) []).map Prod.snd = some ([.val (j 0), .val (i 1), .mp 1 0, .val (j 3), .sl (flat tmCells l.reverse) l.length .no, .mp 2 0, .val (j 6), .mp 2 0, ai x.k, ab true, ab true, .mp 2 2, .val (i 12), ai (x.sub.length : Int), ab false, ab false, .val (j 16), .val (j 17), .val (j 18), .val (j 19), .val (j 20), .val (j 21), .val (j 22), .val (j 23), .val (j 24), .val (j 25), .val (j 26), .val (j 27), .val (j 28), .val (j 29), .val (j 30), .val (i 31), .tup [], .val (j 33), .val (j 34)], ⟨[(1, .cells [ai 0, ai 0, .sl [] 0 .nl]), (2, .cells [ai x.k, ai x.n, .sl (vs.map .val) x.sub.length o])], 3, [], 0, []⟩, [], []) := by kernel_rfl
theorem spB4 (j i : Nat → Value) (l : List Tm) (x : Tm) (vs : List Value) (o : Own) : kfin Tryz.prog prim 0 Tryz.f106 3000 (.run (rgt (rgt (rgt (rgt (rgt (bod Tryz.f106))))))) [] [.val (j 0), .val (i 1), .mp 1 0, .val (j 3), .sl (flat tmCells l.reverse) l.length .no, .mp 2 0, .val (j 6), .mp 2 0, ai x.k, ab true, ab true, .mp 2 2, .val (i 12), ai (x.sub.length : Int), ab false, ab false, .val (j 16), .val (j 17), .val (j 18), .val (j 19), .val (j 20), .val (j 21), .val (j 22), .val (j 23), .val (j 24), .val (j 25), .val (j 26), .val (j 27), .val (j 28), .val (j 29), .val (j 30), .val (i 31), .tup [], .val (j 33), .val (j 34)] ⟨[(1, .cells [ai 0, ai 0, .sl [] 0 .nl]), (2, .cells [ai x.k, ai x.n, .sl (vs.map .val) x.sub.length o])], 3, [], 0, []⟩ [.no, .no] [] [] [] false = some (.tup [.agg [ai x.k, ai x.n, .sl (vs.map .val) x.sub.length .no], .sl (flat tmCells l.reverse) l.length .no], [], [.data (vs.map .val), .data (flat tmCells l.reverse)]) := by kernel_rfl
theorem spC (j : Nat → Value) (p0 : Tm) (q0 : Option Addr × Nat × Nat) (ls : List L3) (x : Tm) (vs : List Value) (o : Own) : kfin Tryz.prog prim 0 Tryz.f106 3000 (.run (inn (inn (lft (rgt (rgt (rgt (bod Tryz.f106)))))))) [.loop (inn (inn (lft (rgt (rgt (rgt (bod Tryz.f106))))))), .blk 0, .seq (rgt (rgt (rgt (rgt (bod Tryz.f106)))))] [.val (j 0), .mp 0 0, .mp 1 0, .val (j 3), .sl (flat c3 ls) ls.length (.st 0 3), .mp 2 0, .val (j 6), .val (j 7), .val (j 8), .val (j 9), .val (j 10), .val (j 11), .val (j 12), .val (j 13), .val (j 14), .val (j 15), .val (j 16), .val (j 17), .val (j 18), .val (j 19), .val (j 20), .val (j 21), .val (j 22), .val (j 23), .val (j 24), .val (j 25), .val (j 26), .val (j 27), .val (j 28), .val (j 29), .val (j 30), .val (j 31), .val (j 32), .val (j 33), .val (j 34)] ⟨[(0, .cells [.val (.int .i64 p0.k), .val (.int .i64 p0.n), .val (.slice q0.1 q0.2.1 q0.2.2)]), (1, .cells [ai 0, ai 0, .sl [] 0 .nl]), (2, .cells [ai x.k, ai x.n, .sl (vs.map .val) x.sub.length o])], 3, [0], 1, []⟩ [.no, .bit true, .no, .no, .bit true, .no, .bit true, .no, .no] [] [] [] false = some (.tup [.agg [.val (.int .i64 p0.k), .val (.int .i64 p0.n), .val (.slice q0.1 q0.2.1 q0.2.2)], .sl [] 0 .no], [], [.bit (x.k == 5) true, .bit ((x.sub.length : Int) == 2) true, .bit (decide ((ls.length : Int) ≥ 8192)) true, .data []]) := by kernel_rfl
theorem spD (i j : Nat → Value) (k n : Int) (a b : Tm) (qa qb : Option Addr × Nat × Nat) (u0 u1 u2 : Value) (ls ls2 : List L3) (o : Own) : khead Tryz.prog prim 0 3000 (.run (inn (inn (lft (rgt (rgt (rgt (bod Tryz.f106)))))))) [.loop (inn (inn (lft (rgt (rgt (rgt (bod Tryz.f106))))))), .blk 0, .seq (rgt (rgt (rgt (rgt (bod Tryz.f106)))))] [.val (j 0), .mp 0 0, .mp 1 0, .val (j 3), .sl (flat c3 ls) ls.length (.st 0 3), .mp 2 0, .val (j 6), .val (j 7), .val (j 8), .val (j 9), .val (j 10), .val (j 11), .val (j 12), .val (j 13), .val (j 14), .val (j 15), .val (j 16), .val (j 17), .val (j 18), .val (j 19), .val (j 20), .val (j 21), .val (j 22), .val (j 23), .val (j 24), .val (j 25), .val (j 26), .val (j 27), .val (j 28), .val (j 29), .val (j 30), .val (j 31), .val (j 32), .val (j 33), .val (j 34)] ⟨[(0, .cells [.val u0, .val u1, .val u2]), (1, .cells [ai 0, ai 0, .sl [] 0 .nl]), (2, .cells [ai k, ai n, .sl [.val (.int .i64 a.k), .val (.int .i64 a.n), .val (.slice qa.1 qa.2.1 qa.2.2), .val (.int .i64 b.k), .val (.int .i64 b.n), .val (.slice qb.1 qb.2.1 qb.2.2)] 2 o])], 3, [0], 1, []⟩ [.no, .bit true, .no, .no, .bit true, .no, .bit false, .no, .no, .no, .no, .app (flat c3 ls2) ls2.length 3 false, .no, .no, .no, .no] [] [0, 1, 2] [1] [1, 2, 4, 5] i = some (inn (inn (lft (rgt (rgt (rgt (bod Tryz.f106)))))), [.blk 0, .seq (rgt (rgt (rgt (rgt (bod Tryz.f106)))))], [.val (i 0), .mp 0 0, .mp 1 0, .val (i 3), .sl (flat c3 ls2) ls2.length (.st 0 3), .mp 2 0, .val (i 6), .val (i 7), .val (i 8), .val (i 9), .val (i 10), .val (i 11), .val (i 12), .val (i 13), .val (i 14), .val (i 15), .val (i 16), .val (i 17), .val (i 18), .val (i 19), .val (i 20), .val (i 21), .val (i 22), .val (i 23), .val (i 24), .val (i 25), .val (i 26), .val (i 27), .val (i 28), .val (i 29), .val (i 30), .val (i 31), .val (i 32), .val (i 33), .val (i 34)], ⟨[(0, .cells [.val u0, .val u1, .val u2]), (1, .cells [ai 0, ai 0, .sl [] 0 .nl]), (2, .cells [.val (.int .i64 a.k), .val (.int .i64 a.n), .val (.slice qa.1 qa.2.1 qa.2.2)])], 3, [0], 1, []⟩, [.bit (k == 5) true, .bit ((2 : Int) == 2) true, .bit (decide ((ls.length : Int) ≥ 8192)) false, .app 22 22 (flat c3 ls) [.val (.int .i64 b.k), .val (.int .i64 b.n), .val (.slice qb.1 qb.2.1 qb.2.2)] (flat c3 ls2) ls.length 1 ls2.length 3 false, .data [], .data (flat c3 ls2)]) := by kernel_rfl
theorem spE (i : Nat → Value) (u0 u1 : Int) (u2 : Option Addr × Nat × Nat) : khead Tryz.prog prim 0 3000 (.run (bod Tryz.f106)) [] ([.agg [.val (.int .i64 u0), .val (.int .i64 u1), .val (.slice u2.1 u2.2.1 u2.2.2)]] ++ List.replicate (Tryz.f106.ntmps - 1) (.val undef)) (st0 []) [.no, .no] [(none, 4, 3)] [0, 1, 2] [0] [1, 2, 4, 5] i = some (inn (inn (lft (rgt (rgt (rgt (bod Tryz.f106)))))), [.blk 0, .seq (rgt (rgt (rgt (rgt (bod Tryz.f106)))))], [.val (i 0), .mp 0 0, .mp 1 0, .val (i 3), .sl [] 0 (.st 0 3), .mp 2 0, .val (i 6), .val (i 7), .val (i 8), .val (i 9), .val (i 10), .val (i 11), .val (i 12), .val (i 13), .val (i 14), .val (i 15), .val (i 16), .val (i 17), .val (i 18), .val (i 19), .val (i 20), .val (i 21), .val (i 22), .val (i 23), .val (i 24), .val (i 25), .val (i 26), .val (i 27), .val (i 28), .val (i 29), .val (i 30), .val (i 31), .val (i 32), .val (i 33), .val (i 34)], ⟨[(0, .cells [.val (.int .i64 u0), .val (.int .i64 u1), .val (.slice u2.1 u2.2.1 u2.2.2)]), (1, .cells [ai 0, ai 0, .sl [] 0 .nl]), (2, .cells [.val (.int .i64 u0), .val (.int .i64 u1), .val (.slice u2.1 u2.2.1 u2.2.2)])], 3, [0], 1, []⟩, [.data [], .data []]) := by kernel_rfl

/-- a term's three cells, told as what they hold -/
def sv (x : Tm) (q : Option Addr × Nat × Nat) : List Value := [.int .i64 x.k, .int .i64 x.n, .slice q.1 q.2.1 q.2.2]
def sv3 (x : Tm) (q : Option Addr × Nat × Nat) : L3 := ⟨.int .i64 x.k, .int .i64 x.n, .slice q.1 q.2.1 q.2.2, rfl, rfl, rfl⟩

theorem VL.split {G : Gh} {w : World} : ∀ (cs bs : List AV) (us : List Value), VL G w (cs ++ bs) us → ∃ u1 u2, us = u1 ++ u2 ∧ VL G w cs u1 ∧ VL G w bs u2
  | [], bs, us, h => ⟨[], us, rfl, by simp only [VL], h⟩
  | a :: cs, bs, [], h => by simp only [List.cons_append, VL] at h
  | a :: cs, bs, u :: us, h => by
    simp only [List.cons_append, VL] at h
    obtain ⟨u1, u2, rfl, h1, h2⟩ := VL.split cs bs us h.2
    exact ⟨u :: u1, u2, rfl, by simp only [VL]; exact ⟨h.1, h1⟩, h2⟩

theorem sv_of {G : Gh} {w : World} {x : Tm} {us : List Value} (h : VL G w (tmL x) us) : ∃ q, us = sv x q := by
  unfold tmL at h
  match us, h with
  | [], h => simp only [VL] at h
  | [_], h => simp only [VL, and_false] at h
  | [_, _], h => simp only [VL, and_false] at h
  | [u0, u1, u2], h =>
    simp only [VL, and_true] at h
    obtain ⟨h0, h1, h2⟩ := h
    simp only [V] at h0 h1 h2
    obtain ⟨cap, _, ⟨_, _, _, h, _⟩ | ⟨b, off, h, _⟩⟩ := h2
    · obtain ⟨p, h⟩ : ∃ p, u2 = .slice p 0 0 := ⟨_, h⟩
      exact ⟨(p, 0, 0), by simp [sv, h0, h1, h]⟩
    · exact ⟨(some ⟨b, off, none⟩, x.sub.length, cap), by simp [sv, h0, h1, h]⟩
  | _ :: _ :: _ :: _ :: _, h => simp only [VL, and_false] at h

theorem VC.lit {G G' : Gh} {w w' : World} (b : Nat) (hL : ∀ o, G.L b o → G'.L b o) (hc : ∀ o, w'.cell? ⟨b, o, none⟩ = w.cell? ⟨b, o, none⟩) : ∀ (vs : List Value) (off : Nat), VC G w (vs.map .val) b off → VC G' w' (vs.map .val) b off
  | [], _, _ => by simp only [List.map_nil, VC]
  | v :: vs, off, h => by
    simp only [List.map_cons, VC] at h ⊢
    obtain ⟨h1, ⟨u, h2, h3⟩, h4⟩ := h
    exact ⟨hL _ h1, ⟨u, (hc _).trans h2, by simpa only [V] using h3⟩, VC.lit b hL hc vs (off + 1) h4⟩

theorem relit {G : Gh} {w : World} {vs : List Value} {n : Nat} {o : Own} {u : Value} {es : List AV} (h : V G w (.sl (vs.map .val) n o) u) (he : VL G w es vs) : V G w (.sl es n .no) u := by
  simp only [V] at h ⊢
  obtain ⟨cap, hc, ⟨h1, h2, h3, h4, _⟩ | ⟨b, off, h1, h2, _⟩⟩ := h
  · have hv : vs = [] := by simpa using h1
    subst hv
    have := VL.length _ _ he
    exact ⟨cap, hc, .inl ⟨List.length_eq_zero_iff.1 this.symm, h2, h3, h4, trivial⟩⟩
  · refine ⟨cap, hc, .inr ⟨b, off, h1, ?_, trivial⟩⟩
    obtain ⟨us, q1, q2⟩ := VC.cells _ _ _ h2
    have := VL.litEq _ _ q1
    subst this
    exact VC.of_cells es us b off he (fun i hi => (VC.cell _ _ _ i (.val us[i]) h2 (by simp [hi])).1) q2

/-- a term opened by one level -/
theorem open_tm {na : Nb} {G0 : Gh} {w : World} (hB : Base na G0) {x : Tm} {q : Option Addr × Nat × Nat} (h : VL G0 w (tmL x) (sv x q)) :
    ∃ (vs : List Value) (o : Own), VL G0 w (flat tmCells x.sub) vs ∧ VL G0 w [ai x.k, ai x.n, .sl (vs.map .val) x.sub.length o] (sv x q) ∧ Blk.lit (.cells [ai x.k, ai x.n, .sl (vs.map .val) x.sub.length o]) := by
  unfold tmL sv at h
  simp only [VL, and_true] at h
  obtain ⟨_, _, h2⟩ := h
  have key : ∃ (vs : List Value) (o : Own), VL G0 w (flat tmCells x.sub) vs ∧ V G0 w (.sl (vs.map .val) x.sub.length o) (.slice q.1 q.2.1 q.2.2) ∧
      ∀ (G G' : Gh) (w w' : World) (u : Value), G'.F = G.F → (∀ b o, G.F b → G.L b o → G'.L b o) → (∀ b o, G.F b → w'.cell? ⟨b, o, none⟩ = w.cell? ⟨b, o, none⟩) → V G w (.sl (vs.map .val) x.sub.length o) u → V G' w' (.sl (vs.map .val) x.sub.length o) u := by
    simp only [V] at h2
    obtain ⟨cap, hc, ⟨h1, h2, h3, h4, _⟩ | ⟨b, off, h1, h2, _⟩⟩ := h2
    · refine ⟨[], .no, by rw [h1]; simp only [VL], ?_, ?_⟩
      · simp only [V]; exact ⟨cap, hc, .inl ⟨rfl, h2, h3, h4, trivial⟩⟩
      · intro G G' w w' u _ _ _ hu
        rw [h2] at hu ⊢
        exact V.none hu
    · obtain ⟨vs, q1, q2⟩ := VC.cells _ _ _ h2
      have hL : ∀ i, i < vs.length → G0.L b (off + i) := by
        intro i hi
        have hl := VL.length _ _ q1
        exact (VC.cell _ _ _ i ((flat tmCells x.sub)[i]'(by omega)) h2 (by rw [List.getElem?_eq_getElem])).1
      have hcl : VC G0 w (vs.map .val) b off := VC.of_cells _ vs b off (VL.lits vs) hL q2
      by_cases hs : vs = []
      · subst hs
        have hl := VL.length _ _ q1
        have hfl := flat_len codecT.len x.sub
        have h0 : x.sub.length = 0 := by simp at hl; omega
        refine ⟨[], .no, q1, ?_, ?_⟩
        · simp only [V]; exact ⟨cap, hc, .inr ⟨b, off, h1, hcl, trivial⟩⟩
        · intro G G' w w' u _ _ _ hu
          rw [h0] at hu ⊢
          exact V.none hu
      · have hF : G0.F b := hB.LF b (off + 0) (hL 0 (List.length_pos_iff.2 hs))
        refine ⟨vs, .fr, q1, ?_, ?_⟩
        · simp only [V]; exact ⟨cap, hc, .inr ⟨b, off, h1, hcl, hF⟩⟩
        · intro G G' w w' u e1 e2 e3 hu
          simp only [V] at hu ⊢
          obtain ⟨cap', hc', ⟨p1, p2, p3, p4, _⟩ | ⟨b', off', p1, p2, p3⟩⟩ := hu
          · exact ⟨cap', hc', .inl ⟨p1, p2, p3, p4, trivial⟩⟩
          · have p3' : G.F b' := p3
            exact ⟨cap', hc', .inr ⟨b', off', p1, VC.lit b' (fun o h => e2 b' o p3' h) (fun o => e3 b' o p3') vs off' p2, by show G'.F b'; rw [e1]; exact p3'⟩⟩
  obtain ⟨vs, o, k1, k2, k3⟩ := key
  refine ⟨vs, o, k1, ?_, ?_⟩
  · simp only [sv, VL, V]; simp only [V] at k2; exact ⟨trivial, trivial, k2, trivial⟩
  · intro G G' w w' us e1 e2 e3 hu
    match us, hu with
    | [], hu => simp only [VL] at hu
    | [_], hu => simp only [VL, and_false] at hu
    | [_, _], hu => simp only [VL, and_false] at hu
    | [u0, u1, u2], hu =>
      simp only [VL, and_true] at hu ⊢
      exact ⟨by simpa only [V] using hu.1, by simpa only [V] using hu.2.1, k3 G G' w w' u2 e1 e2 e3 hu.2.2⟩
    | _ :: _ :: _ :: _ :: _, hu => simp only [VL, and_false] at hu

theorem zlit : Blk.lit (.cells [ai 0, ai 0, .sl [] 0 .nl]) := by
  intro G G' w w' us e1 e2 e3 hu
  match us, hu with
  | [], hu => simp only [VL] at hu
  | [_], hu => simp only [VL, and_false] at hu
  | [_, _], hu => simp only [VL, and_false] at hu
  | [u0, u1, u2], hu =>
    simp only [VL, and_true] at hu ⊢
    refine ⟨by simpa only [V] using hu.1, by simpa only [V] using hu.2.1, ?_⟩
    have := hu.2.2
    simp only [V] at this ⊢
    obtain ⟨cap, h1, ⟨_, _, h2, h3, h4⟩ | ⟨b, off, h2, _, h3⟩⟩ := this
    · exact ⟨cap, h1, .inl ⟨trivial, trivial, h2, h3, h4⟩⟩
    · exact h3.elim
  | _ :: _ :: _ :: _ :: _, hu => simp only [VL, and_false] at hu

def Good (G0 : Gh) (res : AV) (r : Tm × List Tm) : Prop := ∀ W G' W', Ext G0 W G' W' → Keep G'.F G'.w0 W' → ∀ u, V G' W' res u → V G' W' (.tup [tmA r.1, .sl (flat tmCells r.2) (List.length r.2) .no]) u

/- scholium/term.Spine -/
def g106L0 (p0 : Tm) : Tm → List Tm → Option (Tm × List Tm)
  | .mk k n [a, b], l =>
    if (k == 5) = true then
      if decide ((List.length l : Int) ≥ 8192) = true then some (p0, []) else (gapp 40 l [b]) >>= fun l2 => g106L0 p0 a l2
    else some (.mk k n [a, b], l.reverse)
  | x, l => some (x, l.reverse)
def g106 (p0 : Tm) : Option (Tm × List Tm) := g106L0 p0 p0 []

theorem dVals : ∀ vs : List Value, AV.DataL (vs.map .val)
  | [] => trivial
  | _ :: vs => ⟨trivial, dVals vs⟩

theorem VL.rev {G : Gh} {w : World} : ∀ (l : List Tm) (ls : List L3), VL G w (flat tmCells l) (vals ls) → ls.length = l.length → VL G w (flat tmCells l.reverse) (vals ls.reverse)
  | [], [], _, _ => by simp [flat, vals, VL]
  | x :: l, y :: ls, h, hl => by
    simp only [flat, vals, List.flatMap_cons] at h
    obtain ⟨u1, u2, e, h1, h2⟩ := VL.split _ _ _ h
    have n1 := VL.length _ _ h1
    rw [codecT.len] at n1
    obtain ⟨rfl, rfl⟩ := List.append_inj e (by rw [n1]; rfl)
    have ih := VL.rev l ls h2 (by simpa using hl)
    simp only [List.reverse_cons, flat, vals, List.flatMap_append, List.flatMap_cons, List.flatMap_nil, List.append_nil]
    exact VL.append _ _ _ _ ih h1
  | [], _ :: _, _, h => by simp at h
  | _ :: _, [], _, h => by simp at h

theorem good_exit {na : Nb} {G0 : Gh} (hB : Base na G0) {x : Tm} {l : List Tm} {vs : List Value} (v1 : VL G0 G0.w0 (flat tmCells x.sub) vs) (hn : na.n = 0 := by first | rfl | assumption) : Good G0 (.tup [.agg [ai x.k, ai x.n, .sl (vs.map .val) x.sub.length .no], .sl (flat tmCells l.reverse) l.length .no]) (x, l.reverse) := by
  intro W G' W' hE hK u hu
  have v := VL.later hB hE hK v1
  simp only [V, VL] at hu
  obtain ⟨us, rfl, hus⟩ := hu
  match us, hus with
  | [], h => simp only [VL] at h
  | [_], h => simp only [VL, and_false] at h
  | [ua, ub], h =>
    simp only [VL, and_true] at h
    obtain ⟨h1, h2⟩ := h
    simp only [V] at h1
    obtain ⟨ws, rfl, hws⟩ := h1
    match ws, hws with
    | [], h => simp only [VL] at h
    | [_], h => simp only [VL, and_false] at h
    | [_, _], h => simp only [VL, and_false] at h
    | [w0, w1, w2], h =>
      simp only [VL, and_true] at h
      obtain ⟨g0, g1, g2⟩ := h
      have g3 := relit g2 v
      simp only [V]
      refine ⟨[.agg #[w0, w1, w2], ub], rfl, ?_⟩
      simp only [VL, and_true]
      refine ⟨?_, by simpa using h2⟩
      simp only [tmA, V]
      exact ⟨[w0, w1, w2], rfl, by simp only [tmL, VL, and_true]; exact ⟨g0, g1, g3⟩⟩
    | _ :: _ :: _ :: _ :: _, h => simp only [VL, and_false] at h
  | _ :: _ :: _ :: _, h => simp only [VL, and_false] at h

theorem good_long {na : Nb} {G0 : Gh} (hB : Base na G0) {x : Tm} {q : Option Addr × Nat × Nat} (h0 : VL G0 G0.w0 (tmL x) (sv x q)) (hn : na.n = 0 := by first | rfl | assumption) : Good G0 (.tup [.agg [.val (.int .i64 x.k), .val (.int .i64 x.n), .val (.slice q.1 q.2.1 q.2.2)], .sl [] 0 .no]) (x, []) := by
  intro W G' W' hE hK u hu
  have v := VL.later hB hE hK h0
  simp only [V, VL] at hu
  obtain ⟨us, rfl, hus⟩ := hu
  match us, hus with
  | [], h => simp only [VL] at h
  | [_], h => simp only [VL, and_false] at h
  | [ua, ub], h =>
    simp only [VL, and_true] at h
    obtain ⟨h1, h2⟩ := h
    simp only [V] at h1
    obtain ⟨ws, rfl, hws⟩ := h1
    have hw : ws = sv x q := VL.litEq (sv x q) ws hws
    subst hw
    simp only [V]
    refine ⟨[.agg (sv x q).toArray, ub], rfl, ?_⟩
    simp only [VL, and_true]
    refine ⟨?_, by simpa [flat] using h2⟩
    simp only [tmA, V]
    exact ⟨sv x q, rfl, v⟩
  | _ :: _ :: _ :: _, h => simp only [VL, and_false] at h

theorem spAX {G0 : Gh} {p0 x : Tm} {q0 : Option Addr × Nat × Nat} {l : List Tm} {ls : List L3} {vs : List Value} {o : Own} (j : Nat → Value) (hlit : Blk.lit (.cells [ai x.k, ai x.n, .sl (vs.map .val) x.sub.length o])) (hl : VL G0 G0.w0 (flat tmCells l) (vals ls)) (hlen : ls.length = l.length) (h8 : l.length ≤ 8192) :
    Dv Tryz.prog (⟨0, fun G => G = G0⟩ : Nb) (rgt (rgt (rgt (rgt (bod Tryz.f106))))) [.val (j 0), .mp 0 0, .mp 1 0, .val (j 3), .sl (flat c3 ls) ls.length (.st 0 3), .mp 2 0, .val (j 6), .mp 2 0, ai x.k, ab false, ab false, .val undef, .val undef, .val undef, .val undef, ab false, .val (j 16), .val (j 17), .val (j 18), .val (j 19), .val (j 20), .val (j 21), .val (j 22), .val (j 23), .val (j 24), .val (j 25), .val (j 26), .val (j 27), .val (j 28), .val (j 29), .val (j 30), .val (j 31), .val (j 32), .val (j 33), .val (j 34)] ⟨[(0, .cells [.val (.int .i64 p0.k), .val (.int .i64 p0.n), .val (.slice q0.1 q0.2.1 q0.2.2)]), (1, .cells [ai 0, ai 0, .sl [] 0 .nl]), (2, .cells [ai x.k, ai x.n, .sl (vs.map .val) x.sub.length o])], 3, [0], 1, []⟩ (FinQ Tryz.prog (⟨0, fun G => G = G0⟩ : Nb) Tryz.f106 (.tup [.agg [ai x.k, ai x.n, .sl (vs.map .val) x.sub.length .no], .sl (flat tmCells l.reverse) l.length .no]) [] 0) := by
  have k1 : knd (rgt (rgt (rgt (rgt (bod Tryz.f106))))) = 1 := by kernel_rfl
  have k3 : isReg (lft (rgt (rgt (rgt (rgt (bod Tryz.f106)))))) = true := by kernel_rfl
  have k4 : clOf (regOps (lft (rgt (rgt (rgt (rgt (bod Tryz.f106)))))))[1]? = some (some 32, 152, #[.tmp 31]) := by kernel_rfl
  have k5 : (Tryz.f152.name == "runtime.NumGoroutine") = false := by kernel_rfl
  have k6 : Tryz.f152.body.isNone = false := by kernel_rfl
  refine Dv.seqP k1 ?_
  obtain ⟨id, k7⟩ := regP k3
  rw [k7]
  refine Dv.mut prim_ok (na := (⟨0, fun G => G = G0⟩ : Nb)) rfl 1 [1, 2] [(4, .sl (flat tmCells l.reverse) l.length .no)] (.tup []) (spA2 j ls x _ vs o) ObsOk.nil k4 Tryz.func152 k5 k6 ?_ ?_ (fun i => spA3 j i ls l x _ vs o) ObsOk.nil ?_
  · intro i X hm hX
    have : i = 1 ∨ i = 2 := by simpa using any_beq.1 hm
    rcases this with rfl | rfl
    · cases hX; exact zlit
    · cases hX; exact hlit
  · intro G1 W hB' G w hE hR u hu
    have e := hB'.κ
    subst e
    refine (rev_call (l := ls) hR (by rfl) (by omega) hu).mono ?_
    rintro e w' ⟨v, b, S, e1, e2, e3, e4, e5, e6, e7⟩
    refine ⟨v, b, S, e1, e2, e3, e4, e5, fun G' hE' hK' hS => ⟨by subst e6; simp only [V]; exact ⟨[], rfl, by simp only [VL]⟩, ?_⟩⟩
    intro p hp u' hu'
    have hp' := List.mem_singleton.1 hp
    subst hp'
    have := e7 G' hS _ (VL.later hB' hE' hK' (VL.rev l ls hl hlen)) u' hu'
    rw [hlen] at this
    exact this
  · intro i
    exact kfin_ok (na := (⟨0, fun G => G = G0⟩ : Nb)) prim_ok mixed (spA4 j i l x vs o) (ObsOk.cons (obData (dVals vs)) (ObsOk.cons (obData (dT _)) ObsOk.nil)) (by decide)

theorem spBX {G0 : Gh} {p0 x : Tm} {q0 : Option Addr × Nat × Nat} {l : List Tm} {ls : List L3} {vs : List Value} {o : Own} (j : Nat → Value) (hlit : Blk.lit (.cells [ai x.k, ai x.n, .sl (vs.map .val) x.sub.length o])) (hl : VL G0 G0.w0 (flat tmCells l) (vals ls)) (hlen : ls.length = l.length) (h8 : l.length ≤ 8192) :
    Dv Tryz.prog (⟨0, fun G => G = G0⟩ : Nb) (rgt (rgt (rgt (rgt (bod Tryz.f106))))) [.val (j 0), .mp 0 0, .mp 1 0, .val (j 3), .sl (flat c3 ls) ls.length (.st 0 3), .mp 2 0, .val (j 6), .mp 2 0, ai x.k, ab true, ab true, .mp 2 2, .sl (vs.map .val) x.sub.length o, ai (x.sub.length : Int), ab false, ab false, .val (j 16), .val (j 17), .val (j 18), .val (j 19), .val (j 20), .val (j 21), .val (j 22), .val (j 23), .val (j 24), .val (j 25), .val (j 26), .val (j 27), .val (j 28), .val (j 29), .val (j 30), .val (j 31), .val (j 32), .val (j 33), .val (j 34)] ⟨[(0, .cells [.val (.int .i64 p0.k), .val (.int .i64 p0.n), .val (.slice q0.1 q0.2.1 q0.2.2)]), (1, .cells [ai 0, ai 0, .sl [] 0 .nl]), (2, .cells [ai x.k, ai x.n, .sl (vs.map .val) x.sub.length o])], 3, [0], 1, []⟩ (FinQ Tryz.prog (⟨0, fun G => G = G0⟩ : Nb) Tryz.f106 (.tup [.agg [ai x.k, ai x.n, .sl (vs.map .val) x.sub.length .no], .sl (flat tmCells l.reverse) l.length .no]) [] 0) := by
  have k1 : knd (rgt (rgt (rgt (rgt (bod Tryz.f106))))) = 1 := by kernel_rfl
  have k3 : isReg (lft (rgt (rgt (rgt (rgt (bod Tryz.f106)))))) = true := by kernel_rfl
  have k4 : clOf (regOps (lft (rgt (rgt (rgt (rgt (bod Tryz.f106)))))))[1]? = some (some 32, 152, #[.tmp 31]) := by kernel_rfl
  have k5 : (Tryz.f152.name == "runtime.NumGoroutine") = false := by kernel_rfl
  have k6 : Tryz.f152.body.isNone = false := by kernel_rfl
  refine Dv.seqP k1 ?_
  obtain ⟨id, k7⟩ := regP k3
  rw [k7]
  refine Dv.mut prim_ok (na := (⟨0, fun G => G = G0⟩ : Nb)) rfl 1 [1, 2] [(4, .sl (flat tmCells l.reverse) l.length .no)] (.tup []) (spB2 j ls x _ vs o) ObsOk.nil k4 Tryz.func152 k5 k6 ?_ ?_ (fun i => spB3 j i ls l x _ vs o) ObsOk.nil ?_
  · intro i X hm hX
    have : i = 1 ∨ i = 2 := by simpa using any_beq.1 hm
    rcases this with rfl | rfl
    · cases hX; exact zlit
    · cases hX; exact hlit
  · intro G1 W hB' G w hE hR u hu
    have e := hB'.κ
    subst e
    refine (rev_call (l := ls) hR (by rfl) (by omega) hu).mono ?_
    rintro e w' ⟨v, b, S, e1, e2, e3, e4, e5, e6, e7⟩
    refine ⟨v, b, S, e1, e2, e3, e4, e5, fun G' hE' hK' hS => ⟨by subst e6; simp only [V]; exact ⟨[], rfl, by simp only [VL]⟩, ?_⟩⟩
    intro p hp u' hu'
    have hp' := List.mem_singleton.1 hp
    subst hp'
    have := e7 G' hS _ (VL.later hB' hE' hK' (VL.rev l ls hl hlen)) u' hu'
    rw [hlen] at this
    exact this
  · intro i
    exact kfin_ok (na := (⟨0, fun G => G = G0⟩ : Nb)) prim_ok mixed (spB4 j i l x vs o) (ObsOk.cons (obData (dVals vs)) (ObsOk.cons (obData (dT _)) ObsOk.nil)) (by decide)


theorem apC22 {l m r : List L3} (h : gapp 40 l m = some r) (hm : m.length ≠ 0) : Ob.ok Tryz.prog (.app 22 22 (flat c3 l) (flat c3 m) (flat c3 r) l.length m.length r.length 3 false) := app_some codec3 Tryz.underlying22 info29 rfl rfl rfl (by decide) rfl (by decide) h hm

theorem g135_exit {p0 x : Tm} {l : List Tm} {r : Tm × List Tm} (h : g106L0 p0 x l = some r) (hx : ¬ ((x.k == 5) = true ∧ x.sub.length = 2)) : r = (x, l.reverse) := by
  obtain ⟨k, n, sub⟩ := x
  unfold g106L0 at h
  split at h
  · rename_i k' n' a b e
    cases e
    split at h
    · rename_i hk
      exact (hx ⟨hk, rfl⟩).elim
    · cases h; rfl
  · cases h; rfl

theorem spine_loop {p0 : Tm} {q0 : Option Addr × Nat × Nat} {G0 : Gh} (hB : Base (⟨0, fun G => G = G0⟩ : Nb) G0) (h0 : VL G0 G0.w0 (tmL p0) (sv p0 q0)) : ∀ (N : Nat) (x : Tm) (l : List Tm) (r : Tm × List Tm) (hN : SizeOf.sizeOf x ≤ N) (h : g106L0 p0 x l = some r) (h8 : l.length ≤ 8192) (q : Option Addr × Nat × Nat) (ls : List L3)
    (hx : VL G0 G0.w0 (tmL x) (sv x q)) (hl : VL G0 G0.w0 (flat tmCells l) (vals ls)) (hlen : ls.length = l.length), ∃ res, Good G0 res r ∧ ∀ j : Nat → Value, Dl Tryz.prog (⟨0, fun G => G = G0⟩ : Nb) (inn (inn (lft (rgt (rgt (rgt (bod Tryz.f106))))))) [.val (j 0), .mp 0 0, .mp 1 0, .val (j 3), .sl (flat c3 ls) ls.length (.st 0 3), .mp 2 0, .val (j 6), .val (j 7), .val (j 8), .val (j 9), .val (j 10), .val (j 11), .val (j 12), .val (j 13), .val (j 14), .val (j 15), .val (j 16), .val (j 17), .val (j 18), .val (j 19), .val (j 20), .val (j 21), .val (j 22), .val (j 23), .val (j 24), .val (j 25), .val (j 26), .val (j 27), .val (j 28), .val (j 29), .val (j 30), .val (j 31), .val (j 32), .val (j 33), .val (j 34)] ⟨[(0, .cells [.val (.int .i64 p0.k), .val (.int .i64 p0.n), .val (.slice q0.1 q0.2.1 q0.2.2)]), (1, .cells [ai 0, ai 0, .sl [] 0 .nl]), (2, .cells [.val (.int .i64 x.k), .val (.int .i64 x.n), .val (.slice q.1 q.2.1 q.2.2)])], 3, [0], 1, []⟩ (frameQ Tryz.prog (⟨0, fun G => G = G0⟩ : Nb) (FinQ Tryz.prog (⟨0, fun G => G = G0⟩ : Nb) Tryz.f106 res [] 0) [.blk 0, .seq (rgt (rgt (rgt (rgt (bod Tryz.f106)))))]) := by
  intro N
  induction N with
  | zero =>
    intro x l r hN
    obtain ⟨k, n, sub⟩ := x
    simp at hN
  | succ N spine_ih =>
  intro x l r hN h h8 q ls hx hl hlen
  obtain ⟨vs, o, v1, v2, v3⟩ := open_tm hB hx
  have hopen : ∀ {res : AV} (j : Nat → Value), Dl Tryz.prog (⟨0, fun G => G = G0⟩ : Nb) (inn (inn (lft (rgt (rgt (rgt (bod Tryz.f106))))))) [.val (j 0), .mp 0 0, .mp 1 0, .val (j 3), .sl (flat c3 ls) ls.length (.st 0 3), .mp 2 0, .val (j 6), .val (j 7), .val (j 8), .val (j 9), .val (j 10), .val (j 11), .val (j 12), .val (j 13), .val (j 14), .val (j 15), .val (j 16), .val (j 17), .val (j 18), .val (j 19), .val (j 20), .val (j 21), .val (j 22), .val (j 23), .val (j 24), .val (j 25), .val (j 26), .val (j 27), .val (j 28), .val (j 29), .val (j 30), .val (j 31), .val (j 32), .val (j 33), .val (j 34)] ⟨[(0, .cells [.val (.int .i64 p0.k), .val (.int .i64 p0.n), .val (.slice q0.1 q0.2.1 q0.2.2)]), (1, .cells [ai 0, ai 0, .sl [] 0 .nl]), (2, .cells [ai x.k, ai x.n, .sl (vs.map .val) x.sub.length o])], 3, [0], 1, []⟩ (frameQ Tryz.prog (⟨0, fun G => G = G0⟩ : Nb) (FinQ Tryz.prog (⟨0, fun G => G = G0⟩ : Nb) Tryz.f106 res [] 0) [.blk 0, .seq (rgt (rgt (rgt (rgt (bod Tryz.f106)))))]) → Dl Tryz.prog (⟨0, fun G => G = G0⟩ : Nb) (inn (inn (lft (rgt (rgt (rgt (bod Tryz.f106))))))) [.val (j 0), .mp 0 0, .mp 1 0, .val (j 3), .sl (flat c3 ls) ls.length (.st 0 3), .mp 2 0, .val (j 6), .val (j 7), .val (j 8), .val (j 9), .val (j 10), .val (j 11), .val (j 12), .val (j 13), .val (j 14), .val (j 15), .val (j 16), .val (j 17), .val (j 18), .val (j 19), .val (j 20), .val (j 21), .val (j 22), .val (j 23), .val (j 24), .val (j 25), .val (j 26), .val (j 27), .val (j 28), .val (j 29), .val (j 30), .val (j 31), .val (j 32), .val (j 33), .val (j 34)] ⟨[(0, .cells [.val (.int .i64 p0.k), .val (.int .i64 p0.n), .val (.slice q0.1 q0.2.1 q0.2.2)]), (1, .cells [ai 0, ai 0, .sl [] 0 .nl]), (2, .cells [.val (.int .i64 x.k), .val (.int .i64 x.n), .val (.slice q.1 q.2.1 q.2.2)])], 3, [0], 1, []⟩ (frameQ Tryz.prog (⟨0, fun G => G = G0⟩ : Nb) (FinQ Tryz.prog (⟨0, fun G => G = G0⟩ : Nb) Tryz.f106 res [] 0) [.blk 0, .seq (rgt (rgt (rgt (rgt (bod Tryz.f106)))))]) := by
    intro res j hd
    refine Dl.openB (b := 2) (cs := [.val (.int .i64 x.k), .val (.int .i64 x.n), .val (.slice q.1 q.2.1 q.2.2)]) (cs' := [ai x.k, ai x.n, .sl (vs.map .val) x.sub.length o]) rfl (fun G1 W hB' G w hE hK us hus => ?_) hd
    have e := hB'.κ
    subst e
    have hu : us = sv x q := VL.litEq (sv x q) us hus
    subst hu
    exact VL.later hB' hE hK v2
  by_cases hk : (x.k == 5) = true
  · by_cases h2 : x.sub.length = 2
    · obtain ⟨k, n, sub⟩ := x
      match sub, h2 with
      | [a, b], _ =>
      rw [g106L0] at h
      replace h := ifT hk h
      rcases bcases (decide ((List.length l : Int) ≥ 8192)) with h3 | h3
      · replace h := ifT h3 h
        cases h
        exact ⟨_, good_long hB h0, fun j => hopen j (Dl.toFin (na := (⟨0, fun G => G = G0⟩ : Nb)) prim_ok mixed 3000 _ _ _ _ _ (spC j p0 q0 ls (.mk k n [a, b]) vs o) (ObsOk.cons (obBit hk) (ObsOk.cons (obBit rfl) (ObsOk.cons (obBit (by rw [hlen]; exact h3)) (ObsOk.cons (obData trivial) ObsOk.nil)))) (by decide))⟩
      · replace h := ifF h3 h
        obtain ⟨l2, hg, h⟩ := obind h
        obtain ⟨hg1, rfl⟩ := gapp_spec hg
        have w1 : VL G0 G0.w0 (tmCells a ++ (tmCells b ++ [])) vs := v1
        obtain ⟨ua, u2, rfl, wa, w2⟩ := VL.split _ _ _ w1
        obtain ⟨ub, u3, rfl, wb, w3⟩ := VL.split _ _ _ w2
        have e3 : u3 = [] := by
          have := VL.length _ _ w3
          exact List.length_eq_zero_iff.1 this
        subst e3
        rw [tm_eq] at wa wb
        obtain ⟨qa, rfl⟩ := sv_of wa
        obtain ⟨qb, rfl⟩ := sv_of wb
        have h3' : List.length l < 8192 := by
          have := of_decide_eq_false h3
          omega
        have hl2 : VL G0 G0.w0 (flat tmCells (l ++ [b])) (vals (ls ++ [sv3 b qb])) := by
          simp only [flat, vals, List.flatMap_append, List.flatMap_cons, List.flatMap_nil, List.append_nil]
          refine VL.append _ _ _ _ hl ?_
          rw [tm_eq]; exact wb
        have hga : gapp 40 ls [sv3 b qb] = some (ls ++ [sv3 b qb]) := by
          unfold gapp
          rw [if_pos]
          simp only [List.length_cons, List.length_nil] at hg1 ⊢
          rw [hlen]; exact hg1
        obtain ⟨res, hgood, hdl⟩ := spine_ih a (l ++ [b]) r (by simp at hN; omega) h (by simp; omega) qa (ls ++ [sv3 b qb]) wa hl2 (by simp [hlen])
        refine ⟨res, hgood, fun j => hopen j (Dl.toHead (na := (⟨0, fun G => G = G0⟩ : Nb)) prim_ok mixed 3000 _ _ _ _ _ (fun i => spD i j k n a b qa qb _ _ _ ls (ls ++ [sv3 b qb]) o) ?_ fun i => hdl i)⟩
        exact ObsOk.cons (obBit hk) (ObsOk.cons (obBit rfl) (ObsOk.cons (obBit (by rw [hlen]; exact h3)) (ObsOk.cons (apC22 (m := [sv3 b qb]) hga (by simp)) (ObsOk.cons (obData trivial) (ObsOk.cons (obData (flat_data codec3.data _)) ObsOk.nil)))))
    · have hr := g135_exit h (fun e => h2 e.2)
      subst hr
      refine ⟨.tup [.agg [ai x.k, ai x.n, .sl (vs.map .val) x.sub.length .no], .sl (flat tmCells l.reverse) l.length .no], good_exit hB v1, fun j => hopen j (Dl.step ?_)⟩
      have hx1 := spBX (G0 := G0) (p0 := p0) (q0 := q0) j v3 hl hlen h8
      refine krun_ok (Q := _) prim_ok mixed 3000 (.run (inn (inn (lft (rgt (rgt (rgt (bod Tryz.f106)))))))) [] _ _ _ _ _ _ _ _ (spB1 j ls x _ vs o) (ObsOk.cons (obBit hk) (ObsOk.cons (obBit (by simp; omega)) ObsOk.nil)) ?_
      simp only [KQ, seqQ, frameQ, blockQ, if_true]
      exact hx1
  · have hr := g135_exit h (fun e => hk e.1)
    subst hr
    · refine ⟨.tup [.agg [ai x.k, ai x.n, .sl (vs.map .val) x.sub.length .no], .sl (flat tmCells l.reverse) l.length .no], good_exit hB v1, fun j => hopen j (Dl.step ?_)⟩
      have hx1 := spAX (G0 := G0) (p0 := p0) (q0 := q0) j v3 hl hlen h8
      refine krun_ok (Q := _) prim_ok mixed 3000 (.run (inn (inn (lft (rgt (rgt (rgt (bod Tryz.f106)))))))) [] _ _ _ _ _ _ _ _ (spA1 j ls x _ vs o) (ObsOk.cons (obBit (by simpa using hk)) ObsOk.nil) ?_
      simp only [KQ, seqQ, frameQ, blockQ, if_true]
      exact hx1

theorem c106g {p0 : Tm} {r : Tm × List Tm} (h : g106 p0 = some r) : CT Tryz.prog 106 [] [tmA p0] (.tup [tmA r.1, .sl (flat tmCells r.2) (List.length r.2) .no]) [] 0 := by
  refine ⟨?_, ⟨⟨trivial, trivial, ⟨trivial, dT _⟩, trivial⟩, trivial⟩, (fun _ h => nomatch h), ⟨⟨trivial, trivial, dT _, trivial⟩, dT _, trivial⟩, (fun _ h => nomatch h)⟩
  intro G0 W cargs hB hR hv
  cases hc : cargs.toList with
  | nil => rw [hc] at hv; simp only [VL] at hv
  | cons u us =>
    rw [hc] at hv
    simp only [VL] at hv
    obtain ⟨hu, hus⟩ := hv
    have hus' : us = [] := by
      have := VL.length _ _ hus
      exact List.length_eq_zero_iff.1 this
    subst hus'
    simp only [tmA, V] at hu
    obtain ⟨ws, rfl, hws⟩ := hu
    obtain ⟨q0, rfl⟩ := sv_of hws
    have hBK : Base (⟨0, fun G => G = G0⟩ : Nb) G0 := ⟨hB.ρ, hB.τ, hB.LF, rfl⟩
    have h0 := VL.back hB hR hws
    obtain ⟨res, hgood, hdl⟩ := spine_loop hBK h0 _ p0 [] r (Nat.le_refl _) h (by simp) q0 [] h0 (by simp [flat, vals, VL]) rfl
    have hv2 : VL G0 W [.agg [.val (.int .i64 p0.k), .val (.int .i64 p0.n), .val (.slice q0.1 q0.2.1 q0.2.2)]] cargs.toList := by
      rw [hc]
      simp only [VL, V, and_true]
      exact ⟨sv p0 q0, rfl, VL.lits (sv p0 q0)⟩
    have hb := body_at (na := (⟨0, fun G => G = G0⟩ : Nb)) (res := res) (H1 := []) (nst := 0) rfl Tryz.func106 (by kernel_rfl) (khead_ok (na := (⟨0, fun G => G = G0⟩ : Nb)) (m := .run (bod Tryz.f106)) (fs := []) prim_ok mixed (fun i => spE i p0.k p0.n q0) (ObsOk.cons (obData trivial) (ObsOk.cons (obData trivial) ObsOk.nil)) fun i => hdl i) hBK hR hv2
    refine hb.mono ?_
    rintro e W' ⟨u, G', s', rfl, hE, hR', hu, h1, h2⟩
    exact ⟨u, G', s', rfl, hE, hR', hgood W G' W' hE hR'.below u hu, h1, h2⟩

def e106 (_qq : Nat) (p0 : Tm) : Option (Tm × List Tm) := g106 p0
theorem c106 {qq : Nat} {p0 : Tm} {r : Tm × List Tm} (h : e106 qq p0 = some r) : CT Tryz.prog 106 [] [tmA p0] (.tup [tmA r.1, .sl (flat tmCells r.2) (List.length r.2) .no]) [] 0 := c106g h

theorem m106 {qq : Nat} {p0 : Tm} {r : Tm × List Tm} (h : e106 qq p0 = some r) : e106 (qq + 1) p0 = some r := h


end Go.Proofs.YtlbmblbeccafcaaGreat
