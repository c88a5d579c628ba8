/- LeafNone: what it comes to. -/
import Derived.Test.YtlbmblbeccafcaaGreatAbB4
set_option linter.unusedVariables false
set_option linter.unusedSimpArgs false

namespace Go.Proofs.YtlbmblbeccafcaaGreat
open Go Go.Ab

/-- closed, over 23 entries, each of them -/
def AllC (l : List Tm) : Prop := ∀ t ∈ l, t.Ok ∧ closedT t 23 = true
theorem ev_tail (M : Mach) (fl fu : Int) (T : CoverTree) (ns : List Int) (ts : List Tm) (m : List (Int × Int)) (c n : Nat) (hk : T.kind_ ≠ 1) (hm : ihas m T.var_ = false) :
    Evt (fun q => e13L62586 q M fl fu T.kind_ T.row_ T.var_ T.vars_ T.binds_ T.args_ T.kids_ c n m ns ts) (LeafFound.mk false 0 [] [], 0, fl, fu) := by
  simp only [e13L62586]
  refine Evt.ifF (by simpa using hk) ?_
  refine Evt.iff (fun _ => ?_) fun _ => ?_
  · refine Evt.bind (a := (CoverTree.mk T.kind_ T.row_ T.var_ T.vars_ T.binds_ T.args_ T.kids_, false, 0, ns, ts, n, c, fl, fu, m)) (Evt.mk fun q => ?_) (Evt.ifF rfl (Evt.ifF rfl (Evt.bind (a := []) (Evt.mk fun _ => rfl) Evt.ret)))
    unfold e45va45810
    exact ifFe hm
  · exact Evt.bind (a := []) (Evt.mk fun _ => rfl) Evt.ret
theorem ev_DownL (M : Mach) (T : CoverTree) (p : List Tm) (fl fu : Int) (hM : M.l.length = 23) (hk : T.kind_ ≠ 1) (hv : (p.length : Int) ≤ T.var_) (hp : p.length ≤ 24) : ∀ (r : List Tm) (v : Nat) (ns : List Int) (ts : List Tm) (m : List (Int × Int)) (c : Nat),
    p.drop v = r → v ≤ p.length → AllC r → ns.length = v → ts.length = v → Below' m v →
    Evt (fun q => e13L17591 q M T p fl fu (v : Int) c ts.length m ns ts) (LeafFound.mk false 0 [] [], 0, fl, fu)
  | [], v, ns, ts, m, c, hd, hvl, hc, hn, ht, hb => by
    refine Evt.succ ?_
    simp only [e13L17591]
    refine Evt.ifF (drop_nil hd) (ev_tail M fl fu T ns ts m c ts.length hk ?_)
    cases h : ihas m T.var_ with
    | false => rfl
    | true => have := hb _ h; omega
  | x :: r, v, ns, ts, m, c, hd, hvl, hc, hn, ht, hb => by
    have hlt := drop_lt hd
    have hx := hc x (by simp)
    refine Evt.succ ?_
    simp only [e13L17591]
    refine Evt.ifT (drop_dec hd) (Evt.pure (drop_idx hd) ((ev_lclosed x 23 hx.1 hx.2).bind (Evt.ifT rfl (Evt.bind (a := 23) (Evt.mk fun q => by simp [e42, hM]) ?_))))
    refine ((ev_Right x 0 23 hx.1).eq (closedT_spec hx.2).2.2.1).bind (Evt.ifT rfl ((ev_set2 _ _ _ _ _ fl fu (v : Int) x m ns ts c (by omega) (by omega)).bind ?_))
    rw [w64_nat v (by omega)]
    have e : ts.length + 1 = (ts ++ [x]).length := by simp
    have := ev_DownL M T p fl fu hM hk hv hp r (v + 1) (ns ++ [(v : Int)]) (ts ++ [x]) (iset m (v : Int) (ts.length : Int)) (ts.length + 1) (drop_next hd) (by omega) (fun t ht' => hc t (by simp [ht'])) (by simp; omega) (by simp; omega) (hb.set _)
    rw [← e] at this
    exact this
theorem ev_Down (M : Mach) (T : CoverTree) (p : List Tm) (fl fu : Int) (hM : M.l.length = 23) (hk : T.kind_ ≠ 1) (hv : (p.length : Int) ≤ T.var_) (hp : p.length ≤ 24) (hc : AllC p) :
    Evt (fun q => e13 q M T p fl fu) (LeafFound.mk false 0 [] [], 0, fl, fu) := by
  simp only [e13]
  refine Evt.ifF (by simp; omega) ?_
  simp only [e13L26054]
  rcases p with _ | ⟨x, r⟩
  · refine Evt.ifF rfl ?_
    simp only [e13L40467]
    refine Evt.ifF (by simpa using hk) ?_
    refine Evt.iff (fun _ => ?_) fun _ => ?_
    · refine Evt.bind (a := (CoverTree.mk T.kind_ T.row_ T.var_ T.vars_ T.binds_ T.args_ T.kids_, false, 0)) (Evt.mk fun _ => rfl) (Evt.ifF rfl (Evt.ifF rfl (Evt.bind (a := []) (Evt.mk fun _ => rfl) Evt.ret)))
    · exact Evt.bind (a := []) (Evt.mk fun _ => rfl) Evt.ret
  · have hx := hc x (by simp)
    refine Evt.ifT (by simp <;> omega) (Evt.pure (a := x) rfl ((ev_lclosed x 23 hx.1 hx.2).bind (Evt.ifT rfl (Evt.bind (a := 23) (Evt.mk fun q => by simp [e42, hM]) ?_))))
    refine ((ev_Right x 0 23 hx.1).eq (closedT_spec hx.2).2.2.1).bind (Evt.ifT rfl ((ev_set1 _ _ _ _ _ fl fu 0 x).bind ?_))
    exact ev_DownL M T (x :: r) fl fu hM hk hv hp r 1 [0] [x] [(0, 0)] 1 rfl (by simp) (fun t ht => hc t (by simp [ht])) rfl rfl (fun y hy => by
      unfold ihas at hy
      simp only [igot] at hy
      by_cases e : y = 0
      · omega
      · simp [e] at hy)

theorem ev_smallL : ∀ (r l : List Tm) (v : Nat), l.drop v = r → l.length ≤ 30 → Evt (fun q => e7L7830 q l (v : Int)) (r.all fun t => decide (t.nodes ≤ 150))
  | [], l, v, hd, hl => by
    refine Evt.succ ?_
    simp only [e7L7830]
    exact Evt.ifF (drop_nil hd) Evt.ret
  | t :: r, l, v, hd, hl => by
    have hlt := drop_lt hd
    refine Evt.succ ?_
    simp only [e7L7830]
    refine Evt.ifT (drop_dec hd) (Evt.pure (drop_idx hd) ((ev_rSize t).bind ?_))
    by_cases h : t.nodes ≤ 150
    · refine Evt.ifF (by simp; omega) ?_
      rw [w64_nat v (by omega)]
      exact (ev_smallL r l (v + 1) (drop_next hd) hl).eq (by simp [h])
    · exact Evt.ifT (by simp; omega) (Evt.ret.eq (by simp [h]))
theorem ev_small (l : List Tm) : Tot (fun q => e7 q l) fun b => b = true → l.length ≤ 30 := by
  simp only [e7]
  by_cases h : l.length ≤ 30
  · exact (Evt.ifF (by simp; omega) (ev_smallL l l 0 rfl h)).tot fun _ => h
  · exact (Evt.ifT (by simp; omega) Evt.ret).tot fun h => by cases h

theorem awake_run : e8 400 = some true := by kernel_rfl
theorem ev_awake : Evt (fun q => e8 q) true := Evt.mono (fun _ _ h => m8 h) awake_run
/-- what is made of the signature that is right -/
theorem base_run : ((e9 400).bind fun b => (e11 400 b).map fun y => (b.length, y.2.1.length)) = some (23, 23) := by kernel_rfl
theorem meter_run : e12 400 300 = some (0, 300, 0) := by kernel_rfl

theorem ev_LeafNoneL (kind n : Int) (p : List Tm) (B : List Ent) (hB : B.length = 23) (y) (hy : Evt (fun q => e11 q B) y) (hyl : y.2.1.length = 23) (hp : p.length ≤ 24) :
    ∀ (r : List Tm) (v : Nat), p.drop v = r → OkL r → (∀ t ∈ p.take v, t.Ok ∧ closedT t 23 = true) → Evt (fun q => e3L56199 q kind n p B (v : Int)) true
  | [], v, hd, ho, hc => by
    have hlen : p.length ≤ v := List.drop_eq_nil_iff.1 hd
    rw [List.take_of_length_le hlen] at hc
    refine Evt.succ ?_
    simp only [e3L56199]
    refine Evt.ifF (drop_nil hd) (hy.bind ((Evt.mono (fun _ _ h => m12 h) meter_run).bind ?_))
    have last : ∀ a b : Int, Evt (fun q => e14 q >>= fun r28 => e13va15441 q r28 p a b >>= fun r30 => if (r30.2 == 5) = true then e8 q >>= fun r33 => some r33 else none) true := fun a b =>
      Evt.bind (Evt.mk fun _ => rfl) (Evt.bind (Evt.mk fun _ => rfl) (Evt.ifT rfl (ev_awake.bind Evt.ret)))
    refine Evt.iff (fun hk => ?_) fun _ => last _ _
    have hw : w64 (99 + (p.length : Int)) = 99 + p.length := w64_id (by omega) (by omega)
    refine (ev_Down _ (CoverTree.mk kind n (w64 (99 + (p.length : Int))) [] [] [] []) p _ _ hyl (show kind ≠ 1 by simpa using hk) (by show (p.length : Int) ≤ w64 (99 + (p.length : Int)); omega) hp hc).bind ?_
    exact Evt.ifF rfl (Evt.ifF rfl (Evt.ifF rfl (Evt.ifF rfl (last _ _))))
  | t :: r, v, hd, ho, hc => by
    have hlt := drop_lt hd
    rw [OkL] at ho
    refine Evt.succ ?_
    simp only [e3L56199]
    refine Evt.ifT (drop_dec hd) (Evt.pure (drop_idx hd) ?_)
    rw [hB]
    refine (ev_rClosed t 23 ho.1).bind ?_
    by_cases h : closedT t 23 = true
    · refine Evt.ifT h ?_
      rw [w64_nat v (by omega)]
      refine ev_LeafNoneL kind n p B hB y hy hyl hp r (v + 1) (drop_next hd) ho.2 fun u hu => ?_
      have e : p.take (v + 1) = p.take v ++ [t] := by
        have : p[v]? = some t := by
          have := congrArg (fun z => z[0]?) hd
          simpa using this
        rw [List.take_add_one, this]; rfl
      rw [e] at hu
      rcases List.mem_append.1 hu with hu | hu
      · exact hc u hu
      · simp at hu; subst hu; exact ⟨ho.1, h⟩
    · exact Evt.ifF (by simpa using h) (ev_awake.bind Evt.ret)
theorem ev_LeafNone (kind n : Int) (p : List Tm) (ho : OkL p) : Evt (fun q => e3 q kind n p) true := by
  simp only [e3]
  obtain ⟨b, hb, hb'⟩ := ev_small p
  refine hb.bind ?_
  by_cases h : b = true
  · refine Evt.ifT h (Evt.iff (fun _ => ev_awake.bind Evt.ret) fun h2 => ?_)
    have hr := base_run
    obtain ⟨B, h3, h4⟩ := Option.bind_eq_some_iff.1 hr
    obtain ⟨y, h5, h6⟩ := Option.map_eq_some_iff.1 h4
    simp only [Prod.mk.injEq] at h6
    refine (Evt.mono (fun _ _ h => m9 h) h3).bind ?_
    exact ev_LeafNoneL kind n p B h6.1 y (Evt.mono (fun _ _ h => m11 h) h5) h6.2 (by simp at h2; omega) p 0 rfl ho (by simp)
  · exact Evt.ifF (by simpa using h) (ev_awake.bind Evt.ret)
theorem leafNone_ct (kind n : Int) (p : List Tm) (_w0 : (Lit.int .i64 kind).wf = true) (_w1 : (Lit.int .i64 n).wf = true) (w2 : OkL p ∧ p.length < 9223372036854775808) : CT Tryz.prog 3 [] [.val (.int .i64 kind), .val (.int .i64 n), .sl (flat tmCells p) p.length .no] (ab true) [] 0 := by
  obtain ⟨q, hq⟩ := (ev_LeafNone kind n p w2.1).at
  exact c3 hq
end Go.Proofs.YtlbmblbeccafcaaGreat
