/- Texts: AbF71 AbF141 AbF97 AbF103 AbF195 AbF196 AbF96 AbF197 AbF142 AbF198 AbF106 AbF199 AbF143 AbF144 AbF145 AbF95 AbF58 AbF162vr0 AbF162vr1 AbF162 AbF163 AbF113 AbF68 AbF37 AbF11 AbF39va12063 AbF12 AbF47 AbF16 AbF42 AbF173 AbF121 AbF70 AbF78 AbF88 AbF89 AbF123 AbF118 AbF172 AbF120 AbF189 AbF188 AbF134 AbF342 AbF343va45641 AbF294 AbF231 AbF170va42398 AbF306 AbF305va25770 AbF230va42398 AbF304va11690 AbF167va26223 AbF249 AbF232 AbF235 AbF174va9626 AbF175va12063 AbF175va37370 AbF122 AbF80 AbF119_171_233_234 AbF75 AbF90 AbF53 AbF132 AbF91 AbF166 AbF168va13904 AbF169va53239 AbF230va49381 AbF167va41413 AbF117 AbF139 AbF137vr0 AbF137vr1 AbF137 AbF298va19760 -/
import Derived.Test.YtlbmblbeccafcaaGreatAbB2
set_option linter.unusedVariables false
set_option linter.unusedSimpArgs false

namespace Go.Proofs.YtlbmblbeccafcaaGreat
open Go Go.Ab

/- scholium/term.Frees -/
def e71 (qq : Nat) (p0 : Tm) : Option (List Int) :=
  (e51 qq p0) >>= fun r1 =>
  if r1 = true then
    (e115 qq p0 8 8) >>= fun r4 =>
    if decide (List.length r4 < 4611686018427387904) = true then some (rise r4) else none
  else
    some []
theorem c71 {qq : Nat} {p0 : Tm} {r : List Int} (h : e71 qq p0 = some r) : CT Tryz.prog 71 [] [tmA p0] (.sl (flat intC r) (List.length r) .no) [] 0 := by
  unfold e71 at h
  obtain ⟨r1, h2, h⟩ := obind h
  rcases bcases r1 with h3 | h3
  · replace h := ifT h3 h
    obtain ⟨l, h5, h⟩ := obind h
    rcases bcases (decide (List.length l < 4611686018427387904)) with h6 | h6
    · replace h := ifT h6 h
      replace h := Option.some.inj h
      subst h
      subst h3
      have hsz : List.length l < 4611686018427387904 := by simpa using h6
      refine ⟨?_, ⟨⟨trivial, trivial, ⟨trivial, dT _⟩, trivial⟩, trivial⟩, (fun _ h => nomatch h), dI _, (fun _ h => nomatch h)⟩
      have k0 : knd (bod Tryz.f71) = 1 := by kernel_rfl
      have k1 : knd (rgt (bod Tryz.f71)) = 1 := by kernel_rfl
      have k2 : knd (rgt (rgt (bod Tryz.f71))) = 1 := by kernel_rfl
      have k3 : isReg (lft (rgt (rgt (bod Tryz.f71)))) = true := by kernel_rfl
      have k4 : clOf (regOps (lft (rgt (rgt (bod Tryz.f71)))))[2]? = some (some 8, 114, #[.tmp 7]) := by kernel_rfl
      have k5 : (Tryz.f114.name == "runtime.NumGoroutine") = false := by kernel_rfl
      have k6 : Tryz.f114.body.isNone = false := by kernel_rfl
      have x1 : krun Tryz.prog prim 3000 (.run (lft (bod Tryz.f71))) [] ([tmA p0] ++ List.replicate (Tryz.f71.ntmps - 1) (.val undef)) (st0 []) [] = some (.fin .normal, [tmA p0, .mp 0 0, .sl [] 0 .nl, .val undef, .val undef, .val undef, .val undef, .val undef, .val undef], ⟨[(0, .cells (tmL p0))], 1, [], 0, []⟩, [], []) := by kernel_rfl
      have x2 : krun Tryz.prog prim 3000 (.run (lft (rgt (bod Tryz.f71)))) [] [tmA p0, .mp 0 0, .sl [] 0 .nl, .val undef, .val undef, .val undef, .val undef, .val undef, .val undef] ⟨[(0, .cells (tmL p0))], 1, [], 0, []⟩ [.no, .call [] [] 0 (ab true) (some true), .no] = some (.fin .normal, [tmA p0, .mp 0 0, .sl [] 0 .nl, tmA p0, ab true, ab false, .val undef, .val undef, .val undef], ⟨[(0, .cells (tmL p0))], 1, [], 0, []⟩, [], [.bit true true, .call 51 [] [tmA p0] (ab true) [] 0]) := by kernel_rfl
      have x3 : (xops Tryz.prog prim (regOps (lft (rgt (rgt (bod Tryz.f71))))) ((regOps (lft (rgt (rgt (bod Tryz.f71))))).toList.take 2) 0 [tmA p0, .mp 0 0, .sl [] 0 .nl, tmA p0, ab true, ab false, .val undef, .val undef, .val undef] ⟨[(0, .cells (tmL p0))], 1, [], 0, []⟩ [.no, .call [] [] 1 (.sl (flat intC l) l.length (.st 0 1)) none]).map Prod.snd = some ([tmA p0, .mp 0 0, .sl [] 0 .nl, tmA p0, ab true, ab false, tmA p0, .sl (flat intC l) l.length (.st 0 1), .val undef], ⟨[(0, .cells (tmL p0))], 1, [0], 1, []⟩, [], [.call 115 [] [tmA p0, ai 8, ai 8] (.sl (flat intC l) l.length (.st 0 1)) [] 1]) := by kernel_rfl
      have x4 : ∀ j : Nat → Value, (xops Tryz.prog prim (regOps (lft (rgt (rgt (bod Tryz.f71))))) ((regOps (lft (rgt (rgt (bod Tryz.f71))))).toList.drop 3) 3 (eset (tells [] (mutEnv [] j [tmA p0, .mp 0 0, .sl [] 0 .nl, tmA p0, ab true, ab false, tmA p0, .sl (flat intC l) l.length (.st 0 1), .val undef] 0)) (some 8) (.sl (flat intC (rise l)) (rise l).length .no)) (pickSt [] ⟨[(0, .cells (tmL p0))], 1, [0], 1, []⟩) []).map Prod.snd = some ([.val (j 0), .val (j 1), .sl (flat intC (rise l)) (rise l).length .no, .val (j 3), ab true, ab false, .val (j 6), .val (j 7), .sl (flat intC (rise l)) (rise l).length .no], ⟨[], 1, [], 0, []⟩, [], []) := fun j => by kernel_rfl
      have x5 : ∀ j : Nat → Value, kfin Tryz.prog prim 0 Tryz.f71 3000 (.run (rgt (rgt (rgt (bod Tryz.f71))))) [] [.val (j 0), .val (j 1), .sl (flat intC (rise l)) (rise l).length .no, .val (j 3), ab true, ab false, .val (j 6), .val (j 7), .sl (flat intC (rise l)) (rise l).length .no] ⟨[], 1, [], 0, []⟩ [] [] [] [] false = some (.sl (flat intC (rise l)) (rise l).length .no, [], [.data (flat intC (rise l))]) := fun j => by kernel_rfl
      refine CTri.body Tryz.func71 (by kernel_rfl) ?_
      refine Dv.seqP k0 ?_
      refine krun_ok (Q := _) prim_ok mixed 3000 (.run (lft (bod Tryz.f71))) [] _ _ _ _ _ _ _ _ x1 ObsOk.nil ?_
      refine Dv.seqP k1 ?_
      refine krun_ok (Q := _) prim_ok mixed 3000 (.run (lft (rgt (bod Tryz.f71)))) [] _ _ _ _ _ _ _ _ x2 (ObsOk.cons (obBit rfl) (ObsOk.cons (obCall (c51 h2)) ObsOk.nil)) ?_
      refine Dv.seqP k2 ?_
      obtain ⟨id, k7⟩ := regP k3
      rw [k7]
      refine Dv.mut prim_ok (na := (0 : Nat)) rfl 2 [] [] _ x3 (ObsOk.cons (obCall (c115 h5)) ObsOk.nil) k4 Tryz.func114 k5 k6 (fun i X h => by cases h) ?_ x4 ObsOk.nil ?_
      · intro G0 W hB G w hE hR u hu
        refine (rise_call hR (by rfl) hsz hu).mono ?_
        rintro e w' ⟨v, b, S, z1, z2, z3, z4, z5, z6⟩
        exact ⟨v, b, S, z1, z2, z3, z4, z5, fun G' _ _ hS => ⟨z6 G' hS, fun q hq => by cases hq⟩⟩
      · intro j
        exact kfin_ok (na := (0 : Nat)) prim_ok mixed (x5 j) (ObsOk.cons (obData (dI _)) ObsOk.nil) (by decide)
    · replace h := ifF h6 h
      cases h
  · replace h := ifF h3 h
    replace h := Option.some.inj h
    subst h
    exact ⟨CTri.toFin prim_ok mixed Tryz.func71 (by kernel_rfl) 3000 [.no, .call [] [] 0 (ab r1) (some false), .no] [] [] [] false (by kernel_rfl) (ObsOk.cons (obBit h3) (ObsOk.cons (obCall (c51 h2)) (ObsOk.cons (obData (dI ([] : List Int))) ObsOk.nil))) (by decide), ⟨⟨trivial, trivial, ⟨trivial, dT _⟩, trivial⟩, trivial⟩, (fun _ h => nomatch h), dI _, (fun _ h => nomatch h)⟩

end Go.Proofs.YtlbmblbeccafcaaGreat

namespace Go.Proofs.YtlbmblbeccafcaaGreat
open Go Go.Ab

/- scholium/sign.closed -/
def e141 (qq : Nat) (p0 : Tm) (p1 : Int) : Option (Bool) :=
  (e41 qq p0 0 p1) >>= fun r1 =>
  if r1 = true then
    (e71 qq p0) >>= fun r4 =>
    some ((List.length r4 : Int) == 0)
  else
    none
theorem q141 : Tryz.prog.funcs[141]? = some Tryz.f141 ∧ Tryz.f141.body.isNone = false := ⟨Tryz.func141, by kernel_rfl⟩
theorem k141 {p0 : Tm} {p1 : Int} {r : Bool} (h : CTri Tryz.prog 141 [] [tmA p0, ai p1] (ab r) [] 0) : CT Tryz.prog 141 [] [tmA p0, ai p1] (ab r) [] 0 := ⟨h, ⟨⟨trivial, trivial, ⟨trivial, dT _⟩, trivial⟩, trivial, trivial⟩, forall_nil, trivial, forall_nil⟩
theorem c141 {qq : Nat} {p0 : Tm} {p1 : Int} {r : Bool} (h : e141 qq p0 p1 = some r) : CT Tryz.prog 141 [] [tmA p0, ai p1] (ab r) [] 0 := by
  unfold e141 at h
  obtain ⟨r1, h2, h⟩ := obind h
  obtain ⟨h3, h⟩ := splT h
  obtain ⟨r4, h5, h⟩ := obind h
  obtain rfl := sj h
  exact k141 (tF q141 2 [] (oC 1 [] (c71 h5) <| oK 1 [] h3 (c41 h2) o0) (by kernel_rfl))

end Go.Proofs.YtlbmblbeccafcaaGreat

namespace Go.Proofs.YtlbmblbeccafcaaGreat
open Go Go.Ab

/- scholium/tele.Split -/
def e97L42644 : Nat → Int → Int → (List Tm) → Int → Int → (List Tm) →  Option (List Tm × Tm × Int)
  | 0, _, _, _, _, _, _ => none
  | qq + 1, p1, v25, v7, vb1_0, vb1_1, vb1_2 =>
    if decide (v25 < p1) = true then
      if (vb1_0 != 3) = true then
        none
      else
        (gidx vb1_2 0) >>= fun x10 =>
        (gapp 40 v7 [x10]) >>= fun l12 =>
        (gidx vb1_2 1) >>= fun x14 =>
        e97L42644 qq p1 (w64 (v25 + 1)) l12 x14.k x14.n x14.sub
    else
      some (v7, (Tm.mk vb1_0 vb1_1 vb1_2), 0)
def e97 (qq : Nat) (p0 : Tm) (p1 : Int) : Option (List Tm × Tm × Int) :=
  (e51 qq p0) >>= fun r1 =>
  if r1 = true then
    if decide (p1 < 0) = true then
      none
    else
      if decide (p1 > 24) = true then
        none
      else
        (e50 qq p0) >>= fun r6 =>
        e97L42644 qq p1 0 [] r6.k r6.n r6.sub
  else
    none
def g97L42644E0 (j : Nat → Value) (p1 : Int) (v25 : Int) (v7 : List Tm) (vb1_0 : Int) (vb1_1 : Int) (vb1_2 : List Tm) : List AV := sp j 45 0 [(5, .mp 0 0), (7, .sl (flat tmCells v7) (List.length v7) (.st 0 3)), (8, .mp 1 0), (24, ai p1), (25, ai v25)]
def g97L42644S0 (p1 : Int) (v25 : Int) (v7 : List Tm) (vb1_0 : Int) (vb1_1 : Int) (vb1_2 : List Tm) : LSt := ⟨[(0, .cells [ai 0, ai 0, .sl (flat tmCells ([] : List Tm)) (List.length ([] : List Tm)) .nl]), (1, .cells [ai vb1_0, ai vb1_1, .sl (flat tmCells vb1_2) (List.length vb1_2) .no])], 2, [0], 1, []⟩
theorem q97 : Tryz.prog.funcs[97]? = some Tryz.f97 ∧ Tryz.f97.body.isNone = false := ⟨Tryz.func97, by kernel_rfl⟩
theorem k97 {p0 : Tm} {p1 : Int} {r : List Tm × Tm × Int} (h : CTri Tryz.prog 97 [] [tmA p0, ai p1] (.tup [.sl (flat tmCells r.1) (List.length r.1) .no, tmA r.2.1, ai r.2.2]) [] 0) : CT Tryz.prog 97 [] [tmA p0, ai p1] (.tup [.sl (flat tmCells r.1) (List.length r.1) .no, tmA r.2.1, ai r.2.2]) [] 0 := ⟨h, ⟨⟨trivial, trivial, ⟨trivial, dT _⟩, trivial⟩, trivial, trivial⟩, forall_nil, ⟨dT _, ⟨trivial, trivial, dT _, trivial⟩, trivial, trivial⟩, forall_nil⟩
theorem l97L42644 : ∀ qq : Nat, (∀ (p1 : Int) (v25 : Int) (v7 : List Tm) (vb1_0 : Int) (vb1_1 : Int) (vb1_2 : List Tm) (r : List Tm × Tm × Int), e97L42644 qq p1 v25 v7 vb1_0 vb1_1 vb1_2 = some r → (∀ j, Dl Tryz.prog 0 (inn (inn (rgt (lft (rgt (rgt (rgt (rgt (bod Tryz.f97))))))))) (g97L42644E0 j p1 v25 v7 vb1_0 vb1_1 vb1_2) (g97L42644S0 p1 v25 v7 vb1_0 vb1_1 vb1_2) (frameQ Tryz.prog 0 (FinQ Tryz.prog 0 Tryz.f97 (.tup [.sl (flat tmCells r.1) (List.length r.1) .no, tmA r.2.1, ai r.2.2]) [] 0) [.blk 1, .seq (rgt (rgt (rgt (rgt (rgt (bod Tryz.f97))))))]))) := by
  intro qq
  induction qq with
  | zero =>
    exact fun _ _ _ _ _ _ _ h => nn h
  | succ qq ih =>
    intro p1 v25 v7 vb1_0 vb1_1 vb1_2 r h
    rw [e97L42644] at h
    rcases spl h with ⟨h8, h⟩ | ⟨h8, h⟩
    · have k := oB 0 h8 o0
      obtain ⟨h9, h⟩ := splF h
      obtain ⟨x10, h11, h⟩ := obind h
      obtain ⟨l12, h13, h⟩ := obind h
      obtain ⟨x14, h15, h⟩ := obind h
      exact fun j => lH 3 [] [0, 1] [1] [5, 7, 8, 24, 25] (oD (dT l12) <| oD (dT x14.sub) <| oD (dT ([] : List Tm)) <| oA 1 (ix22 (o := .no) h15) <| oP 0 (apS22 h13 (by simp)) <| oS 1 (obLitR tm_eq [x10]) <| oA 1 (ix22 (o := .no) h11) <| oB 1 h9 k) (ih _ _ _ _ _ _ _ h) (fun j => by kernel_rfl)
    · obtain rfl := sj h
      exact fun j => lF 2 [] (oD (dT vb1_2) <| oD (dT v7) <| oB 0 h8 o0) (by kernel_rfl)
theorem c97 {qq : Nat} {p0 : Tm} {p1 : Int} {r : List Tm × Tm × Int} (h : e97 qq p0 p1 = some r) : CT Tryz.prog 97 [] [tmA p0, ai p1] (.tup [.sl (flat tmCells r.1) (List.length r.1) .no, tmA r.2.1, ai r.2.2]) [] 0 := by
  unfold e97 at h
  obtain ⟨r1, h2, h⟩ := obind h
  obtain ⟨h3, h⟩ := splT h
  have k := oK 1 [] h3 (c51 h2) o0
  obtain ⟨h4, h⟩ := splF h
  have k := oB 1 h4 k
  obtain ⟨h5, h⟩ := splF h
  obtain ⟨r6, h7, h⟩ := obind h
  exact k97 (tH q97 1 [(none, 7, 3)] [1, 2] [0] [5, 7, 8, 24, 25] (oD (dT ([] : List Tm)) <| oD (dT r6.sub) <| oD (dT ([] : List Tm)) <| oC 1 [] (c50 h7) <| oB 0 h5 k) (l97L42644 _ _ _ _ _ _ _ _ h) (fun j => by kernel_rfl))

end Go.Proofs.YtlbmblbeccafcaaGreat

namespace Go.Proofs.YtlbmblbeccafcaaGreat
open Go Go.Ab

/- scholium/tele.Whole -/
def e103L57463 : Nat → Tm → Int → Int → Int → (List Tm) →  Option (List Tm × Tm × Int)
  | 0, _, _, _, _, _ => none
  | qq + 1, p0, v5, vb2_0, vb2_1, vb2_2 =>
    if (vb2_0 == 3) = true then
      if ((List.length vb2_2 : Int) == 2) = true then
        if decide (v5 ≤ 24) = true then
          (gidx vb2_2 1) >>= fun x4 =>
          e103L57463 qq p0 (w64 (v5 + 1)) x4.k x4.n x4.sub
        else
          none
      else
        none
    else
      (e97 qq p0 v5) >>= fun r10 =>
      some (r10.1, r10.2.1, r10.2.2)
def e103 (qq : Nat) (p0 : Tm) : Option (List Tm × Tm × Int) :=
  e103L57463 qq p0 0 p0.k p0.n p0.sub
def g103L57463E0 (j : Nat → Value) (p0 : Tm) (v5 : Int) (vb2_0 : Int) (vb2_1 : Int) (vb2_2 : List Tm) : List AV := sp j 34 0 [(1, .mp 0 0), (3, .mp 1 0), (5, ai v5), (6, .mp 2 0)]
def g103L57463S0 (p0 : Tm) (v5 : Int) (vb2_0 : Int) (vb2_1 : Int) (vb2_2 : List Tm) : LSt := ⟨[(0, .cells [ai p0.k, ai p0.n, .sl (flat tmCells p0.sub) (List.length p0.sub) .no]), (1, .cells [ai 0, ai 0, .sl (flat tmCells ([] : List Tm)) (List.length ([] : List Tm)) .nl]), (2, .cells [ai vb2_0, ai vb2_1, .sl (flat tmCells vb2_2) (List.length vb2_2) .no])], 3, [], 0, []⟩
theorem q103 : Tryz.prog.funcs[103]? = some Tryz.f103 ∧ Tryz.f103.body.isNone = false := ⟨Tryz.func103, by kernel_rfl⟩
theorem k103 {p0 : Tm} {r : List Tm × Tm × Int} (h : CTri Tryz.prog 103 [] [tmA p0] (.tup [.sl (flat tmCells r.1) (List.length r.1) .no, tmA r.2.1, ai r.2.2]) [] 0) : CT Tryz.prog 103 [] [tmA p0] (.tup [.sl (flat tmCells r.1) (List.length r.1) .no, tmA r.2.1, ai r.2.2]) [] 0 := ⟨h, ⟨⟨trivial, trivial, ⟨trivial, dT _⟩, trivial⟩, trivial⟩, forall_nil, ⟨dT _, ⟨trivial, trivial, dT _, trivial⟩, trivial, trivial⟩, forall_nil⟩
theorem l103L57463 : ∀ qq : Nat, (∀ (p0 : Tm) (v5 : Int) (vb2_0 : Int) (vb2_1 : Int) (vb2_2 : List Tm) (r : List Tm × Tm × Int), e103L57463 qq p0 v5 vb2_0 vb2_1 vb2_2 = some r → (∀ j, Dl Tryz.prog 0 (inn (inn (rgt (lft (rgt (rgt (bod Tryz.f103))))))) (g103L57463E0 j p0 v5 vb2_0 vb2_1 vb2_2) (g103L57463S0 p0 v5 vb2_0 vb2_1 vb2_2) (frameQ Tryz.prog 0 (FinQ Tryz.prog 0 Tryz.f103 (.tup [.sl (flat tmCells r.1) (List.length r.1) .no, tmA r.2.1, ai r.2.2]) [] 0) [.blk 0, .seq (rgt (rgt (rgt (bod Tryz.f103))))]))) := by
  intro qq
  induction qq with
  | zero =>
    exact fun _ _ _ _ _ _ h => nn h
  | succ qq ih =>
    intro p0 v5 vb2_0 vb2_1 vb2_2 r h
    rw [e103L57463] at h
    rcases spl h with ⟨h1, h⟩ | ⟨h1, h⟩
    · have k := oB 1 h1 o0
      obtain ⟨h2, h⟩ := splT h
      have k := oB 2 h2 k
      obtain ⟨h3, h⟩ := splT h
      obtain ⟨x4, h5, h⟩ := obind h
      exact fun j => lH 2 [] [0, 1, 3] [] [1, 3, 5, 6] (oD (dT x4.sub) <| oD (dT ([] : List Tm)) <| oD (dT p0.sub) <| oA 4 (ix22 (o := .no) h5) <| oB 0 h3 k) (ih _ _ _ _ _ _ h) (fun j => by kernel_rfl)
    · obtain ⟨r10, h11, h⟩ := obind h
      obtain rfl := sj h
      exact fun j => lF 4 [] (oD (dT r10.2.1.sub) <| oD (dT r10.1) <| oC 1 [] (c97 h11) <| oB 1 h1 o0) (by kernel_rfl)
theorem c103 {qq : Nat} {p0 : Tm} {r : List Tm × Tm × Int} (h : e103 qq p0 = some r) : CT Tryz.prog 103 [] [tmA p0] (.tup [.sl (flat tmCells r.1) (List.length r.1) .no, tmA r.2.1, ai r.2.2]) [] 0 := by
  unfold e103 at h
  exact k103 (tH q103 2 [] [0, 1, 2] [] [1, 3, 5, 6] (oD (dT p0.sub) <| oD (dT ([] : List Tm)) <| oD (dT p0.sub) o0) (l103L57463 _ _ _ _ _ _ _ h) (fun j => by kernel_rfl))

end Go.Proofs.YtlbmblbeccafcaaGreat

namespace Go.Proofs.YtlbmblbeccafcaaGreat
open Go Go.Ab

/- scholium/sign.none -/
def e195 (qq : Nat) (p0 : Tm) : Option (Bool) :=
  if (p0.k == 0) = true then
    if (p0.n == 0) = true then
      some ((List.length p0.sub : Int) == 0)
    else
      none
  else
    none
theorem q195 : Tryz.prog.funcs[195]? = some Tryz.f195 ∧ Tryz.f195.body.isNone = false := ⟨Tryz.func195, by kernel_rfl⟩
theorem k195 {p0 : Tm} {r : Bool} (h : CTri Tryz.prog 195 [] [tmA p0] (ab r) [] 0) : CT Tryz.prog 195 [] [tmA p0] (ab r) [] 0 := ⟨h, ⟨⟨trivial, trivial, ⟨trivial, dT _⟩, trivial⟩, trivial⟩, forall_nil, trivial, forall_nil⟩
theorem c195 {qq : Nat} {p0 : Tm} {r : Bool} (h : e195 qq p0 = some r) : CT Tryz.prog 195 [] [tmA p0] (ab r) [] 0 := by
  unfold e195 at h
  obtain ⟨h1, h⟩ := splT h
  have k := oB 1 h1 o0
  obtain ⟨h2, h⟩ := splT h
  obtain rfl := sj h
  exact k195 (tF q195 3 [] (oB 1 h2 k) (by kernel_rfl))

end Go.Proofs.YtlbmblbeccafcaaGreat

namespace Go.Proofs.YtlbmblbeccafcaaGreat
open Go Go.Ab

/- scholium/sign.run -/
def e196L36214 : Nat → (List Int) → Int → Int →  Option (Bool)
  | 0, _, _, _ => none
  | qq + 1, p0, p1, v9 =>
    if decide (v9 < (List.length p0 : Int)) = true then
      (gidx p0 v9) >>= fun x2 =>
      if (x2 != (w64 (p1 + v9))) = true then
        none
      else
        e196L36214 qq p0 p1 (w64 (v9 + 1))
    else
      some true
def e196 (qq : Nat) (p0 : List Int) (p1 : Int) : Option (Bool) :=
  e196L36214 qq p0 p1 0
def g196L36214E0 (j : Nat → Value) (p0 : List Int) (p1 : Int) (v9 : Int) : List AV := sp j 20 0 [(1, ai p1), (7, .sl (flat intC p0) (List.length p0) .no), (8, ai (List.length p0 : Int)), (9, ai v9)]
def g196L36214S0 (p0 : List Int) (p1 : Int) (v9 : Int) : LSt := ⟨[], 0, [], 0, []⟩
theorem q196 : Tryz.prog.funcs[196]? = some Tryz.f196 ∧ Tryz.f196.body.isNone = false := ⟨Tryz.func196, by kernel_rfl⟩
theorem k196 {p0 : List Int} {p1 : Int} {r : Bool} (h : CTri Tryz.prog 196 [] [.sl (flat intC p0) (List.length p0) .no, ai p1] (ab r) [] 0) : CT Tryz.prog 196 [] [.sl (flat intC p0) (List.length p0) .no, ai p1] (ab r) [] 0 := ⟨h, ⟨⟨trivial, dI _⟩, trivial, trivial⟩, forall_nil, trivial, forall_nil⟩
theorem l196L36214 : ∀ qq : Nat, (∀ (p0 : List Int) (p1 : Int) (v9 : Int) (r : Bool), e196L36214 qq p0 p1 v9 = some r → (∀ j, Dl Tryz.prog 0 (inn (inn (rgt (lft (rgt (bod Tryz.f196)))))) (g196L36214E0 j p0 p1 v9) (g196L36214S0 p0 p1 v9) (frameQ Tryz.prog 0 (FinQ Tryz.prog 0 Tryz.f196 (ab r) [] 0) [.blk 0, .seq (rgt (rgt (bod Tryz.f196)))]))) := by
  intro qq
  induction qq with
  | zero =>
    exact fun _ _ _ _ h => nn h
  | succ qq ih =>
    intro p0 p1 v9 r h
    rw [e196L36214] at h
    rcases spl h with ⟨h1, h⟩ | ⟨h1, h⟩
    · obtain ⟨x2, h3, h⟩ := obind h
      have k := oA 0 (ix37 (o := .no) h3) <| oB 0 h1 o0
      obtain ⟨h4, h⟩ := splF h
      exact fun j => lH 1 [] [] [] [1, 7, 8, 9] (oD (dI p0) <| oB 2 h4 k) (ih _ _ _ _ h) (fun j => by kernel_rfl)
    · obtain rfl := sj h
      exact fun j => lF 0 [] (oB 0 h1 o0) (by kernel_rfl)
theorem c196 {qq : Nat} {p0 : List Int} {p1 : Int} {r : Bool} (h : e196 qq p0 p1 = some r) : CT Tryz.prog 196 [] [.sl (flat intC p0) (List.length p0) .no, ai p1] (ab r) [] 0 := by
  unfold e196 at h
  exact k196 (tH q196 1 [] [] [] [1, 7, 8, 9] (oD (dI p0) o0) (l196L36214 _ _ _ _ _ h) (fun j => by kernel_rfl))

end Go.Proofs.YtlbmblbeccafcaaGreat

namespace Go.Proofs.YtlbmblbeccafcaaGreat
open Go Go.Ab

/- scholium/sign.is -/
def e96 (qq : Nat) (p0 : List Ent) (p1 : Int) (p2 : Int) : Option (Bool) :=
  if decide (p1 ≥ 0) = true then
    if decide (p1 < (List.length p0 : Int)) = true then
      (gidx p0 p1) >>= fun x3 =>
      some (x3.kind == p2)
    else
      none
  else
    none
theorem q96 : Tryz.prog.funcs[96]? = some Tryz.f96 ∧ Tryz.f96.body.isNone = false := ⟨Tryz.func96, by kernel_rfl⟩
theorem k96 {p0 : List Ent} {p1 : Int} {p2 : Int} {r : Bool} (h : CTri Tryz.prog 96 [] [.sl (flat entL p0) (List.length p0) .no, ai p1, ai p2] (ab r) [] 0) : CT Tryz.prog 96 [] [.sl (flat entL p0) (List.length p0) .no, ai p1, ai p2] (ab r) [] 0 := ⟨h, ⟨⟨trivial, dE _⟩, trivial, trivial, trivial⟩, forall_nil, trivial, forall_nil⟩
theorem c96 {qq : Nat} {p0 : List Ent} {p1 : Int} {p2 : Int} {r : Bool} (h : e96 qq p0 p1 p2 = some r) : CT Tryz.prog 96 [] [.sl (flat entL p0) (List.length p0) .no, ai p1, ai p2] (ab r) [] 0 := by
  unfold e96 at h
  obtain ⟨h1, h⟩ := splT h
  have k := oB 0 h1 o0
  obtain ⟨h2, h⟩ := splT h
  obtain ⟨x3, h4, h⟩ := obind h
  obtain rfl := sj h
  exact k96 (tF q96 2 [] (oA 0 (ix25 (o := .no) h4) <| oB 1 h2 k) (by kernel_rfl))

end Go.Proofs.YtlbmblbeccafcaaGreat

namespace Go.Proofs.YtlbmblbeccafcaaGreat
open Go Go.Ab

/- scholium/sign.members -/
def e197L13812 : Nat → (List Ent) → Int → (List Int) → Int → Int →  Option (Bool)
  | 0, _, _, _, _, _ => none
  | qq + 1, p0, p1, p2, p3, v13 =>
    if decide (v13 < (List.length p2 : Int)) = true then
      (gidx p2 v13) >>= fun x2 =>
      (e96 qq p0 x2 p3) >>= fun r4 =>
      if r4 = true then
        (gidx p0 x2) >>= fun x7 =>
        if (x7.fam != p1) = true then
          none
        else
          if (x7.place != v13) = true then
            none
          else
            e197L13812 qq p0 p1 p2 p3 (w64 (v13 + 1))
      else
        none
    else
      some true
def e197 (qq : Nat) (p0 : List Ent) (p1 : Int) (p2 : List Int) (p3 : Int) : Option (Bool) :=
  e197L13812 qq p0 p1 p2 p3 0
def g197L13812E0 (j : Nat → Value) (p0 : List Ent) (p1 : Int) (p2 : List Int) (p3 : Int) (v13 : Int) : List AV := sp j 42 0 [(0, .sl (flat entL p0) (List.length p0) .no), (1, ai p1), (3, ai p3), (11, .sl (flat intC p2) (List.length p2) .no), (12, ai (List.length p2 : Int)), (13, ai v13)]
def g197L13812S0 (p0 : List Ent) (p1 : Int) (p2 : List Int) (p3 : Int) (v13 : Int) : LSt := ⟨[], 0, [], 0, []⟩
theorem q197 : Tryz.prog.funcs[197]? = some Tryz.f197 ∧ Tryz.f197.body.isNone = false := ⟨Tryz.func197, by kernel_rfl⟩
theorem k197 {p0 : List Ent} {p1 : Int} {p2 : List Int} {p3 : Int} {r : Bool} (h : CTri Tryz.prog 197 [] [.sl (flat entL p0) (List.length p0) .no, ai p1, .sl (flat intC p2) (List.length p2) .no, ai p3] (ab r) [] 0) : CT Tryz.prog 197 [] [.sl (flat entL p0) (List.length p0) .no, ai p1, .sl (flat intC p2) (List.length p2) .no, ai p3] (ab r) [] 0 := ⟨h, ⟨⟨trivial, dE _⟩, trivial, ⟨trivial, dI _⟩, trivial, trivial⟩, forall_nil, trivial, forall_nil⟩
theorem l197L13812 : ∀ qq : Nat, (∀ (p0 : List Ent) (p1 : Int) (p2 : List Int) (p3 : Int) (v13 : Int) (r : Bool), e197L13812 qq p0 p1 p2 p3 v13 = some r → (∀ j, Dl Tryz.prog 0 (inn (inn (rgt (lft (rgt (bod Tryz.f197)))))) (g197L13812E0 j p0 p1 p2 p3 v13) (g197L13812S0 p0 p1 p2 p3 v13) (frameQ Tryz.prog 0 (FinQ Tryz.prog 0 Tryz.f197 (ab r) [] 0) [.blk 0, .seq (rgt (rgt (bod Tryz.f197)))]))) := by
  intro qq
  induction qq with
  | zero =>
    exact fun _ _ _ _ _ _ h => nn h
  | succ qq ih =>
    intro p0 p1 p2 p3 v13 r h
    rw [e197L13812] at h
    rcases spl h with ⟨h1, h⟩ | ⟨h1, h⟩
    · obtain ⟨x2, h3, h⟩ := obind h
      obtain ⟨r4, h5, h⟩ := obind h
      have k := oA 0 (ix37 (o := .no) h3) <| oB 0 h1 o0
      obtain ⟨h6, h⟩ := splT h
      obtain ⟨x7, h8, h⟩ := obind h
      have k := oA 1 (ix25 (o := .no) h8) <| oK 1 [] h6 (c96 h5) k
      obtain ⟨h9, h⟩ := splF h
      have k := oA 0 (ix25 (o := .no) h8) <| oB 1 h9 k
      obtain ⟨h10, h⟩ := splF h
      exact fun j => lH 1 [] [] [] [0, 1, 3, 11, 12, 13] (oD (dI p2) <| oD (dE p0) <| oB 1 h10 k) (ih _ _ _ _ _ _ h) (fun j => by kernel_rfl)
    · obtain rfl := sj h
      exact fun j => lF 0 [] (oB 0 h1 o0) (by kernel_rfl)
theorem c197 {qq : Nat} {p0 : List Ent} {p1 : Int} {p2 : List Int} {p3 : Int} {r : Bool} (h : e197 qq p0 p1 p2 p3 = some r) : CT Tryz.prog 197 [] [.sl (flat entL p0) (List.length p0) .no, ai p1, .sl (flat intC p2) (List.length p2) .no, ai p3] (ab r) [] 0 := by
  unfold e197 at h
  exact k197 (tH q197 1 [] [] [] [0, 1, 3, 11, 12, 13] (oD (dI p2) <| oD (dE p0) o0) (l197L13812 _ _ _ _ _ _ _ h) (fun j => by kernel_rfl))

end Go.Proofs.YtlbmblbeccafcaaGreat

namespace Go.Proofs.YtlbmblbeccafcaaGreat
open Go Go.Ab

/- scholium/sign.family -/
def e142 (qq : Nat) (p0 : List Ent) (p1 : Int) : Option (Bool) :=
  (gidx p0 p1) >>= fun x1 =>
  if decide (x1.pars < 0) = true then
    none
  else
    if decide (x1.inds < 0) = true then
      none
    else
      if decide (x1.pars > 24) = true then
        none
      else
        if decide (x1.inds > (w64 (24 - x1.pars))) = true then
          none
        else
          if (x1.fam != 0) = true then
            none
          else
            if (x1.place != 0) = true then
              none
            else
              (e195 qq x1.body) >>= fun r9 =>
              if r9 = true then
                (e97 qq x1.type (w64 (x1.pars + x1.inds))) >>= fun r12 =>
                if (r12.2.2 != 0) = true then
                  none
                else
                  if (r12.2.1.k != 2) = true then
                    none
                  else
                    if (r12.2.1.n != x1.level) = true then
                      none
                    else
                      if decide ((List.length x1.cons : Int) > 16) = true then
                        none
                      else
                        (e196 qq x1.cons (w64 (p1 + 1))) >>= fun r18 =>
                        if r18 = true then
                          (e197 qq p0 p1 x1.cons 2) >>= fun r21 =>
                          if r21 = true then
                            if ((List.length x1.fields : Int) == 0) = true then
                              some true
                            else
                              if (x1.inds != 0) = true then
                                none
                              else
                                if ((List.length x1.cons : Int) != 1) = true then
                                  none
                                else
                                  (e196 qq x1.fields (w64 (p1 + 2))) >>= fun r27 =>
                                  if r27 = true then
                                    (e197 qq p0 p1 x1.fields 4) >>= fun r30 =>
                                    if r30 = true then
                                      (gidx p0 (w64 (p1 + 1))) >>= fun x33 =>
                                      (e103 qq x33.type) >>= fun r35 =>
                                      if (r35.2.2 == 0) = true then
                                        some ((List.length r35.1 : Int) == (w64 (x1.pars + (List.length x1.fields : Int))))
                                      else
                                        none
                                    else
                                      none
                                  else
                                    none
                          else
                            none
                        else
                          none
              else
                none
theorem q142 : Tryz.prog.funcs[142]? = some Tryz.f142 ∧ Tryz.f142.body.isNone = false := ⟨Tryz.func142, by kernel_rfl⟩
theorem k142 {p0 : List Ent} {p1 : Int} {r : Bool} (h : CTri Tryz.prog 142 [] [.sl (flat entL p0) (List.length p0) .no, ai p1] (ab r) [] 0) : CT Tryz.prog 142 [] [.sl (flat entL p0) (List.length p0) .no, ai p1] (ab r) [] 0 := ⟨h, ⟨⟨trivial, dE _⟩, trivial, trivial⟩, forall_nil, trivial, forall_nil⟩
theorem c142 {qq : Nat} {p0 : List Ent} {p1 : Int} {r : Bool} (h : e142 qq p0 p1 = some r) : CT Tryz.prog 142 [] [.sl (flat entL p0) (List.length p0) .no, ai p1] (ab r) [] 0 := by
  unfold e142 at h
  obtain ⟨x1, h2, h⟩ := obind h
  have k := oA 0 (ix25 (o := .no) h2) o0
  obtain ⟨h3, h⟩ := splF h
  have k := oB 3 h3 k
  obtain ⟨h4, h⟩ := splF h
  have k := oB 1 h4 k
  obtain ⟨h5, h⟩ := splF h
  have k := oB 1 h5 k
  obtain ⟨h6, h⟩ := splF h
  have k := oB 3 h6 k
  obtain ⟨h7, h⟩ := splF h
  have k := oB 1 h7 k
  obtain ⟨h8, h⟩ := splF h
  obtain ⟨r9, h10, h⟩ := obind h
  have k := oB 1 h8 k
  obtain ⟨h11, h⟩ := splT h
  obtain ⟨r12, h13, h⟩ := obind h
  have k := oC 5 [] (c97 h13) <| oK 1 [] h11 (c195 h10) k
  obtain ⟨h14, h⟩ := splF h
  have k := oB 4 h14 k
  obtain ⟨h15, h⟩ := splF h
  have k := oB 1 h15 k
  obtain ⟨h16, h⟩ := splF h
  have k := oB 2 h16 k
  obtain ⟨h17, h⟩ := splF h
  obtain ⟨r18, h19, h⟩ := obind h
  have k := oB 2 h17 k
  obtain ⟨h20, h⟩ := splT h
  obtain ⟨r21, h22, h⟩ := obind h
  have k := oK 2 [] h20 (c196 h19) k
  obtain ⟨h23, h⟩ := splT h
  have k := oK 2 [] h23 (c197 h22) k
  rcases spl h with ⟨h24, h⟩ | ⟨h24, h⟩
  · obtain rfl := sj h
    exact k142 (tF q142 0 [] (oB 3 h24 k) (by kernel_rfl))
  · have k := oB 3 h24 k
    obtain ⟨h25, h⟩ := splF h
    have k := oB 1 h25 k
    obtain ⟨h26, h⟩ := splF h
    obtain ⟨r27, h28, h⟩ := obind h
    have k := oB 2 h26 k
    obtain ⟨h29, h⟩ := splT h
    obtain ⟨r30, h31, h⟩ := obind h
    have k := oK 2 [] h29 (c196 h28) k
    obtain ⟨h32, h⟩ := splT h
    obtain ⟨x33, h34, h⟩ := obind h
    obtain ⟨r35, h36, h⟩ := obind h
    have k := oC 1 [] (c103 h36) <| oA 2 (ix25 (o := .no) h34) <| oK 2 [] h32 (c197 h31) k
    obtain ⟨h37, h⟩ := splT h
    obtain rfl := sj h
    exact k142 (tF q142 6 [] (oB 4 h37 k) (by kernel_rfl))

end Go.Proofs.YtlbmblbeccafcaaGreat

namespace Go.Proofs.YtlbmblbeccafcaaGreat
open Go Go.Ab

/- scholium/sign.owned -/
def e198 (qq : Nat) (p0 : List Ent) (p1 : Int) : Option (Bool) :=
  (gidx p0 p1) >>= fun x1 =>
  (e96 qq p0 x1.fam 1) >>= fun r3 =>
  if r3 = true then
    if decide (x1.fam ≥ p1) = true then
      none
    else
      (gidx p0 x1.fam) >>= fun x7 =>
      if (x1.pars != x7.pars) = true then
        none
      else
        (e195 qq x1.body) >>= fun r10 =>
        if r10 = true then
          if (x1.inds != 0) = true then
            none
          else
            if (x1.level != 0) = true then
              none
            else
              if decide ((w64 ((List.length x1.cons : Int) + (List.length x1.fields : Int))) > 0) = true then
                none
              else
                if (x1.kind == 4) = true then
                  if decide (x1.place ≥ 0) = true then
                    if decide (x1.place < (List.length x7.fields : Int)) = true then
                      (gidx x7.fields x1.place) >>= fun x19 =>
                      some (x19 == p1)
                    else
                      none
                  else
                    none
                else
                  if decide (x1.place ≥ 0) = true then
                    if decide (x1.place < (List.length x7.cons : Int)) = true then
                      (gidx x7.cons x1.place) >>= fun x23 =>
                      some (x23 == p1)
                    else
                      none
                  else
                    none
        else
          none
  else
    none
theorem q198 : Tryz.prog.funcs[198]? = some Tryz.f198 ∧ Tryz.f198.body.isNone = false := ⟨Tryz.func198, by kernel_rfl⟩
theorem k198 {p0 : List Ent} {p1 : Int} {r : Bool} (h : CTri Tryz.prog 198 [] [.sl (flat entL p0) (List.length p0) .no, ai p1] (ab r) [] 0) : CT Tryz.prog 198 [] [.sl (flat entL p0) (List.length p0) .no, ai p1] (ab r) [] 0 := ⟨h, ⟨⟨trivial, dE _⟩, trivial, trivial⟩, forall_nil, trivial, forall_nil⟩
theorem c198 {qq : Nat} {p0 : List Ent} {p1 : Int} {r : Bool} (h : e198 qq p0 p1 = some r) : CT Tryz.prog 198 [] [.sl (flat entL p0) (List.length p0) .no, ai p1] (ab r) [] 0 := by
  unfold e198 at h
  obtain ⟨x1, h2, h⟩ := obind h
  obtain ⟨r3, h4, h⟩ := obind h
  have k := oA 0 (ix25 (o := .no) h2) o0
  obtain ⟨h5, h⟩ := splT h
  have k := oK 3 [] h5 (c96 h4) k
  obtain ⟨h6, h⟩ := splF h
  obtain ⟨x7, h8, h⟩ := obind h
  have k := oA 2 (ix25 (o := .no) h8) <| oB 2 h6 k
  obtain ⟨h9, h⟩ := splF h
  obtain ⟨r10, h11, h⟩ := obind h
  have k := oB 1 h9 k
  obtain ⟨h12, h⟩ := splT h
  have k := oK 1 [] h12 (c195 h11) k
  obtain ⟨h13, h⟩ := splF h
  have k := oB 2 h13 k
  obtain ⟨h14, h⟩ := splF h
  have k := oB 1 h14 k
  obtain ⟨h15, h⟩ := splF h
  have k := oA 1 (ix25 (o := .no) h8) <| oB 5 h15 k
  rcases spl h with ⟨h16, h⟩ | ⟨h16, h⟩
  · have k := oA 1 (ix25 (o := .no) h8) <| oB 2 h16 k
    obtain ⟨h17, h⟩ := splT h
    have k := oB 2 h17 k
    obtain ⟨h18, h⟩ := splT h
    obtain ⟨x19, h20, h⟩ := obind h
    obtain rfl := sj h
    exact k198 (tF q198 2 [] (oA 1 (ix37 (o := .no) h20) <| oB 2 h18 k) (by kernel_rfl))
  · have k := oB 2 h16 k
    obtain ⟨h21, h⟩ := splT h
    have k := oB 1 h21 k
    obtain ⟨h22, h⟩ := splT h
    obtain ⟨x23, h24, h⟩ := obind h
    obtain rfl := sj h
    exact k198 (tF q198 2 [] (oA 1 (ix37 (o := .no) h24) <| oB 2 h22 k) (by kernel_rfl))

end Go.Proofs.YtlbmblbeccafcaaGreat

namespace Go.Proofs.YtlbmblbeccafcaaGreat
open Go Go.Ab

/- THE WALK OF term.Spine: its loop, and slices.Reverse behind it. -/
theorem spA1 (j : Nat → Value) (ls : List L3) (x : Tm) (u : List AV) (vs : List Value) (o : Own) : krun Tryz.prog prim 3000 (.run (inn (inn (lft (rgt (rgt (rgt (bod Tryz.f106)))))))) [] [.val (j 0), .mp 0 0, .mp 1 0, .val (j 3), .sl (flat c3 ls) ls.length (.st 0 3), .mp 2 0, .val (j 6), .val (j 7), .val (j 8), .val (j 9), .val (j 10), .val (j 11), .val (j 12), .val (j 13), .val (j 14), .val (j 15), .val (j 16), .val (j 17), .val (j 18), .val (j 19), .val (j 20), .val (j 21), .val (j 22), .val (j 23), .val (j 24), .val (j 25), .val (j 26), .val (j 27), .val (j 28), .val (j 29), .val (j 30), .val (j 31), .val (j 32), .val (j 33), .val (j 34)] ⟨[(0, .cells u), (1, .cells [ai 0, ai 0, .sl [] 0 .nl]), (2, .cells [ai x.k, ai x.n, .sl (vs.map .val) x.sub.length o])], 3, [0], 1, []⟩ [.no, .bit false] = some (.fin (.exit 0), [.val (j 0), .mp 0 0, .mp 1 0, .val (j 3), .sl (flat c3 ls) ls.length (.st 0 3), .mp 2 0, .val (j 6), .mp 2 0, ai x.k, ab false, ab false, .val undef, .val undef, .val undef, .val undef, ab false, .val (j 16), .val (j 17), .val (j 18), .val (j 19), .val (j 20), .val (j 21), .val (j 22), .val (j 23), .val (j 24), .val (j 25), .val (j 26), .val (j 27), .val (j 28), .val (j 29), .val (j 30), .val (j 31), .val (j 32), .val (j 33), .val (j 34)], ⟨[(0, .cells u), (1, .cells [ai 0, ai 0, .sl [] 0 .nl]), (2, .cells [ai x.k, ai x.n, .sl (vs.map .val) x.sub.length o])], 3, [0], 1, []⟩, [], [.bit (x.k == 5) false]) := by kernel_rfl
theorem spA2 (j : Nat → Value) (ls : List L3) (x : Tm) (u : List AV) (vs : List Value) (o : Own) : (xops Tryz.prog prim (regOps (lft (rgt (rgt (rgt (rgt (bod Tryz.f106))))))) ((regOps (lft (rgt (rgt (rgt (rgt (bod Tryz.f106))))))).toList.take 1) 0 [.val (j 0), .mp 0 0, .mp 1 0, .val (j 3), .sl (flat c3 ls) ls.length (.st 0 3), .mp 2 0, .val (j 6), .mp 2 0, ai x.k, ab false, ab false, .val undef, .val undef, .val undef, .val undef, ab false, .val (j 16), .val (j 17), .val (j 18), .val (j 19), .val (j 20), .val (j 21), .val (j 22), .val (j 23), .val (j 24), .val (j 25), .val (j 26), .val (j 27), .val (j 28), .val (j 29), .val (j 30), .val (j 31), .val (j 32), .val (j 33), .val (j 34)] ⟨[(0, .cells u), (1, .cells [ai 0, ai 0, .sl [] 0 .nl]), (2, .cells [ai x.k, ai x.n, .sl (vs.map .val) x.sub.length o])], 3, [0], 1, []⟩ []).map Prod.snd = some ([.val (j 0), .mp 0 0, .mp 1 0, .val (j 3), .sl (flat c3 ls) ls.length (.st 0 3), .mp 2 0, .val (j 6), .mp 2 0, ai x.k, ab false, ab false, .val undef, .val undef, .val undef, .val undef, ab false, .val (j 16), .val (j 17), .val (j 18), .val (j 19), .val (j 20), .val (j 21), .val (j 22), .val (j 23), .val (j 24), .val (j 25), .val (j 26), .val (j 27), .val (j 28), .val (j 29), .val (j 30), .sl (flat c3 ls) ls.length (.st 0 3), .val (j 32), .val (j 33), .val (j 34)], ⟨[(0, .cells u), (1, .cells [ai 0, ai 0, .sl [] 0 .nl]), (2, .cells [ai x.k, ai x.n, .sl (vs.map .val) x.sub.length o])], 3, [0], 1, []⟩, [], []) := by kernel_rfl
theorem spA3 (j i : Nat → Value) (ls : List L3) (l : List Tm) (x : Tm) (u : List AV) (vs : List Value) (o : Own) : (xops Tryz.prog prim (regOps (lft (rgt (rgt (rgt (rgt (bod Tryz.f106))))))) ((regOps (lft (rgt (rgt (rgt (rgt (bod Tryz.f106))))))).toList.drop 2) 2 (eset (tells [(4, .sl (flat tmCells l.reverse) l.length .no)] (mutEnv [1, 2] i [.val (j 0), .mp 0 0, .mp 1 0, .val (j 3), .sl (flat c3 ls) ls.length (.st 0 3), .mp 2 0, .val (j 6), .mp 2 0, ai x.k, ab false, ab false, .val undef, .val undef, .val undef, .val undef, ab false, .val (j 16), .val (j 17), .val (j 18), .val (j 19), .val (j 20), .val (j 21), .val (j 22), .val (j 23), .val (j 24), .val (j 25), .val (j 26), .val (j 27), .val (j 28), .val (j 29), .val (j 30), .sl (flat c3 ls) ls.length (.st 0 3), .val (j 32), .val (j 33), .val (j 34)] 0)) (some 32) (.tup [])) (pickSt [1, 2] ⟨[(0, .cells u), (1, .cells [ai 0, ai 0, .sl [] 0 .nl]), (2, .cells [ai x.k, ai x.n, .sl (vs.map .val) x.sub.length o])], 3, [0], 1, []⟩) []).map Prod.snd = some ([.val (j 0), .val (i 1), .mp 1 0, .val (j 3), .sl (flat tmCells l.reverse) l.length .no, .mp 2 0, .val (j 6), .mp 2 0, ai x.k, ab false, ab false, .val undef, .val undef, .val undef, .val undef, ab false, .val (j 16), .val (j 17), .val (j 18), .val (j 19), .val (j 20), .val (j 21), .val (j 22), .val (j 23), .val (j 24), .val (j 25), .val (j 26), .val (j 27), .val (j 28), .val (j 29), .val (j 30), .val (i 31), .tup [], .val (j 33), .val (j 34)], ⟨[(1, .cells [ai 0, ai 0, .sl [] 0 .nl]), (2, .cells [ai x.k, ai x.n, .sl (vs.map .val) x.sub.length o])], 3, [], 0, []⟩, [], []) := by kernel_rfl
theorem spA4 (j i : Nat → Value) (l : List Tm) (x : Tm) (vs : List Value) (o : Own) : kfin Tryz.prog prim 0 Tryz.f106 3000 (.run (rgt (rgt (rgt (rgt (rgt (bod Tryz.f106))))))) [] [.val (j 0), .val (i 1), .mp 1 0, .val (j 3), .sl (flat tmCells l.reverse) l.length .no, .mp 2 0, .val (j 6), .mp 2 0, ai x.k, ab false, ab false, .val undef, .val undef, .val undef, .val undef, ab false, .val (j 16), .val (j 17), .val (j 18), .val (j 19), .val (j 20), .val (j 21), .val (j 22), .val (j 23), .val (j 24), .val (j 25), .val (j 26), .val (j 27), .val (j 28), .val (j 29), .val (j 30), .val (i 31), .tup [], .val (j 33), .val (j 34)] ⟨[(1, .cells [ai 0, ai 0, .sl [] 0 .nl]), (2, .cells [ai x.k, ai x.n, .sl (vs.map .val) x.sub.length o])], 3, [], 0, []⟩ [.no, .no] [] [] [] false = some (.tup [.agg [ai x.k, ai x.n, .sl (vs.map .val) x.sub.length .no], .sl (flat tmCells l.reverse) l.length .no], [], [.data (vs.map .val), .data (flat tmCells l.reverse)]) := by kernel_rfl
theorem spB1 (j : Nat → Value) (ls : List L3) (x : Tm) (u : List AV) (vs : List Value) (o : Own) : krun Tryz.prog prim 3000 (.run (inn (inn (lft (rgt (rgt (rgt (bod Tryz.f106)))))))) [] [.val (j 0), .mp 0 0, .mp 1 0, .val (j 3), .sl (flat c3 ls) ls.length (.st 0 3), .mp 2 0, .val (j 6), .val (j 7), .val (j 8), .val (j 9), .val (j 10), .val (j 11), .val (j 12), .val (j 13), .val (j 14), .val (j 15), .val (j 16), .val (j 17), .val (j 18), .val (j 19), .val (j 20), .val (j 21), .val (j 22), .val (j 23), .val (j 24), .val (j 25), .val (j 26), .val (j 27), .val (j 28), .val (j 29), .val (j 30), .val (j 31), .val (j 32), .val (j 33), .val (j 34)] ⟨[(0, .cells u), (1, .cells [ai 0, ai 0, .sl [] 0 .nl]), (2, .cells [ai x.k, ai x.n, .sl (vs.map .val) x.sub.length o])], 3, [0], 1, []⟩ [.no, .bit true, .no, .no, .bit false] = some (.fin (.exit 0), [.val (j 0), .mp 0 0, .mp 1 0, .val (j 3), .sl (flat c3 ls) ls.length (.st 0 3), .mp 2 0, .val (j 6), .mp 2 0, ai x.k, ab true, ab true, .mp 2 2, .sl (vs.map .val) x.sub.length o, ai (x.sub.length : Int), ab false, ab false, .val (j 16), .val (j 17), .val (j 18), .val (j 19), .val (j 20), .val (j 21), .val (j 22), .val (j 23), .val (j 24), .val (j 25), .val (j 26), .val (j 27), .val (j 28), .val (j 29), .val (j 30), .val (j 31), .val (j 32), .val (j 33), .val (j 34)], ⟨[(0, .cells u), (1, .cells [ai 0, ai 0, .sl [] 0 .nl]), (2, .cells [ai x.k, ai x.n, .sl (vs.map .val) x.sub.length o])], 3, [0], 1, []⟩, [], [.bit (x.k == 5) true, .bit ((x.sub.length : Int) == 2) false]) := by kernel_rfl
theorem spB2 (j : Nat → Value) (ls : List L3) (x : Tm) (u : List AV) (vs : List Value) (o : Own) : (xops Tryz.prog prim (regOps (lft (rgt (rgt (rgt (rgt (bod Tryz.f106))))))) ((regOps (lft (rgt (rgt (rgt (rgt (bod Tryz.f106))))))).toList.take 1) 0 [.val (j 0), .mp 0 0, .mp 1 0, .val (j 3), .sl (flat c3 ls) ls.length (.st 0 3), .mp 2 0, .val (j 6), .mp 2 0, ai x.k, ab true, ab true, .mp 2 2, .sl (vs.map .val) x.sub.length o, ai (x.sub.length : Int), ab false, ab false, .val (j 16), .val (j 17), .val (j 18), .val (j 19), .val (j 20), .val (j 21), .val (j 22), .val (j 23), .val (j 24), .val (j 25), .val (j 26), .val (j 27), .val (j 28), .val (j 29), .val (j 30), .val (j 31), .val (j 32), .val (j 33), .val (j 34)] ⟨[(0, .cells u), (1, .cells [ai 0, ai 0, .sl [] 0 .nl]), (2, .cells [ai x.k, ai x.n, .sl (vs.map .val) x.sub.length o])], 3, [0], 1, []⟩ []).map Prod.snd = some ([.val (j 0), .mp 0 0, .mp 1 0, .val (j 3), .sl (flat c3 ls) ls.length (.st 0 3), .mp 2 0, .val (j 6), .mp 2 0, ai x.k, ab true, ab true, .mp 2 2, .sl (vs.map .val) x.sub.length o, ai (x.sub.length : Int), ab false, ab false, .val (j 16), .val (j 17), .val (j 18), .val (j 19), .val (j 20), .val (j 21), .val (j 22), .val (j 23), .val (j 24), .val (j 25), .val (j 26), .val (j 27), .val (j 28), .val (j 29), .val (j 30), .sl (flat c3 ls) ls.length (.st 0 3), .val (j 32), .val (j 33), .val (j 34)], ⟨[(0, .cells u), (1, .cells [ai 0, ai 0, .sl [] 0 .nl]), (2, .cells [ai x.k, ai x.n, .sl (vs.map .val) x.sub.length o])], 3, [0], 1, []⟩, [], []) := by kernel_rfl
theorem spB3 (j i : Nat → Value) (ls : List L3) (l : List Tm) (x : Tm) (u : List AV) (vs : List Value) (o : Own) : (xops Tryz.prog prim (regOps (lft (rgt (rgt (rgt (rgt (bod Tryz.f106))))))) ((regOps (lft (rgt (rgt (rgt (rgt (bod Tryz.f106))))))).toList.drop 2) 2 (eset (tells [(4, .sl (flat tmCells l.reverse) l.length .no)] (mutEnv [1, 2] i [.val (j 0), .mp 0 0, .mp 1 0, .val (j 3), .sl (flat c3 ls) ls.length (.st 0 3), .mp 2 0, .val (j 6), .mp 2 0, ai x.k, ab true, ab true, .mp 2 2, .sl (vs.map .val) x.sub.length o, ai (x.sub.length : Int), ab false, ab false, .val (j 16), .val (j 17), .val (j 18), .val (j 19), .val (j 20), .val (j 21), .val (j 22), .val (j 23), .val (j 24), .val (j 25), .val (j 26), .val (j 27), .val (j 28), .val (j 29), .val (j 30), .sl (flat c3 ls) ls.length (.st 0 3), .val (j 32), .val (j 33), .val (j 34)] 0)) (some 32) (.tup [])) (pickSt [1, 2] ⟨[(0, .cells u), (1, .cells [ai 0, ai 0, .sl [] 0 .nl]), (2, .cells [ai x.k, ai x.n, .sl (vs.map .val) x.sub.length o])], 3, [0], 1, []⟩) []).map Prod.snd = some ([.val (j 0), .val (i 1), .mp 1 0, .val (j 3), .sl (flat tmCells l.reverse) l.length .no, .mp 2 0, .val (j 6), .mp 2 0, ai x.k, ab true, ab true, .mp 2 2, .val (i 12), ai (x.sub.length : Int), ab false, ab false, .val (j 16), .val (j 17), .val (j 18), .val (j 19), .val (j 20), .val (j 21), .val (j 22), .val (j 23), .val (j 24), .val (j 25), .val (j 26), .val (j 27), .val (j 28), .val (j 29), .val (j 30), .val (i 31), .tup [], .val (j 33), .val (j 34)], ⟨[(1, .cells [ai 0, ai 0, .sl [] 0 .nl]), (2, .cells [ai x.k, ai x.n, .sl (vs.map .val) x.sub.length o])], 3, [], 0, []⟩, [], []) := by kernel_rfl
theorem spB4 (j i : Nat → Value) (l : List Tm) (x : Tm) (vs : List Value) (o : Own) : kfin Tryz.prog prim 0 Tryz.f106 3000 (.run (rgt (rgt (rgt (rgt (rgt (bod Tryz.f106))))))) [] [.val (j 0), .val (i 1), .mp 1 0, .val (j 3), .sl (flat tmCells l.reverse) l.length .no, .mp 2 0, .val (j 6), .mp 2 0, ai x.k, ab true, ab true, .mp 2 2, .val (i 12), ai (x.sub.length : Int), ab false, ab false, .val (j 16), .val (j 17), .val (j 18), .val (j 19), .val (j 20), .val (j 21), .val (j 22), .val (j 23), .val (j 24), .val (j 25), .val (j 26), .val (j 27), .val (j 28), .val (j 29), .val (j 30), .val (i 31), .tup [], .val (j 33), .val (j 34)] ⟨[(1, .cells [ai 0, ai 0, .sl [] 0 .nl]), (2, .cells [ai x.k, ai x.n, .sl (vs.map .val) x.sub.length o])], 3, [], 0, []⟩ [.no, .no] [] [] [] false = some (.tup [.agg [ai x.k, ai x.n, .sl (vs.map .val) x.sub.length .no], .sl (flat tmCells l.reverse) l.length .no], [], [.data (vs.map .val), .data (flat tmCells l.reverse)]) := by kernel_rfl
theorem spC (j : Nat → Value) (p0 : Tm) (q0 : Option Addr × Nat × Nat) (ls : List L3) (x : Tm) (vs : List Value) (o : Own) : kfin Tryz.prog prim 0 Tryz.f106 3000 (.run (inn (inn (lft (rgt (rgt (rgt (bod Tryz.f106)))))))) [.loop (inn (inn (lft (rgt (rgt (rgt (bod Tryz.f106))))))), .blk 0, .seq (rgt (rgt (rgt (rgt (bod Tryz.f106)))))] [.val (j 0), .mp 0 0, .mp 1 0, .val (j 3), .sl (flat c3 ls) ls.length (.st 0 3), .mp 2 0, .val (j 6), .val (j 7), .val (j 8), .val (j 9), .val (j 10), .val (j 11), .val (j 12), .val (j 13), .val (j 14), .val (j 15), .val (j 16), .val (j 17), .val (j 18), .val (j 19), .val (j 20), .val (j 21), .val (j 22), .val (j 23), .val (j 24), .val (j 25), .val (j 26), .val (j 27), .val (j 28), .val (j 29), .val (j 30), .val (j 31), .val (j 32), .val (j 33), .val (j 34)] ⟨[(0, .cells [.val (.int .i64 p0.k), .val (.int .i64 p0.n), .val (.slice q0.1 q0.2.1 q0.2.2)]), (1, .cells [ai 0, ai 0, .sl [] 0 .nl]), (2, .cells [ai x.k, ai x.n, .sl (vs.map .val) x.sub.length o])], 3, [0], 1, []⟩ [.no, .bit true, .no, .no, .bit true, .no, .bit true, .no, .no] [] [] [] false = some (.tup [.agg [.val (.int .i64 p0.k), .val (.int .i64 p0.n), .val (.slice q0.1 q0.2.1 q0.2.2)], .sl [] 0 .no], [], [.bit (x.k == 5) true, .bit ((x.sub.length : Int) == 2) true, .bit (decide ((ls.length : Int) ≥ 8192)) true, .data []]) := by kernel_rfl
theorem spD (i j : Nat → Value) (k n : Int) (a b : Tm) (qa qb : Option Addr × Nat × Nat) (u0 u1 u2 : Value) (ls ls2 : List L3) (o : Own) : khead Tryz.prog prim 0 3000 (.run (inn (inn (lft (rgt (rgt (rgt (bod Tryz.f106)))))))) [.loop (inn (inn (lft (rgt (rgt (rgt (bod Tryz.f106))))))), .blk 0, .seq (rgt (rgt (rgt (rgt (bod Tryz.f106)))))] [.val (j 0), .mp 0 0, .mp 1 0, .val (j 3), .sl (flat c3 ls) ls.length (.st 0 3), .mp 2 0, .val (j 6), .val (j 7), .val (j 8), .val (j 9), .val (j 10), .val (j 11), .val (j 12), .val (j 13), .val (j 14), .val (j 15), .val (j 16), .val (j 17), .val (j 18), .val (j 19), .val (j 20), .val (j 21), .val (j 22), .val (j 23), .val (j 24), .val (j 25), .val (j 26), .val (j 27), .val (j 28), .val (j 29), .val (j 30), .val (j 31), .val (j 32), .val (j 33), .val (j 34)] ⟨[(0, .cells [.val u0, .val u1, .val u2]), (1, .cells [ai 0, ai 0, .sl [] 0 .nl]), (2, .cells [ai k, ai n, .sl [.val (.int .i64 a.k), .val (.int .i64 a.n), .val (.slice qa.1 qa.2.1 qa.2.2), .val (.int .i64 b.k), .val (.int .i64 b.n), .val (.slice qb.1 qb.2.1 qb.2.2)] 2 o])], 3, [0], 1, []⟩ [.no, .bit true, .no, .no, .bit true, .no, .bit false, .no, .no, .no, .no, .app (flat c3 ls2) ls2.length 3 false, .no, .no, .no, .no] [] [0, 1, 2] [1] [1, 2, 4, 5] i = some (inn (inn (lft (rgt (rgt (rgt (bod Tryz.f106)))))), [.blk 0, .seq (rgt (rgt (rgt (rgt (bod Tryz.f106)))))], [.val (i 0), .mp 0 0, .mp 1 0, .val (i 3), .sl (flat c3 ls2) ls2.length (.st 0 3), .mp 2 0, .val (i 6), .val (i 7), .val (i 8), .val (i 9), .val (i 10), .val (i 11), .val (i 12), .val (i 13), .val (i 14), .val (i 15), .val (i 16), .val (i 17), .val (i 18), .val (i 19), .val (i 20), .val (i 21), .val (i 22), .val (i 23), .val (i 24), .val (i 25), .val (i 26), .val (i 27), .val (i 28), .val (i 29), .val (i 30), .val (i 31), .val (i 32), .val (i 33), .val (i 34)], ⟨[(0, .cells [.val u0, .val u1, .val u2]), (1, .cells [ai 0, ai 0, .sl [] 0 .nl]), (2, .cells [.val (.int .i64 a.k), .val (.int .i64 a.n), .val (.slice qa.1 qa.2.1 qa.2.2)])], 3, [0], 1, []⟩, [.bit (k == 5) true, .bit ((2 : Int) == 2) true, .bit (decide ((ls.length : Int) ≥ 8192)) false, .app 22 22 (flat c3 ls) [.val (.int .i64 b.k), .val (.int .i64 b.n), .val (.slice qb.1 qb.2.1 qb.2.2)] (flat c3 ls2) ls.length 1 ls2.length 3 false, .data [], .data (flat c3 ls2)]) := by kernel_rfl
theorem spE (i : Nat → Value) (u0 u1 : Int) (u2 : Option Addr × Nat × Nat) : khead Tryz.prog prim 0 3000 (.run (bod Tryz.f106)) [] ([.agg [.val (.int .i64 u0), .val (.int .i64 u1), .val (.slice u2.1 u2.2.1 u2.2.2)]] ++ List.replicate (Tryz.f106.ntmps - 1) (.val undef)) (st0 []) [.no, .no] [(none, 4, 3)] [0, 1, 2] [0] [1, 2, 4, 5] i = some (inn (inn (lft (rgt (rgt (rgt (bod Tryz.f106)))))), [.blk 0, .seq (rgt (rgt (rgt (rgt (bod Tryz.f106)))))], [.val (i 0), .mp 0 0, .mp 1 0, .val (i 3), .sl [] 0 (.st 0 3), .mp 2 0, .val (i 6), .val (i 7), .val (i 8), .val (i 9), .val (i 10), .val (i 11), .val (i 12), .val (i 13), .val (i 14), .val (i 15), .val (i 16), .val (i 17), .val (i 18), .val (i 19), .val (i 20), .val (i 21), .val (i 22), .val (i 23), .val (i 24), .val (i 25), .val (i 26), .val (i 27), .val (i 28), .val (i 29), .val (i 30), .val (i 31), .val (i 32), .val (i 33), .val (i 34)], ⟨[(0, .cells [.val (.int .i64 u0), .val (.int .i64 u1), .val (.slice u2.1 u2.2.1 u2.2.2)]), (1, .cells [ai 0, ai 0, .sl [] 0 .nl]), (2, .cells [.val (.int .i64 u0), .val (.int .i64 u1), .val (.slice u2.1 u2.2.1 u2.2.2)])], 3, [0], 1, []⟩, [.data [], .data []]) := by kernel_rfl

/-- a term's three cells, told as what they hold -/
def sv (x : Tm) (q : Option Addr × Nat × Nat) : List Value := [.int .i64 x.k, .int .i64 x.n, .slice q.1 q.2.1 q.2.2]
def sv3 (x : Tm) (q : Option Addr × Nat × Nat) : L3 := ⟨.int .i64 x.k, .int .i64 x.n, .slice q.1 q.2.1 q.2.2, rfl, rfl, rfl⟩

theorem VL.split {G : Gh} {w : World} : ∀ (cs bs : List AV) (us : List Value), VL G w (cs ++ bs) us → ∃ u1 u2, us = u1 ++ u2 ∧ VL G w cs u1 ∧ VL G w bs u2
  | [], bs, us, h => ⟨[], us, rfl, by simp only [VL], h⟩
  | a :: cs, bs, [], h => by simp only [List.cons_append, VL] at h
  | a :: cs, bs, u :: us, h => by
    simp only [List.cons_append, VL] at h
    obtain ⟨u1, u2, rfl, h1, h2⟩ := VL.split cs bs us h.2
    exact ⟨u :: u1, u2, rfl, by simp only [VL]; exact ⟨h.1, h1⟩, h2⟩

theorem sv_of {G : Gh} {w : World} {x : Tm} {us : List Value} (h : VL G w (tmL x) us) : ∃ q, us = sv x q := by
  unfold tmL at h
  match us, h with
  | [], h => simp only [VL] at h
  | [_], h => simp only [VL, and_false] at h
  | [_, _], h => simp only [VL, and_false] at h
  | [u0, u1, u2], h =>
    simp only [VL, and_true] at h
    obtain ⟨h0, h1, h2⟩ := h
    simp only [V] at h0 h1 h2
    obtain ⟨cap, _, ⟨_, _, _, h, _⟩ | ⟨b, off, h, _⟩⟩ := h2
    · obtain ⟨p, h⟩ : ∃ p, u2 = .slice p 0 0 := ⟨_, h⟩
      exact ⟨(p, 0, 0), by simp [sv, h0, h1, h]⟩
    · exact ⟨(some ⟨b, off, none⟩, x.sub.length, cap), by simp [sv, h0, h1, h]⟩
  | _ :: _ :: _ :: _ :: _, h => simp only [VL, and_false] at h

theorem VC.lit {G G' : Gh} {w w' : World} (b : Nat) (hL : ∀ o, G.L b o → G'.L b o) (hc : ∀ o, w'.cell? ⟨b, o, none⟩ = w.cell? ⟨b, o, none⟩) : ∀ (vs : List Value) (off : Nat), VC G w (vs.map .val) b off → VC G' w' (vs.map .val) b off
  | [], _, _ => by simp only [List.map_nil, VC]
  | v :: vs, off, h => by
    simp only [List.map_cons, VC] at h ⊢
    obtain ⟨h1, ⟨u, h2, h3⟩, h4⟩ := h
    exact ⟨hL _ h1, ⟨u, (hc _).trans h2, by simpa only [V] using h3⟩, VC.lit b hL hc vs (off + 1) h4⟩

theorem relit {G : Gh} {w : World} {vs : List Value} {n : Nat} {o : Own} {u : Value} {es : List AV} (h : V G w (.sl (vs.map .val) n o) u) (he : VL G w es vs) : V G w (.sl es n .no) u := by
  simp only [V] at h ⊢
  obtain ⟨cap, hc, ⟨h1, h2, h3, h4, _⟩ | ⟨b, off, h1, h2, _⟩⟩ := h
  · have hv : vs = [] := by simpa using h1
    subst hv
    have := VL.length _ _ he
    exact ⟨cap, hc, .inl ⟨List.length_eq_zero_iff.1 this.symm, h2, h3, h4, trivial⟩⟩
  · refine ⟨cap, hc, .inr ⟨b, off, h1, ?_, trivial⟩⟩
    obtain ⟨us, q1, q2⟩ := VC.cells _ _ _ h2
    have := VL.litEq _ _ q1
    subst this
    exact VC.of_cells es us b off he (fun i hi => (VC.cell _ _ _ i (.val us[i]) h2 (by simp [hi])).1) q2

/-- a term opened by one level -/
theorem open_tm {na : Nb} {G0 : Gh} {w : World} (hB : Base na G0) {x : Tm} {q : Option Addr × Nat × Nat} (h : VL G0 w (tmL x) (sv x q)) :
    ∃ (vs : List Value) (o : Own), VL G0 w (flat tmCells x.sub) vs ∧ VL G0 w [ai x.k, ai x.n, .sl (vs.map .val) x.sub.length o] (sv x q) ∧ Blk.lit (.cells [ai x.k, ai x.n, .sl (vs.map .val) x.sub.length o]) := by
  unfold tmL sv at h
  simp only [VL, and_true] at h
  obtain ⟨_, _, h2⟩ := h
  have key : ∃ (vs : List Value) (o : Own), VL G0 w (flat tmCells x.sub) vs ∧ V G0 w (.sl (vs.map .val) x.sub.length o) (.slice q.1 q.2.1 q.2.2) ∧
      ∀ (G G' : Gh) (w w' : World) (u : Value), G'.F = G.F → (∀ b o, G.F b → G.L b o → G'.L b o) → (∀ b o, G.F b → w'.cell? ⟨b, o, none⟩ = w.cell? ⟨b, o, none⟩) → V G w (.sl (vs.map .val) x.sub.length o) u → V G' w' (.sl (vs.map .val) x.sub.length o) u := by
    simp only [V] at h2
    obtain ⟨cap, hc, ⟨h1, h2, h3, h4, _⟩ | ⟨b, off, h1, h2, _⟩⟩ := h2
    · refine ⟨[], .no, by rw [h1]; simp only [VL], ?_, ?_⟩
      · simp only [V]; exact ⟨cap, hc, .inl ⟨rfl, h2, h3, h4, trivial⟩⟩
      · intro G G' w w' u _ _ _ hu
        rw [h2] at hu ⊢
        exact V.none hu
    · obtain ⟨vs, q1, q2⟩ := VC.cells _ _ _ h2
      have hL : ∀ i, i < vs.length → G0.L b (off + i) := by
        intro i hi
        have hl := VL.length _ _ q1
        exact (VC.cell _ _ _ i ((flat tmCells x.sub)[i]'(by omega)) h2 (by rw [List.getElem?_eq_getElem])).1
      have hcl : VC G0 w (vs.map .val) b off := VC.of_cells _ vs b off (VL.lits vs) hL q2
      by_cases hs : vs = []
      · subst hs
        have hl := VL.length _ _ q1
        have hfl := flat_len codecT.len x.sub
        have h0 : x.sub.length = 0 := by simp at hl; omega
        refine ⟨[], .no, q1, ?_, ?_⟩
        · simp only [V]; exact ⟨cap, hc, .inr ⟨b, off, h1, hcl, trivial⟩⟩
        · intro G G' w w' u _ _ _ hu
          rw [h0] at hu ⊢
          exact V.none hu
      · have hF : G0.F b := hB.LF b (off + 0) (hL 0 (List.length_pos_iff.2 hs))
        refine ⟨vs, .fr, q1, ?_, ?_⟩
        · simp only [V]; exact ⟨cap, hc, .inr ⟨b, off, h1, hcl, hF⟩⟩
        · intro G G' w w' u e1 e2 e3 hu
          simp only [V] at hu ⊢
          obtain ⟨cap', hc', ⟨p1, p2, p3, p4, _⟩ | ⟨b', off', p1, p2, p3⟩⟩ := hu
          · exact ⟨cap', hc', .inl ⟨p1, p2, p3, p4, trivial⟩⟩
          · have p3' : G.F b' := p3
            exact ⟨cap', hc', .inr ⟨b', off', p1, VC.lit b' (fun o h => e2 b' o p3' h) (fun o => e3 b' o p3') vs off' p2, by show G'.F b'; rw [e1]; exact p3'⟩⟩
  obtain ⟨vs, o, k1, k2, k3⟩ := key
  refine ⟨vs, o, k1, ?_, ?_⟩
  · simp only [sv, VL, V]; simp only [V] at k2; exact ⟨trivial, trivial, k2, trivial⟩
  · intro G G' w w' us e1 e2 e3 hu
    match us, hu with
    | [], hu => simp only [VL] at hu
    | [_], hu => simp only [VL, and_false] at hu
    | [_, _], hu => simp only [VL, and_false] at hu
    | [u0, u1, u2], hu =>
      simp only [VL, and_true] at hu ⊢
      exact ⟨by simpa only [V] using hu.1, by simpa only [V] using hu.2.1, k3 G G' w w' u2 e1 e2 e3 hu.2.2⟩
    | _ :: _ :: _ :: _ :: _, hu => simp only [VL, and_false] at hu

theorem zlit : Blk.lit (.cells [ai 0, ai 0, .sl [] 0 .nl]) := by
  intro G G' w w' us e1 e2 e3 hu
  match us, hu with
  | [], hu => simp only [VL] at hu
  | [_], hu => simp only [VL, and_false] at hu
  | [_, _], hu => simp only [VL, and_false] at hu
  | [u0, u1, u2], hu =>
    simp only [VL, and_true] at hu ⊢
    refine ⟨by simpa only [V] using hu.1, by simpa only [V] using hu.2.1, ?_⟩
    have := hu.2.2
    simp only [V] at this ⊢
    obtain ⟨cap, h1, ⟨_, _, h2, h3, h4⟩ | ⟨b, off, h2, _, h3⟩⟩ := this
    · exact ⟨cap, h1, .inl ⟨trivial, trivial, h2, h3, h4⟩⟩
    · exact h3.elim
  | _ :: _ :: _ :: _ :: _, hu => simp only [VL, and_false] at hu

def Good (G0 : Gh) (res : AV) (r : Tm × List Tm) : Prop := ∀ W G' W', Ext G0 W G' W' → Keep G'.F G'.w0 W' → ∀ u, V G' W' res u → V G' W' (.tup [tmA r.1, .sl (flat tmCells r.2) (List.length r.2) .no]) u

/- scholium/term.Spine -/
def g106L0 (p0 : Tm) : Tm → List Tm → Option (Tm × List Tm)
  | .mk k n [a, b], l =>
    if (k == 5) = true then
      if decide ((List.length l : Int) ≥ 8192) = true then some (p0, []) else (gapp 40 l [b]) >>= fun l2 => g106L0 p0 a l2
    else some (.mk k n [a, b], l.reverse)
  | x, l => some (x, l.reverse)
def g106 (p0 : Tm) : Option (Tm × List Tm) := g106L0 p0 p0 []

theorem dVals : ∀ vs : List Value, AV.DataL (vs.map .val)
  | [] => trivial
  | _ :: vs => ⟨trivial, dVals vs⟩

theorem VL.rev {G : Gh} {w : World} : ∀ (l : List Tm) (ls : List L3), VL G w (flat tmCells l) (vals ls) → ls.length = l.length → VL G w (flat tmCells l.reverse) (vals ls.reverse)
  | [], [], _, _ => by simp [flat, vals, VL]
  | x :: l, y :: ls, h, hl => by
    simp only [flat, vals, List.flatMap_cons] at h
    obtain ⟨u1, u2, e, h1, h2⟩ := VL.split _ _ _ h
    have n1 := VL.length _ _ h1
    rw [codecT.len] at n1
    obtain ⟨rfl, rfl⟩ := List.append_inj e (by rw [n1]; rfl)
    have ih := VL.rev l ls h2 (by simpa using hl)
    simp only [List.reverse_cons, flat, vals, List.flatMap_append, List.flatMap_cons, List.flatMap_nil, List.append_nil]
    exact VL.append _ _ _ _ ih h1
  | [], _ :: _, _, h => by simp at h
  | _ :: _, [], _, h => by simp at h

theorem good_exit {na : Nb} {G0 : Gh} (hB : Base na G0) {x : Tm} {l : List Tm} {vs : List Value} (v1 : VL G0 G0.w0 (flat tmCells x.sub) vs) (hn : na.n = 0 := by first | rfl | assumption) : Good G0 (.tup [.agg [ai x.k, ai x.n, .sl (vs.map .val) x.sub.length .no], .sl (flat tmCells l.reverse) l.length .no]) (x, l.reverse) := by
  intro W G' W' hE hK u hu
  have v := VL.later hB hE hK v1
  simp only [V, VL] at hu
  obtain ⟨us, rfl, hus⟩ := hu
  match us, hus with
  | [], h => simp only [VL] at h
  | [_], h => simp only [VL, and_false] at h
  | [ua, ub], h =>
    simp only [VL, and_true] at h
    obtain ⟨h1, h2⟩ := h
    simp only [V] at h1
    obtain ⟨ws, rfl, hws⟩ := h1
    match ws, hws with
    | [], h => simp only [VL] at h
    | [_], h => simp only [VL, and_false] at h
    | [_, _], h => simp only [VL, and_false] at h
    | [w0, w1, w2], h =>
      simp only [VL, and_true] at h
      obtain ⟨g0, g1, g2⟩ := h
      have g3 := relit g2 v
      simp only [V]
      refine ⟨[.agg #[w0, w1, w2], ub], rfl, ?_⟩
      simp only [VL, and_true]
      refine ⟨?_, by simpa using h2⟩
      simp only [tmA, V]
      exact ⟨[w0, w1, w2], rfl, by simp only [tmL, VL, and_true]; exact ⟨g0, g1, g3⟩⟩
    | _ :: _ :: _ :: _ :: _, h => simp only [VL, and_false] at h
  | _ :: _ :: _ :: _, h => simp only [VL, and_false] at h

theorem good_long {na : Nb} {G0 : Gh} (hB : Base na G0) {x : Tm} {q : Option Addr × Nat × Nat} (h0 : VL G0 G0.w0 (tmL x) (sv x q)) (hn : na.n = 0 := by first | rfl | assumption) : Good G0 (.tup [.agg [.val (.int .i64 x.k), .val (.int .i64 x.n), .val (.slice q.1 q.2.1 q.2.2)], .sl [] 0 .no]) (x, []) := by
  intro W G' W' hE hK u hu
  have v := VL.later hB hE hK h0
  simp only [V, VL] at hu
  obtain ⟨us, rfl, hus⟩ := hu
  match us, hus with
  | [], h => simp only [VL] at h
  | [_], h => simp only [VL, and_false] at h
  | [ua, ub], h =>
    simp only [VL, and_true] at h
    obtain ⟨h1, h2⟩ := h
    simp only [V] at h1
    obtain ⟨ws, rfl, hws⟩ := h1
    have hw : ws = sv x q := VL.litEq (sv x q) ws hws
    subst hw
    simp only [V]
    refine ⟨[.agg (sv x q).toArray, ub], rfl, ?_⟩
    simp only [VL, and_true]
    refine ⟨?_, by simpa [flat] using h2⟩
    simp only [tmA, V]
    exact ⟨sv x q, rfl, v⟩
  | _ :: _ :: _ :: _, h => simp only [VL, and_false] at h

theorem spAX {G0 : Gh} {p0 x : Tm} {q0 : Option Addr × Nat × Nat} {l : List Tm} {ls : List L3} {vs : List Value} {o : Own} (j : Nat → Value) (hlit : Blk.lit (.cells [ai x.k, ai x.n, .sl (vs.map .val) x.sub.length o])) (hl : VL G0 G0.w0 (flat tmCells l) (vals ls)) (hlen : ls.length = l.length) (h8 : l.length ≤ 8192) :
    Dv Tryz.prog (⟨0, fun G => G = G0⟩ : Nb) (rgt (rgt (rgt (rgt (bod Tryz.f106))))) [.val (j 0), .mp 0 0, .mp 1 0, .val (j 3), .sl (flat c3 ls) ls.length (.st 0 3), .mp 2 0, .val (j 6), .mp 2 0, ai x.k, ab false, ab false, .val undef, .val undef, .val undef, .val undef, ab false, .val (j 16), .val (j 17), .val (j 18), .val (j 19), .val (j 20), .val (j 21), .val (j 22), .val (j 23), .val (j 24), .val (j 25), .val (j 26), .val (j 27), .val (j 28), .val (j 29), .val (j 30), .val (j 31), .val (j 32), .val (j 33), .val (j 34)] ⟨[(0, .cells [.val (.int .i64 p0.k), .val (.int .i64 p0.n), .val (.slice q0.1 q0.2.1 q0.2.2)]), (1, .cells [ai 0, ai 0, .sl [] 0 .nl]), (2, .cells [ai x.k, ai x.n, .sl (vs.map .val) x.sub.length o])], 3, [0], 1, []⟩ (FinQ Tryz.prog (⟨0, fun G => G = G0⟩ : Nb) Tryz.f106 (.tup [.agg [ai x.k, ai x.n, .sl (vs.map .val) x.sub.length .no], .sl (flat tmCells l.reverse) l.length .no]) [] 0) := by
  have k1 : knd (rgt (rgt (rgt (rgt (bod Tryz.f106))))) = 1 := by kernel_rfl
  have k3 : isReg (lft (rgt (rgt (rgt (rgt (bod Tryz.f106)))))) = true := by kernel_rfl
  have k4 : clOf (regOps (lft (rgt (rgt (rgt (rgt (bod Tryz.f106)))))))[1]? = some (some 32, 152, #[.tmp 31]) := by kernel_rfl
  have k5 : (Tryz.f152.name == "runtime.NumGoroutine") = false := by kernel_rfl
  have k6 : Tryz.f152.body.isNone = false := by kernel_rfl
  refine Dv.seqP k1 ?_
  obtain ⟨id, k7⟩ := regP k3
  rw [k7]
  refine Dv.mut prim_ok (na := (⟨0, fun G => G = G0⟩ : Nb)) rfl 1 [1, 2] [(4, .sl (flat tmCells l.reverse) l.length .no)] (.tup []) (spA2 j ls x _ vs o) ObsOk.nil k4 Tryz.func152 k5 k6 ?_ ?_ (fun i => spA3 j i ls l x _ vs o) ObsOk.nil ?_
  · intro i X hm hX
    have : i = 1 ∨ i = 2 := by simpa using any_beq.1 hm
    rcases this with rfl | rfl
    · cases hX; exact zlit
    · cases hX; exact hlit
  · intro G1 W hB' G w hE hR u hu
    have e := hB'.κ
    subst e
    refine (rev_call (l := ls) hR (by rfl) (by omega) hu).mono ?_
    rintro e w' ⟨v, b, S, e1, e2, e3, e4, e5, e6, e7⟩
    refine ⟨v, b, S, e1, e2, e3, e4, e5, fun G' hE' hK' hS => ⟨by subst e6; simp only [V]; exact ⟨[], rfl, by simp only [VL]⟩, ?_⟩⟩
    intro p hp u' hu'
    have hp' := List.mem_singleton.1 hp
    subst hp'
    have := e7 G' hS _ (VL.later hB' hE' hK' (VL.rev l ls hl hlen)) u' hu'
    rw [hlen] at this
    exact this
  · intro i
    exact kfin_ok (na := (⟨0, fun G => G = G0⟩ : Nb)) prim_ok mixed (spA4 j i l x vs o) (ObsOk.cons (obData (dVals vs)) (ObsOk.cons (obData (dT _)) ObsOk.nil)) (by decide)

theorem spBX {G0 : Gh} {p0 x : Tm} {q0 : Option Addr × Nat × Nat} {l : List Tm} {ls : List L3} {vs : List Value} {o : Own} (j : Nat → Value) (hlit : Blk.lit (.cells [ai x.k, ai x.n, .sl (vs.map .val) x.sub.length o])) (hl : VL G0 G0.w0 (flat tmCells l) (vals ls)) (hlen : ls.length = l.length) (h8 : l.length ≤ 8192) :
    Dv Tryz.prog (⟨0, fun G => G = G0⟩ : Nb) (rgt (rgt (rgt (rgt (bod Tryz.f106))))) [.val (j 0), .mp 0 0, .mp 1 0, .val (j 3), .sl (flat c3 ls) ls.length (.st 0 3), .mp 2 0, .val (j 6), .mp 2 0, ai x.k, ab true, ab true, .mp 2 2, .sl (vs.map .val) x.sub.length o, ai (x.sub.length : Int), ab false, ab false, .val (j 16), .val (j 17), .val (j 18), .val (j 19), .val (j 20), .val (j 21), .val (j 22), .val (j 23), .val (j 24), .val (j 25), .val (j 26), .val (j 27), .val (j 28), .val (j 29), .val (j 30), .val (j 31), .val (j 32), .val (j 33), .val (j 34)] ⟨[(0, .cells [.val (.int .i64 p0.k), .val (.int .i64 p0.n), .val (.slice q0.1 q0.2.1 q0.2.2)]), (1, .cells [ai 0, ai 0, .sl [] 0 .nl]), (2, .cells [ai x.k, ai x.n, .sl (vs.map .val) x.sub.length o])], 3, [0], 1, []⟩ (FinQ Tryz.prog (⟨0, fun G => G = G0⟩ : Nb) Tryz.f106 (.tup [.agg [ai x.k, ai x.n, .sl (vs.map .val) x.sub.length .no], .sl (flat tmCells l.reverse) l.length .no]) [] 0) := by
  have k1 : knd (rgt (rgt (rgt (rgt (bod Tryz.f106))))) = 1 := by kernel_rfl
  have k3 : isReg (lft (rgt (rgt (rgt (rgt (bod Tryz.f106)))))) = true := by kernel_rfl
  have k4 : clOf (regOps (lft (rgt (rgt (rgt (rgt (bod Tryz.f106)))))))[1]? = some (some 32, 152, #[.tmp 31]) := by kernel_rfl
  have k5 : (Tryz.f152.name == "runtime.NumGoroutine") = false := by kernel_rfl
  have k6 : Tryz.f152.body.isNone = false := by kernel_rfl
  refine Dv.seqP k1 ?_
  obtain ⟨id, k7⟩ := regP k3
  rw [k7]
  refine Dv.mut prim_ok (na := (⟨0, fun G => G = G0⟩ : Nb)) rfl 1 [1, 2] [(4, .sl (flat tmCells l.reverse) l.length .no)] (.tup []) (spB2 j ls x _ vs o) ObsOk.nil k4 Tryz.func152 k5 k6 ?_ ?_ (fun i => spB3 j i ls l x _ vs o) ObsOk.nil ?_
  · intro i X hm hX
    have : i = 1 ∨ i = 2 := by simpa using any_beq.1 hm
    rcases this with rfl | rfl
    · cases hX; exact zlit
    · cases hX; exact hlit
  · intro G1 W hB' G w hE hR u hu
    have e := hB'.κ
    subst e
    refine (rev_call (l := ls) hR (by rfl) (by omega) hu).mono ?_
    rintro e w' ⟨v, b, S, e1, e2, e3, e4, e5, e6, e7⟩
    refine ⟨v, b, S, e1, e2, e3, e4, e5, fun G' hE' hK' hS => ⟨by subst e6; simp only [V]; exact ⟨[], rfl, by simp only [VL]⟩, ?_⟩⟩
    intro p hp u' hu'
    have hp' := List.mem_singleton.1 hp
    subst hp'
    have := e7 G' hS _ (VL.later hB' hE' hK' (VL.rev l ls hl hlen)) u' hu'
    rw [hlen] at this
    exact this
  · intro i
    exact kfin_ok (na := (⟨0, fun G => G = G0⟩ : Nb)) prim_ok mixed (spB4 j i l x vs o) (ObsOk.cons (obData (dVals vs)) (ObsOk.cons (obData (dT _)) ObsOk.nil)) (by decide)


theorem apC22 {l m r : List L3} (h : gapp 40 l m = some r) (hm : m.length ≠ 0) : Ob.ok Tryz.prog (.app 22 22 (flat c3 l) (flat c3 m) (flat c3 r) l.length m.length r.length 3 false) := app_some codec3 Tryz.underlying22 info29 rfl rfl rfl (by decide) rfl (by decide) h hm

theorem g135_exit {p0 x : Tm} {l : List Tm} {r : Tm × List Tm} (h : g106L0 p0 x l = some r) (hx : ¬ ((x.k == 5) = true ∧ x.sub.length = 2)) : r = (x, l.reverse) := by
  obtain ⟨k, n, sub⟩ := x
  unfold g106L0 at h
  split at h
  · rename_i k' n' a b e
    cases e
    split at h
    · rename_i hk
      exact (hx ⟨hk, rfl⟩).elim
    · cases h; rfl
  · cases h; rfl

theorem spine_loop {p0 : Tm} {q0 : Option Addr × Nat × Nat} {G0 : Gh} (hB : Base (⟨0, fun G => G = G0⟩ : Nb) G0) (h0 : VL G0 G0.w0 (tmL p0) (sv p0 q0)) : ∀ (N : Nat) (x : Tm) (l : List Tm) (r : Tm × List Tm) (hN : SizeOf.sizeOf x ≤ N) (h : g106L0 p0 x l = some r) (h8 : l.length ≤ 8192) (q : Option Addr × Nat × Nat) (ls : List L3)
    (hx : VL G0 G0.w0 (tmL x) (sv x q)) (hl : VL G0 G0.w0 (flat tmCells l) (vals ls)) (hlen : ls.length = l.length), ∃ res, Good G0 res r ∧ ∀ j : Nat → Value, Dl Tryz.prog (⟨0, fun G => G = G0⟩ : Nb) (inn (inn (lft (rgt (rgt (rgt (bod Tryz.f106))))))) [.val (j 0), .mp 0 0, .mp 1 0, .val (j 3), .sl (flat c3 ls) ls.length (.st 0 3), .mp 2 0, .val (j 6), .val (j 7), .val (j 8), .val (j 9), .val (j 10), .val (j 11), .val (j 12), .val (j 13), .val (j 14), .val (j 15), .val (j 16), .val (j 17), .val (j 18), .val (j 19), .val (j 20), .val (j 21), .val (j 22), .val (j 23), .val (j 24), .val (j 25), .val (j 26), .val (j 27), .val (j 28), .val (j 29), .val (j 30), .val (j 31), .val (j 32), .val (j 33), .val (j 34)] ⟨[(0, .cells [.val (.int .i64 p0.k), .val (.int .i64 p0.n), .val (.slice q0.1 q0.2.1 q0.2.2)]), (1, .cells [ai 0, ai 0, .sl [] 0 .nl]), (2, .cells [.val (.int .i64 x.k), .val (.int .i64 x.n), .val (.slice q.1 q.2.1 q.2.2)])], 3, [0], 1, []⟩ (frameQ Tryz.prog (⟨0, fun G => G = G0⟩ : Nb) (FinQ Tryz.prog (⟨0, fun G => G = G0⟩ : Nb) Tryz.f106 res [] 0) [.blk 0, .seq (rgt (rgt (rgt (rgt (bod Tryz.f106)))))]) := by
  intro N
  induction N with
  | zero =>
    intro x l r hN
    obtain ⟨k, n, sub⟩ := x
    simp at hN
  | succ N spine_ih =>
  intro x l r hN h h8 q ls hx hl hlen
  obtain ⟨vs, o, v1, v2, v3⟩ := open_tm hB hx
  have hopen : ∀ {res : AV} (j : Nat → Value), Dl Tryz.prog (⟨0, fun G => G = G0⟩ : Nb) (inn (inn (lft (rgt (rgt (rgt (bod Tryz.f106))))))) [.val (j 0), .mp 0 0, .mp 1 0, .val (j 3), .sl (flat c3 ls) ls.length (.st 0 3), .mp 2 0, .val (j 6), .val (j 7), .val (j 8), .val (j 9), .val (j 10), .val (j 11), .val (j 12), .val (j 13), .val (j 14), .val (j 15), .val (j 16), .val (j 17), .val (j 18), .val (j 19), .val (j 20), .val (j 21), .val (j 22), .val (j 23), .val (j 24), .val (j 25), .val (j 26), .val (j 27), .val (j 28), .val (j 29), .val (j 30), .val (j 31), .val (j 32), .val (j 33), .val (j 34)] ⟨[(0, .cells [.val (.int .i64 p0.k), .val (.int .i64 p0.n), .val (.slice q0.1 q0.2.1 q0.2.2)]), (1, .cells [ai 0, ai 0, .sl [] 0 .nl]), (2, .cells [ai x.k, ai x.n, .sl (vs.map .val) x.sub.length o])], 3, [0], 1, []⟩ (frameQ Tryz.prog (⟨0, fun G => G = G0⟩ : Nb) (FinQ Tryz.prog (⟨0, fun G => G = G0⟩ : Nb) Tryz.f106 res [] 0) [.blk 0, .seq (rgt (rgt (rgt (rgt (bod Tryz.f106)))))]) → Dl Tryz.prog (⟨0, fun G => G = G0⟩ : Nb) (inn (inn (lft (rgt (rgt (rgt (bod Tryz.f106))))))) [.val (j 0), .mp 0 0, .mp 1 0, .val (j 3), .sl (flat c3 ls) ls.length (.st 0 3), .mp 2 0, .val (j 6), .val (j 7), .val (j 8), .val (j 9), .val (j 10), .val (j 11), .val (j 12), .val (j 13), .val (j 14), .val (j 15), .val (j 16), .val (j 17), .val (j 18), .val (j 19), .val (j 20), .val (j 21), .val (j 22), .val (j 23), .val (j 24), .val (j 25), .val (j 26), .val (j 27), .val (j 28), .val (j 29), .val (j 30), .val (j 31), .val (j 32), .val (j 33), .val (j 34)] ⟨[(0, .cells [.val (.int .i64 p0.k), .val (.int .i64 p0.n), .val (.slice q0.1 q0.2.1 q0.2.2)]), (1, .cells [ai 0, ai 0, .sl [] 0 .nl]), (2, .cells [.val (.int .i64 x.k), .val (.int .i64 x.n), .val (.slice q.1 q.2.1 q.2.2)])], 3, [0], 1, []⟩ (frameQ Tryz.prog (⟨0, fun G => G = G0⟩ : Nb) (FinQ Tryz.prog (⟨0, fun G => G = G0⟩ : Nb) Tryz.f106 res [] 0) [.blk 0, .seq (rgt (rgt (rgt (rgt (bod Tryz.f106)))))]) := by
    intro res j hd
    refine Dl.openB (b := 2) (cs := [.val (.int .i64 x.k), .val (.int .i64 x.n), .val (.slice q.1 q.2.1 q.2.2)]) (cs' := [ai x.k, ai x.n, .sl (vs.map .val) x.sub.length o]) rfl (fun G1 W hB' G w hE hK us hus => ?_) hd
    have e := hB'.κ
    subst e
    have hu : us = sv x q := VL.litEq (sv x q) us hus
    subst hu
    exact VL.later hB' hE hK v2
  by_cases hk : (x.k == 5) = true
  · by_cases h2 : x.sub.length = 2
    · obtain ⟨k, n, sub⟩ := x
      match sub, h2 with
      | [a, b], _ =>
      rw [g106L0] at h
      replace h := ifT hk h
      rcases bcases (decide ((List.length l : Int) ≥ 8192)) with h3 | h3
      · replace h := ifT h3 h
        cases h
        exact ⟨_, good_long hB h0, fun j => hopen j (Dl.toFin (na := (⟨0, fun G => G = G0⟩ : Nb)) prim_ok mixed 3000 _ _ _ _ _ (spC j p0 q0 ls (.mk k n [a, b]) vs o) (ObsOk.cons (obBit hk) (ObsOk.cons (obBit rfl) (ObsOk.cons (obBit (by rw [hlen]; exact h3)) (ObsOk.cons (obData trivial) ObsOk.nil)))) (by decide))⟩
      · replace h := ifF h3 h
        obtain ⟨l2, hg, h⟩ := obind h
        obtain ⟨hg1, rfl⟩ := gapp_spec hg
        have w1 : VL G0 G0.w0 (tmCells a ++ (tmCells b ++ [])) vs := v1
        obtain ⟨ua, u2, rfl, wa, w2⟩ := VL.split _ _ _ w1
        obtain ⟨ub, u3, rfl, wb, w3⟩ := VL.split _ _ _ w2
        have e3 : u3 = [] := by
          have := VL.length _ _ w3
          exact List.length_eq_zero_iff.1 this
        subst e3
        rw [tm_eq] at wa wb
        obtain ⟨qa, rfl⟩ := sv_of wa
        obtain ⟨qb, rfl⟩ := sv_of wb
        have h3' : List.length l < 8192 := by
          have := of_decide_eq_false h3
          omega
        have hl2 : VL G0 G0.w0 (flat tmCells (l ++ [b])) (vals (ls ++ [sv3 b qb])) := by
          simp only [flat, vals, List.flatMap_append, List.flatMap_cons, List.flatMap_nil, List.append_nil]
          refine VL.append _ _ _ _ hl ?_
          rw [tm_eq]; exact wb
        have hga : gapp 40 ls [sv3 b qb] = some (ls ++ [sv3 b qb]) := by
          unfold gapp
          rw [if_pos]
          simp only [List.length_cons, List.length_nil] at hg1 ⊢
          rw [hlen]; exact hg1
        obtain ⟨res, hgood, hdl⟩ := spine_ih a (l ++ [b]) r (by simp at hN; omega) h (by simp; omega) qa (ls ++ [sv3 b qb]) wa hl2 (by simp [hlen])
        refine ⟨res, hgood, fun j => hopen j (Dl.toHead (na := (⟨0, fun G => G = G0⟩ : Nb)) prim_ok mixed 3000 _ _ _ _ _ (fun i => spD i j k n a b qa qb _ _ _ ls (ls ++ [sv3 b qb]) o) ?_ fun i => hdl i)⟩
        exact ObsOk.cons (obBit hk) (ObsOk.cons (obBit rfl) (ObsOk.cons (obBit (by rw [hlen]; exact h3)) (ObsOk.cons (apC22 (m := [sv3 b qb]) hga (by simp)) (ObsOk.cons (obData trivial) (ObsOk.cons (obData (flat_data codec3.data _)) ObsOk.nil)))))
    · have hr := g135_exit h (fun e => h2 e.2)
      subst hr
      refine ⟨.tup [.agg [ai x.k, ai x.n, .sl (vs.map .val) x.sub.length .no], .sl (flat tmCells l.reverse) l.length .no], good_exit hB v1, fun j => hopen j (Dl.step ?_)⟩
      have hx1 := spBX (G0 := G0) (p0 := p0) (q0 := q0) j v3 hl hlen h8
      refine krun_ok (Q := _) prim_ok mixed 3000 (.run (inn (inn (lft (rgt (rgt (rgt (bod Tryz.f106)))))))) [] _ _ _ _ _ _ _ _ (spB1 j ls x _ vs o) (ObsOk.cons (obBit hk) (ObsOk.cons (obBit (by simp; omega)) ObsOk.nil)) ?_
      simp only [KQ, seqQ, frameQ, blockQ, if_true]
      exact hx1
  · have hr := g135_exit h (fun e => hk e.1)
    subst hr
    · refine ⟨.tup [.agg [ai x.k, ai x.n, .sl (vs.map .val) x.sub.length .no], .sl (flat tmCells l.reverse) l.length .no], good_exit hB v1, fun j => hopen j (Dl.step ?_)⟩
      have hx1 := spAX (G0 := G0) (p0 := p0) (q0 := q0) j v3 hl hlen h8
      refine krun_ok (Q := _) prim_ok mixed 3000 (.run (inn (inn (lft (rgt (rgt (rgt (bod Tryz.f106)))))))) [] _ _ _ _ _ _ _ _ (spA1 j ls x _ vs o) (ObsOk.cons (obBit (by simpa using hk)) ObsOk.nil) ?_
      simp only [KQ, seqQ, frameQ, blockQ, if_true]
      exact hx1

theorem c106g {p0 : Tm} {r : Tm × List Tm} (h : g106 p0 = some r) : CT Tryz.prog 106 [] [tmA p0] (.tup [tmA r.1, .sl (flat tmCells r.2) (List.length r.2) .no]) [] 0 := by
  refine ⟨?_, ⟨⟨trivial, trivial, ⟨trivial, dT _⟩, trivial⟩, trivial⟩, (fun _ h => nomatch h), ⟨⟨trivial, trivial, dT _, trivial⟩, dT _, trivial⟩, (fun _ h => nomatch h)⟩
  intro G0 W cargs hB hR hv
  cases hc : cargs.toList with
  | nil => rw [hc] at hv; simp only [VL] at hv
  | cons u us =>
    rw [hc] at hv
    simp only [VL] at hv
    obtain ⟨hu, hus⟩ := hv
    have hus' : us = [] := by
      have := VL.length _ _ hus
      exact List.length_eq_zero_iff.1 this
    subst hus'
    simp only [tmA, V] at hu
    obtain ⟨ws, rfl, hws⟩ := hu
    obtain ⟨q0, rfl⟩ := sv_of hws
    have hBK : Base (⟨0, fun G => G = G0⟩ : Nb) G0 := ⟨hB.ρ, hB.τ, hB.LF, rfl⟩
    have h0 := VL.back hB hR hws
    obtain ⟨res, hgood, hdl⟩ := spine_loop hBK h0 _ p0 [] r (Nat.le_refl _) h (by simp) q0 [] h0 (by simp [flat, vals, VL]) rfl
    have hv2 : VL G0 W [.agg [.val (.int .i64 p0.k), .val (.int .i64 p0.n), .val (.slice q0.1 q0.2.1 q0.2.2)]] cargs.toList := by
      rw [hc]
      simp only [VL, V, and_true]
      exact ⟨sv p0 q0, rfl, VL.lits (sv p0 q0)⟩
    have hb := body_at (na := (⟨0, fun G => G = G0⟩ : Nb)) (res := res) (H1 := []) (nst := 0) rfl Tryz.func106 (by kernel_rfl) (khead_ok (na := (⟨0, fun G => G = G0⟩ : Nb)) (m := .run (bod Tryz.f106)) (fs := []) prim_ok mixed (fun i => spE i p0.k p0.n q0) (ObsOk.cons (obData trivial) (ObsOk.cons (obData trivial) ObsOk.nil)) fun i => hdl i) hBK hR hv2
    refine hb.mono ?_
    rintro e W' ⟨u, G', s', rfl, hE, hR', hu, h1, h2⟩
    exact ⟨u, G', s', rfl, hE, hR', hgood W G' W' hE hR'.below u hu, h1, h2⟩

def e106 (_qq : Nat) (p0 : Tm) : Option (Tm × List Tm) := g106 p0
theorem c106 {qq : Nat} {p0 : Tm} {r : Tm × List Tm} (h : e106 qq p0 = some r) : CT Tryz.prog 106 [] [tmA p0] (.tup [tmA r.1, .sl (flat tmCells r.2) (List.length r.2) .no]) [] 0 := c106g h


end Go.Proofs.YtlbmblbeccafcaaGreat

namespace Go.Proofs.YtlbmblbeccafcaaGreat
open Go Go.Ab

/- scholium/sign.applied -/
def e199L58991 : Nat → Int → Int → (Tm × List Tm) → Int →  Option (Bool)
  | 0, _, _, _, _ => none
  | qq + 1, p2, p4, r1, v37 =>
    if decide (v37 < p2) = true then
      (gidx r1.2 v37) >>= fun x7 =>
      if (x7.k != 1) = true then
        none
      else
        if (x7.n != (w64 ((w64 (p4 - 1)) - v37))) = true then
          none
        else
          e199L58991 qq p2 p4 r1 (w64 (v37 + 1))
    else
      some true
def e199 (qq : Nat) (p0 : Tm) (p1 : Int) (p2 : Int) (p3 : Int) (p4 : Int) : Option (Bool) :=
  (e106 qq p0) >>= fun r1 =>
  if (r1.1.k != 6) = true then
    none
  else
    if (r1.1.n != p1) = true then
      none
    else
      if ((List.length r1.2 : Int) != (w64 (p2 + p3))) = true then
        none
      else
        e199L58991 qq p2 p4 r1 0
def g199L58991E0 (j : Nat → Value) (p2 : Int) (p4 : Int) (r1 : Tm × List Tm) (v37 : Int) : List AV := sp j 59 0 [(4, ai p4), (12, .sl (flat tmCells r1.2) (List.length r1.2) .no), (36, ai p2), (37, ai v37)]
def g199L58991S0 (p2 : Int) (p4 : Int) (r1 : Tm × List Tm) (v37 : Int) : LSt := ⟨[], 0, [], 0, []⟩
theorem q199 : Tryz.prog.funcs[199]? = some Tryz.f199 ∧ Tryz.f199.body.isNone = false := ⟨Tryz.func199, by kernel_rfl⟩
theorem k199 {p0 : Tm} {p1 : Int} {p2 : Int} {p3 : Int} {p4 : Int} {r : Bool} (h : CTri Tryz.prog 199 [] [tmA p0, ai p1, ai p2, ai p3, ai p4] (ab r) [] 0) : CT Tryz.prog 199 [] [tmA p0, ai p1, ai p2, ai p3, ai p4] (ab r) [] 0 := ⟨h, ⟨⟨trivial, trivial, ⟨trivial, dT _⟩, trivial⟩, trivial, trivial, trivial, trivial, trivial⟩, forall_nil, trivial, forall_nil⟩
theorem l199L58991 : ∀ qq : Nat, (∀ (p2 : Int) (p4 : Int) (r1 : Tm × List Tm) (v37 : Int) (r : Bool), e199L58991 qq p2 p4 r1 v37 = some r → (∀ j, Dl Tryz.prog 0 (inn (inn (rgt (lft (rgt (rgt (rgt (bod Tryz.f199)))))))) (g199L58991E0 j p2 p4 r1 v37) (g199L58991S0 p2 p4 r1 v37) (frameQ Tryz.prog 0 (FinQ Tryz.prog 0 Tryz.f199 (ab r) [] 0) [.blk 0, .seq (rgt (rgt (rgt (rgt (bod Tryz.f199)))))]))) := by
  intro qq
  induction qq with
  | zero =>
    exact fun _ _ _ _ _ h => nn h
  | succ qq ih =>
    intro p2 p4 r1 v37 r h
    rw [e199L58991] at h
    rcases spl h with ⟨h6, h⟩ | ⟨h6, h⟩
    · obtain ⟨x7, h8, h⟩ := obind h
      have k := oA 0 (ix22 (o := .no) h8) <| oB 0 h6 o0
      obtain ⟨h9, h⟩ := splF h
      have k := oA 0 (ix22 (o := .no) h8) <| oB 1 h9 k
      obtain ⟨h10, h⟩ := splF h
      exact fun j => lH 1 [] [] [] [4, 12, 36, 37] (oD (dT r1.2) <| oB 3 h10 k) (ih _ _ _ _ _ h) (fun j => by kernel_rfl)
    · obtain rfl := sj h
      exact fun j => lF 0 [] (oB 0 h6 o0) (by kernel_rfl)
theorem c199 {qq : Nat} {p0 : Tm} {p1 : Int} {p2 : Int} {p3 : Int} {p4 : Int} {r : Bool} (h : e199 qq p0 p1 p2 p3 p4 = some r) : CT Tryz.prog 199 [] [tmA p0, ai p1, ai p2, ai p3, ai p4] (ab r) [] 0 := by
  unfold e199 at h
  obtain ⟨r1, h2, h⟩ := obind h
  have k := oC 1 [] (c106 h2) o0
  obtain ⟨h3, h⟩ := splF h
  have k := oB 4 h3 k
  obtain ⟨h4, h⟩ := splF h
  have k := oB 1 h4 k
  obtain ⟨h5, h⟩ := splF h
  exact k199 (tH q199 0 [] [] [] [4, 12, 36, 37] (oD (dT r1.2) <| oB 2 h5 k) (l199L58991 _ _ _ _ _ _ h) (fun j => by kernel_rfl))

end Go.Proofs.YtlbmblbeccafcaaGreat

namespace Go.Proofs.YtlbmblbeccafcaaGreat
open Go Go.Ab

/- scholium/sign.con -/
def e143 (qq : Nat) (p0 : List Ent) (p1 : Int) : Option (Bool) :=
  (gidx p0 p1) >>= fun x1 =>
  (e103 qq x1.type) >>= fun r3 =>
  (e198 qq p0 p1) >>= fun r5 =>
  if r5 = true then
    if (r3.2.2 == 0) = true then
      if decide ((List.length r3.1 : Int) ≥ x1.pars) = true then
        (gidx p0 x1.fam) >>= fun x10 =>
        (e199 qq r3.2.1 x1.fam x1.pars x10.inds (List.length r3.1 : Int)) >>= fun r12 =>
        some r12
      else
        none
    else
      none
  else
    none
theorem q143 : Tryz.prog.funcs[143]? = some Tryz.f143 ∧ Tryz.f143.body.isNone = false := ⟨Tryz.func143, by kernel_rfl⟩
theorem k143 {p0 : List Ent} {p1 : Int} {r : Bool} (h : CTri Tryz.prog 143 [] [.sl (flat entL p0) (List.length p0) .no, ai p1] (ab r) [] 0) : CT Tryz.prog 143 [] [.sl (flat entL p0) (List.length p0) .no, ai p1] (ab r) [] 0 := ⟨h, ⟨⟨trivial, dE _⟩, trivial, trivial⟩, forall_nil, trivial, forall_nil⟩
theorem c143 {qq : Nat} {p0 : List Ent} {p1 : Int} {r : Bool} (h : e143 qq p0 p1 = some r) : CT Tryz.prog 143 [] [.sl (flat entL p0) (List.length p0) .no, ai p1] (ab r) [] 0 := by
  unfold e143 at h
  obtain ⟨x1, h2, h⟩ := obind h
  obtain ⟨r3, h4, h⟩ := obind h
  obtain ⟨r5, h6, h⟩ := obind h
  have k := oC 1 [] (c103 h4) <| oA 0 (ix25 (o := .no) h2) o0
  obtain ⟨h7, h⟩ := splT h
  have k := oK 4 [] h7 (c198 h6) k
  obtain ⟨h8, h⟩ := splT h
  have k := oA 1 (ix25 (o := .no) h2) <| oB 0 h8 k
  obtain ⟨h9, h⟩ := splT h
  obtain ⟨x10, h11, h⟩ := obind h
  obtain ⟨r12, h13, h⟩ := obind h
  obtain rfl := sj h
  exact k143 (tF q143 0 [] (oC 2 [] (c199 h13) <| oA 1 (ix25 (o := .no) h11) <| oA 1 (ix25 (o := .no) h2) <| oA 1 (ix25 (o := .no) h2) <| oA 1 (ix25 (o := .no) h2) <| oB 1 h9 k) (by kernel_rfl))

end Go.Proofs.YtlbmblbeccafcaaGreat

namespace Go.Proofs.YtlbmblbeccafcaaGreat
open Go Go.Ab

/- scholium/sign.proj -/
def e144 (qq : Nat) (p0 : List Ent) (p1 : Int) : Option (Bool) :=
  (e198 qq p0 p1) >>= fun r1 =>
  if r1 = true then
    (gidx p0 p1) >>= fun x4 =>
    (e97 qq x4.type (w64 (x4.pars + 1))) >>= fun r6 =>
    if (r6.2.2 == 0) = true then
      (gidx r6.1 x4.pars) >>= fun x9 =>
      (e199 qq x9 x4.fam x4.pars 0 x4.pars) >>= fun r11 =>
      some r11
    else
      none
  else
    none
theorem q144 : Tryz.prog.funcs[144]? = some Tryz.f144 ∧ Tryz.f144.body.isNone = false := ⟨Tryz.func144, by kernel_rfl⟩
theorem k144 {p0 : List Ent} {p1 : Int} {r : Bool} (h : CTri Tryz.prog 144 [] [.sl (flat entL p0) (List.length p0) .no, ai p1] (ab r) [] 0) : CT Tryz.prog 144 [] [.sl (flat entL p0) (List.length p0) .no, ai p1] (ab r) [] 0 := ⟨h, ⟨⟨trivial, dE _⟩, trivial, trivial⟩, forall_nil, trivial, forall_nil⟩
theorem c144 {qq : Nat} {p0 : List Ent} {p1 : Int} {r : Bool} (h : e144 qq p0 p1 = some r) : CT Tryz.prog 144 [] [.sl (flat entL p0) (List.length p0) .no, ai p1] (ab r) [] 0 := by
  unfold e144 at h
  obtain ⟨r1, h2, h⟩ := obind h
  obtain ⟨h3, h⟩ := splT h
  obtain ⟨x4, h5, h⟩ := obind h
  obtain ⟨r6, h7, h⟩ := obind h
  have k := oC 2 [] (c97 h7) <| oA 1 (ix25 (o := .no) h5) <| oA 1 (ix25 (o := .no) h5) <| oK 0 [] h3 (c198 h2) o0
  obtain ⟨h8, h⟩ := splT h
  obtain ⟨x9, h10, h⟩ := obind h
  obtain ⟨r11, h12, h⟩ := obind h
  obtain rfl := sj h
  exact k144 (tF q144 0 [] (oC 1 [] (c199 h12) <| oA 1 (ix25 (o := .no) h5) <| oA 1 (ix25 (o := .no) h5) <| oA 1 (ix25 (o := .no) h5) <| oA 1 (ix22 (o := .no) h10) <| oA 0 (ix25 (o := .no) h5) <| oB 4 h8 k) (by kernel_rfl))

end Go.Proofs.YtlbmblbeccafcaaGreat

namespace Go.Proofs.YtlbmblbeccafcaaGreat
open Go Go.Ab

/- scholium/sign.def -/
def e145 (qq : Nat) (p0 : List Ent) (p1 : Int) : Option (Bool) :=
  (gidx p0 p1) >>= fun x1 =>
  (e141 qq x1.body p1) >>= fun r3 =>
  if r3 = true then
    if (x1.fam == 0) = true then
      if (x1.place == 0) = true then
        if (x1.pars == 0) = true then
          if (x1.inds == 0) = true then
            if (x1.level == 0) = true then
              some ((w64 ((List.length x1.cons : Int) + (List.length x1.fields : Int))) == 0)
            else
              none
          else
            none
        else
          none
      else
        none
    else
      none
  else
    none
theorem q145 : Tryz.prog.funcs[145]? = some Tryz.f145 ∧ Tryz.f145.body.isNone = false := ⟨Tryz.func145, by kernel_rfl⟩
theorem k145 {p0 : List Ent} {p1 : Int} {r : Bool} (h : CTri Tryz.prog 145 [] [.sl (flat entL p0) (List.length p0) .no, ai p1] (ab r) [] 0) : CT Tryz.prog 145 [] [.sl (flat entL p0) (List.length p0) .no, ai p1] (ab r) [] 0 := ⟨h, ⟨⟨trivial, dE _⟩, trivial, trivial⟩, forall_nil, trivial, forall_nil⟩
theorem c145 {qq : Nat} {p0 : List Ent} {p1 : Int} {r : Bool} (h : e145 qq p0 p1 = some r) : CT Tryz.prog 145 [] [.sl (flat entL p0) (List.length p0) .no, ai p1] (ab r) [] 0 := by
  unfold e145 at h
  obtain ⟨x1, h2, h⟩ := obind h
  obtain ⟨r3, h4, h⟩ := obind h
  have k := oA 0 (ix25 (o := .no) h2) o0
  obtain ⟨h5, h⟩ := splT h
  have k := oK 3 [] h5 (c141 h4) k
  obtain ⟨h6, h⟩ := splT h
  have k := oB 1 h6 k
  obtain ⟨h7, h⟩ := splT h
  have k := oB 1 h7 k
  obtain ⟨h8, h⟩ := splT h
  have k := oB 1 h8 k
  obtain ⟨h9, h⟩ := splT h
  have k := oB 1 h9 k
  obtain ⟨h10, h⟩ := splT h
  obtain rfl := sj h
  exact k145 (tF q145 6 [] (oB 1 h10 k) (by kernel_rfl))

end Go.Proofs.YtlbmblbeccafcaaGreat

namespace Go.Proofs.YtlbmblbeccafcaaGreat
open Go Go.Ab

/- scholium/sign.entry -/
def e95 (qq : Nat) (p0 : List Ent) (p1 : Int) : Option (Bool) :=
  (gidx p0 p1) >>= fun x1 =>
  (e140 qq x1.name) >>= fun r3 =>
  if r3 = true then
    (e141 qq x1.type p1) >>= fun r6 =>
    if r6 = true then
      if (x1.kind == 1) = true then
        (e142 qq p0 p1) >>= fun r10 =>
        some r10
      else
        if (x1.kind == 2) = true then
          (e143 qq p0 p1) >>= fun r13 =>
          some r13
        else
          if (x1.kind == 4) = true then
            (e144 qq p0 p1) >>= fun r16 =>
            some r16
          else
            if (x1.kind == 3) = true then
              (e145 qq p0 p1) >>= fun r19 =>
              some r19
            else
              none
    else
      none
  else
    none
theorem q95 : Tryz.prog.funcs[95]? = some Tryz.f95 ∧ Tryz.f95.body.isNone = false := ⟨Tryz.func95, by kernel_rfl⟩
theorem k95 {p0 : List Ent} {p1 : Int} {r : Bool} (h : CTri Tryz.prog 95 [] [.sl (flat entL p0) (List.length p0) .no, ai p1] (ab r) [] 0) : CT Tryz.prog 95 [] [.sl (flat entL p0) (List.length p0) .no, ai p1] (ab r) [] 0 := ⟨h, ⟨⟨trivial, dE _⟩, trivial, trivial⟩, forall_nil, trivial, forall_nil⟩
theorem c95 {qq : Nat} {p0 : List Ent} {p1 : Int} {r : Bool} (h : e95 qq p0 p1 = some r) : CT Tryz.prog 95 [] [.sl (flat entL p0) (List.length p0) .no, ai p1] (ab r) [] 0 := by
  unfold e95 at h
  obtain ⟨x1, h2, h⟩ := obind h
  obtain ⟨r3, h4, h⟩ := obind h
  have k := oA 0 (ix25 (o := .no) h2) o0
  obtain ⟨h5, h⟩ := splT h
  obtain ⟨r6, h7, h⟩ := obind h
  have k := oA 1 (ix25 (o := .no) h2) <| oK 1 [] h5 (c140 h4) k
  obtain ⟨h8, h⟩ := splT h
  have k := oA 1 (ix25 (o := .no) h2) <| oK 1 [] h8 (c141 h7) k
  rcases spl h with ⟨h9, h⟩ | ⟨h9, h⟩
  · obtain ⟨r10, h11, h⟩ := obind h
    obtain rfl := sj h
    exact k95 (tF q95 0 [] (oC 0 [] (c142 h11) <| oB 1 h9 k) (by kernel_rfl))
  · have k := oB 1 h9 k
    rcases spl h with ⟨h12, h⟩ | ⟨h12, h⟩
    · obtain ⟨r13, h14, h⟩ := obind h
      obtain rfl := sj h
      exact k95 (tF q95 0 [] (oC 0 [] (c143 h14) <| oB 0 h12 k) (by kernel_rfl))
    · have k := oB 0 h12 k
      rcases spl h with ⟨h15, h⟩ | ⟨h15, h⟩
      · obtain ⟨r16, h17, h⟩ := obind h
        obtain rfl := sj h
        exact k95 (tF q95 0 [] (oC 0 [] (c144 h17) <| oB 0 h15 k) (by kernel_rfl))
      · have k := oB 0 h15 k
        obtain ⟨h18, h⟩ := splT h
        obtain ⟨r19, h20, h⟩ := obind h
        obtain rfl := sj h
        exact k95 (tF q95 0 [] (oC 0 [] (c145 h20) <| oB 0 h18 k) (by kernel_rfl))

end Go.Proofs.YtlbmblbeccafcaaGreat

namespace Go.Proofs.YtlbmblbeccafcaaGreat
open Go Go.Ab

/- scholium/sign.Formed -/
def e58L39192 : Nat → (List Ent) → Int →  Option (Bool)
  | 0, _, _ => none
  | qq + 1, p0, v15 =>
    if decide (v15 < (List.length p0 : Int)) = true then
      (e95 qq p0 v15) >>= fun r8 =>
      if r8 = true then
        e58L39192 qq p0 (w64 (v15 + 1))
      else
        none
    else
      some true
def e58 (qq : Nat) (p0 : List Ent) : Option (Bool) :=
  if decide ((List.length p0 : Int) > 256) = true then
    none
  else
    (e94 qq p0) >>= fun r2 =>
    (e93 qq r2) >>= fun r4 =>
    if r4 = true then
      e58L39192 qq p0 0
    else
      none
def g58L39192E0 (j : Nat → Value) (p0 : List Ent) (v15 : Int) : List AV := sp j 23 0 [(0, .sl (flat entL p0) (List.length p0) .no), (14, ai (List.length p0 : Int)), (15, ai v15)]
def g58L39192S0 (p0 : List Ent) (v15 : Int) : LSt := ⟨[], 0, [], 0, []⟩
theorem q58 : Tryz.prog.funcs[58]? = some Tryz.f58 ∧ Tryz.f58.body.isNone = false := ⟨Tryz.func58, by kernel_rfl⟩
theorem k58 {p0 : List Ent} {r : Bool} (h : CTri Tryz.prog 58 [] [.sl (flat entL p0) (List.length p0) .no] (ab r) [] 0) : CT Tryz.prog 58 [] [.sl (flat entL p0) (List.length p0) .no] (ab r) [] 0 := ⟨h, ⟨⟨trivial, dE _⟩, trivial⟩, forall_nil, trivial, forall_nil⟩
theorem l58L39192 : ∀ qq : Nat, (∀ (p0 : List Ent) (v15 : Int) (r : Bool), e58L39192 qq p0 v15 = some r → (∀ j, Dl Tryz.prog 0 (inn (inn (rgt (lft (rgt (rgt (bod Tryz.f58))))))) (g58L39192E0 j p0 v15) (g58L39192S0 p0 v15) (frameQ Tryz.prog 0 (FinQ Tryz.prog 0 Tryz.f58 (ab r) [] 0) [.blk 0, .seq (rgt (rgt (rgt (bod Tryz.f58))))]))) := by
  intro qq
  induction qq with
  | zero =>
    exact fun _ _ _ h => nn h
  | succ qq ih =>
    intro p0 v15 r h
    rw [e58L39192] at h
    rcases spl h with ⟨h7, h⟩ | ⟨h7, h⟩
    · obtain ⟨r8, h9, h⟩ := obind h
      have k := oB 0 h7 o0
      obtain ⟨h10, h⟩ := splT h
      exact fun j => lH 2 [] [] [] [0, 14, 15] (oD (dE p0) <| oK 0 [] h10 (c95 h9) k) (ih _ _ _ h) (fun j => by kernel_rfl)
    · obtain rfl := sj h
      exact fun j => lF 0 [] (oB 0 h7 o0) (by kernel_rfl)
theorem c58 {qq : Nat} {p0 : List Ent} {r : Bool} (h : e58 qq p0 = some r) : CT Tryz.prog 58 [] [.sl (flat entL p0) (List.length p0) .no] (ab r) [] 0 := by
  unfold e58 at h
  obtain ⟨h1, h⟩ := splF h
  obtain ⟨r2, h3, h⟩ := obind h
  obtain ⟨r4, h5, h⟩ := obind h
  have k := oC 0 [] (c94 h3) <| oB 1 h1 o0
  obtain ⟨h6, h⟩ := splT h
  exact k58 (tH q58 2 [] [] [] [0, 14, 15] (oD (dE p0) <| oK 0 [] h6 (c93 h5) k) (l58L39192 _ _ _ _ h) (fun j => by kernel_rfl))

end Go.Proofs.YtlbmblbeccafcaaGreat

namespace Go.Proofs.YtlbmblbeccafcaaGreat
open Go Go.Ab

/- slices.Clone(()scholium/api.Term,scholium/api.Term) -/
def e162vr0 (qq : Nat) (p0 : List Tm) : Option (Unit) :=
  some ()
theorem q162vr0 : Tryz.prog.funcs[162]? = some Tryz.f162 ∧ Tryz.f162.body.isNone = false := ⟨Tryz.func162, by kernel_rfl⟩
theorem k162vr0 {p0 : List Tm}  (h : CTri Tryz.prog 162 [] [.sl (flat tmCells p0) (List.length p0) .nl] (.sl (flat tmCells ([] : List Tm)) (List.length ([] : List Tm)) .full) [] 0) : CT Tryz.prog 162 [] [.sl (flat tmCells p0) (List.length p0) .nl] (.sl (flat tmCells ([] : List Tm)) (List.length ([] : List Tm)) .full) [] 0 := ⟨h, ⟨⟨trivial, dT _⟩, trivial⟩, forall_nil, dT _, forall_nil⟩
theorem c162vr0 {qq : Nat} {p0 : List Tm} {r : Unit} (h : e162vr0 qq p0 = some r) : CT Tryz.prog 162 [] [.sl (flat tmCells p0) (List.length p0) .nl] (.sl (flat tmCells ([] : List Tm)) (List.length ([] : List Tm)) .full) [] 0 := by
  unfold e162vr0 at h
  obtain rfl := sj h
  exact k162vr0 (tG q162vr0 1 [] [] [] true (oD (dT ([] : List Tm)) o0) (by kernel_rfl) (by decide))

end Go.Proofs.YtlbmblbeccafcaaGreat

namespace Go.Proofs.YtlbmblbeccafcaaGreat
open Go Go.Ab

/- slices.Clone(()scholium/api.Term,scholium/api.Term) -/
def e162vr1 (qq : Nat) (p0 : List Tm) : Option ((Unit) ⊕ (List Tm)) :=
  if decide (List.length p0 = 0) = true then
    some (Sum.inl ())
  else
    (gapp 40 ([] : List Tm) p0) >>= fun l2 =>
    some (Sum.inr l2)
theorem q162vr1 : Tryz.prog.funcs[162]? = some Tryz.f162 ∧ Tryz.f162.body.isNone = false := ⟨Tryz.func162, by kernel_rfl⟩
theorem k162vr1s0 {p0 : List Tm}  (h : CTri Tryz.prog 162 [] [.sl (flat tmCells p0) (List.length p0) .nn] (.sl (flat tmCells ([] : List Tm)) (List.length ([] : List Tm)) .full) [] 0) : CT Tryz.prog 162 [] [.sl (flat tmCells p0) (List.length p0) .nn] (.sl (flat tmCells ([] : List Tm)) (List.length ([] : List Tm)) .full) [] 0 := ⟨h, ⟨⟨trivial, dT _⟩, trivial⟩, forall_nil, dT _, forall_nil⟩
theorem k162vr1s1 {p0 : List Tm} {r : List Tm} (h : CTri Tryz.prog 162 [] [.sl (flat tmCells p0) (List.length p0) .nn] (.ms 0 0 (List.length r) (List.length r) 3) [.row (flat tmCells r)] 0) : CT Tryz.prog 162 [] [.sl (flat tmCells p0) (List.length p0) .nn] (.ms 0 0 (List.length r) (List.length r) 3) [.row (flat tmCells r)] 0 := ⟨h, ⟨⟨trivial, dT _⟩, trivial⟩, forall_nil, (show 0 < 1 by decide), (forall_cons (dT _) forall_nil)⟩
theorem c162vr1 {qq : Nat} {p0 : List Tm} {r : (Unit) ⊕ (List Tm)} (h : e162vr1 qq p0 = some r) : (match (generalizing := false) r with | Sum.inl x => CT Tryz.prog 162 [] [.sl (flat tmCells p0) (List.length p0) .nn] (.sl (flat tmCells ([] : List Tm)) (List.length ([] : List Tm)) .full) [] 0 | Sum.inr x => CT Tryz.prog 162 [] [.sl (flat tmCells p0) (List.length p0) .nn] (.ms 0 0 (List.length x) (List.length x) 3) [.row (flat tmCells x)] 0) := by
  unfold e162vr1 at h
  rcases spl h with ⟨h1, h⟩ | ⟨h1, h⟩
  · obtain rfl := sj h
    exact k162vr1s0 (tG q162vr1 0 [] [] [] true (oD (dT ([] : List Tm)) <| oQ 2 (apQ22 (of_decide_eq_true h1)) o0) (by kernel_rfl) (by decide))
  · obtain ⟨l2, h3, h⟩ := obind h
    obtain rfl := sj h
    exact k162vr1s1 (tF q162vr1 0 [0] (oD (dT l2) <| oM 2 (apW22 h3 (of_decide_eq_false h1)) o0) (by kernel_rfl))

end Go.Proofs.YtlbmblbeccafcaaGreat

namespace Go.Proofs.YtlbmblbeccafcaaGreat
open Go Go.Ab


/- the same, as a row -/
def e162vr (qq : Nat) (p0 : List Tm) : Option (Unit ⊕ List Tm) := if decide (List.length p0 = 0) = true then some (.inl ()) else (gapp 40 [] p0) >>= fun r => some (.inr r)
theorem c162vr {qq : Nat} {p0 : List Tm} {r : Unit ⊕ List Tm} (h : e162vr qq p0 = some r) : (match (generalizing := false) r with | .inl _ => CT Tryz.prog 162 [] [.sl (flat tmCells p0) (List.length p0) .no] (.sl (flat tmCells ([] : List Tm)) (List.length ([] : List Tm)) .full) [] 0 | .inr x => CT Tryz.prog 162 [] [.sl (flat tmCells p0) (List.length p0) .no] (.ms 0 0 (List.length x) (List.length x) 3) [.row (flat tmCells x)] 0) := by
  unfold e162vr at h
  rcases spl h with ⟨h1, h⟩ | ⟨h1, h⟩
  · obtain rfl := sj h
    have hp : p0 = [] := List.length_eq_zero_iff.1 (of_decide_eq_true h1)
    subst hp
    have k0 := c162vr0 (qq := qq) (p0 := []) (r := ()) rfl
    have k1 := c162vr1 (qq := qq) (p0 := []) (r := .inl ()) rfl
    exact ⟨CTri.nilcase (fun _ => k0.tri) k1.tri, ⟨⟨trivial, dT _⟩, trivial⟩, (fun _ h => nomatch h), dT _, (fun _ h => nomatch h)⟩
  · obtain ⟨x, h2, h⟩ := obind h
    obtain rfl := sj h
    have k1 := c162vr1 (qq := qq) (p0 := p0) (r := .inr x) (by unfold e162vr1; rw [if_neg (by rw [h1]; decide), h2]; rfl)
    refine ⟨CTri.nilcase (fun hn => ?_) k1.tri, ⟨⟨trivial, dT _⟩, trivial⟩, (fun _ h => nomatch h), (show 0 < 1 by decide), forall_cons (dT _) forall_nil⟩
    have hp : p0 = [] := flat_nil codecT (by decide) hn
    subst hp
    cases h1

/- a clone, whatever it is of, that may be appended to -/
def e162 (_qq : Nat) (p0 : List Tm) : Option (List Tm) := gapp 40 [] p0
theorem c162 {qq : Nat} {p0 : List Tm} {r : List Tm} (h : e162 qq p0 = some r) : CT Tryz.prog 162 [] [.sl (flat tmCells p0) (List.length p0) .no] (.sl (flat tmCells r) (List.length r) (.st 0 3)) [] 1 := by
  have hr : r = p0 := by have := (gapp_spec h).2; simpa using this
  subst hr
  by_cases h1 : List.length r = 0
  · have hp : r = [] := List.length_eq_zero_iff.1 h1
    subst hp
    exact CT.stampNil (c162vr (qq := qq) (p0 := []) (r := .inl ()) rfl)
  · exact CT.freezeS (c162vr (qq := qq) (p0 := r) (r := .inr r) (by unfold e162vr; rw [if_neg (by simpa using h1), show gapp 40 ([] : List Tm) r = some r from h]; rfl)) (dT _) (flat_len codecT.len _)

end Go.Proofs.YtlbmblbeccafcaaGreat

namespace Go.Proofs.YtlbmblbeccafcaaGreat
open Go Go.Ab

/- scholium/sign.rec -/
def e163 (qq : Nat) (p0 : List Ent) (p1 : Tm) (p2 : Int) (p3 : Int) : Option (Rec') :=
  (e103 qq p1) >>= fun r1 =>
  (e106 qq r1.2.1) >>= fun r3 =>
  if (r1.2.2 != 0) = true then
    none
  else
    if (r3.1.k != 6) = true then
      some (Rec'.mk false [] [])
    else
      if (r3.1.n != p2) = true then
        some (Rec'.mk false [] [])
      else
        (gidx p0 p2) >>= fun x8 =>
        (e199 qq r1.2.1 p2 x8.pars x8.inds (w64 (p3 + (List.length r1.1 : Int)))) >>= fun r10 =>
        if r10 = true then
          (gsl r3.2 x8.pars (List.length r3.2 : Int)) >>= fun x13 =>
          (e162 qq x13) >>= fun r15 =>
          some (Rec'.mk true r1.1 r15)
        else
          none
theorem q163 : Tryz.prog.funcs[163]? = some Tryz.f163 ∧ Tryz.f163.body.isNone = false := ⟨Tryz.func163, by kernel_rfl⟩
theorem k163 {p0 : List Ent} {p1 : Tm} {p2 : Int} {p3 : Int} {r : Rec'} (h : CTri Tryz.prog 163 [] [.sl (flat entL p0) (List.length p0) .no, tmA p1, ai p2, ai p3] (recA r) [] 0) : CT Tryz.prog 163 [] [.sl (flat entL p0) (List.length p0) .no, tmA p1, ai p2, ai p3] (recA r) [] 0 := ⟨h, ⟨⟨trivial, dE _⟩, ⟨trivial, trivial, ⟨trivial, dT _⟩, trivial⟩, trivial, trivial, trivial⟩, forall_nil, ⟨trivial, dT _, dT _, trivial⟩, forall_nil⟩
theorem c163 {qq : Nat} {p0 : List Ent} {p1 : Tm} {p2 : Int} {p3 : Int} {r : Rec'} (h : e163 qq p0 p1 p2 p3 = some r) : CT Tryz.prog 163 [] [.sl (flat entL p0) (List.length p0) .no, tmA p1, ai p2, ai p3] (recA r) [] 0 := by
  unfold e163 at h
  obtain ⟨r1, h2, h⟩ := obind h
  obtain ⟨r3, h4, h⟩ := obind h
  have k := oC 5 [] (c106 h4) <| oC 1 [] (c103 h2) o0
  obtain ⟨h5, h⟩ := splF h
  have k := oB 3 h5 k
  rcases spl h with ⟨h6, h⟩ | ⟨h6, h⟩
  · obtain rfl := sj h
    exact k163 (tF q163 1 [] (oD (dT ([] : List Tm)) <| oD (dT ([] : List Tm)) <| oB 1 h6 k) (by kernel_rfl))
  · have k := oB 1 h6 k
    rcases spl h with ⟨h7, h⟩ | ⟨h7, h⟩
    · obtain rfl := sj h
      exact k163 (tF q163 1 [] (oD (dT ([] : List Tm)) <| oD (dT ([] : List Tm)) <| oB 1 h7 k) (by kernel_rfl))
    · obtain ⟨x8, h9, h⟩ := obind h
      obtain ⟨r10, h11, h⟩ := obind h
      have k := oA 1 (ix25 (o := .no) h9) <| oA 1 (ix25 (o := .no) h9) <| oB 1 h7 k
      obtain ⟨h12, h⟩ := splT h
      obtain ⟨x13, h14, h⟩ := obind h
      obtain ⟨r15, h16, h⟩ := obind h
      obtain rfl := sj h
      exact k163 (tF q163 1 [] (oD (dT r15) <| oD (dT r1.1) <| oC 0 [] (c162 h16) <| oA 1 (slFrom22 h14) <| oA 1 (ix25 (o := .no) h9) <| oK 3 [] h12 (c199 h11) k) (by kernel_rfl))

end Go.Proofs.YtlbmblbeccafcaaGreat

namespace Go.Proofs.YtlbmblbeccafcaaGreat
open Go Go.Ab

/- scholium/sign.parts -/
def e113L43048 : Nat → (List Ent) → Ent → (List Tm) → (List Tm) → Int → (List Rec') →  Option (Con')
  | 0, _, _, _, _, _, _ => none
  | qq + 1, p0, x1, x7, r11, v43, vb2_2 =>
    if decide (v43 < (List.length x7 : Int)) = true then
      (gidx x7 v43) >>= fun x14 =>
      (e163 qq p0 x14 x1.fam (w64 (x1.pars + v43))) >>= fun r16 =>
      (gapp 56 vb2_2 [r16]) >>= fun l18 =>
      e113L43048 qq p0 x1 x7 r11 (w64 (v43 + 1)) l18
    else
      some (Con'.mk x7 r11 vb2_2)
def e113 (qq : Nat) (p0 : List Ent) (p1 : Int) : Option (Con') :=
  (gidx p0 p1) >>= fun x1 =>
  (e103 qq x1.type) >>= fun r3 =>
  (e106 qq r3.2.1) >>= fun r5 =>
  (gsl r3.1 x1.pars (List.length r3.1 : Int)) >>= fun x7 =>
  (gsl r5.2 x1.pars (List.length r5.2 : Int)) >>= fun x9 =>
  (e162 qq x9) >>= fun r11 =>
  e113L43048 qq p0 x1 x7 r11 0 []
def g113L43048E0 (j : Nat → Value) (p0 : List Ent) (x1 : Ent) (x7 : List Tm) (r11 : List Tm) (v43 : Int) (vb2_2 : List Rec') : List AV := sp j 64 0 [(0, .sl (flat entL p0) (List.length p0) .no), (4, .mp 0 0), (5, .mp 1 0), (11, .mp 2 0), (41, .sl (flat tmCells x7) (List.length x7) .no), (42, ai (List.length x7 : Int)), (43, ai v43)]
def g113L43048S0 (p0 : List Ent) (x1 : Ent) (x7 : List Tm) (r11 : List Tm) (v43 : Int) (vb2_2 : List Rec') : LSt := ⟨[(0, .cells [.sl (flat tmCells ([] : List Tm)) (List.length ([] : List Tm)) .nl, .sl (flat tmCells ([] : List Tm)) (List.length ([] : List Tm)) .nl, .sl (flat recL ([] : List Rec')) (List.length ([] : List Rec')) .nl]), (1, .cells [ai x1.kind, at' x1.name, ai x1.type.k, ai x1.type.n, .sl (flat tmCells x1.type.sub) (List.length x1.type.sub) .no, ai x1.body.k, ai x1.body.n, .sl (flat tmCells x1.body.sub) (List.length x1.body.sub) .no, ai x1.fam, ai x1.place, ai x1.pars, ai x1.inds, ai x1.level, .sl (flat intC x1.cons) (List.length x1.cons) .no, .sl (flat intC x1.fields) (List.length x1.fields) .no]), (2, .cells [.sl (flat tmCells x7) (List.length x7) .no, .sl (flat tmCells r11) (List.length r11) (.st 0 3), .sl (flat recL vb2_2) (List.length vb2_2) (.st 1 3)])], 3, [0, 1], 2, []⟩
theorem q113 : Tryz.prog.funcs[113]? = some Tryz.f113 ∧ Tryz.f113.body.isNone = false := ⟨Tryz.func113, by kernel_rfl⟩
theorem k113 {p0 : List Ent} {p1 : Int} {r : Con'} (h : CTri Tryz.prog 113 [] [.sl (flat entL p0) (List.length p0) .no, ai p1] (conA r) [] 0) : CT Tryz.prog 113 [] [.sl (flat entL p0) (List.length p0) .no, ai p1] (conA r) [] 0 := ⟨h, ⟨⟨trivial, dE _⟩, trivial, trivial⟩, forall_nil, ⟨dT _, dT _, dR _, trivial⟩, forall_nil⟩
theorem l113L43048 : ∀ qq : Nat, (∀ (p0 : List Ent) (x1 : Ent) (x7 : List Tm) (r11 : List Tm) (v43 : Int) (vb2_2 : List Rec') (r : Con'), e113L43048 qq p0 x1 x7 r11 v43 vb2_2 = some r → (∀ j, Dl Tryz.prog 0 (inn (inn (rgt (lft (rgt (rgt (rgt (rgt (rgt (bod Tryz.f113)))))))))) (g113L43048E0 j p0 x1 x7 r11 v43 vb2_2) (g113L43048S0 p0 x1 x7 r11 v43 vb2_2) (frameQ Tryz.prog 0 (FinQ Tryz.prog 0 Tryz.f113 (conA r) [] 0) [.blk 0, .seq (rgt (rgt (rgt (rgt (rgt (rgt (bod Tryz.f113)))))))]))) := by
  intro qq
  induction qq with
  | zero =>
    exact fun _ _ _ _ _ _ _ h => nn h
  | succ qq ih =>
    intro p0 x1 x7 r11 v43 vb2_2 r h
    rw [e113L43048] at h
    rcases spl h with ⟨h13, h⟩ | ⟨h13, h⟩
    · obtain ⟨x14, h15, h⟩ := obind h
      obtain ⟨r16, h17, h⟩ := obind h
      obtain ⟨l18, h19, h⟩ := obind h
      exact fun j => lH 2 [] [0, 1, 2] [0, 2] [0, 4, 5, 11, 41, 42, 43] (oD (dT x7) <| oD (dE p0) <| oD (dR l18) <| oD (dT r11) <| oD (dT x7) <| oD (dI x1.fields) <| oD (dI x1.cons) <| oD (dT x1.body.sub) <| oD (dT x1.type.sub) <| oD (dR ([] : List Rec')) <| oD (dT ([] : List Tm)) <| oD (dT ([] : List Tm)) <| oP 1 (apS199 h19 (by simp)) <| oC 7 [] (c163 h17) <| oA 0 (ix22 (o := .no) h15) <| oB 0 h13 o0) (ih _ _ _ _ _ _ _ h) (fun j => by kernel_rfl)
    · obtain rfl := sj h
      exact fun j => lF 2 [] (oD (dR vb2_2) <| oD (dT r11) <| oD (dT x7) <| oB 0 h13 o0) (by kernel_rfl)
theorem c113 {qq : Nat} {p0 : List Ent} {p1 : Int} {r : Con'} (h : e113 qq p0 p1 = some r) : CT Tryz.prog 113 [] [.sl (flat entL p0) (List.length p0) .no, ai p1] (conA r) [] 0 := by
  unfold e113 at h
  obtain ⟨x1, h2, h⟩ := obind h
  obtain ⟨r3, h4, h⟩ := obind h
  obtain ⟨r5, h6, h⟩ := obind h
  obtain ⟨x7, h8, h⟩ := obind h
  obtain ⟨x9, h10, h⟩ := obind h
  obtain ⟨r11, h12, h⟩ := obind h
  exact k113 (tH q113 3 [(some 4, 2, 3)] [0, 1, 4] [0, 1] [0, 4, 5, 11, 41, 42, 43] (oD (dT x7) <| oD (dE p0) <| oD (dR ([] : List Rec')) <| oD (dT r11) <| oD (dT x7) <| oD (dI x1.fields) <| oD (dI x1.cons) <| oD (dT x1.body.sub) <| oD (dT x1.type.sub) <| oD (dR ([] : List Rec')) <| oD (dT ([] : List Tm)) <| oD (dT ([] : List Tm)) <| oC 0 [] (c162 h12) <| oA 1 (slFrom22 h10) <| oA 4 (slFrom22 h8) <| oC 5 [] (c106 h6) <| oC 3 [] (c103 h4) <| oA 0 (ix25 (o := .no) h2) o0) (l113L43048 _ _ _ _ _ _ _ _ h) (fun j => by kernel_rfl))

end Go.Proofs.YtlbmblbeccafcaaGreat

namespace Go.Proofs.YtlbmblbeccafcaaGreat
open Go Go.Ab

/- scholium/sign.Every -/
def e68L44439 : Nat → (List Ent) → (List Con') → Int → (List Con') →  Option (List Con' × Int)
  | 0, _, _, _, _ => none
  | qq + 1, p0, x4, v14, vb0_0 =>
    if decide (v14 < (List.length p0 : Int)) = true then
      (gidx p0 v14) >>= fun x7 =>
      if (x7.kind == 2) = true then
        (e113 qq p0 v14) >>= fun r10 =>
        (gchk (List.length x4) v14) >>= fun x12 =>
        (gset vb0_0 x12 r10) >>= fun x14 =>
        e68L44439 qq p0 x4 (w64 (v14 + 1)) x14
      else
        e68L44439 qq p0 x4 (w64 (v14 + 1)) vb0_0
    else
      (gfz (List.length x4) vb0_0) >>= fun l16 =>
      some (l16, 0)
def e68 (qq : Nat) (p0 : List Ent) : Option (List Con' × Int) :=
  (e58 qq p0) >>= fun r1 =>
  if r1 = true then
    (gmk 72 (default : Con') (List.length p0 : Int)) >>= fun x4 =>
    e68L44439 qq p0 x4 0 x4
  else
    none
def g68L44439E0 (j : Nat → Value) (p0 : List Ent) (x4 : List Con') (v14 : Int) (vb0_0 : List Con') : List AV := sp j 31 0 [(0, .sl (flat entL p0) (List.length p0) .no), (4, .ms 0 0 (List.length x4) (List.length x4) 3), (13, ai (List.length p0 : Int)), (14, ai v14)]
def g68L44439S0 (p0 : List Ent) (x4 : List Con') (v14 : Int) (vb0_0 : List Con') : LSt := ⟨[(0, .row (flat conL vb0_0))], 1, [], 0, []⟩
theorem q68 : Tryz.prog.funcs[68]? = some Tryz.f68 ∧ Tryz.f68.body.isNone = false := ⟨Tryz.func68, by kernel_rfl⟩
theorem k68 {p0 : List Ent} {r : List Con' × Int} (h : CTri Tryz.prog 68 [] [.sl (flat entL p0) (List.length p0) .no] (.tup [.ms 0 0 (List.length r.1) (List.length r.1) 3, ai r.2]) [.row (flat conL r.1)] 0) : CT Tryz.prog 68 [] [.sl (flat entL p0) (List.length p0) .no] (.tup [.ms 0 0 (List.length r.1) (List.length r.1) 3, ai r.2]) [.row (flat conL r.1)] 0 := ⟨h, ⟨⟨trivial, dE _⟩, trivial⟩, forall_nil, ⟨(show 0 < 1 by decide), trivial, trivial⟩, (forall_cons (dC _) forall_nil)⟩
theorem l68L44439 : ∀ qq : Nat, (∀ (p0 : List Ent) (x4 : List Con') (v14 : Int) (vb0_0 : List Con') (r : List Con' × Int), e68L44439 qq p0 x4 v14 vb0_0 = some r → (∀ j, Dl Tryz.prog 0 (inn (inn (rgt (lft (rgt (rgt (rgt (bod Tryz.f68)))))))) (g68L44439E0 j p0 x4 v14 vb0_0) (g68L44439S0 p0 x4 v14 vb0_0) (frameQ Tryz.prog 0 (FinQ Tryz.prog 0 Tryz.f68 (.tup [.ms 0 0 (List.length r.1) (List.length r.1) 3, ai r.2]) [.row (flat conL r.1)] 0) [.blk 0, .seq (rgt (rgt (rgt (rgt (bod Tryz.f68)))))]))) := by
  intro qq
  induction qq with
  | zero =>
    exact fun _ _ _ _ _ h => nn h
  | succ qq ih =>
    intro p0 x4 v14 vb0_0 r h
    rw [e68L44439] at h
    rcases spl h with ⟨h6, h⟩ | ⟨h6, h⟩
    · obtain ⟨x7, h8, h⟩ := obind h
      have k := oA 0 (ix25 (o := .no) h8) <| oB 0 h6 o0
      rcases spl h with ⟨h9, h⟩ | ⟨h9, h⟩
      · obtain ⟨r10, h11, h⟩ := obind h
        obtain ⟨x12, h13, h⟩ := obind h
        obtain ⟨x14, h15, h⟩ := obind h
        exact fun j => lH 1 [] [0] [] [0, 4, 13, 14] (oD (dE p0) <| oD (dC x14) <| oW 0 (wtE (x := r10) (cs := [.sl (flat tmCells r10.args) (List.length r10.args) .no, .sl (flat tmCells r10.inds) (List.length r10.inds) .no, .sl (flat recL r10.recs) (List.length r10.recs) .no]) codecC rfl h15) <| oA 0 (ixM147 (b := 0) (c := List.length x4) (z := 3) h13) <| oC 0 [] (c113 h11) <| oB 1 h9 k) (ih _ _ _ _ _ h) (fun j => by kernel_rfl)
      · exact fun j => lH 1 [] [0] [] [0, 4, 13, 14] (oD (dE p0) <| oD (dC vb0_0) <| oB 1 h9 k) (ih _ _ _ _ _ h) (fun j => by kernel_rfl)
    · obtain ⟨l16, h17, h⟩ := obind h
      obtain ⟨h17a, h17b⟩ := gfz_spec h17
      obtain rfl := sj h
      obtain rfl := h17a.symm
      dsimp only
      rw [← h17b]
      exact fun j => lF 0 [0] (oD (dC vb0_0) <| oB 0 h6 o0) (by kernel_rfl)
theorem c68r {qq : Nat} {p0 : List Ent} {r : List Con' × Int} (h : e68 qq p0 = some r) : CT Tryz.prog 68 [] [.sl (flat entL p0) (List.length p0) .no] (.tup [.ms 0 0 (List.length r.1) (List.length r.1) 3, ai r.2]) [.row (flat conL r.1)] 0 := by
  unfold e68 at h
  obtain ⟨r1, h2, h⟩ := obind h
  obtain ⟨h3, h⟩ := splT h
  obtain ⟨x4, h5, h⟩ := obind h
  exact k68 (tH q68 1 [] [0] [] [0, 4, 13, 14] (oD (dE p0) <| oD (dC x4) <| oM 2 (mkM147 h5) <| oK 0 [] h3 (c58 h2) o0) (l68L44439 _ _ _ _ _ _ h) (fun j => by kernel_rfl))
theorem c68 {qq : Nat} {p0 : List Ent} {r : List Con' × Int} (h : e68 qq p0 = some r) : CT Tryz.prog 68 [] [.sl (flat entL p0) (List.length p0) .no] (.tup [.sl (flat conL r.1) (List.length r.1) .no, ai r.2]) [] 0 := by
  have k := c68r h
  exact CT.freeze (H1 := []) (cs := flat conL r.1) (res' := (.tup [.sl (flat conL r.1) (List.length r.1) .no, ai r.2])) k (Nat.le_of_ble_eq_true rfl) forall_nil (dC _) ⟨(.inl ⟨rfl, rfl⟩), trivial, trivial⟩ (by rfl) rfl

end Go.Proofs.YtlbmblbeccafcaaGreat

namespace Go.Proofs.YtlbmblbeccafcaaGreat
open Go Go.Ab

/- scholium/iota.New -/
def e37 (qq : Nat) (p0 : List Ent) : Option (Int × List Ent × List Con') :=
  (e38 qq p0) >>= fun r1 =>
  (e58 qq p0) >>= fun r3 =>
  if r3 = true then
    (e68 qq r1) >>= fun r6 =>
    if (r6.2 != 0) = true then
      none
    else
      some (0, r1, r6.1)
  else
    none
theorem q37 : Tryz.prog.funcs[37]? = some Tryz.f37 ∧ Tryz.f37.body.isNone = false := ⟨Tryz.func37, by kernel_rfl⟩
theorem k37 {p0 : List Ent} {r : Int × List Ent × List Con'} (h : CTri Tryz.prog 37 [] [.sl (flat entL p0) (List.length p0) .no] (.tup [.mp 0 0, ai r.1]) [.cells [.sl (flat entL r.2.1) (List.length r.2.1) .no, .sl (flat conL r.2.2) (List.length r.2.2) .no]] 0) : CT Tryz.prog 37 [] [.sl (flat entL p0) (List.length p0) .no] (.tup [.mp 0 0, ai r.1]) [.cells [.sl (flat entL r.2.1) (List.length r.2.1) .no, .sl (flat conL r.2.2) (List.length r.2.2) .no]] 0 := ⟨h, ⟨⟨trivial, dE _⟩, trivial⟩, forall_nil, ⟨(show 0 < 1 by decide), trivial, trivial⟩, (forall_cons ⟨dE _, dC _, trivial⟩ forall_nil)⟩
theorem c37 {qq : Nat} {p0 : List Ent} {r : Int × List Ent × List Con'} (h : e37 qq p0 = some r) : CT Tryz.prog 37 [] [.sl (flat entL p0) (List.length p0) .no] (.tup [.mp 0 0, ai r.1]) [.cells [.sl (flat entL r.2.1) (List.length r.2.1) .no, .sl (flat conL r.2.2) (List.length r.2.2) .no]] 0 := by
  unfold e37 at h
  obtain ⟨r1, h2, h⟩ := obind h
  obtain ⟨r3, h4, h⟩ := obind h
  have k := oC 0 [] (c38 h2) o0
  obtain ⟨h5, h⟩ := splT h
  obtain ⟨r6, h7, h⟩ := obind h
  have k := oC 1 [] (c68 h7) <| oK 0 [] h5 (c58 h4) k
  obtain ⟨h8, h⟩ := splF h
  obtain rfl := sj h
  exact k37 (tF q37 0 [0] (oD (dC r6.1) <| oD (dE r1) <| oB 2 h8 k) (by kernel_rfl))

end Go.Proofs.YtlbmblbeccafcaaGreat

namespace Go.Proofs.YtlbmblbeccafcaaGreat
open Go Go.Ab

/- scholium/whnf.New -/
mutual
def e11L61040 : Nat → (List Ent) → (Int × List Ent × List Con') → (List Ent) → Int → (List Int) → (List Int) →  Option (Int × List Ent × List Int × List Int × List Ent × List Con')
  | 0, _, _, _, _, _, _ => none
  | qq + 1, p0, r1, r4, v27, vb0_2, vb0_3 =>
    if decide (v27 < (List.length p0 : Int)) = true then
      (gidx p0 v27) >>= fun x7 =>
      if (x7.kind == 1) = true then
        (gapp 8 vb0_2 [(w64 ((w64 ((w64 (x7.pars + 2)) + (List.length x7.cons : Int))) + x7.inds))]) >>= fun l10 =>
        (gapp 8 vb0_3 [0]) >>= fun l12 =>
        e11L61040 qq p0 r1 r4 (w64 (v27 + 1)) l10 l12
      else
        if (x7.kind == 2) = true then
          e11L55979 qq p0 r1 r4 v27 vb0_2 vb0_3 0 x7.type.k x7.type.n x7.type.sub
        else
          (gapp 8 vb0_2 [0]) >>= fun l15 =>
          (gapp 8 vb0_3 [0]) >>= fun l17 =>
          e11L61040 qq p0 r1 r4 (w64 (v27 + 1)) l15 l17
    else
      some (0, r4, vb0_2, vb0_3, r1.2.1, r1.2.2)
def e11L55979 : Nat → (List Ent) → (Int × List Ent × List Con') → (List Ent) → Int → (List Int) → (List Int) → Int → Int → Int → (List Tm) →  Option (Int × List Ent × List Int × List Int × List Ent × List Con')
  | 0, _, _, _, _, _, _, _, _, _, _ => none
  | qq + 1, p0, r1, r4, v27, vb0_2, vb0_3, v10, vb1_0, vb1_1, vb1_2 =>
    if (vb1_0 == 3) = true then
      (gidx vb1_2 1) >>= fun x16 =>
      e11L55979 qq p0 r1 r4 v27 vb0_2 vb0_3 (w64 (v10 + 1)) x16.k x16.n x16.sub
    else
      (gapp 8 vb0_2 [0]) >>= fun l18 =>
      (gapp 8 vb0_3 [v10]) >>= fun l20 =>
      e11L61040 qq p0 r1 r4 (w64 (v27 + 1)) l18 l20
end
def e11 (qq : Nat) (p0 : List Ent) : Option (Int × List Ent × List Int × List Int × List Ent × List Con') :=
  (e37 qq p0) >>= fun r1 =>
  if (r1.1 != 0) = true then
    none
  else
    (e38 qq p0) >>= fun r4 =>
    e11L61040 qq p0 r1 r4 0 [] []
def g11L61040E0 (j : Nat → Value) (p0 : List Ent) (r1 : Int × List Ent × List Con') (r4 : List Ent) (v27 : Int) (vb0_2 : List Int) (vb0_3 : List Int) : List AV := sp j 81 0 [(6, .mp 0 0), (25, .sl (flat entL p0) (List.length p0) .no), (26, ai (List.length p0 : Int)), (27, ai v27)]
def g11L61040S0 (p0 : List Ent) (r1 : Int × List Ent × List Con') (r4 : List Ent) (v27 : Int) (vb0_2 : List Int) (vb0_3 : List Int) : LSt := ⟨[(0, .cells [.sl (flat entL r4) (List.length r4) .no, .mp 1 0, .sl (flat intC vb0_2) (List.length vb0_2) (.st 0 1), .sl (flat intC vb0_3) (List.length vb0_3) (.st 1 1)]), (1, .cells [.sl (flat entL r1.2.1) (List.length r1.2.1) .no, .sl (flat conL r1.2.2) (List.length r1.2.2) .no])], 2, [0, 1], 2, []⟩
def g11L55979E0 (j : Nat → Value) (p0 : List Ent) (r1 : Int × List Ent × List Con') (r4 : List Ent) (v27 : Int) (vb0_2 : List Int) (vb0_3 : List Int) (v10 : Int) (vb1_0 : Int) (vb1_1 : Int) (vb1_2 : List Tm) : List AV := sp j 81 0 [(6, .mp 0 0), (9, ai 0), (10, ai v10), (11, .mp 1 0), (25, .sl (flat entL p0) (List.length p0) .no), (26, ai (List.length p0 : Int)), (27, ai v27)]
def g11L55979S0 (p0 : List Ent) (r1 : Int × List Ent × List Con') (r4 : List Ent) (v27 : Int) (vb0_2 : List Int) (vb0_3 : List Int) (v10 : Int) (vb1_0 : Int) (vb1_1 : Int) (vb1_2 : List Tm) : LSt := ⟨[(0, .cells [.sl (flat entL r4) (List.length r4) .no, .mp 2 0, .sl (flat intC vb0_2) (List.length vb0_2) (.st 0 1), .sl (flat intC vb0_3) (List.length vb0_3) (.st 1 1)]), (1, .cells [ai vb1_0, ai vb1_1, .sl (flat tmCells vb1_2) (List.length vb1_2) .no]), (2, .cells [.sl (flat entL r1.2.1) (List.length r1.2.1) .no, .sl (flat conL r1.2.2) (List.length r1.2.2) .no])], 3, [0, 1], 2, []⟩
theorem q11 : Tryz.prog.funcs[11]? = some Tryz.f11 ∧ Tryz.f11.body.isNone = false := ⟨Tryz.func11, by kernel_rfl⟩
theorem k11 {p0 : List Ent} {r : Int × List Ent × List Int × List Int × List Ent × List Con'} (h : CTri Tryz.prog 11 [] [.sl (flat entL p0) (List.length p0) .no] (.tup [.mp 0 0, ai r.1]) [.cells [.sl (flat entL r.2.1) (List.length r.2.1) .no, .mp 1 0, .sl (flat intC r.2.2.1) (List.length r.2.2.1) .no, .sl (flat intC r.2.2.2.1) (List.length r.2.2.2.1) .no], .cells [.sl (flat entL r.2.2.2.2.1) (List.length r.2.2.2.2.1) .no, .sl (flat conL r.2.2.2.2.2) (List.length r.2.2.2.2.2) .no]] 0) : CT Tryz.prog 11 [] [.sl (flat entL p0) (List.length p0) .no] (.tup [.mp 0 0, ai r.1]) [.cells [.sl (flat entL r.2.1) (List.length r.2.1) .no, .mp 1 0, .sl (flat intC r.2.2.1) (List.length r.2.2.1) .no, .sl (flat intC r.2.2.2.1) (List.length r.2.2.2.1) .no], .cells [.sl (flat entL r.2.2.2.2.1) (List.length r.2.2.2.2.1) .no, .sl (flat conL r.2.2.2.2.2) (List.length r.2.2.2.2.2) .no]] 0 := ⟨h, ⟨⟨trivial, dE _⟩, trivial⟩, forall_nil, ⟨(show 0 < 2 by decide), trivial, trivial⟩, (forall_cons ⟨dE _, (show 1 < 2 by decide), dI _, dI _, trivial⟩ (forall_cons ⟨dE _, dC _, trivial⟩ forall_nil))⟩
theorem a11L61040_11L55979 : ∀ qq : Nat, (∀ (p0 : List Ent) (r1 : Int × List Ent × List Con') (r4 : List Ent) (v27 : Int) (vb0_2 : List Int) (vb0_3 : List Int) (r : Int × List Ent × List Int × List Int × List Ent × List Con'), e11L61040 qq p0 r1 r4 v27 vb0_2 vb0_3 = some r → (∀ j, Dl Tryz.prog 0 (inn (inn (rgt (lft (rgt (rgt (rgt (rgt (bod Tryz.f11))))))))) (g11L61040E0 j p0 r1 r4 v27 vb0_2 vb0_3) (g11L61040S0 p0 r1 r4 v27 vb0_2 vb0_3) (frameQ Tryz.prog 0 (FinQ Tryz.prog 0 Tryz.f11 (.tup [.mp 0 0, ai r.1]) [.cells [.sl (flat entL r.2.1) (List.length r.2.1) .no, .mp 1 0, .sl (flat intC r.2.2.1) (List.length r.2.2.1) .no, .sl (flat intC r.2.2.2.1) (List.length r.2.2.2.1) .no], .cells [.sl (flat entL r.2.2.2.2.1) (List.length r.2.2.2.2.1) .no, .sl (flat conL r.2.2.2.2.2) (List.length r.2.2.2.2.2) .no]] 0) [.blk 0, .seq (rgt (rgt (rgt (rgt (rgt (bod Tryz.f11))))))]))) ∧ (∀ (p0 : List Ent) (r1 : Int × List Ent × List Con') (r4 : List Ent) (v27 : Int) (vb0_2 : List Int) (vb0_3 : List Int) (v10 : Int) (vb1_0 : Int) (vb1_1 : Int) (vb1_2 : List Tm) (r : Int × List Ent × List Int × List Int × List Ent × List Con'), e11L55979 qq p0 r1 r4 v27 vb0_2 vb0_3 v10 vb1_0 vb1_1 vb1_2 = some r → (∀ j, Dl Tryz.prog 0 (inn (inn (rgt (lft (rgt (rgt (rgt (inn (rgt (lft (rgt (rgt (inn (lft (rgt (rgt (inn (inn (rgt (lft (rgt (rgt (rgt (rgt (bod Tryz.f11))))))))))))))))))))))))) (g11L55979E0 j p0 r1 r4 v27 vb0_2 vb0_3 v10 vb1_0 vb1_1 vb1_2) (g11L55979S0 p0 r1 r4 v27 vb0_2 vb0_3 v10 vb1_0 vb1_1 vb1_2) (frameQ Tryz.prog 0 (FinQ Tryz.prog 0 Tryz.f11 (.tup [.mp 0 0, ai r.1]) [.cells [.sl (flat entL r.2.1) (List.length r.2.1) .no, .mp 1 0, .sl (flat intC r.2.2.1) (List.length r.2.2.1) .no, .sl (flat intC r.2.2.2.1) (List.length r.2.2.2.1) .no], .cells [.sl (flat entL r.2.2.2.2.1) (List.length r.2.2.2.2.1) .no, .sl (flat conL r.2.2.2.2.2) (List.length r.2.2.2.2.2) .no]] 0) [.blk 3, .blk 2, .seq (rgt (rgt (rgt (inn (lft (rgt (rgt (inn (inn (rgt (lft (rgt (rgt (rgt (rgt (bod Tryz.f11)))))))))))))))), .blk 1, .seq (rgt (rgt (rgt (inn (inn (rgt (lft (rgt (rgt (rgt (rgt (bod Tryz.f11)))))))))))), .loop (inn (inn (rgt (lft (rgt (rgt (rgt (rgt (bod Tryz.f11))))))))), .blk 0, .seq (rgt (rgt (rgt (rgt (rgt (bod Tryz.f11))))))]))) := by
  intro qq
  induction qq with
  | zero =>
    exact ⟨fun _ _ _ _ _ _ _ h => nn h, fun _ _ _ _ _ _ _ _ _ _ _ h => nn h⟩
  | succ qq ih =>
    obtain ⟨ih11L61040, ih11L55979⟩ := ih
    refine ⟨?_, ?_⟩
    · intro p0 r1 r4 v27 vb0_2 vb0_3 r h
      rw [e11L61040] at h
      rcases spl h with ⟨h6, h⟩ | ⟨h6, h⟩
      · obtain ⟨x7, h8, h⟩ := obind h
        have k := oA 0 (ix25 (o := .no) h8) <| oB 0 h6 o0
        rcases spl h with ⟨h9, h⟩ | ⟨h9, h⟩
        · obtain ⟨l10, h11, h⟩ := obind h
          obtain ⟨l12, h13, h⟩ := obind h
          exact fun j => lH 3 [] [0, 1] [2, 3] [6, 25, 26, 27] (oD (dE p0) <| oD (dC r1.2.2) <| oD (dE r1.2.1) <| oD (dI l12) <| oD (dI l10) <| oD (dE r4) <| oP 2 (apS37 h13 (by simp)) <| oP 9 (apS37 h11 (by simp)) <| oB 3 h9 k) (ih11L61040 _ _ _ _ _ _ _ h) (fun j => by kernel_rfl)
        · have k := oB 3 h9 k
          rcases spl h with ⟨h14, h⟩ | ⟨h14, h⟩
          · exact fun j => lH 2 [] [0, 3, 1] [0, 1] [6, 9, 10, 11, 25, 26, 27] (oD (dE p0) <| oD (dC r1.2.2) <| oD (dE r1.2.1) <| oD (dT x7.type.sub) <| oD (dI vb0_3) <| oD (dI vb0_2) <| oD (dE r4) <| oB 0 h14 k) (ih11L55979 _ _ _ _ _ _ _ _ _ _ _ h) (fun j => by kernel_rfl)
          · obtain ⟨l15, h16, h⟩ := obind h
            obtain ⟨l17, h18, h⟩ := obind h
            exact fun j => lH 3 [] [0, 1] [2, 3] [6, 25, 26, 27] (oD (dE p0) <| oD (dC r1.2.2) <| oD (dE r1.2.1) <| oD (dI l17) <| oD (dI l15) <| oD (dE r4) <| oP 2 (apS37 h18 (by simp)) <| oP 2 (apS37 h16 (by simp)) <| oB 0 h14 k) (ih11L61040 _ _ _ _ _ _ _ h) (fun j => by kernel_rfl)
      · obtain rfl := sj h
        exact fun j => lF 0 [0, 1] (oD (dC r1.2.2) <| oD (dE r1.2.1) <| oD (dI vb0_3) <| oD (dI vb0_2) <| oD (dE r4) <| oB 0 h6 o0) (by kernel_rfl)
    · intro p0 r1 r4 v27 vb0_2 vb0_3 v10 vb1_0 vb1_1 vb1_2 r h
      rw [e11L55979] at h
      rcases spl h with ⟨h15, h⟩ | ⟨h15, h⟩
      · obtain ⟨x16, h17, h⟩ := obind h
        exact fun j => lH 2 [] [0, 3, 2] [0, 1] [6, 9, 10, 11, 25, 26, 27] (oD (dE p0) <| oD (dC r1.2.2) <| oD (dE r1.2.1) <| oD (dT x16.sub) <| oD (dI vb0_3) <| oD (dI vb0_2) <| oD (dE r4) <| oA 4 (ix22 (o := .no) h17) <| oB 1 h15 o0) (ih11L55979 _ _ _ _ _ _ _ _ _ _ _ h) (fun j => by kernel_rfl)
      · obtain ⟨l18, h19, h⟩ := obind h
        obtain ⟨l20, h21, h⟩ := obind h
        exact fun j => lH 3 [] [0, 2] [2, 3] [6, 25, 26, 27] (oD (dE p0) <| oD (dC r1.2.2) <| oD (dE r1.2.1) <| oD (dI l20) <| oD (dI l18) <| oD (dE r4) <| oP 2 (apS37 h21 (by simp)) <| oP 2 (apS37 h19 (by simp)) <| oB 1 h15 o0) (ih11L61040 _ _ _ _ _ _ _ h) (fun j => by kernel_rfl)
theorem c11 {qq : Nat} {p0 : List Ent} {r : Int × List Ent × List Int × List Int × List Ent × List Con'} (h : e11 qq p0 = some r) : CT Tryz.prog 11 [] [.sl (flat entL p0) (List.length p0) .no] (.tup [.mp 0 0, ai r.1]) [.cells [.sl (flat entL r.2.1) (List.length r.2.1) .no, .mp 1 0, .sl (flat intC r.2.2.1) (List.length r.2.2.1) .no, .sl (flat intC r.2.2.2.1) (List.length r.2.2.2.1) .no], .cells [.sl (flat entL r.2.2.2.2.1) (List.length r.2.2.2.2.1) .no, .sl (flat conL r.2.2.2.2.2) (List.length r.2.2.2.2.2) .no]] 0 := by
  unfold e11 at h
  obtain ⟨r1, h2, h⟩ := obind h
  have k := oC 0 [] (c37 h2) o0
  obtain ⟨h3, h⟩ := splF h
  obtain ⟨r4, h5, h⟩ := obind h
  exact k11 (tH q11 1 [(some 1, 2, 1), (some 1, 3, 1)] [1, 0] [0, 1] [6, 25, 26, 27] (oD (dE p0) <| oD (dC r1.2.2) <| oD (dE r1.2.1) <| oD (dI ([] : List Int)) <| oD (dI ([] : List Int)) <| oD (dE r4) <| oC 0 [] (c38 h5) <| oB 2 h3 k) (((a11L61040_11L55979 _).1) _ _ _ _ _ _ _ h) (fun j => by kernel_rfl))

end Go.Proofs.YtlbmblbeccafcaaGreat

namespace Go.Proofs.YtlbmblbeccafcaaGreat
open Go Go.Ab

/- (*sync/atomic.Int64).Store -/
def e39va12063 (qq : Nat) (q0 : Int) (q1 : Int) (p1 : Int) : Option (Int) :=
  some p1
theorem q39va12063 : Tryz.prog.funcs[39]? = some Tryz.f39 ∧ Tryz.f39.body.isNone = false := ⟨Tryz.func39, by kernel_rfl⟩
theorem k39va12063 {q0 : Int} {q1 : Int} {p1 : Int} {r : Int} (h : CTri Tryz.prog 39 [.cells [ai q0, ai q1]] [.mp 0 0, ai p1] (.tup []) [.cells [ai r, ai q1]] 0) : CT Tryz.prog 39 [.cells [ai q0, ai q1]] [.mp 0 0, ai p1] (.tup []) [.cells [ai r, ai q1]] 0 := ⟨h, ⟨(show 0 < 1 by decide), trivial, trivial⟩, (forall_cons ⟨trivial, trivial, trivial⟩ forall_nil), trivial, (forall_cons ⟨trivial, trivial, trivial⟩ forall_nil)⟩
theorem c39va12063 {qq : Nat} {q0 : Int} {q1 : Int} {p1 : Int} {r : Int} (h : e39va12063 qq q0 q1 p1 = some r) : CT Tryz.prog 39 [.cells [ai q0, ai q1]] [.mp 0 0, ai p1] (.tup []) [.cells [ai r, ai q1]] 0 := by
  unfold e39va12063 at h
  obtain rfl := sj h
  exact k39va12063 (tF q39va12063 1 [0] (o0) (by kernel_rfl))

end Go.Proofs.YtlbmblbeccafcaaGreat

namespace Go.Proofs.YtlbmblbeccafcaaGreat
open Go Go.Ab

/- scholium/meter.New -/
def e12 (qq : Nat) (p0 : Int) : Option (Int × Int × Int) :=
  if decide (p0 < 0) = true then
    none
  else
    if decide (p0 > 1048576) = true then
      none
    else
      (e39va12063 qq 0 0 p0) >>= fun r3 =>
      some (0, r3, 0)
theorem q12 : Tryz.prog.funcs[12]? = some Tryz.f12 ∧ Tryz.f12.body.isNone = false := ⟨Tryz.func12, by kernel_rfl⟩
theorem k12 {p0 : Int} {r : Int × Int × Int} (h : CTri Tryz.prog 12 [] [ai p0] (.tup [.mp 0 0, ai r.1]) [.cells [ai r.2.1, ai r.2.2]] 0) : CT Tryz.prog 12 [] [ai p0] (.tup [.mp 0 0, ai r.1]) [.cells [ai r.2.1, ai r.2.2]] 0 := ⟨h, ⟨trivial, trivial⟩, forall_nil, ⟨(show 0 < 1 by decide), trivial, trivial⟩, (forall_cons ⟨trivial, trivial, trivial⟩ forall_nil)⟩
theorem c12 {qq : Nat} {p0 : Int} {r : Int × Int × Int} (h : e12 qq p0 = some r) : CT Tryz.prog 12 [] [ai p0] (.tup [.mp 0 0, ai r.1]) [.cells [ai r.2.1, ai r.2.2]] 0 := by
  unfold e12 at h
  obtain ⟨h1, h⟩ := splF h
  have k := oB 0 h1 o0
  obtain ⟨h2, h⟩ := splF h
  obtain ⟨r3, h4, h⟩ := obind h
  obtain rfl := sj h
  exact k12 (tF q12 0 [0] (oC 0 [0] (c39va12063 h4) <| oB 0 h2 k) (by kernel_rfl))

end Go.Proofs.YtlbmblbeccafcaaGreat

namespace Go.Proofs.YtlbmblbeccafcaaGreat
open Go Go.Ab

/- scholium/scholiumref07.Leaf -/
def e47 (qq : Nat) (p0 : Int) (p1 : Int) : Option (Tm) :=
  some (Tm.mk p0 p1 [])
theorem q47 : Tryz.prog.funcs[47]? = some Tryz.f47 ∧ Tryz.f47.body.isNone = false := ⟨Tryz.func47, by kernel_rfl⟩
theorem k47 {p0 : Int} {p1 : Int} {r : Tm} (h : CTri Tryz.prog 47 [] [ai p0, ai p1] (tmA r) [] 0) : CT Tryz.prog 47 [] [ai p0, ai p1] (tmA r) [] 0 := ⟨h, ⟨trivial, trivial, trivial⟩, forall_nil, ⟨trivial, trivial, dT _, trivial⟩, forall_nil⟩
theorem c47 {qq : Nat} {p0 : Int} {p1 : Int} {r : Tm} (h : e47 qq p0 p1 = some r) : CT Tryz.prog 47 [] [ai p0, ai p1] (tmA r) [] 0 := by
  unfold e47 at h
  obtain rfl := sj h
  exact k47 (tF q47 1 [] (oD (dT ([] : List Tm)) o0) (by kernel_rfl))

end Go.Proofs.YtlbmblbeccafcaaGreat

namespace Go.Proofs.YtlbmblbeccafcaaGreat
open Go Go.Ab

/- scholium/scholiumref12.C -/
def e16 (qq : Nat) (p0 : Int) : Option (Tm) :=
  (e47 qq 6 p0) >>= fun r1 =>
  some r1
theorem q16 : Tryz.prog.funcs[16]? = some Tryz.f16 ∧ Tryz.f16.body.isNone = false := ⟨Tryz.func16, by kernel_rfl⟩
theorem k16 {p0 : Int} {r : Tm} (h : CTri Tryz.prog 16 [] [ai p0] (tmA r) [] 0) : CT Tryz.prog 16 [] [ai p0] (tmA r) [] 0 := ⟨h, ⟨trivial, trivial⟩, forall_nil, ⟨trivial, trivial, dT _, trivial⟩, forall_nil⟩
theorem c16 {qq : Nat} {p0 : Int} {r : Tm} (h : e16 qq p0 = some r) : CT Tryz.prog 16 [] [ai p0] (tmA r) [] 0 := by
  unfold e16 at h
  obtain ⟨r1, h2, h⟩ := obind h
  obtain rfl := sj h
  exact k16 (tF q16 1 [] (oD (dT r1.sub) <| oC 0 [] (c47 h2) o0) (by kernel_rfl))

end Go.Proofs.YtlbmblbeccafcaaGreat

namespace Go.Proofs.YtlbmblbeccafcaaGreat
open Go Go.Ab

/- (*scholium/whnf.Machine).Len -/
def e42 (qq : Nat) (M : Mach) : Option (Int) :=
  some (List.length M.l : Int)
theorem q42 : Tryz.prog.funcs[42]? = some Tryz.f42 ∧ Tryz.f42.body.isNone = false := ⟨Tryz.func42, by kernel_rfl⟩
theorem k42 {M : Mach} {r : Int} (h : CTri Tryz.prog 42 [.cells [.sl (flat entL M.l) (List.length M.l) .no, .mp 1 0, .sl (flat intC M.args) (List.length M.args) .no, .sl (flat intC M.own) (List.length M.own) .no], .cells [.sl (flat entL M.rl) (List.length M.rl) .no, .sl (flat conL M.parts) (List.length M.parts) .no]] [.mp 0 0] (ai r) [.cells [.sl (flat entL M.l) (List.length M.l) .no, .mp 1 0, .sl (flat intC M.args) (List.length M.args) .no, .sl (flat intC M.own) (List.length M.own) .no], .cells [.sl (flat entL M.rl) (List.length M.rl) .no, .sl (flat conL M.parts) (List.length M.parts) .no]] 0) : CT Tryz.prog 42 [.cells [.sl (flat entL M.l) (List.length M.l) .no, .mp 1 0, .sl (flat intC M.args) (List.length M.args) .no, .sl (flat intC M.own) (List.length M.own) .no], .cells [.sl (flat entL M.rl) (List.length M.rl) .no, .sl (flat conL M.parts) (List.length M.parts) .no]] [.mp 0 0] (ai r) [.cells [.sl (flat entL M.l) (List.length M.l) .no, .mp 1 0, .sl (flat intC M.args) (List.length M.args) .no, .sl (flat intC M.own) (List.length M.own) .no], .cells [.sl (flat entL M.rl) (List.length M.rl) .no, .sl (flat conL M.parts) (List.length M.parts) .no]] 0 := ⟨h, ⟨(show 0 < 2 by decide), trivial⟩, (forall_cons ⟨⟨trivial, dE _⟩, (show 1 < 2 by decide), ⟨trivial, dI _⟩, ⟨trivial, dI _⟩, trivial⟩ (forall_cons ⟨⟨trivial, dE _⟩, ⟨trivial, dC _⟩, trivial⟩ forall_nil)), trivial, (forall_cons ⟨dE _, (show 1 < 2 by decide), dI _, dI _, trivial⟩ (forall_cons ⟨dE _, dC _, trivial⟩ forall_nil))⟩
theorem c42 {qq : Nat} {M : Mach} {r : Int} (h : e42 qq M = some r) : CT Tryz.prog 42 [.cells [.sl (flat entL M.l) (List.length M.l) .no, .mp 1 0, .sl (flat intC M.args) (List.length M.args) .no, .sl (flat intC M.own) (List.length M.own) .no], .cells [.sl (flat entL M.rl) (List.length M.rl) .no, .sl (flat conL M.parts) (List.length M.parts) .no]] [.mp 0 0] (ai r) [.cells [.sl (flat entL M.l) (List.length M.l) .no, .mp 1 0, .sl (flat intC M.args) (List.length M.args) .no, .sl (flat intC M.own) (List.length M.own) .no], .cells [.sl (flat entL M.rl) (List.length M.rl) .no, .sl (flat conL M.parts) (List.length M.parts) .no]] 0 := by
  unfold e42 at h
  obtain rfl := sj h
  exact k42 (tF q42 3 [0, 1] (oD (dC M.parts) <| oD (dE M.rl) <| oD (dI M.own) <| oD (dI M.args) <| oD (dE M.l) o0) (by kernel_rfl))

end Go.Proofs.YtlbmblbeccafcaaGreat

namespace Go.Proofs.YtlbmblbeccafcaaGreat
open Go Go.Ab

/- scholium/free.fits -/
def e173 (qq : Nat) (p0 : Int) : Option (Bool) :=
  if decide (p0 ≥ 0) = true then
    some (decide (p0 ≤ 1048576))
  else
    none
theorem q173 : Tryz.prog.funcs[173]? = some Tryz.f173 ∧ Tryz.f173.body.isNone = false := ⟨Tryz.func173, by kernel_rfl⟩
theorem k173 {p0 : Int} {r : Bool} (h : CTri Tryz.prog 173 [] [ai p0] (ab r) [] 0) : CT Tryz.prog 173 [] [ai p0] (ab r) [] 0 := ⟨h, ⟨trivial, trivial⟩, forall_nil, trivial, forall_nil⟩
theorem c173 {qq : Nat} {p0 : Int} {r : Bool} (h : e173 qq p0 = some r) : CT Tryz.prog 173 [] [ai p0] (ab r) [] 0 := by
  unfold e173 at h
  obtain ⟨h1, h⟩ := splT h
  obtain rfl := sj h
  exact k173 (tF q173 1 [] (oB 0 h1 o0) (by kernel_rfl))

end Go.Proofs.YtlbmblbeccafcaaGreat

namespace Go.Proofs.YtlbmblbeccafcaaGreat
open Go Go.Ab

/- scholium/free.places -/
def e121L57612 : Nat → (List FreeVar) → Int → (List (Int × Int)) →  Option ((List (Int × Int)))
  | 0, _, _, _ => none
  | qq + 1, p0, v12, vb0_0 =>
    if decide (v12 < (List.length p0 : Int)) = true then
      (gidx p0 v12) >>= fun x2 =>
      (e173 qq x2.n_) >>= fun r4 =>
      if r4 = true then
        (e51 qq x2.type_) >>= fun r7 =>
        if r7 = true then
          if decide ((List.length p0 : Int) > 256) = true then
            none
          else
            if (ihas vb0_0 x2.n_) = true then
              none
            else
              e121L57612 qq p0 (w64 (v12 + 1)) (iset vb0_0 x2.n_ v12)
        else
          none
      else
        none
    else
      some vb0_0
def e121 (qq : Nat) (p0 : List FreeVar) : Option ((List (Int × Int))) :=
  e121L57612 qq p0 0 ([] : List (Int × Int))
def g121L57612E0 (j : Nat → Value) (p0 : List FreeVar) (v12 : Int) (vb0_0 : List (Int × Int)) : List AV := sp j 47 0 [(0, .sl (flat freeVarL p0) (List.length p0) .no), (4, .obj 0), (10, .sl (flat freeVarL p0) (List.length p0) .no), (11, ai (List.length p0 : Int)), (12, ai v12)]
def g121L57612S0 (p0 : List FreeVar) (v12 : Int) (vb0_0 : List (Int × Int)) : LSt := ⟨[(0, imap vb0_0)], 1, [], 0, []⟩
theorem q121 : Tryz.prog.funcs[121]? = some Tryz.f121 ∧ Tryz.f121.body.isNone = false := ⟨Tryz.func121, by kernel_rfl⟩
theorem k121 {p0 : List FreeVar} {r : (List (Int × Int))} (h : CTri Tryz.prog 121 [] [.sl (flat freeVarL p0) (List.length p0) .no] (.tup [.obj 0, ab true]) [imap r] 0) : CT Tryz.prog 121 [] [.sl (flat freeVarL p0) (List.length p0) .no] (.tup [.obj 0, ab true]) [imap r] 0 := ⟨h, ⟨⟨trivial, dFreeVar _⟩, trivial⟩, forall_nil, ⟨(show 0 < 1 by decide), trivial, trivial⟩, (forall_cons trivial forall_nil)⟩
theorem l121L57612 : ∀ qq : Nat, (∀ (p0 : List FreeVar) (v12 : Int) (vb0_0 : List (Int × Int)) (r : (List (Int × Int))), e121L57612 qq p0 v12 vb0_0 = some r → (∀ j, Dl Tryz.prog 0 (inn (inn (rgt (lft (rgt (rgt (bod Tryz.f121))))))) (g121L57612E0 j p0 v12 vb0_0) (g121L57612S0 p0 v12 vb0_0) (frameQ Tryz.prog 0 (FinQ Tryz.prog 0 Tryz.f121 (.tup [.obj 0, ab true]) [imap r] 0) [.blk 0, .seq (rgt (rgt (rgt (bod Tryz.f121))))]))) := by
  intro qq
  induction qq with
  | zero =>
    exact fun _ _ _ _ h => nn h
  | succ qq ih =>
    intro p0 v12 vb0_0 r h
    rw [e121L57612] at h
    rcases spl h with ⟨h1, h⟩ | ⟨h1, h⟩
    · obtain ⟨x2, h3, h⟩ := obind h
      obtain ⟨r4, h5, h⟩ := obind h
      have k := oA 0 (ix42 (o := .no) h3) <| oB 0 h1 o0
      obtain ⟨h6, h⟩ := splT h
      obtain ⟨r7, h8, h⟩ := obind h
      have k := oK 3 [] h6 (c173 h5) k
      obtain ⟨h9, h⟩ := splT h
      have k := oK 2 [] h9 (c51 h8) k
      obtain ⟨h10, h⟩ := splF h
      have k := oL 1 (lkJ91 vb0_0 x2.n_) <| oB 2 h10 k
      obtain ⟨h11, h⟩ := splF h
      exact fun j => lH 1 [] [0] [] [0, 4, 10, 11, 12] (oD (dFreeVar p0) <| oD (dFreeVar p0) <| oU 2 (muI91 vb0_0 x2.n_ v12) <| oB 1 h11 k) (ih _ _ _ _ h) (fun j => by kernel_rfl)
    · obtain rfl := sj h
      exact fun j => lF 0 [0] (oB 0 h1 o0) (by kernel_rfl)
theorem c121 {qq : Nat} {p0 : List FreeVar} {r : (List (Int × Int))} (h : e121 qq p0 = some r) : CT Tryz.prog 121 [] [.sl (flat freeVarL p0) (List.length p0) .no] (.tup [.obj 0, ab true]) [imap r] 0 := by
  unfold e121 at h
  exact k121 (tH q121 1 [] [0] [] [0, 4, 10, 11, 12] (oD (dFreeVar p0) <| oD (dFreeVar p0) o0) (l121L57612 _ _ _ _ _ h) (fun j => by kernel_rfl))

end Go.Proofs.YtlbmblbeccafcaaGreat

namespace Go.Proofs.YtlbmblbeccafcaaGreat
open Go Go.Ab

/- scholium/term.Loose -/
def e70 (qq : Nat) (p0 : Tm) : Option (Int) :=
  (e51 qq p0) >>= fun r1 =>
  if r1 = true then
    (e72 qq p0 0) >>= fun r4 =>
    some r4
  else
    none
theorem q70 : Tryz.prog.funcs[70]? = some Tryz.f70 ∧ Tryz.f70.body.isNone = false := ⟨Tryz.func70, by kernel_rfl⟩
theorem k70 {p0 : Tm} {r : Int} (h : CTri Tryz.prog 70 [] [tmA p0] (ai r) [] 0) : CT Tryz.prog 70 [] [tmA p0] (ai r) [] 0 := ⟨h, ⟨⟨trivial, trivial, ⟨trivial, dT _⟩, trivial⟩, trivial⟩, forall_nil, trivial, forall_nil⟩
theorem c70 {qq : Nat} {p0 : Tm} {r : Int} (h : e70 qq p0 = some r) : CT Tryz.prog 70 [] [tmA p0] (ai r) [] 0 := by
  unfold e70 at h
  obtain ⟨r1, h2, h⟩ := obind h
  obtain ⟨h3, h⟩ := splT h
  obtain ⟨r4, h5, h⟩ := obind h
  obtain rfl := sj h
  exact k70 (tF q70 0 [] (oC 2 [] (c72 h5) <| oK 1 [] h3 (c51 h2) o0) (by kernel_rfl))

end Go.Proofs.YtlbmblbeccafcaaGreat

namespace Go.Proofs.YtlbmblbeccafcaaGreat
open Go Go.Ab

/- scholium/free.Right -/
mutual
def e78L10781 : Nat → (List FreeVar) → (List (Int × Int)) → Int →  Option (Bool)
  | 0, _, _, _ => none
  | qq + 1, p0, r1, v27 =>
    if decide (v27 < (List.length p0 : Int)) = true then
      (gidx p0 v27) >>= fun x5 =>
      (e70 qq x5.type_) >>= fun r7 =>
      if decide (r7 > 0) = true then
        none
      else
        (e71 qq x5.type_) >>= fun r10 =>
        e78L34445 qq p0 r1 v27 r10 0
    else
      some true
def e78L34445 : Nat → (List FreeVar) → (List (Int × Int)) → Int → (List Int) → Int →  Option (Bool)
  | 0, _, _, _, _, _ => none
  | qq + 1, p0, r1, v27, r10, v40 =>
    if decide (v40 < (List.length r10 : Int)) = true then
      (gidx r10 v40) >>= fun x13 =>
      if (ihas r1 x13) = true then
        if decide ((iget r1 x13) ≥ v27) = true then
          none
        else
          e78L34445 qq p0 r1 v27 r10 (w64 (v40 + 1))
      else
        none
    else
      e78L10781 qq p0 r1 (w64 (v27 + 1))
end
def e78 (qq : Nat) (p0 : List FreeVar) : Option (Bool) :=
  (e121 qq p0) >>= fun r1 =>
  if ((List.length r1 : Int) != (List.length p0 : Int)) = true then
    none
  else
    e78L10781 qq p0 r1 0
def g78L10781E0 (j : Nat → Value) (p0 : List FreeVar) (r1 : (List (Int × Int))) (v27 : Int) : List AV := sp j 58 0 [(3, .obj 0), (25, .sl (flat freeVarL p0) (List.length p0) .no), (26, ai (List.length p0 : Int)), (27, ai v27)]
def g78L10781S0 (p0 : List FreeVar) (r1 : (List (Int × Int))) (v27 : Int) : LSt := ⟨[(0, imap r1)], 1, [], 0, []⟩
def g78L34445E0 (j : Nat → Value) (p0 : List FreeVar) (r1 : (List (Int × Int))) (v27 : Int) (r10 : List Int) (v40 : Int) : List AV := sp j 58 0 [(3, .obj 0), (5, ai v27), (25, .sl (flat freeVarL p0) (List.length p0) .no), (26, ai (List.length p0 : Int)), (27, ai v27), (38, .sl (flat intC r10) (List.length r10) .no), (39, ai (List.length r10 : Int)), (40, ai v40)]
def g78L34445S0 (p0 : List FreeVar) (r1 : (List (Int × Int))) (v27 : Int) (r10 : List Int) (v40 : Int) : LSt := ⟨[(0, imap r1)], 1, [], 0, []⟩
theorem q78 : Tryz.prog.funcs[78]? = some Tryz.f78 ∧ Tryz.f78.body.isNone = false := ⟨Tryz.func78, by kernel_rfl⟩
theorem k78 {p0 : List FreeVar} {r : Bool} (h : CTri Tryz.prog 78 [] [.sl (flat freeVarL p0) (List.length p0) .no] (ab r) [] 0) : CT Tryz.prog 78 [] [.sl (flat freeVarL p0) (List.length p0) .no] (ab r) [] 0 := ⟨h, ⟨⟨trivial, dFreeVar _⟩, trivial⟩, forall_nil, trivial, forall_nil⟩
theorem a78L10781_78L34445 : ∀ qq : Nat, (∀ (p0 : List FreeVar) (r1 : (List (Int × Int))) (v27 : Int) (r : Bool), e78L10781 qq p0 r1 v27 = some r → (∀ j, Dl Tryz.prog 0 (inn (inn (rgt (lft (rgt (rgt (rgt (bod Tryz.f78)))))))) (g78L10781E0 j p0 r1 v27) (g78L10781S0 p0 r1 v27) (frameQ Tryz.prog 0 (FinQ Tryz.prog 0 Tryz.f78 (ab r) [] 0) [.blk 0, .seq (rgt (rgt (rgt (rgt (bod Tryz.f78)))))]))) ∧ (∀ (p0 : List FreeVar) (r1 : (List (Int × Int))) (v27 : Int) (r10 : List Int) (v40 : Int) (r : Bool), e78L34445 qq p0 r1 v27 r10 v40 = some r → (∀ j, Dl Tryz.prog 0 (inn (inn (rgt (rgt (rgt (inn (lft (rgt (rgt (inn (inn (rgt (lft (rgt (rgt (rgt (bod Tryz.f78))))))))))))))))) (g78L34445E0 j p0 r1 v27 r10 v40) (g78L34445S0 p0 r1 v27 r10 v40) (frameQ Tryz.prog 0 (FinQ Tryz.prog 0 Tryz.f78 (ab r) [] 0) [.blk 2, .blk 1, .seq (rgt (rgt (rgt (inn (inn (rgt (lft (rgt (rgt (rgt (bod Tryz.f78))))))))))), .loop (inn (inn (rgt (lft (rgt (rgt (rgt (bod Tryz.f78)))))))), .blk 0, .seq (rgt (rgt (rgt (rgt (bod Tryz.f78)))))]))) := by
  intro qq
  induction qq with
  | zero =>
    exact ⟨fun _ _ _ _ h => nn h, fun _ _ _ _ _ _ h => nn h⟩
  | succ qq ih =>
    obtain ⟨ih78L10781, ih78L34445⟩ := ih
    refine ⟨?_, ?_⟩
    · intro p0 r1 v27 r h
      rw [e78L10781] at h
      rcases spl h with ⟨h4, h⟩ | ⟨h4, h⟩
      · obtain ⟨x5, h6, h⟩ := obind h
        obtain ⟨r7, h8, h⟩ := obind h
        have k := oC 3 [] (c70 h8) <| oA 0 (ix42 (o := .no) h6) <| oB 0 h4 o0
        obtain ⟨h9, h⟩ := splF h
        obtain ⟨r10, h11, h⟩ := obind h
        exact fun j => lH 1 [] [0] [] [3, 5, 25, 26, 27, 38, 39, 40] (oD (dI r10) <| oD (dFreeVar p0) <| oC 1 [] (c71 h11) <| oB 0 h9 k) (ih78L34445 _ _ _ _ _ _ h) (fun j => by kernel_rfl)
      · obtain rfl := sj h
        exact fun j => lF 0 [] (oB 0 h4 o0) (by kernel_rfl)
    · intro p0 r1 v27 r10 v40 r h
      rw [e78L34445] at h
      rcases spl h with ⟨h12, h⟩ | ⟨h12, h⟩
      · obtain ⟨x13, h14, h⟩ := obind h
        have k := oL 1 (lkJ91 r1 x13) <| oA 0 (ix37 (o := .no) h14) <| oB 0 h12 o0
        obtain ⟨h15, h⟩ := splT h
        have k := oB 1 h15 k
        obtain ⟨h16, h⟩ := splF h
        exact fun j => lH 1 [] [0] [] [3, 5, 25, 26, 27, 38, 39, 40] (oD (dI r10) <| oD (dFreeVar p0) <| oB 0 h16 k) (ih78L34445 _ _ _ _ _ _ h) (fun j => by kernel_rfl)
      · exact fun j => lH 1 [] [0] [] [3, 25, 26, 27] (oD (dFreeVar p0) <| oB 0 h12 o0) (ih78L10781 _ _ _ _ h) (fun j => by kernel_rfl)
theorem c78 {qq : Nat} {p0 : List FreeVar} {r : Bool} (h : e78 qq p0 = some r) : CT Tryz.prog 78 [] [.sl (flat freeVarL p0) (List.length p0) .no] (ab r) [] 0 := by
  unfold e78 at h
  obtain ⟨r1, h2, h⟩ := obind h
  have k := oN 3 (lnI91 r1) <| oC 0 [] (c121 h2) o0
  obtain ⟨h3, h⟩ := splF h
  exact k78 (tH q78 1 [] [0] [] [3, 25, 26, 27] (oD (dFreeVar p0) <| oB 1 h3 k) (((a78L10781_78L34445 _).1) _ _ _ _ h) (fun j => by kernel_rfl))

end Go.Proofs.YtlbmblbeccafcaaGreat

namespace Go.Proofs.YtlbmblbeccafcaaGreat
open Go Go.Ab

/- scholium/split.right -/
def e88L18121 : Nat → Mach → (List FreeVar) → Int →  Option (Bool)
  | 0, _, _, _ => none
  | qq + 1, M, p1, v16 =>
    if decide (v16 < (List.length p1 : Int)) = true then
      (gidx p1 v16) >>= fun x5 =>
      (e42 qq M) >>= fun r7 =>
      (e41 qq x5.type_ 0 r7) >>= fun r9 =>
      if r9 = true then
        e88L18121 qq M p1 (w64 (v16 + 1))
      else
        none
    else
      some true
def e88 (qq : Nat) (M : Mach) (p1 : List FreeVar) : Option (Bool) :=
  (e78 qq p1) >>= fun r1 =>
  if r1 = true then
    e88L18121 qq M p1 0
  else
    none
def g88L18121E0 (j : Nat → Value) (M : Mach) (p1 : List FreeVar) (v16 : Int) : List AV := sp j 27 0 [(0, .mp 0 0), (14, .sl (flat freeVarL p1) (List.length p1) .no), (15, ai (List.length p1 : Int)), (16, ai v16)]
def g88L18121S0 (M : Mach) (p1 : List FreeVar) (v16 : Int) : LSt := ⟨[(0, .cells [.sl (flat entL M.l) (List.length M.l) .no, .mp 1 0, .sl (flat intC M.args) (List.length M.args) .no, .sl (flat intC M.own) (List.length M.own) .no]), (1, .cells [.sl (flat entL M.rl) (List.length M.rl) .no, .sl (flat conL M.parts) (List.length M.parts) .no])], 2, [], 0, []⟩
theorem q88 : Tryz.prog.funcs[88]? = some Tryz.f88 ∧ Tryz.f88.body.isNone = false := ⟨Tryz.func88, by kernel_rfl⟩
theorem k88 {M : Mach} {p1 : List FreeVar} {r : Bool} (h : CTri Tryz.prog 88 [.cells [.sl (flat entL M.l) (List.length M.l) .no, .mp 1 0, .sl (flat intC M.args) (List.length M.args) .no, .sl (flat intC M.own) (List.length M.own) .no], .cells [.sl (flat entL M.rl) (List.length M.rl) .no, .sl (flat conL M.parts) (List.length M.parts) .no]] [.mp 0 0, .sl (flat freeVarL p1) (List.length p1) .no] (ab r) [.cells [.sl (flat entL M.l) (List.length M.l) .no, .mp 1 0, .sl (flat intC M.args) (List.length M.args) .no, .sl (flat intC M.own) (List.length M.own) .no], .cells [.sl (flat entL M.rl) (List.length M.rl) .no, .sl (flat conL M.parts) (List.length M.parts) .no]] 0) : CT Tryz.prog 88 [.cells [.sl (flat entL M.l) (List.length M.l) .no, .mp 1 0, .sl (flat intC M.args) (List.length M.args) .no, .sl (flat intC M.own) (List.length M.own) .no], .cells [.sl (flat entL M.rl) (List.length M.rl) .no, .sl (flat conL M.parts) (List.length M.parts) .no]] [.mp 0 0, .sl (flat freeVarL p1) (List.length p1) .no] (ab r) [.cells [.sl (flat entL M.l) (List.length M.l) .no, .mp 1 0, .sl (flat intC M.args) (List.length M.args) .no, .sl (flat intC M.own) (List.length M.own) .no], .cells [.sl (flat entL M.rl) (List.length M.rl) .no, .sl (flat conL M.parts) (List.length M.parts) .no]] 0 := ⟨h, ⟨(show 0 < 2 by decide), ⟨trivial, dFreeVar _⟩, trivial⟩, (forall_cons ⟨⟨trivial, dE _⟩, (show 1 < 2 by decide), ⟨trivial, dI _⟩, ⟨trivial, dI _⟩, trivial⟩ (forall_cons ⟨⟨trivial, dE _⟩, ⟨trivial, dC _⟩, trivial⟩ forall_nil)), trivial, (forall_cons ⟨dE _, (show 1 < 2 by decide), dI _, dI _, trivial⟩ (forall_cons ⟨dE _, dC _, trivial⟩ forall_nil))⟩
theorem l88L18121 : ∀ qq : Nat, (∀ (M : Mach) (p1 : List FreeVar) (v16 : Int) (r : Bool), e88L18121 qq M p1 v16 = some r → (∀ j, Dl Tryz.prog 2 (inn (inn (rgt (lft (rgt (rgt (bod Tryz.f88))))))) (g88L18121E0 j M p1 v16) (g88L18121S0 M p1 v16) (frameQ Tryz.prog 2 (FinQ Tryz.prog 2 Tryz.f88 (ab r) [.cells [.sl (flat entL M.l) (List.length M.l) .no, .mp 1 0, .sl (flat intC M.args) (List.length M.args) .no, .sl (flat intC M.own) (List.length M.own) .no], .cells [.sl (flat entL M.rl) (List.length M.rl) .no, .sl (flat conL M.parts) (List.length M.parts) .no]] 0) [.blk 0, .seq (rgt (rgt (rgt (bod Tryz.f88))))]))) := by
  intro qq
  induction qq with
  | zero =>
    exact fun _ _ _ _ h => nn h
  | succ qq ih =>
    intro M p1 v16 r h
    rw [e88L18121] at h
    rcases spl h with ⟨h4, h⟩ | ⟨h4, h⟩
    · obtain ⟨x5, h6, h⟩ := obind h
      obtain ⟨r7, h8, h⟩ := obind h
      obtain ⟨r9, h10, h⟩ := obind h
      have k := oC 3 [0, 1] (c42 h8) <| oA 0 (ix42 (o := .no) h6) <| oB 0 h4 o0
      obtain ⟨h11, h⟩ := splT h
      exact fun j => lH 2 [] [0, 1] [] [0, 14, 15, 16] (oD (dFreeVar p1) <| oD (dC M.parts) <| oD (dE M.rl) <| oD (dI M.own) <| oD (dI M.args) <| oD (dE M.l) <| oK 0 [] h11 (c41 h10) k) (ih _ _ _ _ h) (fun j => by kernel_rfl)
    · obtain rfl := sj h
      exact fun j => lF 0 [0, 1] (oD (dC M.parts) <| oD (dE M.rl) <| oD (dI M.own) <| oD (dI M.args) <| oD (dE M.l) <| oB 0 h4 o0) (by kernel_rfl)
theorem c88 {qq : Nat} {M : Mach} {p1 : List FreeVar} {r : Bool} (h : e88 qq M p1 = some r) : CT Tryz.prog 88 [.cells [.sl (flat entL M.l) (List.length M.l) .no, .mp 1 0, .sl (flat intC M.args) (List.length M.args) .no, .sl (flat intC M.own) (List.length M.own) .no], .cells [.sl (flat entL M.rl) (List.length M.rl) .no, .sl (flat conL M.parts) (List.length M.parts) .no]] [.mp 0 0, .sl (flat freeVarL p1) (List.length p1) .no] (ab r) [.cells [.sl (flat entL M.l) (List.length M.l) .no, .mp 1 0, .sl (flat intC M.args) (List.length M.args) .no, .sl (flat intC M.own) (List.length M.own) .no], .cells [.sl (flat entL M.rl) (List.length M.rl) .no, .sl (flat conL M.parts) (List.length M.parts) .no]] 0 := by
  unfold e88 at h
  obtain ⟨r1, h2, h⟩ := obind h
  obtain ⟨h3, h⟩ := splT h
  exact k88 (tH q88 2 [] [0, 1] [] [0, 14, 15, 16] (oD (dFreeVar p1) <| oD (dC M.parts) <| oD (dE M.rl) <| oD (dI M.own) <| oD (dI M.args) <| oD (dE M.l) <| oK 1 [] h3 (c78 h2) o0) (l88L18121 _ _ _ _ _ h) (fun j => by kernel_rfl))

end Go.Proofs.YtlbmblbeccafcaaGreat

namespace Go.Proofs.YtlbmblbeccafcaaGreat
open Go Go.Ab

/- (*scholium/whnf.Machine).Entries -/
def e89 (qq : Nat) (M : Mach) : Option (List Ent) :=
  (e38 qq M.l) >>= fun r1 =>
  some r1
theorem q89 : Tryz.prog.funcs[89]? = some Tryz.f89 ∧ Tryz.f89.body.isNone = false := ⟨Tryz.func89, by kernel_rfl⟩
theorem k89 {M : Mach} {r : List Ent} (h : CTri Tryz.prog 89 [.cells [.sl (flat entL M.l) (List.length M.l) .no, .mp 1 0, .sl (flat intC M.args) (List.length M.args) .no, .sl (flat intC M.own) (List.length M.own) .no], .cells [.sl (flat entL M.rl) (List.length M.rl) .no, .sl (flat conL M.parts) (List.length M.parts) .no]] [.mp 0 0] (.sl (flat entL r) (List.length r) .no) [.cells [.sl (flat entL M.l) (List.length M.l) .no, .mp 1 0, .sl (flat intC M.args) (List.length M.args) .no, .sl (flat intC M.own) (List.length M.own) .no], .cells [.sl (flat entL M.rl) (List.length M.rl) .no, .sl (flat conL M.parts) (List.length M.parts) .no]] 0) : CT Tryz.prog 89 [.cells [.sl (flat entL M.l) (List.length M.l) .no, .mp 1 0, .sl (flat intC M.args) (List.length M.args) .no, .sl (flat intC M.own) (List.length M.own) .no], .cells [.sl (flat entL M.rl) (List.length M.rl) .no, .sl (flat conL M.parts) (List.length M.parts) .no]] [.mp 0 0] (.sl (flat entL r) (List.length r) .no) [.cells [.sl (flat entL M.l) (List.length M.l) .no, .mp 1 0, .sl (flat intC M.args) (List.length M.args) .no, .sl (flat intC M.own) (List.length M.own) .no], .cells [.sl (flat entL M.rl) (List.length M.rl) .no, .sl (flat conL M.parts) (List.length M.parts) .no]] 0 := ⟨h, ⟨(show 0 < 2 by decide), trivial⟩, (forall_cons ⟨⟨trivial, dE _⟩, (show 1 < 2 by decide), ⟨trivial, dI _⟩, ⟨trivial, dI _⟩, trivial⟩ (forall_cons ⟨⟨trivial, dE _⟩, ⟨trivial, dC _⟩, trivial⟩ forall_nil)), dE _, (forall_cons ⟨dE _, (show 1 < 2 by decide), dI _, dI _, trivial⟩ (forall_cons ⟨dE _, dC _, trivial⟩ forall_nil))⟩
theorem c89 {qq : Nat} {M : Mach} {r : List Ent} (h : e89 qq M = some r) : CT Tryz.prog 89 [.cells [.sl (flat entL M.l) (List.length M.l) .no, .mp 1 0, .sl (flat intC M.args) (List.length M.args) .no, .sl (flat intC M.own) (List.length M.own) .no], .cells [.sl (flat entL M.rl) (List.length M.rl) .no, .sl (flat conL M.parts) (List.length M.parts) .no]] [.mp 0 0] (.sl (flat entL r) (List.length r) .no) [.cells [.sl (flat entL M.l) (List.length M.l) .no, .mp 1 0, .sl (flat intC M.args) (List.length M.args) .no, .sl (flat intC M.own) (List.length M.own) .no], .cells [.sl (flat entL M.rl) (List.length M.rl) .no, .sl (flat conL M.parts) (List.length M.parts) .no]] 0 := by
  unfold e89 at h
  obtain ⟨r1, h2, h⟩ := obind h
  obtain rfl := sj h
  exact k89 (tF q89 0 [0, 1] (oD (dE r1) <| oD (dC M.parts) <| oD (dE M.rl) <| oD (dI M.own) <| oD (dI M.args) <| oD (dE M.l) <| oC 2 [] (c38 h2) o0) (by kernel_rfl))

end Go.Proofs.YtlbmblbeccafcaaGreat

namespace Go.Proofs.YtlbmblbeccafcaaGreat
open Go Go.Ab

/- scholium/free.Find -/
def e123L12040 : Nat → (List FreeVar) → Int → Int →  Option (Tm × Int)
  | 0, _, _, _ => none
  | qq + 1, p0, p1, v10 =>
    if decide (v10 < (List.length p0 : Int)) = true then
      (gidx p0 v10) >>= fun x2 =>
      if (x2.n_ == p1) = true then
        (e50 qq x2.type_) >>= fun r5 =>
        some (r5, 0)
      else
        e123L12040 qq p0 p1 (w64 (v10 + 1))
    else
      some ((Tm.mk 0 0 []), 16)
def e123 (qq : Nat) (p0 : List FreeVar) (p1 : Int) : Option (Tm × Int) :=
  e123L12040 qq p0 p1 0
def g123L12040E0 (j : Nat → Value) (p0 : List FreeVar) (p1 : Int) (v10 : Int) : List AV := sp j 23 0 [(1, ai p1), (4, .mp 0 0), (8, .sl (flat freeVarL p0) (List.length p0) .no), (9, ai (List.length p0 : Int)), (10, ai v10)]
def g123L12040S0 (p0 : List FreeVar) (p1 : Int) (v10 : Int) : LSt := ⟨[(0, .cells [ai 0, ai 0, .sl (flat tmCells ([] : List Tm)) (List.length ([] : List Tm)) .nl])], 1, [], 0, []⟩
theorem q123 : Tryz.prog.funcs[123]? = some Tryz.f123 ∧ Tryz.f123.body.isNone = false := ⟨Tryz.func123, by kernel_rfl⟩
theorem k123 {p0 : List FreeVar} {p1 : Int} {r : Tm × Int} (h : CTri Tryz.prog 123 [] [.sl (flat freeVarL p0) (List.length p0) .no, ai p1] (.tup [tmA r.1, ai r.2]) [] 0) : CT Tryz.prog 123 [] [.sl (flat freeVarL p0) (List.length p0) .no, ai p1] (.tup [tmA r.1, ai r.2]) [] 0 := ⟨h, ⟨⟨trivial, dFreeVar _⟩, trivial, trivial⟩, forall_nil, ⟨⟨trivial, trivial, dT _, trivial⟩, trivial, trivial⟩, forall_nil⟩
theorem l123L12040 : ∀ qq : Nat, (∀ (p0 : List FreeVar) (p1 : Int) (v10 : Int) (r : Tm × Int), e123L12040 qq p0 p1 v10 = some r → (∀ j, Dl Tryz.prog 0 (inn (inn (rgt (lft (rgt (bod Tryz.f123)))))) (g123L12040E0 j p0 p1 v10) (g123L12040S0 p0 p1 v10) (frameQ Tryz.prog 0 (FinQ Tryz.prog 0 Tryz.f123 (.tup [tmA r.1, ai r.2]) [] 0) [.blk 0, .seq (rgt (rgt (bod Tryz.f123)))]))) := by
  intro qq
  induction qq with
  | zero =>
    exact fun _ _ _ _ h => nn h
  | succ qq ih =>
    intro p0 p1 v10 r h
    rw [e123L12040] at h
    rcases spl h with ⟨h1, h⟩ | ⟨h1, h⟩
    · obtain ⟨x2, h3, h⟩ := obind h
      have k := oA 0 (ix42 (o := .no) h3) <| oB 0 h1 o0
      rcases spl h with ⟨h4, h⟩ | ⟨h4, h⟩
      · obtain ⟨r5, h6, h⟩ := obind h
        obtain rfl := sj h
        exact fun j => lF 1 [] (oD (dT r5.sub) <| oC 1 [] (c50 h6) <| oB 3 h4 k) (by kernel_rfl)
      · exact fun j => lH 1 [] [0] [] [1, 4, 8, 9, 10] (oD (dFreeVar p0) <| oD (dT ([] : List Tm)) <| oB 3 h4 k) (ih _ _ _ _ h) (fun j => by kernel_rfl)
    · obtain rfl := sj h
      exact fun j => lF 1 [] (oD (dT ([] : List Tm)) <| oB 0 h1 o0) (by kernel_rfl)
theorem c123 {qq : Nat} {p0 : List FreeVar} {p1 : Int} {r : Tm × Int} (h : e123 qq p0 p1 = some r) : CT Tryz.prog 123 [] [.sl (flat freeVarL p0) (List.length p0) .no, ai p1] (.tup [tmA r.1, ai r.2]) [] 0 := by
  unfold e123 at h
  exact k123 (tH q123 1 [] [0] [] [1, 4, 8, 9, 10] (oD (dFreeVar p0) <| oD (dT ([] : List Tm)) o0) (l123L12040 _ _ _ _ _ h) (fun j => by kernel_rfl))

end Go.Proofs.YtlbmblbeccafcaaGreat

namespace Go.Proofs.YtlbmblbeccafcaaGreat
open Go Go.Ab

/- (*scholium/whnf.Machine).right -/
def e118 (qq : Nat) (M : Mach) (p1 : Tm) : Option (Bool) :=
  (e41 qq p1 1048577 (List.length M.l : Int)) >>= fun r1 =>
  some r1
theorem q118 : Tryz.prog.funcs[118]? = some Tryz.f118 ∧ Tryz.f118.body.isNone = false := ⟨Tryz.func118, by kernel_rfl⟩
theorem k118 {M : Mach} {p1 : Tm} {r : Bool} (h : CTri Tryz.prog 118 [.cells [.sl (flat entL M.l) (List.length M.l) .no, .mp 1 0, .sl (flat intC M.args) (List.length M.args) .no, .sl (flat intC M.own) (List.length M.own) .no], .cells [.sl (flat entL M.rl) (List.length M.rl) .no, .sl (flat conL M.parts) (List.length M.parts) .no]] [.mp 0 0, tmA p1] (ab r) [.cells [.sl (flat entL M.l) (List.length M.l) .no, .mp 1 0, .sl (flat intC M.args) (List.length M.args) .no, .sl (flat intC M.own) (List.length M.own) .no], .cells [.sl (flat entL M.rl) (List.length M.rl) .no, .sl (flat conL M.parts) (List.length M.parts) .no]] 0) : CT Tryz.prog 118 [.cells [.sl (flat entL M.l) (List.length M.l) .no, .mp 1 0, .sl (flat intC M.args) (List.length M.args) .no, .sl (flat intC M.own) (List.length M.own) .no], .cells [.sl (flat entL M.rl) (List.length M.rl) .no, .sl (flat conL M.parts) (List.length M.parts) .no]] [.mp 0 0, tmA p1] (ab r) [.cells [.sl (flat entL M.l) (List.length M.l) .no, .mp 1 0, .sl (flat intC M.args) (List.length M.args) .no, .sl (flat intC M.own) (List.length M.own) .no], .cells [.sl (flat entL M.rl) (List.length M.rl) .no, .sl (flat conL M.parts) (List.length M.parts) .no]] 0 := ⟨h, ⟨(show 0 < 2 by decide), ⟨trivial, trivial, ⟨trivial, dT _⟩, trivial⟩, trivial⟩, (forall_cons ⟨⟨trivial, dE _⟩, (show 1 < 2 by decide), ⟨trivial, dI _⟩, ⟨trivial, dI _⟩, trivial⟩ (forall_cons ⟨⟨trivial, dE _⟩, ⟨trivial, dC _⟩, trivial⟩ forall_nil)), trivial, (forall_cons ⟨dE _, (show 1 < 2 by decide), dI _, dI _, trivial⟩ (forall_cons ⟨dE _, dC _, trivial⟩ forall_nil))⟩
theorem c118 {qq : Nat} {M : Mach} {p1 : Tm} {r : Bool} (h : e118 qq M p1 = some r) : CT Tryz.prog 118 [.cells [.sl (flat entL M.l) (List.length M.l) .no, .mp 1 0, .sl (flat intC M.args) (List.length M.args) .no, .sl (flat intC M.own) (List.length M.own) .no], .cells [.sl (flat entL M.rl) (List.length M.rl) .no, .sl (flat conL M.parts) (List.length M.parts) .no]] [.mp 0 0, tmA p1] (ab r) [.cells [.sl (flat entL M.l) (List.length M.l) .no, .mp 1 0, .sl (flat intC M.args) (List.length M.args) .no, .sl (flat intC M.own) (List.length M.own) .no], .cells [.sl (flat entL M.rl) (List.length M.rl) .no, .sl (flat conL M.parts) (List.length M.parts) .no]] 0 := by
  unfold e118 at h
  obtain ⟨r1, h2, h⟩ := obind h
  obtain rfl := sj h
  exact k118 (tF q118 0 [0, 1] (oD (dC M.parts) <| oD (dE M.rl) <| oD (dI M.own) <| oD (dI M.args) <| oD (dE M.l) <| oC 4 [] (c41 h2) o0) (by kernel_rfl))

end Go.Proofs.YtlbmblbeccafcaaGreat

namespace Go.Proofs.YtlbmblbeccafcaaGreat
open Go Go.Ab

/- (*scholium/whnf.Machine).kind -/
def e172 (qq : Nat) (M : Mach) (p1 : Tm) : Option (Int) :=
  if (p1.k != 6) = true then
    some 0
  else
    if decide (p1.n ≥ (List.length M.l : Int)) = true then
      none
    else
      (gidx M.l p1.n) >>= fun x3 =>
      some x3.kind
theorem q172 : Tryz.prog.funcs[172]? = some Tryz.f172 ∧ Tryz.f172.body.isNone = false := ⟨Tryz.func172, by kernel_rfl⟩
theorem k172 {M : Mach} {p1 : Tm} {r : Int} (h : CTri Tryz.prog 172 [.cells [.sl (flat entL M.l) (List.length M.l) .no, .mp 1 0, .sl (flat intC M.args) (List.length M.args) .no, .sl (flat intC M.own) (List.length M.own) .no], .cells [.sl (flat entL M.rl) (List.length M.rl) .no, .sl (flat conL M.parts) (List.length M.parts) .no]] [.mp 0 0, tmA p1] (ai r) [.cells [.sl (flat entL M.l) (List.length M.l) .no, .mp 1 0, .sl (flat intC M.args) (List.length M.args) .no, .sl (flat intC M.own) (List.length M.own) .no], .cells [.sl (flat entL M.rl) (List.length M.rl) .no, .sl (flat conL M.parts) (List.length M.parts) .no]] 0) : CT Tryz.prog 172 [.cells [.sl (flat entL M.l) (List.length M.l) .no, .mp 1 0, .sl (flat intC M.args) (List.length M.args) .no, .sl (flat intC M.own) (List.length M.own) .no], .cells [.sl (flat entL M.rl) (List.length M.rl) .no, .sl (flat conL M.parts) (List.length M.parts) .no]] [.mp 0 0, tmA p1] (ai r) [.cells [.sl (flat entL M.l) (List.length M.l) .no, .mp 1 0, .sl (flat intC M.args) (List.length M.args) .no, .sl (flat intC M.own) (List.length M.own) .no], .cells [.sl (flat entL M.rl) (List.length M.rl) .no, .sl (flat conL M.parts) (List.length M.parts) .no]] 0 := ⟨h, ⟨(show 0 < 2 by decide), ⟨trivial, trivial, ⟨trivial, dT _⟩, trivial⟩, trivial⟩, (forall_cons ⟨⟨trivial, dE _⟩, (show 1 < 2 by decide), ⟨trivial, dI _⟩, ⟨trivial, dI _⟩, trivial⟩ (forall_cons ⟨⟨trivial, dE _⟩, ⟨trivial, dC _⟩, trivial⟩ forall_nil)), trivial, (forall_cons ⟨dE _, (show 1 < 2 by decide), dI _, dI _, trivial⟩ (forall_cons ⟨dE _, dC _, trivial⟩ forall_nil))⟩
theorem c172 {qq : Nat} {M : Mach} {p1 : Tm} {r : Int} (h : e172 qq M p1 = some r) : CT Tryz.prog 172 [.cells [.sl (flat entL M.l) (List.length M.l) .no, .mp 1 0, .sl (flat intC M.args) (List.length M.args) .no, .sl (flat intC M.own) (List.length M.own) .no], .cells [.sl (flat entL M.rl) (List.length M.rl) .no, .sl (flat conL M.parts) (List.length M.parts) .no]] [.mp 0 0, tmA p1] (ai r) [.cells [.sl (flat entL M.l) (List.length M.l) .no, .mp 1 0, .sl (flat intC M.args) (List.length M.args) .no, .sl (flat intC M.own) (List.length M.own) .no], .cells [.sl (flat entL M.rl) (List.length M.rl) .no, .sl (flat conL M.parts) (List.length M.parts) .no]] 0 := by
  unfold e172 at h
  rcases spl h with ⟨h1, h⟩ | ⟨h1, h⟩
  · obtain rfl := sj h
    exact k172 (tF q172 0 [0, 1] (oD (dC M.parts) <| oD (dE M.rl) <| oD (dI M.own) <| oD (dI M.args) <| oD (dE M.l) <| oB 1 h1 o0) (by kernel_rfl))
  · have k := oB 1 h1 o0
    obtain ⟨h2, h⟩ := splF h
    obtain ⟨x3, h4, h⟩ := obind h
    obtain rfl := sj h
    exact k172 (tF q172 1 [0, 1] (oD (dC M.parts) <| oD (dE M.rl) <| oD (dI M.own) <| oD (dI M.args) <| oD (dE M.l) <| oA 2 (ix25 (o := .no) h4) <| oB 3 h2 k) (by kernel_rfl))

end Go.Proofs.YtlbmblbeccafcaaGreat

namespace Go.Proofs.YtlbmblbeccafcaaGreat
open Go Go.Ab

/- (*scholium/whnf.Machine).con -/
def e120 (qq : Nat) (M : Mach) (p1 : Tm) : Option (Int × List Tm × Bool) :=
  (e106 qq p1) >>= fun r1 =>
  (e172 qq M r1.1) >>= fun r3 =>
  if (r3 != 2) = true then
    some (0, [], false)
  else
    (gidx M.own r1.1.n) >>= fun x6 =>
    if ((List.length r1.2 : Int) != x6) = true then
      none
    else
      some (r1.1.n, r1.2, true)
theorem q120 : Tryz.prog.funcs[120]? = some Tryz.f120 ∧ Tryz.f120.body.isNone = false := ⟨Tryz.func120, by kernel_rfl⟩
theorem k120 {M : Mach} {p1 : Tm} {r : Int × List Tm × Bool} (h : CTri Tryz.prog 120 [.cells [.sl (flat entL M.l) (List.length M.l) .no, .mp 1 0, .sl (flat intC M.args) (List.length M.args) .no, .sl (flat intC M.own) (List.length M.own) .no], .cells [.sl (flat entL M.rl) (List.length M.rl) .no, .sl (flat conL M.parts) (List.length M.parts) .no]] [.mp 0 0, tmA p1] (.tup [ai r.1, .sl (flat tmCells r.2.1) (List.length r.2.1) .no, ab r.2.2]) [.cells [.sl (flat entL M.l) (List.length M.l) .no, .mp 1 0, .sl (flat intC M.args) (List.length M.args) .no, .sl (flat intC M.own) (List.length M.own) .no], .cells [.sl (flat entL M.rl) (List.length M.rl) .no, .sl (flat conL M.parts) (List.length M.parts) .no]] 0) : CT Tryz.prog 120 [.cells [.sl (flat entL M.l) (List.length M.l) .no, .mp 1 0, .sl (flat intC M.args) (List.length M.args) .no, .sl (flat intC M.own) (List.length M.own) .no], .cells [.sl (flat entL M.rl) (List.length M.rl) .no, .sl (flat conL M.parts) (List.length M.parts) .no]] [.mp 0 0, tmA p1] (.tup [ai r.1, .sl (flat tmCells r.2.1) (List.length r.2.1) .no, ab r.2.2]) [.cells [.sl (flat entL M.l) (List.length M.l) .no, .mp 1 0, .sl (flat intC M.args) (List.length M.args) .no, .sl (flat intC M.own) (List.length M.own) .no], .cells [.sl (flat entL M.rl) (List.length M.rl) .no, .sl (flat conL M.parts) (List.length M.parts) .no]] 0 := ⟨h, ⟨(show 0 < 2 by decide), ⟨trivial, trivial, ⟨trivial, dT _⟩, trivial⟩, trivial⟩, (forall_cons ⟨⟨trivial, dE _⟩, (show 1 < 2 by decide), ⟨trivial, dI _⟩, ⟨trivial, dI _⟩, trivial⟩ (forall_cons ⟨⟨trivial, dE _⟩, ⟨trivial, dC _⟩, trivial⟩ forall_nil)), ⟨trivial, dT _, trivial, trivial⟩, (forall_cons ⟨dE _, (show 1 < 2 by decide), dI _, dI _, trivial⟩ (forall_cons ⟨dE _, dC _, trivial⟩ forall_nil))⟩
theorem c120 {qq : Nat} {M : Mach} {p1 : Tm} {r : Int × List Tm × Bool} (h : e120 qq M p1 = some r) : CT Tryz.prog 120 [.cells [.sl (flat entL M.l) (List.length M.l) .no, .mp 1 0, .sl (flat intC M.args) (List.length M.args) .no, .sl (flat intC M.own) (List.length M.own) .no], .cells [.sl (flat entL M.rl) (List.length M.rl) .no, .sl (flat conL M.parts) (List.length M.parts) .no]] [.mp 0 0, tmA p1] (.tup [ai r.1, .sl (flat tmCells r.2.1) (List.length r.2.1) .no, ab r.2.2]) [.cells [.sl (flat entL M.l) (List.length M.l) .no, .mp 1 0, .sl (flat intC M.args) (List.length M.args) .no, .sl (flat intC M.own) (List.length M.own) .no], .cells [.sl (flat entL M.rl) (List.length M.rl) .no, .sl (flat conL M.parts) (List.length M.parts) .no]] 0 := by
  unfold e120 at h
  obtain ⟨r1, h2, h⟩ := obind h
  obtain ⟨r3, h4, h⟩ := obind h
  have k := oC 4 [0, 1] (c172 h4) <| oC 1 [] (c106 h2) o0
  rcases spl h with ⟨h5, h⟩ | ⟨h5, h⟩
  · obtain rfl := sj h
    exact k120 (tF q120 0 [0, 1] (oD (dT ([] : List Tm)) <| oD (dC M.parts) <| oD (dE M.rl) <| oD (dI M.own) <| oD (dI M.args) <| oD (dE M.l) <| oB 0 h5 k) (by kernel_rfl))
  · obtain ⟨x6, h7, h⟩ := obind h
    have k := oA 3 (ix37 (o := .no) h7) <| oB 0 h5 k
    obtain ⟨h8, h⟩ := splF h
    obtain rfl := sj h
    exact k120 (tF q120 1 [0, 1] (oD (dT r1.2) <| oD (dC M.parts) <| oD (dE M.rl) <| oD (dI M.own) <| oD (dI M.args) <| oD (dE M.l) <| oB 1 h8 k) (by kernel_rfl))

end Go.Proofs.YtlbmblbeccafcaaGreat

namespace Go.Proofs.YtlbmblbeccafcaaGreat
open Go Go.Ab

/- scholium/term.node -/
def e189 (qq : Nat) (p0 : Int) (p1 : Int) (p2 : List Tm) : Option (Tm) :=
  some (Tm.mk p0 p1 p2)
theorem q189 : Tryz.prog.funcs[189]? = some Tryz.f189 ∧ Tryz.f189.body.isNone = false := ⟨Tryz.func189, by kernel_rfl⟩
theorem k189 {p0 : Int} {p1 : Int} {p2 : List Tm} {r : Tm} (h : CTri Tryz.prog 189 [] [ai p0, ai p1, .sl (flat tmCells p2) (List.length p2) .no] (tmA r) [] 0) : CT Tryz.prog 189 [] [ai p0, ai p1, .sl (flat tmCells p2) (List.length p2) .no] (tmA r) [] 0 := ⟨h, ⟨trivial, trivial, ⟨trivial, dT _⟩, trivial⟩, forall_nil, ⟨trivial, trivial, dT _, trivial⟩, forall_nil⟩
theorem c189 {qq : Nat} {p0 : Int} {p1 : Int} {p2 : List Tm} {r : Tm} (h : e189 qq p0 p1 p2 = some r) : CT Tryz.prog 189 [] [ai p0, ai p1, .sl (flat tmCells p2) (List.length p2) .no] (tmA r) [] 0 := by
  unfold e189 at h
  obtain rfl := sj h
  exact k189 (tF q189 1 [] (oD (dT p2) o0) (by kernel_rfl))

end Go.Proofs.YtlbmblbeccafcaaGreat

namespace Go.Proofs.YtlbmblbeccafcaaGreat
open Go Go.Ab

/- scholium/term.App -/
def e188 (qq : Nat) (p0 : Tm) (p1 : Tm) : Option (Tm) :=
  (e189 qq 5 0 [p0, p1]) >>= fun r1 =>
  some r1
theorem q188 : Tryz.prog.funcs[188]? = some Tryz.f188 ∧ Tryz.f188.body.isNone = false := ⟨Tryz.func188, by kernel_rfl⟩
theorem k188 {p0 : Tm} {p1 : Tm} {r : Tm} (h : CTri Tryz.prog 188 [] [tmA p0, tmA p1] (tmA r) [] 0) : CT Tryz.prog 188 [] [tmA p0, tmA p1] (tmA r) [] 0 := ⟨h, ⟨⟨trivial, trivial, ⟨trivial, dT _⟩, trivial⟩, ⟨trivial, trivial, ⟨trivial, dT _⟩, trivial⟩, trivial⟩, forall_nil, ⟨trivial, trivial, dT _, trivial⟩, forall_nil⟩
theorem c188 {qq : Nat} {p0 : Tm} {p1 : Tm} {r : Tm} (h : e188 qq p0 p1 = some r) : CT Tryz.prog 188 [] [tmA p0, tmA p1] (tmA r) [] 0 := by
  unfold e188 at h
  obtain ⟨r1, h2, h⟩ := obind h
  obtain rfl := sj h
  exact k188 (tF q188 1 [] (oD (dT r1.sub) <| oC 0 [] (c189 h2) <| oS 2 (obLitR tm_eq [p0, p1]) o0) (by kernel_rfl))

end Go.Proofs.YtlbmblbeccafcaaGreat

namespace Go.Proofs.YtlbmblbeccafcaaGreat
open Go Go.Ab

/- scholium/term.Apply -/
def e134L13946 : Nat → (List Tm) → Int → Int → Int → (List Tm) →  Option (Tm)
  | 0, _, _, _, _, _ => none
  | qq + 1, p1, v9, vb0_0, vb0_1, vb0_2 =>
    if decide (v9 < (List.length p1 : Int)) = true then
      (gidx p1 v9) >>= fun x2 =>
      (e188 qq (Tm.mk vb0_0 vb0_1 vb0_2) x2) >>= fun r4 =>
      e134L13946 qq p1 (w64 (v9 + 1)) r4.k r4.n r4.sub
    else
      some (Tm.mk vb0_0 vb0_1 vb0_2)
def e134 (qq : Nat) (p0 : Tm) (p1 : List Tm) : Option (Tm) :=
  e134L13946 qq p1 0 p0.k p0.n p0.sub
def g134L13946E0 (j : Nat → Value) (p1 : List Tm) (v9 : Int) (vb0_0 : Int) (vb0_1 : Int) (vb0_2 : List Tm) : List AV := sp j 18 0 [(2, .mp 0 0), (4, .mp 1 0), (7, .sl (flat tmCells p1) (List.length p1) .no), (8, ai (List.length p1 : Int)), (9, ai v9)]
def g134L13946S0 (p1 : List Tm) (v9 : Int) (vb0_0 : Int) (vb0_1 : Int) (vb0_2 : List Tm) : LSt := ⟨[(0, .cells [ai vb0_0, ai vb0_1, .sl (flat tmCells vb0_2) (List.length vb0_2) .no]), (1, .cells [ai 0, ai 0, .sl (flat tmCells ([] : List Tm)) (List.length ([] : List Tm)) .nl])], 2, [], 0, []⟩
theorem q134 : Tryz.prog.funcs[134]? = some Tryz.f134 ∧ Tryz.f134.body.isNone = false := ⟨Tryz.func134, by kernel_rfl⟩
theorem k134 {p0 : Tm} {p1 : List Tm} {r : Tm} (h : CTri Tryz.prog 134 [] [tmA p0, .sl (flat tmCells p1) (List.length p1) .no] (tmA r) [] 0) : CT Tryz.prog 134 [] [tmA p0, .sl (flat tmCells p1) (List.length p1) .no] (tmA r) [] 0 := ⟨h, ⟨⟨trivial, trivial, ⟨trivial, dT _⟩, trivial⟩, ⟨trivial, dT _⟩, trivial⟩, forall_nil, ⟨trivial, trivial, dT _, trivial⟩, forall_nil⟩
theorem l134L13946 : ∀ qq : Nat, (∀ (p1 : List Tm) (v9 : Int) (vb0_0 : Int) (vb0_1 : Int) (vb0_2 : List Tm) (r : Tm), e134L13946 qq p1 v9 vb0_0 vb0_1 vb0_2 = some r → (∀ j, Dl Tryz.prog 0 (inn (inn (rgt (lft (rgt (bod Tryz.f134)))))) (g134L13946E0 j p1 v9 vb0_0 vb0_1 vb0_2) (g134L13946S0 p1 v9 vb0_0 vb0_1 vb0_2) (frameQ Tryz.prog 0 (FinQ Tryz.prog 0 Tryz.f134 (tmA r) [] 0) [.blk 0, .seq (rgt (rgt (bod Tryz.f134)))]))) := by
  intro qq
  induction qq with
  | zero =>
    exact fun _ _ _ _ _ _ h => nn h
  | succ qq ih =>
    intro p1 v9 vb0_0 vb0_1 vb0_2 r h
    rw [e134L13946] at h
    rcases spl h with ⟨h1, h⟩ | ⟨h1, h⟩
    · obtain ⟨x2, h3, h⟩ := obind h
      obtain ⟨r4, h5, h⟩ := obind h
      exact fun j => lH 2 [] [0, 1] [] [2, 4, 7, 8, 9] (oD (dT p1) <| oD (dT ([] : List Tm)) <| oD (dT r4.sub) <| oC 4 [] (c188 h5) <| oA 0 (ix22 (o := .no) h3) <| oB 0 h1 o0) (ih _ _ _ _ _ _ h) (fun j => by kernel_rfl)
    · obtain rfl := sj h
      exact fun j => lF 2 [] (oD (dT vb0_2) <| oB 0 h1 o0) (by kernel_rfl)
theorem c134 {qq : Nat} {p0 : Tm} {p1 : List Tm} {r : Tm} (h : e134 qq p0 p1 = some r) : CT Tryz.prog 134 [] [tmA p0, .sl (flat tmCells p1) (List.length p1) .no] (tmA r) [] 0 := by
  unfold e134 at h
  exact k134 (tH q134 1 [] [0, 1] [] [2, 4, 7, 8, 9] (oD (dT p1) <| oD (dT ([] : List Tm)) <| oD (dT p0.sub) o0) (l134L13946 _ _ _ _ _ _ _ h) (fun j => by kernel_rfl))

end Go.Proofs.YtlbmblbeccafcaaGreat

namespace Go.Proofs.YtlbmblbeccafcaaGreat
open Go Go.Ab

/- scholium/lift.fits -/
def e342 (qq : Nat) (p0 : Int) : Option (Bool) :=
  if decide (p0 ≥ 0) = true then
    some (decide (p0 ≤ 1048576))
  else
    none
theorem q342 : Tryz.prog.funcs[342]? = some Tryz.f342 ∧ Tryz.f342.body.isNone = false := ⟨Tryz.func342, by kernel_rfl⟩
theorem k342 {p0 : Int} {r : Bool} (h : CTri Tryz.prog 342 [] [ai p0] (ab r) [] 0) : CT Tryz.prog 342 [] [ai p0] (ab r) [] 0 := ⟨h, ⟨trivial, trivial⟩, forall_nil, trivial, forall_nil⟩
theorem c342 {qq : Nat} {p0 : Int} {r : Bool} (h : e342 qq p0 = some r) : CT Tryz.prog 342 [] [ai p0] (ab r) [] 0 := by
  unfold e342 at h
  obtain ⟨h1, h⟩ := splT h
  obtain rfl := sj h
  exact k342 (tF q342 1 [] (oB 0 h1 o0) (by kernel_rfl))

end Go.Proofs.YtlbmblbeccafcaaGreat

namespace Go.Proofs.YtlbmblbeccafcaaGreat
open Go Go.Ab

/- scholium/lift.walk -/
def e343va45641L14922 (qq : Nat) (p0 : Tm) (p1 : Int) (q2 : Int) (q3 : Int) (v38 : Int) (vb4_2 : List Tm) : Option (Tm) :=
  if decide (v38 < (List.length p0.sub : Int)) = true then
    none
  else
    some (Tm.mk p0.k p0.n vb4_2)
def e343va45641 (qq : Nat) (p0 : Tm) (p1 : Int) (q2 : Int) (q3 : Int) : Option (Tm) :=
  if (p0.k == 1) = true then
    none
  else
    e343va45641L14922 qq p0 p1 q2 q3 0 []
def g343va45641L14922E0 (j : Nat → Value) (p0 : Tm) (p1 : Int) (q2 : Int) (q3 : Int) (v38 : Int) (vb4_2 : List Tm) : List AV := sp j 64 0 [(1, ai p1), (2, .clo 344 [] [.mp 0 0, .mp 1 0]), (3, .mp 2 0), (6, .mp 3 0), (7, .mp 4 0), (36, .sl (flat tmCells p0.sub) (List.length p0.sub) .no), (37, ai (List.length p0.sub : Int)), (38, ai v38)]
def g343va45641L14922S0 (p0 : Tm) (p1 : Int) (q2 : Int) (q3 : Int) (v38 : Int) (vb4_2 : List Tm) : LSt := ⟨[(0, .cells [ai q2]), (1, .cells [ai q3]), (2, .cells [ai p0.k, ai p0.n, .sl (flat tmCells p0.sub) (List.length p0.sub) .no]), (3, .cells [ai 0, ai 0, .sl (flat tmCells ([] : List Tm)) (List.length ([] : List Tm)) .nl]), (4, .cells [ai p0.k, ai p0.n, .sl (flat tmCells vb4_2) (List.length vb4_2) (.st 0 3)])], 5, [0], 1, []⟩
theorem q343va45641 : Tryz.prog.funcs[343]? = some Tryz.f343 ∧ Tryz.f343.body.isNone = false := ⟨Tryz.func343, by kernel_rfl⟩
theorem k343va45641 {p0 : Tm} {p1 : Int} {q2 : Int} {q3 : Int} {r : Tm} (h : CTri Tryz.prog 343 [.cells [ai q2], .cells [ai q3]] [tmA p0, ai p1, .clo 344 [] [.mp 0 0, .mp 1 0]] (tmA r) [.cells [ai q2], .cells [ai q3]] 0) : CT Tryz.prog 343 [.cells [ai q2], .cells [ai q3]] [tmA p0, ai p1, .clo 344 [] [.mp 0 0, .mp 1 0]] (tmA r) [.cells [ai q2], .cells [ai q3]] 0 := ⟨h, ⟨⟨trivial, trivial, ⟨trivial, dT _⟩, trivial⟩, trivial, ⟨trivial, ⟨(show 0 < 2 by decide), (show 1 < 2 by decide), trivial⟩⟩, trivial⟩, (forall_cons ⟨trivial, trivial⟩ (forall_cons ⟨trivial, trivial⟩ forall_nil)), ⟨trivial, trivial, dT _, trivial⟩, (forall_cons ⟨trivial, trivial⟩ (forall_cons ⟨trivial, trivial⟩ forall_nil))⟩
theorem l343va45641L14922 (qq : Nat) (p0 : Tm) (p1 : Int) (q2 : Int) (q3 : Int) (v38 : Int) (vb4_2 : List Tm) (r : Tm) (h : e343va45641L14922 qq p0 p1 q2 q3 v38 vb4_2 = some r) : (∀ j, Dl Tryz.prog 2 (inn (inn (rgt (lft (rgt (rgt (rgt (bod Tryz.f343)))))))) (g343va45641L14922E0 j p0 p1 q2 q3 v38 vb4_2) (g343va45641L14922S0 p0 p1 q2 q3 v38 vb4_2) (frameQ Tryz.prog 2 (FinQ Tryz.prog 2 Tryz.f343 (tmA r) [.cells [ai q2], .cells [ai q3]] 0) [.blk 0, .seq (rgt (rgt (rgt (rgt (bod Tryz.f343)))))])) := by
  unfold e343va45641L14922 at h
  obtain ⟨h9, h⟩ := splF h
  obtain rfl := sj h
  exact fun j => lF 2 [0, 1] (oD (dT vb4_2) <| oB 0 h9 o0) (by kernel_rfl)
theorem c343va45641 {qq : Nat} {p0 : Tm} {p1 : Int} {q2 : Int} {q3 : Int} {r : Tm} (h : e343va45641 qq p0 p1 q2 q3 = some r) : CT Tryz.prog 343 [.cells [ai q2], .cells [ai q3]] [tmA p0, ai p1, .clo 344 [] [.mp 0 0, .mp 1 0]] (tmA r) [.cells [ai q2], .cells [ai q3]] 0 := by
  unfold e343va45641 at h
  obtain ⟨h1, h⟩ := splF h
  exact k343va45641 (tH q343va45641 5 [(some 4, 2, 3)] [0, 1, 2, 3, 4] [0] [1, 2, 3, 6, 7, 36, 37, 38] (oD (dT p0.sub) <| oD (dT ([] : List Tm)) <| oD (dT ([] : List Tm)) <| oD (dT p0.sub) <| oB 1 h1 o0) (l343va45641L14922 qq _ _ _ _ _ _ _ h) (fun j => by kernel_rfl))

end Go.Proofs.YtlbmblbeccafcaaGreat

namespace Go.Proofs.YtlbmblbeccafcaaGreat
open Go Go.Ab

/- scholium/lift.Lift -/
def e294 (qq : Nat) (p0 : Tm) (p1 : Int) (p2 : Int) : Option (Tm × Int) :=
  (e51 qq p0) >>= fun r1 =>
  if r1 = true then
    (e342 qq p1) >>= fun r4 =>
    if r4 = true then
      (e342 qq p2) >>= fun r7 =>
      if r7 = true then
        (e343va45641 qq p0 0 p2 p1) >>= fun r10 =>
        (e51 qq r10) >>= fun r12 =>
        if r12 = true then
          some (r10, 0)
        else
          none
      else
        none
    else
      none
  else
    none
theorem q294 : Tryz.prog.funcs[294]? = some Tryz.f294 ∧ Tryz.f294.body.isNone = false := ⟨Tryz.func294, by kernel_rfl⟩
theorem k294 {p0 : Tm} {p1 : Int} {p2 : Int} {r : Tm × Int} (h : CTri Tryz.prog 294 [] [tmA p0, ai p1, ai p2] (.tup [tmA r.1, ai r.2]) [] 0) : CT Tryz.prog 294 [] [tmA p0, ai p1, ai p2] (.tup [tmA r.1, ai r.2]) [] 0 := ⟨h, ⟨⟨trivial, trivial, ⟨trivial, dT _⟩, trivial⟩, trivial, trivial, trivial⟩, forall_nil, ⟨⟨trivial, trivial, dT _, trivial⟩, trivial, trivial⟩, forall_nil⟩
theorem c294 {qq : Nat} {p0 : Tm} {p1 : Int} {p2 : Int} {r : Tm × Int} (h : e294 qq p0 p1 p2 = some r) : CT Tryz.prog 294 [] [tmA p0, ai p1, ai p2] (.tup [tmA r.1, ai r.2]) [] 0 := by
  unfold e294 at h
  obtain ⟨r1, h2, h⟩ := obind h
  obtain ⟨h3, h⟩ := splT h
  obtain ⟨r4, h5, h⟩ := obind h
  have k := oK 1 [] h3 (c51 h2) o0
  obtain ⟨h6, h⟩ := splT h
  obtain ⟨r7, h8, h⟩ := obind h
  have k := oK 2 [] h6 (c342 h5) k
  obtain ⟨h9, h⟩ := splT h
  obtain ⟨r10, h11, h⟩ := obind h
  obtain ⟨r12, h13, h⟩ := obind h
  have k := oC 2 [2, 1] (c343va45641 h11) <| oK 2 [] h9 (c342 h8) k
  obtain ⟨h14, h⟩ := splT h
  obtain rfl := sj h
  exact k294 (tF q294 3 [] (oD (dT r10.sub) <| oK 2 [] h14 (c51 h13) k) (by kernel_rfl))

end Go.Proofs.YtlbmblbeccafcaaGreat

namespace Go.Proofs.YtlbmblbeccafcaaGreat
open Go Go.Ab

/- scholium/lift.Up -/
def e231 (qq : Nat) (p0 : Tm) (p1 : Int) : Option (Tm × Int) :=
  (e294 qq p0 p1 0) >>= fun r1 =>
  some (r1.1, r1.2)
theorem q231 : Tryz.prog.funcs[231]? = some Tryz.f231 ∧ Tryz.f231.body.isNone = false := ⟨Tryz.func231, by kernel_rfl⟩
theorem k231 {p0 : Tm} {p1 : Int} {r : Tm × Int} (h : CTri Tryz.prog 231 [] [tmA p0, ai p1] (.tup [tmA r.1, ai r.2]) [] 0) : CT Tryz.prog 231 [] [tmA p0, ai p1] (.tup [tmA r.1, ai r.2]) [] 0 := ⟨h, ⟨⟨trivial, trivial, ⟨trivial, dT _⟩, trivial⟩, trivial, trivial⟩, forall_nil, ⟨⟨trivial, trivial, dT _, trivial⟩, trivial, trivial⟩, forall_nil⟩
theorem c231 {qq : Nat} {p0 : Tm} {p1 : Int} {r : Tm × Int} (h : e231 qq p0 p1 = some r) : CT Tryz.prog 231 [] [tmA p0, ai p1] (.tup [tmA r.1, ai r.2]) [] 0 := by
  unfold e231 at h
  obtain ⟨r1, h2, h⟩ := obind h
  obtain rfl := sj h
  exact k231 (tF q231 3 [] (oD (dT r1.1.sub) <| oC 1 [] (c294 h2) o0) (by kernel_rfl))

end Go.Proofs.YtlbmblbeccafcaaGreat

namespace Go.Proofs.YtlbmblbeccafcaaGreat
open Go Go.Ab

/- (*scholium/subst.walker).raised -/
def e170va42398 (qq : Nat) (q0 : Int) (q1 : Bool) (q2 : List Tm) (p1 : Tm) (p2 : Int) : Option (Tm × Int × Bool) :=
  (e129 qq p1) >>= fun r1 =>
  if decide ((w64 (q0 - r1)) < 0) = true then
    none
  else
    (e231 qq p1 p2) >>= fun r6 =>
    if (r6.2 != 0) = true then
      none
    else
      some (r6.1, (w64 (q0 - r1)), q1)
theorem q170va42398 : Tryz.prog.funcs[170]? = some Tryz.f170 ∧ Tryz.f170.body.isNone = false := ⟨Tryz.func170, by kernel_rfl⟩
theorem k170va42398 {q0 : Int} {q1 : Bool} {q2 : List Tm} {p1 : Tm} {p2 : Int} {r : Tm × Int × Bool} (h : CTri Tryz.prog 170 [.cells [ai q0, ab q1, .clo 305 [] [.mp 1 0, .mp 2 0]], .cells [.sl (flat tmCells q2) (List.length q2) .no], .cells [.mp 0 0]] [.mp 0 0, tmA p1, ai p2] (tmA r.1) [.cells [ai r.2.1, ab r.2.2, .clo 305 [] [.mp 1 0, .mp 2 0]], .cells [.sl (flat tmCells q2) (List.length q2) .no], .cells [.mp 0 0]] 0) : CT Tryz.prog 170 [.cells [ai q0, ab q1, .clo 305 [] [.mp 1 0, .mp 2 0]], .cells [.sl (flat tmCells q2) (List.length q2) .no], .cells [.mp 0 0]] [.mp 0 0, tmA p1, ai p2] (tmA r.1) [.cells [ai r.2.1, ab r.2.2, .clo 305 [] [.mp 1 0, .mp 2 0]], .cells [.sl (flat tmCells q2) (List.length q2) .no], .cells [.mp 0 0]] 0 := ⟨h, ⟨(show 0 < 3 by decide), ⟨trivial, trivial, ⟨trivial, dT _⟩, trivial⟩, trivial, trivial⟩, (forall_cons ⟨trivial, trivial, ⟨trivial, ⟨(show 1 < 3 by decide), (show 2 < 3 by decide), trivial⟩⟩, trivial⟩ (forall_cons ⟨⟨trivial, dT _⟩, trivial⟩ (forall_cons ⟨(show 0 < 3 by decide), trivial⟩ forall_nil))), ⟨trivial, trivial, dT _, trivial⟩, (forall_cons ⟨trivial, trivial, ⟨trivial, ⟨(show 1 < 3 by decide), (show 2 < 3 by decide), trivial⟩⟩, trivial⟩ (forall_cons ⟨dT _, trivial⟩ (forall_cons ⟨(show 0 < 3 by decide), trivial⟩ forall_nil)))⟩
theorem c170va42398 {qq : Nat} {q0 : Int} {q1 : Bool} {q2 : List Tm} {p1 : Tm} {p2 : Int} {r : Tm × Int × Bool} (h : e170va42398 qq q0 q1 q2 p1 p2 = some r) : CT Tryz.prog 170 [.cells [ai q0, ab q1, .clo 305 [] [.mp 1 0, .mp 2 0]], .cells [.sl (flat tmCells q2) (List.length q2) .no], .cells [.mp 0 0]] [.mp 0 0, tmA p1, ai p2] (tmA r.1) [.cells [ai r.2.1, ab r.2.2, .clo 305 [] [.mp 1 0, .mp 2 0]], .cells [.sl (flat tmCells q2) (List.length q2) .no], .cells [.mp 0 0]] 0 := by
  unfold e170va42398 at h
  obtain ⟨r1, h2, h⟩ := obind h
  have k := oC 2 [] (c129 h2) o0
  obtain ⟨h3, h⟩ := splF h
  obtain ⟨r6, h7, h⟩ := obind h
  have k := oC 1 [] (c231 h7) <| oB 3 h3 k
  obtain ⟨h8, h⟩ := splF h
  obtain rfl := sj h
  exact k170va42398 (tF q170va42398 2 [0, 1, 2] (oD (dT r6.1.sub) <| oD (dT q2) <| oB 3 h8 k) (by kernel_rfl))

end Go.Proofs.YtlbmblbeccafcaaGreat

namespace Go.Proofs.YtlbmblbeccafcaaGreat
open Go Go.Ab

/- scholium/subst.loose -/
def e306 (qq : Nat) (p0 : Tm) (p1 : Int) : Option (Int) :=
  if (p0.k != 1) = true then
    some (-1)
  else
    if decide (p0.n < p1) = true then
      some (-1)
    else
      some (w64 (p0.n - p1))
theorem q306 : Tryz.prog.funcs[306]? = some Tryz.f306 ∧ Tryz.f306.body.isNone = false := ⟨Tryz.func306, by kernel_rfl⟩
theorem k306 {p0 : Tm} {p1 : Int} {r : Int} (h : CTri Tryz.prog 306 [] [tmA p0, ai p1] (ai r) [] 0) : CT Tryz.prog 306 [] [tmA p0, ai p1] (ai r) [] 0 := ⟨h, ⟨⟨trivial, trivial, ⟨trivial, dT _⟩, trivial⟩, trivial, trivial⟩, forall_nil, trivial, forall_nil⟩
theorem c306 {qq : Nat} {p0 : Tm} {p1 : Int} {r : Int} (h : e306 qq p0 p1 = some r) : CT Tryz.prog 306 [] [tmA p0, ai p1] (ai r) [] 0 := by
  unfold e306 at h
  rcases spl h with ⟨h1, h⟩ | ⟨h1, h⟩
  · obtain rfl := sj h
    exact k306 (tF q306 0 [] (oB 1 h1 o0) (by kernel_rfl))
  · have k := oB 1 h1 o0
    rcases spl h with ⟨h2, h⟩ | ⟨h2, h⟩
    · obtain rfl := sj h
      exact k306 (tF q306 0 [] (oB 1 h2 k) (by kernel_rfl))
    · obtain rfl := sj h
      exact k306 (tF q306 2 [] (oB 1 h2 k) (by kernel_rfl))

end Go.Proofs.YtlbmblbeccafcaaGreat

namespace Go.Proofs.YtlbmblbeccafcaaGreat
open Go Go.Ab

/- scholium/subst.Many$1$1 -/
def e305va25770 (qq : Nat) (p0 : Tm) (p1 : Int) (q2 : List Tm) (q3 : Int) (q4 : Bool) : Option (Tm × Bool × Int × Bool) :=
  (e306 qq p0 p1) >>= fun r1 =>
  if decide (r1 < 0) = true then
    some ((Tm.mk 0 0 []), false, q3, q4)
  else
    if decide (r1 < (List.length q2 : Int)) = true then
      (gidx q2 r1) >>= fun x5 =>
      (e170va42398 qq q3 q4 q2 x5 p1) >>= fun r7 =>
      some (r7.1, true, r7.2.1, r7.2.2)
    else
      none
theorem q305va25770 : Tryz.prog.funcs[305]? = some Tryz.f305 ∧ Tryz.f305.body.isNone = false := ⟨Tryz.func305, by kernel_rfl⟩
theorem k305va25770 {p0 : Tm} {p1 : Int} {q2 : List Tm} {q3 : Int} {q4 : Bool} {r : Tm × Bool × Int × Bool} (h : CTri Tryz.prog 305 [.cells [.sl (flat tmCells q2) (List.length q2) .no], .cells [.mp 2 0], .cells [ai q3, ab q4, .clo 305 [] [.mp 0 0, .mp 1 0]]] [tmA p0, ai p1, .mp 0 0, .mp 1 0] (.tup [tmA r.1, ab r.2.1]) [.cells [.sl (flat tmCells q2) (List.length q2) .no], .cells [.mp 2 0], .cells [ai r.2.2.1, ab r.2.2.2, .clo 305 [] [.mp 0 0, .mp 1 0]]] 0) : CT Tryz.prog 305 [.cells [.sl (flat tmCells q2) (List.length q2) .no], .cells [.mp 2 0], .cells [ai q3, ab q4, .clo 305 [] [.mp 0 0, .mp 1 0]]] [tmA p0, ai p1, .mp 0 0, .mp 1 0] (.tup [tmA r.1, ab r.2.1]) [.cells [.sl (flat tmCells q2) (List.length q2) .no], .cells [.mp 2 0], .cells [ai r.2.2.1, ab r.2.2.2, .clo 305 [] [.mp 0 0, .mp 1 0]]] 0 := ⟨h, ⟨⟨trivial, trivial, ⟨trivial, dT _⟩, trivial⟩, trivial, (show 0 < 3 by decide), (show 1 < 3 by decide), trivial⟩, (forall_cons ⟨⟨trivial, dT _⟩, trivial⟩ (forall_cons ⟨(show 2 < 3 by decide), trivial⟩ (forall_cons ⟨trivial, trivial, ⟨trivial, ⟨(show 0 < 3 by decide), (show 1 < 3 by decide), trivial⟩⟩, trivial⟩ forall_nil))), ⟨⟨trivial, trivial, dT _, trivial⟩, trivial, trivial⟩, (forall_cons ⟨dT _, trivial⟩ (forall_cons ⟨(show 2 < 3 by decide), trivial⟩ (forall_cons ⟨trivial, trivial, ⟨trivial, ⟨(show 0 < 3 by decide), (show 1 < 3 by decide), trivial⟩⟩, trivial⟩ forall_nil)))⟩
theorem c305va25770 {qq : Nat} {p0 : Tm} {p1 : Int} {q2 : List Tm} {q3 : Int} {q4 : Bool} {r : Tm × Bool × Int × Bool} (h : e305va25770 qq p0 p1 q2 q3 q4 = some r) : CT Tryz.prog 305 [.cells [.sl (flat tmCells q2) (List.length q2) .no], .cells [.mp 2 0], .cells [ai q3, ab q4, .clo 305 [] [.mp 0 0, .mp 1 0]]] [tmA p0, ai p1, .mp 0 0, .mp 1 0] (.tup [tmA r.1, ab r.2.1]) [.cells [.sl (flat tmCells q2) (List.length q2) .no], .cells [.mp 2 0], .cells [ai r.2.2.1, ab r.2.2.2, .clo 305 [] [.mp 0 0, .mp 1 0]]] 0 := by
  unfold e305va25770 at h
  obtain ⟨r1, h2, h⟩ := obind h
  have k := oC 1 [] (c306 h2) o0
  rcases spl h with ⟨h3, h⟩ | ⟨h3, h⟩
  · obtain rfl := sj h
    exact k305va25770 (tF q305va25770 1 [0, 1, 2] (oD (dT ([] : List Tm)) <| oD (dT q2) <| oB 0 h3 k) (by kernel_rfl))
  · have k := oB 0 h3 k
    obtain ⟨h4, h⟩ := splT h
    obtain ⟨x5, h6, h⟩ := obind h
    obtain ⟨r7, h8, h⟩ := obind h
    obtain rfl := sj h
    exact k305va25770 (tF q305va25770 1 [0, 1, 2] (oD (dT r7.1.sub) <| oD (dT q2) <| oC 1 [2, 0, 1] (c170va42398 h8) <| oA 2 (ix22 (o := .no) h6) <| oB 2 h4 k) (by kernel_rfl))

end Go.Proofs.YtlbmblbeccafcaaGreat

namespace Go.Proofs.YtlbmblbeccafcaaGreat
open Go Go.Ab

/- (*scholium/subst.walker).walk -/
mutual
def e230va42398 : Nat → Int → Bool → (List Tm) → Tm → Int →  Option (Tm × Int × Bool)
  | 0, _, _, _, _, _ => none
  | qq + 1, q0, q1, q2, p1, p2 =>
    if q1 = true then
      none
    else
      (e305va25770 qq p1 p2 q2 q0 q1) >>= fun r4 =>
      if r4.2.1 = true then
        some (r4.1, r4.2.2.1, r4.2.2.2)
      else
        if decide ((w64 (r4.2.2.1 - 1)) < 0) = true then
          none
        else
          e230va42398L21960 qq q2 p1 p2 0 (w64 (r4.2.2.1 - 1)) r4.2.2.2 []
def e230va42398L21960 : Nat → (List Tm) → Tm → Int → Int → Int → Bool → (List Tm) →  Option (Tm × Int × Bool)
  | 0, _, _, _, _, _, _, _ => none
  | qq + 1, q2, p1, p2, v53, vb0_0, vb0_1, vb5_2 =>
    if decide (v53 < (List.length p1.sub : Int)) = true then
      (gidx p1.sub v53) >>= fun x9 =>
      if (v53 == 1) = true then
        if (p1.k != 5) = true then
          (e230va42398 qq vb0_0 vb0_1 q2 x9 (w64 (p2 + 1))) >>= fun r13 =>
          (gapp 40 vb5_2 [r13.1]) >>= fun l15 =>
          e230va42398L21960 qq q2 p1 p2 (w64 (v53 + 1)) r13.2.1 r13.2.2 l15
        else
          (e230va42398 qq vb0_0 vb0_1 q2 x9 p2) >>= fun r17 =>
          (gapp 40 vb5_2 [r17.1]) >>= fun l19 =>
          e230va42398L21960 qq q2 p1 p2 (w64 (v53 + 1)) r17.2.1 r17.2.2 l19
      else
        (e230va42398 qq vb0_0 vb0_1 q2 x9 p2) >>= fun r21 =>
        (gapp 40 vb5_2 [r21.1]) >>= fun l23 =>
        e230va42398L21960 qq q2 p1 p2 (w64 (v53 + 1)) r21.2.1 r21.2.2 l23
    else
      some ((Tm.mk p1.k p1.n vb5_2), vb0_0, vb0_1)
end
def g230va42398L21960E0 (j : Nat → Value) (q2 : List Tm) (p1 : Tm) (p2 : Int) (v53 : Int) (vb0_0 : Int) (vb0_1 : Bool) (vb5_2 : List Tm) : List AV := sp j 79 0 [(0, .mp 0 0), (2, ai p2), (4, .mp 3 0), (6, .mp 4 0), (9, .mp 5 0), (51, .sl (flat tmCells p1.sub) (List.length p1.sub) .no), (52, ai (List.length p1.sub : Int)), (53, ai v53)]
def g230va42398L21960S0 (q2 : List Tm) (p1 : Tm) (p2 : Int) (v53 : Int) (vb0_0 : Int) (vb0_1 : Bool) (vb5_2 : List Tm) : LSt := ⟨[(0, .cells [ai vb0_0, ab vb0_1, .clo 305 [] [.mp 1 0, .mp 2 0]]), (1, .cells [.sl (flat tmCells q2) (List.length q2) .no]), (2, .cells [.mp 0 0]), (3, .cells [ai p1.k, ai p1.n, .sl (flat tmCells p1.sub) (List.length p1.sub) .no]), (4, .cells [ai 0, ai 0, .sl (flat tmCells ([] : List Tm)) (List.length ([] : List Tm)) .nl]), (5, .cells [ai p1.k, ai p1.n, .sl (flat tmCells vb5_2) (List.length vb5_2) (.st 0 3)])], 6, [0], 1, []⟩
theorem q230va42398 : Tryz.prog.funcs[230]? = some Tryz.f230 ∧ Tryz.f230.body.isNone = false := ⟨Tryz.func230, by kernel_rfl⟩
theorem k230va42398 {q0 : Int} {q1 : Bool} {q2 : List Tm} {p1 : Tm} {p2 : Int} {r : Tm × Int × Bool} (h : CTri Tryz.prog 230 [.cells [ai q0, ab q1, .clo 305 [] [.mp 1 0, .mp 2 0]], .cells [.sl (flat tmCells q2) (List.length q2) .no], .cells [.mp 0 0]] [.mp 0 0, tmA p1, ai p2] (tmA r.1) [.cells [ai r.2.1, ab r.2.2, .clo 305 [] [.mp 1 0, .mp 2 0]], .cells [.sl (flat tmCells q2) (List.length q2) .no], .cells [.mp 0 0]] 0) : CT Tryz.prog 230 [.cells [ai q0, ab q1, .clo 305 [] [.mp 1 0, .mp 2 0]], .cells [.sl (flat tmCells q2) (List.length q2) .no], .cells [.mp 0 0]] [.mp 0 0, tmA p1, ai p2] (tmA r.1) [.cells [ai r.2.1, ab r.2.2, .clo 305 [] [.mp 1 0, .mp 2 0]], .cells [.sl (flat tmCells q2) (List.length q2) .no], .cells [.mp 0 0]] 0 := ⟨h, ⟨(show 0 < 3 by decide), ⟨trivial, trivial, ⟨trivial, dT _⟩, trivial⟩, trivial, trivial⟩, (forall_cons ⟨trivial, trivial, ⟨trivial, ⟨(show 1 < 3 by decide), (show 2 < 3 by decide), trivial⟩⟩, trivial⟩ (forall_cons ⟨⟨trivial, dT _⟩, trivial⟩ (forall_cons ⟨(show 0 < 3 by decide), trivial⟩ forall_nil))), ⟨trivial, trivial, dT _, trivial⟩, (forall_cons ⟨trivial, trivial, ⟨trivial, ⟨(show 1 < 3 by decide), (show 2 < 3 by decide), trivial⟩⟩, trivial⟩ (forall_cons ⟨dT _, trivial⟩ (forall_cons ⟨(show 0 < 3 by decide), trivial⟩ forall_nil)))⟩
theorem a230va42398_230va42398L21960 : ∀ qq : Nat, (∀ (q0 : Int) (q1 : Bool) (q2 : List Tm) (p1 : Tm) (p2 : Int) (r : Tm × Int × Bool), e230va42398 qq q0 q1 q2 p1 p2 = some r → CT Tryz.prog 230 [.cells [ai q0, ab q1, .clo 305 [] [.mp 1 0, .mp 2 0]], .cells [.sl (flat tmCells q2) (List.length q2) .no], .cells [.mp 0 0]] [.mp 0 0, tmA p1, ai p2] (tmA r.1) [.cells [ai r.2.1, ab r.2.2, .clo 305 [] [.mp 1 0, .mp 2 0]], .cells [.sl (flat tmCells q2) (List.length q2) .no], .cells [.mp 0 0]] 0) ∧ (∀ (q2 : List Tm) (p1 : Tm) (p2 : Int) (v53 : Int) (vb0_0 : Int) (vb0_1 : Bool) (vb5_2 : List Tm) (r : Tm × Int × Bool), e230va42398L21960 qq q2 p1 p2 v53 vb0_0 vb0_1 vb5_2 = some r → (∀ j, Dl Tryz.prog 3 (inn (inn (rgt (lft (rgt (rgt (rgt (rgt (rgt (bod Tryz.f230)))))))))) (g230va42398L21960E0 j q2 p1 p2 v53 vb0_0 vb0_1 vb5_2) (g230va42398L21960S0 q2 p1 p2 v53 vb0_0 vb0_1 vb5_2) (frameQ Tryz.prog 3 (FinQ Tryz.prog 3 Tryz.f230 (tmA r.1) [.cells [ai r.2.1, ab r.2.2, .clo 305 [] [.mp 1 0, .mp 2 0]], .cells [.sl (flat tmCells q2) (List.length q2) .no], .cells [.mp 0 0]] 0) [.blk 0, .seq (rgt (rgt (rgt (rgt (rgt (rgt (bod Tryz.f230)))))))]))) := by
  intro qq
  induction qq with
  | zero =>
    exact ⟨fun _ _ _ _ _ _ h => nn h, fun _ _ _ _ _ _ _ _ h => nn h⟩
  | succ qq ih =>
    obtain ⟨ih230va42398, ih230va42398L21960⟩ := ih
    refine ⟨?_, ?_⟩
    · intro q0 q1 q2 p1 p2 r h
      rw [e230va42398] at h
      obtain ⟨h1, h⟩ := splF h
      obtain ⟨r4, h5, h⟩ := obind h
      have k := oC 2 [1, 2, 0] (c305va25770 h5) <| oB 0 h1 o0
      rcases spl h with ⟨h6, h⟩ | ⟨h6, h⟩
      · obtain rfl := sj h
        exact k230va42398 (tF q230va42398 3 [0, 1, 2] (oD (dT r4.1.sub) <| oD (dT q2) <| oB 1 h6 k) (by kernel_rfl))
      · have k := oB 1 h6 k
        obtain ⟨h7, h⟩ := splF h
        exact k230va42398 (tH q230va42398 5 [(some 6, 2, 3)] [0, 1, 2, 3, 4, 6] [0] [0, 2, 4, 6, 9, 51, 52, 53] (oD (dT p1.sub) <| oD (dT ([] : List Tm)) <| oD (dT ([] : List Tm)) <| oD (dT p1.sub) <| oD (dT q2) <| oB 5 h7 k) (ih230va42398L21960 _ _ _ _ _ _ _ _ h) (fun j => by kernel_rfl))
    · intro q2 p1 p2 v53 vb0_0 vb0_1 vb5_2 r h
      rw [e230va42398L21960] at h
      rcases spl h with ⟨h8, h⟩ | ⟨h8, h⟩
      · obtain ⟨x9, h10, h⟩ := obind h
        have k := oA 0 (ix22 (o := .no) h10) <| oB 0 h8 o0
        rcases spl h with ⟨h11, h⟩ | ⟨h11, h⟩
        · have k := oB 2 h11 k
          rcases spl h with ⟨h12, h⟩ | ⟨h12, h⟩
          · obtain ⟨r13, h14, h⟩ := obind h
            obtain ⟨l15, h16, h⟩ := obind h
            exact fun j => lH 2 [] [0, 1, 2, 3, 4, 5] [1] [0, 2, 4, 6, 9, 51, 52, 53] (oD (dT p1.sub) <| oD (dT l15) <| oD (dT ([] : List Tm)) <| oD (dT p1.sub) <| oD (dT q2) <| oP 0 (apS22 h16 (by simp)) <| oS 0 (obLitR tm_eq [r13.1]) <| oC 3 [0, 1, 2] (ih230va42398 _ _ _ _ _ _ h14) <| oB 1 h12 k) (ih230va42398L21960 _ _ _ _ _ _ _ _ h) (fun j => by kernel_rfl)
          · obtain ⟨r17, h18, h⟩ := obind h
            obtain ⟨l19, h20, h⟩ := obind h
            exact fun j => lH 2 [] [0, 1, 2, 3, 4, 5] [1] [0, 2, 4, 6, 9, 51, 52, 53] (oD (dT p1.sub) <| oD (dT l19) <| oD (dT ([] : List Tm)) <| oD (dT p1.sub) <| oD (dT q2) <| oP 0 (apS22 h20 (by simp)) <| oS 0 (obLitR tm_eq [r17.1]) <| oC 2 [0, 1, 2] (ih230va42398 _ _ _ _ _ _ h18) <| oB 1 h12 k) (ih230va42398L21960 _ _ _ _ _ _ _ _ h) (fun j => by kernel_rfl)
        · obtain ⟨r21, h22, h⟩ := obind h
          obtain ⟨l23, h24, h⟩ := obind h
          exact fun j => lH 2 [] [0, 1, 2, 3, 4, 5] [1] [0, 2, 4, 6, 9, 51, 52, 53] (oD (dT p1.sub) <| oD (dT l23) <| oD (dT ([] : List Tm)) <| oD (dT p1.sub) <| oD (dT q2) <| oP 0 (apS22 h24 (by simp)) <| oS 0 (obLitR tm_eq [r21.1]) <| oC 2 [0, 1, 2] (ih230va42398 _ _ _ _ _ _ h22) <| oB 2 h11 k) (ih230va42398L21960 _ _ _ _ _ _ _ _ h) (fun j => by kernel_rfl)
      · obtain rfl := sj h
        exact fun j => lF 2 [0, 1, 2] (oD (dT vb5_2) <| oD (dT q2) <| oB 0 h8 o0) (by kernel_rfl)
theorem c230va42398 {qq : Nat} {q0 : Int} {q1 : Bool} {q2 : List Tm} {p1 : Tm} {p2 : Int} {r : Tm × Int × Bool} (h : e230va42398 qq q0 q1 q2 p1 p2 = some r) : CT Tryz.prog 230 [.cells [ai q0, ab q1, .clo 305 [] [.mp 1 0, .mp 2 0]], .cells [.sl (flat tmCells q2) (List.length q2) .no], .cells [.mp 0 0]] [.mp 0 0, tmA p1, ai p2] (tmA r.1) [.cells [ai r.2.1, ab r.2.2, .clo 305 [] [.mp 1 0, .mp 2 0]], .cells [.sl (flat tmCells q2) (List.length q2) .no], .cells [.mp 0 0]] 0 := (a230va42398_230va42398L21960 _).1 _ _ _ _ _ _ h

end Go.Proofs.YtlbmblbeccafcaaGreat

namespace Go.Proofs.YtlbmblbeccafcaaGreat
open Go Go.Ab

/- scholium/subst.Many$1 -/
def e304va11690 (qq : Nat) (q0 : Int) (q1 : Bool) (q2 : List Tm) : Option (Unit) :=
  some ()
theorem q304va11690 : Tryz.prog.funcs[304]? = some Tryz.f304 ∧ Tryz.f304.body.isNone = false := ⟨Tryz.func304, by kernel_rfl⟩
theorem k304va11690 {q0 : Int} {q1 : Bool} {q2 : List Tm}  (h : CTri Tryz.prog 304 [.cells [ai q0, ab q1, .val .nilFunc], .cells [.sl (flat tmCells q2) (List.length q2) .no]] [.mp 0 0, .mp 1 0] (.clo 305 [] [.mp 1 0, .mp 2 0]) [.cells [ai q0, ab q1, .val .nilFunc], .cells [.sl (flat tmCells q2) (List.length q2) .no], .cells [.mp 0 0]] 0) : CT Tryz.prog 304 [.cells [ai q0, ab q1, .val .nilFunc], .cells [.sl (flat tmCells q2) (List.length q2) .no]] [.mp 0 0, .mp 1 0] (.clo 305 [] [.mp 1 0, .mp 2 0]) [.cells [ai q0, ab q1, .val .nilFunc], .cells [.sl (flat tmCells q2) (List.length q2) .no], .cells [.mp 0 0]] 0 := ⟨h, ⟨(show 0 < 2 by decide), (show 1 < 2 by decide), trivial⟩, (forall_cons ⟨trivial, trivial, trivial, trivial⟩ (forall_cons ⟨⟨trivial, dT _⟩, trivial⟩ forall_nil)), ⟨trivial, ⟨(show 1 < 3 by decide), (show 2 < 3 by decide), trivial⟩⟩, (forall_cons ⟨trivial, trivial, trivial, trivial⟩ (forall_cons ⟨dT _, trivial⟩ (forall_cons ⟨(show 0 < 3 by decide), trivial⟩ forall_nil)))⟩
theorem c304va11690 {qq : Nat} {q0 : Int} {q1 : Bool} {q2 : List Tm} {r : Unit} (h : e304va11690 qq q0 q1 q2 = some r) : CT Tryz.prog 304 [.cells [ai q0, ab q1, .val .nilFunc], .cells [.sl (flat tmCells q2) (List.length q2) .no]] [.mp 0 0, .mp 1 0] (.clo 305 [] [.mp 1 0, .mp 2 0]) [.cells [ai q0, ab q1, .val .nilFunc], .cells [.sl (flat tmCells q2) (List.length q2) .no], .cells [.mp 0 0]] 0 := by
  unfold e304va11690 at h
  obtain rfl := sj h
  exact k304va11690 (tF q304va11690 0 [0, 1, 2] (oD (dT q2) o0) (by kernel_rfl))

end Go.Proofs.YtlbmblbeccafcaaGreat

namespace Go.Proofs.YtlbmblbeccafcaaGreat
open Go Go.Ab

/- scholium/subst.run -/
def e167va26223 (qq : Nat) (p0 : Tm) (q1 : List Tm) : Option (Tm × Int) :=
  (e304va11690 qq 8192 false q1) >>= fun r1 =>
  (e230va42398 qq 8192 false q1 p0 0) >>= fun r3 =>
  if r3.2.2 = true then
    none
  else
    (e51 qq r3.1) >>= fun r6 =>
    if r6 = true then
      some (r3.1, 0)
    else
      none
theorem q167va26223 : Tryz.prog.funcs[167]? = some Tryz.f167 ∧ Tryz.f167.body.isNone = false := ⟨Tryz.func167, by kernel_rfl⟩
theorem k167va26223 {p0 : Tm} {q1 : List Tm} {r : Tm × Int} (h : CTri Tryz.prog 167 [.cells [.sl (flat tmCells q1) (List.length q1) .no]] [tmA p0, .clo 304 [] [.mp 0 0]] (.tup [tmA r.1, ai r.2]) [.cells [.sl (flat tmCells q1) (List.length q1) .no]] 0) : CT Tryz.prog 167 [.cells [.sl (flat tmCells q1) (List.length q1) .no]] [tmA p0, .clo 304 [] [.mp 0 0]] (.tup [tmA r.1, ai r.2]) [.cells [.sl (flat tmCells q1) (List.length q1) .no]] 0 := ⟨h, ⟨⟨trivial, trivial, ⟨trivial, dT _⟩, trivial⟩, ⟨trivial, ⟨(show 0 < 1 by decide), trivial⟩⟩, trivial⟩, (forall_cons ⟨⟨trivial, dT _⟩, trivial⟩ forall_nil), ⟨⟨trivial, trivial, dT _, trivial⟩, trivial, trivial⟩, (forall_cons ⟨dT _, trivial⟩ forall_nil)⟩
theorem c167va26223 {qq : Nat} {p0 : Tm} {q1 : List Tm} {r : Tm × Int} (h : e167va26223 qq p0 q1 = some r) : CT Tryz.prog 167 [.cells [.sl (flat tmCells q1) (List.length q1) .no]] [tmA p0, .clo 304 [] [.mp 0 0]] (.tup [tmA r.1, ai r.2]) [.cells [.sl (flat tmCells q1) (List.length q1) .no]] 0 := by
  unfold e167va26223 at h
  obtain ⟨r1, h2, h⟩ := obind h
  obtain ⟨r3, h4, h⟩ := obind h
  have k := oC 2 [3, 0, 4] (c230va42398 h4) <| oC 0 [3, 0] (c304va11690 h2) o0
  obtain ⟨h5, h⟩ := splF h
  obtain ⟨r6, h7, h⟩ := obind h
  have k := oB 1 h5 k
  obtain ⟨h8, h⟩ := splT h
  obtain rfl := sj h
  exact k167va26223 (tF q167va26223 3 [0] (oD (dT r3.1.sub) <| oD (dT q1) <| oK 1 [] h8 (c51 h7) k) (by kernel_rfl))

end Go.Proofs.YtlbmblbeccafcaaGreat

namespace Go.Proofs.YtlbmblbeccafcaaGreat
open Go Go.Ab

/- scholium/subst.Many -/
def e249L28843 : Nat → Tm → (List Tm) → Int →  Option (Tm × Int)
  | 0, _, _, _ => none
  | qq + 1, p0, p1, v14 =>
    if decide (v14 < (List.length p1 : Int)) = true then
      (gidx p1 v14) >>= fun x5 =>
      (e51 qq x5) >>= fun r7 =>
      if r7 = true then
        e249L28843 qq p0 p1 (w64 (v14 + 1))
      else
        none
    else
      (e167va26223 qq p0 p1) >>= fun r10 =>
      some (r10.1, r10.2)
def e249 (qq : Nat) (p0 : Tm) (p1 : List Tm) : Option (Tm × Int) :=
  (e51 qq p0) >>= fun r1 =>
  if r1 = true then
    e249L28843 qq p0 p1 0
  else
    none
def g249L28843E0 (j : Nat → Value) (p0 : Tm) (p1 : List Tm) (v14 : Int) : List AV := sp j 28 0 [(2, .mp 0 0), (3, .mp 1 0), (4, .mp 2 0), (12, .sl (flat tmCells p1) (List.length p1) .no), (13, ai (List.length p1 : Int)), (14, ai v14)]
def g249L28843S0 (p0 : Tm) (p1 : List Tm) (v14 : Int) : LSt := ⟨[(0, .cells [ai p0.k, ai p0.n, .sl (flat tmCells p0.sub) (List.length p0.sub) .no]), (1, .cells [.sl (flat tmCells p1) (List.length p1) .no]), (2, .cells [ai 0, ai 0, .sl (flat tmCells ([] : List Tm)) (List.length ([] : List Tm)) .nl])], 3, [], 0, []⟩
theorem q249 : Tryz.prog.funcs[249]? = some Tryz.f249 ∧ Tryz.f249.body.isNone = false := ⟨Tryz.func249, by kernel_rfl⟩
theorem k249 {p0 : Tm} {p1 : List Tm} {r : Tm × Int} (h : CTri Tryz.prog 249 [] [tmA p0, .sl (flat tmCells p1) (List.length p1) .no] (.tup [tmA r.1, ai r.2]) [] 0) : CT Tryz.prog 249 [] [tmA p0, .sl (flat tmCells p1) (List.length p1) .no] (.tup [tmA r.1, ai r.2]) [] 0 := ⟨h, ⟨⟨trivial, trivial, ⟨trivial, dT _⟩, trivial⟩, ⟨trivial, dT _⟩, trivial⟩, forall_nil, ⟨⟨trivial, trivial, dT _, trivial⟩, trivial, trivial⟩, forall_nil⟩
theorem l249L28843 : ∀ qq : Nat, (∀ (p0 : Tm) (p1 : List Tm) (v14 : Int) (r : Tm × Int), e249L28843 qq p0 p1 v14 = some r → (∀ j, Dl Tryz.prog 0 (inn (inn (rgt (lft (rgt (rgt (bod Tryz.f249))))))) (g249L28843E0 j p0 p1 v14) (g249L28843S0 p0 p1 v14) (frameQ Tryz.prog 0 (FinQ Tryz.prog 0 Tryz.f249 (.tup [tmA r.1, ai r.2]) [] 0) [.blk 0, .seq (rgt (rgt (rgt (bod Tryz.f249))))]))) := by
  intro qq
  induction qq with
  | zero =>
    exact fun _ _ _ _ h => nn h
  | succ qq ih =>
    intro p0 p1 v14 r h
    rw [e249L28843] at h
    rcases spl h with ⟨h4, h⟩ | ⟨h4, h⟩
    · obtain ⟨x5, h6, h⟩ := obind h
      obtain ⟨r7, h8, h⟩ := obind h
      have k := oA 0 (ix22 (o := .no) h6) <| oB 0 h4 o0
      obtain ⟨h9, h⟩ := splT h
      exact fun j => lH 2 [] [0, 1, 2] [] [2, 3, 4, 12, 13, 14] (oD (dT p1) <| oD (dT ([] : List Tm)) <| oD (dT p1) <| oD (dT p0.sub) <| oK 3 [] h9 (c51 h8) k) (ih _ _ _ _ h) (fun j => by kernel_rfl)
    · obtain ⟨r10, h11, h⟩ := obind h
      obtain rfl := sj h
      exact fun j => lF 3 [] (oD (dT r10.1.sub) <| oC 1 [1] (c167va26223 h11) <| oB 0 h4 o0) (by kernel_rfl)
theorem c249 {qq : Nat} {p0 : Tm} {p1 : List Tm} {r : Tm × Int} (h : e249 qq p0 p1 = some r) : CT Tryz.prog 249 [] [tmA p0, .sl (flat tmCells p1) (List.length p1) .no] (.tup [tmA r.1, ai r.2]) [] 0 := by
  unfold e249 at h
  obtain ⟨r1, h2, h⟩ := obind h
  obtain ⟨h3, h⟩ := splT h
  exact k249 (tH q249 3 [] [0, 1, 2] [] [2, 3, 4, 12, 13, 14] (oD (dT p1) <| oD (dT ([] : List Tm)) <| oD (dT p1) <| oD (dT p0.sub) <| oK 1 [] h3 (c51 h2) o0) (l249L28843 _ _ _ _ _ h) (fun j => by kernel_rfl))

end Go.Proofs.YtlbmblbeccafcaaGreat

namespace Go.Proofs.YtlbmblbeccafcaaGreat
open Go Go.Ab

/- scholium/subst.One -/
def e232 (qq : Nat) (p0 : Tm) (p1 : Tm) : Option (Tm × Int) :=
  (e249 qq p0 [p1]) >>= fun r1 =>
  some (r1.1, r1.2)
theorem q232 : Tryz.prog.funcs[232]? = some Tryz.f232 ∧ Tryz.f232.body.isNone = false := ⟨Tryz.func232, by kernel_rfl⟩
theorem k232 {p0 : Tm} {p1 : Tm} {r : Tm × Int} (h : CTri Tryz.prog 232 [] [tmA p0, tmA p1] (.tup [tmA r.1, ai r.2]) [] 0) : CT Tryz.prog 232 [] [tmA p0, tmA p1] (.tup [tmA r.1, ai r.2]) [] 0 := ⟨h, ⟨⟨trivial, trivial, ⟨trivial, dT _⟩, trivial⟩, ⟨trivial, trivial, ⟨trivial, dT _⟩, trivial⟩, trivial⟩, forall_nil, ⟨⟨trivial, trivial, dT _, trivial⟩, trivial, trivial⟩, forall_nil⟩
theorem c232 {qq : Nat} {p0 : Tm} {p1 : Tm} {r : Tm × Int} (h : e232 qq p0 p1 = some r) : CT Tryz.prog 232 [] [tmA p0, tmA p1] (.tup [tmA r.1, ai r.2]) [] 0 := by
  unfold e232 at h
  obtain ⟨r1, h2, h⟩ := obind h
  obtain rfl := sj h
  exact k232 (tF q232 3 [] (oD (dT r1.1.sub) <| oC 0 [] (c249 h2) <| oS 2 (obLitR tm_eq [p1]) o0) (by kernel_rfl))

end Go.Proofs.YtlbmblbeccafcaaGreat

namespace Go.Proofs.YtlbmblbeccafcaaGreat
open Go Go.Ab

/- scholium/whnf.shaped -/
def e235 (qq : Nat) (p0 : Tm) : Option (Tm × Int) :=
  (e51 qq p0) >>= fun r1 =>
  if r1 = true then
    some (p0, 0)
  else
    none
theorem q235 : Tryz.prog.funcs[235]? = some Tryz.f235 ∧ Tryz.f235.body.isNone = false := ⟨Tryz.func235, by kernel_rfl⟩
theorem k235 {p0 : Tm} {r : Tm × Int} (h : CTri Tryz.prog 235 [] [tmA p0] (.tup [tmA r.1, ai r.2]) [] 0) : CT Tryz.prog 235 [] [tmA p0] (.tup [tmA r.1, ai r.2]) [] 0 := ⟨h, ⟨⟨trivial, trivial, ⟨trivial, dT _⟩, trivial⟩, trivial⟩, forall_nil, ⟨⟨trivial, trivial, dT _, trivial⟩, trivial, trivial⟩, forall_nil⟩
theorem c235 {qq : Nat} {p0 : Tm} {r : Tm × Int} (h : e235 qq p0 = some r) : CT Tryz.prog 235 [] [tmA p0] (.tup [tmA r.1, ai r.2]) [] 0 := by
  unfold e235 at h
  obtain ⟨r1, h2, h⟩ := obind h
  obtain ⟨h3, h⟩ := splT h
  obtain rfl := sj h
  exact k235 (tF q235 3 [] (oD (dT p0.sub) <| oK 1 [] h3 (c51 h2) o0) (by kernel_rfl))

end Go.Proofs.YtlbmblbeccafcaaGreat

namespace Go.Proofs.YtlbmblbeccafcaaGreat
open Go Go.Ab

/- (*sync/atomic.Int64).Load -/
def e174va9626 (qq : Nat) (q0 : Int) (q1 : Int) : Option (Int) :=
  some q0
theorem q174va9626 : Tryz.prog.funcs[174]? = some Tryz.f174 ∧ Tryz.f174.body.isNone = false := ⟨Tryz.func174, by kernel_rfl⟩
theorem k174va9626 {q0 : Int} {q1 : Int} {r : Int} (h : CTri Tryz.prog 174 [.cells [ai q0, ai q1]] [.mp 0 0] (ai r) [.cells [ai q0, ai q1]] 0) : CT Tryz.prog 174 [.cells [ai q0, ai q1]] [.mp 0 0] (ai r) [.cells [ai q0, ai q1]] 0 := ⟨h, ⟨(show 0 < 1 by decide), trivial⟩, (forall_cons ⟨trivial, trivial, trivial⟩ forall_nil), trivial, (forall_cons ⟨trivial, trivial, trivial⟩ forall_nil)⟩
theorem c174va9626 {qq : Nat} {q0 : Int} {q1 : Int} {r : Int} (h : e174va9626 qq q0 q1 = some r) : CT Tryz.prog 174 [.cells [ai q0, ai q1]] [.mp 0 0] (ai r) [.cells [ai q0, ai q1]] 0 := by
  unfold e174va9626 at h
  obtain rfl := sj h
  exact k174va9626 (tF q174va9626 1 [0] (o0) (by kernel_rfl))

end Go.Proofs.YtlbmblbeccafcaaGreat

namespace Go.Proofs.YtlbmblbeccafcaaGreat
open Go Go.Ab

/- (*sync/atomic.Int64).Add -/
def e175va12063 (qq : Nat) (q0 : Int) (q1 : Int) (p1 : Int) : Option (Int × Int) :=
  some ((w64 (q0 + p1)), (w64 (q0 + p1)))
theorem q175va12063 : Tryz.prog.funcs[175]? = some Tryz.f175 ∧ Tryz.f175.body.isNone = false := ⟨Tryz.func175, by kernel_rfl⟩
theorem k175va12063 {q0 : Int} {q1 : Int} {p1 : Int} {r : Int × Int} (h : CTri Tryz.prog 175 [.cells [ai q0, ai q1]] [.mp 0 0, ai p1] (ai r.1) [.cells [ai r.2, ai q1]] 0) : CT Tryz.prog 175 [.cells [ai q0, ai q1]] [.mp 0 0, ai p1] (ai r.1) [.cells [ai r.2, ai q1]] 0 := ⟨h, ⟨(show 0 < 1 by decide), trivial, trivial⟩, (forall_cons ⟨trivial, trivial, trivial⟩ forall_nil), trivial, (forall_cons ⟨trivial, trivial, trivial⟩ forall_nil)⟩
theorem c175va12063 {qq : Nat} {q0 : Int} {q1 : Int} {p1 : Int} {r : Int × Int} (h : e175va12063 qq q0 q1 p1 = some r) : CT Tryz.prog 175 [.cells [ai q0, ai q1]] [.mp 0 0, ai p1] (ai r.1) [.cells [ai r.2, ai q1]] 0 := by
  unfold e175va12063 at h
  obtain rfl := sj h
  exact k175va12063 (tF q175va12063 1 [0] (o0) (by kernel_rfl))

end Go.Proofs.YtlbmblbeccafcaaGreat

namespace Go.Proofs.YtlbmblbeccafcaaGreat
open Go Go.Ab

/- (*sync/atomic.Int64).Add -/
def e175va37370 (qq : Nat) (q0 : Int) (q1 : Int) (p1 : Int) : Option (Int × Int) :=
  some ((w64 (q1 + p1)), (w64 (q1 + p1)))
theorem q175va37370 : Tryz.prog.funcs[175]? = some Tryz.f175 ∧ Tryz.f175.body.isNone = false := ⟨Tryz.func175, by kernel_rfl⟩
theorem k175va37370 {q0 : Int} {q1 : Int} {p1 : Int} {r : Int × Int} (h : CTri Tryz.prog 175 [.cells [ai q0, ai q1]] [.mp 0 1, ai p1] (ai r.1) [.cells [ai q0, ai r.2]] 0) : CT Tryz.prog 175 [.cells [ai q0, ai q1]] [.mp 0 1, ai p1] (ai r.1) [.cells [ai q0, ai r.2]] 0 := ⟨h, ⟨(show 0 < 1 by decide), trivial, trivial⟩, (forall_cons ⟨trivial, trivial, trivial⟩ forall_nil), trivial, (forall_cons ⟨trivial, trivial, trivial⟩ forall_nil)⟩
theorem c175va37370 {qq : Nat} {q0 : Int} {q1 : Int} {p1 : Int} {r : Int × Int} (h : e175va37370 qq q0 q1 p1 = some r) : CT Tryz.prog 175 [.cells [ai q0, ai q1]] [.mp 0 1, ai p1] (ai r.1) [.cells [ai q0, ai r.2]] 0 := by
  unfold e175va37370 at h
  obtain rfl := sj h
  exact k175va37370 (tF q175va37370 1 [0] (o0) (by kernel_rfl))

end Go.Proofs.YtlbmblbeccafcaaGreat

namespace Go.Proofs.YtlbmblbeccafcaaGreat
open Go Go.Ab

/- (*scholium/meter.Meter).Spend -/
def e122 (qq : Nat) (fl : Int) (fu : Int) (p1 : Int) : Option (Int × Int × Int) :=
  if decide (p1 < 0) = true then
    none
  else
    (e174va9626 qq fl fu) >>= fun r2 =>
    if decide (p1 > r2) = true then
      none
    else
      (e175va12063 qq fl fu (w64 (0 - p1))) >>= fun r5 =>
      (e175va37370 qq r5.2 fu p1) >>= fun r7 =>
      some (0, r5.2, r7.2)
theorem q122 : Tryz.prog.funcs[122]? = some Tryz.f122 ∧ Tryz.f122.body.isNone = false := ⟨Tryz.func122, by kernel_rfl⟩
theorem k122 {fl : Int} {fu : Int} {p1 : Int} {r : Int × Int × Int} (h : CTri Tryz.prog 122 [.cells [ai fl, ai fu]] [.mp 0 0, ai p1] (ai r.1) [.cells [ai r.2.1, ai r.2.2]] 0) : CT Tryz.prog 122 [.cells [ai fl, ai fu]] [.mp 0 0, ai p1] (ai r.1) [.cells [ai r.2.1, ai r.2.2]] 0 := ⟨h, ⟨(show 0 < 1 by decide), trivial, trivial⟩, (forall_cons ⟨trivial, trivial, trivial⟩ forall_nil), trivial, (forall_cons ⟨trivial, trivial, trivial⟩ forall_nil)⟩
theorem c122 {qq : Nat} {fl : Int} {fu : Int} {p1 : Int} {r : Int × Int × Int} (h : e122 qq fl fu p1 = some r) : CT Tryz.prog 122 [.cells [ai fl, ai fu]] [.mp 0 0, ai p1] (ai r.1) [.cells [ai r.2.1, ai r.2.2]] 0 := by
  unfold e122 at h
  obtain ⟨h1, h⟩ := splF h
  obtain ⟨r2, h3, h⟩ := obind h
  have k := oC 0 [0] (c174va9626 h3) <| oB 1 h1 o0
  obtain ⟨h4, h⟩ := splF h
  obtain ⟨r5, h6, h⟩ := obind h
  obtain ⟨r7, h8, h⟩ := obind h
  obtain rfl := sj h
  exact k122 (tF q122 0 [0] (oC 0 [0] (c175va37370 h8) <| oC 1 [0] (c175va12063 h6) <| oB 0 h4 k) (by kernel_rfl))

end Go.Proofs.YtlbmblbeccafcaaGreat

namespace Go.Proofs.YtlbmblbeccafcaaGreat
open Go Go.Ab

/- (*scholium/meter.Meter).Step -/
def e80 (qq : Nat) (fl : Int) (fu : Int) : Option (Int × Int × Int) :=
  (e122 qq fl fu 1) >>= fun r1 =>
  some (r1.1, r1.2.1, r1.2.2)
theorem q80 : Tryz.prog.funcs[80]? = some Tryz.f80 ∧ Tryz.f80.body.isNone = false := ⟨Tryz.func80, by kernel_rfl⟩
theorem k80 {fl : Int} {fu : Int} {r : Int × Int × Int} (h : CTri Tryz.prog 80 [.cells [ai fl, ai fu]] [.mp 0 0] (ai r.1) [.cells [ai r.2.1, ai r.2.2]] 0) : CT Tryz.prog 80 [.cells [ai fl, ai fu]] [.mp 0 0] (ai r.1) [.cells [ai r.2.1, ai r.2.2]] 0 := ⟨h, ⟨(show 0 < 1 by decide), trivial⟩, (forall_cons ⟨trivial, trivial, trivial⟩ forall_nil), trivial, (forall_cons ⟨trivial, trivial, trivial⟩ forall_nil)⟩
theorem c80 {qq : Nat} {fl : Int} {fu : Int} {r : Int × Int × Int} (h : e80 qq fl fu = some r) : CT Tryz.prog 80 [.cells [ai fl, ai fu]] [.mp 0 0] (ai r.1) [.cells [ai r.2.1, ai r.2.2]] 0 := by
  unfold e80 at h
  obtain ⟨r1, h2, h⟩ := obind h
  obtain rfl := sj h
  exact k80 (tF q80 0 [0] (oC 0 [0] (c122 h2) o0) (by kernel_rfl))

end Go.Proofs.YtlbmblbeccafcaaGreat

namespace Go.Proofs.YtlbmblbeccafcaaGreat
open Go Go.Ab

/- (*scholium/whnf.Machine).bring -/
/- (*scholium/whnf.Machine).once -/
/- (*scholium/whnf.Machine).field -/
/- (*scholium/whnf.Machine).elim -/
mutual
def e119 : Nat → Mach → Tm → Int → Int →  Option (Tm × Int × Int × Int)
  | 0, _, _, _, _ => none
  | qq + 1, M, p1, fl, fu =>
    e119L37017 qq M fl fu p1.k p1.n p1.sub
def e119L37017 : Nat → Mach → Int → Int → Int → Int → (List Tm) →  Option (Tm × Int × Int × Int)
  | 0, _, _, _, _, _, _ => none
  | qq + 1, M, vb2_0, vb2_1, vb3_0, vb3_1, vb3_2 =>
    (e171 qq M (Tm.mk vb3_0 vb3_1 vb3_2) vb2_0 vb2_1) >>= fun r1 =>
    if r1.2.1 = true then
      if (r1.2.2.1 != 0) = true then
        none
      else
        e119L37017 qq M r1.2.2.2.1 r1.2.2.2.2 r1.1.k r1.1.n r1.1.sub
    else
      if (r1.2.2.1 != 0) = true then
        none
      else
        some ((Tm.mk vb3_0 vb3_1 vb3_2), 0, r1.2.2.2.1, r1.2.2.2.2)
def e171 : Nat → Mach → Tm → Int → Int →  Option (Tm × Bool × Int × Int × Int)
  | 0, _, _, _, _ => none
  | qq + 1, M, p1, fl, fu =>
    (e106 qq p1) >>= fun r1 =>
    if (r1.1.k == 4) = true then
      if decide ((List.length r1.2 : Int) > 0) = true then
        (gidx r1.1.sub 1) >>= fun x5 =>
        (gidx r1.2 0) >>= fun x7 =>
        (e232 qq x5 x7) >>= fun r9 =>
        (gsl r1.2 1 (List.length r1.2 : Int)) >>= fun x11 =>
        (e134 qq r9.1 x11) >>= fun r13 =>
        if (r9.2 != 0) = true then
          none
        else
          (e80 qq fl fu) >>= fun r16 =>
          if (r16.1 != 0) = true then
            none
          else
            (e235 qq r13) >>= fun r19 =>
            some (r19.1, true, r19.2, r16.2.1, r16.2.2)
      else
        none
    else
      (e172 qq M r1.1) >>= fun r57 =>
      if (r57 == 3) = true then
        (gidx M.l r1.1.n) >>= fun x60 =>
        (e134 qq x60.body r1.2) >>= fun r62 =>
        (e80 qq fl fu) >>= fun r64 =>
        if (r64.1 != 0) = true then
          none
        else
          (e235 qq r62) >>= fun r67 =>
          some (r67.1, true, r67.2, r64.2.1, r64.2.2)
      else
        (e172 qq M r1.1) >>= fun r69 =>
        if (r69 == 4) = true then
          none
        else
          if (r1.1.k == 7) = true then
            (e234 qq M r1.1 r1.2 fl fu) >>= fun r83 =>
            if r83.2.1 = true then
              none
            else
              if (r83.2.2.1 != 0) = true then
                none
              else
                some (p1, false, r83.2.2.1, r83.2.2.2.1, r83.2.2.2.2)
          else
            some (p1, false, 0, fl, fu)
def e234 : Nat → Mach → Tm → (List Tm) → Int → Int →  Option (Tm × Bool × Int × Int × Int)
  | 0, _, _, _, _, _ => none
  | qq + 1, M, p1, p2, fl, fu =>
    if decide (p1.n ≥ (List.length M.l : Int)) = true then
      none
    else
      (gidx M.l p1.n) >>= fun x2 =>
      if (x2.kind != 1) = true then
        none
      else
        (gidx M.args p1.n) >>= fun x5 =>
        if decide ((List.length p2 : Int) < x5) = true then
          none
        else
          (gidx p2 (w64 (x5 - 1))) >>= fun x8 =>
          (e119 qq M x8 fl fu) >>= fun r10 =>
          if (r10.2.1 != 0) = true then
            none
          else
            (e120 qq M r10.1) >>= fun r13 =>
            if r13.2.2 = true then
              none
            else
              some ((Tm.mk 0 0 []), false, 0, r10.2.2.1, r10.2.2.2)
end
def e233 (qq : Nat) (M : Mach) (p1 : Tm) (p2 : List Tm) (fl : Int) (fu : Int) : Option (Tm × Bool × Int × Int × Int) :=
  none
def g119L37017E0 (j : Nat → Value) (M : Mach) (vb2_0 : Int) (vb2_1 : Int) (vb3_0 : Int) (vb3_1 : Int) (vb3_2 : List Tm) : List AV := sp j 28 0 [(0, .mp 0 0), (2, .mp 2 0), (4, .mp 3 0), (6, .mp 4 0)]
def g119L37017S0 (M : Mach) (vb2_0 : Int) (vb2_1 : Int) (vb3_0 : Int) (vb3_1 : Int) (vb3_2 : List Tm) : LSt := ⟨[(0, .cells [.sl (flat entL M.l) (List.length M.l) .no, .mp 1 0, .sl (flat intC M.args) (List.length M.args) .no, .sl (flat intC M.own) (List.length M.own) .no]), (1, .cells [.sl (flat entL M.rl) (List.length M.rl) .no, .sl (flat conL M.parts) (List.length M.parts) .no]), (2, .cells [ai vb2_0, ai vb2_1]), (3, .cells [ai vb3_0, ai vb3_1, .sl (flat tmCells vb3_2) (List.length vb3_2) .no]), (4, .cells [ai 0, ai 0, .sl (flat tmCells ([] : List Tm)) (List.length ([] : List Tm)) .nl])], 5, [], 0, []⟩
theorem q119 : Tryz.prog.funcs[119]? = some Tryz.f119 ∧ Tryz.f119.body.isNone = false := ⟨Tryz.func119, by kernel_rfl⟩
theorem k119 {M : Mach} {p1 : Tm} {fl : Int} {fu : Int} {r : Tm × Int × Int × Int} (h : CTri Tryz.prog 119 [.cells [.sl (flat entL M.l) (List.length M.l) .no, .mp 1 0, .sl (flat intC M.args) (List.length M.args) .no, .sl (flat intC M.own) (List.length M.own) .no], .cells [.sl (flat entL M.rl) (List.length M.rl) .no, .sl (flat conL M.parts) (List.length M.parts) .no], .cells [ai fl, ai fu]] [.mp 0 0, tmA p1, .mp 2 0] (.tup [tmA r.1, ai r.2.1]) [.cells [.sl (flat entL M.l) (List.length M.l) .no, .mp 1 0, .sl (flat intC M.args) (List.length M.args) .no, .sl (flat intC M.own) (List.length M.own) .no], .cells [.sl (flat entL M.rl) (List.length M.rl) .no, .sl (flat conL M.parts) (List.length M.parts) .no], .cells [ai r.2.2.1, ai r.2.2.2]] 0) : CT Tryz.prog 119 [.cells [.sl (flat entL M.l) (List.length M.l) .no, .mp 1 0, .sl (flat intC M.args) (List.length M.args) .no, .sl (flat intC M.own) (List.length M.own) .no], .cells [.sl (flat entL M.rl) (List.length M.rl) .no, .sl (flat conL M.parts) (List.length M.parts) .no], .cells [ai fl, ai fu]] [.mp 0 0, tmA p1, .mp 2 0] (.tup [tmA r.1, ai r.2.1]) [.cells [.sl (flat entL M.l) (List.length M.l) .no, .mp 1 0, .sl (flat intC M.args) (List.length M.args) .no, .sl (flat intC M.own) (List.length M.own) .no], .cells [.sl (flat entL M.rl) (List.length M.rl) .no, .sl (flat conL M.parts) (List.length M.parts) .no], .cells [ai r.2.2.1, ai r.2.2.2]] 0 := ⟨h, ⟨(show 0 < 3 by decide), ⟨trivial, trivial, ⟨trivial, dT _⟩, trivial⟩, (show 2 < 3 by decide), trivial⟩, (forall_cons ⟨⟨trivial, dE _⟩, (show 1 < 3 by decide), ⟨trivial, dI _⟩, ⟨trivial, dI _⟩, trivial⟩ (forall_cons ⟨⟨trivial, dE _⟩, ⟨trivial, dC _⟩, trivial⟩ (forall_cons ⟨trivial, trivial, trivial⟩ forall_nil))), ⟨⟨trivial, trivial, dT _, trivial⟩, trivial, trivial⟩, (forall_cons ⟨dE _, (show 1 < 3 by decide), dI _, dI _, trivial⟩ (forall_cons ⟨dE _, dC _, trivial⟩ (forall_cons ⟨trivial, trivial, trivial⟩ forall_nil)))⟩
theorem q171 : Tryz.prog.funcs[171]? = some Tryz.f171 ∧ Tryz.f171.body.isNone = false := ⟨Tryz.func171, by kernel_rfl⟩
theorem k171 {M : Mach} {p1 : Tm} {fl : Int} {fu : Int} {r : Tm × Bool × Int × Int × Int} (h : CTri Tryz.prog 171 [.cells [.sl (flat entL M.l) (List.length M.l) .no, .mp 1 0, .sl (flat intC M.args) (List.length M.args) .no, .sl (flat intC M.own) (List.length M.own) .no], .cells [.sl (flat entL M.rl) (List.length M.rl) .no, .sl (flat conL M.parts) (List.length M.parts) .no], .cells [ai fl, ai fu]] [.mp 0 0, tmA p1, .mp 2 0] (.tup [tmA r.1, ab r.2.1, ai r.2.2.1]) [.cells [.sl (flat entL M.l) (List.length M.l) .no, .mp 1 0, .sl (flat intC M.args) (List.length M.args) .no, .sl (flat intC M.own) (List.length M.own) .no], .cells [.sl (flat entL M.rl) (List.length M.rl) .no, .sl (flat conL M.parts) (List.length M.parts) .no], .cells [ai r.2.2.2.1, ai r.2.2.2.2]] 0) : CT Tryz.prog 171 [.cells [.sl (flat entL M.l) (List.length M.l) .no, .mp 1 0, .sl (flat intC M.args) (List.length M.args) .no, .sl (flat intC M.own) (List.length M.own) .no], .cells [.sl (flat entL M.rl) (List.length M.rl) .no, .sl (flat conL M.parts) (List.length M.parts) .no], .cells [ai fl, ai fu]] [.mp 0 0, tmA p1, .mp 2 0] (.tup [tmA r.1, ab r.2.1, ai r.2.2.1]) [.cells [.sl (flat entL M.l) (List.length M.l) .no, .mp 1 0, .sl (flat intC M.args) (List.length M.args) .no, .sl (flat intC M.own) (List.length M.own) .no], .cells [.sl (flat entL M.rl) (List.length M.rl) .no, .sl (flat conL M.parts) (List.length M.parts) .no], .cells [ai r.2.2.2.1, ai r.2.2.2.2]] 0 := ⟨h, ⟨(show 0 < 3 by decide), ⟨trivial, trivial, ⟨trivial, dT _⟩, trivial⟩, (show 2 < 3 by decide), trivial⟩, (forall_cons ⟨⟨trivial, dE _⟩, (show 1 < 3 by decide), ⟨trivial, dI _⟩, ⟨trivial, dI _⟩, trivial⟩ (forall_cons ⟨⟨trivial, dE _⟩, ⟨trivial, dC _⟩, trivial⟩ (forall_cons ⟨trivial, trivial, trivial⟩ forall_nil))), ⟨⟨trivial, trivial, dT _, trivial⟩, trivial, trivial, trivial⟩, (forall_cons ⟨dE _, (show 1 < 3 by decide), dI _, dI _, trivial⟩ (forall_cons ⟨dE _, dC _, trivial⟩ (forall_cons ⟨trivial, trivial, trivial⟩ forall_nil)))⟩
theorem q234 : Tryz.prog.funcs[234]? = some Tryz.f234 ∧ Tryz.f234.body.isNone = false := ⟨Tryz.func234, by kernel_rfl⟩
theorem k234 {M : Mach} {p1 : Tm} {p2 : List Tm} {fl : Int} {fu : Int} {r : Tm × Bool × Int × Int × Int} (h : CTri Tryz.prog 234 [.cells [.sl (flat entL M.l) (List.length M.l) .no, .mp 1 0, .sl (flat intC M.args) (List.length M.args) .no, .sl (flat intC M.own) (List.length M.own) .no], .cells [.sl (flat entL M.rl) (List.length M.rl) .no, .sl (flat conL M.parts) (List.length M.parts) .no], .cells [ai fl, ai fu]] [.mp 0 0, tmA p1, .sl (flat tmCells p2) (List.length p2) .no, .mp 2 0] (.tup [tmA r.1, ab r.2.1, ai r.2.2.1]) [.cells [.sl (flat entL M.l) (List.length M.l) .no, .mp 1 0, .sl (flat intC M.args) (List.length M.args) .no, .sl (flat intC M.own) (List.length M.own) .no], .cells [.sl (flat entL M.rl) (List.length M.rl) .no, .sl (flat conL M.parts) (List.length M.parts) .no], .cells [ai r.2.2.2.1, ai r.2.2.2.2]] 0) : CT Tryz.prog 234 [.cells [.sl (flat entL M.l) (List.length M.l) .no, .mp 1 0, .sl (flat intC M.args) (List.length M.args) .no, .sl (flat intC M.own) (List.length M.own) .no], .cells [.sl (flat entL M.rl) (List.length M.rl) .no, .sl (flat conL M.parts) (List.length M.parts) .no], .cells [ai fl, ai fu]] [.mp 0 0, tmA p1, .sl (flat tmCells p2) (List.length p2) .no, .mp 2 0] (.tup [tmA r.1, ab r.2.1, ai r.2.2.1]) [.cells [.sl (flat entL M.l) (List.length M.l) .no, .mp 1 0, .sl (flat intC M.args) (List.length M.args) .no, .sl (flat intC M.own) (List.length M.own) .no], .cells [.sl (flat entL M.rl) (List.length M.rl) .no, .sl (flat conL M.parts) (List.length M.parts) .no], .cells [ai r.2.2.2.1, ai r.2.2.2.2]] 0 := ⟨h, ⟨(show 0 < 3 by decide), ⟨trivial, trivial, ⟨trivial, dT _⟩, trivial⟩, ⟨trivial, dT _⟩, (show 2 < 3 by decide), trivial⟩, (forall_cons ⟨⟨trivial, dE _⟩, (show 1 < 3 by decide), ⟨trivial, dI _⟩, ⟨trivial, dI _⟩, trivial⟩ (forall_cons ⟨⟨trivial, dE _⟩, ⟨trivial, dC _⟩, trivial⟩ (forall_cons ⟨trivial, trivial, trivial⟩ forall_nil))), ⟨⟨trivial, trivial, dT _, trivial⟩, trivial, trivial, trivial⟩, (forall_cons ⟨dE _, (show 1 < 3 by decide), dI _, dI _, trivial⟩ (forall_cons ⟨dE _, dC _, trivial⟩ (forall_cons ⟨trivial, trivial, trivial⟩ forall_nil)))⟩
theorem a119_119L37017_171_234 : ∀ qq : Nat, (∀ (M : Mach) (p1 : Tm) (fl : Int) (fu : Int) (r : Tm × Int × Int × Int), e119 qq M p1 fl fu = some r → CT Tryz.prog 119 [.cells [.sl (flat entL M.l) (List.length M.l) .no, .mp 1 0, .sl (flat intC M.args) (List.length M.args) .no, .sl (flat intC M.own) (List.length M.own) .no], .cells [.sl (flat entL M.rl) (List.length M.rl) .no, .sl (flat conL M.parts) (List.length M.parts) .no], .cells [ai fl, ai fu]] [.mp 0 0, tmA p1, .mp 2 0] (.tup [tmA r.1, ai r.2.1]) [.cells [.sl (flat entL M.l) (List.length M.l) .no, .mp 1 0, .sl (flat intC M.args) (List.length M.args) .no, .sl (flat intC M.own) (List.length M.own) .no], .cells [.sl (flat entL M.rl) (List.length M.rl) .no, .sl (flat conL M.parts) (List.length M.parts) .no], .cells [ai r.2.2.1, ai r.2.2.2]] 0) ∧ (∀ (M : Mach) (vb2_0 : Int) (vb2_1 : Int) (vb3_0 : Int) (vb3_1 : Int) (vb3_2 : List Tm) (r : Tm × Int × Int × Int), e119L37017 qq M vb2_0 vb2_1 vb3_0 vb3_1 vb3_2 = some r → (∀ j, Dl Tryz.prog 3 (inn (inn (rgt (inn (rgt (bod Tryz.f119)))))) (g119L37017E0 j M vb2_0 vb2_1 vb3_0 vb3_1 vb3_2) (g119L37017S0 M vb2_0 vb2_1 vb3_0 vb3_1 vb3_2) (frameQ Tryz.prog 3 (FinQ Tryz.prog 3 Tryz.f119 (.tup [tmA r.1, ai r.2.1]) [.cells [.sl (flat entL M.l) (List.length M.l) .no, .mp 1 0, .sl (flat intC M.args) (List.length M.args) .no, .sl (flat intC M.own) (List.length M.own) .no], .cells [.sl (flat entL M.rl) (List.length M.rl) .no, .sl (flat conL M.parts) (List.length M.parts) .no], .cells [ai r.2.2.1, ai r.2.2.2]] 0) [.blk 0]))) ∧ (∀ (M : Mach) (p1 : Tm) (fl : Int) (fu : Int) (r : Tm × Bool × Int × Int × Int), e171 qq M p1 fl fu = some r → CT Tryz.prog 171 [.cells [.sl (flat entL M.l) (List.length M.l) .no, .mp 1 0, .sl (flat intC M.args) (List.length M.args) .no, .sl (flat intC M.own) (List.length M.own) .no], .cells [.sl (flat entL M.rl) (List.length M.rl) .no, .sl (flat conL M.parts) (List.length M.parts) .no], .cells [ai fl, ai fu]] [.mp 0 0, tmA p1, .mp 2 0] (.tup [tmA r.1, ab r.2.1, ai r.2.2.1]) [.cells [.sl (flat entL M.l) (List.length M.l) .no, .mp 1 0, .sl (flat intC M.args) (List.length M.args) .no, .sl (flat intC M.own) (List.length M.own) .no], .cells [.sl (flat entL M.rl) (List.length M.rl) .no, .sl (flat conL M.parts) (List.length M.parts) .no], .cells [ai r.2.2.2.1, ai r.2.2.2.2]] 0) ∧ (∀ (M : Mach) (p1 : Tm) (p2 : List Tm) (fl : Int) (fu : Int) (r : Tm × Bool × Int × Int × Int), e234 qq M p1 p2 fl fu = some r → CT Tryz.prog 234 [.cells [.sl (flat entL M.l) (List.length M.l) .no, .mp 1 0, .sl (flat intC M.args) (List.length M.args) .no, .sl (flat intC M.own) (List.length M.own) .no], .cells [.sl (flat entL M.rl) (List.length M.rl) .no, .sl (flat conL M.parts) (List.length M.parts) .no], .cells [ai fl, ai fu]] [.mp 0 0, tmA p1, .sl (flat tmCells p2) (List.length p2) .no, .mp 2 0] (.tup [tmA r.1, ab r.2.1, ai r.2.2.1]) [.cells [.sl (flat entL M.l) (List.length M.l) .no, .mp 1 0, .sl (flat intC M.args) (List.length M.args) .no, .sl (flat intC M.own) (List.length M.own) .no], .cells [.sl (flat entL M.rl) (List.length M.rl) .no, .sl (flat conL M.parts) (List.length M.parts) .no], .cells [ai r.2.2.2.1, ai r.2.2.2.2]] 0) := by
  intro qq
  induction qq with
  | zero =>
    exact ⟨fun _ _ _ _ _ h => nn h, fun _ _ _ _ _ _ _ h => nn h, fun _ _ _ _ _ h => nn h, fun _ _ _ _ _ _ h => nn h⟩
  | succ qq ih =>
    obtain ⟨ih119, ih119L37017, ih171, ih234⟩ := ih
    refine ⟨?_, ?_, ?_, ?_⟩
    · intro M p1 fl fu r h
      rw [e119] at h
      exact k119 (tH q119 0 [] [0, 1, 2, 3, 4] [] [0, 2, 4, 6] (oD (dT ([] : List Tm)) <| oD (dT p1.sub) <| oD (dC M.parts) <| oD (dE M.rl) <| oD (dI M.own) <| oD (dI M.args) <| oD (dE M.l) o0) (ih119L37017 _ _ _ _ _ _ _ h) (fun j => by kernel_rfl))
    · intro M vb2_0 vb2_1 vb3_0 vb3_1 vb3_2 r h
      rw [e119L37017] at h
      obtain ⟨r1, h2, h⟩ := obind h
      have k := oC 1 [0, 1, 2] (ih171 _ _ _ _ _ h2) o0
      rcases spl h with ⟨h3, h⟩ | ⟨h3, h⟩
      · have k := oB 1 h3 k
        obtain ⟨h4, h⟩ := splF h
        exact fun j => lH 2 [] [0, 1, 2, 3, 4] [] [0, 2, 4, 6] (oD (dT ([] : List Tm)) <| oD (dT r1.1.sub) <| oD (dC M.parts) <| oD (dE M.rl) <| oD (dI M.own) <| oD (dI M.args) <| oD (dE M.l) <| oB 2 h4 k) (ih119L37017 _ _ _ _ _ _ _ h) (fun j => by kernel_rfl)
      · have k := oB 1 h3 k
        obtain ⟨h5, h⟩ := splF h
        obtain rfl := sj h
        exact fun j => lF 2 [0, 1, 2] (oD (dT vb3_2) <| oD (dC M.parts) <| oD (dE M.rl) <| oD (dI M.own) <| oD (dI M.args) <| oD (dE M.l) <| oB 2 h5 k) (by kernel_rfl)
    · intro M p1 fl fu r h
      rw [e171] at h
      obtain ⟨r1, h2, h⟩ := obind h
      have k := oC 1 [] (c106 h2) o0
      rcases spl h with ⟨h3, h⟩ | ⟨h3, h⟩
      · have k := oB 5 h3 k
        obtain ⟨h4, h⟩ := splT h
        obtain ⟨x5, h6, h⟩ := obind h
        obtain ⟨x7, h8, h⟩ := obind h
        obtain ⟨r9, h10, h⟩ := obind h
        obtain ⟨x11, h12, h⟩ := obind h
        obtain ⟨r13, h14, h⟩ := obind h
        have k := oC 0 [] (c134 h14) <| oA 4 (slFrom22 h12) <| oC 1 [] (c232 h10) <| oA 1 (ix22 (o := .no) h8) <| oA 1 (ix22 (o := .no) h6) <| oB 1 h4 k
        obtain ⟨h15, h⟩ := splF h
        obtain ⟨r16, h17, h⟩ := obind h
        have k := oC 1 [2] (c80 h17) <| oB 1 h15 k
        obtain ⟨h18, h⟩ := splF h
        obtain ⟨r19, h20, h⟩ := obind h
        obtain rfl := sj h
        exact k171 (tF q171 5 [0, 1, 2] (oD (dT r19.1.sub) <| oD (dC M.parts) <| oD (dE M.rl) <| oD (dI M.own) <| oD (dI M.args) <| oD (dE M.l) <| oC 1 [] (c235 h20) <| oB 0 h18 k) (by kernel_rfl))
      · obtain ⟨r57, h58, h⟩ := obind h
        have k := oC 1 [0, 1] (c172 h58) <| oB 5 h3 k
        rcases spl h with ⟨h59, h⟩ | ⟨h59, h⟩
        · obtain ⟨x60, h61, h⟩ := obind h
          obtain ⟨r62, h63, h⟩ := obind h
          obtain ⟨r64, h65, h⟩ := obind h
          have k := oC 3 [2] (c80 h65) <| oC 1 [] (c134 h63) <| oA 2 (ix25 (o := .no) h61) <| oB 0 h59 k
          obtain ⟨h66, h⟩ := splF h
          obtain ⟨r67, h68, h⟩ := obind h
          obtain rfl := sj h
          exact k171 (tF q171 5 [0, 1, 2] (oD (dT r67.1.sub) <| oD (dC M.parts) <| oD (dE M.rl) <| oD (dI M.own) <| oD (dI M.args) <| oD (dE M.l) <| oC 1 [] (c235 h68) <| oB 0 h66 k) (by kernel_rfl))
        · obtain ⟨r69, h70, h⟩ := obind h
          have k := oC 1 [0, 1] (c172 h70) <| oB 0 h59 k
          obtain ⟨h71, h⟩ := splF h
          have k := oB 0 h71 k
          rcases spl h with ⟨h82, h⟩ | ⟨h82, h⟩
          · obtain ⟨r83, h84, h⟩ := obind h
            have k := oC 1 [0, 1, 2] (ih234 _ _ _ _ _ _ h84) <| oB 1 h82 k
            obtain ⟨h85, h⟩ := splF h
            have k := oB 1 h85 k
            obtain ⟨h92, h⟩ := splF h
            obtain rfl := sj h
            exact k171 (tF q171 3 [0, 1, 2] (oD (dT p1.sub) <| oD (dC M.parts) <| oD (dE M.rl) <| oD (dI M.own) <| oD (dI M.args) <| oD (dE M.l) <| oB 2 h92 k) (by kernel_rfl))
          · obtain rfl := sj h
            exact k171 (tF q171 4 [0, 1, 2] (oD (dT p1.sub) <| oD (dC M.parts) <| oD (dE M.rl) <| oD (dI M.own) <| oD (dI M.args) <| oD (dE M.l) <| oB 1 h82 k) (by kernel_rfl))
    · intro M p1 p2 fl fu r h
      rw [e234] at h
      obtain ⟨h1, h⟩ := splF h
      obtain ⟨x2, h3, h⟩ := obind h
      have k := oA 2 (ix25 (o := .no) h3) <| oB 3 h1 o0
      obtain ⟨h4, h⟩ := splF h
      obtain ⟨x5, h6, h⟩ := obind h
      have k := oA 3 (ix37 (o := .no) h6) <| oB 1 h4 k
      obtain ⟨h7, h⟩ := splF h
      obtain ⟨x8, h9, h⟩ := obind h
      obtain ⟨r10, h11, h⟩ := obind h
      have k := oC 1 [0, 1, 2] (ih119 _ _ _ _ _ h11) <| oA 2 (ix22 (o := .no) h9) <| oA 2 (ix37 (o := .no) h6) <| oB 1 h7 k
      obtain ⟨h12, h⟩ := splF h
      obtain ⟨r13, h14, h⟩ := obind h
      have k := oC 1 [0, 1] (c120 h14) <| oB 3 h12 k
      obtain ⟨h15, h⟩ := splF h
      obtain rfl := sj h
      exact k234 (tF q234 2 [0, 1, 2] (oD (dT ([] : List Tm)) <| oD (dC M.parts) <| oD (dE M.rl) <| oD (dI M.own) <| oD (dI M.args) <| oD (dE M.l) <| oB 2 h15 k) (by kernel_rfl))
theorem c119 {qq : Nat} {M : Mach} {p1 : Tm} {fl : Int} {fu : Int} {r : Tm × Int × Int × Int} (h : e119 qq M p1 fl fu = some r) : CT Tryz.prog 119 [.cells [.sl (flat entL M.l) (List.length M.l) .no, .mp 1 0, .sl (flat intC M.args) (List.length M.args) .no, .sl (flat intC M.own) (List.length M.own) .no], .cells [.sl (flat entL M.rl) (List.length M.rl) .no, .sl (flat conL M.parts) (List.length M.parts) .no], .cells [ai fl, ai fu]] [.mp 0 0, tmA p1, .mp 2 0] (.tup [tmA r.1, ai r.2.1]) [.cells [.sl (flat entL M.l) (List.length M.l) .no, .mp 1 0, .sl (flat intC M.args) (List.length M.args) .no, .sl (flat intC M.own) (List.length M.own) .no], .cells [.sl (flat entL M.rl) (List.length M.rl) .no, .sl (flat conL M.parts) (List.length M.parts) .no], .cells [ai r.2.2.1, ai r.2.2.2]] 0 := (a119_119L37017_171_234 _).1 _ _ _ _ _ h
theorem c171 {qq : Nat} {M : Mach} {p1 : Tm} {fl : Int} {fu : Int} {r : Tm × Bool × Int × Int × Int} (h : e171 qq M p1 fl fu = some r) : CT Tryz.prog 171 [.cells [.sl (flat entL M.l) (List.length M.l) .no, .mp 1 0, .sl (flat intC M.args) (List.length M.args) .no, .sl (flat intC M.own) (List.length M.own) .no], .cells [.sl (flat entL M.rl) (List.length M.rl) .no, .sl (flat conL M.parts) (List.length M.parts) .no], .cells [ai fl, ai fu]] [.mp 0 0, tmA p1, .mp 2 0] (.tup [tmA r.1, ab r.2.1, ai r.2.2.1]) [.cells [.sl (flat entL M.l) (List.length M.l) .no, .mp 1 0, .sl (flat intC M.args) (List.length M.args) .no, .sl (flat intC M.own) (List.length M.own) .no], .cells [.sl (flat entL M.rl) (List.length M.rl) .no, .sl (flat conL M.parts) (List.length M.parts) .no], .cells [ai r.2.2.2.1, ai r.2.2.2.2]] 0 := (a119_119L37017_171_234 _).2.2.1 _ _ _ _ _ h
theorem c234 {qq : Nat} {M : Mach} {p1 : Tm} {p2 : List Tm} {fl : Int} {fu : Int} {r : Tm × Bool × Int × Int × Int} (h : e234 qq M p1 p2 fl fu = some r) : CT Tryz.prog 234 [.cells [.sl (flat entL M.l) (List.length M.l) .no, .mp 1 0, .sl (flat intC M.args) (List.length M.args) .no, .sl (flat intC M.own) (List.length M.own) .no], .cells [.sl (flat entL M.rl) (List.length M.rl) .no, .sl (flat conL M.parts) (List.length M.parts) .no], .cells [ai fl, ai fu]] [.mp 0 0, tmA p1, .sl (flat tmCells p2) (List.length p2) .no, .mp 2 0] (.tup [tmA r.1, ab r.2.1, ai r.2.2.1]) [.cells [.sl (flat entL M.l) (List.length M.l) .no, .mp 1 0, .sl (flat intC M.args) (List.length M.args) .no, .sl (flat intC M.own) (List.length M.own) .no], .cells [.sl (flat entL M.rl) (List.length M.rl) .no, .sl (flat conL M.parts) (List.length M.parts) .no], .cells [ai r.2.2.2.1, ai r.2.2.2.2]] 0 := (a119_119L37017_171_234 _).2.2.2 _ _ _ _ _ _ h
theorem c233 {qq : Nat} {M : Mach} {p1 : Tm} {p2 : List Tm} {fl : Int} {fu : Int} {r : Tm × Bool × Int × Int × Int} (h : e233 qq M p1 p2 fl fu = some r) : CT Tryz.prog 233 [.cells [.sl (flat entL M.l) (List.length M.l) .no, .mp 1 0, .sl (flat intC M.args) (List.length M.args) .no, .sl (flat intC M.own) (List.length M.own) .no], .cells [.sl (flat entL M.rl) (List.length M.rl) .no, .sl (flat conL M.parts) (List.length M.parts) .no], .cells [ai fl, ai fu]] [.mp 0 0, tmA p1, .sl (flat tmCells p2) (List.length p2) .no, .mp 2 0] (.tup [tmA r.1, ab r.2.1, ai r.2.2.1]) [.cells [.sl (flat entL M.l) (List.length M.l) .no, .mp 1 0, .sl (flat intC M.args) (List.length M.args) .no, .sl (flat intC M.own) (List.length M.own) .no], .cells [.sl (flat entL M.rl) (List.length M.rl) .no, .sl (flat conL M.parts) (List.length M.parts) .no], .cells [ai r.2.2.2.1, ai r.2.2.2.2]] 0 := by
  unfold e233 at h
  cases h

end Go.Proofs.YtlbmblbeccafcaaGreat

namespace Go.Proofs.YtlbmblbeccafcaaGreat
open Go Go.Ab

/- (*scholium/whnf.Machine).Bring -/
def e75 (qq : Nat) (M : Mach) (p1 : Tm) (fl : Int) (fu : Int) : Option (Tm × Int × Int × Int) :=
  (e118 qq M p1) >>= fun r1 =>
  if r1 = true then
    (e119 qq M p1 fl fu) >>= fun r4 =>
    if (r4.2.1 != 0) = true then
      none
    else
      (e50 qq r4.1) >>= fun r7 =>
      some (r7, 0, r4.2.2.1, r4.2.2.2)
  else
    none
theorem q75 : Tryz.prog.funcs[75]? = some Tryz.f75 ∧ Tryz.f75.body.isNone = false := ⟨Tryz.func75, by kernel_rfl⟩
theorem k75 {M : Mach} {p1 : Tm} {fl : Int} {fu : Int} {r : Tm × Int × Int × Int} (h : CTri Tryz.prog 75 [.cells [.sl (flat entL M.l) (List.length M.l) .no, .mp 1 0, .sl (flat intC M.args) (List.length M.args) .no, .sl (flat intC M.own) (List.length M.own) .no], .cells [.sl (flat entL M.rl) (List.length M.rl) .no, .sl (flat conL M.parts) (List.length M.parts) .no], .cells [ai fl, ai fu]] [.mp 0 0, tmA p1, .mp 2 0] (.tup [tmA r.1, ai r.2.1]) [.cells [.sl (flat entL M.l) (List.length M.l) .no, .mp 1 0, .sl (flat intC M.args) (List.length M.args) .no, .sl (flat intC M.own) (List.length M.own) .no], .cells [.sl (flat entL M.rl) (List.length M.rl) .no, .sl (flat conL M.parts) (List.length M.parts) .no], .cells [ai r.2.2.1, ai r.2.2.2]] 0) : CT Tryz.prog 75 [.cells [.sl (flat entL M.l) (List.length M.l) .no, .mp 1 0, .sl (flat intC M.args) (List.length M.args) .no, .sl (flat intC M.own) (List.length M.own) .no], .cells [.sl (flat entL M.rl) (List.length M.rl) .no, .sl (flat conL M.parts) (List.length M.parts) .no], .cells [ai fl, ai fu]] [.mp 0 0, tmA p1, .mp 2 0] (.tup [tmA r.1, ai r.2.1]) [.cells [.sl (flat entL M.l) (List.length M.l) .no, .mp 1 0, .sl (flat intC M.args) (List.length M.args) .no, .sl (flat intC M.own) (List.length M.own) .no], .cells [.sl (flat entL M.rl) (List.length M.rl) .no, .sl (flat conL M.parts) (List.length M.parts) .no], .cells [ai r.2.2.1, ai r.2.2.2]] 0 := ⟨h, ⟨(show 0 < 3 by decide), ⟨trivial, trivial, ⟨trivial, dT _⟩, trivial⟩, (show 2 < 3 by decide), trivial⟩, (forall_cons ⟨⟨trivial, dE _⟩, (show 1 < 3 by decide), ⟨trivial, dI _⟩, ⟨trivial, dI _⟩, trivial⟩ (forall_cons ⟨⟨trivial, dE _⟩, ⟨trivial, dC _⟩, trivial⟩ (forall_cons ⟨trivial, trivial, trivial⟩ forall_nil))), ⟨⟨trivial, trivial, dT _, trivial⟩, trivial, trivial⟩, (forall_cons ⟨dE _, (show 1 < 3 by decide), dI _, dI _, trivial⟩ (forall_cons ⟨dE _, dC _, trivial⟩ (forall_cons ⟨trivial, trivial, trivial⟩ forall_nil)))⟩
theorem c75 {qq : Nat} {M : Mach} {p1 : Tm} {fl : Int} {fu : Int} {r : Tm × Int × Int × Int} (h : e75 qq M p1 fl fu = some r) : CT Tryz.prog 75 [.cells [.sl (flat entL M.l) (List.length M.l) .no, .mp 1 0, .sl (flat intC M.args) (List.length M.args) .no, .sl (flat intC M.own) (List.length M.own) .no], .cells [.sl (flat entL M.rl) (List.length M.rl) .no, .sl (flat conL M.parts) (List.length M.parts) .no], .cells [ai fl, ai fu]] [.mp 0 0, tmA p1, .mp 2 0] (.tup [tmA r.1, ai r.2.1]) [.cells [.sl (flat entL M.l) (List.length M.l) .no, .mp 1 0, .sl (flat intC M.args) (List.length M.args) .no, .sl (flat intC M.own) (List.length M.own) .no], .cells [.sl (flat entL M.rl) (List.length M.rl) .no, .sl (flat conL M.parts) (List.length M.parts) .no], .cells [ai r.2.2.1, ai r.2.2.2]] 0 := by
  unfold e75 at h
  obtain ⟨r1, h2, h⟩ := obind h
  obtain ⟨h3, h⟩ := splT h
  obtain ⟨r4, h5, h⟩ := obind h
  have k := oC 2 [0, 1, 2] (c119 h5) <| oK 1 [0, 1] h3 (c118 h2) o0
  obtain ⟨h6, h⟩ := splF h
  obtain ⟨r7, h8, h⟩ := obind h
  obtain rfl := sj h
  exact k75 (tF q75 1 [0, 1, 2] (oD (dT r7.sub) <| oD (dC M.parts) <| oD (dE M.rl) <| oD (dI M.own) <| oD (dI M.args) <| oD (dE M.l) <| oC 1 [] (c50 h8) <| oB 3 h6 k) (by kernel_rfl))

end Go.Proofs.YtlbmblbeccafcaaGreat

namespace Go.Proofs.YtlbmblbeccafcaaGreat
open Go Go.Ab

/- scholium/split.family -/
def e90 (qq : Nat) (M : Mach) (p1 : List Ent) (p2 : List FreeVar) (p3 : Int) (fl : Int) (fu : Int) : Option (Int × List Tm × List Tm × Int × Int × Int) :=
  (e123 qq p2 p3) >>= fun r1 =>
  if (r1.2 != 0) = true then
    some (0, [], [], r1.2, fl, fu)
  else
    (e75 qq M r1.1 fl fu) >>= fun r4 =>
    if (r4.2.1 != 0) = true then
      none
    else
      (e106 qq r4.1) >>= fun r7 =>
      if (r7.1.k != 6) = true then
        some (0, [], [], 17, r4.2.2.1, r4.2.2.2)
      else
        (gidx p1 r7.1.n) >>= fun x10 =>
        if (x10.kind != 1) = true then
          none
        else
          if ((List.length r7.2 : Int) != (w64 (x10.pars + x10.inds))) = true then
            none
          else
            (gsl r7.2 0 x10.pars) >>= fun x14 =>
            (gsl r7.2 x10.pars (List.length r7.2 : Int)) >>= fun x16 =>
            some (r7.1.n, x14, x16, 0, r4.2.2.1, r4.2.2.2)
theorem q90 : Tryz.prog.funcs[90]? = some Tryz.f90 ∧ Tryz.f90.body.isNone = false := ⟨Tryz.func90, by kernel_rfl⟩
theorem k90 {M : Mach} {p1 : List Ent} {p2 : List FreeVar} {p3 : Int} {fl : Int} {fu : Int} {r : Int × List Tm × List Tm × Int × Int × Int} (h : CTri Tryz.prog 90 [.cells [.sl (flat entL M.l) (List.length M.l) .no, .mp 1 0, .sl (flat intC M.args) (List.length M.args) .no, .sl (flat intC M.own) (List.length M.own) .no], .cells [.sl (flat entL M.rl) (List.length M.rl) .no, .sl (flat conL M.parts) (List.length M.parts) .no], .cells [ai fl, ai fu]] [.mp 0 0, .sl (flat entL p1) (List.length p1) .no, .sl (flat freeVarL p2) (List.length p2) .no, ai p3, .mp 2 0] (.tup [ai r.1, .sl (flat tmCells r.2.1) (List.length r.2.1) .no, .sl (flat tmCells r.2.2.1) (List.length r.2.2.1) .no, ai r.2.2.2.1]) [.cells [.sl (flat entL M.l) (List.length M.l) .no, .mp 1 0, .sl (flat intC M.args) (List.length M.args) .no, .sl (flat intC M.own) (List.length M.own) .no], .cells [.sl (flat entL M.rl) (List.length M.rl) .no, .sl (flat conL M.parts) (List.length M.parts) .no], .cells [ai r.2.2.2.2.1, ai r.2.2.2.2.2]] 0) : CT Tryz.prog 90 [.cells [.sl (flat entL M.l) (List.length M.l) .no, .mp 1 0, .sl (flat intC M.args) (List.length M.args) .no, .sl (flat intC M.own) (List.length M.own) .no], .cells [.sl (flat entL M.rl) (List.length M.rl) .no, .sl (flat conL M.parts) (List.length M.parts) .no], .cells [ai fl, ai fu]] [.mp 0 0, .sl (flat entL p1) (List.length p1) .no, .sl (flat freeVarL p2) (List.length p2) .no, ai p3, .mp 2 0] (.tup [ai r.1, .sl (flat tmCells r.2.1) (List.length r.2.1) .no, .sl (flat tmCells r.2.2.1) (List.length r.2.2.1) .no, ai r.2.2.2.1]) [.cells [.sl (flat entL M.l) (List.length M.l) .no, .mp 1 0, .sl (flat intC M.args) (List.length M.args) .no, .sl (flat intC M.own) (List.length M.own) .no], .cells [.sl (flat entL M.rl) (List.length M.rl) .no, .sl (flat conL M.parts) (List.length M.parts) .no], .cells [ai r.2.2.2.2.1, ai r.2.2.2.2.2]] 0 := ⟨h, ⟨(show 0 < 3 by decide), ⟨trivial, dE _⟩, ⟨trivial, dFreeVar _⟩, trivial, (show 2 < 3 by decide), trivial⟩, (forall_cons ⟨⟨trivial, dE _⟩, (show 1 < 3 by decide), ⟨trivial, dI _⟩, ⟨trivial, dI _⟩, trivial⟩ (forall_cons ⟨⟨trivial, dE _⟩, ⟨trivial, dC _⟩, trivial⟩ (forall_cons ⟨trivial, trivial, trivial⟩ forall_nil))), ⟨trivial, dT _, dT _, trivial, trivial⟩, (forall_cons ⟨dE _, (show 1 < 3 by decide), dI _, dI _, trivial⟩ (forall_cons ⟨dE _, dC _, trivial⟩ (forall_cons ⟨trivial, trivial, trivial⟩ forall_nil)))⟩
theorem c90 {qq : Nat} {M : Mach} {p1 : List Ent} {p2 : List FreeVar} {p3 : Int} {fl : Int} {fu : Int} {r : Int × List Tm × List Tm × Int × Int × Int} (h : e90 qq M p1 p2 p3 fl fu = some r) : CT Tryz.prog 90 [.cells [.sl (flat entL M.l) (List.length M.l) .no, .mp 1 0, .sl (flat intC M.args) (List.length M.args) .no, .sl (flat intC M.own) (List.length M.own) .no], .cells [.sl (flat entL M.rl) (List.length M.rl) .no, .sl (flat conL M.parts) (List.length M.parts) .no], .cells [ai fl, ai fu]] [.mp 0 0, .sl (flat entL p1) (List.length p1) .no, .sl (flat freeVarL p2) (List.length p2) .no, ai p3, .mp 2 0] (.tup [ai r.1, .sl (flat tmCells r.2.1) (List.length r.2.1) .no, .sl (flat tmCells r.2.2.1) (List.length r.2.2.1) .no, ai r.2.2.2.1]) [.cells [.sl (flat entL M.l) (List.length M.l) .no, .mp 1 0, .sl (flat intC M.args) (List.length M.args) .no, .sl (flat intC M.own) (List.length M.own) .no], .cells [.sl (flat entL M.rl) (List.length M.rl) .no, .sl (flat conL M.parts) (List.length M.parts) .no], .cells [ai r.2.2.2.2.1, ai r.2.2.2.2.2]] 0 := by
  unfold e90 at h
  obtain ⟨r1, h2, h⟩ := obind h
  have k := oC 0 [] (c123 h2) o0
  rcases spl h with ⟨h3, h⟩ | ⟨h3, h⟩
  · obtain rfl := sj h
    exact k90 (tF q90 0 [0, 1, 2] (oD (dT ([] : List Tm)) <| oD (dT ([] : List Tm)) <| oD (dC M.parts) <| oD (dE M.rl) <| oD (dI M.own) <| oD (dI M.args) <| oD (dE M.l) <| oB 3 h3 k) (by kernel_rfl))
  · obtain ⟨r4, h5, h⟩ := obind h
    have k := oC 1 [0, 1, 2] (c75 h5) <| oB 3 h3 k
    obtain ⟨h6, h⟩ := splF h
    obtain ⟨r7, h8, h⟩ := obind h
    have k := oC 1 [] (c106 h8) <| oB 3 h6 k
    rcases spl h with ⟨h9, h⟩ | ⟨h9, h⟩
    · obtain rfl := sj h
      exact k90 (tF q90 0 [0, 1, 2] (oD (dT ([] : List Tm)) <| oD (dT ([] : List Tm)) <| oD (dC M.parts) <| oD (dE M.rl) <| oD (dI M.own) <| oD (dI M.args) <| oD (dE M.l) <| oB 4 h9 k) (by kernel_rfl))
    · obtain ⟨x10, h11, h⟩ := obind h
      have k := oA 1 (ix25 (o := .no) h11) <| oB 4 h9 k
      obtain ⟨h12, h⟩ := splF h
      have k := oA 2 (ix25 (o := .no) h11) <| oA 2 (ix25 (o := .no) h11) <| oB 1 h12 k
      obtain ⟨h13, h⟩ := splF h
      obtain ⟨x14, h15, h⟩ := obind h
      obtain ⟨x16, h17, h⟩ := obind h
      obtain rfl := sj h
      exact k90 (tF q90 0 [0, 1, 2] (oD (dT x16) <| oD (dT x14) <| oD (dC M.parts) <| oD (dE M.rl) <| oD (dI M.own) <| oD (dI M.args) <| oD (dE M.l) <| oA 0 (slFrom22 h17) <| oA 2 (slTo3_22 (o := .no) h15) <| oA 1 (ix25 (o := .no) h11) <| oB 2 h13 k) (by kernel_rfl))

end Go.Proofs.YtlbmblbeccafcaaGreat

namespace Go.Proofs.YtlbmblbeccafcaaGreat
open Go Go.Ab

/- scholium/split.start -/
def e53 (qq : Nat) (M : Mach) (p1 : List FreeVar) (p2 : Int) (fl : Int) (fu : Int) : Option (Int × Int × Int × Int × List Ent × List FreeVar × Int × List Tm × List Tm) :=
  (e88 qq M p1) >>= fun r1 =>
  if r1 = true then
    (e89 qq M) >>= fun r4 =>
    (e90 qq M r4 p1 p2 fl fu) >>= fun r6 =>
    some (r6.1, r6.2.2.2.1, r6.2.2.2.2.1, r6.2.2.2.2.2, r4, p1, p2, r6.2.1, r6.2.2.1)
  else
    none
theorem q53 : Tryz.prog.funcs[53]? = some Tryz.f53 ∧ Tryz.f53.body.isNone = false := ⟨Tryz.func53, by kernel_rfl⟩
theorem k53 {M : Mach} {p1 : List FreeVar} {p2 : Int} {fl : Int} {fu : Int} {r : Int × Int × Int × Int × List Ent × List FreeVar × Int × List Tm × List Tm} (h : CTri Tryz.prog 53 [.cells [.sl (flat entL M.l) (List.length M.l) .no, .mp 1 0, .sl (flat intC M.args) (List.length M.args) .no, .sl (flat intC M.own) (List.length M.own) .no], .cells [.sl (flat entL M.rl) (List.length M.rl) .no, .sl (flat conL M.parts) (List.length M.parts) .no], .cells [ai fl, ai fu]] [.mp 0 0, .sl (flat freeVarL p1) (List.length p1) .no, ai p2, .mp 2 0] (.tup [.mp 3 0, ai r.1, ai r.2.1]) [.cells [.sl (flat entL M.l) (List.length M.l) .no, .mp 1 0, .sl (flat intC M.args) (List.length M.args) .no, .sl (flat intC M.own) (List.length M.own) .no], .cells [.sl (flat entL M.rl) (List.length M.rl) .no, .sl (flat conL M.parts) (List.length M.parts) .no], .cells [ai r.2.2.1, ai r.2.2.2.1], .cells [.mp 0 0, .sl (flat entL r.2.2.2.2.1) (List.length r.2.2.2.2.1) .no, .sl (flat freeVarL r.2.2.2.2.2.1) (List.length r.2.2.2.2.2.1) .no, ai r.2.2.2.2.2.2.1, .mp 2 0, .sl (flat tmCells r.2.2.2.2.2.2.2.1) (List.length r.2.2.2.2.2.2.2.1) .no, .sl (flat tmCells r.2.2.2.2.2.2.2.2) (List.length r.2.2.2.2.2.2.2.2) .no]] 0) : CT Tryz.prog 53 [.cells [.sl (flat entL M.l) (List.length M.l) .no, .mp 1 0, .sl (flat intC M.args) (List.length M.args) .no, .sl (flat intC M.own) (List.length M.own) .no], .cells [.sl (flat entL M.rl) (List.length M.rl) .no, .sl (flat conL M.parts) (List.length M.parts) .no], .cells [ai fl, ai fu]] [.mp 0 0, .sl (flat freeVarL p1) (List.length p1) .no, ai p2, .mp 2 0] (.tup [.mp 3 0, ai r.1, ai r.2.1]) [.cells [.sl (flat entL M.l) (List.length M.l) .no, .mp 1 0, .sl (flat intC M.args) (List.length M.args) .no, .sl (flat intC M.own) (List.length M.own) .no], .cells [.sl (flat entL M.rl) (List.length M.rl) .no, .sl (flat conL M.parts) (List.length M.parts) .no], .cells [ai r.2.2.1, ai r.2.2.2.1], .cells [.mp 0 0, .sl (flat entL r.2.2.2.2.1) (List.length r.2.2.2.2.1) .no, .sl (flat freeVarL r.2.2.2.2.2.1) (List.length r.2.2.2.2.2.1) .no, ai r.2.2.2.2.2.2.1, .mp 2 0, .sl (flat tmCells r.2.2.2.2.2.2.2.1) (List.length r.2.2.2.2.2.2.2.1) .no, .sl (flat tmCells r.2.2.2.2.2.2.2.2) (List.length r.2.2.2.2.2.2.2.2) .no]] 0 := ⟨h, ⟨(show 0 < 3 by decide), ⟨trivial, dFreeVar _⟩, trivial, (show 2 < 3 by decide), trivial⟩, (forall_cons ⟨⟨trivial, dE _⟩, (show 1 < 3 by decide), ⟨trivial, dI _⟩, ⟨trivial, dI _⟩, trivial⟩ (forall_cons ⟨⟨trivial, dE _⟩, ⟨trivial, dC _⟩, trivial⟩ (forall_cons ⟨trivial, trivial, trivial⟩ forall_nil))), ⟨(show 3 < 4 by decide), trivial, trivial, trivial⟩, (forall_cons ⟨dE _, (show 1 < 4 by decide), dI _, dI _, trivial⟩ (forall_cons ⟨dE _, dC _, trivial⟩ (forall_cons ⟨trivial, trivial, trivial⟩ (forall_cons ⟨(show 0 < 4 by decide), dE _, dFreeVar _, trivial, (show 2 < 4 by decide), dT _, dT _, trivial⟩ forall_nil))))⟩
theorem c53 {qq : Nat} {M : Mach} {p1 : List FreeVar} {p2 : Int} {fl : Int} {fu : Int} {r : Int × Int × Int × Int × List Ent × List FreeVar × Int × List Tm × List Tm} (h : e53 qq M p1 p2 fl fu = some r) : CT Tryz.prog 53 [.cells [.sl (flat entL M.l) (List.length M.l) .no, .mp 1 0, .sl (flat intC M.args) (List.length M.args) .no, .sl (flat intC M.own) (List.length M.own) .no], .cells [.sl (flat entL M.rl) (List.length M.rl) .no, .sl (flat conL M.parts) (List.length M.parts) .no], .cells [ai fl, ai fu]] [.mp 0 0, .sl (flat freeVarL p1) (List.length p1) .no, ai p2, .mp 2 0] (.tup [.mp 3 0, ai r.1, ai r.2.1]) [.cells [.sl (flat entL M.l) (List.length M.l) .no, .mp 1 0, .sl (flat intC M.args) (List.length M.args) .no, .sl (flat intC M.own) (List.length M.own) .no], .cells [.sl (flat entL M.rl) (List.length M.rl) .no, .sl (flat conL M.parts) (List.length M.parts) .no], .cells [ai r.2.2.1, ai r.2.2.2.1], .cells [.mp 0 0, .sl (flat entL r.2.2.2.2.1) (List.length r.2.2.2.2.1) .no, .sl (flat freeVarL r.2.2.2.2.2.1) (List.length r.2.2.2.2.2.1) .no, ai r.2.2.2.2.2.2.1, .mp 2 0, .sl (flat tmCells r.2.2.2.2.2.2.2.1) (List.length r.2.2.2.2.2.2.2.1) .no, .sl (flat tmCells r.2.2.2.2.2.2.2.2) (List.length r.2.2.2.2.2.2.2.2) .no]] 0 := by
  unfold e53 at h
  obtain ⟨r1, h2, h⟩ := obind h
  obtain ⟨h3, h⟩ := splT h
  obtain ⟨r4, h5, h⟩ := obind h
  obtain ⟨r6, h7, h⟩ := obind h
  obtain rfl := sj h
  exact k53 (tF q53 6 [0, 1, 2, 3] (oD (dT r6.2.2.1) <| oD (dT r6.2.1) <| oD (dFreeVar p1) <| oD (dE r4) <| oD (dC M.parts) <| oD (dE M.rl) <| oD (dI M.own) <| oD (dI M.args) <| oD (dE M.l) <| oC 1 [0, 1, 2] (c90 h7) <| oC 1 [0, 1] (c89 h5) <| oK 0 [0, 1] h3 (c88 h2) o0) (by kernel_rfl))

end Go.Proofs.YtlbmblbeccafcaaGreat

namespace Go.Proofs.YtlbmblbeccafcaaGreat
open Go Go.Ab

/- slices.Index(()int,int) -/
def e132L18630 : Nat → (List Int) → Int → Int →  Option (Int)
  | 0, _, _, _ => none
  | qq + 1, p0, p1, v8 =>
    if decide (v8 < (List.length p0 : Int)) = true then
      (gidx p0 v8) >>= fun x2 =>
      if (p1 == x2) = true then
        some v8
      else
        e132L18630 qq p0 p1 (w64 (v8 + 1))
    else
      some (-1)
def e132 (qq : Nat) (p0 : List Int) (p1 : Int) : Option (Int) :=
  e132L18630 qq p0 p1 0
def g132L18630E0 (j : Nat → Value) (p0 : List Int) (p1 : Int) (v8 : Int) : List AV := sp j 19 0 [(0, .sl (flat intC p0) (List.length p0) .no), (1, ai p1), (7, ai (List.length p0 : Int)), (8, ai v8)]
def g132L18630S0 (p0 : List Int) (p1 : Int) (v8 : Int) : LSt := ⟨[], 0, [], 0, []⟩
theorem q132 : Tryz.prog.funcs[132]? = some Tryz.f132 ∧ Tryz.f132.body.isNone = false := ⟨Tryz.func132, by kernel_rfl⟩
theorem k132 {p0 : List Int} {p1 : Int} {r : Int} (h : CTri Tryz.prog 132 [] [.sl (flat intC p0) (List.length p0) .no, ai p1] (ai r) [] 0) : CT Tryz.prog 132 [] [.sl (flat intC p0) (List.length p0) .no, ai p1] (ai r) [] 0 := ⟨h, ⟨⟨trivial, dI _⟩, trivial, trivial⟩, forall_nil, trivial, forall_nil⟩
theorem l132L18630 : ∀ qq : Nat, (∀ (p0 : List Int) (p1 : Int) (v8 : Int) (r : Int), e132L18630 qq p0 p1 v8 = some r → (∀ j, Dl Tryz.prog 0 (inn (inn (rgt (lft (rgt (bod Tryz.f132)))))) (g132L18630E0 j p0 p1 v8) (g132L18630S0 p0 p1 v8) (frameQ Tryz.prog 0 (FinQ Tryz.prog 0 Tryz.f132 (ai r) [] 0) [.blk 0, .seq (rgt (rgt (bod Tryz.f132)))]))) := by
  intro qq
  induction qq with
  | zero =>
    exact fun _ _ _ _ h => nn h
  | succ qq ih =>
    intro p0 p1 v8 r h
    rw [e132L18630] at h
    rcases spl h with ⟨h1, h⟩ | ⟨h1, h⟩
    · obtain ⟨x2, h3, h⟩ := obind h
      have k := oA 0 (ix37 (o := .no) h3) <| oB 0 h1 o0
      rcases spl h with ⟨h4, h⟩ | ⟨h4, h⟩
      · obtain rfl := sj h
        exact fun j => lF 0 [] (oB 1 h4 k) (by kernel_rfl)
      · exact fun j => lH 1 [] [] [] [0, 1, 7, 8] (oD (dI p0) <| oB 1 h4 k) (ih _ _ _ _ h) (fun j => by kernel_rfl)
    · obtain rfl := sj h
      exact fun j => lF 0 [] (oB 0 h1 o0) (by kernel_rfl)
theorem c132 {qq : Nat} {p0 : List Int} {p1 : Int} {r : Int} (h : e132 qq p0 p1 = some r) : CT Tryz.prog 132 [] [.sl (flat intC p0) (List.length p0) .no, ai p1] (ai r) [] 0 := by
  unfold e132 at h
  exact k132 (tH q132 1 [] [] [] [0, 1, 7, 8] (oD (dI p0) o0) (l132L18630 _ _ _ _ _ h) (fun j => by kernel_rfl))

end Go.Proofs.YtlbmblbeccafcaaGreat

namespace Go.Proofs.YtlbmblbeccafcaaGreat
open Go Go.Ab

/- slices.Contains(()int,int) -/
def e91 (qq : Nat) (p0 : List Int) (p1 : Int) : Option (Bool) :=
  (e132 qq p0 p1) >>= fun r1 =>
  some (decide (r1 ≥ 0))
theorem q91 : Tryz.prog.funcs[91]? = some Tryz.f91 ∧ Tryz.f91.body.isNone = false := ⟨Tryz.func91, by kernel_rfl⟩
theorem k91 {p0 : List Int} {p1 : Int} {r : Bool} (h : CTri Tryz.prog 91 [] [.sl (flat intC p0) (List.length p0) .no, ai p1] (ab r) [] 0) : CT Tryz.prog 91 [] [.sl (flat intC p0) (List.length p0) .no, ai p1] (ab r) [] 0 := ⟨h, ⟨⟨trivial, dI _⟩, trivial, trivial⟩, forall_nil, trivial, forall_nil⟩
theorem c91 {qq : Nat} {p0 : List Int} {p1 : Int} {r : Bool} (h : e91 qq p0 p1 = some r) : CT Tryz.prog 91 [] [.sl (flat intC p0) (List.length p0) .no, ai p1] (ab r) [] 0 := by
  unfold e91 at h
  obtain ⟨r1, h2, h⟩ := obind h
  obtain rfl := sj h
  exact k91 (tF q91 1 [] (oC 0 [] (c132 h2) o0) (by kernel_rfl))

end Go.Proofs.YtlbmblbeccafcaaGreat

namespace Go.Proofs.YtlbmblbeccafcaaGreat
open Go Go.Ab

/- scholium/subst.fits -/
def e166 (qq : Nat) (p0 : Int) : Option (Bool) :=
  if decide (p0 ≥ 0) = true then
    some (decide (p0 ≤ 1048576))
  else
    none
theorem q166 : Tryz.prog.funcs[166]? = some Tryz.f166 ∧ Tryz.f166.body.isNone = false := ⟨Tryz.func166, by kernel_rfl⟩
theorem k166 {p0 : Int} {r : Bool} (h : CTri Tryz.prog 166 [] [ai p0] (ab r) [] 0) : CT Tryz.prog 166 [] [ai p0] (ab r) [] 0 := ⟨h, ⟨trivial, trivial⟩, forall_nil, trivial, forall_nil⟩
theorem c166 {qq : Nat} {p0 : Int} {r : Bool} (h : e166 qq p0 = some r) : CT Tryz.prog 166 [] [ai p0] (ab r) [] 0 := by
  unfold e166 at h
  obtain ⟨h1, h⟩ := splT h
  obtain rfl := sj h
  exact k166 (tF q166 1 [] (oB 0 h1 o0) (by kernel_rfl))

end Go.Proofs.YtlbmblbeccafcaaGreat

namespace Go.Proofs.YtlbmblbeccafcaaGreat
open Go Go.Ab

/- scholium/subst.Named$1 -/
def e168va13904 (qq : Nat) (q0 : Int) (q1 : Bool) (q2 : Int) (q3 : Int) (q4 : Int) (q5 : List Tm) : Option (Unit) :=
  some ()
theorem q168va13904 : Tryz.prog.funcs[168]? = some Tryz.f168 ∧ Tryz.f168.body.isNone = false := ⟨Tryz.func168, by kernel_rfl⟩
theorem k168va13904 {q0 : Int} {q1 : Bool} {q2 : Int} {q3 : Int} {q4 : Int} {q5 : List Tm}  (h : CTri Tryz.prog 168 [.cells [ai q0, ab q1, .val .nilFunc], .cells [ai q2], .cells [ai q3, ai q4, .sl (flat tmCells q5) (List.length q5) .no]] [.mp 0 0, .mp 1 0, .mp 2 0] (.clo 169 [] [.mp 1 0, .mp 3 0, .mp 2 0]) [.cells [ai q0, ab q1, .val .nilFunc], .cells [ai q2], .cells [ai q3, ai q4, .sl (flat tmCells q5) (List.length q5) .no], .cells [.mp 0 0]] 0) : CT Tryz.prog 168 [.cells [ai q0, ab q1, .val .nilFunc], .cells [ai q2], .cells [ai q3, ai q4, .sl (flat tmCells q5) (List.length q5) .no]] [.mp 0 0, .mp 1 0, .mp 2 0] (.clo 169 [] [.mp 1 0, .mp 3 0, .mp 2 0]) [.cells [ai q0, ab q1, .val .nilFunc], .cells [ai q2], .cells [ai q3, ai q4, .sl (flat tmCells q5) (List.length q5) .no], .cells [.mp 0 0]] 0 := ⟨h, ⟨(show 0 < 3 by decide), (show 1 < 3 by decide), (show 2 < 3 by decide), trivial⟩, (forall_cons ⟨trivial, trivial, trivial, trivial⟩ (forall_cons ⟨trivial, trivial⟩ (forall_cons ⟨trivial, trivial, ⟨trivial, dT _⟩, trivial⟩ forall_nil))), ⟨trivial, ⟨(show 1 < 4 by decide), (show 3 < 4 by decide), (show 2 < 4 by decide), trivial⟩⟩, (forall_cons ⟨trivial, trivial, trivial, trivial⟩ (forall_cons ⟨trivial, trivial⟩ (forall_cons ⟨trivial, trivial, dT _, trivial⟩ (forall_cons ⟨(show 0 < 4 by decide), trivial⟩ forall_nil))))⟩
theorem c168va13904 {qq : Nat} {q0 : Int} {q1 : Bool} {q2 : Int} {q3 : Int} {q4 : Int} {q5 : List Tm} {r : Unit} (h : e168va13904 qq q0 q1 q2 q3 q4 q5 = some r) : CT Tryz.prog 168 [.cells [ai q0, ab q1, .val .nilFunc], .cells [ai q2], .cells [ai q3, ai q4, .sl (flat tmCells q5) (List.length q5) .no]] [.mp 0 0, .mp 1 0, .mp 2 0] (.clo 169 [] [.mp 1 0, .mp 3 0, .mp 2 0]) [.cells [ai q0, ab q1, .val .nilFunc], .cells [ai q2], .cells [ai q3, ai q4, .sl (flat tmCells q5) (List.length q5) .no], .cells [.mp 0 0]] 0 := by
  unfold e168va13904 at h
  obtain rfl := sj h
  exact k168va13904 (tF q168va13904 0 [0, 1, 2, 3] (oD (dT q5) o0) (by kernel_rfl))

end Go.Proofs.YtlbmblbeccafcaaGreat

namespace Go.Proofs.YtlbmblbeccafcaaGreat
open Go Go.Ab

/- scholium/subst.Named$1$1 -/
def e169va53239 (qq : Nat) (p0 : Tm) (p1 : Int) (q2 : Int) (q3 : Int) (q4 : Bool) (q5 : Int) (q6 : Int) (q7 : List Tm) : Option (Tm × Bool × Int × Bool) :=
  if (p0.k != 8) = true then
    some ((Tm.mk 0 0 []), false, q3, q4)
  else
    none
theorem q169va53239 : Tryz.prog.funcs[169]? = some Tryz.f169 ∧ Tryz.f169.body.isNone = false := ⟨Tryz.func169, by kernel_rfl⟩
theorem k169va53239 {p0 : Tm} {p1 : Int} {q2 : Int} {q3 : Int} {q4 : Bool} {q5 : Int} {q6 : Int} {q7 : List Tm} {r : Tm × Bool × Int × Bool} (h : CTri Tryz.prog 169 [.cells [ai q2], .cells [.mp 2 0], .cells [ai q3, ab q4, .clo 169 [] [.mp 0 0, .mp 1 0, .mp 3 0]], .cells [ai q5, ai q6, .sl (flat tmCells q7) (List.length q7) .no]] [tmA p0, ai p1, .mp 0 0, .mp 1 0, .mp 3 0] (.tup [tmA r.1, ab r.2.1]) [.cells [ai q2], .cells [.mp 2 0], .cells [ai r.2.2.1, ab r.2.2.2, .clo 169 [] [.mp 0 0, .mp 1 0, .mp 3 0]], .cells [ai q5, ai q6, .sl (flat tmCells q7) (List.length q7) .no]] 0) : CT Tryz.prog 169 [.cells [ai q2], .cells [.mp 2 0], .cells [ai q3, ab q4, .clo 169 [] [.mp 0 0, .mp 1 0, .mp 3 0]], .cells [ai q5, ai q6, .sl (flat tmCells q7) (List.length q7) .no]] [tmA p0, ai p1, .mp 0 0, .mp 1 0, .mp 3 0] (.tup [tmA r.1, ab r.2.1]) [.cells [ai q2], .cells [.mp 2 0], .cells [ai r.2.2.1, ab r.2.2.2, .clo 169 [] [.mp 0 0, .mp 1 0, .mp 3 0]], .cells [ai q5, ai q6, .sl (flat tmCells q7) (List.length q7) .no]] 0 := ⟨h, ⟨⟨trivial, trivial, ⟨trivial, dT _⟩, trivial⟩, trivial, (show 0 < 4 by decide), (show 1 < 4 by decide), (show 3 < 4 by decide), trivial⟩, (forall_cons ⟨trivial, trivial⟩ (forall_cons ⟨(show 2 < 4 by decide), trivial⟩ (forall_cons ⟨trivial, trivial, ⟨trivial, ⟨(show 0 < 4 by decide), (show 1 < 4 by decide), (show 3 < 4 by decide), trivial⟩⟩, trivial⟩ (forall_cons ⟨trivial, trivial, ⟨trivial, dT _⟩, trivial⟩ forall_nil)))), ⟨⟨trivial, trivial, dT _, trivial⟩, trivial, trivial⟩, (forall_cons ⟨trivial, trivial⟩ (forall_cons ⟨(show 2 < 4 by decide), trivial⟩ (forall_cons ⟨trivial, trivial, ⟨trivial, ⟨(show 0 < 4 by decide), (show 1 < 4 by decide), (show 3 < 4 by decide), trivial⟩⟩, trivial⟩ (forall_cons ⟨trivial, trivial, dT _, trivial⟩ forall_nil))))⟩
theorem c169va53239 {qq : Nat} {p0 : Tm} {p1 : Int} {q2 : Int} {q3 : Int} {q4 : Bool} {q5 : Int} {q6 : Int} {q7 : List Tm} {r : Tm × Bool × Int × Bool} (h : e169va53239 qq p0 p1 q2 q3 q4 q5 q6 q7 = some r) : CT Tryz.prog 169 [.cells [ai q2], .cells [.mp 2 0], .cells [ai q3, ab q4, .clo 169 [] [.mp 0 0, .mp 1 0, .mp 3 0]], .cells [ai q5, ai q6, .sl (flat tmCells q7) (List.length q7) .no]] [tmA p0, ai p1, .mp 0 0, .mp 1 0, .mp 3 0] (.tup [tmA r.1, ab r.2.1]) [.cells [ai q2], .cells [.mp 2 0], .cells [ai r.2.2.1, ab r.2.2.2, .clo 169 [] [.mp 0 0, .mp 1 0, .mp 3 0]], .cells [ai q5, ai q6, .sl (flat tmCells q7) (List.length q7) .no]] 0 := by
  unfold e169va53239 at h
  obtain ⟨h1, h⟩ := splT h
  obtain rfl := sj h
  exact k169va53239 (tF q169va53239 1 [0, 1, 2, 3] (oD (dT ([] : List Tm)) <| oD (dT q7) <| oB 1 h1 o0) (by kernel_rfl))

end Go.Proofs.YtlbmblbeccafcaaGreat

namespace Go.Proofs.YtlbmblbeccafcaaGreat
open Go Go.Ab

/- (*scholium/subst.walker).walk -/
def e230va49381L21960 (qq : Nat) (q2 : Int) (q3 : Int) (q4 : Int) (q5 : List Tm) (p1 : Tm) (p2 : Int) (v53 : Int) (vb0_0 : Int) (vb0_1 : Bool) (vb6_2 : List Tm) : Option (Tm × Int × Bool) :=
  if decide (v53 < (List.length p1.sub : Int)) = true then
    none
  else
    some ((Tm.mk p1.k p1.n vb6_2), vb0_0, vb0_1)
def e230va49381 (qq : Nat) (q0 : Int) (q1 : Bool) (q2 : Int) (q3 : Int) (q4 : Int) (q5 : List Tm) (p1 : Tm) (p2 : Int) : Option (Tm × Int × Bool) :=
  if q1 = true then
    none
  else
    (e169va53239 qq p1 p2 q2 q0 q1 q3 q4 q5) >>= fun r4 =>
    if r4.2.1 = true then
      none
    else
      if decide ((w64 (r4.2.2.1 - 1)) < 0) = true then
        none
      else
        e230va49381L21960 qq q2 q3 q4 q5 p1 p2 0 (w64 (r4.2.2.1 - 1)) r4.2.2.2 []
def g230va49381L21960E0 (j : Nat → Value) (q2 : Int) (q3 : Int) (q4 : Int) (q5 : List Tm) (p1 : Tm) (p2 : Int) (v53 : Int) (vb0_0 : Int) (vb0_1 : Bool) (vb6_2 : List Tm) : List AV := sp j 79 0 [(0, .mp 0 0), (2, ai p2), (4, .mp 4 0), (6, .mp 5 0), (9, .mp 6 0), (51, .sl (flat tmCells p1.sub) (List.length p1.sub) .no), (52, ai (List.length p1.sub : Int)), (53, ai v53)]
def g230va49381L21960S0 (q2 : Int) (q3 : Int) (q4 : Int) (q5 : List Tm) (p1 : Tm) (p2 : Int) (v53 : Int) (vb0_0 : Int) (vb0_1 : Bool) (vb6_2 : List Tm) : LSt := ⟨[(0, .cells [ai vb0_0, ab vb0_1, .clo 169 [] [.mp 1 0, .mp 2 0, .mp 3 0]]), (1, .cells [ai q2]), (2, .cells [.mp 0 0]), (3, .cells [ai q3, ai q4, .sl (flat tmCells q5) (List.length q5) .no]), (4, .cells [ai p1.k, ai p1.n, .sl (flat tmCells p1.sub) (List.length p1.sub) .no]), (5, .cells [ai 0, ai 0, .sl (flat tmCells ([] : List Tm)) (List.length ([] : List Tm)) .nl]), (6, .cells [ai p1.k, ai p1.n, .sl (flat tmCells vb6_2) (List.length vb6_2) (.st 0 3)])], 7, [0], 1, []⟩
theorem q230va49381 : Tryz.prog.funcs[230]? = some Tryz.f230 ∧ Tryz.f230.body.isNone = false := ⟨Tryz.func230, by kernel_rfl⟩
theorem k230va49381 {q0 : Int} {q1 : Bool} {q2 : Int} {q3 : Int} {q4 : Int} {q5 : List Tm} {p1 : Tm} {p2 : Int} {r : Tm × Int × Bool} (h : CTri Tryz.prog 230 [.cells [ai q0, ab q1, .clo 169 [] [.mp 1 0, .mp 2 0, .mp 3 0]], .cells [ai q2], .cells [.mp 0 0], .cells [ai q3, ai q4, .sl (flat tmCells q5) (List.length q5) .no]] [.mp 0 0, tmA p1, ai p2] (tmA r.1) [.cells [ai r.2.1, ab r.2.2, .clo 169 [] [.mp 1 0, .mp 2 0, .mp 3 0]], .cells [ai q2], .cells [.mp 0 0], .cells [ai q3, ai q4, .sl (flat tmCells q5) (List.length q5) .no]] 0) : CT Tryz.prog 230 [.cells [ai q0, ab q1, .clo 169 [] [.mp 1 0, .mp 2 0, .mp 3 0]], .cells [ai q2], .cells [.mp 0 0], .cells [ai q3, ai q4, .sl (flat tmCells q5) (List.length q5) .no]] [.mp 0 0, tmA p1, ai p2] (tmA r.1) [.cells [ai r.2.1, ab r.2.2, .clo 169 [] [.mp 1 0, .mp 2 0, .mp 3 0]], .cells [ai q2], .cells [.mp 0 0], .cells [ai q3, ai q4, .sl (flat tmCells q5) (List.length q5) .no]] 0 := ⟨h, ⟨(show 0 < 4 by decide), ⟨trivial, trivial, ⟨trivial, dT _⟩, trivial⟩, trivial, trivial⟩, (forall_cons ⟨trivial, trivial, ⟨trivial, ⟨(show 1 < 4 by decide), (show 2 < 4 by decide), (show 3 < 4 by decide), trivial⟩⟩, trivial⟩ (forall_cons ⟨trivial, trivial⟩ (forall_cons ⟨(show 0 < 4 by decide), trivial⟩ (forall_cons ⟨trivial, trivial, ⟨trivial, dT _⟩, trivial⟩ forall_nil)))), ⟨trivial, trivial, dT _, trivial⟩, (forall_cons ⟨trivial, trivial, ⟨trivial, ⟨(show 1 < 4 by decide), (show 2 < 4 by decide), (show 3 < 4 by decide), trivial⟩⟩, trivial⟩ (forall_cons ⟨trivial, trivial⟩ (forall_cons ⟨(show 0 < 4 by decide), trivial⟩ (forall_cons ⟨trivial, trivial, dT _, trivial⟩ forall_nil))))⟩
theorem l230va49381L21960 (qq : Nat) (q2 : Int) (q3 : Int) (q4 : Int) (q5 : List Tm) (p1 : Tm) (p2 : Int) (v53 : Int) (vb0_0 : Int) (vb0_1 : Bool) (vb6_2 : List Tm) (r : Tm × Int × Bool) (h : e230va49381L21960 qq q2 q3 q4 q5 p1 p2 v53 vb0_0 vb0_1 vb6_2 = some r) : (∀ j, Dl Tryz.prog 4 (inn (inn (rgt (lft (rgt (rgt (rgt (rgt (rgt (bod Tryz.f230)))))))))) (g230va49381L21960E0 j q2 q3 q4 q5 p1 p2 v53 vb0_0 vb0_1 vb6_2) (g230va49381L21960S0 q2 q3 q4 q5 p1 p2 v53 vb0_0 vb0_1 vb6_2) (frameQ Tryz.prog 4 (FinQ Tryz.prog 4 Tryz.f230 (tmA r.1) [.cells [ai r.2.1, ab r.2.2, .clo 169 [] [.mp 1 0, .mp 2 0, .mp 3 0]], .cells [ai q2], .cells [.mp 0 0], .cells [ai q3, ai q4, .sl (flat tmCells q5) (List.length q5) .no]] 0) [.blk 0, .seq (rgt (rgt (rgt (rgt (rgt (rgt (bod Tryz.f230)))))))])) := by
  unfold e230va49381L21960 at h
  obtain ⟨h8, h⟩ := splF h
  obtain rfl := sj h
  exact fun j => lF 2 [0, 1, 2, 3] (oD (dT vb6_2) <| oD (dT q5) <| oB 0 h8 o0) (by kernel_rfl)
theorem c230va49381 {qq : Nat} {q0 : Int} {q1 : Bool} {q2 : Int} {q3 : Int} {q4 : Int} {q5 : List Tm} {p1 : Tm} {p2 : Int} {r : Tm × Int × Bool} (h : e230va49381 qq q0 q1 q2 q3 q4 q5 p1 p2 = some r) : CT Tryz.prog 230 [.cells [ai q0, ab q1, .clo 169 [] [.mp 1 0, .mp 2 0, .mp 3 0]], .cells [ai q2], .cells [.mp 0 0], .cells [ai q3, ai q4, .sl (flat tmCells q5) (List.length q5) .no]] [.mp 0 0, tmA p1, ai p2] (tmA r.1) [.cells [ai r.2.1, ab r.2.2, .clo 169 [] [.mp 1 0, .mp 2 0, .mp 3 0]], .cells [ai q2], .cells [.mp 0 0], .cells [ai q3, ai q4, .sl (flat tmCells q5) (List.length q5) .no]] 0 := by
  unfold e230va49381 at h
  obtain ⟨h1, h⟩ := splF h
  obtain ⟨r4, h5, h⟩ := obind h
  have k := oC 2 [1, 2, 0, 3] (c169va53239 h5) <| oB 0 h1 o0
  obtain ⟨h6, h⟩ := splF h
  have k := oB 1 h6 k
  obtain ⟨h7, h⟩ := splF h
  exact k230va49381 (tH q230va49381 5 [(some 7, 2, 3)] [0, 1, 2, 3, 4, 5, 7] [0] [0, 2, 4, 6, 9, 51, 52, 53] (oD (dT p1.sub) <| oD (dT ([] : List Tm)) <| oD (dT ([] : List Tm)) <| oD (dT p1.sub) <| oD (dT q5) <| oB 5 h7 k) (l230va49381L21960 qq _ _ _ _ _ _ _ _ _ _ _ h) (fun j => by kernel_rfl))

end Go.Proofs.YtlbmblbeccafcaaGreat

namespace Go.Proofs.YtlbmblbeccafcaaGreat
open Go Go.Ab

/- scholium/subst.run -/
def e167va41413 (qq : Nat) (p0 : Tm) (q1 : Int) (q2 : Int) (q3 : Int) (q4 : List Tm) : Option (Tm × Int) :=
  (e168va13904 qq 8192 false q1 q2 q3 q4) >>= fun r1 =>
  (e230va49381 qq 8192 false q1 q2 q3 q4 p0 0) >>= fun r3 =>
  if r3.2.2 = true then
    none
  else
    (e51 qq r3.1) >>= fun r6 =>
    if r6 = true then
      some (r3.1, 0)
    else
      none
theorem q167va41413 : Tryz.prog.funcs[167]? = some Tryz.f167 ∧ Tryz.f167.body.isNone = false := ⟨Tryz.func167, by kernel_rfl⟩
theorem k167va41413 {p0 : Tm} {q1 : Int} {q2 : Int} {q3 : Int} {q4 : List Tm} {r : Tm × Int} (h : CTri Tryz.prog 167 [.cells [ai q1], .cells [ai q2, ai q3, .sl (flat tmCells q4) (List.length q4) .no]] [tmA p0, .clo 168 [] [.mp 0 0, .mp 1 0]] (.tup [tmA r.1, ai r.2]) [.cells [ai q1], .cells [ai q2, ai q3, .sl (flat tmCells q4) (List.length q4) .no]] 0) : CT Tryz.prog 167 [.cells [ai q1], .cells [ai q2, ai q3, .sl (flat tmCells q4) (List.length q4) .no]] [tmA p0, .clo 168 [] [.mp 0 0, .mp 1 0]] (.tup [tmA r.1, ai r.2]) [.cells [ai q1], .cells [ai q2, ai q3, .sl (flat tmCells q4) (List.length q4) .no]] 0 := ⟨h, ⟨⟨trivial, trivial, ⟨trivial, dT _⟩, trivial⟩, ⟨trivial, ⟨(show 0 < 2 by decide), (show 1 < 2 by decide), trivial⟩⟩, trivial⟩, (forall_cons ⟨trivial, trivial⟩ (forall_cons ⟨trivial, trivial, ⟨trivial, dT _⟩, trivial⟩ forall_nil)), ⟨⟨trivial, trivial, dT _, trivial⟩, trivial, trivial⟩, (forall_cons ⟨trivial, trivial⟩ (forall_cons ⟨trivial, trivial, dT _, trivial⟩ forall_nil))⟩
theorem c167va41413 {qq : Nat} {p0 : Tm} {q1 : Int} {q2 : Int} {q3 : Int} {q4 : List Tm} {r : Tm × Int} (h : e167va41413 qq p0 q1 q2 q3 q4 = some r) : CT Tryz.prog 167 [.cells [ai q1], .cells [ai q2, ai q3, .sl (flat tmCells q4) (List.length q4) .no]] [tmA p0, .clo 168 [] [.mp 0 0, .mp 1 0]] (.tup [tmA r.1, ai r.2]) [.cells [ai q1], .cells [ai q2, ai q3, .sl (flat tmCells q4) (List.length q4) .no]] 0 := by
  unfold e167va41413 at h
  obtain ⟨r1, h2, h⟩ := obind h
  obtain ⟨r3, h4, h⟩ := obind h
  have k := oC 2 [4, 0, 5, 1] (c230va49381 h4) <| oC 0 [4, 0, 1] (c168va13904 h2) o0
  obtain ⟨h5, h⟩ := splF h
  obtain ⟨r6, h7, h⟩ := obind h
  have k := oB 1 h5 k
  obtain ⟨h8, h⟩ := splT h
  obtain rfl := sj h
  exact k167va41413 (tF q167va41413 3 [0, 1] (oD (dT r3.1.sub) <| oD (dT q4) <| oK 1 [] h8 (c51 h7) k) (by kernel_rfl))

end Go.Proofs.YtlbmblbeccafcaaGreat

namespace Go.Proofs.YtlbmblbeccafcaaGreat
open Go Go.Ab

/- scholium/subst.Named -/
def e117 (qq : Nat) (p0 : Tm) (p1 : Tm) (p2 : Int) : Option (Tm × Int) :=
  (e51 qq p0) >>= fun r1 =>
  if r1 = true then
    (e51 qq p1) >>= fun r4 =>
    if r4 = true then
      (e166 qq p2) >>= fun r7 =>
      if r7 = true then
        (e167va41413 qq p0 p2 p1.k p1.n p1.sub) >>= fun r10 =>
        some (r10.1, r10.2)
      else
        none
    else
      none
  else
    none
theorem q117 : Tryz.prog.funcs[117]? = some Tryz.f117 ∧ Tryz.f117.body.isNone = false := ⟨Tryz.func117, by kernel_rfl⟩
theorem k117 {p0 : Tm} {p1 : Tm} {p2 : Int} {r : Tm × Int} (h : CTri Tryz.prog 117 [] [tmA p0, tmA p1, ai p2] (.tup [tmA r.1, ai r.2]) [] 0) : CT Tryz.prog 117 [] [tmA p0, tmA p1, ai p2] (.tup [tmA r.1, ai r.2]) [] 0 := ⟨h, ⟨⟨trivial, trivial, ⟨trivial, dT _⟩, trivial⟩, ⟨trivial, trivial, ⟨trivial, dT _⟩, trivial⟩, trivial, trivial⟩, forall_nil, ⟨⟨trivial, trivial, dT _, trivial⟩, trivial, trivial⟩, forall_nil⟩
theorem c117 {qq : Nat} {p0 : Tm} {p1 : Tm} {p2 : Int} {r : Tm × Int} (h : e117 qq p0 p1 p2 = some r) : CT Tryz.prog 117 [] [tmA p0, tmA p1, ai p2] (.tup [tmA r.1, ai r.2]) [] 0 := by
  unfold e117 at h
  obtain ⟨r1, h2, h⟩ := obind h
  obtain ⟨h3, h⟩ := splT h
  obtain ⟨r4, h5, h⟩ := obind h
  have k := oK 1 [] h3 (c51 h2) o0
  obtain ⟨h6, h⟩ := splT h
  obtain ⟨r7, h8, h⟩ := obind h
  have k := oK 2 [] h6 (c51 h5) k
  obtain ⟨h9, h⟩ := splT h
  obtain ⟨r10, h11, h⟩ := obind h
  obtain rfl := sj h
  exact k117 (tF q117 3 [] (oD (dT r10.1.sub) <| oC 2 [2, 1] (c167va41413 h11) <| oK 2 [] h9 (c166 h8) k) (by kernel_rfl))

end Go.Proofs.YtlbmblbeccafcaaGreat

namespace Go.Proofs.YtlbmblbeccafcaaGreat
open Go Go.Ab

/- scholium/free.Numbers -/
def e139L15088 : Nat → (List FreeVar) → (List Int) → Int →  Option (List Int)
  | 0, _, _, _ => none
  | qq + 1, p0, v3, v8 =>
    if decide (v8 < (List.length p0 : Int)) = true then
      (gidx p0 v8) >>= fun x2 =>
      (gapp 8 v3 [x2.n_]) >>= fun l4 =>
      e139L15088 qq p0 l4 (w64 (v8 + 1))
    else
      some v3
def e139 (qq : Nat) (p0 : List FreeVar) : Option (List Int) :=
  e139L15088 qq p0 [] 0
def g139L15088E0 (j : Nat → Value) (p0 : List FreeVar) (v3 : List Int) (v8 : Int) : List AV := sp j 19 0 [(3, .sl (flat intC v3) (List.length v3) (.st 0 1)), (6, .sl (flat freeVarL p0) (List.length p0) .no), (7, ai (List.length p0 : Int)), (8, ai v8)]
def g139L15088S0 (p0 : List FreeVar) (v3 : List Int) (v8 : Int) : LSt := ⟨[], 0, [0], 1, []⟩
theorem q139 : Tryz.prog.funcs[139]? = some Tryz.f139 ∧ Tryz.f139.body.isNone = false := ⟨Tryz.func139, by kernel_rfl⟩
theorem k139 {p0 : List FreeVar} {r : List Int} (h : CTri Tryz.prog 139 [] [.sl (flat freeVarL p0) (List.length p0) .no] (.sl (flat intC r) (List.length r) .no) [] 0) : CT Tryz.prog 139 [] [.sl (flat freeVarL p0) (List.length p0) .no] (.sl (flat intC r) (List.length r) .no) [] 0 := ⟨h, ⟨⟨trivial, dFreeVar _⟩, trivial⟩, forall_nil, dI _, forall_nil⟩
theorem l139L15088 : ∀ qq : Nat, (∀ (p0 : List FreeVar) (v3 : List Int) (v8 : Int) (r : List Int), e139L15088 qq p0 v3 v8 = some r → (∀ j, Dl Tryz.prog 0 (inn (inn (rgt (lft (rgt (rgt (bod Tryz.f139))))))) (g139L15088E0 j p0 v3 v8) (g139L15088S0 p0 v3 v8) (frameQ Tryz.prog 0 (FinQ Tryz.prog 0 Tryz.f139 (.sl (flat intC r) (List.length r) .no) [] 0) [.blk 0, .seq (rgt (rgt (rgt (bod Tryz.f139))))]))) := by
  intro qq
  induction qq with
  | zero =>
    exact fun _ _ _ _ h => nn h
  | succ qq ih =>
    intro p0 v3 v8 r h
    rw [e139L15088] at h
    rcases spl h with ⟨h1, h⟩ | ⟨h1, h⟩
    · obtain ⟨x2, h3, h⟩ := obind h
      obtain ⟨l4, h5, h⟩ := obind h
      exact fun j => lH 1 [] [] [1] [3, 6, 7, 8] (oD (dFreeVar p0) <| oD (dI l4) <| oP 4 (apS37 h5 (by simp)) <| oA 0 (ix42 (o := .no) h3) <| oB 0 h1 o0) (ih _ _ _ _ h) (fun j => by kernel_rfl)
    · obtain rfl := sj h
      exact fun j => lF 0 [] (oD (dI v3) <| oB 0 h1 o0) (by kernel_rfl)
theorem c139 {qq : Nat} {p0 : List FreeVar} {r : List Int} (h : e139 qq p0 = some r) : CT Tryz.prog 139 [] [.sl (flat freeVarL p0) (List.length p0) .no] (.sl (flat intC r) (List.length r) .no) [] 0 := by
  unfold e139 at h
  exact k139 (tH q139 1 [(none, 3, 1)] [] [0] [3, 6, 7, 8] (oD (dFreeVar p0) <| oD (dI ([] : List Int)) o0) (l139L15088 _ _ _ _ _ h) (fun j => by kernel_rfl))

end Go.Proofs.YtlbmblbeccafcaaGreat

namespace Go.Proofs.YtlbmblbeccafcaaGreat
open Go Go.Ab

/- slices.Clone(()scholium/free.Var,scholium/free.Var) -/
def e137vr0 (qq : Nat) (p0 : List FreeVar) : Option (Unit) :=
  some ()
theorem q137vr0 : Tryz.prog.funcs[137]? = some Tryz.f137 ∧ Tryz.f137.body.isNone = false := ⟨Tryz.func137, by kernel_rfl⟩
theorem k137vr0 {p0 : List FreeVar}  (h : CTri Tryz.prog 137 [] [.sl (flat freeVarL p0) (List.length p0) .nl] (.sl (flat freeVarL ([] : List FreeVar)) (List.length ([] : List FreeVar)) .full) [] 0) : CT Tryz.prog 137 [] [.sl (flat freeVarL p0) (List.length p0) .nl] (.sl (flat freeVarL ([] : List FreeVar)) (List.length ([] : List FreeVar)) .full) [] 0 := ⟨h, ⟨⟨trivial, dFreeVar _⟩, trivial⟩, forall_nil, dFreeVar _, forall_nil⟩
theorem c137vr0 {qq : Nat} {p0 : List FreeVar} {r : Unit} (h : e137vr0 qq p0 = some r) : CT Tryz.prog 137 [] [.sl (flat freeVarL p0) (List.length p0) .nl] (.sl (flat freeVarL ([] : List FreeVar)) (List.length ([] : List FreeVar)) .full) [] 0 := by
  unfold e137vr0 at h
  obtain rfl := sj h
  exact k137vr0 (tG q137vr0 1 [] [] [] true (oD (dFreeVar ([] : List FreeVar)) o0) (by kernel_rfl) (by decide))

end Go.Proofs.YtlbmblbeccafcaaGreat

namespace Go.Proofs.YtlbmblbeccafcaaGreat
open Go Go.Ab

/- slices.Clone(()scholium/free.Var,scholium/free.Var) -/
def e137vr1 (qq : Nat) (p0 : List FreeVar) : Option ((Unit) ⊕ (List FreeVar)) :=
  if decide (List.length p0 = 0) = true then
    some (Sum.inl ())
  else
    (gapp 48 ([] : List FreeVar) p0) >>= fun l2 =>
    some (Sum.inr l2)
theorem q137vr1 : Tryz.prog.funcs[137]? = some Tryz.f137 ∧ Tryz.f137.body.isNone = false := ⟨Tryz.func137, by kernel_rfl⟩
theorem k137vr1s0 {p0 : List FreeVar}  (h : CTri Tryz.prog 137 [] [.sl (flat freeVarL p0) (List.length p0) .nn] (.sl (flat freeVarL ([] : List FreeVar)) (List.length ([] : List FreeVar)) .full) [] 0) : CT Tryz.prog 137 [] [.sl (flat freeVarL p0) (List.length p0) .nn] (.sl (flat freeVarL ([] : List FreeVar)) (List.length ([] : List FreeVar)) .full) [] 0 := ⟨h, ⟨⟨trivial, dFreeVar _⟩, trivial⟩, forall_nil, dFreeVar _, forall_nil⟩
theorem k137vr1s1 {p0 : List FreeVar} {r : List FreeVar} (h : CTri Tryz.prog 137 [] [.sl (flat freeVarL p0) (List.length p0) .nn] (.ms 0 0 (List.length r) (List.length r) 4) [.row (flat freeVarL r)] 0) : CT Tryz.prog 137 [] [.sl (flat freeVarL p0) (List.length p0) .nn] (.ms 0 0 (List.length r) (List.length r) 4) [.row (flat freeVarL r)] 0 := ⟨h, ⟨⟨trivial, dFreeVar _⟩, trivial⟩, forall_nil, (show 0 < 1 by decide), (forall_cons (dFreeVar _) forall_nil)⟩
theorem c137vr1 {qq : Nat} {p0 : List FreeVar} {r : (Unit) ⊕ (List FreeVar)} (h : e137vr1 qq p0 = some r) : (match (generalizing := false) r with | Sum.inl x => CT Tryz.prog 137 [] [.sl (flat freeVarL p0) (List.length p0) .nn] (.sl (flat freeVarL ([] : List FreeVar)) (List.length ([] : List FreeVar)) .full) [] 0 | Sum.inr x => CT Tryz.prog 137 [] [.sl (flat freeVarL p0) (List.length p0) .nn] (.ms 0 0 (List.length x) (List.length x) 4) [.row (flat freeVarL x)] 0) := by
  unfold e137vr1 at h
  rcases spl h with ⟨h1, h⟩ | ⟨h1, h⟩
  · obtain rfl := sj h
    exact k137vr1s0 (tG q137vr1 0 [] [] [] true (oD (dFreeVar ([] : List FreeVar)) <| oQ 2 (apQ42 (of_decide_eq_true h1)) o0) (by kernel_rfl) (by decide))
  · obtain ⟨l2, h3, h⟩ := obind h
    obtain rfl := sj h
    exact k137vr1s1 (tF q137vr1 0 [0] (oD (dFreeVar l2) <| oM 2 (apW42 h3 (of_decide_eq_false h1)) o0) (by kernel_rfl))

end Go.Proofs.YtlbmblbeccafcaaGreat

namespace Go.Proofs.YtlbmblbeccafcaaGreat
open Go Go.Ab


/- the same, as a row -/
def e137vr (qq : Nat) (p0 : List FreeVar) : Option (Unit ⊕ List FreeVar) := if decide (List.length p0 = 0) = true then some (.inl ()) else (gapp 48 [] p0) >>= fun r => some (.inr r)
theorem c137vr {qq : Nat} {p0 : List FreeVar} {r : Unit ⊕ List FreeVar} (h : e137vr qq p0 = some r) : (match (generalizing := false) r with | .inl _ => CT Tryz.prog 137 [] [.sl (flat freeVarL p0) (List.length p0) .no] (.sl (flat freeVarL ([] : List FreeVar)) (List.length ([] : List FreeVar)) .full) [] 0 | .inr x => CT Tryz.prog 137 [] [.sl (flat freeVarL p0) (List.length p0) .no] (.ms 0 0 (List.length x) (List.length x) 4) [.row (flat freeVarL x)] 0) := by
  unfold e137vr at h
  rcases spl h with ⟨h1, h⟩ | ⟨h1, h⟩
  · obtain rfl := sj h
    have hp : p0 = [] := List.length_eq_zero_iff.1 (of_decide_eq_true h1)
    subst hp
    have k0 := c137vr0 (qq := qq) (p0 := []) (r := ()) rfl
    have k1 := c137vr1 (qq := qq) (p0 := []) (r := .inl ()) rfl
    exact ⟨CTri.nilcase (fun _ => k0.tri) k1.tri, ⟨⟨trivial, dFreeVar _⟩, trivial⟩, (fun _ h => nomatch h), dFreeVar _, (fun _ h => nomatch h)⟩
  · obtain ⟨x, h2, h⟩ := obind h
    obtain rfl := sj h
    have k1 := c137vr1 (qq := qq) (p0 := p0) (r := .inr x) (by unfold e137vr1; rw [if_neg (by rw [h1]; decide), h2]; rfl)
    refine ⟨CTri.nilcase (fun hn => ?_) k1.tri, ⟨⟨trivial, dFreeVar _⟩, trivial⟩, (fun _ h => nomatch h), (show 0 < 1 by decide), forall_cons (dFreeVar _) forall_nil⟩
    have hp : p0 = [] := flat_nil codecFreeVar (by decide) hn
    subst hp
    cases h1

/- a clone, whatever it is of, that may be appended to -/
def e137 (_qq : Nat) (p0 : List FreeVar) : Option (List FreeVar) := gapp 48 [] p0
theorem c137 {qq : Nat} {p0 : List FreeVar} {r : List FreeVar} (h : e137 qq p0 = some r) : CT Tryz.prog 137 [] [.sl (flat freeVarL p0) (List.length p0) .no] (.sl (flat freeVarL r) (List.length r) (.st 0 4)) [] 1 := by
  have hr : r = p0 := by have := (gapp_spec h).2; simpa using this
  subst hr
  by_cases h1 : List.length r = 0
  · have hp : r = [] := List.length_eq_zero_iff.1 h1
    subst hp
    exact CT.stampNil (c137vr (qq := qq) (p0 := []) (r := .inl ()) rfl)
  · exact CT.freezeS (c137vr (qq := qq) (p0 := r) (r := .inr r) (by unfold e137vr; rw [if_neg (by simpa using h1), show gapp 48 ([] : List FreeVar) r = some r from h]; rfl)) (dFreeVar _) (flat_len codecFreeVar.len _)

end Go.Proofs.YtlbmblbeccafcaaGreat

namespace Go.Proofs.YtlbmblbeccafcaaGreat
open Go Go.Ab

/- scholium/free.ready$1 -/
def e298va19760 (qq : Nat) (p0 : FreeVar) (q1 : List Int) : Option (Bool) :=
  (e91 qq q1 p0.n_) >>= fun r1 =>
  some r1
theorem q298va19760 : Tryz.prog.funcs[298]? = some Tryz.f298 ∧ Tryz.f298.body.isNone = false := ⟨Tryz.func298, by kernel_rfl⟩
theorem k298va19760 {p0 : FreeVar} {q1 : List Int} {r : Bool} (h : CTri Tryz.prog 298 [.cells [.sl (flat intC q1) (List.length q1) .no]] [freeVarA p0, .mp 0 0] (ab r) [.cells [.sl (flat intC q1) (List.length q1) .no]] 0) : CT Tryz.prog 298 [.cells [.sl (flat intC q1) (List.length q1) .no]] [freeVarA p0, .mp 0 0] (ab r) [.cells [.sl (flat intC q1) (List.length q1) .no]] 0 := ⟨h, ⟨⟨trivial, trivial, trivial, ⟨trivial, dT _⟩, trivial⟩, (show 0 < 1 by decide), trivial⟩, (forall_cons ⟨⟨trivial, dI _⟩, trivial⟩ forall_nil), trivial, (forall_cons ⟨dI _, trivial⟩ forall_nil)⟩
theorem c298va19760 {qq : Nat} {p0 : FreeVar} {q1 : List Int} {r : Bool} (h : e298va19760 qq p0 q1 = some r) : CT Tryz.prog 298 [.cells [.sl (flat intC q1) (List.length q1) .no]] [freeVarA p0, .mp 0 0] (ab r) [.cells [.sl (flat intC q1) (List.length q1) .no]] 0 := by
  unfold e298va19760 at h
  obtain ⟨r1, h2, h⟩ := obind h
  obtain rfl := sj h
  exact k298va19760 (tF q298va19760 0 [0] (oD (dI q1) <| oC 2 [] (c91 h2) o0) (by kernel_rfl))

end Go.Proofs.YtlbmblbeccafcaaGreat
