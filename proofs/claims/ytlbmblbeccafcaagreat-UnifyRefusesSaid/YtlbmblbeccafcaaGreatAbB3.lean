/- Texts: AbF97 AbF103 AbF195 AbF196 AbF96 AbF197 AbF142 AbF198 AbF106 AbF199 AbF143 AbF144 AbF145 AbF95 AbF58 AbF162v0 AbF162v1 AbF162vr1 AbF162 AbF163 AbF113 AbF68 AbF37 AbF11 AbF39va12063 AbF12 AbF47 AbF16 AbF56 AbF22 AbF57 AbF23 AbF26 AbF29 AbF30 AbF31 AbF64 AbF32 AbF33 AbF34 AbF9 AbF15 AbF173 AbF121 AbF70 AbF78 AbF42 AbF79 AbF48 AbF118 AbF172 AbF119_171_233_234 AbF75 AbF174va9626 AbF175va12063 AbF175va37370 AbF122 AbF80 AbF81va29840 AbF123 AbF82va14585 AbF125va14140 AbF240 AbF177va14140 AbF120 AbF76 AbF77 -/
import Derived.Test.YtlbmblbeccafcaaGreatAbB2
set_option linter.unusedVariables false
set_option linter.unusedSimpArgs false

namespace Go.Proofs.YtlbmblbeccafcaaGreat
open Go Go.Ab

/- scholium/tele.Split -/
def e97L42644 : Nat → Int → Int → (List Tm) → Int → Int → (List Tm) →  Option (List Tm × Tm × Int)
  | 0, _, _, _, _, _, _ => none
  | qq + 1, p1, v25, v7, vb1_0, vb1_1, vb1_2 =>
    if decide (v25 < p1) = true then
      if (vb1_0 != 3) = true then
        none
      else
        (gidx vb1_2 0) >>= fun x10 =>
        (gapp 40 v7 [x10]) >>= fun l12 =>
        (gidx vb1_2 1) >>= fun x14 =>
        e97L42644 qq p1 (w64 (v25 + 1)) l12 x14.k x14.n x14.sub
    else
      some (v7, (Tm.mk vb1_0 vb1_1 vb1_2), 0)
def e97 (qq : Nat) (p0 : Tm) (p1 : Int) : Option (List Tm × Tm × Int) :=
  (e51 qq p0) >>= fun r1 =>
  if r1 = true then
    if decide (p1 < 0) = true then
      none
    else
      if decide (p1 > 24) = true then
        none
      else
        (e50 qq p0) >>= fun r6 =>
        e97L42644 qq p1 0 [] r6.k r6.n r6.sub
  else
    none
def g97L42644E0 (j : Nat → Value) (p1 : Int) (v25 : Int) (v7 : List Tm) (vb1_0 : Int) (vb1_1 : Int) (vb1_2 : List Tm) : List AV := sp j 45 0 [(5, .mp 0 0), (7, .sl (flat tmCells v7) (List.length v7) (.st 0 3)), (8, .mp 1 0), (24, ai p1), (25, ai v25)]
def g97L42644S0 (p1 : Int) (v25 : Int) (v7 : List Tm) (vb1_0 : Int) (vb1_1 : Int) (vb1_2 : List Tm) : LSt := ⟨[(0, .cells [ai 0, ai 0, .sl (flat tmCells ([] : List Tm)) (List.length ([] : List Tm)) .nl]), (1, .cells [ai vb1_0, ai vb1_1, .sl (flat tmCells vb1_2) (List.length vb1_2) .no])], 2, [0], 1, []⟩
theorem q97 : Tryz.prog.funcs[97]? = some Tryz.f97 ∧ Tryz.f97.body.isNone = false := ⟨Tryz.func97, by kernel_rfl⟩
theorem k97 {p0 : Tm} {p1 : Int} {r : List Tm × Tm × Int} (h : CTri Tryz.prog 97 [] [tmA p0, ai p1] (.tup [.sl (flat tmCells r.1) (List.length r.1) .no, tmA r.2.1, ai r.2.2]) [] 0) : CT Tryz.prog 97 [] [tmA p0, ai p1] (.tup [.sl (flat tmCells r.1) (List.length r.1) .no, tmA r.2.1, ai r.2.2]) [] 0 := ⟨h, ⟨⟨trivial, trivial, ⟨trivial, dT _⟩, trivial⟩, trivial, trivial⟩, forall_nil, ⟨dT _, ⟨trivial, trivial, dT _, trivial⟩, trivial, trivial⟩, forall_nil⟩
theorem l97L42644 : ∀ qq : Nat, (∀ (p1 : Int) (v25 : Int) (v7 : List Tm) (vb1_0 : Int) (vb1_1 : Int) (vb1_2 : List Tm) (r : List Tm × Tm × Int), e97L42644 qq p1 v25 v7 vb1_0 vb1_1 vb1_2 = some r → (∀ j, Dl Tryz.prog 0 (inn (inn (rgt (lft (rgt (rgt (rgt (rgt (bod Tryz.f97))))))))) (g97L42644E0 j p1 v25 v7 vb1_0 vb1_1 vb1_2) (g97L42644S0 p1 v25 v7 vb1_0 vb1_1 vb1_2) (frameQ Tryz.prog 0 (FinQ Tryz.prog 0 Tryz.f97 (.tup [.sl (flat tmCells r.1) (List.length r.1) .no, tmA r.2.1, ai r.2.2]) [] 0) [.blk 1, .seq (rgt (rgt (rgt (rgt (rgt (bod Tryz.f97))))))]))) := by
  intro qq
  induction qq with
  | zero =>
    exact fun _ _ _ _ _ _ _ h => nn h
  | succ qq ih =>
    intro p1 v25 v7 vb1_0 vb1_1 vb1_2 r h
    rw [e97L42644] at h
    rcases spl h with ⟨h8, h⟩ | ⟨h8, h⟩
    · have k := oB 0 h8 o0
      obtain ⟨h9, h⟩ := splF h
      obtain ⟨x10, h11, h⟩ := obind h
      obtain ⟨l12, h13, h⟩ := obind h
      obtain ⟨x14, h15, h⟩ := obind h
      exact fun j => lH 3 [] [0, 1] [1] [5, 7, 8, 24, 25] (oD (dT l12) <| oD (dT x14.sub) <| oD (dT ([] : List Tm)) <| oA 1 (ix22 (o := .no) h15) <| oP 0 (apS22 h13 (by simp)) <| oS 1 (obLitR tm_eq [x10]) <| oA 1 (ix22 (o := .no) h11) <| oB 1 h9 k) (ih _ _ _ _ _ _ _ h) (fun j => by kernel_rfl)
    · obtain rfl := sj h
      exact fun j => lF 2 [] (oD (dT vb1_2) <| oD (dT v7) <| oB 0 h8 o0) (by kernel_rfl)
theorem c97 {qq : Nat} {p0 : Tm} {p1 : Int} {r : List Tm × Tm × Int} (h : e97 qq p0 p1 = some r) : CT Tryz.prog 97 [] [tmA p0, ai p1] (.tup [.sl (flat tmCells r.1) (List.length r.1) .no, tmA r.2.1, ai r.2.2]) [] 0 := by
  unfold e97 at h
  obtain ⟨r1, h2, h⟩ := obind h
  obtain ⟨h3, h⟩ := splT h
  have k := oK 1 [] h3 (c51 h2) o0
  obtain ⟨h4, h⟩ := splF h
  have k := oB 1 h4 k
  obtain ⟨h5, h⟩ := splF h
  obtain ⟨r6, h7, h⟩ := obind h
  exact k97 (tH q97 1 [(none, 7, 3)] [1, 2] [0] [5, 7, 8, 24, 25] (oD (dT ([] : List Tm)) <| oD (dT r6.sub) <| oD (dT ([] : List Tm)) <| oC 1 [] (c50 h7) <| oB 0 h5 k) (l97L42644 _ _ _ _ _ _ _ _ h) (fun j => by kernel_rfl))

end Go.Proofs.YtlbmblbeccafcaaGreat

namespace Go.Proofs.YtlbmblbeccafcaaGreat
open Go Go.Ab

/- scholium/tele.Whole -/
def e103L57463 : Nat → Tm → Int → Int → Int → (List Tm) →  Option (List Tm × Tm × Int)
  | 0, _, _, _, _, _ => none
  | qq + 1, p0, v5, vb2_0, vb2_1, vb2_2 =>
    if (vb2_0 == 3) = true then
      if ((List.length vb2_2 : Int) == 2) = true then
        if decide (v5 ≤ 24) = true then
          (gidx vb2_2 1) >>= fun x4 =>
          e103L57463 qq p0 (w64 (v5 + 1)) x4.k x4.n x4.sub
        else
          none
      else
        none
    else
      (e97 qq p0 v5) >>= fun r10 =>
      some (r10.1, r10.2.1, r10.2.2)
def e103 (qq : Nat) (p0 : Tm) : Option (List Tm × Tm × Int) :=
  e103L57463 qq p0 0 p0.k p0.n p0.sub
def g103L57463E0 (j : Nat → Value) (p0 : Tm) (v5 : Int) (vb2_0 : Int) (vb2_1 : Int) (vb2_2 : List Tm) : List AV := sp j 34 0 [(1, .mp 0 0), (3, .mp 1 0), (5, ai v5), (6, .mp 2 0)]
def g103L57463S0 (p0 : Tm) (v5 : Int) (vb2_0 : Int) (vb2_1 : Int) (vb2_2 : List Tm) : LSt := ⟨[(0, .cells [ai p0.k, ai p0.n, .sl (flat tmCells p0.sub) (List.length p0.sub) .no]), (1, .cells [ai 0, ai 0, .sl (flat tmCells ([] : List Tm)) (List.length ([] : List Tm)) .nl]), (2, .cells [ai vb2_0, ai vb2_1, .sl (flat tmCells vb2_2) (List.length vb2_2) .no])], 3, [], 0, []⟩
theorem q103 : Tryz.prog.funcs[103]? = some Tryz.f103 ∧ Tryz.f103.body.isNone = false := ⟨Tryz.func103, by kernel_rfl⟩
theorem k103 {p0 : Tm} {r : List Tm × Tm × Int} (h : CTri Tryz.prog 103 [] [tmA p0] (.tup [.sl (flat tmCells r.1) (List.length r.1) .no, tmA r.2.1, ai r.2.2]) [] 0) : CT Tryz.prog 103 [] [tmA p0] (.tup [.sl (flat tmCells r.1) (List.length r.1) .no, tmA r.2.1, ai r.2.2]) [] 0 := ⟨h, ⟨⟨trivial, trivial, ⟨trivial, dT _⟩, trivial⟩, trivial⟩, forall_nil, ⟨dT _, ⟨trivial, trivial, dT _, trivial⟩, trivial, trivial⟩, forall_nil⟩
theorem l103L57463 : ∀ qq : Nat, (∀ (p0 : Tm) (v5 : Int) (vb2_0 : Int) (vb2_1 : Int) (vb2_2 : List Tm) (r : List Tm × Tm × Int), e103L57463 qq p0 v5 vb2_0 vb2_1 vb2_2 = some r → (∀ j, Dl Tryz.prog 0 (inn (inn (rgt (lft (rgt (rgt (bod Tryz.f103))))))) (g103L57463E0 j p0 v5 vb2_0 vb2_1 vb2_2) (g103L57463S0 p0 v5 vb2_0 vb2_1 vb2_2) (frameQ Tryz.prog 0 (FinQ Tryz.prog 0 Tryz.f103 (.tup [.sl (flat tmCells r.1) (List.length r.1) .no, tmA r.2.1, ai r.2.2]) [] 0) [.blk 0, .seq (rgt (rgt (rgt (bod Tryz.f103))))]))) := by
  intro qq
  induction qq with
  | zero =>
    exact fun _ _ _ _ _ _ h => nn h
  | succ qq ih =>
    intro p0 v5 vb2_0 vb2_1 vb2_2 r h
    rw [e103L57463] at h
    rcases spl h with ⟨h1, h⟩ | ⟨h1, h⟩
    · have k := oB 1 h1 o0
      obtain ⟨h2, h⟩ := splT h
      have k := oB 2 h2 k
      obtain ⟨h3, h⟩ := splT h
      obtain ⟨x4, h5, h⟩ := obind h
      exact fun j => lH 2 [] [0, 1, 3] [] [1, 3, 5, 6] (oD (dT x4.sub) <| oD (dT ([] : List Tm)) <| oD (dT p0.sub) <| oA 4 (ix22 (o := .no) h5) <| oB 0 h3 k) (ih _ _ _ _ _ _ h) (fun j => by kernel_rfl)
    · obtain ⟨r10, h11, h⟩ := obind h
      obtain rfl := sj h
      exact fun j => lF 4 [] (oD (dT r10.2.1.sub) <| oD (dT r10.1) <| oC 1 [] (c97 h11) <| oB 1 h1 o0) (by kernel_rfl)
theorem c103 {qq : Nat} {p0 : Tm} {r : List Tm × Tm × Int} (h : e103 qq p0 = some r) : CT Tryz.prog 103 [] [tmA p0] (.tup [.sl (flat tmCells r.1) (List.length r.1) .no, tmA r.2.1, ai r.2.2]) [] 0 := by
  unfold e103 at h
  exact k103 (tH q103 2 [] [0, 1, 2] [] [1, 3, 5, 6] (oD (dT p0.sub) <| oD (dT ([] : List Tm)) <| oD (dT p0.sub) o0) (l103L57463 _ _ _ _ _ _ _ h) (fun j => by kernel_rfl))

end Go.Proofs.YtlbmblbeccafcaaGreat

namespace Go.Proofs.YtlbmblbeccafcaaGreat
open Go Go.Ab

/- scholium/sign.none -/
def e195 (qq : Nat) (p0 : Tm) : Option (Bool) :=
  if (p0.k == 0) = true then
    if (p0.n == 0) = true then
      some ((List.length p0.sub : Int) == 0)
    else
      none
  else
    none
theorem q195 : Tryz.prog.funcs[195]? = some Tryz.f195 ∧ Tryz.f195.body.isNone = false := ⟨Tryz.func195, by kernel_rfl⟩
theorem k195 {p0 : Tm} {r : Bool} (h : CTri Tryz.prog 195 [] [tmA p0] (ab r) [] 0) : CT Tryz.prog 195 [] [tmA p0] (ab r) [] 0 := ⟨h, ⟨⟨trivial, trivial, ⟨trivial, dT _⟩, trivial⟩, trivial⟩, forall_nil, trivial, forall_nil⟩
theorem c195 {qq : Nat} {p0 : Tm} {r : Bool} (h : e195 qq p0 = some r) : CT Tryz.prog 195 [] [tmA p0] (ab r) [] 0 := by
  unfold e195 at h
  obtain ⟨h1, h⟩ := splT h
  have k := oB 1 h1 o0
  obtain ⟨h2, h⟩ := splT h
  obtain rfl := sj h
  exact k195 (tF q195 3 [] (oB 1 h2 k) (by kernel_rfl))

end Go.Proofs.YtlbmblbeccafcaaGreat

namespace Go.Proofs.YtlbmblbeccafcaaGreat
open Go Go.Ab

/- scholium/sign.run -/
def e196L36214 : Nat → (List Int) → Int → Int →  Option (Bool)
  | 0, _, _, _ => none
  | qq + 1, p0, p1, v9 =>
    if decide (v9 < (List.length p0 : Int)) = true then
      (gidx p0 v9) >>= fun x2 =>
      if (x2 != (w64 (p1 + v9))) = true then
        none
      else
        e196L36214 qq p0 p1 (w64 (v9 + 1))
    else
      some true
def e196 (qq : Nat) (p0 : List Int) (p1 : Int) : Option (Bool) :=
  e196L36214 qq p0 p1 0
def g196L36214E0 (j : Nat → Value) (p0 : List Int) (p1 : Int) (v9 : Int) : List AV := sp j 20 0 [(1, ai p1), (7, .sl (flat intC p0) (List.length p0) .no), (8, ai (List.length p0 : Int)), (9, ai v9)]
def g196L36214S0 (p0 : List Int) (p1 : Int) (v9 : Int) : LSt := ⟨[], 0, [], 0, []⟩
theorem q196 : Tryz.prog.funcs[196]? = some Tryz.f196 ∧ Tryz.f196.body.isNone = false := ⟨Tryz.func196, by kernel_rfl⟩
theorem k196 {p0 : List Int} {p1 : Int} {r : Bool} (h : CTri Tryz.prog 196 [] [.sl (flat intC p0) (List.length p0) .no, ai p1] (ab r) [] 0) : CT Tryz.prog 196 [] [.sl (flat intC p0) (List.length p0) .no, ai p1] (ab r) [] 0 := ⟨h, ⟨⟨trivial, dI _⟩, trivial, trivial⟩, forall_nil, trivial, forall_nil⟩
theorem l196L36214 : ∀ qq : Nat, (∀ (p0 : List Int) (p1 : Int) (v9 : Int) (r : Bool), e196L36214 qq p0 p1 v9 = some r → (∀ j, Dl Tryz.prog 0 (inn (inn (rgt (lft (rgt (bod Tryz.f196)))))) (g196L36214E0 j p0 p1 v9) (g196L36214S0 p0 p1 v9) (frameQ Tryz.prog 0 (FinQ Tryz.prog 0 Tryz.f196 (ab r) [] 0) [.blk 0, .seq (rgt (rgt (bod Tryz.f196)))]))) := by
  intro qq
  induction qq with
  | zero =>
    exact fun _ _ _ _ h => nn h
  | succ qq ih =>
    intro p0 p1 v9 r h
    rw [e196L36214] at h
    rcases spl h with ⟨h1, h⟩ | ⟨h1, h⟩
    · obtain ⟨x2, h3, h⟩ := obind h
      have k := oA 0 (ix37 (o := .no) h3) <| oB 0 h1 o0
      obtain ⟨h4, h⟩ := splF h
      exact fun j => lH 1 [] [] [] [1, 7, 8, 9] (oD (dI p0) <| oB 2 h4 k) (ih _ _ _ _ h) (fun j => by kernel_rfl)
    · obtain rfl := sj h
      exact fun j => lF 0 [] (oB 0 h1 o0) (by kernel_rfl)
theorem c196 {qq : Nat} {p0 : List Int} {p1 : Int} {r : Bool} (h : e196 qq p0 p1 = some r) : CT Tryz.prog 196 [] [.sl (flat intC p0) (List.length p0) .no, ai p1] (ab r) [] 0 := by
  unfold e196 at h
  exact k196 (tH q196 1 [] [] [] [1, 7, 8, 9] (oD (dI p0) o0) (l196L36214 _ _ _ _ _ h) (fun j => by kernel_rfl))

end Go.Proofs.YtlbmblbeccafcaaGreat

namespace Go.Proofs.YtlbmblbeccafcaaGreat
open Go Go.Ab

/- scholium/sign.is -/
def e96 (qq : Nat) (p0 : List Ent) (p1 : Int) (p2 : Int) : Option (Bool) :=
  if decide (p1 ≥ 0) = true then
    if decide (p1 < (List.length p0 : Int)) = true then
      (gidx p0 p1) >>= fun x3 =>
      some (x3.kind == p2)
    else
      none
  else
    none
theorem q96 : Tryz.prog.funcs[96]? = some Tryz.f96 ∧ Tryz.f96.body.isNone = false := ⟨Tryz.func96, by kernel_rfl⟩
theorem k96 {p0 : List Ent} {p1 : Int} {p2 : Int} {r : Bool} (h : CTri Tryz.prog 96 [] [.sl (flat entL p0) (List.length p0) .no, ai p1, ai p2] (ab r) [] 0) : CT Tryz.prog 96 [] [.sl (flat entL p0) (List.length p0) .no, ai p1, ai p2] (ab r) [] 0 := ⟨h, ⟨⟨trivial, dE _⟩, trivial, trivial, trivial⟩, forall_nil, trivial, forall_nil⟩
theorem c96 {qq : Nat} {p0 : List Ent} {p1 : Int} {p2 : Int} {r : Bool} (h : e96 qq p0 p1 p2 = some r) : CT Tryz.prog 96 [] [.sl (flat entL p0) (List.length p0) .no, ai p1, ai p2] (ab r) [] 0 := by
  unfold e96 at h
  obtain ⟨h1, h⟩ := splT h
  have k := oB 0 h1 o0
  obtain ⟨h2, h⟩ := splT h
  obtain ⟨x3, h4, h⟩ := obind h
  obtain rfl := sj h
  exact k96 (tF q96 2 [] (oA 0 (ix25 (o := .no) h4) <| oB 1 h2 k) (by kernel_rfl))

end Go.Proofs.YtlbmblbeccafcaaGreat

namespace Go.Proofs.YtlbmblbeccafcaaGreat
open Go Go.Ab

/- scholium/sign.members -/
def e197L13812 : Nat → (List Ent) → Int → (List Int) → Int → Int →  Option (Bool)
  | 0, _, _, _, _, _ => none
  | qq + 1, p0, p1, p2, p3, v13 =>
    if decide (v13 < (List.length p2 : Int)) = true then
      (gidx p2 v13) >>= fun x2 =>
      (e96 qq p0 x2 p3) >>= fun r4 =>
      if r4 = true then
        (gidx p0 x2) >>= fun x7 =>
        if (x7.fam != p1) = true then
          none
        else
          if (x7.place != v13) = true then
            none
          else
            e197L13812 qq p0 p1 p2 p3 (w64 (v13 + 1))
      else
        none
    else
      some true
def e197 (qq : Nat) (p0 : List Ent) (p1 : Int) (p2 : List Int) (p3 : Int) : Option (Bool) :=
  e197L13812 qq p0 p1 p2 p3 0
def g197L13812E0 (j : Nat → Value) (p0 : List Ent) (p1 : Int) (p2 : List Int) (p3 : Int) (v13 : Int) : List AV := sp j 42 0 [(0, .sl (flat entL p0) (List.length p0) .no), (1, ai p1), (3, ai p3), (11, .sl (flat intC p2) (List.length p2) .no), (12, ai (List.length p2 : Int)), (13, ai v13)]
def g197L13812S0 (p0 : List Ent) (p1 : Int) (p2 : List Int) (p3 : Int) (v13 : Int) : LSt := ⟨[], 0, [], 0, []⟩
theorem q197 : Tryz.prog.funcs[197]? = some Tryz.f197 ∧ Tryz.f197.body.isNone = false := ⟨Tryz.func197, by kernel_rfl⟩
theorem k197 {p0 : List Ent} {p1 : Int} {p2 : List Int} {p3 : Int} {r : Bool} (h : CTri Tryz.prog 197 [] [.sl (flat entL p0) (List.length p0) .no, ai p1, .sl (flat intC p2) (List.length p2) .no, ai p3] (ab r) [] 0) : CT Tryz.prog 197 [] [.sl (flat entL p0) (List.length p0) .no, ai p1, .sl (flat intC p2) (List.length p2) .no, ai p3] (ab r) [] 0 := ⟨h, ⟨⟨trivial, dE _⟩, trivial, ⟨trivial, dI _⟩, trivial, trivial⟩, forall_nil, trivial, forall_nil⟩
theorem l197L13812 : ∀ qq : Nat, (∀ (p0 : List Ent) (p1 : Int) (p2 : List Int) (p3 : Int) (v13 : Int) (r : Bool), e197L13812 qq p0 p1 p2 p3 v13 = some r → (∀ j, Dl Tryz.prog 0 (inn (inn (rgt (lft (rgt (bod Tryz.f197)))))) (g197L13812E0 j p0 p1 p2 p3 v13) (g197L13812S0 p0 p1 p2 p3 v13) (frameQ Tryz.prog 0 (FinQ Tryz.prog 0 Tryz.f197 (ab r) [] 0) [.blk 0, .seq (rgt (rgt (bod Tryz.f197)))]))) := by
  intro qq
  induction qq with
  | zero =>
    exact fun _ _ _ _ _ _ h => nn h
  | succ qq ih =>
    intro p0 p1 p2 p3 v13 r h
    rw [e197L13812] at h
    rcases spl h with ⟨h1, h⟩ | ⟨h1, h⟩
    · obtain ⟨x2, h3, h⟩ := obind h
      obtain ⟨r4, h5, h⟩ := obind h
      have k := oA 0 (ix37 (o := .no) h3) <| oB 0 h1 o0
      obtain ⟨h6, h⟩ := splT h
      obtain ⟨x7, h8, h⟩ := obind h
      have k := oA 1 (ix25 (o := .no) h8) <| oK 1 [] h6 (c96 h5) k
      obtain ⟨h9, h⟩ := splF h
      have k := oA 0 (ix25 (o := .no) h8) <| oB 1 h9 k
      obtain ⟨h10, h⟩ := splF h
      exact fun j => lH 1 [] [] [] [0, 1, 3, 11, 12, 13] (oD (dI p2) <| oD (dE p0) <| oB 1 h10 k) (ih _ _ _ _ _ _ h) (fun j => by kernel_rfl)
    · obtain rfl := sj h
      exact fun j => lF 0 [] (oB 0 h1 o0) (by kernel_rfl)
theorem c197 {qq : Nat} {p0 : List Ent} {p1 : Int} {p2 : List Int} {p3 : Int} {r : Bool} (h : e197 qq p0 p1 p2 p3 = some r) : CT Tryz.prog 197 [] [.sl (flat entL p0) (List.length p0) .no, ai p1, .sl (flat intC p2) (List.length p2) .no, ai p3] (ab r) [] 0 := by
  unfold e197 at h
  exact k197 (tH q197 1 [] [] [] [0, 1, 3, 11, 12, 13] (oD (dI p2) <| oD (dE p0) o0) (l197L13812 _ _ _ _ _ _ _ h) (fun j => by kernel_rfl))

end Go.Proofs.YtlbmblbeccafcaaGreat

namespace Go.Proofs.YtlbmblbeccafcaaGreat
open Go Go.Ab

/- scholium/sign.family -/
def e142 (qq : Nat) (p0 : List Ent) (p1 : Int) : Option (Bool) :=
  (gidx p0 p1) >>= fun x1 =>
  if decide (x1.pars < 0) = true then
    none
  else
    if decide (x1.inds < 0) = true then
      none
    else
      if decide (x1.pars > 24) = true then
        none
      else
        if decide (x1.inds > (w64 (24 - x1.pars))) = true then
          none
        else
          if (x1.fam != 0) = true then
            none
          else
            if (x1.place != 0) = true then
              none
            else
              (e195 qq x1.body) >>= fun r9 =>
              if r9 = true then
                (e97 qq x1.type (w64 (x1.pars + x1.inds))) >>= fun r12 =>
                if (r12.2.2 != 0) = true then
                  none
                else
                  if (r12.2.1.k != 2) = true then
                    none
                  else
                    if (r12.2.1.n != x1.level) = true then
                      none
                    else
                      if decide ((List.length x1.cons : Int) > 16) = true then
                        none
                      else
                        (e196 qq x1.cons (w64 (p1 + 1))) >>= fun r18 =>
                        if r18 = true then
                          (e197 qq p0 p1 x1.cons 2) >>= fun r21 =>
                          if r21 = true then
                            if ((List.length x1.fields : Int) == 0) = true then
                              some true
                            else
                              if (x1.inds != 0) = true then
                                none
                              else
                                if ((List.length x1.cons : Int) != 1) = true then
                                  none
                                else
                                  (e196 qq x1.fields (w64 (p1 + 2))) >>= fun r27 =>
                                  if r27 = true then
                                    (e197 qq p0 p1 x1.fields 4) >>= fun r30 =>
                                    if r30 = true then
                                      (gidx p0 (w64 (p1 + 1))) >>= fun x33 =>
                                      (e103 qq x33.type) >>= fun r35 =>
                                      if (r35.2.2 == 0) = true then
                                        some ((List.length r35.1 : Int) == (w64 (x1.pars + (List.length x1.fields : Int))))
                                      else
                                        none
                                    else
                                      none
                                  else
                                    none
                          else
                            none
                        else
                          none
              else
                none
theorem q142 : Tryz.prog.funcs[142]? = some Tryz.f142 ∧ Tryz.f142.body.isNone = false := ⟨Tryz.func142, by kernel_rfl⟩
theorem k142 {p0 : List Ent} {p1 : Int} {r : Bool} (h : CTri Tryz.prog 142 [] [.sl (flat entL p0) (List.length p0) .no, ai p1] (ab r) [] 0) : CT Tryz.prog 142 [] [.sl (flat entL p0) (List.length p0) .no, ai p1] (ab r) [] 0 := ⟨h, ⟨⟨trivial, dE _⟩, trivial, trivial⟩, forall_nil, trivial, forall_nil⟩
theorem c142 {qq : Nat} {p0 : List Ent} {p1 : Int} {r : Bool} (h : e142 qq p0 p1 = some r) : CT Tryz.prog 142 [] [.sl (flat entL p0) (List.length p0) .no, ai p1] (ab r) [] 0 := by
  unfold e142 at h
  obtain ⟨x1, h2, h⟩ := obind h
  have k := oA 0 (ix25 (o := .no) h2) o0
  obtain ⟨h3, h⟩ := splF h
  have k := oB 3 h3 k
  obtain ⟨h4, h⟩ := splF h
  have k := oB 1 h4 k
  obtain ⟨h5, h⟩ := splF h
  have k := oB 1 h5 k
  obtain ⟨h6, h⟩ := splF h
  have k := oB 3 h6 k
  obtain ⟨h7, h⟩ := splF h
  have k := oB 1 h7 k
  obtain ⟨h8, h⟩ := splF h
  obtain ⟨r9, h10, h⟩ := obind h
  have k := oB 1 h8 k
  obtain ⟨h11, h⟩ := splT h
  obtain ⟨r12, h13, h⟩ := obind h
  have k := oC 5 [] (c97 h13) <| oK 1 [] h11 (c195 h10) k
  obtain ⟨h14, h⟩ := splF h
  have k := oB 4 h14 k
  obtain ⟨h15, h⟩ := splF h
  have k := oB 1 h15 k
  obtain ⟨h16, h⟩ := splF h
  have k := oB 2 h16 k
  obtain ⟨h17, h⟩ := splF h
  obtain ⟨r18, h19, h⟩ := obind h
  have k := oB 2 h17 k
  obtain ⟨h20, h⟩ := splT h
  obtain ⟨r21, h22, h⟩ := obind h
  have k := oK 2 [] h20 (c196 h19) k
  obtain ⟨h23, h⟩ := splT h
  have k := oK 2 [] h23 (c197 h22) k
  rcases spl h with ⟨h24, h⟩ | ⟨h24, h⟩
  · obtain rfl := sj h
    exact k142 (tF q142 0 [] (oB 3 h24 k) (by kernel_rfl))
  · have k := oB 3 h24 k
    obtain ⟨h25, h⟩ := splF h
    have k := oB 1 h25 k
    obtain ⟨h26, h⟩ := splF h
    obtain ⟨r27, h28, h⟩ := obind h
    have k := oB 2 h26 k
    obtain ⟨h29, h⟩ := splT h
    obtain ⟨r30, h31, h⟩ := obind h
    have k := oK 2 [] h29 (c196 h28) k
    obtain ⟨h32, h⟩ := splT h
    obtain ⟨x33, h34, h⟩ := obind h
    obtain ⟨r35, h36, h⟩ := obind h
    have k := oC 1 [] (c103 h36) <| oA 2 (ix25 (o := .no) h34) <| oK 2 [] h32 (c197 h31) k
    obtain ⟨h37, h⟩ := splT h
    obtain rfl := sj h
    exact k142 (tF q142 6 [] (oB 4 h37 k) (by kernel_rfl))

end Go.Proofs.YtlbmblbeccafcaaGreat

namespace Go.Proofs.YtlbmblbeccafcaaGreat
open Go Go.Ab

/- scholium/sign.owned -/
def e198 (qq : Nat) (p0 : List Ent) (p1 : Int) : Option (Bool) :=
  (gidx p0 p1) >>= fun x1 =>
  (e96 qq p0 x1.fam 1) >>= fun r3 =>
  if r3 = true then
    if decide (x1.fam ≥ p1) = true then
      none
    else
      (gidx p0 x1.fam) >>= fun x7 =>
      if (x1.pars != x7.pars) = true then
        none
      else
        (e195 qq x1.body) >>= fun r10 =>
        if r10 = true then
          if (x1.inds != 0) = true then
            none
          else
            if (x1.level != 0) = true then
              none
            else
              if decide ((w64 ((List.length x1.cons : Int) + (List.length x1.fields : Int))) > 0) = true then
                none
              else
                if (x1.kind == 4) = true then
                  if decide (x1.place ≥ 0) = true then
                    if decide (x1.place < (List.length x7.fields : Int)) = true then
                      (gidx x7.fields x1.place) >>= fun x19 =>
                      some (x19 == p1)
                    else
                      none
                  else
                    none
                else
                  if decide (x1.place ≥ 0) = true then
                    if decide (x1.place < (List.length x7.cons : Int)) = true then
                      (gidx x7.cons x1.place) >>= fun x23 =>
                      some (x23 == p1)
                    else
                      none
                  else
                    none
        else
          none
  else
    none
theorem q198 : Tryz.prog.funcs[198]? = some Tryz.f198 ∧ Tryz.f198.body.isNone = false := ⟨Tryz.func198, by kernel_rfl⟩
theorem k198 {p0 : List Ent} {p1 : Int} {r : Bool} (h : CTri Tryz.prog 198 [] [.sl (flat entL p0) (List.length p0) .no, ai p1] (ab r) [] 0) : CT Tryz.prog 198 [] [.sl (flat entL p0) (List.length p0) .no, ai p1] (ab r) [] 0 := ⟨h, ⟨⟨trivial, dE _⟩, trivial, trivial⟩, forall_nil, trivial, forall_nil⟩
theorem c198 {qq : Nat} {p0 : List Ent} {p1 : Int} {r : Bool} (h : e198 qq p0 p1 = some r) : CT Tryz.prog 198 [] [.sl (flat entL p0) (List.length p0) .no, ai p1] (ab r) [] 0 := by
  unfold e198 at h
  obtain ⟨x1, h2, h⟩ := obind h
  obtain ⟨r3, h4, h⟩ := obind h
  have k := oA 0 (ix25 (o := .no) h2) o0
  obtain ⟨h5, h⟩ := splT h
  have k := oK 3 [] h5 (c96 h4) k
  obtain ⟨h6, h⟩ := splF h
  obtain ⟨x7, h8, h⟩ := obind h
  have k := oA 2 (ix25 (o := .no) h8) <| oB 2 h6 k
  obtain ⟨h9, h⟩ := splF h
  obtain ⟨r10, h11, h⟩ := obind h
  have k := oB 1 h9 k
  obtain ⟨h12, h⟩ := splT h
  have k := oK 1 [] h12 (c195 h11) k
  obtain ⟨h13, h⟩ := splF h
  have k := oB 2 h13 k
  obtain ⟨h14, h⟩ := splF h
  have k := oB 1 h14 k
  obtain ⟨h15, h⟩ := splF h
  have k := oA 1 (ix25 (o := .no) h8) <| oB 5 h15 k
  rcases spl h with ⟨h16, h⟩ | ⟨h16, h⟩
  · have k := oA 1 (ix25 (o := .no) h8) <| oB 2 h16 k
    obtain ⟨h17, h⟩ := splT h
    have k := oB 2 h17 k
    obtain ⟨h18, h⟩ := splT h
    obtain ⟨x19, h20, h⟩ := obind h
    obtain rfl := sj h
    exact k198 (tF q198 2 [] (oA 1 (ix37 (o := .no) h20) <| oB 2 h18 k) (by kernel_rfl))
  · have k := oB 2 h16 k
    obtain ⟨h21, h⟩ := splT h
    have k := oB 1 h21 k
    obtain ⟨h22, h⟩ := splT h
    obtain ⟨x23, h24, h⟩ := obind h
    obtain rfl := sj h
    exact k198 (tF q198 2 [] (oA 1 (ix37 (o := .no) h24) <| oB 2 h22 k) (by kernel_rfl))

end Go.Proofs.YtlbmblbeccafcaaGreat

namespace Go.Proofs.YtlbmblbeccafcaaGreat
open Go Go.Ab

/- THE WALK OF term.Spine: its loop, and slices.Reverse behind it. -/
theorem spA1 (j : Nat → Value) (ls : List L3) (x : Tm) (u : List AV) (vs : List Value) (o : Own) : krun Tryz.prog prim 3000 (.run (inn (inn (lft (rgt (rgt (rgt (bod Tryz.f106)))))))) [] [.val (j 0), .mp 0 0, .mp 1 0, .val (j 3), .sl (flat c3 ls) ls.length (.st 0 3), .mp 2 0, .val (j 6), .val (j 7), .val (j 8), .val (j 9), .val (j 10), .val (j 11), .val (j 12), .val (j 13), .val (j 14), .val (j 15), .val (j 16), .val (j 17), .val (j 18), .val (j 19), .val (j 20), .val (j 21), .val (j 22), .val (j 23), .val (j 24), .val (j 25), .val (j 26), .val (j 27), .val (j 28), .val (j 29), .val (j 30), .val (j 31), .val (j 32), .val (j 33), .val (j 34)] ⟨[(0, .cells u), (1, .cells [ai 0, ai 0, .sl [] 0 .nl]), (2, .cells [ai x.k, ai x.n, .sl (vs.map .val) x.sub.length o])], 3, [0], 1, []⟩ [.no, .bit false] = some (.fin (.exit 0), [.val (j 0), .mp 0 0, .mp 1 0, .val (j 3), .sl (flat c3 ls) ls.length (.st 0 3), .mp 2 0, .val (j 6), .mp 2 0, ai x.k, ab false, ab false, .val undef, .val undef, .val undef, .val undef, ab false, .val (j 16), .val (j 17), .val (j 18), .val (j 19), .val (j 20), .val (j 21), .val (j 22), .val (j 23), .val (j 24), .val (j 25), .val (j 26), .val (j 27), .val (j 28), .val (j 29), .val (j 30), .val (j 31), .val (j 32), .val (j 33), .val (j 34)], ⟨[(0, .cells u), (1, .cells [ai 0, ai 0, .sl [] 0 .nl]), (2, .cells [ai x.k, ai x.n, .sl (vs.map .val) x.sub.length o])], 3, [0], 1, []⟩, [], [.bit (x.k == 5) false]) := by kernel_rfl
theorem spA2 (j : Nat → Value) (ls : List L3) (x : Tm) (u : List AV) (vs : List Value) (o : Own) : (xops Tryz.prog prim (regOps (lft (rgt (rgt (rgt (rgt (bod Tryz.f106))))))) ((regOps (lft (rgt (rgt (rgt (rgt (bod Tryz.f106))))))).toList.take 1) 0 [.val (j 0), .mp 0 0, .mp 1 0, .val (j 3), .sl (flat c3 ls) ls.length (.st 0 3), .mp 2 0, .val (j 6), .mp 2 0, ai x.k, ab false, ab false, .val undef, .val undef, .val undef, .val undef, ab false, .val (j 16), .val (j 17), .val (j 18), .val (j 19), .val (j 20), .val (j 21), .val (j 22), .val (j 23), .val (j 24), .val (j 25), .val (j 26), .val (j 27), .val (j 28), .val (j 29), .val (j 30), .val (j 31), .val (j 32), .val (j 33), .val (j 34)] ⟨[(0, .cells u), (1, .cells [ai 0, ai 0, .sl [] 0 .nl]), (2, .cells [ai x.k, ai x.n, .sl (vs.map .val) x.sub.length o])], 3, [0], 1, []⟩ []).map Prod.snd = some ([.val (j 0), .mp 0 0, .mp 1 0, .val (j 3), .sl (flat c3 ls) ls.length (.st 0 3), .mp 2 0, .val (j 6), .mp 2 0, ai x.k, ab false, ab false, .val undef, .val undef, .val undef, .val undef, ab false, .val (j 16), .val (j 17), .val (j 18), .val (j 19), .val (j 20), .val (j 21), .val (j 22), .val (j 23), .val (j 24), .val (j 25), .val (j 26), .val (j 27), .val (j 28), .val (j 29), .val (j 30), .sl (flat c3 ls) ls.length (.st 0 3), .val (j 32), .val (j 33), .val (j 34)], ⟨[(0, .cells u), (1, .cells [ai 0, ai 0, .sl [] 0 .nl]), (2, .cells [ai x.k, ai x.n, .sl (vs.map .val) x.sub.length o])], 3, [0], 1, []⟩, [], []) := by kernel_rfl
theorem spA3 (j i : Nat → Value) (ls : List L3) (l : List Tm) (x : Tm) (u : List AV) (vs : List Value) (o : Own) : (xops Tryz.prog prim (regOps (lft (rgt (rgt (rgt (rgt (bod Tryz.f106))))))) ((regOps (lft (rgt (rgt (rgt (rgt (bod Tryz.f106))))))).toList.drop 2) 2 (eset (tells [(4, .sl (flat tmCells l.reverse) l.length .no)] (mutEnv [1, 2] i [.val (j 0), .mp 0 0, .mp 1 0, .val (j 3), .sl (flat c3 ls) ls.length (.st 0 3), .mp 2 0, .val (j 6), .mp 2 0, ai x.k, ab false, ab false, .val undef, .val undef, .val undef, .val undef, ab false, .val (j 16), .val (j 17), .val (j 18), .val (j 19), .val (j 20), .val (j 21), .val (j 22), .val (j 23), .val (j 24), .val (j 25), .val (j 26), .val (j 27), .val (j 28), .val (j 29), .val (j 30), .sl (flat c3 ls) ls.length (.st 0 3), .val (j 32), .val (j 33), .val (j 34)] 0)) (some 32) (.tup [])) (pickSt [1, 2] ⟨[(0, .cells u), (1, .cells [ai 0, ai 0, .sl [] 0 .nl]), (2, .cells [ai x.k, ai x.n, .sl (vs.map .val) x.sub.length o])], 3, [0], 1, []⟩) []).map Prod.snd = some ([.val (j 0), .val (i 1), .mp 1 0, .val (j 3), .sl (flat tmCells l.reverse) l.length .no, .mp 2 0, .val (j 6), .mp 2 0, ai x.k, ab false, ab false, .val undef, .val undef, .val undef, .val undef, ab false, .val (j 16), .val (j 17), .val (j 18), .val (j 19), .val (j 20), .val (j 21), .val (j 22), .val (j 23), .val (j 24), .val (j 25), .val (j 26), .val (j 27), .val (j 28), .val (j 29), .val (j 30), .val (i 31), .tup [], .val (j 33), .val (j 34)], ⟨[(1, .cells [ai 0, ai 0, .sl [] 0 .nl]), (2, .cells [ai x.k, ai x.n, .sl (vs.map .val) x.sub.length o])], 3, [], 0, []⟩, [], []) := by kernel_rfl
theorem spA4 (j i : Nat → Value) (l : List Tm) (x : Tm) (vs : List Value) (o : Own) : kfin Tryz.prog prim 0 Tryz.f106 3000 (.run (rgt (rgt (rgt (rgt (rgt (bod Tryz.f106))))))) [] [.val (j 0), .val (i 1), .mp 1 0, .val (j 3), .sl (flat tmCells l.reverse) l.length .no, .mp 2 0, .val (j 6), .mp 2 0, ai x.k, ab false, ab false, .val undef, .val undef, .val undef, .val undef, ab false, .val (j 16), .val (j 17), .val (j 18), .val (j 19), .val (j 20), .val (j 21), .val (j 22), .val (j 23), .val (j 24), .val (j 25), .val (j 26), .val (j 27), .val (j 28), .val (j 29), .val (j 30), .val (i 31), .tup [], .val (j 33), .val (j 34)] ⟨[(1, .cells [ai 0, ai 0, .sl [] 0 .nl]), (2, .cells [ai x.k, ai x.n, .sl (vs.map .val) x.sub.length o])], 3, [], 0, []⟩ [.no, .no] [] [] [] false = some (.tup [.agg [ai x.k, ai x.n, .sl (vs.map .val) x.sub.length .no], .sl (flat tmCells l.reverse) l.length .no], [], [.data (vs.map .val), .data (flat tmCells l.reverse)]) := by kernel_rfl
theorem spB1 (j : Nat → Value) (ls : List L3) (x : Tm) (u : List AV) (vs : List Value) (o : Own) : krun Tryz.prog prim 3000 (.run (inn (inn (lft (rgt (rgt (rgt (bod Tryz.f106)))))))) [] [.val (j 0), .mp 0 0, .mp 1 0, .val (j 3), .sl (flat c3 ls) ls.length (.st 0 3), .mp 2 0, .val (j 6), .val (j 7), .val (j 8), .val (j 9), .val (j 10), .val (j 11), .val (j 12), .val (j 13), .val (j 14), .val (j 15), .val (j 16), .val (j 17), .val (j 18), .val (j 19), .val (j 20), .val (j 21), .val (j 22), .val (j 23), .val (j 24), .val (j 25), .val (j 26), .val (j 27), .val (j 28), .val (j 29), .val (j 30), .val (j 31), .val (j 32), .val (j 33), .val (j 34)] ⟨[(0, .cells u), (1, .cells [ai 0, ai 0, .sl [] 0 .nl]), (2, .cells [ai x.k, ai x.n, .sl (vs.map .val) x.sub.length o])], 3, [0], 1, []⟩ [.no, .bit true, .no, .no, .bit false] = some (.fin (.exit 0), [.val (j 0), .mp 0 0, .mp 1 0, .val (j 3), .sl (flat c3 ls) ls.length (.st 0 3), .mp 2 0, .val (j 6), .mp 2 0, ai x.k, ab true, ab true, .mp 2 2, .sl (vs.map .val) x.sub.length o, ai (x.sub.length : Int), ab false, ab false, .val (j 16), .val (j 17), .val (j 18), .val (j 19), .val (j 20), .val (j 21), .val (j 22), .val (j 23), .val (j 24), .val (j 25), .val (j 26), .val (j 27), .val (j 28), .val (j 29), .val (j 30), .val (j 31), .val (j 32), .val (j 33), .val (j 34)], ⟨[(0, .cells u), (1, .cells [ai 0, ai 0, .sl [] 0 .nl]), (2, .cells [ai x.k, ai x.n, .sl (vs.map .val) x.sub.length o])], 3, [0], 1, []⟩, [], [.bit (x.k == 5) true, .bit ((x.sub.length : Int) == 2) false]) := by kernel_rfl
theorem spB2 (j : Nat → Value) (ls : List L3) (x : Tm) (u : List AV) (vs : List Value) (o : Own) : (xops Tryz.prog prim (regOps (lft (rgt (rgt (rgt (rgt (bod Tryz.f106))))))) ((regOps (lft (rgt (rgt (rgt (rgt (bod Tryz.f106))))))).toList.take 1) 0 [.val (j 0), .mp 0 0, .mp 1 0, .val (j 3), .sl (flat c3 ls) ls.length (.st 0 3), .mp 2 0, .val (j 6), .mp 2 0, ai x.k, ab true, ab true, .mp 2 2, .sl (vs.map .val) x.sub.length o, ai (x.sub.length : Int), ab false, ab false, .val (j 16), .val (j 17), .val (j 18), .val (j 19), .val (j 20), .val (j 21), .val (j 22), .val (j 23), .val (j 24), .val (j 25), .val (j 26), .val (j 27), .val (j 28), .val (j 29), .val (j 30), .val (j 31), .val (j 32), .val (j 33), .val (j 34)] ⟨[(0, .cells u), (1, .cells [ai 0, ai 0, .sl [] 0 .nl]), (2, .cells [ai x.k, ai x.n, .sl (vs.map .val) x.sub.length o])], 3, [0], 1, []⟩ []).map Prod.snd = some ([.val (j 0), .mp 0 0, .mp 1 0, .val (j 3), .sl (flat c3 ls) ls.length (.st 0 3), .mp 2 0, .val (j 6), .mp 2 0, ai x.k, ab true, ab true, .mp 2 2, .sl (vs.map .val) x.sub.length o, ai (x.sub.length : Int), ab false, ab false, .val (j 16), .val (j 17), .val (j 18), .val (j 19), .val (j 20), .val (j 21), .val (j 22), .val (j 23), .val (j 24), .val (j 25), .val (j 26), .val (j 27), .val (j 28), .val (j 29), .val (j 30), .sl (flat c3 ls) ls.length (.st 0 3), .val (j 32), .val (j 33), .val (j 34)], ⟨[(0, .cells u), (1, .cells [ai 0, ai 0, .sl [] 0 .nl]), (2, .cells [ai x.k, ai x.n, .sl (vs.map .val) x.sub.length o])], 3, [0], 1, []⟩, [], []) := by kernel_rfl
theorem spB3 (j i : Nat → Value) (ls : List L3) (l : List Tm) (x : Tm) (u : List AV) (vs : List Value) (o : Own) : (xops Tryz.prog prim (regOps (lft (rgt (rgt (rgt (rgt (bod Tryz.f106))))))) ((regOps (lft (rgt (rgt (rgt (rgt (bod Tryz.f106))))))).toList.drop 2) 2 (eset (tells [(4, .sl (flat tmCells l.reverse) l.length .no)] (mutEnv [1, 2] i [.val (j 0), .mp 0 0, .mp 1 0, .val (j 3), .sl (flat c3 ls) ls.length (.st 0 3), .mp 2 0, .val (j 6), .mp 2 0, ai x.k, ab true, ab true, .mp 2 2, .sl (vs.map .val) x.sub.length o, ai (x.sub.length : Int), ab false, ab false, .val (j 16), .val (j 17), .val (j 18), .val (j 19), .val (j 20), .val (j 21), .val (j 22), .val (j 23), .val (j 24), .val (j 25), .val (j 26), .val (j 27), .val (j 28), .val (j 29), .val (j 30), .sl (flat c3 ls) ls.length (.st 0 3), .val (j 32), .val (j 33), .val (j 34)] 0)) (some 32) (.tup [])) (pickSt [1, 2] ⟨[(0, .cells u), (1, .cells [ai 0, ai 0, .sl [] 0 .nl]), (2, .cells [ai x.k, ai x.n, .sl (vs.map .val) x.sub.length o])], 3, [0], 1, []⟩) []).map Prod.snd = some ([.val (j 0), .val (i 1), .mp 1 0, .val (j 3), .sl (flat tmCells l.reverse) l.length .no, .mp 2 0, .val (j 6), .mp 2 0, ai x.k, ab true, ab true, .mp 2 2, .val (i 12), ai (x.sub.length : Int), ab false, ab false, .val (j 16), .val (j 17), .val (j 18), .val (j 19), .val (j 20), .val (j 21), .val (j 22), .val (j 23), .val (j 24), .val (j 25), .val (j 26), .val (j 27), .val (j 28), .val (j 29), .val (j 30), .val (i 31), .tup [], .val (j 33), .val (j 34)], ⟨[(1, .cells [ai 0, ai 0, .sl [] 0 .nl]), (2, .cells [ai x.k, ai x.n, .sl (vs.map .val) x.sub.length o])], 3, [], 0, []⟩, [], []) := by kernel_rfl
theorem spB4 (j i : Nat → Value) (l : List Tm) (x : Tm) (vs : List Value) (o : Own) : kfin Tryz.prog prim 0 Tryz.f106 3000 (.run (rgt (rgt (rgt (rgt (rgt (bod Tryz.f106))))))) [] [.val (j 0), .val (i 1), .mp 1 0, .val (j 3), .sl (flat tmCells l.reverse) l.length .no, .mp 2 0, .val (j 6), .mp 2 0, ai x.k, ab true, ab true, .mp 2 2, .val (i 12), ai (x.sub.length : Int), ab false, ab false, .val (j 16), .val (j 17), .val (j 18), .val (j 19), .val (j 20), .val (j 21), .val (j 22), .val (j 23), .val (j 24), .val (j 25), .val (j 26), .val (j 27), .val (j 28), .val (j 29), .val (j 30), .val (i 31), .tup [], .val (j 33), .val (j 34)] ⟨[(1, .cells [ai 0, ai 0, .sl [] 0 .nl]), (2, .cells [ai x.k, ai x.n, .sl (vs.map .val) x.sub.length o])], 3, [], 0, []⟩ [.no, .no] [] [] [] false = some (.tup [.agg [ai x.k, ai x.n, .sl (vs.map .val) x.sub.length .no], .sl (flat tmCells l.reverse) l.length .no], [], [.data (vs.map .val), .data (flat tmCells l.reverse)]) := by kernel_rfl
theorem spC (j : Nat → Value) (p0 : Tm) (q0 : Option Addr × Nat × Nat) (ls : List L3) (x : Tm) (vs : List Value) (o : Own) : kfin Tryz.prog prim 0 Tryz.f106 3000 (.run (inn (inn (lft (rgt (rgt (rgt (bod Tryz.f106)))))))) [.loop (inn (inn (lft (rgt (rgt (rgt (bod Tryz.f106))))))), .blk 0, .seq (rgt (rgt (rgt (rgt (bod Tryz.f106)))))] [.val (j 0), .mp 0 0, .mp 1 0, .val (j 3), .sl (flat c3 ls) ls.length (.st 0 3), .mp 2 0, .val (j 6), .val (j 7), .val (j 8), .val (j 9), .val (j 10), .val (j 11), .val (j 12), .val (j 13), .val (j 14), .val (j 15), .val (j 16), .val (j 17), .val (j 18), .val (j 19), .val (j 20), .val (j 21), .val (j 22), .val (j 23), .val (j 24), .val (j 25), .val (j 26), .val (j 27), .val (j 28), .val (j 29), .val (j 30), .val (j 31), .val (j 32), .val (j 33), .val (j 34)] ⟨[(0, .cells [.val (.int .i64 p0.k), .val (.int .i64 p0.n), .val (.slice q0.1 q0.2.1 q0.2.2)]), (1, .cells [ai 0, ai 0, .sl [] 0 .nl]), (2, .cells [ai x.k, ai x.n, .sl (vs.map .val) x.sub.length o])], 3, [0], 1, []⟩ [.no, .bit true, .no, .no, .bit true, .no, .bit true, .no, .no] [] [] [] false = some (.tup [.agg [.val (.int .i64 p0.k), .val (.int .i64 p0.n), .val (.slice q0.1 q0.2.1 q0.2.2)], .sl [] 0 .no], [], [.bit (x.k == 5) true, .bit ((x.sub.length : Int) == 2) true, .bit (decide ((ls.length : Int) ≥ 8192)) true, .data []]) := by kernel_rfl
theorem spD (i j : Nat → Value) (k n : Int) (a b : Tm) (qa qb : Option Addr × Nat × Nat) (u0 u1 u2 : Value) (ls ls2 : List L3) (o : Own) : khead Tryz.prog prim 0 3000 (.run (inn (inn (lft (rgt (rgt (rgt (bod Tryz.f106)))))))) [.loop (inn (inn (lft (rgt (rgt (rgt (bod Tryz.f106))))))), .blk 0, .seq (rgt (rgt (rgt (rgt (bod Tryz.f106)))))] [.val (j 0), .mp 0 0, .mp 1 0, .val (j 3), .sl (flat c3 ls) ls.length (.st 0 3), .mp 2 0, .val (j 6), .val (j 7), .val (j 8), .val (j 9), .val (j 10), .val (j 11), .val (j 12), .val (j 13), .val (j 14), .val (j 15), .val (j 16), .val (j 17), .val (j 18), .val (j 19), .val (j 20), .val (j 21), .val (j 22), .val (j 23), .val (j 24), .val (j 25), .val (j 26), .val (j 27), .val (j 28), .val (j 29), .val (j 30), .val (j 31), .val (j 32), .val (j 33), .val (j 34)] ⟨[(0, .cells [.val u0, .val u1, .val u2]), (1, .cells [ai 0, ai 0, .sl [] 0 .nl]), (2, .cells [ai k, ai n, .sl [.val (.int .i64 a.k), .val (.int .i64 a.n), .val (.slice qa.1 qa.2.1 qa.2.2), .val (.int .i64 b.k), .val (.int .i64 b.n), .val (.slice qb.1 qb.2.1 qb.2.2)] 2 o])], 3, [0], 1, []⟩ [.no, .bit true, .no, .no, .bit true, .no, .bit false, .no, .no, .no, .no, .app (flat c3 ls2) ls2.length 3 false, .no, .no, .no, .no] [] [0, 1, 2] [1] [1, 2, 4, 5] i = some (inn (inn (lft (rgt (rgt (rgt (bod Tryz.f106)))))), [.blk 0, .seq (rgt (rgt (rgt (rgt (bod Tryz.f106)))))], [.val (i 0), .mp 0 0, .mp 1 0, .val (i 3), .sl (flat c3 ls2) ls2.length (.st 0 3), .mp 2 0, .val (i 6), .val (i 7), .val (i 8), .val (i 9), .val (i 10), .val (i 11), .val (i 12), .val (i 13), .val (i 14), .val (i 15), .val (i 16), .val (i 17), .val (i 18), .val (i 19), .val (i 20), .val (i 21), .val (i 22), .val (i 23), .val (i 24), .val (i 25), .val (i 26), .val (i 27), .val (i 28), .val (i 29), .val (i 30), .val (i 31), .val (i 32), .val (i 33), .val (i 34)], ⟨[(0, .cells [.val u0, .val u1, .val u2]), (1, .cells [ai 0, ai 0, .sl [] 0 .nl]), (2, .cells [.val (.int .i64 a.k), .val (.int .i64 a.n), .val (.slice qa.1 qa.2.1 qa.2.2)])], 3, [0], 1, []⟩, [.bit (k == 5) true, .bit ((2 : Int) == 2) true, .bit (decide ((ls.length : Int) ≥ 8192)) false, .app 22 22 (flat c3 ls) [.val (.int .i64 b.k), .val (.int .i64 b.n), .val (.slice qb.1 qb.2.1 qb.2.2)] (flat c3 ls2) ls.length 1 ls2.length 3 false, .data [], .data (flat c3 ls2)]) := by kernel_rfl
theorem spE (i : Nat → Value) (u0 u1 : Int) (u2 : Option Addr × Nat × Nat) : khead Tryz.prog prim 0 3000 (.run (bod Tryz.f106)) [] ([.agg [.val (.int .i64 u0), .val (.int .i64 u1), .val (.slice u2.1 u2.2.1 u2.2.2)]] ++ List.replicate (Tryz.f106.ntmps - 1) (.val undef)) (st0 []) [.no, .no] [(none, 4, 3)] [0, 1, 2] [0] [1, 2, 4, 5] i = some (inn (inn (lft (rgt (rgt (rgt (bod Tryz.f106)))))), [.blk 0, .seq (rgt (rgt (rgt (rgt (bod Tryz.f106)))))], [.val (i 0), .mp 0 0, .mp 1 0, .val (i 3), .sl [] 0 (.st 0 3), .mp 2 0, .val (i 6), .val (i 7), .val (i 8), .val (i 9), .val (i 10), .val (i 11), .val (i 12), .val (i 13), .val (i 14), .val (i 15), .val (i 16), .val (i 17), .val (i 18), .val (i 19), .val (i 20), .val (i 21), .val (i 22), .val (i 23), .val (i 24), .val (i 25), .val (i 26), .val (i 27), .val (i 28), .val (i 29), .val (i 30), .val (i 31), .val (i 32), .val (i 33), .val (i 34)], ⟨[(0, .cells [.val (.int .i64 u0), .val (.int .i64 u1), .val (.slice u2.1 u2.2.1 u2.2.2)]), (1, .cells [ai 0, ai 0, .sl [] 0 .nl]), (2, .cells [.val (.int .i64 u0), .val (.int .i64 u1), .val (.slice u2.1 u2.2.1 u2.2.2)])], 3, [0], 1, []⟩, [.data [], .data []]) := by kernel_rfl

/-- a term's three cells, told as what they hold -/
def sv (x : Tm) (q : Option Addr × Nat × Nat) : List Value := [.int .i64 x.k, .int .i64 x.n, .slice q.1 q.2.1 q.2.2]
def sv3 (x : Tm) (q : Option Addr × Nat × Nat) : L3 := ⟨.int .i64 x.k, .int .i64 x.n, .slice q.1 q.2.1 q.2.2, rfl, rfl, rfl⟩

theorem VL.split {G : Gh} {w : World} : ∀ (cs bs : List AV) (us : List Value), VL G w (cs ++ bs) us → ∃ u1 u2, us = u1 ++ u2 ∧ VL G w cs u1 ∧ VL G w bs u2
  | [], bs, us, h => ⟨[], us, rfl, by simp only [VL], h⟩
  | a :: cs, bs, [], h => by simp only [List.cons_append, VL] at h
  | a :: cs, bs, u :: us, h => by
    simp only [List.cons_append, VL] at h
    obtain ⟨u1, u2, rfl, h1, h2⟩ := VL.split cs bs us h.2
    exact ⟨u :: u1, u2, rfl, by simp only [VL]; exact ⟨h.1, h1⟩, h2⟩

theorem sv_of {G : Gh} {w : World} {x : Tm} {us : List Value} (h : VL G w (tmL x) us) : ∃ q, us = sv x q := by
  unfold tmL at h
  match us, h with
  | [], h => simp only [VL] at h
  | [_], h => simp only [VL, and_false] at h
  | [_, _], h => simp only [VL, and_false] at h
  | [u0, u1, u2], h =>
    simp only [VL, and_true] at h
    obtain ⟨h0, h1, h2⟩ := h
    simp only [V] at h0 h1 h2
    obtain ⟨cap, _, ⟨_, _, _, h, _⟩ | ⟨b, off, h, _⟩⟩ := h2
    · obtain ⟨p, h⟩ : ∃ p, u2 = .slice p 0 0 := ⟨_, h⟩
      exact ⟨(p, 0, 0), by simp [sv, h0, h1, h]⟩
    · exact ⟨(some ⟨b, off, none⟩, x.sub.length, cap), by simp [sv, h0, h1, h]⟩
  | _ :: _ :: _ :: _ :: _, h => simp only [VL, and_false] at h

theorem VC.lit {G G' : Gh} {w w' : World} (b : Nat) (hL : ∀ o, G.L b o → G'.L b o) (hc : ∀ o, w'.cell? ⟨b, o, none⟩ = w.cell? ⟨b, o, none⟩) : ∀ (vs : List Value) (off : Nat), VC G w (vs.map .val) b off → VC G' w' (vs.map .val) b off
  | [], _, _ => by simp only [List.map_nil, VC]
  | v :: vs, off, h => by
    simp only [List.map_cons, VC] at h ⊢
    obtain ⟨h1, ⟨u, h2, h3⟩, h4⟩ := h
    exact ⟨hL _ h1, ⟨u, (hc _).trans h2, by simpa only [V] using h3⟩, VC.lit b hL hc vs (off + 1) h4⟩

theorem relit {G : Gh} {w : World} {vs : List Value} {n : Nat} {o : Own} {u : Value} {es : List AV} (h : V G w (.sl (vs.map .val) n o) u) (he : VL G w es vs) : V G w (.sl es n .no) u := by
  simp only [V] at h ⊢
  obtain ⟨cap, hc, ⟨h1, h2, h3, h4, _⟩ | ⟨b, off, h1, h2, _⟩⟩ := h
  · have hv : vs = [] := by simpa using h1
    subst hv
    have := VL.length _ _ he
    exact ⟨cap, hc, .inl ⟨List.length_eq_zero_iff.1 this.symm, h2, h3, h4, trivial⟩⟩
  · refine ⟨cap, hc, .inr ⟨b, off, h1, ?_, trivial⟩⟩
    obtain ⟨us, q1, q2⟩ := VC.cells _ _ _ h2
    have := VL.litEq _ _ q1
    subst this
    exact VC.of_cells es us b off he (fun i hi => (VC.cell _ _ _ i (.val us[i]) h2 (by simp [hi])).1) q2

/-- a term opened by one level -/
theorem open_tm {na : Nb} {G0 : Gh} {w : World} (hB : Base na G0) {x : Tm} {q : Option Addr × Nat × Nat} (h : VL G0 w (tmL x) (sv x q)) :
    ∃ (vs : List Value) (o : Own), VL G0 w (flat tmCells x.sub) vs ∧ VL G0 w [ai x.k, ai x.n, .sl (vs.map .val) x.sub.length o] (sv x q) ∧ Blk.lit (.cells [ai x.k, ai x.n, .sl (vs.map .val) x.sub.length o]) := by
  unfold tmL sv at h
  simp only [VL, and_true] at h
  obtain ⟨_, _, h2⟩ := h
  have key : ∃ (vs : List Value) (o : Own), VL G0 w (flat tmCells x.sub) vs ∧ V G0 w (.sl (vs.map .val) x.sub.length o) (.slice q.1 q.2.1 q.2.2) ∧
      ∀ (G G' : Gh) (w w' : World) (u : Value), G'.F = G.F → (∀ b o, G.F b → G.L b o → G'.L b o) → (∀ b o, G.F b → w'.cell? ⟨b, o, none⟩ = w.cell? ⟨b, o, none⟩) → V G w (.sl (vs.map .val) x.sub.length o) u → V G' w' (.sl (vs.map .val) x.sub.length o) u := by
    simp only [V] at h2
    obtain ⟨cap, hc, ⟨h1, h2, h3, h4, _⟩ | ⟨b, off, h1, h2, _⟩⟩ := h2
    · refine ⟨[], .no, by rw [h1]; simp only [VL], ?_, ?_⟩
      · simp only [V]; exact ⟨cap, hc, .inl ⟨rfl, h2, h3, h4, trivial⟩⟩
      · intro G G' w w' u _ _ _ hu
        rw [h2] at hu ⊢
        exact V.none hu
    · obtain ⟨vs, q1, q2⟩ := VC.cells _ _ _ h2
      have hL : ∀ i, i < vs.length → G0.L b (off + i) := by
        intro i hi
        have hl := VL.length _ _ q1
        exact (VC.cell _ _ _ i ((flat tmCells x.sub)[i]'(by omega)) h2 (by rw [List.getElem?_eq_getElem])).1
      have hcl : VC G0 w (vs.map .val) b off := VC.of_cells _ vs b off (VL.lits vs) hL q2
      by_cases hs : vs = []
      · subst hs
        have hl := VL.length _ _ q1
        have hfl := flat_len codecT.len x.sub
        have h0 : x.sub.length = 0 := by simp at hl; omega
        refine ⟨[], .no, q1, ?_, ?_⟩
        · simp only [V]; exact ⟨cap, hc, .inr ⟨b, off, h1, hcl, trivial⟩⟩
        · intro G G' w w' u _ _ _ hu
          rw [h0] at hu ⊢
          exact V.none hu
      · have hF : G0.F b := hB.LF b (off + 0) (hL 0 (List.length_pos_iff.2 hs))
        refine ⟨vs, .fr, q1, ?_, ?_⟩
        · simp only [V]; exact ⟨cap, hc, .inr ⟨b, off, h1, hcl, hF⟩⟩
        · intro G G' w w' u e1 e2 e3 hu
          simp only [V] at hu ⊢
          obtain ⟨cap', hc', ⟨p1, p2, p3, p4, _⟩ | ⟨b', off', p1, p2, p3⟩⟩ := hu
          · exact ⟨cap', hc', .inl ⟨p1, p2, p3, p4, trivial⟩⟩
          · have p3' : G.F b' := p3
            exact ⟨cap', hc', .inr ⟨b', off', p1, VC.lit b' (fun o h => e2 b' o p3' h) (fun o => e3 b' o p3') vs off' p2, by show G'.F b'; rw [e1]; exact p3'⟩⟩
  obtain ⟨vs, o, k1, k2, k3⟩ := key
  refine ⟨vs, o, k1, ?_, ?_⟩
  · simp only [sv, VL, V]; simp only [V] at k2; exact ⟨trivial, trivial, k2, trivial⟩
  · intro G G' w w' us e1 e2 e3 hu
    match us, hu with
    | [], hu => simp only [VL] at hu
    | [_], hu => simp only [VL, and_false] at hu
    | [_, _], hu => simp only [VL, and_false] at hu
    | [u0, u1, u2], hu =>
      simp only [VL, and_true] at hu ⊢
      exact ⟨by simpa only [V] using hu.1, by simpa only [V] using hu.2.1, k3 G G' w w' u2 e1 e2 e3 hu.2.2⟩
    | _ :: _ :: _ :: _ :: _, hu => simp only [VL, and_false] at hu

theorem zlit : Blk.lit (.cells [ai 0, ai 0, .sl [] 0 .nl]) := by
  intro G G' w w' us e1 e2 e3 hu
  match us, hu with
  | [], hu => simp only [VL] at hu
  | [_], hu => simp only [VL, and_false] at hu
  | [_, _], hu => simp only [VL, and_false] at hu
  | [u0, u1, u2], hu =>
    simp only [VL, and_true] at hu ⊢
    refine ⟨by simpa only [V] using hu.1, by simpa only [V] using hu.2.1, ?_⟩
    have := hu.2.2
    simp only [V] at this ⊢
    obtain ⟨cap, h1, ⟨_, _, h2, h3, h4⟩ | ⟨b, off, h2, _, h3⟩⟩ := this
    · exact ⟨cap, h1, .inl ⟨trivial, trivial, h2, h3, h4⟩⟩
    · exact h3.elim
  | _ :: _ :: _ :: _ :: _, hu => simp only [VL, and_false] at hu

def Good (G0 : Gh) (res : AV) (r : Tm × List Tm) : Prop := ∀ W G' W', Ext G0 W G' W' → Keep G'.F G'.w0 W' → ∀ u, V G' W' res u → V G' W' (.tup [tmA r.1, .sl (flat tmCells r.2) (List.length r.2) .no]) u

/- scholium/term.Spine -/
def g106L0 (p0 : Tm) : Tm → List Tm → Option (Tm × List Tm)
  | .mk k n [a, b], l =>
    if (k == 5) = true then
      if decide ((List.length l : Int) ≥ 8192) = true then some (p0, []) else (gapp 40 l [b]) >>= fun l2 => g106L0 p0 a l2
    else some (.mk k n [a, b], l.reverse)
  | x, l => some (x, l.reverse)
def g106 (p0 : Tm) : Option (Tm × List Tm) := g106L0 p0 p0 []

theorem dVals : ∀ vs : List Value, AV.DataL (vs.map .val)
  | [] => trivial
  | _ :: vs => ⟨trivial, dVals vs⟩

theorem VL.rev {G : Gh} {w : World} : ∀ (l : List Tm) (ls : List L3), VL G w (flat tmCells l) (vals ls) → ls.length = l.length → VL G w (flat tmCells l.reverse) (vals ls.reverse)
  | [], [], _, _ => by simp [flat, vals, VL]
  | x :: l, y :: ls, h, hl => by
    simp only [flat, vals, List.flatMap_cons] at h
    obtain ⟨u1, u2, e, h1, h2⟩ := VL.split _ _ _ h
    have n1 := VL.length _ _ h1
    rw [codecT.len] at n1
    obtain ⟨rfl, rfl⟩ := List.append_inj e (by rw [n1]; rfl)
    have ih := VL.rev l ls h2 (by simpa using hl)
    simp only [List.reverse_cons, flat, vals, List.flatMap_append, List.flatMap_cons, List.flatMap_nil, List.append_nil]
    exact VL.append _ _ _ _ ih h1
  | [], _ :: _, _, h => by simp at h
  | _ :: _, [], _, h => by simp at h

theorem good_exit {na : Nb} {G0 : Gh} (hB : Base na G0) {x : Tm} {l : List Tm} {vs : List Value} (v1 : VL G0 G0.w0 (flat tmCells x.sub) vs) (hn : na.n = 0 := by first | rfl | assumption) : Good G0 (.tup [.agg [ai x.k, ai x.n, .sl (vs.map .val) x.sub.length .no], .sl (flat tmCells l.reverse) l.length .no]) (x, l.reverse) := by
  intro W G' W' hE hK u hu
  have v := VL.later hB hE hK v1
  simp only [V, VL] at hu
  obtain ⟨us, rfl, hus⟩ := hu
  match us, hus with
  | [], h => simp only [VL] at h
  | [_], h => simp only [VL, and_false] at h
  | [ua, ub], h =>
    simp only [VL, and_true] at h
    obtain ⟨h1, h2⟩ := h
    simp only [V] at h1
    obtain ⟨ws, rfl, hws⟩ := h1
    match ws, hws with
    | [], h => simp only [VL] at h
    | [_], h => simp only [VL, and_false] at h
    | [_, _], h => simp only [VL, and_false] at h
    | [w0, w1, w2], h =>
      simp only [VL, and_true] at h
      obtain ⟨g0, g1, g2⟩ := h
      have g3 := relit g2 v
      simp only [V]
      refine ⟨[.agg #[w0, w1, w2], ub], rfl, ?_⟩
      simp only [VL, and_true]
      refine ⟨?_, by simpa using h2⟩
      simp only [tmA, V]
      exact ⟨[w0, w1, w2], rfl, by simp only [tmL, VL, and_true]; exact ⟨g0, g1, g3⟩⟩
    | _ :: _ :: _ :: _ :: _, h => simp only [VL, and_false] at h
  | _ :: _ :: _ :: _, h => simp only [VL, and_false] at h

theorem good_long {na : Nb} {G0 : Gh} (hB : Base na G0) {x : Tm} {q : Option Addr × Nat × Nat} (h0 : VL G0 G0.w0 (tmL x) (sv x q)) (hn : na.n = 0 := by first | rfl | assumption) : Good G0 (.tup [.agg [.val (.int .i64 x.k), .val (.int .i64 x.n), .val (.slice q.1 q.2.1 q.2.2)], .sl [] 0 .no]) (x, []) := by
  intro W G' W' hE hK u hu
  have v := VL.later hB hE hK h0
  simp only [V, VL] at hu
  obtain ⟨us, rfl, hus⟩ := hu
  match us, hus with
  | [], h => simp only [VL] at h
  | [_], h => simp only [VL, and_false] at h
  | [ua, ub], h =>
    simp only [VL, and_true] at h
    obtain ⟨h1, h2⟩ := h
    simp only [V] at h1
    obtain ⟨ws, rfl, hws⟩ := h1
    have hw : ws = sv x q := VL.litEq (sv x q) ws hws
    subst hw
    simp only [V]
    refine ⟨[.agg (sv x q).toArray, ub], rfl, ?_⟩
    simp only [VL, and_true]
    refine ⟨?_, by simpa [flat] using h2⟩
    simp only [tmA, V]
    exact ⟨sv x q, rfl, v⟩
  | _ :: _ :: _ :: _, h => simp only [VL, and_false] at h

theorem spAX {G0 : Gh} {p0 x : Tm} {q0 : Option Addr × Nat × Nat} {l : List Tm} {ls : List L3} {vs : List Value} {o : Own} (j : Nat → Value) (hlit : Blk.lit (.cells [ai x.k, ai x.n, .sl (vs.map .val) x.sub.length o])) (hl : VL G0 G0.w0 (flat tmCells l) (vals ls)) (hlen : ls.length = l.length) (h8 : l.length ≤ 8192) :
    Dv Tryz.prog (⟨0, fun G => G = G0⟩ : Nb) (rgt (rgt (rgt (rgt (bod Tryz.f106))))) [.val (j 0), .mp 0 0, .mp 1 0, .val (j 3), .sl (flat c3 ls) ls.length (.st 0 3), .mp 2 0, .val (j 6), .mp 2 0, ai x.k, ab false, ab false, .val undef, .val undef, .val undef, .val undef, ab false, .val (j 16), .val (j 17), .val (j 18), .val (j 19), .val (j 20), .val (j 21), .val (j 22), .val (j 23), .val (j 24), .val (j 25), .val (j 26), .val (j 27), .val (j 28), .val (j 29), .val (j 30), .val (j 31), .val (j 32), .val (j 33), .val (j 34)] ⟨[(0, .cells [.val (.int .i64 p0.k), .val (.int .i64 p0.n), .val (.slice q0.1 q0.2.1 q0.2.2)]), (1, .cells [ai 0, ai 0, .sl [] 0 .nl]), (2, .cells [ai x.k, ai x.n, .sl (vs.map .val) x.sub.length o])], 3, [0], 1, []⟩ (FinQ Tryz.prog (⟨0, fun G => G = G0⟩ : Nb) Tryz.f106 (.tup [.agg [ai x.k, ai x.n, .sl (vs.map .val) x.sub.length .no], .sl (flat tmCells l.reverse) l.length .no]) [] 0) := by
  have k1 : knd (rgt (rgt (rgt (rgt (bod Tryz.f106))))) = 1 := by kernel_rfl
  have k3 : isReg (lft (rgt (rgt (rgt (rgt (bod Tryz.f106)))))) = true := by kernel_rfl
  have k4 : clOf (regOps (lft (rgt (rgt (rgt (rgt (bod Tryz.f106)))))))[1]? = some (some 32, 152, #[.tmp 31]) := by kernel_rfl
  have k5 : (Tryz.f152.name == "runtime.NumGoroutine") = false := by kernel_rfl
  have k6 : Tryz.f152.body.isNone = false := by kernel_rfl
  refine Dv.seqP k1 ?_
  obtain ⟨id, k7⟩ := regP k3
  rw [k7]
  refine Dv.mut prim_ok (na := (⟨0, fun G => G = G0⟩ : Nb)) rfl 1 [1, 2] [(4, .sl (flat tmCells l.reverse) l.length .no)] (.tup []) (spA2 j ls x _ vs o) ObsOk.nil k4 Tryz.func152 k5 k6 ?_ ?_ (fun i => spA3 j i ls l x _ vs o) ObsOk.nil ?_
  · intro i X hm hX
    have : i = 1 ∨ i = 2 := by simpa using any_beq.1 hm
    rcases this with rfl | rfl
    · cases hX; exact zlit
    · cases hX; exact hlit
  · intro G1 W hB' G w hE hR u hu
    have e := hB'.κ
    subst e
    refine (rev_call (l := ls) hR (by rfl) (by omega) hu).mono ?_
    rintro e w' ⟨v, b, S, e1, e2, e3, e4, e5, e6, e7⟩
    refine ⟨v, b, S, e1, e2, e3, e4, e5, fun G' hE' hK' hS => ⟨by subst e6; simp only [V]; exact ⟨[], rfl, by simp only [VL]⟩, ?_⟩⟩
    intro p hp u' hu'
    have hp' := List.mem_singleton.1 hp
    subst hp'
    have := e7 G' hS _ (VL.later hB' hE' hK' (VL.rev l ls hl hlen)) u' hu'
    rw [hlen] at this
    exact this
  · intro i
    exact kfin_ok (na := (⟨0, fun G => G = G0⟩ : Nb)) prim_ok mixed (spA4 j i l x vs o) (ObsOk.cons (obData (dVals vs)) (ObsOk.cons (obData (dT _)) ObsOk.nil)) (by decide)

theorem spBX {G0 : Gh} {p0 x : Tm} {q0 : Option Addr × Nat × Nat} {l : List Tm} {ls : List L3} {vs : List Value} {o : Own} (j : Nat → Value) (hlit : Blk.lit (.cells [ai x.k, ai x.n, .sl (vs.map .val) x.sub.length o])) (hl : VL G0 G0.w0 (flat tmCells l) (vals ls)) (hlen : ls.length = l.length) (h8 : l.length ≤ 8192) :
    Dv Tryz.prog (⟨0, fun G => G = G0⟩ : Nb) (rgt (rgt (rgt (rgt (bod Tryz.f106))))) [.val (j 0), .mp 0 0, .mp 1 0, .val (j 3), .sl (flat c3 ls) ls.length (.st 0 3), .mp 2 0, .val (j 6), .mp 2 0, ai x.k, ab true, ab true, .mp 2 2, .sl (vs.map .val) x.sub.length o, ai (x.sub.length : Int), ab false, ab false, .val (j 16), .val (j 17), .val (j 18), .val (j 19), .val (j 20), .val (j 21), .val (j 22), .val (j 23), .val (j 24), .val (j 25), .val (j 26), .val (j 27), .val (j 28), .val (j 29), .val (j 30), .val (j 31), .val (j 32), .val (j 33), .val (j 34)] ⟨[(0, .cells [.val (.int .i64 p0.k), .val (.int .i64 p0.n), .val (.slice q0.1 q0.2.1 q0.2.2)]), (1, .cells [ai 0, ai 0, .sl [] 0 .nl]), (2, .cells [ai x.k, ai x.n, .sl (vs.map .val) x.sub.length o])], 3, [0], 1, []⟩ (FinQ Tryz.prog (⟨0, fun G => G = G0⟩ : Nb) Tryz.f106 (.tup [.agg [ai x.k, ai x.n, .sl (vs.map .val) x.sub.length .no], .sl (flat tmCells l.reverse) l.length .no]) [] 0) := by
  have k1 : knd (rgt (rgt (rgt (rgt (bod Tryz.f106))))) = 1 := by kernel_rfl
  have k3 : isReg (lft (rgt (rgt (rgt (rgt (bod Tryz.f106)))))) = true := by kernel_rfl
  have k4 : clOf (regOps (lft (rgt (rgt (rgt (rgt (bod Tryz.f106)))))))[1]? = some (some 32, 152, #[.tmp 31]) := by kernel_rfl
  have k5 : (Tryz.f152.name == "runtime.NumGoroutine") = false := by kernel_rfl
  have k6 : Tryz.f152.body.isNone = false := by kernel_rfl
  refine Dv.seqP k1 ?_
  obtain ⟨id, k7⟩ := regP k3
  rw [k7]
  refine Dv.mut prim_ok (na := (⟨0, fun G => G = G0⟩ : Nb)) rfl 1 [1, 2] [(4, .sl (flat tmCells l.reverse) l.length .no)] (.tup []) (spB2 j ls x _ vs o) ObsOk.nil k4 Tryz.func152 k5 k6 ?_ ?_ (fun i => spB3 j i ls l x _ vs o) ObsOk.nil ?_
  · intro i X hm hX
    have : i = 1 ∨ i = 2 := by simpa using any_beq.1 hm
    rcases this with rfl | rfl
    · cases hX; exact zlit
    · cases hX; exact hlit
  · intro G1 W hB' G w hE hR u hu
    have e := hB'.κ
    subst e
    refine (rev_call (l := ls) hR (by rfl) (by omega) hu).mono ?_
    rintro e w' ⟨v, b, S, e1, e2, e3, e4, e5, e6, e7⟩
    refine ⟨v, b, S, e1, e2, e3, e4, e5, fun G' hE' hK' hS => ⟨by subst e6; simp only [V]; exact ⟨[], rfl, by simp only [VL]⟩, ?_⟩⟩
    intro p hp u' hu'
    have hp' := List.mem_singleton.1 hp
    subst hp'
    have := e7 G' hS _ (VL.later hB' hE' hK' (VL.rev l ls hl hlen)) u' hu'
    rw [hlen] at this
    exact this
  · intro i
    exact kfin_ok (na := (⟨0, fun G => G = G0⟩ : Nb)) prim_ok mixed (spB4 j i l x vs o) (ObsOk.cons (obData (dVals vs)) (ObsOk.cons (obData (dT _)) ObsOk.nil)) (by decide)


theorem apC22 {l m r : List L3} (h : gapp 40 l m = some r) (hm : m.length ≠ 0) : Ob.ok Tryz.prog (.app 22 22 (flat c3 l) (flat c3 m) (flat c3 r) l.length m.length r.length 3 false) := app_some codec3 Tryz.underlying22 info29 rfl rfl rfl (by decide) rfl (by decide) h hm

theorem g135_exit {p0 x : Tm} {l : List Tm} {r : Tm × List Tm} (h : g106L0 p0 x l = some r) (hx : ¬ ((x.k == 5) = true ∧ x.sub.length = 2)) : r = (x, l.reverse) := by
  obtain ⟨k, n, sub⟩ := x
  unfold g106L0 at h
  split at h
  · rename_i k' n' a b e
    cases e
    split at h
    · rename_i hk
      exact (hx ⟨hk, rfl⟩).elim
    · cases h; rfl
  · cases h; rfl

theorem spine_loop {p0 : Tm} {q0 : Option Addr × Nat × Nat} {G0 : Gh} (hB : Base (⟨0, fun G => G = G0⟩ : Nb) G0) (h0 : VL G0 G0.w0 (tmL p0) (sv p0 q0)) : ∀ (N : Nat) (x : Tm) (l : List Tm) (r : Tm × List Tm) (hN : SizeOf.sizeOf x ≤ N) (h : g106L0 p0 x l = some r) (h8 : l.length ≤ 8192) (q : Option Addr × Nat × Nat) (ls : List L3)
    (hx : VL G0 G0.w0 (tmL x) (sv x q)) (hl : VL G0 G0.w0 (flat tmCells l) (vals ls)) (hlen : ls.length = l.length), ∃ res, Good G0 res r ∧ ∀ j : Nat → Value, Dl Tryz.prog (⟨0, fun G => G = G0⟩ : Nb) (inn (inn (lft (rgt (rgt (rgt (bod Tryz.f106))))))) [.val (j 0), .mp 0 0, .mp 1 0, .val (j 3), .sl (flat c3 ls) ls.length (.st 0 3), .mp 2 0, .val (j 6), .val (j 7), .val (j 8), .val (j 9), .val (j 10), .val (j 11), .val (j 12), .val (j 13), .val (j 14), .val (j 15), .val (j 16), .val (j 17), .val (j 18), .val (j 19), .val (j 20), .val (j 21), .val (j 22), .val (j 23), .val (j 24), .val (j 25), .val (j 26), .val (j 27), .val (j 28), .val (j 29), .val (j 30), .val (j 31), .val (j 32), .val (j 33), .val (j 34)] ⟨[(0, .cells [.val (.int .i64 p0.k), .val (.int .i64 p0.n), .val (.slice q0.1 q0.2.1 q0.2.2)]), (1, .cells [ai 0, ai 0, .sl [] 0 .nl]), (2, .cells [.val (.int .i64 x.k), .val (.int .i64 x.n), .val (.slice q.1 q.2.1 q.2.2)])], 3, [0], 1, []⟩ (frameQ Tryz.prog (⟨0, fun G => G = G0⟩ : Nb) (FinQ Tryz.prog (⟨0, fun G => G = G0⟩ : Nb) Tryz.f106 res [] 0) [.blk 0, .seq (rgt (rgt (rgt (rgt (bod Tryz.f106)))))]) := by
  intro N
  induction N with
  | zero =>
    intro x l r hN
    obtain ⟨k, n, sub⟩ := x
    simp at hN
  | succ N spine_ih =>
  intro x l r hN h h8 q ls hx hl hlen
  obtain ⟨vs, o, v1, v2, v3⟩ := open_tm hB hx
  have hopen : ∀ {res : AV} (j : Nat → Value), Dl Tryz.prog (⟨0, fun G => G = G0⟩ : Nb) (inn (inn (lft (rgt (rgt (rgt (bod Tryz.f106))))))) [.val (j 0), .mp 0 0, .mp 1 0, .val (j 3), .sl (flat c3 ls) ls.length (.st 0 3), .mp 2 0, .val (j 6), .val (j 7), .val (j 8), .val (j 9), .val (j 10), .val (j 11), .val (j 12), .val (j 13), .val (j 14), .val (j 15), .val (j 16), .val (j 17), .val (j 18), .val (j 19), .val (j 20), .val (j 21), .val (j 22), .val (j 23), .val (j 24), .val (j 25), .val (j 26), .val (j 27), .val (j 28), .val (j 29), .val (j 30), .val (j 31), .val (j 32), .val (j 33), .val (j 34)] ⟨[(0, .cells [.val (.int .i64 p0.k), .val (.int .i64 p0.n), .val (.slice q0.1 q0.2.1 q0.2.2)]), (1, .cells [ai 0, ai 0, .sl [] 0 .nl]), (2, .cells [ai x.k, ai x.n, .sl (vs.map .val) x.sub.length o])], 3, [0], 1, []⟩ (frameQ Tryz.prog (⟨0, fun G => G = G0⟩ : Nb) (FinQ Tryz.prog (⟨0, fun G => G = G0⟩ : Nb) Tryz.f106 res [] 0) [.blk 0, .seq (rgt (rgt (rgt (rgt (bod Tryz.f106)))))]) → Dl Tryz.prog (⟨0, fun G => G = G0⟩ : Nb) (inn (inn (lft (rgt (rgt (rgt (bod Tryz.f106))))))) [.val (j 0), .mp 0 0, .mp 1 0, .val (j 3), .sl (flat c3 ls) ls.length (.st 0 3), .mp 2 0, .val (j 6), .val (j 7), .val (j 8), .val (j 9), .val (j 10), .val (j 11), .val (j 12), .val (j 13), .val (j 14), .val (j 15), .val (j 16), .val (j 17), .val (j 18), .val (j 19), .val (j 20), .val (j 21), .val (j 22), .val (j 23), .val (j 24), .val (j 25), .val (j 26), .val (j 27), .val (j 28), .val (j 29), .val (j 30), .val (j 31), .val (j 32), .val (j 33), .val (j 34)] ⟨[(0, .cells [.val (.int .i64 p0.k), .val (.int .i64 p0.n), .val (.slice q0.1 q0.2.1 q0.2.2)]), (1, .cells [ai 0, ai 0, .sl [] 0 .nl]), (2, .cells [.val (.int .i64 x.k), .val (.int .i64 x.n), .val (.slice q.1 q.2.1 q.2.2)])], 3, [0], 1, []⟩ (frameQ Tryz.prog (⟨0, fun G => G = G0⟩ : Nb) (FinQ Tryz.prog (⟨0, fun G => G = G0⟩ : Nb) Tryz.f106 res [] 0) [.blk 0, .seq (rgt (rgt (rgt (rgt (bod Tryz.f106)))))]) := by
    intro res j hd
    refine Dl.openB (b := 2) (cs := [.val (.int .i64 x.k), .val (.int .i64 x.n), .val (.slice q.1 q.2.1 q.2.2)]) (cs' := [ai x.k, ai x.n, .sl (vs.map .val) x.sub.length o]) rfl (fun G1 W hB' G w hE hK us hus => ?_) hd
    have e := hB'.κ
    subst e
    have hu : us = sv x q := VL.litEq (sv x q) us hus
    subst hu
    exact VL.later hB' hE hK v2
  by_cases hk : (x.k == 5) = true
  · by_cases h2 : x.sub.length = 2
    · obtain ⟨k, n, sub⟩ := x
      match sub, h2 with
      | [a, b], _ =>
      rw [g106L0] at h
      replace h := ifT hk h
      rcases bcases (decide ((List.length l : Int) ≥ 8192)) with h3 | h3
      · replace h := ifT h3 h
        cases h
        exact ⟨_, good_long hB h0, fun j => hopen j (Dl.toFin (na := (⟨0, fun G => G = G0⟩ : Nb)) prim_ok mixed 3000 _ _ _ _ _ (spC j p0 q0 ls (.mk k n [a, b]) vs o) (ObsOk.cons (obBit hk) (ObsOk.cons (obBit rfl) (ObsOk.cons (obBit (by rw [hlen]; exact h3)) (ObsOk.cons (obData trivial) ObsOk.nil)))) (by decide))⟩
      · replace h := ifF h3 h
        obtain ⟨l2, hg, h⟩ := obind h
        obtain ⟨hg1, rfl⟩ := gapp_spec hg
        have w1 : VL G0 G0.w0 (tmCells a ++ (tmCells b ++ [])) vs := v1
        obtain ⟨ua, u2, rfl, wa, w2⟩ := VL.split _ _ _ w1
        obtain ⟨ub, u3, rfl, wb, w3⟩ := VL.split _ _ _ w2
        have e3 : u3 = [] := by
          have := VL.length _ _ w3
          exact List.length_eq_zero_iff.1 this
        subst e3
        rw [tm_eq] at wa wb
        obtain ⟨qa, rfl⟩ := sv_of wa
        obtain ⟨qb, rfl⟩ := sv_of wb
        have h3' : List.length l < 8192 := by
          have := of_decide_eq_false h3
          omega
        have hl2 : VL G0 G0.w0 (flat tmCells (l ++ [b])) (vals (ls ++ [sv3 b qb])) := by
          simp only [flat, vals, List.flatMap_append, List.flatMap_cons, List.flatMap_nil, List.append_nil]
          refine VL.append _ _ _ _ hl ?_
          rw [tm_eq]; exact wb
        have hga : gapp 40 ls [sv3 b qb] = some (ls ++ [sv3 b qb]) := by
          unfold gapp
          rw [if_pos]
          simp only [List.length_cons, List.length_nil] at hg1 ⊢
          rw [hlen]; exact hg1
        obtain ⟨res, hgood, hdl⟩ := spine_ih a (l ++ [b]) r (by simp at hN; omega) h (by simp; omega) qa (ls ++ [sv3 b qb]) wa hl2 (by simp [hlen])
        refine ⟨res, hgood, fun j => hopen j (Dl.toHead (na := (⟨0, fun G => G = G0⟩ : Nb)) prim_ok mixed 3000 _ _ _ _ _ (fun i => spD i j k n a b qa qb _ _ _ ls (ls ++ [sv3 b qb]) o) ?_ fun i => hdl i)⟩
        exact ObsOk.cons (obBit hk) (ObsOk.cons (obBit rfl) (ObsOk.cons (obBit (by rw [hlen]; exact h3)) (ObsOk.cons (apC22 (m := [sv3 b qb]) hga (by simp)) (ObsOk.cons (obData trivial) (ObsOk.cons (obData (flat_data codec3.data _)) ObsOk.nil)))))
    · have hr := g135_exit h (fun e => h2 e.2)
      subst hr
      refine ⟨.tup [.agg [ai x.k, ai x.n, .sl (vs.map .val) x.sub.length .no], .sl (flat tmCells l.reverse) l.length .no], good_exit hB v1, fun j => hopen j (Dl.step ?_)⟩
      have hx1 := spBX (G0 := G0) (p0 := p0) (q0 := q0) j v3 hl hlen h8
      refine krun_ok (Q := _) prim_ok mixed 3000 (.run (inn (inn (lft (rgt (rgt (rgt (bod Tryz.f106)))))))) [] _ _ _ _ _ _ _ _ (spB1 j ls x _ vs o) (ObsOk.cons (obBit hk) (ObsOk.cons (obBit (by simp; omega)) ObsOk.nil)) ?_
      simp only [KQ, seqQ, frameQ, blockQ, if_true]
      exact hx1
  · have hr := g135_exit h (fun e => hk e.1)
    subst hr
    · refine ⟨.tup [.agg [ai x.k, ai x.n, .sl (vs.map .val) x.sub.length .no], .sl (flat tmCells l.reverse) l.length .no], good_exit hB v1, fun j => hopen j (Dl.step ?_)⟩
      have hx1 := spAX (G0 := G0) (p0 := p0) (q0 := q0) j v3 hl hlen h8
      refine krun_ok (Q := _) prim_ok mixed 3000 (.run (inn (inn (lft (rgt (rgt (rgt (bod Tryz.f106)))))))) [] _ _ _ _ _ _ _ _ (spA1 j ls x _ vs o) (ObsOk.cons (obBit (by simpa using hk)) ObsOk.nil) ?_
      simp only [KQ, seqQ, frameQ, blockQ, if_true]
      exact hx1

theorem c106g {p0 : Tm} {r : Tm × List Tm} (h : g106 p0 = some r) : CT Tryz.prog 106 [] [tmA p0] (.tup [tmA r.1, .sl (flat tmCells r.2) (List.length r.2) .no]) [] 0 := by
  refine ⟨?_, ⟨⟨trivial, trivial, ⟨trivial, dT _⟩, trivial⟩, trivial⟩, (fun _ h => nomatch h), ⟨⟨trivial, trivial, dT _, trivial⟩, dT _, trivial⟩, (fun _ h => nomatch h)⟩
  intro G0 W cargs hB hR hv
  cases hc : cargs.toList with
  | nil => rw [hc] at hv; simp only [VL] at hv
  | cons u us =>
    rw [hc] at hv
    simp only [VL] at hv
    obtain ⟨hu, hus⟩ := hv
    have hus' : us = [] := by
      have := VL.length _ _ hus
      exact List.length_eq_zero_iff.1 this
    subst hus'
    simp only [tmA, V] at hu
    obtain ⟨ws, rfl, hws⟩ := hu
    obtain ⟨q0, rfl⟩ := sv_of hws
    have hBK : Base (⟨0, fun G => G = G0⟩ : Nb) G0 := ⟨hB.ρ, hB.τ, hB.LF, rfl⟩
    have h0 := VL.back hB hR hws
    obtain ⟨res, hgood, hdl⟩ := spine_loop hBK h0 _ p0 [] r (Nat.le_refl _) h (by simp) q0 [] h0 (by simp [flat, vals, VL]) rfl
    have hv2 : VL G0 W [.agg [.val (.int .i64 p0.k), .val (.int .i64 p0.n), .val (.slice q0.1 q0.2.1 q0.2.2)]] cargs.toList := by
      rw [hc]
      simp only [VL, V, and_true]
      exact ⟨sv p0 q0, rfl, VL.lits (sv p0 q0)⟩
    have hb := body_at (na := (⟨0, fun G => G = G0⟩ : Nb)) (res := res) (H1 := []) (nst := 0) rfl Tryz.func106 (by kernel_rfl) (khead_ok (na := (⟨0, fun G => G = G0⟩ : Nb)) (m := .run (bod Tryz.f106)) (fs := []) prim_ok mixed (fun i => spE i p0.k p0.n q0) (ObsOk.cons (obData trivial) (ObsOk.cons (obData trivial) ObsOk.nil)) fun i => hdl i) hBK hR hv2
    refine hb.mono ?_
    rintro e W' ⟨u, G', s', rfl, hE, hR', hu, h1, h2⟩
    exact ⟨u, G', s', rfl, hE, hR', hgood W G' W' hE hR'.below u hu, h1, h2⟩

def e106 (_qq : Nat) (p0 : Tm) : Option (Tm × List Tm) := g106 p0
theorem c106 {qq : Nat} {p0 : Tm} {r : Tm × List Tm} (h : e106 qq p0 = some r) : CT Tryz.prog 106 [] [tmA p0] (.tup [tmA r.1, .sl (flat tmCells r.2) (List.length r.2) .no]) [] 0 := c106g h


end Go.Proofs.YtlbmblbeccafcaaGreat

namespace Go.Proofs.YtlbmblbeccafcaaGreat
open Go Go.Ab

/- scholium/sign.applied -/
def e199L58991 : Nat → Int → Int → (Tm × List Tm) → Int →  Option (Bool)
  | 0, _, _, _, _ => none
  | qq + 1, p2, p4, r1, v37 =>
    if decide (v37 < p2) = true then
      (gidx r1.2 v37) >>= fun x7 =>
      if (x7.k != 1) = true then
        none
      else
        if (x7.n != (w64 ((w64 (p4 - 1)) - v37))) = true then
          none
        else
          e199L58991 qq p2 p4 r1 (w64 (v37 + 1))
    else
      some true
def e199 (qq : Nat) (p0 : Tm) (p1 : Int) (p2 : Int) (p3 : Int) (p4 : Int) : Option (Bool) :=
  (e106 qq p0) >>= fun r1 =>
  if (r1.1.k != 6) = true then
    none
  else
    if (r1.1.n != p1) = true then
      none
    else
      if ((List.length r1.2 : Int) != (w64 (p2 + p3))) = true then
        none
      else
        e199L58991 qq p2 p4 r1 0
def g199L58991E0 (j : Nat → Value) (p2 : Int) (p4 : Int) (r1 : Tm × List Tm) (v37 : Int) : List AV := sp j 59 0 [(4, ai p4), (12, .sl (flat tmCells r1.2) (List.length r1.2) .no), (36, ai p2), (37, ai v37)]
def g199L58991S0 (p2 : Int) (p4 : Int) (r1 : Tm × List Tm) (v37 : Int) : LSt := ⟨[], 0, [], 0, []⟩
theorem q199 : Tryz.prog.funcs[199]? = some Tryz.f199 ∧ Tryz.f199.body.isNone = false := ⟨Tryz.func199, by kernel_rfl⟩
theorem k199 {p0 : Tm} {p1 : Int} {p2 : Int} {p3 : Int} {p4 : Int} {r : Bool} (h : CTri Tryz.prog 199 [] [tmA p0, ai p1, ai p2, ai p3, ai p4] (ab r) [] 0) : CT Tryz.prog 199 [] [tmA p0, ai p1, ai p2, ai p3, ai p4] (ab r) [] 0 := ⟨h, ⟨⟨trivial, trivial, ⟨trivial, dT _⟩, trivial⟩, trivial, trivial, trivial, trivial, trivial⟩, forall_nil, trivial, forall_nil⟩
theorem l199L58991 : ∀ qq : Nat, (∀ (p2 : Int) (p4 : Int) (r1 : Tm × List Tm) (v37 : Int) (r : Bool), e199L58991 qq p2 p4 r1 v37 = some r → (∀ j, Dl Tryz.prog 0 (inn (inn (rgt (lft (rgt (rgt (rgt (bod Tryz.f199)))))))) (g199L58991E0 j p2 p4 r1 v37) (g199L58991S0 p2 p4 r1 v37) (frameQ Tryz.prog 0 (FinQ Tryz.prog 0 Tryz.f199 (ab r) [] 0) [.blk 0, .seq (rgt (rgt (rgt (rgt (bod Tryz.f199)))))]))) := by
  intro qq
  induction qq with
  | zero =>
    exact fun _ _ _ _ _ h => nn h
  | succ qq ih =>
    intro p2 p4 r1 v37 r h
    rw [e199L58991] at h
    rcases spl h with ⟨h6, h⟩ | ⟨h6, h⟩
    · obtain ⟨x7, h8, h⟩ := obind h
      have k := oA 0 (ix22 (o := .no) h8) <| oB 0 h6 o0
      obtain ⟨h9, h⟩ := splF h
      have k := oA 0 (ix22 (o := .no) h8) <| oB 1 h9 k
      obtain ⟨h10, h⟩ := splF h
      exact fun j => lH 1 [] [] [] [4, 12, 36, 37] (oD (dT r1.2) <| oB 3 h10 k) (ih _ _ _ _ _ h) (fun j => by kernel_rfl)
    · obtain rfl := sj h
      exact fun j => lF 0 [] (oB 0 h6 o0) (by kernel_rfl)
theorem c199 {qq : Nat} {p0 : Tm} {p1 : Int} {p2 : Int} {p3 : Int} {p4 : Int} {r : Bool} (h : e199 qq p0 p1 p2 p3 p4 = some r) : CT Tryz.prog 199 [] [tmA p0, ai p1, ai p2, ai p3, ai p4] (ab r) [] 0 := by
  unfold e199 at h
  obtain ⟨r1, h2, h⟩ := obind h
  have k := oC 1 [] (c106 h2) o0
  obtain ⟨h3, h⟩ := splF h
  have k := oB 4 h3 k
  obtain ⟨h4, h⟩ := splF h
  have k := oB 1 h4 k
  obtain ⟨h5, h⟩ := splF h
  exact k199 (tH q199 0 [] [] [] [4, 12, 36, 37] (oD (dT r1.2) <| oB 2 h5 k) (l199L58991 _ _ _ _ _ _ h) (fun j => by kernel_rfl))

end Go.Proofs.YtlbmblbeccafcaaGreat

namespace Go.Proofs.YtlbmblbeccafcaaGreat
open Go Go.Ab

/- scholium/sign.con -/
def e143 (qq : Nat) (p0 : List Ent) (p1 : Int) : Option (Bool) :=
  (gidx p0 p1) >>= fun x1 =>
  (e103 qq x1.type) >>= fun r3 =>
  (e198 qq p0 p1) >>= fun r5 =>
  if r5 = true then
    if (r3.2.2 == 0) = true then
      if decide ((List.length r3.1 : Int) ≥ x1.pars) = true then
        (gidx p0 x1.fam) >>= fun x10 =>
        (e199 qq r3.2.1 x1.fam x1.pars x10.inds (List.length r3.1 : Int)) >>= fun r12 =>
        some r12
      else
        none
    else
      none
  else
    none
theorem q143 : Tryz.prog.funcs[143]? = some Tryz.f143 ∧ Tryz.f143.body.isNone = false := ⟨Tryz.func143, by kernel_rfl⟩
theorem k143 {p0 : List Ent} {p1 : Int} {r : Bool} (h : CTri Tryz.prog 143 [] [.sl (flat entL p0) (List.length p0) .no, ai p1] (ab r) [] 0) : CT Tryz.prog 143 [] [.sl (flat entL p0) (List.length p0) .no, ai p1] (ab r) [] 0 := ⟨h, ⟨⟨trivial, dE _⟩, trivial, trivial⟩, forall_nil, trivial, forall_nil⟩
theorem c143 {qq : Nat} {p0 : List Ent} {p1 : Int} {r : Bool} (h : e143 qq p0 p1 = some r) : CT Tryz.prog 143 [] [.sl (flat entL p0) (List.length p0) .no, ai p1] (ab r) [] 0 := by
  unfold e143 at h
  obtain ⟨x1, h2, h⟩ := obind h
  obtain ⟨r3, h4, h⟩ := obind h
  obtain ⟨r5, h6, h⟩ := obind h
  have k := oC 1 [] (c103 h4) <| oA 0 (ix25 (o := .no) h2) o0
  obtain ⟨h7, h⟩ := splT h
  have k := oK 4 [] h7 (c198 h6) k
  obtain ⟨h8, h⟩ := splT h
  have k := oA 1 (ix25 (o := .no) h2) <| oB 0 h8 k
  obtain ⟨h9, h⟩ := splT h
  obtain ⟨x10, h11, h⟩ := obind h
  obtain ⟨r12, h13, h⟩ := obind h
  obtain rfl := sj h
  exact k143 (tF q143 0 [] (oC 2 [] (c199 h13) <| oA 1 (ix25 (o := .no) h11) <| oA 1 (ix25 (o := .no) h2) <| oA 1 (ix25 (o := .no) h2) <| oA 1 (ix25 (o := .no) h2) <| oB 1 h9 k) (by kernel_rfl))

end Go.Proofs.YtlbmblbeccafcaaGreat

namespace Go.Proofs.YtlbmblbeccafcaaGreat
open Go Go.Ab

/- scholium/sign.proj -/
def e144 (qq : Nat) (p0 : List Ent) (p1 : Int) : Option (Bool) :=
  (e198 qq p0 p1) >>= fun r1 =>
  if r1 = true then
    (gidx p0 p1) >>= fun x4 =>
    (e97 qq x4.type (w64 (x4.pars + 1))) >>= fun r6 =>
    if (r6.2.2 == 0) = true then
      (gidx r6.1 x4.pars) >>= fun x9 =>
      (e199 qq x9 x4.fam x4.pars 0 x4.pars) >>= fun r11 =>
      some r11
    else
      none
  else
    none
theorem q144 : Tryz.prog.funcs[144]? = some Tryz.f144 ∧ Tryz.f144.body.isNone = false := ⟨Tryz.func144, by kernel_rfl⟩
theorem k144 {p0 : List Ent} {p1 : Int} {r : Bool} (h : CTri Tryz.prog 144 [] [.sl (flat entL p0) (List.length p0) .no, ai p1] (ab r) [] 0) : CT Tryz.prog 144 [] [.sl (flat entL p0) (List.length p0) .no, ai p1] (ab r) [] 0 := ⟨h, ⟨⟨trivial, dE _⟩, trivial, trivial⟩, forall_nil, trivial, forall_nil⟩
theorem c144 {qq : Nat} {p0 : List Ent} {p1 : Int} {r : Bool} (h : e144 qq p0 p1 = some r) : CT Tryz.prog 144 [] [.sl (flat entL p0) (List.length p0) .no, ai p1] (ab r) [] 0 := by
  unfold e144 at h
  obtain ⟨r1, h2, h⟩ := obind h
  obtain ⟨h3, h⟩ := splT h
  obtain ⟨x4, h5, h⟩ := obind h
  obtain ⟨r6, h7, h⟩ := obind h
  have k := oC 2 [] (c97 h7) <| oA 1 (ix25 (o := .no) h5) <| oA 1 (ix25 (o := .no) h5) <| oK 0 [] h3 (c198 h2) o0
  obtain ⟨h8, h⟩ := splT h
  obtain ⟨x9, h10, h⟩ := obind h
  obtain ⟨r11, h12, h⟩ := obind h
  obtain rfl := sj h
  exact k144 (tF q144 0 [] (oC 1 [] (c199 h12) <| oA 1 (ix25 (o := .no) h5) <| oA 1 (ix25 (o := .no) h5) <| oA 1 (ix25 (o := .no) h5) <| oA 1 (ix22 (o := .no) h10) <| oA 0 (ix25 (o := .no) h5) <| oB 4 h8 k) (by kernel_rfl))

end Go.Proofs.YtlbmblbeccafcaaGreat

namespace Go.Proofs.YtlbmblbeccafcaaGreat
open Go Go.Ab

/- scholium/sign.def -/
def e145 (qq : Nat) (p0 : List Ent) (p1 : Int) : Option (Bool) :=
  (gidx p0 p1) >>= fun x1 =>
  (e141 qq x1.body p1) >>= fun r3 =>
  if r3 = true then
    if (x1.fam == 0) = true then
      if (x1.place == 0) = true then
        if (x1.pars == 0) = true then
          if (x1.inds == 0) = true then
            if (x1.level == 0) = true then
              some ((w64 ((List.length x1.cons : Int) + (List.length x1.fields : Int))) == 0)
            else
              none
          else
            none
        else
          none
      else
        none
    else
      none
  else
    none
theorem q145 : Tryz.prog.funcs[145]? = some Tryz.f145 ∧ Tryz.f145.body.isNone = false := ⟨Tryz.func145, by kernel_rfl⟩
theorem k145 {p0 : List Ent} {p1 : Int} {r : Bool} (h : CTri Tryz.prog 145 [] [.sl (flat entL p0) (List.length p0) .no, ai p1] (ab r) [] 0) : CT Tryz.prog 145 [] [.sl (flat entL p0) (List.length p0) .no, ai p1] (ab r) [] 0 := ⟨h, ⟨⟨trivial, dE _⟩, trivial, trivial⟩, forall_nil, trivial, forall_nil⟩
theorem c145 {qq : Nat} {p0 : List Ent} {p1 : Int} {r : Bool} (h : e145 qq p0 p1 = some r) : CT Tryz.prog 145 [] [.sl (flat entL p0) (List.length p0) .no, ai p1] (ab r) [] 0 := by
  unfold e145 at h
  obtain ⟨x1, h2, h⟩ := obind h
  obtain ⟨r3, h4, h⟩ := obind h
  have k := oA 0 (ix25 (o := .no) h2) o0
  obtain ⟨h5, h⟩ := splT h
  have k := oK 3 [] h5 (c141 h4) k
  obtain ⟨h6, h⟩ := splT h
  have k := oB 1 h6 k
  obtain ⟨h7, h⟩ := splT h
  have k := oB 1 h7 k
  obtain ⟨h8, h⟩ := splT h
  have k := oB 1 h8 k
  obtain ⟨h9, h⟩ := splT h
  have k := oB 1 h9 k
  obtain ⟨h10, h⟩ := splT h
  obtain rfl := sj h
  exact k145 (tF q145 6 [] (oB 1 h10 k) (by kernel_rfl))

end Go.Proofs.YtlbmblbeccafcaaGreat

namespace Go.Proofs.YtlbmblbeccafcaaGreat
open Go Go.Ab

/- scholium/sign.entry -/
def e95 (qq : Nat) (p0 : List Ent) (p1 : Int) : Option (Bool) :=
  (gidx p0 p1) >>= fun x1 =>
  (e140 qq x1.name) >>= fun r3 =>
  if r3 = true then
    (e141 qq x1.type p1) >>= fun r6 =>
    if r6 = true then
      if (x1.kind == 1) = true then
        (e142 qq p0 p1) >>= fun r10 =>
        some r10
      else
        if (x1.kind == 2) = true then
          (e143 qq p0 p1) >>= fun r13 =>
          some r13
        else
          if (x1.kind == 4) = true then
            (e144 qq p0 p1) >>= fun r16 =>
            some r16
          else
            if (x1.kind == 3) = true then
              (e145 qq p0 p1) >>= fun r19 =>
              some r19
            else
              none
    else
      none
  else
    none
theorem q95 : Tryz.prog.funcs[95]? = some Tryz.f95 ∧ Tryz.f95.body.isNone = false := ⟨Tryz.func95, by kernel_rfl⟩
theorem k95 {p0 : List Ent} {p1 : Int} {r : Bool} (h : CTri Tryz.prog 95 [] [.sl (flat entL p0) (List.length p0) .no, ai p1] (ab r) [] 0) : CT Tryz.prog 95 [] [.sl (flat entL p0) (List.length p0) .no, ai p1] (ab r) [] 0 := ⟨h, ⟨⟨trivial, dE _⟩, trivial, trivial⟩, forall_nil, trivial, forall_nil⟩
theorem c95 {qq : Nat} {p0 : List Ent} {p1 : Int} {r : Bool} (h : e95 qq p0 p1 = some r) : CT Tryz.prog 95 [] [.sl (flat entL p0) (List.length p0) .no, ai p1] (ab r) [] 0 := by
  unfold e95 at h
  obtain ⟨x1, h2, h⟩ := obind h
  obtain ⟨r3, h4, h⟩ := obind h
  have k := oA 0 (ix25 (o := .no) h2) o0
  obtain ⟨h5, h⟩ := splT h
  obtain ⟨r6, h7, h⟩ := obind h
  have k := oA 1 (ix25 (o := .no) h2) <| oK 1 [] h5 (c140 h4) k
  obtain ⟨h8, h⟩ := splT h
  have k := oA 1 (ix25 (o := .no) h2) <| oK 1 [] h8 (c141 h7) k
  rcases spl h with ⟨h9, h⟩ | ⟨h9, h⟩
  · obtain ⟨r10, h11, h⟩ := obind h
    obtain rfl := sj h
    exact k95 (tF q95 0 [] (oC 0 [] (c142 h11) <| oB 1 h9 k) (by kernel_rfl))
  · have k := oB 1 h9 k
    rcases spl h with ⟨h12, h⟩ | ⟨h12, h⟩
    · obtain ⟨r13, h14, h⟩ := obind h
      obtain rfl := sj h
      exact k95 (tF q95 0 [] (oC 0 [] (c143 h14) <| oB 0 h12 k) (by kernel_rfl))
    · have k := oB 0 h12 k
      rcases spl h with ⟨h15, h⟩ | ⟨h15, h⟩
      · obtain ⟨r16, h17, h⟩ := obind h
        obtain rfl := sj h
        exact k95 (tF q95 0 [] (oC 0 [] (c144 h17) <| oB 0 h15 k) (by kernel_rfl))
      · have k := oB 0 h15 k
        obtain ⟨h18, h⟩ := splT h
        obtain ⟨r19, h20, h⟩ := obind h
        obtain rfl := sj h
        exact k95 (tF q95 0 [] (oC 0 [] (c145 h20) <| oB 0 h18 k) (by kernel_rfl))

end Go.Proofs.YtlbmblbeccafcaaGreat

namespace Go.Proofs.YtlbmblbeccafcaaGreat
open Go Go.Ab

/- scholium/sign.Formed -/
def e58L39192 : Nat → (List Ent) → Int →  Option (Bool)
  | 0, _, _ => none
  | qq + 1, p0, v15 =>
    if decide (v15 < (List.length p0 : Int)) = true then
      (e95 qq p0 v15) >>= fun r8 =>
      if r8 = true then
        e58L39192 qq p0 (w64 (v15 + 1))
      else
        none
    else
      some true
def e58 (qq : Nat) (p0 : List Ent) : Option (Bool) :=
  if decide ((List.length p0 : Int) > 256) = true then
    none
  else
    (e94 qq p0) >>= fun r2 =>
    (e93 qq r2) >>= fun r4 =>
    if r4 = true then
      e58L39192 qq p0 0
    else
      none
def g58L39192E0 (j : Nat → Value) (p0 : List Ent) (v15 : Int) : List AV := sp j 23 0 [(0, .sl (flat entL p0) (List.length p0) .no), (14, ai (List.length p0 : Int)), (15, ai v15)]
def g58L39192S0 (p0 : List Ent) (v15 : Int) : LSt := ⟨[], 0, [], 0, []⟩
theorem q58 : Tryz.prog.funcs[58]? = some Tryz.f58 ∧ Tryz.f58.body.isNone = false := ⟨Tryz.func58, by kernel_rfl⟩
theorem k58 {p0 : List Ent} {r : Bool} (h : CTri Tryz.prog 58 [] [.sl (flat entL p0) (List.length p0) .no] (ab r) [] 0) : CT Tryz.prog 58 [] [.sl (flat entL p0) (List.length p0) .no] (ab r) [] 0 := ⟨h, ⟨⟨trivial, dE _⟩, trivial⟩, forall_nil, trivial, forall_nil⟩
theorem l58L39192 : ∀ qq : Nat, (∀ (p0 : List Ent) (v15 : Int) (r : Bool), e58L39192 qq p0 v15 = some r → (∀ j, Dl Tryz.prog 0 (inn (inn (rgt (lft (rgt (rgt (bod Tryz.f58))))))) (g58L39192E0 j p0 v15) (g58L39192S0 p0 v15) (frameQ Tryz.prog 0 (FinQ Tryz.prog 0 Tryz.f58 (ab r) [] 0) [.blk 0, .seq (rgt (rgt (rgt (bod Tryz.f58))))]))) := by
  intro qq
  induction qq with
  | zero =>
    exact fun _ _ _ h => nn h
  | succ qq ih =>
    intro p0 v15 r h
    rw [e58L39192] at h
    rcases spl h with ⟨h7, h⟩ | ⟨h7, h⟩
    · obtain ⟨r8, h9, h⟩ := obind h
      have k := oB 0 h7 o0
      obtain ⟨h10, h⟩ := splT h
      exact fun j => lH 2 [] [] [] [0, 14, 15] (oD (dE p0) <| oK 0 [] h10 (c95 h9) k) (ih _ _ _ h) (fun j => by kernel_rfl)
    · obtain rfl := sj h
      exact fun j => lF 0 [] (oB 0 h7 o0) (by kernel_rfl)
theorem c58 {qq : Nat} {p0 : List Ent} {r : Bool} (h : e58 qq p0 = some r) : CT Tryz.prog 58 [] [.sl (flat entL p0) (List.length p0) .no] (ab r) [] 0 := by
  unfold e58 at h
  obtain ⟨h1, h⟩ := splF h
  obtain ⟨r2, h3, h⟩ := obind h
  obtain ⟨r4, h5, h⟩ := obind h
  have k := oC 0 [] (c94 h3) <| oB 1 h1 o0
  obtain ⟨h6, h⟩ := splT h
  exact k58 (tH q58 2 [] [] [] [0, 14, 15] (oD (dE p0) <| oK 0 [] h6 (c93 h5) k) (l58L39192 _ _ _ _ h) (fun j => by kernel_rfl))

end Go.Proofs.YtlbmblbeccafcaaGreat

namespace Go.Proofs.YtlbmblbeccafcaaGreat
open Go Go.Ab

/- slices.Clone(()scholium/api.Term,scholium/api.Term) -/
def e162v0 (qq : Nat) (p0 : List Tm) : Option (List Tm) :=
  some []
theorem q162v0 : Tryz.prog.funcs[162]? = some Tryz.f162 ∧ Tryz.f162.body.isNone = false := ⟨Tryz.func162, by kernel_rfl⟩
theorem k162v0 {p0 : List Tm} {r : List Tm} (h : CTri Tryz.prog 162 [] [.sl (flat tmCells p0) (List.length p0) .nl] (.sl (flat tmCells r) (List.length r) .no) [] 0) : CT Tryz.prog 162 [] [.sl (flat tmCells p0) (List.length p0) .nl] (.sl (flat tmCells r) (List.length r) .no) [] 0 := ⟨h, ⟨⟨trivial, dT _⟩, trivial⟩, forall_nil, dT _, forall_nil⟩
theorem c162v0 {qq : Nat} {p0 : List Tm} {r : List Tm} (h : e162v0 qq p0 = some r) : CT Tryz.prog 162 [] [.sl (flat tmCells p0) (List.length p0) .nl] (.sl (flat tmCells r) (List.length r) .no) [] 0 := by
  unfold e162v0 at h
  obtain rfl := sj h
  exact k162v0 (tF q162v0 1 [] (oD (dT ([] : List Tm)) o0) (by kernel_rfl))

end Go.Proofs.YtlbmblbeccafcaaGreat

namespace Go.Proofs.YtlbmblbeccafcaaGreat
open Go Go.Ab

/- slices.Clone(()scholium/api.Term,scholium/api.Term) -/
def e162v1 (qq : Nat) (p0 : List Tm) : Option (List Tm) :=
  (gapp 40 ([] : List Tm) p0) >>= fun l1 =>
  some l1
theorem q162v1 : Tryz.prog.funcs[162]? = some Tryz.f162 ∧ Tryz.f162.body.isNone = false := ⟨Tryz.func162, by kernel_rfl⟩
theorem k162v1 {p0 : List Tm} {r : List Tm} (h : CTri Tryz.prog 162 [] [.sl (flat tmCells p0) (List.length p0) .nn] (.sl (flat tmCells r) (List.length r) .no) [] 0) : CT Tryz.prog 162 [] [.sl (flat tmCells p0) (List.length p0) .nn] (.sl (flat tmCells r) (List.length r) .no) [] 0 := ⟨h, ⟨⟨trivial, dT _⟩, trivial⟩, forall_nil, dT _, forall_nil⟩
theorem c162v1 {qq : Nat} {p0 : List Tm} {r : List Tm} (h : e162v1 qq p0 = some r) : CT Tryz.prog 162 [] [.sl (flat tmCells p0) (List.length p0) .nn] (.sl (flat tmCells r) (List.length r) .no) [] 0 := by
  unfold e162v1 at h
  obtain ⟨l1, h2, h⟩ := obind h
  by_cases h3 : List.length p0 = 0
  · obtain rfl := sj h
    exact k162v1 (tF q162v1 0 [] (oD (dT l1) <| oP 2 (apN22 h2 h3) o0) (by kernel_rfl))
  · obtain rfl := sj h
    exact k162v1 (tF q162v1 0 [] (oD (dT l1) <| oP 2 (apS22 h2 h3) o0) (by kernel_rfl))

end Go.Proofs.YtlbmblbeccafcaaGreat

namespace Go.Proofs.YtlbmblbeccafcaaGreat
open Go Go.Ab

/- slices.Clone(()scholium/api.Term,scholium/api.Term) -/
def e162vr1 (qq : Nat) (p0 : List Tm) : Option ((List Tm) ⊕ (List Tm)) :=
  if decide (List.length p0 = 0) = true then
    some (Sum.inl [])
  else
    (gapp 40 ([] : List Tm) p0) >>= fun l2 =>
    some (Sum.inr l2)
theorem q162vr1 : Tryz.prog.funcs[162]? = some Tryz.f162 ∧ Tryz.f162.body.isNone = false := ⟨Tryz.func162, by kernel_rfl⟩
theorem k162vr1s0 {p0 : List Tm} {r : List Tm} (h : CTri Tryz.prog 162 [] [.sl (flat tmCells p0) (List.length p0) .nn] (.sl (flat tmCells r) (List.length r) .no) [] 0) : CT Tryz.prog 162 [] [.sl (flat tmCells p0) (List.length p0) .nn] (.sl (flat tmCells r) (List.length r) .no) [] 0 := ⟨h, ⟨⟨trivial, dT _⟩, trivial⟩, forall_nil, dT _, forall_nil⟩
theorem k162vr1s1 {p0 : List Tm} {r : List Tm} (h : CTri Tryz.prog 162 [] [.sl (flat tmCells p0) (List.length p0) .nn] (.ms 0 0 (List.length r) (List.length r) 3) [.row (flat tmCells r)] 0) : CT Tryz.prog 162 [] [.sl (flat tmCells p0) (List.length p0) .nn] (.ms 0 0 (List.length r) (List.length r) 3) [.row (flat tmCells r)] 0 := ⟨h, ⟨⟨trivial, dT _⟩, trivial⟩, forall_nil, (show 0 < 1 by decide), (forall_cons (dT _) forall_nil)⟩
theorem c162vr1 {qq : Nat} {p0 : List Tm} {r : (List Tm) ⊕ (List Tm)} (h : e162vr1 qq p0 = some r) : (match (generalizing := false) r with | Sum.inl x => CT Tryz.prog 162 [] [.sl (flat tmCells p0) (List.length p0) .nn] (.sl (flat tmCells x) (List.length x) .no) [] 0 | Sum.inr x => CT Tryz.prog 162 [] [.sl (flat tmCells p0) (List.length p0) .nn] (.ms 0 0 (List.length x) (List.length x) 3) [.row (flat tmCells x)] 0) := by
  unfold e162vr1 at h
  rcases spl h with ⟨h1, h⟩ | ⟨h1, h⟩
  · obtain rfl := sj h
    exact k162vr1s0 (tF q162vr1 0 [] (oD (dT ([] : List Tm)) <| oQ 2 (apQ22 (of_decide_eq_true h1)) o0) (by kernel_rfl))
  · obtain ⟨l2, h3, h⟩ := obind h
    obtain rfl := sj h
    exact k162vr1s1 (tF q162vr1 0 [0] (oD (dT l2) <| oM 2 (apW22 h3 (of_decide_eq_false h1)) o0) (by kernel_rfl))

end Go.Proofs.YtlbmblbeccafcaaGreat

namespace Go.Proofs.YtlbmblbeccafcaaGreat
open Go Go.Ab

/- a clone, whatever it is of -/
def e162 (_qq : Nat) (p0 : List Tm) : Option (List Tm) := gapp 40 [] p0
theorem c162 {qq : Nat} {p0 : List Tm} {r : List Tm} (h : e162 qq p0 = some r) : CT Tryz.prog 162 [] [.sl (flat tmCells p0) (List.length p0) .no] (.sl (flat tmCells r) (List.length r) .no) [] 0 := by
  have hr : r = p0 := by have := (gapp_spec h).2; simpa using this
  have h1 : e162v1 qq p0 = some r := by unfold e162v1; rw [show gapp 40 ([] : List Tm) p0 = some r from h]; rfl
  have k1 := c162v1 h1
  refine ⟨CTri.nilcase (fun hn => ?_) k1.tri, ⟨⟨trivial, dT _⟩, trivial⟩, (fun _ h => nomatch h), dT _, (fun _ h => nomatch h)⟩
  have hp : p0 = [] := flat_nil codecT (by decide) hn
  subst hr
  subst hp
  exact (c162v0 (qq := qq) rfl).tri
/- the same, as a row -/
def e162vr (qq : Nat) (p0 : List Tm) : Option (Unit ⊕ List Tm) := if decide (List.length p0 = 0) = true then some (.inl ()) else (gapp 40 [] p0) >>= fun r => some (.inr r)
theorem c162vr {qq : Nat} {p0 : List Tm} {r : Unit ⊕ List Tm} (h : e162vr qq p0 = some r) : (match (generalizing := false) r with | .inl _ => CT Tryz.prog 162 [] [.sl (flat tmCells p0) (List.length p0) .no] (.sl (flat tmCells ([] : List Tm)) (List.length ([] : List Tm)) .no) [] 0 | .inr x => CT Tryz.prog 162 [] [.sl (flat tmCells p0) (List.length p0) .no] (.ms 0 0 (List.length x) (List.length x) 3) [.row (flat tmCells x)] 0) := by
  unfold e162vr at h
  rcases spl h with ⟨h1, h⟩ | ⟨h1, h⟩
  · obtain rfl := sj h
    have hp : p0 = [] := List.length_eq_zero_iff.1 (of_decide_eq_true h1)
    subst hp
    exact CT.weakS (c162 (qq := qq) (p0 := []) (r := []) rfl)
  · obtain ⟨x, h2, h⟩ := obind h
    obtain rfl := sj h
    have k1 := c162vr1 (qq := qq) (p0 := p0) (r := .inr x) (by unfold e162vr1; rw [if_neg (by rw [h1]; decide), h2]; rfl)
    refine ⟨CTri.nilcase (fun hn => ?_) k1.tri, ⟨⟨trivial, dT _⟩, trivial⟩, (fun _ h => nomatch h), (show 0 < 1 by decide), forall_cons (dT _) forall_nil⟩
    have hp : p0 = [] := flat_nil codecT (by decide) hn
    subst hp
    cases h1


end Go.Proofs.YtlbmblbeccafcaaGreat

namespace Go.Proofs.YtlbmblbeccafcaaGreat
open Go Go.Ab

/- scholium/sign.rec -/
def e163 (qq : Nat) (p0 : List Ent) (p1 : Tm) (p2 : Int) (p3 : Int) : Option (Rec') :=
  (e103 qq p1) >>= fun r1 =>
  (e106 qq r1.2.1) >>= fun r3 =>
  if (r1.2.2 != 0) = true then
    none
  else
    if (r3.1.k != 6) = true then
      some (Rec'.mk false [] [])
    else
      if (r3.1.n != p2) = true then
        some (Rec'.mk false [] [])
      else
        (gidx p0 p2) >>= fun x8 =>
        (e199 qq r1.2.1 p2 x8.pars x8.inds (w64 (p3 + (List.length r1.1 : Int)))) >>= fun r10 =>
        if r10 = true then
          (gsl r3.2 x8.pars (List.length r3.2 : Int)) >>= fun x13 =>
          (e162 qq x13) >>= fun r15 =>
          some (Rec'.mk true r1.1 r15)
        else
          none
theorem q163 : Tryz.prog.funcs[163]? = some Tryz.f163 ∧ Tryz.f163.body.isNone = false := ⟨Tryz.func163, by kernel_rfl⟩
theorem k163 {p0 : List Ent} {p1 : Tm} {p2 : Int} {p3 : Int} {r : Rec'} (h : CTri Tryz.prog 163 [] [.sl (flat entL p0) (List.length p0) .no, tmA p1, ai p2, ai p3] (recA r) [] 0) : CT Tryz.prog 163 [] [.sl (flat entL p0) (List.length p0) .no, tmA p1, ai p2, ai p3] (recA r) [] 0 := ⟨h, ⟨⟨trivial, dE _⟩, ⟨trivial, trivial, ⟨trivial, dT _⟩, trivial⟩, trivial, trivial, trivial⟩, forall_nil, ⟨trivial, dT _, dT _, trivial⟩, forall_nil⟩
theorem c163 {qq : Nat} {p0 : List Ent} {p1 : Tm} {p2 : Int} {p3 : Int} {r : Rec'} (h : e163 qq p0 p1 p2 p3 = some r) : CT Tryz.prog 163 [] [.sl (flat entL p0) (List.length p0) .no, tmA p1, ai p2, ai p3] (recA r) [] 0 := by
  unfold e163 at h
  obtain ⟨r1, h2, h⟩ := obind h
  obtain ⟨r3, h4, h⟩ := obind h
  have k := oC 5 [] (c106 h4) <| oC 1 [] (c103 h2) o0
  obtain ⟨h5, h⟩ := splF h
  have k := oB 3 h5 k
  rcases spl h with ⟨h6, h⟩ | ⟨h6, h⟩
  · obtain rfl := sj h
    exact k163 (tF q163 1 [] (oD (dT ([] : List Tm)) <| oD (dT ([] : List Tm)) <| oB 1 h6 k) (by kernel_rfl))
  · have k := oB 1 h6 k
    rcases spl h with ⟨h7, h⟩ | ⟨h7, h⟩
    · obtain rfl := sj h
      exact k163 (tF q163 1 [] (oD (dT ([] : List Tm)) <| oD (dT ([] : List Tm)) <| oB 1 h7 k) (by kernel_rfl))
    · obtain ⟨x8, h9, h⟩ := obind h
      obtain ⟨r10, h11, h⟩ := obind h
      have k := oA 1 (ix25 (o := .no) h9) <| oA 1 (ix25 (o := .no) h9) <| oB 1 h7 k
      obtain ⟨h12, h⟩ := splT h
      obtain ⟨x13, h14, h⟩ := obind h
      obtain ⟨r15, h16, h⟩ := obind h
      obtain rfl := sj h
      exact k163 (tF q163 1 [] (oD (dT r15) <| oD (dT r1.1) <| oC 0 [] (c162 h16) <| oA 1 (slFrom22 h14) <| oA 1 (ix25 (o := .no) h9) <| oK 3 [] h12 (c199 h11) k) (by kernel_rfl))

end Go.Proofs.YtlbmblbeccafcaaGreat

namespace Go.Proofs.YtlbmblbeccafcaaGreat
open Go Go.Ab

/- scholium/sign.parts -/
def e113L43048 : Nat → (List Ent) → Ent → (List Tm) → (List Tm) → Int → (List Rec') →  Option (Con')
  | 0, _, _, _, _, _, _ => none
  | qq + 1, p0, x1, x7, r11, v43, vb2_2 =>
    if decide (v43 < (List.length x7 : Int)) = true then
      (gidx x7 v43) >>= fun x14 =>
      (e163 qq p0 x14 x1.fam (w64 (x1.pars + v43))) >>= fun r16 =>
      (gapp 56 vb2_2 [r16]) >>= fun l18 =>
      e113L43048 qq p0 x1 x7 r11 (w64 (v43 + 1)) l18
    else
      some (Con'.mk x7 r11 vb2_2)
def e113 (qq : Nat) (p0 : List Ent) (p1 : Int) : Option (Con') :=
  (gidx p0 p1) >>= fun x1 =>
  (e103 qq x1.type) >>= fun r3 =>
  (e106 qq r3.2.1) >>= fun r5 =>
  (gsl r3.1 x1.pars (List.length r3.1 : Int)) >>= fun x7 =>
  (gsl r5.2 x1.pars (List.length r5.2 : Int)) >>= fun x9 =>
  (e162 qq x9) >>= fun r11 =>
  e113L43048 qq p0 x1 x7 r11 0 []
def g113L43048E0 (j : Nat → Value) (p0 : List Ent) (x1 : Ent) (x7 : List Tm) (r11 : List Tm) (v43 : Int) (vb2_2 : List Rec') : List AV := sp j 64 0 [(0, .sl (flat entL p0) (List.length p0) .no), (4, .mp 0 0), (5, .mp 1 0), (11, .mp 2 0), (41, .sl (flat tmCells x7) (List.length x7) .no), (42, ai (List.length x7 : Int)), (43, ai v43)]
def g113L43048S0 (p0 : List Ent) (x1 : Ent) (x7 : List Tm) (r11 : List Tm) (v43 : Int) (vb2_2 : List Rec') : LSt := ⟨[(0, .cells [.sl (flat tmCells ([] : List Tm)) (List.length ([] : List Tm)) .nl, .sl (flat tmCells ([] : List Tm)) (List.length ([] : List Tm)) .nl, .sl (flat recL ([] : List Rec')) (List.length ([] : List Rec')) .nl]), (1, .cells [ai x1.kind, at' x1.name, ai x1.type.k, ai x1.type.n, .sl (flat tmCells x1.type.sub) (List.length x1.type.sub) .no, ai x1.body.k, ai x1.body.n, .sl (flat tmCells x1.body.sub) (List.length x1.body.sub) .no, ai x1.fam, ai x1.place, ai x1.pars, ai x1.inds, ai x1.level, .sl (flat intC x1.cons) (List.length x1.cons) .no, .sl (flat intC x1.fields) (List.length x1.fields) .no]), (2, .cells [.sl (flat tmCells x7) (List.length x7) .no, .sl (flat tmCells r11) (List.length r11) .no, .sl (flat recL vb2_2) (List.length vb2_2) (.st 0 3)])], 3, [0], 1, []⟩
theorem q113 : Tryz.prog.funcs[113]? = some Tryz.f113 ∧ Tryz.f113.body.isNone = false := ⟨Tryz.func113, by kernel_rfl⟩
theorem k113 {p0 : List Ent} {p1 : Int} {r : Con'} (h : CTri Tryz.prog 113 [] [.sl (flat entL p0) (List.length p0) .no, ai p1] (conA r) [] 0) : CT Tryz.prog 113 [] [.sl (flat entL p0) (List.length p0) .no, ai p1] (conA r) [] 0 := ⟨h, ⟨⟨trivial, dE _⟩, trivial, trivial⟩, forall_nil, ⟨dT _, dT _, dR _, trivial⟩, forall_nil⟩
theorem l113L43048 : ∀ qq : Nat, (∀ (p0 : List Ent) (x1 : Ent) (x7 : List Tm) (r11 : List Tm) (v43 : Int) (vb2_2 : List Rec') (r : Con'), e113L43048 qq p0 x1 x7 r11 v43 vb2_2 = some r → (∀ j, Dl Tryz.prog 0 (inn (inn (rgt (lft (rgt (rgt (rgt (rgt (rgt (bod Tryz.f113)))))))))) (g113L43048E0 j p0 x1 x7 r11 v43 vb2_2) (g113L43048S0 p0 x1 x7 r11 v43 vb2_2) (frameQ Tryz.prog 0 (FinQ Tryz.prog 0 Tryz.f113 (conA r) [] 0) [.blk 0, .seq (rgt (rgt (rgt (rgt (rgt (rgt (bod Tryz.f113)))))))]))) := by
  intro qq
  induction qq with
  | zero =>
    exact fun _ _ _ _ _ _ _ h => nn h
  | succ qq ih =>
    intro p0 x1 x7 r11 v43 vb2_2 r h
    rw [e113L43048] at h
    rcases spl h with ⟨h13, h⟩ | ⟨h13, h⟩
    · obtain ⟨x14, h15, h⟩ := obind h
      obtain ⟨r16, h17, h⟩ := obind h
      obtain ⟨l18, h19, h⟩ := obind h
      exact fun j => lH 2 [] [0, 1, 2] [1] [0, 4, 5, 11, 41, 42, 43] (oD (dT x7) <| oD (dE p0) <| oD (dR l18) <| oD (dT r11) <| oD (dT x7) <| oD (dI x1.fields) <| oD (dI x1.cons) <| oD (dT x1.body.sub) <| oD (dT x1.type.sub) <| oD (dR ([] : List Rec')) <| oD (dT ([] : List Tm)) <| oD (dT ([] : List Tm)) <| oP 1 (apS199 h19 (by simp)) <| oC 7 [] (c163 h17) <| oA 0 (ix22 (o := .no) h15) <| oB 0 h13 o0) (ih _ _ _ _ _ _ _ h) (fun j => by kernel_rfl)
    · obtain rfl := sj h
      exact fun j => lF 2 [] (oD (dR vb2_2) <| oD (dT r11) <| oD (dT x7) <| oB 0 h13 o0) (by kernel_rfl)
theorem c113 {qq : Nat} {p0 : List Ent} {p1 : Int} {r : Con'} (h : e113 qq p0 p1 = some r) : CT Tryz.prog 113 [] [.sl (flat entL p0) (List.length p0) .no, ai p1] (conA r) [] 0 := by
  unfold e113 at h
  obtain ⟨x1, h2, h⟩ := obind h
  obtain ⟨r3, h4, h⟩ := obind h
  obtain ⟨r5, h6, h⟩ := obind h
  obtain ⟨x7, h8, h⟩ := obind h
  obtain ⟨x9, h10, h⟩ := obind h
  obtain ⟨r11, h12, h⟩ := obind h
  exact k113 (tH q113 3 [(some 4, 2, 3)] [0, 1, 4] [0] [0, 4, 5, 11, 41, 42, 43] (oD (dT x7) <| oD (dE p0) <| oD (dR ([] : List Rec')) <| oD (dT r11) <| oD (dT x7) <| oD (dI x1.fields) <| oD (dI x1.cons) <| oD (dT x1.body.sub) <| oD (dT x1.type.sub) <| oD (dR ([] : List Rec')) <| oD (dT ([] : List Tm)) <| oD (dT ([] : List Tm)) <| oC 0 [] (c162 h12) <| oA 1 (slFrom22 h10) <| oA 4 (slFrom22 h8) <| oC 5 [] (c106 h6) <| oC 3 [] (c103 h4) <| oA 0 (ix25 (o := .no) h2) o0) (l113L43048 _ _ _ _ _ _ _ _ h) (fun j => by kernel_rfl))

end Go.Proofs.YtlbmblbeccafcaaGreat

namespace Go.Proofs.YtlbmblbeccafcaaGreat
open Go Go.Ab

/- scholium/sign.Every -/
def e68L44439 : Nat → (List Ent) → (List Con') → Int → (List Con') →  Option (List Con' × Int)
  | 0, _, _, _, _ => none
  | qq + 1, p0, x4, v14, vb0_0 =>
    if decide (v14 < (List.length p0 : Int)) = true then
      (gidx p0 v14) >>= fun x7 =>
      if (x7.kind == 2) = true then
        (e113 qq p0 v14) >>= fun r10 =>
        (gchk (List.length x4) v14) >>= fun x12 =>
        (gset vb0_0 x12 r10) >>= fun x14 =>
        e68L44439 qq p0 x4 (w64 (v14 + 1)) x14
      else
        e68L44439 qq p0 x4 (w64 (v14 + 1)) vb0_0
    else
      (gfz (List.length x4) vb0_0) >>= fun l16 =>
      some (l16, 0)
def e68 (qq : Nat) (p0 : List Ent) : Option (List Con' × Int) :=
  (e58 qq p0) >>= fun r1 =>
  if r1 = true then
    (gmk 72 (default : Con') (List.length p0 : Int)) >>= fun x4 =>
    e68L44439 qq p0 x4 0 x4
  else
    none
def g68L44439E0 (j : Nat → Value) (p0 : List Ent) (x4 : List Con') (v14 : Int) (vb0_0 : List Con') : List AV := sp j 31 0 [(0, .sl (flat entL p0) (List.length p0) .no), (4, .ms 0 0 (List.length x4) (List.length x4) 3), (13, ai (List.length p0 : Int)), (14, ai v14)]
def g68L44439S0 (p0 : List Ent) (x4 : List Con') (v14 : Int) (vb0_0 : List Con') : LSt := ⟨[(0, .row (flat conL vb0_0))], 1, [], 0, []⟩
theorem q68 : Tryz.prog.funcs[68]? = some Tryz.f68 ∧ Tryz.f68.body.isNone = false := ⟨Tryz.func68, by kernel_rfl⟩
theorem k68 {p0 : List Ent} {r : List Con' × Int} (h : CTri Tryz.prog 68 [] [.sl (flat entL p0) (List.length p0) .no] (.tup [.ms 0 0 (List.length r.1) (List.length r.1) 3, ai r.2]) [.row (flat conL r.1)] 0) : CT Tryz.prog 68 [] [.sl (flat entL p0) (List.length p0) .no] (.tup [.ms 0 0 (List.length r.1) (List.length r.1) 3, ai r.2]) [.row (flat conL r.1)] 0 := ⟨h, ⟨⟨trivial, dE _⟩, trivial⟩, forall_nil, ⟨(show 0 < 1 by decide), trivial, trivial⟩, (forall_cons (dC _) forall_nil)⟩
theorem l68L44439 : ∀ qq : Nat, (∀ (p0 : List Ent) (x4 : List Con') (v14 : Int) (vb0_0 : List Con') (r : List Con' × Int), e68L44439 qq p0 x4 v14 vb0_0 = some r → (∀ j, Dl Tryz.prog 0 (inn (inn (rgt (lft (rgt (rgt (rgt (bod Tryz.f68)))))))) (g68L44439E0 j p0 x4 v14 vb0_0) (g68L44439S0 p0 x4 v14 vb0_0) (frameQ Tryz.prog 0 (FinQ Tryz.prog 0 Tryz.f68 (.tup [.ms 0 0 (List.length r.1) (List.length r.1) 3, ai r.2]) [.row (flat conL r.1)] 0) [.blk 0, .seq (rgt (rgt (rgt (rgt (bod Tryz.f68)))))]))) := by
  intro qq
  induction qq with
  | zero =>
    exact fun _ _ _ _ _ h => nn h
  | succ qq ih =>
    intro p0 x4 v14 vb0_0 r h
    rw [e68L44439] at h
    rcases spl h with ⟨h6, h⟩ | ⟨h6, h⟩
    · obtain ⟨x7, h8, h⟩ := obind h
      have k := oA 0 (ix25 (o := .no) h8) <| oB 0 h6 o0
      rcases spl h with ⟨h9, h⟩ | ⟨h9, h⟩
      · obtain ⟨r10, h11, h⟩ := obind h
        obtain ⟨x12, h13, h⟩ := obind h
        obtain ⟨x14, h15, h⟩ := obind h
        exact fun j => lH 1 [] [0] [] [0, 4, 13, 14] (oD (dE p0) <| oD (dC x14) <| oW 0 (wtE (x := r10) (cs := [.sl (flat tmCells r10.args) (List.length r10.args) .no, .sl (flat tmCells r10.inds) (List.length r10.inds) .no, .sl (flat recL r10.recs) (List.length r10.recs) .no]) codecC rfl h15) <| oA 0 (ixM147 (b := 0) (c := List.length x4) (z := 3) h13) <| oC 0 [] (c113 h11) <| oB 1 h9 k) (ih _ _ _ _ _ h) (fun j => by kernel_rfl)
      · exact fun j => lH 1 [] [0] [] [0, 4, 13, 14] (oD (dE p0) <| oD (dC vb0_0) <| oB 1 h9 k) (ih _ _ _ _ _ h) (fun j => by kernel_rfl)
    · obtain ⟨l16, h17, h⟩ := obind h
      obtain ⟨h17a, h17b⟩ := gfz_spec h17
      obtain rfl := sj h
      dsimp only
      rw [← h17b, h17a]
      exact fun j => lF 0 [0] (oD (dC vb0_0) <| oB 0 h6 o0) (by kernel_rfl)
theorem c68r {qq : Nat} {p0 : List Ent} {r : List Con' × Int} (h : e68 qq p0 = some r) : CT Tryz.prog 68 [] [.sl (flat entL p0) (List.length p0) .no] (.tup [.ms 0 0 (List.length r.1) (List.length r.1) 3, ai r.2]) [.row (flat conL r.1)] 0 := by
  unfold e68 at h
  obtain ⟨r1, h2, h⟩ := obind h
  obtain ⟨h3, h⟩ := splT h
  obtain ⟨x4, h5, h⟩ := obind h
  exact k68 (tH q68 1 [] [0] [] [0, 4, 13, 14] (oD (dE p0) <| oD (dC x4) <| oM 2 (mkM147 h5) <| oK 0 [] h3 (c58 h2) o0) (l68L44439 _ _ _ _ _ _ h) (fun j => by kernel_rfl))
theorem c68 {qq : Nat} {p0 : List Ent} {r : List Con' × Int} (h : e68 qq p0 = some r) : CT Tryz.prog 68 [] [.sl (flat entL p0) (List.length p0) .no] (.tup [.sl (flat conL r.1) (List.length r.1) .no, ai r.2]) [] 0 := by
  have k := c68r h
  exact CT.freeze (H1 := []) (cs := flat conL r.1) k (by decide) forall_nil (dC _) ⟨(.inl ⟨rfl, rfl⟩), trivial, trivial⟩ (by rfl) rfl

end Go.Proofs.YtlbmblbeccafcaaGreat

namespace Go.Proofs.YtlbmblbeccafcaaGreat
open Go Go.Ab

/- scholium/iota.New -/
def e37 (qq : Nat) (p0 : List Ent) : Option (Int × List Ent × List Con') :=
  (e38 qq p0) >>= fun r1 =>
  (e58 qq p0) >>= fun r3 =>
  if r3 = true then
    (e68 qq r1) >>= fun r6 =>
    if (r6.2 != 0) = true then
      none
    else
      some (0, r1, r6.1)
  else
    none
theorem q37 : Tryz.prog.funcs[37]? = some Tryz.f37 ∧ Tryz.f37.body.isNone = false := ⟨Tryz.func37, by kernel_rfl⟩
theorem k37 {p0 : List Ent} {r : Int × List Ent × List Con'} (h : CTri Tryz.prog 37 [] [.sl (flat entL p0) (List.length p0) .no] (.tup [.mp 0 0, ai r.1]) [.cells [.sl (flat entL r.2.1) (List.length r.2.1) .no, .sl (flat conL r.2.2) (List.length r.2.2) .no]] 0) : CT Tryz.prog 37 [] [.sl (flat entL p0) (List.length p0) .no] (.tup [.mp 0 0, ai r.1]) [.cells [.sl (flat entL r.2.1) (List.length r.2.1) .no, .sl (flat conL r.2.2) (List.length r.2.2) .no]] 0 := ⟨h, ⟨⟨trivial, dE _⟩, trivial⟩, forall_nil, ⟨(show 0 < 1 by decide), trivial, trivial⟩, (forall_cons ⟨dE _, dC _, trivial⟩ forall_nil)⟩
theorem c37 {qq : Nat} {p0 : List Ent} {r : Int × List Ent × List Con'} (h : e37 qq p0 = some r) : CT Tryz.prog 37 [] [.sl (flat entL p0) (List.length p0) .no] (.tup [.mp 0 0, ai r.1]) [.cells [.sl (flat entL r.2.1) (List.length r.2.1) .no, .sl (flat conL r.2.2) (List.length r.2.2) .no]] 0 := by
  unfold e37 at h
  obtain ⟨r1, h2, h⟩ := obind h
  obtain ⟨r3, h4, h⟩ := obind h
  have k := oC 0 [] (c38 h2) o0
  obtain ⟨h5, h⟩ := splT h
  obtain ⟨r6, h7, h⟩ := obind h
  have k := oC 1 [] (c68 h7) <| oK 0 [] h5 (c58 h4) k
  obtain ⟨h8, h⟩ := splF h
  obtain rfl := sj h
  exact k37 (tF q37 0 [0] (oD (dC r6.1) <| oD (dE r1) <| oB 2 h8 k) (by kernel_rfl))

end Go.Proofs.YtlbmblbeccafcaaGreat

namespace Go.Proofs.YtlbmblbeccafcaaGreat
open Go Go.Ab

/- scholium/whnf.New -/
mutual
def e11L61040 : Nat → (List Ent) → (Int × List Ent × List Con') → (List Ent) → Int → (List Int) → (List Int) →  Option (Int × List Ent × List Int × List Int × List Ent × List Con')
  | 0, _, _, _, _, _, _ => none
  | qq + 1, p0, r1, r4, v27, vb0_2, vb0_3 =>
    if decide (v27 < (List.length p0 : Int)) = true then
      (gidx p0 v27) >>= fun x7 =>
      if (x7.kind == 1) = true then
        (gapp 8 vb0_2 [(w64 ((w64 ((w64 (x7.pars + 2)) + (List.length x7.cons : Int))) + x7.inds))]) >>= fun l10 =>
        (gapp 8 vb0_3 [0]) >>= fun l12 =>
        e11L61040 qq p0 r1 r4 (w64 (v27 + 1)) l10 l12
      else
        if (x7.kind == 2) = true then
          e11L55979 qq p0 r1 r4 v27 vb0_2 vb0_3 0 x7.type.k x7.type.n x7.type.sub
        else
          (gapp 8 vb0_2 [0]) >>= fun l15 =>
          (gapp 8 vb0_3 [0]) >>= fun l17 =>
          e11L61040 qq p0 r1 r4 (w64 (v27 + 1)) l15 l17
    else
      some (0, r4, vb0_2, vb0_3, r1.2.1, r1.2.2)
def e11L55979 : Nat → (List Ent) → (Int × List Ent × List Con') → (List Ent) → Int → (List Int) → (List Int) → Int → Int → Int → (List Tm) →  Option (Int × List Ent × List Int × List Int × List Ent × List Con')
  | 0, _, _, _, _, _, _, _, _, _, _ => none
  | qq + 1, p0, r1, r4, v27, vb0_2, vb0_3, v10, vb1_0, vb1_1, vb1_2 =>
    if (vb1_0 == 3) = true then
      (gidx vb1_2 1) >>= fun x16 =>
      e11L55979 qq p0 r1 r4 v27 vb0_2 vb0_3 (w64 (v10 + 1)) x16.k x16.n x16.sub
    else
      (gapp 8 vb0_2 [0]) >>= fun l18 =>
      (gapp 8 vb0_3 [v10]) >>= fun l20 =>
      e11L61040 qq p0 r1 r4 (w64 (v27 + 1)) l18 l20
end
def e11 (qq : Nat) (p0 : List Ent) : Option (Int × List Ent × List Int × List Int × List Ent × List Con') :=
  (e37 qq p0) >>= fun r1 =>
  if (r1.1 != 0) = true then
    none
  else
    (e38 qq p0) >>= fun r4 =>
    e11L61040 qq p0 r1 r4 0 [] []
def g11L61040E0 (j : Nat → Value) (p0 : List Ent) (r1 : Int × List Ent × List Con') (r4 : List Ent) (v27 : Int) (vb0_2 : List Int) (vb0_3 : List Int) : List AV := sp j 81 0 [(6, .mp 0 0), (25, .sl (flat entL p0) (List.length p0) .no), (26, ai (List.length p0 : Int)), (27, ai v27)]
def g11L61040S0 (p0 : List Ent) (r1 : Int × List Ent × List Con') (r4 : List Ent) (v27 : Int) (vb0_2 : List Int) (vb0_3 : List Int) : LSt := ⟨[(0, .cells [.sl (flat entL r4) (List.length r4) .no, .mp 1 0, .sl (flat intC vb0_2) (List.length vb0_2) (.st 0 1), .sl (flat intC vb0_3) (List.length vb0_3) (.st 1 1)]), (1, .cells [.sl (flat entL r1.2.1) (List.length r1.2.1) .no, .sl (flat conL r1.2.2) (List.length r1.2.2) .no])], 2, [0, 1], 2, []⟩
def g11L55979E0 (j : Nat → Value) (p0 : List Ent) (r1 : Int × List Ent × List Con') (r4 : List Ent) (v27 : Int) (vb0_2 : List Int) (vb0_3 : List Int) (v10 : Int) (vb1_0 : Int) (vb1_1 : Int) (vb1_2 : List Tm) : List AV := sp j 81 0 [(6, .mp 0 0), (9, ai 0), (10, ai v10), (11, .mp 1 0), (25, .sl (flat entL p0) (List.length p0) .no), (26, ai (List.length p0 : Int)), (27, ai v27)]
def g11L55979S0 (p0 : List Ent) (r1 : Int × List Ent × List Con') (r4 : List Ent) (v27 : Int) (vb0_2 : List Int) (vb0_3 : List Int) (v10 : Int) (vb1_0 : Int) (vb1_1 : Int) (vb1_2 : List Tm) : LSt := ⟨[(0, .cells [.sl (flat entL r4) (List.length r4) .no, .mp 2 0, .sl (flat intC vb0_2) (List.length vb0_2) (.st 0 1), .sl (flat intC vb0_3) (List.length vb0_3) (.st 1 1)]), (1, .cells [ai vb1_0, ai vb1_1, .sl (flat tmCells vb1_2) (List.length vb1_2) .no]), (2, .cells [.sl (flat entL r1.2.1) (List.length r1.2.1) .no, .sl (flat conL r1.2.2) (List.length r1.2.2) .no])], 3, [0, 1], 2, []⟩
theorem q11 : Tryz.prog.funcs[11]? = some Tryz.f11 ∧ Tryz.f11.body.isNone = false := ⟨Tryz.func11, by kernel_rfl⟩
theorem k11 {p0 : List Ent} {r : Int × List Ent × List Int × List Int × List Ent × List Con'} (h : CTri Tryz.prog 11 [] [.sl (flat entL p0) (List.length p0) .no] (.tup [.mp 0 0, ai r.1]) [.cells [.sl (flat entL r.2.1) (List.length r.2.1) .no, .mp 1 0, .sl (flat intC r.2.2.1) (List.length r.2.2.1) .no, .sl (flat intC r.2.2.2.1) (List.length r.2.2.2.1) .no], .cells [.sl (flat entL r.2.2.2.2.1) (List.length r.2.2.2.2.1) .no, .sl (flat conL r.2.2.2.2.2) (List.length r.2.2.2.2.2) .no]] 0) : CT Tryz.prog 11 [] [.sl (flat entL p0) (List.length p0) .no] (.tup [.mp 0 0, ai r.1]) [.cells [.sl (flat entL r.2.1) (List.length r.2.1) .no, .mp 1 0, .sl (flat intC r.2.2.1) (List.length r.2.2.1) .no, .sl (flat intC r.2.2.2.1) (List.length r.2.2.2.1) .no], .cells [.sl (flat entL r.2.2.2.2.1) (List.length r.2.2.2.2.1) .no, .sl (flat conL r.2.2.2.2.2) (List.length r.2.2.2.2.2) .no]] 0 := ⟨h, ⟨⟨trivial, dE _⟩, trivial⟩, forall_nil, ⟨(show 0 < 2 by decide), trivial, trivial⟩, (forall_cons ⟨dE _, (show 1 < 2 by decide), dI _, dI _, trivial⟩ (forall_cons ⟨dE _, dC _, trivial⟩ forall_nil))⟩
theorem a11L61040_11L55979 : ∀ qq : Nat, (∀ (p0 : List Ent) (r1 : Int × List Ent × List Con') (r4 : List Ent) (v27 : Int) (vb0_2 : List Int) (vb0_3 : List Int) (r : Int × List Ent × List Int × List Int × List Ent × List Con'), e11L61040 qq p0 r1 r4 v27 vb0_2 vb0_3 = some r → (∀ j, Dl Tryz.prog 0 (inn (inn (rgt (lft (rgt (rgt (rgt (rgt (bod Tryz.f11))))))))) (g11L61040E0 j p0 r1 r4 v27 vb0_2 vb0_3) (g11L61040S0 p0 r1 r4 v27 vb0_2 vb0_3) (frameQ Tryz.prog 0 (FinQ Tryz.prog 0 Tryz.f11 (.tup [.mp 0 0, ai r.1]) [.cells [.sl (flat entL r.2.1) (List.length r.2.1) .no, .mp 1 0, .sl (flat intC r.2.2.1) (List.length r.2.2.1) .no, .sl (flat intC r.2.2.2.1) (List.length r.2.2.2.1) .no], .cells [.sl (flat entL r.2.2.2.2.1) (List.length r.2.2.2.2.1) .no, .sl (flat conL r.2.2.2.2.2) (List.length r.2.2.2.2.2) .no]] 0) [.blk 0, .seq (rgt (rgt (rgt (rgt (rgt (bod Tryz.f11))))))]))) ∧ (∀ (p0 : List Ent) (r1 : Int × List Ent × List Con') (r4 : List Ent) (v27 : Int) (vb0_2 : List Int) (vb0_3 : List Int) (v10 : Int) (vb1_0 : Int) (vb1_1 : Int) (vb1_2 : List Tm) (r : Int × List Ent × List Int × List Int × List Ent × List Con'), e11L55979 qq p0 r1 r4 v27 vb0_2 vb0_3 v10 vb1_0 vb1_1 vb1_2 = some r → (∀ j, Dl Tryz.prog 0 (inn (inn (rgt (lft (rgt (rgt (rgt (inn (rgt (lft (rgt (rgt (inn (lft (rgt (rgt (inn (inn (rgt (lft (rgt (rgt (rgt (rgt (bod Tryz.f11))))))))))))))))))))))))) (g11L55979E0 j p0 r1 r4 v27 vb0_2 vb0_3 v10 vb1_0 vb1_1 vb1_2) (g11L55979S0 p0 r1 r4 v27 vb0_2 vb0_3 v10 vb1_0 vb1_1 vb1_2) (frameQ Tryz.prog 0 (FinQ Tryz.prog 0 Tryz.f11 (.tup [.mp 0 0, ai r.1]) [.cells [.sl (flat entL r.2.1) (List.length r.2.1) .no, .mp 1 0, .sl (flat intC r.2.2.1) (List.length r.2.2.1) .no, .sl (flat intC r.2.2.2.1) (List.length r.2.2.2.1) .no], .cells [.sl (flat entL r.2.2.2.2.1) (List.length r.2.2.2.2.1) .no, .sl (flat conL r.2.2.2.2.2) (List.length r.2.2.2.2.2) .no]] 0) [.blk 3, .blk 2, .seq (rgt (rgt (rgt (inn (lft (rgt (rgt (inn (inn (rgt (lft (rgt (rgt (rgt (rgt (bod Tryz.f11)))))))))))))))), .blk 1, .seq (rgt (rgt (rgt (inn (inn (rgt (lft (rgt (rgt (rgt (rgt (bod Tryz.f11)))))))))))), .loop (inn (inn (rgt (lft (rgt (rgt (rgt (rgt (bod Tryz.f11))))))))), .blk 0, .seq (rgt (rgt (rgt (rgt (rgt (bod Tryz.f11))))))]))) := by
  intro qq
  induction qq with
  | zero =>
    exact ⟨fun _ _ _ _ _ _ _ h => nn h, fun _ _ _ _ _ _ _ _ _ _ _ h => nn h⟩
  | succ qq ih =>
    obtain ⟨ih11L61040, ih11L55979⟩ := ih
    refine ⟨?_, ?_⟩
    · intro p0 r1 r4 v27 vb0_2 vb0_3 r h
      rw [e11L61040] at h
      rcases spl h with ⟨h6, h⟩ | ⟨h6, h⟩
      · obtain ⟨x7, h8, h⟩ := obind h
        have k := oA 0 (ix25 (o := .no) h8) <| oB 0 h6 o0
        rcases spl h with ⟨h9, h⟩ | ⟨h9, h⟩
        · obtain ⟨l10, h11, h⟩ := obind h
          obtain ⟨l12, h13, h⟩ := obind h
          exact fun j => lH 3 [] [0, 1] [2, 3] [6, 25, 26, 27] (oD (dE p0) <| oD (dC r1.2.2) <| oD (dE r1.2.1) <| oD (dI l12) <| oD (dI l10) <| oD (dE r4) <| oP 2 (apS37 h13 (by simp)) <| oP 9 (apS37 h11 (by simp)) <| oB 3 h9 k) (ih11L61040 _ _ _ _ _ _ _ h) (fun j => by kernel_rfl)
        · have k := oB 3 h9 k
          rcases spl h with ⟨h14, h⟩ | ⟨h14, h⟩
          · exact fun j => lH 2 [] [0, 3, 1] [0, 1] [6, 9, 10, 11, 25, 26, 27] (oD (dE p0) <| oD (dC r1.2.2) <| oD (dE r1.2.1) <| oD (dT x7.type.sub) <| oD (dI vb0_3) <| oD (dI vb0_2) <| oD (dE r4) <| oB 0 h14 k) (ih11L55979 _ _ _ _ _ _ _ _ _ _ _ h) (fun j => by kernel_rfl)
          · obtain ⟨l15, h16, h⟩ := obind h
            obtain ⟨l17, h18, h⟩ := obind h
            exact fun j => lH 3 [] [0, 1] [2, 3] [6, 25, 26, 27] (oD (dE p0) <| oD (dC r1.2.2) <| oD (dE r1.2.1) <| oD (dI l17) <| oD (dI l15) <| oD (dE r4) <| oP 2 (apS37 h18 (by simp)) <| oP 2 (apS37 h16 (by simp)) <| oB 0 h14 k) (ih11L61040 _ _ _ _ _ _ _ h) (fun j => by kernel_rfl)
      · obtain rfl := sj h
        exact fun j => lF 0 [0, 1] (oD (dC r1.2.2) <| oD (dE r1.2.1) <| oD (dI vb0_3) <| oD (dI vb0_2) <| oD (dE r4) <| oB 0 h6 o0) (by kernel_rfl)
    · intro p0 r1 r4 v27 vb0_2 vb0_3 v10 vb1_0 vb1_1 vb1_2 r h
      rw [e11L55979] at h
      rcases spl h with ⟨h15, h⟩ | ⟨h15, h⟩
      · obtain ⟨x16, h17, h⟩ := obind h
        exact fun j => lH 2 [] [0, 3, 2] [0, 1] [6, 9, 10, 11, 25, 26, 27] (oD (dE p0) <| oD (dC r1.2.2) <| oD (dE r1.2.1) <| oD (dT x16.sub) <| oD (dI vb0_3) <| oD (dI vb0_2) <| oD (dE r4) <| oA 4 (ix22 (o := .no) h17) <| oB 1 h15 o0) (ih11L55979 _ _ _ _ _ _ _ _ _ _ _ h) (fun j => by kernel_rfl)
      · obtain ⟨l18, h19, h⟩ := obind h
        obtain ⟨l20, h21, h⟩ := obind h
        exact fun j => lH 3 [] [0, 2] [2, 3] [6, 25, 26, 27] (oD (dE p0) <| oD (dC r1.2.2) <| oD (dE r1.2.1) <| oD (dI l20) <| oD (dI l18) <| oD (dE r4) <| oP 2 (apS37 h21 (by simp)) <| oP 2 (apS37 h19 (by simp)) <| oB 1 h15 o0) (ih11L61040 _ _ _ _ _ _ _ h) (fun j => by kernel_rfl)
theorem c11 {qq : Nat} {p0 : List Ent} {r : Int × List Ent × List Int × List Int × List Ent × List Con'} (h : e11 qq p0 = some r) : CT Tryz.prog 11 [] [.sl (flat entL p0) (List.length p0) .no] (.tup [.mp 0 0, ai r.1]) [.cells [.sl (flat entL r.2.1) (List.length r.2.1) .no, .mp 1 0, .sl (flat intC r.2.2.1) (List.length r.2.2.1) .no, .sl (flat intC r.2.2.2.1) (List.length r.2.2.2.1) .no], .cells [.sl (flat entL r.2.2.2.2.1) (List.length r.2.2.2.2.1) .no, .sl (flat conL r.2.2.2.2.2) (List.length r.2.2.2.2.2) .no]] 0 := by
  unfold e11 at h
  obtain ⟨r1, h2, h⟩ := obind h
  have k := oC 0 [] (c37 h2) o0
  obtain ⟨h3, h⟩ := splF h
  obtain ⟨r4, h5, h⟩ := obind h
  exact k11 (tH q11 1 [(some 1, 2, 1), (some 1, 3, 1)] [1, 0] [0, 1] [6, 25, 26, 27] (oD (dE p0) <| oD (dC r1.2.2) <| oD (dE r1.2.1) <| oD (dI ([] : List Int)) <| oD (dI ([] : List Int)) <| oD (dE r4) <| oC 0 [] (c38 h5) <| oB 2 h3 k) (((a11L61040_11L55979 _).1) _ _ _ _ _ _ _ h) (fun j => by kernel_rfl))

end Go.Proofs.YtlbmblbeccafcaaGreat

namespace Go.Proofs.YtlbmblbeccafcaaGreat
open Go Go.Ab

/- (*sync/atomic.Int64).Store -/
def e39va12063 (qq : Nat) (q0 : Int) (q1 : Int) (p1 : Int) : Option (Int) :=
  some p1
theorem q39va12063 : Tryz.prog.funcs[39]? = some Tryz.f39 ∧ Tryz.f39.body.isNone = false := ⟨Tryz.func39, by kernel_rfl⟩
theorem k39va12063 {q0 : Int} {q1 : Int} {p1 : Int} {r : Int} (h : CTri Tryz.prog 39 [.cells [ai q0, ai q1]] [.mp 0 0, ai p1] (.tup []) [.cells [ai r, ai q1]] 0) : CT Tryz.prog 39 [.cells [ai q0, ai q1]] [.mp 0 0, ai p1] (.tup []) [.cells [ai r, ai q1]] 0 := ⟨h, ⟨(show 0 < 1 by decide), trivial, trivial⟩, (forall_cons ⟨trivial, trivial, trivial⟩ forall_nil), trivial, (forall_cons ⟨trivial, trivial, trivial⟩ forall_nil)⟩
theorem c39va12063 {qq : Nat} {q0 : Int} {q1 : Int} {p1 : Int} {r : Int} (h : e39va12063 qq q0 q1 p1 = some r) : CT Tryz.prog 39 [.cells [ai q0, ai q1]] [.mp 0 0, ai p1] (.tup []) [.cells [ai r, ai q1]] 0 := by
  unfold e39va12063 at h
  obtain rfl := sj h
  exact k39va12063 (tF q39va12063 1 [0] (o0) (by kernel_rfl))

end Go.Proofs.YtlbmblbeccafcaaGreat

namespace Go.Proofs.YtlbmblbeccafcaaGreat
open Go Go.Ab

/- scholium/meter.New -/
def e12 (qq : Nat) (p0 : Int) : Option (Int × Int × Int) :=
  if decide (p0 < 0) = true then
    none
  else
    if decide (p0 > 1048576) = true then
      none
    else
      (e39va12063 qq 0 0 p0) >>= fun r3 =>
      some (0, r3, 0)
theorem q12 : Tryz.prog.funcs[12]? = some Tryz.f12 ∧ Tryz.f12.body.isNone = false := ⟨Tryz.func12, by kernel_rfl⟩
theorem k12 {p0 : Int} {r : Int × Int × Int} (h : CTri Tryz.prog 12 [] [ai p0] (.tup [.mp 0 0, ai r.1]) [.cells [ai r.2.1, ai r.2.2]] 0) : CT Tryz.prog 12 [] [ai p0] (.tup [.mp 0 0, ai r.1]) [.cells [ai r.2.1, ai r.2.2]] 0 := ⟨h, ⟨trivial, trivial⟩, forall_nil, ⟨(show 0 < 1 by decide), trivial, trivial⟩, (forall_cons ⟨trivial, trivial, trivial⟩ forall_nil)⟩
theorem c12 {qq : Nat} {p0 : Int} {r : Int × Int × Int} (h : e12 qq p0 = some r) : CT Tryz.prog 12 [] [ai p0] (.tup [.mp 0 0, ai r.1]) [.cells [ai r.2.1, ai r.2.2]] 0 := by
  unfold e12 at h
  obtain ⟨h1, h⟩ := splF h
  have k := oB 0 h1 o0
  obtain ⟨h2, h⟩ := splF h
  obtain ⟨r3, h4, h⟩ := obind h
  obtain rfl := sj h
  exact k12 (tF q12 0 [0] (oC 0 [0] (c39va12063 h4) <| oB 0 h2 k) (by kernel_rfl))

end Go.Proofs.YtlbmblbeccafcaaGreat

namespace Go.Proofs.YtlbmblbeccafcaaGreat
open Go Go.Ab

/- scholium/scholiumref07.Leaf -/
def e47 (qq : Nat) (p0 : Int) (p1 : Int) : Option (Tm) :=
  some (Tm.mk p0 p1 [])
theorem q47 : Tryz.prog.funcs[47]? = some Tryz.f47 ∧ Tryz.f47.body.isNone = false := ⟨Tryz.func47, by kernel_rfl⟩
theorem k47 {p0 : Int} {p1 : Int} {r : Tm} (h : CTri Tryz.prog 47 [] [ai p0, ai p1] (tmA r) [] 0) : CT Tryz.prog 47 [] [ai p0, ai p1] (tmA r) [] 0 := ⟨h, ⟨trivial, trivial, trivial⟩, forall_nil, ⟨trivial, trivial, dT _, trivial⟩, forall_nil⟩
theorem c47 {qq : Nat} {p0 : Int} {p1 : Int} {r : Tm} (h : e47 qq p0 p1 = some r) : CT Tryz.prog 47 [] [ai p0, ai p1] (tmA r) [] 0 := by
  unfold e47 at h
  obtain rfl := sj h
  exact k47 (tF q47 1 [] (oD (dT ([] : List Tm)) o0) (by kernel_rfl))

end Go.Proofs.YtlbmblbeccafcaaGreat

namespace Go.Proofs.YtlbmblbeccafcaaGreat
open Go Go.Ab

/- scholium/scholiumref12.C -/
def e16 (qq : Nat) (p0 : Int) : Option (Tm) :=
  (e47 qq 6 p0) >>= fun r1 =>
  some r1
theorem q16 : Tryz.prog.funcs[16]? = some Tryz.f16 ∧ Tryz.f16.body.isNone = false := ⟨Tryz.func16, by kernel_rfl⟩
theorem k16 {p0 : Int} {r : Tm} (h : CTri Tryz.prog 16 [] [ai p0] (tmA r) [] 0) : CT Tryz.prog 16 [] [ai p0] (tmA r) [] 0 := ⟨h, ⟨trivial, trivial⟩, forall_nil, ⟨trivial, trivial, dT _, trivial⟩, forall_nil⟩
theorem c16 {qq : Nat} {p0 : Int} {r : Tm} (h : e16 qq p0 = some r) : CT Tryz.prog 16 [] [ai p0] (tmA r) [] 0 := by
  unfold e16 at h
  obtain ⟨r1, h2, h⟩ := obind h
  obtain rfl := sj h
  exact k16 (tF q16 1 [] (oD (dT r1.sub) <| oC 0 [] (c47 h2) o0) (by kernel_rfl))

end Go.Proofs.YtlbmblbeccafcaaGreat

namespace Go.Proofs.YtlbmblbeccafcaaGreat
open Go Go.Ab

/- scholium/scholiumref07.Two -/
def e56 (qq : Nat) (p0 : Int) (p1 : Tm) (p2 : Tm) : Option (Tm) :=
  some (Tm.mk p0 0 [p1, p2])
theorem q56 : Tryz.prog.funcs[56]? = some Tryz.f56 ∧ Tryz.f56.body.isNone = false := ⟨Tryz.func56, by kernel_rfl⟩
theorem k56 {p0 : Int} {p1 : Tm} {p2 : Tm} {r : Tm} (h : CTri Tryz.prog 56 [] [ai p0, tmA p1, tmA p2] (tmA r) [] 0) : CT Tryz.prog 56 [] [ai p0, tmA p1, tmA p2] (tmA r) [] 0 := ⟨h, ⟨trivial, ⟨trivial, trivial, ⟨trivial, dT _⟩, trivial⟩, ⟨trivial, trivial, ⟨trivial, dT _⟩, trivial⟩, trivial⟩, forall_nil, ⟨trivial, trivial, dT _, trivial⟩, forall_nil⟩
theorem c56 {qq : Nat} {p0 : Int} {p1 : Tm} {p2 : Tm} {r : Tm} (h : e56 qq p0 p1 p2 = some r) : CT Tryz.prog 56 [] [ai p0, tmA p1, tmA p2] (tmA r) [] 0 := by
  unfold e56 at h
  obtain rfl := sj h
  exact k56 (tF q56 1 [] (oD (dT [p1, p2]) <| oS 2 (obLitR tm_eq [p1, p2]) o0) (by kernel_rfl))

end Go.Proofs.YtlbmblbeccafcaaGreat

namespace Go.Proofs.YtlbmblbeccafcaaGreat
open Go Go.Ab

/- scholium/scholiumref12.P -/
def e22 (qq : Nat) (p0 : Tm) (p1 : Tm) : Option (Tm) :=
  (e56 qq 3 p0 p1) >>= fun r1 =>
  some r1
theorem q22 : Tryz.prog.funcs[22]? = some Tryz.f22 ∧ Tryz.f22.body.isNone = false := ⟨Tryz.func22, by kernel_rfl⟩
theorem k22 {p0 : Tm} {p1 : Tm} {r : Tm} (h : CTri Tryz.prog 22 [] [tmA p0, tmA p1] (tmA r) [] 0) : CT Tryz.prog 22 [] [tmA p0, tmA p1] (tmA r) [] 0 := ⟨h, ⟨⟨trivial, trivial, ⟨trivial, dT _⟩, trivial⟩, ⟨trivial, trivial, ⟨trivial, dT _⟩, trivial⟩, trivial⟩, forall_nil, ⟨trivial, trivial, dT _, trivial⟩, forall_nil⟩
theorem c22 {qq : Nat} {p0 : Tm} {p1 : Tm} {r : Tm} (h : e22 qq p0 p1 = some r) : CT Tryz.prog 22 [] [tmA p0, tmA p1] (tmA r) [] 0 := by
  unfold e22 at h
  obtain ⟨r1, h2, h⟩ := obind h
  obtain rfl := sj h
  exact k22 (tF q22 1 [] (oD (dT r1.sub) <| oC 2 [] (c56 h2) o0) (by kernel_rfl))

end Go.Proofs.YtlbmblbeccafcaaGreat

namespace Go.Proofs.YtlbmblbeccafcaaGreat
open Go Go.Ab

/- scholium/scholiumref07.Apply -/
def e57L34202 : Nat → (List Tm) → Int → Int → Int → (List Tm) →  Option (Tm)
  | 0, _, _, _, _, _ => none
  | qq + 1, p1, v5, vb0_0, vb0_1, vb0_2 =>
    if decide (v5 < (List.length p1 : Int)) = true then
      (gidx p1 v5) >>= fun x2 =>
      (e56 qq 5 (Tm.mk vb0_0 vb0_1 vb0_2) x2) >>= fun r4 =>
      e57L34202 qq p1 (w64 (v5 + 1)) r4.k r4.n r4.sub
    else
      some (Tm.mk vb0_0 vb0_1 vb0_2)
def e57 (qq : Nat) (p0 : Tm) (p1 : List Tm) : Option (Tm) :=
  e57L34202 qq p1 0 p0.k p0.n p0.sub
def g57L34202E0 (j : Nat → Value) (p1 : List Tm) (v5 : Int) (vb0_0 : Int) (vb0_1 : Int) (vb0_2 : List Tm) : List AV := sp j 19 0 [(1, .sl (flat tmCells p1) (List.length p1) .no), (2, .mp 0 0), (4, .mp 1 0), (5, ai v5)]
def g57L34202S0 (p1 : List Tm) (v5 : Int) (vb0_0 : Int) (vb0_1 : Int) (vb0_2 : List Tm) : LSt := ⟨[(0, .cells [ai vb0_0, ai vb0_1, .sl (flat tmCells vb0_2) (List.length vb0_2) .no]), (1, .cells [ai 0, ai 0, .sl (flat tmCells ([] : List Tm)) (List.length ([] : List Tm)) .nl])], 2, [], 0, []⟩
theorem q57 : Tryz.prog.funcs[57]? = some Tryz.f57 ∧ Tryz.f57.body.isNone = false := ⟨Tryz.func57, by kernel_rfl⟩
theorem k57 {p0 : Tm} {p1 : List Tm} {r : Tm} (h : CTri Tryz.prog 57 [] [tmA p0, .sl (flat tmCells p1) (List.length p1) .no] (tmA r) [] 0) : CT Tryz.prog 57 [] [tmA p0, .sl (flat tmCells p1) (List.length p1) .no] (tmA r) [] 0 := ⟨h, ⟨⟨trivial, trivial, ⟨trivial, dT _⟩, trivial⟩, ⟨trivial, dT _⟩, trivial⟩, forall_nil, ⟨trivial, trivial, dT _, trivial⟩, forall_nil⟩
theorem l57L34202 : ∀ qq : Nat, (∀ (p1 : List Tm) (v5 : Int) (vb0_0 : Int) (vb0_1 : Int) (vb0_2 : List Tm) (r : Tm), e57L34202 qq p1 v5 vb0_0 vb0_1 vb0_2 = some r → (∀ j, Dl Tryz.prog 0 (inn (inn (rgt (lft (rgt (bod Tryz.f57)))))) (g57L34202E0 j p1 v5 vb0_0 vb0_1 vb0_2) (g57L34202S0 p1 v5 vb0_0 vb0_1 vb0_2) (frameQ Tryz.prog 0 (FinQ Tryz.prog 0 Tryz.f57 (tmA r) [] 0) [.blk 0, .seq (rgt (rgt (bod Tryz.f57)))]))) := by
  intro qq
  induction qq with
  | zero =>
    exact fun _ _ _ _ _ _ h => nn h
  | succ qq ih =>
    intro p1 v5 vb0_0 vb0_1 vb0_2 r h
    rw [e57L34202] at h
    rcases spl h with ⟨h1, h⟩ | ⟨h1, h⟩
    · obtain ⟨x2, h3, h⟩ := obind h
      obtain ⟨r4, h5, h⟩ := obind h
      exact fun j => lH 2 [] [0, 1] [] [1, 2, 4, 5] (oD (dT p1) <| oD (dT ([] : List Tm)) <| oD (dT r4.sub) <| oC 1 [] (c56 h5) <| oA 1 (ix22 (o := .no) h3) <| oB 1 h1 o0) (ih _ _ _ _ _ _ h) (fun j => by kernel_rfl)
    · obtain rfl := sj h
      exact fun j => lF 2 [] (oD (dT vb0_2) <| oB 1 h1 o0) (by kernel_rfl)
theorem c57 {qq : Nat} {p0 : Tm} {p1 : List Tm} {r : Tm} (h : e57 qq p0 p1 = some r) : CT Tryz.prog 57 [] [tmA p0, .sl (flat tmCells p1) (List.length p1) .no] (tmA r) [] 0 := by
  unfold e57 at h
  exact k57 (tH q57 0 [] [0, 1] [] [1, 2, 4, 5] (oD (dT p1) <| oD (dT ([] : List Tm)) <| oD (dT p0.sub) o0) (l57L34202 _ _ _ _ _ _ _ h) (fun j => by kernel_rfl))

end Go.Proofs.YtlbmblbeccafcaaGreat

namespace Go.Proofs.YtlbmblbeccafcaaGreat
open Go Go.Ab

/- scholium/scholiumref12.A -/
def e23 (qq : Nat) (p0 : Tm) (p1 : List Tm) : Option (Tm) :=
  (e57 qq p0 p1) >>= fun r1 =>
  some r1
theorem q23 : Tryz.prog.funcs[23]? = some Tryz.f23 ∧ Tryz.f23.body.isNone = false := ⟨Tryz.func23, by kernel_rfl⟩
theorem k23 {p0 : Tm} {p1 : List Tm} {r : Tm} (h : CTri Tryz.prog 23 [] [tmA p0, .sl (flat tmCells p1) (List.length p1) .no] (tmA r) [] 0) : CT Tryz.prog 23 [] [tmA p0, .sl (flat tmCells p1) (List.length p1) .no] (tmA r) [] 0 := ⟨h, ⟨⟨trivial, trivial, ⟨trivial, dT _⟩, trivial⟩, ⟨trivial, dT _⟩, trivial⟩, forall_nil, ⟨trivial, trivial, dT _, trivial⟩, forall_nil⟩
theorem c23 {qq : Nat} {p0 : Tm} {p1 : List Tm} {r : Tm} (h : e23 qq p0 p1 = some r) : CT Tryz.prog 23 [] [tmA p0, .sl (flat tmCells p1) (List.length p1) .no] (tmA r) [] 0 := by
  unfold e23 at h
  obtain ⟨r1, h2, h⟩ := obind h
  obtain rfl := sj h
  exact k23 (tF q23 1 [] (oD (dT r1.sub) <| oC 1 [] (c57 h2) o0) (by kernel_rfl))

end Go.Proofs.YtlbmblbeccafcaaGreat

namespace Go.Proofs.YtlbmblbeccafcaaGreat
open Go Go.Ab

/- scholium/scholiumref12.S -/
def e26 (qq : Nat) (p0 : Int) : Option (Tm) :=
  (e47 qq 2 p0) >>= fun r1 =>
  some r1
theorem q26 : Tryz.prog.funcs[26]? = some Tryz.f26 ∧ Tryz.f26.body.isNone = false := ⟨Tryz.func26, by kernel_rfl⟩
theorem k26 {p0 : Int} {r : Tm} (h : CTri Tryz.prog 26 [] [ai p0] (tmA r) [] 0) : CT Tryz.prog 26 [] [ai p0] (tmA r) [] 0 := ⟨h, ⟨trivial, trivial⟩, forall_nil, ⟨trivial, trivial, dT _, trivial⟩, forall_nil⟩
theorem c26 {qq : Nat} {p0 : Int} {r : Tm} (h : e26 qq p0 = some r) : CT Tryz.prog 26 [] [ai p0] (tmA r) [] 0 := by
  unfold e26 at h
  obtain ⟨r1, h2, h⟩ := obind h
  obtain rfl := sj h
  exact k26 (tF q26 1 [] (oD (dT r1.sub) <| oC 0 [] (c47 h2) o0) (by kernel_rfl))

end Go.Proofs.YtlbmblbeccafcaaGreat

namespace Go.Proofs.YtlbmblbeccafcaaGreat
open Go Go.Ab

/- scholium/scholiumref12.data -/
def e29 (qq : Nat) (p0 : ByteArray) (p1 : Tm) (p2 : Int) (p3 : Int) (p4 : List Int) : Option (Ent) :=
  some (Ent.mk 1 p0 p1 (Tm.mk 0 0 []) 0 0 p2 p3 0 p4 [])
theorem q29 : Tryz.prog.funcs[29]? = some Tryz.f29 ∧ Tryz.f29.body.isNone = false := ⟨Tryz.func29, by kernel_rfl⟩
theorem k29 {p0 : ByteArray} {p1 : Tm} {p2 : Int} {p3 : Int} {p4 : List Int} {r : Ent} (h : CTri Tryz.prog 29 [] [at' p0, tmA p1, ai p2, ai p3, .sl (flat intC p4) (List.length p4) .no] (entA r) [] 0) : CT Tryz.prog 29 [] [at' p0, tmA p1, ai p2, ai p3, .sl (flat intC p4) (List.length p4) .no] (entA r) [] 0 := ⟨h, ⟨trivial, ⟨trivial, trivial, ⟨trivial, dT _⟩, trivial⟩, trivial, trivial, ⟨trivial, dI _⟩, trivial⟩, forall_nil, ⟨trivial, trivial, trivial, trivial, dT _, trivial, trivial, dT _, trivial, trivial, trivial, trivial, trivial, dI _, dI _, trivial⟩, forall_nil⟩
theorem c29 {qq : Nat} {p0 : ByteArray} {p1 : Tm} {p2 : Int} {p3 : Int} {p4 : List Int} {r : Ent} (h : e29 qq p0 p1 p2 p3 p4 = some r) : CT Tryz.prog 29 [] [at' p0, tmA p1, ai p2, ai p3, .sl (flat intC p4) (List.length p4) .no] (entA r) [] 0 := by
  unfold e29 at h
  obtain rfl := sj h
  exact k29 (tF q29 2 [] (oD (dI ([] : List Int)) <| oD (dI p4) <| oD (dT ([] : List Tm)) <| oD (dT p1.sub) o0) (by kernel_rfl))

end Go.Proofs.YtlbmblbeccafcaaGreat

namespace Go.Proofs.YtlbmblbeccafcaaGreat
open Go Go.Ab

/- scholium/scholiumref12.V -/
def e30 (qq : Nat) (p0 : Int) : Option (Tm) :=
  (e47 qq 1 p0) >>= fun r1 =>
  some r1
theorem q30 : Tryz.prog.funcs[30]? = some Tryz.f30 ∧ Tryz.f30.body.isNone = false := ⟨Tryz.func30, by kernel_rfl⟩
theorem k30 {p0 : Int} {r : Tm} (h : CTri Tryz.prog 30 [] [ai p0] (tmA r) [] 0) : CT Tryz.prog 30 [] [ai p0] (tmA r) [] 0 := ⟨h, ⟨trivial, trivial⟩, forall_nil, ⟨trivial, trivial, dT _, trivial⟩, forall_nil⟩
theorem c30 {qq : Nat} {p0 : Int} {r : Tm} (h : e30 qq p0 = some r) : CT Tryz.prog 30 [] [ai p0] (tmA r) [] 0 := by
  unfold e30 at h
  obtain ⟨r1, h2, h⟩ := obind h
  obtain rfl := sj h
  exact k30 (tF q30 1 [] (oD (dT r1.sub) <| oC 0 [] (c47 h2) o0) (by kernel_rfl))

end Go.Proofs.YtlbmblbeccafcaaGreat

namespace Go.Proofs.YtlbmblbeccafcaaGreat
open Go Go.Ab

/- scholium/scholiumref12.L -/
def e31 (qq : Nat) (p0 : Tm) (p1 : Tm) : Option (Tm) :=
  (e56 qq 4 p0 p1) >>= fun r1 =>
  some r1
theorem q31 : Tryz.prog.funcs[31]? = some Tryz.f31 ∧ Tryz.f31.body.isNone = false := ⟨Tryz.func31, by kernel_rfl⟩
theorem k31 {p0 : Tm} {p1 : Tm} {r : Tm} (h : CTri Tryz.prog 31 [] [tmA p0, tmA p1] (tmA r) [] 0) : CT Tryz.prog 31 [] [tmA p0, tmA p1] (tmA r) [] 0 := ⟨h, ⟨⟨trivial, trivial, ⟨trivial, dT _⟩, trivial⟩, ⟨trivial, trivial, ⟨trivial, dT _⟩, trivial⟩, trivial⟩, forall_nil, ⟨trivial, trivial, dT _, trivial⟩, forall_nil⟩
theorem c31 {qq : Nat} {p0 : Tm} {p1 : Tm} {r : Tm} (h : e31 qq p0 p1 = some r) : CT Tryz.prog 31 [] [tmA p0, tmA p1] (tmA r) [] 0 := by
  unfold e31 at h
  obtain ⟨r1, h2, h⟩ := obind h
  obtain rfl := sj h
  exact k31 (tF q31 1 [] (oD (dT r1.sub) <| oC 2 [] (c56 h2) o0) (by kernel_rfl))

end Go.Proofs.YtlbmblbeccafcaaGreat

namespace Go.Proofs.YtlbmblbeccafcaaGreat
open Go Go.Ab

/- scholium/scholiumref07.Node -/
def e64 (qq : Nat) (p0 : Int) (p1 : Int) (p2 : List Tm) : Option (Tm) :=
  some (Tm.mk p0 p1 p2)
theorem q64 : Tryz.prog.funcs[64]? = some Tryz.f64 ∧ Tryz.f64.body.isNone = false := ⟨Tryz.func64, by kernel_rfl⟩
theorem k64 {p0 : Int} {p1 : Int} {p2 : List Tm} {r : Tm} (h : CTri Tryz.prog 64 [] [ai p0, ai p1, .sl (flat tmCells p2) (List.length p2) .no] (tmA r) [] 0) : CT Tryz.prog 64 [] [ai p0, ai p1, .sl (flat tmCells p2) (List.length p2) .no] (tmA r) [] 0 := ⟨h, ⟨trivial, trivial, ⟨trivial, dT _⟩, trivial⟩, forall_nil, ⟨trivial, trivial, dT _, trivial⟩, forall_nil⟩
theorem c64 {qq : Nat} {p0 : Int} {p1 : Int} {p2 : List Tm} {r : Tm} (h : e64 qq p0 p1 p2 = some r) : CT Tryz.prog 64 [] [ai p0, ai p1, .sl (flat tmCells p2) (List.length p2) .no] (tmA r) [] 0 := by
  unfold e64 at h
  obtain rfl := sj h
  exact k64 (tF q64 1 [] (oD (dT p2) o0) (by kernel_rfl))

end Go.Proofs.YtlbmblbeccafcaaGreat

namespace Go.Proofs.YtlbmblbeccafcaaGreat
open Go Go.Ab

/- scholium/scholiumref12.E -/
def e32 (qq : Nat) (p0 : Int) (p1 : Int) : Option (Tm) :=
  (e26 qq p1) >>= fun r1 =>
  (e64 qq 7 p0 [r1]) >>= fun r3 =>
  some r3
theorem q32 : Tryz.prog.funcs[32]? = some Tryz.f32 ∧ Tryz.f32.body.isNone = false := ⟨Tryz.func32, by kernel_rfl⟩
theorem k32 {p0 : Int} {p1 : Int} {r : Tm} (h : CTri Tryz.prog 32 [] [ai p0, ai p1] (tmA r) [] 0) : CT Tryz.prog 32 [] [ai p0, ai p1] (tmA r) [] 0 := ⟨h, ⟨trivial, trivial, trivial⟩, forall_nil, ⟨trivial, trivial, dT _, trivial⟩, forall_nil⟩
theorem c32 {qq : Nat} {p0 : Int} {p1 : Int} {r : Tm} (h : e32 qq p0 p1 = some r) : CT Tryz.prog 32 [] [ai p0, ai p1] (tmA r) [] 0 := by
  unfold e32 at h
  obtain ⟨r1, h2, h⟩ := obind h
  obtain ⟨r3, h4, h⟩ := obind h
  obtain rfl := sj h
  exact k32 (tF q32 1 [] (oD (dT r3.sub) <| oC 0 [] (c64 h4) <| oS 0 (obLitR tm_eq [r1]) <| oC 0 [] (c26 h2) o0) (by kernel_rfl))

end Go.Proofs.YtlbmblbeccafcaaGreat

namespace Go.Proofs.YtlbmblbeccafcaaGreat
open Go Go.Ab

/- scholium/scholiumref12.con -/
def e33 (qq : Nat) (p0 : ByteArray) (p1 : Tm) (p2 : Int) (p3 : Int) (p4 : Int) : Option (Ent) :=
  some (Ent.mk 2 p0 p1 (Tm.mk 0 0 []) p2 p3 p4 0 0 [] [])
theorem q33 : Tryz.prog.funcs[33]? = some Tryz.f33 ∧ Tryz.f33.body.isNone = false := ⟨Tryz.func33, by kernel_rfl⟩
theorem k33 {p0 : ByteArray} {p1 : Tm} {p2 : Int} {p3 : Int} {p4 : Int} {r : Ent} (h : CTri Tryz.prog 33 [] [at' p0, tmA p1, ai p2, ai p3, ai p4] (entA r) [] 0) : CT Tryz.prog 33 [] [at' p0, tmA p1, ai p2, ai p3, ai p4] (entA r) [] 0 := ⟨h, ⟨trivial, ⟨trivial, trivial, ⟨trivial, dT _⟩, trivial⟩, trivial, trivial, trivial, trivial⟩, forall_nil, ⟨trivial, trivial, trivial, trivial, dT _, trivial, trivial, dT _, trivial, trivial, trivial, trivial, trivial, dI _, dI _, trivial⟩, forall_nil⟩
theorem c33 {qq : Nat} {p0 : ByteArray} {p1 : Tm} {p2 : Int} {p3 : Int} {p4 : Int} {r : Ent} (h : e33 qq p0 p1 p2 p3 p4 = some r) : CT Tryz.prog 33 [] [at' p0, tmA p1, ai p2, ai p3, ai p4] (entA r) [] 0 := by
  unfold e33 at h
  obtain rfl := sj h
  exact k33 (tF q33 2 [] (oD (dI ([] : List Int)) <| oD (dI ([] : List Int)) <| oD (dT ([] : List Tm)) <| oD (dT p1.sub) o0) (by kernel_rfl))

end Go.Proofs.YtlbmblbeccafcaaGreat

namespace Go.Proofs.YtlbmblbeccafcaaGreat
open Go Go.Ab

/- scholium/scholiumref12.proj -/
def e34 (qq : Nat) (p0 : ByteArray) (p1 : Tm) (p2 : Int) : Option (Ent) :=
  some (Ent.mk 4 p0 p1 (Tm.mk 0 0 []) 14 p2 2 0 0 [] [])
theorem q34 : Tryz.prog.funcs[34]? = some Tryz.f34 ∧ Tryz.f34.body.isNone = false := ⟨Tryz.func34, by kernel_rfl⟩
theorem k34 {p0 : ByteArray} {p1 : Tm} {p2 : Int} {r : Ent} (h : CTri Tryz.prog 34 [] [at' p0, tmA p1, ai p2] (entA r) [] 0) : CT Tryz.prog 34 [] [at' p0, tmA p1, ai p2] (entA r) [] 0 := ⟨h, ⟨trivial, ⟨trivial, trivial, ⟨trivial, dT _⟩, trivial⟩, trivial, trivial⟩, forall_nil, ⟨trivial, trivial, trivial, trivial, dT _, trivial, trivial, dT _, trivial, trivial, trivial, trivial, trivial, dI _, dI _, trivial⟩, forall_nil⟩
theorem c34 {qq : Nat} {p0 : ByteArray} {p1 : Tm} {p2 : Int} {r : Ent} (h : e34 qq p0 p1 p2 = some r) : CT Tryz.prog 34 [] [at' p0, tmA p1, ai p2] (entA r) [] 0 := by
  unfold e34 at h
  obtain rfl := sj h
  exact k34 (tF q34 2 [] (oD (dI ([] : List Int)) <| oD (dI ([] : List Int)) <| oD (dT ([] : List Tm)) <| oD (dT p1.sub) o0) (by kernel_rfl))

end Go.Proofs.YtlbmblbeccafcaaGreat

namespace Go.Proofs.YtlbmblbeccafcaaGreat
open Go Go.Ab

/- scholium/scholiumref12.Base -/
def e9 (qq : Nat)  : Option (List Ent) :=
  (e16 qq 0) >>= fun r1 =>
  (e26 qq 0) >>= fun r3 =>
  (e26 qq 0) >>= fun r5 =>
  (e26 qq 0) >>= fun r7 =>
  (e22 qq r5 r7) >>= fun r9 =>
  (e22 qq r3 r9) >>= fun r11 =>
  (e29 qq (⟨#[80, 97, 105, 114]⟩ : ByteArray) r11 2 0 [15]) >>= fun r13 =>
  (e16 qq 14) >>= fun r15 =>
  (e30 qq 1) >>= fun r17 =>
  (e30 qq 0) >>= fun r19 =>
  (e23 qq r15 [r17, r19]) >>= fun r21 =>
  (e32 qq 0 0) >>= fun r23 =>
  (e31 qq r1 r1) >>= fun r25 =>
  (e30 qq 0) >>= fun r27 =>
  (e16 qq 2) >>= fun r29 =>
  (e30 qq 0) >>= fun r31 =>
  (e23 qq r29 [r31]) >>= fun r33 =>
  (e31 qq r1 r33) >>= fun r35 =>
  (e31 qq r1 r35) >>= fun r37 =>
  (e30 qq 1) >>= fun r39 =>
  (e23 qq r23 [r25, r27, r37, r39]) >>= fun r41 =>
  (e31 qq r1 r41) >>= fun r43 =>
  (e31 qq r1 r43) >>= fun r45 =>
  (e26 qq 0) >>= fun r47 =>
  (e29 qq (⟨#[78, 97, 116]⟩ : ByteArray) r47 0 0 [1, 2]) >>= fun r49 =>
  (e33 qq (⟨#[122, 101, 114, 111]⟩ : ByteArray) r1 0 0 0) >>= fun r51 =>
  (e22 qq r1 r1) >>= fun r53 =>
  (e33 qq (⟨#[115, 117, 99]⟩ : ByteArray) r53 0 1 0) >>= fun r55 =>
  (e26 qq 0) >>= fun r57 =>
  (e29 qq (⟨#[66, 111, 111, 108]⟩ : ByteArray) r57 0 0 [4, 5]) >>= fun r59 =>
  (e16 qq 3) >>= fun r61 =>
  (e33 qq (⟨#[116, 114, 117, 101]⟩ : ByteArray) r61 3 0 0) >>= fun r63 =>
  (e16 qq 3) >>= fun r65 =>
  (e33 qq (⟨#[102, 97, 108, 115, 101]⟩ : ByteArray) r65 3 1 0) >>= fun r67 =>
  (e26 qq 0) >>= fun r69 =>
  (e26 qq 0) >>= fun r71 =>
  (e22 qq r69 r71) >>= fun r73 =>
  (e29 qq (⟨#[76, 105, 115, 116]⟩ : ByteArray) r73 1 0 [7, 8]) >>= fun r75 =>
  (e26 qq 0) >>= fun r77 =>
  (e16 qq 6) >>= fun r79 =>
  (e30 qq 0) >>= fun r81 =>
  (e23 qq r79 [r81]) >>= fun r83 =>
  (e22 qq r77 r83) >>= fun r85 =>
  (e33 qq (⟨#[110, 105, 108]⟩ : ByteArray) r85 6 0 1) >>= fun r87 =>
  (e26 qq 0) >>= fun r89 =>
  (e30 qq 0) >>= fun r91 =>
  (e16 qq 6) >>= fun r93 =>
  (e30 qq 1) >>= fun r95 =>
  (e23 qq r93 [r95]) >>= fun r97 =>
  (e16 qq 6) >>= fun r99 =>
  (e30 qq 2) >>= fun r101 =>
  (e23 qq r99 [r101]) >>= fun r103 =>
  (e22 qq r97 r103) >>= fun r105 =>
  (e22 qq r91 r105) >>= fun r107 =>
  (e22 qq r89 r107) >>= fun r109 =>
  (e33 qq (⟨#[99, 111, 110, 115]⟩ : ByteArray) r109 6 1 1) >>= fun r111 =>
  (e26 qq 0) >>= fun r113 =>
  (e26 qq 0) >>= fun r115 =>
  (e22 qq r1 r115) >>= fun r117 =>
  (e22 qq r113 r117) >>= fun r119 =>
  (e29 qq (⟨#[86, 101, 99]⟩ : ByteArray) r119 1 1 [10, 11]) >>= fun r121 =>
  (e26 qq 0) >>= fun r123 =>
  (e16 qq 9) >>= fun r125 =>
  (e30 qq 0) >>= fun r127 =>
  (e16 qq 1) >>= fun r129 =>
  (e23 qq r125 [r127, r129]) >>= fun r131 =>
  (e22 qq r123 r131) >>= fun r133 =>
  (e33 qq (⟨#[118, 110, 105, 108]⟩ : ByteArray) r133 9 0 1) >>= fun r135 =>
  (e26 qq 0) >>= fun r137 =>
  (e30 qq 1) >>= fun r139 =>
  (e16 qq 9) >>= fun r141 =>
  (e30 qq 2) >>= fun r143 =>
  (e30 qq 1) >>= fun r145 =>
  (e23 qq r141 [r143, r145]) >>= fun r147 =>
  (e16 qq 9) >>= fun r149 =>
  (e30 qq 3) >>= fun r151 =>
  (e16 qq 2) >>= fun r153 =>
  (e30 qq 2) >>= fun r155 =>
  (e23 qq r153 [r155]) >>= fun r157 =>
  (e23 qq r149 [r151, r157]) >>= fun r159 =>
  (e22 qq r147 r159) >>= fun r161 =>
  (e22 qq r139 r161) >>= fun r163 =>
  (e22 qq r1 r163) >>= fun r165 =>
  (e22 qq r137 r165) >>= fun r167 =>
  (e33 qq (⟨#[118, 99, 111, 110, 115]⟩ : ByteArray) r167 9 1 1) >>= fun r169 =>
  (e26 qq 0) >>= fun r171 =>
  (e30 qq 0) >>= fun r173 =>
  (e30 qq 1) >>= fun r175 =>
  (e26 qq 0) >>= fun r177 =>
  (e22 qq r175 r177) >>= fun r179 =>
  (e22 qq r173 r179) >>= fun r181 =>
  (e22 qq r171 r181) >>= fun r183 =>
  (e29 qq (⟨#[69, 113]⟩ : ByteArray) r183 2 1 [13]) >>= fun r185 =>
  (e26 qq 0) >>= fun r187 =>
  (e30 qq 0) >>= fun r189 =>
  (e16 qq 12) >>= fun r191 =>
  (e30 qq 1) >>= fun r193 =>
  (e30 qq 0) >>= fun r195 =>
  (e30 qq 0) >>= fun r197 =>
  (e23 qq r191 [r193, r195, r197]) >>= fun r199 =>
  (e22 qq r189 r199) >>= fun r201 =>
  (e22 qq r187 r201) >>= fun r203 =>
  (e33 qq (⟨#[114, 101, 102, 108]⟩ : ByteArray) r203 12 0 2) >>= fun r205 =>
  (e26 qq 0) >>= fun r207 =>
  (e26 qq 0) >>= fun r209 =>
  (e30 qq 1) >>= fun r211 =>
  (e30 qq 1) >>= fun r213 =>
  (e16 qq 14) >>= fun r215 =>
  (e30 qq 3) >>= fun r217 =>
  (e30 qq 2) >>= fun r219 =>
  (e23 qq r215 [r217, r219]) >>= fun r221 =>
  (e22 qq r213 r221) >>= fun r223 =>
  (e22 qq r211 r223) >>= fun r225 =>
  (e22 qq r209 r225) >>= fun r227 =>
  (e22 qq r207 r227) >>= fun r229 =>
  (e33 qq (⟨#[112, 97, 105, 114]⟩ : ByteArray) r229 14 0 2) >>= fun r231 =>
  (e26 qq 0) >>= fun r233 =>
  (e26 qq 0) >>= fun r235 =>
  (e30 qq 2) >>= fun r237 =>
  (e22 qq r21 r237) >>= fun r239 =>
  (e22 qq r235 r239) >>= fun r241 =>
  (e22 qq r233 r241) >>= fun r243 =>
  (e34 qq (⟨#[102, 115, 116]⟩ : ByteArray) r243 0) >>= fun r245 =>
  (e26 qq 0) >>= fun r247 =>
  (e26 qq 0) >>= fun r249 =>
  (e30 qq 1) >>= fun r251 =>
  (e22 qq r21 r251) >>= fun r253 =>
  (e22 qq r249 r253) >>= fun r255 =>
  (e22 qq r247 r255) >>= fun r257 =>
  (e34 qq (⟨#[115, 110, 100]⟩ : ByteArray) r257 1) >>= fun r259 =>
  (e26 qq 0) >>= fun r261 =>
  (e29 qq (⟨#[84, 114, 101, 101]⟩ : ByteArray) r261 0 0 [19, 20]) >>= fun r263 =>
  (e16 qq 18) >>= fun r265 =>
  (e33 qq (⟨#[108, 101, 97, 102]⟩ : ByteArray) r265 18 0 0) >>= fun r267 =>
  (e16 qq 18) >>= fun r269 =>
  (e22 qq r1 r269) >>= fun r271 =>
  (e16 qq 18) >>= fun r273 =>
  (e22 qq r271 r273) >>= fun r275 =>
  (e33 qq (⟨#[110, 111, 100, 101]⟩ : ByteArray) r275 18 1 0) >>= fun r277 =>
  (e22 qq r1 r1) >>= fun r279 =>
  (e22 qq r1 r279) >>= fun r281 =>
  (e26 qq 0) >>= fun r283 =>
  (e30 qq 0) >>= fun r285 =>
  (e30 qq 1) >>= fun r287 =>
  (e22 qq r285 r287) >>= fun r289 =>
  (e22 qq r283 r289) >>= fun r291 =>
  (e26 qq 0) >>= fun r293 =>
  (e30 qq 0) >>= fun r295 =>
  (e30 qq 0) >>= fun r297 =>
  (e31 qq r295 r297) >>= fun r299 =>
  (e31 qq r293 r299) >>= fun r301 =>
  some [r49, r51, r55, r59, r63, r67, r75, r87, r111, r121, r135, r169, r185, r205, (Ent.mk r13.kind r13.name r13.type r13.body r13.fam r13.place r13.pars r13.inds r13.level r13.cons [16, 17]), r231, r245, r259, r263, r267, r277, (Ent.mk 3 (⟨#[112, 108, 117, 115]⟩ : ByteArray) r281 r45 0 0 0 0 0 [] []), (Ent.mk 3 (⟨#[105, 100]⟩ : ByteArray) r291 r301 0 0 0 0 0 [] [])]
theorem q9 : Tryz.prog.funcs[9]? = some Tryz.f9 ∧ Tryz.f9.body.isNone = false := ⟨Tryz.func9, by kernel_rfl⟩
theorem k9  {r : List Ent} (h : CTri Tryz.prog 9 [] [] (.sl (flat entL r) (List.length r) .no) [] 0) : CT Tryz.prog 9 [] [] (.sl (flat entL r) (List.length r) .no) [] 0 := ⟨h, trivial, forall_nil, dE _, forall_nil⟩
theorem c9 {qq : Nat}  {r : List Ent} (h : e9 qq  = some r) : CT Tryz.prog 9 [] [] (.sl (flat entL r) (List.length r) .no) [] 0 := by
  unfold e9 at h
  obtain ⟨r1, h2, h⟩ := obind h
  obtain ⟨r3, h4, h⟩ := obind h
  obtain ⟨r5, h6, h⟩ := obind h
  obtain ⟨r7, h8, h⟩ := obind h
  obtain ⟨r9, h10, h⟩ := obind h
  obtain ⟨r11, h12, h⟩ := obind h
  obtain ⟨r13, h14, h⟩ := obind h
  obtain ⟨r15, h16, h⟩ := obind h
  obtain ⟨r17, h18, h⟩ := obind h
  obtain ⟨r19, h20, h⟩ := obind h
  obtain ⟨r21, h22, h⟩ := obind h
  obtain ⟨r23, h24, h⟩ := obind h
  obtain ⟨r25, h26, h⟩ := obind h
  obtain ⟨r27, h28, h⟩ := obind h
  obtain ⟨r29, h30, h⟩ := obind h
  obtain ⟨r31, h32, h⟩ := obind h
  obtain ⟨r33, h34, h⟩ := obind h
  obtain ⟨r35, h36, h⟩ := obind h
  obtain ⟨r37, h38, h⟩ := obind h
  obtain ⟨r39, h40, h⟩ := obind h
  obtain ⟨r41, h42, h⟩ := obind h
  obtain ⟨r43, h44, h⟩ := obind h
  obtain ⟨r45, h46, h⟩ := obind h
  obtain ⟨r47, h48, h⟩ := obind h
  obtain ⟨r49, h50, h⟩ := obind h
  obtain ⟨r51, h52, h⟩ := obind h
  obtain ⟨r53, h54, h⟩ := obind h
  obtain ⟨r55, h56, h⟩ := obind h
  obtain ⟨r57, h58, h⟩ := obind h
  obtain ⟨r59, h60, h⟩ := obind h
  obtain ⟨r61, h62, h⟩ := obind h
  obtain ⟨r63, h64, h⟩ := obind h
  obtain ⟨r65, h66, h⟩ := obind h
  obtain ⟨r67, h68, h⟩ := obind h
  obtain ⟨r69, h70, h⟩ := obind h
  obtain ⟨r71, h72, h⟩ := obind h
  obtain ⟨r73, h74, h⟩ := obind h
  obtain ⟨r75, h76, h⟩ := obind h
  obtain ⟨r77, h78, h⟩ := obind h
  obtain ⟨r79, h80, h⟩ := obind h
  obtain ⟨r81, h82, h⟩ := obind h
  obtain ⟨r83, h84, h⟩ := obind h
  obtain ⟨r85, h86, h⟩ := obind h
  obtain ⟨r87, h88, h⟩ := obind h
  obtain ⟨r89, h90, h⟩ := obind h
  obtain ⟨r91, h92, h⟩ := obind h
  obtain ⟨r93, h94, h⟩ := obind h
  obtain ⟨r95, h96, h⟩ := obind h
  obtain ⟨r97, h98, h⟩ := obind h
  obtain ⟨r99, h100, h⟩ := obind h
  obtain ⟨r101, h102, h⟩ := obind h
  obtain ⟨r103, h104, h⟩ := obind h
  obtain ⟨r105, h106, h⟩ := obind h
  obtain ⟨r107, h108, h⟩ := obind h
  obtain ⟨r109, h110, h⟩ := obind h
  obtain ⟨r111, h112, h⟩ := obind h
  obtain ⟨r113, h114, h⟩ := obind h
  obtain ⟨r115, h116, h⟩ := obind h
  obtain ⟨r117, h118, h⟩ := obind h
  obtain ⟨r119, h120, h⟩ := obind h
  obtain ⟨r121, h122, h⟩ := obind h
  obtain ⟨r123, h124, h⟩ := obind h
  obtain ⟨r125, h126, h⟩ := obind h
  obtain ⟨r127, h128, h⟩ := obind h
  obtain ⟨r129, h130, h⟩ := obind h
  obtain ⟨r131, h132, h⟩ := obind h
  obtain ⟨r133, h134, h⟩ := obind h
  obtain ⟨r135, h136, h⟩ := obind h
  obtain ⟨r137, h138, h⟩ := obind h
  obtain ⟨r139, h140, h⟩ := obind h
  obtain ⟨r141, h142, h⟩ := obind h
  obtain ⟨r143, h144, h⟩ := obind h
  obtain ⟨r145, h146, h⟩ := obind h
  obtain ⟨r147, h148, h⟩ := obind h
  obtain ⟨r149, h150, h⟩ := obind h
  obtain ⟨r151, h152, h⟩ := obind h
  obtain ⟨r153, h154, h⟩ := obind h
  obtain ⟨r155, h156, h⟩ := obind h
  obtain ⟨r157, h158, h⟩ := obind h
  obtain ⟨r159, h160, h⟩ := obind h
  obtain ⟨r161, h162, h⟩ := obind h
  obtain ⟨r163, h164, h⟩ := obind h
  obtain ⟨r165, h166, h⟩ := obind h
  obtain ⟨r167, h168, h⟩ := obind h
  obtain ⟨r169, h170, h⟩ := obind h
  obtain ⟨r171, h172, h⟩ := obind h
  obtain ⟨r173, h174, h⟩ := obind h
  obtain ⟨r175, h176, h⟩ := obind h
  obtain ⟨r177, h178, h⟩ := obind h
  obtain ⟨r179, h180, h⟩ := obind h
  obtain ⟨r181, h182, h⟩ := obind h
  obtain ⟨r183, h184, h⟩ := obind h
  obtain ⟨r185, h186, h⟩ := obind h
  obtain ⟨r187, h188, h⟩ := obind h
  obtain ⟨r189, h190, h⟩ := obind h
  obtain ⟨r191, h192, h⟩ := obind h
  obtain ⟨r193, h194, h⟩ := obind h
  obtain ⟨r195, h196, h⟩ := obind h
  obtain ⟨r197, h198, h⟩ := obind h
  obtain ⟨r199, h200, h⟩ := obind h
  obtain ⟨r201, h202, h⟩ := obind h
  obtain ⟨r203, h204, h⟩ := obind h
  obtain ⟨r205, h206, h⟩ := obind h
  obtain ⟨r207, h208, h⟩ := obind h
  obtain ⟨r209, h210, h⟩ := obind h
  obtain ⟨r211, h212, h⟩ := obind h
  obtain ⟨r213, h214, h⟩ := obind h
  obtain ⟨r215, h216, h⟩ := obind h
  obtain ⟨r217, h218, h⟩ := obind h
  obtain ⟨r219, h220, h⟩ := obind h
  obtain ⟨r221, h222, h⟩ := obind h
  obtain ⟨r223, h224, h⟩ := obind h
  obtain ⟨r225, h226, h⟩ := obind h
  obtain ⟨r227, h228, h⟩ := obind h
  obtain ⟨r229, h230, h⟩ := obind h
  obtain ⟨r231, h232, h⟩ := obind h
  obtain ⟨r233, h234, h⟩ := obind h
  obtain ⟨r235, h236, h⟩ := obind h
  obtain ⟨r237, h238, h⟩ := obind h
  obtain ⟨r239, h240, h⟩ := obind h
  obtain ⟨r241, h242, h⟩ := obind h
  obtain ⟨r243, h244, h⟩ := obind h
  obtain ⟨r245, h246, h⟩ := obind h
  obtain ⟨r247, h248, h⟩ := obind h
  obtain ⟨r249, h250, h⟩ := obind h
  obtain ⟨r251, h252, h⟩ := obind h
  obtain ⟨r253, h254, h⟩ := obind h
  obtain ⟨r255, h256, h⟩ := obind h
  obtain ⟨r257, h258, h⟩ := obind h
  obtain ⟨r259, h260, h⟩ := obind h
  obtain ⟨r261, h262, h⟩ := obind h
  obtain ⟨r263, h264, h⟩ := obind h
  obtain ⟨r265, h266, h⟩ := obind h
  obtain ⟨r267, h268, h⟩ := obind h
  obtain ⟨r269, h270, h⟩ := obind h
  obtain ⟨r271, h272, h⟩ := obind h
  obtain ⟨r273, h274, h⟩ := obind h
  obtain ⟨r275, h276, h⟩ := obind h
  obtain ⟨r277, h278, h⟩ := obind h
  obtain ⟨r279, h280, h⟩ := obind h
  obtain ⟨r281, h282, h⟩ := obind h
  obtain ⟨r283, h284, h⟩ := obind h
  obtain ⟨r285, h286, h⟩ := obind h
  obtain ⟨r287, h288, h⟩ := obind h
  obtain ⟨r289, h290, h⟩ := obind h
  obtain ⟨r291, h292, h⟩ := obind h
  obtain ⟨r293, h294, h⟩ := obind h
  obtain ⟨r295, h296, h⟩ := obind h
  obtain ⟨r297, h298, h⟩ := obind h
  obtain ⟨r299, h300, h⟩ := obind h
  obtain ⟨r301, h302, h⟩ := obind h
  obtain rfl := sj h
  exact k9 (tF q9 1 [] (oD (dE [r49, r51, r55, r59, r63, r67, r75, r87, r111, r121, r135, r169, r185, r205, (Ent.mk r13.kind r13.name r13.type r13.body r13.fam r13.place r13.pars r13.inds r13.level r13.cons [16, 17]), r231, r245, r259, r263, r267, r277, (Ent.mk 3 (⟨#[112, 108, 117, 115]⟩ : ByteArray) r281 r45 0 0 0 0 0 [] []), (Ent.mk 3 (⟨#[105, 100]⟩ : ByteArray) r291 r301 0 0 0 0 0 [] [])]) <| oC 0 [] (c31 h302) <| oC 0 [] (c31 h300) <| oC 0 [] (c30 h298) <| oC 0 [] (c30 h296) <| oC 0 [] (c26 h294) <| oC 0 [] (c22 h292) <| oC 0 [] (c22 h290) <| oC 0 [] (c30 h288) <| oC 0 [] (c30 h286) <| oC 1 [] (c26 h284) <| oC 0 [] (c22 h282) <| oC 3 [] (c22 h280) <| oC 0 [] (c33 h278) <| oC 0 [] (c22 h276) <| oC 0 [] (c16 h274) <| oC 0 [] (c22 h272) <| oC 1 [] (c16 h270) <| oC 0 [] (c33 h268) <| oC 0 [] (c16 h266) <| oC 1 [] (c29 h264) <| oC 0 [] (c26 h262) <| oC 0 [] (c34 h260) <| oC 0 [] (c22 h258) <| oC 0 [] (c22 h256) <| oC 0 [] (c22 h254) <| oC 1 [] (c30 h252) <| oC 0 [] (c26 h250) <| oC 0 [] (c26 h248) <| oC 0 [] (c34 h246) <| oC 0 [] (c22 h244) <| oC 0 [] (c22 h242) <| oC 0 [] (c22 h240) <| oC 1 [] (c30 h238) <| oC 0 [] (c26 h236) <| oC 0 [] (c26 h234) <| oC 0 [] (c33 h232) <| oC 0 [] (c22 h230) <| oC 0 [] (c22 h228) <| oC 0 [] (c22 h226) <| oC 0 [] (c22 h224) <| oC 0 [] (c23 h222) <| oS 0 (obLitR tm_eq [r217, r219]) <| oC 0 [] (c30 h220) <| oC 0 [] (c30 h218) <| oC 0 [] (c16 h216) <| oC 0 [] (c30 h214) <| oC 0 [] (c30 h212) <| oC 0 [] (c26 h210) <| oC 1 [] (c26 h208) <| oC 0 [] (c33 h206) <| oC 0 [] (c22 h204) <| oC 0 [] (c22 h202) <| oC 0 [] (c23 h200) <| oS 0 (obLitR tm_eq [r193, r195, r197]) <| oC 0 [] (c30 h198) <| oC 0 [] (c30 h196) <| oC 0 [] (c30 h194) <| oC 0 [] (c16 h192) <| oC 0 [] (c30 h190) <| oC 0 [] (c26 h188) <| oC 1 [] (c29 h186) <| oC 0 [] (c22 h184) <| oC 0 [] (c22 h182) <| oC 0 [] (c22 h180) <| oC 0 [] (c26 h178) <| oC 0 [] (c30 h176) <| oC 0 [] (c30 h174) <| oC 0 [] (c26 h172) <| oC 0 [] (c33 h170) <| oC 0 [] (c22 h168) <| oC 0 [] (c22 h166) <| oC 0 [] (c22 h164) <| oC 0 [] (c22 h162) <| oC 0 [] (c23 h160) <| oS 0 (obLitR tm_eq [r151, r157]) <| oC 0 [] (c23 h158) <| oS 0 (obLitR tm_eq [r155]) <| oC 0 [] (c30 h156) <| oC 0 [] (c16 h154) <| oC 0 [] (c30 h152) <| oC 0 [] (c16 h150) <| oC 0 [] (c23 h148) <| oS 0 (obLitR tm_eq [r143, r145]) <| oC 0 [] (c30 h146) <| oC 0 [] (c30 h144) <| oC 0 [] (c16 h142) <| oC 1 [] (c30 h140) <| oC 0 [] (c26 h138) <| oC 0 [] (c33 h136) <| oC 0 [] (c22 h134) <| oC 0 [] (c23 h132) <| oS 0 (obLitR tm_eq [r127, r129]) <| oC 0 [] (c16 h130) <| oC 0 [] (c30 h128) <| oC 0 [] (c16 h126) <| oC 0 [] (c26 h124) <| oC 1 [] (c29 h122) <| oC 0 [] (c22 h120) <| oC 0 [] (c22 h118) <| oC 1 [] (c26 h116) <| oC 0 [] (c26 h114) <| oC 0 [] (c33 h112) <| oC 0 [] (c22 h110) <| oC 0 [] (c22 h108) <| oC 0 [] (c22 h106) <| oC 0 [] (c23 h104) <| oS 0 (obLitR tm_eq [r101]) <| oC 0 [] (c30 h102) <| oC 0 [] (c16 h100) <| oC 0 [] (c23 h98) <| oS 0 (obLitR tm_eq [r95]) <| oC 0 [] (c30 h96) <| oC 0 [] (c16 h94) <| oC 0 [] (c30 h92) <| oC 0 [] (c26 h90) <| oC 0 [] (c33 h88) <| oC 0 [] (c22 h86) <| oC 0 [] (c23 h84) <| oS 0 (obLitR tm_eq [r81]) <| oC 0 [] (c30 h82) <| oC 0 [] (c16 h80) <| oC 0 [] (c26 h78) <| oC 1 [] (c29 h76) <| oC 0 [] (c22 h74) <| oC 0 [] (c26 h72) <| oC 0 [] (c26 h70) <| oC 0 [] (c33 h68) <| oC 0 [] (c16 h66) <| oC 0 [] (c33 h64) <| oC 0 [] (c16 h62) <| oC 1 [] (c29 h60) <| oC 0 [] (c26 h58) <| oC 0 [] (c33 h56) <| oC 2 [] (c22 h54) <| oC 1 [] (c33 h52) <| oC 1 [] (c29 h50) <| oC 1 [] (c26 h48) <| oC 0 [] (c31 h46) <| oC 0 [] (c31 h44) <| oC 0 [] (c23 h42) <| oS 0 (obLitR tm_eq [r25, r27, r37, r39]) <| oC 0 [] (c30 h40) <| oC 0 [] (c31 h38) <| oC 0 [] (c31 h36) <| oC 0 [] (c23 h34) <| oS 0 (obLitR tm_eq [r31]) <| oC 0 [] (c30 h32) <| oC 2 [] (c16 h30) <| oC 0 [] (c30 h28) <| oC 2 [] (c31 h26) <| oC 3 [] (c32 h24) <| oC 0 [] (c23 h22) <| oS 0 (obLitR tm_eq [r17, r19]) <| oC 0 [] (c30 h20) <| oC 0 [] (c30 h18) <| oC 3 [] (c16 h16) <| oC 1 [] (c29 h14) <| oC 0 [] (c22 h12) <| oC 0 [] (c22 h10) <| oC 0 [] (c26 h8) <| oC 0 [] (c26 h6) <| oC 1 [] (c26 h4) <| oC 0 [] (c16 h2) o0) (by kernel_rfl))

end Go.Proofs.YtlbmblbeccafcaaGreat

namespace Go.Proofs.YtlbmblbeccafcaaGreat
open Go Go.Ab

/- scholium/scholiumlaw23.machine -/
def e15 (qq : Nat) (p0 : Int) : Option (List Ent × List Int × List Int × Int × Int × List Ent × List Con') :=
  (e9 qq) >>= fun r1 =>
  (e11 qq r1) >>= fun r3 =>
  (e12 qq p0) >>= fun r5 =>
  some (r3.2.1, r3.2.2.1, r3.2.2.2.1, r5.2.1, r5.2.2, r3.2.2.2.2.1, r3.2.2.2.2.2)
theorem q15 : Tryz.prog.funcs[15]? = some Tryz.f15 ∧ Tryz.f15.body.isNone = false := ⟨Tryz.func15, by kernel_rfl⟩
theorem k15 {p0 : Int} {r : List Ent × List Int × List Int × Int × Int × List Ent × List Con'} (h : CTri Tryz.prog 15 [] [ai p0] (.tup [.mp 0 0, .mp 1 0]) [.cells [.sl (flat entL r.1) (List.length r.1) .no, .mp 2 0, .sl (flat intC r.2.1) (List.length r.2.1) .no, .sl (flat intC r.2.2.1) (List.length r.2.2.1) .no], .cells [ai r.2.2.2.1, ai r.2.2.2.2.1], .cells [.sl (flat entL r.2.2.2.2.2.1) (List.length r.2.2.2.2.2.1) .no, .sl (flat conL r.2.2.2.2.2.2) (List.length r.2.2.2.2.2.2) .no]] 0) : CT Tryz.prog 15 [] [ai p0] (.tup [.mp 0 0, .mp 1 0]) [.cells [.sl (flat entL r.1) (List.length r.1) .no, .mp 2 0, .sl (flat intC r.2.1) (List.length r.2.1) .no, .sl (flat intC r.2.2.1) (List.length r.2.2.1) .no], .cells [ai r.2.2.2.1, ai r.2.2.2.2.1], .cells [.sl (flat entL r.2.2.2.2.2.1) (List.length r.2.2.2.2.2.1) .no, .sl (flat conL r.2.2.2.2.2.2) (List.length r.2.2.2.2.2.2) .no]] 0 := ⟨h, ⟨trivial, trivial⟩, forall_nil, ⟨(show 0 < 3 by decide), (show 1 < 3 by decide), trivial⟩, (forall_cons ⟨dE _, (show 2 < 3 by decide), dI _, dI _, trivial⟩ (forall_cons ⟨trivial, trivial, trivial⟩ (forall_cons ⟨dE _, dC _, trivial⟩ forall_nil)))⟩
theorem c15 {qq : Nat} {p0 : Int} {r : List Ent × List Int × List Int × Int × Int × List Ent × List Con'} (h : e15 qq p0 = some r) : CT Tryz.prog 15 [] [ai p0] (.tup [.mp 0 0, .mp 1 0]) [.cells [.sl (flat entL r.1) (List.length r.1) .no, .mp 2 0, .sl (flat intC r.2.1) (List.length r.2.1) .no, .sl (flat intC r.2.2.1) (List.length r.2.2.1) .no], .cells [ai r.2.2.2.1, ai r.2.2.2.2.1], .cells [.sl (flat entL r.2.2.2.2.2.1) (List.length r.2.2.2.2.2.1) .no, .sl (flat conL r.2.2.2.2.2.2) (List.length r.2.2.2.2.2.2) .no]] 0 := by
  unfold e15 at h
  obtain ⟨r1, h2, h⟩ := obind h
  obtain ⟨r3, h4, h⟩ := obind h
  obtain ⟨r5, h6, h⟩ := obind h
  obtain rfl := sj h
  exact k15 (tF q15 2 [0, 2, 1] (oD (dC r3.2.2.2.2.2) <| oD (dE r3.2.2.2.2.1) <| oD (dI r3.2.2.2.1) <| oD (dI r3.2.2.1) <| oD (dE r3.2.1) <| oC 2 [] (c12 h6) <| oC 0 [] (c11 h4) <| oC 0 [] (c9 h2) o0) (by kernel_rfl))

end Go.Proofs.YtlbmblbeccafcaaGreat

namespace Go.Proofs.YtlbmblbeccafcaaGreat
open Go Go.Ab

/- scholium/free.fits -/
def e173 (qq : Nat) (p0 : Int) : Option (Bool) :=
  if decide (p0 ≥ 0) = true then
    some (decide (p0 ≤ 1048576))
  else
    none
theorem q173 : Tryz.prog.funcs[173]? = some Tryz.f173 ∧ Tryz.f173.body.isNone = false := ⟨Tryz.func173, by kernel_rfl⟩
theorem k173 {p0 : Int} {r : Bool} (h : CTri Tryz.prog 173 [] [ai p0] (ab r) [] 0) : CT Tryz.prog 173 [] [ai p0] (ab r) [] 0 := ⟨h, ⟨trivial, trivial⟩, forall_nil, trivial, forall_nil⟩
theorem c173 {qq : Nat} {p0 : Int} {r : Bool} (h : e173 qq p0 = some r) : CT Tryz.prog 173 [] [ai p0] (ab r) [] 0 := by
  unfold e173 at h
  obtain ⟨h1, h⟩ := splT h
  obtain rfl := sj h
  exact k173 (tF q173 1 [] (oB 0 h1 o0) (by kernel_rfl))

end Go.Proofs.YtlbmblbeccafcaaGreat

namespace Go.Proofs.YtlbmblbeccafcaaGreat
open Go Go.Ab

/- scholium/free.places -/
def e121L57612 : Nat → (List FreeVar) → Int → (List (Int × Int)) →  Option ((List (Int × Int)))
  | 0, _, _, _ => none
  | qq + 1, p0, v12, vb0_0 =>
    if decide (v12 < (List.length p0 : Int)) = true then
      (gidx p0 v12) >>= fun x2 =>
      (e173 qq x2.n_) >>= fun r4 =>
      if r4 = true then
        (e51 qq x2.type_) >>= fun r7 =>
        if r7 = true then
          if decide ((List.length p0 : Int) > 256) = true then
            none
          else
            if (ihas vb0_0 x2.n_) = true then
              none
            else
              e121L57612 qq p0 (w64 (v12 + 1)) (iset vb0_0 x2.n_ v12)
        else
          none
      else
        none
    else
      some vb0_0
def e121 (qq : Nat) (p0 : List FreeVar) : Option ((List (Int × Int))) :=
  e121L57612 qq p0 0 ([] : List (Int × Int))
def g121L57612E0 (j : Nat → Value) (p0 : List FreeVar) (v12 : Int) (vb0_0 : List (Int × Int)) : List AV := sp j 47 0 [(0, .sl (flat freeVarL p0) (List.length p0) .no), (4, .obj 0), (10, .sl (flat freeVarL p0) (List.length p0) .no), (11, ai (List.length p0 : Int)), (12, ai v12)]
def g121L57612S0 (p0 : List FreeVar) (v12 : Int) (vb0_0 : List (Int × Int)) : LSt := ⟨[(0, imap vb0_0)], 1, [], 0, []⟩
theorem q121 : Tryz.prog.funcs[121]? = some Tryz.f121 ∧ Tryz.f121.body.isNone = false := ⟨Tryz.func121, by kernel_rfl⟩
theorem k121 {p0 : List FreeVar} {r : (List (Int × Int))} (h : CTri Tryz.prog 121 [] [.sl (flat freeVarL p0) (List.length p0) .no] (.tup [.obj 0, ab true]) [imap r] 0) : CT Tryz.prog 121 [] [.sl (flat freeVarL p0) (List.length p0) .no] (.tup [.obj 0, ab true]) [imap r] 0 := ⟨h, ⟨⟨trivial, dFreeVar _⟩, trivial⟩, forall_nil, ⟨(show 0 < 1 by decide), trivial, trivial⟩, (forall_cons trivial forall_nil)⟩
theorem l121L57612 : ∀ qq : Nat, (∀ (p0 : List FreeVar) (v12 : Int) (vb0_0 : List (Int × Int)) (r : (List (Int × Int))), e121L57612 qq p0 v12 vb0_0 = some r → (∀ j, Dl Tryz.prog 0 (inn (inn (rgt (lft (rgt (rgt (bod Tryz.f121))))))) (g121L57612E0 j p0 v12 vb0_0) (g121L57612S0 p0 v12 vb0_0) (frameQ Tryz.prog 0 (FinQ Tryz.prog 0 Tryz.f121 (.tup [.obj 0, ab true]) [imap r] 0) [.blk 0, .seq (rgt (rgt (rgt (bod Tryz.f121))))]))) := by
  intro qq
  induction qq with
  | zero =>
    exact fun _ _ _ _ h => nn h
  | succ qq ih =>
    intro p0 v12 vb0_0 r h
    rw [e121L57612] at h
    rcases spl h with ⟨h1, h⟩ | ⟨h1, h⟩
    · obtain ⟨x2, h3, h⟩ := obind h
      obtain ⟨r4, h5, h⟩ := obind h
      have k := oA 0 (ix42 (o := .no) h3) <| oB 0 h1 o0
      obtain ⟨h6, h⟩ := splT h
      obtain ⟨r7, h8, h⟩ := obind h
      have k := oK 3 [] h6 (c173 h5) k
      obtain ⟨h9, h⟩ := splT h
      have k := oK 2 [] h9 (c51 h8) k
      obtain ⟨h10, h⟩ := splF h
      have k := oL 1 (lkJ91 vb0_0 x2.n_) <| oB 2 h10 k
      obtain ⟨h11, h⟩ := splF h
      exact fun j => lH 1 [] [0] [] [0, 4, 10, 11, 12] (oD (dFreeVar p0) <| oD (dFreeVar p0) <| oU 2 (muI91 vb0_0 x2.n_ v12) <| oB 1 h11 k) (ih _ _ _ _ h) (fun j => by kernel_rfl)
    · obtain rfl := sj h
      exact fun j => lF 0 [0] (oB 0 h1 o0) (by kernel_rfl)
theorem c121 {qq : Nat} {p0 : List FreeVar} {r : (List (Int × Int))} (h : e121 qq p0 = some r) : CT Tryz.prog 121 [] [.sl (flat freeVarL p0) (List.length p0) .no] (.tup [.obj 0, ab true]) [imap r] 0 := by
  unfold e121 at h
  exact k121 (tH q121 1 [] [0] [] [0, 4, 10, 11, 12] (oD (dFreeVar p0) <| oD (dFreeVar p0) o0) (l121L57612 _ _ _ _ _ h) (fun j => by kernel_rfl))

end Go.Proofs.YtlbmblbeccafcaaGreat

namespace Go.Proofs.YtlbmblbeccafcaaGreat
open Go Go.Ab

/- scholium/term.Loose -/
def e70 (qq : Nat) (p0 : Tm) : Option (Int) :=
  (e51 qq p0) >>= fun r1 =>
  if r1 = true then
    (e72 qq p0 0) >>= fun r4 =>
    some r4
  else
    none
theorem q70 : Tryz.prog.funcs[70]? = some Tryz.f70 ∧ Tryz.f70.body.isNone = false := ⟨Tryz.func70, by kernel_rfl⟩
theorem k70 {p0 : Tm} {r : Int} (h : CTri Tryz.prog 70 [] [tmA p0] (ai r) [] 0) : CT Tryz.prog 70 [] [tmA p0] (ai r) [] 0 := ⟨h, ⟨⟨trivial, trivial, ⟨trivial, dT _⟩, trivial⟩, trivial⟩, forall_nil, trivial, forall_nil⟩
theorem c70 {qq : Nat} {p0 : Tm} {r : Int} (h : e70 qq p0 = some r) : CT Tryz.prog 70 [] [tmA p0] (ai r) [] 0 := by
  unfold e70 at h
  obtain ⟨r1, h2, h⟩ := obind h
  obtain ⟨h3, h⟩ := splT h
  obtain ⟨r4, h5, h⟩ := obind h
  obtain rfl := sj h
  exact k70 (tF q70 0 [] (oC 2 [] (c72 h5) <| oK 1 [] h3 (c51 h2) o0) (by kernel_rfl))

end Go.Proofs.YtlbmblbeccafcaaGreat

namespace Go.Proofs.YtlbmblbeccafcaaGreat
open Go Go.Ab

/- scholium/free.Right -/
mutual
def e78L10781 : Nat → (List FreeVar) → (List (Int × Int)) → Int →  Option (Bool)
  | 0, _, _, _ => none
  | qq + 1, p0, r1, v27 =>
    if decide (v27 < (List.length p0 : Int)) = true then
      (gidx p0 v27) >>= fun x5 =>
      (e70 qq x5.type_) >>= fun r7 =>
      if decide (r7 > 0) = true then
        none
      else
        (e71 qq x5.type_) >>= fun r10 =>
        e78L34445 qq p0 r1 v27 r10 0
    else
      some true
def e78L34445 : Nat → (List FreeVar) → (List (Int × Int)) → Int → (List Int) → Int →  Option (Bool)
  | 0, _, _, _, _, _ => none
  | qq + 1, p0, r1, v27, r10, v40 =>
    if decide (v40 < (List.length r10 : Int)) = true then
      none
    else
      e78L10781 qq p0 r1 (w64 (v27 + 1))
end
def e78 (qq : Nat) (p0 : List FreeVar) : Option (Bool) :=
  (e121 qq p0) >>= fun r1 =>
  if ((List.length r1 : Int) != (List.length p0 : Int)) = true then
    none
  else
    e78L10781 qq p0 r1 0
def g78L10781E0 (j : Nat → Value) (p0 : List FreeVar) (r1 : (List (Int × Int))) (v27 : Int) : List AV := sp j 58 0 [(3, .obj 0), (25, .sl (flat freeVarL p0) (List.length p0) .no), (26, ai (List.length p0 : Int)), (27, ai v27)]
def g78L10781S0 (p0 : List FreeVar) (r1 : (List (Int × Int))) (v27 : Int) : LSt := ⟨[(0, imap r1)], 1, [], 0, []⟩
def g78L34445E0 (j : Nat → Value) (p0 : List FreeVar) (r1 : (List (Int × Int))) (v27 : Int) (r10 : List Int) (v40 : Int) : List AV := sp j 58 0 [(3, .obj 0), (5, ai v27), (25, .sl (flat freeVarL p0) (List.length p0) .no), (26, ai (List.length p0 : Int)), (27, ai v27), (38, .sl (flat intC r10) (List.length r10) .no), (39, ai (List.length r10 : Int)), (40, ai v40)]
def g78L34445S0 (p0 : List FreeVar) (r1 : (List (Int × Int))) (v27 : Int) (r10 : List Int) (v40 : Int) : LSt := ⟨[(0, imap r1)], 1, [], 0, []⟩
theorem q78 : Tryz.prog.funcs[78]? = some Tryz.f78 ∧ Tryz.f78.body.isNone = false := ⟨Tryz.func78, by kernel_rfl⟩
theorem k78 {p0 : List FreeVar} {r : Bool} (h : CTri Tryz.prog 78 [] [.sl (flat freeVarL p0) (List.length p0) .no] (ab r) [] 0) : CT Tryz.prog 78 [] [.sl (flat freeVarL p0) (List.length p0) .no] (ab r) [] 0 := ⟨h, ⟨⟨trivial, dFreeVar _⟩, trivial⟩, forall_nil, trivial, forall_nil⟩
theorem a78L10781_78L34445 : ∀ qq : Nat, (∀ (p0 : List FreeVar) (r1 : (List (Int × Int))) (v27 : Int) (r : Bool), e78L10781 qq p0 r1 v27 = some r → (∀ j, Dl Tryz.prog 0 (inn (inn (rgt (lft (rgt (rgt (rgt (bod Tryz.f78)))))))) (g78L10781E0 j p0 r1 v27) (g78L10781S0 p0 r1 v27) (frameQ Tryz.prog 0 (FinQ Tryz.prog 0 Tryz.f78 (ab r) [] 0) [.blk 0, .seq (rgt (rgt (rgt (rgt (bod Tryz.f78)))))]))) ∧ (∀ (p0 : List FreeVar) (r1 : (List (Int × Int))) (v27 : Int) (r10 : List Int) (v40 : Int) (r : Bool), e78L34445 qq p0 r1 v27 r10 v40 = some r → (∀ j, Dl Tryz.prog 0 (inn (inn (rgt (rgt (rgt (inn (lft (rgt (rgt (inn (inn (rgt (lft (rgt (rgt (rgt (bod Tryz.f78))))))))))))))))) (g78L34445E0 j p0 r1 v27 r10 v40) (g78L34445S0 p0 r1 v27 r10 v40) (frameQ Tryz.prog 0 (FinQ Tryz.prog 0 Tryz.f78 (ab r) [] 0) [.blk 2, .blk 1, .seq (rgt (rgt (rgt (inn (inn (rgt (lft (rgt (rgt (rgt (bod Tryz.f78))))))))))), .loop (inn (inn (rgt (lft (rgt (rgt (rgt (bod Tryz.f78)))))))), .blk 0, .seq (rgt (rgt (rgt (rgt (bod Tryz.f78)))))]))) := by
  intro qq
  induction qq with
  | zero =>
    exact ⟨fun _ _ _ _ h => nn h, fun _ _ _ _ _ _ h => nn h⟩
  | succ qq ih =>
    obtain ⟨ih78L10781, ih78L34445⟩ := ih
    refine ⟨?_, ?_⟩
    · intro p0 r1 v27 r h
      rw [e78L10781] at h
      rcases spl h with ⟨h4, h⟩ | ⟨h4, h⟩
      · obtain ⟨x5, h6, h⟩ := obind h
        obtain ⟨r7, h8, h⟩ := obind h
        have k := oC 3 [] (c70 h8) <| oA 0 (ix42 (o := .no) h6) <| oB 0 h4 o0
        obtain ⟨h9, h⟩ := splF h
        obtain ⟨r10, h11, h⟩ := obind h
        exact fun j => lH 1 [] [0] [] [3, 5, 25, 26, 27, 38, 39, 40] (oD (dI r10) <| oD (dFreeVar p0) <| oC 1 [] (c71 h11) <| oB 0 h9 k) (ih78L34445 _ _ _ _ _ _ h) (fun j => by kernel_rfl)
      · obtain rfl := sj h
        exact fun j => lF 0 [] (oB 0 h4 o0) (by kernel_rfl)
    · intro p0 r1 v27 r10 v40 r h
      rw [e78L34445] at h
      obtain ⟨h12, h⟩ := splF h
      exact fun j => lH 1 [] [0] [] [3, 25, 26, 27] (oD (dFreeVar p0) <| oB 0 h12 o0) (ih78L10781 _ _ _ _ h) (fun j => by kernel_rfl)
theorem c78 {qq : Nat} {p0 : List FreeVar} {r : Bool} (h : e78 qq p0 = some r) : CT Tryz.prog 78 [] [.sl (flat freeVarL p0) (List.length p0) .no] (ab r) [] 0 := by
  unfold e78 at h
  obtain ⟨r1, h2, h⟩ := obind h
  have k := oN 3 (lnI91 r1) <| oC 0 [] (c121 h2) o0
  obtain ⟨h3, h⟩ := splF h
  exact k78 (tH q78 1 [] [0] [] [3, 25, 26, 27] (oD (dFreeVar p0) <| oB 1 h3 k) (((a78L10781_78L34445 _).1) _ _ _ _ h) (fun j => by kernel_rfl))

end Go.Proofs.YtlbmblbeccafcaaGreat

namespace Go.Proofs.YtlbmblbeccafcaaGreat
open Go Go.Ab

/- (*scholium/whnf.Machine).Len -/
def e42 (qq : Nat) (M : Mach) : Option (Int) :=
  some (List.length M.l : Int)
theorem q42 : Tryz.prog.funcs[42]? = some Tryz.f42 ∧ Tryz.f42.body.isNone = false := ⟨Tryz.func42, by kernel_rfl⟩
theorem k42 {M : Mach} {r : Int} (h : CTri Tryz.prog 42 [.cells [.sl (flat entL M.l) (List.length M.l) .no, .mp 1 0, .sl (flat intC M.args) (List.length M.args) .no, .sl (flat intC M.own) (List.length M.own) .no], .cells [.sl (flat entL M.rl) (List.length M.rl) .no, .sl (flat conL M.parts) (List.length M.parts) .no]] [.mp 0 0] (ai r) [.cells [.sl (flat entL M.l) (List.length M.l) .no, .mp 1 0, .sl (flat intC M.args) (List.length M.args) .no, .sl (flat intC M.own) (List.length M.own) .no], .cells [.sl (flat entL M.rl) (List.length M.rl) .no, .sl (flat conL M.parts) (List.length M.parts) .no]] 0) : CT Tryz.prog 42 [.cells [.sl (flat entL M.l) (List.length M.l) .no, .mp 1 0, .sl (flat intC M.args) (List.length M.args) .no, .sl (flat intC M.own) (List.length M.own) .no], .cells [.sl (flat entL M.rl) (List.length M.rl) .no, .sl (flat conL M.parts) (List.length M.parts) .no]] [.mp 0 0] (ai r) [.cells [.sl (flat entL M.l) (List.length M.l) .no, .mp 1 0, .sl (flat intC M.args) (List.length M.args) .no, .sl (flat intC M.own) (List.length M.own) .no], .cells [.sl (flat entL M.rl) (List.length M.rl) .no, .sl (flat conL M.parts) (List.length M.parts) .no]] 0 := ⟨h, ⟨(show 0 < 2 by decide), trivial⟩, (forall_cons ⟨⟨trivial, dE _⟩, (show 1 < 2 by decide), ⟨trivial, dI _⟩, ⟨trivial, dI _⟩, trivial⟩ (forall_cons ⟨⟨trivial, dE _⟩, ⟨trivial, dC _⟩, trivial⟩ forall_nil)), trivial, (forall_cons ⟨dE _, (show 1 < 2 by decide), dI _, dI _, trivial⟩ (forall_cons ⟨dE _, dC _, trivial⟩ forall_nil))⟩
theorem c42 {qq : Nat} {M : Mach} {r : Int} (h : e42 qq M = some r) : CT Tryz.prog 42 [.cells [.sl (flat entL M.l) (List.length M.l) .no, .mp 1 0, .sl (flat intC M.args) (List.length M.args) .no, .sl (flat intC M.own) (List.length M.own) .no], .cells [.sl (flat entL M.rl) (List.length M.rl) .no, .sl (flat conL M.parts) (List.length M.parts) .no]] [.mp 0 0] (ai r) [.cells [.sl (flat entL M.l) (List.length M.l) .no, .mp 1 0, .sl (flat intC M.args) (List.length M.args) .no, .sl (flat intC M.own) (List.length M.own) .no], .cells [.sl (flat entL M.rl) (List.length M.rl) .no, .sl (flat conL M.parts) (List.length M.parts) .no]] 0 := by
  unfold e42 at h
  obtain rfl := sj h
  exact k42 (tF q42 3 [0, 1] (oD (dC M.parts) <| oD (dE M.rl) <| oD (dI M.own) <| oD (dI M.args) <| oD (dE M.l) o0) (by kernel_rfl))

end Go.Proofs.YtlbmblbeccafcaaGreat

namespace Go.Proofs.YtlbmblbeccafcaaGreat
open Go Go.Ab

/- scholium/unify.may -/
def e79 (qq : Nat) (M : Mach) (p1 : Tm) : Option (Bool) :=
  (e42 qq M) >>= fun r1 =>
  (e41 qq p1 0 r1) >>= fun r3 =>
  some r3
theorem q79 : Tryz.prog.funcs[79]? = some Tryz.f79 ∧ Tryz.f79.body.isNone = false := ⟨Tryz.func79, by kernel_rfl⟩
theorem k79 {M : Mach} {p1 : Tm} {r : Bool} (h : CTri Tryz.prog 79 [.cells [.sl (flat entL M.l) (List.length M.l) .no, .mp 1 0, .sl (flat intC M.args) (List.length M.args) .no, .sl (flat intC M.own) (List.length M.own) .no], .cells [.sl (flat entL M.rl) (List.length M.rl) .no, .sl (flat conL M.parts) (List.length M.parts) .no]] [.mp 0 0, tmA p1] (ab r) [.cells [.sl (flat entL M.l) (List.length M.l) .no, .mp 1 0, .sl (flat intC M.args) (List.length M.args) .no, .sl (flat intC M.own) (List.length M.own) .no], .cells [.sl (flat entL M.rl) (List.length M.rl) .no, .sl (flat conL M.parts) (List.length M.parts) .no]] 0) : CT Tryz.prog 79 [.cells [.sl (flat entL M.l) (List.length M.l) .no, .mp 1 0, .sl (flat intC M.args) (List.length M.args) .no, .sl (flat intC M.own) (List.length M.own) .no], .cells [.sl (flat entL M.rl) (List.length M.rl) .no, .sl (flat conL M.parts) (List.length M.parts) .no]] [.mp 0 0, tmA p1] (ab r) [.cells [.sl (flat entL M.l) (List.length M.l) .no, .mp 1 0, .sl (flat intC M.args) (List.length M.args) .no, .sl (flat intC M.own) (List.length M.own) .no], .cells [.sl (flat entL M.rl) (List.length M.rl) .no, .sl (flat conL M.parts) (List.length M.parts) .no]] 0 := ⟨h, ⟨(show 0 < 2 by decide), ⟨trivial, trivial, ⟨trivial, dT _⟩, trivial⟩, trivial⟩, (forall_cons ⟨⟨trivial, dE _⟩, (show 1 < 2 by decide), ⟨trivial, dI _⟩, ⟨trivial, dI _⟩, trivial⟩ (forall_cons ⟨⟨trivial, dE _⟩, ⟨trivial, dC _⟩, trivial⟩ forall_nil)), trivial, (forall_cons ⟨dE _, (show 1 < 2 by decide), dI _, dI _, trivial⟩ (forall_cons ⟨dE _, dC _, trivial⟩ forall_nil))⟩
theorem c79 {qq : Nat} {M : Mach} {p1 : Tm} {r : Bool} (h : e79 qq M p1 = some r) : CT Tryz.prog 79 [.cells [.sl (flat entL M.l) (List.length M.l) .no, .mp 1 0, .sl (flat intC M.args) (List.length M.args) .no, .sl (flat intC M.own) (List.length M.own) .no], .cells [.sl (flat entL M.rl) (List.length M.rl) .no, .sl (flat conL M.parts) (List.length M.parts) .no]] [.mp 0 0, tmA p1] (ab r) [.cells [.sl (flat entL M.l) (List.length M.l) .no, .mp 1 0, .sl (flat intC M.args) (List.length M.args) .no, .sl (flat intC M.own) (List.length M.own) .no], .cells [.sl (flat entL M.rl) (List.length M.rl) .no, .sl (flat conL M.parts) (List.length M.parts) .no]] 0 := by
  unfold e79 at h
  obtain ⟨r1, h2, h⟩ := obind h
  obtain ⟨r3, h4, h⟩ := obind h
  obtain rfl := sj h
  exact k79 (tF q79 0 [0, 1] (oD (dC M.parts) <| oD (dE M.rl) <| oD (dI M.own) <| oD (dI M.args) <| oD (dE M.l) <| oC 0 [] (c41 h4) <| oC 1 [0, 1] (c42 h2) o0) (by kernel_rfl))

end Go.Proofs.YtlbmblbeccafcaaGreat

namespace Go.Proofs.YtlbmblbeccafcaaGreat
open Go Go.Ab

/- scholium/unify.start -/
def e48L23520 (qq : Nat) (M : Mach) (p1 : List FreeVar) (p2 : List Tm) (p3 : List Tm) (fl : Int) (fu : Int) (v49 : Int) (vb4_0 : List UnifyEquation) : Option ((Unit) ⊕ (List FreeVar × List UnifyEquation × Int)) :=
  if decide (v49 < (List.length p2 : Int)) = true then
    none
  else
    some (Sum.inr (p1, vb4_0, 0))
def e48L49526 (qq : Nat) (M : Mach) (p1 : List FreeVar) (p2 : List Tm) (p3 : List Tm) (fl : Int) (fu : Int) (v49 : Int) : Option ((Unit) ⊕ (List FreeVar × List UnifyEquation × Int)) :=
  if decide (v49 < (List.length p2 : Int)) = true then
    (gidx p2 v49) >>= fun x12 =>
    (e79 qq M x12) >>= fun r14 =>
    if r14 = true then
      (gidx p3 v49) >>= fun x17 =>
      (e79 qq M x17) >>= fun r19 =>
      if r19 = true then
        (gapp 80 ([] : List UnifyEquation) [(UnifyEquation.mk x12 x17)]) >>= fun l22 =>
        e48L23520 qq M p1 p2 p3 fl fu (w64 (v49 + 1)) l22
      else
        none
    else
      none
  else
    none
def e48L13538 : Nat → Mach → (List FreeVar) → (List Tm) → (List Tm) → Int → Int → Int →  Option ((Unit) ⊕ (List FreeVar × List UnifyEquation × Int))
  | 0, _, _, _, _, _, _, _ => none
  | qq + 1, M, p1, p2, p3, fl, fu, v32 =>
    if decide (v32 < (List.length p1 : Int)) = true then
      (gidx p1 v32) >>= fun x6 =>
      (e79 qq M x6.type_) >>= fun r8 =>
      if r8 = true then
        e48L13538 qq M p1 p2 p3 fl fu (w64 (v32 + 1))
      else
        none
    else
      e48L49526 qq M p1 p2 p3 fl fu 0
def e48 (qq : Nat) (M : Mach) (p1 : List FreeVar) (p2 : List Tm) (p3 : List Tm) (fl : Int) (fu : Int) : Option ((Unit) ⊕ (List FreeVar × List UnifyEquation × Int)) :=
  (e78 qq p1) >>= fun r1 =>
  if r1 = true then
    if ((List.length p2 : Int) != (List.length p3 : Int)) = true then
      some (Sum.inl ())
    else
      e48L13538 qq M p1 p2 p3 fl fu 0
  else
    none
def g48L13538E0 (j : Nat → Value) (M : Mach) (p1 : List FreeVar) (p2 : List Tm) (p3 : List Tm) (fl : Int) (fu : Int) (v32 : Int) : List AV := sp j 88 0 [(0, .mp 0 0), (1, .sl (flat freeVarL p1) (List.length p1) .no), (2, .sl (flat tmCells p2) (List.length p2) .no), (3, .sl (flat tmCells p3) (List.length p3) .no), (4, .mp 2 0), (30, .sl (flat freeVarL p1) (List.length p1) .no), (31, ai (List.length p1 : Int)), (32, ai v32)]
def g48L13538S0 (M : Mach) (p1 : List FreeVar) (p2 : List Tm) (p3 : List Tm) (fl : Int) (fu : Int) (v32 : Int) : LSt := ⟨[(0, .cells [.sl (flat entL M.l) (List.length M.l) .no, .mp 1 0, .sl (flat intC M.args) (List.length M.args) .no, .sl (flat intC M.own) (List.length M.own) .no]), (1, .cells [.sl (flat entL M.rl) (List.length M.rl) .no, .sl (flat conL M.parts) (List.length M.parts) .no]), (2, .cells [ai fl, ai fu])], 3, [], 0, []⟩
def g48L49526E0 (j : Nat → Value) (M : Mach) (p1 : List FreeVar) (p2 : List Tm) (p3 : List Tm) (fl : Int) (fu : Int) (v49 : Int) : List AV := sp j 88 0 [(0, .mp 0 0), (2, .sl (flat tmCells p2) (List.length p2) .no), (3, .sl (flat tmCells p3) (List.length p3) .no), (14, .mp 3 0), (48, ai (List.length p2 : Int)), (49, ai v49)]
def g48L49526S0 (M : Mach) (p1 : List FreeVar) (p2 : List Tm) (p3 : List Tm) (fl : Int) (fu : Int) (v49 : Int) : LSt := ⟨[(0, .cells [.sl (flat entL M.l) (List.length M.l) .no, .mp 1 0, .sl (flat intC M.args) (List.length M.args) .no, .sl (flat intC M.own) (List.length M.own) .no]), (1, .cells [.sl (flat entL M.rl) (List.length M.rl) .no, .sl (flat conL M.parts) (List.length M.parts) .no]), (2, .cells [ai fl, ai fu]), (3, .cells [.mp 0 0, .mp 2 0, .sl (flat freeVarL p1) (List.length p1) .no, .sl (flat unifyEquationL ([] : List UnifyEquation)) (List.length ([] : List UnifyEquation)) .nl, ab false, .sl (flat freeVarL ([] : List FreeVar)) (List.length ([] : List FreeVar)) .nl, .sl (flat unifySolvedL ([] : List UnifySolved)) (List.length ([] : List UnifySolved)) .nl, .sl (flat intC ([] : List Int)) (List.length ([] : List Int)) .nl, ab false, ai 0])], 4, [], 0, []⟩
def g48L23520E0 (j : Nat → Value) (M : Mach) (p1 : List FreeVar) (p2 : List Tm) (p3 : List Tm) (fl : Int) (fu : Int) (v49 : Int) (vb4_0 : List UnifyEquation) : List AV := sp j 88 0 [(0, .mp 0 0), (2, .sl (flat tmCells p2) (List.length p2) .no), (3, .sl (flat tmCells p3) (List.length p3) .no), (14, .mp 3 0), (48, ai (List.length p2 : Int)), (49, ai v49)]
def g48L23520S0 (M : Mach) (p1 : List FreeVar) (p2 : List Tm) (p3 : List Tm) (fl : Int) (fu : Int) (v49 : Int) (vb4_0 : List UnifyEquation) : LSt := ⟨[(0, .cells [.sl (flat entL M.l) (List.length M.l) .no, .mp 1 0, .sl (flat intC M.args) (List.length M.args) .no, .sl (flat intC M.own) (List.length M.own) .no]), (1, .cells [.sl (flat entL M.rl) (List.length M.rl) .no, .sl (flat conL M.parts) (List.length M.parts) .no]), (2, .cells [ai fl, ai fu]), (3, .cells [.mp 0 0, .mp 2 0, .sl (flat freeVarL p1) (List.length p1) .no, .ms 4 0 (List.length vb4_0) (List.length vb4_0) 6, ab false, .sl (flat freeVarL ([] : List FreeVar)) (List.length ([] : List FreeVar)) .nl, .sl (flat unifySolvedL ([] : List UnifySolved)) (List.length ([] : List UnifySolved)) .nl, .sl (flat intC ([] : List Int)) (List.length ([] : List Int)) .nl, ab false, ai 0]), (4, .row (flat unifyEquationL vb4_0))], 5, [], 0, []⟩
theorem q48 : Tryz.prog.funcs[48]? = some Tryz.f48 ∧ Tryz.f48.body.isNone = false := ⟨Tryz.func48, by kernel_rfl⟩
theorem k48s0 {M : Mach} {p1 : List FreeVar} {p2 : List Tm} {p3 : List Tm} {fl : Int} {fu : Int}  (h : CTri Tryz.prog 48 [.cells [.sl (flat entL M.l) (List.length M.l) .no, .mp 1 0, .sl (flat intC M.args) (List.length M.args) .no, .sl (flat intC M.own) (List.length M.own) .no], .cells [.sl (flat entL M.rl) (List.length M.rl) .no, .sl (flat conL M.parts) (List.length M.parts) .no], .cells [ai fl, ai fu]] [.mp 0 0, .sl (flat freeVarL p1) (List.length p1) .no, .sl (flat tmCells p2) (List.length p2) .no, .sl (flat tmCells p3) (List.length p3) .no, .mp 2 0] (.tup [.val (.pointer none), ab false]) [.cells [.sl (flat entL M.l) (List.length M.l) .no, .mp 1 0, .sl (flat intC M.args) (List.length M.args) .no, .sl (flat intC M.own) (List.length M.own) .no], .cells [.sl (flat entL M.rl) (List.length M.rl) .no, .sl (flat conL M.parts) (List.length M.parts) .no], .cells [ai fl, ai fu]] 0) : CT Tryz.prog 48 [.cells [.sl (flat entL M.l) (List.length M.l) .no, .mp 1 0, .sl (flat intC M.args) (List.length M.args) .no, .sl (flat intC M.own) (List.length M.own) .no], .cells [.sl (flat entL M.rl) (List.length M.rl) .no, .sl (flat conL M.parts) (List.length M.parts) .no], .cells [ai fl, ai fu]] [.mp 0 0, .sl (flat freeVarL p1) (List.length p1) .no, .sl (flat tmCells p2) (List.length p2) .no, .sl (flat tmCells p3) (List.length p3) .no, .mp 2 0] (.tup [.val (.pointer none), ab false]) [.cells [.sl (flat entL M.l) (List.length M.l) .no, .mp 1 0, .sl (flat intC M.args) (List.length M.args) .no, .sl (flat intC M.own) (List.length M.own) .no], .cells [.sl (flat entL M.rl) (List.length M.rl) .no, .sl (flat conL M.parts) (List.length M.parts) .no], .cells [ai fl, ai fu]] 0 := ⟨h, ⟨(show 0 < 3 by decide), ⟨trivial, dFreeVar _⟩, ⟨trivial, dT _⟩, ⟨trivial, dT _⟩, (show 2 < 3 by decide), trivial⟩, (forall_cons ⟨⟨trivial, dE _⟩, (show 1 < 3 by decide), ⟨trivial, dI _⟩, ⟨trivial, dI _⟩, trivial⟩ (forall_cons ⟨⟨trivial, dE _⟩, ⟨trivial, dC _⟩, trivial⟩ (forall_cons ⟨trivial, trivial, trivial⟩ forall_nil))), ⟨trivial, trivial, trivial⟩, (forall_cons ⟨dE _, (show 1 < 3 by decide), dI _, dI _, trivial⟩ (forall_cons ⟨dE _, dC _, trivial⟩ (forall_cons ⟨trivial, trivial, trivial⟩ forall_nil)))⟩
theorem k48s1 {M : Mach} {p1 : List FreeVar} {p2 : List Tm} {p3 : List Tm} {fl : Int} {fu : Int} {r : List FreeVar × List UnifyEquation × Int} (h : CTri Tryz.prog 48 [.cells [.sl (flat entL M.l) (List.length M.l) .no, .mp 1 0, .sl (flat intC M.args) (List.length M.args) .no, .sl (flat intC M.own) (List.length M.own) .no], .cells [.sl (flat entL M.rl) (List.length M.rl) .no, .sl (flat conL M.parts) (List.length M.parts) .no], .cells [ai fl, ai fu]] [.mp 0 0, .sl (flat freeVarL p1) (List.length p1) .no, .sl (flat tmCells p2) (List.length p2) .no, .sl (flat tmCells p3) (List.length p3) .no, .mp 2 0] (.tup [.mp 3 0, ab true]) [.cells [.sl (flat entL M.l) (List.length M.l) .no, .mp 1 0, .sl (flat intC M.args) (List.length M.args) .no, .sl (flat intC M.own) (List.length M.own) .no], .cells [.sl (flat entL M.rl) (List.length M.rl) .no, .sl (flat conL M.parts) (List.length M.parts) .no], .cells [ai fl, ai fu], .cells [.mp 0 0, .mp 2 0, .sl (flat freeVarL r.1) (List.length r.1) .no, .ms 4 0 (List.length r.2.1) (List.length r.2.1) 6, ab false, .sl (flat freeVarL ([] : List FreeVar)) (List.length ([] : List FreeVar)) .nl, .sl (flat unifySolvedL ([] : List UnifySolved)) (List.length ([] : List UnifySolved)) .nl, .sl (flat intC ([] : List Int)) (List.length ([] : List Int)) .nl, ab false, ai r.2.2], .row (flat unifyEquationL r.2.1)] 0) : CT Tryz.prog 48 [.cells [.sl (flat entL M.l) (List.length M.l) .no, .mp 1 0, .sl (flat intC M.args) (List.length M.args) .no, .sl (flat intC M.own) (List.length M.own) .no], .cells [.sl (flat entL M.rl) (List.length M.rl) .no, .sl (flat conL M.parts) (List.length M.parts) .no], .cells [ai fl, ai fu]] [.mp 0 0, .sl (flat freeVarL p1) (List.length p1) .no, .sl (flat tmCells p2) (List.length p2) .no, .sl (flat tmCells p3) (List.length p3) .no, .mp 2 0] (.tup [.mp 3 0, ab true]) [.cells [.sl (flat entL M.l) (List.length M.l) .no, .mp 1 0, .sl (flat intC M.args) (List.length M.args) .no, .sl (flat intC M.own) (List.length M.own) .no], .cells [.sl (flat entL M.rl) (List.length M.rl) .no, .sl (flat conL M.parts) (List.length M.parts) .no], .cells [ai fl, ai fu], .cells [.mp 0 0, .mp 2 0, .sl (flat freeVarL r.1) (List.length r.1) .no, .ms 4 0 (List.length r.2.1) (List.length r.2.1) 6, ab false, .sl (flat freeVarL ([] : List FreeVar)) (List.length ([] : List FreeVar)) .nl, .sl (flat unifySolvedL ([] : List UnifySolved)) (List.length ([] : List UnifySolved)) .nl, .sl (flat intC ([] : List Int)) (List.length ([] : List Int)) .nl, ab false, ai r.2.2], .row (flat unifyEquationL r.2.1)] 0 := ⟨h, ⟨(show 0 < 3 by decide), ⟨trivial, dFreeVar _⟩, ⟨trivial, dT _⟩, ⟨trivial, dT _⟩, (show 2 < 3 by decide), trivial⟩, (forall_cons ⟨⟨trivial, dE _⟩, (show 1 < 3 by decide), ⟨trivial, dI _⟩, ⟨trivial, dI _⟩, trivial⟩ (forall_cons ⟨⟨trivial, dE _⟩, ⟨trivial, dC _⟩, trivial⟩ (forall_cons ⟨trivial, trivial, trivial⟩ forall_nil))), ⟨(show 3 < 5 by decide), trivial, trivial⟩, (forall_cons ⟨dE _, (show 1 < 5 by decide), dI _, dI _, trivial⟩ (forall_cons ⟨dE _, dC _, trivial⟩ (forall_cons ⟨trivial, trivial, trivial⟩ (forall_cons ⟨(show 0 < 5 by decide), (show 2 < 5 by decide), dFreeVar _, (show 4 < 5 by decide), trivial, dFreeVar _, dUnifySolved _, dI _, trivial, trivial, trivial⟩ (forall_cons (dUnifyEquation _) forall_nil)))))⟩
theorem l48L23520 (qq : Nat) (M : Mach) (p1 : List FreeVar) (p2 : List Tm) (p3 : List Tm) (fl : Int) (fu : Int) (v49 : Int) (vb4_0 : List UnifyEquation) (r : (Unit) ⊕ (List FreeVar × List UnifyEquation × Int)) (h : e48L23520 qq M p1 p2 p3 fl fu v49 vb4_0 = some r) : (∀ j, Dl Tryz.prog 3 (inn (inn (rgt (lft (rgt (rgt (rgt (rgt (bod Tryz.f48))))))))) (g48L23520E0 j M p1 p2 p3 fl fu v49 vb4_0) (g48L23520S0 M p1 p2 p3 fl fu v49 vb4_0) (frameQ Tryz.prog 3 ((match (generalizing := false) r with | Sum.inl x => FinQ Tryz.prog 3 Tryz.f48 (.tup [.val (.pointer none), ab false]) [.cells [.sl (flat entL M.l) (List.length M.l) .no, .mp 1 0, .sl (flat intC M.args) (List.length M.args) .no, .sl (flat intC M.own) (List.length M.own) .no], .cells [.sl (flat entL M.rl) (List.length M.rl) .no, .sl (flat conL M.parts) (List.length M.parts) .no], .cells [ai fl, ai fu]] 0 | Sum.inr x => FinQ Tryz.prog 3 Tryz.f48 (.tup [.mp 3 0, ab true]) [.cells [.sl (flat entL M.l) (List.length M.l) .no, .mp 1 0, .sl (flat intC M.args) (List.length M.args) .no, .sl (flat intC M.own) (List.length M.own) .no], .cells [.sl (flat entL M.rl) (List.length M.rl) .no, .sl (flat conL M.parts) (List.length M.parts) .no], .cells [ai fl, ai fu], .cells [.mp 0 0, .mp 2 0, .sl (flat freeVarL x.1) (List.length x.1) .no, .ms 4 0 (List.length x.2.1) (List.length x.2.1) 6, ab false, .sl (flat freeVarL ([] : List FreeVar)) (List.length ([] : List FreeVar)) .nl, .sl (flat unifySolvedL ([] : List UnifySolved)) (List.length ([] : List UnifySolved)) .nl, .sl (flat intC ([] : List Int)) (List.length ([] : List Int)) .nl, ab false, ai x.2.2], .row (flat unifyEquationL x.2.1)] 0)) [.blk 2, .seq (rgt (rgt (rgt (rgt (rgt (bod Tryz.f48))))))])) := by
  unfold e48L23520 at h
  obtain ⟨h24, h⟩ := splF h
  obtain rfl := sj h
  exact fun j => lG 0 [] [0, 1, 2, 3, 4] [] true (oD (dUnifyEquation vb4_0) <| oD (dI ([] : List Int)) <| oD (dUnifySolved ([] : List UnifySolved)) <| oD (dFreeVar ([] : List FreeVar)) <| oD (dFreeVar p1) <| oD (dC M.parts) <| oD (dE M.rl) <| oD (dI M.own) <| oD (dI M.args) <| oD (dE M.l) <| oB 0 h24 o0) (by kernel_rfl) (by decide)
theorem l48L49526 (qq : Nat) (M : Mach) (p1 : List FreeVar) (p2 : List Tm) (p3 : List Tm) (fl : Int) (fu : Int) (v49 : Int) (r : (Unit) ⊕ (List FreeVar × List UnifyEquation × Int)) (h : e48L49526 qq M p1 p2 p3 fl fu v49 = some r) : (∀ j, Dl Tryz.prog 3 (inn (inn (rgt (lft (rgt (rgt (rgt (rgt (bod Tryz.f48))))))))) (g48L49526E0 j M p1 p2 p3 fl fu v49) (g48L49526S0 M p1 p2 p3 fl fu v49) (frameQ Tryz.prog 3 ((match (generalizing := false) r with | Sum.inl x => FinQ Tryz.prog 3 Tryz.f48 (.tup [.val (.pointer none), ab false]) [.cells [.sl (flat entL M.l) (List.length M.l) .no, .mp 1 0, .sl (flat intC M.args) (List.length M.args) .no, .sl (flat intC M.own) (List.length M.own) .no], .cells [.sl (flat entL M.rl) (List.length M.rl) .no, .sl (flat conL M.parts) (List.length M.parts) .no], .cells [ai fl, ai fu]] 0 | Sum.inr x => FinQ Tryz.prog 3 Tryz.f48 (.tup [.mp 3 0, ab true]) [.cells [.sl (flat entL M.l) (List.length M.l) .no, .mp 1 0, .sl (flat intC M.args) (List.length M.args) .no, .sl (flat intC M.own) (List.length M.own) .no], .cells [.sl (flat entL M.rl) (List.length M.rl) .no, .sl (flat conL M.parts) (List.length M.parts) .no], .cells [ai fl, ai fu], .cells [.mp 0 0, .mp 2 0, .sl (flat freeVarL x.1) (List.length x.1) .no, .ms 4 0 (List.length x.2.1) (List.length x.2.1) 6, ab false, .sl (flat freeVarL ([] : List FreeVar)) (List.length ([] : List FreeVar)) .nl, .sl (flat unifySolvedL ([] : List UnifySolved)) (List.length ([] : List UnifySolved)) .nl, .sl (flat intC ([] : List Int)) (List.length ([] : List Int)) .nl, ab false, ai x.2.2], .row (flat unifyEquationL x.2.1)] 0)) [.blk 2, .seq (rgt (rgt (rgt (rgt (rgt (bod Tryz.f48))))))])) := by
  unfold e48L49526 at h
  obtain ⟨h11, h⟩ := splT h
  obtain ⟨x12, h13, h⟩ := obind h
  obtain ⟨r14, h15, h⟩ := obind h
  have k := oA 0 (ix22 (o := .no) h13) <| oB 0 h11 o0
  obtain ⟨h16, h⟩ := splT h
  obtain ⟨x17, h18, h⟩ := obind h
  obtain ⟨r19, h20, h⟩ := obind h
  have k := oA 1 (ix22 (o := .no) h18) <| oK 1 [0, 1] h16 (c79 h15) k
  obtain ⟨h21, h⟩ := splT h
  obtain ⟨l22, h23, h⟩ := obind h
  exact fun j => lH 2 [] [0, 1, 2, 3, 4] [] [0, 2, 3, 14, 48, 49] (oD (dT p3) <| oD (dT p2) <| oD (dUnifyEquation l22) <| oD (dI ([] : List Int)) <| oD (dUnifySolved ([] : List UnifySolved)) <| oD (dFreeVar ([] : List FreeVar)) <| oD (dFreeVar p1) <| oD (dC M.parts) <| oD (dE M.rl) <| oD (dI M.own) <| oD (dI M.args) <| oD (dE M.l) <| oM 2 (apW104 h23 (by simp)) <| oA 1 (ix22 (o := .no) h18) <| oA 2 (ix22 (o := .no) h13) <| oK 1 [0, 1] h21 (c79 h20) k) (l48L23520 qq _ _ _ _ _ _ _ _ _ h) (fun j => by kernel_rfl)
theorem l48L13538 : ∀ qq : Nat, (∀ (M : Mach) (p1 : List FreeVar) (p2 : List Tm) (p3 : List Tm) (fl : Int) (fu : Int) (v32 : Int) (r : (Unit) ⊕ (List FreeVar × List UnifyEquation × Int)), e48L13538 qq M p1 p2 p3 fl fu v32 = some r → (∀ j, Dl Tryz.prog 3 (inn (inn (rgt (lft (rgt (rgt (bod Tryz.f48))))))) (g48L13538E0 j M p1 p2 p3 fl fu v32) (g48L13538S0 M p1 p2 p3 fl fu v32) (frameQ Tryz.prog 3 ((match (generalizing := false) r with | Sum.inl x => FinQ Tryz.prog 3 Tryz.f48 (.tup [.val (.pointer none), ab false]) [.cells [.sl (flat entL M.l) (List.length M.l) .no, .mp 1 0, .sl (flat intC M.args) (List.length M.args) .no, .sl (flat intC M.own) (List.length M.own) .no], .cells [.sl (flat entL M.rl) (List.length M.rl) .no, .sl (flat conL M.parts) (List.length M.parts) .no], .cells [ai fl, ai fu]] 0 | Sum.inr x => FinQ Tryz.prog 3 Tryz.f48 (.tup [.mp 3 0, ab true]) [.cells [.sl (flat entL M.l) (List.length M.l) .no, .mp 1 0, .sl (flat intC M.args) (List.length M.args) .no, .sl (flat intC M.own) (List.length M.own) .no], .cells [.sl (flat entL M.rl) (List.length M.rl) .no, .sl (flat conL M.parts) (List.length M.parts) .no], .cells [ai fl, ai fu], .cells [.mp 0 0, .mp 2 0, .sl (flat freeVarL x.1) (List.length x.1) .no, .ms 4 0 (List.length x.2.1) (List.length x.2.1) 6, ab false, .sl (flat freeVarL ([] : List FreeVar)) (List.length ([] : List FreeVar)) .nl, .sl (flat unifySolvedL ([] : List UnifySolved)) (List.length ([] : List UnifySolved)) .nl, .sl (flat intC ([] : List Int)) (List.length ([] : List Int)) .nl, ab false, ai x.2.2], .row (flat unifyEquationL x.2.1)] 0)) [.blk 0, .seq (rgt (rgt (rgt (bod Tryz.f48))))]))) := by
  intro qq
  induction qq with
  | zero =>
    exact fun _ _ _ _ _ _ _ _ h => nn h
  | succ qq ih =>
    intro M p1 p2 p3 fl fu v32 r h
    rw [e48L13538] at h
    rcases spl h with ⟨h5, h⟩ | ⟨h5, h⟩
    · obtain ⟨x6, h7, h⟩ := obind h
      obtain ⟨r8, h9, h⟩ := obind h
      have k := oA 0 (ix42 (o := .no) h7) <| oB 0 h5 o0
      obtain ⟨h10, h⟩ := splT h
      exact fun j => lH 2 [] [0, 1, 2] [] [0, 1, 2, 3, 4, 30, 31, 32] (oD (dFreeVar p1) <| oD (dT p3) <| oD (dT p2) <| oD (dFreeVar p1) <| oD (dC M.parts) <| oD (dE M.rl) <| oD (dI M.own) <| oD (dI M.args) <| oD (dE M.l) <| oK 3 [0, 1] h10 (c79 h9) k) (ih _ _ _ _ _ _ _ _ h) (fun j => by kernel_rfl)
    · exact fun j => lH 1 [] [0, 1, 2, 3] [] [0, 2, 3, 14, 48, 49] (oD (dT p3) <| oD (dT p2) <| oD (dI ([] : List Int)) <| oD (dUnifySolved ([] : List UnifySolved)) <| oD (dFreeVar ([] : List FreeVar)) <| oD (dUnifyEquation ([] : List UnifyEquation)) <| oD (dFreeVar p1) <| oD (dC M.parts) <| oD (dE M.rl) <| oD (dI M.own) <| oD (dI M.args) <| oD (dE M.l) <| oB 0 h5 o0) (l48L49526 qq _ _ _ _ _ _ _ _ h) (fun j => by kernel_rfl)
theorem c48 {qq : Nat} {M : Mach} {p1 : List FreeVar} {p2 : List Tm} {p3 : List Tm} {fl : Int} {fu : Int} {r : (Unit) ⊕ (List FreeVar × List UnifyEquation × Int)} (h : e48 qq M p1 p2 p3 fl fu = some r) : (match (generalizing := false) r with | Sum.inl x => CT Tryz.prog 48 [.cells [.sl (flat entL M.l) (List.length M.l) .no, .mp 1 0, .sl (flat intC M.args) (List.length M.args) .no, .sl (flat intC M.own) (List.length M.own) .no], .cells [.sl (flat entL M.rl) (List.length M.rl) .no, .sl (flat conL M.parts) (List.length M.parts) .no], .cells [ai fl, ai fu]] [.mp 0 0, .sl (flat freeVarL p1) (List.length p1) .no, .sl (flat tmCells p2) (List.length p2) .no, .sl (flat tmCells p3) (List.length p3) .no, .mp 2 0] (.tup [.val (.pointer none), ab false]) [.cells [.sl (flat entL M.l) (List.length M.l) .no, .mp 1 0, .sl (flat intC M.args) (List.length M.args) .no, .sl (flat intC M.own) (List.length M.own) .no], .cells [.sl (flat entL M.rl) (List.length M.rl) .no, .sl (flat conL M.parts) (List.length M.parts) .no], .cells [ai fl, ai fu]] 0 | Sum.inr x => CT Tryz.prog 48 [.cells [.sl (flat entL M.l) (List.length M.l) .no, .mp 1 0, .sl (flat intC M.args) (List.length M.args) .no, .sl (flat intC M.own) (List.length M.own) .no], .cells [.sl (flat entL M.rl) (List.length M.rl) .no, .sl (flat conL M.parts) (List.length M.parts) .no], .cells [ai fl, ai fu]] [.mp 0 0, .sl (flat freeVarL p1) (List.length p1) .no, .sl (flat tmCells p2) (List.length p2) .no, .sl (flat tmCells p3) (List.length p3) .no, .mp 2 0] (.tup [.mp 3 0, ab true]) [.cells [.sl (flat entL M.l) (List.length M.l) .no, .mp 1 0, .sl (flat intC M.args) (List.length M.args) .no, .sl (flat intC M.own) (List.length M.own) .no], .cells [.sl (flat entL M.rl) (List.length M.rl) .no, .sl (flat conL M.parts) (List.length M.parts) .no], .cells [ai fl, ai fu], .cells [.mp 0 0, .mp 2 0, .sl (flat freeVarL x.1) (List.length x.1) .no, .ms 4 0 (List.length x.2.1) (List.length x.2.1) 6, ab false, .sl (flat freeVarL ([] : List FreeVar)) (List.length ([] : List FreeVar)) .nl, .sl (flat unifySolvedL ([] : List UnifySolved)) (List.length ([] : List UnifySolved)) .nl, .sl (flat intC ([] : List Int)) (List.length ([] : List Int)) .nl, ab false, ai x.2.2], .row (flat unifyEquationL x.2.1)] 0) := by
  unfold e48 at h
  obtain ⟨r1, h2, h⟩ := obind h
  obtain ⟨h3, h⟩ := splT h
  have k := oK 1 [] h3 (c78 h2) o0
  rcases spl h with ⟨h4, h⟩ | ⟨h4, h⟩
  · obtain rfl := sj h
    exact k48s0 (tF q48 0 [0, 1, 2] (oD (dC M.parts) <| oD (dE M.rl) <| oD (dI M.own) <| oD (dI M.args) <| oD (dE M.l) <| oB 3 h4 k) (by kernel_rfl))
  · rcases r with y0 | y1
    · exact k48s0 (tH q48 1 [] [0, 1, 2] [] [0, 1, 2, 3, 4, 30, 31, 32] (oD (dFreeVar p1) <| oD (dT p3) <| oD (dT p2) <| oD (dFreeVar p1) <| oD (dC M.parts) <| oD (dE M.rl) <| oD (dI M.own) <| oD (dI M.args) <| oD (dE M.l) <| oB 3 h4 k) (l48L13538 _ _ _ _ _ _ _ _ _ h) (fun j => by kernel_rfl))
    · exact k48s1 (tH q48 1 [] [0, 1, 2] [] [0, 1, 2, 3, 4, 30, 31, 32] (oD (dFreeVar p1) <| oD (dT p3) <| oD (dT p2) <| oD (dFreeVar p1) <| oD (dC M.parts) <| oD (dE M.rl) <| oD (dI M.own) <| oD (dI M.args) <| oD (dE M.l) <| oB 3 h4 k) (l48L13538 _ _ _ _ _ _ _ _ _ h) (fun j => by kernel_rfl))

end Go.Proofs.YtlbmblbeccafcaaGreat

namespace Go.Proofs.YtlbmblbeccafcaaGreat
open Go Go.Ab

/- (*scholium/whnf.Machine).right -/
def e118 (qq : Nat) (M : Mach) (p1 : Tm) : Option (Bool) :=
  (e41 qq p1 1048577 (List.length M.l : Int)) >>= fun r1 =>
  some r1
theorem q118 : Tryz.prog.funcs[118]? = some Tryz.f118 ∧ Tryz.f118.body.isNone = false := ⟨Tryz.func118, by kernel_rfl⟩
theorem k118 {M : Mach} {p1 : Tm} {r : Bool} (h : CTri Tryz.prog 118 [.cells [.sl (flat entL M.l) (List.length M.l) .no, .mp 1 0, .sl (flat intC M.args) (List.length M.args) .no, .sl (flat intC M.own) (List.length M.own) .no], .cells [.sl (flat entL M.rl) (List.length M.rl) .no, .sl (flat conL M.parts) (List.length M.parts) .no]] [.mp 0 0, tmA p1] (ab r) [.cells [.sl (flat entL M.l) (List.length M.l) .no, .mp 1 0, .sl (flat intC M.args) (List.length M.args) .no, .sl (flat intC M.own) (List.length M.own) .no], .cells [.sl (flat entL M.rl) (List.length M.rl) .no, .sl (flat conL M.parts) (List.length M.parts) .no]] 0) : CT Tryz.prog 118 [.cells [.sl (flat entL M.l) (List.length M.l) .no, .mp 1 0, .sl (flat intC M.args) (List.length M.args) .no, .sl (flat intC M.own) (List.length M.own) .no], .cells [.sl (flat entL M.rl) (List.length M.rl) .no, .sl (flat conL M.parts) (List.length M.parts) .no]] [.mp 0 0, tmA p1] (ab r) [.cells [.sl (flat entL M.l) (List.length M.l) .no, .mp 1 0, .sl (flat intC M.args) (List.length M.args) .no, .sl (flat intC M.own) (List.length M.own) .no], .cells [.sl (flat entL M.rl) (List.length M.rl) .no, .sl (flat conL M.parts) (List.length M.parts) .no]] 0 := ⟨h, ⟨(show 0 < 2 by decide), ⟨trivial, trivial, ⟨trivial, dT _⟩, trivial⟩, trivial⟩, (forall_cons ⟨⟨trivial, dE _⟩, (show 1 < 2 by decide), ⟨trivial, dI _⟩, ⟨trivial, dI _⟩, trivial⟩ (forall_cons ⟨⟨trivial, dE _⟩, ⟨trivial, dC _⟩, trivial⟩ forall_nil)), trivial, (forall_cons ⟨dE _, (show 1 < 2 by decide), dI _, dI _, trivial⟩ (forall_cons ⟨dE _, dC _, trivial⟩ forall_nil))⟩
theorem c118 {qq : Nat} {M : Mach} {p1 : Tm} {r : Bool} (h : e118 qq M p1 = some r) : CT Tryz.prog 118 [.cells [.sl (flat entL M.l) (List.length M.l) .no, .mp 1 0, .sl (flat intC M.args) (List.length M.args) .no, .sl (flat intC M.own) (List.length M.own) .no], .cells [.sl (flat entL M.rl) (List.length M.rl) .no, .sl (flat conL M.parts) (List.length M.parts) .no]] [.mp 0 0, tmA p1] (ab r) [.cells [.sl (flat entL M.l) (List.length M.l) .no, .mp 1 0, .sl (flat intC M.args) (List.length M.args) .no, .sl (flat intC M.own) (List.length M.own) .no], .cells [.sl (flat entL M.rl) (List.length M.rl) .no, .sl (flat conL M.parts) (List.length M.parts) .no]] 0 := by
  unfold e118 at h
  obtain ⟨r1, h2, h⟩ := obind h
  obtain rfl := sj h
  exact k118 (tF q118 0 [0, 1] (oD (dC M.parts) <| oD (dE M.rl) <| oD (dI M.own) <| oD (dI M.args) <| oD (dE M.l) <| oC 4 [] (c41 h2) o0) (by kernel_rfl))

end Go.Proofs.YtlbmblbeccafcaaGreat

namespace Go.Proofs.YtlbmblbeccafcaaGreat
open Go Go.Ab

/- (*scholium/whnf.Machine).kind -/
def e172 (qq : Nat) (M : Mach) (p1 : Tm) : Option (Int) :=
  if (p1.k != 6) = true then
    some 0
  else
    if decide (p1.n ≥ (List.length M.l : Int)) = true then
      none
    else
      (gidx M.l p1.n) >>= fun x3 =>
      some x3.kind
theorem q172 : Tryz.prog.funcs[172]? = some Tryz.f172 ∧ Tryz.f172.body.isNone = false := ⟨Tryz.func172, by kernel_rfl⟩
theorem k172 {M : Mach} {p1 : Tm} {r : Int} (h : CTri Tryz.prog 172 [.cells [.sl (flat entL M.l) (List.length M.l) .no, .mp 1 0, .sl (flat intC M.args) (List.length M.args) .no, .sl (flat intC M.own) (List.length M.own) .no], .cells [.sl (flat entL M.rl) (List.length M.rl) .no, .sl (flat conL M.parts) (List.length M.parts) .no]] [.mp 0 0, tmA p1] (ai r) [.cells [.sl (flat entL M.l) (List.length M.l) .no, .mp 1 0, .sl (flat intC M.args) (List.length M.args) .no, .sl (flat intC M.own) (List.length M.own) .no], .cells [.sl (flat entL M.rl) (List.length M.rl) .no, .sl (flat conL M.parts) (List.length M.parts) .no]] 0) : CT Tryz.prog 172 [.cells [.sl (flat entL M.l) (List.length M.l) .no, .mp 1 0, .sl (flat intC M.args) (List.length M.args) .no, .sl (flat intC M.own) (List.length M.own) .no], .cells [.sl (flat entL M.rl) (List.length M.rl) .no, .sl (flat conL M.parts) (List.length M.parts) .no]] [.mp 0 0, tmA p1] (ai r) [.cells [.sl (flat entL M.l) (List.length M.l) .no, .mp 1 0, .sl (flat intC M.args) (List.length M.args) .no, .sl (flat intC M.own) (List.length M.own) .no], .cells [.sl (flat entL M.rl) (List.length M.rl) .no, .sl (flat conL M.parts) (List.length M.parts) .no]] 0 := ⟨h, ⟨(show 0 < 2 by decide), ⟨trivial, trivial, ⟨trivial, dT _⟩, trivial⟩, trivial⟩, (forall_cons ⟨⟨trivial, dE _⟩, (show 1 < 2 by decide), ⟨trivial, dI _⟩, ⟨trivial, dI _⟩, trivial⟩ (forall_cons ⟨⟨trivial, dE _⟩, ⟨trivial, dC _⟩, trivial⟩ forall_nil)), trivial, (forall_cons ⟨dE _, (show 1 < 2 by decide), dI _, dI _, trivial⟩ (forall_cons ⟨dE _, dC _, trivial⟩ forall_nil))⟩
theorem c172 {qq : Nat} {M : Mach} {p1 : Tm} {r : Int} (h : e172 qq M p1 = some r) : CT Tryz.prog 172 [.cells [.sl (flat entL M.l) (List.length M.l) .no, .mp 1 0, .sl (flat intC M.args) (List.length M.args) .no, .sl (flat intC M.own) (List.length M.own) .no], .cells [.sl (flat entL M.rl) (List.length M.rl) .no, .sl (flat conL M.parts) (List.length M.parts) .no]] [.mp 0 0, tmA p1] (ai r) [.cells [.sl (flat entL M.l) (List.length M.l) .no, .mp 1 0, .sl (flat intC M.args) (List.length M.args) .no, .sl (flat intC M.own) (List.length M.own) .no], .cells [.sl (flat entL M.rl) (List.length M.rl) .no, .sl (flat conL M.parts) (List.length M.parts) .no]] 0 := by
  unfold e172 at h
  rcases spl h with ⟨h1, h⟩ | ⟨h1, h⟩
  · obtain rfl := sj h
    exact k172 (tF q172 0 [0, 1] (oD (dC M.parts) <| oD (dE M.rl) <| oD (dI M.own) <| oD (dI M.args) <| oD (dE M.l) <| oB 1 h1 o0) (by kernel_rfl))
  · have k := oB 1 h1 o0
    obtain ⟨h2, h⟩ := splF h
    obtain ⟨x3, h4, h⟩ := obind h
    obtain rfl := sj h
    exact k172 (tF q172 1 [0, 1] (oD (dC M.parts) <| oD (dE M.rl) <| oD (dI M.own) <| oD (dI M.args) <| oD (dE M.l) <| oA 2 (ix25 (o := .no) h4) <| oB 3 h2 k) (by kernel_rfl))

end Go.Proofs.YtlbmblbeccafcaaGreat

namespace Go.Proofs.YtlbmblbeccafcaaGreat
open Go Go.Ab

/- (*scholium/whnf.Machine).bring -/
/- (*scholium/whnf.Machine).once -/
/- (*scholium/whnf.Machine).field -/
/- (*scholium/whnf.Machine).elim -/
def e171 (qq : Nat) (M : Mach) (p1 : Tm) (fl : Int) (fu : Int) : Option (Tm × Bool × Int × Int × Int) :=
  (e106 qq p1) >>= fun r1 =>
  if (r1.1.k == 4) = true then
    none
  else
    (e172 qq M r1.1) >>= fun r57 =>
    if (r57 == 3) = true then
      none
    else
      (e172 qq M r1.1) >>= fun r69 =>
      if (r69 == 4) = true then
        none
      else
        if (r1.1.k == 7) = true then
          none
        else
          some (p1, false, 0, fl, fu)
def e119L37017 (qq : Nat) (M : Mach) (vb2_0 : Int) (vb2_1 : Int) (vb3_0 : Int) (vb3_1 : Int) (vb3_2 : List Tm) : Option (Tm × Int × Int × Int) :=
  (e171 qq M (Tm.mk vb3_0 vb3_1 vb3_2) vb2_0 vb2_1) >>= fun r1 =>
  if r1.2.1 = true then
    none
  else
    if (r1.2.2.1 != 0) = true then
      none
    else
      some ((Tm.mk vb3_0 vb3_1 vb3_2), 0, r1.2.2.2.1, r1.2.2.2.2)
def e119 (qq : Nat) (M : Mach) (p1 : Tm) (fl : Int) (fu : Int) : Option (Tm × Int × Int × Int) :=
  e119L37017 qq M fl fu p1.k p1.n p1.sub
def e233 (qq : Nat) (M : Mach) (p1 : Tm) (p2 : List Tm) (fl : Int) (fu : Int) : Option (Tm × Bool × Int × Int × Int) :=
  none
def e234 (qq : Nat) (M : Mach) (p1 : Tm) (p2 : List Tm) (fl : Int) (fu : Int) : Option (Tm × Bool × Int × Int × Int) :=
  none
def g119L37017E0 (j : Nat → Value) (M : Mach) (vb2_0 : Int) (vb2_1 : Int) (vb3_0 : Int) (vb3_1 : Int) (vb3_2 : List Tm) : List AV := sp j 28 0 [(0, .mp 0 0), (2, .mp 2 0), (4, .mp 3 0), (6, .mp 4 0)]
def g119L37017S0 (M : Mach) (vb2_0 : Int) (vb2_1 : Int) (vb3_0 : Int) (vb3_1 : Int) (vb3_2 : List Tm) : LSt := ⟨[(0, .cells [.sl (flat entL M.l) (List.length M.l) .no, .mp 1 0, .sl (flat intC M.args) (List.length M.args) .no, .sl (flat intC M.own) (List.length M.own) .no]), (1, .cells [.sl (flat entL M.rl) (List.length M.rl) .no, .sl (flat conL M.parts) (List.length M.parts) .no]), (2, .cells [ai vb2_0, ai vb2_1]), (3, .cells [ai vb3_0, ai vb3_1, .sl (flat tmCells vb3_2) (List.length vb3_2) .no]), (4, .cells [ai 0, ai 0, .sl (flat tmCells ([] : List Tm)) (List.length ([] : List Tm)) .nl])], 5, [], 0, []⟩
theorem q119 : Tryz.prog.funcs[119]? = some Tryz.f119 ∧ Tryz.f119.body.isNone = false := ⟨Tryz.func119, by kernel_rfl⟩
theorem k119 {M : Mach} {p1 : Tm} {fl : Int} {fu : Int} {r : Tm × Int × Int × Int} (h : CTri Tryz.prog 119 [.cells [.sl (flat entL M.l) (List.length M.l) .no, .mp 1 0, .sl (flat intC M.args) (List.length M.args) .no, .sl (flat intC M.own) (List.length M.own) .no], .cells [.sl (flat entL M.rl) (List.length M.rl) .no, .sl (flat conL M.parts) (List.length M.parts) .no], .cells [ai fl, ai fu]] [.mp 0 0, tmA p1, .mp 2 0] (.tup [tmA r.1, ai r.2.1]) [.cells [.sl (flat entL M.l) (List.length M.l) .no, .mp 1 0, .sl (flat intC M.args) (List.length M.args) .no, .sl (flat intC M.own) (List.length M.own) .no], .cells [.sl (flat entL M.rl) (List.length M.rl) .no, .sl (flat conL M.parts) (List.length M.parts) .no], .cells [ai r.2.2.1, ai r.2.2.2]] 0) : CT Tryz.prog 119 [.cells [.sl (flat entL M.l) (List.length M.l) .no, .mp 1 0, .sl (flat intC M.args) (List.length M.args) .no, .sl (flat intC M.own) (List.length M.own) .no], .cells [.sl (flat entL M.rl) (List.length M.rl) .no, .sl (flat conL M.parts) (List.length M.parts) .no], .cells [ai fl, ai fu]] [.mp 0 0, tmA p1, .mp 2 0] (.tup [tmA r.1, ai r.2.1]) [.cells [.sl (flat entL M.l) (List.length M.l) .no, .mp 1 0, .sl (flat intC M.args) (List.length M.args) .no, .sl (flat intC M.own) (List.length M.own) .no], .cells [.sl (flat entL M.rl) (List.length M.rl) .no, .sl (flat conL M.parts) (List.length M.parts) .no], .cells [ai r.2.2.1, ai r.2.2.2]] 0 := ⟨h, ⟨(show 0 < 3 by decide), ⟨trivial, trivial, ⟨trivial, dT _⟩, trivial⟩, (show 2 < 3 by decide), trivial⟩, (forall_cons ⟨⟨trivial, dE _⟩, (show 1 < 3 by decide), ⟨trivial, dI _⟩, ⟨trivial, dI _⟩, trivial⟩ (forall_cons ⟨⟨trivial, dE _⟩, ⟨trivial, dC _⟩, trivial⟩ (forall_cons ⟨trivial, trivial, trivial⟩ forall_nil))), ⟨⟨trivial, trivial, dT _, trivial⟩, trivial, trivial⟩, (forall_cons ⟨dE _, (show 1 < 3 by decide), dI _, dI _, trivial⟩ (forall_cons ⟨dE _, dC _, trivial⟩ (forall_cons ⟨trivial, trivial, trivial⟩ forall_nil)))⟩
theorem q171 : Tryz.prog.funcs[171]? = some Tryz.f171 ∧ Tryz.f171.body.isNone = false := ⟨Tryz.func171, by kernel_rfl⟩
theorem k171 {M : Mach} {p1 : Tm} {fl : Int} {fu : Int} {r : Tm × Bool × Int × Int × Int} (h : CTri Tryz.prog 171 [.cells [.sl (flat entL M.l) (List.length M.l) .no, .mp 1 0, .sl (flat intC M.args) (List.length M.args) .no, .sl (flat intC M.own) (List.length M.own) .no], .cells [.sl (flat entL M.rl) (List.length M.rl) .no, .sl (flat conL M.parts) (List.length M.parts) .no], .cells [ai fl, ai fu]] [.mp 0 0, tmA p1, .mp 2 0] (.tup [tmA r.1, ab r.2.1, ai r.2.2.1]) [.cells [.sl (flat entL M.l) (List.length M.l) .no, .mp 1 0, .sl (flat intC M.args) (List.length M.args) .no, .sl (flat intC M.own) (List.length M.own) .no], .cells [.sl (flat entL M.rl) (List.length M.rl) .no, .sl (flat conL M.parts) (List.length M.parts) .no], .cells [ai r.2.2.2.1, ai r.2.2.2.2]] 0) : CT Tryz.prog 171 [.cells [.sl (flat entL M.l) (List.length M.l) .no, .mp 1 0, .sl (flat intC M.args) (List.length M.args) .no, .sl (flat intC M.own) (List.length M.own) .no], .cells [.sl (flat entL M.rl) (List.length M.rl) .no, .sl (flat conL M.parts) (List.length M.parts) .no], .cells [ai fl, ai fu]] [.mp 0 0, tmA p1, .mp 2 0] (.tup [tmA r.1, ab r.2.1, ai r.2.2.1]) [.cells [.sl (flat entL M.l) (List.length M.l) .no, .mp 1 0, .sl (flat intC M.args) (List.length M.args) .no, .sl (flat intC M.own) (List.length M.own) .no], .cells [.sl (flat entL M.rl) (List.length M.rl) .no, .sl (flat conL M.parts) (List.length M.parts) .no], .cells [ai r.2.2.2.1, ai r.2.2.2.2]] 0 := ⟨h, ⟨(show 0 < 3 by decide), ⟨trivial, trivial, ⟨trivial, dT _⟩, trivial⟩, (show 2 < 3 by decide), trivial⟩, (forall_cons ⟨⟨trivial, dE _⟩, (show 1 < 3 by decide), ⟨trivial, dI _⟩, ⟨trivial, dI _⟩, trivial⟩ (forall_cons ⟨⟨trivial, dE _⟩, ⟨trivial, dC _⟩, trivial⟩ (forall_cons ⟨trivial, trivial, trivial⟩ forall_nil))), ⟨⟨trivial, trivial, dT _, trivial⟩, trivial, trivial, trivial⟩, (forall_cons ⟨dE _, (show 1 < 3 by decide), dI _, dI _, trivial⟩ (forall_cons ⟨dE _, dC _, trivial⟩ (forall_cons ⟨trivial, trivial, trivial⟩ forall_nil)))⟩
theorem c171 {qq : Nat} {M : Mach} {p1 : Tm} {fl : Int} {fu : Int} {r : Tm × Bool × Int × Int × Int} (h : e171 qq M p1 fl fu = some r) : CT Tryz.prog 171 [.cells [.sl (flat entL M.l) (List.length M.l) .no, .mp 1 0, .sl (flat intC M.args) (List.length M.args) .no, .sl (flat intC M.own) (List.length M.own) .no], .cells [.sl (flat entL M.rl) (List.length M.rl) .no, .sl (flat conL M.parts) (List.length M.parts) .no], .cells [ai fl, ai fu]] [.mp 0 0, tmA p1, .mp 2 0] (.tup [tmA r.1, ab r.2.1, ai r.2.2.1]) [.cells [.sl (flat entL M.l) (List.length M.l) .no, .mp 1 0, .sl (flat intC M.args) (List.length M.args) .no, .sl (flat intC M.own) (List.length M.own) .no], .cells [.sl (flat entL M.rl) (List.length M.rl) .no, .sl (flat conL M.parts) (List.length M.parts) .no], .cells [ai r.2.2.2.1, ai r.2.2.2.2]] 0 := by
  unfold e171 at h
  obtain ⟨r1, h2, h⟩ := obind h
  have k := oC 1 [] (c106 h2) o0
  obtain ⟨h3, h⟩ := splF h
  obtain ⟨r57, h58, h⟩ := obind h
  have k := oC 1 [0, 1] (c172 h58) <| oB 5 h3 k
  obtain ⟨h59, h⟩ := splF h
  obtain ⟨r69, h70, h⟩ := obind h
  have k := oC 1 [0, 1] (c172 h70) <| oB 0 h59 k
  obtain ⟨h71, h⟩ := splF h
  have k := oB 0 h71 k
  obtain ⟨h82, h⟩ := splF h
  obtain rfl := sj h
  exact k171 (tF q171 4 [0, 1, 2] (oD (dT p1.sub) <| oD (dC M.parts) <| oD (dE M.rl) <| oD (dI M.own) <| oD (dI M.args) <| oD (dE M.l) <| oB 1 h82 k) (by kernel_rfl))
theorem l119L37017 (qq : Nat) (M : Mach) (vb2_0 : Int) (vb2_1 : Int) (vb3_0 : Int) (vb3_1 : Int) (vb3_2 : List Tm) (r : Tm × Int × Int × Int) (h : e119L37017 qq M vb2_0 vb2_1 vb3_0 vb3_1 vb3_2 = some r) : (∀ j, Dl Tryz.prog 3 (inn (inn (rgt (inn (rgt (bod Tryz.f119)))))) (g119L37017E0 j M vb2_0 vb2_1 vb3_0 vb3_1 vb3_2) (g119L37017S0 M vb2_0 vb2_1 vb3_0 vb3_1 vb3_2) (frameQ Tryz.prog 3 (FinQ Tryz.prog 3 Tryz.f119 (.tup [tmA r.1, ai r.2.1]) [.cells [.sl (flat entL M.l) (List.length M.l) .no, .mp 1 0, .sl (flat intC M.args) (List.length M.args) .no, .sl (flat intC M.own) (List.length M.own) .no], .cells [.sl (flat entL M.rl) (List.length M.rl) .no, .sl (flat conL M.parts) (List.length M.parts) .no], .cells [ai r.2.2.1, ai r.2.2.2]] 0) [.blk 0])) := by
  unfold e119L37017 at h
  obtain ⟨r1, h2, h⟩ := obind h
  have k := oC 1 [0, 1, 2] (c171 h2) o0
  obtain ⟨h3, h⟩ := splF h
  have k := oB 1 h3 k
  obtain ⟨h5, h⟩ := splF h
  obtain rfl := sj h
  exact fun j => lF 2 [0, 1, 2] (oD (dT vb3_2) <| oD (dC M.parts) <| oD (dE M.rl) <| oD (dI M.own) <| oD (dI M.args) <| oD (dE M.l) <| oB 2 h5 k) (by kernel_rfl)
theorem c119 {qq : Nat} {M : Mach} {p1 : Tm} {fl : Int} {fu : Int} {r : Tm × Int × Int × Int} (h : e119 qq M p1 fl fu = some r) : CT Tryz.prog 119 [.cells [.sl (flat entL M.l) (List.length M.l) .no, .mp 1 0, .sl (flat intC M.args) (List.length M.args) .no, .sl (flat intC M.own) (List.length M.own) .no], .cells [.sl (flat entL M.rl) (List.length M.rl) .no, .sl (flat conL M.parts) (List.length M.parts) .no], .cells [ai fl, ai fu]] [.mp 0 0, tmA p1, .mp 2 0] (.tup [tmA r.1, ai r.2.1]) [.cells [.sl (flat entL M.l) (List.length M.l) .no, .mp 1 0, .sl (flat intC M.args) (List.length M.args) .no, .sl (flat intC M.own) (List.length M.own) .no], .cells [.sl (flat entL M.rl) (List.length M.rl) .no, .sl (flat conL M.parts) (List.length M.parts) .no], .cells [ai r.2.2.1, ai r.2.2.2]] 0 := by
  unfold e119 at h
  exact k119 (tH q119 0 [] [0, 1, 2, 3, 4] [] [0, 2, 4, 6] (oD (dT ([] : List Tm)) <| oD (dT p1.sub) <| oD (dC M.parts) <| oD (dE M.rl) <| oD (dI M.own) <| oD (dI M.args) <| oD (dE M.l) o0) (l119L37017 qq _ _ _ _ _ _ _ h) (fun j => by kernel_rfl))
theorem c233 {qq : Nat} {M : Mach} {p1 : Tm} {p2 : List Tm} {fl : Int} {fu : Int} {r : Tm × Bool × Int × Int × Int} (h : e233 qq M p1 p2 fl fu = some r) : CT Tryz.prog 233 [.cells [.sl (flat entL M.l) (List.length M.l) .no, .mp 1 0, .sl (flat intC M.args) (List.length M.args) .no, .sl (flat intC M.own) (List.length M.own) .no], .cells [.sl (flat entL M.rl) (List.length M.rl) .no, .sl (flat conL M.parts) (List.length M.parts) .no], .cells [ai fl, ai fu]] [.mp 0 0, tmA p1, .sl (flat tmCells p2) (List.length p2) .no, .mp 2 0] (.tup [tmA r.1, ab r.2.1, ai r.2.2.1]) [.cells [.sl (flat entL M.l) (List.length M.l) .no, .mp 1 0, .sl (flat intC M.args) (List.length M.args) .no, .sl (flat intC M.own) (List.length M.own) .no], .cells [.sl (flat entL M.rl) (List.length M.rl) .no, .sl (flat conL M.parts) (List.length M.parts) .no], .cells [ai r.2.2.2.1, ai r.2.2.2.2]] 0 := by
  unfold e233 at h
  cases h
theorem c234 {qq : Nat} {M : Mach} {p1 : Tm} {p2 : List Tm} {fl : Int} {fu : Int} {r : Tm × Bool × Int × Int × Int} (h : e234 qq M p1 p2 fl fu = some r) : CT Tryz.prog 234 [.cells [.sl (flat entL M.l) (List.length M.l) .no, .mp 1 0, .sl (flat intC M.args) (List.length M.args) .no, .sl (flat intC M.own) (List.length M.own) .no], .cells [.sl (flat entL M.rl) (List.length M.rl) .no, .sl (flat conL M.parts) (List.length M.parts) .no], .cells [ai fl, ai fu]] [.mp 0 0, tmA p1, .sl (flat tmCells p2) (List.length p2) .no, .mp 2 0] (.tup [tmA r.1, ab r.2.1, ai r.2.2.1]) [.cells [.sl (flat entL M.l) (List.length M.l) .no, .mp 1 0, .sl (flat intC M.args) (List.length M.args) .no, .sl (flat intC M.own) (List.length M.own) .no], .cells [.sl (flat entL M.rl) (List.length M.rl) .no, .sl (flat conL M.parts) (List.length M.parts) .no], .cells [ai r.2.2.2.1, ai r.2.2.2.2]] 0 := by
  unfold e234 at h
  cases h

end Go.Proofs.YtlbmblbeccafcaaGreat

namespace Go.Proofs.YtlbmblbeccafcaaGreat
open Go Go.Ab

/- (*scholium/whnf.Machine).Bring -/
def e75 (qq : Nat) (M : Mach) (p1 : Tm) (fl : Int) (fu : Int) : Option (Tm × Int × Int × Int) :=
  (e118 qq M p1) >>= fun r1 =>
  if r1 = true then
    (e119 qq M p1 fl fu) >>= fun r4 =>
    if (r4.2.1 != 0) = true then
      none
    else
      (e50 qq r4.1) >>= fun r7 =>
      some (r7, 0, r4.2.2.1, r4.2.2.2)
  else
    none
theorem q75 : Tryz.prog.funcs[75]? = some Tryz.f75 ∧ Tryz.f75.body.isNone = false := ⟨Tryz.func75, by kernel_rfl⟩
theorem k75 {M : Mach} {p1 : Tm} {fl : Int} {fu : Int} {r : Tm × Int × Int × Int} (h : CTri Tryz.prog 75 [.cells [.sl (flat entL M.l) (List.length M.l) .no, .mp 1 0, .sl (flat intC M.args) (List.length M.args) .no, .sl (flat intC M.own) (List.length M.own) .no], .cells [.sl (flat entL M.rl) (List.length M.rl) .no, .sl (flat conL M.parts) (List.length M.parts) .no], .cells [ai fl, ai fu]] [.mp 0 0, tmA p1, .mp 2 0] (.tup [tmA r.1, ai r.2.1]) [.cells [.sl (flat entL M.l) (List.length M.l) .no, .mp 1 0, .sl (flat intC M.args) (List.length M.args) .no, .sl (flat intC M.own) (List.length M.own) .no], .cells [.sl (flat entL M.rl) (List.length M.rl) .no, .sl (flat conL M.parts) (List.length M.parts) .no], .cells [ai r.2.2.1, ai r.2.2.2]] 0) : CT Tryz.prog 75 [.cells [.sl (flat entL M.l) (List.length M.l) .no, .mp 1 0, .sl (flat intC M.args) (List.length M.args) .no, .sl (flat intC M.own) (List.length M.own) .no], .cells [.sl (flat entL M.rl) (List.length M.rl) .no, .sl (flat conL M.parts) (List.length M.parts) .no], .cells [ai fl, ai fu]] [.mp 0 0, tmA p1, .mp 2 0] (.tup [tmA r.1, ai r.2.1]) [.cells [.sl (flat entL M.l) (List.length M.l) .no, .mp 1 0, .sl (flat intC M.args) (List.length M.args) .no, .sl (flat intC M.own) (List.length M.own) .no], .cells [.sl (flat entL M.rl) (List.length M.rl) .no, .sl (flat conL M.parts) (List.length M.parts) .no], .cells [ai r.2.2.1, ai r.2.2.2]] 0 := ⟨h, ⟨(show 0 < 3 by decide), ⟨trivial, trivial, ⟨trivial, dT _⟩, trivial⟩, (show 2 < 3 by decide), trivial⟩, (forall_cons ⟨⟨trivial, dE _⟩, (show 1 < 3 by decide), ⟨trivial, dI _⟩, ⟨trivial, dI _⟩, trivial⟩ (forall_cons ⟨⟨trivial, dE _⟩, ⟨trivial, dC _⟩, trivial⟩ (forall_cons ⟨trivial, trivial, trivial⟩ forall_nil))), ⟨⟨trivial, trivial, dT _, trivial⟩, trivial, trivial⟩, (forall_cons ⟨dE _, (show 1 < 3 by decide), dI _, dI _, trivial⟩ (forall_cons ⟨dE _, dC _, trivial⟩ (forall_cons ⟨trivial, trivial, trivial⟩ forall_nil)))⟩
theorem c75 {qq : Nat} {M : Mach} {p1 : Tm} {fl : Int} {fu : Int} {r : Tm × Int × Int × Int} (h : e75 qq M p1 fl fu = some r) : CT Tryz.prog 75 [.cells [.sl (flat entL M.l) (List.length M.l) .no, .mp 1 0, .sl (flat intC M.args) (List.length M.args) .no, .sl (flat intC M.own) (List.length M.own) .no], .cells [.sl (flat entL M.rl) (List.length M.rl) .no, .sl (flat conL M.parts) (List.length M.parts) .no], .cells [ai fl, ai fu]] [.mp 0 0, tmA p1, .mp 2 0] (.tup [tmA r.1, ai r.2.1]) [.cells [.sl (flat entL M.l) (List.length M.l) .no, .mp 1 0, .sl (flat intC M.args) (List.length M.args) .no, .sl (flat intC M.own) (List.length M.own) .no], .cells [.sl (flat entL M.rl) (List.length M.rl) .no, .sl (flat conL M.parts) (List.length M.parts) .no], .cells [ai r.2.2.1, ai r.2.2.2]] 0 := by
  unfold e75 at h
  obtain ⟨r1, h2, h⟩ := obind h
  obtain ⟨h3, h⟩ := splT h
  obtain ⟨r4, h5, h⟩ := obind h
  have k := oC 2 [0, 1, 2] (c119 h5) <| oK 1 [0, 1] h3 (c118 h2) o0
  obtain ⟨h6, h⟩ := splF h
  obtain ⟨r7, h8, h⟩ := obind h
  obtain rfl := sj h
  exact k75 (tF q75 1 [0, 1, 2] (oD (dT r7.sub) <| oD (dC M.parts) <| oD (dE M.rl) <| oD (dI M.own) <| oD (dI M.args) <| oD (dE M.l) <| oC 1 [] (c50 h8) <| oB 3 h6 k) (by kernel_rfl))

end Go.Proofs.YtlbmblbeccafcaaGreat

namespace Go.Proofs.YtlbmblbeccafcaaGreat
open Go Go.Ab

/- (*sync/atomic.Int64).Load -/
def e174va9626 (qq : Nat) (q0 : Int) (q1 : Int) : Option (Int) :=
  some q0
theorem q174va9626 : Tryz.prog.funcs[174]? = some Tryz.f174 ∧ Tryz.f174.body.isNone = false := ⟨Tryz.func174, by kernel_rfl⟩
theorem k174va9626 {q0 : Int} {q1 : Int} {r : Int} (h : CTri Tryz.prog 174 [.cells [ai q0, ai q1]] [.mp 0 0] (ai r) [.cells [ai q0, ai q1]] 0) : CT Tryz.prog 174 [.cells [ai q0, ai q1]] [.mp 0 0] (ai r) [.cells [ai q0, ai q1]] 0 := ⟨h, ⟨(show 0 < 1 by decide), trivial⟩, (forall_cons ⟨trivial, trivial, trivial⟩ forall_nil), trivial, (forall_cons ⟨trivial, trivial, trivial⟩ forall_nil)⟩
theorem c174va9626 {qq : Nat} {q0 : Int} {q1 : Int} {r : Int} (h : e174va9626 qq q0 q1 = some r) : CT Tryz.prog 174 [.cells [ai q0, ai q1]] [.mp 0 0] (ai r) [.cells [ai q0, ai q1]] 0 := by
  unfold e174va9626 at h
  obtain rfl := sj h
  exact k174va9626 (tF q174va9626 1 [0] (o0) (by kernel_rfl))

end Go.Proofs.YtlbmblbeccafcaaGreat

namespace Go.Proofs.YtlbmblbeccafcaaGreat
open Go Go.Ab

/- (*sync/atomic.Int64).Add -/
def e175va12063 (qq : Nat) (q0 : Int) (q1 : Int) (p1 : Int) : Option (Int × Int) :=
  some ((w64 (q0 + p1)), (w64 (q0 + p1)))
theorem q175va12063 : Tryz.prog.funcs[175]? = some Tryz.f175 ∧ Tryz.f175.body.isNone = false := ⟨Tryz.func175, by kernel_rfl⟩
theorem k175va12063 {q0 : Int} {q1 : Int} {p1 : Int} {r : Int × Int} (h : CTri Tryz.prog 175 [.cells [ai q0, ai q1]] [.mp 0 0, ai p1] (ai r.1) [.cells [ai r.2, ai q1]] 0) : CT Tryz.prog 175 [.cells [ai q0, ai q1]] [.mp 0 0, ai p1] (ai r.1) [.cells [ai r.2, ai q1]] 0 := ⟨h, ⟨(show 0 < 1 by decide), trivial, trivial⟩, (forall_cons ⟨trivial, trivial, trivial⟩ forall_nil), trivial, (forall_cons ⟨trivial, trivial, trivial⟩ forall_nil)⟩
theorem c175va12063 {qq : Nat} {q0 : Int} {q1 : Int} {p1 : Int} {r : Int × Int} (h : e175va12063 qq q0 q1 p1 = some r) : CT Tryz.prog 175 [.cells [ai q0, ai q1]] [.mp 0 0, ai p1] (ai r.1) [.cells [ai r.2, ai q1]] 0 := by
  unfold e175va12063 at h
  obtain rfl := sj h
  exact k175va12063 (tF q175va12063 1 [0] (o0) (by kernel_rfl))

end Go.Proofs.YtlbmblbeccafcaaGreat

namespace Go.Proofs.YtlbmblbeccafcaaGreat
open Go Go.Ab

/- (*sync/atomic.Int64).Add -/
def e175va37370 (qq : Nat) (q0 : Int) (q1 : Int) (p1 : Int) : Option (Int × Int) :=
  some ((w64 (q1 + p1)), (w64 (q1 + p1)))
theorem q175va37370 : Tryz.prog.funcs[175]? = some Tryz.f175 ∧ Tryz.f175.body.isNone = false := ⟨Tryz.func175, by kernel_rfl⟩
theorem k175va37370 {q0 : Int} {q1 : Int} {p1 : Int} {r : Int × Int} (h : CTri Tryz.prog 175 [.cells [ai q0, ai q1]] [.mp 0 1, ai p1] (ai r.1) [.cells [ai q0, ai r.2]] 0) : CT Tryz.prog 175 [.cells [ai q0, ai q1]] [.mp 0 1, ai p1] (ai r.1) [.cells [ai q0, ai r.2]] 0 := ⟨h, ⟨(show 0 < 1 by decide), trivial, trivial⟩, (forall_cons ⟨trivial, trivial, trivial⟩ forall_nil), trivial, (forall_cons ⟨trivial, trivial, trivial⟩ forall_nil)⟩
theorem c175va37370 {qq : Nat} {q0 : Int} {q1 : Int} {p1 : Int} {r : Int × Int} (h : e175va37370 qq q0 q1 p1 = some r) : CT Tryz.prog 175 [.cells [ai q0, ai q1]] [.mp 0 1, ai p1] (ai r.1) [.cells [ai q0, ai r.2]] 0 := by
  unfold e175va37370 at h
  obtain rfl := sj h
  exact k175va37370 (tF q175va37370 1 [0] (o0) (by kernel_rfl))

end Go.Proofs.YtlbmblbeccafcaaGreat

namespace Go.Proofs.YtlbmblbeccafcaaGreat
open Go Go.Ab

/- (*scholium/meter.Meter).Spend -/
def e122 (qq : Nat) (fl : Int) (fu : Int) (p1 : Int) : Option (Int × Int × Int) :=
  if decide (p1 < 0) = true then
    none
  else
    (e174va9626 qq fl fu) >>= fun r2 =>
    if decide (p1 > r2) = true then
      none
    else
      (e175va12063 qq fl fu (w64 (0 - p1))) >>= fun r5 =>
      (e175va37370 qq r5.2 fu p1) >>= fun r7 =>
      some (0, r5.2, r7.2)
theorem q122 : Tryz.prog.funcs[122]? = some Tryz.f122 ∧ Tryz.f122.body.isNone = false := ⟨Tryz.func122, by kernel_rfl⟩
theorem k122 {fl : Int} {fu : Int} {p1 : Int} {r : Int × Int × Int} (h : CTri Tryz.prog 122 [.cells [ai fl, ai fu]] [.mp 0 0, ai p1] (ai r.1) [.cells [ai r.2.1, ai r.2.2]] 0) : CT Tryz.prog 122 [.cells [ai fl, ai fu]] [.mp 0 0, ai p1] (ai r.1) [.cells [ai r.2.1, ai r.2.2]] 0 := ⟨h, ⟨(show 0 < 1 by decide), trivial, trivial⟩, (forall_cons ⟨trivial, trivial, trivial⟩ forall_nil), trivial, (forall_cons ⟨trivial, trivial, trivial⟩ forall_nil)⟩
theorem c122 {qq : Nat} {fl : Int} {fu : Int} {p1 : Int} {r : Int × Int × Int} (h : e122 qq fl fu p1 = some r) : CT Tryz.prog 122 [.cells [ai fl, ai fu]] [.mp 0 0, ai p1] (ai r.1) [.cells [ai r.2.1, ai r.2.2]] 0 := by
  unfold e122 at h
  obtain ⟨h1, h⟩ := splF h
  obtain ⟨r2, h3, h⟩ := obind h
  have k := oC 0 [0] (c174va9626 h3) <| oB 1 h1 o0
  obtain ⟨h4, h⟩ := splF h
  obtain ⟨r5, h6, h⟩ := obind h
  obtain ⟨r7, h8, h⟩ := obind h
  obtain rfl := sj h
  exact k122 (tF q122 0 [0] (oC 0 [0] (c175va37370 h8) <| oC 1 [0] (c175va12063 h6) <| oB 0 h4 k) (by kernel_rfl))

end Go.Proofs.YtlbmblbeccafcaaGreat

namespace Go.Proofs.YtlbmblbeccafcaaGreat
open Go Go.Ab

/- (*scholium/meter.Meter).Step -/
def e80 (qq : Nat) (fl : Int) (fu : Int) : Option (Int × Int × Int) :=
  (e122 qq fl fu 1) >>= fun r1 =>
  some (r1.1, r1.2.1, r1.2.2)
theorem q80 : Tryz.prog.funcs[80]? = some Tryz.f80 ∧ Tryz.f80.body.isNone = false := ⟨Tryz.func80, by kernel_rfl⟩
theorem k80 {fl : Int} {fu : Int} {r : Int × Int × Int} (h : CTri Tryz.prog 80 [.cells [ai fl, ai fu]] [.mp 0 0] (ai r.1) [.cells [ai r.2.1, ai r.2.2]] 0) : CT Tryz.prog 80 [.cells [ai fl, ai fu]] [.mp 0 0] (ai r.1) [.cells [ai r.2.1, ai r.2.2]] 0 := ⟨h, ⟨(show 0 < 1 by decide), trivial⟩, (forall_cons ⟨trivial, trivial, trivial⟩ forall_nil), trivial, (forall_cons ⟨trivial, trivial, trivial⟩ forall_nil)⟩
theorem c80 {qq : Nat} {fl : Int} {fu : Int} {r : Int × Int × Int} (h : e80 qq fl fu = some r) : CT Tryz.prog 80 [.cells [ai fl, ai fu]] [.mp 0 0] (ai r.1) [.cells [ai r.2.1, ai r.2.2]] 0 := by
  unfold e80 at h
  obtain ⟨r1, h2, h⟩ := obind h
  obtain rfl := sj h
  exact k80 (tF q80 0 [0] (oC 0 [0] (c122 h2) o0) (by kernel_rfl))

end Go.Proofs.YtlbmblbeccafcaaGreat

namespace Go.Proofs.YtlbmblbeccafcaaGreat
open Go Go.Ab

/- (*scholium/unify.solver).got -/
def e81va29840 (qq : Nat) (q0 : List Ent) (q1 : List Ent) (q2 : List Con') (q3 : List Int) (q4 : List Int) (q5 : Int) (q6 : Int) (q7 : List FreeVar) (q8 : List UnifyEquation) (q9 : Nat) (q10 : Nat) (q11 : Nat) (q12 : Bool) (q13 : Bool) (q14 : Int) (p1 : Tm) (p2 : Int) : Option (Tm × Int) :=
  if (q14 == 0) = true then
    some (p1, p2)
  else
    none
theorem q81va29840 : Tryz.prog.funcs[81]? = some Tryz.f81 ∧ Tryz.f81.body.isNone = false := ⟨Tryz.func81, by kernel_rfl⟩
theorem k81va29840 {q0 : List Ent} {q1 : List Ent} {q2 : List Con'} {q3 : List Int} {q4 : List Int} {q5 : Int} {q6 : Int} {q7 : List FreeVar} {q8 : List UnifyEquation} {q9 : Nat} {q10 : Nat} {q11 : Nat} {q12 : Bool} {q13 : Bool} {q14 : Int} {p1 : Tm} {p2 : Int} {r : Tm × Int} (h : CTri Tryz.prog 81 [.cells [.mp 1 0, .mp 3 0, .sl (flat freeVarL q7) (List.length q7) .no, .ms 4 (q10 * 6) q9 q11 6, ab q12, .sl (flat freeVarL ([] : List FreeVar)) (List.length ([] : List FreeVar)) .nl, .sl (flat unifySolvedL ([] : List UnifySolved)) (List.length ([] : List UnifySolved)) .nl, .sl (flat intC ([] : List Int)) (List.length ([] : List Int)) .nl, ab q13, ai q14], .cells [.sl (flat entL q0) (List.length q0) .no, .mp 2 0, .sl (flat intC q3) (List.length q3) .no, .sl (flat intC q4) (List.length q4) .no], .cells [.sl (flat entL q1) (List.length q1) .no, .sl (flat conL q2) (List.length q2) .no], .cells [ai q5, ai q6], .row (flat unifyEquationL q8)] [.mp 0 0, tmA p1, ai p2] (tmA r.1) [.cells [.mp 1 0, .mp 3 0, .sl (flat freeVarL q7) (List.length q7) .no, .ms 4 (q10 * 6) q9 q11 6, ab q12, .sl (flat freeVarL ([] : List FreeVar)) (List.length ([] : List FreeVar)) .nl, .sl (flat unifySolvedL ([] : List UnifySolved)) (List.length ([] : List UnifySolved)) .nl, .sl (flat intC ([] : List Int)) (List.length ([] : List Int)) .nl, ab q13, ai r.2], .cells [.sl (flat entL q0) (List.length q0) .no, .mp 2 0, .sl (flat intC q3) (List.length q3) .no, .sl (flat intC q4) (List.length q4) .no], .cells [.sl (flat entL q1) (List.length q1) .no, .sl (flat conL q2) (List.length q2) .no], .cells [ai q5, ai q6], .row (flat unifyEquationL q8)] 0) : CT Tryz.prog 81 [.cells [.mp 1 0, .mp 3 0, .sl (flat freeVarL q7) (List.length q7) .no, .ms 4 (q10 * 6) q9 q11 6, ab q12, .sl (flat freeVarL ([] : List FreeVar)) (List.length ([] : List FreeVar)) .nl, .sl (flat unifySolvedL ([] : List UnifySolved)) (List.length ([] : List UnifySolved)) .nl, .sl (flat intC ([] : List Int)) (List.length ([] : List Int)) .nl, ab q13, ai q14], .cells [.sl (flat entL q0) (List.length q0) .no, .mp 2 0, .sl (flat intC q3) (List.length q3) .no, .sl (flat intC q4) (List.length q4) .no], .cells [.sl (flat entL q1) (List.length q1) .no, .sl (flat conL q2) (List.length q2) .no], .cells [ai q5, ai q6], .row (flat unifyEquationL q8)] [.mp 0 0, tmA p1, ai p2] (tmA r.1) [.cells [.mp 1 0, .mp 3 0, .sl (flat freeVarL q7) (List.length q7) .no, .ms 4 (q10 * 6) q9 q11 6, ab q12, .sl (flat freeVarL ([] : List FreeVar)) (List.length ([] : List FreeVar)) .nl, .sl (flat unifySolvedL ([] : List UnifySolved)) (List.length ([] : List UnifySolved)) .nl, .sl (flat intC ([] : List Int)) (List.length ([] : List Int)) .nl, ab q13, ai r.2], .cells [.sl (flat entL q0) (List.length q0) .no, .mp 2 0, .sl (flat intC q3) (List.length q3) .no, .sl (flat intC q4) (List.length q4) .no], .cells [.sl (flat entL q1) (List.length q1) .no, .sl (flat conL q2) (List.length q2) .no], .cells [ai q5, ai q6], .row (flat unifyEquationL q8)] 0 := ⟨h, ⟨(show 0 < 5 by decide), ⟨trivial, trivial, ⟨trivial, dT _⟩, trivial⟩, trivial, trivial⟩, (forall_cons ⟨(show 1 < 5 by decide), (show 3 < 5 by decide), ⟨trivial, dFreeVar _⟩, (show 4 < 5 by decide), trivial, ⟨trivial, dFreeVar _⟩, ⟨trivial, dUnifySolved _⟩, ⟨trivial, dI _⟩, trivial, trivial, trivial⟩ (forall_cons ⟨⟨trivial, dE _⟩, (show 2 < 5 by decide), ⟨trivial, dI _⟩, ⟨trivial, dI _⟩, trivial⟩ (forall_cons ⟨⟨trivial, dE _⟩, ⟨trivial, dC _⟩, trivial⟩ (forall_cons ⟨trivial, trivial, trivial⟩ (forall_cons (dUnifyEquation _) forall_nil))))), ⟨trivial, trivial, dT _, trivial⟩, (forall_cons ⟨(show 1 < 5 by decide), (show 3 < 5 by decide), dFreeVar _, (show 4 < 5 by decide), trivial, dFreeVar _, dUnifySolved _, dI _, trivial, trivial, trivial⟩ (forall_cons ⟨dE _, (show 2 < 5 by decide), dI _, dI _, trivial⟩ (forall_cons ⟨dE _, dC _, trivial⟩ (forall_cons ⟨trivial, trivial, trivial⟩ (forall_cons (dUnifyEquation _) forall_nil)))))⟩
theorem c81va29840 {qq : Nat} {q0 : List Ent} {q1 : List Ent} {q2 : List Con'} {q3 : List Int} {q4 : List Int} {q5 : Int} {q6 : Int} {q7 : List FreeVar} {q8 : List UnifyEquation} {q9 : Nat} {q10 : Nat} {q11 : Nat} {q12 : Bool} {q13 : Bool} {q14 : Int} {p1 : Tm} {p2 : Int} {r : Tm × Int} (h : e81va29840 qq q0 q1 q2 q3 q4 q5 q6 q7 q8 q9 q10 q11 q12 q13 q14 p1 p2 = some r) : CT Tryz.prog 81 [.cells [.mp 1 0, .mp 3 0, .sl (flat freeVarL q7) (List.length q7) .no, .ms 4 (q10 * 6) q9 q11 6, ab q12, .sl (flat freeVarL ([] : List FreeVar)) (List.length ([] : List FreeVar)) .nl, .sl (flat unifySolvedL ([] : List UnifySolved)) (List.length ([] : List UnifySolved)) .nl, .sl (flat intC ([] : List Int)) (List.length ([] : List Int)) .nl, ab q13, ai q14], .cells [.sl (flat entL q0) (List.length q0) .no, .mp 2 0, .sl (flat intC q3) (List.length q3) .no, .sl (flat intC q4) (List.length q4) .no], .cells [.sl (flat entL q1) (List.length q1) .no, .sl (flat conL q2) (List.length q2) .no], .cells [ai q5, ai q6], .row (flat unifyEquationL q8)] [.mp 0 0, tmA p1, ai p2] (tmA r.1) [.cells [.mp 1 0, .mp 3 0, .sl (flat freeVarL q7) (List.length q7) .no, .ms 4 (q10 * 6) q9 q11 6, ab q12, .sl (flat freeVarL ([] : List FreeVar)) (List.length ([] : List FreeVar)) .nl, .sl (flat unifySolvedL ([] : List UnifySolved)) (List.length ([] : List UnifySolved)) .nl, .sl (flat intC ([] : List Int)) (List.length ([] : List Int)) .nl, ab q13, ai r.2], .cells [.sl (flat entL q0) (List.length q0) .no, .mp 2 0, .sl (flat intC q3) (List.length q3) .no, .sl (flat intC q4) (List.length q4) .no], .cells [.sl (flat entL q1) (List.length q1) .no, .sl (flat conL q2) (List.length q2) .no], .cells [ai q5, ai q6], .row (flat unifyEquationL q8)] 0 := by
  unfold e81va29840 at h
  obtain ⟨h1, h⟩ := splT h
  obtain rfl := sj h
  exact k81va29840 (tG q81va29840 3 [] [0, 1, 2, 3, 4] [] true (oD (dT p1.sub) <| oD (dUnifyEquation q8) <| oD (dC q2) <| oD (dE q1) <| oD (dI q4) <| oD (dI q3) <| oD (dE q0) <| oD (dI ([] : List Int)) <| oD (dUnifySolved ([] : List UnifySolved)) <| oD (dFreeVar ([] : List FreeVar)) <| oD (dFreeVar q7) <| oB 1 h1 o0) (by kernel_rfl) (by decide))

end Go.Proofs.YtlbmblbeccafcaaGreat

namespace Go.Proofs.YtlbmblbeccafcaaGreat
open Go Go.Ab

/- scholium/free.Find -/
def e123L12040 : Nat → (List FreeVar) → Int → Int →  Option (Tm × Int)
  | 0, _, _, _ => none
  | qq + 1, p0, p1, v10 =>
    if decide (v10 < (List.length p0 : Int)) = true then
      (gidx p0 v10) >>= fun x2 =>
      if (x2.n_ == p1) = true then
        (e50 qq x2.type_) >>= fun r5 =>
        some (r5, 0)
      else
        e123L12040 qq p0 p1 (w64 (v10 + 1))
    else
      some ((Tm.mk 0 0 []), 16)
def e123 (qq : Nat) (p0 : List FreeVar) (p1 : Int) : Option (Tm × Int) :=
  e123L12040 qq p0 p1 0
def g123L12040E0 (j : Nat → Value) (p0 : List FreeVar) (p1 : Int) (v10 : Int) : List AV := sp j 23 0 [(1, ai p1), (4, .mp 0 0), (8, .sl (flat freeVarL p0) (List.length p0) .no), (9, ai (List.length p0 : Int)), (10, ai v10)]
def g123L12040S0 (p0 : List FreeVar) (p1 : Int) (v10 : Int) : LSt := ⟨[(0, .cells [ai 0, ai 0, .sl (flat tmCells ([] : List Tm)) (List.length ([] : List Tm)) .nl])], 1, [], 0, []⟩
theorem q123 : Tryz.prog.funcs[123]? = some Tryz.f123 ∧ Tryz.f123.body.isNone = false := ⟨Tryz.func123, by kernel_rfl⟩
theorem k123 {p0 : List FreeVar} {p1 : Int} {r : Tm × Int} (h : CTri Tryz.prog 123 [] [.sl (flat freeVarL p0) (List.length p0) .no, ai p1] (.tup [tmA r.1, ai r.2]) [] 0) : CT Tryz.prog 123 [] [.sl (flat freeVarL p0) (List.length p0) .no, ai p1] (.tup [tmA r.1, ai r.2]) [] 0 := ⟨h, ⟨⟨trivial, dFreeVar _⟩, trivial, trivial⟩, forall_nil, ⟨⟨trivial, trivial, dT _, trivial⟩, trivial, trivial⟩, forall_nil⟩
theorem l123L12040 : ∀ qq : Nat, (∀ (p0 : List FreeVar) (p1 : Int) (v10 : Int) (r : Tm × Int), e123L12040 qq p0 p1 v10 = some r → (∀ j, Dl Tryz.prog 0 (inn (inn (rgt (lft (rgt (bod Tryz.f123)))))) (g123L12040E0 j p0 p1 v10) (g123L12040S0 p0 p1 v10) (frameQ Tryz.prog 0 (FinQ Tryz.prog 0 Tryz.f123 (.tup [tmA r.1, ai r.2]) [] 0) [.blk 0, .seq (rgt (rgt (bod Tryz.f123)))]))) := by
  intro qq
  induction qq with
  | zero =>
    exact fun _ _ _ _ h => nn h
  | succ qq ih =>
    intro p0 p1 v10 r h
    rw [e123L12040] at h
    rcases spl h with ⟨h1, h⟩ | ⟨h1, h⟩
    · obtain ⟨x2, h3, h⟩ := obind h
      have k := oA 0 (ix42 (o := .no) h3) <| oB 0 h1 o0
      rcases spl h with ⟨h4, h⟩ | ⟨h4, h⟩
      · obtain ⟨r5, h6, h⟩ := obind h
        obtain rfl := sj h
        exact fun j => lF 1 [] (oD (dT r5.sub) <| oC 1 [] (c50 h6) <| oB 3 h4 k) (by kernel_rfl)
      · exact fun j => lH 1 [] [0] [] [1, 4, 8, 9, 10] (oD (dFreeVar p0) <| oD (dT ([] : List Tm)) <| oB 3 h4 k) (ih _ _ _ _ h) (fun j => by kernel_rfl)
    · obtain rfl := sj h
      exact fun j => lF 1 [] (oD (dT ([] : List Tm)) <| oB 0 h1 o0) (by kernel_rfl)
theorem c123 {qq : Nat} {p0 : List FreeVar} {p1 : Int} {r : Tm × Int} (h : e123 qq p0 p1 = some r) : CT Tryz.prog 123 [] [.sl (flat freeVarL p0) (List.length p0) .no, ai p1] (.tup [tmA r.1, ai r.2]) [] 0 := by
  unfold e123 at h
  exact k123 (tH q123 1 [] [0] [] [1, 4, 8, 9, 10] (oD (dFreeVar p0) <| oD (dT ([] : List Tm)) o0) (l123L12040 _ _ _ _ _ h) (fun j => by kernel_rfl))

end Go.Proofs.YtlbmblbeccafcaaGreat

namespace Go.Proofs.YtlbmblbeccafcaaGreat
open Go Go.Ab

/- (*scholium/unify.solver).variable -/
def e82va14585 (qq : Nat) (q0 : List Ent) (q1 : List Ent) (q2 : List Con') (q3 : List Int) (q4 : List Int) (q5 : Int) (q6 : Int) (q7 : List FreeVar) (q8 : List UnifyEquation) (q9 : Nat) (q10 : Nat) (q11 : Nat) (q12 : Bool) (q13 : Bool) (q14 : Int) (p1 : Tm) : Option (Int) :=
  if (p1.k != 8) = true then
    some (-1)
  else
    (e123 qq q7 p1.n) >>= fun r2 =>
    if (r2.2 != 0) = true then
      some (-1)
    else
      some p1.n
theorem q82va14585 : Tryz.prog.funcs[82]? = some Tryz.f82 ∧ Tryz.f82.body.isNone = false := ⟨Tryz.func82, by kernel_rfl⟩
theorem k82va14585 {q0 : List Ent} {q1 : List Ent} {q2 : List Con'} {q3 : List Int} {q4 : List Int} {q5 : Int} {q6 : Int} {q7 : List FreeVar} {q8 : List UnifyEquation} {q9 : Nat} {q10 : Nat} {q11 : Nat} {q12 : Bool} {q13 : Bool} {q14 : Int} {p1 : Tm} {r : Int} (h : CTri Tryz.prog 82 [.cells [.mp 1 0, .mp 3 0, .sl (flat freeVarL q7) (List.length q7) .no, .ms 4 (q10 * 6) q9 q11 6, ab q12, .sl (flat freeVarL ([] : List FreeVar)) (List.length ([] : List FreeVar)) .nl, .sl (flat unifySolvedL ([] : List UnifySolved)) (List.length ([] : List UnifySolved)) .nl, .sl (flat intC ([] : List Int)) (List.length ([] : List Int)) .nl, ab q13, ai q14], .cells [.sl (flat entL q0) (List.length q0) .no, .mp 2 0, .sl (flat intC q3) (List.length q3) .no, .sl (flat intC q4) (List.length q4) .no], .cells [.sl (flat entL q1) (List.length q1) .no, .sl (flat conL q2) (List.length q2) .no], .cells [ai q5, ai q6], .row (flat unifyEquationL q8)] [.mp 0 0, tmA p1] (ai r) [.cells [.mp 1 0, .mp 3 0, .sl (flat freeVarL q7) (List.length q7) .no, .ms 4 (q10 * 6) q9 q11 6, ab q12, .sl (flat freeVarL ([] : List FreeVar)) (List.length ([] : List FreeVar)) .nl, .sl (flat unifySolvedL ([] : List UnifySolved)) (List.length ([] : List UnifySolved)) .nl, .sl (flat intC ([] : List Int)) (List.length ([] : List Int)) .nl, ab q13, ai q14], .cells [.sl (flat entL q0) (List.length q0) .no, .mp 2 0, .sl (flat intC q3) (List.length q3) .no, .sl (flat intC q4) (List.length q4) .no], .cells [.sl (flat entL q1) (List.length q1) .no, .sl (flat conL q2) (List.length q2) .no], .cells [ai q5, ai q6], .row (flat unifyEquationL q8)] 0) : CT Tryz.prog 82 [.cells [.mp 1 0, .mp 3 0, .sl (flat freeVarL q7) (List.length q7) .no, .ms 4 (q10 * 6) q9 q11 6, ab q12, .sl (flat freeVarL ([] : List FreeVar)) (List.length ([] : List FreeVar)) .nl, .sl (flat unifySolvedL ([] : List UnifySolved)) (List.length ([] : List UnifySolved)) .nl, .sl (flat intC ([] : List Int)) (List.length ([] : List Int)) .nl, ab q13, ai q14], .cells [.sl (flat entL q0) (List.length q0) .no, .mp 2 0, .sl (flat intC q3) (List.length q3) .no, .sl (flat intC q4) (List.length q4) .no], .cells [.sl (flat entL q1) (List.length q1) .no, .sl (flat conL q2) (List.length q2) .no], .cells [ai q5, ai q6], .row (flat unifyEquationL q8)] [.mp 0 0, tmA p1] (ai r) [.cells [.mp 1 0, .mp 3 0, .sl (flat freeVarL q7) (List.length q7) .no, .ms 4 (q10 * 6) q9 q11 6, ab q12, .sl (flat freeVarL ([] : List FreeVar)) (List.length ([] : List FreeVar)) .nl, .sl (flat unifySolvedL ([] : List UnifySolved)) (List.length ([] : List UnifySolved)) .nl, .sl (flat intC ([] : List Int)) (List.length ([] : List Int)) .nl, ab q13, ai q14], .cells [.sl (flat entL q0) (List.length q0) .no, .mp 2 0, .sl (flat intC q3) (List.length q3) .no, .sl (flat intC q4) (List.length q4) .no], .cells [.sl (flat entL q1) (List.length q1) .no, .sl (flat conL q2) (List.length q2) .no], .cells [ai q5, ai q6], .row (flat unifyEquationL q8)] 0 := ⟨h, ⟨(show 0 < 5 by decide), ⟨trivial, trivial, ⟨trivial, dT _⟩, trivial⟩, trivial⟩, (forall_cons ⟨(show 1 < 5 by decide), (show 3 < 5 by decide), ⟨trivial, dFreeVar _⟩, (show 4 < 5 by decide), trivial, ⟨trivial, dFreeVar _⟩, ⟨trivial, dUnifySolved _⟩, ⟨trivial, dI _⟩, trivial, trivial, trivial⟩ (forall_cons ⟨⟨trivial, dE _⟩, (show 2 < 5 by decide), ⟨trivial, dI _⟩, ⟨trivial, dI _⟩, trivial⟩ (forall_cons ⟨⟨trivial, dE _⟩, ⟨trivial, dC _⟩, trivial⟩ (forall_cons ⟨trivial, trivial, trivial⟩ (forall_cons (dUnifyEquation _) forall_nil))))), trivial, (forall_cons ⟨(show 1 < 5 by decide), (show 3 < 5 by decide), dFreeVar _, (show 4 < 5 by decide), trivial, dFreeVar _, dUnifySolved _, dI _, trivial, trivial, trivial⟩ (forall_cons ⟨dE _, (show 2 < 5 by decide), dI _, dI _, trivial⟩ (forall_cons ⟨dE _, dC _, trivial⟩ (forall_cons ⟨trivial, trivial, trivial⟩ (forall_cons (dUnifyEquation _) forall_nil)))))⟩
theorem c82va14585 {qq : Nat} {q0 : List Ent} {q1 : List Ent} {q2 : List Con'} {q3 : List Int} {q4 : List Int} {q5 : Int} {q6 : Int} {q7 : List FreeVar} {q8 : List UnifyEquation} {q9 : Nat} {q10 : Nat} {q11 : Nat} {q12 : Bool} {q13 : Bool} {q14 : Int} {p1 : Tm} {r : Int} (h : e82va14585 qq q0 q1 q2 q3 q4 q5 q6 q7 q8 q9 q10 q11 q12 q13 q14 p1 = some r) : CT Tryz.prog 82 [.cells [.mp 1 0, .mp 3 0, .sl (flat freeVarL q7) (List.length q7) .no, .ms 4 (q10 * 6) q9 q11 6, ab q12, .sl (flat freeVarL ([] : List FreeVar)) (List.length ([] : List FreeVar)) .nl, .sl (flat unifySolvedL ([] : List UnifySolved)) (List.length ([] : List UnifySolved)) .nl, .sl (flat intC ([] : List Int)) (List.length ([] : List Int)) .nl, ab q13, ai q14], .cells [.sl (flat entL q0) (List.length q0) .no, .mp 2 0, .sl (flat intC q3) (List.length q3) .no, .sl (flat intC q4) (List.length q4) .no], .cells [.sl (flat entL q1) (List.length q1) .no, .sl (flat conL q2) (List.length q2) .no], .cells [ai q5, ai q6], .row (flat unifyEquationL q8)] [.mp 0 0, tmA p1] (ai r) [.cells [.mp 1 0, .mp 3 0, .sl (flat freeVarL q7) (List.length q7) .no, .ms 4 (q10 * 6) q9 q11 6, ab q12, .sl (flat freeVarL ([] : List FreeVar)) (List.length ([] : List FreeVar)) .nl, .sl (flat unifySolvedL ([] : List UnifySolved)) (List.length ([] : List UnifySolved)) .nl, .sl (flat intC ([] : List Int)) (List.length ([] : List Int)) .nl, ab q13, ai q14], .cells [.sl (flat entL q0) (List.length q0) .no, .mp 2 0, .sl (flat intC q3) (List.length q3) .no, .sl (flat intC q4) (List.length q4) .no], .cells [.sl (flat entL q1) (List.length q1) .no, .sl (flat conL q2) (List.length q2) .no], .cells [ai q5, ai q6], .row (flat unifyEquationL q8)] 0 := by
  unfold e82va14585 at h
  rcases spl h with ⟨h1, h⟩ | ⟨h1, h⟩
  · obtain rfl := sj h
    exact k82va14585 (tG q82va14585 0 [] [0, 1, 2, 3, 4] [] true (oD (dUnifyEquation q8) <| oD (dC q2) <| oD (dE q1) <| oD (dI q4) <| oD (dI q3) <| oD (dE q0) <| oD (dI ([] : List Int)) <| oD (dUnifySolved ([] : List UnifySolved)) <| oD (dFreeVar ([] : List FreeVar)) <| oD (dFreeVar q7) <| oB 1 h1 o0) (by kernel_rfl) (by decide))
  · obtain ⟨r2, h3, h⟩ := obind h
    have k := oC 2 [] (c123 h3) <| oB 1 h1 o0
    rcases spl h with ⟨h4, h⟩ | ⟨h4, h⟩
    · obtain rfl := sj h
      exact k82va14585 (tG q82va14585 0 [] [0, 1, 2, 3, 4] [] true (oD (dUnifyEquation q8) <| oD (dC q2) <| oD (dE q1) <| oD (dI q4) <| oD (dI q3) <| oD (dE q0) <| oD (dI ([] : List Int)) <| oD (dUnifySolved ([] : List UnifySolved)) <| oD (dFreeVar ([] : List FreeVar)) <| oD (dFreeVar q7) <| oB 3 h4 k) (by kernel_rfl) (by decide))
    · obtain rfl := sj h
      exact k82va14585 (tG q82va14585 1 [] [0, 1, 2, 3, 4] [] true (oD (dUnifyEquation q8) <| oD (dC q2) <| oD (dE q1) <| oD (dI q4) <| oD (dI q3) <| oD (dE q0) <| oD (dI ([] : List Int)) <| oD (dUnifySolved ([] : List UnifySolved)) <| oD (dFreeVar ([] : List FreeVar)) <| oD (dFreeVar q7) <| oB 3 h4 k) (by kernel_rfl) (by decide))

end Go.Proofs.YtlbmblbeccafcaaGreat

namespace Go.Proofs.YtlbmblbeccafcaaGreat
open Go Go.Ab

/- (*scholium/unify.solver).done -/
def e125va14140 (qq : Nat) (q0 : List Ent) (q1 : List Ent) (q2 : List Con') (q3 : List Int) (q4 : List Int) (q5 : Int) (q6 : Int) (q7 : List FreeVar) (q8 : List UnifyEquation) (q9 : Nat) (q10 : Nat) (q11 : Nat) (q12 : Bool) (q13 : Bool) (q14 : Int) (p1 : Int) : Option (List Int) :=
  (gapp 8 ([] : List Int) [p1]) >>= fun l1 =>
  some l1
theorem q125va14140 : Tryz.prog.funcs[125]? = some Tryz.f125 ∧ Tryz.f125.body.isNone = false := ⟨Tryz.func125, by kernel_rfl⟩
theorem k125va14140 {q0 : List Ent} {q1 : List Ent} {q2 : List Con'} {q3 : List Int} {q4 : List Int} {q5 : Int} {q6 : Int} {q7 : List FreeVar} {q8 : List UnifyEquation} {q9 : Nat} {q10 : Nat} {q11 : Nat} {q12 : Bool} {q13 : Bool} {q14 : Int} {p1 : Int} {r : List Int} (h : CTri Tryz.prog 125 [.cells [.mp 1 0, .mp 3 0, .sl (flat freeVarL q7) (List.length q7) .no, .ms 4 (q10 * 6) q9 q11 6, ab q12, .sl (flat freeVarL ([] : List FreeVar)) (List.length ([] : List FreeVar)) .nl, .sl (flat unifySolvedL ([] : List UnifySolved)) (List.length ([] : List UnifySolved)) .nl, .sl (flat intC ([] : List Int)) (List.length ([] : List Int)) .nl, ab q13, ai q14], .cells [.sl (flat entL q0) (List.length q0) .no, .mp 2 0, .sl (flat intC q3) (List.length q3) .no, .sl (flat intC q4) (List.length q4) .no], .cells [.sl (flat entL q1) (List.length q1) .no, .sl (flat conL q2) (List.length q2) .no], .cells [ai q5, ai q6], .row (flat unifyEquationL q8)] [.mp 0 0, ai p1] (.tup []) [.cells [.mp 1 0, .mp 3 0, .sl (flat freeVarL q7) (List.length q7) .no, .ms 4 (q10 * 6) q9 q11 6, ab q12, .sl (flat freeVarL ([] : List FreeVar)) (List.length ([] : List FreeVar)) .nl, .sl (flat unifySolvedL ([] : List UnifySolved)) (List.length ([] : List UnifySolved)) .nl, .ms 5 0 (List.length r) (List.length r) 1, ab q13, ai q14], .cells [.sl (flat entL q0) (List.length q0) .no, .mp 2 0, .sl (flat intC q3) (List.length q3) .no, .sl (flat intC q4) (List.length q4) .no], .cells [.sl (flat entL q1) (List.length q1) .no, .sl (flat conL q2) (List.length q2) .no], .cells [ai q5, ai q6], .row (flat unifyEquationL q8), .row (flat intC r)] 0) : CT Tryz.prog 125 [.cells [.mp 1 0, .mp 3 0, .sl (flat freeVarL q7) (List.length q7) .no, .ms 4 (q10 * 6) q9 q11 6, ab q12, .sl (flat freeVarL ([] : List FreeVar)) (List.length ([] : List FreeVar)) .nl, .sl (flat unifySolvedL ([] : List UnifySolved)) (List.length ([] : List UnifySolved)) .nl, .sl (flat intC ([] : List Int)) (List.length ([] : List Int)) .nl, ab q13, ai q14], .cells [.sl (flat entL q0) (List.length q0) .no, .mp 2 0, .sl (flat intC q3) (List.length q3) .no, .sl (flat intC q4) (List.length q4) .no], .cells [.sl (flat entL q1) (List.length q1) .no, .sl (flat conL q2) (List.length q2) .no], .cells [ai q5, ai q6], .row (flat unifyEquationL q8)] [.mp 0 0, ai p1] (.tup []) [.cells [.mp 1 0, .mp 3 0, .sl (flat freeVarL q7) (List.length q7) .no, .ms 4 (q10 * 6) q9 q11 6, ab q12, .sl (flat freeVarL ([] : List FreeVar)) (List.length ([] : List FreeVar)) .nl, .sl (flat unifySolvedL ([] : List UnifySolved)) (List.length ([] : List UnifySolved)) .nl, .ms 5 0 (List.length r) (List.length r) 1, ab q13, ai q14], .cells [.sl (flat entL q0) (List.length q0) .no, .mp 2 0, .sl (flat intC q3) (List.length q3) .no, .sl (flat intC q4) (List.length q4) .no], .cells [.sl (flat entL q1) (List.length q1) .no, .sl (flat conL q2) (List.length q2) .no], .cells [ai q5, ai q6], .row (flat unifyEquationL q8), .row (flat intC r)] 0 := ⟨h, ⟨(show 0 < 5 by decide), trivial, trivial⟩, (forall_cons ⟨(show 1 < 5 by decide), (show 3 < 5 by decide), ⟨trivial, dFreeVar _⟩, (show 4 < 5 by decide), trivial, ⟨trivial, dFreeVar _⟩, ⟨trivial, dUnifySolved _⟩, ⟨trivial, dI _⟩, trivial, trivial, trivial⟩ (forall_cons ⟨⟨trivial, dE _⟩, (show 2 < 5 by decide), ⟨trivial, dI _⟩, ⟨trivial, dI _⟩, trivial⟩ (forall_cons ⟨⟨trivial, dE _⟩, ⟨trivial, dC _⟩, trivial⟩ (forall_cons ⟨trivial, trivial, trivial⟩ (forall_cons (dUnifyEquation _) forall_nil))))), trivial, (forall_cons ⟨(show 1 < 6 by decide), (show 3 < 6 by decide), dFreeVar _, (show 4 < 6 by decide), trivial, dFreeVar _, dUnifySolved _, (show 5 < 6 by decide), trivial, trivial, trivial⟩ (forall_cons ⟨dE _, (show 2 < 6 by decide), dI _, dI _, trivial⟩ (forall_cons ⟨dE _, dC _, trivial⟩ (forall_cons ⟨trivial, trivial, trivial⟩ (forall_cons (dUnifyEquation _) (forall_cons (dI _) forall_nil))))))⟩
theorem c125va14140 {qq : Nat} {q0 : List Ent} {q1 : List Ent} {q2 : List Con'} {q3 : List Int} {q4 : List Int} {q5 : Int} {q6 : Int} {q7 : List FreeVar} {q8 : List UnifyEquation} {q9 : Nat} {q10 : Nat} {q11 : Nat} {q12 : Bool} {q13 : Bool} {q14 : Int} {p1 : Int} {r : List Int} (h : e125va14140 qq q0 q1 q2 q3 q4 q5 q6 q7 q8 q9 q10 q11 q12 q13 q14 p1 = some r) : CT Tryz.prog 125 [.cells [.mp 1 0, .mp 3 0, .sl (flat freeVarL q7) (List.length q7) .no, .ms 4 (q10 * 6) q9 q11 6, ab q12, .sl (flat freeVarL ([] : List FreeVar)) (List.length ([] : List FreeVar)) .nl, .sl (flat unifySolvedL ([] : List UnifySolved)) (List.length ([] : List UnifySolved)) .nl, .sl (flat intC ([] : List Int)) (List.length ([] : List Int)) .nl, ab q13, ai q14], .cells [.sl (flat entL q0) (List.length q0) .no, .mp 2 0, .sl (flat intC q3) (List.length q3) .no, .sl (flat intC q4) (List.length q4) .no], .cells [.sl (flat entL q1) (List.length q1) .no, .sl (flat conL q2) (List.length q2) .no], .cells [ai q5, ai q6], .row (flat unifyEquationL q8)] [.mp 0 0, ai p1] (.tup []) [.cells [.mp 1 0, .mp 3 0, .sl (flat freeVarL q7) (List.length q7) .no, .ms 4 (q10 * 6) q9 q11 6, ab q12, .sl (flat freeVarL ([] : List FreeVar)) (List.length ([] : List FreeVar)) .nl, .sl (flat unifySolvedL ([] : List UnifySolved)) (List.length ([] : List UnifySolved)) .nl, .ms 5 0 (List.length r) (List.length r) 1, ab q13, ai q14], .cells [.sl (flat entL q0) (List.length q0) .no, .mp 2 0, .sl (flat intC q3) (List.length q3) .no, .sl (flat intC q4) (List.length q4) .no], .cells [.sl (flat entL q1) (List.length q1) .no, .sl (flat conL q2) (List.length q2) .no], .cells [ai q5, ai q6], .row (flat unifyEquationL q8), .row (flat intC r)] 0 := by
  unfold e125va14140 at h
  obtain ⟨l1, h2, h⟩ := obind h
  obtain rfl := sj h
  exact k125va14140 (tG q125va14140 1 [] [0, 1, 2, 3, 4, 5] [] true (oD (dI l1) <| oD (dUnifyEquation q8) <| oD (dC q2) <| oD (dE q1) <| oD (dI q4) <| oD (dI q3) <| oD (dE q0) <| oD (dUnifySolved ([] : List UnifySolved)) <| oD (dFreeVar ([] : List FreeVar)) <| oD (dFreeVar q7) <| oM 2 (apW37 h2 (by simp)) o0) (by kernel_rfl) (by decide))

end Go.Proofs.YtlbmblbeccafcaaGreat

namespace Go.Proofs.YtlbmblbeccafcaaGreat
open Go Go.Ab

/- (*scholium/whnf.Machine).Family -/
def e240 (qq : Nat) (M : Mach) (p1 : Int) : Option (Int) :=
  if decide (p1 < 0) = true then
    none
  else
    if decide (p1 ≥ (List.length M.l : Int)) = true then
      none
    else
      (gidx M.l p1) >>= fun x3 =>
      some x3.fam
theorem q240 : Tryz.prog.funcs[240]? = some Tryz.f240 ∧ Tryz.f240.body.isNone = false := ⟨Tryz.func240, by kernel_rfl⟩
theorem k240 {M : Mach} {p1 : Int} {r : Int} (h : CTri Tryz.prog 240 [.cells [.sl (flat entL M.l) (List.length M.l) .no, .mp 1 0, .sl (flat intC M.args) (List.length M.args) .no, .sl (flat intC M.own) (List.length M.own) .no], .cells [.sl (flat entL M.rl) (List.length M.rl) .no, .sl (flat conL M.parts) (List.length M.parts) .no]] [.mp 0 0, ai p1] (ai r) [.cells [.sl (flat entL M.l) (List.length M.l) .no, .mp 1 0, .sl (flat intC M.args) (List.length M.args) .no, .sl (flat intC M.own) (List.length M.own) .no], .cells [.sl (flat entL M.rl) (List.length M.rl) .no, .sl (flat conL M.parts) (List.length M.parts) .no]] 0) : CT Tryz.prog 240 [.cells [.sl (flat entL M.l) (List.length M.l) .no, .mp 1 0, .sl (flat intC M.args) (List.length M.args) .no, .sl (flat intC M.own) (List.length M.own) .no], .cells [.sl (flat entL M.rl) (List.length M.rl) .no, .sl (flat conL M.parts) (List.length M.parts) .no]] [.mp 0 0, ai p1] (ai r) [.cells [.sl (flat entL M.l) (List.length M.l) .no, .mp 1 0, .sl (flat intC M.args) (List.length M.args) .no, .sl (flat intC M.own) (List.length M.own) .no], .cells [.sl (flat entL M.rl) (List.length M.rl) .no, .sl (flat conL M.parts) (List.length M.parts) .no]] 0 := ⟨h, ⟨(show 0 < 2 by decide), trivial, trivial⟩, (forall_cons ⟨⟨trivial, dE _⟩, (show 1 < 2 by decide), ⟨trivial, dI _⟩, ⟨trivial, dI _⟩, trivial⟩ (forall_cons ⟨⟨trivial, dE _⟩, ⟨trivial, dC _⟩, trivial⟩ forall_nil)), trivial, (forall_cons ⟨dE _, (show 1 < 2 by decide), dI _, dI _, trivial⟩ (forall_cons ⟨dE _, dC _, trivial⟩ forall_nil))⟩
theorem c240 {qq : Nat} {M : Mach} {p1 : Int} {r : Int} (h : e240 qq M p1 = some r) : CT Tryz.prog 240 [.cells [.sl (flat entL M.l) (List.length M.l) .no, .mp 1 0, .sl (flat intC M.args) (List.length M.args) .no, .sl (flat intC M.own) (List.length M.own) .no], .cells [.sl (flat entL M.rl) (List.length M.rl) .no, .sl (flat conL M.parts) (List.length M.parts) .no]] [.mp 0 0, ai p1] (ai r) [.cells [.sl (flat entL M.l) (List.length M.l) .no, .mp 1 0, .sl (flat intC M.args) (List.length M.args) .no, .sl (flat intC M.own) (List.length M.own) .no], .cells [.sl (flat entL M.rl) (List.length M.rl) .no, .sl (flat conL M.parts) (List.length M.parts) .no]] 0 := by
  unfold e240 at h
  obtain ⟨h1, h⟩ := splF h
  have k := oB 1 h1 o0
  obtain ⟨h2, h⟩ := splF h
  obtain ⟨x3, h4, h⟩ := obind h
  obtain rfl := sj h
  exact k240 (tF q240 1 [0, 1] (oD (dC M.parts) <| oD (dE M.rl) <| oD (dI M.own) <| oD (dI M.args) <| oD (dE M.l) <| oA 1 (ix25 (o := .no) h4) <| oB 2 h2 k) (by kernel_rfl))

end Go.Proofs.YtlbmblbeccafcaaGreat

namespace Go.Proofs.YtlbmblbeccafcaaGreat
open Go Go.Ab

/- (*scholium/unify.solver).family -/
def e177va14140 (qq : Nat) (q0 : List Ent) (q1 : List Ent) (q2 : List Con') (q3 : List Int) (q4 : List Int) (q5 : Int) (q6 : Int) (q7 : List FreeVar) (q8 : List UnifyEquation) (q9 : Nat) (q10 : Nat) (q11 : Nat) (q12 : Bool) (q13 : Bool) (q14 : Int) (p1 : Int) : Option (Int) :=
  (e240 qq (Mach.mk q0 q1 q2 q3 q4) p1) >>= fun r1 =>
  some r1
theorem q177va14140 : Tryz.prog.funcs[177]? = some Tryz.f177 ∧ Tryz.f177.body.isNone = false := ⟨Tryz.func177, by kernel_rfl⟩
theorem k177va14140 {q0 : List Ent} {q1 : List Ent} {q2 : List Con'} {q3 : List Int} {q4 : List Int} {q5 : Int} {q6 : Int} {q7 : List FreeVar} {q8 : List UnifyEquation} {q9 : Nat} {q10 : Nat} {q11 : Nat} {q12 : Bool} {q13 : Bool} {q14 : Int} {p1 : Int} {r : Int} (h : CTri Tryz.prog 177 [.cells [.mp 1 0, .mp 3 0, .sl (flat freeVarL q7) (List.length q7) .no, .ms 4 (q10 * 6) q9 q11 6, ab q12, .sl (flat freeVarL ([] : List FreeVar)) (List.length ([] : List FreeVar)) .nl, .sl (flat unifySolvedL ([] : List UnifySolved)) (List.length ([] : List UnifySolved)) .nl, .sl (flat intC ([] : List Int)) (List.length ([] : List Int)) .nl, ab q13, ai q14], .cells [.sl (flat entL q0) (List.length q0) .no, .mp 2 0, .sl (flat intC q3) (List.length q3) .no, .sl (flat intC q4) (List.length q4) .no], .cells [.sl (flat entL q1) (List.length q1) .no, .sl (flat conL q2) (List.length q2) .no], .cells [ai q5, ai q6], .row (flat unifyEquationL q8)] [.mp 0 0, ai p1] (ai r) [.cells [.mp 1 0, .mp 3 0, .sl (flat freeVarL q7) (List.length q7) .no, .ms 4 (q10 * 6) q9 q11 6, ab q12, .sl (flat freeVarL ([] : List FreeVar)) (List.length ([] : List FreeVar)) .nl, .sl (flat unifySolvedL ([] : List UnifySolved)) (List.length ([] : List UnifySolved)) .nl, .sl (flat intC ([] : List Int)) (List.length ([] : List Int)) .nl, ab q13, ai q14], .cells [.sl (flat entL q0) (List.length q0) .no, .mp 2 0, .sl (flat intC q3) (List.length q3) .no, .sl (flat intC q4) (List.length q4) .no], .cells [.sl (flat entL q1) (List.length q1) .no, .sl (flat conL q2) (List.length q2) .no], .cells [ai q5, ai q6], .row (flat unifyEquationL q8)] 0) : CT Tryz.prog 177 [.cells [.mp 1 0, .mp 3 0, .sl (flat freeVarL q7) (List.length q7) .no, .ms 4 (q10 * 6) q9 q11 6, ab q12, .sl (flat freeVarL ([] : List FreeVar)) (List.length ([] : List FreeVar)) .nl, .sl (flat unifySolvedL ([] : List UnifySolved)) (List.length ([] : List UnifySolved)) .nl, .sl (flat intC ([] : List Int)) (List.length ([] : List Int)) .nl, ab q13, ai q14], .cells [.sl (flat entL q0) (List.length q0) .no, .mp 2 0, .sl (flat intC q3) (List.length q3) .no, .sl (flat intC q4) (List.length q4) .no], .cells [.sl (flat entL q1) (List.length q1) .no, .sl (flat conL q2) (List.length q2) .no], .cells [ai q5, ai q6], .row (flat unifyEquationL q8)] [.mp 0 0, ai p1] (ai r) [.cells [.mp 1 0, .mp 3 0, .sl (flat freeVarL q7) (List.length q7) .no, .ms 4 (q10 * 6) q9 q11 6, ab q12, .sl (flat freeVarL ([] : List FreeVar)) (List.length ([] : List FreeVar)) .nl, .sl (flat unifySolvedL ([] : List UnifySolved)) (List.length ([] : List UnifySolved)) .nl, .sl (flat intC ([] : List Int)) (List.length ([] : List Int)) .nl, ab q13, ai q14], .cells [.sl (flat entL q0) (List.length q0) .no, .mp 2 0, .sl (flat intC q3) (List.length q3) .no, .sl (flat intC q4) (List.length q4) .no], .cells [.sl (flat entL q1) (List.length q1) .no, .sl (flat conL q2) (List.length q2) .no], .cells [ai q5, ai q6], .row (flat unifyEquationL q8)] 0 := ⟨h, ⟨(show 0 < 5 by decide), trivial, trivial⟩, (forall_cons ⟨(show 1 < 5 by decide), (show 3 < 5 by decide), ⟨trivial, dFreeVar _⟩, (show 4 < 5 by decide), trivial, ⟨trivial, dFreeVar _⟩, ⟨trivial, dUnifySolved _⟩, ⟨trivial, dI _⟩, trivial, trivial, trivial⟩ (forall_cons ⟨⟨trivial, dE _⟩, (show 2 < 5 by decide), ⟨trivial, dI _⟩, ⟨trivial, dI _⟩, trivial⟩ (forall_cons ⟨⟨trivial, dE _⟩, ⟨trivial, dC _⟩, trivial⟩ (forall_cons ⟨trivial, trivial, trivial⟩ (forall_cons (dUnifyEquation _) forall_nil))))), trivial, (forall_cons ⟨(show 1 < 5 by decide), (show 3 < 5 by decide), dFreeVar _, (show 4 < 5 by decide), trivial, dFreeVar _, dUnifySolved _, dI _, trivial, trivial, trivial⟩ (forall_cons ⟨dE _, (show 2 < 5 by decide), dI _, dI _, trivial⟩ (forall_cons ⟨dE _, dC _, trivial⟩ (forall_cons ⟨trivial, trivial, trivial⟩ (forall_cons (dUnifyEquation _) forall_nil)))))⟩
theorem c177va14140 {qq : Nat} {q0 : List Ent} {q1 : List Ent} {q2 : List Con'} {q3 : List Int} {q4 : List Int} {q5 : Int} {q6 : Int} {q7 : List FreeVar} {q8 : List UnifyEquation} {q9 : Nat} {q10 : Nat} {q11 : Nat} {q12 : Bool} {q13 : Bool} {q14 : Int} {p1 : Int} {r : Int} (h : e177va14140 qq q0 q1 q2 q3 q4 q5 q6 q7 q8 q9 q10 q11 q12 q13 q14 p1 = some r) : CT Tryz.prog 177 [.cells [.mp 1 0, .mp 3 0, .sl (flat freeVarL q7) (List.length q7) .no, .ms 4 (q10 * 6) q9 q11 6, ab q12, .sl (flat freeVarL ([] : List FreeVar)) (List.length ([] : List FreeVar)) .nl, .sl (flat unifySolvedL ([] : List UnifySolved)) (List.length ([] : List UnifySolved)) .nl, .sl (flat intC ([] : List Int)) (List.length ([] : List Int)) .nl, ab q13, ai q14], .cells [.sl (flat entL q0) (List.length q0) .no, .mp 2 0, .sl (flat intC q3) (List.length q3) .no, .sl (flat intC q4) (List.length q4) .no], .cells [.sl (flat entL q1) (List.length q1) .no, .sl (flat conL q2) (List.length q2) .no], .cells [ai q5, ai q6], .row (flat unifyEquationL q8)] [.mp 0 0, ai p1] (ai r) [.cells [.mp 1 0, .mp 3 0, .sl (flat freeVarL q7) (List.length q7) .no, .ms 4 (q10 * 6) q9 q11 6, ab q12, .sl (flat freeVarL ([] : List FreeVar)) (List.length ([] : List FreeVar)) .nl, .sl (flat unifySolvedL ([] : List UnifySolved)) (List.length ([] : List UnifySolved)) .nl, .sl (flat intC ([] : List Int)) (List.length ([] : List Int)) .nl, ab q13, ai q14], .cells [.sl (flat entL q0) (List.length q0) .no, .mp 2 0, .sl (flat intC q3) (List.length q3) .no, .sl (flat intC q4) (List.length q4) .no], .cells [.sl (flat entL q1) (List.length q1) .no, .sl (flat conL q2) (List.length q2) .no], .cells [ai q5, ai q6], .row (flat unifyEquationL q8)] 0 := by
  unfold e177va14140 at h
  obtain ⟨r1, h2, h⟩ := obind h
  obtain rfl := sj h
  exact k177va14140 (tG q177va14140 0 [] [0, 1, 2, 3, 4] [] true (oD (dUnifyEquation q8) <| oD (dC q2) <| oD (dE q1) <| oD (dI q4) <| oD (dI q3) <| oD (dE q0) <| oD (dI ([] : List Int)) <| oD (dUnifySolved ([] : List UnifySolved)) <| oD (dFreeVar ([] : List FreeVar)) <| oD (dFreeVar q7) <| oC 1 [1, 2] (c240 h2) o0) (by kernel_rfl) (by decide))

end Go.Proofs.YtlbmblbeccafcaaGreat

namespace Go.Proofs.YtlbmblbeccafcaaGreat
open Go Go.Ab

/- (*scholium/whnf.Machine).con -/
def e120 (qq : Nat) (M : Mach) (p1 : Tm) : Option (Int × List Tm × Bool) :=
  (e106 qq p1) >>= fun r1 =>
  (e172 qq M r1.1) >>= fun r3 =>
  if (r3 != 2) = true then
    some (0, [], false)
  else
    (gidx M.own r1.1.n) >>= fun x6 =>
    if ((List.length r1.2 : Int) != x6) = true then
      none
    else
      some (r1.1.n, r1.2, true)
theorem q120 : Tryz.prog.funcs[120]? = some Tryz.f120 ∧ Tryz.f120.body.isNone = false := ⟨Tryz.func120, by kernel_rfl⟩
theorem k120 {M : Mach} {p1 : Tm} {r : Int × List Tm × Bool} (h : CTri Tryz.prog 120 [.cells [.sl (flat entL M.l) (List.length M.l) .no, .mp 1 0, .sl (flat intC M.args) (List.length M.args) .no, .sl (flat intC M.own) (List.length M.own) .no], .cells [.sl (flat entL M.rl) (List.length M.rl) .no, .sl (flat conL M.parts) (List.length M.parts) .no]] [.mp 0 0, tmA p1] (.tup [ai r.1, .sl (flat tmCells r.2.1) (List.length r.2.1) .no, ab r.2.2]) [.cells [.sl (flat entL M.l) (List.length M.l) .no, .mp 1 0, .sl (flat intC M.args) (List.length M.args) .no, .sl (flat intC M.own) (List.length M.own) .no], .cells [.sl (flat entL M.rl) (List.length M.rl) .no, .sl (flat conL M.parts) (List.length M.parts) .no]] 0) : CT Tryz.prog 120 [.cells [.sl (flat entL M.l) (List.length M.l) .no, .mp 1 0, .sl (flat intC M.args) (List.length M.args) .no, .sl (flat intC M.own) (List.length M.own) .no], .cells [.sl (flat entL M.rl) (List.length M.rl) .no, .sl (flat conL M.parts) (List.length M.parts) .no]] [.mp 0 0, tmA p1] (.tup [ai r.1, .sl (flat tmCells r.2.1) (List.length r.2.1) .no, ab r.2.2]) [.cells [.sl (flat entL M.l) (List.length M.l) .no, .mp 1 0, .sl (flat intC M.args) (List.length M.args) .no, .sl (flat intC M.own) (List.length M.own) .no], .cells [.sl (flat entL M.rl) (List.length M.rl) .no, .sl (flat conL M.parts) (List.length M.parts) .no]] 0 := ⟨h, ⟨(show 0 < 2 by decide), ⟨trivial, trivial, ⟨trivial, dT _⟩, trivial⟩, trivial⟩, (forall_cons ⟨⟨trivial, dE _⟩, (show 1 < 2 by decide), ⟨trivial, dI _⟩, ⟨trivial, dI _⟩, trivial⟩ (forall_cons ⟨⟨trivial, dE _⟩, ⟨trivial, dC _⟩, trivial⟩ forall_nil)), ⟨trivial, dT _, trivial, trivial⟩, (forall_cons ⟨dE _, (show 1 < 2 by decide), dI _, dI _, trivial⟩ (forall_cons ⟨dE _, dC _, trivial⟩ forall_nil))⟩
theorem c120 {qq : Nat} {M : Mach} {p1 : Tm} {r : Int × List Tm × Bool} (h : e120 qq M p1 = some r) : CT Tryz.prog 120 [.cells [.sl (flat entL M.l) (List.length M.l) .no, .mp 1 0, .sl (flat intC M.args) (List.length M.args) .no, .sl (flat intC M.own) (List.length M.own) .no], .cells [.sl (flat entL M.rl) (List.length M.rl) .no, .sl (flat conL M.parts) (List.length M.parts) .no]] [.mp 0 0, tmA p1] (.tup [ai r.1, .sl (flat tmCells r.2.1) (List.length r.2.1) .no, ab r.2.2]) [.cells [.sl (flat entL M.l) (List.length M.l) .no, .mp 1 0, .sl (flat intC M.args) (List.length M.args) .no, .sl (flat intC M.own) (List.length M.own) .no], .cells [.sl (flat entL M.rl) (List.length M.rl) .no, .sl (flat conL M.parts) (List.length M.parts) .no]] 0 := by
  unfold e120 at h
  obtain ⟨r1, h2, h⟩ := obind h
  obtain ⟨r3, h4, h⟩ := obind h
  have k := oC 4 [0, 1] (c172 h4) <| oC 1 [] (c106 h2) o0
  rcases spl h with ⟨h5, h⟩ | ⟨h5, h⟩
  · obtain rfl := sj h
    exact k120 (tF q120 0 [0, 1] (oD (dT ([] : List Tm)) <| oD (dC M.parts) <| oD (dE M.rl) <| oD (dI M.own) <| oD (dI M.args) <| oD (dE M.l) <| oB 0 h5 k) (by kernel_rfl))
  · obtain ⟨x6, h7, h⟩ := obind h
    have k := oA 3 (ix37 (o := .no) h7) <| oB 0 h5 k
    obtain ⟨h8, h⟩ := splF h
    obtain rfl := sj h
    exact k120 (tF q120 1 [0, 1] (oD (dT r1.2) <| oD (dC M.parts) <| oD (dE M.rl) <| oD (dI M.own) <| oD (dI M.args) <| oD (dE M.l) <| oB 1 h8 k) (by kernel_rfl))

end Go.Proofs.YtlbmblbeccafcaaGreat

namespace Go.Proofs.YtlbmblbeccafcaaGreat
open Go Go.Ab

/- (*scholium/whnf.Machine).Con -/
def e76 (qq : Nat) (M : Mach) (p1 : Tm) : Option (Int × List Tm × Bool) :=
  (e51 qq p1) >>= fun r1 =>
  if r1 = true then
    (e50 qq p1) >>= fun r4 =>
    (e120 qq M r4) >>= fun r6 =>
    some (r6.1, r6.2.1, r6.2.2)
  else
    none
theorem q76 : Tryz.prog.funcs[76]? = some Tryz.f76 ∧ Tryz.f76.body.isNone = false := ⟨Tryz.func76, by kernel_rfl⟩
theorem k76 {M : Mach} {p1 : Tm} {r : Int × List Tm × Bool} (h : CTri Tryz.prog 76 [.cells [.sl (flat entL M.l) (List.length M.l) .no, .mp 1 0, .sl (flat intC M.args) (List.length M.args) .no, .sl (flat intC M.own) (List.length M.own) .no], .cells [.sl (flat entL M.rl) (List.length M.rl) .no, .sl (flat conL M.parts) (List.length M.parts) .no]] [.mp 0 0, tmA p1] (.tup [ai r.1, .sl (flat tmCells r.2.1) (List.length r.2.1) .no, ab r.2.2]) [.cells [.sl (flat entL M.l) (List.length M.l) .no, .mp 1 0, .sl (flat intC M.args) (List.length M.args) .no, .sl (flat intC M.own) (List.length M.own) .no], .cells [.sl (flat entL M.rl) (List.length M.rl) .no, .sl (flat conL M.parts) (List.length M.parts) .no]] 0) : CT Tryz.prog 76 [.cells [.sl (flat entL M.l) (List.length M.l) .no, .mp 1 0, .sl (flat intC M.args) (List.length M.args) .no, .sl (flat intC M.own) (List.length M.own) .no], .cells [.sl (flat entL M.rl) (List.length M.rl) .no, .sl (flat conL M.parts) (List.length M.parts) .no]] [.mp 0 0, tmA p1] (.tup [ai r.1, .sl (flat tmCells r.2.1) (List.length r.2.1) .no, ab r.2.2]) [.cells [.sl (flat entL M.l) (List.length M.l) .no, .mp 1 0, .sl (flat intC M.args) (List.length M.args) .no, .sl (flat intC M.own) (List.length M.own) .no], .cells [.sl (flat entL M.rl) (List.length M.rl) .no, .sl (flat conL M.parts) (List.length M.parts) .no]] 0 := ⟨h, ⟨(show 0 < 2 by decide), ⟨trivial, trivial, ⟨trivial, dT _⟩, trivial⟩, trivial⟩, (forall_cons ⟨⟨trivial, dE _⟩, (show 1 < 2 by decide), ⟨trivial, dI _⟩, ⟨trivial, dI _⟩, trivial⟩ (forall_cons ⟨⟨trivial, dE _⟩, ⟨trivial, dC _⟩, trivial⟩ forall_nil)), ⟨trivial, dT _, trivial, trivial⟩, (forall_cons ⟨dE _, (show 1 < 2 by decide), dI _, dI _, trivial⟩ (forall_cons ⟨dE _, dC _, trivial⟩ forall_nil))⟩
theorem c76 {qq : Nat} {M : Mach} {p1 : Tm} {r : Int × List Tm × Bool} (h : e76 qq M p1 = some r) : CT Tryz.prog 76 [.cells [.sl (flat entL M.l) (List.length M.l) .no, .mp 1 0, .sl (flat intC M.args) (List.length M.args) .no, .sl (flat intC M.own) (List.length M.own) .no], .cells [.sl (flat entL M.rl) (List.length M.rl) .no, .sl (flat conL M.parts) (List.length M.parts) .no]] [.mp 0 0, tmA p1] (.tup [ai r.1, .sl (flat tmCells r.2.1) (List.length r.2.1) .no, ab r.2.2]) [.cells [.sl (flat entL M.l) (List.length M.l) .no, .mp 1 0, .sl (flat intC M.args) (List.length M.args) .no, .sl (flat intC M.own) (List.length M.own) .no], .cells [.sl (flat entL M.rl) (List.length M.rl) .no, .sl (flat conL M.parts) (List.length M.parts) .no]] 0 := by
  unfold e76 at h
  obtain ⟨r1, h2, h⟩ := obind h
  obtain ⟨h3, h⟩ := splT h
  obtain ⟨r4, h5, h⟩ := obind h
  obtain ⟨r6, h7, h⟩ := obind h
  obtain rfl := sj h
  exact k76 (tF q76 3 [0, 1] (oD (dT r6.2.1) <| oD (dC M.parts) <| oD (dE M.rl) <| oD (dI M.own) <| oD (dI M.args) <| oD (dE M.l) <| oC 0 [0, 1] (c120 h7) <| oC 2 [] (c50 h5) <| oK 2 [] h3 (c51 h2) o0) (by kernel_rfl))

end Go.Proofs.YtlbmblbeccafcaaGreat

namespace Go.Proofs.YtlbmblbeccafcaaGreat
open Go Go.Ab

/- (*scholium/whnf.Machine).Pars -/
def e77 (qq : Nat) (M : Mach) (p1 : Int) : Option (Int) :=
  if decide (p1 < 0) = true then
    none
  else
    if decide (p1 ≥ (List.length M.l : Int)) = true then
      none
    else
      (gidx M.l p1) >>= fun x3 =>
      some x3.pars
theorem q77 : Tryz.prog.funcs[77]? = some Tryz.f77 ∧ Tryz.f77.body.isNone = false := ⟨Tryz.func77, by kernel_rfl⟩
theorem k77 {M : Mach} {p1 : Int} {r : Int} (h : CTri Tryz.prog 77 [.cells [.sl (flat entL M.l) (List.length M.l) .no, .mp 1 0, .sl (flat intC M.args) (List.length M.args) .no, .sl (flat intC M.own) (List.length M.own) .no], .cells [.sl (flat entL M.rl) (List.length M.rl) .no, .sl (flat conL M.parts) (List.length M.parts) .no]] [.mp 0 0, ai p1] (ai r) [.cells [.sl (flat entL M.l) (List.length M.l) .no, .mp 1 0, .sl (flat intC M.args) (List.length M.args) .no, .sl (flat intC M.own) (List.length M.own) .no], .cells [.sl (flat entL M.rl) (List.length M.rl) .no, .sl (flat conL M.parts) (List.length M.parts) .no]] 0) : CT Tryz.prog 77 [.cells [.sl (flat entL M.l) (List.length M.l) .no, .mp 1 0, .sl (flat intC M.args) (List.length M.args) .no, .sl (flat intC M.own) (List.length M.own) .no], .cells [.sl (flat entL M.rl) (List.length M.rl) .no, .sl (flat conL M.parts) (List.length M.parts) .no]] [.mp 0 0, ai p1] (ai r) [.cells [.sl (flat entL M.l) (List.length M.l) .no, .mp 1 0, .sl (flat intC M.args) (List.length M.args) .no, .sl (flat intC M.own) (List.length M.own) .no], .cells [.sl (flat entL M.rl) (List.length M.rl) .no, .sl (flat conL M.parts) (List.length M.parts) .no]] 0 := ⟨h, ⟨(show 0 < 2 by decide), trivial, trivial⟩, (forall_cons ⟨⟨trivial, dE _⟩, (show 1 < 2 by decide), ⟨trivial, dI _⟩, ⟨trivial, dI _⟩, trivial⟩ (forall_cons ⟨⟨trivial, dE _⟩, ⟨trivial, dC _⟩, trivial⟩ forall_nil)), trivial, (forall_cons ⟨dE _, (show 1 < 2 by decide), dI _, dI _, trivial⟩ (forall_cons ⟨dE _, dC _, trivial⟩ forall_nil))⟩
theorem c77 {qq : Nat} {M : Mach} {p1 : Int} {r : Int} (h : e77 qq M p1 = some r) : CT Tryz.prog 77 [.cells [.sl (flat entL M.l) (List.length M.l) .no, .mp 1 0, .sl (flat intC M.args) (List.length M.args) .no, .sl (flat intC M.own) (List.length M.own) .no], .cells [.sl (flat entL M.rl) (List.length M.rl) .no, .sl (flat conL M.parts) (List.length M.parts) .no]] [.mp 0 0, ai p1] (ai r) [.cells [.sl (flat entL M.l) (List.length M.l) .no, .mp 1 0, .sl (flat intC M.args) (List.length M.args) .no, .sl (flat intC M.own) (List.length M.own) .no], .cells [.sl (flat entL M.rl) (List.length M.rl) .no, .sl (flat conL M.parts) (List.length M.parts) .no]] 0 := by
  unfold e77 at h
  obtain ⟨h1, h⟩ := splF h
  have k := oB 1 h1 o0
  obtain ⟨h2, h⟩ := splF h
  obtain ⟨x3, h4, h⟩ := obind h
  obtain rfl := sj h
  exact k77 (tF q77 1 [0, 1] (oD (dC M.parts) <| oD (dE M.rl) <| oD (dI M.own) <| oD (dI M.args) <| oD (dE M.l) <| oA 1 (ix25 (o := .no) h4) <| oB 2 h2 k) (by kernel_rfl))

end Go.Proofs.YtlbmblbeccafcaaGreat
