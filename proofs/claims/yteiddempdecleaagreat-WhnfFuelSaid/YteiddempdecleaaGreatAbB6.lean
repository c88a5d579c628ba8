/- Texts: AbF204 AbF205 AbF139 AbF144 AbF201 AbF141 AbF200 AbF316 AbF207va27164 AbF295 AbF268 AbF75 AbF76 AbPs AbF269 AbF226 AbF24 AbPt AbF114va9626 AbF160 AbF270va12063 AbF270va37370 AbF227 AbF163 AbF164 AbF225 AbPu AbF83_157_161_162 AbPv AbPw AbF114va35861 AbF25 AbF77 AbF26 AbF106va12063 AbF47 AbF52 AbF52va47633 AbF82 AbF79 AbF79va14437 AbF79va17286 AbF79va53055 AbF28 AbF78 AbF27 AbF4 AbPx AbRead AbReadE AbPy -/
import Derived.ChangeArms
import Derived.ChangeShapes
import Derived.Test.YteiddempdecleaaGreatAbB5
set_option linter.unusedVariables false
set_option linter.unusedSimpArgs false

namespace Go.Proofs.YteiddempdecleaaGreat
open Go Go.Ab

/- (*scholium/iota.maker).all -/
def e204 (qq : Nat) (q0_e : Int) (p1 : List Tm) (p2 : Int) : Option (List Tm × Int) :=
  if (q0_e == 0) = true then
    some (p1, p2)
  else
    some (p1, q0_e)
theorem q204 : Tryz.prog.funcs[204]? = some Tryz.f204 ∧ Tryz.f204.body.isNone = false := ⟨Tryz.func204, by kernel_rfl⟩
theorem k204 {q0_e : Int} {p1 : List Tm} {p2 : Int} {r : List Tm × Int} (h : CTri Tryz.prog 204 [.cells [ai q0_e]] [.mp 0 0, .sl (flat tmCells p1) (List.length p1) .no, ai p2] (.sl (flat tmCells r.1) (List.length r.1) .no) [.cells [ai r.2]] 0) : CT Tryz.prog 204 [.cells [ai q0_e]] [.mp 0 0, .sl (flat tmCells p1) (List.length p1) .no, ai p2] (.sl (flat tmCells r.1) (List.length r.1) .no) [.cells [ai r.2]] 0 := ⟨h, ⟨(show 0 < 1 by decide), ⟨trivial, dT _⟩, trivial, trivial⟩, (forall_cons ⟨trivial, trivial⟩ forall_nil), dT _, (forall_cons ⟨trivial, trivial⟩ forall_nil)⟩
theorem c204 {qq : Nat} {q0_e : Int} {p1 : List Tm} {p2 : Int} {r : List Tm × Int} (h : e204 qq q0_e p1 p2 = some r) : CT Tryz.prog 204 [.cells [ai q0_e]] [.mp 0 0, .sl (flat tmCells p1) (List.length p1) .no, ai p2] (.sl (flat tmCells r.1) (List.length r.1) .no) [.cells [ai r.2]] 0 := by
  unfold e204 at h
  rcases spl h with ⟨h1, h⟩ | ⟨h1, h⟩
  · obtain rfl := sj h
    exact k204 (tF q204 1 [0] (oD (dT p1) <| oB 1 h1 o0) (by kernel_rfl))
  · obtain rfl := sj h
    exact k204 (tF q204 0 [0] (oD (dT p1) <| oB 1 h1 o0) (by kernel_rfl))

end Go.Proofs.YteiddempdecleaaGreat

namespace Go.Proofs.YteiddempdecleaaGreat
open Go Go.Ab

/- scholium/lift.All -/
def e205L22346 : Nat → (List Tm) → Int → Int → Int → (List Tm) →  Option (List Tm × Int)
  | 0, _, _, _, _, _ => none
  | qq + 1, p0, p1, p2, v15, v8 =>
    if decide (v15 < (List.length p0 : Int)) = true then
      (gidx p0 v15) >>= fun x2 =>
      (e255 qq x2 p1 p2) >>= fun r4 =>
      if (r4.2 != 0) = true then
        some ([], r4.2)
      else
        (gapp 40 v8 [r4.1]) >>= fun l7 =>
        e205L22346 qq p0 p1 p2 (w64 (v15 + 1)) l7
    else
      some (v8, 0)
def e205 (qq : Nat) (p0 : List Tm) (p1 : Int) (p2 : Int) : Option (List Tm × Int) :=
  e205L22346 qq p0 p1 p2 0 []
def g205L22346E0 (j : Nat → Value) (p0 : List Tm) (p1 : Int) (p2 : Int) (v15 : Int) (v8 : List Tm) : List AV := sp j 35 0 [(1, ai p1), (2, ai p2), (8, .sl (flat tmCells v8) (List.length v8) (.st 0 3)), (13, .sl (flat tmCells p0) (List.length p0) .no), (14, ai (List.length p0 : Int)), (15, ai v15)]
def g205L22346S0 (p0 : List Tm) (p1 : Int) (p2 : Int) (v15 : Int) (v8 : List Tm) : LSt := ⟨[], 0, [0], 1, []⟩
theorem q205 : Tryz.prog.funcs[205]? = some Tryz.f205 ∧ Tryz.f205.body.isNone = false := ⟨Tryz.func205, by kernel_rfl⟩
theorem k205 {p0 : List Tm} {p1 : Int} {p2 : Int} {r : List Tm × Int} (h : CTri Tryz.prog 205 [] [.sl (flat tmCells p0) (List.length p0) .no, ai p1, ai p2] (.tup [.sl (flat tmCells r.1) (List.length r.1) .no, ai r.2]) [] 0) : CT Tryz.prog 205 [] [.sl (flat tmCells p0) (List.length p0) .no, ai p1, ai p2] (.tup [.sl (flat tmCells r.1) (List.length r.1) .no, ai r.2]) [] 0 := ⟨h, ⟨⟨trivial, dT _⟩, trivial, trivial, trivial⟩, forall_nil, ⟨dT _, trivial, trivial⟩, forall_nil⟩
theorem l205L22346 : ∀ qq : Nat, (∀ (p0 : List Tm) (p1 : Int) (p2 : Int) (v15 : Int) (v8 : List Tm) (r : List Tm × Int), e205L22346 qq p0 p1 p2 v15 v8 = some r → (∀ j, Dl Tryz.prog 0 (inn (inn (rgt (lft (rgt (rgt (bod Tryz.f205))))))) (g205L22346E0 j p0 p1 p2 v15 v8) (g205L22346S0 p0 p1 p2 v15 v8) (frameQ Tryz.prog 0 (FinQ Tryz.prog 0 Tryz.f205 (.tup [.sl (flat tmCells r.1) (List.length r.1) .no, ai r.2]) [] 0) [.blk 0, .seq (rgt (rgt (rgt (bod Tryz.f205))))]))) := by
  intro qq
  induction qq with
  | zero =>
    exact fun _ _ _ _ _ _ h => nn h
  | succ qq ih =>
    intro p0 p1 p2 v15 v8 r h
    rw [e205L22346] at h
    rcases spl h with ⟨h1, h⟩ | ⟨h1, h⟩
    · obtain ⟨x2, h3, h⟩ := obind h
      obtain ⟨r4, h5, h⟩ := obind h
      have k := oC 3 [] (c255 h5) <| oA 0 (ix23 (o := .no) h3) <| oB 0 h1 o0
      rcases spl h with ⟨h6, h⟩ | ⟨h6, h⟩
      · obtain rfl := sj h
        exact fun j => lF 0 [] (oD (dT ([] : List Tm)) <| oB 3 h6 k) (by kernel_rfl)
      · obtain ⟨l7, h8, h⟩ := obind h
        exact fun j => lH 1 [] [] [1] [1, 2, 8, 13, 14, 15] (oD (dT p0) <| oD (dT l7) <| oP 0 (apS23 h8 (by simp)) <| oS 1 (obLitR tm_eq [r4.1]) <| oB 3 h6 k) (ih _ _ _ _ _ _ h) (fun j => by kernel_rfl)
    · obtain rfl := sj h
      exact fun j => lF 0 [] (oD (dT v8) <| oB 0 h1 o0) (by kernel_rfl)
theorem c205 {qq : Nat} {p0 : List Tm} {p1 : Int} {p2 : Int} {r : List Tm × Int} (h : e205 qq p0 p1 p2 = some r) : CT Tryz.prog 205 [] [.sl (flat tmCells p0) (List.length p0) .no, ai p1, ai p2] (.tup [.sl (flat tmCells r.1) (List.length r.1) .no, ai r.2]) [] 0 := by
  unfold e205 at h
  exact k205 (tH q205 1 [(none, 8, 3)] [] [0] [1, 2, 8, 13, 14, 15] (oD (dT p0) <| oD (dT ([] : List Tm)) o0) (l205L22346 _ _ _ _ _ _ _ h) (fun j => by kernel_rfl))

end Go.Proofs.YteiddempdecleaaGreat

namespace Go.Proofs.YteiddempdecleaaGreat
open Go Go.Ab

/- (*scholium/iota.maker).ups -/
def e139 (qq : Nat) (q0_e : Int) (p1 : List Tm) (p2 : Int) : Option (List Tm × Int) :=
  (e205 qq p1 p2 0) >>= fun r1 =>
  (e204 qq q0_e r1.1 r1.2) >>= fun r3 =>
  some (r3.1, r3.2)
theorem q139 : Tryz.prog.funcs[139]? = some Tryz.f139 ∧ Tryz.f139.body.isNone = false := ⟨Tryz.func139, by kernel_rfl⟩
theorem k139 {q0_e : Int} {p1 : List Tm} {p2 : Int} {r : List Tm × Int} (h : CTri Tryz.prog 139 [.cells [ai q0_e]] [.mp 0 0, .sl (flat tmCells p1) (List.length p1) .no, ai p2] (.sl (flat tmCells r.1) (List.length r.1) .no) [.cells [ai r.2]] 0) : CT Tryz.prog 139 [.cells [ai q0_e]] [.mp 0 0, .sl (flat tmCells p1) (List.length p1) .no, ai p2] (.sl (flat tmCells r.1) (List.length r.1) .no) [.cells [ai r.2]] 0 := ⟨h, ⟨(show 0 < 1 by decide), ⟨trivial, dT _⟩, trivial, trivial⟩, (forall_cons ⟨trivial, trivial⟩ forall_nil), dT _, (forall_cons ⟨trivial, trivial⟩ forall_nil)⟩
theorem c139 {qq : Nat} {q0_e : Int} {p1 : List Tm} {p2 : Int} {r : List Tm × Int} (h : e139 qq q0_e p1 p2 = some r) : CT Tryz.prog 139 [.cells [ai q0_e]] [.mp 0 0, .sl (flat tmCells p1) (List.length p1) .no, ai p2] (.sl (flat tmCells r.1) (List.length r.1) .no) [.cells [ai r.2]] 0 := by
  unfold e139 at h
  obtain ⟨r1, h2, h⟩ := obind h
  obtain ⟨r3, h4, h⟩ := obind h
  obtain rfl := sj h
  exact k139 (tF q139 0 [0] (oD (dT r3.1) <| oC 2 [0] (c204 h4) <| oC 0 [] (c205 h2) o0) (by kernel_rfl))

end Go.Proofs.YteiddempdecleaaGreat

namespace Go.Proofs.YteiddempdecleaaGreat
open Go Go.Ab

/- (*scholium/iota.maker).got -/
def e144 (qq : Nat) (q0_e : Int) (p1 : Tm) (p2 : Int) : Option (Tm × Int) :=
  if (q0_e == 0) = true then
    some (p1, p2)
  else
    some (p1, q0_e)
theorem q144 : Tryz.prog.funcs[144]? = some Tryz.f144 ∧ Tryz.f144.body.isNone = false := ⟨Tryz.func144, by kernel_rfl⟩
theorem k144 {q0_e : Int} {p1 : Tm} {p2 : Int} {r : Tm × Int} (h : CTri Tryz.prog 144 [.cells [ai q0_e]] [.mp 0 0, tmA p1, ai p2] (tmA r.1) [.cells [ai r.2]] 0) : CT Tryz.prog 144 [.cells [ai q0_e]] [.mp 0 0, tmA p1, ai p2] (tmA r.1) [.cells [ai r.2]] 0 := ⟨h, ⟨(show 0 < 1 by decide), ⟨trivial, trivial, ⟨trivial, dT _⟩, trivial⟩, trivial, trivial⟩, (forall_cons ⟨trivial, trivial⟩ forall_nil), ⟨trivial, trivial, dT _, trivial⟩, (forall_cons ⟨trivial, trivial⟩ forall_nil)⟩
theorem c144 {qq : Nat} {q0_e : Int} {p1 : Tm} {p2 : Int} {r : Tm × Int} (h : e144 qq q0_e p1 p2 = some r) : CT Tryz.prog 144 [.cells [ai q0_e]] [.mp 0 0, tmA p1, ai p2] (tmA r.1) [.cells [ai r.2]] 0 := by
  unfold e144 at h
  rcases spl h with ⟨h1, h⟩ | ⟨h1, h⟩
  · obtain rfl := sj h
    exact k144 (tF q144 3 [0] (oD (dT p1.sub) <| oB 1 h1 o0) (by kernel_rfl))
  · obtain rfl := sj h
    exact k144 (tF q144 2 [0] (oD (dT p1.sub) <| oB 1 h1 o0) (by kernel_rfl))

end Go.Proofs.YteiddempdecleaaGreat

namespace Go.Proofs.YteiddempdecleaaGreat
open Go Go.Ab

/- (*scholium/iota.maker).beneath -/
def e201L60275 : Nat → Tm → (List Tm × Int) → Int → (List Tm) →  Option (Tm × Int)
  | 0, _, _, _, _ => none
  | qq + 1, p1, r6, v12, v9 =>
    if decide (v12 ≥ 0) = true then
      (gidx r6.1 v12) >>= fun x9 =>
      (gapp 40 v9 [x9]) >>= fun l11 =>
      e201L60275 qq p1 r6 (w64 (v12 - 1)) l11
    else
      (e186 qq p1 v9) >>= fun r13 =>
      (e144 qq r6.2 r13.1 r13.2) >>= fun r15 =>
      some (r15.1, r15.2)
def e201L7793 : Nat → Int → Tm → Int → (List Tm) → Int → (List Tm) →  Option (Tm × Int)
  | 0, _, _, _, _, _, _ => none
  | qq + 1, q0_e, p1, p2, p3, v14, v9 =>
    if decide (v14 < p2) = true then
      (e140 qq v14) >>= fun r2 =>
      (gapp 40 v9 [r2]) >>= fun l4 =>
      e201L7793 qq q0_e p1 p2 p3 (w64 (v14 + 1)) l4
    else
      (e139 qq q0_e p3 p2) >>= fun r6 =>
      e201L60275 qq p1 r6 (w64 ((List.length r6.1 : Int) - 1)) v9
def e201 (qq : Nat) (q0_e : Int) (p1 : Tm) (p2 : Int) (p3 : List Tm) : Option (Tm × Int) :=
  e201L7793 qq q0_e p1 p2 p3 0 []
def g201L7793E0 (j : Nat → Value) (q0_e : Int) (p1 : Tm) (p2 : Int) (p3 : List Tm) (v14 : Int) (v9 : List Tm) : List AV := sp j 48 0 [(0, .mp 0 0), (2, ai p2), (3, .sl (flat tmCells p3) (List.length p3) .no), (5, .mp 1 0), (8, .mp 2 0), (9, .sl (flat tmCells v9) (List.length v9) (.st 0 3)), (13, ai p2), (14, ai v14)]
def g201L7793S0 (q0_e : Int) (p1 : Tm) (p2 : Int) (p3 : List Tm) (v14 : Int) (v9 : List Tm) : LSt := ⟨[(0, .cells [ai q0_e]), (1, .cells [ai p1.k, ai p1.n, .sl (flat tmCells p1.sub) (List.length p1.sub) .no]), (2, .cells [ai 0, ai 0, .sl (flat tmCells ([] : List Tm)) (List.length ([] : List Tm)) .nl])], 3, [0], 1, []⟩
def g201L60275E0 (j : Nat → Value) (p1 : Tm) (r6 : List Tm × Int) (v12 : Int) (v9 : List Tm) : List AV := sp j 48 0 [(0, .mp 0 0), (5, .mp 1 0), (8, .mp 2 0), (9, .sl (flat tmCells v9) (List.length v9) (.st 0 3)), (11, .sl (flat tmCells r6.1) (List.length r6.1) .no), (12, ai v12)]
def g201L60275S0 (p1 : Tm) (r6 : List Tm × Int) (v12 : Int) (v9 : List Tm) : LSt := ⟨[(0, .cells [ai r6.2]), (1, .cells [ai p1.k, ai p1.n, .sl (flat tmCells p1.sub) (List.length p1.sub) .no]), (2, .cells [ai 0, ai 0, .sl (flat tmCells ([] : List Tm)) (List.length ([] : List Tm)) .nl])], 3, [0], 1, []⟩
theorem q201 : Tryz.prog.funcs[201]? = some Tryz.f201 ∧ Tryz.f201.body.isNone = false := ⟨Tryz.func201, by kernel_rfl⟩
theorem k201 {q0_e : Int} {p1 : Tm} {p2 : Int} {p3 : List Tm} {r : Tm × Int} (h : CTri Tryz.prog 201 [.cells [ai q0_e]] [.mp 0 0, tmA p1, ai p2, .sl (flat tmCells p3) (List.length p3) .no] (tmA r.1) [.cells [ai r.2]] 0) : CT Tryz.prog 201 [.cells [ai q0_e]] [.mp 0 0, tmA p1, ai p2, .sl (flat tmCells p3) (List.length p3) .no] (tmA r.1) [.cells [ai r.2]] 0 := ⟨h, ⟨(show 0 < 1 by decide), ⟨trivial, trivial, ⟨trivial, dT _⟩, trivial⟩, trivial, ⟨trivial, dT _⟩, trivial⟩, (forall_cons ⟨trivial, trivial⟩ forall_nil), ⟨trivial, trivial, dT _, trivial⟩, (forall_cons ⟨trivial, trivial⟩ forall_nil)⟩
theorem l201L60275 : ∀ qq : Nat, (∀ (p1 : Tm) (r6 : List Tm × Int) (v12 : Int) (v9 : List Tm) (r : Tm × Int), e201L60275 qq p1 r6 v12 v9 = some r → (∀ j, Dl Tryz.prog 1 (inn (inn (rgt (lft (rgt (rgt (rgt (rgt (bod Tryz.f201))))))))) (g201L60275E0 j p1 r6 v12 v9) (g201L60275S0 p1 r6 v12 v9) (frameQ Tryz.prog 1 (FinQ Tryz.prog 1 Tryz.f201 (tmA r.1) [.cells [ai r.2]] 0) [.blk 2, .seq (rgt (rgt (rgt (rgt (rgt (bod Tryz.f201))))))]))) := by
  intro qq
  induction qq with
  | zero =>
    exact fun _ _ _ _ _ h => nn h
  | succ qq ih =>
    intro p1 r6 v12 v9 r h
    rw [e201L60275] at h
    rcases spl h with ⟨h8, h⟩ | ⟨h8, h⟩
    · obtain ⟨x9, h10, h⟩ := obind h
      obtain ⟨l11, h12, h⟩ := obind h
      exact fun j => lH 1 [] [0, 1, 2] [1] [0, 5, 8, 9, 11, 12] (oD (dT r6.1) <| oD (dT l11) <| oD (dT ([] : List Tm)) <| oD (dT p1.sub) <| oP 0 (apS23 h12 (by simp)) <| oS 1 (obLitR tm_eq [x9]) <| oA 0 (ix23 (o := .no) h10) <| oB 0 h8 o0) (ih _ _ _ _ _ h) (fun j => by kernel_rfl)
    · obtain ⟨r13, h14, h⟩ := obind h
      obtain ⟨r15, h16, h⟩ := obind h
      obtain rfl := sj h
      exact fun j => lF 1 [0] (oD (dT r15.1.sub) <| oC 2 [0] (c144 h16) <| oC 1 [] (c186 h14) <| oB 0 h8 o0) (by kernel_rfl)
theorem l201L7793 : ∀ qq : Nat, (∀ (q0_e : Int) (p1 : Tm) (p2 : Int) (p3 : List Tm) (v14 : Int) (v9 : List Tm) (r : Tm × Int), e201L7793 qq q0_e p1 p2 p3 v14 v9 = some r → (∀ j, Dl Tryz.prog 1 (inn (inn (rgt (lft (rgt (rgt (bod Tryz.f201))))))) (g201L7793E0 j q0_e p1 p2 p3 v14 v9) (g201L7793S0 q0_e p1 p2 p3 v14 v9) (frameQ Tryz.prog 1 (FinQ Tryz.prog 1 Tryz.f201 (tmA r.1) [.cells [ai r.2]] 0) [.blk 0, .seq (rgt (rgt (rgt (bod Tryz.f201))))]))) := by
  intro qq
  induction qq with
  | zero =>
    exact fun _ _ _ _ _ _ _ h => nn h
  | succ qq ih =>
    intro q0_e p1 p2 p3 v14 v9 r h
    rw [e201L7793] at h
    rcases spl h with ⟨h1, h⟩ | ⟨h1, h⟩
    · obtain ⟨r2, h3, h⟩ := obind h
      obtain ⟨l4, h5, h⟩ := obind h
      exact fun j => lH 1 [] [0, 1, 2] [1] [0, 2, 3, 5, 8, 9, 13, 14] (oD (dT l4) <| oD (dT p3) <| oD (dT ([] : List Tm)) <| oD (dT p1.sub) <| oP 0 (apS23 h5 (by simp)) <| oS 0 (obLitR tm_eq [r2]) <| oC 0 [] (c140 h3) <| oB 0 h1 o0) (ih _ _ _ _ _ _ _ h) (fun j => by kernel_rfl)
    · obtain ⟨r6, h7, h⟩ := obind h
      exact fun j => lH 2 [] [0, 1, 2] [0] [0, 5, 8, 9, 11, 12] (oD (dT r6.1) <| oD (dT v9) <| oD (dT ([] : List Tm)) <| oD (dT p1.sub) <| oC 0 [0] (c139 h7) <| oB 0 h1 o0) (l201L60275 _ _ _ _ _ _ h) (fun j => by kernel_rfl)
theorem c201 {qq : Nat} {q0_e : Int} {p1 : Tm} {p2 : Int} {p3 : List Tm} {r : Tm × Int} (h : e201 qq q0_e p1 p2 p3 = some r) : CT Tryz.prog 201 [.cells [ai q0_e]] [.mp 0 0, tmA p1, ai p2, .sl (flat tmCells p3) (List.length p3) .no] (tmA r.1) [.cells [ai r.2]] 0 := by
  unfold e201 at h
  exact k201 (tH q201 0 [(none, 9, 3)] [0, 1, 2] [0] [0, 2, 3, 5, 8, 9, 13, 14] (oD (dT ([] : List Tm)) <| oD (dT p3) <| oD (dT ([] : List Tm)) <| oD (dT p1.sub) o0) (l201L7793 _ _ _ _ _ _ _ _ h) (fun j => by kernel_rfl))

end Go.Proofs.YteiddempdecleaaGreat

namespace Go.Proofs.YteiddempdecleaaGreat
open Go Go.Ab

/- (*scholium/iota.maker).beneaths -/
def e141L28628 : Nat → (List Tm) → (List Tm) → Int → (List Tm) → Int →  Option (List Tm × Int)
  | 0, _, _, _, _, _ => none
  | qq + 1, p1, p2, v12, v7, vb0_0 =>
    if decide (v12 < (List.length p1 : Int)) = true then
      (gidx p1 v12) >>= fun x2 =>
      (e201 qq vb0_0 x2 v12 p2) >>= fun r4 =>
      (gapp 40 v7 [r4.1]) >>= fun l6 =>
      e141L28628 qq p1 p2 (w64 (v12 + 1)) l6 r4.2
    else
      some (v7, vb0_0)
def e141 (qq : Nat) (q0_e : Int) (p1 : List Tm) (p2 : List Tm) : Option (List Tm × Int) :=
  e141L28628 qq p1 p2 0 [] q0_e
def g141L28628E0 (j : Nat → Value) (p1 : List Tm) (p2 : List Tm) (v12 : Int) (v7 : List Tm) (vb0_0 : Int) : List AV := sp j 27 0 [(0, .mp 0 0), (2, .sl (flat tmCells p2) (List.length p2) .no), (7, .sl (flat tmCells v7) (List.length v7) (.st 0 3)), (10, .sl (flat tmCells p1) (List.length p1) .no), (11, ai (List.length p1 : Int)), (12, ai v12)]
def g141L28628S0 (p1 : List Tm) (p2 : List Tm) (v12 : Int) (v7 : List Tm) (vb0_0 : Int) : LSt := ⟨[(0, .cells [ai vb0_0])], 1, [0], 1, []⟩
theorem q141 : Tryz.prog.funcs[141]? = some Tryz.f141 ∧ Tryz.f141.body.isNone = false := ⟨Tryz.func141, by kernel_rfl⟩
theorem k141 {q0_e : Int} {p1 : List Tm} {p2 : List Tm} {r : List Tm × Int} (h : CTri Tryz.prog 141 [.cells [ai q0_e]] [.mp 0 0, .sl (flat tmCells p1) (List.length p1) .no, .sl (flat tmCells p2) (List.length p2) .no] (.sl (flat tmCells r.1) (List.length r.1) .no) [.cells [ai r.2]] 0) : CT Tryz.prog 141 [.cells [ai q0_e]] [.mp 0 0, .sl (flat tmCells p1) (List.length p1) .no, .sl (flat tmCells p2) (List.length p2) .no] (.sl (flat tmCells r.1) (List.length r.1) .no) [.cells [ai r.2]] 0 := ⟨h, ⟨(show 0 < 1 by decide), ⟨trivial, dT _⟩, ⟨trivial, dT _⟩, trivial⟩, (forall_cons ⟨trivial, trivial⟩ forall_nil), dT _, (forall_cons ⟨trivial, trivial⟩ forall_nil)⟩
theorem l141L28628 : ∀ qq : Nat, (∀ (p1 : List Tm) (p2 : List Tm) (v12 : Int) (v7 : List Tm) (vb0_0 : Int) (r : List Tm × Int), e141L28628 qq p1 p2 v12 v7 vb0_0 = some r → (∀ j, Dl Tryz.prog 1 (inn (inn (rgt (lft (rgt (rgt (bod Tryz.f141))))))) (g141L28628E0 j p1 p2 v12 v7 vb0_0) (g141L28628S0 p1 p2 v12 v7 vb0_0) (frameQ Tryz.prog 1 (FinQ Tryz.prog 1 Tryz.f141 (.sl (flat tmCells r.1) (List.length r.1) .no) [.cells [ai r.2]] 0) [.blk 0, .seq (rgt (rgt (rgt (bod Tryz.f141))))]))) := by
  intro qq
  induction qq with
  | zero =>
    exact fun _ _ _ _ _ _ h => nn h
  | succ qq ih =>
    intro p1 p2 v12 v7 vb0_0 r h
    rw [e141L28628] at h
    rcases spl h with ⟨h1, h⟩ | ⟨h1, h⟩
    · obtain ⟨x2, h3, h⟩ := obind h
      obtain ⟨r4, h5, h⟩ := obind h
      obtain ⟨l6, h7, h⟩ := obind h
      exact fun j => lH 1 [] [0] [1] [0, 2, 7, 10, 11, 12] (oD (dT p1) <| oD (dT l6) <| oD (dT p2) <| oP 0 (apS23 h7 (by simp)) <| oS 0 (obLitR tm_eq [r4.1]) <| oC 3 [0] (c201 h5) <| oA 0 (ix23 (o := .no) h3) <| oB 0 h1 o0) (ih _ _ _ _ _ _ h) (fun j => by kernel_rfl)
    · obtain rfl := sj h
      exact fun j => lF 0 [0] (oD (dT v7) <| oB 0 h1 o0) (by kernel_rfl)
theorem c141 {qq : Nat} {q0_e : Int} {p1 : List Tm} {p2 : List Tm} {r : List Tm × Int} (h : e141 qq q0_e p1 p2 = some r) : CT Tryz.prog 141 [.cells [ai q0_e]] [.mp 0 0, .sl (flat tmCells p1) (List.length p1) .no, .sl (flat tmCells p2) (List.length p2) .no] (.sl (flat tmCells r.1) (List.length r.1) .no) [.cells [ai r.2]] 0 := by
  unfold e141 at h
  exact k141 (tH q141 1 [(none, 7, 3)] [0] [0] [0, 2, 7, 10, 11, 12] (oD (dT p1) <| oD (dT ([] : List Tm)) <| oD (dT p2) o0) (l141L28628 _ _ _ _ _ _ _ h) (fun j => by kernel_rfl))

end Go.Proofs.YteiddempdecleaaGreat

namespace Go.Proofs.YteiddempdecleaaGreat
open Go Go.Ab

/- (*scholium/iota.maker).up -/
def e200 (qq : Nat) (q0_e : Int) (p1 : Tm) (p2 : Int) : Option (Tm × Int) :=
  (e246 qq p1 p2) >>= fun r1 =>
  (e144 qq q0_e r1.1 r1.2) >>= fun r3 =>
  some (r3.1, r3.2)
theorem q200 : Tryz.prog.funcs[200]? = some Tryz.f200 ∧ Tryz.f200.body.isNone = false := ⟨Tryz.func200, by kernel_rfl⟩
theorem k200 {q0_e : Int} {p1 : Tm} {p2 : Int} {r : Tm × Int} (h : CTri Tryz.prog 200 [.cells [ai q0_e]] [.mp 0 0, tmA p1, ai p2] (tmA r.1) [.cells [ai r.2]] 0) : CT Tryz.prog 200 [.cells [ai q0_e]] [.mp 0 0, tmA p1, ai p2] (tmA r.1) [.cells [ai r.2]] 0 := ⟨h, ⟨(show 0 < 1 by decide), ⟨trivial, trivial, ⟨trivial, dT _⟩, trivial⟩, trivial, trivial⟩, (forall_cons ⟨trivial, trivial⟩ forall_nil), ⟨trivial, trivial, dT _, trivial⟩, (forall_cons ⟨trivial, trivial⟩ forall_nil)⟩
theorem c200 {qq : Nat} {q0_e : Int} {p1 : Tm} {p2 : Int} {r : Tm × Int} (h : e200 qq q0_e p1 p2 = some r) : CT Tryz.prog 200 [.cells [ai q0_e]] [.mp 0 0, tmA p1, ai p2] (tmA r.1) [.cells [ai r.2]] 0 := by
  unfold e200 at h
  obtain ⟨r1, h2, h⟩ := obind h
  obtain ⟨r3, h4, h⟩ := obind h
  obtain rfl := sj h
  exact k200 (tF q200 1 [0] (oD (dT r3.1.sub) <| oC 2 [0] (c144 h4) <| oC 1 [] (c246 h2) o0) (by kernel_rfl))

end Go.Proofs.YteiddempdecleaaGreat

namespace Go.Proofs.YteiddempdecleaaGreat
open Go Go.Ab

/- scholium/term.Lam -/
def e316 (qq : Nat) (p0 : Tm) (p1 : Tm) : Option (Tm) :=
  (e206 qq 4 0 [p0, p1]) >>= fun r1 =>
  some r1
theorem q316 : Tryz.prog.funcs[316]? = some Tryz.f316 ∧ Tryz.f316.body.isNone = false := ⟨Tryz.func316, by kernel_rfl⟩
theorem k316 {p0 : Tm} {p1 : Tm} {r : Tm} (h : CTri Tryz.prog 316 [] [tmA p0, tmA p1] (tmA r) [] 0) : CT Tryz.prog 316 [] [tmA p0, tmA p1] (tmA r) [] 0 := ⟨h, ⟨⟨trivial, trivial, ⟨trivial, dT _⟩, trivial⟩, ⟨trivial, trivial, ⟨trivial, dT _⟩, trivial⟩, trivial⟩, forall_nil, ⟨trivial, trivial, dT _, trivial⟩, forall_nil⟩
theorem c316 {qq : Nat} {p0 : Tm} {p1 : Tm} {r : Tm} (h : e316 qq p0 p1 = some r) : CT Tryz.prog 316 [] [tmA p0, tmA p1] (tmA r) [] 0 := by
  unfold e316 at h
  obtain ⟨r1, h2, h⟩ := obind h
  obtain rfl := sj h
  exact k316 (tF q316 1 [] (oD (dT r1.sub) <| oC 0 [] (c206 h2) <| oS 2 (obLitR tm_eq [p0, p1]) o0) (by kernel_rfl))

end Go.Proofs.YteiddempdecleaaGreat

namespace Go.Proofs.YteiddempdecleaaGreat
open Go Go.Ab

/- scholium/tele.around -/
def e207va27164L52327 : Nat → (List Tm) → Int → Int → Int → (List Tm) →  Option (Tm × Int)
  | 0, _, _, _, _, _ => none
  | qq + 1, p0, v32, vb0_0, vb0_1, vb0_2 =>
    if decide (v32 < (List.length p0 : Int)) = true then
      (gidx p0 (w64 ((w64 ((List.length p0 : Int) - 1)) - v32))) >>= fun x12 =>
      (e316 qq x12 (Tm.mk vb0_0 vb0_1 vb0_2)) >>= fun r14 =>
      e207va27164L52327 qq p0 (w64 (v32 + 1)) r14.k r14.n r14.sub
    else
      (e91 qq (Tm.mk vb0_0 vb0_1 vb0_2)) >>= fun r16 =>
      if r16 = true then
        (e84 qq (Tm.mk vb0_0 vb0_1 vb0_2)) >>= fun r19 =>
        some (r19, 0)
      else
        some ((Tm.mk 0 0 []), 2)
def e207va27164L9593 : Nat → (List Tm) → Tm → Int →  Option (Tm × Int)
  | 0, _, _, _ => none
  | qq + 1, p0, p1, v17 =>
    if decide (v17 < (List.length p0 : Int)) = true then
      (gidx p0 v17) >>= fun x3 =>
      (e91 qq x3) >>= fun r5 =>
      if r5 = true then
        e207va27164L9593 qq p0 p1 (w64 (v17 + 1))
      else
        some ((Tm.mk 0 0 []), 5)
    else
      (e91 qq p1) >>= fun r8 =>
      if r8 = true then
        e207va27164L52327 qq p0 0 p1.k p1.n p1.sub
      else
        some ((Tm.mk 0 0 []), 5)
def e207va27164 (qq : Nat) (p0 : List Tm) (p1 : Tm) : Option (Tm × Int) :=
  if decide ((List.length p0 : Int) > 24) = true then
    some ((Tm.mk 0 0 []), 2)
  else
    e207va27164L9593 qq p0 p1 0
def g207va27164L9593E0 (j : Nat → Value) (p0 : List Tm) (p1 : Tm) (v17 : Int) : List AV := sp j 53 0 [(0, .sl (flat tmCells p0) (List.length p0) .no), (2, .clo 316 [] []), (4, .mp 0 0), (6, .mp 1 0), (15, .sl (flat tmCells p0) (List.length p0) .no), (16, ai (List.length p0 : Int)), (17, ai v17)]
def g207va27164L9593S0 (p0 : List Tm) (p1 : Tm) (v17 : Int) : LSt := ⟨[(0, .cells [ai p1.k, ai p1.n, .sl (flat tmCells p1.sub) (List.length p1.sub) .no]), (1, .cells [ai 0, ai 0, .sl (flat tmCells ([] : List Tm)) (List.length ([] : List Tm)) .nl])], 2, [], 0, []⟩
def g207va27164L52327E0 (j : Nat → Value) (p0 : List Tm) (v32 : Int) (vb0_0 : Int) (vb0_1 : Int) (vb0_2 : List Tm) : List AV := sp j 53 0 [(0, .sl (flat tmCells p0) (List.length p0) .no), (2, .clo 316 [] []), (4, .mp 0 0), (6, .mp 1 0), (31, ai (List.length p0 : Int)), (32, ai v32)]
def g207va27164L52327S0 (p0 : List Tm) (v32 : Int) (vb0_0 : Int) (vb0_1 : Int) (vb0_2 : List Tm) : LSt := ⟨[(0, .cells [ai vb0_0, ai vb0_1, .sl (flat tmCells vb0_2) (List.length vb0_2) .no]), (1, .cells [ai 0, ai 0, .sl (flat tmCells ([] : List Tm)) (List.length ([] : List Tm)) .nl])], 2, [], 0, []⟩
theorem q207va27164 : Tryz.prog.funcs[207]? = some Tryz.f207 ∧ Tryz.f207.body.isNone = false := ⟨Tryz.func207, by kernel_rfl⟩
theorem k207va27164 {p0 : List Tm} {p1 : Tm} {r : Tm × Int} (h : CTri Tryz.prog 207 [] [.sl (flat tmCells p0) (List.length p0) .no, tmA p1, .clo 316 [] []] (.tup [tmA r.1, ai r.2]) [] 0) : CT Tryz.prog 207 [] [.sl (flat tmCells p0) (List.length p0) .no, tmA p1, .clo 316 [] []] (.tup [tmA r.1, ai r.2]) [] 0 := ⟨h, ⟨⟨trivial, dT _⟩, ⟨trivial, trivial, ⟨trivial, dT _⟩, trivial⟩, ⟨trivial, trivial⟩, trivial⟩, forall_nil, ⟨⟨trivial, trivial, dT _, trivial⟩, trivial, trivial⟩, forall_nil⟩
theorem l207va27164L52327 : ∀ qq : Nat, (∀ (p0 : List Tm) (v32 : Int) (vb0_0 : Int) (vb0_1 : Int) (vb0_2 : List Tm) (r : Tm × Int), e207va27164L52327 qq p0 v32 vb0_0 vb0_1 vb0_2 = some r → (∀ j, Dl Tryz.prog 0 (inn (inn (rgt (lft (rgt (rgt (rgt (rgt (bod Tryz.f207))))))))) (g207va27164L52327E0 j p0 v32 vb0_0 vb0_1 vb0_2) (g207va27164L52327S0 p0 v32 vb0_0 vb0_1 vb0_2) (frameQ Tryz.prog 0 (FinQ Tryz.prog 0 Tryz.f207 (.tup [tmA r.1, ai r.2]) [] 0) [.blk 2, .seq (rgt (rgt (rgt (rgt (rgt (bod Tryz.f207))))))]))) := by
  intro qq
  induction qq with
  | zero =>
    exact fun _ _ _ _ _ _ h => nn h
  | succ qq ih =>
    intro p0 v32 vb0_0 vb0_1 vb0_2 r h
    rw [e207va27164L52327] at h
    rcases spl h with ⟨h11, h⟩ | ⟨h11, h⟩
    · obtain ⟨x12, h13, h⟩ := obind h
      obtain ⟨r14, h15, h⟩ := obind h
      exact fun j => lH 2 [] [0, 1] [] [0, 2, 4, 6, 31, 32] (oD (dT p0) <| oD (dT ([] : List Tm)) <| oD (dT r14.sub) <| oC 2 [] (c316 h15) <| oA 3 (ix23 (o := .no) h13) <| oB 0 h11 o0) (ih _ _ _ _ _ _ h) (fun j => by kernel_rfl)
    · obtain ⟨r16, h17, h⟩ := obind h
      have k := oB 0 h11 o0
      rcases spl h with ⟨h18, h⟩ | ⟨h18, h⟩
      · obtain ⟨r19, h20, h⟩ := obind h
        obtain rfl := sj h
        exact fun j => lF 1 [] (oD (dT r19.sub) <| oC 2 [] (c84 h20) <| oK 1 [] h18 (c91 h17) k) (by kernel_rfl)
      · obtain rfl := sj h
        exact fun j => lF 2 [] (oD (dT ([] : List Tm)) <| oK 1 [] h18 (c91 h17) k) (by kernel_rfl)
theorem l207va27164L9593 : ∀ qq : Nat, (∀ (p0 : List Tm) (p1 : Tm) (v17 : Int) (r : Tm × Int), e207va27164L9593 qq p0 p1 v17 = some r → (∀ j, Dl Tryz.prog 0 (inn (inn (rgt (lft (rgt (rgt (bod Tryz.f207))))))) (g207va27164L9593E0 j p0 p1 v17) (g207va27164L9593S0 p0 p1 v17) (frameQ Tryz.prog 0 (FinQ Tryz.prog 0 Tryz.f207 (.tup [tmA r.1, ai r.2]) [] 0) [.blk 0, .seq (rgt (rgt (rgt (bod Tryz.f207))))]))) := by
  intro qq
  induction qq with
  | zero =>
    exact fun _ _ _ _ h => nn h
  | succ qq ih =>
    intro p0 p1 v17 r h
    rw [e207va27164L9593] at h
    rcases spl h with ⟨h2, h⟩ | ⟨h2, h⟩
    · obtain ⟨x3, h4, h⟩ := obind h
      obtain ⟨r5, h6, h⟩ := obind h
      have k := oA 0 (ix23 (o := .no) h4) <| oB 0 h2 o0
      rcases spl h with ⟨h7, h⟩ | ⟨h7, h⟩
      · exact fun j => lH 2 [] [0, 1] [] [0, 2, 4, 6, 15, 16, 17] (oD (dT p0) <| oD (dT p0) <| oD (dT ([] : List Tm)) <| oD (dT p1.sub) <| oK 3 [] h7 (c91 h6) k) (ih _ _ _ _ h) (fun j => by kernel_rfl)
      · obtain rfl := sj h
        exact fun j => lF 2 [] (oD (dT ([] : List Tm)) <| oK 3 [] h7 (c91 h6) k) (by kernel_rfl)
    · obtain ⟨r8, h9, h⟩ := obind h
      have k := oB 0 h2 o0
      rcases spl h with ⟨h10, h⟩ | ⟨h10, h⟩
      · exact fun j => lH 2 [] [0, 1] [] [0, 2, 4, 6, 31, 32] (oD (dT p0) <| oD (dT ([] : List Tm)) <| oD (dT p1.sub) <| oK 1 [] h10 (c91 h9) k) (l207va27164L52327 _ _ _ _ _ _ _ h) (fun j => by kernel_rfl)
      · obtain rfl := sj h
        exact fun j => lF 2 [] (oD (dT ([] : List Tm)) <| oK 1 [] h10 (c91 h9) k) (by kernel_rfl)
theorem c207va27164 {qq : Nat} {p0 : List Tm} {p1 : Tm} {r : Tm × Int} (h : e207va27164 qq p0 p1 = some r) : CT Tryz.prog 207 [] [.sl (flat tmCells p0) (List.length p0) .no, tmA p1, .clo 316 [] []] (.tup [tmA r.1, ai r.2]) [] 0 := by
  unfold e207va27164 at h
  rcases spl h with ⟨h1, h⟩ | ⟨h1, h⟩
  · obtain rfl := sj h
    exact k207va27164 (tF q207va27164 1 [] (oD (dT ([] : List Tm)) <| oB 1 h1 o0) (by kernel_rfl))
  · exact k207va27164 (tH q207va27164 1 [] [0, 1] [] [0, 2, 4, 6, 15, 16, 17] (oD (dT p0) <| oD (dT p0) <| oD (dT ([] : List Tm)) <| oD (dT p1.sub) <| oB 1 h1 o0) (l207va27164L9593 _ _ _ _ _ h) (fun j => by kernel_rfl))

end Go.Proofs.YteiddempdecleaaGreat

namespace Go.Proofs.YteiddempdecleaaGreat
open Go Go.Ab

/- scholium/tele.Lams -/
def e295 (qq : Nat) (p0 : List Tm) (p1 : Tm) : Option (Tm × Int) :=
  (e207va27164 qq p0 p1) >>= fun r1 =>
  some (r1.1, r1.2)
theorem q295 : Tryz.prog.funcs[295]? = some Tryz.f295 ∧ Tryz.f295.body.isNone = false := ⟨Tryz.func295, by kernel_rfl⟩
theorem k295 {p0 : List Tm} {p1 : Tm} {r : Tm × Int} (h : CTri Tryz.prog 295 [] [.sl (flat tmCells p0) (List.length p0) .no, tmA p1] (.tup [tmA r.1, ai r.2]) [] 0) : CT Tryz.prog 295 [] [.sl (flat tmCells p0) (List.length p0) .no, tmA p1] (.tup [tmA r.1, ai r.2]) [] 0 := ⟨h, ⟨⟨trivial, dT _⟩, ⟨trivial, trivial, ⟨trivial, dT _⟩, trivial⟩, trivial⟩, forall_nil, ⟨⟨trivial, trivial, dT _, trivial⟩, trivial, trivial⟩, forall_nil⟩
theorem c295 {qq : Nat} {p0 : List Tm} {p1 : Tm} {r : Tm × Int} (h : e295 qq p0 p1 = some r) : CT Tryz.prog 295 [] [.sl (flat tmCells p0) (List.length p0) .no, tmA p1] (.tup [tmA r.1, ai r.2]) [] 0 := by
  unfold e295 at h
  obtain ⟨r1, h2, h⟩ := obind h
  obtain rfl := sj h
  exact k295 (tF q295 3 [] (oD (dT r1.1.sub) <| oC 1 [] (c207va27164 h2) o0) (by kernel_rfl))

end Go.Proofs.YteiddempdecleaaGreat

namespace Go.Proofs.YteiddempdecleaaGreat
open Go Go.Ab

/- (*scholium/iota.maker).hypothesis -/
def e268L25768 : Nat → (List Tm) → Rec' → Tm → Int → Int → Int → Int → (List Tm) →  Option (Tm × Int)
  | 0, _, _, _, _, _, _, _, _ => none
  | qq + 1, p3, p4, p5, v29, vb0_0, vb4_0, vb4_1, vb4_2 =>
    if decide (v29 < (List.length p4.at' : Int)) = true then
      (gidx p4.at' v29) >>= fun x6 =>
      (e201 qq vb0_0 x6 (List.length p4.around : Int) p3) >>= fun r8 =>
      (e146 qq (Tm.mk vb4_0 vb4_1 vb4_2) r8.1) >>= fun r10 =>
      e268L25768 qq p3 p4 p5 (w64 (v29 + 1)) r8.2 r10.k r10.n r10.sub
    else
      (e200 qq vb0_0 p5 (List.length p4.around : Int)) >>= fun r12 =>
      (e138 qq (List.length p4.around : Int)) >>= fun r14 =>
      (e142 qq r12.1 r14) >>= fun r16 =>
      (e146 qq (Tm.mk vb4_0 vb4_1 vb4_2) r16) >>= fun r18 =>
      (e141 qq r12.2 p4.around p3) >>= fun r20 =>
      (e295 qq r20.1 r18) >>= fun r22 =>
      (e144 qq r20.2 r22.1 r22.2) >>= fun r24 =>
      some (r24.1, r24.2)
def e268 (qq : Nat) (q0_e : Int) (p1 : Tm) (p2 : List Tm) (p3 : List Tm) (p4 : Rec') (p5 : Tm) : Option (Tm × Int) :=
  (e139 qq q0_e p2 (List.length p4.around : Int)) >>= fun r1 =>
  (e142 qq p1 r1.1) >>= fun r3 =>
  e268L25768 qq p3 p4 p5 0 r1.2 r3.k r3.n r3.sub
def g268L25768E0 (j : Nat → Value) (p3 : List Tm) (p4 : Rec') (p5 : Tm) (v29 : Int) (vb0_0 : Int) (vb4_0 : Int) (vb4_1 : Int) (vb4_2 : List Tm) : List AV := sp j 61 0 [(0, .mp 0 0), (3, .sl (flat tmCells p3) (List.length p3) .no), (10, .mp 1 0), (11, .mp 2 0), (12, .mp 3 0), (13, ai (List.length p4.around : Int)), (14, .mp 4 0), (27, .sl (flat tmCells p4.at') (List.length p4.at') .no), (28, ai (List.length p4.at' : Int)), (29, ai v29)]
def g268L25768S0 (p3 : List Tm) (p4 : Rec') (p5 : Tm) (v29 : Int) (vb0_0 : Int) (vb4_0 : Int) (vb4_1 : Int) (vb4_2 : List Tm) : LSt := ⟨[(0, .cells [ai vb0_0]), (1, .cells [ab p4.is, .sl (flat tmCells p4.around) (List.length p4.around) .no, .sl (flat tmCells p4.at') (List.length p4.at') .no]), (2, .cells [ai p5.k, ai p5.n, .sl (flat tmCells p5.sub) (List.length p5.sub) .no]), (3, .cells [ai 0, ai 0, .sl (flat tmCells ([] : List Tm)) (List.length ([] : List Tm)) .nl]), (4, .cells [ai vb4_0, ai vb4_1, .sl (flat tmCells vb4_2) (List.length vb4_2) .no])], 5, [], 0, []⟩
theorem q268 : Tryz.prog.funcs[268]? = some Tryz.f268 ∧ Tryz.f268.body.isNone = false := ⟨Tryz.func268, by kernel_rfl⟩
theorem k268 {q0_e : Int} {p1 : Tm} {p2 : List Tm} {p3 : List Tm} {p4 : Rec'} {p5 : Tm} {r : Tm × Int} (h : CTri Tryz.prog 268 [.cells [ai q0_e]] [.mp 0 0, tmA p1, .sl (flat tmCells p2) (List.length p2) .no, .sl (flat tmCells p3) (List.length p3) .no, recA p4, tmA p5] (tmA r.1) [.cells [ai r.2]] 0) : CT Tryz.prog 268 [.cells [ai q0_e]] [.mp 0 0, tmA p1, .sl (flat tmCells p2) (List.length p2) .no, .sl (flat tmCells p3) (List.length p3) .no, recA p4, tmA p5] (tmA r.1) [.cells [ai r.2]] 0 := ⟨h, ⟨(show 0 < 1 by decide), ⟨trivial, trivial, ⟨trivial, dT _⟩, trivial⟩, ⟨trivial, dT _⟩, ⟨trivial, dT _⟩, ⟨trivial, ⟨trivial, dT _⟩, ⟨trivial, dT _⟩, trivial⟩, ⟨trivial, trivial, ⟨trivial, dT _⟩, trivial⟩, trivial⟩, (forall_cons ⟨trivial, trivial⟩ forall_nil), ⟨trivial, trivial, dT _, trivial⟩, (forall_cons ⟨trivial, trivial⟩ forall_nil)⟩
theorem l268L25768 : ∀ qq : Nat, (∀ (p3 : List Tm) (p4 : Rec') (p5 : Tm) (v29 : Int) (vb0_0 : Int) (vb4_0 : Int) (vb4_1 : Int) (vb4_2 : List Tm) (r : Tm × Int), e268L25768 qq p3 p4 p5 v29 vb0_0 vb4_0 vb4_1 vb4_2 = some r → (∀ j, Dl Tryz.prog 1 (inn (inn (rgt (lft (rgt (rgt (rgt (bod Tryz.f268)))))))) (g268L25768E0 j p3 p4 p5 v29 vb0_0 vb4_0 vb4_1 vb4_2) (g268L25768S0 p3 p4 p5 v29 vb0_0 vb4_0 vb4_1 vb4_2) (frameQ Tryz.prog 1 (FinQ Tryz.prog 1 Tryz.f268 (tmA r.1) [.cells [ai r.2]] 0) [.blk 0, .seq (rgt (rgt (rgt (rgt (bod Tryz.f268)))))]))) := by
  intro qq
  induction qq with
  | zero =>
    exact fun _ _ _ _ _ _ _ _ _ h => nn h
  | succ qq ih =>
    intro p3 p4 p5 v29 vb0_0 vb4_0 vb4_1 vb4_2 r h
    rw [e268L25768] at h
    rcases spl h with ⟨h5, h⟩ | ⟨h5, h⟩
    · obtain ⟨x6, h7, h⟩ := obind h
      obtain ⟨r8, h9, h⟩ := obind h
      obtain ⟨r10, h11, h⟩ := obind h
      exact fun j => lH 2 [] [0, 1, 2, 3, 4] [] [0, 3, 10, 11, 12, 13, 14, 27, 28, 29] (oD (dT p4.at') <| oD (dT p3) <| oD (dT r10.sub) <| oD (dT ([] : List Tm)) <| oD (dT p5.sub) <| oD (dT p4.at') <| oD (dT p4.around) <| oC 0 [] (c146 h11) <| oC 4 [0] (c201 h9) <| oA 0 (ix23 (o := .no) h7) <| oB 0 h5 o0) (ih _ _ _ _ _ _ _ _ _ h) (fun j => by kernel_rfl)
    · obtain ⟨r12, h13, h⟩ := obind h
      obtain ⟨r14, h15, h⟩ := obind h
      obtain ⟨r16, h17, h⟩ := obind h
      obtain ⟨r18, h19, h⟩ := obind h
      obtain ⟨r20, h21, h⟩ := obind h
      obtain ⟨r22, h23, h⟩ := obind h
      obtain ⟨r24, h25, h⟩ := obind h
      obtain rfl := sj h
      exact fun j => lF 1 [0] (oD (dT r24.1.sub) <| oC 2 [0] (c144 h25) <| oC 1 [] (c295 h23) <| oC 2 [0] (c141 h21) <| oC 0 [] (c146 h19) <| oC 0 [] (c142 h17) <| oC 0 [] (c138 h15) <| oC 2 [0] (c200 h13) <| oB 0 h5 o0) (by kernel_rfl)
theorem c268 {qq : Nat} {q0_e : Int} {p1 : Tm} {p2 : List Tm} {p3 : List Tm} {p4 : Rec'} {p5 : Tm} {r : Tm × Int} (h : e268 qq q0_e p1 p2 p3 p4 p5 = some r) : CT Tryz.prog 268 [.cells [ai q0_e]] [.mp 0 0, tmA p1, .sl (flat tmCells p2) (List.length p2) .no, .sl (flat tmCells p3) (List.length p3) .no, recA p4, tmA p5] (tmA r.1) [.cells [ai r.2]] 0 := by
  unfold e268 at h
  obtain ⟨r1, h2, h⟩ := obind h
  obtain ⟨r3, h4, h⟩ := obind h
  exact k268 (tH q268 3 [] [0, 2, 3, 4, 5] [] [0, 3, 10, 11, 12, 13, 14, 27, 28, 29] (oD (dT p4.at') <| oD (dT p3) <| oD (dT r3.sub) <| oD (dT ([] : List Tm)) <| oD (dT p5.sub) <| oD (dT p4.at') <| oD (dT p4.around) <| oC 0 [] (c142 h4) <| oC 3 [0] (c139 h2) o0) (l268L25768 _ _ _ _ _ _ _ _ _ _ h) (fun j => by kernel_rfl))

end Go.Proofs.YteiddempdecleaaGreat

namespace Go.Proofs.YteiddempdecleaaGreat
open Go Go.Ab

/- scholium/iota.is -/
def e75 (qq : Nat) (p0 : List Ent) (p1 : Int) (p2 : Int) : Option (Bool) :=
  if decide (p1 ≥ 0) = true then
    if decide (p1 < (List.length p0 : Int)) = true then
      (gidx p0 p1) >>= fun x3 =>
      some (x3.kind == p2)
    else
      some false
  else
    some false
theorem q75 : Tryz.prog.funcs[75]? = some Tryz.f75 ∧ Tryz.f75.body.isNone = false := ⟨Tryz.func75, by kernel_rfl⟩
theorem k75 {p0 : List Ent} {p1 : Int} {p2 : Int} {r : Bool} (h : CTri Tryz.prog 75 [] [.sl (flat entL p0) (List.length p0) .no, ai p1, ai p2] (ab r) [] 0) : CT Tryz.prog 75 [] [.sl (flat entL p0) (List.length p0) .no, ai p1, ai p2] (ab r) [] 0 := ⟨h, ⟨⟨trivial, dE _⟩, trivial, trivial, trivial⟩, forall_nil, trivial, forall_nil⟩
theorem c75 {qq : Nat} {p0 : List Ent} {p1 : Int} {p2 : Int} {r : Bool} (h : e75 qq p0 p1 p2 = some r) : CT Tryz.prog 75 [] [.sl (flat entL p0) (List.length p0) .no, ai p1, ai p2] (ab r) [] 0 := by
  unfold e75 at h
  rcases spl h with ⟨h1, h⟩ | ⟨h1, h⟩
  · have k := oB 0 h1 o0
    rcases spl h with ⟨h2, h⟩ | ⟨h2, h⟩
    · obtain ⟨x3, h4, h⟩ := obind h
      obtain rfl := sj h
      exact k75 (tF q75 2 [] (oA 0 (ix22 (o := .no) h4) <| oB 1 h2 k) (by kernel_rfl))
    · obtain rfl := sj h
      exact k75 (tF q75 0 [] (oB 1 h2 k) (by kernel_rfl))
  · obtain rfl := sj h
    exact k75 (tF q75 0 [] (oB 0 h1 o0) (by kernel_rfl))

end Go.Proofs.YteiddempdecleaaGreat

namespace Go.Proofs.YteiddempdecleaaGreat
open Go Go.Ab

/- scholium/iota.shaped -/
def e76L18873 : Nat → (List Tm) → Int →  Option (Bool)
  | 0, _, _ => none
  | qq + 1, p0, v7 =>
    if decide (v7 < (List.length p0 : Int)) = true then
      (gidx p0 v7) >>= fun x2 =>
      (e91 qq x2) >>= fun r4 =>
      if r4 = true then
        e76L18873 qq p0 (w64 (v7 + 1))
      else
        some false
    else
      some true
def e76 (qq : Nat) (p0 : List Tm) : Option (Bool) :=
  e76L18873 qq p0 0
def g76L18873E0 (j : Nat → Value) (p0 : List Tm) (v7 : Int) : List AV := sp j 15 0 [(5, .sl (flat tmCells p0) (List.length p0) .no), (6, ai (List.length p0 : Int)), (7, ai v7)]
def g76L18873S0 (p0 : List Tm) (v7 : Int) : LSt := ⟨[], 0, [], 0, []⟩
theorem q76 : Tryz.prog.funcs[76]? = some Tryz.f76 ∧ Tryz.f76.body.isNone = false := ⟨Tryz.func76, by kernel_rfl⟩
theorem k76 {p0 : List Tm} {r : Bool} (h : CTri Tryz.prog 76 [] [.sl (flat tmCells p0) (List.length p0) .no] (ab r) [] 0) : CT Tryz.prog 76 [] [.sl (flat tmCells p0) (List.length p0) .no] (ab r) [] 0 := ⟨h, ⟨⟨trivial, dT _⟩, trivial⟩, forall_nil, trivial, forall_nil⟩
theorem l76L18873 : ∀ qq : Nat, (∀ (p0 : List Tm) (v7 : Int) (r : Bool), e76L18873 qq p0 v7 = some r → (∀ j, Dl Tryz.prog 0 (inn (inn (rgt (lft (rgt (bod Tryz.f76)))))) (g76L18873E0 j p0 v7) (g76L18873S0 p0 v7) (frameQ Tryz.prog 0 (FinQ Tryz.prog 0 Tryz.f76 (ab r) [] 0) [.blk 0, .seq (rgt (rgt (bod Tryz.f76)))]))) := by
  intro qq
  induction qq with
  | zero =>
    exact fun _ _ _ h => nn h
  | succ qq ih =>
    intro p0 v7 r h
    rw [e76L18873] at h
    rcases spl h with ⟨h1, h⟩ | ⟨h1, h⟩
    · obtain ⟨x2, h3, h⟩ := obind h
      obtain ⟨r4, h5, h⟩ := obind h
      have k := oA 0 (ix23 (o := .no) h3) <| oB 0 h1 o0
      rcases spl h with ⟨h6, h⟩ | ⟨h6, h⟩
      · exact fun j => lH 2 [] [] [] [5, 6, 7] (oD (dT p0) <| oK 3 [] h6 (c91 h5) k) (ih _ _ _ h) (fun j => by kernel_rfl)
      · obtain rfl := sj h
        exact fun j => lF 1 [] (oK 3 [] h6 (c91 h5) k) (by kernel_rfl)
    · obtain rfl := sj h
      exact fun j => lF 0 [] (oB 0 h1 o0) (by kernel_rfl)
theorem c76 {qq : Nat} {p0 : List Tm} {r : Bool} (h : e76 qq p0 = some r) : CT Tryz.prog 76 [] [.sl (flat tmCells p0) (List.length p0) .no] (ab r) [] 0 := by
  unfold e76 at h
  exact k76 (tH q76 1 [] [] [] [5, 6, 7] (oD (dT p0) o0) (l76L18873 _ _ _ _ h) (fun j => by kernel_rfl))

end Go.Proofs.YteiddempdecleaaGreat

namespace Go.Proofs.YteiddempdecleaaGreat
open Go Go.Ab

/-- a list of terms that may be worked with -/
def OkA (l : List Tm) : Prop := ∀ x ∈ l, x.Ok
theorem OkA.nil : OkA [] := fun _ h => nomatch h
theorem OkA.app {l m : List Tm} (h : OkA l) (k : OkA m) : OkA (l ++ m) := fun x hx => (List.mem_append.1 hx).elim (h x) (k x)
theorem OkA.one {t : Tm} (h : t.Ok) : OkA [t] := fun x hx => by
  rw [List.mem_singleton.1 hx]; exact h
theorem OkA.drop {l : List Tm} (h : OkA l) (n : Nat) : OkA (l.drop n) := fun x hx => h x (List.mem_of_mem_drop hx)
theorem OkA.take {l : List Tm} (h : OkA l) (n : Nat) : OkA (l.take n) := fun x hx => h x (List.mem_of_mem_take hx)
theorem OkA.at {l r : List Tm} {v : Nat} {x : Tm} (h : OkA l) (hd : l.drop v = x :: r) : x.Ok := h x (by
  have : x ∈ l.drop v := by rw [hd]; simp
  exact List.mem_of_mem_drop this)
theorem ok_mk1 {k n : Int} {a : Tm} (h : a.Ok) : (Tm.mk k n [a]).Ok := by
  rw [Tm.Ok, OkL, OkL]; exact ⟨by simp, h, trivial⟩
theorem ok_mk2 {k n : Int} {a b : Tm} (h : a.Ok) (i : b.Ok) : (Tm.mk k n [a, b]).Ok := by
  rw [Tm.Ok, OkL, OkL, OkL]; exact ⟨by simp, h, i, trivial⟩
theorem copT_ok {t : Tm} (h : t.Ok) : (copT t).Ok := by
  unfold copT
  split
  · exact h
  · exact leaf_ok 0 0
theorem gidx_lt {α : Type} {l : List α} {i : Int} (h0 : 0 ≤ i) (h1 : i < l.length) : ∃ x, gidx l i = some x ∧ x ∈ l := by
  have : i.toNat < l.length := by omega
  exact ⟨l[i.toNat], by unfold gidx; rw [if_pos h0, List.getElem?_eq_getElem this], List.getElem_mem this⟩
theorem gsl_mid {α : Type} {l : List α} {a b : Int} (h0 : 0 ≤ a) (h1 : a ≤ b) (h2 : b ≤ l.length) : gsl l a b = some ((l.drop a.toNat).take (b - a).toNat) := by
  unfold gsl; rw [if_pos ⟨h0, h1, h2⟩]

theorem tot_lAllL (p1 p2 : Int) : ∀ (r l acc : List Tm) (v : Nat), l.drop v = r → l.length ≤ 1073741824 → OkA l → OkA acc → acc.length + r.length ≤ l.length → Tot (fun q => e205L22346 q l p1 p2 (v : Int) acc) (fun x => OkA x.1 ∧ x.1.length ≤ l.length)
  | [], l, acc, v, hd, hl, ho, ha, hv => by
    refine Tot.succ ?_
    simp only [e205L22346]
    refine Tot.ite (fun h => ?_) fun _ => Tot.ret ⟨ha, by simpa using hv⟩
    rw [drop_nil hd] at h; cases h
  | t :: r, l, acc, v, hd, hl, ho, ha, hv => by
    have hlt := drop_lt hd
    refine Tot.succ ?_
    simp only [e205L22346]
    refine Tot.ite (fun _ => ?_) fun h => ?_
    · refine Tot.pure (drop_idx hd) (Tot.bind (P := fun r => r.1.Ok) ((ev_Lift t p1 p2 (ho.at hd)).tot (liftT_ok t p1 p2 (ho.at hd))) fun r4 h4 => Tot.ite (fun _ => Tot.ret ⟨OkA.nil, by simp⟩) fun _ => ?_)
      rw [List.length_cons] at hv
      refine Tot.pure (gapp_ok (by simp <;> omega)) ?_
      rw [w64_nat v (by omega)]
      exact tot_lAllL p1 p2 r l _ (v + 1) (drop_next hd) hl ho (ha.app (OkA.one h4)) (by simp <;> omega)
    · rw [drop_dec hd] at h; cases h
theorem tot_lAll (l : List Tm) (p1 p2 : Int) (hl : l.length ≤ 1073741824) (ho : OkA l) : Tot (fun q => e205 q l p1 p2) (fun x => OkA x.1 ∧ x.1.length ≤ l.length) := by
  simp only [e205]
  exact tot_lAllL p1 p2 l l [] 0 rfl hl ho OkA.nil (by simp)
theorem tot_got (e : Int) (t : Tm) (p : Int) (h : t.Ok) : Tot (fun q => e144 q e t p) (fun x => x.1.Ok) := by
  simp only [e144]
  exact Tot.ite (fun _ => Tot.ret h) fun _ => Tot.ret h
theorem tot_all (e : Int) (t : List Tm) (p : Int) : Tot (fun q => e204 q e t p) (fun x => x.1 = t) := by
  simp only [e204]
  exact Tot.ite (fun _ => Tot.ret rfl) fun _ => Tot.ret rfl
theorem tot_ups (e : Int) (l : List Tm) (p : Int) (hl : l.length ≤ 1073741824) (ho : OkA l) : Tot (fun q => e139 q e l p) (fun x => OkA x.1 ∧ x.1.length ≤ l.length) := by
  simp only [e139]
  exact (tot_lAll l p 0 hl ho).bind fun r h => (tot_all e r.1 r.2).bind fun r3 h3 => Tot.ret (by rw [h3]; exact h)
theorem tot_up (e : Int) (t : Tm) (p : Int) (h : t.Ok) : Tot (fun q => e200 q e t p) (fun x => x.1.Ok) := by
  simp only [e200]
  exact Tot.bind (P := fun r => r.1.Ok) ((ev_Up t p h).tot (liftT_ok t p 0 h)) fun r h => (tot_got e r.1 r.2 h).bind fun r3 h3 => Tot.ret h3
theorem tot_VarsL : ∀ (m : Nat) (acc : List Tm), m + acc.length ≤ 1048576 → OkA acc → Tot (fun q => e138L48355 q acc ((m : Int) - 1)) (fun x => OkA x ∧ x.length ≤ 1048576)
  | 0, acc, hm, ho => by
    refine Tot.succ ?_
    simp only [e138L48355]
    refine Tot.ite (fun h => ?_) fun _ => Tot.ret ⟨ho, by omega⟩
    have := of_decide_eq_true h
    omega
  | m + 1, acc, hm, ho => by
    refine Tot.succ ?_
    simp only [e138L48355]
    refine Tot.ite (fun _ => ?_) fun h => ?_
    · refine Tot.bind (P := fun r => r.Ok) ((ev_Var _).tot (leaf_ok _ _)) fun r h => Tot.pure (gapp_ok (by simp <;> omega)) ?_
      rw [w64_id (by omega) (by omega), show ((m + 1 : Nat) : Int) - 1 - 1 = (m : Int) - 1 by omega]
      exact tot_VarsL m _ (by simp <;> omega) (ho.app (OkA.one h))
    · have := of_decide_eq_false h
      omega
theorem tot_Vars (n : Int) : Tot (fun q => e138 q n) (fun x => OkA x ∧ x.length ≤ 1048576) := by
  simp only [e138]
  refine Tot.ite (fun _ => Tot.ret ⟨OkA.nil, by simp⟩) fun h => Tot.ite (fun _ => Tot.ret ⟨OkA.nil, by simp⟩) fun k => ?_
  have := of_decide_eq_false h
  have := of_decide_eq_false k
  rw [w64_id (by omega) (by omega), show n - 1 = ((n.toNat : Nat) : Int) - 1 by omega]
  exact tot_VarsL n.toNat [] (by simp; omega) OkA.nil
theorem tot_benS (p1 : Tm) (r6 : List Tm × Int) (h1 : p1.Ok) (h6 : OkA r6.1) : ∀ (m : Nat) (acc : List Tm), m ≤ r6.1.length → m + acc.length ≤ 4294967296 → OkA acc → Tot (fun q => e201L60275 q p1 r6 ((m : Int) - 1) acc) (fun x => x.1.Ok)
  | 0, acc, hm, hl, ho => by
    refine Tot.succ ?_
    simp only [e201L60275]
    refine Tot.ite (fun h => ?_) fun _ => ?_
    · have := of_decide_eq_true h
      omega
    · exact Tot.bind (P := fun r => r.1.Ok) ((ev_Many p1 acc h1 ho (by omega)).tot (subT_ok p1 acc h1 ho)) fun r h => (tot_got _ r.1 r.2 h).bind fun x hx => Tot.ret hx
  | m + 1, acc, hm, hl, ho => by
    refine Tot.succ ?_
    simp only [e201L60275]
    refine Tot.ite (fun _ => ?_) fun h => ?_
    · obtain ⟨x, hx, hm'⟩ := gidx_lt (l := r6.1) (i := ((m + 1 : Nat) : Int) - 1) (by omega) (by omega)
      refine Tot.pure hx (Tot.pure (gapp_ok (by simp <;> omega)) ?_)
      rw [w64_id (by omega) (by omega), show ((m + 1 : Nat) : Int) - 1 - 1 = (m : Int) - 1 by omega]
      exact tot_benS p1 r6 h1 h6 m _ (by omega) (by simp <;> omega) (ho.app (OkA.one (h6 x hm')))
    · have := of_decide_eq_false h
      omega
theorem tot_benV (e : Int) (p1 : Tm) (p2 : Int) (p3 : List Tm) (h1 : p1.Ok) (h2 : p2 ≤ 1073741824) (h3 : OkA p3) (hl : p3.length ≤ 1073741824) : ∀ (m : Nat) (v : Int) (acc : List Tm), 0 ≤ v → p2 - v ≤ m → v ≤ p2 ∨ v ≤ 0 → (acc.length : Int) ≤ v → OkA acc → Tot (fun q => e201L7793 q e p1 p2 p3 v acc) (fun x => x.1.Ok) := by
  have fin : ∀ (v : Int) (acc : List Tm), acc.length ≤ 1073741824 → OkA acc → Tot (fun q => e139 q e p3 p2 >>= fun r6 => e201L60275 q p1 r6 (w64 ((List.length r6.1 : Int) - 1)) acc) (fun x => x.1.Ok) := fun v acc ha ho =>
    (tot_ups e p3 p2 hl h3).bind fun r6 h6 => by
      rw [w64_id (by omega) (by omega)]
      exact tot_benS p1 r6 h1 h6.1 r6.1.length acc (Nat.le_refl _) (by omega) ho
  intro m
  induction m with
  | zero =>
    intro v acc h0 hm hv ha ho
    refine Tot.succ ?_
    simp only [e201L7793]
    refine Tot.ite (fun h => ?_) fun _ => fin v acc (by omega) ho
    have := of_decide_eq_true h
    omega
  | succ m ih =>
    intro v acc h0 hm hv ha ho
    refine Tot.succ ?_
    simp only [e201L7793]
    refine Tot.ite (fun h => ?_) fun _ => fin v acc (by omega) ho
    have := of_decide_eq_true h
    refine Tot.bind (P := fun r => r.Ok) ((ev_Var v).tot (leaf_ok _ _)) fun r h => Tot.pure (gapp_ok (by simp <;> omega)) ?_
    rw [w64_id (by omega) (by omega)]
    exact ih (v + 1) _ (by omega) (by omega) (by omega) (by simp <;> omega) (ho.app (OkA.one h))
theorem tot_beneath (e : Int) (p1 : Tm) (p2 : Int) (p3 : List Tm) (h1 : p1.Ok) (h2 : p2 ≤ 1073741824) (h3 : OkA p3) (hl : p3.length ≤ 1073741824) : Tot (fun q => e201 q e p1 p2 p3) (fun x => x.1.Ok) := by
  simp only [e201]
  exact tot_benV e p1 p2 p3 h1 h2 h3 hl p2.toNat 0 [] (by omega) (by omega) (by omega) (by simp) OkA.nil
theorem tot_beneathsL (p2 : List Tm) (h2 : OkA p2) (hl2 : p2.length ≤ 1073741824) : ∀ (r l acc : List Tm) (v : Nat) (e : Int), l.drop v = r → l.length ≤ 1073741824 → OkA l → OkA acc → acc.length ≤ v → Tot (fun q => e141L28628 q l p2 (v : Int) acc e) (fun x => OkA x.1)
  | [], l, acc, v, e, hd, hl, ho, ha, hv => by
    refine Tot.succ ?_
    simp only [e141L28628]
    refine Tot.ite (fun h => ?_) fun _ => Tot.ret ha
    rw [drop_nil hd] at h; cases h
  | t :: r, l, acc, v, e, hd, hl, ho, ha, hv => by
    have hlt := drop_lt hd
    refine Tot.succ ?_
    simp only [e141L28628]
    refine Tot.ite (fun _ => ?_) fun h => ?_
    · refine Tot.pure (drop_idx hd) ((tot_beneath e t v p2 (ho.at hd) (by omega) h2 hl2).bind fun r4 h4 => ?_)
      refine Tot.pure (gapp_ok (by simp <;> omega)) ?_
      rw [w64_nat v (by omega)]
      exact tot_beneathsL p2 h2 hl2 r l _ (v + 1) r4.2 (drop_next hd) hl ho (ha.app (OkA.one h4)) (by simp <;> omega)
    · rw [drop_dec hd] at h; cases h
theorem tot_beneaths (e : Int) (l p2 : List Tm) (h2 : OkA p2) (hl2 : p2.length ≤ 1073741824) (hl : l.length ≤ 1073741824) (ho : OkA l) : Tot (fun q => e141 q e l p2) (fun x => OkA x.1) := by
  simp only [e141]
  exact tot_beneathsL p2 h2 hl2 l l [] 0 e rfl hl ho OkA.nil (by simp)
theorem tm_eta_ok {t : Tm} (h : t.Ok) : (Tm.mk t.k t.n t.sub).Ok := by rw [tm_eta]; exact h
theorem tot_lamL (l : List Tm) (hl : l.length ≤ 24) (ho : OkA l) : ∀ (m v : Nat) (t : Tm), v + m = l.length → t.Ok → Tot (fun q => e207va27164L52327 q l (v : Int) t.k t.n t.sub) (fun x => x.1.Ok) := by
  intro m
  induction m with
  | zero =>
    intro v t hm ht
    refine Tot.succ ?_
    simp only [e207va27164L52327, tm_eta]
    refine Tot.ite (fun h => ?_) fun _ => ?_
    · have := of_decide_eq_true h
      omega
    · refine Tot.bind (P := fun _ => True) ((ev_Shaped t ht).tot trivial) fun r _ => Tot.ite (fun _ => ?_) fun _ => Tot.ret (leaf_ok 0 0)
      exact Tot.bind (P := fun x => x.Ok) ((ev_Copy t ht).tot (copT_ok ht)) fun x hx => Tot.ret hx
  | succ m ih =>
    intro v t hm ht
    refine Tot.succ ?_
    simp only [e207va27164L52327, tm_eta]
    refine Tot.ite (fun _ => ?_) fun h => ?_
    · rw [w64_id (x := (l.length : Int) - 1) (by omega) (by omega), w64_id (x := (l.length : Int) - 1 - v) (by omega) (by omega)]
      obtain ⟨x, hx, hm'⟩ := gidx_lt (l := l) (i := (l.length : Int) - 1 - v) (by omega) (by omega)
      refine Tot.pure hx (Tot.bind (P := fun r => r.Ok) (Evt.tot (r := Tm.mk 4 0 [x, t]) (Evt.mk fun _ => rfl) (ok_mk2 (ho x hm') ht)) fun r hr => ?_)
      rw [w64_nat v (by omega)]
      exact ih (v + 1) r (by omega) hr
    · have := of_decide_eq_false h
      omega
theorem tot_arL (t : Tm) (ht : t.Ok) : ∀ (r l : List Tm) (v : Nat), l.drop v = r → l.length ≤ 24 → OkA l → Tot (fun q => e207va27164L9593 q l t (v : Int)) (fun x => x.1.Ok)
  | [], l, v, hd, hl, ho => by
    refine Tot.succ ?_
    simp only [e207va27164L9593]
    refine Tot.ite (fun h => ?_) fun _ => ?_
    · rw [drop_nil hd] at h; cases h
    · exact Tot.bind (P := fun _ => True) ((ev_Shaped t ht).tot trivial) fun r _ => Tot.ite (fun _ => tot_lamL l hl ho l.length 0 t (by omega) ht) fun _ => Tot.ret (leaf_ok 0 0)
  | x :: r, l, v, hd, hl, ho => by
    have hlt := drop_lt hd
    refine Tot.succ ?_
    simp only [e207va27164L9593]
    refine Tot.ite (fun _ => ?_) fun h => ?_
    · refine Tot.pure (drop_idx hd) (Tot.bind (P := fun _ => True) ((ev_Shaped x (ho.at hd)).tot trivial) fun _ _ => Tot.ite (fun _ => ?_) fun _ => Tot.ret (leaf_ok 0 0))
      rw [w64_nat v (by omega)]
      exact tot_arL t ht r l (v + 1) (drop_next hd) hl ho
    · rw [drop_dec hd] at h; cases h
theorem tot_Lams (l : List Tm) (t : Tm) (ho : OkA l) (ht : t.Ok) : Tot (fun q => e295 q l t) (fun x => x.1.Ok) := by
  simp only [e295]
  refine Tot.bind (P := fun x => x.1.Ok) ?_ fun x hx => Tot.ret hx
  simp only [e207va27164]
  refine Tot.ite (fun _ => Tot.ret (leaf_ok 0 0)) fun h => ?_
  have := of_decide_eq_false h
  exact tot_arL t ht l l 0 rfl (by omega) ho
/-- a record of what is recursive, that may be worked with -/
def RecOk (r : Rec') : Prop := OkA r.around ∧ OkA r.at' ∧ r.around.length ≤ 1048576 ∧ r.at'.length ≤ 1048576
theorem tot_hypL (p3 : List Tm) (p4 : Rec') (p5 : Tm) (h3 : OkA p3) (hl3 : p3.length ≤ 1073741824) (h4 : RecOk p4) (h5 : p5.Ok) : ∀ (r : List Tm) (v : Nat) (e : Int) (t : Tm), p4.at'.drop v = r → t.Ok → Tot (fun q => e268L25768 q p3 p4 p5 (v : Int) e t.k t.n t.sub) (fun x => x.1.Ok)
  | [], v, e, t, hd, ht => by
    refine Tot.succ ?_
    simp only [e268L25768, tm_eta]
    refine Tot.ite (fun h => ?_) fun _ => ?_
    · rw [drop_nil hd] at h; cases h
    · refine (tot_up e p5 _ h5).bind fun r12 h12 => (tot_Vars _).bind fun r14 h14 => ?_
      refine Tot.bind (P := fun x => x.Ok) ((ev_Apply r12.1 r14 (by omega)).tot (apT_ok _ _ h12 h14.1)) fun r16 h16 => ?_
      refine Tot.bind (P := fun x => x.Ok) ((ev_App t r16).tot (ok_mk2 ht h16)) fun r18 h18 => ?_
      have := h4.2.2.1
      refine (tot_beneaths r12.2 p4.around p3 h3 hl3 (by omega) h4.1).bind fun r20 h20 => (tot_Lams r20.1 r18 h20 h18).bind fun r22 h22 => (tot_got _ _ _ h22).bind fun r24 h24 => Tot.ret h24
  | x :: r, v, e, t, hd, ht => by
    have hlt := drop_lt hd
    have := h4.2.2.1
    have := h4.2.2.2
    refine Tot.succ ?_
    simp only [e268L25768, tm_eta]
    refine Tot.ite (fun _ => ?_) fun h => ?_
    · refine Tot.pure (drop_idx hd) ((tot_beneath e x _ p3 (h4.2.1.at hd) (by omega) h3 hl3).bind fun r8 h8 => ?_)
      refine Tot.bind (P := fun x => x.Ok) ((ev_App t r8.1).tot (ok_mk2 ht h8)) fun r10 h10 => ?_
      rw [w64_nat v (by omega)]
      exact tot_hypL p3 p4 p5 h3 hl3 h4 h5 r (v + 1) _ _ (drop_next hd) h10
    · rw [drop_dec hd] at h; cases h
theorem tot_hypothesis (e : Int) (p1 : Tm) (p2 p3 : List Tm) (p4 : Rec') (p5 : Tm) (h1 : p1.Ok) (h2 : OkA p2) (hl2 : p2.length ≤ 1073741824) (h3 : OkA p3) (hl3 : p3.length ≤ 1073741824) (h4 : RecOk p4) (h5 : p5.Ok) : Tot (fun q => e268 q e p1 p2 p3 p4 p5) (fun x => x.1.Ok) := by
  simp only [e268]
  refine (tot_ups e p2 _ hl2 h2).bind fun r1 hr1 => ?_
  refine Tot.bind (P := fun x => x.Ok) ((ev_Apply p1 r1.1 (by omega)).tot (apT_ok _ _ h1 hr1.1)) fun r3 hr3 => ?_
  exact tot_hypL p3 p4 p5 h3 hl3 h4 h5 p4.at' 0 r1.2 r3 rfl hr3
theorem tot_done (e : Int) (t : Tm) (h : t.Ok) : Tot (fun q => e124 q e t) (fun x => x.1.Ok) := by
  simp only [e124]
  refine Tot.ite (fun _ => ?_) fun _ => Tot.ite (fun _ => Tot.ret (leaf_ok 0 0)) fun _ => Tot.ret h
  exact Tot.bind (P := fun _ => True) ((ev_Shaped t h).tot trivial) fun _ _ => Tot.ite (fun _ => Tot.ite (fun _ => Tot.ret (leaf_ok 0 0)) fun _ => Tot.ret h) fun _ => Tot.ret (leaf_ok 0 0)
theorem ev_iIs (l : List Ent) (n kind : Int) : Evt (fun q => e75 q l n kind) (isT l n kind) := by
  simp only [e75]
  unfold isT
  by_cases h : 0 ≤ n
  · refine Evt.ifT (decide_eq_true h) ?_
    by_cases k : n < l.length
    · exact Evt.ifT (decide_eq_true k) (Evt.pure (gidx_ent h k) (Evt.ret.eq (by simp [h, k])))
    · exact Evt.ifF (decide_eq_false k) (Evt.ret.eq (by simp [k]))
  · exact Evt.ifF (decide_eq_false h) (Evt.ret.eq (by simp [h]))
theorem ev_iShapedL : ∀ (r l : List Tm) (v : Nat), l.drop v = r → l.length ≤ 1073741824 → OkA l → Evt (fun q => e76L18873 q l (v : Int)) (r.all shapedT)
  | [], l, v, hd, hl, ho => by
    refine Evt.succ ?_
    simp only [e76L18873]
    exact Evt.ifF (drop_nil hd) Evt.ret
  | x :: r, l, v, hd, hl, ho => by
    have hlt := drop_lt hd
    refine Evt.succ ?_
    simp only [e76L18873]
    refine Evt.ifT (drop_dec hd) (Evt.pure (drop_idx hd) ((ev_Shaped x (ho.at hd)).bind ?_))
    by_cases h : shapedT x = true
    · refine Evt.ifT h ?_
      rw [w64_nat v (by omega)]
      exact (ev_iShapedL r l (v + 1) (drop_next hd) hl ho).eq (by simp [h])
    · exact Evt.ifF (by simpa using h) (Evt.ret.eq (by simp [h]))
theorem ev_iShaped (l : List Tm) (hl : l.length ≤ 1073741824) (ho : OkA l) : Evt (fun q => e76 q l) (l.all shapedT) := by
  simp only [e76]
  exact ev_iShapedL l l 0 rfl hl ho
end Go.Proofs.YteiddempdecleaaGreat

namespace Go.Proofs.YteiddempdecleaaGreat
open Go Go.Ab

/- scholium/term.Elim -/
def e269 (qq : Nat) (p0 : Int) (p1 : Int) : Option (Tm) :=
  (e191 qq p1) >>= fun r1 =>
  (e206 qq 7 p0 [r1]) >>= fun r3 =>
  some r3
theorem q269 : Tryz.prog.funcs[269]? = some Tryz.f269 ∧ Tryz.f269.body.isNone = false := ⟨Tryz.func269, by kernel_rfl⟩
theorem k269 {p0 : Int} {p1 : Int} {r : Tm} (h : CTri Tryz.prog 269 [] [ai p0, ai p1] (tmA r) [] 0) : CT Tryz.prog 269 [] [ai p0, ai p1] (tmA r) [] 0 := ⟨h, ⟨trivial, trivial, trivial⟩, forall_nil, ⟨trivial, trivial, dT _, trivial⟩, forall_nil⟩
theorem c269 {qq : Nat} {p0 : Int} {p1 : Int} {r : Tm} (h : e269 qq p0 p1 = some r) : CT Tryz.prog 269 [] [ai p0, ai p1] (tmA r) [] 0 := by
  unfold e269 at h
  obtain ⟨r1, h2, h⟩ := obind h
  obtain ⟨r3, h4, h⟩ := obind h
  obtain rfl := sj h
  exact k269 (tF q269 1 [] (oD (dT r3.sub) <| oC 0 [] (c206 h4) <| oS 0 (obLitR tm_eq [r1]) <| oC 0 [] (c191 h2) o0) (by kernel_rfl))

end Go.Proofs.YteiddempdecleaaGreat

namespace Go.Proofs.YteiddempdecleaaGreat
open Go Go.Ab

/- (*scholium/iota.Rules).Step -/
def e226L51763 : Nat → (List Ent) → (List Con') → Int → Int → (List Tm) → (List Tm) → Con' → Int → Int → Int → Int → (List Tm) →  Option (Tm × Int)
  | 0, _, _, _, _, _, _, _, _, _, _, _, _ => none
  | qq + 1, rl, parts, p1, p2, p4, p5, x12, v120, vb2_0, vb3_0, vb3_1, vb3_2 =>
    if decide (v120 < (List.length x12.recs : Int)) = true then
      (gidx x12.recs v120) >>= fun x29 =>
      if x29.is = true then
        (gidx rl p1) >>= fun x32 =>
        (gsl p4 0 x32.pars) >>= fun x34 =>
        (gapp 40 ([] : List Tm) x34) >>= fun l36 =>
        (gsl p5 0 v120) >>= fun x39 =>
        (gapp 40 l36 x39) >>= fun l41 =>
        (e269 qq p1 p2) >>= fun r44 =>
        (gidx p5 v120) >>= fun x46 =>
        (e268 qq vb2_0 r44 p4 l41 x29 x46) >>= fun r48 =>
        (e146 qq (Tm.mk vb3_0 vb3_1 vb3_2) r48.1) >>= fun r50 =>
        e226L51763 qq rl parts p1 p2 p4 p5 x12 (w64 (v120 + 1)) r48.2 r50.k r50.n r50.sub
      else
        e226L51763 qq rl parts p1 p2 p4 p5 x12 (w64 (v120 + 1)) vb2_0 vb3_0 vb3_1 vb3_2
    else
      (e124 qq vb2_0 (Tm.mk vb3_0 vb3_1 vb3_2)) >>= fun r52 =>
      some (r52.1, r52.2.1)
def e226 (qq : Nat) (rl : List Ent) (parts : List Con') (p1 : Int) (p2 : Int) (p3 : Int) (p4 : List Tm) (p5 : List Tm) : Option (Tm × Int) :=
  (e75 qq rl p1 1) >>= fun r1 =>
  if r1 = true then
    if decide (p2 < 0) = true then
      some ((Tm.mk 0 0 []), 16)
    else
      if decide (p2 > 7) = true then
        some ((Tm.mk 0 0 []), 16)
      else
        (e75 qq rl p3 2) >>= fun r6 =>
        if r6 = true then
          (gidx rl p3) >>= fun x9 =>
          if (x9.fam != p1) = true then
            some ((Tm.mk 0 0 []), 16)
          else
            (gidx parts p3) >>= fun x12 =>
            (gidx rl p1) >>= fun x14 =>
            if ((List.length p4 : Int) != (w64 ((w64 (x14.pars + 1)) + (List.length x14.cons : Int)))) = true then
              some ((Tm.mk 0 0 []), 5)
            else
              if ((List.length p5 : Int) != (List.length x12.args : Int)) = true then
                some ((Tm.mk 0 0 []), 5)
              else
                (e76 qq p4) >>= fun r18 =>
                if r18 = true then
                  (e76 qq p5) >>= fun r21 =>
                  if r21 = true then
                    (gidx p4 (w64 ((w64 (x14.pars + 1)) + x9.place))) >>= fun x24 =>
                    (e142 qq x24 p5) >>= fun r26 =>
                    e226L51763 qq rl parts p1 p2 p4 p5 x12 0 0 r26.k r26.n r26.sub
                  else
                    some ((Tm.mk 0 0 []), 5)
                else
                  some ((Tm.mk 0 0 []), 5)
        else
          some ((Tm.mk 0 0 []), 16)
  else
    some ((Tm.mk 0 0 []), 16)
def g226L51763E0 (j : Nat → Value) (rl : List Ent) (parts : List Con') (p1 : Int) (p2 : Int) (p4 : List Tm) (p5 : List Tm) (x12 : Con') (v120 : Int) (vb2_0 : Int) (vb3_0 : Int) (vb3_1 : Int) (vb3_2 : List Tm) : List AV := sp j 160 0 [(1, ai p1), (2, ai p2), (4, .sl (flat tmCells p4) (List.length p4) .no), (5, .sl (flat tmCells p5) (List.length p5) .no), (12, .mp 1 0), (14, .sl (flat entL rl) (List.length rl) .no), (16, .mp 2 0), (17, .mp 3 0), (118, .sl (flat recL x12.recs) (List.length x12.recs) .no), (119, ai (List.length x12.recs : Int)), (120, ai v120)]
def g226L51763S0 (rl : List Ent) (parts : List Con') (p1 : Int) (p2 : Int) (p4 : List Tm) (p5 : List Tm) (x12 : Con') (v120 : Int) (vb2_0 : Int) (vb3_0 : Int) (vb3_1 : Int) (vb3_2 : List Tm) : LSt := ⟨[(0, .cells [.sl (flat entL rl) (List.length rl) .no, .sl (flat conL parts) (List.length parts) .no]), (1, .cells [ai 0, ai 0, .sl (flat tmCells ([] : List Tm)) (List.length ([] : List Tm)) .nl]), (2, .cells [ai vb2_0]), (3, .cells [ai vb3_0, ai vb3_1, .sl (flat tmCells vb3_2) (List.length vb3_2) .no])], 4, [], 0, []⟩
theorem q226 : Tryz.prog.funcs[226]? = some Tryz.f226 ∧ Tryz.f226.body.isNone = false := ⟨Tryz.func226, by kernel_rfl⟩
theorem k226 {rl : List Ent} {parts : List Con'} {p1 : Int} {p2 : Int} {p3 : Int} {p4 : List Tm} {p5 : List Tm} {r : Tm × Int} (h : CTri Tryz.prog 226 [.cells [.sl (flat entL rl) (List.length rl) .no, .sl (flat conL parts) (List.length parts) .no]] [.mp 0 0, ai p1, ai p2, ai p3, .sl (flat tmCells p4) (List.length p4) .no, .sl (flat tmCells p5) (List.length p5) .no] (.tup [tmA r.1, ai r.2]) [.cells [.sl (flat entL rl) (List.length rl) .no, .sl (flat conL parts) (List.length parts) .no]] 0) : CT Tryz.prog 226 [.cells [.sl (flat entL rl) (List.length rl) .no, .sl (flat conL parts) (List.length parts) .no]] [.mp 0 0, ai p1, ai p2, ai p3, .sl (flat tmCells p4) (List.length p4) .no, .sl (flat tmCells p5) (List.length p5) .no] (.tup [tmA r.1, ai r.2]) [.cells [.sl (flat entL rl) (List.length rl) .no, .sl (flat conL parts) (List.length parts) .no]] 0 := ⟨h, ⟨(show 0 < 1 by decide), trivial, trivial, trivial, ⟨trivial, dT _⟩, ⟨trivial, dT _⟩, trivial⟩, (forall_cons ⟨⟨trivial, dE _⟩, ⟨trivial, dC _⟩, trivial⟩ forall_nil), ⟨⟨trivial, trivial, dT _, trivial⟩, trivial, trivial⟩, (forall_cons ⟨dE _, dC _, trivial⟩ forall_nil)⟩
theorem l226L51763 : ∀ qq : Nat, (∀ (rl : List Ent) (parts : List Con') (p1 : Int) (p2 : Int) (p4 : List Tm) (p5 : List Tm) (x12 : Con') (v120 : Int) (vb2_0 : Int) (vb3_0 : Int) (vb3_1 : Int) (vb3_2 : List Tm) (r : Tm × Int), e226L51763 qq rl parts p1 p2 p4 p5 x12 v120 vb2_0 vb3_0 vb3_1 vb3_2 = some r → (∀ j, Dl Tryz.prog 1 (inn (inn (rgt (lft (rgt (rgt (rgt (rgt (rgt (rgt (rgt (rgt (bod Tryz.f226))))))))))))) (g226L51763E0 j rl parts p1 p2 p4 p5 x12 v120 vb2_0 vb3_0 vb3_1 vb3_2) (g226L51763S0 rl parts p1 p2 p4 p5 x12 v120 vb2_0 vb3_0 vb3_1 vb3_2) (frameQ Tryz.prog 1 (FinQ Tryz.prog 1 Tryz.f226 (.tup [tmA r.1, ai r.2]) [.cells [.sl (flat entL rl) (List.length rl) .no, .sl (flat conL parts) (List.length parts) .no]] 0) [.blk 0, .seq (rgt (rgt (rgt (rgt (rgt (rgt (rgt (rgt (rgt (bod Tryz.f226))))))))))]))) := by
  intro qq
  induction qq with
  | zero =>
    exact fun _ _ _ _ _ _ _ _ _ _ _ _ _ h => nn h
  | succ qq ih =>
    intro rl parts p1 p2 p4 p5 x12 v120 vb2_0 vb3_0 vb3_1 vb3_2 r h
    rw [e226L51763] at h
    rcases spl h with ⟨h28, h⟩ | ⟨h28, h⟩
    · obtain ⟨x29, h30, h⟩ := obind h
      have k := oA 0 (ix230 (o := .no) h30) <| oB 0 h28 o0
      rcases spl h with ⟨h31, h⟩ | ⟨h31, h⟩
      · obtain ⟨x32, h33, h⟩ := obind h
        obtain ⟨x34, h35, h⟩ := obind h
        obtain ⟨l36, h37, h⟩ := obind h
        have k := oA 1 (slTo23 h35) <| oA 1 (ix22 (o := .no) h33) <| oB 2 h31 k
        by_cases h38 : List.length x34 = 0
        · obtain ⟨x39, h40, h⟩ := obind h
          obtain ⟨l41, h42, h⟩ := obind h
          have k := oA 0 (slTo23 h40) <| oP 0 (apN23 h37 h38) k
          by_cases h43 : List.length x39 = 0
          · obtain ⟨r44, h45, h⟩ := obind h
            obtain ⟨x46, h47, h⟩ := obind h
            obtain ⟨r48, h49, h⟩ := obind h
            obtain ⟨r50, h51, h⟩ := obind h
            exact fun j => lH 2 [] [0, 1, 2, 3] [] [1, 2, 4, 5, 12, 14, 16, 17, 118, 119, 120] (oD (dR x12.recs) <| oD (dE rl) <| oD (dT p5) <| oD (dT p4) <| oD (dT r50.sub) <| oD (dT ([] : List Tm)) <| oD (dC parts) <| oD (dE rl) <| oC 0 [] (c146 h51) <| oC 1 [2] (c268 h49) <| oA 1 (ix23 (o := .no) h47) <| oC 1 [] (c269 h45) <| oP 0 (apN23 h42 h43) k) (ih _ _ _ _ _ _ _ _ _ _ _ _ _ h) (fun j => by kernel_rfl)
          · obtain ⟨r44, h45, h⟩ := obind h
            obtain ⟨x46, h47, h⟩ := obind h
            obtain ⟨r48, h49, h⟩ := obind h
            obtain ⟨r50, h51, h⟩ := obind h
            exact fun j => lH 2 [] [0, 1, 2, 3] [] [1, 2, 4, 5, 12, 14, 16, 17, 118, 119, 120] (oD (dR x12.recs) <| oD (dE rl) <| oD (dT p5) <| oD (dT p4) <| oD (dT r50.sub) <| oD (dT ([] : List Tm)) <| oD (dC parts) <| oD (dE rl) <| oC 0 [] (c146 h51) <| oC 1 [2] (c268 h49) <| oA 1 (ix23 (o := .no) h47) <| oC 1 [] (c269 h45) <| oP 0 (apS23 h42 h43) k) (ih _ _ _ _ _ _ _ _ _ _ _ _ _ h) (fun j => by kernel_rfl)
        · obtain ⟨x39, h40, h⟩ := obind h
          obtain ⟨l41, h42, h⟩ := obind h
          have k := oA 0 (slTo23 h40) <| oP 0 (apS23 h37 h38) k
          by_cases h43 : List.length x39 = 0
          · obtain ⟨r44, h45, h⟩ := obind h
            obtain ⟨x46, h47, h⟩ := obind h
            obtain ⟨r48, h49, h⟩ := obind h
            obtain ⟨r50, h51, h⟩ := obind h
            exact fun j => lH 2 [] [0, 1, 2, 3] [] [1, 2, 4, 5, 12, 14, 16, 17, 118, 119, 120] (oD (dR x12.recs) <| oD (dE rl) <| oD (dT p5) <| oD (dT p4) <| oD (dT r50.sub) <| oD (dT ([] : List Tm)) <| oD (dC parts) <| oD (dE rl) <| oC 0 [] (c146 h51) <| oC 1 [2] (c268 h49) <| oA 1 (ix23 (o := .no) h47) <| oC 1 [] (c269 h45) <| oP 0 (apN23 h42 h43) k) (ih _ _ _ _ _ _ _ _ _ _ _ _ _ h) (fun j => by kernel_rfl)
          · obtain ⟨r44, h45, h⟩ := obind h
            obtain ⟨x46, h47, h⟩ := obind h
            obtain ⟨r48, h49, h⟩ := obind h
            obtain ⟨r50, h51, h⟩ := obind h
            exact fun j => lH 2 [] [0, 1, 2, 3] [] [1, 2, 4, 5, 12, 14, 16, 17, 118, 119, 120] (oD (dR x12.recs) <| oD (dE rl) <| oD (dT p5) <| oD (dT p4) <| oD (dT r50.sub) <| oD (dT ([] : List Tm)) <| oD (dC parts) <| oD (dE rl) <| oC 0 [] (c146 h51) <| oC 1 [2] (c268 h49) <| oA 1 (ix23 (o := .no) h47) <| oC 1 [] (c269 h45) <| oP 0 (apS23 h42 h43) k) (ih _ _ _ _ _ _ _ _ _ _ _ _ _ h) (fun j => by kernel_rfl)
      · exact fun j => lH 1 [] [0, 1, 2, 3] [] [1, 2, 4, 5, 12, 14, 16, 17, 118, 119, 120] (oD (dR x12.recs) <| oD (dE rl) <| oD (dT p5) <| oD (dT p4) <| oD (dT vb3_2) <| oD (dT ([] : List Tm)) <| oD (dC parts) <| oD (dE rl) <| oB 2 h31 k) (ih _ _ _ _ _ _ _ _ _ _ _ _ _ h) (fun j => by kernel_rfl)
    · obtain ⟨r52, h53, h⟩ := obind h
      obtain rfl := sj h
      exact fun j => lF 3 [0] (oD (dT r52.1.sub) <| oD (dC parts) <| oD (dE rl) <| oC 1 [2] (c124 h53) <| oB 0 h28 o0) (by kernel_rfl)
theorem c226 {qq : Nat} {rl : List Ent} {parts : List Con'} {p1 : Int} {p2 : Int} {p3 : Int} {p4 : List Tm} {p5 : List Tm} {r : Tm × Int} (h : e226 qq rl parts p1 p2 p3 p4 p5 = some r) : CT Tryz.prog 226 [.cells [.sl (flat entL rl) (List.length rl) .no, .sl (flat conL parts) (List.length parts) .no]] [.mp 0 0, ai p1, ai p2, ai p3, .sl (flat tmCells p4) (List.length p4) .no, .sl (flat tmCells p5) (List.length p5) .no] (.tup [tmA r.1, ai r.2]) [.cells [.sl (flat entL rl) (List.length rl) .no, .sl (flat conL parts) (List.length parts) .no]] 0 := by
  unfold e226 at h
  obtain ⟨r1, h2, h⟩ := obind h
  rcases spl h with ⟨h3, h⟩ | ⟨h3, h⟩
  · have k := oK 2 [] h3 (c75 h2) o0
    rcases spl h with ⟨h4, h⟩ | ⟨h4, h⟩
    · obtain rfl := sj h
      exact k226 (tF q226 1 [0] (oD (dT ([] : List Tm)) <| oD (dC parts) <| oD (dE rl) <| oB 1 h4 k) (by kernel_rfl))
    · have k := oB 1 h4 k
      rcases spl h with ⟨h5, h⟩ | ⟨h5, h⟩
      · obtain rfl := sj h
        exact k226 (tF q226 1 [0] (oD (dT ([] : List Tm)) <| oD (dC parts) <| oD (dE rl) <| oB 0 h5 k) (by kernel_rfl))
      · obtain ⟨r6, h7, h⟩ := obind h
        have k := oB 0 h5 k
        rcases spl h with ⟨h8, h⟩ | ⟨h8, h⟩
        · obtain ⟨x9, h10, h⟩ := obind h
          have k := oA 1 (ix22 (o := .no) h10) <| oK 0 [] h8 (c75 h7) k
          rcases spl h with ⟨h11, h⟩ | ⟨h11, h⟩
          · obtain rfl := sj h
            exact k226 (tF q226 1 [0] (oD (dT ([] : List Tm)) <| oD (dC parts) <| oD (dE rl) <| oB 1 h11 k) (by kernel_rfl))
          · obtain ⟨x12, h13, h⟩ := obind h
            obtain ⟨x14, h15, h⟩ := obind h
            have k := oA 2 (ix22 (o := .no) h15) <| oA 3 (ix22 (o := .no) h15) <| oA 1 (ix120 (o := .no) h13) <| oB 1 h11 k
            rcases spl h with ⟨h16, h⟩ | ⟨h16, h⟩
            · obtain rfl := sj h
              exact k226 (tF q226 1 [0] (oD (dT ([] : List Tm)) <| oD (dC parts) <| oD (dE rl) <| oB 3 h16 k) (by kernel_rfl))
            · have k := oB 3 h16 k
              rcases spl h with ⟨h17, h⟩ | ⟨h17, h⟩
              · obtain rfl := sj h
                exact k226 (tF q226 1 [0] (oD (dT ([] : List Tm)) <| oD (dC parts) <| oD (dE rl) <| oB 3 h17 k) (by kernel_rfl))
              · obtain ⟨r18, h19, h⟩ := obind h
                have k := oB 3 h17 k
                rcases spl h with ⟨h20, h⟩ | ⟨h20, h⟩
                · obtain ⟨r21, h22, h⟩ := obind h
                  have k := oK 0 [] h20 (c76 h19) k
                  rcases spl h with ⟨h23, h⟩ | ⟨h23, h⟩
                  · obtain ⟨x24, h25, h⟩ := obind h
                    obtain ⟨r26, h27, h⟩ := obind h
                    exact k226 (tH q226 3 [] [0, 1, 3, 4] [] [1, 2, 4, 5, 12, 14, 16, 17, 118, 119, 120] (oD (dR x12.recs) <| oD (dE rl) <| oD (dT p5) <| oD (dT p4) <| oD (dT r26.sub) <| oD (dT ([] : List Tm)) <| oD (dC parts) <| oD (dE rl) <| oC 1 [] (c142 h27) <| oA 2 (ix23 (o := .no) h25) <| oA 2 (ix22 (o := .no) h10) <| oA 1 (ix22 (o := .no) h15) <| oK 1 [] h23 (c76 h22) k) (l226L51763 _ _ _ _ _ _ _ _ _ _ _ _ _ _ h) (fun j => by kernel_rfl))
                  · obtain rfl := sj h
                    exact k226 (tF q226 2 [0] (oD (dT ([] : List Tm)) <| oD (dC parts) <| oD (dE rl) <| oK 1 [] h23 (c76 h22) k) (by kernel_rfl))
                · obtain rfl := sj h
                  exact k226 (tF q226 2 [0] (oD (dT ([] : List Tm)) <| oD (dC parts) <| oD (dE rl) <| oK 0 [] h20 (c76 h19) k) (by kernel_rfl))
        · obtain rfl := sj h
          exact k226 (tF q226 2 [0] (oD (dT ([] : List Tm)) <| oD (dC parts) <| oD (dE rl) <| oK 0 [] h8 (c75 h7) k) (by kernel_rfl))
  · obtain rfl := sj h
    exact k226 (tF q226 2 [0] (oD (dT ([] : List Tm)) <| oD (dC parts) <| oD (dE rl) <| oK 2 [] h3 (c75 h2) o0) (by kernel_rfl))

end Go.Proofs.YteiddempdecleaaGreat

namespace Go.Proofs.YteiddempdecleaaGreat
open Go Go.Ab

/- (*scholium/iota.Rules).Field -/
def e24 (qq : Nat) (rl : List Ent) (parts : List Con') (p1 : Int) (p2 : List Tm) : Option (Tm × Int) :=
  (e75 qq rl p1 4) >>= fun r1 =>
  if r1 = true then
    (gidx rl p1) >>= fun x4 =>
    (gidx rl x4.fam) >>= fun x6 =>
    if ((List.length p2 : Int) != (List.length x6.fields : Int)) = true then
      some ((Tm.mk 0 0 []), 5)
    else
      (e76 qq p2) >>= fun r9 =>
      if r9 = true then
        (gidx p2 x4.place) >>= fun x12 =>
        some (x12, 0)
      else
        some ((Tm.mk 0 0 []), 5)
  else
    some ((Tm.mk 0 0 []), 16)
theorem q24 : Tryz.prog.funcs[24]? = some Tryz.f24 ∧ Tryz.f24.body.isNone = false := ⟨Tryz.func24, by kernel_rfl⟩
theorem k24 {rl : List Ent} {parts : List Con'} {p1 : Int} {p2 : List Tm} {r : Tm × Int} (h : CTri Tryz.prog 24 [.cells [.sl (flat entL rl) (List.length rl) .no, .sl (flat conL parts) (List.length parts) .no]] [.mp 0 0, ai p1, .sl (flat tmCells p2) (List.length p2) .no] (.tup [tmA r.1, ai r.2]) [.cells [.sl (flat entL rl) (List.length rl) .no, .sl (flat conL parts) (List.length parts) .no]] 0) : CT Tryz.prog 24 [.cells [.sl (flat entL rl) (List.length rl) .no, .sl (flat conL parts) (List.length parts) .no]] [.mp 0 0, ai p1, .sl (flat tmCells p2) (List.length p2) .no] (.tup [tmA r.1, ai r.2]) [.cells [.sl (flat entL rl) (List.length rl) .no, .sl (flat conL parts) (List.length parts) .no]] 0 := ⟨h, ⟨(show 0 < 1 by decide), trivial, ⟨trivial, dT _⟩, trivial⟩, (forall_cons ⟨⟨trivial, dE _⟩, ⟨trivial, dC _⟩, trivial⟩ forall_nil), ⟨⟨trivial, trivial, dT _, trivial⟩, trivial, trivial⟩, (forall_cons ⟨dE _, dC _, trivial⟩ forall_nil)⟩
theorem c24 {qq : Nat} {rl : List Ent} {parts : List Con'} {p1 : Int} {p2 : List Tm} {r : Tm × Int} (h : e24 qq rl parts p1 p2 = some r) : CT Tryz.prog 24 [.cells [.sl (flat entL rl) (List.length rl) .no, .sl (flat conL parts) (List.length parts) .no]] [.mp 0 0, ai p1, .sl (flat tmCells p2) (List.length p2) .no] (.tup [tmA r.1, ai r.2]) [.cells [.sl (flat entL rl) (List.length rl) .no, .sl (flat conL parts) (List.length parts) .no]] 0 := by
  unfold e24 at h
  obtain ⟨r1, h2, h⟩ := obind h
  rcases spl h with ⟨h3, h⟩ | ⟨h3, h⟩
  · obtain ⟨x4, h5, h⟩ := obind h
    obtain ⟨x6, h7, h⟩ := obind h
    have k := oA 1 (ix22 (o := .no) h7) <| oA 2 (ix22 (o := .no) h5) <| oK 2 [] h3 (c75 h2) o0
    rcases spl h with ⟨h8, h⟩ | ⟨h8, h⟩
    · obtain rfl := sj h
      exact k24 (tF q24 1 [0] (oD (dT ([] : List Tm)) <| oD (dC parts) <| oD (dE rl) <| oB 2 h8 k) (by kernel_rfl))
    · obtain ⟨r9, h10, h⟩ := obind h
      have k := oB 2 h8 k
      rcases spl h with ⟨h11, h⟩ | ⟨h11, h⟩
      · obtain ⟨x12, h13, h⟩ := obind h
        obtain rfl := sj h
        exact k24 (tF q24 2 [0] (oD (dT x12.sub) <| oD (dC parts) <| oD (dE rl) <| oA 1 (ix23 (o := .no) h13) <| oA 1 (ix22 (o := .no) h5) <| oK 0 [] h11 (c76 h10) k) (by kernel_rfl))
      · obtain rfl := sj h
        exact k24 (tF q24 2 [0] (oD (dT ([] : List Tm)) <| oD (dC parts) <| oD (dE rl) <| oK 0 [] h11 (c76 h10) k) (by kernel_rfl))
  · obtain rfl := sj h
    exact k24 (tF q24 2 [0] (oD (dT ([] : List Tm)) <| oD (dC parts) <| oD (dE rl) <| oK 2 [] h3 (c75 h2) o0) (by kernel_rfl))

end Go.Proofs.YteiddempdecleaaGreat

namespace Go.Proofs.YteiddempdecleaaGreat
open Go Go.Ab

theorem evA_idx (l : List Ent) (i : Int) (h0 : 0 ≤ i) (h1 : i < l.length) (hk : (ent l i).kind = 2) : gidx (evA l l.length 0) i = some (partsT l i) := by
  unfold gidx
  rw [if_pos h0, evA_get l l.length 0 i.toNat (by omega), show ((0 + i.toNat : Nat) : Int) = i by omega, if_pos hk]
theorem rec_ok (l : List Ent) (t : Tm) (of b : Int) : RecOk (recT l t of b) := by
  unfold recT
  split
  · rename_i h
    have hw := wholeT_ok (t := t) (l := (wholeT t).1) (y := (wholeT t).2.1) (by rw [← h.1])
    have hs := shapedT_spec hw.2.2.2.2.1
    have hal := ar_len _ hs.2.2
    refine ⟨fun x hx => shaped_ok (hw.2.2.2.2.2 x hx), fun x hx => shaped_ok (ar_shaped hw.2.2.2.2.1 (List.mem_of_mem_drop hx)), ?_, ?_⟩
    · show (wholeT t).1.length ≤ _
      omega
    · show ((arT (wholeT t).2.1).drop _).length ≤ _
      rw [List.length_drop]; omega
  · exact ⟨OkA.nil, OkA.nil, by simp, by simp⟩
theorem recs_ok (l : List Ent) (of : Int) : ∀ (r : List Tm) (b : Int), ∀ x ∈ recsT l of r b, RecOk x
  | [], _, x, h => nomatch h
  | a :: r, b, x, h => by
    rcases List.mem_cons.1 h with h | h
    · rw [h]; exact rec_ok l a of b
    · exact recs_ok l of r (b + 1) x h
theorem all_shaped {l : List Tm} (h : l.all shapedT = true) : ∀ x ∈ l, shapedT x = true := List.all_eq_true.1 h

theorem tot_Field {N : ByteArray → Bool} (l : List Ent) (parts : List Con') (i : Int) (a : List Tm) (hE : AllE N l) (ho : OkA a) (hl : a.length ≤ 1073741824) : Tot (fun q => e24 q l parts i a) (fun x => x.1.Ok) := by
  simp only [e24]
  refine Tot.bind (P := fun b => b = isT l i 4) ((ev_iIs l i 4).tot rfl) fun b hb => Tot.ite (fun hT => ?_) fun _ => Tot.ret (leaf_ok 0 0)
  rw [hT] at hb
  have hi := isT_spec hb.symm
  have hp := (entryT_spec (hE.2 i hi.1 hi.2.1)).2.2.2.1 hi.2.2
  unfold projT at hp
  simp only [Bool.and_eq_true] at hp
  have hw := ownedT_spec hp.1
  have h6 := hw.2.2.2.2.2
  unfold ownL at h6
  rw [if_pos hi.2.2] at h6
  refine Tot.pure (gidx_ent hi.1 hi.2.1) (Tot.pure (gidx_ent hw.1 (by omega)) (Tot.ite (fun _ => Tot.ret (leaf_ok 0 0)) fun hn => ?_))
  have hn' : (a.length : Int) = (ent l (ent l i).fam).fields.length := by simpa using hn
  refine Tot.bind (P := fun _ => True) ((ev_iShaped a hl ho).tot trivial) fun _ _ => Tot.ite (fun _ => ?_) fun _ => Tot.ret (leaf_ok 0 0)
  obtain ⟨x, hx, hm⟩ := gidx_lt (l := a) (i := (ent l i).place) (by omega) (by omega)
  exact Tot.pure hx (Tot.ret (ho x hm))

theorem tot_StepL {N : ByteArray → Bool} (l : List Ent) (parts : List Con') (i p2 : Int) (p4 p5 : List Tm) (x : Con') (hE : AllE N l) (h0 : 0 ≤ i) (h1 : i < l.length) (hk : (ent l i).kind = 1) (hp : (ent l i).pars ≤ p4.length) (hl4 : p4.length ≤ 65535) (h5 : p5.length = x.recs.length) (hl5 : p5.length ≤ 65535)
    (ho4 : OkA p4) (ho5 : OkA p5) (hx : ∀ r ∈ x.recs, RecOk r) : ∀ (m v : Nat) (e : Int) (t : Tm), v + m = x.recs.length → t.Ok → Tot (fun q => e226L51763 q l parts i p2 p4 p5 x (v : Int) e t.k t.n t.sub) (fun x => x.1.Ok) := by
  have hf := familyT_spec ((entryT_spec (hE.2 i h0 h1)).2.1 hk)
  intro m
  induction m with
  | zero =>
    intro v e t hm ht
    refine Tot.succ ?_
    simp only [e226L51763, tm_eta]
    refine Tot.ite (fun h => ?_) fun _ => (tot_done e t ht).bind fun r h => Tot.ret h
    have := of_decide_eq_true h
    omega
  | succ m ih =>
    intro v e t hm ht
    refine Tot.succ ?_
    simp only [e226L51763, tm_eta]
    refine Tot.ite (fun _ => ?_) fun h => ?_
    · obtain ⟨r, hr, hrm⟩ := gidx_lt (l := x.recs) (i := (v : Int)) (by omega) (by omega)
      refine Tot.pure hr (Tot.ite (fun _ => ?_) fun _ => ?_)
      · refine Tot.pure (gidx_ent h0 h1) (Tot.pure (gsl_mid (by omega) (by omega) hp) (Tot.pure (gapp_ok (by simp <;> omega)) (Tot.pure (gsl_mid (by omega) (by omega) (by omega)) (Tot.pure (gapp_ok (by simp <;> omega)) ?_))))
        refine Tot.bind (P := fun y => y.Ok) (Evt.tot (r := Tm.mk 7 i [Tm.mk 2 p2 []]) (Evt.mk fun _ => rfl) (ok_mk1 (leaf_ok _ _))) fun r44 h44 => ?_
        obtain ⟨y, hy, hym⟩ := gidx_lt (l := p5) (i := (v : Int)) (by omega) (by omega)
        refine Tot.pure hy ?_
        refine (tot_hypothesis e r44 p4 _ r y h44 ho4 (by omega) ?_ ?_ (hx r hrm) (ho5 y hym)).bind fun r48 h48 => ?_
        · exact (OkA.nil.app ((ho4.drop _).take _)).app ((ho5.drop _).take _)
        · simp only [List.length_append, List.length_take, List.length_drop, List.length_nil]; omega
        refine Tot.bind (P := fun z => z.Ok) ((ev_App t r48.1).tot (ok_mk2 ht h48)) fun r50 h50 => ?_
        rw [w64_nat v (by omega)]
        exact ih (v + 1) _ r50 (by omega) h50
      · rw [w64_nat v (by omega)]
        have := ih (v + 1) e t (by omega) ht
        exact this
    · have := of_decide_eq_false h
      omega
theorem tot_Step {N : ByteArray → Bool} (l : List Ent) (i p2 c : Int) (p4 p5 : List Tm) (hE : AllE N l) (ho4 : OkA p4) (ho5 : OkA p5) (hl4 : p4.length ≤ 65535) (hl5 : p5.length ≤ 65535) : Tot (fun q => e226 q l (evA l l.length 0) i p2 c p4 p5) (fun x => x.1.Ok) := by
  simp only [e226]
  refine Tot.bind (P := fun b => b = isT l i 1) ((ev_iIs l i 1).tot rfl) fun b hb => Tot.ite (fun hT => ?_) fun _ => Tot.ret (leaf_ok 0 0)
  rw [hT] at hb
  have hi := isT_spec hb.symm
  refine Tot.ite (fun _ => Tot.ret (leaf_ok 0 0)) fun _ => Tot.ite (fun _ => Tot.ret (leaf_ok 0 0)) fun _ => ?_
  refine Tot.bind (P := fun b => b = isT l c 2) ((ev_iIs l c 2).tot rfl) fun b hb => Tot.ite (fun hT => ?_) fun _ => Tot.ret (leaf_ok 0 0)
  rw [hT] at hb
  have hc := isT_spec hb.symm
  have hf := familyT_spec ((entryT_spec (hE.2 i hi.1 hi.2.1)).2.1 hi.2.2)
  obtain ⟨A, y, hw, hy, hA, hAp, hA24, p0, p1, f0, f1, fk, fp, fi, fs, hap, q0, q1⟩ := con_facts hE hc.1 hc.2.1 hc.2.2
  refine Tot.pure (gidx_ent hc.1 hc.2.1) (Tot.ite (fun _ => Tot.ret (leaf_ok 0 0)) fun hn => ?_)
  have hfam : (ent l c).fam = i := by simpa using hn
  refine Tot.pure (evA_idx l c hc.1 hc.2.1 hc.2.2) (Tot.pure (gidx_ent hi.1 hi.2.1) ?_)
  rw [hfam] at fp q1 fi fs
  rw [w64_id (x := (ent l i).pars + 1) (by omega) (by omega), w64_id (x := (ent l i).pars + 1 + (ent l i).cons.length) (by omega) (by omega), w64_id (x := (ent l i).pars + 1 + (ent l c).place) (by omega) (by omega)]
  refine Tot.ite (fun _ => Tot.ret (leaf_ok 0 0)) fun hn4 => Tot.ite (fun _ => Tot.ret (leaf_ok 0 0)) fun hn5 => ?_
  have hn4' : (p4.length : Int) = (ent l i).pars + 1 + (ent l i).cons.length := by simpa using hn4
  have hn5' : (p5.length : Int) = (partsT l c).args.length := by simpa using hn5
  refine Tot.bind (P := fun _ => True) ((ev_iShaped p4 (by omega) ho4).tot trivial) fun _ _ => Tot.ite (fun _ => ?_) fun _ => Tot.ret (leaf_ok 0 0)
  refine Tot.bind (P := fun _ => True) ((ev_iShaped p5 (by omega) ho5).tot trivial) fun _ _ => Tot.ite (fun _ => ?_) fun _ => Tot.ret (leaf_ok 0 0)
  obtain ⟨x, hx, hm⟩ := gidx_lt (l := p4) (i := (ent l i).pars + 1 + (ent l c).place) (by omega) (by omega)
  refine Tot.pure hx (Tot.bind (P := fun z => z.Ok) ((ev_Apply x p5 (by omega)).tot (apT_ok _ _ (ho4 x hm) ho5)) fun r26 h26 => ?_)
  have hlen : (partsT l c).recs.length = (partsT l c).args.length := by unfold partsT; exact recsT_len l _ _ _
  exact tot_StepL l _ i p2 p4 p5 (partsT l c) hE hi.1 hi.2.1 hi.2.2 (by omega) hl4 (by omega) hl5 ho4 ho5 (by unfold partsT; exact recs_ok l _ _ _) _ 0 0 r26 (Nat.zero_add _) h26
end Go.Proofs.YteiddempdecleaaGreat

namespace Go.Proofs.YteiddempdecleaaGreat
open Go Go.Ab

/- (*sync/atomic.Int64).Load -/
def e114va9626 (qq : Nat) (q0 : Int) (q1 : Int) : Option (Int) :=
  some q0
theorem q114va9626 : Tryz.prog.funcs[114]? = some Tryz.f114 ∧ Tryz.f114.body.isNone = false := ⟨Tryz.func114, by kernel_rfl⟩
theorem k114va9626 {q0 : Int} {q1 : Int} {r : Int} (h : CTri Tryz.prog 114 [.cells [ai q0, ai q1]] [.mp 0 0] (ai r) [.cells [ai q0, ai q1]] 0) : CT Tryz.prog 114 [.cells [ai q0, ai q1]] [.mp 0 0] (ai r) [.cells [ai q0, ai q1]] 0 := ⟨h, ⟨(show 0 < 1 by decide), trivial⟩, (forall_cons ⟨trivial, trivial, trivial⟩ forall_nil), trivial, (forall_cons ⟨trivial, trivial, trivial⟩ forall_nil)⟩
theorem c114va9626 {qq : Nat} {q0 : Int} {q1 : Int} {r : Int} (h : e114va9626 qq q0 q1 = some r) : CT Tryz.prog 114 [.cells [ai q0, ai q1]] [.mp 0 0] (ai r) [.cells [ai q0, ai q1]] 0 := by
  unfold e114va9626 at h
  obtain rfl := sj h
  exact k114va9626 (tF q114va9626 1 [0] (o0) (by kernel_rfl))

end Go.Proofs.YteiddempdecleaaGreat

namespace Go.Proofs.YteiddempdecleaaGreat
open Go Go.Ab

/- (*scholium/whnf.Machine).kind -/
def e160 (qq : Nat) (M : Mach) (p1 : Tm) : Option (Int) :=
  if (p1.k != 6) = true then
    some 0
  else
    if decide (p1.n ≥ (List.length M.l : Int)) = true then
      some 0
    else
      (gidx M.l p1.n) >>= fun x3 =>
      some x3.kind
theorem q160 : Tryz.prog.funcs[160]? = some Tryz.f160 ∧ Tryz.f160.body.isNone = false := ⟨Tryz.func160, by kernel_rfl⟩
theorem k160 {M : Mach} {p1 : Tm} {r : Int} (h : CTri Tryz.prog 160 [.cells [.sl (flat entL M.l) (List.length M.l) .no, .mp 1 0, .sl (flat intC M.args) (List.length M.args) .no, .sl (flat intC M.own) (List.length M.own) .no], .cells [.sl (flat entL M.rl) (List.length M.rl) .no, .sl (flat conL M.parts) (List.length M.parts) .no]] [.mp 0 0, tmA p1] (ai r) [.cells [.sl (flat entL M.l) (List.length M.l) .no, .mp 1 0, .sl (flat intC M.args) (List.length M.args) .no, .sl (flat intC M.own) (List.length M.own) .no], .cells [.sl (flat entL M.rl) (List.length M.rl) .no, .sl (flat conL M.parts) (List.length M.parts) .no]] 0) : CT Tryz.prog 160 [.cells [.sl (flat entL M.l) (List.length M.l) .no, .mp 1 0, .sl (flat intC M.args) (List.length M.args) .no, .sl (flat intC M.own) (List.length M.own) .no], .cells [.sl (flat entL M.rl) (List.length M.rl) .no, .sl (flat conL M.parts) (List.length M.parts) .no]] [.mp 0 0, tmA p1] (ai r) [.cells [.sl (flat entL M.l) (List.length M.l) .no, .mp 1 0, .sl (flat intC M.args) (List.length M.args) .no, .sl (flat intC M.own) (List.length M.own) .no], .cells [.sl (flat entL M.rl) (List.length M.rl) .no, .sl (flat conL M.parts) (List.length M.parts) .no]] 0 := ⟨h, ⟨(show 0 < 2 by decide), ⟨trivial, trivial, ⟨trivial, dT _⟩, trivial⟩, trivial⟩, (forall_cons ⟨⟨trivial, dE _⟩, (show 1 < 2 by decide), ⟨trivial, dI _⟩, ⟨trivial, dI _⟩, trivial⟩ (forall_cons ⟨⟨trivial, dE _⟩, ⟨trivial, dC _⟩, trivial⟩ forall_nil)), trivial, (forall_cons ⟨dE _, (show 1 < 2 by decide), dI _, dI _, trivial⟩ (forall_cons ⟨dE _, dC _, trivial⟩ forall_nil))⟩
theorem c160 {qq : Nat} {M : Mach} {p1 : Tm} {r : Int} (h : e160 qq M p1 = some r) : CT Tryz.prog 160 [.cells [.sl (flat entL M.l) (List.length M.l) .no, .mp 1 0, .sl (flat intC M.args) (List.length M.args) .no, .sl (flat intC M.own) (List.length M.own) .no], .cells [.sl (flat entL M.rl) (List.length M.rl) .no, .sl (flat conL M.parts) (List.length M.parts) .no]] [.mp 0 0, tmA p1] (ai r) [.cells [.sl (flat entL M.l) (List.length M.l) .no, .mp 1 0, .sl (flat intC M.args) (List.length M.args) .no, .sl (flat intC M.own) (List.length M.own) .no], .cells [.sl (flat entL M.rl) (List.length M.rl) .no, .sl (flat conL M.parts) (List.length M.parts) .no]] 0 := by
  unfold e160 at h
  rcases spl h with ⟨h1, h⟩ | ⟨h1, h⟩
  · obtain rfl := sj h
    exact k160 (tF q160 0 [0, 1] (oD (dC M.parts) <| oD (dE M.rl) <| oD (dI M.own) <| oD (dI M.args) <| oD (dE M.l) <| oB 1 h1 o0) (by kernel_rfl))
  · have k := oB 1 h1 o0
    rcases spl h with ⟨h2, h⟩ | ⟨h2, h⟩
    · obtain rfl := sj h
      exact k160 (tF q160 0 [0, 1] (oD (dC M.parts) <| oD (dE M.rl) <| oD (dI M.own) <| oD (dI M.args) <| oD (dE M.l) <| oB 3 h2 k) (by kernel_rfl))
    · obtain ⟨x3, h4, h⟩ := obind h
      obtain rfl := sj h
      exact k160 (tF q160 1 [0, 1] (oD (dC M.parts) <| oD (dE M.rl) <| oD (dI M.own) <| oD (dI M.args) <| oD (dE M.l) <| oA 2 (ix22 (o := .no) h4) <| oB 3 h2 k) (by kernel_rfl))

end Go.Proofs.YteiddempdecleaaGreat

namespace Go.Proofs.YteiddempdecleaaGreat
open Go Go.Ab

/- (*sync/atomic.Int64).Add -/
def e270va12063 (qq : Nat) (q0 : Int) (q1 : Int) (p1 : Int) : Option (Int × Int) :=
  some ((w64 (q0 + p1)), (w64 (q0 + p1)))
theorem q270va12063 : Tryz.prog.funcs[270]? = some Tryz.f270 ∧ Tryz.f270.body.isNone = false := ⟨Tryz.func270, by kernel_rfl⟩
theorem k270va12063 {q0 : Int} {q1 : Int} {p1 : Int} {r : Int × Int} (h : CTri Tryz.prog 270 [.cells [ai q0, ai q1]] [.mp 0 0, ai p1] (ai r.1) [.cells [ai r.2, ai q1]] 0) : CT Tryz.prog 270 [.cells [ai q0, ai q1]] [.mp 0 0, ai p1] (ai r.1) [.cells [ai r.2, ai q1]] 0 := ⟨h, ⟨(show 0 < 1 by decide), trivial, trivial⟩, (forall_cons ⟨trivial, trivial, trivial⟩ forall_nil), trivial, (forall_cons ⟨trivial, trivial, trivial⟩ forall_nil)⟩
theorem c270va12063 {qq : Nat} {q0 : Int} {q1 : Int} {p1 : Int} {r : Int × Int} (h : e270va12063 qq q0 q1 p1 = some r) : CT Tryz.prog 270 [.cells [ai q0, ai q1]] [.mp 0 0, ai p1] (ai r.1) [.cells [ai r.2, ai q1]] 0 := by
  unfold e270va12063 at h
  obtain rfl := sj h
  exact k270va12063 (tF q270va12063 1 [0] (o0) (by kernel_rfl))

end Go.Proofs.YteiddempdecleaaGreat

namespace Go.Proofs.YteiddempdecleaaGreat
open Go Go.Ab

/- (*sync/atomic.Int64).Add -/
def e270va37370 (qq : Nat) (q0 : Int) (q1 : Int) (p1 : Int) : Option (Int × Int) :=
  some ((w64 (q1 + p1)), (w64 (q1 + p1)))
theorem q270va37370 : Tryz.prog.funcs[270]? = some Tryz.f270 ∧ Tryz.f270.body.isNone = false := ⟨Tryz.func270, by kernel_rfl⟩
theorem k270va37370 {q0 : Int} {q1 : Int} {p1 : Int} {r : Int × Int} (h : CTri Tryz.prog 270 [.cells [ai q0, ai q1]] [.mp 0 1, ai p1] (ai r.1) [.cells [ai q0, ai r.2]] 0) : CT Tryz.prog 270 [.cells [ai q0, ai q1]] [.mp 0 1, ai p1] (ai r.1) [.cells [ai q0, ai r.2]] 0 := ⟨h, ⟨(show 0 < 1 by decide), trivial, trivial⟩, (forall_cons ⟨trivial, trivial, trivial⟩ forall_nil), trivial, (forall_cons ⟨trivial, trivial, trivial⟩ forall_nil)⟩
theorem c270va37370 {qq : Nat} {q0 : Int} {q1 : Int} {p1 : Int} {r : Int × Int} (h : e270va37370 qq q0 q1 p1 = some r) : CT Tryz.prog 270 [.cells [ai q0, ai q1]] [.mp 0 1, ai p1] (ai r.1) [.cells [ai q0, ai r.2]] 0 := by
  unfold e270va37370 at h
  obtain rfl := sj h
  exact k270va37370 (tF q270va37370 1 [0] (o0) (by kernel_rfl))

end Go.Proofs.YteiddempdecleaaGreat

namespace Go.Proofs.YteiddempdecleaaGreat
open Go Go.Ab

/- (*scholium/meter.Meter).Spend -/
def e227 (qq : Nat) (fl : Int) (fu : Int) (p1 : Int) : Option (Int × Int × Int) :=
  if decide (p1 < 0) = true then
    some (8, fl, fu)
  else
    (e114va9626 qq fl fu) >>= fun r2 =>
    if decide (p1 > r2) = true then
      some (8, fl, fu)
    else
      (e270va12063 qq fl fu (w64 (0 - p1))) >>= fun r5 =>
      (e270va37370 qq r5.2 fu p1) >>= fun r7 =>
      some (0, r5.2, r7.2)
theorem q227 : Tryz.prog.funcs[227]? = some Tryz.f227 ∧ Tryz.f227.body.isNone = false := ⟨Tryz.func227, by kernel_rfl⟩
theorem k227 {fl : Int} {fu : Int} {p1 : Int} {r : Int × Int × Int} (h : CTri Tryz.prog 227 [.cells [ai fl, ai fu]] [.mp 0 0, ai p1] (ai r.1) [.cells [ai r.2.1, ai r.2.2]] 0) : CT Tryz.prog 227 [.cells [ai fl, ai fu]] [.mp 0 0, ai p1] (ai r.1) [.cells [ai r.2.1, ai r.2.2]] 0 := ⟨h, ⟨(show 0 < 1 by decide), trivial, trivial⟩, (forall_cons ⟨trivial, trivial, trivial⟩ forall_nil), trivial, (forall_cons ⟨trivial, trivial, trivial⟩ forall_nil)⟩
theorem c227 {qq : Nat} {fl : Int} {fu : Int} {p1 : Int} {r : Int × Int × Int} (h : e227 qq fl fu p1 = some r) : CT Tryz.prog 227 [.cells [ai fl, ai fu]] [.mp 0 0, ai p1] (ai r.1) [.cells [ai r.2.1, ai r.2.2]] 0 := by
  unfold e227 at h
  rcases spl h with ⟨h1, h⟩ | ⟨h1, h⟩
  · obtain rfl := sj h
    exact k227 (tF q227 0 [0] (oB 1 h1 o0) (by kernel_rfl))
  · obtain ⟨r2, h3, h⟩ := obind h
    have k := oC 0 [0] (c114va9626 h3) <| oB 1 h1 o0
    rcases spl h with ⟨h4, h⟩ | ⟨h4, h⟩
    · obtain rfl := sj h
      exact k227 (tF q227 0 [0] (oB 0 h4 k) (by kernel_rfl))
    · obtain ⟨r5, h6, h⟩ := obind h
      obtain ⟨r7, h8, h⟩ := obind h
      obtain rfl := sj h
      exact k227 (tF q227 0 [0] (oC 0 [0] (c270va37370 h8) <| oC 1 [0] (c270va12063 h6) <| oB 0 h4 k) (by kernel_rfl))

end Go.Proofs.YteiddempdecleaaGreat

namespace Go.Proofs.YteiddempdecleaaGreat
open Go Go.Ab

/- (*scholium/meter.Meter).Step -/
def e163 (qq : Nat) (fl : Int) (fu : Int) : Option (Int × Int × Int) :=
  (e227 qq fl fu 1) >>= fun r1 =>
  some (r1.1, r1.2.1, r1.2.2)
theorem q163 : Tryz.prog.funcs[163]? = some Tryz.f163 ∧ Tryz.f163.body.isNone = false := ⟨Tryz.func163, by kernel_rfl⟩
theorem k163 {fl : Int} {fu : Int} {r : Int × Int × Int} (h : CTri Tryz.prog 163 [.cells [ai fl, ai fu]] [.mp 0 0] (ai r.1) [.cells [ai r.2.1, ai r.2.2]] 0) : CT Tryz.prog 163 [.cells [ai fl, ai fu]] [.mp 0 0] (ai r.1) [.cells [ai r.2.1, ai r.2.2]] 0 := ⟨h, ⟨(show 0 < 1 by decide), trivial⟩, (forall_cons ⟨trivial, trivial, trivial⟩ forall_nil), trivial, (forall_cons ⟨trivial, trivial, trivial⟩ forall_nil)⟩
theorem c163 {qq : Nat} {fl : Int} {fu : Int} {r : Int × Int × Int} (h : e163 qq fl fu = some r) : CT Tryz.prog 163 [.cells [ai fl, ai fu]] [.mp 0 0] (ai r.1) [.cells [ai r.2.1, ai r.2.2]] 0 := by
  unfold e163 at h
  obtain ⟨r1, h2, h⟩ := obind h
  obtain rfl := sj h
  exact k163 (tF q163 0 [0] (oC 0 [0] (c227 h2) o0) (by kernel_rfl))

end Go.Proofs.YteiddempdecleaaGreat

namespace Go.Proofs.YteiddempdecleaaGreat
open Go Go.Ab

/- scholium/whnf.shaped -/
def e164 (qq : Nat) (p0 : Tm) : Option (Tm × Int) :=
  (e91 qq p0) >>= fun r1 =>
  if r1 = true then
    some (p0, 0)
  else
    some ((Tm.mk 0 0 []), 2)
theorem q164 : Tryz.prog.funcs[164]? = some Tryz.f164 ∧ Tryz.f164.body.isNone = false := ⟨Tryz.func164, by kernel_rfl⟩
theorem k164 {p0 : Tm} {r : Tm × Int} (h : CTri Tryz.prog 164 [] [tmA p0] (.tup [tmA r.1, ai r.2]) [] 0) : CT Tryz.prog 164 [] [tmA p0] (.tup [tmA r.1, ai r.2]) [] 0 := ⟨h, ⟨⟨trivial, trivial, ⟨trivial, dT _⟩, trivial⟩, trivial⟩, forall_nil, ⟨⟨trivial, trivial, dT _, trivial⟩, trivial, trivial⟩, forall_nil⟩
theorem c164 {qq : Nat} {p0 : Tm} {r : Tm × Int} (h : e164 qq p0 = some r) : CT Tryz.prog 164 [] [tmA p0] (.tup [tmA r.1, ai r.2]) [] 0 := by
  unfold e164 at h
  obtain ⟨r1, h2, h⟩ := obind h
  rcases spl h with ⟨h3, h⟩ | ⟨h3, h⟩
  · obtain rfl := sj h
    exact k164 (tF q164 3 [] (oD (dT p0.sub) <| oK 1 [] h3 (c91 h2) o0) (by kernel_rfl))
  · obtain rfl := sj h
    exact k164 (tF q164 2 [] (oD (dT ([] : List Tm)) <| oK 1 [] h3 (c91 h2) o0) (by kernel_rfl))

end Go.Proofs.YteiddempdecleaaGreat

namespace Go.Proofs.YteiddempdecleaaGreat
open Go Go.Ab

/- (*scholium/whnf.Machine).con -/
def e225 (qq : Nat) (M : Mach) (p1 : Tm) : Option (Int × List Tm × Bool) :=
  (e158 qq p1) >>= fun r1 =>
  (e160 qq M r1.1) >>= fun r3 =>
  if (r3 != 2) = true then
    some (0, [], false)
  else
    (gidx M.own r1.1.n) >>= fun x6 =>
    if ((List.length r1.2 : Int) != x6) = true then
      some (0, [], false)
    else
      some (r1.1.n, r1.2, true)
theorem q225 : Tryz.prog.funcs[225]? = some Tryz.f225 ∧ Tryz.f225.body.isNone = false := ⟨Tryz.func225, by kernel_rfl⟩
theorem k225 {M : Mach} {p1 : Tm} {r : Int × List Tm × Bool} (h : CTri Tryz.prog 225 [.cells [.sl (flat entL M.l) (List.length M.l) .no, .mp 1 0, .sl (flat intC M.args) (List.length M.args) .no, .sl (flat intC M.own) (List.length M.own) .no], .cells [.sl (flat entL M.rl) (List.length M.rl) .no, .sl (flat conL M.parts) (List.length M.parts) .no]] [.mp 0 0, tmA p1] (.tup [ai r.1, .sl (flat tmCells r.2.1) (List.length r.2.1) .no, ab r.2.2]) [.cells [.sl (flat entL M.l) (List.length M.l) .no, .mp 1 0, .sl (flat intC M.args) (List.length M.args) .no, .sl (flat intC M.own) (List.length M.own) .no], .cells [.sl (flat entL M.rl) (List.length M.rl) .no, .sl (flat conL M.parts) (List.length M.parts) .no]] 0) : CT Tryz.prog 225 [.cells [.sl (flat entL M.l) (List.length M.l) .no, .mp 1 0, .sl (flat intC M.args) (List.length M.args) .no, .sl (flat intC M.own) (List.length M.own) .no], .cells [.sl (flat entL M.rl) (List.length M.rl) .no, .sl (flat conL M.parts) (List.length M.parts) .no]] [.mp 0 0, tmA p1] (.tup [ai r.1, .sl (flat tmCells r.2.1) (List.length r.2.1) .no, ab r.2.2]) [.cells [.sl (flat entL M.l) (List.length M.l) .no, .mp 1 0, .sl (flat intC M.args) (List.length M.args) .no, .sl (flat intC M.own) (List.length M.own) .no], .cells [.sl (flat entL M.rl) (List.length M.rl) .no, .sl (flat conL M.parts) (List.length M.parts) .no]] 0 := ⟨h, ⟨(show 0 < 2 by decide), ⟨trivial, trivial, ⟨trivial, dT _⟩, trivial⟩, trivial⟩, (forall_cons ⟨⟨trivial, dE _⟩, (show 1 < 2 by decide), ⟨trivial, dI _⟩, ⟨trivial, dI _⟩, trivial⟩ (forall_cons ⟨⟨trivial, dE _⟩, ⟨trivial, dC _⟩, trivial⟩ forall_nil)), ⟨trivial, dT _, trivial, trivial⟩, (forall_cons ⟨dE _, (show 1 < 2 by decide), dI _, dI _, trivial⟩ (forall_cons ⟨dE _, dC _, trivial⟩ forall_nil))⟩
theorem c225 {qq : Nat} {M : Mach} {p1 : Tm} {r : Int × List Tm × Bool} (h : e225 qq M p1 = some r) : CT Tryz.prog 225 [.cells [.sl (flat entL M.l) (List.length M.l) .no, .mp 1 0, .sl (flat intC M.args) (List.length M.args) .no, .sl (flat intC M.own) (List.length M.own) .no], .cells [.sl (flat entL M.rl) (List.length M.rl) .no, .sl (flat conL M.parts) (List.length M.parts) .no]] [.mp 0 0, tmA p1] (.tup [ai r.1, .sl (flat tmCells r.2.1) (List.length r.2.1) .no, ab r.2.2]) [.cells [.sl (flat entL M.l) (List.length M.l) .no, .mp 1 0, .sl (flat intC M.args) (List.length M.args) .no, .sl (flat intC M.own) (List.length M.own) .no], .cells [.sl (flat entL M.rl) (List.length M.rl) .no, .sl (flat conL M.parts) (List.length M.parts) .no]] 0 := by
  unfold e225 at h
  obtain ⟨r1, h2, h⟩ := obind h
  obtain ⟨r3, h4, h⟩ := obind h
  have k := oC 4 [0, 1] (c160 h4) <| oC 1 [] (c158 h2) o0
  rcases spl h with ⟨h5, h⟩ | ⟨h5, h⟩
  · obtain rfl := sj h
    exact k225 (tF q225 0 [0, 1] (oD (dT ([] : List Tm)) <| oD (dC M.parts) <| oD (dE M.rl) <| oD (dI M.own) <| oD (dI M.args) <| oD (dE M.l) <| oB 0 h5 k) (by kernel_rfl))
  · obtain ⟨x6, h7, h⟩ := obind h
    have k := oA 3 (ix34 (o := .no) h7) <| oB 0 h5 k
    rcases spl h with ⟨h8, h⟩ | ⟨h8, h⟩
    · obtain rfl := sj h
      exact k225 (tF q225 0 [0, 1] (oD (dT ([] : List Tm)) <| oD (dC M.parts) <| oD (dE M.rl) <| oD (dI M.own) <| oD (dI M.args) <| oD (dE M.l) <| oB 1 h8 k) (by kernel_rfl))
    · obtain rfl := sj h
      exact k225 (tF q225 1 [0, 1] (oD (dT r1.2) <| oD (dC M.parts) <| oD (dE M.rl) <| oD (dI M.own) <| oD (dI M.args) <| oD (dE M.l) <| oB 1 h8 k) (by kernel_rfl))

end Go.Proofs.YteiddempdecleaaGreat

namespace Go.Proofs.YteiddempdecleaaGreat
open Go Go.Ab

/-- with k or more fuel the answer is R's; with less it is error 8 -/
def FGood {ρ : Type} (f : Int → Int → Nat → Option ρ) (er : ρ → Int) (R : Int → Int → ρ) (k : Int) : Prop :=
  (∀ L U, k ≤ L → 0 ≤ U → L + U ≤ 1099511627776 → Evt (f L U) (R (L - k) (U + k))) ∧ (∀ L U, 0 ≤ L → L < k → 0 ≤ U → L + U ≤ 1099511627776 → ∃ r, Evt (f L U) r ∧ er r = 8)
/-- with just l fuel there is an error -/
def FFail {ρ : Type} (f : Int → Int → Nat → Option ρ) (er : ρ → Int) (l : Int) : Prop := ∀ U, 0 ≤ U → l + U ≤ 1099511627776 → ∃ r, Evt (f l U) r ∧ er r ≠ 0
def Outc {ρ : Type} (f : Int → Int → Nat → Option ρ) (er : ρ → Int) (Q : (Int → Int → ρ) → Int → Prop) (l : Int) : Prop :=
  (∃ R k, 0 ≤ k ∧ k ≤ l ∧ Q R k ∧ FGood f er R k) ∨ FFail f er l
section
variable {ρ σ τ : Type} {er : ρ → Int} {er' : σ → Int} {Q : (Int → Int → ρ) → Int → Prop} {Q' : (Int → Int → σ) → Int → Prop} {l : Int}
theorem Outc.imp {f g : Int → Int → Nat → Option ρ} (h : Outc f er Q l) (k : ∀ L U r, Evt (f L U) r → Evt (g L U) r) : Outc g er Q l := by
  rcases h with ⟨R, n, h0, h1, h2, h3, h4⟩ | h
  · exact .inl ⟨R, n, h0, h1, h2, fun L U a b c => k _ _ _ (h3 L U a b c), fun L U a b c d => by obtain ⟨r, x, y⟩ := h4 L U a b c d; exact ⟨r, k _ _ _ x, y⟩⟩
  · exact .inr fun U a b => by obtain ⟨r, x, y⟩ := h U a b; exact ⟨r, k _ _ _ x, y⟩
theorem Outc.mono {f : Int → Int → Nat → Option ρ} {Q2 : (Int → Int → ρ) → Int → Prop} (h : Outc f er Q l) (k : ∀ R n, Q R n → Q2 R n) : Outc f er Q2 l := by
  rcases h with ⟨R, n, h0, h1, h2, h3⟩ | h
  · exact .inl ⟨R, n, h0, h1, k R n h2, h3⟩
  · exact .inr h
theorem Outc.succ {f : Int → Int → Nat → Option ρ} (h : Outc (fun L U q => f L U (q + 1)) er Q l) : Outc f er Q l := h.imp fun _ _ _ h => h.succ
theorem Outc.pure {x : Option τ} {a : τ} {c : Int → Int → Nat → τ → Option ρ} (h : x = some a) (g : Outc (fun L U q => c L U q a) er Q l) : Outc (fun L U q => x >>= c L U q) er Q l := g.imp fun _ _ _ k => Evt.pure h k
theorem Outc.evt {x : Nat → Option τ} {a : τ} {c : Int → Int → Nat → τ → Option ρ} (h : Evt x a) (g : Outc (fun L U q => c L U q a) er Q l) : Outc (fun L U q => x q >>= c L U q) er Q l := g.imp fun _ _ _ k => Evt.bind h k
theorem Outc.ite {b : Bool} {f g : Int → Int → Nat → Option ρ} (h : b = true → Outc f er Q l) (k : b = false → Outc g er Q l) : Outc (fun L U q => if b = true then f L U q else g L U q) er Q l := by
  cases b with
  | true => exact (h rfl).imp fun _ _ _ x => Evt.ifT rfl x
  | false => exact (k rfl).imp fun _ _ _ x => Evt.ifF rfl x
theorem Outc.ret {R : Int → Int → ρ} (h : 0 ≤ l) (k : Q R 0) : Outc (fun L U _ => some (R L U)) er Q l :=
  .inl ⟨R, 0, by omega, h, k, fun L U _ _ _ => by rw [show L - 0 = L by omega, show U + 0 = U by omega]; exact Evt.ret, fun L U _ _ => by omega⟩
theorem Outc.err {R : Int → Int → ρ} (h : ∀ L U, er (R L U) ≠ 0) : Outc (fun L U _ => some (R L U)) er Q l := .inr fun U _ _ => ⟨_, Evt.ret, h _ _⟩
theorem Outc.bind {f : Int → Int → Nat → Option ρ} {c : Nat → ρ → Option σ} (h : Outc f er Q l) (he : ∀ r, er r ≠ 0 → ∃ r', Evt (fun q => c q r) r' ∧ er' r' = er r)
    (hg : ∀ R k, 0 ≤ k → k ≤ l → Q R k → Outc (fun L U q => c q (R L U)) er' (fun R' n => Q' R' (k + n)) (l - k)) : Outc (fun L U q => f L U q >>= c q) er' Q' l := by
  rcases h with ⟨R, k, h0, h1, h2, h3, h4⟩ | h
  · rcases hg R k h0 h1 h2 with ⟨R', n, g0, g1, g2, g3, g4⟩ | g
    · refine .inl ⟨R', k + n, by omega, by omega, g2, fun L U a b c => ?_, fun L U a b c d => ?_⟩
      · have := g3 (L - k) (U + k) (by omega) (by omega) (by omega)
        rw [show L - (k + n) = L - k - n by omega, show U + (k + n) = U + k + n by omega]
        exact (h3 L U (by omega) b c).bind this
      · by_cases e : L < k
        · obtain ⟨r, x, y⟩ := h4 L U a e c d
          obtain ⟨r', x', y'⟩ := he r (by omega)
          exact ⟨r', x.bind x', by omega⟩
        · obtain ⟨r', x', y'⟩ := g4 (L - k) (U + k) (by omega) (by omega) (by omega) (by omega)
          exact ⟨r', (h3 L U (by omega) c d).bind x', y'⟩
    · refine .inr fun U a b => ?_
      obtain ⟨r', x', y'⟩ := g (U + k) (by omega) (by omega)
      exact ⟨r', (h3 l U h1 a b).bind x', y'⟩
  · refine .inr fun U a b => ?_
    obtain ⟨r, x, y⟩ := h U a b
    obtain ⟨r', x', y'⟩ := he r y
    exact ⟨r', x.bind x', by omega⟩
end

theorem ev_mStep (L U : Int) (h0 : 0 ≤ L) (h1 : 0 ≤ U) (h2 : L + U ≤ 1099511627776) : Evt (fun q => e163 q L U) (if 1 ≤ L then (0, L - 1, U + 1) else (8, L, U)) := by
  simp only [e163, e227, e114va9626, e270va12063, e270va37370]
  refine Evt.bind (a := if 1 ≤ L then (0, L - 1, U + 1) else (8, L, U)) ?_ Evt.ret
  refine Evt.ifF (by decide) (Evt.pure rfl ?_)
  by_cases h : 1 ≤ L
  · rw [if_pos h]
    refine Evt.ifF (decide_eq_false (by omega)) (Evt.pure rfl (Evt.pure rfl (Evt.ret.eq ?_)))
    have e : w64 (0 - 1) = -1 := by decide
    rw [e, w64_id (x := U + 1) (by omega) (by omega)]
    show ((0 : Int), w64 (L + -1), U + 1) = _
    rw [w64_id (by omega) (by omega)]; rfl
  · rw [if_neg h]
    exact Evt.ifT (decide_eq_true (by omega)) Evt.ret
theorem out_step (l : Int) (h : 0 ≤ l) : Outc (fun L U q => e163 q L U) (fun r => r.1) (fun R k => k = 1 ∧ R = fun L U => (0, L, U)) l := by
  by_cases h1 : 1 ≤ l
  · refine .inl ⟨fun L U => (0, L, U), 1, by omega, h1, ⟨rfl, rfl⟩, fun L U a b c => (ev_mStep L U (by omega) b c).eq (if_pos a), fun L U a b c d => ⟨_, ev_mStep L U a c d, ?_⟩⟩
    rw [if_neg (by omega)]
  · refine .inr fun U a b => ⟨_, ev_mStep l U h a b, ?_⟩
    rw [if_neg h1]; show (8 : Int) ≠ 0; decide

/- the machine's parts -/
def kindT (l : List Ent) (t : Tm) : Int := if t.k = 6 then (if t.n < l.length then (ent l t.n).kind else 0) else 0
theorem ev_wkind (l : List Ent) (t : Tm) (h : 0 ≤ t.n) : Evt (fun q => e160 q (machT l) t) (kindT l t) := by
  simp only [e160, machT]
  unfold kindT
  by_cases k : t.k = 6
  · rw [if_pos k]
    refine Evt.ifF (by simp [k]) ?_
    by_cases n : t.n < l.length
    · rw [if_pos n]; exact Evt.ifF (decide_eq_false (by omega)) (Evt.pure (gidx_ent h n) Evt.ret)
    · rw [if_neg n]; exact Evt.ifT (decide_eq_true (by omega)) Evt.ret
  · rw [if_neg k]; exact Evt.ifT (by simp [k]) Evt.ret
theorem kindT_spec {l : List Ent} {t : Tm} {k : Int} (h : kindT l t = k) (hk : k ≠ 0) : t.k = 6 ∧ t.n < l.length ∧ (ent l t.n).kind = k := by
  unfold kindT at h
  split at h
  · rename_i a
    split at h
    · rename_i b; exact ⟨a, b, h⟩
    · exact absurd h.symm hk
  · exact absurd h.symm hk
def wshT (t : Tm) : Tm × Int := if shapedT t = true then (t, 0) else (zT, 2)
theorem ev_wshaped (t : Tm) (ho : t.Ok) : Evt (fun q => e164 q t) (wshT t) := by
  simp only [e164]
  refine (ev_Shaped t ho).bind ?_
  unfold wshT
  by_cases h : shapedT t = true
  · rw [if_pos h, if_pos h]; exact Evt.ret
  · rw [if_neg h, if_neg h]; exact Evt.ret
theorem good_n {t : Tm} (h : goodT t = true) : 0 ≤ t.n := by
  obtain ⟨k, n, l⟩ := t
  exact (head_n (goodT_mk h).1).1
theorem own_idx {l : List Ent} {i : Int} (h0 : 0 ≤ i) (h1 : i < l.length) : gidx (machT l).own i = some (ownT (ent l i)) := by
  have h := gidx_ent (l := l) h0 h1
  unfold gidx at h ⊢
  rw [if_pos h0] at h ⊢
  show (l.map ownT)[i.toNat]? = _
  rw [List.getElem?_map, h]; rfl
theorem args_idx {l : List Ent} {i : Int} (h0 : 0 ≤ i) (h1 : i < l.length) : gidx (machT l).args i = some (argsT (ent l i)) := by
  have h := gidx_ent (l := l) h0 h1
  unfold gidx at h ⊢
  rw [if_pos h0] at h ⊢
  show (l.map argsT)[i.toNat]? = _
  rw [List.getElem?_map, h]; rfl
/-- what a term is that is told to be a constructor with all its arguments -/
def ConOk (l : List Ent) (t : Tm) (r : Int × List Tm × Bool) : Prop := r.2.2 = true → 0 ≤ r.1 ∧ r.1 < l.length ∧ (ent l r.1).kind = 2 ∧ r.2.1 = arT t ∧ (r.2.1.length : Int) = pisT (ent l r.1).type
theorem tot_con (l : List Ent) (t : Tm) (hs : shapedT t = true) : Tot (fun q => e225 q (machT l) t) (ConOk l t) := by
  simp only [e225]
  have hn := good_n (shapedT_spec (hd_shaped hs)).2.2
  refine Tot.bind (P := fun r => r = (hdT t, arT t)) ((ev_Spine t hs).tot rfl) fun r hr => ?_
  subst hr
  refine Tot.bind (P := fun r => r = kindT l (hdT t)) ((ev_wkind l _ hn).tot rfl) fun r hr => Tot.ite (fun _ => Tot.ret (fun h => by cases h)) fun h => ?_
  subst hr
  have hk := kindT_spec (l := l) (t := hdT t) (k := 2) (by simpa using h) (by decide)
  refine Tot.pure (own_idx hn hk.2.1) (Tot.ite (fun _ => Tot.ret (fun h => by cases h)) fun h => Tot.ret fun _ => ⟨hn, hk.2.1, hk.2.2, rfl, ?_⟩)
  have : ((arT t).length : Int) = ownT (ent l (hdT t).n) := by simpa using h
  unfold ownT at this
  rwa [if_pos hk.2.2] at this
end Go.Proofs.YteiddempdecleaaGreat

namespace Go.Proofs.YteiddempdecleaaGreat
open Go Go.Ab

/- (*scholium/whnf.Machine).once -/
/- (*scholium/whnf.Machine).bring -/
/- (*scholium/whnf.Machine).field -/
/- (*scholium/whnf.Machine).elim -/
mutual
def e83 : Nat → Mach → Tm → Int → Int →  Option (Tm × Bool × Int × Int × Int)
  | 0, _, _, _, _ => none
  | qq + 1, M, p1, fl, fu =>
    (e158 qq p1) >>= fun r1 =>
    if (r1.1.k == 4) = true then
      if decide ((List.length r1.2 : Int) > 0) = true then
        (gidx r1.1.sub 1) >>= fun x5 =>
        (gidx r1.2 0) >>= fun x7 =>
        (e159 qq x5 x7) >>= fun r9 =>
        (gsl r1.2 1 (List.length r1.2 : Int)) >>= fun x11 =>
        (e142 qq r9.1 x11) >>= fun r13 =>
        if (r9.2 != 0) = true then
          some (p1, false, r9.2, fl, fu)
        else
          (e163 qq fl fu) >>= fun r16 =>
          if (r16.1 != 0) = true then
            some (p1, false, r16.1, r16.2.1, r16.2.2)
          else
            (e164 qq r13) >>= fun r19 =>
            some (r19.1, true, r19.2, r16.2.1, r16.2.2)
      else
        (e160 qq M r1.1) >>= fun r21 =>
        if (r21 == 3) = true then
          (gidx M.l r1.1.n) >>= fun x24 =>
          (e142 qq x24.body r1.2) >>= fun r26 =>
          (e163 qq fl fu) >>= fun r28 =>
          if (r28.1 != 0) = true then
            some (p1, false, r28.1, r28.2.1, r28.2.2)
          else
            (e164 qq r26) >>= fun r31 =>
            some (r31.1, true, r31.2, r28.2.1, r28.2.2)
        else
          (e160 qq M r1.1) >>= fun r33 =>
          if (r33 == 4) = true then
            (e161 qq M r1.1 r1.2 fl fu) >>= fun r36 =>
            if r36.2.1 = true then
              if (r36.2.2.1 != 0) = true then
                some (p1, false, r36.2.2.1, r36.2.2.2.1, r36.2.2.2.2)
              else
                (e163 qq r36.2.2.2.1 r36.2.2.2.2) >>= fun r40 =>
                if (r40.1 != 0) = true then
                  some (p1, false, r40.1, r40.2.1, r40.2.2)
                else
                  (e164 qq r36.1) >>= fun r43 =>
                  some (r43.1, true, r43.2, r40.2.1, r40.2.2)
            else
              if (r36.2.2.1 != 0) = true then
                some (p1, false, r36.2.2.1, r36.2.2.2.1, r36.2.2.2.2)
              else
                some (p1, false, r36.2.2.1, r36.2.2.2.1, r36.2.2.2.2)
          else
            if (r1.1.k == 7) = true then
              (e162 qq M r1.1 r1.2 fl fu) >>= fun r47 =>
              if r47.2.1 = true then
                if (r47.2.2.1 != 0) = true then
                  some (p1, false, r47.2.2.1, r47.2.2.2.1, r47.2.2.2.2)
                else
                  (e163 qq r47.2.2.2.1 r47.2.2.2.2) >>= fun r51 =>
                  if (r51.1 != 0) = true then
                    some (p1, false, r51.1, r51.2.1, r51.2.2)
                  else
                    (e164 qq r47.1) >>= fun r54 =>
                    some (r54.1, true, r54.2, r51.2.1, r51.2.2)
              else
                if (r47.2.2.1 != 0) = true then
                  some (p1, false, r47.2.2.1, r47.2.2.2.1, r47.2.2.2.2)
                else
                  some (p1, false, r47.2.2.1, r47.2.2.2.1, r47.2.2.2.2)
            else
              some (p1, false, 0, fl, fu)
    else
      (e160 qq M r1.1) >>= fun r57 =>
      if (r57 == 3) = true then
        (gidx M.l r1.1.n) >>= fun x60 =>
        (e142 qq x60.body r1.2) >>= fun r62 =>
        (e163 qq fl fu) >>= fun r64 =>
        if (r64.1 != 0) = true then
          some (p1, false, r64.1, r64.2.1, r64.2.2)
        else
          (e164 qq r62) >>= fun r67 =>
          some (r67.1, true, r67.2, r64.2.1, r64.2.2)
      else
        (e160 qq M r1.1) >>= fun r69 =>
        if (r69 == 4) = true then
          (e161 qq M r1.1 r1.2 fl fu) >>= fun r72 =>
          if r72.2.1 = true then
            if (r72.2.2.1 != 0) = true then
              some (p1, false, r72.2.2.1, r72.2.2.2.1, r72.2.2.2.2)
            else
              (e163 qq r72.2.2.2.1 r72.2.2.2.2) >>= fun r76 =>
              if (r76.1 != 0) = true then
                some (p1, false, r76.1, r76.2.1, r76.2.2)
              else
                (e164 qq r72.1) >>= fun r79 =>
                some (r79.1, true, r79.2, r76.2.1, r76.2.2)
          else
            if (r72.2.2.1 != 0) = true then
              some (p1, false, r72.2.2.1, r72.2.2.2.1, r72.2.2.2.2)
            else
              some (p1, false, r72.2.2.1, r72.2.2.2.1, r72.2.2.2.2)
        else
          if (r1.1.k == 7) = true then
            (e162 qq M r1.1 r1.2 fl fu) >>= fun r83 =>
            if r83.2.1 = true then
              if (r83.2.2.1 != 0) = true then
                some (p1, false, r83.2.2.1, r83.2.2.2.1, r83.2.2.2.2)
              else
                (e163 qq r83.2.2.2.1 r83.2.2.2.2) >>= fun r87 =>
                if (r87.1 != 0) = true then
                  some (p1, false, r87.1, r87.2.1, r87.2.2)
                else
                  (e164 qq r83.1) >>= fun r90 =>
                  some (r90.1, true, r90.2, r87.2.1, r87.2.2)
            else
              if (r83.2.2.1 != 0) = true then
                some (p1, false, r83.2.2.1, r83.2.2.2.1, r83.2.2.2.2)
              else
                some (p1, false, r83.2.2.1, r83.2.2.2.1, r83.2.2.2.2)
          else
            some (p1, false, 0, fl, fu)
def e157 : Nat → Mach → Tm → Int → Int →  Option (Tm × Int × Int × Int)
  | 0, _, _, _, _ => none
  | qq + 1, M, p1, fl, fu =>
    e157L60545 qq M fl fu p1.k p1.n p1.sub
def e157L60545 : Nat → Mach → Int → Int → Int → Int → (List Tm) →  Option (Tm × Int × Int × Int)
  | 0, _, _, _, _, _, _ => none
  | qq + 1, M, vb2_0, vb2_1, vb3_0, vb3_1, vb3_2 =>
    (e83 qq M (Tm.mk vb3_0 vb3_1 vb3_2) vb2_0 vb2_1) >>= fun r1 =>
    if r1.2.1 = true then
      if (r1.2.2.1 != 0) = true then
        some ((Tm.mk 0 0 []), r1.2.2.1, r1.2.2.2.1, r1.2.2.2.2)
      else
        e157L60545 qq M r1.2.2.2.1 r1.2.2.2.2 r1.1.k r1.1.n r1.1.sub
    else
      if (r1.2.2.1 != 0) = true then
        some ((Tm.mk 0 0 []), r1.2.2.1, r1.2.2.2.1, r1.2.2.2.2)
      else
        some ((Tm.mk vb3_0 vb3_1 vb3_2), 0, r1.2.2.2.1, r1.2.2.2.2)
def e161 : Nat → Mach → Tm → (List Tm) → Int → Int →  Option (Tm × Bool × Int × Int × Int)
  | 0, _, _, _, _, _ => none
  | qq + 1, M, p1, p2, fl, fu =>
    (gidx M.l p1.n) >>= fun x1 =>
    if decide ((List.length p2 : Int) ≤ x1.pars) = true then
      some ((Tm.mk 0 0 []), false, 0, fl, fu)
    else
      (gidx p2 x1.pars) >>= fun x4 =>
      (e157 qq M x4 fl fu) >>= fun r6 =>
      if (r6.2.1 != 0) = true then
        some ((Tm.mk 0 0 []), false, r6.2.1, r6.2.2.1, r6.2.2.2)
      else
        (e225 qq M r6.1) >>= fun r9 =>
        if r9.2.2 = true then
          (gidx M.l r9.1) >>= fun x12 =>
          if (x12.fam != x1.fam) = true then
            some ((Tm.mk 0 0 []), false, 0, r6.2.2.1, r6.2.2.2)
          else
            (gsl r9.2.1 x12.pars (List.length r9.2.1 : Int)) >>= fun x15 =>
            (e24 qq M.rl M.parts p1.n x15) >>= fun r17 =>
            (gsl p2 (w64 (x1.pars + 1)) (List.length p2 : Int)) >>= fun x19 =>
            (e142 qq r17.1 x19) >>= fun r21 =>
            some (r21, true, r17.2, r6.2.2.1, r6.2.2.2)
        else
          some ((Tm.mk 0 0 []), false, 0, r6.2.2.1, r6.2.2.2)
def e162 : Nat → Mach → Tm → (List Tm) → Int → Int →  Option (Tm × Bool × Int × Int × Int)
  | 0, _, _, _, _, _ => none
  | qq + 1, M, p1, p2, fl, fu =>
    if decide (p1.n ≥ (List.length M.l : Int)) = true then
      some ((Tm.mk 0 0 []), false, 0, fl, fu)
    else
      (gidx M.l p1.n) >>= fun x2 =>
      if (x2.kind != 1) = true then
        some ((Tm.mk 0 0 []), false, 0, fl, fu)
      else
        (gidx M.args p1.n) >>= fun x5 =>
        if decide ((List.length p2 : Int) < x5) = true then
          some ((Tm.mk 0 0 []), false, 0, fl, fu)
        else
          (gidx p2 (w64 (x5 - 1))) >>= fun x8 =>
          (e157 qq M x8 fl fu) >>= fun r10 =>
          if (r10.2.1 != 0) = true then
            some ((Tm.mk 0 0 []), false, r10.2.1, r10.2.2.1, r10.2.2.2)
          else
            (e225 qq M r10.1) >>= fun r13 =>
            if r13.2.2 = true then
              (gidx M.l r13.1) >>= fun x16 =>
              if (x16.fam != p1.n) = true then
                some ((Tm.mk 0 0 []), false, 0, r10.2.2.1, r10.2.2.2)
              else
                (gidx p1.sub 0) >>= fun x19 =>
                (gsl p2 0 (w64 ((w64 (x2.pars + 1)) + (List.length x2.cons : Int)))) >>= fun x21 =>
                (gsl r13.2.1 x2.pars (List.length r13.2.1 : Int)) >>= fun x23 =>
                (e226 qq M.rl M.parts p1.n x19.n r13.1 x21 x23) >>= fun r25 =>
                (gsl p2 x5 (List.length p2 : Int)) >>= fun x27 =>
                (e142 qq r25.1 x27) >>= fun r29 =>
                some (r29, true, r25.2, r10.2.2.1, r10.2.2.2)
            else
              some ((Tm.mk 0 0 []), false, 0, r10.2.2.1, r10.2.2.2)
end
def g157L60545E0 (j : Nat → Value) (M : Mach) (vb2_0 : Int) (vb2_1 : Int) (vb3_0 : Int) (vb3_1 : Int) (vb3_2 : List Tm) : List AV := sp j 28 0 [(0, .mp 0 0), (2, .mp 2 0), (4, .mp 3 0), (6, .mp 4 0)]
def g157L60545S0 (M : Mach) (vb2_0 : Int) (vb2_1 : Int) (vb3_0 : Int) (vb3_1 : Int) (vb3_2 : List Tm) : LSt := ⟨[(0, .cells [.sl (flat entL M.l) (List.length M.l) .no, .mp 1 0, .sl (flat intC M.args) (List.length M.args) .no, .sl (flat intC M.own) (List.length M.own) .no]), (1, .cells [.sl (flat entL M.rl) (List.length M.rl) .no, .sl (flat conL M.parts) (List.length M.parts) .no]), (2, .cells [ai vb2_0, ai vb2_1]), (3, .cells [ai vb3_0, ai vb3_1, .sl (flat tmCells vb3_2) (List.length vb3_2) .no]), (4, .cells [ai 0, ai 0, .sl (flat tmCells ([] : List Tm)) (List.length ([] : List Tm)) .nl])], 5, [], 0, []⟩
theorem q83 : Tryz.prog.funcs[83]? = some Tryz.f83 ∧ Tryz.f83.body.isNone = false := ⟨Tryz.func83, by kernel_rfl⟩
theorem k83 {M : Mach} {p1 : Tm} {fl : Int} {fu : Int} {r : Tm × Bool × Int × Int × Int} (h : CTri Tryz.prog 83 [.cells [.sl (flat entL M.l) (List.length M.l) .no, .mp 1 0, .sl (flat intC M.args) (List.length M.args) .no, .sl (flat intC M.own) (List.length M.own) .no], .cells [.sl (flat entL M.rl) (List.length M.rl) .no, .sl (flat conL M.parts) (List.length M.parts) .no], .cells [ai fl, ai fu]] [.mp 0 0, tmA p1, .mp 2 0] (.tup [tmA r.1, ab r.2.1, ai r.2.2.1]) [.cells [.sl (flat entL M.l) (List.length M.l) .no, .mp 1 0, .sl (flat intC M.args) (List.length M.args) .no, .sl (flat intC M.own) (List.length M.own) .no], .cells [.sl (flat entL M.rl) (List.length M.rl) .no, .sl (flat conL M.parts) (List.length M.parts) .no], .cells [ai r.2.2.2.1, ai r.2.2.2.2]] 0) : CT Tryz.prog 83 [.cells [.sl (flat entL M.l) (List.length M.l) .no, .mp 1 0, .sl (flat intC M.args) (List.length M.args) .no, .sl (flat intC M.own) (List.length M.own) .no], .cells [.sl (flat entL M.rl) (List.length M.rl) .no, .sl (flat conL M.parts) (List.length M.parts) .no], .cells [ai fl, ai fu]] [.mp 0 0, tmA p1, .mp 2 0] (.tup [tmA r.1, ab r.2.1, ai r.2.2.1]) [.cells [.sl (flat entL M.l) (List.length M.l) .no, .mp 1 0, .sl (flat intC M.args) (List.length M.args) .no, .sl (flat intC M.own) (List.length M.own) .no], .cells [.sl (flat entL M.rl) (List.length M.rl) .no, .sl (flat conL M.parts) (List.length M.parts) .no], .cells [ai r.2.2.2.1, ai r.2.2.2.2]] 0 := ⟨h, ⟨(show 0 < 3 by decide), ⟨trivial, trivial, ⟨trivial, dT _⟩, trivial⟩, (show 2 < 3 by decide), trivial⟩, (forall_cons ⟨⟨trivial, dE _⟩, (show 1 < 3 by decide), ⟨trivial, dI _⟩, ⟨trivial, dI _⟩, trivial⟩ (forall_cons ⟨⟨trivial, dE _⟩, ⟨trivial, dC _⟩, trivial⟩ (forall_cons ⟨trivial, trivial, trivial⟩ forall_nil))), ⟨⟨trivial, trivial, dT _, trivial⟩, trivial, trivial, trivial⟩, (forall_cons ⟨dE _, (show 1 < 3 by decide), dI _, dI _, trivial⟩ (forall_cons ⟨dE _, dC _, trivial⟩ (forall_cons ⟨trivial, trivial, trivial⟩ forall_nil)))⟩
theorem q157 : Tryz.prog.funcs[157]? = some Tryz.f157 ∧ Tryz.f157.body.isNone = false := ⟨Tryz.func157, by kernel_rfl⟩
theorem k157 {M : Mach} {p1 : Tm} {fl : Int} {fu : Int} {r : Tm × Int × Int × Int} (h : CTri Tryz.prog 157 [.cells [.sl (flat entL M.l) (List.length M.l) .no, .mp 1 0, .sl (flat intC M.args) (List.length M.args) .no, .sl (flat intC M.own) (List.length M.own) .no], .cells [.sl (flat entL M.rl) (List.length M.rl) .no, .sl (flat conL M.parts) (List.length M.parts) .no], .cells [ai fl, ai fu]] [.mp 0 0, tmA p1, .mp 2 0] (.tup [tmA r.1, ai r.2.1]) [.cells [.sl (flat entL M.l) (List.length M.l) .no, .mp 1 0, .sl (flat intC M.args) (List.length M.args) .no, .sl (flat intC M.own) (List.length M.own) .no], .cells [.sl (flat entL M.rl) (List.length M.rl) .no, .sl (flat conL M.parts) (List.length M.parts) .no], .cells [ai r.2.2.1, ai r.2.2.2]] 0) : CT Tryz.prog 157 [.cells [.sl (flat entL M.l) (List.length M.l) .no, .mp 1 0, .sl (flat intC M.args) (List.length M.args) .no, .sl (flat intC M.own) (List.length M.own) .no], .cells [.sl (flat entL M.rl) (List.length M.rl) .no, .sl (flat conL M.parts) (List.length M.parts) .no], .cells [ai fl, ai fu]] [.mp 0 0, tmA p1, .mp 2 0] (.tup [tmA r.1, ai r.2.1]) [.cells [.sl (flat entL M.l) (List.length M.l) .no, .mp 1 0, .sl (flat intC M.args) (List.length M.args) .no, .sl (flat intC M.own) (List.length M.own) .no], .cells [.sl (flat entL M.rl) (List.length M.rl) .no, .sl (flat conL M.parts) (List.length M.parts) .no], .cells [ai r.2.2.1, ai r.2.2.2]] 0 := ⟨h, ⟨(show 0 < 3 by decide), ⟨trivial, trivial, ⟨trivial, dT _⟩, trivial⟩, (show 2 < 3 by decide), trivial⟩, (forall_cons ⟨⟨trivial, dE _⟩, (show 1 < 3 by decide), ⟨trivial, dI _⟩, ⟨trivial, dI _⟩, trivial⟩ (forall_cons ⟨⟨trivial, dE _⟩, ⟨trivial, dC _⟩, trivial⟩ (forall_cons ⟨trivial, trivial, trivial⟩ forall_nil))), ⟨⟨trivial, trivial, dT _, trivial⟩, trivial, trivial⟩, (forall_cons ⟨dE _, (show 1 < 3 by decide), dI _, dI _, trivial⟩ (forall_cons ⟨dE _, dC _, trivial⟩ (forall_cons ⟨trivial, trivial, trivial⟩ forall_nil)))⟩
theorem q161 : Tryz.prog.funcs[161]? = some Tryz.f161 ∧ Tryz.f161.body.isNone = false := ⟨Tryz.func161, by kernel_rfl⟩
theorem k161 {M : Mach} {p1 : Tm} {p2 : List Tm} {fl : Int} {fu : Int} {r : Tm × Bool × Int × Int × Int} (h : CTri Tryz.prog 161 [.cells [.sl (flat entL M.l) (List.length M.l) .no, .mp 1 0, .sl (flat intC M.args) (List.length M.args) .no, .sl (flat intC M.own) (List.length M.own) .no], .cells [.sl (flat entL M.rl) (List.length M.rl) .no, .sl (flat conL M.parts) (List.length M.parts) .no], .cells [ai fl, ai fu]] [.mp 0 0, tmA p1, .sl (flat tmCells p2) (List.length p2) .no, .mp 2 0] (.tup [tmA r.1, ab r.2.1, ai r.2.2.1]) [.cells [.sl (flat entL M.l) (List.length M.l) .no, .mp 1 0, .sl (flat intC M.args) (List.length M.args) .no, .sl (flat intC M.own) (List.length M.own) .no], .cells [.sl (flat entL M.rl) (List.length M.rl) .no, .sl (flat conL M.parts) (List.length M.parts) .no], .cells [ai r.2.2.2.1, ai r.2.2.2.2]] 0) : CT Tryz.prog 161 [.cells [.sl (flat entL M.l) (List.length M.l) .no, .mp 1 0, .sl (flat intC M.args) (List.length M.args) .no, .sl (flat intC M.own) (List.length M.own) .no], .cells [.sl (flat entL M.rl) (List.length M.rl) .no, .sl (flat conL M.parts) (List.length M.parts) .no], .cells [ai fl, ai fu]] [.mp 0 0, tmA p1, .sl (flat tmCells p2) (List.length p2) .no, .mp 2 0] (.tup [tmA r.1, ab r.2.1, ai r.2.2.1]) [.cells [.sl (flat entL M.l) (List.length M.l) .no, .mp 1 0, .sl (flat intC M.args) (List.length M.args) .no, .sl (flat intC M.own) (List.length M.own) .no], .cells [.sl (flat entL M.rl) (List.length M.rl) .no, .sl (flat conL M.parts) (List.length M.parts) .no], .cells [ai r.2.2.2.1, ai r.2.2.2.2]] 0 := ⟨h, ⟨(show 0 < 3 by decide), ⟨trivial, trivial, ⟨trivial, dT _⟩, trivial⟩, ⟨trivial, dT _⟩, (show 2 < 3 by decide), trivial⟩, (forall_cons ⟨⟨trivial, dE _⟩, (show 1 < 3 by decide), ⟨trivial, dI _⟩, ⟨trivial, dI _⟩, trivial⟩ (forall_cons ⟨⟨trivial, dE _⟩, ⟨trivial, dC _⟩, trivial⟩ (forall_cons ⟨trivial, trivial, trivial⟩ forall_nil))), ⟨⟨trivial, trivial, dT _, trivial⟩, trivial, trivial, trivial⟩, (forall_cons ⟨dE _, (show 1 < 3 by decide), dI _, dI _, trivial⟩ (forall_cons ⟨dE _, dC _, trivial⟩ (forall_cons ⟨trivial, trivial, trivial⟩ forall_nil)))⟩
theorem q162 : Tryz.prog.funcs[162]? = some Tryz.f162 ∧ Tryz.f162.body.isNone = false := ⟨Tryz.func162, by kernel_rfl⟩
theorem k162 {M : Mach} {p1 : Tm} {p2 : List Tm} {fl : Int} {fu : Int} {r : Tm × Bool × Int × Int × Int} (h : CTri Tryz.prog 162 [.cells [.sl (flat entL M.l) (List.length M.l) .no, .mp 1 0, .sl (flat intC M.args) (List.length M.args) .no, .sl (flat intC M.own) (List.length M.own) .no], .cells [.sl (flat entL M.rl) (List.length M.rl) .no, .sl (flat conL M.parts) (List.length M.parts) .no], .cells [ai fl, ai fu]] [.mp 0 0, tmA p1, .sl (flat tmCells p2) (List.length p2) .no, .mp 2 0] (.tup [tmA r.1, ab r.2.1, ai r.2.2.1]) [.cells [.sl (flat entL M.l) (List.length M.l) .no, .mp 1 0, .sl (flat intC M.args) (List.length M.args) .no, .sl (flat intC M.own) (List.length M.own) .no], .cells [.sl (flat entL M.rl) (List.length M.rl) .no, .sl (flat conL M.parts) (List.length M.parts) .no], .cells [ai r.2.2.2.1, ai r.2.2.2.2]] 0) : CT Tryz.prog 162 [.cells [.sl (flat entL M.l) (List.length M.l) .no, .mp 1 0, .sl (flat intC M.args) (List.length M.args) .no, .sl (flat intC M.own) (List.length M.own) .no], .cells [.sl (flat entL M.rl) (List.length M.rl) .no, .sl (flat conL M.parts) (List.length M.parts) .no], .cells [ai fl, ai fu]] [.mp 0 0, tmA p1, .sl (flat tmCells p2) (List.length p2) .no, .mp 2 0] (.tup [tmA r.1, ab r.2.1, ai r.2.2.1]) [.cells [.sl (flat entL M.l) (List.length M.l) .no, .mp 1 0, .sl (flat intC M.args) (List.length M.args) .no, .sl (flat intC M.own) (List.length M.own) .no], .cells [.sl (flat entL M.rl) (List.length M.rl) .no, .sl (flat conL M.parts) (List.length M.parts) .no], .cells [ai r.2.2.2.1, ai r.2.2.2.2]] 0 := ⟨h, ⟨(show 0 < 3 by decide), ⟨trivial, trivial, ⟨trivial, dT _⟩, trivial⟩, ⟨trivial, dT _⟩, (show 2 < 3 by decide), trivial⟩, (forall_cons ⟨⟨trivial, dE _⟩, (show 1 < 3 by decide), ⟨trivial, dI _⟩, ⟨trivial, dI _⟩, trivial⟩ (forall_cons ⟨⟨trivial, dE _⟩, ⟨trivial, dC _⟩, trivial⟩ (forall_cons ⟨trivial, trivial, trivial⟩ forall_nil))), ⟨⟨trivial, trivial, dT _, trivial⟩, trivial, trivial, trivial⟩, (forall_cons ⟨dE _, (show 1 < 3 by decide), dI _, dI _, trivial⟩ (forall_cons ⟨dE _, dC _, trivial⟩ (forall_cons ⟨trivial, trivial, trivial⟩ forall_nil)))⟩
theorem a83_157_157L60545_161_162 : ∀ qq : Nat, (∀ (M : Mach) (p1 : Tm) (fl : Int) (fu : Int) (r : Tm × Bool × Int × Int × Int), e83 qq M p1 fl fu = some r → CT Tryz.prog 83 [.cells [.sl (flat entL M.l) (List.length M.l) .no, .mp 1 0, .sl (flat intC M.args) (List.length M.args) .no, .sl (flat intC M.own) (List.length M.own) .no], .cells [.sl (flat entL M.rl) (List.length M.rl) .no, .sl (flat conL M.parts) (List.length M.parts) .no], .cells [ai fl, ai fu]] [.mp 0 0, tmA p1, .mp 2 0] (.tup [tmA r.1, ab r.2.1, ai r.2.2.1]) [.cells [.sl (flat entL M.l) (List.length M.l) .no, .mp 1 0, .sl (flat intC M.args) (List.length M.args) .no, .sl (flat intC M.own) (List.length M.own) .no], .cells [.sl (flat entL M.rl) (List.length M.rl) .no, .sl (flat conL M.parts) (List.length M.parts) .no], .cells [ai r.2.2.2.1, ai r.2.2.2.2]] 0) ∧ (∀ (M : Mach) (p1 : Tm) (fl : Int) (fu : Int) (r : Tm × Int × Int × Int), e157 qq M p1 fl fu = some r → CT Tryz.prog 157 [.cells [.sl (flat entL M.l) (List.length M.l) .no, .mp 1 0, .sl (flat intC M.args) (List.length M.args) .no, .sl (flat intC M.own) (List.length M.own) .no], .cells [.sl (flat entL M.rl) (List.length M.rl) .no, .sl (flat conL M.parts) (List.length M.parts) .no], .cells [ai fl, ai fu]] [.mp 0 0, tmA p1, .mp 2 0] (.tup [tmA r.1, ai r.2.1]) [.cells [.sl (flat entL M.l) (List.length M.l) .no, .mp 1 0, .sl (flat intC M.args) (List.length M.args) .no, .sl (flat intC M.own) (List.length M.own) .no], .cells [.sl (flat entL M.rl) (List.length M.rl) .no, .sl (flat conL M.parts) (List.length M.parts) .no], .cells [ai r.2.2.1, ai r.2.2.2]] 0) ∧ (∀ (M : Mach) (vb2_0 : Int) (vb2_1 : Int) (vb3_0 : Int) (vb3_1 : Int) (vb3_2 : List Tm) (r : Tm × Int × Int × Int), e157L60545 qq M vb2_0 vb2_1 vb3_0 vb3_1 vb3_2 = some r → (∀ j, Dl Tryz.prog 3 (inn (inn (rgt (inn (rgt (bod Tryz.f157)))))) (g157L60545E0 j M vb2_0 vb2_1 vb3_0 vb3_1 vb3_2) (g157L60545S0 M vb2_0 vb2_1 vb3_0 vb3_1 vb3_2) (frameQ Tryz.prog 3 (FinQ Tryz.prog 3 Tryz.f157 (.tup [tmA r.1, ai r.2.1]) [.cells [.sl (flat entL M.l) (List.length M.l) .no, .mp 1 0, .sl (flat intC M.args) (List.length M.args) .no, .sl (flat intC M.own) (List.length M.own) .no], .cells [.sl (flat entL M.rl) (List.length M.rl) .no, .sl (flat conL M.parts) (List.length M.parts) .no], .cells [ai r.2.2.1, ai r.2.2.2]] 0) [.blk 0]))) ∧ (∀ (M : Mach) (p1 : Tm) (p2 : List Tm) (fl : Int) (fu : Int) (r : Tm × Bool × Int × Int × Int), e161 qq M p1 p2 fl fu = some r → CT Tryz.prog 161 [.cells [.sl (flat entL M.l) (List.length M.l) .no, .mp 1 0, .sl (flat intC M.args) (List.length M.args) .no, .sl (flat intC M.own) (List.length M.own) .no], .cells [.sl (flat entL M.rl) (List.length M.rl) .no, .sl (flat conL M.parts) (List.length M.parts) .no], .cells [ai fl, ai fu]] [.mp 0 0, tmA p1, .sl (flat tmCells p2) (List.length p2) .no, .mp 2 0] (.tup [tmA r.1, ab r.2.1, ai r.2.2.1]) [.cells [.sl (flat entL M.l) (List.length M.l) .no, .mp 1 0, .sl (flat intC M.args) (List.length M.args) .no, .sl (flat intC M.own) (List.length M.own) .no], .cells [.sl (flat entL M.rl) (List.length M.rl) .no, .sl (flat conL M.parts) (List.length M.parts) .no], .cells [ai r.2.2.2.1, ai r.2.2.2.2]] 0) ∧ (∀ (M : Mach) (p1 : Tm) (p2 : List Tm) (fl : Int) (fu : Int) (r : Tm × Bool × Int × Int × Int), e162 qq M p1 p2 fl fu = some r → CT Tryz.prog 162 [.cells [.sl (flat entL M.l) (List.length M.l) .no, .mp 1 0, .sl (flat intC M.args) (List.length M.args) .no, .sl (flat intC M.own) (List.length M.own) .no], .cells [.sl (flat entL M.rl) (List.length M.rl) .no, .sl (flat conL M.parts) (List.length M.parts) .no], .cells [ai fl, ai fu]] [.mp 0 0, tmA p1, .sl (flat tmCells p2) (List.length p2) .no, .mp 2 0] (.tup [tmA r.1, ab r.2.1, ai r.2.2.1]) [.cells [.sl (flat entL M.l) (List.length M.l) .no, .mp 1 0, .sl (flat intC M.args) (List.length M.args) .no, .sl (flat intC M.own) (List.length M.own) .no], .cells [.sl (flat entL M.rl) (List.length M.rl) .no, .sl (flat conL M.parts) (List.length M.parts) .no], .cells [ai r.2.2.2.1, ai r.2.2.2.2]] 0) := by
  intro qq
  induction qq with
  | zero =>
    exact ⟨fun _ _ _ _ _ h => nn h, fun _ _ _ _ _ h => nn h, fun _ _ _ _ _ _ _ h => nn h, fun _ _ _ _ _ _ h => nn h, fun _ _ _ _ _ _ h => nn h⟩
  | succ qq ih =>
    obtain ⟨ih83, ih157, ih157L60545, ih161, ih162⟩ := ih
    refine ⟨?_, ?_, ?_, ?_, ?_⟩
    · intro M p1 fl fu r h
      rw [e83] at h
      obtain ⟨r1, h2, h⟩ := obind h
      have k := oC 1 [] (c158 h2) o0
      rcases spl h with ⟨h3, h⟩ | ⟨h3, h⟩
      · have k := oB 5 h3 k
        rcases spl h with ⟨h4, h⟩ | ⟨h4, h⟩
        · obtain ⟨x5, h6, h⟩ := obind h
          obtain ⟨x7, h8, h⟩ := obind h
          obtain ⟨r9, h10, h⟩ := obind h
          obtain ⟨x11, h12, h⟩ := obind h
          obtain ⟨r13, h14, h⟩ := obind h
          have k := oC 0 [] (c142 h14) <| oA 4 (slFrom23 h12) <| oC 1 [] (c159 h10) <| oA 1 (ix23 (o := .no) h8) <| oA 1 (ix23 (o := .no) h6) <| oB 1 h4 k
          rcases spl h with ⟨h15, h⟩ | ⟨h15, h⟩
          · obtain rfl := sj h
            exact k83 (tF q83 2 [0, 1, 2] (oD (dT p1.sub) <| oD (dC M.parts) <| oD (dE M.rl) <| oD (dI M.own) <| oD (dI M.args) <| oD (dE M.l) <| oB 1 h15 k) (by kernel_rfl))
          · obtain ⟨r16, h17, h⟩ := obind h
            have k := oC 1 [2] (c163 h17) <| oB 1 h15 k
            rcases spl h with ⟨h18, h⟩ | ⟨h18, h⟩
            · obtain rfl := sj h
              exact k83 (tF q83 2 [0, 1, 2] (oD (dT p1.sub) <| oD (dC M.parts) <| oD (dE M.rl) <| oD (dI M.own) <| oD (dI M.args) <| oD (dE M.l) <| oB 0 h18 k) (by kernel_rfl))
            · obtain ⟨r19, h20, h⟩ := obind h
              obtain rfl := sj h
              exact k83 (tF q83 5 [0, 1, 2] (oD (dT r19.1.sub) <| oD (dC M.parts) <| oD (dE M.rl) <| oD (dI M.own) <| oD (dI M.args) <| oD (dE M.l) <| oC 1 [] (c164 h20) <| oB 0 h18 k) (by kernel_rfl))
        · obtain ⟨r21, h22, h⟩ := obind h
          have k := oC 1 [0, 1] (c160 h22) <| oB 1 h4 k
          rcases spl h with ⟨h23, h⟩ | ⟨h23, h⟩
          · obtain ⟨x24, h25, h⟩ := obind h
            obtain ⟨r26, h27, h⟩ := obind h
            obtain ⟨r28, h29, h⟩ := obind h
            have k := oC 3 [2] (c163 h29) <| oC 1 [] (c142 h27) <| oA 2 (ix22 (o := .no) h25) <| oB 0 h23 k
            rcases spl h with ⟨h30, h⟩ | ⟨h30, h⟩
            · obtain rfl := sj h
              exact k83 (tF q83 2 [0, 1, 2] (oD (dT p1.sub) <| oD (dC M.parts) <| oD (dE M.rl) <| oD (dI M.own) <| oD (dI M.args) <| oD (dE M.l) <| oB 0 h30 k) (by kernel_rfl))
            · obtain ⟨r31, h32, h⟩ := obind h
              obtain rfl := sj h
              exact k83 (tF q83 5 [0, 1, 2] (oD (dT r31.1.sub) <| oD (dC M.parts) <| oD (dE M.rl) <| oD (dI M.own) <| oD (dI M.args) <| oD (dE M.l) <| oC 1 [] (c164 h32) <| oB 0 h30 k) (by kernel_rfl))
          · obtain ⟨r33, h34, h⟩ := obind h
            have k := oC 1 [0, 1] (c160 h34) <| oB 0 h23 k
            rcases spl h with ⟨h35, h⟩ | ⟨h35, h⟩
            · obtain ⟨r36, h37, h⟩ := obind h
              have k := oC 1 [0, 1, 2] (ih161 _ _ _ _ _ _ h37) <| oB 0 h35 k
              rcases spl h with ⟨h38, h⟩ | ⟨h38, h⟩
              · have k := oB 1 h38 k
                rcases spl h with ⟨h39, h⟩ | ⟨h39, h⟩
                · obtain rfl := sj h
                  exact k83 (tF q83 2 [0, 1, 2] (oD (dT p1.sub) <| oD (dC M.parts) <| oD (dE M.rl) <| oD (dI M.own) <| oD (dI M.args) <| oD (dE M.l) <| oB 2 h39 k) (by kernel_rfl))
                · obtain ⟨r40, h41, h⟩ := obind h
                  have k := oC 1 [2] (c163 h41) <| oB 2 h39 k
                  rcases spl h with ⟨h42, h⟩ | ⟨h42, h⟩
                  · obtain rfl := sj h
                    exact k83 (tF q83 2 [0, 1, 2] (oD (dT p1.sub) <| oD (dC M.parts) <| oD (dE M.rl) <| oD (dI M.own) <| oD (dI M.args) <| oD (dE M.l) <| oB 0 h42 k) (by kernel_rfl))
                  · obtain ⟨r43, h44, h⟩ := obind h
                    obtain rfl := sj h
                    exact k83 (tF q83 5 [0, 1, 2] (oD (dT r43.1.sub) <| oD (dC M.parts) <| oD (dE M.rl) <| oD (dI M.own) <| oD (dI M.args) <| oD (dE M.l) <| oC 1 [] (c164 h44) <| oB 0 h42 k) (by kernel_rfl))
              · have k := oB 1 h38 k
                rcases spl h with ⟨h45, h⟩ | ⟨h45, h⟩
                · obtain rfl := sj h
                  exact k83 (tF q83 2 [0, 1, 2] (oD (dT p1.sub) <| oD (dC M.parts) <| oD (dE M.rl) <| oD (dI M.own) <| oD (dI M.args) <| oD (dE M.l) <| oB 2 h45 k) (by kernel_rfl))
                · obtain rfl := sj h
                  exact k83 (tF q83 3 [0, 1, 2] (oD (dT p1.sub) <| oD (dC M.parts) <| oD (dE M.rl) <| oD (dI M.own) <| oD (dI M.args) <| oD (dE M.l) <| oB 2 h45 k) (by kernel_rfl))
            · have k := oB 0 h35 k
              rcases spl h with ⟨h46, h⟩ | ⟨h46, h⟩
              · obtain ⟨r47, h48, h⟩ := obind h
                have k := oC 1 [0, 1, 2] (ih162 _ _ _ _ _ _ h48) <| oB 1 h46 k
                rcases spl h with ⟨h49, h⟩ | ⟨h49, h⟩
                · have k := oB 1 h49 k
                  rcases spl h with ⟨h50, h⟩ | ⟨h50, h⟩
                  · obtain rfl := sj h
                    exact k83 (tF q83 2 [0, 1, 2] (oD (dT p1.sub) <| oD (dC M.parts) <| oD (dE M.rl) <| oD (dI M.own) <| oD (dI M.args) <| oD (dE M.l) <| oB 2 h50 k) (by kernel_rfl))
                  · obtain ⟨r51, h52, h⟩ := obind h
                    have k := oC 1 [2] (c163 h52) <| oB 2 h50 k
                    rcases spl h with ⟨h53, h⟩ | ⟨h53, h⟩
                    · obtain rfl := sj h
                      exact k83 (tF q83 2 [0, 1, 2] (oD (dT p1.sub) <| oD (dC M.parts) <| oD (dE M.rl) <| oD (dI M.own) <| oD (dI M.args) <| oD (dE M.l) <| oB 0 h53 k) (by kernel_rfl))
                    · obtain ⟨r54, h55, h⟩ := obind h
                      obtain rfl := sj h
                      exact k83 (tF q83 5 [0, 1, 2] (oD (dT r54.1.sub) <| oD (dC M.parts) <| oD (dE M.rl) <| oD (dI M.own) <| oD (dI M.args) <| oD (dE M.l) <| oC 1 [] (c164 h55) <| oB 0 h53 k) (by kernel_rfl))
                · have k := oB 1 h49 k
                  rcases spl h with ⟨h56, h⟩ | ⟨h56, h⟩
                  · obtain rfl := sj h
                    exact k83 (tF q83 2 [0, 1, 2] (oD (dT p1.sub) <| oD (dC M.parts) <| oD (dE M.rl) <| oD (dI M.own) <| oD (dI M.args) <| oD (dE M.l) <| oB 2 h56 k) (by kernel_rfl))
                  · obtain rfl := sj h
                    exact k83 (tF q83 3 [0, 1, 2] (oD (dT p1.sub) <| oD (dC M.parts) <| oD (dE M.rl) <| oD (dI M.own) <| oD (dI M.args) <| oD (dE M.l) <| oB 2 h56 k) (by kernel_rfl))
              · obtain rfl := sj h
                exact k83 (tF q83 4 [0, 1, 2] (oD (dT p1.sub) <| oD (dC M.parts) <| oD (dE M.rl) <| oD (dI M.own) <| oD (dI M.args) <| oD (dE M.l) <| oB 1 h46 k) (by kernel_rfl))
      · obtain ⟨r57, h58, h⟩ := obind h
        have k := oC 1 [0, 1] (c160 h58) <| oB 5 h3 k
        rcases spl h with ⟨h59, h⟩ | ⟨h59, h⟩
        · obtain ⟨x60, h61, h⟩ := obind h
          obtain ⟨r62, h63, h⟩ := obind h
          obtain ⟨r64, h65, h⟩ := obind h
          have k := oC 3 [2] (c163 h65) <| oC 1 [] (c142 h63) <| oA 2 (ix22 (o := .no) h61) <| oB 0 h59 k
          rcases spl h with ⟨h66, h⟩ | ⟨h66, h⟩
          · obtain rfl := sj h
            exact k83 (tF q83 2 [0, 1, 2] (oD (dT p1.sub) <| oD (dC M.parts) <| oD (dE M.rl) <| oD (dI M.own) <| oD (dI M.args) <| oD (dE M.l) <| oB 0 h66 k) (by kernel_rfl))
          · obtain ⟨r67, h68, h⟩ := obind h
            obtain rfl := sj h
            exact k83 (tF q83 5 [0, 1, 2] (oD (dT r67.1.sub) <| oD (dC M.parts) <| oD (dE M.rl) <| oD (dI M.own) <| oD (dI M.args) <| oD (dE M.l) <| oC 1 [] (c164 h68) <| oB 0 h66 k) (by kernel_rfl))
        · obtain ⟨r69, h70, h⟩ := obind h
          have k := oC 1 [0, 1] (c160 h70) <| oB 0 h59 k
          rcases spl h with ⟨h71, h⟩ | ⟨h71, h⟩
          · obtain ⟨r72, h73, h⟩ := obind h
            have k := oC 1 [0, 1, 2] (ih161 _ _ _ _ _ _ h73) <| oB 0 h71 k
            rcases spl h with ⟨h74, h⟩ | ⟨h74, h⟩
            · have k := oB 1 h74 k
              rcases spl h with ⟨h75, h⟩ | ⟨h75, h⟩
              · obtain rfl := sj h
                exact k83 (tF q83 2 [0, 1, 2] (oD (dT p1.sub) <| oD (dC M.parts) <| oD (dE M.rl) <| oD (dI M.own) <| oD (dI M.args) <| oD (dE M.l) <| oB 2 h75 k) (by kernel_rfl))
              · obtain ⟨r76, h77, h⟩ := obind h
                have k := oC 1 [2] (c163 h77) <| oB 2 h75 k
                rcases spl h with ⟨h78, h⟩ | ⟨h78, h⟩
                · obtain rfl := sj h
                  exact k83 (tF q83 2 [0, 1, 2] (oD (dT p1.sub) <| oD (dC M.parts) <| oD (dE M.rl) <| oD (dI M.own) <| oD (dI M.args) <| oD (dE M.l) <| oB 0 h78 k) (by kernel_rfl))
                · obtain ⟨r79, h80, h⟩ := obind h
                  obtain rfl := sj h
                  exact k83 (tF q83 5 [0, 1, 2] (oD (dT r79.1.sub) <| oD (dC M.parts) <| oD (dE M.rl) <| oD (dI M.own) <| oD (dI M.args) <| oD (dE M.l) <| oC 1 [] (c164 h80) <| oB 0 h78 k) (by kernel_rfl))
            · have k := oB 1 h74 k
              rcases spl h with ⟨h81, h⟩ | ⟨h81, h⟩
              · obtain rfl := sj h
                exact k83 (tF q83 2 [0, 1, 2] (oD (dT p1.sub) <| oD (dC M.parts) <| oD (dE M.rl) <| oD (dI M.own) <| oD (dI M.args) <| oD (dE M.l) <| oB 2 h81 k) (by kernel_rfl))
              · obtain rfl := sj h
                exact k83 (tF q83 3 [0, 1, 2] (oD (dT p1.sub) <| oD (dC M.parts) <| oD (dE M.rl) <| oD (dI M.own) <| oD (dI M.args) <| oD (dE M.l) <| oB 2 h81 k) (by kernel_rfl))
          · have k := oB 0 h71 k
            rcases spl h with ⟨h82, h⟩ | ⟨h82, h⟩
            · obtain ⟨r83, h84, h⟩ := obind h
              have k := oC 1 [0, 1, 2] (ih162 _ _ _ _ _ _ h84) <| oB 1 h82 k
              rcases spl h with ⟨h85, h⟩ | ⟨h85, h⟩
              · have k := oB 1 h85 k
                rcases spl h with ⟨h86, h⟩ | ⟨h86, h⟩
                · obtain rfl := sj h
                  exact k83 (tF q83 2 [0, 1, 2] (oD (dT p1.sub) <| oD (dC M.parts) <| oD (dE M.rl) <| oD (dI M.own) <| oD (dI M.args) <| oD (dE M.l) <| oB 2 h86 k) (by kernel_rfl))
                · obtain ⟨r87, h88, h⟩ := obind h
                  have k := oC 1 [2] (c163 h88) <| oB 2 h86 k
                  rcases spl h with ⟨h89, h⟩ | ⟨h89, h⟩
                  · obtain rfl := sj h
                    exact k83 (tF q83 2 [0, 1, 2] (oD (dT p1.sub) <| oD (dC M.parts) <| oD (dE M.rl) <| oD (dI M.own) <| oD (dI M.args) <| oD (dE M.l) <| oB 0 h89 k) (by kernel_rfl))
                  · obtain ⟨r90, h91, h⟩ := obind h
                    obtain rfl := sj h
                    exact k83 (tF q83 5 [0, 1, 2] (oD (dT r90.1.sub) <| oD (dC M.parts) <| oD (dE M.rl) <| oD (dI M.own) <| oD (dI M.args) <| oD (dE M.l) <| oC 1 [] (c164 h91) <| oB 0 h89 k) (by kernel_rfl))
              · have k := oB 1 h85 k
                rcases spl h with ⟨h92, h⟩ | ⟨h92, h⟩
                · obtain rfl := sj h
                  exact k83 (tF q83 2 [0, 1, 2] (oD (dT p1.sub) <| oD (dC M.parts) <| oD (dE M.rl) <| oD (dI M.own) <| oD (dI M.args) <| oD (dE M.l) <| oB 2 h92 k) (by kernel_rfl))
                · obtain rfl := sj h
                  exact k83 (tF q83 3 [0, 1, 2] (oD (dT p1.sub) <| oD (dC M.parts) <| oD (dE M.rl) <| oD (dI M.own) <| oD (dI M.args) <| oD (dE M.l) <| oB 2 h92 k) (by kernel_rfl))
            · obtain rfl := sj h
              exact k83 (tF q83 4 [0, 1, 2] (oD (dT p1.sub) <| oD (dC M.parts) <| oD (dE M.rl) <| oD (dI M.own) <| oD (dI M.args) <| oD (dE M.l) <| oB 1 h82 k) (by kernel_rfl))
    · intro M p1 fl fu r h
      rw [e157] at h
      exact k157 (tH q157 0 [] [0, 1, 2, 3, 4] [] [0, 2, 4, 6] (oD (dT ([] : List Tm)) <| oD (dT p1.sub) <| oD (dC M.parts) <| oD (dE M.rl) <| oD (dI M.own) <| oD (dI M.args) <| oD (dE M.l) o0) (ih157L60545 _ _ _ _ _ _ _ h) (fun j => by kernel_rfl))
    · intro M vb2_0 vb2_1 vb3_0 vb3_1 vb3_2 r h
      rw [e157L60545] at h
      obtain ⟨r1, h2, h⟩ := obind h
      have k := oC 1 [0, 1, 2] (ih83 _ _ _ _ _ h2) o0
      rcases spl h with ⟨h3, h⟩ | ⟨h3, h⟩
      · have k := oB 1 h3 k
        rcases spl h with ⟨h4, h⟩ | ⟨h4, h⟩
        · obtain rfl := sj h
          exact fun j => lF 1 [0, 1, 2] (oD (dT ([] : List Tm)) <| oD (dC M.parts) <| oD (dE M.rl) <| oD (dI M.own) <| oD (dI M.args) <| oD (dE M.l) <| oB 2 h4 k) (by kernel_rfl)
        · exact fun j => lH 2 [] [0, 1, 2, 3, 4] [] [0, 2, 4, 6] (oD (dT ([] : List Tm)) <| oD (dT r1.1.sub) <| oD (dC M.parts) <| oD (dE M.rl) <| oD (dI M.own) <| oD (dI M.args) <| oD (dE M.l) <| oB 2 h4 k) (ih157L60545 _ _ _ _ _ _ _ h) (fun j => by kernel_rfl)
      · have k := oB 1 h3 k
        rcases spl h with ⟨h5, h⟩ | ⟨h5, h⟩
        · obtain rfl := sj h
          exact fun j => lF 1 [0, 1, 2] (oD (dT ([] : List Tm)) <| oD (dC M.parts) <| oD (dE M.rl) <| oD (dI M.own) <| oD (dI M.args) <| oD (dE M.l) <| oB 2 h5 k) (by kernel_rfl)
        · obtain rfl := sj h
          exact fun j => lF 2 [0, 1, 2] (oD (dT vb3_2) <| oD (dC M.parts) <| oD (dE M.rl) <| oD (dI M.own) <| oD (dI M.args) <| oD (dE M.l) <| oB 2 h5 k) (by kernel_rfl)
    · intro M p1 p2 fl fu r h
      rw [e161] at h
      obtain ⟨x1, h2, h⟩ := obind h
      have k := oA 2 (ix22 (o := .no) h2) o0
      rcases spl h with ⟨h3, h⟩ | ⟨h3, h⟩
      · obtain rfl := sj h
        exact k161 (tF q161 1 [0, 1, 2] (oD (dT ([] : List Tm)) <| oD (dC M.parts) <| oD (dE M.rl) <| oD (dI M.own) <| oD (dI M.args) <| oD (dE M.l) <| oB 2 h3 k) (by kernel_rfl))
      · obtain ⟨x4, h5, h⟩ := obind h
        obtain ⟨r6, h7, h⟩ := obind h
        have k := oC 1 [0, 1, 2] (ih157 _ _ _ _ _ h7) <| oA 0 (ix23 (o := .no) h5) <| oB 2 h3 k
        rcases spl h with ⟨h8, h⟩ | ⟨h8, h⟩
        · obtain rfl := sj h
          exact k161 (tF q161 1 [0, 1, 2] (oD (dT ([] : List Tm)) <| oD (dC M.parts) <| oD (dE M.rl) <| oD (dI M.own) <| oD (dI M.args) <| oD (dE M.l) <| oB 3 h8 k) (by kernel_rfl))
        · obtain ⟨r9, h10, h⟩ := obind h
          have k := oC 1 [0, 1] (c225 h10) <| oB 3 h8 k
          rcases spl h with ⟨h11, h⟩ | ⟨h11, h⟩
          · obtain ⟨x12, h13, h⟩ := obind h
            have k := oA 3 (ix22 (o := .no) h2) <| oA 2 (ix22 (o := .no) h13) <| oB 2 h11 k
            rcases spl h with ⟨h14, h⟩ | ⟨h14, h⟩
            · obtain rfl := sj h
              exact k161 (tF q161 1 [0, 1, 2] (oD (dT ([] : List Tm)) <| oD (dC M.parts) <| oD (dE M.rl) <| oD (dI M.own) <| oD (dI M.args) <| oD (dE M.l) <| oB 1 h14 k) (by kernel_rfl))
            · obtain ⟨x15, h16, h⟩ := obind h
              obtain ⟨r17, h18, h⟩ := obind h
              obtain ⟨x19, h20, h⟩ := obind h
              obtain ⟨r21, h22, h⟩ := obind h
              obtain rfl := sj h
              exact k161 (tF q161 1 [0, 1, 2] (oD (dT r21.sub) <| oD (dC M.parts) <| oD (dE M.rl) <| oD (dI M.own) <| oD (dI M.args) <| oD (dE M.l) <| oC 0 [] (c142 h22) <| oA 5 (slFrom23 h20) <| oC 0 [1] (c24 h18) <| oA 1 (slFrom23 h16) <| oA 3 (ix22 (o := .no) h13) <| oB 1 h14 k) (by kernel_rfl))
          · obtain rfl := sj h
            exact k161 (tF q161 2 [0, 1, 2] (oD (dT ([] : List Tm)) <| oD (dC M.parts) <| oD (dE M.rl) <| oD (dI M.own) <| oD (dI M.args) <| oD (dE M.l) <| oB 2 h11 k) (by kernel_rfl))
    · intro M p1 p2 fl fu r h
      rw [e162] at h
      rcases spl h with ⟨h1, h⟩ | ⟨h1, h⟩
      · obtain rfl := sj h
        exact k162 (tF q162 1 [0, 1, 2] (oD (dT ([] : List Tm)) <| oD (dC M.parts) <| oD (dE M.rl) <| oD (dI M.own) <| oD (dI M.args) <| oD (dE M.l) <| oB 3 h1 o0) (by kernel_rfl))
      · obtain ⟨x2, h3, h⟩ := obind h
        have k := oA 2 (ix22 (o := .no) h3) <| oB 3 h1 o0
        rcases spl h with ⟨h4, h⟩ | ⟨h4, h⟩
        · obtain rfl := sj h
          exact k162 (tF q162 1 [0, 1, 2] (oD (dT ([] : List Tm)) <| oD (dC M.parts) <| oD (dE M.rl) <| oD (dI M.own) <| oD (dI M.args) <| oD (dE M.l) <| oB 1 h4 k) (by kernel_rfl))
        · obtain ⟨x5, h6, h⟩ := obind h
          have k := oA 3 (ix34 (o := .no) h6) <| oB 1 h4 k
          rcases spl h with ⟨h7, h⟩ | ⟨h7, h⟩
          · obtain rfl := sj h
            exact k162 (tF q162 1 [0, 1, 2] (oD (dT ([] : List Tm)) <| oD (dC M.parts) <| oD (dE M.rl) <| oD (dI M.own) <| oD (dI M.args) <| oD (dE M.l) <| oB 1 h7 k) (by kernel_rfl))
          · obtain ⟨x8, h9, h⟩ := obind h
            obtain ⟨r10, h11, h⟩ := obind h
            have k := oC 1 [0, 1, 2] (ih157 _ _ _ _ _ h11) <| oA 2 (ix23 (o := .no) h9) <| oA 2 (ix34 (o := .no) h6) <| oB 1 h7 k
            rcases spl h with ⟨h12, h⟩ | ⟨h12, h⟩
            · obtain rfl := sj h
              exact k162 (tF q162 1 [0, 1, 2] (oD (dT ([] : List Tm)) <| oD (dC M.parts) <| oD (dE M.rl) <| oD (dI M.own) <| oD (dI M.args) <| oD (dE M.l) <| oB 3 h12 k) (by kernel_rfl))
            · obtain ⟨r13, h14, h⟩ := obind h
              have k := oC 1 [0, 1] (c225 h14) <| oB 3 h12 k
              rcases spl h with ⟨h15, h⟩ | ⟨h15, h⟩
              · obtain ⟨x16, h17, h⟩ := obind h
                have k := oA 2 (ix22 (o := .no) h17) <| oB 2 h15 k
                rcases spl h with ⟨h18, h⟩ | ⟨h18, h⟩
                · obtain rfl := sj h
                  exact k162 (tF q162 1 [0, 1, 2] (oD (dT ([] : List Tm)) <| oD (dC M.parts) <| oD (dE M.rl) <| oD (dI M.own) <| oD (dI M.args) <| oD (dE M.l) <| oB 2 h18 k) (by kernel_rfl))
                · obtain ⟨x19, h20, h⟩ := obind h
                  obtain ⟨x21, h22, h⟩ := obind h
                  obtain ⟨x23, h24, h⟩ := obind h
                  obtain ⟨r25, h26, h⟩ := obind h
                  obtain ⟨x27, h28, h⟩ := obind h
                  obtain ⟨r29, h30, h⟩ := obind h
                  obtain rfl := sj h
                  exact k162 (tF q162 1 [0, 1, 2] (oD (dT r29.sub) <| oD (dC M.parts) <| oD (dE M.rl) <| oD (dI M.own) <| oD (dI M.args) <| oD (dE M.l) <| oC 0 [] (c142 h30) <| oA 4 (slFrom23 h28) <| oC 0 [1] (c226 h26) <| oA 1 (slFrom23 h24) <| oA 6 (slTo23 h22) <| oA 5 (ix23 (o := .no) h20) <| oA 2 (ix22 (o := .no) h3) <| oB 2 h18 k) (by kernel_rfl))
              · obtain rfl := sj h
                exact k162 (tF q162 2 [0, 1, 2] (oD (dT ([] : List Tm)) <| oD (dC M.parts) <| oD (dE M.rl) <| oD (dI M.own) <| oD (dI M.args) <| oD (dE M.l) <| oB 2 h15 k) (by kernel_rfl))
theorem c83 {qq : Nat} {M : Mach} {p1 : Tm} {fl : Int} {fu : Int} {r : Tm × Bool × Int × Int × Int} (h : e83 qq M p1 fl fu = some r) : CT Tryz.prog 83 [.cells [.sl (flat entL M.l) (List.length M.l) .no, .mp 1 0, .sl (flat intC M.args) (List.length M.args) .no, .sl (flat intC M.own) (List.length M.own) .no], .cells [.sl (flat entL M.rl) (List.length M.rl) .no, .sl (flat conL M.parts) (List.length M.parts) .no], .cells [ai fl, ai fu]] [.mp 0 0, tmA p1, .mp 2 0] (.tup [tmA r.1, ab r.2.1, ai r.2.2.1]) [.cells [.sl (flat entL M.l) (List.length M.l) .no, .mp 1 0, .sl (flat intC M.args) (List.length M.args) .no, .sl (flat intC M.own) (List.length M.own) .no], .cells [.sl (flat entL M.rl) (List.length M.rl) .no, .sl (flat conL M.parts) (List.length M.parts) .no], .cells [ai r.2.2.2.1, ai r.2.2.2.2]] 0 := (a83_157_157L60545_161_162 _).1 _ _ _ _ _ h
theorem c157 {qq : Nat} {M : Mach} {p1 : Tm} {fl : Int} {fu : Int} {r : Tm × Int × Int × Int} (h : e157 qq M p1 fl fu = some r) : CT Tryz.prog 157 [.cells [.sl (flat entL M.l) (List.length M.l) .no, .mp 1 0, .sl (flat intC M.args) (List.length M.args) .no, .sl (flat intC M.own) (List.length M.own) .no], .cells [.sl (flat entL M.rl) (List.length M.rl) .no, .sl (flat conL M.parts) (List.length M.parts) .no], .cells [ai fl, ai fu]] [.mp 0 0, tmA p1, .mp 2 0] (.tup [tmA r.1, ai r.2.1]) [.cells [.sl (flat entL M.l) (List.length M.l) .no, .mp 1 0, .sl (flat intC M.args) (List.length M.args) .no, .sl (flat intC M.own) (List.length M.own) .no], .cells [.sl (flat entL M.rl) (List.length M.rl) .no, .sl (flat conL M.parts) (List.length M.parts) .no], .cells [ai r.2.2.1, ai r.2.2.2]] 0 := (a83_157_157L60545_161_162 _).2.1 _ _ _ _ _ h
theorem c161 {qq : Nat} {M : Mach} {p1 : Tm} {p2 : List Tm} {fl : Int} {fu : Int} {r : Tm × Bool × Int × Int × Int} (h : e161 qq M p1 p2 fl fu = some r) : CT Tryz.prog 161 [.cells [.sl (flat entL M.l) (List.length M.l) .no, .mp 1 0, .sl (flat intC M.args) (List.length M.args) .no, .sl (flat intC M.own) (List.length M.own) .no], .cells [.sl (flat entL M.rl) (List.length M.rl) .no, .sl (flat conL M.parts) (List.length M.parts) .no], .cells [ai fl, ai fu]] [.mp 0 0, tmA p1, .sl (flat tmCells p2) (List.length p2) .no, .mp 2 0] (.tup [tmA r.1, ab r.2.1, ai r.2.2.1]) [.cells [.sl (flat entL M.l) (List.length M.l) .no, .mp 1 0, .sl (flat intC M.args) (List.length M.args) .no, .sl (flat intC M.own) (List.length M.own) .no], .cells [.sl (flat entL M.rl) (List.length M.rl) .no, .sl (flat conL M.parts) (List.length M.parts) .no], .cells [ai r.2.2.2.1, ai r.2.2.2.2]] 0 := (a83_157_157L60545_161_162 _).2.2.2.1 _ _ _ _ _ _ h
theorem c162 {qq : Nat} {M : Mach} {p1 : Tm} {p2 : List Tm} {fl : Int} {fu : Int} {r : Tm × Bool × Int × Int × Int} (h : e162 qq M p1 p2 fl fu = some r) : CT Tryz.prog 162 [.cells [.sl (flat entL M.l) (List.length M.l) .no, .mp 1 0, .sl (flat intC M.args) (List.length M.args) .no, .sl (flat intC M.own) (List.length M.own) .no], .cells [.sl (flat entL M.rl) (List.length M.rl) .no, .sl (flat conL M.parts) (List.length M.parts) .no], .cells [ai fl, ai fu]] [.mp 0 0, tmA p1, .sl (flat tmCells p2) (List.length p2) .no, .mp 2 0] (.tup [tmA r.1, ab r.2.1, ai r.2.2.1]) [.cells [.sl (flat entL M.l) (List.length M.l) .no, .mp 1 0, .sl (flat intC M.args) (List.length M.args) .no, .sl (flat intC M.own) (List.length M.own) .no], .cells [.sl (flat entL M.rl) (List.length M.rl) .no, .sl (flat conL M.parts) (List.length M.parts) .no], .cells [ai r.2.2.2.1, ai r.2.2.2.2]] 0 := (a83_157_157L60545_161_162 _).2.2.2.2 _ _ _ _ _ _ h

end Go.Proofs.YteiddempdecleaaGreat

namespace Go.Proofs.YteiddempdecleaaGreat
open Go Go.Ab

theorem Outc.self {ρ : Type} {f : Int → Int → Nat → Option ρ} {er : ρ → Int} {Q : (Int → Int → ρ) → Int → Prop} {l : Int} (h : Outc f er Q l) : Outc f er (fun R k => Q R k ∧ 0 ≤ k ∧ FGood f er R k) l := by
  rcases h with ⟨R, k, h0, h1, h2, h3⟩ | h
  · exact .inl ⟨R, k, h0, h1, ⟨h2, h0, h3⟩, h3⟩
  · exact .inr h
abbrev er4 (r : Tm × Int × Int × Int) : Int := r.2.1
abbrev er5 (r : Tm × Bool × Int × Int × Int) : Int := r.2.2.1
/-- y is brought: a step at its head is none -/
def Still (l : List Ent) (y : Tm) : Prop := ∃ j, 0 ≤ j ∧ FGood (fun L U q => e83 q (machT l) y L U) er5 (fun L U => (y, false, 0, L, U)) j
def QB (l : List Ent) (R : Int → Int → Tm × Int × Int × Int) (_ : Int) : Prop := ∃ y, shapedT y = true ∧ Still l y ∧ R = fun L U => (y, 0, L, U)
def HB (l : List Ent) (x : Tm) (f : Int) : Prop := Outc (fun L U q => e157 q (machT l) x L U) er4 (QB l) f
def QF (R : Int → Int → Tm × Bool × Int × Int × Int) (_ : Int) : Prop := ∃ Y d e, Y.Ok ∧ R = fun L U => (Y, d, e, L, U)
def QO (x : Tm) (R : Int → Int → Tm × Bool × Int × Int × Int) (k : Int) : Prop := ∃ Y d, (d = true → shapedT Y = true ∧ 1 ≤ k) ∧ (d = false → Y = x) ∧ R = fun L U => (Y, d, 0, L, U)
theorem qf {Y : Tm} {d : Bool} {e k : Int} (h : Y.Ok) : QF (fun L U => (Y, d, e, L, U)) k := ⟨Y, d, e, h, rfl⟩

theorem machT_l (l : List Ent) : (machT l).l = l := rfl
theorem machT_rl (l : List Ent) : (machT l).rl = l := rfl
theorem machT_parts (l : List Ent) : (machT l).parts = evA l l.length 0 := rfl
theorem out_field {N : ByteArray → Bool} (l : List Ent) (hE : AllE N l) (p1 : Tm) (p2 : List Tm) (f : Int) (hf : 0 ≤ f) (h0 : 0 ≤ p1.n) (h1 : p1.n < l.length) (hk : (ent l p1.n).kind = 4) (ho : OkA p2) (hl : p2.length ≤ 8192) (hb : ∀ x ∈ p2, HB l x f) :
    Outc (fun L U q => e161 q (machT l) p1 p2 L U) er5 QF f := by
  have hp := (entryT_spec (hE.2 _ h0 h1)).2.2.2.1 hk
  unfold projT at hp
  simp only [Bool.and_eq_true] at hp
  have hw := ownedT_spec hp.1
  have hfam := familyT_spec ((entryT_spec (hE.2 _ hw.1 (by omega))).2.1 hw.2.2.1)
  refine Outc.succ ?_
  simp only [e161, machT_l, machT_rl, machT_parts]
  refine Outc.pure (gidx_ent h0 h1) (Outc.ite (fun _ => Outc.ret hf (qf (leaf_ok 0 0))) fun hn => ?_)
  have hn' := of_decide_eq_false hn
  obtain ⟨x, hx, hm⟩ := gidx_lt (l := p2) (i := (ent l p1.n).pars) (by omega) (by omega)
  refine Outc.pure hx (Outc.bind (hb x hm) (fun r hr => ⟨_, Evt.ifT (by simpa using hr) Evt.ret, rfl⟩) ?_)
  rintro R k k0 k1 ⟨y, hy, -, rfl⟩
  dsimp only
  refine Outc.ite (fun h => by simp at h) fun _ => ?_
  obtain ⟨r, hr, hc⟩ := tot_con l y hy
  refine Outc.evt hr (Outc.ite (fun hT => ?_) fun _ => Outc.ret (by omega) (qf (leaf_ok 0 0)))
  obtain ⟨c0, c1, c2, c3, c4⟩ := hc hT
  obtain ⟨A, z, a1, -, -, a4, a5, a6, a7, -⟩ := con_facts hE c0 c1 c2
  have hra : OkA r.2.1 := by rw [c3]; exact fun x hx => shaped_ok (ar_shaped hy hx)
  have hrl : r.2.1.length ≤ 1073741824 := by
    have hs := shapedT_spec hy
    have := ar_len _ hs.2.2
    rw [c3]; omega
  refine Outc.pure (gidx_ent c0 c1) (Outc.ite (fun _ => Outc.ret (by omega) (qf (leaf_ok 0 0))) fun _ => Outc.pure (gsl_from a6 (by omega)) ?_)
  obtain ⟨r17, h17, f17⟩ := tot_Field l (evA l l.length 0) p1.n (r.2.1.drop (ent l r.1).pars.toNat) hE (hra.drop _) (by rw [List.length_drop]; omega)
  refine Outc.evt h17 ?_
  rw [w64_id (x := (ent l p1.n).pars + 1) (by omega) (by omega)]
  refine Outc.pure (gsl_from (by omega) (by omega)) (Outc.evt (ev_Apply r17.1 _ (by rw [List.length_drop]; omega)) (Outc.ret (by omega) (qf (apT_ok _ _ f17 (ho.drop _)))))

theorem out_elim {N : ByteArray → Bool} (l : List Ent) (hE : AllE N l) (p1 : Tm) (p2 : List Tm) (f : Int) (hf : 0 ≤ f) (hg : goodT p1 = true) (hk : p1.k = 7) (ho : OkA p2) (hl : p2.length ≤ 8192) (hb : ∀ x ∈ p2, HB l x f) :
    Outc (fun L U q => e162 q (machT l) p1 p2 L U) er5 QF f := by
  have h0 := good_n hg
  refine Outc.succ ?_
  simp only [e162, machT_l, machT_rl, machT_parts]
  refine Outc.ite (fun _ => Outc.ret hf (qf (leaf_ok 0 0))) fun hn => ?_
  have h1 : p1.n < l.length := by have := of_decide_eq_false hn; omega
  refine Outc.pure (gidx_ent h0 h1) (Outc.ite (fun _ => Outc.ret hf (qf (leaf_ok 0 0))) fun hk1 => ?_)
  have hk1' : (ent l p1.n).kind = 1 := by simpa using hk1
  have hfam := familyT_spec ((entryT_spec (hE.2 _ h0 h1)).2.1 hk1')
  refine Outc.pure (args_idx h0 h1) ?_
  unfold argsT
  rw [if_pos hk1']
  refine Outc.ite (fun _ => Outc.ret hf (qf (leaf_ok 0 0))) fun hn => ?_
  have hn' := of_decide_eq_false hn
  rw [w64_id (x := (ent l p1.n).pars + 2 + (ent l p1.n).cons.length + (ent l p1.n).inds - 1) (by omega) (by omega)]
  obtain ⟨x, hx, hm⟩ := gidx_lt (l := p2) (i := (ent l p1.n).pars + 2 + (ent l p1.n).cons.length + (ent l p1.n).inds - 1) (by omega) (by omega)
  refine Outc.pure hx (Outc.bind (hb x hm) (fun r hr => ⟨_, Evt.ifT (by simpa using hr) Evt.ret, rfl⟩) ?_)
  rintro R k k0 k1 ⟨y, hy, -, rfl⟩
  dsimp only
  refine Outc.ite (fun h => by simp at h) fun _ => ?_
  obtain ⟨r, hr, hc⟩ := tot_con l y hy
  refine Outc.evt hr (Outc.ite (fun hT => ?_) fun _ => Outc.ret (by omega) (qf (leaf_ok 0 0)))
  obtain ⟨c0, c1, c2, c3, c4⟩ := hc hT
  obtain ⟨A, z, a1, -, -, a4, a5, a6, a7, -, -, -, a8, -⟩ := con_facts hE c0 c1 c2
  have hra : OkA r.2.1 := by rw [c3]; exact fun x hx => shaped_ok (ar_shaped hy hx)
  have hrl : r.2.1.length ≤ 8192 := by
    have hs := shapedT_spec hy
    have := ar_len _ hs.2.2
    rw [c3]; omega
  refine Outc.pure (gidx_ent c0 c1) (Outc.ite (fun _ => Outc.ret (by omega) (qf (leaf_ok 0 0))) fun hfm => ?_)
  have hfm' : (ent l r.1).fam = p1.n := by simpa using hfm
  rw [hfm'] at a8
  have hsub : ∃ s, p1.sub = [s] := by
    obtain ⟨kk, nn, ss⟩ := p1
    obtain ⟨s, hs, -⟩ := (head_spec (goodT_mk hg).1).2.2.2.2.2.2.1 hk
    exact ⟨s, hs⟩
  obtain ⟨s, hs⟩ := hsub
  rw [w64_id (x := (ent l p1.n).pars + 1) (by omega) (by omega), w64_id (x := (ent l p1.n).pars + 1 + (ent l p1.n).cons.length) (by omega) (by omega)]
  refine Outc.pure (a := s) (by rw [hs]; rfl) (Outc.pure (gsl_mid (by omega) (by omega) (by omega)) (Outc.pure (gsl_from (by omega) (by omega)) ?_))
  obtain ⟨r25, h25, f25⟩ := tot_Step l p1.n s.n r.1 ((p2.drop 0).take ((ent l p1.n).pars + 1 + (ent l p1.n).cons.length - 0).toNat) (r.2.1.drop (ent l p1.n).pars.toNat) hE ((ho.drop _).take _) (hra.drop _) (by rw [List.length_take, List.length_drop]; omega) (by rw [List.length_drop]; omega)
  refine Outc.evt h25 (Outc.pure (gsl_from (by omega) (by omega)) (Outc.evt (ev_Apply r25.1 _ (by rw [List.length_drop]; omega)) (Outc.ret (by omega) (qf (apT_ok _ _ f25 (ho.drop _))))))
end Go.Proofs.YteiddempdecleaaGreat

namespace Go.Proofs.YteiddempdecleaaGreat
open Go Go.Ab

theorem out_fin (p Y : Tm) (f : Int) (hf : 0 ≤ f) (ho : Y.Ok) : Outc (fun L U q => (e163 q L U) >>= fun r28 => if (r28.1 != 0) = true then some (p, false, r28.1, r28.2.1, r28.2.2) else (e164 q Y) >>= fun r31 => some (r31.1, true, r31.2, r28.2.1, r28.2.2)) er5 (QO p) f := by
  refine Outc.bind (out_step f hf) (fun r hr => ⟨_, Evt.ifT (by simpa using hr) Evt.ret, rfl⟩) ?_
  rintro R k k0 k1 ⟨rfl, rfl⟩
  dsimp only
  refine Outc.ite (fun h => by simp at h) fun _ => Outc.evt (ev_wshaped Y ho) ?_
  unfold wshT
  by_cases h : shapedT Y = true
  · rw [if_pos h]
    exact Outc.ret (by omega) ⟨Y, true, fun _ => ⟨h, by omega⟩, fun h => (by cases h), rfl⟩
  · rw [if_neg h]
    exact Outc.err (fun _ _ => by show (2 : Int) ≠ 0; decide)
theorem out_tail (p : Tm) (f : Int) (hf : 0 ≤ f) {g : Int → Int → Nat → Option (Tm × Bool × Int × Int × Int)} (h : Outc g er5 QF f) :
    Outc (fun L U q => g L U q >>= fun r36 => if r36.2.1 = true then (if (r36.2.2.1 != 0) = true then some (p, false, r36.2.2.1, r36.2.2.2.1, r36.2.2.2.2) else
      (e163 q r36.2.2.2.1 r36.2.2.2.2) >>= fun r40 => if (r40.1 != 0) = true then some (p, false, r40.1, r40.2.1, r40.2.2) else (e164 q r36.1) >>= fun r43 => some (r43.1, true, r43.2, r40.2.1, r40.2.2))
      else (if (r36.2.2.1 != 0) = true then some (p, false, r36.2.2.1, r36.2.2.2.1, r36.2.2.2.2) else some (p, false, r36.2.2.1, r36.2.2.2.1, r36.2.2.2.2))) er5 (QO p) f := by
  refine Outc.bind h (fun r hr => ?_) ?_
  · have hr' : (r.2.2.1 != 0) = true := by simpa using hr
    cases hd : r.2.1 with
    | true => exact ⟨_, Evt.ifT rfl (Evt.ifT hr' Evt.ret), rfl⟩
    | false => exact ⟨_, Evt.ifF rfl (Evt.ifT hr' Evt.ret), rfl⟩
  · rintro R k k0 k1 ⟨Y, d, e, hY, rfl⟩
    dsimp only
    cases d with
    | true =>
      refine Outc.ite (fun _ => Outc.ite (fun h => Outc.err (fun _ _ => by simpa using h)) fun _ => ?_) fun h => by cases h
      refine (out_fin p Y (f - k) (by omega) hY).mono ?_
      rintro R n ⟨Z, d, h1, h2, h3⟩
      exact ⟨Z, d, fun h => ⟨(h1 h).1, by have := (h1 h).2; omega⟩, h2, h3⟩
    | false =>
      refine Outc.ite (fun h => by cases h) fun _ => Outc.ite (fun h => Outc.err (fun _ _ => by simpa using h)) fun h => ?_
      have : e = 0 := by simpa using h
      subst this
      exact Outc.ret (by omega) ⟨p, false, fun h => (by cases h), fun _ => rfl, rfl⟩

theorem out_once {N : ByteArray → Bool} (l : List Ent) (hE : AllE N l) (he : ∀ e ∈ l, EOk e) (x : Tm) (hs : shapedT x = true) (f : Int) (hf : 0 ≤ f) (hb : ∀ a ∈ arT x, HB l a f) : Outc (fun L U q => e83 q (machT l) x L U) er5 (QO x) f := by
  have hh := hd_shaped hs
  have hg := (shapedT_spec hh).2.2
  have hn := good_n hg
  have ho : OkA (arT x) := fun y hy => shaped_ok (ar_shaped hs hy)
  have hl : (arT x).length ≤ 8192 := by
    have h := shapedT_spec hs
    have := ar_len _ h.2.2
    omega
  have none' : Outc (fun L U q => some (x, false, 0, L, U)) er5 (QO x) f := Outc.ret hf ⟨x, false, fun h => (by cases h), fun _ => rfl, rfl⟩
  refine Outc.succ ?_
  simp only [e83, machT_l, machT_rl, machT_parts]
  refine Outc.evt (ev_Spine x hs) (Outc.ite (fun h4 => ?_) fun h4 => ?_)
  · have h4' : (hdT x).k = 4 := by simpa using h4
    have hkk : ∀ k : Int, k ≠ 0 → kindT l (hdT x) ≠ k := fun k hk e => by have := (kindT_spec e hk).1; omega
    refine Outc.ite (fun hlen => ?_) fun _ => ?_
    · have hlen' := of_decide_eq_true hlen
      have hsub : ∃ a b, (hdT x).sub = [a, b] := by
        revert hg h4'
        generalize hdT x = y
        intro hg h4'
        obtain ⟨kk, nn, ss⟩ := y
        exact sub2 ((head_spec (goodT_mk hg).1).2.2.2.2.2.1 (.inr (.inl h4'))).1
      obtain ⟨a, b, hab⟩ := hsub
      have hbo : b.Ok := by
        have h := good_ok _ hg
        rw [← tm_eta (hdT x), hab, Tm.Ok, OkL, OkL] at h
        exact h.2.2.1
      obtain ⟨y, hy, hm⟩ := gidx_lt (l := arT x) (i := 0) (by omega) (by omega)
      refine Outc.pure (a := b) (by rw [hab]; rfl) (Outc.pure hy (Outc.evt (ev_One b y hbo (ho y hm)) (Outc.pure (gsl_from (by omega) (by omega)) (Outc.evt (ev_Apply _ _ (by show (List.drop _ (arT x)).length < _; rw [List.length_drop]; omega)) ?_))))
      refine Outc.ite (fun h => Outc.err (fun _ _ => by simpa using h)) fun _ => ?_
      exact out_fin x _ f hf (apT_ok _ _ (subT_ok b [y] hbo (OkA.one (ho y hm))) (ho.drop _))
    · refine Outc.evt (ev_wkind l _ hn) (Outc.ite (fun h => absurd (by simpa using h) (hkk 3 (by decide))) fun _ => ?_)
      refine Outc.evt (ev_wkind l _ hn) (Outc.ite (fun h => absurd (by simpa using h) (hkk 4 (by decide))) fun _ => ?_)
      exact Outc.ite (fun h => by rw [h4'] at h; exact absurd h (by decide)) fun _ => none'
  · refine Outc.evt (ev_wkind l _ hn) (Outc.ite (fun h => ?_) fun _ => ?_)
    · have hk := kindT_spec (l := l) (t := hdT x) (k := 3) (by simpa using h) (by decide)
      refine Outc.pure (gidx_ent hn hk.2.1) (Outc.evt (ev_Apply _ _ (by show (arT x).length < _; omega)) ?_)
      exact out_fin x _ f hf (apT_ok _ _ (he _ (ent_mem hn hk.2.1)).2.1 ho)
    · refine Outc.evt (ev_wkind l _ hn) (Outc.ite (fun h => ?_) fun _ => ?_)
      · have hk := kindT_spec (l := l) (t := hdT x) (k := 4) (by simpa using h) (by decide)
        exact out_tail x f hf (out_field l hE (hdT x) (arT x) f hf hn hk.2.1 hk.2.2 ho hl hb)
      · exact Outc.ite (fun h => out_tail x f hf (out_elim l hE (hdT x) (arT x) f hf hg (by simpa using h) ho hl hb)) fun _ => none'

theorem out_bring {N : ByteArray → Bool} (l : List Ent) (hE : AllE N l) (he : ∀ e ∈ l, EOk e) : ∀ (F n : Nat) (x : Tm), shapedT x = true → x.nodes ≤ n → Outc (fun L U q => e157L60545 q (machT l) L U x.k x.n x.sub) er4 (QB l) (F : Int) := by
  intro F
  induction F using Nat.strongRecOn with
  | ind F IH =>
    intro n
    induction n with
    | zero => intro x _ h; have := nodes_pos x; omega
    | succ n ih =>
      intro x hs hn
      have hg := (shapedT_spec hs).2.2
      have hb : ∀ a ∈ arT x, HB l a F := fun a ha => by
        have := ((hd_spec x hg).2.2.2.2 a ha).2.1
        refine Outc.succ ?_
        simp only [e157]
        exact ih a (ar_shaped hs ha) (by omega)
      refine Outc.succ ?_
      simp only [e157L60545, tm_eta]
      refine Outc.bind (out_once l hE he x hs F (by omega) hb).self (fun r hr => ?_) ?_
      · have hr' : (r.2.2.1 != 0) = true := by simpa using hr
        cases hd : r.2.1 with
        | true => exact ⟨_, Evt.ifT rfl (Evt.ifT hr' Evt.ret), rfl⟩
        | false => exact ⟨_, Evt.ifF rfl (Evt.ifT hr' Evt.ret), rfl⟩
      · rintro R k k0 k1 ⟨⟨Y, d, h1, h2, rfl⟩, -, hG⟩
        dsimp only
        cases d with
        | true =>
          refine Outc.ite (fun _ => Outc.ite (fun h => by simp at h) fun _ => ?_) fun h => by cases h
          have h1' := h1 rfl
          have := IH ((F : Int) - k).toNat (by omega) Y.nodes Y h1'.1 (Nat.le_refl _)
          rw [show ((((F : Int) - k).toNat : Nat) : Int) = F - k by omega] at this
          exact this
        | false =>
          refine Outc.ite (fun h => by cases h) fun _ => Outc.ite (fun h => by simp at h) fun _ => ?_
          have := h2 rfl
          subst this
          exact Outc.ret (by omega) ⟨_, hs, ⟨k, k0, hG⟩, rfl⟩
theorem hb_all {N : ByteArray → Bool} (l : List Ent) (hE : AllE N l) (he : ∀ e ∈ l, EOk e) (x : Tm) (hs : shapedT x = true) (f : Int) (hf : 0 ≤ f) : HB l x f := by
  refine Outc.succ ?_
  simp only [e157]
  have := out_bring l hE he f.toNat x.nodes x hs (Nat.le_refl _)
  rwa [show ((f.toNat : Nat) : Int) = f by omega] at this
end Go.Proofs.YteiddempdecleaaGreat

namespace Go.Proofs.YteiddempdecleaaGreat
open Go Go.Ab

/- (*sync/atomic.Int64).Load -/
def e114va35861 (qq : Nat) (q0 : Int) (q1 : Int) : Option (Int) :=
  some q1
theorem q114va35861 : Tryz.prog.funcs[114]? = some Tryz.f114 ∧ Tryz.f114.body.isNone = false := ⟨Tryz.func114, by kernel_rfl⟩
theorem k114va35861 {q0 : Int} {q1 : Int} {r : Int} (h : CTri Tryz.prog 114 [.cells [ai q0, ai q1]] [.mp 0 1] (ai r) [.cells [ai q0, ai q1]] 0) : CT Tryz.prog 114 [.cells [ai q0, ai q1]] [.mp 0 1] (ai r) [.cells [ai q0, ai q1]] 0 := ⟨h, ⟨(show 0 < 1 by decide), trivial⟩, (forall_cons ⟨trivial, trivial, trivial⟩ forall_nil), trivial, (forall_cons ⟨trivial, trivial, trivial⟩ forall_nil)⟩
theorem c114va35861 {qq : Nat} {q0 : Int} {q1 : Int} {r : Int} (h : e114va35861 qq q0 q1 = some r) : CT Tryz.prog 114 [.cells [ai q0, ai q1]] [.mp 0 1] (ai r) [.cells [ai q0, ai q1]] 0 := by
  unfold e114va35861 at h
  obtain rfl := sj h
  exact k114va35861 (tF q114va35861 1 [0] (o0) (by kernel_rfl))

end Go.Proofs.YteiddempdecleaaGreat

namespace Go.Proofs.YteiddempdecleaaGreat
open Go Go.Ab

/- scholium/scholiumref07.Equal -/
mutual
def e25 : Nat → Tm → Tm →  Option (Bool)
  | 0, _, _ => none
  | qq + 1, p0, p1 =>
    if (p0.k != p1.k) = true then
      some false
    else
      if (p0.n != p1.n) = true then
        some false
      else
        if ((List.length p0.sub : Int) != (List.length p1.sub : Int)) = true then
          some false
        else
          e25L12 qq p0 p1 0
def e25L12 : Nat → Tm → Tm → Int →  Option (Bool)
  | 0, _, _, _ => none
  | qq + 1, p0, p1, v5 =>
    if decide (v5 < (List.length p0.sub : Int)) = true then
      (gidx p0.sub v5) >>= fun x5 =>
      (gidx p1.sub v5) >>= fun x7 =>
      (e25 qq x5 x7) >>= fun r9 =>
      if r9 = true then
        e25L12 qq p0 p1 (w64 (v5 + 1))
      else
        some false
    else
      some true
end
def g25L12E0 (j : Nat → Value) (p0 : Tm) (p1 : Tm) (v5 : Int) : List AV := sp j 46 0 [(2, .mp 0 0), (3, .mp 1 0), (5, ai v5)]
def g25L12S0 (p0 : Tm) (p1 : Tm) (v5 : Int) : LSt := ⟨[(0, .cells [ai p0.k, ai p0.n, .sl (flat tmCells p0.sub) (List.length p0.sub) .no]), (1, .cells [ai p1.k, ai p1.n, .sl (flat tmCells p1.sub) (List.length p1.sub) .no])], 2, [], 0, []⟩
theorem q25 : Tryz.prog.funcs[25]? = some Tryz.f25 ∧ Tryz.f25.body.isNone = false := ⟨Tryz.func25, by kernel_rfl⟩
theorem k25 {p0 : Tm} {p1 : Tm} {r : Bool} (h : CTri Tryz.prog 25 [] [tmA p0, tmA p1] (ab r) [] 0) : CT Tryz.prog 25 [] [tmA p0, tmA p1] (ab r) [] 0 := ⟨h, ⟨⟨trivial, trivial, ⟨trivial, dT _⟩, trivial⟩, ⟨trivial, trivial, ⟨trivial, dT _⟩, trivial⟩, trivial⟩, forall_nil, trivial, forall_nil⟩
theorem a25_25L12 : ∀ qq : Nat, (∀ (p0 : Tm) (p1 : Tm) (r : Bool), e25 qq p0 p1 = some r → CT Tryz.prog 25 [] [tmA p0, tmA p1] (ab r) [] 0) ∧ (∀ (p0 : Tm) (p1 : Tm) (v5 : Int) (r : Bool), e25L12 qq p0 p1 v5 = some r → (∀ j, Dl Tryz.prog 0 (inn (inn (rgt (lft (rgt (rgt (bod Tryz.f25))))))) (g25L12E0 j p0 p1 v5) (g25L12S0 p0 p1 v5) (frameQ Tryz.prog 0 (FinQ Tryz.prog 0 Tryz.f25 (ab r) [] 0) [.blk 0, .seq (rgt (rgt (rgt (bod Tryz.f25))))]))) := by
  intro qq
  induction qq with
  | zero =>
    exact ⟨fun _ _ _ h => nn h, fun _ _ _ _ h => nn h⟩
  | succ qq ih =>
    obtain ⟨ih25, ih25L12⟩ := ih
    refine ⟨?_, ?_⟩
    · intro p0 p1 r h
      rw [e25] at h
      rcases spl h with ⟨h1, h⟩ | ⟨h1, h⟩
      · obtain rfl := sj h
        exact k25 (tF q25 0 [] (oB 2 h1 o0) (by kernel_rfl))
      · have k := oB 2 h1 o0
        rcases spl h with ⟨h2, h⟩ | ⟨h2, h⟩
        · obtain rfl := sj h
          exact k25 (tF q25 0 [] (oB 2 h2 k) (by kernel_rfl))
        · have k := oB 2 h2 k
          rcases spl h with ⟨h3, h⟩ | ⟨h3, h⟩
          · obtain rfl := sj h
            exact k25 (tF q25 0 [] (oB 4 h3 k) (by kernel_rfl))
          · exact k25 (tH q25 0 [] [0, 1] [] [2, 3, 5] (oD (dT p1.sub) <| oD (dT p0.sub) <| oB 4 h3 k) (ih25L12 _ _ _ _ h) (fun j => by kernel_rfl))
    · intro p0 p1 v5 r h
      rw [e25L12] at h
      rcases spl h with ⟨h4, h⟩ | ⟨h4, h⟩
      · obtain ⟨x5, h6, h⟩ := obind h
        obtain ⟨x7, h8, h⟩ := obind h
        obtain ⟨r9, h10, h⟩ := obind h
        have k := oA 2 (ix23 (o := .no) h8) <| oA 1 (ix23 (o := .no) h6) <| oB 2 h4 o0
        rcases spl h with ⟨h11, h⟩ | ⟨h11, h⟩
        · exact fun j => lH 2 [] [0, 1] [] [2, 3, 5] (oD (dT p1.sub) <| oD (dT p0.sub) <| oK 1 [] h11 (ih25 _ _ _ h10) k) (ih25L12 _ _ _ _ h) (fun j => by kernel_rfl)
        · obtain rfl := sj h
          exact fun j => lF 1 [] (oK 1 [] h11 (ih25 _ _ _ h10) k) (by kernel_rfl)
      · obtain rfl := sj h
        exact fun j => lF 0 [] (oB 2 h4 o0) (by kernel_rfl)
theorem c25 {qq : Nat} {p0 : Tm} {p1 : Tm} {r : Bool} (h : e25 qq p0 p1 = some r) : CT Tryz.prog 25 [] [tmA p0, tmA p1] (ab r) [] 0 := (a25_25L12 _).1 _ _ _ h

end Go.Proofs.YteiddempdecleaaGreat

namespace Go.Proofs.YteiddempdecleaaGreat
open Go Go.Ab

/- scholium/scholiumref07.Size -/
def e77L26398 : Nat → (List Tm) → Int →  Option (Int)
  | 0, _, _ => none
  | qq + 1, v3, v4 =>
    if decide ((List.length v3 : Int) > 0) = true then
      if decide (v4 ≤ 8192) = true then
        (gidx v3 (w64 ((List.length v3 : Int) - 1))) >>= fun x3 =>
        (gsl v3 0 (w64 ((List.length v3 : Int) - 1))) >>= fun x5 =>
        (gapp 40 ([] : List Tm) x5) >>= fun l7 =>
        (gsl x3.sub 0 (imin (List.length x3.sub : Int) 8193)) >>= fun x10 =>
        (gapp 40 l7 x10) >>= fun l12 =>
        e77L26398 qq l12 (w64 (v4 + 1))
      else
        some v4
    else
      some v4
def e77 (qq : Nat) (p0 : Tm) : Option (Int) :=
  e77L26398 qq [p0] 0
def g77L26398E0 (j : Nat → Value) (v3 : List Tm) (v4 : Int) : List AV := sp j 39 0 [(3, .sl (flat tmCells v3) (List.length v3) .full), (4, ai v4)]
def g77L26398S0 (v3 : List Tm) (v4 : Int) : LSt := ⟨[], 0, [], 0, []⟩
def g77L26398E1 (j : Nat → Value) (v3 : List Tm) (v4 : Int) : List AV := sp j 39 0 [(3, .sl (flat tmCells v3) (List.length v3) (.st 0 3)), (4, ai v4)]
def g77L26398S1 (v3 : List Tm) (v4 : Int) : LSt := ⟨[], 0, [0], 1, []⟩
theorem q77 : Tryz.prog.funcs[77]? = some Tryz.f77 ∧ Tryz.f77.body.isNone = false := ⟨Tryz.func77, by kernel_rfl⟩
theorem k77 {p0 : Tm} {r : Int} (h : CTri Tryz.prog 77 [] [tmA p0] (ai r) [] 0) : CT Tryz.prog 77 [] [tmA p0] (ai r) [] 0 := ⟨h, ⟨⟨trivial, trivial, ⟨trivial, dT _⟩, trivial⟩, trivial⟩, forall_nil, trivial, forall_nil⟩
theorem l77L26398 : ∀ qq : Nat, (∀ (v3 : List Tm) (v4 : Int) (r : Int), e77L26398 qq v3 v4 = some r → (∀ j, Dl Tryz.prog 0 (inn (inn (lft (rgt (rgt (rgt (bod Tryz.f77))))))) (g77L26398E0 j v3 v4) (g77L26398S0 v3 v4) (frameQ Tryz.prog 0 (FinQ Tryz.prog 0 Tryz.f77 (ai r) [] 0) [.blk 0, .seq (rgt (rgt (rgt (rgt (bod Tryz.f77)))))])) ∧ (∀ j, Dl Tryz.prog 0 (inn (inn (lft (rgt (rgt (rgt (bod Tryz.f77))))))) (g77L26398E1 j v3 v4) (g77L26398S1 v3 v4) (frameQ Tryz.prog 0 (FinQ Tryz.prog 0 Tryz.f77 (ai r) [] 0) [.blk 0, .seq (rgt (rgt (rgt (rgt (bod Tryz.f77)))))]))) := by
  intro qq
  induction qq with
  | zero =>
    exact fun _ _ _ h => nn h
  | succ qq ih =>
    intro v3 v4 r h
    rw [e77L26398] at h
    refine ⟨?_, ?_⟩
    · rcases spl h with ⟨h1, h⟩ | ⟨h1, h⟩
      · have k := oB 1 h1 o0
        rcases spl h with ⟨h2, h⟩ | ⟨h2, h⟩
        · obtain ⟨x3, h4, h⟩ := obind h
          obtain ⟨x5, h6, h⟩ := obind h
          obtain ⟨l7, h8, h⟩ := obind h
          have k := oF 5 (slToO23 (o := .full) h6) <| oA 2 (ix23 (o := .full) h4) <| oB 0 h2 k
          by_cases h9 : List.length x5 = 0
          · obtain ⟨x10, h11, h⟩ := obind h
            obtain ⟨l12, h13, h⟩ := obind h
            have k := oA 4 (slTo23 h11) <| oP 0 (apN23 h8 h9) k
            by_cases h14 : List.length x10 = 0
            · exact fun j => lH 1 [] [] [] [3, 4] (oD (dT l12) <| oP 0 (apN23 h13 h14) k) ((ih _ _ _ h).1) (fun j => by kernel_rfl)
            · exact fun j => lH 1 [] [] [0] [3, 4] (oD (dT l12) <| oP 0 (apS23 h13 h14) k) ((ih _ _ _ h).2) (fun j => by kernel_rfl)
          · obtain ⟨x10, h11, h⟩ := obind h
            obtain ⟨l12, h13, h⟩ := obind h
            have k := oA 4 (slTo23 h11) <| oP 0 (apS23 h8 h9) k
            by_cases h14 : List.length x10 = 0
            · exact fun j => lH 1 [] [] [0] [3, 4] (oD (dT l12) <| oP 0 (apN23 h13 h14) k) ((ih _ _ _ h).2) (fun j => by kernel_rfl)
            · exact fun j => lH 1 [] [] [1] [3, 4] (oD (dT l12) <| oP 0 (apS23 h13 h14) k) ((ih _ _ _ h).2) (fun j => by kernel_rfl)
        · obtain rfl := sj h
          exact fun j => lF 0 [] (oB 0 h2 k) (by kernel_rfl)
      · obtain rfl := sj h
        exact fun j => lF 0 [] (oB 1 h1 o0) (by kernel_rfl)
    · rcases spl h with ⟨h1, h⟩ | ⟨h1, h⟩
      · have k := oB 1 h1 o0
        rcases spl h with ⟨h2, h⟩ | ⟨h2, h⟩
        · obtain ⟨x3, h4, h⟩ := obind h
          obtain ⟨x5, h6, h⟩ := obind h
          obtain ⟨l7, h8, h⟩ := obind h
          have k := oF 5 (slToO23 (o := (.st 0 3)) h6) <| oA 2 (ix23 (o := (.st 0 3)) h4) <| oB 0 h2 k
          by_cases h9 : List.length x5 = 0
          · obtain ⟨x10, h11, h⟩ := obind h
            obtain ⟨l12, h13, h⟩ := obind h
            have k := oA 4 (slTo23 h11) <| oP 0 (apN23 h8 h9) k
            by_cases h14 : List.length x10 = 0
            · exact fun j => lH 1 [] [] [] [3, 4] (oD (dT l12) <| oP 0 (apN23 h13 h14) k) ((ih _ _ _ h).1) (fun j => by kernel_rfl)
            · exact fun j => lH 1 [] [] [1] [3, 4] (oD (dT l12) <| oP 0 (apS23 h13 h14) k) ((ih _ _ _ h).2) (fun j => by kernel_rfl)
          · obtain ⟨x10, h11, h⟩ := obind h
            obtain ⟨l12, h13, h⟩ := obind h
            have k := oA 4 (slTo23 h11) <| oP 0 (apS23 h8 h9) k
            by_cases h14 : List.length x10 = 0
            · exact fun j => lH 1 [] [] [1] [3, 4] (oD (dT l12) <| oP 0 (apN23 h13 h14) k) ((ih _ _ _ h).2) (fun j => by kernel_rfl)
            · exact fun j => lH 1 [] [] [2] [3, 4] (oD (dT l12) <| oP 0 (apS23 h13 h14) k) ((ih _ _ _ h).2) (fun j => by kernel_rfl)
        · obtain rfl := sj h
          exact fun j => lF 0 [] (oB 0 h2 k) (by kernel_rfl)
      · obtain rfl := sj h
        exact fun j => lF 0 [] (oB 1 h1 o0) (by kernel_rfl)
theorem c77 {qq : Nat} {p0 : Tm} {r : Int} (h : e77 qq p0 = some r) : CT Tryz.prog 77 [] [tmA p0] (ai r) [] 0 := by
  unfold e77 at h
  exact k77 (tH q77 0 [] [] [] [3, 4] (oD (dT [p0]) <| oS 1 (obLitR tm_eq [p0]) o0) ((l77L26398 _ _ _ _ h).1) (fun j => by kernel_rfl))

end Go.Proofs.YteiddempdecleaaGreat

namespace Go.Proofs.YteiddempdecleaaGreat
open Go Go.Ab

/- scholium/scholiumlaw14.light -/
def e26 (qq : Nat) (p0 : List Ent) (p1 : Tm) (p2 : Int) : Option (Bool) :=
  if decide ((List.length p0 : Int) ≤ 60) = true then
    if decide (p2 ≤ 400) = true then
      (e77 qq p1) >>= fun r3 =>
      some (decide (r3 ≤ 400))
    else
      some false
  else
    some false
theorem q26 : Tryz.prog.funcs[26]? = some Tryz.f26 ∧ Tryz.f26.body.isNone = false := ⟨Tryz.func26, by kernel_rfl⟩
theorem k26 {p0 : List Ent} {p1 : Tm} {p2 : Int} {r : Bool} (h : CTri Tryz.prog 26 [] [.sl (flat entL p0) (List.length p0) .no, tmA p1, ai p2] (ab r) [] 0) : CT Tryz.prog 26 [] [.sl (flat entL p0) (List.length p0) .no, tmA p1, ai p2] (ab r) [] 0 := ⟨h, ⟨⟨trivial, dE _⟩, ⟨trivial, trivial, ⟨trivial, dT _⟩, trivial⟩, trivial, trivial⟩, forall_nil, trivial, forall_nil⟩
theorem c26 {qq : Nat} {p0 : List Ent} {p1 : Tm} {p2 : Int} {r : Bool} (h : e26 qq p0 p1 p2 = some r) : CT Tryz.prog 26 [] [.sl (flat entL p0) (List.length p0) .no, tmA p1, ai p2] (ab r) [] 0 := by
  unfold e26 at h
  rcases spl h with ⟨h1, h⟩ | ⟨h1, h⟩
  · have k := oB 1 h1 o0
    rcases spl h with ⟨h2, h⟩ | ⟨h2, h⟩
    · obtain ⟨r3, h4, h⟩ := obind h
      obtain rfl := sj h
      exact k26 (tF q26 1 [] (oC 1 [] (c77 h4) <| oB 0 h2 k) (by kernel_rfl))
    · obtain rfl := sj h
      exact k26 (tF q26 0 [] (oB 0 h2 k) (by kernel_rfl))
  · obtain rfl := sj h
    exact k26 (tF q26 0 [] (oB 1 h1 o0) (by kernel_rfl))

end Go.Proofs.YteiddempdecleaaGreat

namespace Go.Proofs.YteiddempdecleaaGreat
open Go Go.Ab

/- (*sync/atomic.Int64).Store -/
def e106va12063 (qq : Nat) (q0 : Int) (q1 : Int) (p1 : Int) : Option (Int) :=
  some p1
theorem q106va12063 : Tryz.prog.funcs[106]? = some Tryz.f106 ∧ Tryz.f106.body.isNone = false := ⟨Tryz.func106, by kernel_rfl⟩
theorem k106va12063 {q0 : Int} {q1 : Int} {p1 : Int} {r : Int} (h : CTri Tryz.prog 106 [.cells [ai q0, ai q1]] [.mp 0 0, ai p1] (.tup []) [.cells [ai r, ai q1]] 0) : CT Tryz.prog 106 [.cells [ai q0, ai q1]] [.mp 0 0, ai p1] (.tup []) [.cells [ai r, ai q1]] 0 := ⟨h, ⟨(show 0 < 1 by decide), trivial, trivial⟩, (forall_cons ⟨trivial, trivial, trivial⟩ forall_nil), trivial, (forall_cons ⟨trivial, trivial, trivial⟩ forall_nil)⟩
theorem c106va12063 {qq : Nat} {q0 : Int} {q1 : Int} {p1 : Int} {r : Int} (h : e106va12063 qq q0 q1 p1 = some r) : CT Tryz.prog 106 [.cells [ai q0, ai q1]] [.mp 0 0, ai p1] (.tup []) [.cells [ai r, ai q1]] 0 := by
  unfold e106va12063 at h
  obtain rfl := sj h
  exact k106va12063 (tF q106va12063 1 [0] (o0) (by kernel_rfl))

end Go.Proofs.YteiddempdecleaaGreat

namespace Go.Proofs.YteiddempdecleaaGreat
open Go Go.Ab

/- scholium/meter.New -/
def e47 (qq : Nat) (p0 : Int) : Option ((Int) ⊕ (Int × Int × Int)) :=
  if decide (p0 < 0) = true then
    some (Sum.inl 5)
  else
    if decide (p0 > 1048576) = true then
      some (Sum.inl 5)
    else
      (e106va12063 qq 0 0 p0) >>= fun r3 =>
      some (Sum.inr (0, r3, 0))
theorem q47 : Tryz.prog.funcs[47]? = some Tryz.f47 ∧ Tryz.f47.body.isNone = false := ⟨Tryz.func47, by kernel_rfl⟩
theorem k47s0 {p0 : Int} {r : Int} (h : CTri Tryz.prog 47 [] [ai p0] (.tup [.val (.pointer none), ai r]) [] 0) : CT Tryz.prog 47 [] [ai p0] (.tup [.val (.pointer none), ai r]) [] 0 := ⟨h, ⟨trivial, trivial⟩, forall_nil, ⟨trivial, trivial, trivial⟩, forall_nil⟩
theorem k47s1 {p0 : Int} {r : Int × Int × Int} (h : CTri Tryz.prog 47 [] [ai p0] (.tup [.mp 0 0, ai r.1]) [.cells [ai r.2.1, ai r.2.2]] 0) : CT Tryz.prog 47 [] [ai p0] (.tup [.mp 0 0, ai r.1]) [.cells [ai r.2.1, ai r.2.2]] 0 := ⟨h, ⟨trivial, trivial⟩, forall_nil, ⟨(show 0 < 1 by decide), trivial, trivial⟩, (forall_cons ⟨trivial, trivial, trivial⟩ forall_nil)⟩
theorem c47 {qq : Nat} {p0 : Int} {r : (Int) ⊕ (Int × Int × Int)} (h : e47 qq p0 = some r) : (match (generalizing := false) r with | Sum.inl x => CT Tryz.prog 47 [] [ai p0] (.tup [.val (.pointer none), ai x]) [] 0 | Sum.inr x => CT Tryz.prog 47 [] [ai p0] (.tup [.mp 0 0, ai x.1]) [.cells [ai x.2.1, ai x.2.2]] 0) := by
  unfold e47 at h
  rcases spl h with ⟨h1, h⟩ | ⟨h1, h⟩
  · obtain rfl := sj h
    exact k47s0 (tF q47 0 [] (oB 0 h1 o0) (by kernel_rfl))
  · have k := oB 0 h1 o0
    rcases spl h with ⟨h2, h⟩ | ⟨h2, h⟩
    · obtain rfl := sj h
      exact k47s0 (tF q47 0 [] (oB 0 h2 k) (by kernel_rfl))
    · obtain ⟨r3, h4, h⟩ := obind h
      obtain rfl := sj h
      exact k47s1 (tF q47 0 [0] (oC 0 [0] (c106va12063 h4) <| oB 0 h2 k) (by kernel_rfl))

end Go.Proofs.YteiddempdecleaaGreat

namespace Go.Proofs.YteiddempdecleaaGreat
open Go Go.Ab

/- (*scholium/meter.Meter).Used -/
def e52 (qq : Nat) (fl : Int) (fu : Int) : Option (Int) :=
  (e114va35861 qq fl fu) >>= fun r1 =>
  some r1
theorem q52 : Tryz.prog.funcs[52]? = some Tryz.f52 ∧ Tryz.f52.body.isNone = false := ⟨Tryz.func52, by kernel_rfl⟩
theorem k52 {fl : Int} {fu : Int} {r : Int} (h : CTri Tryz.prog 52 [.cells [ai fl, ai fu]] [.mp 0 0] (ai r) [.cells [ai fl, ai fu]] 0) : CT Tryz.prog 52 [.cells [ai fl, ai fu]] [.mp 0 0] (ai r) [.cells [ai fl, ai fu]] 0 := ⟨h, ⟨(show 0 < 1 by decide), trivial⟩, (forall_cons ⟨trivial, trivial, trivial⟩ forall_nil), trivial, (forall_cons ⟨trivial, trivial, trivial⟩ forall_nil)⟩
theorem c52 {qq : Nat} {fl : Int} {fu : Int} {r : Int} (h : e52 qq fl fu = some r) : CT Tryz.prog 52 [.cells [ai fl, ai fu]] [.mp 0 0] (ai r) [.cells [ai fl, ai fu]] 0 := by
  unfold e52 at h
  obtain ⟨r1, h2, h⟩ := obind h
  obtain rfl := sj h
  exact k52 (tF q52 0 [0] (oC 1 [0] (c114va35861 h2) o0) (by kernel_rfl))

end Go.Proofs.YteiddempdecleaaGreat

namespace Go.Proofs.YteiddempdecleaaGreat
open Go Go.Ab

/- (*scholium/meter.Meter).Used -/
def e52va47633 (qq : Nat)  : Option (Int) :=
  some 0
theorem q52va47633 : Tryz.prog.funcs[52]? = some Tryz.f52 ∧ Tryz.f52.body.isNone = false := ⟨Tryz.func52, by kernel_rfl⟩
theorem k52va47633  {r : Int} (h : CTri Tryz.prog 52 [] [.val (.pointer none)] (ai r) [] 0) : CT Tryz.prog 52 [] [.val (.pointer none)] (ai r) [] 0 := ⟨h, ⟨trivial, trivial⟩, forall_nil, trivial, forall_nil⟩
theorem c52va47633 {qq : Nat}  {r : Int} (h : e52va47633 qq  = some r) : CT Tryz.prog 52 [] [.val (.pointer none)] (ai r) [] 0 := by
  unfold e52va47633 at h
  obtain rfl := sj h
  exact k52va47633 (tF q52va47633 1 [] (o0) (by kernel_rfl))

end Go.Proofs.YteiddempdecleaaGreat

namespace Go.Proofs.YteiddempdecleaaGreat
open Go Go.Ab

/- (*scholium/whnf.Machine).right -/
def e82 (qq : Nat) (M : Mach) (p1 : Tm) : Option (Bool) :=
  (e108 qq p1 1048577 (List.length M.l : Int)) >>= fun r1 =>
  some r1
theorem q82 : Tryz.prog.funcs[82]? = some Tryz.f82 ∧ Tryz.f82.body.isNone = false := ⟨Tryz.func82, by kernel_rfl⟩
theorem k82 {M : Mach} {p1 : Tm} {r : Bool} (h : CTri Tryz.prog 82 [.cells [.sl (flat entL M.l) (List.length M.l) .no, .mp 1 0, .sl (flat intC M.args) (List.length M.args) .no, .sl (flat intC M.own) (List.length M.own) .no], .cells [.sl (flat entL M.rl) (List.length M.rl) .no, .sl (flat conL M.parts) (List.length M.parts) .no]] [.mp 0 0, tmA p1] (ab r) [.cells [.sl (flat entL M.l) (List.length M.l) .no, .mp 1 0, .sl (flat intC M.args) (List.length M.args) .no, .sl (flat intC M.own) (List.length M.own) .no], .cells [.sl (flat entL M.rl) (List.length M.rl) .no, .sl (flat conL M.parts) (List.length M.parts) .no]] 0) : CT Tryz.prog 82 [.cells [.sl (flat entL M.l) (List.length M.l) .no, .mp 1 0, .sl (flat intC M.args) (List.length M.args) .no, .sl (flat intC M.own) (List.length M.own) .no], .cells [.sl (flat entL M.rl) (List.length M.rl) .no, .sl (flat conL M.parts) (List.length M.parts) .no]] [.mp 0 0, tmA p1] (ab r) [.cells [.sl (flat entL M.l) (List.length M.l) .no, .mp 1 0, .sl (flat intC M.args) (List.length M.args) .no, .sl (flat intC M.own) (List.length M.own) .no], .cells [.sl (flat entL M.rl) (List.length M.rl) .no, .sl (flat conL M.parts) (List.length M.parts) .no]] 0 := ⟨h, ⟨(show 0 < 2 by decide), ⟨trivial, trivial, ⟨trivial, dT _⟩, trivial⟩, trivial⟩, (forall_cons ⟨⟨trivial, dE _⟩, (show 1 < 2 by decide), ⟨trivial, dI _⟩, ⟨trivial, dI _⟩, trivial⟩ (forall_cons ⟨⟨trivial, dE _⟩, ⟨trivial, dC _⟩, trivial⟩ forall_nil)), trivial, (forall_cons ⟨dE _, (show 1 < 2 by decide), dI _, dI _, trivial⟩ (forall_cons ⟨dE _, dC _, trivial⟩ forall_nil))⟩
theorem c82 {qq : Nat} {M : Mach} {p1 : Tm} {r : Bool} (h : e82 qq M p1 = some r) : CT Tryz.prog 82 [.cells [.sl (flat entL M.l) (List.length M.l) .no, .mp 1 0, .sl (flat intC M.args) (List.length M.args) .no, .sl (flat intC M.own) (List.length M.own) .no], .cells [.sl (flat entL M.rl) (List.length M.rl) .no, .sl (flat conL M.parts) (List.length M.parts) .no]] [.mp 0 0, tmA p1] (ab r) [.cells [.sl (flat entL M.l) (List.length M.l) .no, .mp 1 0, .sl (flat intC M.args) (List.length M.args) .no, .sl (flat intC M.own) (List.length M.own) .no], .cells [.sl (flat entL M.rl) (List.length M.rl) .no, .sl (flat conL M.parts) (List.length M.parts) .no]] 0 := by
  unfold e82 at h
  obtain ⟨r1, h2, h⟩ := obind h
  obtain rfl := sj h
  exact k82 (tF q82 0 [0, 1] (oD (dC M.parts) <| oD (dE M.rl) <| oD (dI M.own) <| oD (dI M.args) <| oD (dE M.l) <| oC 4 [] (c108 h2) o0) (by kernel_rfl))

end Go.Proofs.YteiddempdecleaaGreat

namespace Go.Proofs.YteiddempdecleaaGreat
open Go Go.Ab

/- (*scholium/whnf.Machine).Bring -/
def e79 (qq : Nat) (M : Mach) (p1 : Tm) (fl : Int) (fu : Int) : Option (Tm × Int × Int × Int) :=
  (e82 qq M p1) >>= fun r1 =>
  if r1 = true then
    (e157 qq M p1 fl fu) >>= fun r4 =>
    if (r4.2.1 != 0) = true then
      some ((Tm.mk 0 0 []), r4.2.1, r4.2.2.1, r4.2.2.2)
    else
      (e84 qq r4.1) >>= fun r7 =>
      some (r7, 0, r4.2.2.1, r4.2.2.2)
  else
    some ((Tm.mk 0 0 []), 5, fl, fu)
theorem q79 : Tryz.prog.funcs[79]? = some Tryz.f79 ∧ Tryz.f79.body.isNone = false := ⟨Tryz.func79, by kernel_rfl⟩
theorem k79 {M : Mach} {p1 : Tm} {fl : Int} {fu : Int} {r : Tm × Int × Int × Int} (h : CTri Tryz.prog 79 [.cells [.sl (flat entL M.l) (List.length M.l) .no, .mp 1 0, .sl (flat intC M.args) (List.length M.args) .no, .sl (flat intC M.own) (List.length M.own) .no], .cells [.sl (flat entL M.rl) (List.length M.rl) .no, .sl (flat conL M.parts) (List.length M.parts) .no], .cells [ai fl, ai fu]] [.mp 0 0, tmA p1, .mp 2 0] (.tup [tmA r.1, ai r.2.1]) [.cells [.sl (flat entL M.l) (List.length M.l) .no, .mp 1 0, .sl (flat intC M.args) (List.length M.args) .no, .sl (flat intC M.own) (List.length M.own) .no], .cells [.sl (flat entL M.rl) (List.length M.rl) .no, .sl (flat conL M.parts) (List.length M.parts) .no], .cells [ai r.2.2.1, ai r.2.2.2]] 0) : CT Tryz.prog 79 [.cells [.sl (flat entL M.l) (List.length M.l) .no, .mp 1 0, .sl (flat intC M.args) (List.length M.args) .no, .sl (flat intC M.own) (List.length M.own) .no], .cells [.sl (flat entL M.rl) (List.length M.rl) .no, .sl (flat conL M.parts) (List.length M.parts) .no], .cells [ai fl, ai fu]] [.mp 0 0, tmA p1, .mp 2 0] (.tup [tmA r.1, ai r.2.1]) [.cells [.sl (flat entL M.l) (List.length M.l) .no, .mp 1 0, .sl (flat intC M.args) (List.length M.args) .no, .sl (flat intC M.own) (List.length M.own) .no], .cells [.sl (flat entL M.rl) (List.length M.rl) .no, .sl (flat conL M.parts) (List.length M.parts) .no], .cells [ai r.2.2.1, ai r.2.2.2]] 0 := ⟨h, ⟨(show 0 < 3 by decide), ⟨trivial, trivial, ⟨trivial, dT _⟩, trivial⟩, (show 2 < 3 by decide), trivial⟩, (forall_cons ⟨⟨trivial, dE _⟩, (show 1 < 3 by decide), ⟨trivial, dI _⟩, ⟨trivial, dI _⟩, trivial⟩ (forall_cons ⟨⟨trivial, dE _⟩, ⟨trivial, dC _⟩, trivial⟩ (forall_cons ⟨trivial, trivial, trivial⟩ forall_nil))), ⟨⟨trivial, trivial, dT _, trivial⟩, trivial, trivial⟩, (forall_cons ⟨dE _, (show 1 < 3 by decide), dI _, dI _, trivial⟩ (forall_cons ⟨dE _, dC _, trivial⟩ (forall_cons ⟨trivial, trivial, trivial⟩ forall_nil)))⟩
theorem c79 {qq : Nat} {M : Mach} {p1 : Tm} {fl : Int} {fu : Int} {r : Tm × Int × Int × Int} (h : e79 qq M p1 fl fu = some r) : CT Tryz.prog 79 [.cells [.sl (flat entL M.l) (List.length M.l) .no, .mp 1 0, .sl (flat intC M.args) (List.length M.args) .no, .sl (flat intC M.own) (List.length M.own) .no], .cells [.sl (flat entL M.rl) (List.length M.rl) .no, .sl (flat conL M.parts) (List.length M.parts) .no], .cells [ai fl, ai fu]] [.mp 0 0, tmA p1, .mp 2 0] (.tup [tmA r.1, ai r.2.1]) [.cells [.sl (flat entL M.l) (List.length M.l) .no, .mp 1 0, .sl (flat intC M.args) (List.length M.args) .no, .sl (flat intC M.own) (List.length M.own) .no], .cells [.sl (flat entL M.rl) (List.length M.rl) .no, .sl (flat conL M.parts) (List.length M.parts) .no], .cells [ai r.2.2.1, ai r.2.2.2]] 0 := by
  unfold e79 at h
  obtain ⟨r1, h2, h⟩ := obind h
  rcases spl h with ⟨h3, h⟩ | ⟨h3, h⟩
  · obtain ⟨r4, h5, h⟩ := obind h
    have k := oC 2 [0, 1, 2] (c157 h5) <| oK 1 [0, 1] h3 (c82 h2) o0
    rcases spl h with ⟨h6, h⟩ | ⟨h6, h⟩
    · obtain rfl := sj h
      exact k79 (tF q79 1 [0, 1, 2] (oD (dT ([] : List Tm)) <| oD (dC M.parts) <| oD (dE M.rl) <| oD (dI M.own) <| oD (dI M.args) <| oD (dE M.l) <| oB 3 h6 k) (by kernel_rfl))
    · obtain ⟨r7, h8, h⟩ := obind h
      obtain rfl := sj h
      exact k79 (tF q79 1 [0, 1, 2] (oD (dT r7.sub) <| oD (dC M.parts) <| oD (dE M.rl) <| oD (dI M.own) <| oD (dI M.args) <| oD (dE M.l) <| oC 1 [] (c84 h8) <| oB 3 h6 k) (by kernel_rfl))
  · obtain rfl := sj h
    exact k79 (tF q79 2 [0, 1, 2] (oD (dT ([] : List Tm)) <| oD (dC M.parts) <| oD (dE M.rl) <| oD (dI M.own) <| oD (dI M.args) <| oD (dE M.l) <| oK 1 [0, 1] h3 (c82 h2) o0) (by kernel_rfl))

end Go.Proofs.YteiddempdecleaaGreat

namespace Go.Proofs.YteiddempdecleaaGreat
open Go Go.Ab

/- (*scholium/whnf.Machine).Bring -/
def e79va14437 (qq : Nat) (q0 : List Ent) (q1 : List Ent) (q2 : List Con') (q3 : List Int) (q4 : List Int) (p1 : Tm) : Option (Tm × Int) :=
  none
theorem c79va14437 {qq : Nat} {q0 : List Ent} {q1 : List Ent} {q2 : List Con'} {q3 : List Int} {q4 : List Int} {p1 : Tm} {r : Tm × Int} (h : e79va14437 qq q0 q1 q2 q3 q4 p1 = some r) : CT Tryz.prog 79 [.cells [.sl (flat entL q0) (List.length q0) .no, .mp 1 0, .sl (flat intC q3) (List.length q3) .no, .sl (flat intC q4) (List.length q4) .no], .cells [.sl (flat entL q1) (List.length q1) .no, .sl (flat conL q2) (List.length q2) .no]] [.mp 0 0, tmA p1, .val (.pointer none)] (.tup [tmA r.1, ai r.2]) [.cells [.sl (flat entL q0) (List.length q0) .no, .mp 1 0, .sl (flat intC q3) (List.length q3) .no, .sl (flat intC q4) (List.length q4) .no], .cells [.sl (flat entL q1) (List.length q1) .no, .sl (flat conL q2) (List.length q2) .no]] 0 := by
  unfold e79va14437 at h
  cases h

end Go.Proofs.YteiddempdecleaaGreat

namespace Go.Proofs.YteiddempdecleaaGreat
open Go Go.Ab

/- (*scholium/whnf.Machine).Bring -/
def e79va17286 (qq : Nat) (p1 : Tm) : Option (Tm × Int) :=
  none
theorem c79va17286 {qq : Nat} {p1 : Tm} {r : Tm × Int} (h : e79va17286 qq p1 = some r) : CT Tryz.prog 79 [] [.val (.pointer none), tmA p1, .val (.pointer none)] (.tup [tmA r.1, ai r.2]) [] 0 := by
  unfold e79va17286 at h
  cases h

end Go.Proofs.YteiddempdecleaaGreat

namespace Go.Proofs.YteiddempdecleaaGreat
open Go Go.Ab

/- (*scholium/whnf.Machine).Bring -/
def e79va53055 (qq : Nat) (p1 : Tm) (q1 : Int) (q2 : Int) : Option (Tm × Int) :=
  none
theorem c79va53055 {qq : Nat} {p1 : Tm} {q1 : Int} {q2 : Int} {r : Tm × Int} (h : e79va53055 qq p1 q1 q2 = some r) : CT Tryz.prog 79 [.cells [ai q1, ai q2]] [.val (.pointer none), tmA p1, .mp 0 0] (.tup [tmA r.1, ai r.2]) [.cells [ai q1, ai q2]] 0 := by
  unfold e79va53055 at h
  cases h

end Go.Proofs.YteiddempdecleaaGreat

namespace Go.Proofs.YteiddempdecleaaGreat
open Go Go.Ab

/- scholium/whnf.Bring -/
def e28 (qq : Nat) (p0 : List Ent) (p1 : Tm) (p2 : Int) : Option (Tm × Int × Int) :=
  (e36 qq p0) >>= fun r1 =>
  match r1 with
  | Sum.inl y21 =>
    if (y21 != 0) = true then
      some ((Tm.mk 0 0 []), 0, y21)
    else
      (e47 qq p2) >>= fun r23 =>
      match r23 with
      | Sum.inl y32 =>
        if (y32 != 0) = true then
          some ((Tm.mk 0 0 []), 0, y32)
        else
          (e79va17286 qq p1) >>= fun r34 =>
          if (r34.2 != 0) = true then
            some ((Tm.mk 0 0 []), 0, r34.2)
          else
            (e52va47633 qq) >>= fun r37 =>
            some (r34.1, r37, 0)
      | Sum.inr y25 =>
        if (y25.1 != 0) = true then
          some ((Tm.mk 0 0 []), 0, y25.1)
        else
          (e79va53055 qq p1 y25.2.1 y25.2.2) >>= fun r27 =>
          if (r27.2 != 0) = true then
            some ((Tm.mk 0 0 []), 0, r27.2)
          else
            (e52 qq y25.2.1 y25.2.2) >>= fun r30 =>
            some (r27.1, r30, 0)
  | Sum.inr y3 =>
    if (y3.1 != 0) = true then
      some ((Tm.mk 0 0 []), 0, y3.1)
    else
      (e47 qq p2) >>= fun r5 =>
      match r5 with
      | Sum.inl y14 =>
        if (y14 != 0) = true then
          some ((Tm.mk 0 0 []), 0, y14)
        else
          (e79va14437 qq y3.2.1 y3.2.2.2.2.1 y3.2.2.2.2.2 y3.2.2.1 y3.2.2.2.1 p1) >>= fun r16 =>
          if (r16.2 != 0) = true then
            some ((Tm.mk 0 0 []), 0, r16.2)
          else
            (e52va47633 qq) >>= fun r19 =>
            some (r16.1, r19, 0)
      | Sum.inr y7 =>
        if (y7.1 != 0) = true then
          some ((Tm.mk 0 0 []), 0, y7.1)
        else
          (e79 qq (Mach.mk y3.2.1 y3.2.2.2.2.1 y3.2.2.2.2.2 y3.2.2.1 y3.2.2.2.1) p1 y7.2.1 y7.2.2) >>= fun r9 =>
          if (r9.2.1 != 0) = true then
            some ((Tm.mk 0 0 []), 0, r9.2.1)
          else
            (e52 qq r9.2.2.1 r9.2.2.2) >>= fun r12 =>
            some (r9.1, r12, 0)
theorem q28 : Tryz.prog.funcs[28]? = some Tryz.f28 ∧ Tryz.f28.body.isNone = false := ⟨Tryz.func28, by kernel_rfl⟩
theorem k28 {p0 : List Ent} {p1 : Tm} {p2 : Int} {r : Tm × Int × Int} (h : CTri Tryz.prog 28 [] [.sl (flat entL p0) (List.length p0) .no, tmA p1, ai p2] (.tup [tmA r.1, ai r.2.1, ai r.2.2]) [] 0) : CT Tryz.prog 28 [] [.sl (flat entL p0) (List.length p0) .no, tmA p1, ai p2] (.tup [tmA r.1, ai r.2.1, ai r.2.2]) [] 0 := ⟨h, ⟨⟨trivial, dE _⟩, ⟨trivial, trivial, ⟨trivial, dT _⟩, trivial⟩, trivial, trivial⟩, forall_nil, ⟨⟨trivial, trivial, dT _, trivial⟩, trivial, trivial, trivial⟩, forall_nil⟩
theorem c28 {qq : Nat} {p0 : List Ent} {p1 : Tm} {p2 : Int} {r : Tm × Int × Int} (h : e28 qq p0 p1 p2 = some r) : CT Tryz.prog 28 [] [.sl (flat entL p0) (List.length p0) .no, tmA p1, ai p2] (.tup [tmA r.1, ai r.2.1, ai r.2.2]) [] 0 := by
  unfold e28 at h
  obtain ⟨r1, h2, h⟩ := obind h
  rcases r1 with y21 | y3
  · dsimp only at h
    have k := oC 0 [] (c36 h2) o0
    rcases spl h with ⟨h22, h⟩ | ⟨h22, h⟩
    · obtain rfl := sj h
      exact k28 (tF q28 1 [] (oD (dT ([] : List Tm)) <| oB 2 h22 k) (by kernel_rfl))
    · obtain ⟨r23, h24, h⟩ := obind h
      have k := oB 2 h22 k
      rcases r23 with y32 | y25
      · dsimp only at h
        have k := oC 0 [] (c47 h24) k
        rcases spl h with ⟨h33, h⟩ | ⟨h33, h⟩
        · obtain rfl := sj h
          exact k28 (tF q28 1 [] (oD (dT ([] : List Tm)) <| oB 2 h33 k) (by kernel_rfl))
        · obtain ⟨r34, h35, h⟩ := obind h
          have k := oC 1 [] (c79va17286 h35) <| oB 2 h33 k
          rcases spl h with ⟨h36, h⟩ | ⟨h36, h⟩
          · obtain rfl := sj h
            exact k28 (tF q28 1 [] (oD (dT ([] : List Tm)) <| oB 3 h36 k) (by kernel_rfl))
          · obtain ⟨r37, h38, h⟩ := obind h
            obtain rfl := sj h
            exact k28 (tF q28 1 [] (oD (dT r34.1.sub) <| oC 1 [] (c52va47633 h38) <| oB 3 h36 k) (by kernel_rfl))
      · dsimp only at h
        have k := oC 0 [] (c47 h24) k
        rcases spl h with ⟨h26, h⟩ | ⟨h26, h⟩
        · obtain rfl := sj h
          exact k28 (tF q28 1 [] (oD (dT ([] : List Tm)) <| oB 2 h26 k) (by kernel_rfl))
        · obtain ⟨r27, h28, h⟩ := obind h
          have k := oC 1 [2] (c79va53055 h28) <| oB 2 h26 k
          rcases spl h with ⟨h29, h⟩ | ⟨h29, h⟩
          · obtain rfl := sj h
            exact k28 (tF q28 1 [] (oD (dT ([] : List Tm)) <| oB 3 h29 k) (by kernel_rfl))
          · obtain ⟨r30, h31, h⟩ := obind h
            obtain rfl := sj h
            exact k28 (tF q28 1 [] (oD (dT r27.1.sub) <| oC 1 [2] (c52 h31) <| oB 3 h29 k) (by kernel_rfl))
  · dsimp only at h
    have k := oC 0 [] (c36 h2) o0
    rcases spl h with ⟨h4, h⟩ | ⟨h4, h⟩
    · obtain rfl := sj h
      exact k28 (tF q28 1 [] (oD (dT ([] : List Tm)) <| oB 2 h4 k) (by kernel_rfl))
    · obtain ⟨r5, h6, h⟩ := obind h
      have k := oB 2 h4 k
      rcases r5 with y14 | y7
      · dsimp only at h
        have k := oC 0 [] (c47 h6) k
        rcases spl h with ⟨h15, h⟩ | ⟨h15, h⟩
        · obtain rfl := sj h
          exact k28 (tF q28 1 [] (oD (dT ([] : List Tm)) <| oB 2 h15 k) (by kernel_rfl))
        · obtain ⟨r16, h17, h⟩ := obind h
          have k := oC 1 [2, 3] (c79va14437 h17) <| oB 2 h15 k
          rcases spl h with ⟨h18, h⟩ | ⟨h18, h⟩
          · obtain rfl := sj h
            exact k28 (tF q28 1 [] (oD (dT ([] : List Tm)) <| oB 3 h18 k) (by kernel_rfl))
          · obtain ⟨r19, h20, h⟩ := obind h
            obtain rfl := sj h
            exact k28 (tF q28 1 [] (oD (dT r16.1.sub) <| oC 1 [] (c52va47633 h20) <| oB 3 h18 k) (by kernel_rfl))
      · dsimp only at h
        have k := oC 0 [] (c47 h6) k
        rcases spl h with ⟨h8, h⟩ | ⟨h8, h⟩
        · obtain rfl := sj h
          exact k28 (tF q28 1 [] (oD (dT ([] : List Tm)) <| oB 2 h8 k) (by kernel_rfl))
        · obtain ⟨r9, h10, h⟩ := obind h
          have k := oC 1 [2, 3, 4] (c79 h10) <| oB 2 h8 k
          rcases spl h with ⟨h11, h⟩ | ⟨h11, h⟩
          · obtain rfl := sj h
            exact k28 (tF q28 1 [] (oD (dT ([] : List Tm)) <| oB 3 h11 k) (by kernel_rfl))
          · obtain ⟨r12, h13, h⟩ := obind h
            obtain rfl := sj h
            exact k28 (tF q28 1 [] (oD (dT r9.1.sub) <| oC 1 [4] (c52 h13) <| oB 3 h11 k) (by kernel_rfl))

end Go.Proofs.YteiddempdecleaaGreat

namespace Go.Proofs.YteiddempdecleaaGreat
open Go Go.Ab

/- scholium/scholiumref07.Two -/
def e78 (qq : Nat) (p0 : Int) (p1 : Tm) (p2 : Tm) : Option (Tm) :=
  some (Tm.mk p0 0 [p1, p2])
theorem q78 : Tryz.prog.funcs[78]? = some Tryz.f78 ∧ Tryz.f78.body.isNone = false := ⟨Tryz.func78, by kernel_rfl⟩
theorem k78 {p0 : Int} {p1 : Tm} {p2 : Tm} {r : Tm} (h : CTri Tryz.prog 78 [] [ai p0, tmA p1, tmA p2] (tmA r) [] 0) : CT Tryz.prog 78 [] [ai p0, tmA p1, tmA p2] (tmA r) [] 0 := ⟨h, ⟨trivial, ⟨trivial, trivial, ⟨trivial, dT _⟩, trivial⟩, ⟨trivial, trivial, ⟨trivial, dT _⟩, trivial⟩, trivial⟩, forall_nil, ⟨trivial, trivial, dT _, trivial⟩, forall_nil⟩
theorem c78 {qq : Nat} {p0 : Int} {p1 : Tm} {p2 : Tm} {r : Tm} (h : e78 qq p0 p1 p2 = some r) : CT Tryz.prog 78 [] [ai p0, tmA p1, tmA p2] (tmA r) [] 0 := by
  unfold e78 at h
  obtain rfl := sj h
  exact k78 (tF q78 1 [] (oD (dT [p1, p2]) <| oS 2 (obLitR tm_eq [p1, p2]) o0) (by kernel_rfl))

end Go.Proofs.YteiddempdecleaaGreat

namespace Go.Proofs.YteiddempdecleaaGreat
open Go Go.Ab

/- scholium/scholiumlaw14.awake -/
def e27 (qq : Nat)  : Option (Bool) :=
  (e78 qq 4 (Tm.mk 2 2 []) (Tm.mk 1 0 [])) >>= fun r1 =>
  (e78 qq 5 r1 (Tm.mk 2 2 [])) >>= fun r3 =>
  (e28 qq [] r3 5) >>= fun r5 =>
  if (r5.2.2 == 0) = true then
    if (r5.2.1 == 1) = true then
      (e25 qq r5.1 (Tm.mk 2 2 [])) >>= fun r9 =>
      some r9
    else
      some false
  else
    some false
theorem q27 : Tryz.prog.funcs[27]? = some Tryz.f27 ∧ Tryz.f27.body.isNone = false := ⟨Tryz.func27, by kernel_rfl⟩
theorem k27  {r : Bool} (h : CTri Tryz.prog 27 [] [] (ab r) [] 0) : CT Tryz.prog 27 [] [] (ab r) [] 0 := ⟨h, trivial, forall_nil, trivial, forall_nil⟩
theorem c27 {qq : Nat}  {r : Bool} (h : e27 qq  = some r) : CT Tryz.prog 27 [] [] (ab r) [] 0 := by
  unfold e27 at h
  obtain ⟨r1, h2, h⟩ := obind h
  obtain ⟨r3, h4, h⟩ := obind h
  obtain ⟨r5, h6, h⟩ := obind h
  have k := oC 0 [] (c28 h6) <| oC 1 [] (c78 h4) <| oC 2 [] (c78 h2) o0
  rcases spl h with ⟨h7, h⟩ | ⟨h7, h⟩
  · have k := oB 4 h7 k
    rcases spl h with ⟨h8, h⟩ | ⟨h8, h⟩
    · obtain ⟨r9, h10, h⟩ := obind h
      obtain rfl := sj h
      exact k27 (tF q27 0 [] (oC 2 [] (c25 h10) <| oB 0 h8 k) (by kernel_rfl))
    · obtain rfl := sj h
      exact k27 (tF q27 0 [] (oB 0 h8 k) (by kernel_rfl))
  · obtain rfl := sj h
    exact k27 (tF q27 0 [] (oB 4 h7 k) (by kernel_rfl))

end Go.Proofs.YteiddempdecleaaGreat

namespace Go.Proofs.YteiddempdecleaaGreat
open Go Go.Ab

/- scholium/scholiumlaw14.WhnfFuel -/
def e4 (qq : Nat) (p0 : List Ent) (p1 : Tm) (p2 : U8) : Option (Bool) :=
  (e26 qq p0 p1 0) >>= fun r1 =>
  if r1 = true then
    (e28 qq p0 p1 200) >>= fun r4 =>
    if (r4.2.2 != 0) = true then
      (e27 qq) >>= fun r7 =>
      some r7
    else
      (e28 qq p0 p1 (w64 (r4.2.1 + (w64 (p2))))) >>= fun r9 =>
      if (r9.2.2 != 0) = true then
        some false
      else
        if (r9.2.1 != r4.2.1) = true then
          some false
        else
          (e25 qq r4.1 r9.1) >>= fun r13 =>
          if r13 = true then
            if (r4.2.1 == 0) = true then
              (e27 qq) >>= fun r17 =>
              some r17
            else
              (e28 qq p0 p1 (w64 (r4.2.1 - 1))) >>= fun r19 =>
              if (r19.2.2 == 8) = true then
                (e27 qq) >>= fun r22 =>
                some r22
              else
                some false
          else
            some false
  else
    (e27 qq) >>= fun r24 =>
    some r24
theorem q4 : Tryz.prog.funcs[4]? = some Tryz.f4 ∧ Tryz.f4.body.isNone = false := ⟨Tryz.func4, by kernel_rfl⟩
theorem k4 {p0 : List Ent} {p1 : Tm} {p2 : U8} {r : Bool} (h : CTri Tryz.prog 4 [] [.sl (flat entL p0) (List.length p0) .no, tmA p1, .val (.int .u8 p2)] (ab r) [] 0) : CT Tryz.prog 4 [] [.sl (flat entL p0) (List.length p0) .no, tmA p1, .val (.int .u8 p2)] (ab r) [] 0 := ⟨h, ⟨⟨trivial, dE _⟩, ⟨trivial, trivial, ⟨trivial, dT _⟩, trivial⟩, trivial, trivial⟩, forall_nil, trivial, forall_nil⟩
theorem c4 {qq : Nat} {p0 : List Ent} {p1 : Tm} {p2 : U8} {r : Bool} (h : e4 qq p0 p1 p2 = some r) : CT Tryz.prog 4 [] [.sl (flat entL p0) (List.length p0) .no, tmA p1, .val (.int .u8 p2)] (ab r) [] 0 := by
  unfold e4 at h
  obtain ⟨r1, h2, h⟩ := obind h
  rcases spl h with ⟨h3, h⟩ | ⟨h3, h⟩
  · obtain ⟨r4, h5, h⟩ := obind h
    have k := oC 2 [] (c28 h5) <| oK 1 [] h3 (c26 h2) o0
    rcases spl h with ⟨h6, h⟩ | ⟨h6, h⟩
    · obtain ⟨r7, h8, h⟩ := obind h
      obtain rfl := sj h
      exact k4 (tF q4 0 [] (oC 0 [] (c27 h8) <| oB 4 h6 k) (by kernel_rfl))
    · obtain ⟨r9, h10, h⟩ := obind h
      have k := oC 3 [] (c28 h10) <| oB 4 h6 k
      rcases spl h with ⟨h11, h⟩ | ⟨h11, h⟩
      · obtain rfl := sj h
        exact k4 (tF q4 0 [] (oB 4 h11 k) (by kernel_rfl))
      · have k := oB 4 h11 k
        rcases spl h with ⟨h12, h⟩ | ⟨h12, h⟩
        · obtain rfl := sj h
          exact k4 (tF q4 0 [] (oB 0 h12 k) (by kernel_rfl))
        · obtain ⟨r13, h14, h⟩ := obind h
          have k := oB 0 h12 k
          rcases spl h with ⟨h15, h⟩ | ⟨h15, h⟩
          · have k := oK 2 [] h15 (c25 h14) k
            rcases spl h with ⟨h16, h⟩ | ⟨h16, h⟩
            · obtain ⟨r17, h18, h⟩ := obind h
              obtain rfl := sj h
              exact k4 (tF q4 0 [] (oC 0 [] (c27 h18) <| oB 1 h16 k) (by kernel_rfl))
            · obtain ⟨r19, h20, h⟩ := obind h
              have k := oC 2 [] (c28 h20) <| oB 1 h16 k
              rcases spl h with ⟨h21, h⟩ | ⟨h21, h⟩
              · obtain ⟨r22, h23, h⟩ := obind h
                obtain rfl := sj h
                exact k4 (tF q4 0 [] (oC 0 [] (c27 h23) <| oB 4 h21 k) (by kernel_rfl))
              · obtain rfl := sj h
                exact k4 (tF q4 0 [] (oB 4 h21 k) (by kernel_rfl))
          · obtain rfl := sj h
            exact k4 (tF q4 1 [] (oK 2 [] h15 (c25 h14) k) (by kernel_rfl))
  · obtain ⟨r24, h25, h⟩ := obind h
    obtain rfl := sj h
    exact k4 (tF q4 0 [] (oC 1 [] (c27 h25) <| oK 1 [] h3 (c26 h2) o0) (by kernel_rfl))

end Go.Proofs.YteiddempdecleaaGreat

namespace Go.Proofs.YteiddempdecleaaGreat
open Go Go.Ab

theorem nodesL_app : ∀ a b : List Tm, nodesL (a ++ b) = nodesL a + nodesL b
  | [], b => by simp [nodesL]
  | t :: a, b => by simp only [List.cons_append, nodesL, nodesL_app a b]; omega
theorem nodesL_len : ∀ l : List Tm, l.length ≤ nodesL l
  | [] => by simp [nodesL]
  | t :: l => by rw [nodesL]; have := nodesL_len l; have := nodes_pos t; simp; omega
theorem nodes_sub (t : Tm) : t.nodes = 1 + nodesL t.sub := by cases t; rw [Tm.nodes, Tm.sub]
theorem gsl_ok {α : Type} {l : List α} {a b : Nat} (h1 : a ≤ b) (h2 : b ≤ l.length) : gsl l (a : Int) (b : Int) = some ((l.drop a).take (b - a)) := by
  unfold gsl
  rw [if_pos (by omega), show ((b : Int) - (a : Int)).toNat = b - a by omega, show (a : Int).toNat = a by omega]
theorem gidx_last {α : Type} (l : List α) (x : α) : gidx (l ++ [x]) (l.length : Int) = some x := by
  unfold gidx
  rw [if_pos (by omega)]; simp

/-- as the reference counts -/
theorem ev_rSizeL : ∀ (m h : Nat) (todo : List Tm), h + m = 8193 → todo.length ≤ 1 + h * 8193 → Evt (fun q => e77L26398 q todo (h : Int)) ((min (h + nodesL todo) 8193 : Nat) : Int) := by
  intro m
  induction m with
  | zero =>
    intro h todo hm hl
    refine Evt.succ ?_
    simp only [e77L26398]
    have : h = 8193 := by omega
    subst this
    rcases todo with _ | ⟨x, todo⟩
    · exact Evt.ifF (by simp) (Evt.ret.eq (by simp))
    · refine Evt.ifT (by simp <;> omega) (Evt.ifF (by simp) (Evt.ret.eq ?_))
      have : min (8193 + nodesL (x :: todo)) 8193 = 8193 := by omega
      rw [this]
  | succ m ih =>
    intro h todo hm hl
    refine Evt.succ ?_
    simp only [e77L26398]
    rcases List.eq_nil_or_concat todo with rfl | ⟨ini, x, rfl⟩
    · refine Evt.ifF (by simp) (Evt.ret.eq ?_)
      have : min (h + nodesL []) 8193 = h := by rw [nodesL]; omega
      rw [this]
    · simp only [List.concat_eq_append] at hl ⊢
      have hlen : (ini ++ [x]).length = ini.length + 1 := by simp
      have hb : h * 8193 ≤ 8192 * 8193 := Nat.mul_le_mul_right _ (by omega)
      have e1 : w64 (((ini ++ [x]).length : Int) - 1) = (ini.length : Int) := by rw [w64_id (by omega) (by omega), hlen]; omega
      refine Evt.ifT (by simp <;> omega) (Evt.ifT (by simp <;> omega) ?_)
      rw [e1]
      refine Evt.pure (gidx_last ini x) ?_
      have e2 : gsl (ini ++ [x]) 0 (ini.length : Int) = some ini := by
        have := gsl_ok (l := ini ++ [x]) (a := 0) (b := ini.length) (by omega) (by omega)
        simpa using this
      refine Evt.pure e2 (Evt.pure (gapp_ok (by simp <;> omega)) ?_)
      have e3 : imin (x.sub.length : Int) 8193 = ((min x.sub.length 8193 : Nat) : Int) := by unfold imin; split <;> omega
      rw [e3]
      have e4 := gsl_ok (l := x.sub) (a := 0) (b := min x.sub.length 8193) (by omega) (by omega)
      refine Evt.pure (by simpa using e4) (Evt.pure (gapp_ok (by simp <;> omega)) ?_)
      rw [w64_nat h (by omega)]
      refine (ih (h + 1) _ (by omega) (by simp <;> omega)).eq ?_
      have hn := nodes_sub x
      simp only [List.nil_append, nodesL_app, nodesL, Nat.add_zero]
      by_cases hs : x.sub.length ≤ 8193
      · rw [show min x.sub.length 8193 = x.sub.length by omega, List.take_length]
        omega
      · have h1 := nodesL_len (x.sub.take (min x.sub.length 8193))
        have h2 := nodesL_len x.sub
        simp only [List.length_take] at h1
        omega
theorem ev_rSize (t : Tm) : Evt (fun q => e77 q t) ((min t.nodes 8193 : Nat) : Int) := by
  simp only [e77]
  refine (ev_rSizeL 8193 0 [t] (by omega) (by simp)).eq ?_
  simp [nodesL]
mutual
theorem ev_rEqual : ∀ (t : Tm), t.Ok → Evt (fun q => e25 q t t) true
  | .mk k n l, ho => by
    rw [Tm.Ok] at ho
    refine Evt.succ ?_
    simp only [e25]
    exact Evt.ifF (by simp) (Evt.ifF (by simp) (Evt.ifF (by simp) (ev_rEqualL l (.mk k n l) 0 rfl ho.1 ho.2)))
theorem ev_rEqualL : ∀ (l : List Tm) (p : Tm) (v : Nat), p.sub.drop v = l → p.sub.length < 9223372036854775808 → OkL l → Evt (fun q => e25L12 q p p (v : Int)) true
  | [], p, v, hd, hl, ho => by
    refine Evt.succ ?_
    simp only [e25L12]
    exact Evt.ifF (drop_nil hd) Evt.ret
  | t :: l, p, v, hd, hl, ho => by
    have hlt := drop_lt hd
    rw [OkL] at ho
    refine Evt.succ ?_
    simp only [e25L12]
    refine Evt.ifT (drop_dec hd) (Evt.pure (drop_idx hd) (Evt.pure (drop_idx hd) ((ev_rEqual t ho.1).bind (Evt.ifT rfl ?_))))
    rw [w64_nat v (by omega)]
    exact ev_rEqualL l p (v + 1) (drop_next hd) hl ho.2
end
theorem tot_light (l : List Ent) (t : Tm) (f : Int) : Tot (fun q => e26 q l t f) (fun b => b = true → l.length ≤ 60) := by
  simp only [e26]
  refine Tot.ite (fun h => Tot.ite (fun _ => ?_) fun _ => Tot.ret (fun h => by cases h)) fun _ => Tot.ret (fun h => by cases h)
  have := of_decide_eq_true h
  exact Tot.bind (P := fun _ => True) ((ev_rSize t).tot trivial) fun r _ => Tot.ret fun _ => by omega
theorem out_Bring {N : ByteArray → Bool} (l : List Ent) (hE : AllE N l) (he : ∀ e ∈ l, EOk e) (x : Tm) (ho : x.Ok) (f : Int) (hf : 0 ≤ f) : Outc (fun L U q => e79 q (machT l) x L U) er4 (QB l) f := by
  simp only [e79, e82, machT_l]
  refine Outc.evt (a := rightT x 1048577 l.length) ((ev_Right x _ _ ho).bind Evt.ret) (Outc.ite (fun h => ?_) fun _ => Outc.err (fun _ _ => by show (5 : Int) ≠ 0; decide))
  have hs : shapedT x = true := by
    unfold rightT at h
    simp only [Bool.and_eq_true] at h
    exact h.1.1
  refine Outc.bind (hb_all l hE he x hs f hf) (fun r hr => ⟨_, Evt.ifT (by simpa using hr) Evt.ret, rfl⟩) ?_
  rintro R k k0 k1 ⟨y, hy, hst, rfl⟩
  dsimp only
  refine Outc.ite (fun h => by simp at h) fun _ => Outc.evt (a := y) ((ev_Copy y (shaped_ok hy)).eq (by unfold copT; rw [if_pos hy])) ?_
  exact Outc.ret (by omega) ⟨y, hy, hst, rfl⟩
theorem ev_mNew (f : Int) (h0 : 0 ≤ f) (h1 : f ≤ 1048576) : Evt (fun q => e47 q f) (.inr (0, f, 0)) := by
  simp only [e47]
  exact Evt.ifF (decide_eq_false (by omega)) (Evt.ifF (decide_eq_false (by omega)) (Evt.bind (a := f) (Evt.mk fun _ => rfl) Evt.ret))
/-- what whnf.Bring answers: it errs at f, or it is the same with all fuel that is enough -/
def BringOk (l : List Ent) (t : Tm) (f : Int) : Prop :=
  (∃ r, Evt (fun q => e28 q l t f) r ∧ r.2.2 ≠ 0) ∨
  (∃ (N : ByteArray → Bool), AllE N l ∧ ∃ y k, 0 ≤ k ∧ k ≤ f ∧ shapedT y = true ∧ Still l y ∧ (∀ g, k ≤ g → g ≤ 1048576 → Evt (fun q => e28 q l t g) (y, k, 0)) ∧ ∀ g, 0 ≤ g → g < k → ∃ r, Evt (fun q => e28 q l t g) r ∧ r.2.2 = 8)
theorem bring_ok (l : List Ent) (hl : l.length ≤ 60) (he : ∀ e ∈ l, EOk e) (hc : ∀ e ∈ l, ECl e) (t : Tm) (ho : t.Ok) (f : Int) (h0 : 0 ≤ f) (h1 : f ≤ 1048576) : BringOk l t f := by
  obtain ⟨N, hN⟩ := names_by
  obtain ⟨b, hb, hA, hn⟩ := ev_wNew N hN l (by omega) he hc
  cases b with
  | false =>
    left
    refine ⟨(Tm.mk 0 0 [], 0, 5), ?_, by show (5 : Int) ≠ 0; decide⟩
    simp only [e28]
    exact hn.bind (Evt.ifT (by decide) Evt.ret)
  | true =>
    have hE := hA rfl
    have run : ∀ g r, 0 ≤ g → g ≤ 1048576 → Evt (fun q => e79 q (machT l) t g 0) r → Evt (fun q => e28 q l t g) (if r.2.1 ≠ 0 then (Tm.mk 0 0 [], 0, r.2.1) else (r.1, r.2.2.2, 0)) := fun g r g0 g1 h => by
      simp only [e28]
      refine hn.bind (Evt.ifF (by simp) ((ev_mNew g g0 g1).bind (Evt.ifF (by simp) (Evt.bind (a := r) h ?_))))
      by_cases e : r.2.1 ≠ 0
      · rw [if_pos e]; exact Evt.ifT (by simpa using e) Evt.ret
      · rw [if_neg e]
        refine Evt.ifF (by simpa using e) (Evt.bind (a := r.2.2.2) (Evt.mk fun q => ?_) Evt.ret)
        simp only [e52, e114va35861]; rfl
    rcases out_Bring l hE he t ho f h0 with ⟨R, k, k0, k1, ⟨y, hy, hst, rfl⟩, h3, h4⟩ | h
    · right
      refine ⟨N, hE, y, k, k0, k1, hy, hst, fun g a b => ?_, fun g a b => ?_⟩
      · have := run g _ (by omega) b (h3 g 0 a (by omega) (by omega))
        refine this.eq ?_
        rw [if_neg (by simp)]
        show (y, 0 + k, 0) = _
        rw [Int.zero_add]
      · obtain ⟨r, h5, h6⟩ := h4 g 0 a b (by omega) (by omega)
        have h6' : r.2.1 = 8 := h6
        refine ⟨_, run g r a (by omega) h5, ?_⟩
        rw [if_pos (by omega)]; exact h6'
    · left
      obtain ⟨r, h5, h6⟩ := h 0 (by omega) (by omega)
      have h6' : r.2.1 ≠ 0 := h6
      refine ⟨_, run f r h0 h1 h5, ?_⟩
      rw [if_pos h6']; exact h6'

/- the program answers at all -/
def sT : Tm := .mk 2 2 []
def aT : Tm := .mk 5 0 [.mk 4 0 [sT, .mk 1 0 []], sT]
theorem ev_nNew : Evt (fun q => e36 q []) (newT [] true) := by
  obtain ⟨N, hN⟩ := names_by
  obtain ⟨b, hb, -, hn⟩ := ev_wNew N hN [] (by simp) (fun _ h => nomatch h) (fun _ h => nomatch h)
  have hF : Evt (fun q => e73 q []) true := by
    simp only [e73]
    refine Evt.ifF (by decide) ((ev_Names [] (by simp)).bind (Evt.bind (a := true) ?_ (Evt.ifT rfl ?_)))
    · simp only [e153]
      refine Evt.succ ?_
      simp only [e153L46510]
      exact Evt.ifF rfl Evt.ret
    · refine Evt.succ ?_
      simp only [e73L47399]
      exact Evt.ifF rfl Evt.ret
  rw [hb.det hF] at hn
  exact hn
theorem ev_on1 : Evt (fun q => e83 q (machT []) aT 5 0) (sT, true, 0, 4, 1) := by
  refine Evt.succ ?_
  simp only [e83, machT_l, machT_rl, machT_parts]
  have e1 : (hdT aT, arT aT) = (.mk 4 0 [sT, .mk 1 0 []], [sT]) := by kernel_rfl
  refine Evt.bind ((ev_Spine aT (by kernel_rfl)).eq e1) (Evt.ifT rfl (Evt.ifT rfl (Evt.pure (a := .mk 1 0 []) rfl (Evt.pure (a := sT) rfl ?_))))
  have e2 : subT (.mk 1 0 []) [sT] = (sT, 0) := by kernel_rfl
  refine Evt.bind ((ev_One _ _ (leaf_ok 1 0) (leaf_ok 2 2)).eq e2) (Evt.pure (a := []) rfl (Evt.bind (ev_Apply sT [] (by simp)) (Evt.ifF rfl ?_)))
  have e3 : wshT sT = (sT, 0) := by kernel_rfl
  exact Evt.bind ((ev_mStep 5 0 (by omega) (by omega) (by omega)).eq (if_pos (by omega))) (Evt.ifF rfl (((ev_wshaped sT (leaf_ok 2 2)).eq e3).bind Evt.ret))
theorem ev_on2 : Evt (fun q => e83 q (machT []) sT 4 1) (sT, false, 0, 4, 1) := by
  refine Evt.succ ?_
  simp only [e83, machT_l, machT_rl, machT_parts]
  have e1 : (hdT sT, arT sT) = (sT, []) := by kernel_rfl
  refine Evt.bind ((ev_Spine sT (by kernel_rfl)).eq e1) (Evt.ifF rfl ?_)
  have e2 : kindT [] sT = 0 := rfl
  exact Evt.bind ((ev_wkind [] sT (by decide)).eq e2) (Evt.ifF rfl (Evt.bind ((ev_wkind [] sT (by decide)).eq e2) (Evt.ifF rfl (Evt.ifF rfl Evt.ret))))
theorem ev_wawake : Evt (fun q => e27 q) true := by
  have hb : Evt (fun q => e157 q (machT []) aT 5 0) (sT, 0, 4, 1) := by
    refine Evt.succ ?_
    simp only [e157]
    refine Evt.succ ?_
    simp only [e157L60545, tm_eta]
    refine ev_on1.bind (Evt.ifT rfl (Evt.ifF rfl (Evt.succ ?_)))
    simp only [e157L60545, tm_eta]
    exact ev_on2.bind (Evt.ifF rfl (Evt.ifF rfl Evt.ret))
  have hB : Evt (fun q => e79 q (machT []) aT 5 0) (sT, 0, 4, 1) := by
    simp only [e79, e82, machT_l]
    have e1 : rightT aT 1048577 0 = true := by kernel_rfl
    have e2 : copT sT = sT := by kernel_rfl
    exact Evt.bind (a := true) (((ev_Right aT 1048577 0 (shaped_ok (by kernel_rfl))).eq e1).bind Evt.ret) (Evt.ifT rfl (hb.bind (Evt.ifF rfl (((ev_Copy sT (leaf_ok 2 2)).eq e2).bind Evt.ret))))
  have hW : Evt (fun q => e28 q [] aT 5) (sT, 1, 0) := by
    simp only [e28]
    refine ev_nNew.bind (Evt.ifF rfl ((ev_mNew 5 (by omega) (by omega)).bind (Evt.ifF rfl (Evt.bind (a := (sT, 0, 4, 1)) hB (Evt.ifF rfl ?_)))))
    refine Evt.bind (a := 1) (Evt.mk fun q => ?_) Evt.ret
    simp only [e52, e114va35861]; rfl
  simp only [e27]
  refine Evt.bind (a := .mk 4 0 [sT, .mk 1 0 []]) (Evt.mk fun _ => rfl) (Evt.bind (a := aT) (Evt.mk fun _ => rfl) (hW.bind (Evt.ifT rfl (Evt.ifT rfl ?_))))
  exact (ev_rEqual sT (leaf_ok 2 2)).bind Evt.ret

theorem ev_WhnfFuel (l : List Ent) (t : Tm) (more : Int) (he : ∀ e ∈ l, EOk e) (hc : ∀ e ∈ l, ECl e) (ho : t.Ok) (hm : 0 ≤ more ∧ more ≤ 255) : Evt (fun q => e4 q l t more) true := by
  simp only [e4]
  obtain ⟨b, hb, hb'⟩ := tot_light l t 0
  refine hb.bind ?_
  cases b with
  | false => exact Evt.ifF rfl (ev_wawake.bind Evt.ret)
  | true =>
    refine Evt.ifT rfl ?_
    rcases bring_ok l (hb' rfl) he hc t ho 200 (by omega) (by omega) with ⟨r, h1, h2⟩ | ⟨N, hE, y, k, k0, k1, hy, -, h3, h4⟩
    · exact h1.bind (Evt.ifT (by simpa using h2) (ev_wawake.bind Evt.ret))
    · have hw : w64 more = more := w64_id (by omega) (by omega)
      refine (h3 200 k1 (by omega)).bind (Evt.ifF (by simp) ?_)
      dsimp only
      rw [hw, w64_id (x := k + more) (by omega) (by omega)]
      refine (h3 (k + more) (by omega) (by omega)).bind (Evt.ifF (by simp) (Evt.ifF (by simp) ((ev_rEqual y (shaped_ok hy)).bind (Evt.ifT rfl ?_))))
      refine Evt.iff (fun _ => ev_wawake.bind Evt.ret) fun hk => ?_
      have hk' : k ≠ 0 := by simpa using hk
      rw [w64_id (x := k - 1) (by omega) (by omega)]
      obtain ⟨r, h5, h6⟩ := h4 (k - 1) (by omega) (by omega)
      exact h5.bind (Evt.ifT (by simpa using h6) (ev_wawake.bind Evt.ret))
end Go.Proofs.YteiddempdecleaaGreat

namespace Go.Ab
open Go Go.RowKit

/-- every cell that there is may be read; every block is kept -/
def rdG (W : World) : Gh := ⟨fun _ => none, fun _ => none, fun b o => ∃ v, W.cell? ⟨b, o, none⟩ = some v, W, fun b => b < W.heap.size⟩

theorem rd_rel (W : World) : RelS (rdG W) (over (Emp 0) (st0 [])) W := by
  refine ⟨fun _ => ⟨fun _ => rfl, fun _ => rfl⟩, ⟨0, fun _ _ => rfl⟩, fun _ _ _ h => ?_, fun _ _ _ h => ?_, fun _ _ h => ⟨h, fun i e => by cases e⟩, fun _ _ => rfl, fun _ h => ?_, fun _ _ _ _ _ _ _ h => ?_, Keep.refl _ _, fun _ h => h⟩
  · cases h
  · cases h
  · cases h
  · cases h
theorem rd_base (W : World) : Base (0 : Nat) (rdG W) := ⟨fun _ _ => rfl, fun _ => rfl, fun _ _ ⟨_, h⟩ => World.block_lt_of_cell? W _ h, trivial⟩

theorem rd_cells {W : World} : ∀ (xs : List AV) (cs : List Value) (b off : Nat), VL (rdG W) W xs cs → (∀ i, i < xs.length → W.cell? ⟨b, off + i, none⟩ = cs[i]?) → VC (rdG W) W xs b off
  | [], _, _, _, _, _ => by simp only [VC]
  | a :: xs, c :: cs, b, off, hv, h => by
    simp only [VL] at hv
    have h0 := h 0 (by simp)
    simp only [Nat.add_zero, List.getElem?_cons_zero] at h0
    simp only [VC]
    refine ⟨⟨c, h0⟩, ⟨c, h0, hv.1⟩, rd_cells xs cs b (off + 1) hv.2 fun i hi => ?_⟩
    have := h (i + 1) (by simp; omega)
    simpa [Nat.add_assoc, Nat.add_comm 1 i] using this
  | _ :: _, [], _, _, hv, _ => by simp only [VL] at hv

theorem OkL_of : ∀ {l : List Tm}, (∀ t ∈ l, t.Ok) → OkL l
  | [], _ => by rw [OkL]; trivial
  | t :: l, h => by rw [OkL]; exact ⟨h t (by simp), OkL_of fun u hu => h u (by simp [hu])⟩
theorem rd_elems {W : World} {b : Nat} : ∀ (n off : Nat), (∀ i, i < n → ∃ (cs : List Value) (t : Tm), (∀ j, j < 3 → W.cell? ⟨b, off + i * 3 + j, none⟩ = cs[j]?) ∧ VL (rdG W) W (tmL t) cs ∧ t.Ok) →
    ∃ l : List Tm, l.length = n ∧ VC (rdG W) W (flat tmCells l) b off ∧ OkL l
  | 0, off, _ => ⟨[], rfl, by simp [flat, VC], by rw [OkL]; trivial⟩
  | n + 1, off, h => by
    obtain ⟨cs, t, hc, ht, hto⟩ := h 0 (by omega)
    obtain ⟨l, hl, hV, hlo⟩ := rd_elems (W := W) (b := b) n (off + 3) fun i hi => by
      obtain ⟨cs, t, hc, ht, hto⟩ := h (i + 1) (by omega)
      refine ⟨cs, t, fun j hj => ?_, ht, hto⟩
      rw [← hc j hj]
      congr 2
      omega
    refine ⟨t :: l, by simp [hl], ?_, by rw [OkL]; exact ⟨hto, hlo⟩⟩
    have e : flat tmCells (t :: l) = tmL t ++ flat tmCells l := by simp only [flat, List.flatMap_cons, tm_eq]
    rw [e]
    refine VC.append _ _ _ _ (rd_cells _ cs _ _ ht fun i hi => ?_) (by simpa [tmL] using hV)
    simpa using hc i (by simpa [tmL] using hi)

end Go.Ab

namespace Go.Proofs.YteiddempdecleaaGreat
open Go Go.Ab Go.RowKit Go.Proofs

/-- a list of them, where each is read by less fuel -/
theorem rd_list {H : Type} {enc : TypeId × Value → H} {W : World} {n : Nat} {c2 : Value} {x : DataW H × List MemPlace}
    (ih : ∀ m, n = m + 1 → ∀ (cs : List Value) (x : DataW H × List MemPlace), DataW.trod enc Tryz.prog W 0 (fun _ => true) true m 27 cs = some x → ∃ t : Tm, VL (rdG W) W (tmL t) cs ∧ t.Ok)
    (f2 : DataW.trod enc Tryz.prog W 0 (fun _ => true) true n 23 [c2] = some x) : ∃ l : List Tm, V (rdG W) W (.sl (flat tmCells l) l.length .no) c2 ∧ OkL l ∧ l.length < 9223372036854775808 := by
  rcases DataW.trod_slice Tryz.underlying23 f2 with ⟨e2, -⟩ | ⟨a, len, cap, elems, rest, m, hm, e2, -, -, hle, hmx, hel, hE, hR, -⟩
  · cases e2
    exact ⟨[], by simp only [V]; exact ⟨0, Nat.le_refl _, .inl ⟨rfl, rfl, rfl, rfl, trivial⟩⟩, by rw [OkL]; trivial, by simp⟩
  · cases e2
    have rd : ∀ i, i < cap → ∃ (cs : List Value) (t : Tm), W.cells? 0 (a.add (i * 3)) 3 = some cs ∧ VL (rdG W) W (tmL t) cs ∧ t.Ok := by
      intro i hi
      have got : ∃ y, (W.cells? 0 (a.add (i * 3)) 3).bind (DataW.trod enc Tryz.prog W 0 (fun _ => true) true m 27) = some y := by
        rw [← termCells]
        rcases Nat.lt_or_ge i len with hlt | hge
        · rw [hE i hlt]; exact ⟨_, List.getElem?_eq_getElem (by omega)⟩
        · obtain ⟨r1, r2⟩ := hR rfl
          have := r2 (i - len) (by omega)
          rw [show len + (i - len) = i by omega] at this
          rw [this]; exact ⟨_, List.getElem?_eq_getElem (by omega)⟩
      obtain ⟨y, hy⟩ := got
      obtain ⟨cs, h1, h2⟩ := Option.bind_eq_some_iff.1 hy
      obtain ⟨t, ht⟩ := ih m hm cs y h2
      exact ⟨cs, t, h1, ht⟩
    rcases Nat.eq_zero_or_pos cap with e | hpos
    · subst e
      have : len = 0 := by omega
      subst this
      exact ⟨[], by simp only [V]; exact ⟨0, Nat.le_refl _, .inl ⟨rfl, rfl, rfl, rfl, trivial⟩⟩, by rw [OkL]; trivial, by simp⟩
    · obtain ⟨b, off, spot⟩ := a
      have hsp : spot = none := by
        obtain ⟨cs, t, h1, h2⟩ := rd 0 hpos
        obtain ⟨_, hl, hc⟩ := World.cells?_some h1
        have g0 := hc 0 (by omega)
        obtain ⟨c0, hc0⟩ : ∃ c0, cs[0]? = some c0 := ⟨_, List.getElem?_eq_getElem (by omega)⟩
        rw [hc0] at g0
        simpa [Addr.add] using World.cell?_spot g0
      subst hsp
      obtain ⟨l, hl, hV, hlo⟩ := rd_elems (W := W) (b := b) len off fun i hi => by
        obtain ⟨cs, t, h1, h2⟩ := rd i (by omega)
        obtain ⟨_, _, hc⟩ := World.cells?_some h1
        exact ⟨cs, t, fun j hj => by have := hc j hj; simpa [Addr.add_lit] using this, h2⟩
      refine ⟨l, ?_, hlo, by have : maxLen = 9223372036854775807 := rfl; omega⟩
      simp only [V]
      exact ⟨cap, by omega, .inr ⟨b, off, by rw [hl], hV, trivial⟩⟩

theorem rd_term {H : Type} {enc : TypeId × Value → H} {W : World} : ∀ (fuel : Nat) (cs : List Value) (x : DataW H × List MemPlace), DataW.trod enc Tryz.prog W 0 (fun _ => true) true fuel 27 cs = some x → ∃ t : Tm, VL (rdG W) W (tmL t) cs ∧ t.Ok := by
  intro fuel
  induction fuel using Nat.strongRecOn with
  | ind fuel ih =>
    intro cs x h
    obtain ⟨xs, n, hn, -, hlen, hxs, hf⟩ := DataW.trod_struct Tryz.underlying27 h
    have hlen : cs.length = 3 := hlen.trans termCells
    obtain ⟨c0, c1, c2, rfl⟩ : ∃ c0 c1 c2, cs = [c0, c1, c2] := by
      rcases cs with _ | ⟨a, _ | ⟨b, _ | ⟨c, _ | ⟨e, cs⟩⟩⟩⟩ <;> simp only [List.length_nil, List.length_cons] at hlen <;> first | exact ⟨a, b, c, rfl⟩ | omega
    have c3 : Tryz.prog.cellsOf 3 = 1 := by kernel_rfl
    have c78 : Tryz.prog.cellsOf 23 = 1 := by kernel_rfl
    have f0 : DataW.trod enc Tryz.prog W 0 (fun _ => true) true n 3 ((List.drop 0 [c0, c1, c2]).take (Tryz.prog.cellsOf 3)) = xs[0]? := hf 0 _ rfl
    have f1 : DataW.trod enc Tryz.prog W 0 (fun _ => true) true n 3 ((List.drop 1 [c0, c1, c2]).take (Tryz.prog.cellsOf 3)) = xs[1]? := hf 1 _ rfl
    have f2 : DataW.trod enc Tryz.prog W 0 (fun _ => true) true n 23 ((List.drop 2 [c0, c1, c2]).take (Tryz.prog.cellsOf 23)) = xs[2]? := hf 2 _ rfl
    rw [c3] at f0 f1
    rw [c78] at f2
    replace f0 : DataW.trod enc Tryz.prog W 0 (fun _ => true) true n 3 [c0] = xs[0]? := f0
    replace f1 : DataW.trod enc Tryz.prog W 0 (fun _ => true) true n 3 [c1] = xs[1]? := f1
    replace f2 : DataW.trod enc Tryz.prog W 0 (fun _ => true) true n 23 [c2] = xs[2]? := f2
    have hsz : xs.length = 3 := hxs
    obtain ⟨y0, y1, y2, rfl⟩ : ∃ y0 y1 y2, xs = [y0, y1, y2] := by
      rcases xs with _ | ⟨a, _ | ⟨b, _ | ⟨c, _ | ⟨e, xs⟩⟩⟩⟩ <;> simp only [List.length_nil, List.length_cons] at hsz <;> first | exact ⟨a, b, c, rfl⟩ | omega
    simp only [List.getElem?_cons_zero, List.getElem?_cons_succ] at f0 f1 f2
    obtain ⟨k0, e0, -, -⟩ := DataW.trod_int Tryz.underlying3 f0
    obtain ⟨k1, e1, -, -⟩ := DataW.trod_int Tryz.underlying3 f1
    cases e0; cases e1
    have key := rd_list (W := W) (n := n) (fun m hm cs x hx => ih m (by omega) cs x hx) f2
    obtain ⟨l, hl, ho, hlen⟩ := key
    refine ⟨.mk k0 k1 l, ?_, by rw [Tm.Ok]; exact ⟨hlen, ho⟩⟩
    simp only [tmL, Tm.k, Tm.n, Tm.sub, VL]
    exact ⟨by simp only [V], by simp only [V], hl, trivial⟩

theorem rd_tmA {H : Type} {enc : TypeId × Value → H} {W : World} {v : Value} {d : DataW H} {p : List MemPlace} (hv : ∃ (k n : Int) (p : Option Addr) (m c : Nat), v = .agg #[.int .i64 k, .int .i64 n, .slice p m c])
    (h : DataW.Trod enc Tryz.prog W 0 (fun _ => true) true 27 v d p) : ∃ t : Tm, V (rdG W) W (tmA t) v ∧ t.Ok := by
  obtain ⟨k, n, q, m, c, rfl⟩ := hv
  obtain ⟨fuel, hf⟩ := h
  obtain ⟨t, ht, ho⟩ := rd_term fuel _ _ hf
  refine ⟨t, ?_, ho⟩
  simp only [tmA, V]
  exact ⟨_, rfl, by simpa [Value.cells] using ht⟩

theorem rd_tms {H : Type} {enc : TypeId × Value → H} {W : World} {v : Value} {d : DataW H} {p : List MemPlace} (hv : ∃ (q : Option Addr) (m c : Nat), v = .slice q m c)
    (h : DataW.Trod enc Tryz.prog W 0 (fun _ => true) true 23 v d p) : ∃ l : List Tm, V (rdG W) W (.sl (flat tmCells l) l.length .no) v ∧ OkL l ∧ l.length < 9223372036854775808 := by
  obtain ⟨q, m, c, rfl⟩ := hv
  obtain ⟨fuel, hf⟩ := h
  exact rd_list (n := fuel) (fun m _ cs x hx => rd_term m cs x hx) (by simpa [Value.cells] using hf)

end Go.Proofs.YteiddempdecleaaGreat

namespace Go.Ab
open Go Go.RowKit

/-- each weight is within reach -/
def Wt {H : Type} (P : Program) (t : TypeId) (d : DataW H) : Prop := ∀ w ∈ d.weights P t, w ≤ reachBytes
theorem wt_each {H : Type} {P : Program} : ∀ (ts : List TypeId) (ds : List (DataW H)) (i : Nat) (t : TypeId) (d : DataW H), ts[i]? = some t → ds[i]? = some d → ∀ w ∈ d.weights P t, w ∈ DataW.weightsEach P ts ds
  | [], _, i, t, d, h, _, w, _ => by simp at h
  | _ :: _, [], i, t, d, _, h, w, _ => by simp at h
  | t0 :: ts, d0 :: ds, 0, t, d, h, k, w, hw => by
    simp only [List.getElem?_cons_zero, Option.some.injEq] at h k
    subst h; subst k
    rw [DataW.weightsEach]; exact List.mem_append_left _ hw
  | t0 :: ts, d0 :: ds, i + 1, t, d, h, k, w, hw => by
    rw [DataW.weightsEach]
    exact List.mem_append_right _ (wt_each ts ds i t d (by simpa using h) (by simpa using k) w hw)
theorem wt_all {H : Type} {P : Program} {e : TypeId} : ∀ (ds : List (DataW H)) (d : DataW H), d ∈ ds → ∀ w ∈ d.weights P e, w ∈ DataW.weightsAll P e ds
  | d0 :: ds, d, h, w, hw => by
    rw [DataW.weightsAll]
    rcases List.mem_cons.1 h with rfl | h
    · exact List.mem_append_left _ hw
    · exact List.mem_append_right _ (wt_all ds d h w hw)
theorem wt_field {H : Type} {P : Program} {t : TypeId} {fs : Array Field} (ht : P.underlying t = some (.struct fs)) {parts : List (DataW H)} (h : Wt P t (.agg parts)) {i : Nat} {f : Field} {d : DataW H} (hf : fs[i]? = some f) (hd : parts[i]? = some d) : Wt P f.type d := fun w hw => by
  refine h w ?_
  rw [DataW.weights, ht]
  exact wt_each _ _ i f.type d (by rw [List.getElem?_map, Array.getElem?_toList, hf]; rfl) hd w hw
theorem wt_slice {H : Type} {P : Program} {t e : TypeId} (ht : P.underlying t = some (.slice e)) {es rs : List (DataW H)} (h : Wt P t (.slice es rs)) : (es.length + rs.length) * P.bytesOf e ≤ reachBytes ∧ (∀ d ∈ es, Wt P e d) ∧ ∀ d ∈ rs, Wt P e d := by
  unfold Wt at h
  rw [DataW.weights, ht] at h
  refine ⟨h _ (by simp), fun d hd w hw => h w ?_, fun d hd w hw => h w ?_⟩
  · exact List.mem_cons_of_mem _ (List.mem_append_left _ (wt_all es d hd w hw))
  · exact List.mem_cons_of_mem _ (List.mem_append_right _ (wt_all rs d hd w hw))

theorem rd_elemsG {α : Type} (cells : α → List AV) (c : Nat) (hcl : ∀ x, (cells x).length = c) {W : World} {b : Nat} {Q : α → Prop} : ∀ (n off : Nat), (∀ i, i < n → ∃ (cs : List Value) (x : α), (∀ j, j < c → W.cell? ⟨b, off + i * c + j, none⟩ = cs[j]?) ∧ VL (rdG W) W (cells x) cs ∧ Q x) →
    ∃ l : List α, l.length = n ∧ VC (rdG W) W (flat cells l) b off ∧ ∀ x ∈ l, Q x
  | 0, off, _ => ⟨[], rfl, by simp [flat, VC], fun _ h => nomatch h⟩
  | n + 1, off, h => by
    obtain ⟨cs, t, hc, ht, hq⟩ := h 0 (by omega)
    obtain ⟨l, hl, hV, hlo⟩ := rd_elemsG cells c hcl (W := W) (b := b) (Q := Q) n (off + c) fun i hi => by
      obtain ⟨cs, t, hc, ht, hto⟩ := h (i + 1) (by omega)
      refine ⟨cs, t, fun j hj => ?_, ht, hto⟩
      rw [← hc j hj]
      congr 2
      rw [Nat.succ_mul]; omega
    refine ⟨t :: l, by simp [hl], ?_, fun x hx => (List.mem_cons.1 hx).elim (fun e => e ▸ hq) (hlo x)⟩
    have e : flat cells (t :: l) = cells t ++ flat cells l := by simp only [flat, List.flatMap_cons]
    rw [e]
    refine VC.append _ _ _ _ (rd_cells _ cs _ _ ht fun i hi => ?_) (by rw [hcl]; exact hV)
    rw [hcl] at hi
    simpa using hc i hi
theorem rd_sliceG {α : Type} (cells : α → List AV) (c : Nat) (hcl : ∀ x, (cells x).length = c) (hpos : 0 < c) {H : Type} {enc : TypeId × Value → H} {P : Program} {W : World} {n : Nat} {t e : TypeId} {c2 : Value} {x : DataW H × List MemPlace} {Q : α → Prop}
    (ht : P.underlying t = some (.slice e)) (hc : P.cellsOf e = c)
    (ih : ∀ m, n = m + 1 → ∀ (cs : List Value) (x : DataW H × List MemPlace), DataW.trod enc P W 0 (fun _ => true) true m e cs = some x → Wt P e x.1 → ∃ a : α, VL (rdG W) W (cells a) cs ∧ Q a)
    (f2 : DataW.trod enc P W 0 (fun _ => true) true n t [c2] = some x) (hw : Wt P t x.1) : ∃ l : List α, V (rdG W) W (.sl (flat cells l) l.length .no) c2 ∧ (∀ a ∈ l, Q a) ∧ l.length * P.bytesOf e ≤ reachBytes := by
  rcases DataW.trod_slice ht f2 with ⟨e2, -⟩ | ⟨a, len, cap, elems, rest, m, hm, e2, hx, -, hle, hmx, hel, hE, hR, -⟩
  · cases e2
    exact ⟨[], by simp only [V]; exact ⟨0, Nat.le_refl _, .inl ⟨rfl, rfl, rfl, rfl, trivial⟩⟩, fun _ h => (nomatch h), by simp⟩
  · cases e2
    rw [hx] at hw
    obtain ⟨w1, w2, w3⟩ := wt_slice ht hw
    rw [hc] at hE hR
    have rd : ∀ i, i < cap → ∃ (cs : List Value) (t : α), W.cells? 0 (a.add (i * c)) c = some cs ∧ VL (rdG W) W (cells t) cs ∧ Q t := by
      intro i hi
      have got : ∃ y, (W.cells? 0 (a.add (i * c)) c).bind (DataW.trod enc P W 0 (fun _ => true) true m e) = some y ∧ Wt P e y.1 := by
        rcases Nat.lt_or_ge i len with hlt | hge
        · rw [hE i hlt]; exact ⟨_, List.getElem?_eq_getElem (by omega), w2 _ (List.mem_map_of_mem (List.getElem_mem _))⟩
        · obtain ⟨r1, r2⟩ := hR rfl
          have := r2 (i - len) (by omega)
          rw [show len + (i - len) = i by omega] at this
          rw [this]; exact ⟨_, List.getElem?_eq_getElem (by omega), w3 _ (List.mem_map_of_mem (List.getElem_mem _))⟩
      obtain ⟨y, hy, hyw⟩ := got
      obtain ⟨cs, h1, h2⟩ := Option.bind_eq_some_iff.1 hy
      obtain ⟨t, ht⟩ := ih m hm cs y h2 hyw
      exact ⟨cs, t, h1, ht⟩
    rcases Nat.eq_zero_or_pos cap with e0 | hp
    · subst e0
      have : len = 0 := by omega
      subst this
      exact ⟨[], by simp only [V]; exact ⟨0, Nat.le_refl _, .inl ⟨rfl, rfl, rfl, rfl, trivial⟩⟩, fun _ h => (nomatch h), by simp⟩
    · obtain ⟨b, off, spot⟩ := a
      have hsp : spot = none := by
        obtain ⟨cs, t, h1, h2⟩ := rd 0 hp
        obtain ⟨_, hl, hcc⟩ := World.cells?_some h1
        have g0 := hcc 0 (by omega)
        obtain ⟨c0, hc0⟩ : ∃ c0, cs[0]? = some c0 := ⟨_, List.getElem?_eq_getElem (by omega)⟩
        rw [hc0] at g0
        simpa [Addr.add] using World.cell?_spot g0
      subst hsp
      obtain ⟨l, hl, hV, hlo⟩ := rd_elemsG cells c hcl (W := W) (b := b) (Q := Q) len off fun i hi => by
        obtain ⟨cs, t, h1, h2⟩ := rd i (by omega)
        obtain ⟨_, _, hcc⟩ := World.cells?_some h1
        exact ⟨cs, t, fun j hj => by have := hcc j hj; simpa [Addr.add_lit] using this, h2⟩
      refine ⟨l, ?_, hlo, ?_⟩
      · simp only [V]
        exact ⟨cap, by omega, .inr ⟨b, off, by rw [hl], hV, trivial⟩⟩
      · rw [List.length_map, List.length_map, hel] at w1
        rw [hl]
        exact Nat.le_trans (Nat.mul_le_mul_right _ (Nat.le_add_right _ _)) w1
end Go.Ab

namespace Go.Proofs.YteiddempdecleaaGreat
open Go Go.Ab Go.RowKit Go.Proofs
/-- what reading tells of an entry -/
def RdE (e : Ent) : Prop := e.type.Ok ∧ e.body.Ok ∧ e.cons.length ≤ 17592186044416 ∧ e.fields.length ≤ 17592186044416
theorem rd_ints {H : Type} {enc : TypeId × Value → H} {W : World} {n : Nat} {c2 : Value} {x : DataW H × List MemPlace} (f2 : DataW.trod enc Tryz.prog W 0 (fun _ => true) true n 34 [c2] = some x) (hw : Wt Tryz.prog 34 x.1) :
    ∃ l : List Int, V (rdG W) W (.sl (flat intC l) l.length .no) c2 ∧ l.length ≤ 17592186044416 := by
  obtain ⟨l, h1, -, h2⟩ := rd_sliceG intC 1 (fun _ => rfl) (by omega) (Q := fun _ => True) Tryz.underlying34 (by kernel_rfl) (fun m _ cs x h _ => by
    obtain ⟨k, e, -⟩ := DataW.trod_int Tryz.underlying3 h
    subst e
    exact ⟨k, by simp only [intC, VL, V, and_true], trivial⟩) f2 hw
  refine ⟨l, h1, ?_⟩
  have : Tryz.prog.bytesOf 3 = 8 := by kernel_rfl
  rw [this] at h2
  have : reachBytes = 140737488351232 := rfl
  omega
theorem list15 {α : Type} (l : List α) (h : l.length = 15) : ∃ c0 c1 c2 c3 c4 c5 c6 c7 c8 c9 c10 c11 c12 c13 c14, l = [c0, c1, c2, c3, c4, c5, c6, c7, c8, c9, c10, c11, c12, c13, c14] := by
  rcases l with _ | ⟨c0, _ | ⟨c1, _ | ⟨c2, _ | ⟨c3, _ | ⟨c4, _ | ⟨c5, _ | ⟨c6, _ | ⟨c7, _ | ⟨c8, _ | ⟨c9, _ | ⟨c10, _ | ⟨c11, _ | ⟨c12, _ | ⟨c13, _ | ⟨c14, _ | ⟨zz, zs⟩⟩⟩⟩⟩⟩⟩⟩⟩⟩⟩⟩⟩⟩⟩⟩ <;> simp only [List.length_nil, List.length_cons] at h <;> first | exact ⟨c0, c1, c2, c3, c4, c5, c6, c7, c8, c9, c10, c11, c12, c13, c14, rfl⟩ | omega
theorem list11 {α : Type} (l : List α) (h : l.length = 11) : ∃ y0 y1 y2 y3 y4 y5 y6 y7 y8 y9 y10, l = [y0, y1, y2, y3, y4, y5, y6, y7, y8, y9, y10] := by
  rcases l with _ | ⟨y0, _ | ⟨y1, _ | ⟨y2, _ | ⟨y3, _ | ⟨y4, _ | ⟨y5, _ | ⟨y6, _ | ⟨y7, _ | ⟨y8, _ | ⟨y9, _ | ⟨y10, _ | ⟨zz, zs⟩⟩⟩⟩⟩⟩⟩⟩⟩⟩⟩⟩ <;> simp only [List.length_nil, List.length_cons] at h <;> first | exact ⟨y0, y1, y2, y3, y4, y5, y6, y7, y8, y9, y10, rfl⟩ | omega
theorem rd_entry {H : Type} {enc : TypeId × Value → H} {W : World} (fuel : Nat) (cs : List Value) (x : DataW H × List MemPlace) (h : DataW.trod enc Tryz.prog W 0 (fun _ => true) true fuel 36 cs = some x) (hw : Wt Tryz.prog 36 x.1) : ∃ e : Ent, VL (rdG W) W (entL e) cs ∧ RdE e := by
  obtain ⟨xs, n, hn, hx, hlen, hxs, hf⟩ := DataW.trod_struct Tryz.underlying36 h
  rw [hx] at hw
  have c15 : Tryz.prog.cellsOf 36 = 15 := by kernel_rfl
  obtain ⟨c0, c1, c2, c3, c4, c5, c6, c7, c8, c9, c10, c11, c12, c13, c14, rfl⟩ := list15 cs (hlen.trans c15)
  obtain ⟨y0, y1, y2, y3, y4, y5, y6, y7, y8, y9, y10, rfl⟩ := list11 xs hxs
  have kINT : Tryz.prog.cellsOf 3 = 1 := by kernel_rfl
  have kSTR : Tryz.prog.cellsOf 9 = 1 := by kernel_rfl
  have kTERM : Tryz.prog.cellsOf 27 = 3 := by kernel_rfl
  have kINTS : Tryz.prog.cellsOf 34 = 1 := by kernel_rfl
  have f0 : DataW.trod enc Tryz.prog W 0 (fun _ => true) true n 3 ((List.drop 0 [c0, c1, c2, c3, c4, c5, c6, c7, c8, c9, c10, c11, c12, c13, c14]).take (Tryz.prog.cellsOf 3)) = some y0 := hf 0 _ rfl
  rw [kINT] at f0
  replace f0 : DataW.trod enc Tryz.prog W 0 (fun _ => true) true n 3 [c0] = some y0 := f0
  have f1 : DataW.trod enc Tryz.prog W 0 (fun _ => true) true n 9 ((List.drop 1 [c0, c1, c2, c3, c4, c5, c6, c7, c8, c9, c10, c11, c12, c13, c14]).take (Tryz.prog.cellsOf 9)) = some y1 := hf 1 _ rfl
  rw [kSTR] at f1
  replace f1 : DataW.trod enc Tryz.prog W 0 (fun _ => true) true n 9 [c1] = some y1 := f1
  have f2 : DataW.trod enc Tryz.prog W 0 (fun _ => true) true n 27 ((List.drop 2 [c0, c1, c2, c3, c4, c5, c6, c7, c8, c9, c10, c11, c12, c13, c14]).take (Tryz.prog.cellsOf 27)) = some y2 := hf 2 _ rfl
  rw [kTERM] at f2
  replace f2 : DataW.trod enc Tryz.prog W 0 (fun _ => true) true n 27 [c2, c3, c4] = some y2 := f2
  have f3 : DataW.trod enc Tryz.prog W 0 (fun _ => true) true n 27 ((List.drop 5 [c0, c1, c2, c3, c4, c5, c6, c7, c8, c9, c10, c11, c12, c13, c14]).take (Tryz.prog.cellsOf 27)) = some y3 := hf 3 _ rfl
  rw [kTERM] at f3
  replace f3 : DataW.trod enc Tryz.prog W 0 (fun _ => true) true n 27 [c5, c6, c7] = some y3 := f3
  have f4 : DataW.trod enc Tryz.prog W 0 (fun _ => true) true n 3 ((List.drop 8 [c0, c1, c2, c3, c4, c5, c6, c7, c8, c9, c10, c11, c12, c13, c14]).take (Tryz.prog.cellsOf 3)) = some y4 := hf 4 _ rfl
  rw [kINT] at f4
  replace f4 : DataW.trod enc Tryz.prog W 0 (fun _ => true) true n 3 [c8] = some y4 := f4
  have f5 : DataW.trod enc Tryz.prog W 0 (fun _ => true) true n 3 ((List.drop 9 [c0, c1, c2, c3, c4, c5, c6, c7, c8, c9, c10, c11, c12, c13, c14]).take (Tryz.prog.cellsOf 3)) = some y5 := hf 5 _ rfl
  rw [kINT] at f5
  replace f5 : DataW.trod enc Tryz.prog W 0 (fun _ => true) true n 3 [c9] = some y5 := f5
  have f6 : DataW.trod enc Tryz.prog W 0 (fun _ => true) true n 3 ((List.drop 10 [c0, c1, c2, c3, c4, c5, c6, c7, c8, c9, c10, c11, c12, c13, c14]).take (Tryz.prog.cellsOf 3)) = some y6 := hf 6 _ rfl
  rw [kINT] at f6
  replace f6 : DataW.trod enc Tryz.prog W 0 (fun _ => true) true n 3 [c10] = some y6 := f6
  have f7 : DataW.trod enc Tryz.prog W 0 (fun _ => true) true n 3 ((List.drop 11 [c0, c1, c2, c3, c4, c5, c6, c7, c8, c9, c10, c11, c12, c13, c14]).take (Tryz.prog.cellsOf 3)) = some y7 := hf 7 _ rfl
  rw [kINT] at f7
  replace f7 : DataW.trod enc Tryz.prog W 0 (fun _ => true) true n 3 [c11] = some y7 := f7
  have f8 : DataW.trod enc Tryz.prog W 0 (fun _ => true) true n 3 ((List.drop 12 [c0, c1, c2, c3, c4, c5, c6, c7, c8, c9, c10, c11, c12, c13, c14]).take (Tryz.prog.cellsOf 3)) = some y8 := hf 8 _ rfl
  rw [kINT] at f8
  replace f8 : DataW.trod enc Tryz.prog W 0 (fun _ => true) true n 3 [c12] = some y8 := f8
  have f9 : DataW.trod enc Tryz.prog W 0 (fun _ => true) true n 34 ((List.drop 13 [c0, c1, c2, c3, c4, c5, c6, c7, c8, c9, c10, c11, c12, c13, c14]).take (Tryz.prog.cellsOf 34)) = some y9 := hf 9 _ rfl
  rw [kINTS] at f9
  replace f9 : DataW.trod enc Tryz.prog W 0 (fun _ => true) true n 34 [c13] = some y9 := f9
  have f10 : DataW.trod enc Tryz.prog W 0 (fun _ => true) true n 34 ((List.drop 14 [c0, c1, c2, c3, c4, c5, c6, c7, c8, c9, c10, c11, c12, c13, c14]).take (Tryz.prog.cellsOf 34)) = some y10 := hf 10 _ rfl
  rw [kINTS] at f10
  replace f10 : DataW.trod enc Tryz.prog W 0 (fun _ => true) true n 34 [c14] = some y10 := f10
  obtain ⟨n0, e0, -, -⟩ := DataW.trod_int Tryz.underlying3 f0
  cases e0
  obtain ⟨n1, e1, -, -⟩ := DataW.trod_string Tryz.underlying9 f1
  cases e1
  obtain ⟨t2, v2, o2⟩ := rd_term _ _ _ f2
  obtain ⟨t3, v3, o3⟩ := rd_term _ _ _ f3
  obtain ⟨n4, e4, -, -⟩ := DataW.trod_int Tryz.underlying3 f4
  cases e4
  obtain ⟨n5, e5, -, -⟩ := DataW.trod_int Tryz.underlying3 f5
  cases e5
  obtain ⟨n6, e6, -, -⟩ := DataW.trod_int Tryz.underlying3 f6
  cases e6
  obtain ⟨n7, e7, -, -⟩ := DataW.trod_int Tryz.underlying3 f7
  cases e7
  obtain ⟨n8, e8, -, -⟩ := DataW.trod_int Tryz.underlying3 f8
  cases e8
  obtain ⟨l9, v9, o9⟩ := rd_ints f9 (wt_field Tryz.underlying36 hw (i := 9) rfl rfl)
  obtain ⟨l10, v10, o10⟩ := rd_ints f10 (wt_field Tryz.underlying36 hw (i := 10) rfl rfl)
  simp only [tmL, VL] at v2 v3
  refine ⟨Ent.mk n0 n1 t2 t3 n4 n5 n6 n7 n8 l9 l10, ?_, o2, o3, o9, o10⟩
  simp only [entL, VL]
  exact ⟨by simp only [V], by simp only [V], v2.1, v2.2.1, v2.2.2.1, v3.1, v3.2.1, v3.2.2.1, by simp only [V], by simp only [V], by simp only [V], by simp only [V], by simp only [V], v9, v10, trivial⟩
theorem rd_ents {H : Type} {enc : TypeId × Value → H} {W : World} {v : Value} {d : DataW H} {p : List MemPlace} (hv : ∃ (q : Option Addr) (m c : Nat), v = .slice q m c)
    (h : DataW.Trod enc Tryz.prog W 0 (fun _ => true) true 22 v d p) (hw : Wt Tryz.prog 22 d) : ∃ l : List Ent, V (rdG W) W (.sl (flat entL l) l.length .no) v ∧ ∀ e ∈ l, RdE e := by
  obtain ⟨q, m, c, rfl⟩ := hv
  obtain ⟨fuel, hf⟩ := h
  obtain ⟨l, h1, h2, -⟩ := rd_sliceG entL 15 (fun _ => rfl) (by omega) (Q := RdE) Tryz.underlying22 (by kernel_rfl) (fun m _ cs x h hw => rd_entry m cs x h hw) (n := fuel) (by simpa [Value.cells] using hf) hw
  exact ⟨l, h1, h2⟩
end Go.Proofs.YteiddempdecleaaGreat

namespace Go.Proofs.YteiddempdecleaaGreat
open Go Go.Ab

theorem u8_wf {x : Int} (h : (Lit.int .u8 x).wf = true) : 0 ≤ x ∧ x < 256 := by
  have e1 : IntKind.u8.min = 0 := rfl
  have e2 : IntKind.u8.max = 255 := rfl
  simp [Lit.wf] at h
  omega
theorem rdE_ok {l : List Ent} (h : ∀ e ∈ l, RdE e) : ∀ e ∈ l, EOk e := fun e he => ⟨(h e he).1, (h e he).2.1, Nat.le_trans (h e he).2.2.1 (by decide), Nat.le_trans (h e he).2.2.2 (by decide)⟩
theorem rdE_cl {l : List Ent} (h : ∀ e ∈ l, RdE e) : ∀ e ∈ l, ECl e := fun e he => ⟨(h e he).2.2.1, (h e he).2.2.2⟩
theorem whnfFuel_ct (l : List Ent) (t : Tm) (more : Int) (w0 : ∀ e ∈ l, RdE e) (w1 : t.Ok) (w2 : (Lit.int .u8 more).wf = true) : CT Tryz.prog 4 [] [.sl (flat entL l) l.length .no, tmA t, .val (.int .u8 more)] (ab true) [] 0 := by
  have hu := u8_wf w2
  have hm : 0 ≤ more ∧ more ≤ 255 := by omega
  obtain ⟨q, hq⟩ := (ev_WhnfFuel l t more (rdE_ok w0) (rdE_cl w0) w1 hm).at
  exact c4 hq
end Go.Proofs.YteiddempdecleaaGreat
