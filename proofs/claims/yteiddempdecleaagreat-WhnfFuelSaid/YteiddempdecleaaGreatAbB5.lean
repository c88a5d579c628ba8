/- Texts: AbF140 AbF191 AbF286 AbF288va44905 AbF287va10748 AbF255 AbF246 AbPj AbF242va11690 AbF244 AbF245va28514 AbF243va13301 AbF281va28514 AbF241va7810 AbF186 AbF159 AbPk AbF203 AbF222 AbF267 AbPl AbF153 AbF293 AbF314 AbF315 AbF291 AbF259 AbF260 AbF294 AbF262 AbF292 AbF261 AbF216 AbPm AbF202 AbF217 AbF263 AbF264 AbF265 AbF218 AbPn AbF266 AbF219 AbF220 AbF221 AbPo AbF154 AbF155 AbF113v0 AbF113v1 AbF113 AbF72 AbF73 AbPp AbF118v0 AbF118v1 AbF118vr0 AbF118vr1 AbF118 AbF223 AbF156 AbF74 AbPq AbF23 AbF36 AbPr AbF124 AbF138 -/
import Derived.Test.YteiddempdecleaaGreatAbB4
set_option linter.unusedVariables false
set_option linter.unusedSimpArgs false

namespace Go.Proofs.YteiddempdecleaaGreat
open Go Go.Ab

/- scholium/term.Var -/
def e140 (qq : Nat) (p0 : Int) : Option (Tm) :=
  (e206 qq 1 p0 []) >>= fun r1 =>
  some r1
theorem q140 : Tryz.prog.funcs[140]? = some Tryz.f140 ∧ Tryz.f140.body.isNone = false := ⟨Tryz.func140, by kernel_rfl⟩
theorem k140 {p0 : Int} {r : Tm} (h : CTri Tryz.prog 140 [] [ai p0] (tmA r) [] 0) : CT Tryz.prog 140 [] [ai p0] (tmA r) [] 0 := ⟨h, ⟨trivial, trivial⟩, forall_nil, ⟨trivial, trivial, dT _, trivial⟩, forall_nil⟩
theorem c140 {qq : Nat} {p0 : Int} {r : Tm} (h : e140 qq p0 = some r) : CT Tryz.prog 140 [] [ai p0] (tmA r) [] 0 := by
  unfold e140 at h
  obtain ⟨r1, h2, h⟩ := obind h
  obtain rfl := sj h
  exact k140 (tF q140 1 [] (oD (dT r1.sub) <| oC 0 [] (c206 h2) o0) (by kernel_rfl))

end Go.Proofs.YteiddempdecleaaGreat

namespace Go.Proofs.YteiddempdecleaaGreat
open Go Go.Ab

/- scholium/term.Sort -/
def e191 (qq : Nat) (p0 : Int) : Option (Tm) :=
  (e206 qq 2 p0 []) >>= fun r1 =>
  some r1
theorem q191 : Tryz.prog.funcs[191]? = some Tryz.f191 ∧ Tryz.f191.body.isNone = false := ⟨Tryz.func191, by kernel_rfl⟩
theorem k191 {p0 : Int} {r : Tm} (h : CTri Tryz.prog 191 [] [ai p0] (tmA r) [] 0) : CT Tryz.prog 191 [] [ai p0] (tmA r) [] 0 := ⟨h, ⟨trivial, trivial⟩, forall_nil, ⟨trivial, trivial, dT _, trivial⟩, forall_nil⟩
theorem c191 {qq : Nat} {p0 : Int} {r : Tm} (h : e191 qq p0 = some r) : CT Tryz.prog 191 [] [ai p0] (tmA r) [] 0 := by
  unfold e191 at h
  obtain ⟨r1, h2, h⟩ := obind h
  obtain rfl := sj h
  exact k191 (tF q191 1 [] (oD (dT r1.sub) <| oC 0 [] (c206 h2) o0) (by kernel_rfl))

end Go.Proofs.YteiddempdecleaaGreat

namespace Go.Proofs.YteiddempdecleaaGreat
open Go Go.Ab

/- scholium/lift.fits -/
def e286 (qq : Nat) (p0 : Int) : Option (Bool) :=
  if decide (p0 ≥ 0) = true then
    some (decide (p0 ≤ 1048576))
  else
    some false
theorem q286 : Tryz.prog.funcs[286]? = some Tryz.f286 ∧ Tryz.f286.body.isNone = false := ⟨Tryz.func286, by kernel_rfl⟩
theorem k286 {p0 : Int} {r : Bool} (h : CTri Tryz.prog 286 [] [ai p0] (ab r) [] 0) : CT Tryz.prog 286 [] [ai p0] (ab r) [] 0 := ⟨h, ⟨trivial, trivial⟩, forall_nil, trivial, forall_nil⟩
theorem c286 {qq : Nat} {p0 : Int} {r : Bool} (h : e286 qq p0 = some r) : CT Tryz.prog 286 [] [ai p0] (ab r) [] 0 := by
  unfold e286 at h
  rcases spl h with ⟨h1, h⟩ | ⟨h1, h⟩
  · obtain rfl := sj h
    exact k286 (tF q286 1 [] (oB 0 h1 o0) (by kernel_rfl))
  · obtain rfl := sj h
    exact k286 (tF q286 0 [] (oB 0 h1 o0) (by kernel_rfl))

end Go.Proofs.YteiddempdecleaaGreat

namespace Go.Proofs.YteiddempdecleaaGreat
open Go Go.Ab

/- scholium/lift.Lift$1 -/
def e288va44905 (qq : Nat) (p0 : Int) (q1 : Int) (q2 : Int) : Option (Int) :=
  if decide (p0 < q1) = true then
    some p0
  else
    some (w64 (p0 + q2))
theorem q288va44905 : Tryz.prog.funcs[288]? = some Tryz.f288 ∧ Tryz.f288.body.isNone = false := ⟨Tryz.func288, by kernel_rfl⟩
theorem k288va44905 {p0 : Int} {q1 : Int} {q2 : Int} {r : Int} (h : CTri Tryz.prog 288 [.cells [ai q1], .cells [ai q2]] [ai p0, .mp 0 0, .mp 1 0] (ai r) [.cells [ai q1], .cells [ai q2]] 0) : CT Tryz.prog 288 [.cells [ai q1], .cells [ai q2]] [ai p0, .mp 0 0, .mp 1 0] (ai r) [.cells [ai q1], .cells [ai q2]] 0 := ⟨h, ⟨trivial, (show 0 < 2 by decide), (show 1 < 2 by decide), trivial⟩, (forall_cons ⟨trivial, trivial⟩ (forall_cons ⟨trivial, trivial⟩ forall_nil)), trivial, (forall_cons ⟨trivial, trivial⟩ (forall_cons ⟨trivial, trivial⟩ forall_nil))⟩
theorem c288va44905 {qq : Nat} {p0 : Int} {q1 : Int} {q2 : Int} {r : Int} (h : e288va44905 qq p0 q1 q2 = some r) : CT Tryz.prog 288 [.cells [ai q1], .cells [ai q2]] [ai p0, .mp 0 0, .mp 1 0] (ai r) [.cells [ai q1], .cells [ai q2]] 0 := by
  unfold e288va44905 at h
  rcases spl h with ⟨h1, h⟩ | ⟨h1, h⟩
  · obtain rfl := sj h
    exact k288va44905 (tF q288va44905 0 [0, 1] (oB 1 h1 o0) (by kernel_rfl))
  · obtain rfl := sj h
    exact k288va44905 (tF q288va44905 2 [0, 1] (oB 1 h1 o0) (by kernel_rfl))

end Go.Proofs.YteiddempdecleaaGreat

namespace Go.Proofs.YteiddempdecleaaGreat
open Go Go.Ab

/- scholium/lift.walk -/
mutual
def e287va10748 : Nat → Tm → Int → Int → Int →  Option (Tm)
  | 0, _, _, _, _ => none
  | qq + 1, p0, p1, q2, q3 =>
    if (p0.k == 1) = true then
      if decide (p0.n ≥ p1) = true then
        (e288va44905 qq (w64 (p0.n - p1)) q2 q3) >>= fun r3 =>
        (e140 qq (w64 (r3 + p1))) >>= fun r5 =>
        some r5
      else
        (e140 qq p0.n) >>= fun r7 =>
        some r7
    else
      e287va10748L45482 qq p0 p1 q2 q3 0 []
def e287va10748L45482 : Nat → Tm → Int → Int → Int → Int → (List Tm) →  Option (Tm)
  | 0, _, _, _, _, _, _ => none
  | qq + 1, p0, p1, q2, q3, v38, vb4_2 =>
    if decide (v38 < (List.length p0.sub : Int)) = true then
      (gidx p0.sub v38) >>= fun x10 =>
      if (v38 == 1) = true then
        if (p0.k != 5) = true then
          (e287va10748 qq x10 (w64 (p1 + 1)) q2 q3) >>= fun r14 =>
          (gapp 40 vb4_2 [r14]) >>= fun l16 =>
          e287va10748L45482 qq p0 p1 q2 q3 (w64 (v38 + 1)) l16
        else
          (e287va10748 qq x10 p1 q2 q3) >>= fun r18 =>
          (gapp 40 vb4_2 [r18]) >>= fun l20 =>
          e287va10748L45482 qq p0 p1 q2 q3 (w64 (v38 + 1)) l20
      else
        (e287va10748 qq x10 p1 q2 q3) >>= fun r22 =>
        (gapp 40 vb4_2 [r22]) >>= fun l24 =>
        e287va10748L45482 qq p0 p1 q2 q3 (w64 (v38 + 1)) l24
    else
      some (Tm.mk p0.k p0.n vb4_2)
end
def g287va10748L45482E0 (j : Nat → Value) (p0 : Tm) (p1 : Int) (q2 : Int) (q3 : Int) (v38 : Int) (vb4_2 : List Tm) : List AV := sp j 64 0 [(1, ai p1), (2, .clo 288 [] [.mp 0 0, .mp 1 0]), (3, .mp 2 0), (6, .mp 3 0), (7, .mp 4 0), (36, .sl (flat tmCells p0.sub) (List.length p0.sub) .no), (37, ai (List.length p0.sub : Int)), (38, ai v38)]
def g287va10748L45482S0 (p0 : Tm) (p1 : Int) (q2 : Int) (q3 : Int) (v38 : Int) (vb4_2 : List Tm) : LSt := ⟨[(0, .cells [ai q2]), (1, .cells [ai q3]), (2, .cells [ai p0.k, ai p0.n, .sl (flat tmCells p0.sub) (List.length p0.sub) .no]), (3, .cells [ai 0, ai 0, .sl (flat tmCells ([] : List Tm)) (List.length ([] : List Tm)) .nl]), (4, .cells [ai p0.k, ai p0.n, .sl (flat tmCells vb4_2) (List.length vb4_2) (.st 0 3)])], 5, [0], 1, []⟩
theorem q287va10748 : Tryz.prog.funcs[287]? = some Tryz.f287 ∧ Tryz.f287.body.isNone = false := ⟨Tryz.func287, by kernel_rfl⟩
theorem k287va10748 {p0 : Tm} {p1 : Int} {q2 : Int} {q3 : Int} {r : Tm} (h : CTri Tryz.prog 287 [.cells [ai q2], .cells [ai q3]] [tmA p0, ai p1, .clo 288 [] [.mp 0 0, .mp 1 0]] (tmA r) [.cells [ai q2], .cells [ai q3]] 0) : CT Tryz.prog 287 [.cells [ai q2], .cells [ai q3]] [tmA p0, ai p1, .clo 288 [] [.mp 0 0, .mp 1 0]] (tmA r) [.cells [ai q2], .cells [ai q3]] 0 := ⟨h, ⟨⟨trivial, trivial, ⟨trivial, dT _⟩, trivial⟩, trivial, ⟨trivial, ⟨(show 0 < 2 by decide), (show 1 < 2 by decide), trivial⟩⟩, trivial⟩, (forall_cons ⟨trivial, trivial⟩ (forall_cons ⟨trivial, trivial⟩ forall_nil)), ⟨trivial, trivial, dT _, trivial⟩, (forall_cons ⟨trivial, trivial⟩ (forall_cons ⟨trivial, trivial⟩ forall_nil))⟩
theorem a287va10748_287va10748L45482 : ∀ qq : Nat, (∀ (p0 : Tm) (p1 : Int) (q2 : Int) (q3 : Int) (r : Tm), e287va10748 qq p0 p1 q2 q3 = some r → CT Tryz.prog 287 [.cells [ai q2], .cells [ai q3]] [tmA p0, ai p1, .clo 288 [] [.mp 0 0, .mp 1 0]] (tmA r) [.cells [ai q2], .cells [ai q3]] 0) ∧ (∀ (p0 : Tm) (p1 : Int) (q2 : Int) (q3 : Int) (v38 : Int) (vb4_2 : List Tm) (r : Tm), e287va10748L45482 qq p0 p1 q2 q3 v38 vb4_2 = some r → (∀ j, Dl Tryz.prog 2 (inn (inn (rgt (lft (rgt (rgt (rgt (bod Tryz.f287)))))))) (g287va10748L45482E0 j p0 p1 q2 q3 v38 vb4_2) (g287va10748L45482S0 p0 p1 q2 q3 v38 vb4_2) (frameQ Tryz.prog 2 (FinQ Tryz.prog 2 Tryz.f287 (tmA r) [.cells [ai q2], .cells [ai q3]] 0) [.blk 0, .seq (rgt (rgt (rgt (rgt (bod Tryz.f287)))))]))) := by
  intro qq
  induction qq with
  | zero =>
    exact ⟨fun _ _ _ _ _ h => nn h, fun _ _ _ _ _ _ _ h => nn h⟩
  | succ qq ih =>
    obtain ⟨ih287va10748, ih287va10748L45482⟩ := ih
    refine ⟨?_, ?_⟩
    · intro p0 p1 q2 q3 r h
      rw [e287va10748] at h
      rcases spl h with ⟨h1, h⟩ | ⟨h1, h⟩
      · have k := oB 1 h1 o0
        rcases spl h with ⟨h2, h⟩ | ⟨h2, h⟩
        · obtain ⟨r3, h4, h⟩ := obind h
          obtain ⟨r5, h6, h⟩ := obind h
          obtain rfl := sj h
          exact k287va10748 (tF q287va10748 1 [0, 1] (oD (dT r5.sub) <| oC 1 [] (c140 h6) <| oC 2 [0, 1] (c288va44905 h4) <| oB 1 h2 k) (by kernel_rfl))
        · obtain ⟨r7, h8, h⟩ := obind h
          obtain rfl := sj h
          exact k287va10748 (tF q287va10748 1 [0, 1] (oD (dT r7.sub) <| oC 1 [] (c140 h8) <| oB 1 h2 k) (by kernel_rfl))
      · exact k287va10748 (tH q287va10748 5 [(some 4, 2, 3)] [0, 1, 2, 3, 4] [0] [1, 2, 3, 6, 7, 36, 37, 38] (oD (dT p0.sub) <| oD (dT ([] : List Tm)) <| oD (dT ([] : List Tm)) <| oD (dT p0.sub) <| oB 1 h1 o0) (ih287va10748L45482 _ _ _ _ _ _ _ h) (fun j => by kernel_rfl))
    · intro p0 p1 q2 q3 v38 vb4_2 r h
      rw [e287va10748L45482] at h
      rcases spl h with ⟨h9, h⟩ | ⟨h9, h⟩
      · obtain ⟨x10, h11, h⟩ := obind h
        have k := oA 0 (ix23 (o := .no) h11) <| oB 0 h9 o0
        rcases spl h with ⟨h12, h⟩ | ⟨h12, h⟩
        · have k := oB 2 h12 k
          rcases spl h with ⟨h13, h⟩ | ⟨h13, h⟩
          · obtain ⟨r14, h15, h⟩ := obind h
            obtain ⟨l16, h17, h⟩ := obind h
            exact fun j => lH 2 [] [0, 1, 2, 3, 4] [1] [1, 2, 3, 6, 7, 36, 37, 38] (oD (dT p0.sub) <| oD (dT l16) <| oD (dT ([] : List Tm)) <| oD (dT p0.sub) <| oP 0 (apS23 h17 (by simp)) <| oS 0 (obLitR tm_eq [r14]) <| oC 3 [0, 1] (ih287va10748 _ _ _ _ _ h15) <| oB 1 h13 k) (ih287va10748L45482 _ _ _ _ _ _ _ h) (fun j => by kernel_rfl)
          · obtain ⟨r18, h19, h⟩ := obind h
            obtain ⟨l20, h21, h⟩ := obind h
            exact fun j => lH 2 [] [0, 1, 2, 3, 4] [1] [1, 2, 3, 6, 7, 36, 37, 38] (oD (dT p0.sub) <| oD (dT l20) <| oD (dT ([] : List Tm)) <| oD (dT p0.sub) <| oP 0 (apS23 h21 (by simp)) <| oS 0 (obLitR tm_eq [r18]) <| oC 2 [0, 1] (ih287va10748 _ _ _ _ _ h19) <| oB 1 h13 k) (ih287va10748L45482 _ _ _ _ _ _ _ h) (fun j => by kernel_rfl)
        · obtain ⟨r22, h23, h⟩ := obind h
          obtain ⟨l24, h25, h⟩ := obind h
          exact fun j => lH 2 [] [0, 1, 2, 3, 4] [1] [1, 2, 3, 6, 7, 36, 37, 38] (oD (dT p0.sub) <| oD (dT l24) <| oD (dT ([] : List Tm)) <| oD (dT p0.sub) <| oP 0 (apS23 h25 (by simp)) <| oS 0 (obLitR tm_eq [r22]) <| oC 2 [0, 1] (ih287va10748 _ _ _ _ _ h23) <| oB 2 h12 k) (ih287va10748L45482 _ _ _ _ _ _ _ h) (fun j => by kernel_rfl)
      · obtain rfl := sj h
        exact fun j => lF 2 [0, 1] (oD (dT vb4_2) <| oB 0 h9 o0) (by kernel_rfl)
theorem c287va10748 {qq : Nat} {p0 : Tm} {p1 : Int} {q2 : Int} {q3 : Int} {r : Tm} (h : e287va10748 qq p0 p1 q2 q3 = some r) : CT Tryz.prog 287 [.cells [ai q2], .cells [ai q3]] [tmA p0, ai p1, .clo 288 [] [.mp 0 0, .mp 1 0]] (tmA r) [.cells [ai q2], .cells [ai q3]] 0 := (a287va10748_287va10748L45482 _).1 _ _ _ _ _ h

end Go.Proofs.YteiddempdecleaaGreat

namespace Go.Proofs.YteiddempdecleaaGreat
open Go Go.Ab

/- scholium/lift.Lift -/
def e255 (qq : Nat) (p0 : Tm) (p1 : Int) (p2 : Int) : Option (Tm × Int) :=
  (e91 qq p0) >>= fun r1 =>
  if r1 = true then
    (e286 qq p1) >>= fun r4 =>
    if r4 = true then
      (e286 qq p2) >>= fun r7 =>
      if r7 = true then
        (e287va10748 qq p0 0 p2 p1) >>= fun r10 =>
        (e91 qq r10) >>= fun r12 =>
        if r12 = true then
          some (r10, 0)
        else
          some ((Tm.mk 0 0 []), 2)
      else
        some ((Tm.mk 0 0 []), 5)
    else
      some ((Tm.mk 0 0 []), 5)
  else
    some ((Tm.mk 0 0 []), 5)
theorem q255 : Tryz.prog.funcs[255]? = some Tryz.f255 ∧ Tryz.f255.body.isNone = false := ⟨Tryz.func255, by kernel_rfl⟩
theorem k255 {p0 : Tm} {p1 : Int} {p2 : Int} {r : Tm × Int} (h : CTri Tryz.prog 255 [] [tmA p0, ai p1, ai p2] (.tup [tmA r.1, ai r.2]) [] 0) : CT Tryz.prog 255 [] [tmA p0, ai p1, ai p2] (.tup [tmA r.1, ai r.2]) [] 0 := ⟨h, ⟨⟨trivial, trivial, ⟨trivial, dT _⟩, trivial⟩, trivial, trivial, trivial⟩, forall_nil, ⟨⟨trivial, trivial, dT _, trivial⟩, trivial, trivial⟩, forall_nil⟩
theorem c255 {qq : Nat} {p0 : Tm} {p1 : Int} {p2 : Int} {r : Tm × Int} (h : e255 qq p0 p1 p2 = some r) : CT Tryz.prog 255 [] [tmA p0, ai p1, ai p2] (.tup [tmA r.1, ai r.2]) [] 0 := by
  unfold e255 at h
  obtain ⟨r1, h2, h⟩ := obind h
  rcases spl h with ⟨h3, h⟩ | ⟨h3, h⟩
  · obtain ⟨r4, h5, h⟩ := obind h
    have k := oK 1 [] h3 (c91 h2) o0
    rcases spl h with ⟨h6, h⟩ | ⟨h6, h⟩
    · obtain ⟨r7, h8, h⟩ := obind h
      have k := oK 2 [] h6 (c286 h5) k
      rcases spl h with ⟨h9, h⟩ | ⟨h9, h⟩
      · obtain ⟨r10, h11, h⟩ := obind h
        obtain ⟨r12, h13, h⟩ := obind h
        have k := oC 2 [2, 1] (c287va10748 h11) <| oK 2 [] h9 (c286 h8) k
        rcases spl h with ⟨h14, h⟩ | ⟨h14, h⟩
        · obtain rfl := sj h
          exact k255 (tF q255 3 [] (oD (dT r10.sub) <| oK 2 [] h14 (c91 h13) k) (by kernel_rfl))
        · obtain rfl := sj h
          exact k255 (tF q255 2 [] (oD (dT ([] : List Tm)) <| oK 2 [] h14 (c91 h13) k) (by kernel_rfl))
      · obtain rfl := sj h
        exact k255 (tF q255 2 [] (oD (dT ([] : List Tm)) <| oK 2 [] h9 (c286 h8) k) (by kernel_rfl))
    · obtain rfl := sj h
      exact k255 (tF q255 2 [] (oD (dT ([] : List Tm)) <| oK 2 [] h6 (c286 h5) k) (by kernel_rfl))
  · obtain rfl := sj h
    exact k255 (tF q255 2 [] (oD (dT ([] : List Tm)) <| oK 1 [] h3 (c91 h2) o0) (by kernel_rfl))

end Go.Proofs.YteiddempdecleaaGreat

namespace Go.Proofs.YteiddempdecleaaGreat
open Go Go.Ab

/- scholium/lift.Up -/
def e246 (qq : Nat) (p0 : Tm) (p1 : Int) : Option (Tm × Int) :=
  (e255 qq p0 p1 0) >>= fun r1 =>
  some (r1.1, r1.2)
theorem q246 : Tryz.prog.funcs[246]? = some Tryz.f246 ∧ Tryz.f246.body.isNone = false := ⟨Tryz.func246, by kernel_rfl⟩
theorem k246 {p0 : Tm} {p1 : Int} {r : Tm × Int} (h : CTri Tryz.prog 246 [] [tmA p0, ai p1] (.tup [tmA r.1, ai r.2]) [] 0) : CT Tryz.prog 246 [] [tmA p0, ai p1] (.tup [tmA r.1, ai r.2]) [] 0 := ⟨h, ⟨⟨trivial, trivial, ⟨trivial, dT _⟩, trivial⟩, trivial, trivial⟩, forall_nil, ⟨⟨trivial, trivial, dT _, trivial⟩, trivial, trivial⟩, forall_nil⟩
theorem c246 {qq : Nat} {p0 : Tm} {p1 : Int} {r : Tm × Int} (h : e246 qq p0 p1 = some r) : CT Tryz.prog 246 [] [tmA p0, ai p1] (.tup [tmA r.1, ai r.2]) [] 0 := by
  unfold e246 at h
  obtain ⟨r1, h2, h⟩ := obind h
  obtain rfl := sj h
  exact k246 (tF q246 3 [] (oD (dT r1.1.sub) <| oC 1 [] (c255 h2) o0) (by kernel_rfl))

end Go.Proofs.YteiddempdecleaaGreat

namespace Go.Proofs.YteiddempdecleaaGreat
open Go Go.Ab

/-- one binder more above a second Sub -/
def undR' (k : Int) (i : Nat) (b : Int) : Int := if i = 1 ∧ k ≠ 5 then b + 1 else b
mutual
/-- as lift.walk goes: from c on, k more -/
def lfT : Tm → Int → Int → Int → Tm
  | .mk kd n l, b, c, k => if kd = 1 then .mk 1 (if b ≤ n then (if n - b < c then n - b else n - b + k) + b else n) [] else .mk kd n (lfL l kd 0 b c k)
def lfL : List Tm → Int → Nat → Int → Int → Int → List Tm
  | [], _, _, _, _, _ => []
  | t :: l, kd, i, b, c, k => lfT t (undR' kd i b) c k :: lfL l kd (i + 1) b c k
end
theorem lfL_len : ∀ (l : List Tm) (kd : Int) (i : Nat) (b c k : Int), (lfL l kd i b c k).length = l.length
  | [], _, _, _, _, _ => by rw [lfL]
  | t :: l, kd, i, b, c, k => by rw [lfL]; exact congrArg (· + 1) (lfL_len l kd (i + 1) b c k)
theorem ev_Var (n : Int) : Evt (fun q => e140 q n) (.mk 1 n []) := Evt.mk fun _ => rfl
theorem ev_Sort (n : Int) : Evt (fun q => e191 q n) (.mk 2 n []) := Evt.mk fun _ => rfl
mutual
theorem ev_walk : ∀ (t : Tm) (b c k : Int), goodT t = true → 0 ≤ b → b + t.high ≤ 1152921504606846976 → 0 ≤ c → c ≤ 1048576 → 0 ≤ k → k ≤ 1048576 → Evt (fun q => e287va10748 q t b c k) (lfT t b c k)
  | .mk kd n l, b, c, k, hg, hb, hb2, hc, hc2, hk, hk2 => by
    refine Evt.succ ?_
    simp only [e287va10748]
    have hh := goodT_mk hg
    have hn := head_n hh.1
    rw [Tm.high] at hb2
    rw [lfT]
    by_cases h1 : kd = 1
    · rw [if_pos h1]
      refine Evt.ifT (by simpa [Tm.k] using h1) ?_
      simp only [Tm.n]
      by_cases h2 : n ≥ b
      · refine Evt.ifT (by simpa using h2) ?_
        rw [if_pos h2, w64_id (x := n - b) (by omega) (by omega)]
        refine Evt.bind (a := if n - b < c then n - b else n - b + k) ?_ ?_
        · refine Evt.mk fun q => ?_
          unfold e288va44905
          by_cases h3 : n - b < c
          · simp [h3]
          · simp [h3]; exact w64_id (by omega) (by omega)
        · rw [w64_id (by split <;> omega) (by split <;> omega)]
          exact (ev_Var _).bind Evt.ret
      · refine Evt.ifF (by simpa using h2) ?_
        rw [if_neg h2]
        exact (ev_Var _).bind Evt.ret
    · rw [if_neg h1]
      refine Evt.ifF (by simpa [Tm.k] using h1) ?_
      exact ev_walkL l (.mk kd n l) 0 b c k [] rfl hh.2 (by have := hn.2.2.2.2; exact this) hb (by omega) hc hc2 hk hk2 (by simp)
theorem ev_walkL : ∀ (l : List Tm) (p : Tm) (v : Nat) (b c k : Int) (acc : List Tm), p.sub.drop v = l → goodL l = true → p.sub.length ≤ 2 → 0 ≤ b → b + 1 + highL l ≤ 1152921504606846976 → 0 ≤ c → c ≤ 1048576 → 0 ≤ k → k ≤ 1048576 → acc.length ≤ v →
    Evt (fun q => e287va10748L45482 q p b c k (v : Int) acc) (.mk p.k p.n (acc ++ lfL l p.k v b c k))
  | [], p, v, b, c, k, acc, hd, hg, hl, hb, hb2, hc, hc2, hk, hk2, ha => by
    refine Evt.succ ?_
    simp only [e287va10748L45482]
    exact Evt.ifF (drop_nil hd) (Evt.ret.eq (by rw [lfL]; simp))
  | t :: l, p, v, b, c, k, acc, hd, hg, hl, hb, hb2, hc, hc2, hk, hk2, ha => by
    have hlt := drop_lt hd
    have hgc := goodL_cons hg
    rw [highL] at hb2
    refine Evt.succ ?_
    simp only [e287va10748L45482]
    refine Evt.ifT (drop_dec hd) (Evt.pure (drop_idx hd) ?_)
    have next : ∀ (x : Tm), Evt (fun q => gapp 40 acc [x] >>= fun l16 => e287va10748L45482 q p b c k (w64 ((v : Int) + 1)) l16) (.mk p.k p.n (acc ++ x :: lfL l p.k (v + 1) b c k)) := fun x => by
      refine Evt.pure (gapp_ok (by simp <;> omega)) ?_
      rw [w64_nat v (by omega)]
      refine (ev_walkL l p (v + 1) b c k (acc ++ [x]) (drop_next hd) hgc.2 hl hb (by omega) hc hc2 hk hk2 (by simp <;> omega)).eq (by simp)
    rw [lfL]
    by_cases h1 : v = 1
    · subst h1
      refine Evt.ifT rfl ?_
      by_cases h5 : p.k = 5
      · refine Evt.ifF (by simp [h5]) ?_
        have e : undR' p.k 1 b = b := by unfold undR'; simp [h5]
        rw [e]
        exact (ev_walk t b c k hgc.1 hb (by omega) hc hc2 hk hk2).bind (next _)
      · refine Evt.ifT (by simp [h5]) ?_
        have e : undR' p.k 1 b = b + 1 := by unfold undR'; simp [h5]
        rw [e, w64_id (x := b + 1) (by omega) (by omega)]
        exact (ev_walk t (b + 1) c k hgc.1 (by omega) (by omega) hc hc2 hk hk2).bind (next _)
    · refine Evt.ifF (by simp <;> omega) ?_
      have e : undR' p.k v b = b := by unfold undR'; simp [h1]
      rw [e]
      exact (ev_walk t b c k hgc.1 hb (by omega) hc hc2 hk hk2).bind (next _)
end
mutual
theorem lfT_ok : ∀ (t : Tm) (b c k : Int), t.Ok → (lfT t b c k).Ok
  | .mk kd n l, b, c, k, h => by
    rw [lfT]
    split
    · rw [Tm.Ok, OkL]; simp
    · rw [Tm.Ok] at h ⊢
      rw [lfL_len]
      exact ⟨h.1, lfL_ok l kd 0 b c k h.2⟩
theorem lfL_ok : ∀ (l : List Tm) (kd : Int) (i : Nat) (b c k : Int), OkL l → OkL (lfL l kd i b c k)
  | [], _, _, _, _, _, _ => by rw [lfL, OkL]; trivial
  | t :: l, kd, i, b, c, k, h => by
    rw [OkL] at h
    rw [lfL, OkL]
    exact ⟨lfT_ok t _ c k h.1, lfL_ok l kd (i + 1) b c k h.2⟩
end
/-- may a number be? -/
def fitsT (n : Int) : Bool := decide (0 ≤ n) && decide (n ≤ 1048576)
theorem ev_fits (n : Int) : Evt (fun q => e286 q n) (fitsT n) := by
  refine Evt.mk fun q => ?_
  unfold e286 fitsT
  by_cases h : n ≥ 0
  · rw [ifTe (decide_eq_true h)]; simp [show 0 ≤ n from h]
  · rw [ifFe (decide_eq_false h)]; simp [show ¬ 0 ≤ n from h]
def zT : Tm := .mk 0 0 []
/-- lift.Lift -/
def liftT (t : Tm) (k c : Int) : Tm × Int :=
  if shapedT t = true ∧ fitsT k = true ∧ fitsT c = true then (if shapedT (lfT t 0 c k) = true then (lfT t 0 c k, 0) else (zT, 2)) else (zT, 5)
theorem ev_Lift (t : Tm) (k c : Int) (ho : t.Ok) : Evt (fun q => e255 q t k c) (liftT t k c) := by
  simp only [e255]
  refine (ev_Shaped t ho).bind ?_
  unfold liftT
  by_cases h1 : shapedT t = true
  · refine Evt.ifT h1 ((ev_fits k).bind ?_)
    by_cases h2 : fitsT k = true
    · refine Evt.ifT h2 ((ev_fits c).bind ?_)
      by_cases h3 : fitsT c = true
      · rw [if_pos ⟨h1, h2, h3⟩]
        have hs := shapedT_spec h1
        have h2' := h2; have h3' := h3
        unfold fitsT at h2' h3'
        simp only [Bool.and_eq_true, decide_eq_true_eq] at h2' h3'
        refine Evt.ifT h3 ((ev_walk t 0 c k hs.2.2 (by omega) (by omega) h3'.1 h3'.2 h2'.1 h2'.2).bind ((ev_Shaped _ (lfT_ok t 0 c k ho)).bind ?_))
        by_cases h4 : shapedT (lfT t 0 c k) = true
        · rw [if_pos h4, if_pos h4]; exact Evt.ret
        · rw [if_neg h4, if_neg h4]; exact Evt.ret
      · rw [if_neg (fun h => h3 h.2.2)]; exact Evt.ifF (by simpa using h3) Evt.ret
    · rw [if_neg (fun h => h2 h.2.1)]; exact Evt.ifF (by simpa using h2) Evt.ret
  · rw [if_neg (fun h => h1 h.1)]; exact Evt.ifF (by simpa using h1) Evt.ret
theorem liftT_ok (t : Tm) (k c : Int) (ho : t.Ok) : (liftT t k c).1.Ok := by
  have hz : zT.Ok := by unfold zT; rw [Tm.Ok, OkL]; simp
  unfold liftT
  split
  · split
    · exact lfT_ok t 0 c k ho
    · exact hz
  · exact hz
theorem ev_Up (t : Tm) (k : Int) (ho : t.Ok) : Evt (fun q => e246 q t k) (liftT t k 0) := by
  simp only [e246]
  exact (ev_Lift t k 0 ho).bind Evt.ret

/- terms put in -/
/-- a term that is put in beneath so many binders: with what is left, and whether there are too many -/
def raT (a : Tm) (by' left : Int) (long : Bool) : Tm × Int × Bool :=
  if left - szT a 0 < 0 then (.mk 2 0 [], left - szT a 0, true)
  else if (liftT a by' 0).2 ≠ 0 then (.mk 2 0 [], left - szT a 0, true) else ((liftT a by' 0).1, left - szT a 0, long)
mutual
/-- as subst's walker goes, from Many -/
def sbT (ls : List Tm) : Tm → Int → Int → Bool → Tm × Int × Bool
  | .mk kd n l, b, left, long =>
    if long = true then (.mk 2 0 [], left, long)
    else if kd = 1 ∧ b ≤ n then
      (if h : (n - b).toNat < ls.length then raT (ls[(n - b).toNat]) b left long else (.mk 1 (n - ls.length) [], left, long))
    else
      let r := sbL ls l kd 0 b (left - 1) (decide (left - 1 < 0))
      (.mk kd n r.1, r.2.1, r.2.2)
def sbL (ls : List Tm) : List Tm → Int → Nat → Int → Int → Bool → List Tm × Int × Bool
  | [], _, _, _, left, long => ([], left, long)
  | t :: l, kd, i, b, left, long =>
    let x := sbT ls t (undR' kd i b) left long
    let r := sbL ls l kd (i + 1) b x.2.1 x.2.2
    (x.1 :: r.1, r.2.1, r.2.2)
end
/-- what is left, while there are not too many -/
def LeftOk (left : Int) (long : Bool) : Prop := -8193 ≤ left ∧ left ≤ 8192 ∧ (long = false → 0 ≤ left)
theorem raT_left {a : Tm} {by' left : Int} (h : LeftOk left false) : LeftOk (raT a by' left false).2.1 (raT a by' left false).2.2 := by
  have := szT_b a 0 (by omega) (by omega)
  have h0 := h.2.2 rfl
  have h1 := h.2.1
  unfold raT LeftOk
  split
  · exact ⟨by simp only; omega, by simp only; omega, fun h => by cases h⟩
  · split
    · exact ⟨by simp only; omega, by simp only; omega, fun h => by cases h⟩
    · exact ⟨by simp only; omega, by simp only; omega, fun _ => by simp only; omega⟩
end Go.Proofs.YteiddempdecleaaGreat

namespace Go.Proofs.YteiddempdecleaaGreat
open Go Go.Ab

/- scholium/subst.Many$1 -/
def e242va11690 (qq : Nat) (q0 : Int) (q1 : Bool) (q2 : List Tm) : Option (Unit) :=
  some ()
theorem q242va11690 : Tryz.prog.funcs[242]? = some Tryz.f242 ∧ Tryz.f242.body.isNone = false := ⟨Tryz.func242, by kernel_rfl⟩
theorem k242va11690 {q0 : Int} {q1 : Bool} {q2 : List Tm}  (h : CTri Tryz.prog 242 [.cells [ai q0, ab q1, .val .nilFunc], .cells [.sl (flat tmCells q2) (List.length q2) .no]] [.mp 0 0, .mp 1 0] (.clo 243 [] [.mp 1 0, .mp 2 0]) [.cells [ai q0, ab q1, .val .nilFunc], .cells [.sl (flat tmCells q2) (List.length q2) .no], .cells [.mp 0 0]] 0) : CT Tryz.prog 242 [.cells [ai q0, ab q1, .val .nilFunc], .cells [.sl (flat tmCells q2) (List.length q2) .no]] [.mp 0 0, .mp 1 0] (.clo 243 [] [.mp 1 0, .mp 2 0]) [.cells [ai q0, ab q1, .val .nilFunc], .cells [.sl (flat tmCells q2) (List.length q2) .no], .cells [.mp 0 0]] 0 := ⟨h, ⟨(show 0 < 2 by decide), (show 1 < 2 by decide), trivial⟩, (forall_cons ⟨trivial, trivial, trivial, trivial⟩ (forall_cons ⟨⟨trivial, dT _⟩, trivial⟩ forall_nil)), ⟨trivial, ⟨(show 1 < 3 by decide), (show 2 < 3 by decide), trivial⟩⟩, (forall_cons ⟨trivial, trivial, trivial, trivial⟩ (forall_cons ⟨dT _, trivial⟩ (forall_cons ⟨(show 0 < 3 by decide), trivial⟩ forall_nil)))⟩
theorem c242va11690 {qq : Nat} {q0 : Int} {q1 : Bool} {q2 : List Tm} {r : Unit} (h : e242va11690 qq q0 q1 q2 = some r) : CT Tryz.prog 242 [.cells [ai q0, ab q1, .val .nilFunc], .cells [.sl (flat tmCells q2) (List.length q2) .no]] [.mp 0 0, .mp 1 0] (.clo 243 [] [.mp 1 0, .mp 2 0]) [.cells [ai q0, ab q1, .val .nilFunc], .cells [.sl (flat tmCells q2) (List.length q2) .no], .cells [.mp 0 0]] 0 := by
  unfold e242va11690 at h
  obtain rfl := sj h
  exact k242va11690 (tF q242va11690 0 [0, 1, 2] (oD (dT q2) o0) (by kernel_rfl))

end Go.Proofs.YteiddempdecleaaGreat

namespace Go.Proofs.YteiddempdecleaaGreat
open Go Go.Ab

/- scholium/subst.loose -/
def e244 (qq : Nat) (p0 : Tm) (p1 : Int) : Option (Int) :=
  if (p0.k != 1) = true then
    some (-1)
  else
    if decide (p0.n < p1) = true then
      some (-1)
    else
      some (w64 (p0.n - p1))
theorem q244 : Tryz.prog.funcs[244]? = some Tryz.f244 ∧ Tryz.f244.body.isNone = false := ⟨Tryz.func244, by kernel_rfl⟩
theorem k244 {p0 : Tm} {p1 : Int} {r : Int} (h : CTri Tryz.prog 244 [] [tmA p0, ai p1] (ai r) [] 0) : CT Tryz.prog 244 [] [tmA p0, ai p1] (ai r) [] 0 := ⟨h, ⟨⟨trivial, trivial, ⟨trivial, dT _⟩, trivial⟩, trivial, trivial⟩, forall_nil, trivial, forall_nil⟩
theorem c244 {qq : Nat} {p0 : Tm} {p1 : Int} {r : Int} (h : e244 qq p0 p1 = some r) : CT Tryz.prog 244 [] [tmA p0, ai p1] (ai r) [] 0 := by
  unfold e244 at h
  rcases spl h with ⟨h1, h⟩ | ⟨h1, h⟩
  · obtain rfl := sj h
    exact k244 (tF q244 0 [] (oB 1 h1 o0) (by kernel_rfl))
  · have k := oB 1 h1 o0
    rcases spl h with ⟨h2, h⟩ | ⟨h2, h⟩
    · obtain rfl := sj h
      exact k244 (tF q244 0 [] (oB 1 h2 k) (by kernel_rfl))
    · obtain rfl := sj h
      exact k244 (tF q244 2 [] (oB 1 h2 k) (by kernel_rfl))

end Go.Proofs.YteiddempdecleaaGreat

namespace Go.Proofs.YteiddempdecleaaGreat
open Go Go.Ab

/- (*scholium/subst.walker).raised -/
def e245va28514 (qq : Nat) (q0 : Int) (q1 : Bool) (q2 : List Tm) (p1 : Tm) (p2 : Int) : Option (Tm × Int × Bool) :=
  (e229 qq p1) >>= fun r1 =>
  if decide ((w64 (q0 - r1)) < 0) = true then
    (e191 qq 0) >>= fun r4 =>
    some (r4, (w64 (q0 - r1)), true)
  else
    (e246 qq p1 p2) >>= fun r6 =>
    if (r6.2 != 0) = true then
      (e191 qq 0) >>= fun r9 =>
      some (r9, (w64 (q0 - r1)), true)
    else
      some (r6.1, (w64 (q0 - r1)), q1)
theorem q245va28514 : Tryz.prog.funcs[245]? = some Tryz.f245 ∧ Tryz.f245.body.isNone = false := ⟨Tryz.func245, by kernel_rfl⟩
theorem k245va28514 {q0 : Int} {q1 : Bool} {q2 : List Tm} {p1 : Tm} {p2 : Int} {r : Tm × Int × Bool} (h : CTri Tryz.prog 245 [.cells [ai q0, ab q1, .clo 243 [] [.mp 1 0, .mp 2 0]], .cells [.sl (flat tmCells q2) (List.length q2) .no], .cells [.mp 0 0]] [.mp 0 0, tmA p1, ai p2] (tmA r.1) [.cells [ai r.2.1, ab r.2.2, .clo 243 [] [.mp 1 0, .mp 2 0]], .cells [.sl (flat tmCells q2) (List.length q2) .no], .cells [.mp 0 0]] 0) : CT Tryz.prog 245 [.cells [ai q0, ab q1, .clo 243 [] [.mp 1 0, .mp 2 0]], .cells [.sl (flat tmCells q2) (List.length q2) .no], .cells [.mp 0 0]] [.mp 0 0, tmA p1, ai p2] (tmA r.1) [.cells [ai r.2.1, ab r.2.2, .clo 243 [] [.mp 1 0, .mp 2 0]], .cells [.sl (flat tmCells q2) (List.length q2) .no], .cells [.mp 0 0]] 0 := ⟨h, ⟨(show 0 < 3 by decide), ⟨trivial, trivial, ⟨trivial, dT _⟩, trivial⟩, trivial, trivial⟩, (forall_cons ⟨trivial, trivial, ⟨trivial, ⟨(show 1 < 3 by decide), (show 2 < 3 by decide), trivial⟩⟩, trivial⟩ (forall_cons ⟨⟨trivial, dT _⟩, trivial⟩ (forall_cons ⟨(show 0 < 3 by decide), trivial⟩ forall_nil))), ⟨trivial, trivial, dT _, trivial⟩, (forall_cons ⟨trivial, trivial, ⟨trivial, ⟨(show 1 < 3 by decide), (show 2 < 3 by decide), trivial⟩⟩, trivial⟩ (forall_cons ⟨dT _, trivial⟩ (forall_cons ⟨(show 0 < 3 by decide), trivial⟩ forall_nil)))⟩
theorem c245va28514 {qq : Nat} {q0 : Int} {q1 : Bool} {q2 : List Tm} {p1 : Tm} {p2 : Int} {r : Tm × Int × Bool} (h : e245va28514 qq q0 q1 q2 p1 p2 = some r) : CT Tryz.prog 245 [.cells [ai q0, ab q1, .clo 243 [] [.mp 1 0, .mp 2 0]], .cells [.sl (flat tmCells q2) (List.length q2) .no], .cells [.mp 0 0]] [.mp 0 0, tmA p1, ai p2] (tmA r.1) [.cells [ai r.2.1, ab r.2.2, .clo 243 [] [.mp 1 0, .mp 2 0]], .cells [.sl (flat tmCells q2) (List.length q2) .no], .cells [.mp 0 0]] 0 := by
  unfold e245va28514 at h
  obtain ⟨r1, h2, h⟩ := obind h
  have k := oC 2 [] (c229 h2) o0
  rcases spl h with ⟨h3, h⟩ | ⟨h3, h⟩
  · obtain ⟨r4, h5, h⟩ := obind h
    obtain rfl := sj h
    exact k245va28514 (tF q245va28514 1 [0, 1, 2] (oD (dT r4.sub) <| oD (dT q2) <| oC 1 [] (c191 h5) <| oB 3 h3 k) (by kernel_rfl))
  · obtain ⟨r6, h7, h⟩ := obind h
    have k := oC 1 [] (c246 h7) <| oB 3 h3 k
    rcases spl h with ⟨h8, h⟩ | ⟨h8, h⟩
    · obtain ⟨r9, h10, h⟩ := obind h
      obtain rfl := sj h
      exact k245va28514 (tF q245va28514 1 [0, 1, 2] (oD (dT r9.sub) <| oD (dT q2) <| oC 1 [] (c191 h10) <| oB 3 h8 k) (by kernel_rfl))
    · obtain rfl := sj h
      exact k245va28514 (tF q245va28514 2 [0, 1, 2] (oD (dT r6.1.sub) <| oD (dT q2) <| oB 3 h8 k) (by kernel_rfl))

end Go.Proofs.YteiddempdecleaaGreat

namespace Go.Proofs.YteiddempdecleaaGreat
open Go Go.Ab

/- scholium/subst.Many$1$1 -/
def e243va13301 (qq : Nat) (p0 : Tm) (p1 : Int) (q2 : List Tm) (q3 : Int) (q4 : Bool) : Option (Tm × Bool × Int × Bool) :=
  (e244 qq p0 p1) >>= fun r1 =>
  if decide (r1 < 0) = true then
    some ((Tm.mk 0 0 []), false, q3, q4)
  else
    if decide (r1 < (List.length q2 : Int)) = true then
      (gidx q2 r1) >>= fun x5 =>
      (e245va28514 qq q3 q4 q2 x5 p1) >>= fun r7 =>
      some (r7.1, true, r7.2.1, r7.2.2)
    else
      (e140 qq (w64 (p0.n - (List.length q2 : Int)))) >>= fun r9 =>
      some (r9, true, q3, q4)
theorem q243va13301 : Tryz.prog.funcs[243]? = some Tryz.f243 ∧ Tryz.f243.body.isNone = false := ⟨Tryz.func243, by kernel_rfl⟩
theorem k243va13301 {p0 : Tm} {p1 : Int} {q2 : List Tm} {q3 : Int} {q4 : Bool} {r : Tm × Bool × Int × Bool} (h : CTri Tryz.prog 243 [.cells [.sl (flat tmCells q2) (List.length q2) .no], .cells [.mp 2 0], .cells [ai q3, ab q4, .clo 243 [] [.mp 0 0, .mp 1 0]]] [tmA p0, ai p1, .mp 0 0, .mp 1 0] (.tup [tmA r.1, ab r.2.1]) [.cells [.sl (flat tmCells q2) (List.length q2) .no], .cells [.mp 2 0], .cells [ai r.2.2.1, ab r.2.2.2, .clo 243 [] [.mp 0 0, .mp 1 0]]] 0) : CT Tryz.prog 243 [.cells [.sl (flat tmCells q2) (List.length q2) .no], .cells [.mp 2 0], .cells [ai q3, ab q4, .clo 243 [] [.mp 0 0, .mp 1 0]]] [tmA p0, ai p1, .mp 0 0, .mp 1 0] (.tup [tmA r.1, ab r.2.1]) [.cells [.sl (flat tmCells q2) (List.length q2) .no], .cells [.mp 2 0], .cells [ai r.2.2.1, ab r.2.2.2, .clo 243 [] [.mp 0 0, .mp 1 0]]] 0 := ⟨h, ⟨⟨trivial, trivial, ⟨trivial, dT _⟩, trivial⟩, trivial, (show 0 < 3 by decide), (show 1 < 3 by decide), trivial⟩, (forall_cons ⟨⟨trivial, dT _⟩, trivial⟩ (forall_cons ⟨(show 2 < 3 by decide), trivial⟩ (forall_cons ⟨trivial, trivial, ⟨trivial, ⟨(show 0 < 3 by decide), (show 1 < 3 by decide), trivial⟩⟩, trivial⟩ forall_nil))), ⟨⟨trivial, trivial, dT _, trivial⟩, trivial, trivial⟩, (forall_cons ⟨dT _, trivial⟩ (forall_cons ⟨(show 2 < 3 by decide), trivial⟩ (forall_cons ⟨trivial, trivial, ⟨trivial, ⟨(show 0 < 3 by decide), (show 1 < 3 by decide), trivial⟩⟩, trivial⟩ forall_nil)))⟩
theorem c243va13301 {qq : Nat} {p0 : Tm} {p1 : Int} {q2 : List Tm} {q3 : Int} {q4 : Bool} {r : Tm × Bool × Int × Bool} (h : e243va13301 qq p0 p1 q2 q3 q4 = some r) : CT Tryz.prog 243 [.cells [.sl (flat tmCells q2) (List.length q2) .no], .cells [.mp 2 0], .cells [ai q3, ab q4, .clo 243 [] [.mp 0 0, .mp 1 0]]] [tmA p0, ai p1, .mp 0 0, .mp 1 0] (.tup [tmA r.1, ab r.2.1]) [.cells [.sl (flat tmCells q2) (List.length q2) .no], .cells [.mp 2 0], .cells [ai r.2.2.1, ab r.2.2.2, .clo 243 [] [.mp 0 0, .mp 1 0]]] 0 := by
  unfold e243va13301 at h
  obtain ⟨r1, h2, h⟩ := obind h
  have k := oC 1 [] (c244 h2) o0
  rcases spl h with ⟨h3, h⟩ | ⟨h3, h⟩
  · obtain rfl := sj h
    exact k243va13301 (tF q243va13301 1 [0, 1, 2] (oD (dT ([] : List Tm)) <| oD (dT q2) <| oB 0 h3 k) (by kernel_rfl))
  · have k := oB 0 h3 k
    rcases spl h with ⟨h4, h⟩ | ⟨h4, h⟩
    · obtain ⟨x5, h6, h⟩ := obind h
      obtain ⟨r7, h8, h⟩ := obind h
      obtain rfl := sj h
      exact k243va13301 (tF q243va13301 1 [0, 1, 2] (oD (dT r7.1.sub) <| oD (dT q2) <| oC 1 [2, 0, 1] (c245va28514 h8) <| oA 2 (ix23 (o := .no) h6) <| oB 2 h4 k) (by kernel_rfl))
    · obtain ⟨r9, h10, h⟩ := obind h
      obtain rfl := sj h
      exact k243va13301 (tF q243va13301 1 [0, 1, 2] (oD (dT r9.sub) <| oD (dT q2) <| oC 4 [] (c140 h10) <| oB 2 h4 k) (by kernel_rfl))

end Go.Proofs.YteiddempdecleaaGreat

namespace Go.Proofs.YteiddempdecleaaGreat
open Go Go.Ab

/- (*scholium/subst.walker).walk -/
mutual
def e281va28514 : Nat → Int → Bool → (List Tm) → Tm → Int →  Option (Tm × Int × Bool)
  | 0, _, _, _, _, _ => none
  | qq + 1, q0, q1, q2, p1, p2 =>
    if q1 = true then
      (e191 qq 0) >>= fun r2 =>
      some (r2, q0, q1)
    else
      (e243va13301 qq p1 p2 q2 q0 q1) >>= fun r4 =>
      if r4.2.1 = true then
        some (r4.1, r4.2.2.1, r4.2.2.2)
      else
        if decide ((w64 (r4.2.2.1 - 1)) < 0) = true then
          e281va28514L40632 qq q2 p1 p2 0 (w64 (r4.2.2.1 - 1)) true []
        else
          e281va28514L40632 qq q2 p1 p2 0 (w64 (r4.2.2.1 - 1)) r4.2.2.2 []
def e281va28514L40632 : Nat → (List Tm) → Tm → Int → Int → Int → Bool → (List Tm) →  Option (Tm × Int × Bool)
  | 0, _, _, _, _, _, _, _ => none
  | qq + 1, q2, p1, p2, v53, vb0_0, vb0_1, vb5_2 =>
    if decide (v53 < (List.length p1.sub : Int)) = true then
      (gidx p1.sub v53) >>= fun x9 =>
      if (v53 == 1) = true then
        if (p1.k != 5) = true then
          (e281va28514 qq vb0_0 vb0_1 q2 x9 (w64 (p2 + 1))) >>= fun r13 =>
          (gapp 40 vb5_2 [r13.1]) >>= fun l15 =>
          e281va28514L40632 qq q2 p1 p2 (w64 (v53 + 1)) r13.2.1 r13.2.2 l15
        else
          (e281va28514 qq vb0_0 vb0_1 q2 x9 p2) >>= fun r17 =>
          (gapp 40 vb5_2 [r17.1]) >>= fun l19 =>
          e281va28514L40632 qq q2 p1 p2 (w64 (v53 + 1)) r17.2.1 r17.2.2 l19
      else
        (e281va28514 qq vb0_0 vb0_1 q2 x9 p2) >>= fun r21 =>
        (gapp 40 vb5_2 [r21.1]) >>= fun l23 =>
        e281va28514L40632 qq q2 p1 p2 (w64 (v53 + 1)) r21.2.1 r21.2.2 l23
    else
      some ((Tm.mk p1.k p1.n vb5_2), vb0_0, vb0_1)
end
def g281va28514L40632E0 (j : Nat → Value) (q2 : List Tm) (p1 : Tm) (p2 : Int) (v53 : Int) (vb0_0 : Int) (vb0_1 : Bool) (vb5_2 : List Tm) : List AV := sp j 79 0 [(0, .mp 0 0), (2, ai p2), (4, .mp 3 0), (6, .mp 4 0), (9, .mp 5 0), (51, .sl (flat tmCells p1.sub) (List.length p1.sub) .no), (52, ai (List.length p1.sub : Int)), (53, ai v53)]
def g281va28514L40632S0 (q2 : List Tm) (p1 : Tm) (p2 : Int) (v53 : Int) (vb0_0 : Int) (vb0_1 : Bool) (vb5_2 : List Tm) : LSt := ⟨[(0, .cells [ai vb0_0, ab vb0_1, .clo 243 [] [.mp 1 0, .mp 2 0]]), (1, .cells [.sl (flat tmCells q2) (List.length q2) .no]), (2, .cells [.mp 0 0]), (3, .cells [ai p1.k, ai p1.n, .sl (flat tmCells p1.sub) (List.length p1.sub) .no]), (4, .cells [ai 0, ai 0, .sl (flat tmCells ([] : List Tm)) (List.length ([] : List Tm)) .nl]), (5, .cells [ai p1.k, ai p1.n, .sl (flat tmCells vb5_2) (List.length vb5_2) (.st 0 3)])], 6, [0], 1, []⟩
theorem q281va28514 : Tryz.prog.funcs[281]? = some Tryz.f281 ∧ Tryz.f281.body.isNone = false := ⟨Tryz.func281, by kernel_rfl⟩
theorem k281va28514 {q0 : Int} {q1 : Bool} {q2 : List Tm} {p1 : Tm} {p2 : Int} {r : Tm × Int × Bool} (h : CTri Tryz.prog 281 [.cells [ai q0, ab q1, .clo 243 [] [.mp 1 0, .mp 2 0]], .cells [.sl (flat tmCells q2) (List.length q2) .no], .cells [.mp 0 0]] [.mp 0 0, tmA p1, ai p2] (tmA r.1) [.cells [ai r.2.1, ab r.2.2, .clo 243 [] [.mp 1 0, .mp 2 0]], .cells [.sl (flat tmCells q2) (List.length q2) .no], .cells [.mp 0 0]] 0) : CT Tryz.prog 281 [.cells [ai q0, ab q1, .clo 243 [] [.mp 1 0, .mp 2 0]], .cells [.sl (flat tmCells q2) (List.length q2) .no], .cells [.mp 0 0]] [.mp 0 0, tmA p1, ai p2] (tmA r.1) [.cells [ai r.2.1, ab r.2.2, .clo 243 [] [.mp 1 0, .mp 2 0]], .cells [.sl (flat tmCells q2) (List.length q2) .no], .cells [.mp 0 0]] 0 := ⟨h, ⟨(show 0 < 3 by decide), ⟨trivial, trivial, ⟨trivial, dT _⟩, trivial⟩, trivial, trivial⟩, (forall_cons ⟨trivial, trivial, ⟨trivial, ⟨(show 1 < 3 by decide), (show 2 < 3 by decide), trivial⟩⟩, trivial⟩ (forall_cons ⟨⟨trivial, dT _⟩, trivial⟩ (forall_cons ⟨(show 0 < 3 by decide), trivial⟩ forall_nil))), ⟨trivial, trivial, dT _, trivial⟩, (forall_cons ⟨trivial, trivial, ⟨trivial, ⟨(show 1 < 3 by decide), (show 2 < 3 by decide), trivial⟩⟩, trivial⟩ (forall_cons ⟨dT _, trivial⟩ (forall_cons ⟨(show 0 < 3 by decide), trivial⟩ forall_nil)))⟩
theorem a281va28514_281va28514L40632 : ∀ qq : Nat, (∀ (q0 : Int) (q1 : Bool) (q2 : List Tm) (p1 : Tm) (p2 : Int) (r : Tm × Int × Bool), e281va28514 qq q0 q1 q2 p1 p2 = some r → CT Tryz.prog 281 [.cells [ai q0, ab q1, .clo 243 [] [.mp 1 0, .mp 2 0]], .cells [.sl (flat tmCells q2) (List.length q2) .no], .cells [.mp 0 0]] [.mp 0 0, tmA p1, ai p2] (tmA r.1) [.cells [ai r.2.1, ab r.2.2, .clo 243 [] [.mp 1 0, .mp 2 0]], .cells [.sl (flat tmCells q2) (List.length q2) .no], .cells [.mp 0 0]] 0) ∧ (∀ (q2 : List Tm) (p1 : Tm) (p2 : Int) (v53 : Int) (vb0_0 : Int) (vb0_1 : Bool) (vb5_2 : List Tm) (r : Tm × Int × Bool), e281va28514L40632 qq q2 p1 p2 v53 vb0_0 vb0_1 vb5_2 = some r → (∀ j, Dl Tryz.prog 3 (inn (inn (rgt (lft (rgt (rgt (rgt (rgt (rgt (bod Tryz.f281)))))))))) (g281va28514L40632E0 j q2 p1 p2 v53 vb0_0 vb0_1 vb5_2) (g281va28514L40632S0 q2 p1 p2 v53 vb0_0 vb0_1 vb5_2) (frameQ Tryz.prog 3 (FinQ Tryz.prog 3 Tryz.f281 (tmA r.1) [.cells [ai r.2.1, ab r.2.2, .clo 243 [] [.mp 1 0, .mp 2 0]], .cells [.sl (flat tmCells q2) (List.length q2) .no], .cells [.mp 0 0]] 0) [.blk 0, .seq (rgt (rgt (rgt (rgt (rgt (rgt (bod Tryz.f281)))))))]))) := by
  intro qq
  induction qq with
  | zero =>
    exact ⟨fun _ _ _ _ _ _ h => nn h, fun _ _ _ _ _ _ _ _ h => nn h⟩
  | succ qq ih =>
    obtain ⟨ih281va28514, ih281va28514L40632⟩ := ih
    refine ⟨?_, ?_⟩
    · intro q0 q1 q2 p1 p2 r h
      rw [e281va28514] at h
      rcases spl h with ⟨h1, h⟩ | ⟨h1, h⟩
      · obtain ⟨r2, h3, h⟩ := obind h
        obtain rfl := sj h
        exact k281va28514 (tF q281va28514 1 [0, 1, 2] (oD (dT r2.sub) <| oD (dT q2) <| oC 0 [] (c191 h3) <| oB 0 h1 o0) (by kernel_rfl))
      · obtain ⟨r4, h5, h⟩ := obind h
        have k := oC 2 [1, 2, 0] (c243va13301 h5) <| oB 0 h1 o0
        rcases spl h with ⟨h6, h⟩ | ⟨h6, h⟩
        · obtain rfl := sj h
          exact k281va28514 (tF q281va28514 3 [0, 1, 2] (oD (dT r4.1.sub) <| oD (dT q2) <| oB 1 h6 k) (by kernel_rfl))
        · have k := oB 1 h6 k
          rcases spl h with ⟨h7, h⟩ | ⟨h7, h⟩
          · exact k281va28514 (tH q281va28514 6 [(some 6, 2, 3)] [0, 1, 2, 3, 4, 6] [0] [0, 2, 4, 6, 9, 51, 52, 53] (oD (dT p1.sub) <| oD (dT ([] : List Tm)) <| oD (dT ([] : List Tm)) <| oD (dT p1.sub) <| oD (dT q2) <| oB 5 h7 k) (ih281va28514L40632 _ _ _ _ _ _ _ _ h) (fun j => by kernel_rfl))
          · exact k281va28514 (tH q281va28514 5 [(some 6, 2, 3)] [0, 1, 2, 3, 4, 6] [0] [0, 2, 4, 6, 9, 51, 52, 53] (oD (dT p1.sub) <| oD (dT ([] : List Tm)) <| oD (dT ([] : List Tm)) <| oD (dT p1.sub) <| oD (dT q2) <| oB 5 h7 k) (ih281va28514L40632 _ _ _ _ _ _ _ _ h) (fun j => by kernel_rfl))
    · intro q2 p1 p2 v53 vb0_0 vb0_1 vb5_2 r h
      rw [e281va28514L40632] at h
      rcases spl h with ⟨h8, h⟩ | ⟨h8, h⟩
      · obtain ⟨x9, h10, h⟩ := obind h
        have k := oA 0 (ix23 (o := .no) h10) <| oB 0 h8 o0
        rcases spl h with ⟨h11, h⟩ | ⟨h11, h⟩
        · have k := oB 2 h11 k
          rcases spl h with ⟨h12, h⟩ | ⟨h12, h⟩
          · obtain ⟨r13, h14, h⟩ := obind h
            obtain ⟨l15, h16, h⟩ := obind h
            exact fun j => lH 2 [] [0, 1, 2, 3, 4, 5] [1] [0, 2, 4, 6, 9, 51, 52, 53] (oD (dT p1.sub) <| oD (dT l15) <| oD (dT ([] : List Tm)) <| oD (dT p1.sub) <| oD (dT q2) <| oP 0 (apS23 h16 (by simp)) <| oS 0 (obLitR tm_eq [r13.1]) <| oC 3 [0, 1, 2] (ih281va28514 _ _ _ _ _ _ h14) <| oB 1 h12 k) (ih281va28514L40632 _ _ _ _ _ _ _ _ h) (fun j => by kernel_rfl)
          · obtain ⟨r17, h18, h⟩ := obind h
            obtain ⟨l19, h20, h⟩ := obind h
            exact fun j => lH 2 [] [0, 1, 2, 3, 4, 5] [1] [0, 2, 4, 6, 9, 51, 52, 53] (oD (dT p1.sub) <| oD (dT l19) <| oD (dT ([] : List Tm)) <| oD (dT p1.sub) <| oD (dT q2) <| oP 0 (apS23 h20 (by simp)) <| oS 0 (obLitR tm_eq [r17.1]) <| oC 2 [0, 1, 2] (ih281va28514 _ _ _ _ _ _ h18) <| oB 1 h12 k) (ih281va28514L40632 _ _ _ _ _ _ _ _ h) (fun j => by kernel_rfl)
        · obtain ⟨r21, h22, h⟩ := obind h
          obtain ⟨l23, h24, h⟩ := obind h
          exact fun j => lH 2 [] [0, 1, 2, 3, 4, 5] [1] [0, 2, 4, 6, 9, 51, 52, 53] (oD (dT p1.sub) <| oD (dT l23) <| oD (dT ([] : List Tm)) <| oD (dT p1.sub) <| oD (dT q2) <| oP 0 (apS23 h24 (by simp)) <| oS 0 (obLitR tm_eq [r21.1]) <| oC 2 [0, 1, 2] (ih281va28514 _ _ _ _ _ _ h22) <| oB 2 h11 k) (ih281va28514L40632 _ _ _ _ _ _ _ _ h) (fun j => by kernel_rfl)
      · obtain rfl := sj h
        exact fun j => lF 2 [0, 1, 2] (oD (dT vb5_2) <| oD (dT q2) <| oB 0 h8 o0) (by kernel_rfl)
theorem c281va28514 {qq : Nat} {q0 : Int} {q1 : Bool} {q2 : List Tm} {p1 : Tm} {p2 : Int} {r : Tm × Int × Bool} (h : e281va28514 qq q0 q1 q2 p1 p2 = some r) : CT Tryz.prog 281 [.cells [ai q0, ab q1, .clo 243 [] [.mp 1 0, .mp 2 0]], .cells [.sl (flat tmCells q2) (List.length q2) .no], .cells [.mp 0 0]] [.mp 0 0, tmA p1, ai p2] (tmA r.1) [.cells [ai r.2.1, ab r.2.2, .clo 243 [] [.mp 1 0, .mp 2 0]], .cells [.sl (flat tmCells q2) (List.length q2) .no], .cells [.mp 0 0]] 0 := (a281va28514_281va28514L40632 _).1 _ _ _ _ _ _ h

end Go.Proofs.YteiddempdecleaaGreat

namespace Go.Proofs.YteiddempdecleaaGreat
open Go Go.Ab

/- scholium/subst.run -/
def e241va7810 (qq : Nat) (p0 : Tm) (q1 : List Tm) : Option (Tm × Int) :=
  (e242va11690 qq 8192 false q1) >>= fun r1 =>
  (e281va28514 qq 8192 false q1 p0 0) >>= fun r3 =>
  if r3.2.2 = true then
    some ((Tm.mk 0 0 []), 2)
  else
    (e91 qq r3.1) >>= fun r6 =>
    if r6 = true then
      some (r3.1, 0)
    else
      some ((Tm.mk 0 0 []), 2)
theorem q241va7810 : Tryz.prog.funcs[241]? = some Tryz.f241 ∧ Tryz.f241.body.isNone = false := ⟨Tryz.func241, by kernel_rfl⟩
theorem k241va7810 {p0 : Tm} {q1 : List Tm} {r : Tm × Int} (h : CTri Tryz.prog 241 [.cells [.sl (flat tmCells q1) (List.length q1) .no]] [tmA p0, .clo 242 [] [.mp 0 0]] (.tup [tmA r.1, ai r.2]) [.cells [.sl (flat tmCells q1) (List.length q1) .no]] 0) : CT Tryz.prog 241 [.cells [.sl (flat tmCells q1) (List.length q1) .no]] [tmA p0, .clo 242 [] [.mp 0 0]] (.tup [tmA r.1, ai r.2]) [.cells [.sl (flat tmCells q1) (List.length q1) .no]] 0 := ⟨h, ⟨⟨trivial, trivial, ⟨trivial, dT _⟩, trivial⟩, ⟨trivial, ⟨(show 0 < 1 by decide), trivial⟩⟩, trivial⟩, (forall_cons ⟨⟨trivial, dT _⟩, trivial⟩ forall_nil), ⟨⟨trivial, trivial, dT _, trivial⟩, trivial, trivial⟩, (forall_cons ⟨dT _, trivial⟩ forall_nil)⟩
theorem c241va7810 {qq : Nat} {p0 : Tm} {q1 : List Tm} {r : Tm × Int} (h : e241va7810 qq p0 q1 = some r) : CT Tryz.prog 241 [.cells [.sl (flat tmCells q1) (List.length q1) .no]] [tmA p0, .clo 242 [] [.mp 0 0]] (.tup [tmA r.1, ai r.2]) [.cells [.sl (flat tmCells q1) (List.length q1) .no]] 0 := by
  unfold e241va7810 at h
  obtain ⟨r1, h2, h⟩ := obind h
  obtain ⟨r3, h4, h⟩ := obind h
  have k := oC 2 [3, 0, 4] (c281va28514 h4) <| oC 0 [3, 0] (c242va11690 h2) o0
  rcases spl h with ⟨h5, h⟩ | ⟨h5, h⟩
  · obtain rfl := sj h
    exact k241va7810 (tF q241va7810 1 [0] (oD (dT ([] : List Tm)) <| oD (dT q1) <| oB 1 h5 k) (by kernel_rfl))
  · obtain ⟨r6, h7, h⟩ := obind h
    have k := oB 1 h5 k
    rcases spl h with ⟨h8, h⟩ | ⟨h8, h⟩
    · obtain rfl := sj h
      exact k241va7810 (tF q241va7810 3 [0] (oD (dT r3.1.sub) <| oD (dT q1) <| oK 1 [] h8 (c91 h7) k) (by kernel_rfl))
    · obtain rfl := sj h
      exact k241va7810 (tF q241va7810 2 [0] (oD (dT ([] : List Tm)) <| oD (dT q1) <| oK 1 [] h8 (c91 h7) k) (by kernel_rfl))

end Go.Proofs.YteiddempdecleaaGreat

namespace Go.Proofs.YteiddempdecleaaGreat
open Go Go.Ab

/- scholium/subst.Many -/
def e186L44517 : Nat → Tm → (List Tm) → Int →  Option (Tm × Int)
  | 0, _, _, _ => none
  | qq + 1, p0, p1, v14 =>
    if decide (v14 < (List.length p1 : Int)) = true then
      (gidx p1 v14) >>= fun x5 =>
      (e91 qq x5) >>= fun r7 =>
      if r7 = true then
        e186L44517 qq p0 p1 (w64 (v14 + 1))
      else
        some ((Tm.mk 0 0 []), 5)
    else
      (e241va7810 qq p0 p1) >>= fun r10 =>
      some (r10.1, r10.2)
def e186 (qq : Nat) (p0 : Tm) (p1 : List Tm) : Option (Tm × Int) :=
  (e91 qq p0) >>= fun r1 =>
  if r1 = true then
    e186L44517 qq p0 p1 0
  else
    some ((Tm.mk 0 0 []), 5)
def g186L44517E0 (j : Nat → Value) (p0 : Tm) (p1 : List Tm) (v14 : Int) : List AV := sp j 28 0 [(2, .mp 0 0), (3, .mp 1 0), (4, .mp 2 0), (12, .sl (flat tmCells p1) (List.length p1) .no), (13, ai (List.length p1 : Int)), (14, ai v14)]
def g186L44517S0 (p0 : Tm) (p1 : List Tm) (v14 : Int) : LSt := ⟨[(0, .cells [ai p0.k, ai p0.n, .sl (flat tmCells p0.sub) (List.length p0.sub) .no]), (1, .cells [.sl (flat tmCells p1) (List.length p1) .no]), (2, .cells [ai 0, ai 0, .sl (flat tmCells ([] : List Tm)) (List.length ([] : List Tm)) .nl])], 3, [], 0, []⟩
theorem q186 : Tryz.prog.funcs[186]? = some Tryz.f186 ∧ Tryz.f186.body.isNone = false := ⟨Tryz.func186, by kernel_rfl⟩
theorem k186 {p0 : Tm} {p1 : List Tm} {r : Tm × Int} (h : CTri Tryz.prog 186 [] [tmA p0, .sl (flat tmCells p1) (List.length p1) .no] (.tup [tmA r.1, ai r.2]) [] 0) : CT Tryz.prog 186 [] [tmA p0, .sl (flat tmCells p1) (List.length p1) .no] (.tup [tmA r.1, ai r.2]) [] 0 := ⟨h, ⟨⟨trivial, trivial, ⟨trivial, dT _⟩, trivial⟩, ⟨trivial, dT _⟩, trivial⟩, forall_nil, ⟨⟨trivial, trivial, dT _, trivial⟩, trivial, trivial⟩, forall_nil⟩
theorem l186L44517 : ∀ qq : Nat, (∀ (p0 : Tm) (p1 : List Tm) (v14 : Int) (r : Tm × Int), e186L44517 qq p0 p1 v14 = some r → (∀ j, Dl Tryz.prog 0 (inn (inn (rgt (lft (rgt (rgt (bod Tryz.f186))))))) (g186L44517E0 j p0 p1 v14) (g186L44517S0 p0 p1 v14) (frameQ Tryz.prog 0 (FinQ Tryz.prog 0 Tryz.f186 (.tup [tmA r.1, ai r.2]) [] 0) [.blk 0, .seq (rgt (rgt (rgt (bod Tryz.f186))))]))) := by
  intro qq
  induction qq with
  | zero =>
    exact fun _ _ _ _ h => nn h
  | succ qq ih =>
    intro p0 p1 v14 r h
    rw [e186L44517] at h
    rcases spl h with ⟨h4, h⟩ | ⟨h4, h⟩
    · obtain ⟨x5, h6, h⟩ := obind h
      obtain ⟨r7, h8, h⟩ := obind h
      have k := oA 0 (ix23 (o := .no) h6) <| oB 0 h4 o0
      rcases spl h with ⟨h9, h⟩ | ⟨h9, h⟩
      · exact fun j => lH 2 [] [0, 1, 2] [] [2, 3, 4, 12, 13, 14] (oD (dT p1) <| oD (dT ([] : List Tm)) <| oD (dT p1) <| oD (dT p0.sub) <| oK 3 [] h9 (c91 h8) k) (ih _ _ _ _ h) (fun j => by kernel_rfl)
      · obtain rfl := sj h
        exact fun j => lF 2 [] (oD (dT ([] : List Tm)) <| oK 3 [] h9 (c91 h8) k) (by kernel_rfl)
    · obtain ⟨r10, h11, h⟩ := obind h
      obtain rfl := sj h
      exact fun j => lF 3 [] (oD (dT r10.1.sub) <| oC 1 [1] (c241va7810 h11) <| oB 0 h4 o0) (by kernel_rfl)
theorem c186 {qq : Nat} {p0 : Tm} {p1 : List Tm} {r : Tm × Int} (h : e186 qq p0 p1 = some r) : CT Tryz.prog 186 [] [tmA p0, .sl (flat tmCells p1) (List.length p1) .no] (.tup [tmA r.1, ai r.2]) [] 0 := by
  unfold e186 at h
  obtain ⟨r1, h2, h⟩ := obind h
  rcases spl h with ⟨h3, h⟩ | ⟨h3, h⟩
  · exact k186 (tH q186 3 [] [0, 1, 2] [] [2, 3, 4, 12, 13, 14] (oD (dT p1) <| oD (dT ([] : List Tm)) <| oD (dT p1) <| oD (dT p0.sub) <| oK 1 [] h3 (c91 h2) o0) (l186L44517 _ _ _ _ _ h) (fun j => by kernel_rfl))
  · obtain rfl := sj h
    exact k186 (tF q186 2 [] (oD (dT ([] : List Tm)) <| oK 1 [] h3 (c91 h2) o0) (by kernel_rfl))

end Go.Proofs.YteiddempdecleaaGreat

namespace Go.Proofs.YteiddempdecleaaGreat
open Go Go.Ab

/- scholium/subst.One -/
def e159 (qq : Nat) (p0 : Tm) (p1 : Tm) : Option (Tm × Int) :=
  (e186 qq p0 [p1]) >>= fun r1 =>
  some (r1.1, r1.2)
theorem q159 : Tryz.prog.funcs[159]? = some Tryz.f159 ∧ Tryz.f159.body.isNone = false := ⟨Tryz.func159, by kernel_rfl⟩
theorem k159 {p0 : Tm} {p1 : Tm} {r : Tm × Int} (h : CTri Tryz.prog 159 [] [tmA p0, tmA p1] (.tup [tmA r.1, ai r.2]) [] 0) : CT Tryz.prog 159 [] [tmA p0, tmA p1] (.tup [tmA r.1, ai r.2]) [] 0 := ⟨h, ⟨⟨trivial, trivial, ⟨trivial, dT _⟩, trivial⟩, ⟨trivial, trivial, ⟨trivial, dT _⟩, trivial⟩, trivial⟩, forall_nil, ⟨⟨trivial, trivial, dT _, trivial⟩, trivial, trivial⟩, forall_nil⟩
theorem c159 {qq : Nat} {p0 : Tm} {p1 : Tm} {r : Tm × Int} (h : e159 qq p0 p1 = some r) : CT Tryz.prog 159 [] [tmA p0, tmA p1] (.tup [tmA r.1, ai r.2]) [] 0 := by
  unfold e159 at h
  obtain ⟨r1, h2, h⟩ := obind h
  obtain rfl := sj h
  exact k159 (tF q159 3 [] (oD (dT r1.1.sub) <| oC 0 [] (c186 h2) <| oS 2 (obLitR tm_eq [p1]) o0) (by kernel_rfl))

end Go.Proofs.YteiddempdecleaaGreat

namespace Go.Proofs.YteiddempdecleaaGreat
open Go Go.Ab

theorem zT_ok : zT.Ok := by unfold zT; rw [Tm.Ok, OkL]; simp
theorem leaf_ok (k n : Int) : (Tm.mk k n []).Ok := by rw [Tm.Ok, OkL]; simp
theorem ev_raised (ls : List Tm) (a : Tm) (b left : Int) (long : Bool) (ho : a.Ok) (hl : LeftOk left long) : Evt (fun q => e245va28514 q left long ls a b) (raT a b left long) := by
  simp only [e245va28514]
  have hs := szT_b a 0 (by omega) (by omega)
  have h1 := hl.1
  have h2 := hl.2.1
  refine (ev_Size a ho).bind ?_
  rw [w64_id (x := left - szT a 0) (by omega) (by omega)]
  unfold raT
  by_cases h : left - szT a 0 < 0
  · rw [if_pos h]; exact Evt.ifT (decide_eq_true h) ((ev_Sort 0).bind Evt.ret)
  · rw [if_neg h]
    refine Evt.ifF (decide_eq_false h) ((ev_Up a b ho).bind ?_)
    by_cases h3 : (liftT a b 0).2 ≠ 0
    · rw [if_pos h3]; exact Evt.ifT (by simpa using h3) ((ev_Sort 0).bind Evt.ret)
    · rw [if_neg h3]; exact Evt.ifF (by simpa using h3) Evt.ret

mutual
theorem sb_left (ls : List Tm) : ∀ (t : Tm) (b left : Int) (long : Bool), LeftOk left long → LeftOk (sbT ls t b left long).2.1 (sbT ls t b left long).2.2
  | .mk kd n l, b, left, long, h => by
    rw [sbT]
    cases long with
    | true => simpa using h
    | false =>
      rw [if_neg (by simp)]
      split
      · split
        · exact raT_left h
        · exact h
      · have h0 := h.2.2 rfl
        have h1 := h.2.1
        refine sb_leftL ls l kd 0 b _ _ ⟨by omega, by omega, fun h2 => ?_⟩
        simp at h2; omega
theorem sb_leftL (ls : List Tm) : ∀ (l : List Tm) (kd : Int) (i : Nat) (b left : Int) (long : Bool), LeftOk left long → LeftOk (sbL ls l kd i b left long).2.1 (sbL ls l kd i b left long).2.2
  | [], kd, i, b, left, long, h => by rw [sbL]; exact h
  | t :: l, kd, i, b, left, long, h => by
    rw [sbL]
    exact sb_leftL ls l kd (i + 1) b _ _ (sb_left ls t _ left long h)
end
theorem sbL_len (ls : List Tm) : ∀ (l : List Tm) (kd : Int) (i : Nat) (b left : Int) (long : Bool), (sbL ls l kd i b left long).1.length = l.length
  | [], _, _, _, _, _ => by rw [sbL]
  | t :: l, kd, i, b, left, long => by rw [sbL]; exact congrArg (· + 1) (sbL_len ls l kd (i + 1) b _ _)
theorem raT_ok (a : Tm) (b left : Int) (long : Bool) (h : a.Ok) : (raT a b left long).1.Ok := by
  unfold raT
  split
  · exact leaf_ok _ _
  · split
    · exact leaf_ok _ _
    · exact liftT_ok a b 0 h
mutual
theorem sbT_ok (ls : List Tm) (hls : ∀ a ∈ ls, a.Ok) : ∀ (t : Tm) (b left : Int) (long : Bool), t.Ok → (sbT ls t b left long).1.Ok
  | .mk kd n l, b, left, long, h => by
    rw [sbT]
    split
    · exact leaf_ok _ _
    · split
      · split
        · exact raT_ok _ _ _ _ (hls _ (List.getElem_mem _))
        · exact leaf_ok _ _
      · rw [Tm.Ok] at h ⊢
        rw [sbL_len]
        exact ⟨h.1, sbL_ok ls hls l kd 0 b _ _ h.2⟩
theorem sbL_ok (ls : List Tm) (hls : ∀ a ∈ ls, a.Ok) : ∀ (l : List Tm) (kd : Int) (i : Nat) (b left : Int) (long : Bool), OkL l → OkL (sbL ls l kd i b left long).1
  | [], _, _, _, _, _, _ => by rw [sbL, OkL]; trivial
  | t :: l, kd, i, b, left, long, h => by
    rw [OkL] at h
    rw [sbL, OkL]
    exact ⟨sbT_ok ls hls t _ _ _ h.1, sbL_ok ls hls l kd (i + 1) b _ _ h.2⟩
end

mutual
theorem ev_sb (ls : List Tm) (hls : ∀ a ∈ ls, a.Ok) (hlen : ls.length ≤ 1152921504606846976) : ∀ (t : Tm) (b left : Int) (long : Bool), goodT t = true → 0 ≤ b → b + t.high ≤ 1152921504606846976 → LeftOk left long → Evt (fun q => e281va28514 q left long ls t b) (sbT ls t b left long)
  | .mk kd n l, b, left, long, hg, hb, hb2, hl => by
    refine Evt.succ ?_
    simp only [e281va28514]
    have hh := goodT_mk hg
    have hn := head_n hh.1
    rw [Tm.high] at hb2
    rw [sbT]
    cases long with
    | true => exact Evt.ifT rfl ((ev_Sort 0).bind (Evt.ret.eq (by simp)))
    | false =>
      refine Evt.ifF rfl ?_
      rw [if_neg (by simp)]
      have hloose : Evt (fun q => e244 q (.mk kd n l) b) (if kd = 1 ∧ b ≤ n then n - b else -1) := by
        refine Evt.mk fun q => ?_
        unfold e244
        simp only [Tm.k, Tm.n]
        by_cases h1 : kd = 1
        · by_cases h2 : n < b
          · simp [h1, h2, show ¬ b ≤ n by omega]
          · simp [h1, h2, show b ≤ n by omega]
            exact w64_id (by omega) (by omega)
        · simp [h1]
      by_cases h1 : kd = 1 ∧ b ≤ n
      · rw [if_pos h1] at hloose ⊢
        have hleaf : Evt (fun q => e243va13301 q (.mk kd n l) b ls left false) (let r := (if h : (n - b).toNat < ls.length then raT (ls[(n - b).toNat]) b left false else (.mk 1 (n - ls.length) [], left, false)); (r.1, true, r.2.1, r.2.2)) := by
          simp only [e243va13301]
          refine hloose.bind (Evt.ifF (decide_eq_false (by omega)) ?_)
          by_cases h2 : (n - b).toNat < ls.length
          · rw [dif_pos h2]
            refine Evt.ifT (decide_eq_true (by omega)) (Evt.pure (a := ls[(n - b).toNat]) ?_ ((ev_raised ls _ b left false (hls _ (List.getElem_mem _)) hl).bind Evt.ret))
            unfold gidx
            rw [if_pos (by omega)]
            exact List.getElem?_eq_getElem h2
          · rw [dif_neg h2]
            refine Evt.ifF (decide_eq_false (by omega)) ?_
            simp only [Tm.n]
            rw [w64_id (by omega) (by omega)]
            exact (ev_Var _).bind Evt.ret
        exact hleaf.bind (Evt.ifT rfl Evt.ret)
      · rw [if_neg h1] at hloose ⊢
        have hleaf : Evt (fun q => e243va13301 q (.mk kd n l) b ls left false) (.mk 0 0 [], false, left, false) := by
          simp only [e243va13301]
          exact hloose.bind (Evt.ifT rfl Evt.ret)
        refine hleaf.bind (Evt.ifF rfl ?_)
        have h0 := hl.2.2 rfl
        have h3 := hl.2.1
        rw [w64_id (x := left - 1) (by omega) (by omega)]
        have go : ∀ lg : Bool, lg = decide (left - 1 < 0) → Evt (fun q => e281va28514L40632 q ls (.mk kd n l) b 0 (left - 1) lg []) (let r := sbL ls l kd 0 b (left - 1) (decide (left - 1 < 0)); (.mk kd n r.1, r.2.1, r.2.2)) := fun lg hlg => by
          subst hlg
          refine (ev_sbL ls hls hlen l (.mk kd n l) 0 b (left - 1) _ [] rfl hh.2 (by have := hn.2.2.2.2; exact this) hb (by omega) ⟨by omega, by omega, fun h2 => ?_⟩ (by simp)).eq (by simp [Tm.k, Tm.n])
          simp at h2; omega
        by_cases h4 : left - 1 < 0
        · exact Evt.ifT (decide_eq_true h4) (go true (by simp [h4]))
        · exact Evt.ifF (decide_eq_false h4) (go false (by simp [h4]))
theorem ev_sbL (ls : List Tm) (hls : ∀ a ∈ ls, a.Ok) (hlen : ls.length ≤ 1152921504606846976) : ∀ (l : List Tm) (p : Tm) (v : Nat) (b left : Int) (long : Bool) (acc : List Tm), p.sub.drop v = l → goodL l = true → p.sub.length ≤ 2 → 0 ≤ b → b + 1 + highL l ≤ 1152921504606846976 → LeftOk left long → acc.length ≤ v →
    Evt (fun q => e281va28514L40632 q ls p b (v : Int) left long acc) (.mk p.k p.n (acc ++ (sbL ls l p.k v b left long).1), (sbL ls l p.k v b left long).2.1, (sbL ls l p.k v b left long).2.2)
  | [], p, v, b, left, long, acc, hd, hg, hl2, hb, hb2, hl, ha => by
    refine Evt.succ ?_
    simp only [e281va28514L40632]
    exact Evt.ifF (drop_nil hd) (Evt.ret.eq (by rw [sbL]; simp))
  | t :: l, p, v, b, left, long, acc, hd, hg, hl2, hb, hb2, hl, ha => by
    have hlt := drop_lt hd
    have hgc := goodL_cons hg
    rw [highL] at hb2
    refine Evt.succ ?_
    simp only [e281va28514L40632]
    refine Evt.ifT (drop_dec hd) (Evt.pure (drop_idx hd) ?_)
    have next : ∀ x : Tm × Int × Bool, LeftOk x.2.1 x.2.2 → Evt (fun q => gapp 40 acc [x.1] >>= fun l15 => e281va28514L40632 q ls p b (w64 ((v : Int) + 1)) x.2.1 x.2.2 l15)
        (.mk p.k p.n (acc ++ x.1 :: (sbL ls l p.k (v + 1) b x.2.1 x.2.2).1), (sbL ls l p.k (v + 1) b x.2.1 x.2.2).2.1, (sbL ls l p.k (v + 1) b x.2.1 x.2.2).2.2) := fun x hx => by
      refine Evt.pure (gapp_ok (by simp <;> omega)) ?_
      rw [w64_nat v (by omega)]
      exact (ev_sbL ls hls hlen l p (v + 1) b x.2.1 x.2.2 (acc ++ [x.1]) (drop_next hd) hgc.2 hl2 hb (by omega) hx (by simp <;> omega)).eq (by simp)
    rw [sbL]
    by_cases h1 : v = 1
    · subst h1
      refine Evt.ifT rfl ?_
      by_cases h5 : p.k = 5
      · refine Evt.ifF (by simp [h5]) ?_
        have e : undR' p.k 1 b = b := by unfold undR'; simp [h5]
        rw [e]
        exact (ev_sb ls hls hlen t b left long hgc.1 hb (by omega) hl).bind (next _ (sb_left ls t b left long hl))
      · refine Evt.ifT (by simp [h5]) ?_
        have e : undR' p.k 1 b = b + 1 := by unfold undR'; simp [h5]
        rw [e, w64_id (x := b + 1) (by omega) (by omega)]
        exact (ev_sb ls hls hlen t (b + 1) left long hgc.1 (by omega) (by omega) hl).bind (next _ (sb_left ls t (b + 1) left long hl))
    · refine Evt.ifF (by simp <;> omega) ?_
      have e : undR' p.k v b = b := by unfold undR'; simp [h1]
      rw [e]
      exact (ev_sb ls hls hlen t b left long hgc.1 hb (by omega) hl).bind (next _ (sb_left ls t b left long hl))
end

/-- subst.Many -/
def subT (t : Tm) (ls : List Tm) : Tm × Int :=
  if shapedT t = true ∧ (ls.all shapedT) = true then
    (if (sbT ls t 0 8192 false).2.2 = true then (zT, 2) else if shapedT (sbT ls t 0 8192 false).1 = true then ((sbT ls t 0 8192 false).1, 0) else (zT, 2))
  else (zT, 5)
theorem ev_run (t : Tm) (ls : List Tm) (h : shapedT t = true) (ho : t.Ok) (hls : ∀ a ∈ ls, a.Ok) (hlen : ls.length ≤ 1152921504606846976) :
    Evt (fun q => e241va7810 q t ls) (if (sbT ls t 0 8192 false).2.2 = true then (zT, 2) else if shapedT (sbT ls t 0 8192 false).1 = true then ((sbT ls t 0 8192 false).1, 0) else (zT, 2)) := by
  simp only [e241va7810]
  have hs := shapedT_spec h
  refine Evt.bind (a := ()) (Evt.mk fun _ => rfl) ((ev_sb ls hls hlen t 0 8192 false hs.2.2 (by omega) (by omega) ⟨by omega, by omega, fun _ => by omega⟩).bind ?_)
  by_cases h1 : (sbT ls t 0 8192 false).2.2 = true
  · rw [if_pos h1]; exact Evt.ifT h1 Evt.ret
  · rw [if_neg h1]
    refine Evt.ifF (by simpa using h1) ((ev_Shaped _ (sbT_ok ls hls t 0 8192 false ho)).bind ?_)
    by_cases h2 : shapedT (sbT ls t 0 8192 false).1 = true
    · rw [if_pos h2, if_pos h2]; exact Evt.ret
    · rw [if_neg h2, if_neg h2]; exact Evt.ret
theorem ev_ManyL (t : Tm) (ls : List Tm) (h : shapedT t = true) (ho : t.Ok) (hls : ∀ a ∈ ls, a.Ok) (hlen : ls.length ≤ 1152921504606846976) : ∀ (r : List Tm) (v : Nat), ls.drop v = r →
    Evt (fun q => e186L44517 q t ls (v : Int)) (if (r.all shapedT) = true then (if (sbT ls t 0 8192 false).2.2 = true then (zT, 2) else if shapedT (sbT ls t 0 8192 false).1 = true then ((sbT ls t 0 8192 false).1, 0) else (zT, 2)) else (zT, 5))
  | [], v, hd => by
    refine Evt.succ ?_
    simp only [e186L44517]
    exact Evt.ifF (drop_nil hd) ((ev_run t ls h ho hls hlen).bind (Evt.ret.eq (by simp)))
  | x :: r, v, hd => by
    have hlt := drop_lt hd
    have hx : x ∈ ls := by
      have : x ∈ ls.drop v := by rw [hd]; simp
      exact List.mem_of_mem_drop this
    refine Evt.succ ?_
    simp only [e186L44517]
    refine Evt.ifT (drop_dec hd) (Evt.pure (drop_idx hd) ((ev_Shaped x (hls x hx)).bind ?_))
    by_cases h1 : shapedT x = true
    · refine Evt.ifT h1 ?_
      rw [w64_nat v (by omega)]
      exact (ev_ManyL t ls h ho hls hlen r (v + 1) (drop_next hd)).eq (by simp [h1])
    · exact Evt.ifF (by simpa using h1) (Evt.ret.eq (by simp [h1, zT]))
theorem ev_Many (t : Tm) (ls : List Tm) (ho : t.Ok) (hls : ∀ a ∈ ls, a.Ok) (hlen : ls.length ≤ 1152921504606846976) : Evt (fun q => e186 q t ls) (subT t ls) := by
  simp only [e186]
  refine (ev_Shaped t ho).bind ?_
  unfold subT
  by_cases h : shapedT t = true
  · refine Evt.ifT h ((ev_ManyL t ls h ho hls hlen ls 0 rfl).eq ?_)
    simp [h]
  · exact Evt.ifF (by simpa using h) (Evt.ret.eq (by simp [h, zT]))
theorem ev_One (t a : Tm) (ho : t.Ok) (ha : a.Ok) : Evt (fun q => e159 q t a) (subT t [a]) := by
  simp only [e159]
  exact (ev_Many t [a] ho (by simpa using ha) (by simp)).bind Evt.ret
theorem subT_ok (t : Tm) (ls : List Tm) (ho : t.Ok) (hls : ∀ a ∈ ls, a.Ok) : (subT t ls).1.Ok := by
  unfold subT
  split
  · split
    · exact zT_ok
    · split
      · exact sbT_ok ls hls t 0 8192 false ho
      · exact zT_ok
  · exact zT_ok
end Go.Proofs.YteiddempdecleaaGreat

namespace Go.Proofs.YteiddempdecleaaGreat
open Go Go.Ab

/- scholium/tele.Split -/
def e203L29861 : Nat → Int → Int → (List Tm) → Int → Int → (List Tm) →  Option (List Tm × Tm × Int)
  | 0, _, _, _, _, _, _ => none
  | qq + 1, p1, v25, v7, vb1_0, vb1_1, vb1_2 =>
    if decide (v25 < p1) = true then
      if (vb1_0 != 3) = true then
        some ([], (Tm.mk 0 0 []), 6)
      else
        (gidx vb1_2 0) >>= fun x10 =>
        (gapp 40 v7 [x10]) >>= fun l12 =>
        (gidx vb1_2 1) >>= fun x14 =>
        e203L29861 qq p1 (w64 (v25 + 1)) l12 x14.k x14.n x14.sub
    else
      some (v7, (Tm.mk vb1_0 vb1_1 vb1_2), 0)
def e203 (qq : Nat) (p0 : Tm) (p1 : Int) : Option (List Tm × Tm × Int) :=
  (e91 qq p0) >>= fun r1 =>
  if r1 = true then
    if decide (p1 < 0) = true then
      some ([], (Tm.mk 0 0 []), 5)
    else
      if decide (p1 > 24) = true then
        some ([], (Tm.mk 0 0 []), 2)
      else
        (e84 qq p0) >>= fun r6 =>
        e203L29861 qq p1 0 [] r6.k r6.n r6.sub
  else
    some ([], (Tm.mk 0 0 []), 5)
def g203L29861E0 (j : Nat → Value) (p1 : Int) (v25 : Int) (v7 : List Tm) (vb1_0 : Int) (vb1_1 : Int) (vb1_2 : List Tm) : List AV := sp j 45 0 [(5, .mp 0 0), (7, .sl (flat tmCells v7) (List.length v7) (.st 0 3)), (8, .mp 1 0), (24, ai p1), (25, ai v25)]
def g203L29861S0 (p1 : Int) (v25 : Int) (v7 : List Tm) (vb1_0 : Int) (vb1_1 : Int) (vb1_2 : List Tm) : LSt := ⟨[(0, .cells [ai 0, ai 0, .sl (flat tmCells ([] : List Tm)) (List.length ([] : List Tm)) .nl]), (1, .cells [ai vb1_0, ai vb1_1, .sl (flat tmCells vb1_2) (List.length vb1_2) .no])], 2, [0], 1, []⟩
theorem q203 : Tryz.prog.funcs[203]? = some Tryz.f203 ∧ Tryz.f203.body.isNone = false := ⟨Tryz.func203, by kernel_rfl⟩
theorem k203 {p0 : Tm} {p1 : Int} {r : List Tm × Tm × Int} (h : CTri Tryz.prog 203 [] [tmA p0, ai p1] (.tup [.sl (flat tmCells r.1) (List.length r.1) .no, tmA r.2.1, ai r.2.2]) [] 0) : CT Tryz.prog 203 [] [tmA p0, ai p1] (.tup [.sl (flat tmCells r.1) (List.length r.1) .no, tmA r.2.1, ai r.2.2]) [] 0 := ⟨h, ⟨⟨trivial, trivial, ⟨trivial, dT _⟩, trivial⟩, trivial, trivial⟩, forall_nil, ⟨dT _, ⟨trivial, trivial, dT _, trivial⟩, trivial, trivial⟩, forall_nil⟩
theorem l203L29861 : ∀ qq : Nat, (∀ (p1 : Int) (v25 : Int) (v7 : List Tm) (vb1_0 : Int) (vb1_1 : Int) (vb1_2 : List Tm) (r : List Tm × Tm × Int), e203L29861 qq p1 v25 v7 vb1_0 vb1_1 vb1_2 = some r → (∀ j, Dl Tryz.prog 0 (inn (inn (rgt (lft (rgt (rgt (rgt (rgt (bod Tryz.f203))))))))) (g203L29861E0 j p1 v25 v7 vb1_0 vb1_1 vb1_2) (g203L29861S0 p1 v25 v7 vb1_0 vb1_1 vb1_2) (frameQ Tryz.prog 0 (FinQ Tryz.prog 0 Tryz.f203 (.tup [.sl (flat tmCells r.1) (List.length r.1) .no, tmA r.2.1, ai r.2.2]) [] 0) [.blk 1, .seq (rgt (rgt (rgt (rgt (rgt (bod Tryz.f203))))))]))) := by
  intro qq
  induction qq with
  | zero =>
    exact fun _ _ _ _ _ _ _ h => nn h
  | succ qq ih =>
    intro p1 v25 v7 vb1_0 vb1_1 vb1_2 r h
    rw [e203L29861] at h
    rcases spl h with ⟨h8, h⟩ | ⟨h8, h⟩
    · have k := oB 0 h8 o0
      rcases spl h with ⟨h9, h⟩ | ⟨h9, h⟩
      · obtain rfl := sj h
        exact fun j => lF 1 [] (oD (dT ([] : List Tm)) <| oD (dT ([] : List Tm)) <| oB 1 h9 k) (by kernel_rfl)
      · obtain ⟨x10, h11, h⟩ := obind h
        obtain ⟨l12, h13, h⟩ := obind h
        obtain ⟨x14, h15, h⟩ := obind h
        exact fun j => lH 3 [] [0, 1] [1] [5, 7, 8, 24, 25] (oD (dT l12) <| oD (dT x14.sub) <| oD (dT ([] : List Tm)) <| oA 1 (ix23 (o := .no) h15) <| oP 0 (apS23 h13 (by simp)) <| oS 1 (obLitR tm_eq [x10]) <| oA 1 (ix23 (o := .no) h11) <| oB 1 h9 k) (ih _ _ _ _ _ _ _ h) (fun j => by kernel_rfl)
    · obtain rfl := sj h
      exact fun j => lF 2 [] (oD (dT vb1_2) <| oD (dT v7) <| oB 0 h8 o0) (by kernel_rfl)
theorem c203 {qq : Nat} {p0 : Tm} {p1 : Int} {r : List Tm × Tm × Int} (h : e203 qq p0 p1 = some r) : CT Tryz.prog 203 [] [tmA p0, ai p1] (.tup [.sl (flat tmCells r.1) (List.length r.1) .no, tmA r.2.1, ai r.2.2]) [] 0 := by
  unfold e203 at h
  obtain ⟨r1, h2, h⟩ := obind h
  rcases spl h with ⟨h3, h⟩ | ⟨h3, h⟩
  · have k := oK 1 [] h3 (c91 h2) o0
    rcases spl h with ⟨h4, h⟩ | ⟨h4, h⟩
    · obtain rfl := sj h
      exact k203 (tF q203 1 [] (oD (dT ([] : List Tm)) <| oD (dT ([] : List Tm)) <| oB 1 h4 k) (by kernel_rfl))
    · have k := oB 1 h4 k
      rcases spl h with ⟨h5, h⟩ | ⟨h5, h⟩
      · obtain rfl := sj h
        exact k203 (tF q203 1 [] (oD (dT ([] : List Tm)) <| oD (dT ([] : List Tm)) <| oB 0 h5 k) (by kernel_rfl))
      · obtain ⟨r6, h7, h⟩ := obind h
        exact k203 (tH q203 1 [(none, 7, 3)] [1, 2] [0] [5, 7, 8, 24, 25] (oD (dT ([] : List Tm)) <| oD (dT r6.sub) <| oD (dT ([] : List Tm)) <| oC 1 [] (c84 h7) <| oB 0 h5 k) (l203L29861 _ _ _ _ _ _ _ _ h) (fun j => by kernel_rfl))
  · obtain rfl := sj h
    exact k203 (tF q203 2 [] (oD (dT ([] : List Tm)) <| oD (dT ([] : List Tm)) <| oK 1 [] h3 (c91 h2) o0) (by kernel_rfl))

end Go.Proofs.YteiddempdecleaaGreat

namespace Go.Proofs.YteiddempdecleaaGreat
open Go Go.Ab

/- scholium/tele.Whole -/
def e222L17358 : Nat → Tm → Int → Int → Int → (List Tm) →  Option (List Tm × Tm × Int)
  | 0, _, _, _, _, _ => none
  | qq + 1, p0, v5, vb2_0, vb2_1, vb2_2 =>
    if (vb2_0 == 3) = true then
      if ((List.length vb2_2 : Int) == 2) = true then
        if decide (v5 ≤ 24) = true then
          (gidx vb2_2 1) >>= fun x4 =>
          e222L17358 qq p0 (w64 (v5 + 1)) x4.k x4.n x4.sub
        else
          (e203 qq p0 v5) >>= fun r6 =>
          some (r6.1, r6.2.1, r6.2.2)
      else
        (e203 qq p0 v5) >>= fun r8 =>
        some (r8.1, r8.2.1, r8.2.2)
    else
      (e203 qq p0 v5) >>= fun r10 =>
      some (r10.1, r10.2.1, r10.2.2)
def e222 (qq : Nat) (p0 : Tm) : Option (List Tm × Tm × Int) :=
  e222L17358 qq p0 0 p0.k p0.n p0.sub
def g222L17358E0 (j : Nat → Value) (p0 : Tm) (v5 : Int) (vb2_0 : Int) (vb2_1 : Int) (vb2_2 : List Tm) : List AV := sp j 34 0 [(1, .mp 0 0), (3, .mp 1 0), (5, ai v5), (6, .mp 2 0)]
def g222L17358S0 (p0 : Tm) (v5 : Int) (vb2_0 : Int) (vb2_1 : Int) (vb2_2 : List Tm) : LSt := ⟨[(0, .cells [ai p0.k, ai p0.n, .sl (flat tmCells p0.sub) (List.length p0.sub) .no]), (1, .cells [ai 0, ai 0, .sl (flat tmCells ([] : List Tm)) (List.length ([] : List Tm)) .nl]), (2, .cells [ai vb2_0, ai vb2_1, .sl (flat tmCells vb2_2) (List.length vb2_2) .no])], 3, [], 0, []⟩
theorem q222 : Tryz.prog.funcs[222]? = some Tryz.f222 ∧ Tryz.f222.body.isNone = false := ⟨Tryz.func222, by kernel_rfl⟩
theorem k222 {p0 : Tm} {r : List Tm × Tm × Int} (h : CTri Tryz.prog 222 [] [tmA p0] (.tup [.sl (flat tmCells r.1) (List.length r.1) .no, tmA r.2.1, ai r.2.2]) [] 0) : CT Tryz.prog 222 [] [tmA p0] (.tup [.sl (flat tmCells r.1) (List.length r.1) .no, tmA r.2.1, ai r.2.2]) [] 0 := ⟨h, ⟨⟨trivial, trivial, ⟨trivial, dT _⟩, trivial⟩, trivial⟩, forall_nil, ⟨dT _, ⟨trivial, trivial, dT _, trivial⟩, trivial, trivial⟩, forall_nil⟩
theorem l222L17358 : ∀ qq : Nat, (∀ (p0 : Tm) (v5 : Int) (vb2_0 : Int) (vb2_1 : Int) (vb2_2 : List Tm) (r : List Tm × Tm × Int), e222L17358 qq p0 v5 vb2_0 vb2_1 vb2_2 = some r → (∀ j, Dl Tryz.prog 0 (inn (inn (rgt (lft (rgt (rgt (bod Tryz.f222))))))) (g222L17358E0 j p0 v5 vb2_0 vb2_1 vb2_2) (g222L17358S0 p0 v5 vb2_0 vb2_1 vb2_2) (frameQ Tryz.prog 0 (FinQ Tryz.prog 0 Tryz.f222 (.tup [.sl (flat tmCells r.1) (List.length r.1) .no, tmA r.2.1, ai r.2.2]) [] 0) [.blk 0, .seq (rgt (rgt (rgt (bod Tryz.f222))))]))) := by
  intro qq
  induction qq with
  | zero =>
    exact fun _ _ _ _ _ _ h => nn h
  | succ qq ih =>
    intro p0 v5 vb2_0 vb2_1 vb2_2 r h
    rw [e222L17358] at h
    rcases spl h with ⟨h1, h⟩ | ⟨h1, h⟩
    · have k := oB 1 h1 o0
      rcases spl h with ⟨h2, h⟩ | ⟨h2, h⟩
      · have k := oB 2 h2 k
        rcases spl h with ⟨h3, h⟩ | ⟨h3, h⟩
        · obtain ⟨x4, h5, h⟩ := obind h
          exact fun j => lH 2 [] [0, 1, 3] [] [1, 3, 5, 6] (oD (dT x4.sub) <| oD (dT ([] : List Tm)) <| oD (dT p0.sub) <| oA 4 (ix23 (o := .no) h5) <| oB 0 h3 k) (ih _ _ _ _ _ _ h) (fun j => by kernel_rfl)
        · obtain ⟨r6, h7, h⟩ := obind h
          obtain rfl := sj h
          exact fun j => lF 4 [] (oD (dT r6.2.1.sub) <| oD (dT r6.1) <| oC 1 [] (c203 h7) <| oB 0 h3 k) (by kernel_rfl)
      · obtain ⟨r8, h9, h⟩ := obind h
        obtain rfl := sj h
        exact fun j => lF 4 [] (oD (dT r8.2.1.sub) <| oD (dT r8.1) <| oC 1 [] (c203 h9) <| oB 2 h2 k) (by kernel_rfl)
    · obtain ⟨r10, h11, h⟩ := obind h
      obtain rfl := sj h
      exact fun j => lF 4 [] (oD (dT r10.2.1.sub) <| oD (dT r10.1) <| oC 1 [] (c203 h11) <| oB 1 h1 o0) (by kernel_rfl)
theorem c222 {qq : Nat} {p0 : Tm} {r : List Tm × Tm × Int} (h : e222 qq p0 = some r) : CT Tryz.prog 222 [] [tmA p0] (.tup [.sl (flat tmCells r.1) (List.length r.1) .no, tmA r.2.1, ai r.2.2]) [] 0 := by
  unfold e222 at h
  exact k222 (tH q222 2 [] [0, 1, 2] [] [1, 3, 5, 6] (oD (dT p0.sub) <| oD (dT ([] : List Tm)) <| oD (dT p0.sub) o0) (l222L17358 _ _ _ _ _ _ _ h) (fun j => by kernel_rfl))

end Go.Proofs.YteiddempdecleaaGreat

namespace Go.Proofs.YteiddempdecleaaGreat
open Go Go.Ab

/- scholium/sign.applied -/
def e267L55982 : Nat → Int → Int → (Tm × List Tm) → Int →  Option (Bool)
  | 0, _, _, _, _ => none
  | qq + 1, p2, p4, r1, v37 =>
    if decide (v37 < p2) = true then
      (gidx r1.2 v37) >>= fun x7 =>
      if (x7.k != 1) = true then
        some false
      else
        if (x7.n != (w64 ((w64 (p4 - 1)) - v37))) = true then
          some false
        else
          e267L55982 qq p2 p4 r1 (w64 (v37 + 1))
    else
      some true
def e267 (qq : Nat) (p0 : Tm) (p1 : Int) (p2 : Int) (p3 : Int) (p4 : Int) : Option (Bool) :=
  (e158 qq p0) >>= fun r1 =>
  if (r1.1.k != 6) = true then
    some false
  else
    if (r1.1.n != p1) = true then
      some false
    else
      if ((List.length r1.2 : Int) != (w64 (p2 + p3))) = true then
        some false
      else
        e267L55982 qq p2 p4 r1 0
def g267L55982E0 (j : Nat → Value) (p2 : Int) (p4 : Int) (r1 : Tm × List Tm) (v37 : Int) : List AV := sp j 59 0 [(4, ai p4), (12, .sl (flat tmCells r1.2) (List.length r1.2) .no), (36, ai p2), (37, ai v37)]
def g267L55982S0 (p2 : Int) (p4 : Int) (r1 : Tm × List Tm) (v37 : Int) : LSt := ⟨[], 0, [], 0, []⟩
theorem q267 : Tryz.prog.funcs[267]? = some Tryz.f267 ∧ Tryz.f267.body.isNone = false := ⟨Tryz.func267, by kernel_rfl⟩
theorem k267 {p0 : Tm} {p1 : Int} {p2 : Int} {p3 : Int} {p4 : Int} {r : Bool} (h : CTri Tryz.prog 267 [] [tmA p0, ai p1, ai p2, ai p3, ai p4] (ab r) [] 0) : CT Tryz.prog 267 [] [tmA p0, ai p1, ai p2, ai p3, ai p4] (ab r) [] 0 := ⟨h, ⟨⟨trivial, trivial, ⟨trivial, dT _⟩, trivial⟩, trivial, trivial, trivial, trivial, trivial⟩, forall_nil, trivial, forall_nil⟩
theorem l267L55982 : ∀ qq : Nat, (∀ (p2 : Int) (p4 : Int) (r1 : Tm × List Tm) (v37 : Int) (r : Bool), e267L55982 qq p2 p4 r1 v37 = some r → (∀ j, Dl Tryz.prog 0 (inn (inn (rgt (lft (rgt (rgt (rgt (bod Tryz.f267)))))))) (g267L55982E0 j p2 p4 r1 v37) (g267L55982S0 p2 p4 r1 v37) (frameQ Tryz.prog 0 (FinQ Tryz.prog 0 Tryz.f267 (ab r) [] 0) [.blk 0, .seq (rgt (rgt (rgt (rgt (bod Tryz.f267)))))]))) := by
  intro qq
  induction qq with
  | zero =>
    exact fun _ _ _ _ _ h => nn h
  | succ qq ih =>
    intro p2 p4 r1 v37 r h
    rw [e267L55982] at h
    rcases spl h with ⟨h6, h⟩ | ⟨h6, h⟩
    · obtain ⟨x7, h8, h⟩ := obind h
      have k := oA 0 (ix23 (o := .no) h8) <| oB 0 h6 o0
      rcases spl h with ⟨h9, h⟩ | ⟨h9, h⟩
      · obtain rfl := sj h
        exact fun j => lF 0 [] (oB 1 h9 k) (by kernel_rfl)
      · have k := oA 0 (ix23 (o := .no) h8) <| oB 1 h9 k
        rcases spl h with ⟨h10, h⟩ | ⟨h10, h⟩
        · obtain rfl := sj h
          exact fun j => lF 0 [] (oB 3 h10 k) (by kernel_rfl)
        · exact fun j => lH 1 [] [] [] [4, 12, 36, 37] (oD (dT r1.2) <| oB 3 h10 k) (ih _ _ _ _ _ h) (fun j => by kernel_rfl)
    · obtain rfl := sj h
      exact fun j => lF 0 [] (oB 0 h6 o0) (by kernel_rfl)
theorem c267 {qq : Nat} {p0 : Tm} {p1 : Int} {p2 : Int} {p3 : Int} {p4 : Int} {r : Bool} (h : e267 qq p0 p1 p2 p3 p4 = some r) : CT Tryz.prog 267 [] [tmA p0, ai p1, ai p2, ai p3, ai p4] (ab r) [] 0 := by
  unfold e267 at h
  obtain ⟨r1, h2, h⟩ := obind h
  have k := oC 1 [] (c158 h2) o0
  rcases spl h with ⟨h3, h⟩ | ⟨h3, h⟩
  · obtain rfl := sj h
    exact k267 (tF q267 0 [] (oB 4 h3 k) (by kernel_rfl))
  · have k := oB 4 h3 k
    rcases spl h with ⟨h4, h⟩ | ⟨h4, h⟩
    · obtain rfl := sj h
      exact k267 (tF q267 0 [] (oB 1 h4 k) (by kernel_rfl))
    · have k := oB 1 h4 k
      rcases spl h with ⟨h5, h⟩ | ⟨h5, h⟩
      · obtain rfl := sj h
        exact k267 (tF q267 0 [] (oB 2 h5 k) (by kernel_rfl))
      · exact k267 (tH q267 0 [] [] [] [4, 12, 36, 37] (oD (dT r1.2) <| oB 2 h5 k) (l267L55982 _ _ _ _ _ _ h) (fun j => by kernel_rfl))

end Go.Proofs.YteiddempdecleaaGreat

namespace Go.Proofs.YteiddempdecleaaGreat
open Go Go.Ab

/-- so many outermost types, and what stands beneath -/
def splT : Nat → Tm → Option (List Tm × Tm)
  | 0, t => some ([], t)
  | n + 1, .mk k _ [a, b] => if k = 3 then (splT n b).map fun r => (a :: r.1, r.2) else none
  | _ + 1, _ => none
theorem splT_pi (n : Nat) (m : Int) (a b : Tm) : splT (n + 1) (.mk 3 m [a, b]) = (splT n b).map fun r => (a :: r.1, r.2) := by rw [splT, if_pos rfl]
theorem splT_not {n : Nat} {t : Tm} (h : t.k ≠ 3) : splT (n + 1) t = none := by
  unfold splT
  split
  · rename_i h1; cases h1
  · rename_i h1; exact if_neg h
  · rfl
/-- what a term of kind 3 is -/
theorem pi_form {t : Tm} (hg : goodT t = true) (h : t.k = 3) : ∃ a b, t = .mk 3 t.n [a, b] ∧ goodT a = true ∧ goodT b = true := by
  obtain ⟨k, n, l⟩ := t
  have hh := goodT_mk hg
  have hs := head_spec hh.1
  replace h : k = 3 := h
  subst h
  obtain ⟨a, b, rfl⟩ := sub2 (hs.2.2.2.2.2.1 (.inl rfl)).1
  have hc := goodL_cons hh.2
  exact ⟨a, b, rfl, hc.1, (goodL_cons hc.2).1⟩
def splR (acc : List Tm) : Option (List Tm × Tm) → List Tm × Tm × Int
  | none => ([], zT, 6)
  | some r => (acc ++ r.1, r.2, 0)
theorem ev_SplitL (N : Nat) (hN : N ≤ 24) : ∀ (m v : Nat) (acc : List Tm) (x : Tm), v + m = N → goodT x = true → acc.length ≤ v → Evt (fun q => e203L29861 q (N : Int) (v : Int) acc x.k x.n x.sub) (splR acc (splT m x)) := by
  intro m
  induction m with
  | zero =>
    intro v acc x hm hg ha
    refine Evt.succ ?_
    simp only [e203L29861]
    refine Evt.ifF (decide_eq_false (by omega)) (Evt.ret.eq ?_)
    rw [splT, splR, tm_eta]; simp
  | succ m ih =>
    intro v acc x hm hg ha
    refine Evt.succ ?_
    simp only [e203L29861]
    refine Evt.ifT (decide_eq_true (by omega)) ?_
    by_cases h : x.k = 3
    · obtain ⟨a, b, hx, hga, hgb⟩ := pi_form hg h
      refine Evt.ifF (by simp [h]) ?_
      rw [hx, splT_pi]
      refine Evt.pure (a := a) rfl (Evt.pure (gapp_ok (by simp <;> omega)) (Evt.pure (a := b) rfl ?_))
      rw [w64_nat v (by omega)]
      refine (ih (v + 1) (acc ++ [a]) b (by omega) hgb (by simp <;> omega)).eq ?_
      cases splT m b <;> simp [splR]
    · rw [splT_not h, splR]
      exact Evt.ifT (by simp [h]) Evt.ret
/-- tele.Split -/
def splitT (t : Tm) (n : Int) : List Tm × Tm × Int :=
  if shapedT t = true then (if n < 0 then ([], zT, 5) else if n > 24 then ([], zT, 2) else splR [] (splT n.toNat t)) else ([], zT, 5)
theorem ev_Split (t : Tm) (n : Int) (ho : t.Ok) : Evt (fun q => e203 q t n) (splitT t n) := by
  simp only [e203]
  refine (ev_Shaped t ho).bind ?_
  unfold splitT
  by_cases h : shapedT t = true
  · rw [if_pos h]
    refine Evt.ifT h ?_
    by_cases h1 : n < 0
    · rw [if_pos h1]; exact Evt.ifT (decide_eq_true h1) Evt.ret
    · rw [if_neg h1]
      refine Evt.ifF (decide_eq_false h1) ?_
      by_cases h2 : n > 24
      · rw [if_pos h2]; exact Evt.ifT (decide_eq_true h2) Evt.ret
      · rw [if_neg h2]
        refine Evt.ifF (decide_eq_false h2) ((ev_Copy t ho).bind ?_)
        unfold copT
        rw [if_pos h]
        have := ev_SplitL n.toNat (by omega) n.toNat 0 [] t (by omega) (shapedT_spec h).2.2 (by simp)
        rw [show ((n.toNat : Nat) : Int) = n by omega] at this
        exact this
  · rw [if_neg h]; exact Evt.ifF (by simpa using h) Evt.ret

/-- how many outermost types -/
def pisT : Tm → Nat
  | .mk k _ [_, b] => if k = 3 then pisT b + 1 else 0
  | _ => 0
theorem pisT_pi (m : Int) (a b : Tm) : pisT (.mk 3 m [a, b]) = pisT b + 1 := by rw [pisT, if_pos rfl]
theorem pisT_k {t : Tm} (h : t.k ≠ 3) : pisT t = 0 := by
  unfold pisT
  split
  · exact if_neg h
  · rfl
theorem pisT_len {t : Tm} (h : t.sub.length ≠ 2) : pisT t = 0 := by
  unfold pisT
  split
  · exact absurd rfl h
  · rfl
/-- tele.Whole -/
def wholeT (t : Tm) : List Tm × Tm × Int := splitT t ((min (pisT t) 25 : Nat) : Int)
theorem ev_WholeL (p : Tm) (ho : p.Ok) : ∀ (m v : Nat) (x : Tm), v + m = 25 → Evt (fun q => e222L17358 q p (v : Int) x.k x.n x.sub) (splitT p ((min (v + pisT x) 25 : Nat) : Int)) := by
  intro m
  induction m with
  | zero =>
    intro v x hm
    refine Evt.succ ?_
    simp only [e222L17358]
    have hv : v = 25 := by omega
    subst hv
    have hsp : Evt (fun q => e203 q p ((25 : Nat) : Int) >>= fun r6 => some (r6.1, r6.2.1, r6.2.2)) (splitT p ((min (25 + pisT x) 25 : Nat) : Int)) :=
      ((ev_Split p _ ho).bind Evt.ret).eq (by rw [show min (25 + pisT x) 25 = 25 by omega])
    exact Evt.iff (fun _ => Evt.iff (fun _ => Evt.ifF rfl hsp) fun _ => hsp) fun _ => hsp
  | succ m ih =>
    intro v x hm
    refine Evt.succ ?_
    simp only [e222L17358]
    have hsp : pisT x = 0 → Evt (fun q => e203 q p (v : Int) >>= fun r6 => some (r6.1, r6.2.1, r6.2.2)) (splitT p ((min (v + pisT x) 25 : Nat) : Int)) := fun h =>
      ((ev_Split p _ ho).bind Evt.ret).eq (by rw [h, show min (v + 0) 25 = v by omega])
    by_cases h3 : x.k = 3
    · refine Evt.ifT (by simp [h3]) ?_
      by_cases h2 : x.sub.length = 2
      · refine Evt.ifT (by simp [h2]) (Evt.ifT (decide_eq_true (by omega)) ?_)
        obtain ⟨k, n, l⟩ := x
        replace h3 : k = 3 := h3
        subst h3
        obtain ⟨a, b, rfl⟩ := sub2 h2
        refine Evt.pure (a := b) rfl ?_
        rw [w64_nat v (by omega), pisT_pi]
        exact (ih (v + 1) b (by omega)).eq (by rw [show v + 1 + pisT b = v + (pisT b + 1) by omega])
      · exact Evt.ifF (by simp <;> omega) (hsp (pisT_len h2))
    · exact Evt.ifF (by simp [h3]) (hsp (pisT_k h3))
theorem ev_Whole (t : Tm) (ho : t.Ok) : Evt (fun q => e222 q t) (wholeT t) := by
  simp only [e222]
  exact (ev_WholeL t ho 25 0 t rfl).eq (by unfold wholeT; simp)

/-- what comes of a telescope: types, and a rest, no greater -/
theorem splT_spec : ∀ (n : Nat) (t : Tm) (r : List Tm × Tm), goodT t = true → splT n t = some r → r.1.length = n ∧ pisT t = n + pisT r.2 ∧ (goodT r.2 = true ∧ r.2.nodes ≤ t.nodes ∧ r.2.high ≤ t.high) ∧ ∀ x ∈ r.1, goodT x = true ∧ x.nodes ≤ t.nodes ∧ x.high ≤ t.high
  | 0, t, r, hg, h => by
    rw [splT] at h; cases h
    exact ⟨rfl, by simp, ⟨hg, Nat.le_refl _, Nat.le_refl _⟩, fun x hx => by cases hx⟩
  | n + 1, t, r, hg, h => by
    by_cases h3 : t.k = 3
    · obtain ⟨a, b, hx, hga, hgb⟩ := pi_form hg h3
      rw [hx] at h ⊢
      rw [splT_pi] at h
      obtain ⟨r', h1, rfl⟩ := Option.map_eq_some_iff.1 h
      have ih := splT_spec n b r' hgb h1
      rw [pisT_pi]
      simp only [Tm.nodes, nodesL, Tm.high, highL]
      refine ⟨by simp [ih.1], by omega, ⟨ih.2.2.1.1, by omega, by omega⟩, fun x hx => ?_⟩
      rcases List.mem_cons.1 hx with rfl | hx
      · exact ⟨hga, by omega, by omega⟩
      · have := ih.2.2.2 x hx; exact ⟨this.1, by omega, by omega⟩
    · rw [splT_not h3] at h; cases h
theorem splT_all : ∀ t : Tm, goodT t = true → ∀ n ≤ pisT t, ∃ r, splT n t = some r := by
  intro t hg n
  induction n generalizing t with
  | zero => intro _; exact ⟨_, rfl⟩
  | succ n ih =>
    intro h
    by_cases h3 : t.k = 3
    · obtain ⟨a, b, hx, hga, hgb⟩ := pi_form hg h3
      rw [hx, pisT_pi] at h
      obtain ⟨r, hr⟩ := ih b hgb (by omega)
      exact ⟨_, by rw [hx, splT_pi, hr]; rfl⟩
    · rw [pisT_k h3] at h; omega
/-- a telescope taken apart without error -/
theorem splitT_ok {t : Tm} {n : Int} {l : List Tm} {y : Tm} (h : splitT t n = (l, y, 0)) : shapedT t = true ∧ 0 ≤ n ∧ n ≤ 24 ∧ (l.length : Int) = n ∧ pisT t = l.length + pisT y ∧ shapedT y = true ∧ ∀ x ∈ l, shapedT x = true := by
  unfold splitT at h
  split at h
  · rename_i hs
    split at h
    · simp at h
    · split at h
      · simp at h
      · cases hr : splT n.toNat t with
        | none => rw [hr] at h; simp [splR] at h
        | some r =>
          rw [hr] at h
          simp only [splR, List.nil_append, Prod.mk.injEq, and_true] at h
          obtain ⟨rfl, rfl⟩ := h
          have hsp := shapedT_spec hs
          have := splT_spec _ _ _ hsp.2.2 hr
          refine ⟨hs, by omega, by omega, by omega, by omega, shapedT_of (by omega) (by omega) this.2.2.1.1, fun x hx => ?_⟩
          have hx := this.2.2.2 x hx
          exact shapedT_of (by omega) (by omega) hx.1
  · simp at h
theorem wholeT_ok {t : Tm} {l : List Tm} {y : Tm} (h : wholeT t = (l, y, 0)) : shapedT t = true ∧ l.length = pisT t ∧ l.length ≤ 24 ∧ pisT y = 0 ∧ shapedT y = true ∧ ∀ x ∈ l, shapedT x = true := by
  have := splitT_ok h
  refine ⟨this.1, by omega, by omega, by omega, this.2.2.2.2.2.1, this.2.2.2.2.2.2⟩

/- families applied -/
/-- variables, one below the other -/
def varsD : List Tm → Int → Bool
  | [], _ => true
  | a :: l, n => a.k == 1 && a.n == n && varsD l (n - 1)
/-- is a term a family with its first variables, and so many arguments more? -/
def appliedT (t : Tm) (of pars more binders : Int) : Bool :=
  (hdT t).k == 6 && (hdT t).n == of && ((arT t).length : Int) == pars + more && varsD ((arT t).take pars.toNat) (binders - 1)
theorem ev_appliedL (p : Tm × List Tm) (P : Nat) (binders : Int) (hP : P ≤ p.2.length) (hl : p.2.length ≤ 8192) (hb : -1152921504606846976 ≤ binders ∧ binders ≤ 1152921504606846976) : ∀ (m v : Nat), v + m = P →
    Evt (fun q => e267L55982 q (P : Int) binders p (v : Int)) (varsD ((p.2.take P).drop v) (binders - 1 - v)) := by
  intro m
  induction m with
  | zero =>
    intro v hm
    refine Evt.succ ?_
    simp only [e267L55982]
    refine Evt.ifF (decide_eq_false (by omega)) (Evt.ret.eq ?_)
    rw [List.drop_eq_nil_of_le (by simp <;> omega), varsD]
  | succ m ih =>
    intro v hm
    refine Evt.succ ?_
    simp only [e267L55982]
    have hv : v < (p.2.take P).length := by simp <;> omega
    have hd := List.drop_eq_getElem_cons hv
    have hg : gidx p.2 (v : Int) = some (p.2.take P)[v] := by
      unfold gidx
      rw [if_pos (by omega), show (v : Int).toNat = v by omega, List.getElem?_eq_getElem (by omega)]
      simp
    generalize (p.2.take P)[v] = x at hd hg
    refine Evt.ifT (decide_eq_true (by omega)) (Evt.pure hg ?_)
    rw [hd, varsD, w64_id (x := binders - 1) (by omega) (by omega), w64_id (x := binders - 1 - v) (by omega) (by omega)]
    by_cases h1 : x.k = 1
    · refine Evt.ifF (by simp [h1]) ?_
      by_cases h2 : x.n = binders - 1 - v
      · refine Evt.ifF (by simp [h2]) ?_
        rw [w64_nat v (by omega)]
        refine (ih (v + 1) (by omega)).eq ?_
        rw [show binders - 1 - ((v + 1 : Nat) : Int) = binders - 1 - v - 1 by omega]
        simp [h1, h2]
      · exact Evt.ifT (by simp [h2]) (Evt.ret.eq (by simp [h2]))
    · exact Evt.ifT (by simp [h1]) (Evt.ret.eq (by simp [h1]))
theorem ev_applied (t : Tm) (of pars more binders : Int) (hs : shapedT t = true) (h0 : 0 ≤ pars ∧ pars ≤ 1152921504606846976) (h1 : 0 ≤ more ∧ more ≤ 1152921504606846976) (hb : -1152921504606846976 ≤ binders ∧ binders ≤ 1152921504606846976) :
    Evt (fun q => e267 q t of pars more binders) (appliedT t of pars more binders) := by
  simp only [e267]
  refine (ev_Spine t hs).bind ?_
  unfold appliedT
  by_cases h2 : (hdT t).k = 6
  · refine Evt.ifF (by simp [h2]) ?_
    by_cases h3 : (hdT t).n = of
    · refine Evt.ifF (by simp [h3]) ?_
      rw [w64_id (x := pars + more) (by omega) (by omega)]
      by_cases h4 : ((arT t).length : Int) = pars + more
      · refine Evt.ifF (by simp [h4]) ?_
        have hl := ar_len t (shapedT_spec hs).2.2
        have hn := (shapedT_spec hs).1
        have := ev_appliedL (hdT t, arT t) pars.toNat binders (by show _ ≤ (arT t).length; omega) (by show (arT t).length ≤ _; omega) hb pars.toNat 0 (by omega)
        rw [show ((pars.toNat : Nat) : Int) = pars by omega] at this
        exact this.eq (by simp [h2, h3, h4])
      · exact Evt.ifT (by simp [h4]) (Evt.ret.eq (by simp [h4]))
    · exact Evt.ifT (by simp [h3]) (Evt.ret.eq (by simp [h3]))
  · exact Evt.ifT (by simp [h2]) (Evt.ret.eq (by simp [h2]))
end Go.Proofs.YteiddempdecleaaGreat

namespace Go.Proofs.YteiddempdecleaaGreat
open Go Go.Ab

/- scholium/name.Distinct -/
def e153L46510 : Nat → (List ByteArray) → Int → (List (ByteArray × Int)) →  Option (Bool)
  | 0, _, _, _ => none
  | qq + 1, p0, v9, vb0_0 =>
    if decide (v9 < (List.length p0 : Int)) = true then
      (gidx p0 v9) >>= fun x2 =>
      if decide ((mget vb0_0 x2) > 0) = true then
        some false
      else
        e153L46510 qq p0 (w64 (v9 + 1)) (mset vb0_0 x2 (w64 ((mget vb0_0 x2) + 1)))
    else
      some true
def e153 (qq : Nat) (p0 : List ByteArray) : Option (Bool) :=
  e153L46510 qq p0 0 ([] : List (ByteArray × Int))
def g153L46510E0 (j : Nat → Value) (p0 : List ByteArray) (v9 : Int) (vb0_0 : List (ByteArray × Int)) : List AV := sp j 22 0 [(3, .obj 0), (7, .sl (flat strC p0) (List.length p0) .no), (8, ai (List.length p0 : Int)), (9, ai v9)]
def g153L46510S0 (p0 : List ByteArray) (v9 : Int) (vb0_0 : List (ByteArray × Int)) : LSt := ⟨[(0, smap vb0_0)], 1, [], 0, []⟩
theorem q153 : Tryz.prog.funcs[153]? = some Tryz.f153 ∧ Tryz.f153.body.isNone = false := ⟨Tryz.func153, by kernel_rfl⟩
theorem k153 {p0 : List ByteArray} {r : Bool} (h : CTri Tryz.prog 153 [] [.sl (flat strC p0) (List.length p0) .no] (ab r) [] 0) : CT Tryz.prog 153 [] [.sl (flat strC p0) (List.length p0) .no] (ab r) [] 0 := ⟨h, ⟨⟨trivial, dS _⟩, trivial⟩, forall_nil, trivial, forall_nil⟩
theorem l153L46510 : ∀ qq : Nat, (∀ (p0 : List ByteArray) (v9 : Int) (vb0_0 : List (ByteArray × Int)) (r : Bool), e153L46510 qq p0 v9 vb0_0 = some r → (∀ j, Dl Tryz.prog 0 (inn (inn (rgt (lft (rgt (rgt (bod Tryz.f153))))))) (g153L46510E0 j p0 v9 vb0_0) (g153L46510S0 p0 v9 vb0_0) (frameQ Tryz.prog 0 (FinQ Tryz.prog 0 Tryz.f153 (ab r) [] 0) [.blk 0, .seq (rgt (rgt (rgt (bod Tryz.f153))))]))) := by
  intro qq
  induction qq with
  | zero =>
    exact fun _ _ _ _ h => nn h
  | succ qq ih =>
    intro p0 v9 vb0_0 r h
    rw [e153L46510] at h
    rcases spl h with ⟨h1, h⟩ | ⟨h1, h⟩
    · obtain ⟨x2, h3, h⟩ := obind h
      have k := oL 1 (lk285 vb0_0 x2) <| oA 0 (ix116 (o := .no) h3) <| oB 0 h1 o0
      rcases spl h with ⟨h4, h⟩ | ⟨h4, h⟩
      · obtain rfl := sj h
        exact fun j => lF 0 [] (oB 0 h4 k) (by kernel_rfl)
      · exact fun j => lH 1 [] [0] [] [3, 7, 8, 9] (oD (dS p0) <| oU 1 (mu285 vb0_0 x2 (w64 ((mget vb0_0 x2) + 1))) <| oL 0 (lk285 vb0_0 x2) <| oB 0 h4 k) (ih _ _ _ _ h) (fun j => by kernel_rfl)
    · obtain rfl := sj h
      exact fun j => lF 0 [] (oB 0 h1 o0) (by kernel_rfl)
theorem c153 {qq : Nat} {p0 : List ByteArray} {r : Bool} (h : e153 qq p0 = some r) : CT Tryz.prog 153 [] [.sl (flat strC p0) (List.length p0) .no] (ab r) [] 0 := by
  unfold e153 at h
  exact k153 (tH q153 1 [] [0] [] [3, 7, 8, 9] (oD (dS p0) o0) (l153L46510 _ _ _ _ _ h) (fun j => by kernel_rfl))

end Go.Proofs.YteiddempdecleaaGreat

namespace Go.Proofs.YteiddempdecleaaGreat
open Go Go.Ab

/- scholium/utf.Right -/
def e293 (qq : Nat) (p0 : Int) : Option (Bool) :=
  if decide (p0 ≥ 0) = true then
    if decide (p0 ≤ 1114111) = true then
      if decide (p0 < 55296) = true then
        some true
      else
        some (decide (p0 > 57343))
    else
      some false
  else
    some false
theorem q293 : Tryz.prog.funcs[293]? = some Tryz.f293 ∧ Tryz.f293.body.isNone = false := ⟨Tryz.func293, by kernel_rfl⟩
theorem k293 {p0 : Int} {r : Bool} (h : CTri Tryz.prog 293 [] [ai p0] (ab r) [] 0) : CT Tryz.prog 293 [] [ai p0] (ab r) [] 0 := ⟨h, ⟨trivial, trivial⟩, forall_nil, trivial, forall_nil⟩
theorem c293 {qq : Nat} {p0 : Int} {r : Bool} (h : e293 qq p0 = some r) : CT Tryz.prog 293 [] [ai p0] (ab r) [] 0 := by
  unfold e293 at h
  rcases spl h with ⟨h1, h⟩ | ⟨h1, h⟩
  · have k := oB 0 h1 o0
    rcases spl h with ⟨h2, h⟩ | ⟨h2, h⟩
    · have k := oB 0 h2 k
      rcases spl h with ⟨h3, h⟩ | ⟨h3, h⟩
      · obtain rfl := sj h
        exact k293 (tF q293 0 [] (oB 0 h3 k) (by kernel_rfl))
      · obtain rfl := sj h
        exact k293 (tF q293 1 [] (oB 0 h3 k) (by kernel_rfl))
    · obtain rfl := sj h
      exact k293 (tF q293 0 [] (oB 0 h2 k) (by kernel_rfl))
  · obtain rfl := sj h
    exact k293 (tF q293 0 [] (oB 0 h1 o0) (by kernel_rfl))

end Go.Proofs.YteiddempdecleaaGreat

namespace Go.Proofs.YteiddempdecleaaGreat
open Go Go.Ab

/- scholium/utf.lead -/
def e314 (qq : Nat) (p0 : U8) : Option (Int × Int) :=
  if decide (p0 < 128) = true then
    some (1, (w64 (p0)))
  else
    if decide (p0 ≥ 192) = true then
      if decide (p0 < 224) = true then
        some (2, (w64 ((IntKind.u8.wrap ((BitVec.ofInt (IntKind.bits .u8) p0 &&& BitVec.ofInt (IntKind.bits .u8) 31).toNat : Nat)))))
      else
        if decide (p0 ≥ 224) = true then
          if decide (p0 < 240) = true then
            some (3, (w64 ((IntKind.u8.wrap ((BitVec.ofInt (IntKind.bits .u8) p0 &&& BitVec.ofInt (IntKind.bits .u8) 15).toNat : Nat)))))
          else
            if decide (p0 ≥ 240) = true then
              if decide (p0 < 248) = true then
                some (4, (w64 ((IntKind.u8.wrap ((BitVec.ofInt (IntKind.bits .u8) p0 &&& BitVec.ofInt (IntKind.bits .u8) 7).toNat : Nat)))))
              else
                some (0, 0)
            else
              some (0, 0)
        else
          if decide (p0 ≥ 240) = true then
            if decide (p0 < 248) = true then
              some (4, (w64 ((IntKind.u8.wrap ((BitVec.ofInt (IntKind.bits .u8) p0 &&& BitVec.ofInt (IntKind.bits .u8) 7).toNat : Nat)))))
            else
              some (0, 0)
          else
            some (0, 0)
    else
      if decide (p0 ≥ 224) = true then
        if decide (p0 < 240) = true then
          some (3, (w64 ((IntKind.u8.wrap ((BitVec.ofInt (IntKind.bits .u8) p0 &&& BitVec.ofInt (IntKind.bits .u8) 15).toNat : Nat)))))
        else
          if decide (p0 ≥ 240) = true then
            if decide (p0 < 248) = true then
              some (4, (w64 ((IntKind.u8.wrap ((BitVec.ofInt (IntKind.bits .u8) p0 &&& BitVec.ofInt (IntKind.bits .u8) 7).toNat : Nat)))))
            else
              some (0, 0)
          else
            some (0, 0)
      else
        if decide (p0 ≥ 240) = true then
          if decide (p0 < 248) = true then
            some (4, (w64 ((IntKind.u8.wrap ((BitVec.ofInt (IntKind.bits .u8) p0 &&& BitVec.ofInt (IntKind.bits .u8) 7).toNat : Nat)))))
          else
            some (0, 0)
        else
          some (0, 0)
theorem q314 : Tryz.prog.funcs[314]? = some Tryz.f314 ∧ Tryz.f314.body.isNone = false := ⟨Tryz.func314, by kernel_rfl⟩
theorem k314 {p0 : U8} {r : Int × Int} (h : CTri Tryz.prog 314 [] [.val (.int .u8 p0)] (.tup [ai r.1, ai r.2]) [] 0) : CT Tryz.prog 314 [] [.val (.int .u8 p0)] (.tup [ai r.1, ai r.2]) [] 0 := ⟨h, ⟨trivial, trivial⟩, forall_nil, ⟨trivial, trivial, trivial⟩, forall_nil⟩
theorem c314 {qq : Nat} {p0 : U8} {r : Int × Int} (h : e314 qq p0 = some r) : CT Tryz.prog 314 [] [.val (.int .u8 p0)] (.tup [ai r.1, ai r.2]) [] 0 := by
  unfold e314 at h
  rcases spl h with ⟨h1, h⟩ | ⟨h1, h⟩
  · obtain rfl := sj h
    exact k314 (tF q314 1 [] (oB 0 h1 o0) (by kernel_rfl))
  · have k := oB 0 h1 o0
    rcases spl h with ⟨h2, h⟩ | ⟨h2, h⟩
    · have k := oB 0 h2 k
      rcases spl h with ⟨h3, h⟩ | ⟨h3, h⟩
      · obtain rfl := sj h
        exact k314 (tF q314 2 [] (oB 0 h3 k) (by kernel_rfl))
      · have k := oB 0 h3 k
        rcases spl h with ⟨h4, h⟩ | ⟨h4, h⟩
        · have k := oB 0 h4 k
          rcases spl h with ⟨h5, h⟩ | ⟨h5, h⟩
          · obtain rfl := sj h
            exact k314 (tF q314 2 [] (oB 0 h5 k) (by kernel_rfl))
          · have k := oB 0 h5 k
            rcases spl h with ⟨h6, h⟩ | ⟨h6, h⟩
            · have k := oB 0 h6 k
              rcases spl h with ⟨h7, h⟩ | ⟨h7, h⟩
              · obtain rfl := sj h
                exact k314 (tF q314 2 [] (oB 0 h7 k) (by kernel_rfl))
              · obtain rfl := sj h
                exact k314 (tF q314 0 [] (oB 0 h7 k) (by kernel_rfl))
            · obtain rfl := sj h
              exact k314 (tF q314 0 [] (oB 0 h6 k) (by kernel_rfl))
        · have k := oB 0 h4 k
          rcases spl h with ⟨h8, h⟩ | ⟨h8, h⟩
          · have k := oB 0 h8 k
            rcases spl h with ⟨h9, h⟩ | ⟨h9, h⟩
            · obtain rfl := sj h
              exact k314 (tF q314 2 [] (oB 0 h9 k) (by kernel_rfl))
            · obtain rfl := sj h
              exact k314 (tF q314 0 [] (oB 0 h9 k) (by kernel_rfl))
          · obtain rfl := sj h
            exact k314 (tF q314 0 [] (oB 0 h8 k) (by kernel_rfl))
    · have k := oB 0 h2 k
      rcases spl h with ⟨h10, h⟩ | ⟨h10, h⟩
      · have k := oB 0 h10 k
        rcases spl h with ⟨h11, h⟩ | ⟨h11, h⟩
        · obtain rfl := sj h
          exact k314 (tF q314 2 [] (oB 0 h11 k) (by kernel_rfl))
        · have k := oB 0 h11 k
          rcases spl h with ⟨h12, h⟩ | ⟨h12, h⟩
          · have k := oB 0 h12 k
            rcases spl h with ⟨h13, h⟩ | ⟨h13, h⟩
            · obtain rfl := sj h
              exact k314 (tF q314 2 [] (oB 0 h13 k) (by kernel_rfl))
            · obtain rfl := sj h
              exact k314 (tF q314 0 [] (oB 0 h13 k) (by kernel_rfl))
          · obtain rfl := sj h
            exact k314 (tF q314 0 [] (oB 0 h12 k) (by kernel_rfl))
      · have k := oB 0 h10 k
        rcases spl h with ⟨h14, h⟩ | ⟨h14, h⟩
        · have k := oB 0 h14 k
          rcases spl h with ⟨h15, h⟩ | ⟨h15, h⟩
          · obtain rfl := sj h
            exact k314 (tF q314 2 [] (oB 0 h15 k) (by kernel_rfl))
          · obtain rfl := sj h
            exact k314 (tF q314 0 [] (oB 0 h15 k) (by kernel_rfl))
        · obtain rfl := sj h
          exact k314 (tF q314 0 [] (oB 0 h14 k) (by kernel_rfl))

end Go.Proofs.YteiddempdecleaaGreat

namespace Go.Proofs.YteiddempdecleaaGreat
open Go Go.Ab

/- scholium/utf.width -/
def e315 (qq : Nat) (p0 : Int) : Option (Int) :=
  if decide (p0 ≥ 65536) = true then
    some 4
  else
    if decide (p0 ≥ 2048) = true then
      some 3
    else
      if decide (p0 ≥ 128) = true then
        some 2
      else
        some 1
theorem q315 : Tryz.prog.funcs[315]? = some Tryz.f315 ∧ Tryz.f315.body.isNone = false := ⟨Tryz.func315, by kernel_rfl⟩
theorem k315 {p0 : Int} {r : Int} (h : CTri Tryz.prog 315 [] [ai p0] (ai r) [] 0) : CT Tryz.prog 315 [] [ai p0] (ai r) [] 0 := ⟨h, ⟨trivial, trivial⟩, forall_nil, trivial, forall_nil⟩
theorem c315 {qq : Nat} {p0 : Int} {r : Int} (h : e315 qq p0 = some r) : CT Tryz.prog 315 [] [ai p0] (ai r) [] 0 := by
  unfold e315 at h
  rcases spl h with ⟨h1, h⟩ | ⟨h1, h⟩
  · obtain rfl := sj h
    exact k315 (tF q315 3 [] (oB 0 h1 o0) (by kernel_rfl))
  · have k := oB 0 h1 o0
    rcases spl h with ⟨h2, h⟩ | ⟨h2, h⟩
    · obtain rfl := sj h
      exact k315 (tF q315 2 [] (oB 0 h2 k) (by kernel_rfl))
    · have k := oB 0 h2 k
      rcases spl h with ⟨h3, h⟩ | ⟨h3, h⟩
      · obtain rfl := sj h
        exact k315 (tF q315 1 [] (oB 0 h3 k) (by kernel_rfl))
      · obtain rfl := sj h
        exact k315 (tF q315 0 [] (oB 0 h3 k) (by kernel_rfl))

end Go.Proofs.YteiddempdecleaaGreat

namespace Go.Proofs.YteiddempdecleaaGreat
open Go Go.Ab

/- scholium/utf.Next -/
def e291L21199 : Nat → ByteArray → Int → (Int × Int) → Int → Int →  Option (Int × Int × Int)
  | 0, _, _, _, _, _ => none
  | qq + 1, p0, p1, r5, v8, v9 =>
    if decide (v9 < r5.1) = true then
      (gbyte p0 (w64 (p1 + v9))) >>= fun x10 =>
      if ((IntKind.u8.wrap ((BitVec.ofInt (IntKind.bits .u8) x10 &&& BitVec.ofInt (IntKind.bits .u8) 192).toNat : Nat)) != 128) = true then
        some (0, 0, 1)
      else
        e291L21199 qq p0 p1 r5 (IntKind.i64.wrap ((BitVec.ofInt (IntKind.bits .i64) (w64 (v8 * 2 ^ (min (Int.toNat 6) (IntKind.bits .i64)))) ||| BitVec.ofInt (IntKind.bits .i64) (w64 ((IntKind.u8.wrap ((BitVec.ofInt (IntKind.bits .u8) x10 &&& BitVec.ofInt (IntKind.bits .u8) 63).toNat : Nat))))).toNat : Nat)) (w64 (v9 + 1))
    else
      (e293 qq v8) >>= fun r13 =>
      if r13 = true then
        (e315 qq v8) >>= fun r16 =>
        if (r16 != r5.1) = true then
          some (0, 0, 1)
        else
          some (v8, r5.1, 0)
      else
        some (0, 0, 1)
def e291 (qq : Nat) (p0 : ByteArray) (p1 : Int) : Option (Int × Int × Int) :=
  if decide (p1 < 0) = true then
    some (0, 0, 1)
  else
    if decide (p1 ≥ (p0.size : Int)) = true then
      some (0, 0, 1)
    else
      (gbyte p0 p1) >>= fun x3 =>
      (e314 qq x3) >>= fun r5 =>
      if (r5.1 == 0) = true then
        some (0, 0, 1)
      else
        if decide (r5.1 > (w64 ((p0.size : Int) - p1))) = true then
          some (0, 0, 1)
        else
          e291L21199 qq p0 p1 r5 r5.2 1
def g291L21199E0 (j : Nat → Value) (p0 : ByteArray) (p1 : Int) (r5 : Int × Int) (v8 : Int) (v9 : Int) : List AV := sp j 66 0 [(0, at' p0), (1, ai p1), (7, ai r5.1), (8, ai v8), (9, ai v9)]
def g291L21199S0 (p0 : ByteArray) (p1 : Int) (r5 : Int × Int) (v8 : Int) (v9 : Int) : LSt := ⟨[], 0, [], 0, []⟩
theorem q291 : Tryz.prog.funcs[291]? = some Tryz.f291 ∧ Tryz.f291.body.isNone = false := ⟨Tryz.func291, by kernel_rfl⟩
theorem k291 {p0 : ByteArray} {p1 : Int} {r : Int × Int × Int} (h : CTri Tryz.prog 291 [] [at' p0, ai p1] (.tup [ai r.1, ai r.2.1, ai r.2.2]) [] 0) : CT Tryz.prog 291 [] [at' p0, ai p1] (.tup [ai r.1, ai r.2.1, ai r.2.2]) [] 0 := ⟨h, ⟨trivial, trivial, trivial⟩, forall_nil, ⟨trivial, trivial, trivial, trivial⟩, forall_nil⟩
theorem l291L21199 : ∀ qq : Nat, (∀ (p0 : ByteArray) (p1 : Int) (r5 : Int × Int) (v8 : Int) (v9 : Int) (r : Int × Int × Int), e291L21199 qq p0 p1 r5 v8 v9 = some r → (∀ j, Dl Tryz.prog 0 (inn (inn (rgt (lft (rgt (rgt (rgt (rgt (bod Tryz.f291))))))))) (g291L21199E0 j p0 p1 r5 v8 v9) (g291L21199S0 p0 p1 r5 v8 v9) (frameQ Tryz.prog 0 (FinQ Tryz.prog 0 Tryz.f291 (.tup [ai r.1, ai r.2.1, ai r.2.2]) [] 0) [.blk 0, .seq (rgt (rgt (rgt (rgt (rgt (bod Tryz.f291))))))]))) := by
  intro qq
  induction qq with
  | zero =>
    exact fun _ _ _ _ _ _ h => nn h
  | succ qq ih =>
    intro p0 p1 r5 v8 v9 r h
    rw [e291L21199] at h
    rcases spl h with ⟨h9, h⟩ | ⟨h9, h⟩
    · obtain ⟨x10, h11, h⟩ := obind h
      have k := oA 1 (ixStr9 h11) <| oB 0 h9 o0
      rcases spl h with ⟨h12, h⟩ | ⟨h12, h⟩
      · obtain rfl := sj h
        exact fun j => lF 0 [] (oB 1 h12 k) (by kernel_rfl)
      · exact fun j => lH 5 [] [] [] [0, 1, 7, 8, 9] (oB 1 h12 k) (ih _ _ _ _ _ _ h) (fun j => by kernel_rfl)
    · obtain ⟨r13, h14, h⟩ := obind h
      have k := oB 0 h9 o0
      rcases spl h with ⟨h15, h⟩ | ⟨h15, h⟩
      · obtain ⟨r16, h17, h⟩ := obind h
        have k := oC 1 [] (c315 h17) <| oK 0 [] h15 (c293 h14) k
        rcases spl h with ⟨h18, h⟩ | ⟨h18, h⟩
        · obtain rfl := sj h
          exact fun j => lF 0 [] (oB 0 h18 k) (by kernel_rfl)
        · obtain rfl := sj h
          exact fun j => lF 0 [] (oB 0 h18 k) (by kernel_rfl)
      · obtain rfl := sj h
        exact fun j => lF 1 [] (oK 0 [] h15 (c293 h14) k) (by kernel_rfl)
theorem c291 {qq : Nat} {p0 : ByteArray} {p1 : Int} {r : Int × Int × Int} (h : e291 qq p0 p1 = some r) : CT Tryz.prog 291 [] [at' p0, ai p1] (.tup [ai r.1, ai r.2.1, ai r.2.2]) [] 0 := by
  unfold e291 at h
  rcases spl h with ⟨h1, h⟩ | ⟨h1, h⟩
  · obtain rfl := sj h
    exact k291 (tF q291 0 [] (oB 0 h1 o0) (by kernel_rfl))
  · have k := oB 0 h1 o0
    rcases spl h with ⟨h2, h⟩ | ⟨h2, h⟩
    · obtain rfl := sj h
      exact k291 (tF q291 0 [] (oB 1 h2 k) (by kernel_rfl))
    · obtain ⟨x3, h4, h⟩ := obind h
      obtain ⟨r5, h6, h⟩ := obind h
      have k := oC 0 [] (c314 h6) <| oA 0 (ixStr9 h4) <| oB 1 h2 k
      rcases spl h with ⟨h7, h⟩ | ⟨h7, h⟩
      · obtain rfl := sj h
        exact k291 (tF q291 0 [] (oB 2 h7 k) (by kernel_rfl))
      · have k := oB 2 h7 k
        rcases spl h with ⟨h8, h⟩ | ⟨h8, h⟩
        · obtain rfl := sj h
          exact k291 (tF q291 0 [] (oB 2 h8 k) (by kernel_rfl))
        · exact k291 (tH q291 0 [] [] [] [0, 1, 7, 8, 9] (oB 2 h8 k) (l291L21199 _ _ _ _ _ _ _ h) (fun j => by kernel_rfl))

end Go.Proofs.YteiddempdecleaaGreat

namespace Go.Proofs.YteiddempdecleaaGreat
open Go Go.Ab

/- scholium/utf.All -/
def e259L17995 : Nat → ByteArray → (List Int) → Int →  Option (List Int × Int × Int)
  | 0, _, _, _ => none
  | qq + 1, p0, v5, v6 =>
    if decide (v6 < (p0.size : Int)) = true then
      (e291 qq p0 v6) >>= fun r3 =>
      if (r3.2.2 != 0) = true then
        some ([], v6, r3.2.2)
      else
        (gapp 8 v5 [r3.1]) >>= fun l6 =>
        e259L17995 qq p0 l6 (w64 (v6 + r3.2.1))
    else
      some (v5, (p0.size : Int), 0)
def e259 (qq : Nat) (p0 : ByteArray) : Option (List Int × Int × Int) :=
  if decide ((p0.size : Int) > 65535) = true then
    some ([], 0, 2)
  else
    e259L17995 qq p0 [] 0
def g259L17995E0 (j : Nat → Value) (p0 : ByteArray) (v5 : List Int) (v6 : Int) : List AV := sp j 38 0 [(0, at' p0), (5, .sl (flat intC v5) (List.length v5) (.st 0 1)), (6, ai v6)]
def g259L17995S0 (p0 : ByteArray) (v5 : List Int) (v6 : Int) : LSt := ⟨[], 0, [0], 1, []⟩
theorem q259 : Tryz.prog.funcs[259]? = some Tryz.f259 ∧ Tryz.f259.body.isNone = false := ⟨Tryz.func259, by kernel_rfl⟩
theorem k259 {p0 : ByteArray} {r : List Int × Int × Int} (h : CTri Tryz.prog 259 [] [at' p0] (.tup [.sl (flat intC r.1) (List.length r.1) .no, ai r.2.1, ai r.2.2]) [] 0) : CT Tryz.prog 259 [] [at' p0] (.tup [.sl (flat intC r.1) (List.length r.1) .no, ai r.2.1, ai r.2.2]) [] 0 := ⟨h, ⟨trivial, trivial⟩, forall_nil, ⟨dI _, trivial, trivial, trivial⟩, forall_nil⟩
theorem l259L17995 : ∀ qq : Nat, (∀ (p0 : ByteArray) (v5 : List Int) (v6 : Int) (r : List Int × Int × Int), e259L17995 qq p0 v5 v6 = some r → (∀ j, Dl Tryz.prog 0 (inn (inn (rgt (lft (rgt (rgt (rgt (bod Tryz.f259)))))))) (g259L17995E0 j p0 v5 v6) (g259L17995S0 p0 v5 v6) (frameQ Tryz.prog 0 (FinQ Tryz.prog 0 Tryz.f259 (.tup [.sl (flat intC r.1) (List.length r.1) .no, ai r.2.1, ai r.2.2]) [] 0) [.blk 0, .seq (rgt (rgt (rgt (rgt (bod Tryz.f259)))))]))) := by
  intro qq
  induction qq with
  | zero =>
    exact fun _ _ _ _ h => nn h
  | succ qq ih =>
    intro p0 v5 v6 r h
    rw [e259L17995] at h
    rcases spl h with ⟨h2, h⟩ | ⟨h2, h⟩
    · obtain ⟨r3, h4, h⟩ := obind h
      have k := oC 0 [] (c291 h4) <| oB 1 h2 o0
      rcases spl h with ⟨h5, h⟩ | ⟨h5, h⟩
      · obtain rfl := sj h
        exact fun j => lF 0 [] (oD (dI ([] : List Int)) <| oB 3 h5 k) (by kernel_rfl)
      · obtain ⟨l6, h7, h⟩ := obind h
        exact fun j => lH 1 [] [] [1] [0, 5, 6] (oD (dI l6) <| oP 1 (apS34 h7 (by simp)) <| oB 3 h5 k) (ih _ _ _ _ h) (fun j => by kernel_rfl)
    · obtain rfl := sj h
      exact fun j => lF 1 [] (oD (dI v5) <| oB 1 h2 o0) (by kernel_rfl)
theorem c259 {qq : Nat} {p0 : ByteArray} {r : List Int × Int × Int} (h : e259 qq p0 = some r) : CT Tryz.prog 259 [] [at' p0] (.tup [.sl (flat intC r.1) (List.length r.1) .no, ai r.2.1, ai r.2.2]) [] 0 := by
  unfold e259 at h
  rcases spl h with ⟨h1, h⟩ | ⟨h1, h⟩
  · obtain rfl := sj h
    exact k259 (tF q259 0 [] (oD (dI ([] : List Int)) <| oB 1 h1 o0) (by kernel_rfl))
  · exact k259 (tH q259 0 [(none, 5, 1)] [] [0] [0, 5, 6] (oD (dI ([] : List Int)) <| oB 1 h1 o0) (l259L17995 _ _ _ _ _ h) (fun j => by kernel_rfl))

end Go.Proofs.YteiddempdecleaaGreat

namespace Go.Proofs.YteiddempdecleaaGreat
open Go Go.Ab

/- scholium/name.Keyword -/
def e260 (qq : Nat) (p0 : ByteArray) : Option (Bool) :=
  if (p0.toList == (⟨#[100, 97, 116, 97]⟩ : ByteArray).toList) = true then
    some true
  else
    if (p0.toList == (⟨#[114, 101, 99, 111, 114, 100]⟩ : ByteArray).toList) = true then
      some true
    else
      if (p0.toList == (⟨#[100, 101, 102]⟩ : ByteArray).toList) = true then
        some true
      else
        if (p0.toList == (⟨#[83, 101, 116]⟩ : ByteArray).toList) = true then
          some true
        else
          some false
theorem q260 : Tryz.prog.funcs[260]? = some Tryz.f260 ∧ Tryz.f260.body.isNone = false := ⟨Tryz.func260, by kernel_rfl⟩
theorem k260 {p0 : ByteArray} {r : Bool} (h : CTri Tryz.prog 260 [] [at' p0] (ab r) [] 0) : CT Tryz.prog 260 [] [at' p0] (ab r) [] 0 := ⟨h, ⟨trivial, trivial⟩, forall_nil, trivial, forall_nil⟩
theorem c260 {qq : Nat} {p0 : ByteArray} {r : Bool} (h : e260 qq p0 = some r) : CT Tryz.prog 260 [] [at' p0] (ab r) [] 0 := by
  unfold e260 at h
  rcases spl h with ⟨h1, h⟩ | ⟨h1, h⟩
  · obtain rfl := sj h
    exact k260 (tF q260 0 [] (oB 0 h1 o0) (by kernel_rfl))
  · have k := oB 0 h1 o0
    rcases spl h with ⟨h2, h⟩ | ⟨h2, h⟩
    · obtain rfl := sj h
      exact k260 (tF q260 0 [] (oB 0 h2 k) (by kernel_rfl))
    · have k := oB 0 h2 k
      rcases spl h with ⟨h3, h⟩ | ⟨h3, h⟩
      · obtain rfl := sj h
        exact k260 (tF q260 0 [] (oB 0 h3 k) (by kernel_rfl))
      · have k := oB 0 h3 k
        rcases spl h with ⟨h4, h⟩ | ⟨h4, h⟩
        · obtain rfl := sj h
          exact k260 (tF q260 0 [] (oB 0 h4 k) (by kernel_rfl))
        · obtain rfl := sj h
          exact k260 (tF q260 0 [] (oB 0 h4 k) (by kernel_rfl))

end Go.Proofs.YteiddempdecleaaGreat

namespace Go.Proofs.YteiddempdecleaaGreat
open Go Go.Ab

/- scholium/name.Mark -/
def e294 (qq : Nat) (p0 : Int) : Option (Bool) :=
  if (p0 == 40) = true then
    some true
  else
    if (p0 == 41) = true then
      some true
    else
      if (p0 == 123) = true then
        some true
      else
        if (p0 == 125) = true then
          some true
        else
          if (p0 == 58) = true then
            some true
          else
            if (p0 == 61) = true then
              some true
            else
              if (p0 == 46) = true then
                some true
              else
                if (p0 == 44) = true then
                  some true
                else
                  if (p0 == 59) = true then
                    some true
                  else
                    if (p0 == 124) = true then
                      some true
                    else
                      if (p0 == 92) = true then
                        some true
                      else
                        if (p0 == 45) = true then
                          some true
                        else
                          if (p0 == 62) = true then
                            some true
                          else
                            if (p0 == 955) = true then
                              some true
                            else
                              if (p0 == 8594) = true then
                                some true
                              else
                                some false
theorem q294 : Tryz.prog.funcs[294]? = some Tryz.f294 ∧ Tryz.f294.body.isNone = false := ⟨Tryz.func294, by kernel_rfl⟩
theorem k294 {p0 : Int} {r : Bool} (h : CTri Tryz.prog 294 [] [ai p0] (ab r) [] 0) : CT Tryz.prog 294 [] [ai p0] (ab r) [] 0 := ⟨h, ⟨trivial, trivial⟩, forall_nil, trivial, forall_nil⟩
theorem c294 {qq : Nat} {p0 : Int} {r : Bool} (h : e294 qq p0 = some r) : CT Tryz.prog 294 [] [ai p0] (ab r) [] 0 := by
  unfold e294 at h
  rcases spl h with ⟨h1, h⟩ | ⟨h1, h⟩
  · obtain rfl := sj h
    exact k294 (tF q294 0 [] (oB 0 h1 o0) (by kernel_rfl))
  · have k := oB 0 h1 o0
    rcases spl h with ⟨h2, h⟩ | ⟨h2, h⟩
    · obtain rfl := sj h
      exact k294 (tF q294 0 [] (oB 0 h2 k) (by kernel_rfl))
    · have k := oB 0 h2 k
      rcases spl h with ⟨h3, h⟩ | ⟨h3, h⟩
      · obtain rfl := sj h
        exact k294 (tF q294 0 [] (oB 0 h3 k) (by kernel_rfl))
      · have k := oB 0 h3 k
        rcases spl h with ⟨h4, h⟩ | ⟨h4, h⟩
        · obtain rfl := sj h
          exact k294 (tF q294 0 [] (oB 0 h4 k) (by kernel_rfl))
        · have k := oB 0 h4 k
          rcases spl h with ⟨h5, h⟩ | ⟨h5, h⟩
          · obtain rfl := sj h
            exact k294 (tF q294 0 [] (oB 0 h5 k) (by kernel_rfl))
          · have k := oB 0 h5 k
            rcases spl h with ⟨h6, h⟩ | ⟨h6, h⟩
            · obtain rfl := sj h
              exact k294 (tF q294 0 [] (oB 0 h6 k) (by kernel_rfl))
            · have k := oB 0 h6 k
              rcases spl h with ⟨h7, h⟩ | ⟨h7, h⟩
              · obtain rfl := sj h
                exact k294 (tF q294 0 [] (oB 0 h7 k) (by kernel_rfl))
              · have k := oB 0 h7 k
                rcases spl h with ⟨h8, h⟩ | ⟨h8, h⟩
                · obtain rfl := sj h
                  exact k294 (tF q294 0 [] (oB 0 h8 k) (by kernel_rfl))
                · have k := oB 0 h8 k
                  rcases spl h with ⟨h9, h⟩ | ⟨h9, h⟩
                  · obtain rfl := sj h
                    exact k294 (tF q294 0 [] (oB 0 h9 k) (by kernel_rfl))
                  · have k := oB 0 h9 k
                    rcases spl h with ⟨h10, h⟩ | ⟨h10, h⟩
                    · obtain rfl := sj h
                      exact k294 (tF q294 0 [] (oB 0 h10 k) (by kernel_rfl))
                    · have k := oB 0 h10 k
                      rcases spl h with ⟨h11, h⟩ | ⟨h11, h⟩
                      · obtain rfl := sj h
                        exact k294 (tF q294 0 [] (oB 0 h11 k) (by kernel_rfl))
                      · have k := oB 0 h11 k
                        rcases spl h with ⟨h12, h⟩ | ⟨h12, h⟩
                        · obtain rfl := sj h
                          exact k294 (tF q294 0 [] (oB 0 h12 k) (by kernel_rfl))
                        · have k := oB 0 h12 k
                          rcases spl h with ⟨h13, h⟩ | ⟨h13, h⟩
                          · obtain rfl := sj h
                            exact k294 (tF q294 0 [] (oB 0 h13 k) (by kernel_rfl))
                          · have k := oB 0 h13 k
                            rcases spl h with ⟨h14, h⟩ | ⟨h14, h⟩
                            · obtain rfl := sj h
                              exact k294 (tF q294 0 [] (oB 0 h14 k) (by kernel_rfl))
                            · have k := oB 0 h14 k
                              rcases spl h with ⟨h15, h⟩ | ⟨h15, h⟩
                              · obtain rfl := sj h
                                exact k294 (tF q294 0 [] (oB 0 h15 k) (by kernel_rfl))
                              · obtain rfl := sj h
                                exact k294 (tF q294 0 [] (oB 0 h15 k) (by kernel_rfl))

end Go.Proofs.YteiddempdecleaaGreat

namespace Go.Proofs.YteiddempdecleaaGreat
open Go Go.Ab

/- scholium/name.Letter -/
def e262 (qq : Nat) (p0 : Int) : Option (Bool) :=
  if decide (p0 < 128) = true then
    if decide (p0 ≥ 97) = true then
      if decide (p0 ≤ 122) = true then
        some true
      else
        if decide (p0 ≥ 65) = true then
          some (decide (p0 ≤ 90))
        else
          some false
    else
      if decide (p0 ≥ 65) = true then
        some (decide (p0 ≤ 90))
      else
        some false
  else
    (e293 qq p0) >>= fun r6 =>
    if r6 = true then
      (e294 qq p0) >>= fun r9 =>
      if r9 = true then
        some false
      else
        if (p0 != 160) = true then
          if decide (p0 < 8192) = true then
            some true
          else
            some (decide (p0 > 8303))
        else
          some false
    else
      some false
theorem q262 : Tryz.prog.funcs[262]? = some Tryz.f262 ∧ Tryz.f262.body.isNone = false := ⟨Tryz.func262, by kernel_rfl⟩
theorem k262 {p0 : Int} {r : Bool} (h : CTri Tryz.prog 262 [] [ai p0] (ab r) [] 0) : CT Tryz.prog 262 [] [ai p0] (ab r) [] 0 := ⟨h, ⟨trivial, trivial⟩, forall_nil, trivial, forall_nil⟩
theorem c262 {qq : Nat} {p0 : Int} {r : Bool} (h : e262 qq p0 = some r) : CT Tryz.prog 262 [] [ai p0] (ab r) [] 0 := by
  unfold e262 at h
  rcases spl h with ⟨h1, h⟩ | ⟨h1, h⟩
  · have k := oB 0 h1 o0
    rcases spl h with ⟨h2, h⟩ | ⟨h2, h⟩
    · have k := oB 0 h2 k
      rcases spl h with ⟨h3, h⟩ | ⟨h3, h⟩
      · obtain rfl := sj h
        exact k262 (tF q262 0 [] (oB 0 h3 k) (by kernel_rfl))
      · have k := oB 0 h3 k
        rcases spl h with ⟨h4, h⟩ | ⟨h4, h⟩
        · obtain rfl := sj h
          exact k262 (tF q262 1 [] (oB 0 h4 k) (by kernel_rfl))
        · obtain rfl := sj h
          exact k262 (tF q262 0 [] (oB 0 h4 k) (by kernel_rfl))
    · have k := oB 0 h2 k
      rcases spl h with ⟨h5, h⟩ | ⟨h5, h⟩
      · obtain rfl := sj h
        exact k262 (tF q262 1 [] (oB 0 h5 k) (by kernel_rfl))
      · obtain rfl := sj h
        exact k262 (tF q262 0 [] (oB 0 h5 k) (by kernel_rfl))
  · obtain ⟨r6, h7, h⟩ := obind h
    have k := oB 0 h1 o0
    rcases spl h with ⟨h8, h⟩ | ⟨h8, h⟩
    · obtain ⟨r9, h10, h⟩ := obind h
      have k := oK 0 [] h8 (c293 h7) k
      rcases spl h with ⟨h11, h⟩ | ⟨h11, h⟩
      · obtain rfl := sj h
        exact k262 (tF q262 1 [] (oK 0 [] h11 (c294 h10) k) (by kernel_rfl))
      · have k := oK 0 [] h11 (c294 h10) k
        rcases spl h with ⟨h12, h⟩ | ⟨h12, h⟩
        · have k := oB 1 h12 k
          rcases spl h with ⟨h13, h⟩ | ⟨h13, h⟩
          · obtain rfl := sj h
            exact k262 (tF q262 0 [] (oB 0 h13 k) (by kernel_rfl))
          · obtain rfl := sj h
            exact k262 (tF q262 1 [] (oB 0 h13 k) (by kernel_rfl))
        · obtain rfl := sj h
          exact k262 (tF q262 0 [] (oB 1 h12 k) (by kernel_rfl))
    · obtain rfl := sj h
      exact k262 (tF q262 0 [] (oK 0 [] h8 (c293 h7) k) (by kernel_rfl))

end Go.Proofs.YteiddempdecleaaGreat

namespace Go.Proofs.YteiddempdecleaaGreat
open Go Go.Ab

/- scholium/name.Digit -/
def e292 (qq : Nat) (p0 : Int) : Option (Bool) :=
  if decide (p0 ≥ 48) = true then
    some (decide (p0 ≤ 57))
  else
    some false
theorem q292 : Tryz.prog.funcs[292]? = some Tryz.f292 ∧ Tryz.f292.body.isNone = false := ⟨Tryz.func292, by kernel_rfl⟩
theorem k292 {p0 : Int} {r : Bool} (h : CTri Tryz.prog 292 [] [ai p0] (ab r) [] 0) : CT Tryz.prog 292 [] [ai p0] (ab r) [] 0 := ⟨h, ⟨trivial, trivial⟩, forall_nil, trivial, forall_nil⟩
theorem c292 {qq : Nat} {p0 : Int} {r : Bool} (h : e292 qq p0 = some r) : CT Tryz.prog 292 [] [ai p0] (ab r) [] 0 := by
  unfold e292 at h
  rcases spl h with ⟨h1, h⟩ | ⟨h1, h⟩
  · obtain rfl := sj h
    exact k292 (tF q292 1 [] (oB 0 h1 o0) (by kernel_rfl))
  · obtain rfl := sj h
    exact k292 (tF q292 0 [] (oB 0 h1 o0) (by kernel_rfl))

end Go.Proofs.YteiddempdecleaaGreat

namespace Go.Proofs.YteiddempdecleaaGreat
open Go Go.Ab

/- scholium/name.inner -/
def e261 (qq : Nat) (p0 : Int) : Option (Bool) :=
  (e262 qq p0) >>= fun r1 =>
  if r1 = true then
    some true
  else
    (e292 qq p0) >>= fun r4 =>
    if r4 = true then
      some true
    else
      if (p0 == 95) = true then
        some true
      else
        some (p0 == 39)
theorem q261 : Tryz.prog.funcs[261]? = some Tryz.f261 ∧ Tryz.f261.body.isNone = false := ⟨Tryz.func261, by kernel_rfl⟩
theorem k261 {p0 : Int} {r : Bool} (h : CTri Tryz.prog 261 [] [ai p0] (ab r) [] 0) : CT Tryz.prog 261 [] [ai p0] (ab r) [] 0 := ⟨h, ⟨trivial, trivial⟩, forall_nil, trivial, forall_nil⟩
theorem c261 {qq : Nat} {p0 : Int} {r : Bool} (h : e261 qq p0 = some r) : CT Tryz.prog 261 [] [ai p0] (ab r) [] 0 := by
  unfold e261 at h
  obtain ⟨r1, h2, h⟩ := obind h
  rcases spl h with ⟨h3, h⟩ | ⟨h3, h⟩
  · obtain rfl := sj h
    exact k261 (tF q261 0 [] (oK 0 [] h3 (c262 h2) o0) (by kernel_rfl))
  · obtain ⟨r4, h5, h⟩ := obind h
    have k := oK 0 [] h3 (c262 h2) o0
    rcases spl h with ⟨h6, h⟩ | ⟨h6, h⟩
    · obtain rfl := sj h
      exact k261 (tF q261 0 [] (oK 0 [] h6 (c292 h5) k) (by kernel_rfl))
    · have k := oK 0 [] h6 (c292 h5) k
      rcases spl h with ⟨h7, h⟩ | ⟨h7, h⟩
      · obtain rfl := sj h
        exact k261 (tF q261 0 [] (oB 0 h7 k) (by kernel_rfl))
      · obtain rfl := sj h
        exact k261 (tF q261 1 [] (oB 0 h7 k) (by kernel_rfl))

end Go.Proofs.YteiddempdecleaaGreat

namespace Go.Proofs.YteiddempdecleaaGreat
open Go Go.Ab

/- scholium/name.Right -/
def e216L46849 : Nat → (List Int × Int × Int) → Int →  Option (Bool)
  | 0, _, _ => none
  | qq + 1, r1, v32 =>
    if decide (v32 < (List.length r1.1 : Int)) = true then
      (gidx r1.1 v32) >>= fun x10 =>
      (e261 qq x10) >>= fun r12 =>
      if r12 = true then
        e216L46849 qq r1 (w64 (v32 + 1))
      else
        some false
    else
      (gidx r1.1 0) >>= fun x15 =>
      (e262 qq x15) >>= fun r17 =>
      if r17 = true then
        some true
      else
        if (x15 == 95) = true then
          some (decide ((List.length r1.1 : Int) > 1))
        else
          some false
def e216 (qq : Nat) (p0 : ByteArray) : Option (Bool) :=
  (e259 qq p0) >>= fun r1 =>
  if (r1.2.2 != 0) = true then
    some false
  else
    if ((List.length r1.1 : Int) == 0) = true then
      some false
    else
      if decide ((p0.size : Int) > 40) = true then
        some false
      else
        (e260 qq p0) >>= fun r6 =>
        if r6 = true then
          some false
        else
          e216L46849 qq r1 0
def g216L46849E0 (j : Nat → Value) (r1 : List Int × Int × Int) (v32 : Int) : List AV := sp j 55 0 [(3, .sl (flat intC r1.1) (List.length r1.1) .no), (30, .sl (flat intC r1.1) (List.length r1.1) .no), (31, ai (List.length r1.1 : Int)), (32, ai v32)]
def g216L46849S0 (r1 : List Int × Int × Int) (v32 : Int) : LSt := ⟨[], 0, [], 0, []⟩
theorem q216 : Tryz.prog.funcs[216]? = some Tryz.f216 ∧ Tryz.f216.body.isNone = false := ⟨Tryz.func216, by kernel_rfl⟩
theorem k216 {p0 : ByteArray} {r : Bool} (h : CTri Tryz.prog 216 [] [at' p0] (ab r) [] 0) : CT Tryz.prog 216 [] [at' p0] (ab r) [] 0 := ⟨h, ⟨trivial, trivial⟩, forall_nil, trivial, forall_nil⟩
theorem l216L46849 : ∀ qq : Nat, (∀ (r1 : List Int × Int × Int) (v32 : Int) (r : Bool), e216L46849 qq r1 v32 = some r → (∀ j, Dl Tryz.prog 0 (inn (inn (rgt (lft (rgt (rgt (rgt (bod Tryz.f216)))))))) (g216L46849E0 j r1 v32) (g216L46849S0 r1 v32) (frameQ Tryz.prog 0 (FinQ Tryz.prog 0 Tryz.f216 (ab r) [] 0) [.blk 0, .seq (rgt (rgt (rgt (rgt (bod Tryz.f216)))))]))) := by
  intro qq
  induction qq with
  | zero =>
    exact fun _ _ _ h => nn h
  | succ qq ih =>
    intro r1 v32 r h
    rw [e216L46849] at h
    rcases spl h with ⟨h9, h⟩ | ⟨h9, h⟩
    · obtain ⟨x10, h11, h⟩ := obind h
      obtain ⟨r12, h13, h⟩ := obind h
      have k := oA 0 (ix34 (o := .no) h11) <| oB 0 h9 o0
      rcases spl h with ⟨h14, h⟩ | ⟨h14, h⟩
      · exact fun j => lH 2 [] [] [] [3, 30, 31, 32] (oD (dI r1.1) <| oD (dI r1.1) <| oK 1 [] h14 (c261 h13) k) (ih _ _ _ h) (fun j => by kernel_rfl)
      · obtain rfl := sj h
        exact fun j => lF 1 [] (oK 1 [] h14 (c261 h13) k) (by kernel_rfl)
    · obtain ⟨x15, h16, h⟩ := obind h
      obtain ⟨r17, h18, h⟩ := obind h
      have k := oA 0 (ix34 (o := .no) h16) <| oB 0 h9 o0
      rcases spl h with ⟨h19, h⟩ | ⟨h19, h⟩
      · obtain rfl := sj h
        exact fun j => lF 0 [] (oK 1 [] h19 (c262 h18) k) (by kernel_rfl)
      · have k := oA 0 (ix34 (o := .no) h16) <| oK 1 [] h19 (c262 h18) k
        rcases spl h with ⟨h20, h⟩ | ⟨h20, h⟩
        · obtain rfl := sj h
          exact fun j => lF 2 [] (oB 1 h20 k) (by kernel_rfl)
        · obtain rfl := sj h
          exact fun j => lF 0 [] (oB 1 h20 k) (by kernel_rfl)
theorem c216 {qq : Nat} {p0 : ByteArray} {r : Bool} (h : e216 qq p0 = some r) : CT Tryz.prog 216 [] [at' p0] (ab r) [] 0 := by
  unfold e216 at h
  obtain ⟨r1, h2, h⟩ := obind h
  have k := oC 0 [] (c259 h2) o0
  rcases spl h with ⟨h3, h⟩ | ⟨h3, h⟩
  · obtain rfl := sj h
    exact k216 (tF q216 0 [] (oB 3 h3 k) (by kernel_rfl))
  · have k := oB 3 h3 k
    rcases spl h with ⟨h4, h⟩ | ⟨h4, h⟩
    · obtain rfl := sj h
      exact k216 (tF q216 0 [] (oB 1 h4 k) (by kernel_rfl))
    · have k := oB 1 h4 k
      rcases spl h with ⟨h5, h⟩ | ⟨h5, h⟩
      · obtain rfl := sj h
        exact k216 (tF q216 0 [] (oB 1 h5 k) (by kernel_rfl))
      · obtain ⟨r6, h7, h⟩ := obind h
        have k := oB 1 h5 k
        rcases spl h with ⟨h8, h⟩ | ⟨h8, h⟩
        · obtain rfl := sj h
          exact k216 (tF q216 0 [] (oK 0 [] h8 (c260 h7) k) (by kernel_rfl))
        · exact k216 (tH q216 1 [] [] [] [3, 30, 31, 32] (oD (dI r1.1) <| oD (dI r1.1) <| oK 0 [] h8 (c260 h7) k) (l216L46849 _ _ _ _ h) (fun j => by kernel_rfl))

end Go.Proofs.YteiddempdecleaaGreat

namespace Go.Proofs.YteiddempdecleaaGreat
open Go Go.Ab

theorem tot_lead (c : Int) : Tot (fun q => e314 q c) fun r => 0 ≤ r.1 ∧ r.1 ≤ 4 := by
  simp only [e314]
  repeat' (first | exact Tot.ret ⟨by simp, by simp⟩ | refine Tot.ite (fun _ => ?_) (fun _ => ?_))
theorem tot_width (n : Int) : Tot (fun q => e315 q n) fun _ => True := by
  simp only [e315]
  repeat' (first | exact Tot.ret trivial | refine Tot.ite (fun _ => ?_) (fun _ => ?_))
theorem tot_uRight (n : Int) : Tot (fun q => e293 q n) fun _ => True := by
  simp only [e293]
  repeat' (first | exact Tot.ret trivial | refine Tot.ite (fun _ => ?_) (fun _ => ?_))
theorem gbyte_ok {s : ByteArray} {i : Int} (h0 : 0 ≤ i) (h1 : i < s.size) : ∃ c, gbyte s i = some c := by
  unfold gbyte
  simp [h0, h1]
theorem tot_NextL (s : ByteArray) (a : Int) (w : Int × Int) (ha : 0 ≤ a) (hs : s.size ≤ 65535) (hw : a + w.1 ≤ s.size) (hw1 : 1 ≤ w.1) : ∀ (m : Nat) (i n : Int), 1 ≤ i → i + m = w.1 → Tot (fun q => e291L21199 q s a w n i) fun r => r.2.2 = 0 → r.2.1 = w.1 := by
  intro m
  induction m with
  | zero =>
    intro i n hi hm
    refine Tot.succ ?_
    simp only [e291L21199]
    refine Tot.ite (fun h => absurd (of_decide_eq_true h) (by omega)) fun _ => (tot_uRight n).bind fun b _ => ?_
    refine Tot.ite (fun _ => (tot_width n).bind fun c _ => Tot.ite (fun _ => Tot.ret (by simp)) fun _ => Tot.ret (by simp)) fun _ => Tot.ret (by simp)
  | succ m ih =>
    intro i n hi hm
    refine Tot.succ ?_
    simp only [e291L21199]
    obtain ⟨c, hc⟩ := gbyte_ok (s := s) (i := a + i) (by omega) (by omega)
    refine Tot.ite (fun _ => Tot.pure (a := c) (by rw [w64_id (by omega) (by omega)]; exact hc) (Tot.ite (fun _ => Tot.ret (by simp)) fun _ => ?_)) fun h => absurd (of_decide_eq_false h) (by omega)
    rw [w64_id (x := i + 1) (by omega) (by omega)]
    exact ih (i + 1) _ (by omega) (by omega)
theorem tot_Next (s : ByteArray) (a : Int) (ha : 0 ≤ a) (hs : s.size ≤ 65535) : Tot (fun q => e291 q s a) fun r => r.2.2 = 0 → 1 ≤ r.2.1 ∧ a + r.2.1 ≤ s.size := by
  simp only [e291]
  refine Tot.ite (fun _ => Tot.ret (by simp)) fun _ => Tot.ite (fun _ => Tot.ret (by simp)) fun h => ?_
  have h1 := of_decide_eq_false h
  obtain ⟨c, hc⟩ := gbyte_ok (s := s) (i := a) ha (by omega)
  refine Tot.pure hc ((tot_lead c).bind fun w hw => Tot.ite (fun _ => Tot.ret (by simp)) fun h2 => Tot.ite (fun _ => Tot.ret (by simp)) fun h3 => ?_)
  have h4 := of_decide_eq_false h3
  rw [w64_id (by omega) (by omega)] at h4
  have h5 : w.1 ≠ 0 := by simpa using h2
  refine (tot_NextL s a w ha hs (by omega) (by omega) (w.1 - 1).toNat 1 w.2 (by omega) (by omega)).mono fun r hr h6 => ?_
  have := hr h6
  omega
theorem tot_AllL (s : ByteArray) (hs : s.size ≤ 65535) : ∀ (m : Nat) (a : Int) (acc : List Int), 0 ≤ a → a ≤ s.size → (s.size : Int) - a ≤ m → (acc.length : Int) ≤ a → Tot (fun q => e259L17995 q s acc a) fun r => r.1.length ≤ 65535 := by
  intro m
  induction m with
  | zero =>
    intro a acc h0 h1 hm hl
    refine Tot.succ ?_
    simp only [e259L17995]
    refine Tot.ite (fun h => absurd (of_decide_eq_true h) (by omega)) fun _ => Tot.ret (by show acc.length ≤ 65535; omega)
  | succ m ih =>
    intro a acc h0 h1 hm hl
    refine Tot.succ ?_
    simp only [e259L17995]
    refine Tot.ite (fun _ => (tot_Next s a h0 hs).bind fun r hr => Tot.ite (fun _ => Tot.ret (by simp)) fun h => Tot.pure (gapp_ok (by simp <;> omega)) ?_) fun _ => Tot.ret (by show acc.length ≤ 65535; omega)
    have := hr (by simpa using h)
    rw [w64_id (by omega) (by omega)]
    exact ih (a + r.2.1) _ (by omega) (by omega) (by omega) (by simp; omega)
theorem tot_All (s : ByteArray) : Tot (fun q => e259 q s) fun r => r.1.length ≤ 65535 := by
  simp only [e259]
  refine Tot.ite (fun _ => Tot.ret (by simp)) fun h => ?_
  have := of_decide_eq_false h
  exact tot_AllL s (by omega) s.size 0 [] (by omega) (by omega) (by omega) (by simp)
theorem tot_Mark (n : Int) : Tot (fun q => e294 q n) fun _ => True := by
  simp only [e294]
  repeat' (first | exact Tot.ret trivial | refine Tot.ite (fun _ => ?_) (fun _ => ?_))
theorem tot_Letter (n : Int) : Tot (fun q => e262 q n) fun _ => True := by
  simp only [e262]
  repeat' (first | exact Tot.ret trivial | refine Tot.ite (fun _ => ?_) (fun _ => ?_) | refine Tot.bind (tot_uRight n) (fun _ _ => ?_) | refine Tot.bind (tot_Mark n) (fun _ _ => ?_))
theorem tot_Digit (n : Int) : Tot (fun q => e292 q n) fun _ => True := by
  simp only [e292]
  repeat' (first | exact Tot.ret trivial | refine Tot.ite (fun _ => ?_) (fun _ => ?_))
theorem tot_inner (n : Int) : Tot (fun q => e261 q n) fun _ => True := by
  simp only [e261]
  repeat' (first | exact Tot.ret trivial | refine Tot.ite (fun _ => ?_) (fun _ => ?_) | refine Tot.bind (tot_Letter n) (fun _ _ => ?_) | refine Tot.bind (tot_Digit n) (fun _ _ => ?_))
theorem tot_Keyword (s : ByteArray) : Tot (fun q => e260 q s) fun _ => True := by
  simp only [e260]
  repeat' (first | exact Tot.ret trivial | refine Tot.ite (fun _ => ?_) (fun _ => ?_))
theorem tot_nRightL (r1 : List Int × Int × Int) (h0 : 0 < r1.1.length) (h1 : r1.1.length ≤ 65535) : ∀ (l : List Int) (v : Nat), r1.1.drop v = l → Tot (fun q => e216L46849 q r1 (v : Int)) fun _ => True
  | [], v, hd => by
    refine Tot.succ ?_
    simp only [e216L46849]
    obtain ⟨y, hy⟩ : ∃ y, gidx r1.1 0 = some y := ⟨_, by unfold gidx; rw [if_pos (by omega)]; exact List.getElem?_eq_getElem h0⟩
    refine Tot.ite (fun h => ?_) fun _ => Tot.pure hy ?_
    · rw [drop_nil hd] at h; cases h
    · repeat' (first | exact Tot.ret trivial | refine Tot.ite (fun _ => ?_) (fun _ => ?_) | refine Tot.bind (tot_Letter y) (fun _ _ => ?_))
  | x :: l, v, hd => by
    have hlt := drop_lt hd
    refine Tot.succ ?_
    simp only [e216L46849]
    refine Tot.ite (fun _ => Tot.pure (drop_idx hd) ((tot_inner x).bind fun b _ => Tot.ite (fun _ => ?_) fun _ => Tot.ret trivial)) fun h => ?_
    · rw [w64_nat v (by omega)]
      exact tot_nRightL r1 h0 h1 l (v + 1) (drop_next hd)
    · rw [drop_dec hd] at h; cases h
theorem tot_nRight (s : ByteArray) : Tot (fun q => e216 q s) fun _ => True := by
  simp only [e216]
  refine (tot_All s).bind fun r hr => Tot.ite (fun _ => Tot.ret trivial) fun _ => Tot.ite (fun _ => Tot.ret trivial) fun h => Tot.ite (fun _ => Tot.ret trivial) fun _ => (tot_Keyword s).bind fun _ _ => Tot.ite (fun _ => Tot.ret trivial) fun _ => ?_
  exact tot_nRightL r (by simp at h; exact List.length_pos_iff.2 h) hr r.1 0 rfl
theorem tot_DistinctL : ∀ (r l : List ByteArray) (v : Nat) (m : List (ByteArray × Int)), l.drop v = r → l.length ≤ 65535 → Tot (fun q => e153L46510 q l (v : Int) m) fun _ => True
  | [], l, v, m, hd, hl => by
    refine Tot.succ ?_
    simp only [e153L46510]
    refine Tot.ite (fun h => ?_) fun _ => Tot.ret trivial
    rw [drop_nil hd] at h; cases h
  | x :: r, l, v, m, hd, hl => by
    have hlt := drop_lt hd
    refine Tot.succ ?_
    simp only [e153L46510]
    refine Tot.ite (fun _ => Tot.pure (drop_idx hd) (Tot.ite (fun _ => Tot.ret trivial) fun _ => ?_)) fun h => ?_
    · rw [w64_nat v (by omega)]
      exact tot_DistinctL r l (v + 1) _ (drop_next hd) hl
    · rw [drop_dec hd] at h; cases h
theorem tot_Distinct (l : List ByteArray) (hl : l.length ≤ 65535) : Tot (fun q => e153 q l) fun _ => True := by
  simp only [e153]
  exact tot_DistinctL l l 0 _ rfl hl
end Go.Proofs.YteiddempdecleaaGreat

namespace Go.Proofs.YteiddempdecleaaGreat
open Go Go.Ab

/- scholium/sign.is -/
def e202 (qq : Nat) (p0 : List Ent) (p1 : Int) (p2 : Int) : Option (Bool) :=
  if decide (p1 ≥ 0) = true then
    if decide (p1 < (List.length p0 : Int)) = true then
      (gidx p0 p1) >>= fun x3 =>
      some (x3.kind == p2)
    else
      some false
  else
    some false
theorem q202 : Tryz.prog.funcs[202]? = some Tryz.f202 ∧ Tryz.f202.body.isNone = false := ⟨Tryz.func202, by kernel_rfl⟩
theorem k202 {p0 : List Ent} {p1 : Int} {p2 : Int} {r : Bool} (h : CTri Tryz.prog 202 [] [.sl (flat entL p0) (List.length p0) .no, ai p1, ai p2] (ab r) [] 0) : CT Tryz.prog 202 [] [.sl (flat entL p0) (List.length p0) .no, ai p1, ai p2] (ab r) [] 0 := ⟨h, ⟨⟨trivial, dE _⟩, trivial, trivial, trivial⟩, forall_nil, trivial, forall_nil⟩
theorem c202 {qq : Nat} {p0 : List Ent} {p1 : Int} {p2 : Int} {r : Bool} (h : e202 qq p0 p1 p2 = some r) : CT Tryz.prog 202 [] [.sl (flat entL p0) (List.length p0) .no, ai p1, ai p2] (ab r) [] 0 := by
  unfold e202 at h
  rcases spl h with ⟨h1, h⟩ | ⟨h1, h⟩
  · have k := oB 0 h1 o0
    rcases spl h with ⟨h2, h⟩ | ⟨h2, h⟩
    · obtain ⟨x3, h4, h⟩ := obind h
      obtain rfl := sj h
      exact k202 (tF q202 2 [] (oA 0 (ix22 (o := .no) h4) <| oB 1 h2 k) (by kernel_rfl))
    · obtain rfl := sj h
      exact k202 (tF q202 0 [] (oB 1 h2 k) (by kernel_rfl))
  · obtain rfl := sj h
    exact k202 (tF q202 0 [] (oB 0 h1 o0) (by kernel_rfl))

end Go.Proofs.YteiddempdecleaaGreat

namespace Go.Proofs.YteiddempdecleaaGreat
open Go Go.Ab

/- scholium/sign.closed -/
def e217 (qq : Nat) (p0 : Tm) (p1 : Int) : Option (Bool) :=
  (e108 qq p0 0 p1) >>= fun r1 =>
  if r1 = true then
    (e177 qq p0) >>= fun r4 =>
    some ((List.length r4 : Int) == 0)
  else
    some false
theorem q217 : Tryz.prog.funcs[217]? = some Tryz.f217 ∧ Tryz.f217.body.isNone = false := ⟨Tryz.func217, by kernel_rfl⟩
theorem k217 {p0 : Tm} {p1 : Int} {r : Bool} (h : CTri Tryz.prog 217 [] [tmA p0, ai p1] (ab r) [] 0) : CT Tryz.prog 217 [] [tmA p0, ai p1] (ab r) [] 0 := ⟨h, ⟨⟨trivial, trivial, ⟨trivial, dT _⟩, trivial⟩, trivial, trivial⟩, forall_nil, trivial, forall_nil⟩
theorem c217 {qq : Nat} {p0 : Tm} {p1 : Int} {r : Bool} (h : e217 qq p0 p1 = some r) : CT Tryz.prog 217 [] [tmA p0, ai p1] (ab r) [] 0 := by
  unfold e217 at h
  obtain ⟨r1, h2, h⟩ := obind h
  rcases spl h with ⟨h3, h⟩ | ⟨h3, h⟩
  · obtain ⟨r4, h5, h⟩ := obind h
    obtain rfl := sj h
    exact k217 (tF q217 2 [] (oC 1 [] (c177 h5) <| oK 1 [] h3 (c108 h2) o0) (by kernel_rfl))
  · obtain rfl := sj h
    exact k217 (tF q217 0 [] (oK 1 [] h3 (c108 h2) o0) (by kernel_rfl))

end Go.Proofs.YteiddempdecleaaGreat

namespace Go.Proofs.YteiddempdecleaaGreat
open Go Go.Ab

/- scholium/sign.none -/
def e263 (qq : Nat) (p0 : Tm) : Option (Bool) :=
  if (p0.k == 0) = true then
    if (p0.n == 0) = true then
      some ((List.length p0.sub : Int) == 0)
    else
      some false
  else
    some false
theorem q263 : Tryz.prog.funcs[263]? = some Tryz.f263 ∧ Tryz.f263.body.isNone = false := ⟨Tryz.func263, by kernel_rfl⟩
theorem k263 {p0 : Tm} {r : Bool} (h : CTri Tryz.prog 263 [] [tmA p0] (ab r) [] 0) : CT Tryz.prog 263 [] [tmA p0] (ab r) [] 0 := ⟨h, ⟨⟨trivial, trivial, ⟨trivial, dT _⟩, trivial⟩, trivial⟩, forall_nil, trivial, forall_nil⟩
theorem c263 {qq : Nat} {p0 : Tm} {r : Bool} (h : e263 qq p0 = some r) : CT Tryz.prog 263 [] [tmA p0] (ab r) [] 0 := by
  unfold e263 at h
  rcases spl h with ⟨h1, h⟩ | ⟨h1, h⟩
  · have k := oB 1 h1 o0
    rcases spl h with ⟨h2, h⟩ | ⟨h2, h⟩
    · obtain rfl := sj h
      exact k263 (tF q263 3 [] (oB 1 h2 k) (by kernel_rfl))
    · obtain rfl := sj h
      exact k263 (tF q263 0 [] (oB 1 h2 k) (by kernel_rfl))
  · obtain rfl := sj h
    exact k263 (tF q263 0 [] (oB 1 h1 o0) (by kernel_rfl))

end Go.Proofs.YteiddempdecleaaGreat

namespace Go.Proofs.YteiddempdecleaaGreat
open Go Go.Ab

/- scholium/sign.run -/
def e264L16878 : Nat → (List Int) → Int → Int →  Option (Bool)
  | 0, _, _, _ => none
  | qq + 1, p0, p1, v9 =>
    if decide (v9 < (List.length p0 : Int)) = true then
      (gidx p0 v9) >>= fun x2 =>
      if (x2 != (w64 (p1 + v9))) = true then
        some false
      else
        e264L16878 qq p0 p1 (w64 (v9 + 1))
    else
      some true
def e264 (qq : Nat) (p0 : List Int) (p1 : Int) : Option (Bool) :=
  e264L16878 qq p0 p1 0
def g264L16878E0 (j : Nat → Value) (p0 : List Int) (p1 : Int) (v9 : Int) : List AV := sp j 20 0 [(1, ai p1), (7, .sl (flat intC p0) (List.length p0) .no), (8, ai (List.length p0 : Int)), (9, ai v9)]
def g264L16878S0 (p0 : List Int) (p1 : Int) (v9 : Int) : LSt := ⟨[], 0, [], 0, []⟩
theorem q264 : Tryz.prog.funcs[264]? = some Tryz.f264 ∧ Tryz.f264.body.isNone = false := ⟨Tryz.func264, by kernel_rfl⟩
theorem k264 {p0 : List Int} {p1 : Int} {r : Bool} (h : CTri Tryz.prog 264 [] [.sl (flat intC p0) (List.length p0) .no, ai p1] (ab r) [] 0) : CT Tryz.prog 264 [] [.sl (flat intC p0) (List.length p0) .no, ai p1] (ab r) [] 0 := ⟨h, ⟨⟨trivial, dI _⟩, trivial, trivial⟩, forall_nil, trivial, forall_nil⟩
theorem l264L16878 : ∀ qq : Nat, (∀ (p0 : List Int) (p1 : Int) (v9 : Int) (r : Bool), e264L16878 qq p0 p1 v9 = some r → (∀ j, Dl Tryz.prog 0 (inn (inn (rgt (lft (rgt (bod Tryz.f264)))))) (g264L16878E0 j p0 p1 v9) (g264L16878S0 p0 p1 v9) (frameQ Tryz.prog 0 (FinQ Tryz.prog 0 Tryz.f264 (ab r) [] 0) [.blk 0, .seq (rgt (rgt (bod Tryz.f264)))]))) := by
  intro qq
  induction qq with
  | zero =>
    exact fun _ _ _ _ h => nn h
  | succ qq ih =>
    intro p0 p1 v9 r h
    rw [e264L16878] at h
    rcases spl h with ⟨h1, h⟩ | ⟨h1, h⟩
    · obtain ⟨x2, h3, h⟩ := obind h
      have k := oA 0 (ix34 (o := .no) h3) <| oB 0 h1 o0
      rcases spl h with ⟨h4, h⟩ | ⟨h4, h⟩
      · obtain rfl := sj h
        exact fun j => lF 0 [] (oB 2 h4 k) (by kernel_rfl)
      · exact fun j => lH 1 [] [] [] [1, 7, 8, 9] (oD (dI p0) <| oB 2 h4 k) (ih _ _ _ _ h) (fun j => by kernel_rfl)
    · obtain rfl := sj h
      exact fun j => lF 0 [] (oB 0 h1 o0) (by kernel_rfl)
theorem c264 {qq : Nat} {p0 : List Int} {p1 : Int} {r : Bool} (h : e264 qq p0 p1 = some r) : CT Tryz.prog 264 [] [.sl (flat intC p0) (List.length p0) .no, ai p1] (ab r) [] 0 := by
  unfold e264 at h
  exact k264 (tH q264 1 [] [] [] [1, 7, 8, 9] (oD (dI p0) o0) (l264L16878 _ _ _ _ _ h) (fun j => by kernel_rfl))

end Go.Proofs.YteiddempdecleaaGreat

namespace Go.Proofs.YteiddempdecleaaGreat
open Go Go.Ab

/- scholium/sign.members -/
def e265L10666 : Nat → (List Ent) → Int → (List Int) → Int → Int →  Option (Bool)
  | 0, _, _, _, _, _ => none
  | qq + 1, p0, p1, p2, p3, v13 =>
    if decide (v13 < (List.length p2 : Int)) = true then
      (gidx p2 v13) >>= fun x2 =>
      (e202 qq p0 x2 p3) >>= fun r4 =>
      if r4 = true then
        (gidx p0 x2) >>= fun x7 =>
        if (x7.fam != p1) = true then
          some false
        else
          if (x7.place != v13) = true then
            some false
          else
            e265L10666 qq p0 p1 p2 p3 (w64 (v13 + 1))
      else
        some false
    else
      some true
def e265 (qq : Nat) (p0 : List Ent) (p1 : Int) (p2 : List Int) (p3 : Int) : Option (Bool) :=
  e265L10666 qq p0 p1 p2 p3 0
def g265L10666E0 (j : Nat → Value) (p0 : List Ent) (p1 : Int) (p2 : List Int) (p3 : Int) (v13 : Int) : List AV := sp j 42 0 [(0, .sl (flat entL p0) (List.length p0) .no), (1, ai p1), (3, ai p3), (11, .sl (flat intC p2) (List.length p2) .no), (12, ai (List.length p2 : Int)), (13, ai v13)]
def g265L10666S0 (p0 : List Ent) (p1 : Int) (p2 : List Int) (p3 : Int) (v13 : Int) : LSt := ⟨[], 0, [], 0, []⟩
theorem q265 : Tryz.prog.funcs[265]? = some Tryz.f265 ∧ Tryz.f265.body.isNone = false := ⟨Tryz.func265, by kernel_rfl⟩
theorem k265 {p0 : List Ent} {p1 : Int} {p2 : List Int} {p3 : Int} {r : Bool} (h : CTri Tryz.prog 265 [] [.sl (flat entL p0) (List.length p0) .no, ai p1, .sl (flat intC p2) (List.length p2) .no, ai p3] (ab r) [] 0) : CT Tryz.prog 265 [] [.sl (flat entL p0) (List.length p0) .no, ai p1, .sl (flat intC p2) (List.length p2) .no, ai p3] (ab r) [] 0 := ⟨h, ⟨⟨trivial, dE _⟩, trivial, ⟨trivial, dI _⟩, trivial, trivial⟩, forall_nil, trivial, forall_nil⟩
theorem l265L10666 : ∀ qq : Nat, (∀ (p0 : List Ent) (p1 : Int) (p2 : List Int) (p3 : Int) (v13 : Int) (r : Bool), e265L10666 qq p0 p1 p2 p3 v13 = some r → (∀ j, Dl Tryz.prog 0 (inn (inn (rgt (lft (rgt (bod Tryz.f265)))))) (g265L10666E0 j p0 p1 p2 p3 v13) (g265L10666S0 p0 p1 p2 p3 v13) (frameQ Tryz.prog 0 (FinQ Tryz.prog 0 Tryz.f265 (ab r) [] 0) [.blk 0, .seq (rgt (rgt (bod Tryz.f265)))]))) := by
  intro qq
  induction qq with
  | zero =>
    exact fun _ _ _ _ _ _ h => nn h
  | succ qq ih =>
    intro p0 p1 p2 p3 v13 r h
    rw [e265L10666] at h
    rcases spl h with ⟨h1, h⟩ | ⟨h1, h⟩
    · obtain ⟨x2, h3, h⟩ := obind h
      obtain ⟨r4, h5, h⟩ := obind h
      have k := oA 0 (ix34 (o := .no) h3) <| oB 0 h1 o0
      rcases spl h with ⟨h6, h⟩ | ⟨h6, h⟩
      · obtain ⟨x7, h8, h⟩ := obind h
        have k := oA 1 (ix22 (o := .no) h8) <| oK 1 [] h6 (c202 h5) k
        rcases spl h with ⟨h9, h⟩ | ⟨h9, h⟩
        · obtain rfl := sj h
          exact fun j => lF 0 [] (oB 1 h9 k) (by kernel_rfl)
        · have k := oA 0 (ix22 (o := .no) h8) <| oB 1 h9 k
          rcases spl h with ⟨h10, h⟩ | ⟨h10, h⟩
          · obtain rfl := sj h
            exact fun j => lF 0 [] (oB 1 h10 k) (by kernel_rfl)
          · exact fun j => lH 1 [] [] [] [0, 1, 3, 11, 12, 13] (oD (dI p2) <| oD (dE p0) <| oB 1 h10 k) (ih _ _ _ _ _ _ h) (fun j => by kernel_rfl)
      · obtain rfl := sj h
        exact fun j => lF 1 [] (oK 1 [] h6 (c202 h5) k) (by kernel_rfl)
    · obtain rfl := sj h
      exact fun j => lF 0 [] (oB 0 h1 o0) (by kernel_rfl)
theorem c265 {qq : Nat} {p0 : List Ent} {p1 : Int} {p2 : List Int} {p3 : Int} {r : Bool} (h : e265 qq p0 p1 p2 p3 = some r) : CT Tryz.prog 265 [] [.sl (flat entL p0) (List.length p0) .no, ai p1, .sl (flat intC p2) (List.length p2) .no, ai p3] (ab r) [] 0 := by
  unfold e265 at h
  exact k265 (tH q265 1 [] [] [] [0, 1, 3, 11, 12, 13] (oD (dI p2) <| oD (dE p0) o0) (l265L10666 _ _ _ _ _ _ _ h) (fun j => by kernel_rfl))

end Go.Proofs.YteiddempdecleaaGreat

namespace Go.Proofs.YteiddempdecleaaGreat
open Go Go.Ab

/- scholium/sign.family -/
def e218 (qq : Nat) (p0 : List Ent) (p1 : Int) : Option (Bool) :=
  (gidx p0 p1) >>= fun x1 =>
  if decide (x1.pars < 0) = true then
    some false
  else
    if decide (x1.inds < 0) = true then
      some false
    else
      if decide (x1.pars > 24) = true then
        some false
      else
        if decide (x1.inds > (w64 (24 - x1.pars))) = true then
          some false
        else
          if (x1.fam != 0) = true then
            some false
          else
            if (x1.place != 0) = true then
              some false
            else
              (e263 qq x1.body) >>= fun r9 =>
              if r9 = true then
                (e203 qq x1.type (w64 (x1.pars + x1.inds))) >>= fun r12 =>
                if (r12.2.2 != 0) = true then
                  some false
                else
                  if (r12.2.1.k != 2) = true then
                    some false
                  else
                    if (r12.2.1.n != x1.level) = true then
                      some false
                    else
                      if decide ((List.length x1.cons : Int) > 16) = true then
                        some false
                      else
                        (e264 qq x1.cons (w64 (p1 + 1))) >>= fun r18 =>
                        if r18 = true then
                          (e265 qq p0 p1 x1.cons 2) >>= fun r21 =>
                          if r21 = true then
                            if ((List.length x1.fields : Int) == 0) = true then
                              some true
                            else
                              if (x1.inds != 0) = true then
                                some false
                              else
                                if ((List.length x1.cons : Int) != 1) = true then
                                  some false
                                else
                                  (e264 qq x1.fields (w64 (p1 + 2))) >>= fun r27 =>
                                  if r27 = true then
                                    (e265 qq p0 p1 x1.fields 4) >>= fun r30 =>
                                    if r30 = true then
                                      (gidx p0 (w64 (p1 + 1))) >>= fun x33 =>
                                      (e222 qq x33.type) >>= fun r35 =>
                                      if (r35.2.2 == 0) = true then
                                        some ((List.length r35.1 : Int) == (w64 (x1.pars + (List.length x1.fields : Int))))
                                      else
                                        some false
                                    else
                                      some false
                                  else
                                    some false
                          else
                            some false
                        else
                          some false
              else
                some false
theorem q218 : Tryz.prog.funcs[218]? = some Tryz.f218 ∧ Tryz.f218.body.isNone = false := ⟨Tryz.func218, by kernel_rfl⟩
theorem k218 {p0 : List Ent} {p1 : Int} {r : Bool} (h : CTri Tryz.prog 218 [] [.sl (flat entL p0) (List.length p0) .no, ai p1] (ab r) [] 0) : CT Tryz.prog 218 [] [.sl (flat entL p0) (List.length p0) .no, ai p1] (ab r) [] 0 := ⟨h, ⟨⟨trivial, dE _⟩, trivial, trivial⟩, forall_nil, trivial, forall_nil⟩
theorem c218 {qq : Nat} {p0 : List Ent} {p1 : Int} {r : Bool} (h : e218 qq p0 p1 = some r) : CT Tryz.prog 218 [] [.sl (flat entL p0) (List.length p0) .no, ai p1] (ab r) [] 0 := by
  unfold e218 at h
  obtain ⟨x1, h2, h⟩ := obind h
  have k := oA 0 (ix22 (o := .no) h2) o0
  rcases spl h with ⟨h3, h⟩ | ⟨h3, h⟩
  · obtain rfl := sj h
    exact k218 (tF q218 0 [] (oB 3 h3 k) (by kernel_rfl))
  · have k := oB 3 h3 k
    rcases spl h with ⟨h4, h⟩ | ⟨h4, h⟩
    · obtain rfl := sj h
      exact k218 (tF q218 0 [] (oB 1 h4 k) (by kernel_rfl))
    · have k := oB 1 h4 k
      rcases spl h with ⟨h5, h⟩ | ⟨h5, h⟩
      · obtain rfl := sj h
        exact k218 (tF q218 0 [] (oB 1 h5 k) (by kernel_rfl))
      · have k := oB 1 h5 k
        rcases spl h with ⟨h6, h⟩ | ⟨h6, h⟩
        · obtain rfl := sj h
          exact k218 (tF q218 0 [] (oB 3 h6 k) (by kernel_rfl))
        · have k := oB 3 h6 k
          rcases spl h with ⟨h7, h⟩ | ⟨h7, h⟩
          · obtain rfl := sj h
            exact k218 (tF q218 0 [] (oB 1 h7 k) (by kernel_rfl))
          · have k := oB 1 h7 k
            rcases spl h with ⟨h8, h⟩ | ⟨h8, h⟩
            · obtain rfl := sj h
              exact k218 (tF q218 0 [] (oB 1 h8 k) (by kernel_rfl))
            · obtain ⟨r9, h10, h⟩ := obind h
              have k := oB 1 h8 k
              rcases spl h with ⟨h11, h⟩ | ⟨h11, h⟩
              · obtain ⟨r12, h13, h⟩ := obind h
                have k := oC 5 [] (c203 h13) <| oK 1 [] h11 (c263 h10) k
                rcases spl h with ⟨h14, h⟩ | ⟨h14, h⟩
                · obtain rfl := sj h
                  exact k218 (tF q218 0 [] (oB 4 h14 k) (by kernel_rfl))
                · have k := oB 4 h14 k
                  rcases spl h with ⟨h15, h⟩ | ⟨h15, h⟩
                  · obtain rfl := sj h
                    exact k218 (tF q218 0 [] (oB 1 h15 k) (by kernel_rfl))
                  · have k := oB 1 h15 k
                    rcases spl h with ⟨h16, h⟩ | ⟨h16, h⟩
                    · obtain rfl := sj h
                      exact k218 (tF q218 0 [] (oB 2 h16 k) (by kernel_rfl))
                    · have k := oB 2 h16 k
                      rcases spl h with ⟨h17, h⟩ | ⟨h17, h⟩
                      · obtain rfl := sj h
                        exact k218 (tF q218 0 [] (oB 2 h17 k) (by kernel_rfl))
                      · obtain ⟨r18, h19, h⟩ := obind h
                        have k := oB 2 h17 k
                        rcases spl h with ⟨h20, h⟩ | ⟨h20, h⟩
                        · obtain ⟨r21, h22, h⟩ := obind h
                          have k := oK 2 [] h20 (c264 h19) k
                          rcases spl h with ⟨h23, h⟩ | ⟨h23, h⟩
                          · have k := oK 2 [] h23 (c265 h22) k
                            rcases spl h with ⟨h24, h⟩ | ⟨h24, h⟩
                            · obtain rfl := sj h
                              exact k218 (tF q218 0 [] (oB 3 h24 k) (by kernel_rfl))
                            · have k := oB 3 h24 k
                              rcases spl h with ⟨h25, h⟩ | ⟨h25, h⟩
                              · obtain rfl := sj h
                                exact k218 (tF q218 0 [] (oB 1 h25 k) (by kernel_rfl))
                              · have k := oB 1 h25 k
                                rcases spl h with ⟨h26, h⟩ | ⟨h26, h⟩
                                · obtain rfl := sj h
                                  exact k218 (tF q218 0 [] (oB 2 h26 k) (by kernel_rfl))
                                · obtain ⟨r27, h28, h⟩ := obind h
                                  have k := oB 2 h26 k
                                  rcases spl h with ⟨h29, h⟩ | ⟨h29, h⟩
                                  · obtain ⟨r30, h31, h⟩ := obind h
                                    have k := oK 2 [] h29 (c264 h28) k
                                    rcases spl h with ⟨h32, h⟩ | ⟨h32, h⟩
                                    · obtain ⟨x33, h34, h⟩ := obind h
                                      obtain ⟨r35, h36, h⟩ := obind h
                                      have k := oC 1 [] (c222 h36) <| oA 2 (ix22 (o := .no) h34) <| oK 2 [] h32 (c265 h31) k
                                      rcases spl h with ⟨h37, h⟩ | ⟨h37, h⟩
                                      · obtain rfl := sj h
                                        exact k218 (tF q218 6 [] (oB 4 h37 k) (by kernel_rfl))
                                      · obtain rfl := sj h
                                        exact k218 (tF q218 0 [] (oB 4 h37 k) (by kernel_rfl))
                                    · obtain rfl := sj h
                                      exact k218 (tF q218 1 [] (oK 2 [] h32 (c265 h31) k) (by kernel_rfl))
                                  · obtain rfl := sj h
                                    exact k218 (tF q218 1 [] (oK 2 [] h29 (c264 h28) k) (by kernel_rfl))
                          · obtain rfl := sj h
                            exact k218 (tF q218 1 [] (oK 2 [] h23 (c265 h22) k) (by kernel_rfl))
                        · obtain rfl := sj h
                          exact k218 (tF q218 1 [] (oK 2 [] h20 (c264 h19) k) (by kernel_rfl))
              · obtain rfl := sj h
                exact k218 (tF q218 1 [] (oK 1 [] h11 (c263 h10) k) (by kernel_rfl))

end Go.Proofs.YteiddempdecleaaGreat

namespace Go.Proofs.YteiddempdecleaaGreat
open Go Go.Ab

/-- an entry without lists or terms that are too long -/
def EOk (e : Ent) : Prop := e.type.Ok ∧ e.body.Ok ∧ e.cons.length ≤ 1152921504606846976 ∧ e.fields.length ≤ 1152921504606846976
def zE : Ent := Ent.mk 0 ⟨#[]⟩ zT zT 0 0 0 0 0 [] []
/-- an entry -/
def ent (l : List Ent) (n : Int) : Ent := (l[n.toNat]?).getD zE
theorem gidx_ent {l : List Ent} {n : Int} (h0 : 0 ≤ n) (h1 : n < l.length) : gidx l n = some (ent l n) := by
  unfold gidx ent
  rw [if_pos h0]
  have : n.toNat < l.length := by omega
  rw [List.getElem?_eq_getElem this]; rfl
theorem ent_mem {l : List Ent} {n : Int} (h0 : 0 ≤ n) (h1 : n < l.length) : ent l n ∈ l := by
  unfold ent
  have : n.toNat < l.length := by omega
  rw [List.getElem?_eq_getElem this]
  exact List.getElem_mem this
def isT (l : List Ent) (n kind : Int) : Bool := decide (0 ≤ n) && decide (n < l.length) && (ent l n).kind == kind
theorem isT_spec {l : List Ent} {n kind : Int} (h : isT l n kind = true) : 0 ≤ n ∧ n < l.length ∧ (ent l n).kind = kind := by
  unfold isT at h
  simp only [Bool.and_eq_true, decide_eq_true_eq, beq_iff_eq] at h
  exact ⟨h.1.1, h.1.2, h.2⟩
theorem ev_is (l : List Ent) (n kind : Int) : Evt (fun q => e202 q l n kind) (isT l n kind) := by
  simp only [e202]
  unfold isT
  by_cases h0 : n ≥ 0
  · refine Evt.ifT (decide_eq_true h0) ?_
    by_cases h1 : n < l.length
    · exact Evt.ifT (decide_eq_true h1) (Evt.pure (gidx_ent h0 h1) (Evt.ret.eq (by simp [show 0 ≤ n from h0, h1])))
    · exact Evt.ifF (decide_eq_false h1) (Evt.ret.eq (by simp [h1]))
  · exact Evt.ifF (decide_eq_false h0) (Evt.ret.eq (by simp [show ¬ 0 ≤ n from h0]))
def noneT (t : Tm) : Bool := t.k == 0 && t.n == 0 && (t.sub.length : Int) == 0
theorem ev_none (t : Tm) : Evt (fun q => e263 q t) (noneT t) := by
  refine Evt.mk fun q => ?_
  unfold e263 noneT
  by_cases h1 : t.k = 0 <;> by_cases h2 : t.n = 0 <;> by_cases h3 : t.sub.length = 0 <;> simp [h1, h2, h3]
/-- closed, with so many entries -/
def closedT' (t : Tm) (n : Int) : Bool := rightT t 0 n && (colT t 8 8).isEmpty
theorem ev_sclosed (t : Tm) (n : Int) (ho : t.Ok) : Evt (fun q => e217 q t n) (closedT' t n) := by
  simp only [e217]
  refine (ev_Right t 0 n ho).bind ?_
  unfold closedT'
  by_cases h : rightT t 0 n = true
  · refine Evt.ifT h ((ev_Frees t ho).bind (Evt.ret.eq ?_))
    have hs : shapedT t = true := by
      unfold rightT at h; simp at h; exact h.1.1
    unfold numsT
    rw [if_pos hs, h, Bool.true_and, Bool.eq_iff_iff]
    simp only [beq_iff_eq, List.isEmpty_iff]
    constructor
    · intro h6
      have h6' : rise (colT t 8 8) = [] := List.length_eq_zero_iff.1 (by omega)
      refine List.eq_nil_iff_forall_not_mem.2 fun x hx => ?_
      rw [← mem_rise, h6'] at hx; cases hx
    · intro h6
      rw [h6]; rfl
  · exact Evt.ifF (by simpa using h) (Evt.ret.eq (by simp [h]))
def runT : List Int → Int → Bool
  | [], _ => true
  | n :: r, m => n == m && runT r (m + 1)
theorem ev_srunL (l : List Int) (f : Int) (hf : 0 ≤ f ∧ f ≤ 1048576) (hl : l.length ≤ 1152921504606846976) : ∀ (r : List Int) (v : Nat), l.drop v = r → Evt (fun q => e264L16878 q l f (v : Int)) (runT r (f + v))
  | [], v, hd => by
    refine Evt.succ ?_
    simp only [e264L16878]
    exact Evt.ifF (drop_nil hd) Evt.ret
  | n :: r, v, hd => by
    have hlt := drop_lt hd
    refine Evt.succ ?_
    simp only [e264L16878]
    refine Evt.ifT (drop_dec hd) (Evt.pure (drop_idx hd) ?_)
    rw [w64_id (x := f + v) (by omega) (by omega), runT]
    by_cases h : n = f + v
    · refine Evt.ifF (by simp [h]) ?_
      rw [w64_nat v (by omega)]
      exact (ev_srunL l f hf hl r (v + 1) (drop_next hd)).eq (by rw [show f + ((v + 1 : Nat) : Int) = f + v + 1 by omega]; simp [h])
    · exact Evt.ifT (by simp [h]) (Evt.ret.eq (by simp [h]))
theorem ev_srun (l : List Int) (f : Int) (hf : 0 ≤ f ∧ f ≤ 1048576) (hl : l.length ≤ 1152921504606846976) : Evt (fun q => e264 q l f) (runT l f) := by
  simp only [e264]
  exact (ev_srunL l f hf hl l 0 rfl).eq (by simp)
def memT (l : List Ent) (of kind : Int) : List Int → Int → Bool
  | [], _ => true
  | n :: r, k => isT l n kind && (ent l n).fam == of && (ent l n).place == k && memT l of kind r (k + 1)
theorem ev_membersL (l : List Ent) (of kind : Int) (p : List Int) (hp : p.length ≤ 1152921504606846976) : ∀ (r : List Int) (v : Nat), p.drop v = r → Evt (fun q => e265L10666 q l of p kind (v : Int)) (memT l of kind r v)
  | [], v, hd => by
    refine Evt.succ ?_
    simp only [e265L10666]
    exact Evt.ifF (drop_nil hd) Evt.ret
  | n :: r, v, hd => by
    have hlt := drop_lt hd
    refine Evt.succ ?_
    simp only [e265L10666]
    refine Evt.ifT (drop_dec hd) (Evt.pure (drop_idx hd) ((ev_is l n kind).bind ?_))
    rw [memT]
    by_cases h : isT l n kind = true
    · have hs := isT_spec h
      refine Evt.ifT h (Evt.pure (gidx_ent hs.1 hs.2.1) ?_)
      by_cases h2 : (ent l n).fam = of
      · refine Evt.ifF (by simp [h2]) ?_
        by_cases h3 : (ent l n).place = v
        · refine Evt.ifF (by simp [h3]) ?_
          rw [w64_nat v (by omega)]
          exact (ev_membersL l of kind p hp r (v + 1) (drop_next hd)).eq (by simp [h, h2, h3])
        · exact Evt.ifT (by simp [h3]) (Evt.ret.eq (by simp [h3]))
      · exact Evt.ifT (by simp [h2]) (Evt.ret.eq (by simp [h2]))
    · exact Evt.ifF (by simpa using h) (Evt.ret.eq (by simp [h]))
theorem ev_members (l : List Ent) (of kind : Int) (p : List Int) (hp : p.length ≤ 1152921504606846976) : Evt (fun q => e265 q l of p kind) (memT l of kind p 0) := by
  simp only [e265]
  exact (ev_membersL l of kind p hp p 0 rfl).eq (by simp)

/-- an entry of EData -/
def famA (x : Ent) : Bool :=
  decide (0 ≤ x.pars) && decide (0 ≤ x.inds) && decide (x.pars ≤ 24) && decide (x.inds ≤ 24 - x.pars) && x.fam == 0 && x.place == 0 && noneT x.body
def famB (x : Ent) : Bool :=
  (splitT x.type (x.pars + x.inds)).2.2 == 0 && (splitT x.type (x.pars + x.inds)).2.1.k == 2 && (splitT x.type (x.pars + x.inds)).2.1.n == x.level
def famC (l : List Ent) (i : Int) (x : Ent) : Bool :=
  decide (x.cons.length ≤ 16) && runT x.cons (i + 1) && memT l i 2 x.cons 0
def famD (l : List Ent) (i : Int) (x : Ent) : Bool :=
  x.inds == 0 && decide (x.cons.length = 1) && runT x.fields (i + 2) && memT l i 4 x.fields 0 && (wholeT (ent l (i + 1)).type).2.2 == 0 && ((wholeT (ent l (i + 1)).type).1.length : Int) == x.pars + x.fields.length
def familyT (l : List Ent) (i : Int) : Bool :=
  famA (ent l i) && famB (ent l i) && famC l i (ent l i) && (decide ((ent l i).fields.length = 0) || famD l i (ent l i))
theorem ev_family (l : List Ent) (i : Int) (h0 : 0 ≤ i) (h1 : i < l.length) (hl : l.length ≤ 65535) (he : ∀ e ∈ l, EOk e) : Evt (fun q => e218 q l i) (familyT l i) := by
  simp only [e218]
  refine Evt.pure (gidx_ent h0 h1) ?_
  have hx := he _ (ent_mem h0 h1)
  have hfl : (ent l i).fields.length ≤ 1152921504606846976 := hx.2.2.2
  unfold familyT
  by_cases hA : famA (ent l i) = true
  · have hA' := hA
    unfold famA at hA'
    simp only [Bool.and_eq_true, decide_eq_true_eq, beq_iff_eq] at hA'
    obtain ⟨⟨⟨⟨⟨⟨a1, a2⟩, a3⟩, a4⟩, a5⟩, a6⟩, a7⟩ := hA'
    refine Evt.ifF (decide_eq_false (by omega)) (Evt.ifF (decide_eq_false (by omega)) (Evt.ifF (decide_eq_false (by omega)) (Evt.ifF (decide_eq_false (by rw [w64_id (by omega) (by omega)]; omega)) (Evt.ifF (by simp [a5]) (Evt.ifF (by simp [a6]) (((ev_none _).eq a7).bind (Evt.ifT rfl ?_)))))))
    rw [w64_id (by omega) (by omega)]
    refine (ev_Split (ent l i).type _ hx.1).bind ?_
    rw [hA]
    by_cases b1 : (splitT (ent l i).type ((ent l i).pars + (ent l i).inds)).2.2 = 0
    · refine Evt.ifF (by simp [b1]) ?_
      by_cases b2 : (splitT (ent l i).type ((ent l i).pars + (ent l i).inds)).2.1.k = 2
      · refine Evt.ifF (by simp [b2]) ?_
        by_cases b3 : (splitT (ent l i).type ((ent l i).pars + (ent l i).inds)).2.1.n = (ent l i).level
        · refine Evt.ifF (by simp [b3]) ?_
          have hB : famB (ent l i) = true := by unfold famB; simp [b1, b2, b3]
          rw [hB]
          by_cases c1 : (ent l i).cons.length ≤ 16
          · refine Evt.ifF (decide_eq_false (by omega)) ?_
            rw [w64_id (x := i + 1) (by omega) (by omega)]
            refine (ev_srun (ent l i).cons (i + 1) (by omega) (by omega)).bind ?_
            by_cases c2 : runT (ent l i).cons (i + 1) = true
            · refine Evt.ifT c2 ((ev_members l i 2 (ent l i).cons (by omega)).bind ?_)
              by_cases c3 : memT l i 2 (ent l i).cons 0 = true
              · refine Evt.ifT c3 ?_
                have hC : famC l i (ent l i) = true := by unfold famC; simp [c1, c2, c3]
                rw [hC]
                by_cases d0 : (ent l i).fields.length = 0
                · exact Evt.ifT (by simp [d0]) (Evt.ret.eq (by simp [d0]))
                · refine Evt.ifF (by have h : ((ent l i).fields.length : Int) ≠ 0 := (by omega); simpa using h) ?_
                  rw [show decide ((ent l i).fields.length = 0) = false by simp [d0]]
                  simp only [Bool.true_and, Bool.false_or]
                  unfold famD
                  by_cases d1 : (ent l i).inds = 0
                  · refine Evt.ifF (by simp [d1]) ?_
                    by_cases d2 : (ent l i).cons.length = 1
                    · refine Evt.ifF (by simp [d2]) ?_
                      rw [w64_id (x := i + 2) (by omega) (by omega)]
                      refine (ev_srun (ent l i).fields (i + 2) (by omega) hx.2.2.2).bind ?_
                      by_cases d3 : runT (ent l i).fields (i + 2) = true
                      · refine Evt.ifT d3 ((ev_members l i 4 (ent l i).fields hx.2.2.2).bind ?_)
                        by_cases d4 : memT l i 4 (ent l i).fields 0 = true
                        · have hi : i + 1 < l.length := by
                            obtain ⟨y, hy⟩ : ∃ y, (ent l i).cons = [y] := by
                              rcases hc : (ent l i).cons with _ | ⟨y, _ | ⟨z, r⟩⟩ <;> rw [hc] at d2 <;> simp at d2
                              exact ⟨y, rfl⟩
                            rw [hy] at c2 c3
                            rw [runT] at c2
                            rw [memT] at c3
                            simp only [Bool.and_eq_true, beq_iff_eq] at c2 c3
                            have := isT_spec c3.1.1.1
                            omega
                          refine Evt.ifT d4 (Evt.pure (gidx_ent (by omega) hi) ((ev_Whole _ (he _ (ent_mem (by omega) hi)).1).bind ?_))
                          by_cases d5 : (wholeT (ent l (i + 1)).type).2.2 = 0
                          · refine Evt.ifT (by simp [d5]) (Evt.ret.eq ?_)
                            rw [w64_id (x := (ent l i).pars + ((ent l i).fields.length : Int)) (by omega) (by omega)]
                            simp [d1, d2, d3, d4, d5]
                          · exact Evt.ifF (by simp [d5]) (Evt.ret.eq (by simp [d5]))
                        · exact Evt.ifF (by simpa using d4) (Evt.ret.eq (by simp [d4]))
                      · exact Evt.ifF (by simpa using d3) (Evt.ret.eq (by simp [d3]))
                    · exact Evt.ifT (by simp <;> omega) (Evt.ret.eq (by simp [d2]))
                  · exact Evt.ifT (by simp [d1]) (Evt.ret.eq (by simp [d1]))
              · refine Evt.ifF (by simpa using c3) (Evt.ret.eq ?_)
                unfold famC; simp [c3]
            · refine Evt.ifF (by simpa using c2) (Evt.ret.eq ?_)
              unfold famC; simp [c2]
          · refine Evt.ifT (decide_eq_true (by omega)) (Evt.ret.eq ?_)
            unfold famC; simp [c1]
        · refine Evt.ifT (by simp [b3]) (Evt.ret.eq ?_)
          unfold famB; simp [b3]
      · refine Evt.ifT (by simp [b2]) (Evt.ret.eq ?_)
        unfold famB; simp [b2]
    · refine Evt.ifT (by simp [b1]) (Evt.ret.eq ?_)
      unfold famB; simp [b1]
  · rw [show famA (ent l i) = false by simpa using hA]
    unfold famA at hA
    simp only [Bool.and_eq_true, decide_eq_true_eq, beq_iff_eq] at hA
    by_cases a1 : (ent l i).pars < 0
    · exact Evt.ifT (decide_eq_true a1) Evt.ret
    refine Evt.ifF (decide_eq_false a1) ?_
    by_cases a2 : (ent l i).inds < 0
    · exact Evt.ifT (decide_eq_true a2) Evt.ret
    refine Evt.ifF (decide_eq_false a2) ?_
    by_cases a3 : (ent l i).pars > 24
    · exact Evt.ifT (decide_eq_true a3) Evt.ret
    refine Evt.ifF (decide_eq_false a3) ?_
    rw [w64_id (x := 24 - (ent l i).pars) (by omega) (by omega)]
    by_cases a4 : (ent l i).inds > 24 - (ent l i).pars
    · exact Evt.ifT (decide_eq_true a4) Evt.ret
    refine Evt.ifF (decide_eq_false a4) ?_
    by_cases a5 : (ent l i).fam = 0
    · refine Evt.ifF (by simp [a5]) ?_
      by_cases a6 : (ent l i).place = 0
      · refine Evt.ifF (by simp [a6]) ((ev_none _).bind ?_)
        by_cases a7 : noneT (ent l i).body = true
        · exact absurd ⟨⟨⟨⟨⟨⟨by omega, by omega⟩, by omega⟩, by omega⟩, a5⟩, a6⟩, a7⟩ hA
        · exact Evt.ifF (by simpa using a7) Evt.ret
      · exact Evt.ifT (by simp [a6]) Evt.ret
    · exact Evt.ifT (by simp [a5]) Evt.ret
end Go.Proofs.YteiddempdecleaaGreat

namespace Go.Proofs.YteiddempdecleaaGreat
open Go Go.Ab

/- scholium/sign.owned -/
def e266 (qq : Nat) (p0 : List Ent) (p1 : Int) : Option (Bool) :=
  (gidx p0 p1) >>= fun x1 =>
  (e202 qq p0 x1.fam 1) >>= fun r3 =>
  if r3 = true then
    if decide (x1.fam ≥ p1) = true then
      some false
    else
      (gidx p0 x1.fam) >>= fun x7 =>
      if (x1.pars != x7.pars) = true then
        some false
      else
        (e263 qq x1.body) >>= fun r10 =>
        if r10 = true then
          if (x1.inds != 0) = true then
            some false
          else
            if (x1.level != 0) = true then
              some false
            else
              if decide ((w64 ((List.length x1.cons : Int) + (List.length x1.fields : Int))) > 0) = true then
                some false
              else
                if (x1.kind == 4) = true then
                  if decide (x1.place ≥ 0) = true then
                    if decide (x1.place < (List.length x7.fields : Int)) = true then
                      (gidx x7.fields x1.place) >>= fun x19 =>
                      some (x19 == p1)
                    else
                      some false
                  else
                    some false
                else
                  if decide (x1.place ≥ 0) = true then
                    if decide (x1.place < (List.length x7.cons : Int)) = true then
                      (gidx x7.cons x1.place) >>= fun x23 =>
                      some (x23 == p1)
                    else
                      some false
                  else
                    some false
        else
          some false
  else
    some false
theorem q266 : Tryz.prog.funcs[266]? = some Tryz.f266 ∧ Tryz.f266.body.isNone = false := ⟨Tryz.func266, by kernel_rfl⟩
theorem k266 {p0 : List Ent} {p1 : Int} {r : Bool} (h : CTri Tryz.prog 266 [] [.sl (flat entL p0) (List.length p0) .no, ai p1] (ab r) [] 0) : CT Tryz.prog 266 [] [.sl (flat entL p0) (List.length p0) .no, ai p1] (ab r) [] 0 := ⟨h, ⟨⟨trivial, dE _⟩, trivial, trivial⟩, forall_nil, trivial, forall_nil⟩
theorem c266 {qq : Nat} {p0 : List Ent} {p1 : Int} {r : Bool} (h : e266 qq p0 p1 = some r) : CT Tryz.prog 266 [] [.sl (flat entL p0) (List.length p0) .no, ai p1] (ab r) [] 0 := by
  unfold e266 at h
  obtain ⟨x1, h2, h⟩ := obind h
  obtain ⟨r3, h4, h⟩ := obind h
  have k := oA 0 (ix22 (o := .no) h2) o0
  rcases spl h with ⟨h5, h⟩ | ⟨h5, h⟩
  · have k := oK 3 [] h5 (c202 h4) k
    rcases spl h with ⟨h6, h⟩ | ⟨h6, h⟩
    · obtain rfl := sj h
      exact k266 (tF q266 0 [] (oB 2 h6 k) (by kernel_rfl))
    · obtain ⟨x7, h8, h⟩ := obind h
      have k := oA 2 (ix22 (o := .no) h8) <| oB 2 h6 k
      rcases spl h with ⟨h9, h⟩ | ⟨h9, h⟩
      · obtain rfl := sj h
        exact k266 (tF q266 0 [] (oB 1 h9 k) (by kernel_rfl))
      · obtain ⟨r10, h11, h⟩ := obind h
        have k := oB 1 h9 k
        rcases spl h with ⟨h12, h⟩ | ⟨h12, h⟩
        · have k := oK 1 [] h12 (c263 h11) k
          rcases spl h with ⟨h13, h⟩ | ⟨h13, h⟩
          · obtain rfl := sj h
            exact k266 (tF q266 0 [] (oB 2 h13 k) (by kernel_rfl))
          · have k := oB 2 h13 k
            rcases spl h with ⟨h14, h⟩ | ⟨h14, h⟩
            · obtain rfl := sj h
              exact k266 (tF q266 0 [] (oB 1 h14 k) (by kernel_rfl))
            · have k := oB 1 h14 k
              rcases spl h with ⟨h15, h⟩ | ⟨h15, h⟩
              · obtain rfl := sj h
                exact k266 (tF q266 0 [] (oB 5 h15 k) (by kernel_rfl))
              · have k := oA 1 (ix22 (o := .no) h8) <| oB 5 h15 k
                rcases spl h with ⟨h16, h⟩ | ⟨h16, h⟩
                · have k := oA 1 (ix22 (o := .no) h8) <| oB 2 h16 k
                  rcases spl h with ⟨h17, h⟩ | ⟨h17, h⟩
                  · have k := oB 2 h17 k
                    rcases spl h with ⟨h18, h⟩ | ⟨h18, h⟩
                    · obtain ⟨x19, h20, h⟩ := obind h
                      obtain rfl := sj h
                      exact k266 (tF q266 2 [] (oA 1 (ix34 (o := .no) h20) <| oB 2 h18 k) (by kernel_rfl))
                    · obtain rfl := sj h
                      exact k266 (tF q266 0 [] (oB 2 h18 k) (by kernel_rfl))
                  · obtain rfl := sj h
                    exact k266 (tF q266 0 [] (oB 2 h17 k) (by kernel_rfl))
                · have k := oB 2 h16 k
                  rcases spl h with ⟨h21, h⟩ | ⟨h21, h⟩
                  · have k := oB 1 h21 k
                    rcases spl h with ⟨h22, h⟩ | ⟨h22, h⟩
                    · obtain ⟨x23, h24, h⟩ := obind h
                      obtain rfl := sj h
                      exact k266 (tF q266 2 [] (oA 1 (ix34 (o := .no) h24) <| oB 2 h22 k) (by kernel_rfl))
                    · obtain rfl := sj h
                      exact k266 (tF q266 0 [] (oB 2 h22 k) (by kernel_rfl))
                  · obtain rfl := sj h
                    exact k266 (tF q266 0 [] (oB 1 h21 k) (by kernel_rfl))
        · obtain rfl := sj h
          exact k266 (tF q266 1 [] (oK 1 [] h12 (c263 h11) k) (by kernel_rfl))
  · obtain rfl := sj h
    exact k266 (tF q266 1 [] (oK 3 [] h5 (c202 h4) k) (by kernel_rfl))

end Go.Proofs.YteiddempdecleaaGreat

namespace Go.Proofs.YteiddempdecleaaGreat
open Go Go.Ab

/- scholium/sign.con -/
def e219 (qq : Nat) (p0 : List Ent) (p1 : Int) : Option (Bool) :=
  (gidx p0 p1) >>= fun x1 =>
  (e222 qq x1.type) >>= fun r3 =>
  (e266 qq p0 p1) >>= fun r5 =>
  if r5 = true then
    if (r3.2.2 == 0) = true then
      if decide ((List.length r3.1 : Int) ≥ x1.pars) = true then
        (gidx p0 x1.fam) >>= fun x10 =>
        (e267 qq r3.2.1 x1.fam x1.pars x10.inds (List.length r3.1 : Int)) >>= fun r12 =>
        some r12
      else
        some false
    else
      some false
  else
    some false
theorem q219 : Tryz.prog.funcs[219]? = some Tryz.f219 ∧ Tryz.f219.body.isNone = false := ⟨Tryz.func219, by kernel_rfl⟩
theorem k219 {p0 : List Ent} {p1 : Int} {r : Bool} (h : CTri Tryz.prog 219 [] [.sl (flat entL p0) (List.length p0) .no, ai p1] (ab r) [] 0) : CT Tryz.prog 219 [] [.sl (flat entL p0) (List.length p0) .no, ai p1] (ab r) [] 0 := ⟨h, ⟨⟨trivial, dE _⟩, trivial, trivial⟩, forall_nil, trivial, forall_nil⟩
theorem c219 {qq : Nat} {p0 : List Ent} {p1 : Int} {r : Bool} (h : e219 qq p0 p1 = some r) : CT Tryz.prog 219 [] [.sl (flat entL p0) (List.length p0) .no, ai p1] (ab r) [] 0 := by
  unfold e219 at h
  obtain ⟨x1, h2, h⟩ := obind h
  obtain ⟨r3, h4, h⟩ := obind h
  obtain ⟨r5, h6, h⟩ := obind h
  have k := oC 1 [] (c222 h4) <| oA 0 (ix22 (o := .no) h2) o0
  rcases spl h with ⟨h7, h⟩ | ⟨h7, h⟩
  · have k := oK 4 [] h7 (c266 h6) k
    rcases spl h with ⟨h8, h⟩ | ⟨h8, h⟩
    · have k := oA 1 (ix22 (o := .no) h2) <| oB 0 h8 k
      rcases spl h with ⟨h9, h⟩ | ⟨h9, h⟩
      · obtain ⟨x10, h11, h⟩ := obind h
        obtain ⟨r12, h13, h⟩ := obind h
        obtain rfl := sj h
        exact k219 (tF q219 0 [] (oC 2 [] (c267 h13) <| oA 1 (ix22 (o := .no) h11) <| oA 1 (ix22 (o := .no) h2) <| oA 1 (ix22 (o := .no) h2) <| oA 1 (ix22 (o := .no) h2) <| oB 1 h9 k) (by kernel_rfl))
      · obtain rfl := sj h
        exact k219 (tF q219 0 [] (oB 1 h9 k) (by kernel_rfl))
    · obtain rfl := sj h
      exact k219 (tF q219 0 [] (oB 0 h8 k) (by kernel_rfl))
  · obtain rfl := sj h
    exact k219 (tF q219 0 [] (oK 4 [] h7 (c266 h6) k) (by kernel_rfl))

end Go.Proofs.YteiddempdecleaaGreat

namespace Go.Proofs.YteiddempdecleaaGreat
open Go Go.Ab

/- scholium/sign.proj -/
def e220 (qq : Nat) (p0 : List Ent) (p1 : Int) : Option (Bool) :=
  (e266 qq p0 p1) >>= fun r1 =>
  if r1 = true then
    (gidx p0 p1) >>= fun x4 =>
    (e203 qq x4.type (w64 (x4.pars + 1))) >>= fun r6 =>
    if (r6.2.2 == 0) = true then
      (gidx r6.1 x4.pars) >>= fun x9 =>
      (e267 qq x9 x4.fam x4.pars 0 x4.pars) >>= fun r11 =>
      some r11
    else
      some false
  else
    some false
theorem q220 : Tryz.prog.funcs[220]? = some Tryz.f220 ∧ Tryz.f220.body.isNone = false := ⟨Tryz.func220, by kernel_rfl⟩
theorem k220 {p0 : List Ent} {p1 : Int} {r : Bool} (h : CTri Tryz.prog 220 [] [.sl (flat entL p0) (List.length p0) .no, ai p1] (ab r) [] 0) : CT Tryz.prog 220 [] [.sl (flat entL p0) (List.length p0) .no, ai p1] (ab r) [] 0 := ⟨h, ⟨⟨trivial, dE _⟩, trivial, trivial⟩, forall_nil, trivial, forall_nil⟩
theorem c220 {qq : Nat} {p0 : List Ent} {p1 : Int} {r : Bool} (h : e220 qq p0 p1 = some r) : CT Tryz.prog 220 [] [.sl (flat entL p0) (List.length p0) .no, ai p1] (ab r) [] 0 := by
  unfold e220 at h
  obtain ⟨r1, h2, h⟩ := obind h
  rcases spl h with ⟨h3, h⟩ | ⟨h3, h⟩
  · obtain ⟨x4, h5, h⟩ := obind h
    obtain ⟨r6, h7, h⟩ := obind h
    have k := oC 2 [] (c203 h7) <| oA 1 (ix22 (o := .no) h5) <| oA 1 (ix22 (o := .no) h5) <| oK 0 [] h3 (c266 h2) o0
    rcases spl h with ⟨h8, h⟩ | ⟨h8, h⟩
    · obtain ⟨x9, h10, h⟩ := obind h
      obtain ⟨r11, h12, h⟩ := obind h
      obtain rfl := sj h
      exact k220 (tF q220 0 [] (oC 1 [] (c267 h12) <| oA 1 (ix22 (o := .no) h5) <| oA 1 (ix22 (o := .no) h5) <| oA 1 (ix22 (o := .no) h5) <| oA 1 (ix23 (o := .no) h10) <| oA 0 (ix22 (o := .no) h5) <| oB 4 h8 k) (by kernel_rfl))
    · obtain rfl := sj h
      exact k220 (tF q220 0 [] (oB 4 h8 k) (by kernel_rfl))
  · obtain rfl := sj h
    exact k220 (tF q220 1 [] (oK 0 [] h3 (c266 h2) o0) (by kernel_rfl))

end Go.Proofs.YteiddempdecleaaGreat

namespace Go.Proofs.YteiddempdecleaaGreat
open Go Go.Ab

/- scholium/sign.def -/
def e221 (qq : Nat) (p0 : List Ent) (p1 : Int) : Option (Bool) :=
  (gidx p0 p1) >>= fun x1 =>
  (e217 qq x1.body p1) >>= fun r3 =>
  if r3 = true then
    if (x1.fam == 0) = true then
      if (x1.place == 0) = true then
        if (x1.pars == 0) = true then
          if (x1.inds == 0) = true then
            if (x1.level == 0) = true then
              some ((w64 ((List.length x1.cons : Int) + (List.length x1.fields : Int))) == 0)
            else
              some false
          else
            some false
        else
          some false
      else
        some false
    else
      some false
  else
    some false
theorem q221 : Tryz.prog.funcs[221]? = some Tryz.f221 ∧ Tryz.f221.body.isNone = false := ⟨Tryz.func221, by kernel_rfl⟩
theorem k221 {p0 : List Ent} {p1 : Int} {r : Bool} (h : CTri Tryz.prog 221 [] [.sl (flat entL p0) (List.length p0) .no, ai p1] (ab r) [] 0) : CT Tryz.prog 221 [] [.sl (flat entL p0) (List.length p0) .no, ai p1] (ab r) [] 0 := ⟨h, ⟨⟨trivial, dE _⟩, trivial, trivial⟩, forall_nil, trivial, forall_nil⟩
theorem c221 {qq : Nat} {p0 : List Ent} {p1 : Int} {r : Bool} (h : e221 qq p0 p1 = some r) : CT Tryz.prog 221 [] [.sl (flat entL p0) (List.length p0) .no, ai p1] (ab r) [] 0 := by
  unfold e221 at h
  obtain ⟨x1, h2, h⟩ := obind h
  obtain ⟨r3, h4, h⟩ := obind h
  have k := oA 0 (ix22 (o := .no) h2) o0
  rcases spl h with ⟨h5, h⟩ | ⟨h5, h⟩
  · have k := oK 3 [] h5 (c217 h4) k
    rcases spl h with ⟨h6, h⟩ | ⟨h6, h⟩
    · have k := oB 1 h6 k
      rcases spl h with ⟨h7, h⟩ | ⟨h7, h⟩
      · have k := oB 1 h7 k
        rcases spl h with ⟨h8, h⟩ | ⟨h8, h⟩
        · have k := oB 1 h8 k
          rcases spl h with ⟨h9, h⟩ | ⟨h9, h⟩
          · have k := oB 1 h9 k
            rcases spl h with ⟨h10, h⟩ | ⟨h10, h⟩
            · obtain rfl := sj h
              exact k221 (tF q221 6 [] (oB 1 h10 k) (by kernel_rfl))
            · obtain rfl := sj h
              exact k221 (tF q221 0 [] (oB 1 h10 k) (by kernel_rfl))
          · obtain rfl := sj h
            exact k221 (tF q221 0 [] (oB 1 h9 k) (by kernel_rfl))
        · obtain rfl := sj h
          exact k221 (tF q221 0 [] (oB 1 h8 k) (by kernel_rfl))
      · obtain rfl := sj h
        exact k221 (tF q221 0 [] (oB 1 h7 k) (by kernel_rfl))
    · obtain rfl := sj h
      exact k221 (tF q221 0 [] (oB 1 h6 k) (by kernel_rfl))
  · obtain rfl := sj h
    exact k221 (tF q221 0 [] (oK 3 [] h5 (c217 h4) k) (by kernel_rfl))

end Go.Proofs.YteiddempdecleaaGreat

namespace Go.Proofs.YteiddempdecleaaGreat
open Go Go.Ab

/-- the list in which an entry has its place -/
def ownL (l : List Ent) (x : Ent) : List Int := if x.kind = 4 then (ent l x.fam).fields else (ent l x.fam).cons
def ownA (l : List Ent) (i : Int) (x : Ent) : Bool :=
  isT l x.fam 1 && decide (x.fam < i) && x.pars == (ent l x.fam).pars && noneT x.body && x.inds == 0 && x.level == 0 && decide (x.cons.length = 0) && decide (x.fields.length = 0)
def ownB (l : List Ent) (i : Int) (x : Ent) : Bool :=
  decide (0 ≤ x.place) && decide (x.place < (ownL l x).length) && ((ownL l x)[x.place.toNat]?).getD (-1) == i
def ownedT (l : List Ent) (i : Int) : Bool := ownA l i (ent l i) && ownB l i (ent l i)
theorem gidx_getD {L : List Int} {n : Int} (h0 : 0 ≤ n) (h1 : n < L.length) : gidx L n = some ((L[n.toNat]?).getD (-1)) := by
  unfold gidx
  rw [if_pos h0]
  have : n.toNat < L.length := by omega
  rw [List.getElem?_eq_getElem this]; rfl
theorem ev_owned (l : List Ent) (i : Int) (h0 : 0 ≤ i) (h1 : i < l.length) (he : ∀ e ∈ l, EOk e) : Evt (fun q => e266 q l i) (ownedT l i) := by
  simp only [e266]
  refine Evt.pure (gidx_ent h0 h1) ((ev_is l _ 1).bind ?_)
  have hx := he _ (ent_mem h0 h1)
  have hc : (ent l i).cons.length ≤ 1152921504606846976 := hx.2.2.1
  have hf : (ent l i).fields.length ≤ 1152921504606846976 := hx.2.2.2
  unfold ownedT ownA
  by_cases a1 : isT l (ent l i).fam 1 = true
  · have hs := isT_spec a1
    refine Evt.ifT a1 ?_
    by_cases a2 : (ent l i).fam ≥ i
    · exact Evt.ifT (decide_eq_true a2) (Evt.ret.eq (by simp [show ¬ (ent l i).fam < i by omega]))
    refine Evt.ifF (decide_eq_false a2) (Evt.pure (gidx_ent hs.1 hs.2.1) ?_)
    by_cases a3 : (ent l i).pars = (ent l (ent l i).fam).pars
    · refine Evt.ifF (by simp [a3]) ((ev_none _).bind ?_)
      by_cases a4 : noneT (ent l i).body = true
      · refine Evt.ifT a4 ?_
        by_cases a5 : (ent l i).inds = 0
        · refine Evt.ifF (by simp [a5]) ?_
          by_cases a6 : (ent l i).level = 0
          · refine Evt.ifF (by simp [a6]) ?_
            rw [w64_id (x := ((ent l i).cons.length : Int) + ((ent l i).fields.length : Int)) (by omega) (by omega)]
            by_cases a7 : (ent l i).cons.length = 0 ∧ (ent l i).fields.length = 0
            · refine Evt.ifF (decide_eq_false (by omega)) ?_
              have last : ∀ L : List Int, ownL l (ent l i) = L → Evt (fun _ => if decide ((ent l i).place ≥ 0) = true then if decide ((ent l i).place < (List.length L : Int)) = true then (gidx L (ent l i).place) >>= fun x19 => some (x19 == i) else some false else some false) (ownB l i (ent l i)) := fun L hL => by
                unfold ownB
                rw [hL]
                by_cases b1 : (ent l i).place ≥ 0
                · refine Evt.ifT (decide_eq_true b1) ?_
                  by_cases b2 : (ent l i).place < (L.length : Int)
                  · exact Evt.ifT (decide_eq_true b2) (Evt.pure (gidx_getD b1 b2) (Evt.ret.eq (by simp [show 0 ≤ (ent l i).place from b1, b2])))
                  · exact Evt.ifF (decide_eq_false b2) (Evt.ret.eq (by simp [b2]))
                · exact Evt.ifF (decide_eq_false b1) (Evt.ret.eq (by simp [show ¬ 0 ≤ (ent l i).place from b1]))
              have e : (isT l (ent l i).fam 1 && decide ((ent l i).fam < i) && (ent l i).pars == (ent l (ent l i).fam).pars && noneT (ent l i).body && (ent l i).inds == 0 && (ent l i).level == 0 && decide ((ent l i).cons.length = 0) && decide ((ent l i).fields.length = 0)) = true := by
                simp [a1, show (ent l i).fam < i by omega, a3, a4, a5, a6, a7.1, a7.2]
              rw [e, Bool.true_and]
              by_cases a8 : (ent l i).kind = 4
              · exact Evt.ifT (by simp [a8]) (last _ (by unfold ownL; rw [if_pos a8]))
              · exact Evt.ifF (by simp [a8]) (last _ (by unfold ownL; rw [if_neg a8]))
            · refine Evt.ifT (decide_eq_true (by omega)) (Evt.ret.eq ?_)
              have : decide ((ent l i).cons.length = 0) = false ∨ decide ((ent l i).fields.length = 0) = false := by
                by_cases h : (ent l i).cons.length = 0
                · exact .inr (decide_eq_false fun h' => a7 ⟨h, h'⟩)
                · exact .inl (decide_eq_false h)
              rcases this with h | h <;> rw [h] <;> simp
          · exact Evt.ifT (by simp [a6]) (Evt.ret.eq (by simp [a6]))
        · exact Evt.ifT (by simp [a5]) (Evt.ret.eq (by simp [a5]))
      · exact Evt.ifF (by simpa using a4) (Evt.ret.eq (by simp [a4]))
    · exact Evt.ifT (by simp [a3]) (Evt.ret.eq (by simp [a3]))
  · exact Evt.ifF (by simpa using a1) (Evt.ret.eq (by simp [a1]))

/-- what is known of a family -/
theorem familyT_spec {l : List Ent} {i : Int} (h : familyT l i = true) : 0 ≤ (ent l i).pars ∧ 0 ≤ (ent l i).inds ∧ (ent l i).pars + (ent l i).inds ≤ 24 ∧ (ent l i).cons.length ≤ 16 := by
  unfold familyT famA famC at h
  simp only [Bool.and_eq_true, decide_eq_true_eq] at h
  exact ⟨by omega, by omega, by omega, by omega⟩
theorem ownedT_spec {l : List Ent} {i : Int} (h : ownedT l i = true) : 0 ≤ (ent l i).fam ∧ (ent l i).fam < i ∧ (ent l (ent l i).fam).kind = 1 ∧ (ent l i).pars = (ent l (ent l i).fam).pars ∧ 0 ≤ (ent l i).place ∧ (ent l i).place < (ownL l (ent l i)).length := by
  unfold ownedT ownA ownB at h
  simp only [Bool.and_eq_true, decide_eq_true_eq, beq_iff_eq] at h
  have hs := isT_spec h.1.1.1.1.1.1.1.1
  exact ⟨hs.1, h.1.1.1.1.1.1.1.2, hs.2.2, h.1.1.1.1.1.1.2, h.2.1.1, h.2.1.2⟩
/-- families below a number are as they must be -/
def FamsOk (l : List Ent) (i : Int) : Prop := ∀ j, 0 ≤ j → j < i → (ent l j).kind = 1 → familyT l j = true

def conT (l : List Ent) (i : Int) : Bool :=
  ownedT l i && ((wholeT (ent l i).type).2.2 == 0 && (decide ((ent l i).pars ≤ (wholeT (ent l i).type).1.length) && appliedT (wholeT (ent l i).type).2.1 (ent l i).fam (ent l i).pars (ent l (ent l i).fam).inds (wholeT (ent l i).type).1.length))
theorem ev_con (l : List Ent) (i : Int) (h0 : 0 ≤ i) (h1 : i < l.length) (he : ∀ e ∈ l, EOk e) (hF : FamsOk l i) : Evt (fun q => e219 q l i) (conT l i) := by
  simp only [e219]
  have hx := he _ (ent_mem h0 h1)
  refine Evt.pure (gidx_ent h0 h1) ((ev_Whole _ hx.1).bind ((ev_owned l i h0 h1 he).bind ?_))
  unfold conT
  by_cases a1 : ownedT l i = true
  · have hs := ownedT_spec a1
    have hf := familyT_spec (hF _ hs.1 hs.2.1 hs.2.2.1)
    refine Evt.ifT a1 ?_
    rw [a1, Bool.true_and]
    by_cases a2 : (wholeT (ent l i).type).2.2 = 0
    · refine Evt.ifT (by simp [a2]) ?_
      have hw := wholeT_ok (t := (ent l i).type) (l := (wholeT (ent l i).type).1) (y := (wholeT (ent l i).type).2.1) (by rw [← a2])
      by_cases a3 : (ent l i).pars ≤ (wholeT (ent l i).type).1.length
      · refine Evt.ifT (decide_eq_true a3) (Evt.pure (gidx_ent hs.1 (by omega)) ((ev_applied _ _ _ _ _ hw.2.2.2.2.1 (by omega) (by omega) (by have := hw.2.2.1; omega)).bind (Evt.ret.eq (by simp [a2, a3]))))
      · exact Evt.ifF (decide_eq_false a3) (Evt.ret.eq (by simp [a3]))
    · exact Evt.ifF (by simp [a2]) (Evt.ret.eq (by simp [a2]))
  · exact Evt.ifF (by simpa using a1) (Evt.ret.eq (by simp [a1]))

/-- one of some terms -/
def nth (l : List Tm) (n : Int) : Tm := (l[n.toNat]?).getD zT
theorem gidx_nth {l : List Tm} {n : Int} (h0 : 0 ≤ n) (h1 : n < l.length) : gidx l n = some (nth l n) := by
  unfold gidx nth
  rw [if_pos h0]
  have : n.toNat < l.length := by omega
  rw [List.getElem?_eq_getElem this]; rfl
theorem nth_mem {l : List Tm} {n : Int} (h0 : 0 ≤ n) (h1 : n < l.length) : nth l n ∈ l := by
  unfold nth
  have : n.toNat < l.length := by omega
  rw [List.getElem?_eq_getElem this]
  exact List.getElem_mem this
def projT (l : List Ent) (i : Int) : Bool :=
  ownedT l i && ((splitT (ent l i).type ((ent l i).pars + 1)).2.2 == 0 && appliedT (nth (splitT (ent l i).type ((ent l i).pars + 1)).1 (ent l i).pars) (ent l i).fam (ent l i).pars 0 (ent l i).pars)
theorem ev_proj (l : List Ent) (i : Int) (h0 : 0 ≤ i) (h1 : i < l.length) (he : ∀ e ∈ l, EOk e) (hF : FamsOk l i) : Evt (fun q => e220 q l i) (projT l i) := by
  simp only [e220]
  have hx := he _ (ent_mem h0 h1)
  refine (ev_owned l i h0 h1 he).bind ?_
  unfold projT
  by_cases a1 : ownedT l i = true
  · have hs := ownedT_spec a1
    have hf := familyT_spec (hF _ hs.1 hs.2.1 hs.2.2.1)
    refine Evt.ifT a1 (Evt.pure (gidx_ent h0 h1) ?_)
    rw [a1, Bool.true_and, w64_id (x := (ent l i).pars + 1) (by omega) (by omega)]
    refine (ev_Split _ _ hx.1).bind ?_
    by_cases a2 : (splitT (ent l i).type ((ent l i).pars + 1)).2.2 = 0
    · have hw := splitT_ok (t := (ent l i).type) (n := (ent l i).pars + 1) (l := (splitT (ent l i).type ((ent l i).pars + 1)).1) (y := (splitT (ent l i).type ((ent l i).pars + 1)).2.1) (by rw [← a2])
      refine Evt.ifT (by simp [a2]) (Evt.pure (gidx_nth (by omega) (by omega)) ((ev_applied _ _ _ _ _ (hw.2.2.2.2.2.2 _ (nth_mem (by omega) (by omega))) (by omega) (by omega) (by omega)).bind (Evt.ret.eq (by simp [a2]))))
    · exact Evt.ifF (by simp [a2]) (Evt.ret.eq (by simp [a2]))
  · exact Evt.ifF (by simpa using a1) (Evt.ret.eq (by simp [a1]))
def defT (l : List Ent) (i : Int) : Bool :=
  closedT' (ent l i).body i && ((ent l i).fam == 0 && ((ent l i).place == 0 && ((ent l i).pars == 0 && ((ent l i).inds == 0 && ((ent l i).level == 0 && (decide ((ent l i).cons.length = 0) && decide ((ent l i).fields.length = 0)))))))
theorem ev_def (l : List Ent) (i : Int) (h0 : 0 ≤ i) (h1 : i < l.length) (he : ∀ e ∈ l, EOk e) : Evt (fun q => e221 q l i) (defT l i) := by
  simp only [e221]
  have hx := he _ (ent_mem h0 h1)
  have hc : (ent l i).cons.length ≤ 1152921504606846976 := hx.2.2.1
  have hf : (ent l i).fields.length ≤ 1152921504606846976 := hx.2.2.2
  refine Evt.pure (gidx_ent h0 h1) ((ev_sclosed _ i hx.2.1).bind ?_)
  unfold defT
  by_cases a1 : closedT' (ent l i).body i = true
  · refine Evt.ifT a1 ?_
    rw [a1, Bool.true_and, w64_id (x := ((ent l i).cons.length : Int) + ((ent l i).fields.length : Int)) (by omega) (by omega)]
    have e : (((ent l i).cons.length : Int) + ((ent l i).fields.length : Int) == 0) = (decide ((ent l i).cons.length = 0) && decide ((ent l i).fields.length = 0)) := by
      rw [Bool.eq_iff_iff]
      simp only [beq_iff_eq, Bool.and_eq_true, decide_eq_true_eq]
      omega
    rw [e]
    refine Evt.mk fun q => ?_
    generalize (decide ((ent l i).cons.length = 0) && decide ((ent l i).fields.length = 0)) = z
    by_cases b1 : (ent l i).fam = 0 <;> by_cases b2 : (ent l i).place = 0 <;> by_cases b3 : (ent l i).pars = 0 <;> by_cases b4 : (ent l i).inds = 0 <;> by_cases b5 : (ent l i).level = 0 <;> simp [b1, b2, b3, b4, b5]
  · exact Evt.ifF (by simpa using a1) (Evt.ret.eq (by simp [a1]))
end Go.Proofs.YteiddempdecleaaGreat

namespace Go.Proofs.YteiddempdecleaaGreat
open Go Go.Ab

/- scholium/sign.Names -/
def e154L18721 : Nat → (List Ent) → (List ByteArray) → Int →  Option (List ByteArray)
  | 0, _, _, _ => none
  | qq + 1, p0, v3, v8 =>
    if decide (v8 < (List.length p0 : Int)) = true then
      (gidx p0 v8) >>= fun x2 =>
      (gapp 16 v3 [x2.name]) >>= fun l4 =>
      e154L18721 qq p0 l4 (w64 (v8 + 1))
    else
      some v3
def e154 (qq : Nat) (p0 : List Ent) : Option (List ByteArray) :=
  e154L18721 qq p0 [] 0
def g154L18721E0 (j : Nat → Value) (p0 : List Ent) (v3 : List ByteArray) (v8 : Int) : List AV := sp j 19 0 [(3, .sl (flat strC v3) (List.length v3) (.st 0 1)), (6, .sl (flat entL p0) (List.length p0) .no), (7, ai (List.length p0 : Int)), (8, ai v8)]
def g154L18721S0 (p0 : List Ent) (v3 : List ByteArray) (v8 : Int) : LSt := ⟨[], 0, [0], 1, []⟩
theorem q154 : Tryz.prog.funcs[154]? = some Tryz.f154 ∧ Tryz.f154.body.isNone = false := ⟨Tryz.func154, by kernel_rfl⟩
theorem k154 {p0 : List Ent} {r : List ByteArray} (h : CTri Tryz.prog 154 [] [.sl (flat entL p0) (List.length p0) .no] (.sl (flat strC r) (List.length r) .no) [] 0) : CT Tryz.prog 154 [] [.sl (flat entL p0) (List.length p0) .no] (.sl (flat strC r) (List.length r) .no) [] 0 := ⟨h, ⟨⟨trivial, dE _⟩, trivial⟩, forall_nil, dS _, forall_nil⟩
theorem l154L18721 : ∀ qq : Nat, (∀ (p0 : List Ent) (v3 : List ByteArray) (v8 : Int) (r : List ByteArray), e154L18721 qq p0 v3 v8 = some r → (∀ j, Dl Tryz.prog 0 (inn (inn (rgt (lft (rgt (rgt (bod Tryz.f154))))))) (g154L18721E0 j p0 v3 v8) (g154L18721S0 p0 v3 v8) (frameQ Tryz.prog 0 (FinQ Tryz.prog 0 Tryz.f154 (.sl (flat strC r) (List.length r) .no) [] 0) [.blk 0, .seq (rgt (rgt (rgt (bod Tryz.f154))))]))) := by
  intro qq
  induction qq with
  | zero =>
    exact fun _ _ _ _ h => nn h
  | succ qq ih =>
    intro p0 v3 v8 r h
    rw [e154L18721] at h
    rcases spl h with ⟨h1, h⟩ | ⟨h1, h⟩
    · obtain ⟨x2, h3, h⟩ := obind h
      obtain ⟨l4, h5, h⟩ := obind h
      exact fun j => lH 1 [] [] [1] [3, 6, 7, 8] (oD (dE p0) <| oD (dS l4) <| oP 4 (apS116 h5 (by simp)) <| oA 0 (ix22 (o := .no) h3) <| oB 0 h1 o0) (ih _ _ _ _ h) (fun j => by kernel_rfl)
    · obtain rfl := sj h
      exact fun j => lF 0 [] (oD (dS v3) <| oB 0 h1 o0) (by kernel_rfl)
theorem c154 {qq : Nat} {p0 : List Ent} {r : List ByteArray} (h : e154 qq p0 = some r) : CT Tryz.prog 154 [] [.sl (flat entL p0) (List.length p0) .no] (.sl (flat strC r) (List.length r) .no) [] 0 := by
  unfold e154 at h
  exact k154 (tH q154 1 [(none, 3, 1)] [] [0] [3, 6, 7, 8] (oD (dE p0) <| oD (dS ([] : List ByteArray)) o0) (l154L18721 _ _ _ _ _ h) (fun j => by kernel_rfl))

end Go.Proofs.YteiddempdecleaaGreat

namespace Go.Proofs.YteiddempdecleaaGreat
open Go Go.Ab

/- scholium/sign.entry -/
def e155 (qq : Nat) (p0 : List Ent) (p1 : Int) : Option (Bool) :=
  (gidx p0 p1) >>= fun x1 =>
  (e216 qq x1.name) >>= fun r3 =>
  if r3 = true then
    (e217 qq x1.type p1) >>= fun r6 =>
    if r6 = true then
      if (x1.kind == 1) = true then
        (e218 qq p0 p1) >>= fun r10 =>
        some r10
      else
        if (x1.kind == 2) = true then
          (e219 qq p0 p1) >>= fun r13 =>
          some r13
        else
          if (x1.kind == 4) = true then
            (e220 qq p0 p1) >>= fun r16 =>
            some r16
          else
            if (x1.kind == 3) = true then
              (e221 qq p0 p1) >>= fun r19 =>
              some r19
            else
              some false
    else
      some false
  else
    some false
theorem q155 : Tryz.prog.funcs[155]? = some Tryz.f155 ∧ Tryz.f155.body.isNone = false := ⟨Tryz.func155, by kernel_rfl⟩
theorem k155 {p0 : List Ent} {p1 : Int} {r : Bool} (h : CTri Tryz.prog 155 [] [.sl (flat entL p0) (List.length p0) .no, ai p1] (ab r) [] 0) : CT Tryz.prog 155 [] [.sl (flat entL p0) (List.length p0) .no, ai p1] (ab r) [] 0 := ⟨h, ⟨⟨trivial, dE _⟩, trivial, trivial⟩, forall_nil, trivial, forall_nil⟩
theorem c155 {qq : Nat} {p0 : List Ent} {p1 : Int} {r : Bool} (h : e155 qq p0 p1 = some r) : CT Tryz.prog 155 [] [.sl (flat entL p0) (List.length p0) .no, ai p1] (ab r) [] 0 := by
  unfold e155 at h
  obtain ⟨x1, h2, h⟩ := obind h
  obtain ⟨r3, h4, h⟩ := obind h
  have k := oA 0 (ix22 (o := .no) h2) o0
  rcases spl h with ⟨h5, h⟩ | ⟨h5, h⟩
  · obtain ⟨r6, h7, h⟩ := obind h
    have k := oA 1 (ix22 (o := .no) h2) <| oK 1 [] h5 (c216 h4) k
    rcases spl h with ⟨h8, h⟩ | ⟨h8, h⟩
    · have k := oA 1 (ix22 (o := .no) h2) <| oK 1 [] h8 (c217 h7) k
      rcases spl h with ⟨h9, h⟩ | ⟨h9, h⟩
      · obtain ⟨r10, h11, h⟩ := obind h
        obtain rfl := sj h
        exact k155 (tF q155 0 [] (oC 0 [] (c218 h11) <| oB 1 h9 k) (by kernel_rfl))
      · have k := oB 1 h9 k
        rcases spl h with ⟨h12, h⟩ | ⟨h12, h⟩
        · obtain ⟨r13, h14, h⟩ := obind h
          obtain rfl := sj h
          exact k155 (tF q155 0 [] (oC 0 [] (c219 h14) <| oB 0 h12 k) (by kernel_rfl))
        · have k := oB 0 h12 k
          rcases spl h with ⟨h15, h⟩ | ⟨h15, h⟩
          · obtain ⟨r16, h17, h⟩ := obind h
            obtain rfl := sj h
            exact k155 (tF q155 0 [] (oC 0 [] (c220 h17) <| oB 0 h15 k) (by kernel_rfl))
          · have k := oB 0 h15 k
            rcases spl h with ⟨h18, h⟩ | ⟨h18, h⟩
            · obtain ⟨r19, h20, h⟩ := obind h
              obtain rfl := sj h
              exact k155 (tF q155 0 [] (oC 0 [] (c221 h20) <| oB 0 h18 k) (by kernel_rfl))
            · obtain rfl := sj h
              exact k155 (tF q155 0 [] (oB 0 h18 k) (by kernel_rfl))
    · obtain rfl := sj h
      exact k155 (tF q155 1 [] (oK 1 [] h8 (c217 h7) k) (by kernel_rfl))
  · obtain rfl := sj h
    exact k155 (tF q155 1 [] (oK 1 [] h5 (c216 h4) k) (by kernel_rfl))

end Go.Proofs.YteiddempdecleaaGreat

namespace Go.Proofs.YteiddempdecleaaGreat
open Go Go.Ab

/- slices.Clone(()int,int) -/
def e113v0 (qq : Nat) (p0 : List Int) : Option (List Int) :=
  some []
theorem q113v0 : Tryz.prog.funcs[113]? = some Tryz.f113 ∧ Tryz.f113.body.isNone = false := ⟨Tryz.func113, by kernel_rfl⟩
theorem k113v0 {p0 : List Int} {r : List Int} (h : CTri Tryz.prog 113 [] [.sl (flat intC p0) (List.length p0) .nl] (.sl (flat intC r) (List.length r) .no) [] 0) : CT Tryz.prog 113 [] [.sl (flat intC p0) (List.length p0) .nl] (.sl (flat intC r) (List.length r) .no) [] 0 := ⟨h, ⟨⟨trivial, dI _⟩, trivial⟩, forall_nil, dI _, forall_nil⟩
theorem c113v0 {qq : Nat} {p0 : List Int} {r : List Int} (h : e113v0 qq p0 = some r) : CT Tryz.prog 113 [] [.sl (flat intC p0) (List.length p0) .nl] (.sl (flat intC r) (List.length r) .no) [] 0 := by
  unfold e113v0 at h
  obtain rfl := sj h
  exact k113v0 (tF q113v0 1 [] (oD (dI ([] : List Int)) o0) (by kernel_rfl))

end Go.Proofs.YteiddempdecleaaGreat

namespace Go.Proofs.YteiddempdecleaaGreat
open Go Go.Ab

/- slices.Clone(()int,int) -/
def e113v1 (qq : Nat) (p0 : List Int) : Option (List Int) :=
  (gapp 8 ([] : List Int) p0) >>= fun l1 =>
  some l1
theorem q113v1 : Tryz.prog.funcs[113]? = some Tryz.f113 ∧ Tryz.f113.body.isNone = false := ⟨Tryz.func113, by kernel_rfl⟩
theorem k113v1 {p0 : List Int} {r : List Int} (h : CTri Tryz.prog 113 [] [.sl (flat intC p0) (List.length p0) .nn] (.sl (flat intC r) (List.length r) .no) [] 0) : CT Tryz.prog 113 [] [.sl (flat intC p0) (List.length p0) .nn] (.sl (flat intC r) (List.length r) .no) [] 0 := ⟨h, ⟨⟨trivial, dI _⟩, trivial⟩, forall_nil, dI _, forall_nil⟩
theorem c113v1 {qq : Nat} {p0 : List Int} {r : List Int} (h : e113v1 qq p0 = some r) : CT Tryz.prog 113 [] [.sl (flat intC p0) (List.length p0) .nn] (.sl (flat intC r) (List.length r) .no) [] 0 := by
  unfold e113v1 at h
  obtain ⟨l1, h2, h⟩ := obind h
  by_cases h3 : List.length p0 = 0
  · obtain rfl := sj h
    exact k113v1 (tF q113v1 0 [] (oD (dI l1) <| oP 2 (apN34 h2 h3) o0) (by kernel_rfl))
  · obtain rfl := sj h
    exact k113v1 (tF q113v1 0 [] (oD (dI l1) <| oP 2 (apS34 h2 h3) o0) (by kernel_rfl))

end Go.Proofs.YteiddempdecleaaGreat

namespace Go.Proofs.YteiddempdecleaaGreat
open Go Go.Ab

/- a clone, whatever it is of -/
def e113 (_qq : Nat) (p0 : List Int) : Option (List Int) := gapp 8 [] p0
theorem c113 {qq : Nat} {p0 : List Int} {r : List Int} (h : e113 qq p0 = some r) : CT Tryz.prog 113 [] [.sl (flat intC p0) (List.length p0) .no] (.sl (flat intC r) (List.length r) .no) [] 0 := by
  have hr : r = p0 := by have := (gapp_spec h).2; simpa using this
  have h1 : e113v1 qq p0 = some r := by unfold e113v1; rw [show gapp 8 ([] : List Int) p0 = some r from h]; rfl
  have k1 := c113v1 h1
  refine ⟨CTri.nilcase (fun hn => ?_) k1.tri, ⟨⟨trivial, dI _⟩, trivial⟩, (fun _ h => nomatch h), dI _, (fun _ h => nomatch h)⟩
  have hp : p0 = [] := flat_nil codecI (by decide) hn
  subst hr
  subst hp
  exact (c113v0 (qq := qq) rfl).tri

end Go.Proofs.YteiddempdecleaaGreat

namespace Go.Proofs.YteiddempdecleaaGreat
open Go Go.Ab

/- scholium/sign.Copy -/
def e72L63498 : Nat → (List Ent) → (List Ent) → Int →  Option (List Ent)
  | 0, _, _, _ => none
  | qq + 1, p0, v3, v8 =>
    if decide (v8 < (List.length p0 : Int)) = true then
      (gidx p0 v8) >>= fun x2 =>
      (e84 qq x2.type) >>= fun r4 =>
      (e84 qq x2.body) >>= fun r6 =>
      (e113 qq x2.cons) >>= fun r8 =>
      (e113 qq x2.fields) >>= fun r10 =>
      (gapp 192 v3 [(Ent.mk x2.kind x2.name r4 r6 x2.fam x2.place x2.pars x2.inds x2.level r8 r10)]) >>= fun l12 =>
      e72L63498 qq p0 l12 (w64 (v8 + 1))
    else
      some v3
def e72 (qq : Nat) (p0 : List Ent) : Option (List Ent) :=
  e72L63498 qq p0 [] 0
def g72L63498E0 (j : Nat → Value) (p0 : List Ent) (v3 : List Ent) (v8 : Int) : List AV := sp j 34 0 [(3, .sl (flat entL v3) (List.length v3) (.st 0 15)), (6, .sl (flat entL p0) (List.length p0) .no), (7, ai (List.length p0 : Int)), (8, ai v8)]
def g72L63498S0 (p0 : List Ent) (v3 : List Ent) (v8 : Int) : LSt := ⟨[], 0, [0], 1, []⟩
theorem q72 : Tryz.prog.funcs[72]? = some Tryz.f72 ∧ Tryz.f72.body.isNone = false := ⟨Tryz.func72, by kernel_rfl⟩
theorem k72 {p0 : List Ent} {r : List Ent} (h : CTri Tryz.prog 72 [] [.sl (flat entL p0) (List.length p0) .no] (.sl (flat entL r) (List.length r) .no) [] 0) : CT Tryz.prog 72 [] [.sl (flat entL p0) (List.length p0) .no] (.sl (flat entL r) (List.length r) .no) [] 0 := ⟨h, ⟨⟨trivial, dE _⟩, trivial⟩, forall_nil, dE _, forall_nil⟩
theorem l72L63498 : ∀ qq : Nat, (∀ (p0 : List Ent) (v3 : List Ent) (v8 : Int) (r : List Ent), e72L63498 qq p0 v3 v8 = some r → (∀ j, Dl Tryz.prog 0 (inn (inn (rgt (lft (rgt (rgt (bod Tryz.f72))))))) (g72L63498E0 j p0 v3 v8) (g72L63498S0 p0 v3 v8) (frameQ Tryz.prog 0 (FinQ Tryz.prog 0 Tryz.f72 (.sl (flat entL r) (List.length r) .no) [] 0) [.blk 0, .seq (rgt (rgt (rgt (bod Tryz.f72))))]))) := by
  intro qq
  induction qq with
  | zero =>
    exact fun _ _ _ _ h => nn h
  | succ qq ih =>
    intro p0 v3 v8 r h
    rw [e72L63498] at h
    rcases spl h with ⟨h1, h⟩ | ⟨h1, h⟩
    · obtain ⟨x2, h3, h⟩ := obind h
      obtain ⟨r4, h5, h⟩ := obind h
      obtain ⟨r6, h7, h⟩ := obind h
      obtain ⟨r8, h9, h⟩ := obind h
      obtain ⟨r10, h11, h⟩ := obind h
      obtain ⟨l12, h13, h⟩ := obind h
      exact fun j => lH 1 [] [] [1] [3, 6, 7, 8] (oD (dE p0) <| oD (dE l12) <| oP 4 (apS22 h13 (by simp)) <| oC 1 [] (c113 h11) <| oC 3 [] (c113 h9) <| oC 1 [] (c84 h7) <| oC 3 [] (c84 h5) <| oA 0 (ix22 (o := .no) h3) <| oB 0 h1 o0) (ih _ _ _ _ h) (fun j => by kernel_rfl)
    · obtain rfl := sj h
      exact fun j => lF 0 [] (oD (dE v3) <| oB 0 h1 o0) (by kernel_rfl)
theorem c72 {qq : Nat} {p0 : List Ent} {r : List Ent} (h : e72 qq p0 = some r) : CT Tryz.prog 72 [] [.sl (flat entL p0) (List.length p0) .no] (.sl (flat entL r) (List.length r) .no) [] 0 := by
  unfold e72 at h
  exact k72 (tH q72 1 [(none, 3, 15)] [] [0] [3, 6, 7, 8] (oD (dE p0) <| oD (dE ([] : List Ent)) o0) (l72L63498 _ _ _ _ _ h) (fun j => by kernel_rfl))

end Go.Proofs.YteiddempdecleaaGreat

namespace Go.Proofs.YteiddempdecleaaGreat
open Go Go.Ab

/- scholium/sign.Formed -/
def e73L47399 : Nat → (List Ent) → Int →  Option (Bool)
  | 0, _, _ => none
  | qq + 1, p0, v15 =>
    if decide (v15 < (List.length p0 : Int)) = true then
      (e155 qq p0 v15) >>= fun r8 =>
      if r8 = true then
        e73L47399 qq p0 (w64 (v15 + 1))
      else
        some false
    else
      some true
def e73 (qq : Nat) (p0 : List Ent) : Option (Bool) :=
  if decide ((List.length p0 : Int) > 256) = true then
    some false
  else
    (e154 qq p0) >>= fun r2 =>
    (e153 qq r2) >>= fun r4 =>
    if r4 = true then
      e73L47399 qq p0 0
    else
      some false
def g73L47399E0 (j : Nat → Value) (p0 : List Ent) (v15 : Int) : List AV := sp j 23 0 [(0, .sl (flat entL p0) (List.length p0) .no), (14, ai (List.length p0 : Int)), (15, ai v15)]
def g73L47399S0 (p0 : List Ent) (v15 : Int) : LSt := ⟨[], 0, [], 0, []⟩
theorem q73 : Tryz.prog.funcs[73]? = some Tryz.f73 ∧ Tryz.f73.body.isNone = false := ⟨Tryz.func73, by kernel_rfl⟩
theorem k73 {p0 : List Ent} {r : Bool} (h : CTri Tryz.prog 73 [] [.sl (flat entL p0) (List.length p0) .no] (ab r) [] 0) : CT Tryz.prog 73 [] [.sl (flat entL p0) (List.length p0) .no] (ab r) [] 0 := ⟨h, ⟨⟨trivial, dE _⟩, trivial⟩, forall_nil, trivial, forall_nil⟩
theorem l73L47399 : ∀ qq : Nat, (∀ (p0 : List Ent) (v15 : Int) (r : Bool), e73L47399 qq p0 v15 = some r → (∀ j, Dl Tryz.prog 0 (inn (inn (rgt (lft (rgt (rgt (bod Tryz.f73))))))) (g73L47399E0 j p0 v15) (g73L47399S0 p0 v15) (frameQ Tryz.prog 0 (FinQ Tryz.prog 0 Tryz.f73 (ab r) [] 0) [.blk 0, .seq (rgt (rgt (rgt (bod Tryz.f73))))]))) := by
  intro qq
  induction qq with
  | zero =>
    exact fun _ _ _ h => nn h
  | succ qq ih =>
    intro p0 v15 r h
    rw [e73L47399] at h
    rcases spl h with ⟨h7, h⟩ | ⟨h7, h⟩
    · obtain ⟨r8, h9, h⟩ := obind h
      have k := oB 0 h7 o0
      rcases spl h with ⟨h10, h⟩ | ⟨h10, h⟩
      · exact fun j => lH 2 [] [] [] [0, 14, 15] (oD (dE p0) <| oK 0 [] h10 (c155 h9) k) (ih _ _ _ h) (fun j => by kernel_rfl)
      · obtain rfl := sj h
        exact fun j => lF 1 [] (oK 0 [] h10 (c155 h9) k) (by kernel_rfl)
    · obtain rfl := sj h
      exact fun j => lF 0 [] (oB 0 h7 o0) (by kernel_rfl)
theorem c73 {qq : Nat} {p0 : List Ent} {r : Bool} (h : e73 qq p0 = some r) : CT Tryz.prog 73 [] [.sl (flat entL p0) (List.length p0) .no] (ab r) [] 0 := by
  unfold e73 at h
  rcases spl h with ⟨h1, h⟩ | ⟨h1, h⟩
  · obtain rfl := sj h
    exact k73 (tF q73 0 [] (oB 1 h1 o0) (by kernel_rfl))
  · obtain ⟨r2, h3, h⟩ := obind h
    obtain ⟨r4, h5, h⟩ := obind h
    have k := oC 0 [] (c154 h3) <| oB 1 h1 o0
    rcases spl h with ⟨h6, h⟩ | ⟨h6, h⟩
    · exact k73 (tH q73 2 [] [] [] [0, 14, 15] (oD (dE p0) <| oK 0 [] h6 (c153 h5) k) (l73L47399 _ _ _ _ h) (fun j => by kernel_rfl))
    · obtain rfl := sj h
      exact k73 (tF q73 1 [] (oK 0 [] h6 (c153 h5) k) (by kernel_rfl))

end Go.Proofs.YteiddempdecleaaGreat

namespace Go.Proofs.YteiddempdecleaaGreat
open Go Go.Ab

/-- one entry; N: which texts are names -/
def entryT (N : ByteArray → Bool) (l : List Ent) (i : Int) : Bool :=
  N (ent l i).name && (closedT' (ent l i).type i &&
    (if (ent l i).kind = 1 then familyT l i else if (ent l i).kind = 2 then conT l i else if (ent l i).kind = 4 then projT l i else if (ent l i).kind = 3 then defT l i else false))
/-- the entries that follow -/
def allE (N : ByteArray → Bool) (l : List Ent) : Nat → Nat → Bool
  | 0, _ => true
  | m + 1, v => entryT N l v && allE N l m (v + 1)
/-- N says which texts are names -/
def NamesBy (N : ByteArray → Bool) : Prop := ∀ s, Evt (fun q => e216 q s) (N s)
theorem names_by : ∃ N, NamesBy N := by
  have h : ∀ s, ∃ b, Evt (fun q => e216 q s) b := fun s => by
    obtain ⟨b, hb, _⟩ := tot_nRight s
    exact ⟨b, hb⟩
  exact ⟨fun s => Classical.choose (h s), fun s => Classical.choose_spec (h s)⟩
theorem ev_entry (N : ByteArray → Bool) (hN : NamesBy N) (l : List Ent) (i : Int) (h0 : 0 ≤ i) (h1 : i < l.length) (hl : l.length ≤ 65535) (he : ∀ e ∈ l, EOk e) (hF : FamsOk l i) : Evt (fun q => e155 q l i) (entryT N l i) := by
  simp only [e155]
  have hx := he _ (ent_mem h0 h1)
  refine Evt.pure (gidx_ent h0 h1) ((hN _).bind ?_)
  unfold entryT
  by_cases a1 : N (ent l i).name = true
  · refine Evt.ifT a1 ((ev_sclosed _ i hx.1).bind ?_)
    rw [a1, Bool.true_and]
    by_cases a2 : closedT' (ent l i).type i = true
    · refine Evt.ifT a2 ?_
      rw [a2, Bool.true_and]
      by_cases k1 : (ent l i).kind = 1
      · rw [if_pos k1]; exact Evt.ifT (by simp [k1]) ((ev_family l i h0 h1 hl he).bind Evt.ret)
      rw [if_neg k1]
      refine Evt.ifF (by simp [k1]) ?_
      by_cases k2 : (ent l i).kind = 2
      · rw [if_pos k2]; exact Evt.ifT (by simp [k2]) ((ev_con l i h0 h1 he hF).bind Evt.ret)
      rw [if_neg k2]
      refine Evt.ifF (by simp [k2]) ?_
      by_cases k4 : (ent l i).kind = 4
      · rw [if_pos k4]; exact Evt.ifT (by simp [k4]) ((ev_proj l i h0 h1 he hF).bind Evt.ret)
      rw [if_neg k4]
      refine Evt.ifF (by simp [k4]) ?_
      by_cases k3 : (ent l i).kind = 3
      · rw [if_pos k3]; exact Evt.ifT (by simp [k3]) ((ev_def l i h0 h1 he).bind Evt.ret)
      · rw [if_neg k3]; exact Evt.ifF (by simp [k3]) Evt.ret
    · exact Evt.ifF (by simpa using a2) (Evt.ret.eq (by simp [a2]))
  · exact Evt.ifF (by simpa using a1) (Evt.ret.eq (by simp [a1]))
theorem ev_NamesL : ∀ (r l : List Ent) (v : Nat) (acc : List ByteArray), l.drop v = r → l.length ≤ 65535 → acc.length ≤ v → Evt (fun q => e154L18721 q l acc (v : Int)) (acc ++ r.map Ent.name)
  | [], l, v, acc, hd, hl, ha => by
    refine Evt.succ ?_
    simp only [e154L18721]
    exact Evt.ifF (drop_nil hd) (Evt.ret.eq (by simp))
  | x :: r, l, v, acc, hd, hl, ha => by
    have hlt := drop_lt hd
    refine Evt.succ ?_
    simp only [e154L18721]
    refine Evt.ifT (drop_dec hd) (Evt.pure (drop_idx hd) (Evt.pure (gapp_ok (by simp <;> omega)) ?_))
    rw [w64_nat v (by omega)]
    exact (ev_NamesL r l (v + 1) _ (drop_next hd) hl (by simp <;> omega)).eq (by simp)
theorem ev_Names (l : List Ent) (hl : l.length ≤ 65535) : Evt (fun q => e154 q l) (l.map Ent.name) := by
  simp only [e154]
  exact (ev_NamesL l l 0 [] rfl hl (by simp)).eq (by simp)
theorem ev_FormedL (N : ByteArray → Bool) (hN : NamesBy N) (l : List Ent) (hl : l.length ≤ 65535) (he : ∀ e ∈ l, EOk e) : ∀ (m v : Nat), v + m = l.length → FamsOk l v → Evt (fun q => e73L47399 q l (v : Int)) (allE N l m v) := by
  intro m
  induction m with
  | zero =>
    intro v hm hF
    refine Evt.succ ?_
    simp only [e73L47399]
    exact Evt.ifF (decide_eq_false (by omega)) Evt.ret
  | succ m ih =>
    intro v hm hF
    refine Evt.succ ?_
    simp only [e73L47399]
    refine Evt.ifT (decide_eq_true (by omega)) ((ev_entry N hN l v (by omega) (by omega) hl he hF).bind ?_)
    rw [allE]
    by_cases h : entryT N l v = true
    · refine Evt.ifT h ?_
      rw [w64_nat v (by omega), h, Bool.true_and]
      refine ih (v + 1) (by omega) fun j hj0 hj1 hk => ?_
      by_cases e : j = v
      · subst e
        unfold entryT at h
        simp only [Bool.and_eq_true] at h
        have := h.2.2
        rwa [if_pos hk] at this
      · exact hF j hj0 (by omega) hk
    · exact Evt.ifF (by simpa using h) (Evt.ret.eq (by simp [h]))
/-- a signature that is formed; d: no name stands twice -/
def formedT (N : ByteArray → Bool) (d : Bool) (l : List Ent) : Bool := decide (l.length ≤ 256) && (d && allE N l l.length 0)
theorem ev_Formed (N : ByteArray → Bool) (hN : NamesBy N) (l : List Ent) (hl : l.length ≤ 65535) (he : ∀ e ∈ l, EOk e) : ∃ d, Evt (fun q => e153 q (l.map Ent.name)) d ∧ Evt (fun q => e73 q l) (formedT N d l) := by
  obtain ⟨d, hd, _⟩ := tot_Distinct (l.map Ent.name) (by simpa using hl)
  refine ⟨d, hd, ?_⟩
  simp only [e73]
  unfold formedT
  by_cases h : l.length ≤ 256
  · refine Evt.ifF (decide_eq_false (by omega)) ((ev_Names l hl).bind (hd.bind ?_))
    cases d with
    | false => exact Evt.ifF rfl (Evt.ret.eq (by simp))
    | true => exact Evt.ifT rfl ((ev_FormedL N hN l hl he l.length 0 (by omega) (fun j h0 h1 => by omega)).eq (by simp [h]))
  · exact Evt.ifT (decide_eq_true (by omega)) (Evt.ret.eq (by simp [h]))
theorem allE_spec {N : ByteArray → Bool} {l : List Ent} : ∀ {m v : Nat}, allE N l m v = true → ∀ j, v ≤ j → j < v + m → entryT N l (j : Int) = true
  | 0, v, _, j, h0, h1 => by omega
  | m + 1, v, h, j, h0, h1 => by
    rw [allE] at h
    simp only [Bool.and_eq_true] at h
    by_cases e : j = v
    · subst e; exact h.1
    · exact allE_spec h.2 j (by omega) (by omega)
/-- each entry is what it must be -/
def AllE (N : ByteArray → Bool) (l : List Ent) : Prop := l.length ≤ 256 ∧ ∀ i : Int, 0 ≤ i → i < l.length → entryT N l i = true
theorem formedT_spec {N : ByteArray → Bool} {d : Bool} {l : List Ent} (h : formedT N d l = true) : AllE N l := by
  unfold formedT at h
  simp only [Bool.and_eq_true, decide_eq_true_eq] at h
  refine ⟨h.1, fun i h0 h1 => ?_⟩
  have := allE_spec h.2.2 i.toNat (by omega) (by omega)
  rwa [show ((i.toNat : Nat) : Int) = i by omega] at this
theorem entryT_spec {N : ByteArray → Bool} {l : List Ent} {i : Int} (h : entryT N l i = true) : closedT' (ent l i).type i = true ∧
    ((ent l i).kind = 1 → familyT l i = true) ∧ ((ent l i).kind = 2 → conT l i = true) ∧ ((ent l i).kind = 4 → projT l i = true) ∧ ((ent l i).kind = 3 → defT l i = true) ∧ ((ent l i).kind = 1 ∨ (ent l i).kind = 2 ∨ (ent l i).kind = 3 ∨ (ent l i).kind = 4) := by
  unfold entryT at h
  simp only [Bool.and_eq_true] at h
  obtain ⟨_, h2, h3⟩ := h
  refine ⟨h2, fun k => by rwa [if_pos k] at h3, fun k => ?_, fun k => ?_, fun k => ?_, ?_⟩
  · rwa [if_neg (by omega), if_pos k] at h3
  · rwa [if_neg (by omega), if_neg (by omega), if_pos k] at h3
  · rwa [if_neg (by omega), if_neg (by omega), if_neg (by omega), if_pos k] at h3
  · split at h3
    · exact .inl (by assumption)
    · split at h3
      · exact .inr (.inl (by assumption))
      · split at h3
        · exact .inr (.inr (.inr (by assumption)))
        · split at h3
          · exact .inr (.inr (.inl (by assumption)))
          · cases h3

/- copies -/
def copE (e : Ent) : Ent := Ent.mk e.kind e.name (copT e.type) (copT e.body) e.fam e.place e.pars e.inds e.level e.cons e.fields
/-- lists that may be cloned -/
def ECl (e : Ent) : Prop := e.cons.length ≤ 17592186044416 ∧ e.fields.length ≤ 17592186044416
theorem ev_CopyL : ∀ (r l acc : List Ent) (v : Nat), l.drop v = r → l.length ≤ 65535 → (∀ e ∈ l, EOk e) → (∀ e ∈ l, ECl e) → acc.length ≤ v → Evt (fun q => e72L63498 q l acc (v : Int)) (acc ++ r.map copE)
  | [], l, acc, v, hd, hl, he, hc, ha => by
    refine Evt.succ ?_
    simp only [e72L63498]
    exact Evt.ifF (drop_nil hd) (Evt.ret.eq (by simp))
  | x :: r, l, acc, v, hd, hl, he, hc, ha => by
    have hlt := drop_lt hd
    have hx : x ∈ l := by
      have : x ∈ l.drop v := by rw [hd]; simp
      exact List.mem_of_mem_drop this
    have hE := he x hx
    have hC := hc x hx
    refine Evt.succ ?_
    simp only [e72L63498]
    refine Evt.ifT (drop_dec hd) (Evt.pure (drop_idx hd) ((ev_Copy _ hE.1).bind ((ev_Copy _ hE.2.1).bind ?_)))
    refine Evt.bind (a := x.cons) (Evt.mk fun q => (gapp_ok (by have := hC.1; simp <;> omega)).trans (by simp)) (Evt.bind (a := x.fields) (Evt.mk fun q => (gapp_ok (by have := hC.2; simp <;> omega)).trans (by simp)) (Evt.pure (gapp_ok (by simp <;> omega)) ?_))
    rw [w64_nat v (by omega)]
    exact (ev_CopyL r l _ (v + 1) (drop_next hd) hl he hc (by simp <;> omega)).eq (by simp [copE])
theorem ev_sCopy (l : List Ent) (hl : l.length ≤ 65535) (he : ∀ e ∈ l, EOk e) (hc : ∀ e ∈ l, ECl e) : Evt (fun q => e72 q l) (l.map copE) := by
  simp only [e72]
  exact (ev_CopyL l l [] 0 rfl hl he hc (by simp)).eq (by simp)
theorem closed_shaped {t : Tm} {n : Int} (h : closedT' t n = true) : shapedT t = true := by
  unfold closedT' rightT at h
  simp only [Bool.and_eq_true] at h
  exact h.1.1.1
theorem noneT_spec {t : Tm} (h : noneT t = true) : t = zT := by
  unfold noneT at h
  simp only [Bool.and_eq_true, beq_iff_eq] at h
  obtain ⟨k, n, l⟩ := t
  have h1 : k = 0 := h.1.1
  have h2 : n = 0 := h.1.2
  have h3 : l = [] := List.length_eq_zero_iff.1 (by have : (l.length : Int) = 0 := h.2; omega)
  subst h1; subst h2; subst h3; rfl
theorem copT_none {t : Tm} (h : noneT t = true) : copT t = t := by
  rw [noneT_spec h]
  unfold copT
  split
  · rfl
  · rfl
theorem copE_same {N : ByteArray → Bool} {l : List Ent} {i : Int} (h : entryT N l i = true) : copE (ent l i) = ent l i := by
  have hs := entryT_spec h
  have h1 : copT (ent l i).type = (ent l i).type := by unfold copT; rw [if_pos (closed_shaped hs.1)]
  have own : ownedT l i = true → copT (ent l i).body = (ent l i).body := fun ho => by
    unfold ownedT ownA at ho
    simp only [Bool.and_eq_true] at ho
    exact copT_none ho.1.1.1.1.1.2
  have h2 : copT (ent l i).body = (ent l i).body := by
    rcases hs.2.2.2.2.2 with k | k | k | k
    · have := hs.2.1 k
      unfold familyT famA at this
      simp only [Bool.and_eq_true] at this
      exact copT_none this.1.1.1.2
    · have := hs.2.2.1 k
      unfold conT at this
      simp only [Bool.and_eq_true] at this
      exact own this.1
    · have := hs.2.2.2.2.1 k
      unfold defT at this
      simp only [Bool.and_eq_true] at this
      unfold copT; rw [if_pos (closed_shaped this.1)]
    · have := hs.2.2.2.1 k
      unfold projT at this
      simp only [Bool.and_eq_true] at this
      exact own this.1
  unfold copE
  rw [h1, h2]
theorem copy_same {N : ByteArray → Bool} {l : List Ent} (h : AllE N l) : l.map copE = l := by
  refine List.ext_getElem (by simp) fun i h1 h2 => ?_
  simp only [List.getElem_map]
  have := copE_same (h.2 (i : Int) (by omega) (by omega))
  have e : ent l (i : Int) = l[i] := by
    unfold ent
    rw [show (i : Int).toNat = i by omega, List.getElem?_eq_getElem h2]; rfl
  rwa [e] at this
end Go.Proofs.YteiddempdecleaaGreat

namespace Go.Proofs.YteiddempdecleaaGreat
open Go Go.Ab

/- slices.Clone(()scholium/api.Term,scholium/api.Term) -/
def e118v0 (qq : Nat) (p0 : List Tm) : Option (List Tm) :=
  some []
theorem q118v0 : Tryz.prog.funcs[118]? = some Tryz.f118 ∧ Tryz.f118.body.isNone = false := ⟨Tryz.func118, by kernel_rfl⟩
theorem k118v0 {p0 : List Tm} {r : List Tm} (h : CTri Tryz.prog 118 [] [.sl (flat tmCells p0) (List.length p0) .nl] (.sl (flat tmCells r) (List.length r) .no) [] 0) : CT Tryz.prog 118 [] [.sl (flat tmCells p0) (List.length p0) .nl] (.sl (flat tmCells r) (List.length r) .no) [] 0 := ⟨h, ⟨⟨trivial, dT _⟩, trivial⟩, forall_nil, dT _, forall_nil⟩
theorem c118v0 {qq : Nat} {p0 : List Tm} {r : List Tm} (h : e118v0 qq p0 = some r) : CT Tryz.prog 118 [] [.sl (flat tmCells p0) (List.length p0) .nl] (.sl (flat tmCells r) (List.length r) .no) [] 0 := by
  unfold e118v0 at h
  obtain rfl := sj h
  exact k118v0 (tF q118v0 1 [] (oD (dT ([] : List Tm)) o0) (by kernel_rfl))

end Go.Proofs.YteiddempdecleaaGreat

namespace Go.Proofs.YteiddempdecleaaGreat
open Go Go.Ab

/- slices.Clone(()scholium/api.Term,scholium/api.Term) -/
def e118v1 (qq : Nat) (p0 : List Tm) : Option (List Tm) :=
  (gapp 40 ([] : List Tm) p0) >>= fun l1 =>
  some l1
theorem q118v1 : Tryz.prog.funcs[118]? = some Tryz.f118 ∧ Tryz.f118.body.isNone = false := ⟨Tryz.func118, by kernel_rfl⟩
theorem k118v1 {p0 : List Tm} {r : List Tm} (h : CTri Tryz.prog 118 [] [.sl (flat tmCells p0) (List.length p0) .nn] (.sl (flat tmCells r) (List.length r) .no) [] 0) : CT Tryz.prog 118 [] [.sl (flat tmCells p0) (List.length p0) .nn] (.sl (flat tmCells r) (List.length r) .no) [] 0 := ⟨h, ⟨⟨trivial, dT _⟩, trivial⟩, forall_nil, dT _, forall_nil⟩
theorem c118v1 {qq : Nat} {p0 : List Tm} {r : List Tm} (h : e118v1 qq p0 = some r) : CT Tryz.prog 118 [] [.sl (flat tmCells p0) (List.length p0) .nn] (.sl (flat tmCells r) (List.length r) .no) [] 0 := by
  unfold e118v1 at h
  obtain ⟨l1, h2, h⟩ := obind h
  by_cases h3 : List.length p0 = 0
  · obtain rfl := sj h
    exact k118v1 (tF q118v1 0 [] (oD (dT l1) <| oP 2 (apN23 h2 h3) o0) (by kernel_rfl))
  · obtain rfl := sj h
    exact k118v1 (tF q118v1 0 [] (oD (dT l1) <| oP 2 (apS23 h2 h3) o0) (by kernel_rfl))

end Go.Proofs.YteiddempdecleaaGreat

namespace Go.Proofs.YteiddempdecleaaGreat
open Go Go.Ab

/- slices.Clone(()scholium/api.Term,scholium/api.Term) -/
def e118vr0 (qq : Nat) (p0 : List Tm) : Option (Unit) :=
  some ()
theorem q118vr0 : Tryz.prog.funcs[118]? = some Tryz.f118 ∧ Tryz.f118.body.isNone = false := ⟨Tryz.func118, by kernel_rfl⟩
theorem k118vr0 {p0 : List Tm}  (h : CTri Tryz.prog 118 [] [.sl (flat tmCells p0) (List.length p0) .nl] (.sl (flat tmCells ([] : List Tm)) (List.length ([] : List Tm)) .full) [] 0) : CT Tryz.prog 118 [] [.sl (flat tmCells p0) (List.length p0) .nl] (.sl (flat tmCells ([] : List Tm)) (List.length ([] : List Tm)) .full) [] 0 := ⟨h, ⟨⟨trivial, dT _⟩, trivial⟩, forall_nil, dT _, forall_nil⟩
theorem c118vr0 {qq : Nat} {p0 : List Tm} {r : Unit} (h : e118vr0 qq p0 = some r) : CT Tryz.prog 118 [] [.sl (flat tmCells p0) (List.length p0) .nl] (.sl (flat tmCells ([] : List Tm)) (List.length ([] : List Tm)) .full) [] 0 := by
  unfold e118vr0 at h
  obtain rfl := sj h
  exact k118vr0 (tG q118vr0 1 [] [] [] true (oD (dT ([] : List Tm)) o0) (by kernel_rfl) (by decide))

end Go.Proofs.YteiddempdecleaaGreat

namespace Go.Proofs.YteiddempdecleaaGreat
open Go Go.Ab

/- slices.Clone(()scholium/api.Term,scholium/api.Term) -/
def e118vr1 (qq : Nat) (p0 : List Tm) : Option ((Unit) ⊕ (List Tm)) :=
  if decide (List.length p0 = 0) = true then
    some (Sum.inl ())
  else
    (gapp 40 ([] : List Tm) p0) >>= fun l2 =>
    some (Sum.inr l2)
theorem q118vr1 : Tryz.prog.funcs[118]? = some Tryz.f118 ∧ Tryz.f118.body.isNone = false := ⟨Tryz.func118, by kernel_rfl⟩
theorem k118vr1s0 {p0 : List Tm}  (h : CTri Tryz.prog 118 [] [.sl (flat tmCells p0) (List.length p0) .nn] (.sl (flat tmCells ([] : List Tm)) (List.length ([] : List Tm)) .full) [] 0) : CT Tryz.prog 118 [] [.sl (flat tmCells p0) (List.length p0) .nn] (.sl (flat tmCells ([] : List Tm)) (List.length ([] : List Tm)) .full) [] 0 := ⟨h, ⟨⟨trivial, dT _⟩, trivial⟩, forall_nil, dT _, forall_nil⟩
theorem k118vr1s1 {p0 : List Tm} {r : List Tm} (h : CTri Tryz.prog 118 [] [.sl (flat tmCells p0) (List.length p0) .nn] (.ms 0 0 (List.length r) (List.length r) 3) [.row (flat tmCells r)] 0) : CT Tryz.prog 118 [] [.sl (flat tmCells p0) (List.length p0) .nn] (.ms 0 0 (List.length r) (List.length r) 3) [.row (flat tmCells r)] 0 := ⟨h, ⟨⟨trivial, dT _⟩, trivial⟩, forall_nil, (show 0 < 1 by decide), (forall_cons (dT _) forall_nil)⟩
theorem c118vr1 {qq : Nat} {p0 : List Tm} {r : (Unit) ⊕ (List Tm)} (h : e118vr1 qq p0 = some r) : (match (generalizing := false) r with | Sum.inl x => CT Tryz.prog 118 [] [.sl (flat tmCells p0) (List.length p0) .nn] (.sl (flat tmCells ([] : List Tm)) (List.length ([] : List Tm)) .full) [] 0 | Sum.inr x => CT Tryz.prog 118 [] [.sl (flat tmCells p0) (List.length p0) .nn] (.ms 0 0 (List.length x) (List.length x) 3) [.row (flat tmCells x)] 0) := by
  unfold e118vr1 at h
  rcases spl h with ⟨h1, h⟩ | ⟨h1, h⟩
  · obtain rfl := sj h
    exact k118vr1s0 (tG q118vr1 0 [] [] [] true (oD (dT ([] : List Tm)) <| oQ 2 (apQ23 (of_decide_eq_true h1)) o0) (by kernel_rfl) (by decide))
  · obtain ⟨l2, h3, h⟩ := obind h
    obtain rfl := sj h
    exact k118vr1s1 (tF q118vr1 0 [0] (oD (dT l2) <| oM 2 (apW23 h3 (of_decide_eq_false h1)) o0) (by kernel_rfl))

end Go.Proofs.YteiddempdecleaaGreat

namespace Go.Proofs.YteiddempdecleaaGreat
open Go Go.Ab

/- a clone, whatever it is of -/
def e118 (_qq : Nat) (p0 : List Tm) : Option (List Tm) := gapp 40 [] p0
theorem c118 {qq : Nat} {p0 : List Tm} {r : List Tm} (h : e118 qq p0 = some r) : CT Tryz.prog 118 [] [.sl (flat tmCells p0) (List.length p0) .no] (.sl (flat tmCells r) (List.length r) .no) [] 0 := by
  have hr : r = p0 := by have := (gapp_spec h).2; simpa using this
  have h1 : e118v1 qq p0 = some r := by unfold e118v1; rw [show gapp 40 ([] : List Tm) p0 = some r from h]; rfl
  have k1 := c118v1 h1
  refine ⟨CTri.nilcase (fun hn => ?_) k1.tri, ⟨⟨trivial, dT _⟩, trivial⟩, (fun _ h => nomatch h), dT _, (fun _ h => nomatch h)⟩
  have hp : p0 = [] := flat_nil codecT (by decide) hn
  subst hr
  subst hp
  exact (c118v0 (qq := qq) rfl).tri
/- the same, as a row -/
def e118vr (qq : Nat) (p0 : List Tm) : Option (Unit ⊕ List Tm) := if decide (List.length p0 = 0) = true then some (.inl ()) else (gapp 40 [] p0) >>= fun r => some (.inr r)
theorem c118vr {qq : Nat} {p0 : List Tm} {r : Unit ⊕ List Tm} (h : e118vr qq p0 = some r) : (match (generalizing := false) r with | .inl _ => CT Tryz.prog 118 [] [.sl (flat tmCells p0) (List.length p0) .no] (.sl (flat tmCells ([] : List Tm)) (List.length ([] : List Tm)) .full) [] 0 | .inr x => CT Tryz.prog 118 [] [.sl (flat tmCells p0) (List.length p0) .no] (.ms 0 0 (List.length x) (List.length x) 3) [.row (flat tmCells x)] 0) := by
  unfold e118vr at h
  rcases spl h with ⟨h1, h⟩ | ⟨h1, h⟩
  · obtain rfl := sj h
    have hp : p0 = [] := List.length_eq_zero_iff.1 (of_decide_eq_true h1)
    subst hp
    have k0 := c118vr0 (qq := qq) (p0 := []) (r := ()) rfl
    have k1 := c118vr1 (qq := qq) (p0 := []) (r := .inl ()) rfl
    exact ⟨CTri.nilcase (fun _ => k0.tri) k1.tri, ⟨⟨trivial, dT _⟩, trivial⟩, (fun _ h => nomatch h), dT _, (fun _ h => nomatch h)⟩
  · obtain ⟨x, h2, h⟩ := obind h
    obtain rfl := sj h
    have k1 := c118vr1 (qq := qq) (p0 := p0) (r := .inr x) (by unfold e118vr1; rw [if_neg (by rw [h1]; decide), h2]; rfl)
    refine ⟨CTri.nilcase (fun hn => ?_) k1.tri, ⟨⟨trivial, dT _⟩, trivial⟩, (fun _ h => nomatch h), (show 0 < 1 by decide), forall_cons (dT _) forall_nil⟩
    have hp : p0 = [] := flat_nil codecT (by decide) hn
    subst hp
    cases h1


end Go.Proofs.YteiddempdecleaaGreat

namespace Go.Proofs.YteiddempdecleaaGreat
open Go Go.Ab

/- scholium/sign.rec -/
def e223 (qq : Nat) (p0 : List Ent) (p1 : Tm) (p2 : Int) (p3 : Int) : Option (Rec') :=
  (e222 qq p1) >>= fun r1 =>
  (e158 qq r1.2.1) >>= fun r3 =>
  if (r1.2.2 != 0) = true then
    some (Rec'.mk false [] [])
  else
    if (r3.1.k != 6) = true then
      some (Rec'.mk false [] [])
    else
      if (r3.1.n != p2) = true then
        some (Rec'.mk false [] [])
      else
        (gidx p0 p2) >>= fun x8 =>
        (e267 qq r1.2.1 p2 x8.pars x8.inds (w64 (p3 + (List.length r1.1 : Int)))) >>= fun r10 =>
        if r10 = true then
          (gsl r3.2 x8.pars (List.length r3.2 : Int)) >>= fun x13 =>
          (e118 qq x13) >>= fun r15 =>
          some (Rec'.mk true r1.1 r15)
        else
          some (Rec'.mk false [] [])
theorem q223 : Tryz.prog.funcs[223]? = some Tryz.f223 ∧ Tryz.f223.body.isNone = false := ⟨Tryz.func223, by kernel_rfl⟩
theorem k223 {p0 : List Ent} {p1 : Tm} {p2 : Int} {p3 : Int} {r : Rec'} (h : CTri Tryz.prog 223 [] [.sl (flat entL p0) (List.length p0) .no, tmA p1, ai p2, ai p3] (recA r) [] 0) : CT Tryz.prog 223 [] [.sl (flat entL p0) (List.length p0) .no, tmA p1, ai p2, ai p3] (recA r) [] 0 := ⟨h, ⟨⟨trivial, dE _⟩, ⟨trivial, trivial, ⟨trivial, dT _⟩, trivial⟩, trivial, trivial, trivial⟩, forall_nil, ⟨trivial, dT _, dT _, trivial⟩, forall_nil⟩
theorem c223 {qq : Nat} {p0 : List Ent} {p1 : Tm} {p2 : Int} {p3 : Int} {r : Rec'} (h : e223 qq p0 p1 p2 p3 = some r) : CT Tryz.prog 223 [] [.sl (flat entL p0) (List.length p0) .no, tmA p1, ai p2, ai p3] (recA r) [] 0 := by
  unfold e223 at h
  obtain ⟨r1, h2, h⟩ := obind h
  obtain ⟨r3, h4, h⟩ := obind h
  have k := oC 5 [] (c158 h4) <| oC 1 [] (c222 h2) o0
  rcases spl h with ⟨h5, h⟩ | ⟨h5, h⟩
  · obtain rfl := sj h
    exact k223 (tF q223 1 [] (oD (dT ([] : List Tm)) <| oD (dT ([] : List Tm)) <| oB 3 h5 k) (by kernel_rfl))
  · have k := oB 3 h5 k
    rcases spl h with ⟨h6, h⟩ | ⟨h6, h⟩
    · obtain rfl := sj h
      exact k223 (tF q223 1 [] (oD (dT ([] : List Tm)) <| oD (dT ([] : List Tm)) <| oB 1 h6 k) (by kernel_rfl))
    · have k := oB 1 h6 k
      rcases spl h with ⟨h7, h⟩ | ⟨h7, h⟩
      · obtain rfl := sj h
        exact k223 (tF q223 1 [] (oD (dT ([] : List Tm)) <| oD (dT ([] : List Tm)) <| oB 1 h7 k) (by kernel_rfl))
      · obtain ⟨x8, h9, h⟩ := obind h
        obtain ⟨r10, h11, h⟩ := obind h
        have k := oA 1 (ix22 (o := .no) h9) <| oA 1 (ix22 (o := .no) h9) <| oB 1 h7 k
        rcases spl h with ⟨h12, h⟩ | ⟨h12, h⟩
        · obtain ⟨x13, h14, h⟩ := obind h
          obtain ⟨r15, h16, h⟩ := obind h
          obtain rfl := sj h
          exact k223 (tF q223 1 [] (oD (dT r15) <| oD (dT r1.1) <| oC 0 [] (c118 h16) <| oA 1 (slFrom23 h14) <| oA 1 (ix22 (o := .no) h9) <| oK 3 [] h12 (c267 h11) k) (by kernel_rfl))
        · obtain rfl := sj h
          exact k223 (tF q223 2 [] (oD (dT ([] : List Tm)) <| oD (dT ([] : List Tm)) <| oK 3 [] h12 (c267 h11) k) (by kernel_rfl))

end Go.Proofs.YteiddempdecleaaGreat

namespace Go.Proofs.YteiddempdecleaaGreat
open Go Go.Ab

/- scholium/sign.parts -/
def e156L48011 : Nat → (List Ent) → Ent → (List Tm) → (List Tm) → Int → (List Rec') →  Option (Con')
  | 0, _, _, _, _, _, _ => none
  | qq + 1, p0, x1, x7, r11, v43, vb2_2 =>
    if decide (v43 < (List.length x7 : Int)) = true then
      (gidx x7 v43) >>= fun x14 =>
      (e223 qq p0 x14 x1.fam (w64 (x1.pars + v43))) >>= fun r16 =>
      (gapp 56 vb2_2 [r16]) >>= fun l18 =>
      e156L48011 qq p0 x1 x7 r11 (w64 (v43 + 1)) l18
    else
      some (Con'.mk x7 r11 vb2_2)
def e156 (qq : Nat) (p0 : List Ent) (p1 : Int) : Option (Con') :=
  (gidx p0 p1) >>= fun x1 =>
  (e222 qq x1.type) >>= fun r3 =>
  (e158 qq r3.2.1) >>= fun r5 =>
  (gsl r3.1 x1.pars (List.length r3.1 : Int)) >>= fun x7 =>
  (gsl r5.2 x1.pars (List.length r5.2 : Int)) >>= fun x9 =>
  (e118 qq x9) >>= fun r11 =>
  e156L48011 qq p0 x1 x7 r11 0 []
def g156L48011E0 (j : Nat → Value) (p0 : List Ent) (x1 : Ent) (x7 : List Tm) (r11 : List Tm) (v43 : Int) (vb2_2 : List Rec') : List AV := sp j 64 0 [(0, .sl (flat entL p0) (List.length p0) .no), (4, .mp 0 0), (5, .mp 1 0), (11, .mp 2 0), (41, .sl (flat tmCells x7) (List.length x7) .no), (42, ai (List.length x7 : Int)), (43, ai v43)]
def g156L48011S0 (p0 : List Ent) (x1 : Ent) (x7 : List Tm) (r11 : List Tm) (v43 : Int) (vb2_2 : List Rec') : LSt := ⟨[(0, .cells [.sl (flat tmCells ([] : List Tm)) (List.length ([] : List Tm)) .nl, .sl (flat tmCells ([] : List Tm)) (List.length ([] : List Tm)) .nl, .sl (flat recL ([] : List Rec')) (List.length ([] : List Rec')) .nl]), (1, .cells [ai x1.kind, at' x1.name, ai x1.type.k, ai x1.type.n, .sl (flat tmCells x1.type.sub) (List.length x1.type.sub) .no, ai x1.body.k, ai x1.body.n, .sl (flat tmCells x1.body.sub) (List.length x1.body.sub) .no, ai x1.fam, ai x1.place, ai x1.pars, ai x1.inds, ai x1.level, .sl (flat intC x1.cons) (List.length x1.cons) .no, .sl (flat intC x1.fields) (List.length x1.fields) .no]), (2, .cells [.sl (flat tmCells x7) (List.length x7) .no, .sl (flat tmCells r11) (List.length r11) .no, .sl (flat recL vb2_2) (List.length vb2_2) (.st 0 3)])], 3, [0], 1, []⟩
theorem q156 : Tryz.prog.funcs[156]? = some Tryz.f156 ∧ Tryz.f156.body.isNone = false := ⟨Tryz.func156, by kernel_rfl⟩
theorem k156 {p0 : List Ent} {p1 : Int} {r : Con'} (h : CTri Tryz.prog 156 [] [.sl (flat entL p0) (List.length p0) .no, ai p1] (conA r) [] 0) : CT Tryz.prog 156 [] [.sl (flat entL p0) (List.length p0) .no, ai p1] (conA r) [] 0 := ⟨h, ⟨⟨trivial, dE _⟩, trivial, trivial⟩, forall_nil, ⟨dT _, dT _, dR _, trivial⟩, forall_nil⟩
theorem l156L48011 : ∀ qq : Nat, (∀ (p0 : List Ent) (x1 : Ent) (x7 : List Tm) (r11 : List Tm) (v43 : Int) (vb2_2 : List Rec') (r : Con'), e156L48011 qq p0 x1 x7 r11 v43 vb2_2 = some r → (∀ j, Dl Tryz.prog 0 (inn (inn (rgt (lft (rgt (rgt (rgt (rgt (rgt (bod Tryz.f156)))))))))) (g156L48011E0 j p0 x1 x7 r11 v43 vb2_2) (g156L48011S0 p0 x1 x7 r11 v43 vb2_2) (frameQ Tryz.prog 0 (FinQ Tryz.prog 0 Tryz.f156 (conA r) [] 0) [.blk 0, .seq (rgt (rgt (rgt (rgt (rgt (rgt (bod Tryz.f156)))))))]))) := by
  intro qq
  induction qq with
  | zero =>
    exact fun _ _ _ _ _ _ _ h => nn h
  | succ qq ih =>
    intro p0 x1 x7 r11 v43 vb2_2 r h
    rw [e156L48011] at h
    rcases spl h with ⟨h13, h⟩ | ⟨h13, h⟩
    · obtain ⟨x14, h15, h⟩ := obind h
      obtain ⟨r16, h17, h⟩ := obind h
      obtain ⟨l18, h19, h⟩ := obind h
      exact fun j => lH 2 [] [0, 1, 2] [1] [0, 4, 5, 11, 41, 42, 43] (oD (dT x7) <| oD (dE p0) <| oD (dR l18) <| oD (dT r11) <| oD (dT x7) <| oD (dI x1.fields) <| oD (dI x1.cons) <| oD (dT x1.body.sub) <| oD (dT x1.type.sub) <| oD (dR ([] : List Rec')) <| oD (dT ([] : List Tm)) <| oD (dT ([] : List Tm)) <| oP 1 (apS230 h19 (by simp)) <| oC 7 [] (c223 h17) <| oA 0 (ix23 (o := .no) h15) <| oB 0 h13 o0) (ih _ _ _ _ _ _ _ h) (fun j => by kernel_rfl)
    · obtain rfl := sj h
      exact fun j => lF 2 [] (oD (dR vb2_2) <| oD (dT r11) <| oD (dT x7) <| oB 0 h13 o0) (by kernel_rfl)
theorem c156 {qq : Nat} {p0 : List Ent} {p1 : Int} {r : Con'} (h : e156 qq p0 p1 = some r) : CT Tryz.prog 156 [] [.sl (flat entL p0) (List.length p0) .no, ai p1] (conA r) [] 0 := by
  unfold e156 at h
  obtain ⟨x1, h2, h⟩ := obind h
  obtain ⟨r3, h4, h⟩ := obind h
  obtain ⟨r5, h6, h⟩ := obind h
  obtain ⟨x7, h8, h⟩ := obind h
  obtain ⟨x9, h10, h⟩ := obind h
  obtain ⟨r11, h12, h⟩ := obind h
  exact k156 (tH q156 3 [(some 4, 2, 3)] [0, 1, 4] [0] [0, 4, 5, 11, 41, 42, 43] (oD (dT x7) <| oD (dE p0) <| oD (dR ([] : List Rec')) <| oD (dT r11) <| oD (dT x7) <| oD (dI x1.fields) <| oD (dI x1.cons) <| oD (dT x1.body.sub) <| oD (dT x1.type.sub) <| oD (dR ([] : List Rec')) <| oD (dT ([] : List Tm)) <| oD (dT ([] : List Tm)) <| oC 0 [] (c118 h12) <| oA 1 (slFrom23 h10) <| oA 4 (slFrom23 h8) <| oC 5 [] (c158 h6) <| oC 3 [] (c222 h4) <| oA 0 (ix22 (o := .no) h2) o0) (l156L48011 _ _ _ _ _ _ _ _ h) (fun j => by kernel_rfl))

end Go.Proofs.YteiddempdecleaaGreat

namespace Go.Proofs.YteiddempdecleaaGreat
open Go Go.Ab

/- scholium/sign.Every -/
def e74L16016 : Nat → (List Ent) → (List Con') → Int → (List Con') →  Option ((List Con' × Int) ⊕ (List Con' × Int))
  | 0, _, _, _, _ => none
  | qq + 1, p0, x4, v14, vb0_0 =>
    if decide (v14 < (List.length p0 : Int)) = true then
      (gidx p0 v14) >>= fun x7 =>
      if (x7.kind == 2) = true then
        (e156 qq p0 v14) >>= fun r10 =>
        (gchk (List.length x4) v14) >>= fun x12 =>
        (gset vb0_0 x12 r10) >>= fun x14 =>
        e74L16016 qq p0 x4 (w64 (v14 + 1)) x14
      else
        e74L16016 qq p0 x4 (w64 (v14 + 1)) vb0_0
    else
      (gfz (List.length x4) vb0_0) >>= fun l16 =>
      some (Sum.inr (l16, 0))
def e74 (qq : Nat) (p0 : List Ent) : Option ((List Con' × Int) ⊕ (List Con' × Int)) :=
  (e73 qq p0) >>= fun r1 =>
  if r1 = true then
    (gmk 72 (default : Con') (List.length p0 : Int)) >>= fun x4 =>
    e74L16016 qq p0 x4 0 x4
  else
    some (Sum.inl ([], 5))
def g74L16016E0 (j : Nat → Value) (p0 : List Ent) (x4 : List Con') (v14 : Int) (vb0_0 : List Con') : List AV := sp j 31 0 [(0, .sl (flat entL p0) (List.length p0) .no), (4, .ms 0 0 (List.length x4) (List.length x4) 3), (13, ai (List.length p0 : Int)), (14, ai v14)]
def g74L16016S0 (p0 : List Ent) (x4 : List Con') (v14 : Int) (vb0_0 : List Con') : LSt := ⟨[(0, .row (flat conL vb0_0))], 1, [], 0, []⟩
theorem q74 : Tryz.prog.funcs[74]? = some Tryz.f74 ∧ Tryz.f74.body.isNone = false := ⟨Tryz.func74, by kernel_rfl⟩
theorem k74s0 {p0 : List Ent} {r : List Con' × Int} (h : CTri Tryz.prog 74 [] [.sl (flat entL p0) (List.length p0) .no] (.tup [.sl (flat conL r.1) (List.length r.1) .no, ai r.2]) [] 0) : CT Tryz.prog 74 [] [.sl (flat entL p0) (List.length p0) .no] (.tup [.sl (flat conL r.1) (List.length r.1) .no, ai r.2]) [] 0 := ⟨h, ⟨⟨trivial, dE _⟩, trivial⟩, forall_nil, ⟨dC _, trivial, trivial⟩, forall_nil⟩
theorem k74s1 {p0 : List Ent} {r : List Con' × Int} (h : CTri Tryz.prog 74 [] [.sl (flat entL p0) (List.length p0) .no] (.tup [.ms 0 0 (List.length r.1) (List.length r.1) 3, ai r.2]) [.row (flat conL r.1)] 0) : CT Tryz.prog 74 [] [.sl (flat entL p0) (List.length p0) .no] (.tup [.ms 0 0 (List.length r.1) (List.length r.1) 3, ai r.2]) [.row (flat conL r.1)] 0 := ⟨h, ⟨⟨trivial, dE _⟩, trivial⟩, forall_nil, ⟨(show 0 < 1 by decide), trivial, trivial⟩, (forall_cons (dC _) forall_nil)⟩
theorem l74L16016 : ∀ qq : Nat, (∀ (p0 : List Ent) (x4 : List Con') (v14 : Int) (vb0_0 : List Con') (r : (List Con' × Int) ⊕ (List Con' × Int)), e74L16016 qq p0 x4 v14 vb0_0 = some r → (∀ j, Dl Tryz.prog 0 (inn (inn (rgt (lft (rgt (rgt (rgt (bod Tryz.f74)))))))) (g74L16016E0 j p0 x4 v14 vb0_0) (g74L16016S0 p0 x4 v14 vb0_0) (frameQ Tryz.prog 0 ((match (generalizing := false) r with | Sum.inl x => FinQ Tryz.prog 0 Tryz.f74 (.tup [.sl (flat conL x.1) (List.length x.1) .no, ai x.2]) [] 0 | Sum.inr x => FinQ Tryz.prog 0 Tryz.f74 (.tup [.ms 0 0 (List.length x.1) (List.length x.1) 3, ai x.2]) [.row (flat conL x.1)] 0)) [.blk 0, .seq (rgt (rgt (rgt (rgt (bod Tryz.f74)))))]))) := by
  intro qq
  induction qq with
  | zero =>
    exact fun _ _ _ _ _ h => nn h
  | succ qq ih =>
    intro p0 x4 v14 vb0_0 r h
    rw [e74L16016] at h
    rcases spl h with ⟨h6, h⟩ | ⟨h6, h⟩
    · obtain ⟨x7, h8, h⟩ := obind h
      have k := oA 0 (ix22 (o := .no) h8) <| oB 0 h6 o0
      rcases spl h with ⟨h9, h⟩ | ⟨h9, h⟩
      · obtain ⟨r10, h11, h⟩ := obind h
        obtain ⟨x12, h13, h⟩ := obind h
        obtain ⟨x14, h15, h⟩ := obind h
        exact fun j => lH 1 [] [0] [] [0, 4, 13, 14] (oD (dE p0) <| oD (dC x14) <| oW 0 (wtE (x := r10) (cs := [.sl (flat tmCells r10.args) (List.length r10.args) .no, .sl (flat tmCells r10.inds) (List.length r10.inds) .no, .sl (flat recL r10.recs) (List.length r10.recs) .no]) codecC rfl h15) <| oA 0 (ixM120 (b := 0) (c := List.length x4) (z := 3) h13) <| oC 0 [] (c156 h11) <| oB 1 h9 k) (ih _ _ _ _ _ h) (fun j => by kernel_rfl)
      · exact fun j => lH 1 [] [0] [] [0, 4, 13, 14] (oD (dE p0) <| oD (dC vb0_0) <| oB 1 h9 k) (ih _ _ _ _ _ h) (fun j => by kernel_rfl)
    · obtain ⟨l16, h17, h⟩ := obind h
      obtain ⟨h17a, h17b⟩ := gfz_spec h17
      obtain rfl := sj h
      obtain rfl := h17a.symm
      dsimp only
      rw [← h17b]
      exact fun j => lF 0 [0] (oD (dC vb0_0) <| oB 0 h6 o0) (by kernel_rfl)
theorem c74r {qq : Nat} {p0 : List Ent} {r : (List Con' × Int) ⊕ (List Con' × Int)} (h : e74 qq p0 = some r) : (match (generalizing := false) r with | Sum.inl x => CT Tryz.prog 74 [] [.sl (flat entL p0) (List.length p0) .no] (.tup [.sl (flat conL x.1) (List.length x.1) .no, ai x.2]) [] 0 | Sum.inr x => CT Tryz.prog 74 [] [.sl (flat entL p0) (List.length p0) .no] (.tup [.ms 0 0 (List.length x.1) (List.length x.1) 3, ai x.2]) [.row (flat conL x.1)] 0) := by
  unfold e74 at h
  obtain ⟨r1, h2, h⟩ := obind h
  rcases spl h with ⟨h3, h⟩ | ⟨h3, h⟩
  · obtain ⟨x4, h5, h⟩ := obind h
    rcases r with y0 | y1
    · exact k74s0 (tH q74 1 [] [0] [] [0, 4, 13, 14] (oD (dE p0) <| oD (dC x4) <| oM 2 (mkM120 h5) <| oK 0 [] h3 (c73 h2) o0) (l74L16016 _ _ _ _ _ _ h) (fun j => by kernel_rfl))
    · exact k74s1 (tH q74 1 [] [0] [] [0, 4, 13, 14] (oD (dE p0) <| oD (dC x4) <| oM 2 (mkM120 h5) <| oK 0 [] h3 (c73 h2) o0) (l74L16016 _ _ _ _ _ _ h) (fun j => by kernel_rfl))
  · obtain rfl := sj h
    exact k74s0 (tF q74 1 [] (oD (dC ([] : List Con')) <| oK 0 [] h3 (c73 h2) o0) (by kernel_rfl))
theorem c74 {qq : Nat} {p0 : List Ent} {r : (List Con' × Int) ⊕ (List Con' × Int)} (h : e74 qq p0 = some r) : (match (generalizing := false) r with | Sum.inl x => CT Tryz.prog 74 [] [.sl (flat entL p0) (List.length p0) .no] (.tup [.sl (flat conL x.1) (List.length x.1) .no, ai x.2]) [] 0 | Sum.inr x => CT Tryz.prog 74 [] [.sl (flat entL p0) (List.length p0) .no] (.tup [.sl (flat conL x.1) (List.length x.1) .no, ai x.2]) [] 0) := by
  have k := c74r h
  rcases r with y0 | y1
  · exact k
  · exact CT.freeze (H1 := []) (cs := flat conL y1.1) (res' := (.tup [.sl (flat conL y1.1) (List.length y1.1) .no, ai y1.2])) k (Nat.le_of_ble_eq_true rfl) forall_nil (dC _) ⟨(.inl ⟨rfl, rfl⟩), trivial, trivial⟩ (by rfl) rfl

end Go.Proofs.YteiddempdecleaaGreat

namespace Go.Proofs.YteiddempdecleaaGreat
open Go Go.Ab

theorem splitT_err {t : Tm} {n : Int} (h : (splitT t n).2.2 ≠ 0) : (splitT t n).2.1 = zT ∧ (splitT t n).1 = [] := by
  unfold splitT at h ⊢
  split
  · split
    · exact ⟨rfl, rfl⟩
    · split
      · exact ⟨rfl, rfl⟩
      · rename_i h1 h2 h3
        rw [if_pos h1, if_neg h2, if_neg h3] at h
        cases hr : splT n.toNat t with
        | none => exact ⟨rfl, rfl⟩
        | some r => rw [hr] at h; exact absurd rfl h
  · exact ⟨rfl, rfl⟩
theorem spine_z : Evt (fun q => e158 q zT) (hdT zT, arT zT) := by
  refine Evt.mk fun q => ?_
  show g158L0 zT zT [] = _
  unfold zT g158L0 hdT arT
  simp
theorem ev_SpineW (t : Tm) : Evt (fun q => e158 q (wholeT t).2.1) (hdT (wholeT t).2.1, arT (wholeT t).2.1) := by
  by_cases h : (wholeT t).2.2 = 0
  · have hw := wholeT_ok (t := t) (l := (wholeT t).1) (y := (wholeT t).2.1) (by rw [← h])
    exact ev_Spine _ hw.2.2.2.2.1
  · have := (splitT_err (t := t) (n := ((min (pisT t) 25 : Nat) : Int)) h).1
    have e : (wholeT t).2.1 = zT := this
    rw [e]; exact spine_z

/-- an argument: is it recursive, and how? -/
def recT (l : List Ent) (t : Tm) (of b : Int) : Rec' :=
  if (wholeT t).2.2 = 0 ∧ appliedT (wholeT t).2.1 of (ent l of).pars (ent l of).inds (b + (wholeT t).1.length) = true then Rec'.mk true (wholeT t).1 ((arT (wholeT t).2.1).drop (ent l of).pars.toNat) else Rec'.mk false [] []
theorem gsl_from {α : Type} {L : List α} {n : Int} (h0 : 0 ≤ n) (h1 : n ≤ L.length) : gsl L n (L.length : Int) = some (L.drop n.toNat) := by
  unfold gsl
  rw [if_pos ⟨h0, h1, by omega⟩]
  congr 1
  exact List.take_of_length_le (by simp; omega)
theorem appliedT_spec {t : Tm} {of pars more b : Int} (h : appliedT t of pars more b = true) : (hdT t).k = 6 ∧ (hdT t).n = of ∧ ((arT t).length : Int) = pars + more := by
  unfold appliedT at h
  simp only [Bool.and_eq_true, beq_iff_eq] at h
  exact ⟨h.1.1.1, h.1.1.2, h.1.2⟩
theorem ev_rec (l : List Ent) (t : Tm) (of b : Int) (ho : t.Ok) (h0 : 0 ≤ of) (h1 : of < l.length) (hp : 0 ≤ (ent l of).pars ∧ 0 ≤ (ent l of).inds ∧ (ent l of).pars + (ent l of).inds ≤ 24) (hb : 0 ≤ b ∧ b ≤ 1048576) :
    Evt (fun q => e223 q l t of b) (recT l t of b) := by
  simp only [e223]
  refine (ev_Whole t ho).bind ((ev_SpineW t).bind ?_)
  unfold recT
  by_cases a1 : (wholeT t).2.2 = 0
  · have hw := wholeT_ok (t := t) (l := (wholeT t).1) (y := (wholeT t).2.1) (by rw [← a1])
    refine Evt.ifF (by simp [a1]) ?_
    have hlen := hw.2.2.1
    rw [w64_id (x := b + ((wholeT t).1.length : Int)) (by omega) (by omega)]
    have ha := ev_applied (wholeT t).2.1 of (ent l of).pars (ent l of).inds (b + (wholeT t).1.length) hw.2.2.2.2.1 (by omega) (by omega) (by omega)
    by_cases a2 : appliedT (wholeT t).2.1 of (ent l of).pars (ent l of).inds (b + (wholeT t).1.length) = true
    · have hs := appliedT_spec a2
      rw [if_pos ⟨a1, a2⟩]
      refine Evt.ifF (by simp [hs.1]) (Evt.ifF (by simp [hs.2.1]) (Evt.pure (gidx_ent h0 h1) (ha.bind (Evt.ifT a2 (Evt.pure (gsl_from hp.1 (by show _ ≤ ((arT (wholeT t).2.1).length : Int); omega)) ?_)))))
      have hal := ar_len _ (shapedT_spec hw.2.2.2.2.1).2.2
      have hn := (shapedT_spec hw.2.2.2.2.1).1
      refine Evt.bind (a := (arT (wholeT t).2.1).drop (ent l of).pars.toNat) (Evt.mk fun q => (gapp_ok (by simp <;> omega)).trans (by simp)) Evt.ret
    · rw [if_neg (fun h => a2 h.2)]
      refine Evt.iff (fun _ => Evt.ret) fun _ => Evt.iff (fun _ => Evt.ret) fun _ => Evt.pure (gidx_ent h0 h1) (ha.bind (Evt.ifF (by simpa using a2) Evt.ret))
  · rw [if_neg (fun h => a1 h.1)]
    exact Evt.ifT (by simp [a1]) Evt.ret

def recsT (l : List Ent) (of : Int) : List Tm → Int → List Rec'
  | [], _ => []
  | a :: r, b => recT l a of b :: recsT l of r (b + 1)
theorem recsT_len (l : List Ent) (of : Int) : ∀ (r : List Tm) (b : Int), (recsT l of r b).length = r.length
  | [], _ => rfl
  | a :: r, b => congrArg (· + 1) (recsT_len l of r (b + 1))
/-- a constructor's parts -/
def partsT (l : List Ent) (i : Int) : Con' :=
  Con'.mk ((wholeT (ent l i).type).1.drop (ent l i).pars.toNat) ((arT (wholeT (ent l i).type).2.1).drop (ent l i).pars.toNat) (recsT l (ent l i).fam ((wholeT (ent l i).type).1.drop (ent l i).pars.toNat) (ent l i).pars)
theorem ev_partsL (l : List Ent) (x : Ent) (A I : List Tm) (hA : ∀ t ∈ A, t.Ok) (hl : A.length ≤ 24) (h0 : 0 ≤ x.fam) (h1 : x.fam < l.length) (hp : 0 ≤ (ent l x.fam).pars ∧ 0 ≤ (ent l x.fam).inds ∧ (ent l x.fam).pars + (ent l x.fam).inds ≤ 24) (hb : 0 ≤ x.pars ∧ x.pars ≤ 24) :
    ∀ (r : List Tm) (v : Nat) (acc : List Rec'), A.drop v = r → acc.length ≤ v → Evt (fun q => e156L48011 q l x A I (v : Int) acc) (Con'.mk A I (acc ++ recsT l x.fam r (x.pars + v)))
  | [], v, acc, hd, ha => by
    refine Evt.succ ?_
    simp only [e156L48011]
    exact Evt.ifF (drop_nil hd) (Evt.ret.eq (by simp [recsT]))
  | t :: r, v, acc, hd, ha => by
    have hlt := drop_lt hd
    have ht : t ∈ A := by
      have : t ∈ A.drop v := by rw [hd]; simp
      exact List.mem_of_mem_drop this
    refine Evt.succ ?_
    simp only [e156L48011]
    rw [w64_id (x := x.pars + v) (by omega) (by omega)]
    refine Evt.ifT (drop_dec hd) (Evt.pure (drop_idx hd) ((ev_rec l t x.fam (x.pars + v) (hA t ht) h0 h1 hp (by omega)).bind (Evt.pure (gapp_ok (by simp <;> omega)) ?_)))
    rw [w64_nat v (by omega)]
    refine (ev_partsL l x A I hA hl h0 h1 hp hb r (v + 1) _ (drop_next hd) (by simp <;> omega)).eq ?_
    rw [recsT, show x.pars + ((v + 1 : Nat) : Int) = x.pars + v + 1 by omega]; simp
/-- what is known of a constructor -/
theorem con_facts {N : ByteArray → Bool} {l : List Ent} {i : Int} (hE : AllE N l) (h0 : 0 ≤ i) (h1 : i < l.length) (hk : (ent l i).kind = 2) :
    ∃ (A : List Tm) (y : Tm), wholeT (ent l i).type = (A, y, 0) ∧ shapedT y = true ∧ (∀ t ∈ A, shapedT t = true) ∧ A.length = pisT (ent l i).type ∧ A.length ≤ 24 ∧ 0 ≤ (ent l i).pars ∧ (ent l i).pars ≤ A.length ∧
      0 ≤ (ent l i).fam ∧ (ent l i).fam < i ∧ (ent l (ent l i).fam).kind = 1 ∧ (ent l i).pars = (ent l (ent l i).fam).pars ∧ 0 ≤ (ent l (ent l i).fam).inds ∧ (ent l (ent l i).fam).pars + (ent l (ent l i).fam).inds ≤ 24 ∧
      appliedT y (ent l i).fam (ent l i).pars (ent l (ent l i).fam).inds A.length = true ∧ 0 ≤ (ent l i).place ∧ (ent l i).place < (ent l (ent l i).fam).cons.length := by
  have hc := (entryT_spec (hE.2 i h0 h1)).2.2.1 hk
  unfold conT at hc
  simp only [Bool.and_eq_true, beq_iff_eq, decide_eq_true_eq] at hc
  obtain ⟨a1, a2, a3, a4⟩ := hc
  have ho := ownedT_spec a1
  have hf := familyT_spec ((entryT_spec (hE.2 _ ho.1 (by omega))).2.1 ho.2.2.1)
  have hw := wholeT_ok (t := (ent l i).type) (l := (wholeT (ent l i).type).1) (y := (wholeT (ent l i).type).2.1) (by rw [← a2])
  have hown : ownL l (ent l i) = (ent l (ent l i).fam).cons := by unfold ownL; rw [if_neg (by omega)]
  have h6 := ho.2.2.2.2.2
  rw [hown] at h6
  exact ⟨_, _, by rw [← a2], hw.2.2.2.2.1, hw.2.2.2.2.2, hw.2.1, hw.2.2.1, by omega, a3, ho.1, ho.2.1, ho.2.2.1, ho.2.2.2.1, hf.2.1, hf.2.2.1, a4, ho.2.2.2.2.1, h6⟩
theorem shaped_ok {t : Tm} (h : shapedT t = true) : t.Ok := good_ok t (shapedT_spec h).2.2
theorem ev_parts {N : ByteArray → Bool} (l : List Ent) (i : Int) (hE : AllE N l) (h0 : 0 ≤ i) (h1 : i < l.length) (hk : (ent l i).kind = 2) (he : ∀ e ∈ l, EOk e) : Evt (fun q => e156 q l i) (partsT l i) := by
  simp only [e156]
  obtain ⟨A, y, hw, hy, hA, hAp, hA24, p0, p1, f0, f1, fk, fp, fi, fs, hap, -, -⟩ := con_facts hE h0 h1 hk
  have hsp := appliedT_spec hap
  refine Evt.pure (gidx_ent h0 h1) ((ev_Whole _ (he _ (ent_mem h0 h1)).1).bind ((ev_SpineW _).bind ?_))
  unfold partsT
  rw [hw]
  have hal := ar_len _ (shapedT_spec hy).2.2
  have hn := (shapedT_spec hy).1
  refine Evt.pure (gsl_from p0 p1) (Evt.pure (gsl_from p0 (by show _ ≤ ((arT y).length : Int); omega)) (Evt.bind (a := (arT y).drop (ent l i).pars.toNat) (Evt.mk fun q => (gapp_ok (by simp <;> omega)).trans (by simp)) ?_))
  refine (ev_partsL l (ent l i) (A.drop (ent l i).pars.toNat) ((arT y).drop (ent l i).pars.toNat) (fun t ht => shaped_ok (hA t (List.mem_of_mem_drop ht))) (by simp; omega) f0 (by omega) (by omega) (by omega) _ 0 [] rfl (by simp)).eq ?_
  simp

/-- each entry's parts -/
def evA (l : List Ent) : Nat → Nat → List Con'
  | 0, _ => []
  | m + 1, v => (if (ent l v).kind = 2 then partsT l v else default) :: evA l m (v + 1)
theorem evA_len (l : List Ent) : ∀ (m v : Nat), (evA l m v).length = m
  | 0, _ => rfl
  | m + 1, v => congrArg (· + 1) (evA_len l m (v + 1))
theorem evA_get (l : List Ent) : ∀ (m v j : Nat), j < m → (evA l m v)[j]? = some (if (ent l ((v + j : Nat) : Int)).kind = 2 then partsT l ((v + j : Nat) : Int) else default)
  | m + 1, v, 0, _ => by simp [evA]
  | m + 1, v, j + 1, h => by
    rw [evA, List.getElem?_cons_succ, evA_get l m (v + 1) j (by omega), show v + 1 + j = v + (j + 1) by omega]
theorem ev_EveryL {N : ByteArray → Bool} (l : List Ent) (x4 : List Con') (hx : x4.length = l.length) (hE : AllE N l) (he : ∀ e ∈ l, EOk e) : ∀ (m v : Nat) (acc : List Con'), v + m = l.length → acc.length = v →
    Evt (fun q => e74L16016 q l x4 (v : Int) (acc ++ List.replicate m default)) (.inr (acc ++ evA l m v, 0)) := by
  intro m
  induction m with
  | zero =>
    intro v acc hm ha
    refine Evt.succ ?_
    simp only [e74L16016]
    refine Evt.ifF (decide_eq_false (by omega)) (Evt.pure (a := acc ++ List.replicate 0 default) (by unfold gfz; rw [if_pos (by simp; omega)]) (Evt.ret.eq (by simp [evA])))
  | succ m ih =>
    intro v acc hm ha
    refine Evt.succ ?_
    simp only [e74L16016]
    refine Evt.ifT (decide_eq_true (by omega)) (Evt.pure (gidx_ent (by omega) (by omega)) ?_)
    have hl := hE.1
    rw [w64_nat v (by omega), evA]
    by_cases k : (ent l v).kind = 2
    · rw [if_pos k]
      refine Evt.ifT (by simp [k]) ((ev_parts l v hE (by omega) (by omega) k he).bind ?_)
      refine Evt.pure (a := v) (by unfold gchk; rw [if_pos (by omega)]; simp) ?_
      refine Evt.pure (a := acc ++ partsT l v :: List.replicate m default) ?_ ?_
      · unfold gset
        rw [if_pos (by simp; omega), List.set_append_right _ _ (by omega), show v - acc.length = 0 by omega, List.replicate_succ]; rfl
      · have := ih (v + 1) (acc ++ [partsT l v]) (by omega) (by simp; omega)
        simpa using this
    · rw [if_neg k]
      refine Evt.ifF (by simp [k]) ?_
      have := ih (v + 1) (acc ++ [default]) (by omega) (by simp; omega)
      rw [List.replicate_succ]
      simpa using this
end Go.Proofs.YteiddempdecleaaGreat

namespace Go.Proofs.YteiddempdecleaaGreat
open Go Go.Ab

/- scholium/iota.New -/
def e23 (qq : Nat) (p0 : List Ent) : Option ((Int) ⊕ (Int × List Ent × List Con')) :=
  (e72 qq p0) >>= fun r1 =>
  (e73 qq p0) >>= fun r3 =>
  if r3 = true then
    (e74 qq r1) >>= fun r6 =>
    match r6 with
    | Sum.inl y8 =>
      if (y8.2 != 0) = true then
        some (Sum.inl y8.2)
      else
        some (Sum.inr (0, r1, y8.1))
    | Sum.inr y10 =>
      if (y10.2 != 0) = true then
        some (Sum.inl y10.2)
      else
        some (Sum.inr (0, r1, y10.1))
  else
    some (Sum.inl 5)
theorem q23 : Tryz.prog.funcs[23]? = some Tryz.f23 ∧ Tryz.f23.body.isNone = false := ⟨Tryz.func23, by kernel_rfl⟩
theorem k23s0 {p0 : List Ent} {r : Int} (h : CTri Tryz.prog 23 [] [.sl (flat entL p0) (List.length p0) .no] (.tup [.val (.pointer none), ai r]) [] 0) : CT Tryz.prog 23 [] [.sl (flat entL p0) (List.length p0) .no] (.tup [.val (.pointer none), ai r]) [] 0 := ⟨h, ⟨⟨trivial, dE _⟩, trivial⟩, forall_nil, ⟨trivial, trivial, trivial⟩, forall_nil⟩
theorem k23s1 {p0 : List Ent} {r : Int × List Ent × List Con'} (h : CTri Tryz.prog 23 [] [.sl (flat entL p0) (List.length p0) .no] (.tup [.mp 0 0, ai r.1]) [.cells [.sl (flat entL r.2.1) (List.length r.2.1) .no, .sl (flat conL r.2.2) (List.length r.2.2) .no]] 0) : CT Tryz.prog 23 [] [.sl (flat entL p0) (List.length p0) .no] (.tup [.mp 0 0, ai r.1]) [.cells [.sl (flat entL r.2.1) (List.length r.2.1) .no, .sl (flat conL r.2.2) (List.length r.2.2) .no]] 0 := ⟨h, ⟨⟨trivial, dE _⟩, trivial⟩, forall_nil, ⟨(show 0 < 1 by decide), trivial, trivial⟩, (forall_cons ⟨dE _, dC _, trivial⟩ forall_nil)⟩
theorem c23 {qq : Nat} {p0 : List Ent} {r : (Int) ⊕ (Int × List Ent × List Con')} (h : e23 qq p0 = some r) : (match (generalizing := false) r with | Sum.inl x => CT Tryz.prog 23 [] [.sl (flat entL p0) (List.length p0) .no] (.tup [.val (.pointer none), ai x]) [] 0 | Sum.inr x => CT Tryz.prog 23 [] [.sl (flat entL p0) (List.length p0) .no] (.tup [.mp 0 0, ai x.1]) [.cells [.sl (flat entL x.2.1) (List.length x.2.1) .no, .sl (flat conL x.2.2) (List.length x.2.2) .no]] 0) := by
  unfold e23 at h
  obtain ⟨r1, h2, h⟩ := obind h
  obtain ⟨r3, h4, h⟩ := obind h
  have k := oC 0 [] (c72 h2) o0
  rcases spl h with ⟨h5, h⟩ | ⟨h5, h⟩
  · obtain ⟨r6, h7, h⟩ := obind h
    have k := oK 0 [] h5 (c73 h4) k
    rcases r6 with y8 | y10
    · dsimp only at h
      have k := oC 1 [] (c74 h7) k
      rcases spl h with ⟨h9, h⟩ | ⟨h9, h⟩
      · obtain rfl := sj h
        exact k23s0 (tF q23 0 [] (oB 2 h9 k) (by kernel_rfl))
      · obtain rfl := sj h
        exact k23s1 (tF q23 0 [0] (oD (dC y8.1) <| oD (dE r1) <| oB 2 h9 k) (by kernel_rfl))
    · dsimp only at h
      have k := oC 1 [] (c74 h7) k
      rcases spl h with ⟨h11, h⟩ | ⟨h11, h⟩
      · obtain rfl := sj h
        exact k23s0 (tF q23 0 [] (oB 2 h11 k) (by kernel_rfl))
      · obtain rfl := sj h
        exact k23s1 (tF q23 0 [0] (oD (dC y10.1) <| oD (dE r1) <| oB 2 h11 k) (by kernel_rfl))
  · obtain rfl := sj h
    exact k23s0 (tF q23 1 [] (oK 0 [] h5 (c73 h4) k) (by kernel_rfl))

end Go.Proofs.YteiddempdecleaaGreat

namespace Go.Proofs.YteiddempdecleaaGreat
open Go Go.Ab

/- scholium/whnf.New -/
mutual
def e36L13239 : Nat → (List Ent) → (Int × List Ent × List Con') → Int → (List Ent) → (List Int) → (List Int) →  Option ((Int) ⊕ (Int × List Ent × List Int × List Int × List Ent × List Con'))
  | 0, _, _, _, _, _, _ => none
  | qq + 1, p0, y3, v27, vb0_0, vb0_2, vb0_3 =>
    if decide (v27 < (List.length p0 : Int)) = true then
      (gidx p0 v27) >>= fun x8 =>
      if (x8.kind == 1) = true then
        (gapp 8 vb0_2 [(w64 ((w64 ((w64 (x8.pars + 2)) + (List.length x8.cons : Int))) + x8.inds))]) >>= fun l11 =>
        (gapp 8 vb0_3 [0]) >>= fun l13 =>
        e36L13239 qq p0 y3 (w64 (v27 + 1)) vb0_0 l11 l13
      else
        if (x8.kind == 2) = true then
          e36L32687 qq p0 y3 v27 vb0_0 vb0_2 vb0_3 0 x8.type.k x8.type.n x8.type.sub
        else
          (gapp 8 vb0_2 [0]) >>= fun l16 =>
          (gapp 8 vb0_3 [0]) >>= fun l18 =>
          e36L13239 qq p0 y3 (w64 (v27 + 1)) vb0_0 l16 l18
    else
      some (Sum.inr (0, vb0_0, vb0_2, vb0_3, y3.2.1, y3.2.2))
def e36L32687 : Nat → (List Ent) → (Int × List Ent × List Con') → Int → (List Ent) → (List Int) → (List Int) → Int → Int → Int → (List Tm) →  Option ((Int) ⊕ (Int × List Ent × List Int × List Int × List Ent × List Con'))
  | 0, _, _, _, _, _, _, _, _, _, _ => none
  | qq + 1, p0, y3, v27, vb0_0, vb0_2, vb0_3, v10, vb1_0, vb1_1, vb1_2 =>
    if (vb1_0 == 3) = true then
      (gidx vb1_2 1) >>= fun x17 =>
      e36L32687 qq p0 y3 v27 vb0_0 vb0_2 vb0_3 (w64 (v10 + 1)) x17.k x17.n x17.sub
    else
      (gapp 8 vb0_2 [0]) >>= fun l19 =>
      (gapp 8 vb0_3 [v10]) >>= fun l21 =>
      e36L13239 qq p0 y3 (w64 (v27 + 1)) vb0_0 l19 l21
end
def e36 (qq : Nat) (p0 : List Ent) : Option ((Int) ⊕ (Int × List Ent × List Int × List Int × List Ent × List Con')) :=
  (e23 qq p0) >>= fun r1 =>
  match r1 with
  | Sum.inl y7 =>
    if (y7 != 0) = true then
      some (Sum.inl y7)
    else
      none
  | Sum.inr y3 =>
    if (y3.1 != 0) = true then
      some (Sum.inl y3.1)
    else
      (e72 qq p0) >>= fun r5 =>
      e36L13239 qq p0 y3 0 r5 [] []
def g36L13239E0 (j : Nat → Value) (p0 : List Ent) (y3 : Int × List Ent × List Con') (v27 : Int) (vb0_0 : List Ent) (vb0_2 : List Int) (vb0_3 : List Int) : List AV := sp j 81 0 [(6, .mp 0 0), (25, .sl (flat entL p0) (List.length p0) .no), (26, ai (List.length p0 : Int)), (27, ai v27)]
def g36L13239S0 (p0 : List Ent) (y3 : Int × List Ent × List Con') (v27 : Int) (vb0_0 : List Ent) (vb0_2 : List Int) (vb0_3 : List Int) : LSt := ⟨[(0, .cells [.sl (flat entL vb0_0) (List.length vb0_0) .no, .mp 1 0, .sl (flat intC vb0_2) (List.length vb0_2) (.st 0 1), .sl (flat intC vb0_3) (List.length vb0_3) (.st 1 1)]), (1, .cells [.sl (flat entL y3.2.1) (List.length y3.2.1) .no, .sl (flat conL y3.2.2) (List.length y3.2.2) .no])], 2, [0, 1], 2, []⟩
def g36L32687E0 (j : Nat → Value) (p0 : List Ent) (y3 : Int × List Ent × List Con') (v27 : Int) (vb0_0 : List Ent) (vb0_2 : List Int) (vb0_3 : List Int) (v10 : Int) (vb1_0 : Int) (vb1_1 : Int) (vb1_2 : List Tm) : List AV := sp j 81 0 [(6, .mp 0 0), (9, ai 0), (10, ai v10), (11, .mp 1 0), (25, .sl (flat entL p0) (List.length p0) .no), (26, ai (List.length p0 : Int)), (27, ai v27)]
def g36L32687S0 (p0 : List Ent) (y3 : Int × List Ent × List Con') (v27 : Int) (vb0_0 : List Ent) (vb0_2 : List Int) (vb0_3 : List Int) (v10 : Int) (vb1_0 : Int) (vb1_1 : Int) (vb1_2 : List Tm) : LSt := ⟨[(0, .cells [.sl (flat entL vb0_0) (List.length vb0_0) .no, .mp 2 0, .sl (flat intC vb0_2) (List.length vb0_2) (.st 0 1), .sl (flat intC vb0_3) (List.length vb0_3) (.st 1 1)]), (1, .cells [ai vb1_0, ai vb1_1, .sl (flat tmCells vb1_2) (List.length vb1_2) .no]), (2, .cells [.sl (flat entL y3.2.1) (List.length y3.2.1) .no, .sl (flat conL y3.2.2) (List.length y3.2.2) .no])], 3, [0, 1], 2, []⟩
theorem q36 : Tryz.prog.funcs[36]? = some Tryz.f36 ∧ Tryz.f36.body.isNone = false := ⟨Tryz.func36, by kernel_rfl⟩
theorem k36s0 {p0 : List Ent} {r : Int} (h : CTri Tryz.prog 36 [] [.sl (flat entL p0) (List.length p0) .no] (.tup [.val (.pointer none), ai r]) [] 0) : CT Tryz.prog 36 [] [.sl (flat entL p0) (List.length p0) .no] (.tup [.val (.pointer none), ai r]) [] 0 := ⟨h, ⟨⟨trivial, dE _⟩, trivial⟩, forall_nil, ⟨trivial, trivial, trivial⟩, forall_nil⟩
theorem k36s1 {p0 : List Ent} {r : Int × List Ent × List Int × List Int × List Ent × List Con'} (h : CTri Tryz.prog 36 [] [.sl (flat entL p0) (List.length p0) .no] (.tup [.mp 0 0, ai r.1]) [.cells [.sl (flat entL r.2.1) (List.length r.2.1) .no, .mp 1 0, .sl (flat intC r.2.2.1) (List.length r.2.2.1) .no, .sl (flat intC r.2.2.2.1) (List.length r.2.2.2.1) .no], .cells [.sl (flat entL r.2.2.2.2.1) (List.length r.2.2.2.2.1) .no, .sl (flat conL r.2.2.2.2.2) (List.length r.2.2.2.2.2) .no]] 0) : CT Tryz.prog 36 [] [.sl (flat entL p0) (List.length p0) .no] (.tup [.mp 0 0, ai r.1]) [.cells [.sl (flat entL r.2.1) (List.length r.2.1) .no, .mp 1 0, .sl (flat intC r.2.2.1) (List.length r.2.2.1) .no, .sl (flat intC r.2.2.2.1) (List.length r.2.2.2.1) .no], .cells [.sl (flat entL r.2.2.2.2.1) (List.length r.2.2.2.2.1) .no, .sl (flat conL r.2.2.2.2.2) (List.length r.2.2.2.2.2) .no]] 0 := ⟨h, ⟨⟨trivial, dE _⟩, trivial⟩, forall_nil, ⟨(show 0 < 2 by decide), trivial, trivial⟩, (forall_cons ⟨dE _, (show 1 < 2 by decide), dI _, dI _, trivial⟩ (forall_cons ⟨dE _, dC _, trivial⟩ forall_nil))⟩
theorem a36L13239_36L32687 : ∀ qq : Nat, (∀ (p0 : List Ent) (y3 : Int × List Ent × List Con') (v27 : Int) (vb0_0 : List Ent) (vb0_2 : List Int) (vb0_3 : List Int) (r : (Int) ⊕ (Int × List Ent × List Int × List Int × List Ent × List Con')), e36L13239 qq p0 y3 v27 vb0_0 vb0_2 vb0_3 = some r → (∀ j, Dl Tryz.prog 0 (inn (inn (rgt (lft (rgt (rgt (rgt (rgt (bod Tryz.f36))))))))) (g36L13239E0 j p0 y3 v27 vb0_0 vb0_2 vb0_3) (g36L13239S0 p0 y3 v27 vb0_0 vb0_2 vb0_3) (frameQ Tryz.prog 0 ((match (generalizing := false) r with | Sum.inl x => FinQ Tryz.prog 0 Tryz.f36 (.tup [.val (.pointer none), ai x]) [] 0 | Sum.inr x => FinQ Tryz.prog 0 Tryz.f36 (.tup [.mp 0 0, ai x.1]) [.cells [.sl (flat entL x.2.1) (List.length x.2.1) .no, .mp 1 0, .sl (flat intC x.2.2.1) (List.length x.2.2.1) .no, .sl (flat intC x.2.2.2.1) (List.length x.2.2.2.1) .no], .cells [.sl (flat entL x.2.2.2.2.1) (List.length x.2.2.2.2.1) .no, .sl (flat conL x.2.2.2.2.2) (List.length x.2.2.2.2.2) .no]] 0)) [.blk 0, .seq (rgt (rgt (rgt (rgt (rgt (bod Tryz.f36))))))]))) ∧ (∀ (p0 : List Ent) (y3 : Int × List Ent × List Con') (v27 : Int) (vb0_0 : List Ent) (vb0_2 : List Int) (vb0_3 : List Int) (v10 : Int) (vb1_0 : Int) (vb1_1 : Int) (vb1_2 : List Tm) (r : (Int) ⊕ (Int × List Ent × List Int × List Int × List Ent × List Con')), e36L32687 qq p0 y3 v27 vb0_0 vb0_2 vb0_3 v10 vb1_0 vb1_1 vb1_2 = some r → (∀ j, Dl Tryz.prog 0 (inn (inn (rgt (lft (rgt (rgt (rgt (inn (rgt (lft (rgt (rgt (inn (lft (rgt (rgt (inn (inn (rgt (lft (rgt (rgt (rgt (rgt (bod Tryz.f36))))))))))))))))))))))))) (g36L32687E0 j p0 y3 v27 vb0_0 vb0_2 vb0_3 v10 vb1_0 vb1_1 vb1_2) (g36L32687S0 p0 y3 v27 vb0_0 vb0_2 vb0_3 v10 vb1_0 vb1_1 vb1_2) (frameQ Tryz.prog 0 ((match (generalizing := false) r with | Sum.inl x => FinQ Tryz.prog 0 Tryz.f36 (.tup [.val (.pointer none), ai x]) [] 0 | Sum.inr x => FinQ Tryz.prog 0 Tryz.f36 (.tup [.mp 0 0, ai x.1]) [.cells [.sl (flat entL x.2.1) (List.length x.2.1) .no, .mp 1 0, .sl (flat intC x.2.2.1) (List.length x.2.2.1) .no, .sl (flat intC x.2.2.2.1) (List.length x.2.2.2.1) .no], .cells [.sl (flat entL x.2.2.2.2.1) (List.length x.2.2.2.2.1) .no, .sl (flat conL x.2.2.2.2.2) (List.length x.2.2.2.2.2) .no]] 0)) [.blk 3, .blk 2, .seq (rgt (rgt (rgt (inn (lft (rgt (rgt (inn (inn (rgt (lft (rgt (rgt (rgt (rgt (bod Tryz.f36)))))))))))))))), .blk 1, .seq (rgt (rgt (rgt (inn (inn (rgt (lft (rgt (rgt (rgt (rgt (bod Tryz.f36)))))))))))), .loop (inn (inn (rgt (lft (rgt (rgt (rgt (rgt (bod Tryz.f36))))))))), .blk 0, .seq (rgt (rgt (rgt (rgt (rgt (bod Tryz.f36))))))]))) := by
  intro qq
  induction qq with
  | zero =>
    exact ⟨fun _ _ _ _ _ _ _ h => nn h, fun _ _ _ _ _ _ _ _ _ _ _ h => nn h⟩
  | succ qq ih =>
    obtain ⟨ih36L13239, ih36L32687⟩ := ih
    refine ⟨?_, ?_⟩
    · intro p0 y3 v27 vb0_0 vb0_2 vb0_3 r h
      rw [e36L13239] at h
      rcases spl h with ⟨h7, h⟩ | ⟨h7, h⟩
      · obtain ⟨x8, h9, h⟩ := obind h
        have k := oA 0 (ix22 (o := .no) h9) <| oB 0 h7 o0
        rcases spl h with ⟨h10, h⟩ | ⟨h10, h⟩
        · obtain ⟨l11, h12, h⟩ := obind h
          obtain ⟨l13, h14, h⟩ := obind h
          exact fun j => lH 3 [] [0, 1] [2, 3] [6, 25, 26, 27] (oD (dE p0) <| oD (dC y3.2.2) <| oD (dE y3.2.1) <| oD (dI l13) <| oD (dI l11) <| oD (dE vb0_0) <| oP 2 (apS34 h14 (by simp)) <| oP 9 (apS34 h12 (by simp)) <| oB 3 h10 k) (ih36L13239 _ _ _ _ _ _ _ h) (fun j => by kernel_rfl)
        · have k := oB 3 h10 k
          rcases spl h with ⟨h15, h⟩ | ⟨h15, h⟩
          · exact fun j => lH 2 [] [0, 3, 1] [0, 1] [6, 9, 10, 11, 25, 26, 27] (oD (dE p0) <| oD (dC y3.2.2) <| oD (dE y3.2.1) <| oD (dT x8.type.sub) <| oD (dI vb0_3) <| oD (dI vb0_2) <| oD (dE vb0_0) <| oB 0 h15 k) (ih36L32687 _ _ _ _ _ _ _ _ _ _ _ h) (fun j => by kernel_rfl)
          · obtain ⟨l16, h17, h⟩ := obind h
            obtain ⟨l18, h19, h⟩ := obind h
            exact fun j => lH 3 [] [0, 1] [2, 3] [6, 25, 26, 27] (oD (dE p0) <| oD (dC y3.2.2) <| oD (dE y3.2.1) <| oD (dI l18) <| oD (dI l16) <| oD (dE vb0_0) <| oP 2 (apS34 h19 (by simp)) <| oP 2 (apS34 h17 (by simp)) <| oB 0 h15 k) (ih36L13239 _ _ _ _ _ _ _ h) (fun j => by kernel_rfl)
      · obtain rfl := sj h
        exact fun j => lF 0 [0, 1] (oD (dC y3.2.2) <| oD (dE y3.2.1) <| oD (dI vb0_3) <| oD (dI vb0_2) <| oD (dE vb0_0) <| oB 0 h7 o0) (by kernel_rfl)
    · intro p0 y3 v27 vb0_0 vb0_2 vb0_3 v10 vb1_0 vb1_1 vb1_2 r h
      rw [e36L32687] at h
      rcases spl h with ⟨h16, h⟩ | ⟨h16, h⟩
      · obtain ⟨x17, h18, h⟩ := obind h
        exact fun j => lH 2 [] [0, 3, 2] [0, 1] [6, 9, 10, 11, 25, 26, 27] (oD (dE p0) <| oD (dC y3.2.2) <| oD (dE y3.2.1) <| oD (dT x17.sub) <| oD (dI vb0_3) <| oD (dI vb0_2) <| oD (dE vb0_0) <| oA 4 (ix23 (o := .no) h18) <| oB 1 h16 o0) (ih36L32687 _ _ _ _ _ _ _ _ _ _ _ h) (fun j => by kernel_rfl)
      · obtain ⟨l19, h20, h⟩ := obind h
        obtain ⟨l21, h22, h⟩ := obind h
        exact fun j => lH 3 [] [0, 2] [2, 3] [6, 25, 26, 27] (oD (dE p0) <| oD (dC y3.2.2) <| oD (dE y3.2.1) <| oD (dI l21) <| oD (dI l19) <| oD (dE vb0_0) <| oP 2 (apS34 h22 (by simp)) <| oP 2 (apS34 h20 (by simp)) <| oB 1 h16 o0) (ih36L13239 _ _ _ _ _ _ _ h) (fun j => by kernel_rfl)
theorem c36 {qq : Nat} {p0 : List Ent} {r : (Int) ⊕ (Int × List Ent × List Int × List Int × List Ent × List Con')} (h : e36 qq p0 = some r) : (match (generalizing := false) r with | Sum.inl x => CT Tryz.prog 36 [] [.sl (flat entL p0) (List.length p0) .no] (.tup [.val (.pointer none), ai x]) [] 0 | Sum.inr x => CT Tryz.prog 36 [] [.sl (flat entL p0) (List.length p0) .no] (.tup [.mp 0 0, ai x.1]) [.cells [.sl (flat entL x.2.1) (List.length x.2.1) .no, .mp 1 0, .sl (flat intC x.2.2.1) (List.length x.2.2.1) .no, .sl (flat intC x.2.2.2.1) (List.length x.2.2.2.1) .no], .cells [.sl (flat entL x.2.2.2.2.1) (List.length x.2.2.2.2.1) .no, .sl (flat conL x.2.2.2.2.2) (List.length x.2.2.2.2.2) .no]] 0) := by
  unfold e36 at h
  obtain ⟨r1, h2, h⟩ := obind h
  rcases r1 with y7 | y3
  · dsimp only at h
    have k := oC 0 [] (c23 h2) o0
    obtain ⟨h8, h⟩ := spT h
    obtain rfl := sj h
    exact k36s0 (tF q36 0 [] (oB 2 h8 k) (by kernel_rfl))
  · dsimp only at h
    have k := oC 0 [] (c23 h2) o0
    rcases spl h with ⟨h4, h⟩ | ⟨h4, h⟩
    · obtain rfl := sj h
      exact k36s0 (tF q36 0 [] (oB 2 h4 k) (by kernel_rfl))
    · obtain ⟨r5, h6, h⟩ := obind h
      rcases r with y0 | y1
      · exact k36s0 (tH q36 1 [(some 1, 2, 1), (some 1, 3, 1)] [1, 0] [0, 1] [6, 25, 26, 27] (oD (dE p0) <| oD (dC y3.2.2) <| oD (dE y3.2.1) <| oD (dI ([] : List Int)) <| oD (dI ([] : List Int)) <| oD (dE r5) <| oC 0 [] (c72 h6) <| oB 2 h4 k) (((a36L13239_36L32687 _).1) _ _ _ _ _ _ _ h) (fun j => by kernel_rfl))
      · exact k36s1 (tH q36 1 [(some 1, 2, 1), (some 1, 3, 1)] [1, 0] [0, 1] [6, 25, 26, 27] (oD (dE p0) <| oD (dC y3.2.2) <| oD (dE y3.2.1) <| oD (dI ([] : List Int)) <| oD (dI ([] : List Int)) <| oD (dE r5) <| oC 0 [] (c72 h6) <| oB 2 h4 k) (((a36L13239_36L32687 _).1) _ _ _ _ _ _ _ h) (fun j => by kernel_rfl))

end Go.Proofs.YteiddempdecleaaGreat

namespace Go.Proofs.YteiddempdecleaaGreat
open Go Go.Ab

theorem ev_Every {N : ByteArray → Bool} (l : List Ent) (hf : Evt (fun q => e73 q l) true) (hE : AllE N l) (he : ∀ e ∈ l, EOk e) : Evt (fun q => e74 q l) (.inr (evA l l.length 0, 0)) := by
  simp only [e74]
  have hl := hE.1
  refine hf.bind (Evt.ifT rfl (Evt.pure (a := List.replicate l.length default) ?_ ?_))
  · unfold gmk; rw [if_pos (by omega)]; rfl
  · exact (ev_EveryL l (List.replicate l.length default) (by simp) hE he l.length 0 [] (by omega) rfl).eq (by simp)
/-- the rules -/
def rulesT (l : List Ent) (b : Bool) : (Int) ⊕ (Int × List Ent × List Con') := if b = true then .inr (0, l, evA l l.length 0) else .inl 5
theorem ev_iNew (N : ByteArray → Bool) (hN : NamesBy N) (l : List Ent) (hl : l.length ≤ 65535) (he : ∀ e ∈ l, EOk e) (hc : ∀ e ∈ l, ECl e) : ∃ b, Evt (fun q => e73 q l) b ∧ (b = true → AllE N l) ∧ Evt (fun q => e23 q l) (rulesT l b) := by
  obtain ⟨d, -, hd⟩ := ev_Formed N hN l hl he
  refine ⟨_, hd, formedT_spec, ?_⟩
  simp only [e23]
  refine (ev_sCopy l hl he hc).bind (hd.bind ?_)
  unfold rulesT
  by_cases h : formedT N d l = true
  · rw [if_pos h]
    have hA := formedT_spec h
    rw [copy_same hA]
    refine Evt.ifT h ((ev_Every l (hd.eq h) hA he).bind ?_)
    exact Evt.ifF (by simp) Evt.ret
  · rw [if_neg h]
    exact Evt.ifF (by simpa using h) Evt.ret

theorem pis_nodes (t : Tm) (hg : goodT t = true) : pisT t ≤ t.nodes := by
  have key : ∀ (m : Nat) (t : Tm), t.nodes ≤ m → goodT t = true → pisT t ≤ t.nodes := by
    intro m
    induction m with
    | zero => intro t h; have := nodes_pos t; omega
    | succ m ih =>
      intro t hm hg
      by_cases k : t.k = 3
      · obtain ⟨x, y, e, hx, hy⟩ := pi_form hg k
        rw [e] at hm ⊢
        rw [pisT_pi]
        rw [Tm.nodes, nodesL, nodesL, nodesL] at hm ⊢
        have := nodes_pos x
        have := ih y (by omega) hy
        omega
      · rw [pisT_k k]; omega
  exact key t.nodes t (Nat.le_refl _) hg
/- the machine's numbers -/
def argsT (e : Ent) : Int := if e.kind = 1 then e.pars + 2 + e.cons.length + e.inds else 0
def ownT (e : Ent) : Int := if e.kind = 2 then (pisT e.type : Int) else 0
/-- what Pis stand ahead of a term: counted -/
theorem ev_wPis (l : List Ent) (y3 : Int × List Ent × List Con') (v27 : Int) (vb : List Ent) (a o : List Int) (r : (Int) ⊕ (Int × List Ent × List Int × List Int × List Ent × List Con')) (ha : a.length ≤ 65535) (ho : o.length ≤ 65535) (tot : Int) (ht : tot ≤ 4611686018427387904)
    (hk : Evt (fun q => e36L13239 q l y3 (w64 (v27 + 1)) vb (a ++ [0]) (o ++ [tot])) r) :
    ∀ (t : Tm) (v : Int), goodT t = true → 0 ≤ v → v + pisT t = tot → Evt (fun q => e36L32687 q l y3 v27 vb a o v t.k t.n t.sub) r := by
  have key : ∀ (m : Nat) (t : Tm) (v : Int), t.nodes ≤ m → goodT t = true → 0 ≤ v → v + pisT t = tot → Evt (fun q => e36L32687 q l y3 v27 vb a o v t.k t.n t.sub) r := by
    intro m
    induction m with
    | zero => intro t v h; have := nodes_pos t; omega
    | succ m ih =>
      intro t v hm hg h0 hv
      refine Evt.succ ?_
      simp only [e36L32687]
      by_cases k : t.k = 3
      · obtain ⟨x, y, e, hx, hy⟩ := pi_form hg k
        rw [e] at hv hm ⊢
        rw [pisT_pi] at hv
        refine Evt.ifT (by simp [Tm.k]) (Evt.pure (a := y) (by simp [gidx, Tm.sub]) ?_)
        rw [w64_id (x := v + 1) (by omega) (by omega)]
        refine ih y (v + 1) ?_ hy (by omega) (by omega)
        rw [Tm.nodes, nodesL, nodesL, nodesL] at hm
        have := nodes_pos x
        omega
      · rw [pisT_k k] at hv
        refine Evt.ifF (by simp [k]) (Evt.pure (gapp_ok (by simp <;> omega)) (Evt.pure (gapp_ok (by simp <;> omega)) ?_))
        rw [show v = tot by omega]; exact hk
  exact fun t v => key t.nodes t v (Nat.le_refl _)
theorem ev_wNewL {N : ByteArray → Bool} (l vb : List Ent) (y3 : Int × List Ent × List Con') (hE : AllE N l) : ∀ (r : List Ent) (v : Nat) (a o : List Int), l.drop v = r → a.length ≤ v → o.length ≤ v →
    Evt (fun q => e36L13239 q l y3 (v : Int) vb a o) (.inr (0, vb, a ++ r.map argsT, o ++ r.map ownT, y3.2.1, y3.2.2))
  | [], v, a, o, hd, ha, ho => by
    refine Evt.succ ?_
    simp only [e36L13239]
    exact Evt.ifF (drop_nil hd) (Evt.ret.eq (by simp))
  | x :: r, v, a, o, hd, ha, ho => by
    have hlt := drop_lt hd
    have hl := hE.1
    have hx : ent l v = x := by
      have h1 := drop_idx hd
      rw [gidx_ent (by omega) (by omega)] at h1
      exact Option.some.inj h1
    have hs := entryT_spec (hE.2 v (by omega) (by omega))
    rw [hx] at hs
    refine Evt.succ ?_
    simp only [e36L13239]
    refine Evt.ifT (drop_dec hd) (Evt.pure (drop_idx hd) ?_)
    by_cases k1 : x.kind = 1
    · have hf := familyT_spec (hs.2.1 k1)
      rw [hx] at hf
      rw [w64_id (x := x.pars + 2) (by omega) (by omega), w64_id (x := x.pars + 2 + x.cons.length) (by omega) (by omega), w64_id (x := x.pars + 2 + x.cons.length + x.inds) (by omega) (by omega), w64_nat v (by omega)]
      refine Evt.ifT (by simp [k1]) (Evt.pure (gapp_ok (by simp <;> omega)) (Evt.pure (gapp_ok (by simp <;> omega)) ?_))
      refine (ev_wNewL l vb y3 hE r (v + 1) _ _ (drop_next hd) (by simp <;> omega) (by simp <;> omega)).eq ?_
      simp [argsT, ownT, k1]
    · refine Evt.ifF (by simp [k1]) ?_
      by_cases k2 : x.kind = 2
      · refine Evt.ifT (by simp [k2]) ?_
        have hsh := (shapedT_spec (closed_shaped hs.1))
        have hp : pisT x.type ≤ 8192 := Nat.le_trans (pis_nodes x.type hsh.2.2) hsh.1
        refine ev_wPis l y3 v vb a o _ (by omega) (by omega) (pisT x.type) (by omega) ?_ x.type 0 hsh.2.2 (by omega) (by omega)
        rw [w64_nat v (by omega)]
        refine (ev_wNewL l vb y3 hE r (v + 1) _ _ (drop_next hd) (by simp <;> omega) (by simp <;> omega)).eq ?_
        simp [argsT, ownT, k2]
      · refine Evt.ifF (by simp [k2]) (Evt.pure (gapp_ok (by simp <;> omega)) (Evt.pure (gapp_ok (by simp <;> omega)) ?_))
        rw [w64_nat v (by omega)]
        refine (ev_wNewL l vb y3 hE r (v + 1) _ _ (drop_next hd) (by simp <;> omega) (by simp <;> omega)).eq ?_
        simp [argsT, ownT, k1, k2]
/-- the machine of a signature -/
def machT (l : List Ent) : Mach := Mach.mk l l (evA l l.length 0) (l.map argsT) (l.map ownT)
def newT (l : List Ent) (b : Bool) : (Int) ⊕ (Int × List Ent × List Int × List Int × List Ent × List Con') := if b = true then .inr (0, l, l.map argsT, l.map ownT, l, evA l l.length 0) else .inl 5
theorem ev_wNew (N : ByteArray → Bool) (hN : NamesBy N) (l : List Ent) (hl : l.length ≤ 65535) (he : ∀ e ∈ l, EOk e) (hc : ∀ e ∈ l, ECl e) : ∃ b, Evt (fun q => e73 q l) b ∧ (b = true → AllE N l) ∧ Evt (fun q => e36 q l) (newT l b) := by
  obtain ⟨b, h1, h2, h3⟩ := ev_iNew N hN l hl he hc
  refine ⟨b, h1, h2, ?_⟩
  simp only [e36]
  refine h3.bind ?_
  unfold rulesT newT
  cases b with
  | false => exact Evt.ifT (by decide) Evt.ret
  | true =>
    refine Evt.ifF (by simp) ((ev_sCopy l hl he hc).bind ?_)
    rw [copy_same (h2 rfl)]
    exact (ev_wNewL l l _ (h2 rfl) l 0 [] [] rfl (by simp) (by simp)).eq (by simp)
end Go.Proofs.YteiddempdecleaaGreat

namespace Go.Proofs.YteiddempdecleaaGreat
open Go Go.Ab

/- (*scholium/iota.maker).done -/
def e124 (qq : Nat) (q0_e : Int) (p1 : Tm) : Option (Tm × Int × Int) :=
  if (q0_e == 0) = true then
    (e91 qq p1) >>= fun r2 =>
    if r2 = true then
      if (q0_e != 0) = true then
        some ((Tm.mk 0 0 []), q0_e, q0_e)
      else
        some (p1, 0, q0_e)
    else
      some ((Tm.mk 0 0 []), 2, 2)
  else
    if (q0_e != 0) = true then
      some ((Tm.mk 0 0 []), q0_e, q0_e)
    else
      some (p1, 0, q0_e)
theorem q124 : Tryz.prog.funcs[124]? = some Tryz.f124 ∧ Tryz.f124.body.isNone = false := ⟨Tryz.func124, by kernel_rfl⟩
theorem k124 {q0_e : Int} {p1 : Tm} {r : Tm × Int × Int} (h : CTri Tryz.prog 124 [.cells [ai q0_e]] [.mp 0 0, tmA p1] (.tup [tmA r.1, ai r.2.1]) [.cells [ai r.2.2]] 0) : CT Tryz.prog 124 [.cells [ai q0_e]] [.mp 0 0, tmA p1] (.tup [tmA r.1, ai r.2.1]) [.cells [ai r.2.2]] 0 := ⟨h, ⟨(show 0 < 1 by decide), ⟨trivial, trivial, ⟨trivial, dT _⟩, trivial⟩, trivial⟩, (forall_cons ⟨trivial, trivial⟩ forall_nil), ⟨⟨trivial, trivial, dT _, trivial⟩, trivial, trivial⟩, (forall_cons ⟨trivial, trivial⟩ forall_nil)⟩
theorem c124 {qq : Nat} {q0_e : Int} {p1 : Tm} {r : Tm × Int × Int} (h : e124 qq q0_e p1 = some r) : CT Tryz.prog 124 [.cells [ai q0_e]] [.mp 0 0, tmA p1] (.tup [tmA r.1, ai r.2.1]) [.cells [ai r.2.2]] 0 := by
  unfold e124 at h
  rcases spl h with ⟨h1, h⟩ | ⟨h1, h⟩
  · obtain ⟨r2, h3, h⟩ := obind h
    have k := oB 1 h1 o0
    rcases spl h with ⟨h4, h⟩ | ⟨h4, h⟩
    · have k := oK 1 [] h4 (c91 h3) k
      rcases spl h with ⟨h5, h⟩ | ⟨h5, h⟩
      · obtain rfl := sj h
        exact k124 (tF q124 2 [0] (oD (dT ([] : List Tm)) <| oB 2 h5 k) (by kernel_rfl))
      · obtain rfl := sj h
        exact k124 (tF q124 2 [0] (oD (dT p1.sub) <| oB 2 h5 k) (by kernel_rfl))
    · obtain rfl := sj h
      exact k124 (tF q124 6 [0] (oD (dT ([] : List Tm)) <| oK 1 [] h4 (c91 h3) k) (by kernel_rfl))
  · have k := oB 1 h1 o0
    rcases spl h with ⟨h6, h⟩ | ⟨h6, h⟩
    · obtain rfl := sj h
      exact k124 (tF q124 2 [0] (oD (dT ([] : List Tm)) <| oB 1 h6 k) (by kernel_rfl))
    · obtain rfl := sj h
      exact k124 (tF q124 2 [0] (oD (dT p1.sub) <| oB 1 h6 k) (by kernel_rfl))

end Go.Proofs.YteiddempdecleaaGreat

namespace Go.Proofs.YteiddempdecleaaGreat
open Go Go.Ab

/- scholium/tele.Vars -/
def e138L48355 : Nat → (List Tm) → Int →  Option (List Tm)
  | 0, _, _ => none
  | qq + 1, v3, v4 =>
    if decide (v4 ≥ 0) = true then
      (e140 qq v4) >>= fun r4 =>
      (gapp 40 v3 [r4]) >>= fun l6 =>
      e138L48355 qq l6 (w64 (v4 - 1))
    else
      some v3
def e138 (qq : Nat) (p0 : Int) : Option (List Tm) :=
  if decide (p0 < 0) = true then
    some []
  else
    if decide (p0 > 1048576) = true then
      some []
    else
      e138L48355 qq [] (w64 (p0 - 1))
def g138L48355E0 (j : Nat → Value) (v3 : List Tm) (v4 : Int) : List AV := sp j 23 0 [(3, .sl (flat tmCells v3) (List.length v3) (.st 0 3)), (4, ai v4)]
def g138L48355S0 (v3 : List Tm) (v4 : Int) : LSt := ⟨[], 0, [0], 1, []⟩
theorem q138 : Tryz.prog.funcs[138]? = some Tryz.f138 ∧ Tryz.f138.body.isNone = false := ⟨Tryz.func138, by kernel_rfl⟩
theorem k138 {p0 : Int} {r : List Tm} (h : CTri Tryz.prog 138 [] [ai p0] (.sl (flat tmCells r) (List.length r) .no) [] 0) : CT Tryz.prog 138 [] [ai p0] (.sl (flat tmCells r) (List.length r) .no) [] 0 := ⟨h, ⟨trivial, trivial⟩, forall_nil, dT _, forall_nil⟩
theorem l138L48355 : ∀ qq : Nat, (∀ (v3 : List Tm) (v4 : Int) (r : List Tm), e138L48355 qq v3 v4 = some r → (∀ j, Dl Tryz.prog 0 (inn (inn (rgt (lft (rgt (rgt (rgt (bod Tryz.f138)))))))) (g138L48355E0 j v3 v4) (g138L48355S0 v3 v4) (frameQ Tryz.prog 0 (FinQ Tryz.prog 0 Tryz.f138 (.sl (flat tmCells r) (List.length r) .no) [] 0) [.blk 0, .seq (rgt (rgt (rgt (rgt (bod Tryz.f138)))))]))) := by
  intro qq
  induction qq with
  | zero =>
    exact fun _ _ _ h => nn h
  | succ qq ih =>
    intro v3 v4 r h
    rw [e138L48355] at h
    rcases spl h with ⟨h3, h⟩ | ⟨h3, h⟩
    · obtain ⟨r4, h5, h⟩ := obind h
      obtain ⟨l6, h7, h⟩ := obind h
      exact fun j => lH 1 [] [] [1] [3, 4] (oD (dT l6) <| oP 0 (apS23 h7 (by simp)) <| oS 0 (obLitR tm_eq [r4]) <| oC 0 [] (c140 h5) <| oB 0 h3 o0) (ih _ _ _ h) (fun j => by kernel_rfl)
    · obtain rfl := sj h
      exact fun j => lF 0 [] (oD (dT v3) <| oB 0 h3 o0) (by kernel_rfl)
theorem c138 {qq : Nat} {p0 : Int} {r : List Tm} (h : e138 qq p0 = some r) : CT Tryz.prog 138 [] [ai p0] (.sl (flat tmCells r) (List.length r) .no) [] 0 := by
  unfold e138 at h
  rcases spl h with ⟨h1, h⟩ | ⟨h1, h⟩
  · obtain rfl := sj h
    exact k138 (tF q138 0 [] (oD (dT ([] : List Tm)) <| oB 0 h1 o0) (by kernel_rfl))
  · have k := oB 0 h1 o0
    rcases spl h with ⟨h2, h⟩ | ⟨h2, h⟩
    · obtain rfl := sj h
      exact k138 (tF q138 0 [] (oD (dT ([] : List Tm)) <| oB 0 h2 k) (by kernel_rfl))
    · exact k138 (tH q138 1 [(none, 3, 3)] [] [0] [3, 4] (oD (dT ([] : List Tm)) <| oB 0 h2 k) (l138L48355 _ _ _ _ h) (fun j => by kernel_rfl))

end Go.Proofs.YteiddempdecleaaGreat
