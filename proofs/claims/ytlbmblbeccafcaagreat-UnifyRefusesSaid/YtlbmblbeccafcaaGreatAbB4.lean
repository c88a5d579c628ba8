/- Texts: AbF127va38307 AbF299 AbF241 AbF301 AbF181va22461_242va10891_302va27343_303va22461 AbF180va30903 AbF89 AbF179va42726 AbF128 AbF84va38307 AbF49va42369 AbF81va58521 AbF82va31404 AbF124 AbF125va10557 AbF139 AbF137v0 AbF137v1 AbF137vr1 AbF137 AbF176 AbF132 AbF91 AbF126 AbF83va28761 AbF49va65079 AbF17 AbF48va5951 AbF17va5951 AbF18 AbF19va37379 AbF20 AbF4 -/
import Derived.Test.YtlbmblbeccafcaaGreatAbB3
set_option linter.unusedVariables false
set_option linter.unusedSimpArgs false

namespace Go.Proofs.YtlbmblbeccafcaaGreat
open Go Go.Ab

/- (*scholium/unify.solver).constructors -/
def e127va38307L48337 (qq : Nat) (q0 : List Ent) (q1 : List Ent) (q2 : List Con') (q3 : List Int) (q4 : List Int) (q7 : List FreeVar) (q8 : List UnifyEquation) (q9 : Nat) (q10 : Nat) (q11 : Nat) (q12 : Bool) (q13 : Bool) (q14 : Int) (r1 : Int × List Tm × Bool) (r4 : Int × List Tm × Bool) (v62 : Int) (vb3_0 : Int) (vb3_1 : Int) (vb5_0 : List UnifyEquation) : Option ((Bool × List UnifyEquation × Nat × Nat × Nat × Bool × Int × Int × Int) ⊕ (Bool × List UnifyEquation × List Int × Bool × Int × Int × Int)) :=
  if decide (v62 < (List.length r1.2.1 : Int)) = true then
    none
  else
    if decide (q9 = 0) = true then
      (e125va14140 qq q0 q1 q2 q3 q4 vb3_0 vb3_1 q7 vb5_0 (List.length vb5_0) 0 (List.length vb5_0) q12 q13 q14 2) >>= fun r51 =>
      some (Sum.inr (true, vb5_0, r51, q13, q14, vb3_0, vb3_1))
    else
      none
def e127va38307L23173 (qq : Nat) (q0 : List Ent) (q1 : List Ent) (q2 : List Con') (q3 : List Int) (q4 : List Int) (q7 : List FreeVar) (q8 : List UnifyEquation) (q9 : Nat) (q10 : Nat) (q11 : Nat) (q12 : Bool) (q13 : Bool) (q14 : Int) (r1 : Int × List Tm × Bool) (r4 : Int × List Tm × Bool) (v62 : Int) (vb3_0 : Int) (vb3_1 : Int) : Option ((Bool × List UnifyEquation × Nat × Nat × Nat × Bool × Int × Int × Int) ⊕ (Bool × List UnifyEquation × List Int × Bool × Int × Int × Int)) :=
  if decide (v62 < (List.length r1.2.1 : Int)) = true then
    (e77 qq (Mach.mk q0 q1 q2 q3 q4) r1.1) >>= fun r16 =>
    if decide (v62 ≥ r16) = true then
      (gidx r1.2.1 v62) >>= fun x19 =>
      (gidx r4.2.1 v62) >>= fun x21 =>
      (gapp 80 ([] : List UnifyEquation) [(UnifyEquation.mk x19 x21)]) >>= fun l23 =>
      e127va38307L48337 qq q0 q1 q2 q3 q4 q7 q8 q9 q10 q11 q12 q13 q14 r1 r4 (w64 (v62 + 1)) vb3_0 vb3_1 l23
    else
      none
  else
    none
def e127va38307 (qq : Nat) (q0 : List Ent) (q1 : List Ent) (q2 : List Con') (q3 : List Int) (q4 : List Int) (q5 : Int) (q6 : Int) (q7 : List FreeVar) (q8 : List UnifyEquation) (q9 : Nat) (q10 : Nat) (q11 : Nat) (q12 : Bool) (q13 : Bool) (q14 : Int) (p1 : UnifyEquation) : Option ((Bool × List UnifyEquation × Nat × Nat × Nat × Bool × Int × Int × Int) ⊕ (Bool × List UnifyEquation × List Int × Bool × Int × Int × Int)) :=
  (e76 qq (Mach.mk q0 q1 q2 q3 q4) p1.a_) >>= fun r1 =>
  if r1.2.2 = true then
    (e76 qq (Mach.mk q0 q1 q2 q3 q4) p1.b_) >>= fun r4 =>
    if r4.2.2 = true then
      (e177va14140 qq q0 q1 q2 q3 q4 q5 q6 q7 q8 q9 q10 q11 q12 q13 q14 r1.1) >>= fun r7 =>
      (e177va14140 qq q0 q1 q2 q3 q4 q5 q6 q7 q8 q9 q10 q11 q12 q13 q14 r4.1) >>= fun r9 =>
      if (r7 != r9) = true then
        none
      else
        if (r1.1 != r4.1) = true then
          none
        else
          e127va38307L23173 qq q0 q1 q2 q3 q4 q7 q8 q9 q10 q11 q12 q13 q14 r1 r4 0 q5 q6
    else
      none
  else
    (e76 qq (Mach.mk q0 q1 q2 q3 q4) p1.b_) >>= fun r15 =>
    if r15.2.2 = true then
      none
    else
      some (Sum.inl (false, q8, q9, q10, q11, q13, q14, q5, q6))
def g127va38307L23173E0 (j : Nat → Value) (q0 : List Ent) (q1 : List Ent) (q2 : List Con') (q3 : List Int) (q4 : List Int) (q7 : List FreeVar) (q8 : List UnifyEquation) (q9 : Nat) (q10 : Nat) (q11 : Nat) (q12 : Bool) (q13 : Bool) (q14 : Int) (r1 : Int × List Tm × Bool) (r4 : Int × List Tm × Bool) (v62 : Int) (vb3_0 : Int) (vb3_1 : Int) : List AV := sp j 133 0 [(0, .mp 0 0), (5, ai r1.1), (6, .sl (flat tmCells r1.2.1) (List.length r1.2.1) .no), (9, .sl (flat tmCells r4.2.1) (List.length r4.2.1) .no), (11, .sl (flat unifyEquationL ([] : List UnifyEquation)) (List.length ([] : List UnifyEquation)) .nl), (61, ai (List.length r1.2.1 : Int)), (62, ai v62)]
def g127va38307L23173S0 (q0 : List Ent) (q1 : List Ent) (q2 : List Con') (q3 : List Int) (q4 : List Int) (q7 : List FreeVar) (q8 : List UnifyEquation) (q9 : Nat) (q10 : Nat) (q11 : Nat) (q12 : Bool) (q13 : Bool) (q14 : Int) (r1 : Int × List Tm × Bool) (r4 : Int × List Tm × Bool) (v62 : Int) (vb3_0 : Int) (vb3_1 : Int) : LSt := ⟨[(0, .cells [.mp 1 0, .mp 3 0, .sl (flat freeVarL q7) (List.length q7) .no, .ms 4 (q10 * 6) q9 q11 6, ab q12, .sl (flat freeVarL ([] : List FreeVar)) (List.length ([] : List FreeVar)) .nl, .sl (flat unifySolvedL ([] : List UnifySolved)) (List.length ([] : List UnifySolved)) .nl, .sl (flat intC ([] : List Int)) (List.length ([] : List Int)) .nl, ab q13, ai q14]), (1, .cells [.sl (flat entL q0) (List.length q0) .no, .mp 2 0, .sl (flat intC q3) (List.length q3) .no, .sl (flat intC q4) (List.length q4) .no]), (2, .cells [.sl (flat entL q1) (List.length q1) .no, .sl (flat conL q2) (List.length q2) .no]), (3, .cells [ai vb3_0, ai vb3_1]), (4, .row (flat unifyEquationL q8))], 5, [], 0, []⟩
def g127va38307L48337E0 (j : Nat → Value) (q0 : List Ent) (q1 : List Ent) (q2 : List Con') (q3 : List Int) (q4 : List Int) (q7 : List FreeVar) (q8 : List UnifyEquation) (q9 : Nat) (q10 : Nat) (q11 : Nat) (q12 : Bool) (q13 : Bool) (q14 : Int) (r1 : Int × List Tm × Bool) (r4 : Int × List Tm × Bool) (v62 : Int) (vb3_0 : Int) (vb3_1 : Int) (vb5_0 : List UnifyEquation) : List AV := sp j 133 0 [(0, .mp 0 0), (5, ai r1.1), (6, .sl (flat tmCells r1.2.1) (List.length r1.2.1) .no), (9, .sl (flat tmCells r4.2.1) (List.length r4.2.1) .no), (11, .ms 5 0 (List.length vb5_0) (List.length vb5_0) 6), (61, ai (List.length r1.2.1 : Int)), (62, ai v62)]
def g127va38307L48337S0 (q0 : List Ent) (q1 : List Ent) (q2 : List Con') (q3 : List Int) (q4 : List Int) (q7 : List FreeVar) (q8 : List UnifyEquation) (q9 : Nat) (q10 : Nat) (q11 : Nat) (q12 : Bool) (q13 : Bool) (q14 : Int) (r1 : Int × List Tm × Bool) (r4 : Int × List Tm × Bool) (v62 : Int) (vb3_0 : Int) (vb3_1 : Int) (vb5_0 : List UnifyEquation) : LSt := ⟨[(0, .cells [.mp 1 0, .mp 3 0, .sl (flat freeVarL q7) (List.length q7) .no, .ms 4 (q10 * 6) q9 q11 6, ab q12, .sl (flat freeVarL ([] : List FreeVar)) (List.length ([] : List FreeVar)) .nl, .sl (flat unifySolvedL ([] : List UnifySolved)) (List.length ([] : List UnifySolved)) .nl, .sl (flat intC ([] : List Int)) (List.length ([] : List Int)) .nl, ab q13, ai q14]), (1, .cells [.sl (flat entL q0) (List.length q0) .no, .mp 2 0, .sl (flat intC q3) (List.length q3) .no, .sl (flat intC q4) (List.length q4) .no]), (2, .cells [.sl (flat entL q1) (List.length q1) .no, .sl (flat conL q2) (List.length q2) .no]), (3, .cells [ai vb3_0, ai vb3_1]), (4, .row (flat unifyEquationL q8)), (5, .row (flat unifyEquationL vb5_0))], 6, [], 0, []⟩
theorem q127va38307 : Tryz.prog.funcs[127]? = some Tryz.f127 ∧ Tryz.f127.body.isNone = false := ⟨Tryz.func127, by kernel_rfl⟩
theorem k127va38307s0 {q0 : List Ent} {q1 : List Ent} {q2 : List Con'} {q3 : List Int} {q4 : List Int} {q5 : Int} {q6 : Int} {q7 : List FreeVar} {q8 : List UnifyEquation} {q9 : Nat} {q10 : Nat} {q11 : Nat} {q12 : Bool} {q13 : Bool} {q14 : Int} {p1 : UnifyEquation} {r : Bool × List UnifyEquation × Nat × Nat × Nat × Bool × Int × Int × Int} (h : CTri Tryz.prog 127 [.cells [.mp 1 0, .mp 3 0, .sl (flat freeVarL q7) (List.length q7) .no, .ms 4 (q10 * 6) q9 q11 6, ab q12, .sl (flat freeVarL ([] : List FreeVar)) (List.length ([] : List FreeVar)) .nl, .sl (flat unifySolvedL ([] : List UnifySolved)) (List.length ([] : List UnifySolved)) .nl, .sl (flat intC ([] : List Int)) (List.length ([] : List Int)) .nl, ab q13, ai q14], .cells [.sl (flat entL q0) (List.length q0) .no, .mp 2 0, .sl (flat intC q3) (List.length q3) .no, .sl (flat intC q4) (List.length q4) .no], .cells [.sl (flat entL q1) (List.length q1) .no, .sl (flat conL q2) (List.length q2) .no], .cells [ai q5, ai q6], .row (flat unifyEquationL q8)] [.mp 0 0, unifyEquationA p1] (ab r.1) [.cells [.mp 1 0, .mp 3 0, .sl (flat freeVarL q7) (List.length q7) .no, .ms 4 (r.2.2.2.1 * 6) r.2.2.1 r.2.2.2.2.1 6, ab q12, .sl (flat freeVarL ([] : List FreeVar)) (List.length ([] : List FreeVar)) .nl, .sl (flat unifySolvedL ([] : List UnifySolved)) (List.length ([] : List UnifySolved)) .nl, .sl (flat intC ([] : List Int)) (List.length ([] : List Int)) .nl, ab r.2.2.2.2.2.1, ai r.2.2.2.2.2.2.1], .cells [.sl (flat entL q0) (List.length q0) .no, .mp 2 0, .sl (flat intC q3) (List.length q3) .no, .sl (flat intC q4) (List.length q4) .no], .cells [.sl (flat entL q1) (List.length q1) .no, .sl (flat conL q2) (List.length q2) .no], .cells [ai r.2.2.2.2.2.2.2.1, ai r.2.2.2.2.2.2.2.2], .row (flat unifyEquationL q8)] 0) : CT Tryz.prog 127 [.cells [.mp 1 0, .mp 3 0, .sl (flat freeVarL q7) (List.length q7) .no, .ms 4 (q10 * 6) q9 q11 6, ab q12, .sl (flat freeVarL ([] : List FreeVar)) (List.length ([] : List FreeVar)) .nl, .sl (flat unifySolvedL ([] : List UnifySolved)) (List.length ([] : List UnifySolved)) .nl, .sl (flat intC ([] : List Int)) (List.length ([] : List Int)) .nl, ab q13, ai q14], .cells [.sl (flat entL q0) (List.length q0) .no, .mp 2 0, .sl (flat intC q3) (List.length q3) .no, .sl (flat intC q4) (List.length q4) .no], .cells [.sl (flat entL q1) (List.length q1) .no, .sl (flat conL q2) (List.length q2) .no], .cells [ai q5, ai q6], .row (flat unifyEquationL q8)] [.mp 0 0, unifyEquationA p1] (ab r.1) [.cells [.mp 1 0, .mp 3 0, .sl (flat freeVarL q7) (List.length q7) .no, .ms 4 (r.2.2.2.1 * 6) r.2.2.1 r.2.2.2.2.1 6, ab q12, .sl (flat freeVarL ([] : List FreeVar)) (List.length ([] : List FreeVar)) .nl, .sl (flat unifySolvedL ([] : List UnifySolved)) (List.length ([] : List UnifySolved)) .nl, .sl (flat intC ([] : List Int)) (List.length ([] : List Int)) .nl, ab r.2.2.2.2.2.1, ai r.2.2.2.2.2.2.1], .cells [.sl (flat entL q0) (List.length q0) .no, .mp 2 0, .sl (flat intC q3) (List.length q3) .no, .sl (flat intC q4) (List.length q4) .no], .cells [.sl (flat entL q1) (List.length q1) .no, .sl (flat conL q2) (List.length q2) .no], .cells [ai r.2.2.2.2.2.2.2.1, ai r.2.2.2.2.2.2.2.2], .row (flat unifyEquationL q8)] 0 := ⟨h, ⟨(show 0 < 5 by decide), ⟨trivial, trivial, ⟨trivial, dT _⟩, trivial, trivial, ⟨trivial, dT _⟩, trivial⟩, trivial⟩, (forall_cons ⟨(show 1 < 5 by decide), (show 3 < 5 by decide), ⟨trivial, dFreeVar _⟩, (show 4 < 5 by decide), trivial, ⟨trivial, dFreeVar _⟩, ⟨trivial, dUnifySolved _⟩, ⟨trivial, dI _⟩, trivial, trivial, trivial⟩ (forall_cons ⟨⟨trivial, dE _⟩, (show 2 < 5 by decide), ⟨trivial, dI _⟩, ⟨trivial, dI _⟩, trivial⟩ (forall_cons ⟨⟨trivial, dE _⟩, ⟨trivial, dC _⟩, trivial⟩ (forall_cons ⟨trivial, trivial, trivial⟩ (forall_cons (dUnifyEquation _) forall_nil))))), trivial, (forall_cons ⟨(show 1 < 5 by decide), (show 3 < 5 by decide), dFreeVar _, (show 4 < 5 by decide), trivial, dFreeVar _, dUnifySolved _, dI _, trivial, trivial, trivial⟩ (forall_cons ⟨dE _, (show 2 < 5 by decide), dI _, dI _, trivial⟩ (forall_cons ⟨dE _, dC _, trivial⟩ (forall_cons ⟨trivial, trivial, trivial⟩ (forall_cons (dUnifyEquation _) forall_nil)))))⟩
theorem k127va38307s1 {q0 : List Ent} {q1 : List Ent} {q2 : List Con'} {q3 : List Int} {q4 : List Int} {q5 : Int} {q6 : Int} {q7 : List FreeVar} {q8 : List UnifyEquation} {q9 : Nat} {q10 : Nat} {q11 : Nat} {q12 : Bool} {q13 : Bool} {q14 : Int} {p1 : UnifyEquation} {r : Bool × List UnifyEquation × List Int × Bool × Int × Int × Int} (h : CTri Tryz.prog 127 [.cells [.mp 1 0, .mp 3 0, .sl (flat freeVarL q7) (List.length q7) .no, .ms 4 (q10 * 6) q9 q11 6, ab q12, .sl (flat freeVarL ([] : List FreeVar)) (List.length ([] : List FreeVar)) .nl, .sl (flat unifySolvedL ([] : List UnifySolved)) (List.length ([] : List UnifySolved)) .nl, .sl (flat intC ([] : List Int)) (List.length ([] : List Int)) .nl, ab q13, ai q14], .cells [.sl (flat entL q0) (List.length q0) .no, .mp 2 0, .sl (flat intC q3) (List.length q3) .no, .sl (flat intC q4) (List.length q4) .no], .cells [.sl (flat entL q1) (List.length q1) .no, .sl (flat conL q2) (List.length q2) .no], .cells [ai q5, ai q6], .row (flat unifyEquationL q8)] [.mp 0 0, unifyEquationA p1] (ab r.1) [.cells [.mp 1 0, .mp 3 0, .sl (flat freeVarL q7) (List.length q7) .no, .ms 5 0 (List.length r.2.1) (List.length r.2.1) 6, ab q12, .sl (flat freeVarL ([] : List FreeVar)) (List.length ([] : List FreeVar)) .nl, .sl (flat unifySolvedL ([] : List UnifySolved)) (List.length ([] : List UnifySolved)) .nl, .ms 6 0 (List.length r.2.2.1) (List.length r.2.2.1) 1, ab r.2.2.2.1, ai r.2.2.2.2.1], .cells [.sl (flat entL q0) (List.length q0) .no, .mp 2 0, .sl (flat intC q3) (List.length q3) .no, .sl (flat intC q4) (List.length q4) .no], .cells [.sl (flat entL q1) (List.length q1) .no, .sl (flat conL q2) (List.length q2) .no], .cells [ai r.2.2.2.2.2.1, ai r.2.2.2.2.2.2], .row (flat unifyEquationL q8), .row (flat unifyEquationL r.2.1), .row (flat intC r.2.2.1)] 0) : CT Tryz.prog 127 [.cells [.mp 1 0, .mp 3 0, .sl (flat freeVarL q7) (List.length q7) .no, .ms 4 (q10 * 6) q9 q11 6, ab q12, .sl (flat freeVarL ([] : List FreeVar)) (List.length ([] : List FreeVar)) .nl, .sl (flat unifySolvedL ([] : List UnifySolved)) (List.length ([] : List UnifySolved)) .nl, .sl (flat intC ([] : List Int)) (List.length ([] : List Int)) .nl, ab q13, ai q14], .cells [.sl (flat entL q0) (List.length q0) .no, .mp 2 0, .sl (flat intC q3) (List.length q3) .no, .sl (flat intC q4) (List.length q4) .no], .cells [.sl (flat entL q1) (List.length q1) .no, .sl (flat conL q2) (List.length q2) .no], .cells [ai q5, ai q6], .row (flat unifyEquationL q8)] [.mp 0 0, unifyEquationA p1] (ab r.1) [.cells [.mp 1 0, .mp 3 0, .sl (flat freeVarL q7) (List.length q7) .no, .ms 5 0 (List.length r.2.1) (List.length r.2.1) 6, ab q12, .sl (flat freeVarL ([] : List FreeVar)) (List.length ([] : List FreeVar)) .nl, .sl (flat unifySolvedL ([] : List UnifySolved)) (List.length ([] : List UnifySolved)) .nl, .ms 6 0 (List.length r.2.2.1) (List.length r.2.2.1) 1, ab r.2.2.2.1, ai r.2.2.2.2.1], .cells [.sl (flat entL q0) (List.length q0) .no, .mp 2 0, .sl (flat intC q3) (List.length q3) .no, .sl (flat intC q4) (List.length q4) .no], .cells [.sl (flat entL q1) (List.length q1) .no, .sl (flat conL q2) (List.length q2) .no], .cells [ai r.2.2.2.2.2.1, ai r.2.2.2.2.2.2], .row (flat unifyEquationL q8), .row (flat unifyEquationL r.2.1), .row (flat intC r.2.2.1)] 0 := ⟨h, ⟨(show 0 < 5 by decide), ⟨trivial, trivial, ⟨trivial, dT _⟩, trivial, trivial, ⟨trivial, dT _⟩, trivial⟩, trivial⟩, (forall_cons ⟨(show 1 < 5 by decide), (show 3 < 5 by decide), ⟨trivial, dFreeVar _⟩, (show 4 < 5 by decide), trivial, ⟨trivial, dFreeVar _⟩, ⟨trivial, dUnifySolved _⟩, ⟨trivial, dI _⟩, trivial, trivial, trivial⟩ (forall_cons ⟨⟨trivial, dE _⟩, (show 2 < 5 by decide), ⟨trivial, dI _⟩, ⟨trivial, dI _⟩, trivial⟩ (forall_cons ⟨⟨trivial, dE _⟩, ⟨trivial, dC _⟩, trivial⟩ (forall_cons ⟨trivial, trivial, trivial⟩ (forall_cons (dUnifyEquation _) forall_nil))))), trivial, (forall_cons ⟨(show 1 < 7 by decide), (show 3 < 7 by decide), dFreeVar _, (show 5 < 7 by decide), trivial, dFreeVar _, dUnifySolved _, (show 6 < 7 by decide), trivial, trivial, trivial⟩ (forall_cons ⟨dE _, (show 2 < 7 by decide), dI _, dI _, trivial⟩ (forall_cons ⟨dE _, dC _, trivial⟩ (forall_cons ⟨trivial, trivial, trivial⟩ (forall_cons (dUnifyEquation _) (forall_cons (dUnifyEquation _) (forall_cons (dI _) forall_nil)))))))⟩
theorem l127va38307L48337 (qq : Nat) (q0 : List Ent) (q1 : List Ent) (q2 : List Con') (q3 : List Int) (q4 : List Int) (q7 : List FreeVar) (q8 : List UnifyEquation) (q9 : Nat) (q10 : Nat) (q11 : Nat) (q12 : Bool) (q13 : Bool) (q14 : Int) (r1 : Int × List Tm × Bool) (r4 : Int × List Tm × Bool) (v62 : Int) (vb3_0 : Int) (vb3_1 : Int) (vb5_0 : List UnifyEquation) (r : (Bool × List UnifyEquation × Nat × Nat × Nat × Bool × Int × Int × Int) ⊕ (Bool × List UnifyEquation × List Int × Bool × Int × Int × Int)) (h : e127va38307L48337 qq q0 q1 q2 q3 q4 q7 q8 q9 q10 q11 q12 q13 q14 r1 r4 v62 vb3_0 vb3_1 vb5_0 = some r) : (∀ j, Dl Tryz.prog 5 (inn (inn (rgt (lft (rgt (rgt (rgt (rgt (rgt (rgt (bod Tryz.f127))))))))))) (g127va38307L48337E0 j q0 q1 q2 q3 q4 q7 q8 q9 q10 q11 q12 q13 q14 r1 r4 v62 vb3_0 vb3_1 vb5_0) (g127va38307L48337S0 q0 q1 q2 q3 q4 q7 q8 q9 q10 q11 q12 q13 q14 r1 r4 v62 vb3_0 vb3_1 vb5_0) (frameQ Tryz.prog 5 ((match (generalizing := false) r with | Sum.inl x => FinQ Tryz.prog 5 Tryz.f127 (ab x.1) [.cells [.mp 1 0, .mp 3 0, .sl (flat freeVarL q7) (List.length q7) .no, .ms 4 (x.2.2.2.1 * 6) x.2.2.1 x.2.2.2.2.1 6, ab q12, .sl (flat freeVarL ([] : List FreeVar)) (List.length ([] : List FreeVar)) .nl, .sl (flat unifySolvedL ([] : List UnifySolved)) (List.length ([] : List UnifySolved)) .nl, .sl (flat intC ([] : List Int)) (List.length ([] : List Int)) .nl, ab x.2.2.2.2.2.1, ai x.2.2.2.2.2.2.1], .cells [.sl (flat entL q0) (List.length q0) .no, .mp 2 0, .sl (flat intC q3) (List.length q3) .no, .sl (flat intC q4) (List.length q4) .no], .cells [.sl (flat entL q1) (List.length q1) .no, .sl (flat conL q2) (List.length q2) .no], .cells [ai x.2.2.2.2.2.2.2.1, ai x.2.2.2.2.2.2.2.2], .row (flat unifyEquationL q8)] 0 | Sum.inr x => FinQ Tryz.prog 5 Tryz.f127 (ab x.1) [.cells [.mp 1 0, .mp 3 0, .sl (flat freeVarL q7) (List.length q7) .no, .ms 5 0 (List.length x.2.1) (List.length x.2.1) 6, ab q12, .sl (flat freeVarL ([] : List FreeVar)) (List.length ([] : List FreeVar)) .nl, .sl (flat unifySolvedL ([] : List UnifySolved)) (List.length ([] : List UnifySolved)) .nl, .ms 6 0 (List.length x.2.2.1) (List.length x.2.2.1) 1, ab x.2.2.2.1, ai x.2.2.2.2.1], .cells [.sl (flat entL q0) (List.length q0) .no, .mp 2 0, .sl (flat intC q3) (List.length q3) .no, .sl (flat intC q4) (List.length q4) .no], .cells [.sl (flat entL q1) (List.length q1) .no, .sl (flat conL q2) (List.length q2) .no], .cells [ai x.2.2.2.2.2.1, ai x.2.2.2.2.2.2], .row (flat unifyEquationL q8), .row (flat unifyEquationL x.2.1), .row (flat intC x.2.2.1)] 0)) [.blk 0, .seq (rgt (rgt (rgt (rgt (rgt (rgt (rgt (bod Tryz.f127))))))))])) := by
  unfold e127va38307L48337 at h
  obtain ⟨h25, h⟩ := splF h
  have k := oA 2 (slMAll104 5 0 (List.length vb5_0) (List.length vb5_0)) <| oB 0 h25 o0
  obtain ⟨h50, h⟩ := splT h
  obtain ⟨r51, h52, h⟩ := obind h
  obtain rfl := sj h
  exact fun j => lG 0 [] [0, 1, 2, 3, 4, 5, 6] [] true (oD (dI r51) <| oD (dUnifyEquation vb5_0) <| oD (dUnifyEquation q8) <| oD (dC q2) <| oD (dE q1) <| oD (dI q4) <| oD (dI q3) <| oD (dE q0) <| oD (dUnifySolved ([] : List UnifySolved)) <| oD (dFreeVar ([] : List FreeVar)) <| oD (dFreeVar q7) <| oC 1 [0, 1, 2, 3, 5] (c125va14140 h52) <| oQ 1 (apQ104 (of_decide_eq_true h50)) k) (by kernel_rfl) (by decide)
theorem l127va38307L23173 (qq : Nat) (q0 : List Ent) (q1 : List Ent) (q2 : List Con') (q3 : List Int) (q4 : List Int) (q7 : List FreeVar) (q8 : List UnifyEquation) (q9 : Nat) (q10 : Nat) (q11 : Nat) (q12 : Bool) (q13 : Bool) (q14 : Int) (r1 : Int × List Tm × Bool) (r4 : Int × List Tm × Bool) (v62 : Int) (vb3_0 : Int) (vb3_1 : Int) (r : (Bool × List UnifyEquation × Nat × Nat × Nat × Bool × Int × Int × Int) ⊕ (Bool × List UnifyEquation × List Int × Bool × Int × Int × Int)) (h : e127va38307L23173 qq q0 q1 q2 q3 q4 q7 q8 q9 q10 q11 q12 q13 q14 r1 r4 v62 vb3_0 vb3_1 = some r) : (∀ j, Dl Tryz.prog 5 (inn (inn (rgt (lft (rgt (rgt (rgt (rgt (rgt (rgt (bod Tryz.f127))))))))))) (g127va38307L23173E0 j q0 q1 q2 q3 q4 q7 q8 q9 q10 q11 q12 q13 q14 r1 r4 v62 vb3_0 vb3_1) (g127va38307L23173S0 q0 q1 q2 q3 q4 q7 q8 q9 q10 q11 q12 q13 q14 r1 r4 v62 vb3_0 vb3_1) (frameQ Tryz.prog 5 ((match (generalizing := false) r with | Sum.inl x => FinQ Tryz.prog 5 Tryz.f127 (ab x.1) [.cells [.mp 1 0, .mp 3 0, .sl (flat freeVarL q7) (List.length q7) .no, .ms 4 (x.2.2.2.1 * 6) x.2.2.1 x.2.2.2.2.1 6, ab q12, .sl (flat freeVarL ([] : List FreeVar)) (List.length ([] : List FreeVar)) .nl, .sl (flat unifySolvedL ([] : List UnifySolved)) (List.length ([] : List UnifySolved)) .nl, .sl (flat intC ([] : List Int)) (List.length ([] : List Int)) .nl, ab x.2.2.2.2.2.1, ai x.2.2.2.2.2.2.1], .cells [.sl (flat entL q0) (List.length q0) .no, .mp 2 0, .sl (flat intC q3) (List.length q3) .no, .sl (flat intC q4) (List.length q4) .no], .cells [.sl (flat entL q1) (List.length q1) .no, .sl (flat conL q2) (List.length q2) .no], .cells [ai x.2.2.2.2.2.2.2.1, ai x.2.2.2.2.2.2.2.2], .row (flat unifyEquationL q8)] 0 | Sum.inr x => FinQ Tryz.prog 5 Tryz.f127 (ab x.1) [.cells [.mp 1 0, .mp 3 0, .sl (flat freeVarL q7) (List.length q7) .no, .ms 5 0 (List.length x.2.1) (List.length x.2.1) 6, ab q12, .sl (flat freeVarL ([] : List FreeVar)) (List.length ([] : List FreeVar)) .nl, .sl (flat unifySolvedL ([] : List UnifySolved)) (List.length ([] : List UnifySolved)) .nl, .ms 6 0 (List.length x.2.2.1) (List.length x.2.2.1) 1, ab x.2.2.2.1, ai x.2.2.2.2.1], .cells [.sl (flat entL q0) (List.length q0) .no, .mp 2 0, .sl (flat intC q3) (List.length q3) .no, .sl (flat intC q4) (List.length q4) .no], .cells [.sl (flat entL q1) (List.length q1) .no, .sl (flat conL q2) (List.length q2) .no], .cells [ai x.2.2.2.2.2.1, ai x.2.2.2.2.2.2], .row (flat unifyEquationL q8), .row (flat unifyEquationL x.2.1), .row (flat intC x.2.2.1)] 0)) [.blk 0, .seq (rgt (rgt (rgt (rgt (rgt (rgt (rgt (bod Tryz.f127))))))))])) := by
  unfold e127va38307L23173 at h
  obtain ⟨h15, h⟩ := splT h
  obtain ⟨r16, h17, h⟩ := obind h
  have k := oC 1 [1, 2] (c77 h17) <| oB 0 h15 o0
  obtain ⟨h18, h⟩ := splT h
  obtain ⟨x19, h20, h⟩ := obind h
  obtain ⟨x21, h22, h⟩ := obind h
  obtain ⟨l23, h24, h⟩ := obind h
  exact fun j => lH 1 [] [0, 1, 2, 3, 4, 5] [] [0, 5, 6, 9, 11, 61, 62] (oD (dT r4.2.1) <| oD (dT r1.2.1) <| oD (dUnifyEquation l23) <| oD (dUnifyEquation q8) <| oD (dC q2) <| oD (dE q1) <| oD (dI q4) <| oD (dI q3) <| oD (dE q0) <| oD (dI ([] : List Int)) <| oD (dUnifySolved ([] : List UnifySolved)) <| oD (dFreeVar ([] : List FreeVar)) <| oD (dFreeVar q7) <| oM 2 (apW104 h24 (by simp)) <| oA 1 (ix22 (o := .no) h22) <| oA 0 (ix22 (o := .no) h20) <| oB 0 h18 k) (l127va38307L48337 qq _ _ _ _ _ _ _ _ _ _ _ _ _ _ _ _ _ _ _ _ h) (fun j => by kernel_rfl)
theorem c127va38307 {qq : Nat} {q0 : List Ent} {q1 : List Ent} {q2 : List Con'} {q3 : List Int} {q4 : List Int} {q5 : Int} {q6 : Int} {q7 : List FreeVar} {q8 : List UnifyEquation} {q9 : Nat} {q10 : Nat} {q11 : Nat} {q12 : Bool} {q13 : Bool} {q14 : Int} {p1 : UnifyEquation} {r : (Bool × List UnifyEquation × Nat × Nat × Nat × Bool × Int × Int × Int) ⊕ (Bool × List UnifyEquation × List Int × Bool × Int × Int × Int)} (h : e127va38307 qq q0 q1 q2 q3 q4 q5 q6 q7 q8 q9 q10 q11 q12 q13 q14 p1 = some r) : (match (generalizing := false) r with | Sum.inl x => CT Tryz.prog 127 [.cells [.mp 1 0, .mp 3 0, .sl (flat freeVarL q7) (List.length q7) .no, .ms 4 (q10 * 6) q9 q11 6, ab q12, .sl (flat freeVarL ([] : List FreeVar)) (List.length ([] : List FreeVar)) .nl, .sl (flat unifySolvedL ([] : List UnifySolved)) (List.length ([] : List UnifySolved)) .nl, .sl (flat intC ([] : List Int)) (List.length ([] : List Int)) .nl, ab q13, ai q14], .cells [.sl (flat entL q0) (List.length q0) .no, .mp 2 0, .sl (flat intC q3) (List.length q3) .no, .sl (flat intC q4) (List.length q4) .no], .cells [.sl (flat entL q1) (List.length q1) .no, .sl (flat conL q2) (List.length q2) .no], .cells [ai q5, ai q6], .row (flat unifyEquationL q8)] [.mp 0 0, unifyEquationA p1] (ab x.1) [.cells [.mp 1 0, .mp 3 0, .sl (flat freeVarL q7) (List.length q7) .no, .ms 4 (x.2.2.2.1 * 6) x.2.2.1 x.2.2.2.2.1 6, ab q12, .sl (flat freeVarL ([] : List FreeVar)) (List.length ([] : List FreeVar)) .nl, .sl (flat unifySolvedL ([] : List UnifySolved)) (List.length ([] : List UnifySolved)) .nl, .sl (flat intC ([] : List Int)) (List.length ([] : List Int)) .nl, ab x.2.2.2.2.2.1, ai x.2.2.2.2.2.2.1], .cells [.sl (flat entL q0) (List.length q0) .no, .mp 2 0, .sl (flat intC q3) (List.length q3) .no, .sl (flat intC q4) (List.length q4) .no], .cells [.sl (flat entL q1) (List.length q1) .no, .sl (flat conL q2) (List.length q2) .no], .cells [ai x.2.2.2.2.2.2.2.1, ai x.2.2.2.2.2.2.2.2], .row (flat unifyEquationL q8)] 0 | Sum.inr x => CT Tryz.prog 127 [.cells [.mp 1 0, .mp 3 0, .sl (flat freeVarL q7) (List.length q7) .no, .ms 4 (q10 * 6) q9 q11 6, ab q12, .sl (flat freeVarL ([] : List FreeVar)) (List.length ([] : List FreeVar)) .nl, .sl (flat unifySolvedL ([] : List UnifySolved)) (List.length ([] : List UnifySolved)) .nl, .sl (flat intC ([] : List Int)) (List.length ([] : List Int)) .nl, ab q13, ai q14], .cells [.sl (flat entL q0) (List.length q0) .no, .mp 2 0, .sl (flat intC q3) (List.length q3) .no, .sl (flat intC q4) (List.length q4) .no], .cells [.sl (flat entL q1) (List.length q1) .no, .sl (flat conL q2) (List.length q2) .no], .cells [ai q5, ai q6], .row (flat unifyEquationL q8)] [.mp 0 0, unifyEquationA p1] (ab x.1) [.cells [.mp 1 0, .mp 3 0, .sl (flat freeVarL q7) (List.length q7) .no, .ms 5 0 (List.length x.2.1) (List.length x.2.1) 6, ab q12, .sl (flat freeVarL ([] : List FreeVar)) (List.length ([] : List FreeVar)) .nl, .sl (flat unifySolvedL ([] : List UnifySolved)) (List.length ([] : List UnifySolved)) .nl, .ms 6 0 (List.length x.2.2.1) (List.length x.2.2.1) 1, ab x.2.2.2.1, ai x.2.2.2.2.1], .cells [.sl (flat entL q0) (List.length q0) .no, .mp 2 0, .sl (flat intC q3) (List.length q3) .no, .sl (flat intC q4) (List.length q4) .no], .cells [.sl (flat entL q1) (List.length q1) .no, .sl (flat conL q2) (List.length q2) .no], .cells [ai x.2.2.2.2.2.1, ai x.2.2.2.2.2.2], .row (flat unifyEquationL q8), .row (flat unifyEquationL x.2.1), .row (flat intC x.2.2.1)] 0) := by
  unfold e127va38307 at h
  obtain ⟨r1, h2, h⟩ := obind h
  have k := oC 2 [1, 2] (c76 h2) o0
  rcases spl h with ⟨h3, h⟩ | ⟨h3, h⟩
  · obtain ⟨r4, h5, h⟩ := obind h
    have k := oC 2 [1, 2] (c76 h5) <| oB 2 h3 k
    obtain ⟨h6, h⟩ := splT h
    obtain ⟨r7, h8, h⟩ := obind h
    obtain ⟨r9, h10, h⟩ := obind h
    have k := oC 0 [0, 1, 2, 3, 4] (c177va14140 h10) <| oC 2 [0, 1, 2, 3, 4] (c177va14140 h8) <| oB 2 h6 k
    obtain ⟨h11, h⟩ := splF h
    have k := oB 0 h11 k
    obtain ⟨h12, h⟩ := splF h
    rcases r with y0 | y1
    · exact k127va38307s0 (tH q127va38307 1 [] [0, 1, 2, 3, 4] [] [0, 5, 6, 9, 11, 61, 62] (oD (dUnifyEquation ([] : List UnifyEquation)) <| oD (dT r4.2.1) <| oD (dT r1.2.1) <| oD (dUnifyEquation q8) <| oD (dC q2) <| oD (dE q1) <| oD (dI q4) <| oD (dI q3) <| oD (dE q0) <| oD (dI ([] : List Int)) <| oD (dUnifySolved ([] : List UnifySolved)) <| oD (dFreeVar ([] : List FreeVar)) <| oD (dFreeVar q7) <| oB 0 h12 k) (l127va38307L23173 qq _ _ _ _ _ _ _ _ _ _ _ _ _ _ _ _ _ _ _ h) (fun j => by kernel_rfl))
    · exact k127va38307s1 (tH q127va38307 1 [] [0, 1, 2, 3, 4] [] [0, 5, 6, 9, 11, 61, 62] (oD (dUnifyEquation ([] : List UnifyEquation)) <| oD (dT r4.2.1) <| oD (dT r1.2.1) <| oD (dUnifyEquation q8) <| oD (dC q2) <| oD (dE q1) <| oD (dI q4) <| oD (dI q3) <| oD (dE q0) <| oD (dI ([] : List Int)) <| oD (dUnifySolved ([] : List UnifySolved)) <| oD (dFreeVar ([] : List FreeVar)) <| oD (dFreeVar q7) <| oB 0 h12 k) (l127va38307L23173 qq _ _ _ _ _ _ _ _ _ _ _ _ _ _ _ _ _ _ _ h) (fun j => by kernel_rfl))
  · obtain ⟨r15, h16, h⟩ := obind h
    have k := oC 2 [1, 2] (c76 h16) <| oB 2 h3 k
    obtain ⟨h17, h⟩ := splF h
    obtain rfl := sj h
    exact k127va38307s0 (tG q127va38307 1 [] [0, 1, 2, 3, 4] [] true (oD (dUnifyEquation q8) <| oD (dC q2) <| oD (dE q1) <| oD (dI q4) <| oD (dI q3) <| oD (dE q0) <| oD (dI ([] : List Int)) <| oD (dUnifySolved ([] : List UnifySolved)) <| oD (dFreeVar ([] : List FreeVar)) <| oD (dFreeVar q7) <| oB 2 h17 k) (by kernel_rfl) (by decide))

end Go.Proofs.YtlbmblbeccafcaaGreat

namespace Go.Proofs.YtlbmblbeccafcaaGreat
open Go Go.Ab

/- (*scholium/conv.asker).bring -/
def e299 (qq : Nat) (M : Mach) (q0_l : List Ent) (fl : Int) (fu : Int) (q0_e : Int) (p1 : Tm) : Option (Tm × Int × Int × Int) :=
  (e75 qq M p1 fl fu) >>= fun r1 =>
  if (q0_e == 0) = true then
    some (r1.1, r1.2.1, r1.2.2.1, r1.2.2.2)
  else
    none
theorem q299 : Tryz.prog.funcs[299]? = some Tryz.f299 ∧ Tryz.f299.body.isNone = false := ⟨Tryz.func299, by kernel_rfl⟩
theorem k299 {M : Mach} {q0_l : List Ent} {fl : Int} {fu : Int} {q0_e : Int} {p1 : Tm} {r : Tm × Int × Int × Int} (h : CTri Tryz.prog 299 [.cells [.mp 1 0, .sl (flat entL q0_l) (List.length q0_l) .no, .mp 3 0, ai q0_e], .cells [.sl (flat entL M.l) (List.length M.l) .no, .mp 2 0, .sl (flat intC M.args) (List.length M.args) .no, .sl (flat intC M.own) (List.length M.own) .no], .cells [.sl (flat entL M.rl) (List.length M.rl) .no, .sl (flat conL M.parts) (List.length M.parts) .no], .cells [ai fl, ai fu]] [.mp 0 0, tmA p1] (tmA r.1) [.cells [.mp 1 0, .sl (flat entL q0_l) (List.length q0_l) .no, .mp 3 0, ai r.2.1], .cells [.sl (flat entL M.l) (List.length M.l) .no, .mp 2 0, .sl (flat intC M.args) (List.length M.args) .no, .sl (flat intC M.own) (List.length M.own) .no], .cells [.sl (flat entL M.rl) (List.length M.rl) .no, .sl (flat conL M.parts) (List.length M.parts) .no], .cells [ai r.2.2.1, ai r.2.2.2]] 0) : CT Tryz.prog 299 [.cells [.mp 1 0, .sl (flat entL q0_l) (List.length q0_l) .no, .mp 3 0, ai q0_e], .cells [.sl (flat entL M.l) (List.length M.l) .no, .mp 2 0, .sl (flat intC M.args) (List.length M.args) .no, .sl (flat intC M.own) (List.length M.own) .no], .cells [.sl (flat entL M.rl) (List.length M.rl) .no, .sl (flat conL M.parts) (List.length M.parts) .no], .cells [ai fl, ai fu]] [.mp 0 0, tmA p1] (tmA r.1) [.cells [.mp 1 0, .sl (flat entL q0_l) (List.length q0_l) .no, .mp 3 0, ai r.2.1], .cells [.sl (flat entL M.l) (List.length M.l) .no, .mp 2 0, .sl (flat intC M.args) (List.length M.args) .no, .sl (flat intC M.own) (List.length M.own) .no], .cells [.sl (flat entL M.rl) (List.length M.rl) .no, .sl (flat conL M.parts) (List.length M.parts) .no], .cells [ai r.2.2.1, ai r.2.2.2]] 0 := ⟨h, ⟨(show 0 < 4 by decide), ⟨trivial, trivial, ⟨trivial, dT _⟩, trivial⟩, trivial⟩, (forall_cons ⟨(show 1 < 4 by decide), ⟨trivial, dE _⟩, (show 3 < 4 by decide), trivial, trivial⟩ (forall_cons ⟨⟨trivial, dE _⟩, (show 2 < 4 by decide), ⟨trivial, dI _⟩, ⟨trivial, dI _⟩, trivial⟩ (forall_cons ⟨⟨trivial, dE _⟩, ⟨trivial, dC _⟩, trivial⟩ (forall_cons ⟨trivial, trivial, trivial⟩ forall_nil)))), ⟨trivial, trivial, dT _, trivial⟩, (forall_cons ⟨(show 1 < 4 by decide), dE _, (show 3 < 4 by decide), trivial, trivial⟩ (forall_cons ⟨dE _, (show 2 < 4 by decide), dI _, dI _, trivial⟩ (forall_cons ⟨dE _, dC _, trivial⟩ (forall_cons ⟨trivial, trivial, trivial⟩ forall_nil))))⟩
theorem c299 {qq : Nat} {M : Mach} {q0_l : List Ent} {fl : Int} {fu : Int} {q0_e : Int} {p1 : Tm} {r : Tm × Int × Int × Int} (h : e299 qq M q0_l fl fu q0_e p1 = some r) : CT Tryz.prog 299 [.cells [.mp 1 0, .sl (flat entL q0_l) (List.length q0_l) .no, .mp 3 0, ai q0_e], .cells [.sl (flat entL M.l) (List.length M.l) .no, .mp 2 0, .sl (flat intC M.args) (List.length M.args) .no, .sl (flat intC M.own) (List.length M.own) .no], .cells [.sl (flat entL M.rl) (List.length M.rl) .no, .sl (flat conL M.parts) (List.length M.parts) .no], .cells [ai fl, ai fu]] [.mp 0 0, tmA p1] (tmA r.1) [.cells [.mp 1 0, .sl (flat entL q0_l) (List.length q0_l) .no, .mp 3 0, ai r.2.1], .cells [.sl (flat entL M.l) (List.length M.l) .no, .mp 2 0, .sl (flat intC M.args) (List.length M.args) .no, .sl (flat intC M.own) (List.length M.own) .no], .cells [.sl (flat entL M.rl) (List.length M.rl) .no, .sl (flat conL M.parts) (List.length M.parts) .no], .cells [ai r.2.2.1, ai r.2.2.2]] 0 := by
  unfold e299 at h
  obtain ⟨r1, h2, h⟩ := obind h
  have k := oC 3 [1, 2, 3] (c75 h2) o0
  obtain ⟨h3, h⟩ := splT h
  obtain rfl := sj h
  exact k299 (tF q299 3 [0, 1, 2, 3] (oD (dT r1.1.sub) <| oD (dC M.parts) <| oD (dE M.rl) <| oD (dI M.own) <| oD (dI M.args) <| oD (dE M.l) <| oD (dE q0_l) <| oB 4 h3 k) (by kernel_rfl))

end Go.Proofs.YtlbmblbeccafcaaGreat

namespace Go.Proofs.YtlbmblbeccafcaaGreat
open Go Go.Ab

/- (*scholium/conv.asker).pair -/
def e241 (qq : Nat) (M : Mach) (q0_l : List Ent) (fl : Int) (fu : Int) (q0_e : Int) (p1 : Tm) (p2 : Tm) : Option (Tm × Tm × Bool × Int × Int × Int) :=
  if (q0_e != 0) = true then
    none
  else
    (e299 qq M q0_l fl fu q0_e p1) >>= fun r2 =>
    if (r2.2.1 != 0) = true then
      none
    else
      (e299 qq M q0_l r2.2.2.1 r2.2.2.2 r2.2.1 p2) >>= fun r5 =>
      some (r2.1, r5.1, (r5.2.1 == 0), r5.2.1, r5.2.2.1, r5.2.2.2)
theorem q241 : Tryz.prog.funcs[241]? = some Tryz.f241 ∧ Tryz.f241.body.isNone = false := ⟨Tryz.func241, by kernel_rfl⟩
theorem k241 {M : Mach} {q0_l : List Ent} {fl : Int} {fu : Int} {q0_e : Int} {p1 : Tm} {p2 : Tm} {r : Tm × Tm × Bool × Int × Int × Int} (h : CTri Tryz.prog 241 [.cells [.mp 1 0, .sl (flat entL q0_l) (List.length q0_l) .no, .mp 3 0, ai q0_e], .cells [.sl (flat entL M.l) (List.length M.l) .no, .mp 2 0, .sl (flat intC M.args) (List.length M.args) .no, .sl (flat intC M.own) (List.length M.own) .no], .cells [.sl (flat entL M.rl) (List.length M.rl) .no, .sl (flat conL M.parts) (List.length M.parts) .no], .cells [ai fl, ai fu]] [.mp 0 0, tmA p1, tmA p2] (.tup [tmA r.1, tmA r.2.1, ab r.2.2.1]) [.cells [.mp 1 0, .sl (flat entL q0_l) (List.length q0_l) .no, .mp 3 0, ai r.2.2.2.1], .cells [.sl (flat entL M.l) (List.length M.l) .no, .mp 2 0, .sl (flat intC M.args) (List.length M.args) .no, .sl (flat intC M.own) (List.length M.own) .no], .cells [.sl (flat entL M.rl) (List.length M.rl) .no, .sl (flat conL M.parts) (List.length M.parts) .no], .cells [ai r.2.2.2.2.1, ai r.2.2.2.2.2]] 0) : CT Tryz.prog 241 [.cells [.mp 1 0, .sl (flat entL q0_l) (List.length q0_l) .no, .mp 3 0, ai q0_e], .cells [.sl (flat entL M.l) (List.length M.l) .no, .mp 2 0, .sl (flat intC M.args) (List.length M.args) .no, .sl (flat intC M.own) (List.length M.own) .no], .cells [.sl (flat entL M.rl) (List.length M.rl) .no, .sl (flat conL M.parts) (List.length M.parts) .no], .cells [ai fl, ai fu]] [.mp 0 0, tmA p1, tmA p2] (.tup [tmA r.1, tmA r.2.1, ab r.2.2.1]) [.cells [.mp 1 0, .sl (flat entL q0_l) (List.length q0_l) .no, .mp 3 0, ai r.2.2.2.1], .cells [.sl (flat entL M.l) (List.length M.l) .no, .mp 2 0, .sl (flat intC M.args) (List.length M.args) .no, .sl (flat intC M.own) (List.length M.own) .no], .cells [.sl (flat entL M.rl) (List.length M.rl) .no, .sl (flat conL M.parts) (List.length M.parts) .no], .cells [ai r.2.2.2.2.1, ai r.2.2.2.2.2]] 0 := ⟨h, ⟨(show 0 < 4 by decide), ⟨trivial, trivial, ⟨trivial, dT _⟩, trivial⟩, ⟨trivial, trivial, ⟨trivial, dT _⟩, trivial⟩, trivial⟩, (forall_cons ⟨(show 1 < 4 by decide), ⟨trivial, dE _⟩, (show 3 < 4 by decide), trivial, trivial⟩ (forall_cons ⟨⟨trivial, dE _⟩, (show 2 < 4 by decide), ⟨trivial, dI _⟩, ⟨trivial, dI _⟩, trivial⟩ (forall_cons ⟨⟨trivial, dE _⟩, ⟨trivial, dC _⟩, trivial⟩ (forall_cons ⟨trivial, trivial, trivial⟩ forall_nil)))), ⟨⟨trivial, trivial, dT _, trivial⟩, ⟨trivial, trivial, dT _, trivial⟩, trivial, trivial⟩, (forall_cons ⟨(show 1 < 4 by decide), dE _, (show 3 < 4 by decide), trivial, trivial⟩ (forall_cons ⟨dE _, (show 2 < 4 by decide), dI _, dI _, trivial⟩ (forall_cons ⟨dE _, dC _, trivial⟩ (forall_cons ⟨trivial, trivial, trivial⟩ forall_nil))))⟩
theorem c241 {qq : Nat} {M : Mach} {q0_l : List Ent} {fl : Int} {fu : Int} {q0_e : Int} {p1 : Tm} {p2 : Tm} {r : Tm × Tm × Bool × Int × Int × Int} (h : e241 qq M q0_l fl fu q0_e p1 p2 = some r) : CT Tryz.prog 241 [.cells [.mp 1 0, .sl (flat entL q0_l) (List.length q0_l) .no, .mp 3 0, ai q0_e], .cells [.sl (flat entL M.l) (List.length M.l) .no, .mp 2 0, .sl (flat intC M.args) (List.length M.args) .no, .sl (flat intC M.own) (List.length M.own) .no], .cells [.sl (flat entL M.rl) (List.length M.rl) .no, .sl (flat conL M.parts) (List.length M.parts) .no], .cells [ai fl, ai fu]] [.mp 0 0, tmA p1, tmA p2] (.tup [tmA r.1, tmA r.2.1, ab r.2.2.1]) [.cells [.mp 1 0, .sl (flat entL q0_l) (List.length q0_l) .no, .mp 3 0, ai r.2.2.2.1], .cells [.sl (flat entL M.l) (List.length M.l) .no, .mp 2 0, .sl (flat intC M.args) (List.length M.args) .no, .sl (flat intC M.own) (List.length M.own) .no], .cells [.sl (flat entL M.rl) (List.length M.rl) .no, .sl (flat conL M.parts) (List.length M.parts) .no], .cells [ai r.2.2.2.2.1, ai r.2.2.2.2.2]] 0 := by
  unfold e241 at h
  obtain ⟨h1, h⟩ := splF h
  obtain ⟨r2, h3, h⟩ := obind h
  have k := oC 1 [0, 1, 2, 3] (c299 h3) <| oB 1 h1 o0
  obtain ⟨h4, h⟩ := splF h
  obtain ⟨r5, h6, h⟩ := obind h
  obtain rfl := sj h
  exact k241 (tF q241 7 [0, 1, 2, 3] (oD (dT r5.1.sub) <| oD (dT r2.1.sub) <| oD (dC M.parts) <| oD (dE M.rl) <| oD (dI M.own) <| oD (dI M.args) <| oD (dE M.l) <| oD (dE q0_l) <| oC 1 [0, 1, 2, 3] (c299 h6) <| oB 2 h4 k) (by kernel_rfl))

end Go.Proofs.YtlbmblbeccafcaaGreat

namespace Go.Proofs.YtlbmblbeccafcaaGreat
open Go Go.Ab

/- (*scholium/conv.asker).record -/
def e301 (qq : Nat) (M : Mach) (q0_l : List Ent) (fl : Int) (fu : Int) (q0_e : Int) (p1 : Tm) : Option (Int × List Tm × Bool) :=
  (e76 qq M p1) >>= fun r1 =>
  if r1.2.2 = true then
    none
  else
    some (0, [], false)
theorem q301 : Tryz.prog.funcs[301]? = some Tryz.f301 ∧ Tryz.f301.body.isNone = false := ⟨Tryz.func301, by kernel_rfl⟩
theorem k301 {M : Mach} {q0_l : List Ent} {fl : Int} {fu : Int} {q0_e : Int} {p1 : Tm} {r : Int × List Tm × Bool} (h : CTri Tryz.prog 301 [.cells [.mp 1 0, .sl (flat entL q0_l) (List.length q0_l) .no, .mp 3 0, ai q0_e], .cells [.sl (flat entL M.l) (List.length M.l) .no, .mp 2 0, .sl (flat intC M.args) (List.length M.args) .no, .sl (flat intC M.own) (List.length M.own) .no], .cells [.sl (flat entL M.rl) (List.length M.rl) .no, .sl (flat conL M.parts) (List.length M.parts) .no], .cells [ai fl, ai fu]] [.mp 0 0, tmA p1] (.tup [ai r.1, .sl (flat tmCells r.2.1) (List.length r.2.1) .no, ab r.2.2]) [.cells [.mp 1 0, .sl (flat entL q0_l) (List.length q0_l) .no, .mp 3 0, ai q0_e], .cells [.sl (flat entL M.l) (List.length M.l) .no, .mp 2 0, .sl (flat intC M.args) (List.length M.args) .no, .sl (flat intC M.own) (List.length M.own) .no], .cells [.sl (flat entL M.rl) (List.length M.rl) .no, .sl (flat conL M.parts) (List.length M.parts) .no], .cells [ai fl, ai fu]] 0) : CT Tryz.prog 301 [.cells [.mp 1 0, .sl (flat entL q0_l) (List.length q0_l) .no, .mp 3 0, ai q0_e], .cells [.sl (flat entL M.l) (List.length M.l) .no, .mp 2 0, .sl (flat intC M.args) (List.length M.args) .no, .sl (flat intC M.own) (List.length M.own) .no], .cells [.sl (flat entL M.rl) (List.length M.rl) .no, .sl (flat conL M.parts) (List.length M.parts) .no], .cells [ai fl, ai fu]] [.mp 0 0, tmA p1] (.tup [ai r.1, .sl (flat tmCells r.2.1) (List.length r.2.1) .no, ab r.2.2]) [.cells [.mp 1 0, .sl (flat entL q0_l) (List.length q0_l) .no, .mp 3 0, ai q0_e], .cells [.sl (flat entL M.l) (List.length M.l) .no, .mp 2 0, .sl (flat intC M.args) (List.length M.args) .no, .sl (flat intC M.own) (List.length M.own) .no], .cells [.sl (flat entL M.rl) (List.length M.rl) .no, .sl (flat conL M.parts) (List.length M.parts) .no], .cells [ai fl, ai fu]] 0 := ⟨h, ⟨(show 0 < 4 by decide), ⟨trivial, trivial, ⟨trivial, dT _⟩, trivial⟩, trivial⟩, (forall_cons ⟨(show 1 < 4 by decide), ⟨trivial, dE _⟩, (show 3 < 4 by decide), trivial, trivial⟩ (forall_cons ⟨⟨trivial, dE _⟩, (show 2 < 4 by decide), ⟨trivial, dI _⟩, ⟨trivial, dI _⟩, trivial⟩ (forall_cons ⟨⟨trivial, dE _⟩, ⟨trivial, dC _⟩, trivial⟩ (forall_cons ⟨trivial, trivial, trivial⟩ forall_nil)))), ⟨trivial, dT _, trivial, trivial⟩, (forall_cons ⟨(show 1 < 4 by decide), dE _, (show 3 < 4 by decide), trivial, trivial⟩ (forall_cons ⟨dE _, (show 2 < 4 by decide), dI _, dI _, trivial⟩ (forall_cons ⟨dE _, dC _, trivial⟩ (forall_cons ⟨trivial, trivial, trivial⟩ forall_nil))))⟩
theorem c301 {qq : Nat} {M : Mach} {q0_l : List Ent} {fl : Int} {fu : Int} {q0_e : Int} {p1 : Tm} {r : Int × List Tm × Bool} (h : e301 qq M q0_l fl fu q0_e p1 = some r) : CT Tryz.prog 301 [.cells [.mp 1 0, .sl (flat entL q0_l) (List.length q0_l) .no, .mp 3 0, ai q0_e], .cells [.sl (flat entL M.l) (List.length M.l) .no, .mp 2 0, .sl (flat intC M.args) (List.length M.args) .no, .sl (flat intC M.own) (List.length M.own) .no], .cells [.sl (flat entL M.rl) (List.length M.rl) .no, .sl (flat conL M.parts) (List.length M.parts) .no], .cells [ai fl, ai fu]] [.mp 0 0, tmA p1] (.tup [ai r.1, .sl (flat tmCells r.2.1) (List.length r.2.1) .no, ab r.2.2]) [.cells [.mp 1 0, .sl (flat entL q0_l) (List.length q0_l) .no, .mp 3 0, ai q0_e], .cells [.sl (flat entL M.l) (List.length M.l) .no, .mp 2 0, .sl (flat intC M.args) (List.length M.args) .no, .sl (flat intC M.own) (List.length M.own) .no], .cells [.sl (flat entL M.rl) (List.length M.rl) .no, .sl (flat conL M.parts) (List.length M.parts) .no], .cells [ai fl, ai fu]] 0 := by
  unfold e301 at h
  obtain ⟨r1, h2, h⟩ := obind h
  have k := oC 2 [1, 2] (c76 h2) o0
  obtain ⟨h3, h⟩ := splF h
  obtain rfl := sj h
  exact k301 (tF q301 1 [0, 1, 2, 3] (oD (dT ([] : List Tm)) <| oD (dC M.parts) <| oD (dE M.rl) <| oD (dI M.own) <| oD (dI M.args) <| oD (dE M.l) <| oD (dE q0_l) <| oB 2 h3 k) (by kernel_rfl))

end Go.Proofs.YtlbmblbeccafcaaGreat

namespace Go.Proofs.YtlbmblbeccafcaaGreat
open Go Go.Ab

/- (*scholium/conv.asker).same -/
/- (*scholium/conv.asker).heads -/
/- (*scholium/conv.asker).fields -/
/- (*scholium/conv.asker).spines -/
def e303va22461L47388 (qq : Nat) (q0 : List Ent) (q1 : List Ent) (q2 : List Con') (q3 : List Int) (q4 : List Int) (q5 : List Ent) (r1 : Tm × List Tm) (r3 : Tm × List Tm) (v89 : Int) (vb0_3 : Int) (vb3_0 : Int) (vb3_1 : Int) : Option (Bool × Int × Int × Int) :=
  if decide (v89 < (List.length r1.2 : Int)) = true then
    none
  else
    some (true, vb0_3, vb3_0, vb3_1)
def e303va22461 (qq : Nat) (q0 : List Ent) (q1 : List Ent) (q2 : List Con') (q3 : List Int) (q4 : List Int) (q5 : List Ent) (q6 : Int) (q7 : Int) (q8 : Int) (p1 : Tm) (p2 : Tm) : Option (Bool × Int × Int × Int) :=
  (e106 qq p1) >>= fun r1 =>
  (e106 qq p2) >>= fun r3 =>
  if (r1.1.k != r3.1.k) = true then
    none
  else
    if (r1.1.n != r3.1.n) = true then
      none
    else
      if ((List.length r1.2 : Int) != (List.length r3.2 : Int)) = true then
        none
      else
        if (r1.1.k == 7) = true then
          none
        else
          if (r1.1.k == 3) = true then
            none
          else
            e303va22461L47388 qq q0 q1 q2 q3 q4 q5 r1 r3 0 q8 q6 q7
def e242va10891 (qq : Nat) (q0 : List Ent) (q1 : List Ent) (q2 : List Con') (q3 : List Int) (q4 : List Int) (q5 : List Ent) (q6 : Int) (q7 : Int) (q8 : Int) (p1 : Tm) (p2 : Tm) : Option (Bool × Int × Int × Int) :=
  if (p1.k == 4) = true then
    none
  else
    if (p2.k == 4) = true then
      none
    else
      (e301 qq (Mach.mk q0 q1 q2 q3 q4) q5 q6 q7 q8 p1) >>= fun r15 =>
      if r15.2.2 = true then
        none
      else
        (e301 qq (Mach.mk q0 q1 q2 q3 q4) q5 q6 q7 q8 p2) >>= fun r34 =>
        if r34.2.2 = true then
          none
        else
          if (p1.k != p2.k) = true then
            none
          else
            if (p1.k == 3) = true then
              none
            else
              if (p1.k == 2) = true then
                none
              else
                (e303va22461 qq q0 q1 q2 q3 q4 q5 q6 q7 q8 p1 p2) >>= fun r61 =>
                some (r61.1, r61.2.1, r61.2.2.1, r61.2.2.2)
def e181va22461 (qq : Nat) (q0 : List Ent) (q1 : List Ent) (q2 : List Con') (q3 : List Int) (q4 : List Int) (q5 : List Ent) (q6 : Int) (q7 : Int) (q8 : Int) (p1 : Tm) (p2 : Tm) : Option (Bool × Int × Int × Int) :=
  (e241 qq (Mach.mk q0 q1 q2 q3 q4) q5 q6 q7 q8 p1 p2) >>= fun r1 =>
  if r1.2.2.1 = true then
    (e242va10891 qq q0 q1 q2 q3 q4 q5 r1.2.2.2.2.1 r1.2.2.2.2.2 r1.2.2.2.1 r1.1 r1.2.1) >>= fun r4 =>
    some (r4.1, r4.2.1, r4.2.2.1, r4.2.2.2)
  else
    none
def e302va27343 (qq : Nat) (q0 : List Ent) (q1 : List Ent) (q2 : List Con') (q3 : List Int) (q4 : List Int) (q5 : List Ent) (q6 : Int) (q7 : Int) (q8 : Int) (p1 : Tm) (p2 : Tm) (p3 : Int) (p4 : List Tm) : Option (Bool × Int × Int × Int) :=
  none
def g303va22461L47388E0 (j : Nat → Value) (q0 : List Ent) (q1 : List Ent) (q2 : List Con') (q3 : List Int) (q4 : List Int) (q5 : List Ent) (r1 : Tm × List Tm) (r3 : Tm × List Tm) (v89 : Int) (vb0_3 : Int) (vb3_0 : Int) (vb3_1 : Int) : List AV := sp j 104 0 [(0, .mp 0 0), (8, .sl (flat tmCells r1.2) (List.length r1.2) .no), (10, .sl (flat tmCells r3.2) (List.length r3.2) .no), (88, ai (List.length r1.2 : Int)), (89, ai v89)]
def g303va22461L47388S0 (q0 : List Ent) (q1 : List Ent) (q2 : List Con') (q3 : List Int) (q4 : List Int) (q5 : List Ent) (r1 : Tm × List Tm) (r3 : Tm × List Tm) (v89 : Int) (vb0_3 : Int) (vb3_0 : Int) (vb3_1 : Int) : LSt := ⟨[(0, .cells [.mp 1 0, .sl (flat entL q5) (List.length q5) .no, .mp 3 0, ai vb0_3]), (1, .cells [.sl (flat entL q0) (List.length q0) .no, .mp 2 0, .sl (flat intC q3) (List.length q3) .no, .sl (flat intC q4) (List.length q4) .no]), (2, .cells [.sl (flat entL q1) (List.length q1) .no, .sl (flat conL q2) (List.length q2) .no]), (3, .cells [ai vb3_0, ai vb3_1])], 4, [], 0, []⟩
theorem q181va22461 : Tryz.prog.funcs[181]? = some Tryz.f181 ∧ Tryz.f181.body.isNone = false := ⟨Tryz.func181, by kernel_rfl⟩
theorem k181va22461 {q0 : List Ent} {q1 : List Ent} {q2 : List Con'} {q3 : List Int} {q4 : List Int} {q5 : List Ent} {q6 : Int} {q7 : Int} {q8 : Int} {p1 : Tm} {p2 : Tm} {r : Bool × Int × Int × Int} (h : CTri Tryz.prog 181 [.cells [.mp 1 0, .sl (flat entL q5) (List.length q5) .no, .mp 3 0, ai q8], .cells [.sl (flat entL q0) (List.length q0) .no, .mp 2 0, .sl (flat intC q3) (List.length q3) .no, .sl (flat intC q4) (List.length q4) .no], .cells [.sl (flat entL q1) (List.length q1) .no, .sl (flat conL q2) (List.length q2) .no], .cells [ai q6, ai q7]] [.mp 0 0, tmA p1, tmA p2] (ab r.1) [.cells [.mp 1 0, .sl (flat entL q5) (List.length q5) .no, .mp 3 0, ai r.2.1], .cells [.sl (flat entL q0) (List.length q0) .no, .mp 2 0, .sl (flat intC q3) (List.length q3) .no, .sl (flat intC q4) (List.length q4) .no], .cells [.sl (flat entL q1) (List.length q1) .no, .sl (flat conL q2) (List.length q2) .no], .cells [ai r.2.2.1, ai r.2.2.2]] 0) : CT Tryz.prog 181 [.cells [.mp 1 0, .sl (flat entL q5) (List.length q5) .no, .mp 3 0, ai q8], .cells [.sl (flat entL q0) (List.length q0) .no, .mp 2 0, .sl (flat intC q3) (List.length q3) .no, .sl (flat intC q4) (List.length q4) .no], .cells [.sl (flat entL q1) (List.length q1) .no, .sl (flat conL q2) (List.length q2) .no], .cells [ai q6, ai q7]] [.mp 0 0, tmA p1, tmA p2] (ab r.1) [.cells [.mp 1 0, .sl (flat entL q5) (List.length q5) .no, .mp 3 0, ai r.2.1], .cells [.sl (flat entL q0) (List.length q0) .no, .mp 2 0, .sl (flat intC q3) (List.length q3) .no, .sl (flat intC q4) (List.length q4) .no], .cells [.sl (flat entL q1) (List.length q1) .no, .sl (flat conL q2) (List.length q2) .no], .cells [ai r.2.2.1, ai r.2.2.2]] 0 := ⟨h, ⟨(show 0 < 4 by decide), ⟨trivial, trivial, ⟨trivial, dT _⟩, trivial⟩, ⟨trivial, trivial, ⟨trivial, dT _⟩, trivial⟩, trivial⟩, (forall_cons ⟨(show 1 < 4 by decide), ⟨trivial, dE _⟩, (show 3 < 4 by decide), trivial, trivial⟩ (forall_cons ⟨⟨trivial, dE _⟩, (show 2 < 4 by decide), ⟨trivial, dI _⟩, ⟨trivial, dI _⟩, trivial⟩ (forall_cons ⟨⟨trivial, dE _⟩, ⟨trivial, dC _⟩, trivial⟩ (forall_cons ⟨trivial, trivial, trivial⟩ forall_nil)))), trivial, (forall_cons ⟨(show 1 < 4 by decide), dE _, (show 3 < 4 by decide), trivial, trivial⟩ (forall_cons ⟨dE _, (show 2 < 4 by decide), dI _, dI _, trivial⟩ (forall_cons ⟨dE _, dC _, trivial⟩ (forall_cons ⟨trivial, trivial, trivial⟩ forall_nil))))⟩
theorem q242va10891 : Tryz.prog.funcs[242]? = some Tryz.f242 ∧ Tryz.f242.body.isNone = false := ⟨Tryz.func242, by kernel_rfl⟩
theorem k242va10891 {q0 : List Ent} {q1 : List Ent} {q2 : List Con'} {q3 : List Int} {q4 : List Int} {q5 : List Ent} {q6 : Int} {q7 : Int} {q8 : Int} {p1 : Tm} {p2 : Tm} {r : Bool × Int × Int × Int} (h : CTri Tryz.prog 242 [.cells [.mp 1 0, .sl (flat entL q5) (List.length q5) .no, .mp 3 0, ai q8], .cells [.sl (flat entL q0) (List.length q0) .no, .mp 2 0, .sl (flat intC q3) (List.length q3) .no, .sl (flat intC q4) (List.length q4) .no], .cells [.sl (flat entL q1) (List.length q1) .no, .sl (flat conL q2) (List.length q2) .no], .cells [ai q6, ai q7]] [.mp 0 0, tmA p1, tmA p2, .agg [.clo 243 [] [], .clo 181 [.mp 0 0] []]] (ab r.1) [.cells [.mp 1 0, .sl (flat entL q5) (List.length q5) .no, .mp 3 0, ai r.2.1], .cells [.sl (flat entL q0) (List.length q0) .no, .mp 2 0, .sl (flat intC q3) (List.length q3) .no, .sl (flat intC q4) (List.length q4) .no], .cells [.sl (flat entL q1) (List.length q1) .no, .sl (flat conL q2) (List.length q2) .no], .cells [ai r.2.2.1, ai r.2.2.2]] 0) : CT Tryz.prog 242 [.cells [.mp 1 0, .sl (flat entL q5) (List.length q5) .no, .mp 3 0, ai q8], .cells [.sl (flat entL q0) (List.length q0) .no, .mp 2 0, .sl (flat intC q3) (List.length q3) .no, .sl (flat intC q4) (List.length q4) .no], .cells [.sl (flat entL q1) (List.length q1) .no, .sl (flat conL q2) (List.length q2) .no], .cells [ai q6, ai q7]] [.mp 0 0, tmA p1, tmA p2, .agg [.clo 243 [] [], .clo 181 [.mp 0 0] []]] (ab r.1) [.cells [.mp 1 0, .sl (flat entL q5) (List.length q5) .no, .mp 3 0, ai r.2.1], .cells [.sl (flat entL q0) (List.length q0) .no, .mp 2 0, .sl (flat intC q3) (List.length q3) .no, .sl (flat intC q4) (List.length q4) .no], .cells [.sl (flat entL q1) (List.length q1) .no, .sl (flat conL q2) (List.length q2) .no], .cells [ai r.2.2.1, ai r.2.2.2]] 0 := ⟨h, ⟨(show 0 < 4 by decide), ⟨trivial, trivial, ⟨trivial, dT _⟩, trivial⟩, ⟨trivial, trivial, ⟨trivial, dT _⟩, trivial⟩, ⟨⟨trivial, trivial⟩, ⟨⟨(show 0 < 4 by decide), trivial⟩, trivial⟩, trivial⟩, trivial⟩, (forall_cons ⟨(show 1 < 4 by decide), ⟨trivial, dE _⟩, (show 3 < 4 by decide), trivial, trivial⟩ (forall_cons ⟨⟨trivial, dE _⟩, (show 2 < 4 by decide), ⟨trivial, dI _⟩, ⟨trivial, dI _⟩, trivial⟩ (forall_cons ⟨⟨trivial, dE _⟩, ⟨trivial, dC _⟩, trivial⟩ (forall_cons ⟨trivial, trivial, trivial⟩ forall_nil)))), trivial, (forall_cons ⟨(show 1 < 4 by decide), dE _, (show 3 < 4 by decide), trivial, trivial⟩ (forall_cons ⟨dE _, (show 2 < 4 by decide), dI _, dI _, trivial⟩ (forall_cons ⟨dE _, dC _, trivial⟩ (forall_cons ⟨trivial, trivial, trivial⟩ forall_nil))))⟩
theorem q303va22461 : Tryz.prog.funcs[303]? = some Tryz.f303 ∧ Tryz.f303.body.isNone = false := ⟨Tryz.func303, by kernel_rfl⟩
theorem k303va22461 {q0 : List Ent} {q1 : List Ent} {q2 : List Con'} {q3 : List Int} {q4 : List Int} {q5 : List Ent} {q6 : Int} {q7 : Int} {q8 : Int} {p1 : Tm} {p2 : Tm} {r : Bool × Int × Int × Int} (h : CTri Tryz.prog 303 [.cells [.mp 1 0, .sl (flat entL q5) (List.length q5) .no, .mp 3 0, ai q8], .cells [.sl (flat entL q0) (List.length q0) .no, .mp 2 0, .sl (flat intC q3) (List.length q3) .no, .sl (flat intC q4) (List.length q4) .no], .cells [.sl (flat entL q1) (List.length q1) .no, .sl (flat conL q2) (List.length q2) .no], .cells [ai q6, ai q7]] [.mp 0 0, tmA p1, tmA p2] (ab r.1) [.cells [.mp 1 0, .sl (flat entL q5) (List.length q5) .no, .mp 3 0, ai r.2.1], .cells [.sl (flat entL q0) (List.length q0) .no, .mp 2 0, .sl (flat intC q3) (List.length q3) .no, .sl (flat intC q4) (List.length q4) .no], .cells [.sl (flat entL q1) (List.length q1) .no, .sl (flat conL q2) (List.length q2) .no], .cells [ai r.2.2.1, ai r.2.2.2]] 0) : CT Tryz.prog 303 [.cells [.mp 1 0, .sl (flat entL q5) (List.length q5) .no, .mp 3 0, ai q8], .cells [.sl (flat entL q0) (List.length q0) .no, .mp 2 0, .sl (flat intC q3) (List.length q3) .no, .sl (flat intC q4) (List.length q4) .no], .cells [.sl (flat entL q1) (List.length q1) .no, .sl (flat conL q2) (List.length q2) .no], .cells [ai q6, ai q7]] [.mp 0 0, tmA p1, tmA p2] (ab r.1) [.cells [.mp 1 0, .sl (flat entL q5) (List.length q5) .no, .mp 3 0, ai r.2.1], .cells [.sl (flat entL q0) (List.length q0) .no, .mp 2 0, .sl (flat intC q3) (List.length q3) .no, .sl (flat intC q4) (List.length q4) .no], .cells [.sl (flat entL q1) (List.length q1) .no, .sl (flat conL q2) (List.length q2) .no], .cells [ai r.2.2.1, ai r.2.2.2]] 0 := ⟨h, ⟨(show 0 < 4 by decide), ⟨trivial, trivial, ⟨trivial, dT _⟩, trivial⟩, ⟨trivial, trivial, ⟨trivial, dT _⟩, trivial⟩, trivial⟩, (forall_cons ⟨(show 1 < 4 by decide), ⟨trivial, dE _⟩, (show 3 < 4 by decide), trivial, trivial⟩ (forall_cons ⟨⟨trivial, dE _⟩, (show 2 < 4 by decide), ⟨trivial, dI _⟩, ⟨trivial, dI _⟩, trivial⟩ (forall_cons ⟨⟨trivial, dE _⟩, ⟨trivial, dC _⟩, trivial⟩ (forall_cons ⟨trivial, trivial, trivial⟩ forall_nil)))), trivial, (forall_cons ⟨(show 1 < 4 by decide), dE _, (show 3 < 4 by decide), trivial, trivial⟩ (forall_cons ⟨dE _, (show 2 < 4 by decide), dI _, dI _, trivial⟩ (forall_cons ⟨dE _, dC _, trivial⟩ (forall_cons ⟨trivial, trivial, trivial⟩ forall_nil))))⟩
theorem l303va22461L47388 (qq : Nat) (q0 : List Ent) (q1 : List Ent) (q2 : List Con') (q3 : List Int) (q4 : List Int) (q5 : List Ent) (r1 : Tm × List Tm) (r3 : Tm × List Tm) (v89 : Int) (vb0_3 : Int) (vb3_0 : Int) (vb3_1 : Int) (r : Bool × Int × Int × Int) (h : e303va22461L47388 qq q0 q1 q2 q3 q4 q5 r1 r3 v89 vb0_3 vb3_0 vb3_1 = some r) : (∀ j, Dl Tryz.prog 4 (inn (inn (rgt (lft (rgt (rgt (rgt (rgt (rgt (bod Tryz.f303)))))))))) (g303va22461L47388E0 j q0 q1 q2 q3 q4 q5 r1 r3 v89 vb0_3 vb3_0 vb3_1) (g303va22461L47388S0 q0 q1 q2 q3 q4 q5 r1 r3 v89 vb0_3 vb3_0 vb3_1) (frameQ Tryz.prog 4 (FinQ Tryz.prog 4 Tryz.f303 (ab r.1) [.cells [.mp 1 0, .sl (flat entL q5) (List.length q5) .no, .mp 3 0, ai r.2.1], .cells [.sl (flat entL q0) (List.length q0) .no, .mp 2 0, .sl (flat intC q3) (List.length q3) .no, .sl (flat intC q4) (List.length q4) .no], .cells [.sl (flat entL q1) (List.length q1) .no, .sl (flat conL q2) (List.length q2) .no], .cells [ai r.2.2.1, ai r.2.2.2]] 0) [.blk 0, .seq (rgt (rgt (rgt (rgt (rgt (rgt (bod Tryz.f303)))))))])) := by
  unfold e303va22461L47388 at h
  obtain ⟨h25, h⟩ := splF h
  obtain rfl := sj h
  exact fun j => lF 0 [0, 1, 2, 3] (oD (dC q2) <| oD (dE q1) <| oD (dI q4) <| oD (dI q3) <| oD (dE q0) <| oD (dE q5) <| oB 0 h25 o0) (by kernel_rfl)
theorem c303va22461 {qq : Nat} {q0 : List Ent} {q1 : List Ent} {q2 : List Con'} {q3 : List Int} {q4 : List Int} {q5 : List Ent} {q6 : Int} {q7 : Int} {q8 : Int} {p1 : Tm} {p2 : Tm} {r : Bool × Int × Int × Int} (h : e303va22461 qq q0 q1 q2 q3 q4 q5 q6 q7 q8 p1 p2 = some r) : CT Tryz.prog 303 [.cells [.mp 1 0, .sl (flat entL q5) (List.length q5) .no, .mp 3 0, ai q8], .cells [.sl (flat entL q0) (List.length q0) .no, .mp 2 0, .sl (flat intC q3) (List.length q3) .no, .sl (flat intC q4) (List.length q4) .no], .cells [.sl (flat entL q1) (List.length q1) .no, .sl (flat conL q2) (List.length q2) .no], .cells [ai q6, ai q7]] [.mp 0 0, tmA p1, tmA p2] (ab r.1) [.cells [.mp 1 0, .sl (flat entL q5) (List.length q5) .no, .mp 3 0, ai r.2.1], .cells [.sl (flat entL q0) (List.length q0) .no, .mp 2 0, .sl (flat intC q3) (List.length q3) .no, .sl (flat intC q4) (List.length q4) .no], .cells [.sl (flat entL q1) (List.length q1) .no, .sl (flat conL q2) (List.length q2) .no], .cells [ai r.2.2.1, ai r.2.2.2]] 0 := by
  unfold e303va22461 at h
  obtain ⟨r1, h2, h⟩ := obind h
  obtain ⟨r3, h4, h⟩ := obind h
  have k := oC 4 [] (c106 h4) <| oC 1 [] (c106 h2) o0
  obtain ⟨h5, h⟩ := splF h
  have k := oB 5 h5 k
  obtain ⟨h6, h⟩ := splF h
  have k := oB 2 h6 k
  obtain ⟨h7, h⟩ := splF h
  have k := oB 2 h7 k
  obtain ⟨h8, h⟩ := splF h
  have k := oB 1 h8 k
  obtain ⟨h25, h⟩ := splF h
  exact k303va22461 (tH q303va22461 1 [] [0, 1, 2, 3] [] [0, 8, 10, 88, 89] (oD (dT r3.2) <| oD (dT r1.2) <| oD (dC q2) <| oD (dE q1) <| oD (dI q4) <| oD (dI q3) <| oD (dE q0) <| oD (dE q5) <| oB 1 h25 k) (l303va22461L47388 qq _ _ _ _ _ _ _ _ _ _ _ _ _ h) (fun j => by kernel_rfl))
theorem c242va10891 {qq : Nat} {q0 : List Ent} {q1 : List Ent} {q2 : List Con'} {q3 : List Int} {q4 : List Int} {q5 : List Ent} {q6 : Int} {q7 : Int} {q8 : Int} {p1 : Tm} {p2 : Tm} {r : Bool × Int × Int × Int} (h : e242va10891 qq q0 q1 q2 q3 q4 q5 q6 q7 q8 p1 p2 = some r) : CT Tryz.prog 242 [.cells [.mp 1 0, .sl (flat entL q5) (List.length q5) .no, .mp 3 0, ai q8], .cells [.sl (flat entL q0) (List.length q0) .no, .mp 2 0, .sl (flat intC q3) (List.length q3) .no, .sl (flat intC q4) (List.length q4) .no], .cells [.sl (flat entL q1) (List.length q1) .no, .sl (flat conL q2) (List.length q2) .no], .cells [ai q6, ai q7]] [.mp 0 0, tmA p1, tmA p2, .agg [.clo 243 [] [], .clo 181 [.mp 0 0] []]] (ab r.1) [.cells [.mp 1 0, .sl (flat entL q5) (List.length q5) .no, .mp 3 0, ai r.2.1], .cells [.sl (flat entL q0) (List.length q0) .no, .mp 2 0, .sl (flat intC q3) (List.length q3) .no, .sl (flat intC q4) (List.length q4) .no], .cells [.sl (flat entL q1) (List.length q1) .no, .sl (flat conL q2) (List.length q2) .no], .cells [ai r.2.2.1, ai r.2.2.2]] 0 := by
  unfold e242va10891 at h
  obtain ⟨h1, h⟩ := splF h
  have k := oB 1 h1 o0
  obtain ⟨h8, h⟩ := splF h
  obtain ⟨r15, h16, h⟩ := obind h
  have k := oC 1 [0, 1, 2, 3] (c301 h16) <| oB 1 h8 k
  obtain ⟨h17, h⟩ := splF h
  obtain ⟨r34, h35, h⟩ := obind h
  have k := oC 1 [0, 1, 2, 3] (c301 h35) <| oB 2 h17 k
  obtain ⟨h36, h⟩ := splF h
  have k := oB 2 h36 k
  obtain ⟨h43, h⟩ := splF h
  have k := oB 2 h43 k
  obtain ⟨h44, h⟩ := splF h
  have k := oB 1 h44 k
  obtain ⟨h58, h⟩ := splF h
  obtain ⟨r61, h62, h⟩ := obind h
  obtain rfl := sj h
  exact k242va10891 (tF q242va10891 0 [0, 1, 2, 3] (oD (dC q2) <| oD (dE q1) <| oD (dI q4) <| oD (dI q3) <| oD (dE q0) <| oD (dE q5) <| oC 2 [0, 1, 2, 3] (c303va22461 h62) <| oB 1 h58 k) (by kernel_rfl))
theorem c181va22461 {qq : Nat} {q0 : List Ent} {q1 : List Ent} {q2 : List Con'} {q3 : List Int} {q4 : List Int} {q5 : List Ent} {q6 : Int} {q7 : Int} {q8 : Int} {p1 : Tm} {p2 : Tm} {r : Bool × Int × Int × Int} (h : e181va22461 qq q0 q1 q2 q3 q4 q5 q6 q7 q8 p1 p2 = some r) : CT Tryz.prog 181 [.cells [.mp 1 0, .sl (flat entL q5) (List.length q5) .no, .mp 3 0, ai q8], .cells [.sl (flat entL q0) (List.length q0) .no, .mp 2 0, .sl (flat intC q3) (List.length q3) .no, .sl (flat intC q4) (List.length q4) .no], .cells [.sl (flat entL q1) (List.length q1) .no, .sl (flat conL q2) (List.length q2) .no], .cells [ai q6, ai q7]] [.mp 0 0, tmA p1, tmA p2] (ab r.1) [.cells [.mp 1 0, .sl (flat entL q5) (List.length q5) .no, .mp 3 0, ai r.2.1], .cells [.sl (flat entL q0) (List.length q0) .no, .mp 2 0, .sl (flat intC q3) (List.length q3) .no, .sl (flat intC q4) (List.length q4) .no], .cells [.sl (flat entL q1) (List.length q1) .no, .sl (flat conL q2) (List.length q2) .no], .cells [ai r.2.2.1, ai r.2.2.2]] 0 := by
  unfold e181va22461 at h
  obtain ⟨r1, h2, h⟩ := obind h
  have k := oC 2 [0, 1, 2, 3] (c241 h2) o0
  obtain ⟨h3, h⟩ := splT h
  obtain ⟨r4, h5, h⟩ := obind h
  obtain rfl := sj h
  exact k181va22461 (tF q181va22461 0 [0, 1, 2, 3] (oD (dC q2) <| oD (dE q1) <| oD (dI q4) <| oD (dI q3) <| oD (dE q0) <| oD (dE q5) <| oC 4 [0, 1, 2, 3] (c242va10891 h5) <| oB 2 h3 k) (by kernel_rfl))
theorem c302va27343 {qq : Nat} {q0 : List Ent} {q1 : List Ent} {q2 : List Con'} {q3 : List Int} {q4 : List Int} {q5 : List Ent} {q6 : Int} {q7 : Int} {q8 : Int} {p1 : Tm} {p2 : Tm} {p3 : Int} {p4 : List Tm} {r : Bool × Int × Int × Int} (h : e302va27343 qq q0 q1 q2 q3 q4 q5 q6 q7 q8 p1 p2 p3 p4 = some r) : CT Tryz.prog 302 [.cells [.mp 1 0, .sl (flat entL q5) (List.length q5) .no, .mp 3 0, ai q8], .cells [.sl (flat entL q0) (List.length q0) .no, .mp 2 0, .sl (flat intC q3) (List.length q3) .no, .sl (flat intC q4) (List.length q4) .no], .cells [.sl (flat entL q1) (List.length q1) .no, .sl (flat conL q2) (List.length q2) .no], .cells [ai q6, ai q7]] [.mp 0 0, tmA p1, tmA p2, ai p3, .sl (flat tmCells p4) (List.length p4) .no] (ab r.1) [.cells [.mp 1 0, .sl (flat entL q5) (List.length q5) .no, .mp 3 0, ai r.2.1], .cells [.sl (flat entL q0) (List.length q0) .no, .mp 2 0, .sl (flat intC q3) (List.length q3) .no, .sl (flat intC q4) (List.length q4) .no], .cells [.sl (flat entL q1) (List.length q1) .no, .sl (flat conL q2) (List.length q2) .no], .cells [ai r.2.2.1, ai r.2.2.2]] 0 := by
  unfold e302va27343 at h
  cases h

end Go.Proofs.YtlbmblbeccafcaaGreat

namespace Go.Proofs.YtlbmblbeccafcaaGreat
open Go Go.Ab

/- scholium/conv.Same$1 -/
def e180va30903 (qq : Nat) (q0 : List Ent) (q1 : List Ent) (q2 : List Con') (q3 : List Int) (q4 : List Int) (q5 : List Ent) (q6 : Int) (q7 : Int) (q8 : Int) (q9 : Int) (q10 : Int) (q11 : List Tm) (q12 : Int) (q13 : Int) (q14 : List Tm) : Option (Bool × Int × Int × Int) :=
  (e181va22461 qq q0 q1 q2 q3 q4 q5 q6 q7 q8 (Tm.mk q9 q10 q11) (Tm.mk q12 q13 q14)) >>= fun r1 =>
  some (r1.1, r1.2.1, r1.2.2.1, r1.2.2.2)
theorem q180va30903 : Tryz.prog.funcs[180]? = some Tryz.f180 ∧ Tryz.f180.body.isNone = false := ⟨Tryz.func180, by kernel_rfl⟩
theorem k180va30903 {q0 : List Ent} {q1 : List Ent} {q2 : List Con'} {q3 : List Int} {q4 : List Int} {q5 : List Ent} {q6 : Int} {q7 : Int} {q8 : Int} {q9 : Int} {q10 : Int} {q11 : List Tm} {q12 : Int} {q13 : Int} {q14 : List Tm} {r : Bool × Int × Int × Int} (h : CTri Tryz.prog 180 [.cells [.mp 1 0, .sl (flat entL q5) (List.length q5) .no, .mp 3 0, ai q8], .cells [.sl (flat entL q0) (List.length q0) .no, .mp 2 0, .sl (flat intC q3) (List.length q3) .no, .sl (flat intC q4) (List.length q4) .no], .cells [.sl (flat entL q1) (List.length q1) .no, .sl (flat conL q2) (List.length q2) .no], .cells [ai q6, ai q7], .cells [ai q9, ai q10, .sl (flat tmCells q11) (List.length q11) .no], .cells [ai q12, ai q13, .sl (flat tmCells q14) (List.length q14) .no]] [.mp 0 0, .mp 4 0, .mp 5 0] (ab r.1) [.cells [.mp 1 0, .sl (flat entL q5) (List.length q5) .no, .mp 3 0, ai r.2.1], .cells [.sl (flat entL q0) (List.length q0) .no, .mp 2 0, .sl (flat intC q3) (List.length q3) .no, .sl (flat intC q4) (List.length q4) .no], .cells [.sl (flat entL q1) (List.length q1) .no, .sl (flat conL q2) (List.length q2) .no], .cells [ai r.2.2.1, ai r.2.2.2], .cells [ai q9, ai q10, .sl (flat tmCells q11) (List.length q11) .no], .cells [ai q12, ai q13, .sl (flat tmCells q14) (List.length q14) .no]] 0) : CT Tryz.prog 180 [.cells [.mp 1 0, .sl (flat entL q5) (List.length q5) .no, .mp 3 0, ai q8], .cells [.sl (flat entL q0) (List.length q0) .no, .mp 2 0, .sl (flat intC q3) (List.length q3) .no, .sl (flat intC q4) (List.length q4) .no], .cells [.sl (flat entL q1) (List.length q1) .no, .sl (flat conL q2) (List.length q2) .no], .cells [ai q6, ai q7], .cells [ai q9, ai q10, .sl (flat tmCells q11) (List.length q11) .no], .cells [ai q12, ai q13, .sl (flat tmCells q14) (List.length q14) .no]] [.mp 0 0, .mp 4 0, .mp 5 0] (ab r.1) [.cells [.mp 1 0, .sl (flat entL q5) (List.length q5) .no, .mp 3 0, ai r.2.1], .cells [.sl (flat entL q0) (List.length q0) .no, .mp 2 0, .sl (flat intC q3) (List.length q3) .no, .sl (flat intC q4) (List.length q4) .no], .cells [.sl (flat entL q1) (List.length q1) .no, .sl (flat conL q2) (List.length q2) .no], .cells [ai r.2.2.1, ai r.2.2.2], .cells [ai q9, ai q10, .sl (flat tmCells q11) (List.length q11) .no], .cells [ai q12, ai q13, .sl (flat tmCells q14) (List.length q14) .no]] 0 := ⟨h, ⟨(show 0 < 6 by decide), (show 4 < 6 by decide), (show 5 < 6 by decide), trivial⟩, (forall_cons ⟨(show 1 < 6 by decide), ⟨trivial, dE _⟩, (show 3 < 6 by decide), trivial, trivial⟩ (forall_cons ⟨⟨trivial, dE _⟩, (show 2 < 6 by decide), ⟨trivial, dI _⟩, ⟨trivial, dI _⟩, trivial⟩ (forall_cons ⟨⟨trivial, dE _⟩, ⟨trivial, dC _⟩, trivial⟩ (forall_cons ⟨trivial, trivial, trivial⟩ (forall_cons ⟨trivial, trivial, ⟨trivial, dT _⟩, trivial⟩ (forall_cons ⟨trivial, trivial, ⟨trivial, dT _⟩, trivial⟩ forall_nil)))))), trivial, (forall_cons ⟨(show 1 < 6 by decide), dE _, (show 3 < 6 by decide), trivial, trivial⟩ (forall_cons ⟨dE _, (show 2 < 6 by decide), dI _, dI _, trivial⟩ (forall_cons ⟨dE _, dC _, trivial⟩ (forall_cons ⟨trivial, trivial, trivial⟩ (forall_cons ⟨trivial, trivial, dT _, trivial⟩ (forall_cons ⟨trivial, trivial, dT _, trivial⟩ forall_nil))))))⟩
theorem c180va30903 {qq : Nat} {q0 : List Ent} {q1 : List Ent} {q2 : List Con'} {q3 : List Int} {q4 : List Int} {q5 : List Ent} {q6 : Int} {q7 : Int} {q8 : Int} {q9 : Int} {q10 : Int} {q11 : List Tm} {q12 : Int} {q13 : Int} {q14 : List Tm} {r : Bool × Int × Int × Int} (h : e180va30903 qq q0 q1 q2 q3 q4 q5 q6 q7 q8 q9 q10 q11 q12 q13 q14 = some r) : CT Tryz.prog 180 [.cells [.mp 1 0, .sl (flat entL q5) (List.length q5) .no, .mp 3 0, ai q8], .cells [.sl (flat entL q0) (List.length q0) .no, .mp 2 0, .sl (flat intC q3) (List.length q3) .no, .sl (flat intC q4) (List.length q4) .no], .cells [.sl (flat entL q1) (List.length q1) .no, .sl (flat conL q2) (List.length q2) .no], .cells [ai q6, ai q7], .cells [ai q9, ai q10, .sl (flat tmCells q11) (List.length q11) .no], .cells [ai q12, ai q13, .sl (flat tmCells q14) (List.length q14) .no]] [.mp 0 0, .mp 4 0, .mp 5 0] (ab r.1) [.cells [.mp 1 0, .sl (flat entL q5) (List.length q5) .no, .mp 3 0, ai r.2.1], .cells [.sl (flat entL q0) (List.length q0) .no, .mp 2 0, .sl (flat intC q3) (List.length q3) .no, .sl (flat intC q4) (List.length q4) .no], .cells [.sl (flat entL q1) (List.length q1) .no, .sl (flat conL q2) (List.length q2) .no], .cells [ai r.2.2.1, ai r.2.2.2], .cells [ai q9, ai q10, .sl (flat tmCells q11) (List.length q11) .no], .cells [ai q12, ai q13, .sl (flat tmCells q14) (List.length q14) .no]] 0 := by
  unfold e180va30903 at h
  obtain ⟨r1, h2, h⟩ := obind h
  obtain rfl := sj h
  exact k180va30903 (tF q180va30903 0 [0, 1, 2, 3, 4, 5] (oD (dT q14) <| oD (dT q11) <| oD (dC q2) <| oD (dE q1) <| oD (dI q4) <| oD (dI q3) <| oD (dE q0) <| oD (dE q5) <| oC 2 [0, 1, 2, 3] (c181va22461 h2) o0) (by kernel_rfl))

end Go.Proofs.YtlbmblbeccafcaaGreat

namespace Go.Proofs.YtlbmblbeccafcaaGreat
open Go Go.Ab

/- (*scholium/whnf.Machine).Entries -/
def e89 (qq : Nat) (M : Mach) : Option (List Ent) :=
  (e38 qq M.l) >>= fun r1 =>
  some r1
theorem q89 : Tryz.prog.funcs[89]? = some Tryz.f89 ∧ Tryz.f89.body.isNone = false := ⟨Tryz.func89, by kernel_rfl⟩
theorem k89 {M : Mach} {r : List Ent} (h : CTri Tryz.prog 89 [.cells [.sl (flat entL M.l) (List.length M.l) .no, .mp 1 0, .sl (flat intC M.args) (List.length M.args) .no, .sl (flat intC M.own) (List.length M.own) .no], .cells [.sl (flat entL M.rl) (List.length M.rl) .no, .sl (flat conL M.parts) (List.length M.parts) .no]] [.mp 0 0] (.sl (flat entL r) (List.length r) .no) [.cells [.sl (flat entL M.l) (List.length M.l) .no, .mp 1 0, .sl (flat intC M.args) (List.length M.args) .no, .sl (flat intC M.own) (List.length M.own) .no], .cells [.sl (flat entL M.rl) (List.length M.rl) .no, .sl (flat conL M.parts) (List.length M.parts) .no]] 0) : CT Tryz.prog 89 [.cells [.sl (flat entL M.l) (List.length M.l) .no, .mp 1 0, .sl (flat intC M.args) (List.length M.args) .no, .sl (flat intC M.own) (List.length M.own) .no], .cells [.sl (flat entL M.rl) (List.length M.rl) .no, .sl (flat conL M.parts) (List.length M.parts) .no]] [.mp 0 0] (.sl (flat entL r) (List.length r) .no) [.cells [.sl (flat entL M.l) (List.length M.l) .no, .mp 1 0, .sl (flat intC M.args) (List.length M.args) .no, .sl (flat intC M.own) (List.length M.own) .no], .cells [.sl (flat entL M.rl) (List.length M.rl) .no, .sl (flat conL M.parts) (List.length M.parts) .no]] 0 := ⟨h, ⟨(show 0 < 2 by decide), trivial⟩, (forall_cons ⟨⟨trivial, dE _⟩, (show 1 < 2 by decide), ⟨trivial, dI _⟩, ⟨trivial, dI _⟩, trivial⟩ (forall_cons ⟨⟨trivial, dE _⟩, ⟨trivial, dC _⟩, trivial⟩ forall_nil)), dE _, (forall_cons ⟨dE _, (show 1 < 2 by decide), dI _, dI _, trivial⟩ (forall_cons ⟨dE _, dC _, trivial⟩ forall_nil))⟩
theorem c89 {qq : Nat} {M : Mach} {r : List Ent} (h : e89 qq M = some r) : CT Tryz.prog 89 [.cells [.sl (flat entL M.l) (List.length M.l) .no, .mp 1 0, .sl (flat intC M.args) (List.length M.args) .no, .sl (flat intC M.own) (List.length M.own) .no], .cells [.sl (flat entL M.rl) (List.length M.rl) .no, .sl (flat conL M.parts) (List.length M.parts) .no]] [.mp 0 0] (.sl (flat entL r) (List.length r) .no) [.cells [.sl (flat entL M.l) (List.length M.l) .no, .mp 1 0, .sl (flat intC M.args) (List.length M.args) .no, .sl (flat intC M.own) (List.length M.own) .no], .cells [.sl (flat entL M.rl) (List.length M.rl) .no, .sl (flat conL M.parts) (List.length M.parts) .no]] 0 := by
  unfold e89 at h
  obtain ⟨r1, h2, h⟩ := obind h
  obtain rfl := sj h
  exact k89 (tF q89 0 [0, 1] (oD (dE r1) <| oD (dC M.parts) <| oD (dE M.rl) <| oD (dI M.own) <| oD (dI M.args) <| oD (dE M.l) <| oC 2 [] (c38 h2) o0) (by kernel_rfl))

end Go.Proofs.YtlbmblbeccafcaaGreat

namespace Go.Proofs.YtlbmblbeccafcaaGreat
open Go Go.Ab

/- scholium/conv.ask -/
def e179va42726 (qq : Nat) (q0 : List Ent) (q1 : List Ent) (q2 : List Con') (q3 : List Int) (q4 : List Int) (p1 : Tm) (p2 : Tm) (q7 : Int) (q8 : Int) (q9 : Int) (q10 : Int) (q11 : List Tm) (q12 : Int) (q13 : Int) (q14 : List Tm) : Option (Bool × Int × Int × Int) :=
  (e42 qq (Mach.mk q0 q1 q2 q3 q4)) >>= fun r1 =>
  (e41 qq p1 1048577 r1) >>= fun r3 =>
  if r3 = true then
    (e42 qq (Mach.mk q0 q1 q2 q3 q4)) >>= fun r6 =>
    (e41 qq p2 1048577 r6) >>= fun r8 =>
    if r8 = true then
      (e89 qq (Mach.mk q0 q1 q2 q3 q4)) >>= fun r11 =>
      (e180va30903 qq q0 q1 q2 q3 q4 r11 q7 q8 0 q9 q10 q11 q12 q13 q14) >>= fun r13 =>
      if r13.1 = true then
        some ((r13.2.1 == 0), r13.2.1, r13.2.2.1, r13.2.2.2)
      else
        none
    else
      none
  else
    none
theorem q179va42726 : Tryz.prog.funcs[179]? = some Tryz.f179 ∧ Tryz.f179.body.isNone = false := ⟨Tryz.func179, by kernel_rfl⟩
theorem k179va42726 {q0 : List Ent} {q1 : List Ent} {q2 : List Con'} {q3 : List Int} {q4 : List Int} {p1 : Tm} {p2 : Tm} {q7 : Int} {q8 : Int} {q9 : Int} {q10 : Int} {q11 : List Tm} {q12 : Int} {q13 : Int} {q14 : List Tm} {r : Bool × Int × Int × Int} (h : CTri Tryz.prog 179 [.cells [.sl (flat entL q0) (List.length q0) .no, .mp 1 0, .sl (flat intC q3) (List.length q3) .no, .sl (flat intC q4) (List.length q4) .no], .cells [.sl (flat entL q1) (List.length q1) .no, .sl (flat conL q2) (List.length q2) .no], .cells [ai q7, ai q8], .cells [ai q9, ai q10, .sl (flat tmCells q11) (List.length q11) .no], .cells [ai q12, ai q13, .sl (flat tmCells q14) (List.length q14) .no]] [.mp 0 0, tmA p1, tmA p2, .mp 2 0, .clo 180 [] [.mp 3 0, .mp 4 0]] (.tup [ab r.1, ai r.2.1]) [.cells [.sl (flat entL q0) (List.length q0) .no, .mp 1 0, .sl (flat intC q3) (List.length q3) .no, .sl (flat intC q4) (List.length q4) .no], .cells [.sl (flat entL q1) (List.length q1) .no, .sl (flat conL q2) (List.length q2) .no], .cells [ai r.2.2.1, ai r.2.2.2], .cells [ai q9, ai q10, .sl (flat tmCells q11) (List.length q11) .no], .cells [ai q12, ai q13, .sl (flat tmCells q14) (List.length q14) .no]] 0) : CT Tryz.prog 179 [.cells [.sl (flat entL q0) (List.length q0) .no, .mp 1 0, .sl (flat intC q3) (List.length q3) .no, .sl (flat intC q4) (List.length q4) .no], .cells [.sl (flat entL q1) (List.length q1) .no, .sl (flat conL q2) (List.length q2) .no], .cells [ai q7, ai q8], .cells [ai q9, ai q10, .sl (flat tmCells q11) (List.length q11) .no], .cells [ai q12, ai q13, .sl (flat tmCells q14) (List.length q14) .no]] [.mp 0 0, tmA p1, tmA p2, .mp 2 0, .clo 180 [] [.mp 3 0, .mp 4 0]] (.tup [ab r.1, ai r.2.1]) [.cells [.sl (flat entL q0) (List.length q0) .no, .mp 1 0, .sl (flat intC q3) (List.length q3) .no, .sl (flat intC q4) (List.length q4) .no], .cells [.sl (flat entL q1) (List.length q1) .no, .sl (flat conL q2) (List.length q2) .no], .cells [ai r.2.2.1, ai r.2.2.2], .cells [ai q9, ai q10, .sl (flat tmCells q11) (List.length q11) .no], .cells [ai q12, ai q13, .sl (flat tmCells q14) (List.length q14) .no]] 0 := ⟨h, ⟨(show 0 < 5 by decide), ⟨trivial, trivial, ⟨trivial, dT _⟩, trivial⟩, ⟨trivial, trivial, ⟨trivial, dT _⟩, trivial⟩, (show 2 < 5 by decide), ⟨trivial, ⟨(show 3 < 5 by decide), (show 4 < 5 by decide), trivial⟩⟩, trivial⟩, (forall_cons ⟨⟨trivial, dE _⟩, (show 1 < 5 by decide), ⟨trivial, dI _⟩, ⟨trivial, dI _⟩, trivial⟩ (forall_cons ⟨⟨trivial, dE _⟩, ⟨trivial, dC _⟩, trivial⟩ (forall_cons ⟨trivial, trivial, trivial⟩ (forall_cons ⟨trivial, trivial, ⟨trivial, dT _⟩, trivial⟩ (forall_cons ⟨trivial, trivial, ⟨trivial, dT _⟩, trivial⟩ forall_nil))))), ⟨trivial, trivial, trivial⟩, (forall_cons ⟨dE _, (show 1 < 5 by decide), dI _, dI _, trivial⟩ (forall_cons ⟨dE _, dC _, trivial⟩ (forall_cons ⟨trivial, trivial, trivial⟩ (forall_cons ⟨trivial, trivial, dT _, trivial⟩ (forall_cons ⟨trivial, trivial, dT _, trivial⟩ forall_nil)))))⟩
theorem c179va42726 {qq : Nat} {q0 : List Ent} {q1 : List Ent} {q2 : List Con'} {q3 : List Int} {q4 : List Int} {p1 : Tm} {p2 : Tm} {q7 : Int} {q8 : Int} {q9 : Int} {q10 : Int} {q11 : List Tm} {q12 : Int} {q13 : Int} {q14 : List Tm} {r : Bool × Int × Int × Int} (h : e179va42726 qq q0 q1 q2 q3 q4 p1 p2 q7 q8 q9 q10 q11 q12 q13 q14 = some r) : CT Tryz.prog 179 [.cells [.sl (flat entL q0) (List.length q0) .no, .mp 1 0, .sl (flat intC q3) (List.length q3) .no, .sl (flat intC q4) (List.length q4) .no], .cells [.sl (flat entL q1) (List.length q1) .no, .sl (flat conL q2) (List.length q2) .no], .cells [ai q7, ai q8], .cells [ai q9, ai q10, .sl (flat tmCells q11) (List.length q11) .no], .cells [ai q12, ai q13, .sl (flat tmCells q14) (List.length q14) .no]] [.mp 0 0, tmA p1, tmA p2, .mp 2 0, .clo 180 [] [.mp 3 0, .mp 4 0]] (.tup [ab r.1, ai r.2.1]) [.cells [.sl (flat entL q0) (List.length q0) .no, .mp 1 0, .sl (flat intC q3) (List.length q3) .no, .sl (flat intC q4) (List.length q4) .no], .cells [.sl (flat entL q1) (List.length q1) .no, .sl (flat conL q2) (List.length q2) .no], .cells [ai r.2.2.1, ai r.2.2.2], .cells [ai q9, ai q10, .sl (flat tmCells q11) (List.length q11) .no], .cells [ai q12, ai q13, .sl (flat tmCells q14) (List.length q14) .no]] 0 := by
  unfold e179va42726 at h
  obtain ⟨r1, h2, h⟩ := obind h
  obtain ⟨r3, h4, h⟩ := obind h
  have k := oC 2 [0, 1] (c42 h2) o0
  obtain ⟨h5, h⟩ := splT h
  obtain ⟨r6, h7, h⟩ := obind h
  obtain ⟨r8, h9, h⟩ := obind h
  have k := oC 2 [0, 1] (c42 h7) <| oK 0 [] h5 (c41 h4) k
  obtain ⟨h10, h⟩ := splT h
  obtain ⟨r11, h12, h⟩ := obind h
  obtain ⟨r13, h14, h⟩ := obind h
  have k := oC 1 [0, 1] (c89 h12) <| oK 0 [] h10 (c41 h9) k
  obtain ⟨h15, h⟩ := splT h
  obtain rfl := sj h
  exact k179va42726 (tF q179va42726 3 [0, 1, 2, 3, 4] (oD (dT q14) <| oD (dT q11) <| oD (dC q2) <| oD (dE q1) <| oD (dI q4) <| oD (dI q3) <| oD (dE q0) <| oK 0 [7, 0, 1, 2, 3, 4] h15 (c180va30903 h14) k) (by kernel_rfl))

end Go.Proofs.YtlbmblbeccafcaaGreat

namespace Go.Proofs.YtlbmblbeccafcaaGreat
open Go Go.Ab

/- scholium/conv.Same -/
def e128 (qq : Nat) (M : Mach) (p1 : Tm) (p2 : Tm) (fl : Int) (fu : Int) : Option (Bool × Int × Int × Int) :=
  (e179va42726 qq M.l M.rl M.parts M.args M.own p1 p2 fl fu p1.k p1.n p1.sub p2.k p2.n p2.sub) >>= fun r1 =>
  some (r1.1, r1.2.1, r1.2.2.1, r1.2.2.2)
theorem q128 : Tryz.prog.funcs[128]? = some Tryz.f128 ∧ Tryz.f128.body.isNone = false := ⟨Tryz.func128, by kernel_rfl⟩
theorem k128 {M : Mach} {p1 : Tm} {p2 : Tm} {fl : Int} {fu : Int} {r : Bool × Int × Int × Int} (h : CTri Tryz.prog 128 [.cells [.sl (flat entL M.l) (List.length M.l) .no, .mp 1 0, .sl (flat intC M.args) (List.length M.args) .no, .sl (flat intC M.own) (List.length M.own) .no], .cells [.sl (flat entL M.rl) (List.length M.rl) .no, .sl (flat conL M.parts) (List.length M.parts) .no], .cells [ai fl, ai fu]] [.mp 0 0, tmA p1, tmA p2, .mp 2 0] (.tup [ab r.1, ai r.2.1]) [.cells [.sl (flat entL M.l) (List.length M.l) .no, .mp 1 0, .sl (flat intC M.args) (List.length M.args) .no, .sl (flat intC M.own) (List.length M.own) .no], .cells [.sl (flat entL M.rl) (List.length M.rl) .no, .sl (flat conL M.parts) (List.length M.parts) .no], .cells [ai r.2.2.1, ai r.2.2.2]] 0) : CT Tryz.prog 128 [.cells [.sl (flat entL M.l) (List.length M.l) .no, .mp 1 0, .sl (flat intC M.args) (List.length M.args) .no, .sl (flat intC M.own) (List.length M.own) .no], .cells [.sl (flat entL M.rl) (List.length M.rl) .no, .sl (flat conL M.parts) (List.length M.parts) .no], .cells [ai fl, ai fu]] [.mp 0 0, tmA p1, tmA p2, .mp 2 0] (.tup [ab r.1, ai r.2.1]) [.cells [.sl (flat entL M.l) (List.length M.l) .no, .mp 1 0, .sl (flat intC M.args) (List.length M.args) .no, .sl (flat intC M.own) (List.length M.own) .no], .cells [.sl (flat entL M.rl) (List.length M.rl) .no, .sl (flat conL M.parts) (List.length M.parts) .no], .cells [ai r.2.2.1, ai r.2.2.2]] 0 := ⟨h, ⟨(show 0 < 3 by decide), ⟨trivial, trivial, ⟨trivial, dT _⟩, trivial⟩, ⟨trivial, trivial, ⟨trivial, dT _⟩, trivial⟩, (show 2 < 3 by decide), trivial⟩, (forall_cons ⟨⟨trivial, dE _⟩, (show 1 < 3 by decide), ⟨trivial, dI _⟩, ⟨trivial, dI _⟩, trivial⟩ (forall_cons ⟨⟨trivial, dE _⟩, ⟨trivial, dC _⟩, trivial⟩ (forall_cons ⟨trivial, trivial, trivial⟩ forall_nil))), ⟨trivial, trivial, trivial⟩, (forall_cons ⟨dE _, (show 1 < 3 by decide), dI _, dI _, trivial⟩ (forall_cons ⟨dE _, dC _, trivial⟩ (forall_cons ⟨trivial, trivial, trivial⟩ forall_nil)))⟩
theorem c128 {qq : Nat} {M : Mach} {p1 : Tm} {p2 : Tm} {fl : Int} {fu : Int} {r : Bool × Int × Int × Int} (h : e128 qq M p1 p2 fl fu = some r) : CT Tryz.prog 128 [.cells [.sl (flat entL M.l) (List.length M.l) .no, .mp 1 0, .sl (flat intC M.args) (List.length M.args) .no, .sl (flat intC M.own) (List.length M.own) .no], .cells [.sl (flat entL M.rl) (List.length M.rl) .no, .sl (flat conL M.parts) (List.length M.parts) .no], .cells [ai fl, ai fu]] [.mp 0 0, tmA p1, tmA p2, .mp 2 0] (.tup [ab r.1, ai r.2.1]) [.cells [.sl (flat entL M.l) (List.length M.l) .no, .mp 1 0, .sl (flat intC M.args) (List.length M.args) .no, .sl (flat intC M.own) (List.length M.own) .no], .cells [.sl (flat entL M.rl) (List.length M.rl) .no, .sl (flat conL M.parts) (List.length M.parts) .no], .cells [ai r.2.2.1, ai r.2.2.2]] 0 := by
  unfold e128 at h
  obtain ⟨r1, h2, h⟩ := obind h
  obtain rfl := sj h
  exact k128 (tF q128 2 [0, 1, 2] (oD (dC M.parts) <| oD (dE M.rl) <| oD (dI M.own) <| oD (dI M.args) <| oD (dE M.l) <| oC 2 [0, 1, 2, 3, 4] (c179va42726 h2) o0) (by kernel_rfl))

end Go.Proofs.YtlbmblbeccafcaaGreat

namespace Go.Proofs.YtlbmblbeccafcaaGreat
open Go Go.Ab

/- (*scholium/unify.solver).rigid -/
def e84va38307 (qq : Nat) (q0 : List Ent) (q1 : List Ent) (q2 : List Con') (q3 : List Int) (q4 : List Int) (q5 : Int) (q6 : Int) (q7 : List FreeVar) (q8 : List UnifyEquation) (q9 : Nat) (q10 : Nat) (q11 : Nat) (q12 : Bool) (q13 : Bool) (q14 : Int) (p1 : UnifyEquation) : Option ((List UnifyEquation × Nat × Nat × Nat × Bool × Int × Int × Int) ⊕ (List UnifyEquation × List Int × Bool × Int × Int × Int)) :=
  (e127va38307 qq q0 q1 q2 q3 q4 q5 q6 q7 q8 q9 q10 q11 q12 q13 q14 p1) >>= fun r1 =>
  match r1 with
  | Sum.inl y3 =>
    if y3.1 = true then
      none
    else
      (e128 qq (Mach.mk q0 q1 q2 q3 q4) p1.a_ p1.b_ y3.2.2.2.2.2.2.2.1 y3.2.2.2.2.2.2.2.2) >>= fun r5 =>
      if r5.1 = true then
        if (r5.2.1 != 0) = true then
          none
        else
          some (Sum.inl (q8, y3.2.2.1, y3.2.2.2.1, y3.2.2.2.2.1, y3.2.2.2.2.2.1, 12, r5.2.2.1, r5.2.2.2))
      else
        none
  | Sum.inr y10 =>
    if y10.1 = true then
      some (Sum.inr (y10.2.1, y10.2.2.1, y10.2.2.2.1, y10.2.2.2.2.1, y10.2.2.2.2.2.1, y10.2.2.2.2.2.2))
    else
      none
theorem q84va38307 : Tryz.prog.funcs[84]? = some Tryz.f84 ∧ Tryz.f84.body.isNone = false := ⟨Tryz.func84, by kernel_rfl⟩
theorem k84va38307s0 {q0 : List Ent} {q1 : List Ent} {q2 : List Con'} {q3 : List Int} {q4 : List Int} {q5 : Int} {q6 : Int} {q7 : List FreeVar} {q8 : List UnifyEquation} {q9 : Nat} {q10 : Nat} {q11 : Nat} {q12 : Bool} {q13 : Bool} {q14 : Int} {p1 : UnifyEquation} {r : List UnifyEquation × Nat × Nat × Nat × Bool × Int × Int × Int} (h : CTri Tryz.prog 84 [.cells [.mp 1 0, .mp 3 0, .sl (flat freeVarL q7) (List.length q7) .no, .ms 4 (q10 * 6) q9 q11 6, ab q12, .sl (flat freeVarL ([] : List FreeVar)) (List.length ([] : List FreeVar)) .nl, .sl (flat unifySolvedL ([] : List UnifySolved)) (List.length ([] : List UnifySolved)) .nl, .sl (flat intC ([] : List Int)) (List.length ([] : List Int)) .nl, ab q13, ai q14], .cells [.sl (flat entL q0) (List.length q0) .no, .mp 2 0, .sl (flat intC q3) (List.length q3) .no, .sl (flat intC q4) (List.length q4) .no], .cells [.sl (flat entL q1) (List.length q1) .no, .sl (flat conL q2) (List.length q2) .no], .cells [ai q5, ai q6], .row (flat unifyEquationL q8)] [.mp 0 0, unifyEquationA p1] (.tup []) [.cells [.mp 1 0, .mp 3 0, .sl (flat freeVarL q7) (List.length q7) .no, .ms 4 (r.2.2.1 * 6) r.2.1 r.2.2.2.1 6, ab q12, .sl (flat freeVarL ([] : List FreeVar)) (List.length ([] : List FreeVar)) .nl, .sl (flat unifySolvedL ([] : List UnifySolved)) (List.length ([] : List UnifySolved)) .nl, .sl (flat intC ([] : List Int)) (List.length ([] : List Int)) .nl, ab r.2.2.2.2.1, ai r.2.2.2.2.2.1], .cells [.sl (flat entL q0) (List.length q0) .no, .mp 2 0, .sl (flat intC q3) (List.length q3) .no, .sl (flat intC q4) (List.length q4) .no], .cells [.sl (flat entL q1) (List.length q1) .no, .sl (flat conL q2) (List.length q2) .no], .cells [ai r.2.2.2.2.2.2.1, ai r.2.2.2.2.2.2.2], .row (flat unifyEquationL q8)] 0) : CT Tryz.prog 84 [.cells [.mp 1 0, .mp 3 0, .sl (flat freeVarL q7) (List.length q7) .no, .ms 4 (q10 * 6) q9 q11 6, ab q12, .sl (flat freeVarL ([] : List FreeVar)) (List.length ([] : List FreeVar)) .nl, .sl (flat unifySolvedL ([] : List UnifySolved)) (List.length ([] : List UnifySolved)) .nl, .sl (flat intC ([] : List Int)) (List.length ([] : List Int)) .nl, ab q13, ai q14], .cells [.sl (flat entL q0) (List.length q0) .no, .mp 2 0, .sl (flat intC q3) (List.length q3) .no, .sl (flat intC q4) (List.length q4) .no], .cells [.sl (flat entL q1) (List.length q1) .no, .sl (flat conL q2) (List.length q2) .no], .cells [ai q5, ai q6], .row (flat unifyEquationL q8)] [.mp 0 0, unifyEquationA p1] (.tup []) [.cells [.mp 1 0, .mp 3 0, .sl (flat freeVarL q7) (List.length q7) .no, .ms 4 (r.2.2.1 * 6) r.2.1 r.2.2.2.1 6, ab q12, .sl (flat freeVarL ([] : List FreeVar)) (List.length ([] : List FreeVar)) .nl, .sl (flat unifySolvedL ([] : List UnifySolved)) (List.length ([] : List UnifySolved)) .nl, .sl (flat intC ([] : List Int)) (List.length ([] : List Int)) .nl, ab r.2.2.2.2.1, ai r.2.2.2.2.2.1], .cells [.sl (flat entL q0) (List.length q0) .no, .mp 2 0, .sl (flat intC q3) (List.length q3) .no, .sl (flat intC q4) (List.length q4) .no], .cells [.sl (flat entL q1) (List.length q1) .no, .sl (flat conL q2) (List.length q2) .no], .cells [ai r.2.2.2.2.2.2.1, ai r.2.2.2.2.2.2.2], .row (flat unifyEquationL q8)] 0 := ⟨h, ⟨(show 0 < 5 by decide), ⟨trivial, trivial, ⟨trivial, dT _⟩, trivial, trivial, ⟨trivial, dT _⟩, trivial⟩, trivial⟩, (forall_cons ⟨(show 1 < 5 by decide), (show 3 < 5 by decide), ⟨trivial, dFreeVar _⟩, (show 4 < 5 by decide), trivial, ⟨trivial, dFreeVar _⟩, ⟨trivial, dUnifySolved _⟩, ⟨trivial, dI _⟩, trivial, trivial, trivial⟩ (forall_cons ⟨⟨trivial, dE _⟩, (show 2 < 5 by decide), ⟨trivial, dI _⟩, ⟨trivial, dI _⟩, trivial⟩ (forall_cons ⟨⟨trivial, dE _⟩, ⟨trivial, dC _⟩, trivial⟩ (forall_cons ⟨trivial, trivial, trivial⟩ (forall_cons (dUnifyEquation _) forall_nil))))), trivial, (forall_cons ⟨(show 1 < 5 by decide), (show 3 < 5 by decide), dFreeVar _, (show 4 < 5 by decide), trivial, dFreeVar _, dUnifySolved _, dI _, trivial, trivial, trivial⟩ (forall_cons ⟨dE _, (show 2 < 5 by decide), dI _, dI _, trivial⟩ (forall_cons ⟨dE _, dC _, trivial⟩ (forall_cons ⟨trivial, trivial, trivial⟩ (forall_cons (dUnifyEquation _) forall_nil)))))⟩
theorem k84va38307s1 {q0 : List Ent} {q1 : List Ent} {q2 : List Con'} {q3 : List Int} {q4 : List Int} {q5 : Int} {q6 : Int} {q7 : List FreeVar} {q8 : List UnifyEquation} {q9 : Nat} {q10 : Nat} {q11 : Nat} {q12 : Bool} {q13 : Bool} {q14 : Int} {p1 : UnifyEquation} {r : List UnifyEquation × List Int × Bool × Int × Int × Int} (h : CTri Tryz.prog 84 [.cells [.mp 1 0, .mp 3 0, .sl (flat freeVarL q7) (List.length q7) .no, .ms 4 (q10 * 6) q9 q11 6, ab q12, .sl (flat freeVarL ([] : List FreeVar)) (List.length ([] : List FreeVar)) .nl, .sl (flat unifySolvedL ([] : List UnifySolved)) (List.length ([] : List UnifySolved)) .nl, .sl (flat intC ([] : List Int)) (List.length ([] : List Int)) .nl, ab q13, ai q14], .cells [.sl (flat entL q0) (List.length q0) .no, .mp 2 0, .sl (flat intC q3) (List.length q3) .no, .sl (flat intC q4) (List.length q4) .no], .cells [.sl (flat entL q1) (List.length q1) .no, .sl (flat conL q2) (List.length q2) .no], .cells [ai q5, ai q6], .row (flat unifyEquationL q8)] [.mp 0 0, unifyEquationA p1] (.tup []) [.cells [.mp 1 0, .mp 3 0, .sl (flat freeVarL q7) (List.length q7) .no, .ms 5 0 (List.length r.1) (List.length r.1) 6, ab q12, .sl (flat freeVarL ([] : List FreeVar)) (List.length ([] : List FreeVar)) .nl, .sl (flat unifySolvedL ([] : List UnifySolved)) (List.length ([] : List UnifySolved)) .nl, .ms 6 0 (List.length r.2.1) (List.length r.2.1) 1, ab r.2.2.1, ai r.2.2.2.1], .cells [.sl (flat entL q0) (List.length q0) .no, .mp 2 0, .sl (flat intC q3) (List.length q3) .no, .sl (flat intC q4) (List.length q4) .no], .cells [.sl (flat entL q1) (List.length q1) .no, .sl (flat conL q2) (List.length q2) .no], .cells [ai r.2.2.2.2.1, ai r.2.2.2.2.2], .row (flat unifyEquationL q8), .row (flat unifyEquationL r.1), .row (flat intC r.2.1)] 0) : CT Tryz.prog 84 [.cells [.mp 1 0, .mp 3 0, .sl (flat freeVarL q7) (List.length q7) .no, .ms 4 (q10 * 6) q9 q11 6, ab q12, .sl (flat freeVarL ([] : List FreeVar)) (List.length ([] : List FreeVar)) .nl, .sl (flat unifySolvedL ([] : List UnifySolved)) (List.length ([] : List UnifySolved)) .nl, .sl (flat intC ([] : List Int)) (List.length ([] : List Int)) .nl, ab q13, ai q14], .cells [.sl (flat entL q0) (List.length q0) .no, .mp 2 0, .sl (flat intC q3) (List.length q3) .no, .sl (flat intC q4) (List.length q4) .no], .cells [.sl (flat entL q1) (List.length q1) .no, .sl (flat conL q2) (List.length q2) .no], .cells [ai q5, ai q6], .row (flat unifyEquationL q8)] [.mp 0 0, unifyEquationA p1] (.tup []) [.cells [.mp 1 0, .mp 3 0, .sl (flat freeVarL q7) (List.length q7) .no, .ms 5 0 (List.length r.1) (List.length r.1) 6, ab q12, .sl (flat freeVarL ([] : List FreeVar)) (List.length ([] : List FreeVar)) .nl, .sl (flat unifySolvedL ([] : List UnifySolved)) (List.length ([] : List UnifySolved)) .nl, .ms 6 0 (List.length r.2.1) (List.length r.2.1) 1, ab r.2.2.1, ai r.2.2.2.1], .cells [.sl (flat entL q0) (List.length q0) .no, .mp 2 0, .sl (flat intC q3) (List.length q3) .no, .sl (flat intC q4) (List.length q4) .no], .cells [.sl (flat entL q1) (List.length q1) .no, .sl (flat conL q2) (List.length q2) .no], .cells [ai r.2.2.2.2.1, ai r.2.2.2.2.2], .row (flat unifyEquationL q8), .row (flat unifyEquationL r.1), .row (flat intC r.2.1)] 0 := ⟨h, ⟨(show 0 < 5 by decide), ⟨trivial, trivial, ⟨trivial, dT _⟩, trivial, trivial, ⟨trivial, dT _⟩, trivial⟩, trivial⟩, (forall_cons ⟨(show 1 < 5 by decide), (show 3 < 5 by decide), ⟨trivial, dFreeVar _⟩, (show 4 < 5 by decide), trivial, ⟨trivial, dFreeVar _⟩, ⟨trivial, dUnifySolved _⟩, ⟨trivial, dI _⟩, trivial, trivial, trivial⟩ (forall_cons ⟨⟨trivial, dE _⟩, (show 2 < 5 by decide), ⟨trivial, dI _⟩, ⟨trivial, dI _⟩, trivial⟩ (forall_cons ⟨⟨trivial, dE _⟩, ⟨trivial, dC _⟩, trivial⟩ (forall_cons ⟨trivial, trivial, trivial⟩ (forall_cons (dUnifyEquation _) forall_nil))))), trivial, (forall_cons ⟨(show 1 < 7 by decide), (show 3 < 7 by decide), dFreeVar _, (show 5 < 7 by decide), trivial, dFreeVar _, dUnifySolved _, (show 6 < 7 by decide), trivial, trivial, trivial⟩ (forall_cons ⟨dE _, (show 2 < 7 by decide), dI _, dI _, trivial⟩ (forall_cons ⟨dE _, dC _, trivial⟩ (forall_cons ⟨trivial, trivial, trivial⟩ (forall_cons (dUnifyEquation _) (forall_cons (dUnifyEquation _) (forall_cons (dI _) forall_nil)))))))⟩
theorem c84va38307 {qq : Nat} {q0 : List Ent} {q1 : List Ent} {q2 : List Con'} {q3 : List Int} {q4 : List Int} {q5 : Int} {q6 : Int} {q7 : List FreeVar} {q8 : List UnifyEquation} {q9 : Nat} {q10 : Nat} {q11 : Nat} {q12 : Bool} {q13 : Bool} {q14 : Int} {p1 : UnifyEquation} {r : (List UnifyEquation × Nat × Nat × Nat × Bool × Int × Int × Int) ⊕ (List UnifyEquation × List Int × Bool × Int × Int × Int)} (h : e84va38307 qq q0 q1 q2 q3 q4 q5 q6 q7 q8 q9 q10 q11 q12 q13 q14 p1 = some r) : (match (generalizing := false) r with | Sum.inl x => CT Tryz.prog 84 [.cells [.mp 1 0, .mp 3 0, .sl (flat freeVarL q7) (List.length q7) .no, .ms 4 (q10 * 6) q9 q11 6, ab q12, .sl (flat freeVarL ([] : List FreeVar)) (List.length ([] : List FreeVar)) .nl, .sl (flat unifySolvedL ([] : List UnifySolved)) (List.length ([] : List UnifySolved)) .nl, .sl (flat intC ([] : List Int)) (List.length ([] : List Int)) .nl, ab q13, ai q14], .cells [.sl (flat entL q0) (List.length q0) .no, .mp 2 0, .sl (flat intC q3) (List.length q3) .no, .sl (flat intC q4) (List.length q4) .no], .cells [.sl (flat entL q1) (List.length q1) .no, .sl (flat conL q2) (List.length q2) .no], .cells [ai q5, ai q6], .row (flat unifyEquationL q8)] [.mp 0 0, unifyEquationA p1] (.tup []) [.cells [.mp 1 0, .mp 3 0, .sl (flat freeVarL q7) (List.length q7) .no, .ms 4 (x.2.2.1 * 6) x.2.1 x.2.2.2.1 6, ab q12, .sl (flat freeVarL ([] : List FreeVar)) (List.length ([] : List FreeVar)) .nl, .sl (flat unifySolvedL ([] : List UnifySolved)) (List.length ([] : List UnifySolved)) .nl, .sl (flat intC ([] : List Int)) (List.length ([] : List Int)) .nl, ab x.2.2.2.2.1, ai x.2.2.2.2.2.1], .cells [.sl (flat entL q0) (List.length q0) .no, .mp 2 0, .sl (flat intC q3) (List.length q3) .no, .sl (flat intC q4) (List.length q4) .no], .cells [.sl (flat entL q1) (List.length q1) .no, .sl (flat conL q2) (List.length q2) .no], .cells [ai x.2.2.2.2.2.2.1, ai x.2.2.2.2.2.2.2], .row (flat unifyEquationL q8)] 0 | Sum.inr x => CT Tryz.prog 84 [.cells [.mp 1 0, .mp 3 0, .sl (flat freeVarL q7) (List.length q7) .no, .ms 4 (q10 * 6) q9 q11 6, ab q12, .sl (flat freeVarL ([] : List FreeVar)) (List.length ([] : List FreeVar)) .nl, .sl (flat unifySolvedL ([] : List UnifySolved)) (List.length ([] : List UnifySolved)) .nl, .sl (flat intC ([] : List Int)) (List.length ([] : List Int)) .nl, ab q13, ai q14], .cells [.sl (flat entL q0) (List.length q0) .no, .mp 2 0, .sl (flat intC q3) (List.length q3) .no, .sl (flat intC q4) (List.length q4) .no], .cells [.sl (flat entL q1) (List.length q1) .no, .sl (flat conL q2) (List.length q2) .no], .cells [ai q5, ai q6], .row (flat unifyEquationL q8)] [.mp 0 0, unifyEquationA p1] (.tup []) [.cells [.mp 1 0, .mp 3 0, .sl (flat freeVarL q7) (List.length q7) .no, .ms 5 0 (List.length x.1) (List.length x.1) 6, ab q12, .sl (flat freeVarL ([] : List FreeVar)) (List.length ([] : List FreeVar)) .nl, .sl (flat unifySolvedL ([] : List UnifySolved)) (List.length ([] : List UnifySolved)) .nl, .ms 6 0 (List.length x.2.1) (List.length x.2.1) 1, ab x.2.2.1, ai x.2.2.2.1], .cells [.sl (flat entL q0) (List.length q0) .no, .mp 2 0, .sl (flat intC q3) (List.length q3) .no, .sl (flat intC q4) (List.length q4) .no], .cells [.sl (flat entL q1) (List.length q1) .no, .sl (flat conL q2) (List.length q2) .no], .cells [ai x.2.2.2.2.1, ai x.2.2.2.2.2], .row (flat unifyEquationL q8), .row (flat unifyEquationL x.1), .row (flat intC x.2.1)] 0) := by
  unfold e84va38307 at h
  obtain ⟨r1, h2, h⟩ := obind h
  rcases r1 with y3 | y10
  · dsimp only at h
    obtain ⟨h4, h⟩ := splF h
    obtain ⟨r5, h6, h⟩ := obind h
    have k := oC 4 [1, 2, 3] (c128 h6) <| oK 1 [0, 1, 2, 3, 4] h4 (c127va38307 h2) o0
    obtain ⟨h7, h⟩ := splT h
    have k := oB 0 h7 k
    obtain ⟨h8, h⟩ := splF h
    obtain rfl := sj h
    exact k84va38307s0 (tG q84va38307 1 [] [0, 1, 2, 3, 4] [] true (oD (dUnifyEquation q8) <| oD (dC q2) <| oD (dE q1) <| oD (dI q4) <| oD (dI q3) <| oD (dE q0) <| oD (dI ([] : List Int)) <| oD (dUnifySolved ([] : List UnifySolved)) <| oD (dFreeVar ([] : List FreeVar)) <| oD (dFreeVar q7) <| oB 1 h8 k) (by kernel_rfl) (by decide))
  · dsimp only at h
    obtain ⟨h11, h⟩ := splT h
    obtain rfl := sj h
    exact k84va38307s1 (tG q84va38307 0 [] [0, 1, 2, 3, 4, 6, 7] [] true (oD (dI y10.2.2.1) <| oD (dUnifyEquation y10.2.1) <| oD (dUnifyEquation q8) <| oD (dC q2) <| oD (dE q1) <| oD (dI q4) <| oD (dI q3) <| oD (dE q0) <| oD (dUnifySolved ([] : List UnifySolved)) <| oD (dFreeVar ([] : List FreeVar)) <| oD (dFreeVar q7) <| oK 1 [0, 1, 2, 3, 4] h11 (c127va38307 h2) o0) (by kernel_rfl) (by decide))

end Go.Proofs.YtlbmblbeccafcaaGreat

namespace Go.Proofs.YtlbmblbeccafcaaGreat
open Go Go.Ab

/- (*scholium/unify.solver).next -/
def e49va42369 (qq : Nat) (q0 : List Ent) (q1 : List Ent) (q2 : List Con') (q3 : List Int) (q4 : List Int) (q5 : Int) (q6 : Int) (q7 : List FreeVar) (q8 : List UnifyEquation) (q9 : Nat) (q10 : Nat) (q11 : Nat) (q12 : Bool) (q13 : Bool) (q14 : Int) : Option ((List FreeVar × List UnifyEquation × Nat × Nat × Nat × Bool × Int × Int × Int) ⊕ (List FreeVar × List UnifyEquation × List Int × Bool × Int × Int × Int × List UnifyEquation)) :=
  (gchk q9 0) >>= fun x1 =>
  (gidx q8 ((q10 + x1) : Int)) >>= fun x3 =>
  (gcut q9 1 (q9 : Int)) >>= fun x5 =>
  (e80 qq q5 q6) >>= fun r7 =>
  if (r7.1 != 0) = true then
    none
  else
    (e75 qq (Mach.mk q0 q1 q2 q3 q4) x3.a_ r7.2.1 r7.2.2) >>= fun r10 =>
    (e81va29840 qq q0 q1 q2 q3 q4 r10.2.2.1 r10.2.2.2 q7 q8 x5.2 (q10 + x5.1) (q11 - x5.1) q12 q13 q14 r10.1 r10.2.1) >>= fun r12 =>
    if (r12.2 != 0) = true then
      none
    else
      (e75 qq (Mach.mk q0 q1 q2 q3 q4) x3.b_ r10.2.2.1 r10.2.2.2) >>= fun r15 =>
      (e81va29840 qq q0 q1 q2 q3 q4 r15.2.2.1 r15.2.2.2 q7 q8 x5.2 (q10 + x5.1) (q11 - x5.1) q12 q13 r12.2 r15.1 r15.2.1) >>= fun r17 =>
      if (r17.2 != 0) = true then
        none
      else
        (e82va14585 qq q0 q1 q2 q3 q4 r15.2.2.1 r15.2.2.2 q7 q8 x5.2 (q10 + x5.1) (q11 - x5.1) q12 q13 r17.2 r12.1) >>= fun r20 =>
        (e82va14585 qq q0 q1 q2 q3 q4 r15.2.2.1 r15.2.2.2 q7 q8 x5.2 (q10 + x5.1) (q11 - x5.1) q12 q13 r17.2 r17.1) >>= fun r22 =>
        if decide (r20 ≥ 0) = true then
          if (r20 == r22) = true then
            some (Sum.inl (q7, q8, x5.2, (q10 + x5.1), (q11 - x5.1), q13, 12, r15.2.2.1, r15.2.2.2))
          else
            none
        else
          if decide (r22 ≥ 0) = true then
            none
          else
            (e84va38307 qq q0 q1 q2 q3 q4 r15.2.2.1 r15.2.2.2 q7 q8 x5.2 (q10 + x5.1) (q11 - x5.1) q12 q13 r17.2 (UnifyEquation.mk r12.1 r17.1)) >>= fun r37 =>
            match r37 with
            | Sum.inl y39 =>
              some (Sum.inl (q7, q8, y39.2.1, y39.2.2.1, y39.2.2.2.1, y39.2.2.2.2.1, y39.2.2.2.2.2.1, y39.2.2.2.2.2.2.1, y39.2.2.2.2.2.2.2))
            | Sum.inr y40 =>
              some (Sum.inr (q7, y40.1, y40.2.1, y40.2.2.1, y40.2.2.2.1, y40.2.2.2.2.1, y40.2.2.2.2.2, q8))
theorem q49va42369 : Tryz.prog.funcs[49]? = some Tryz.f49 ∧ Tryz.f49.body.isNone = false := ⟨Tryz.func49, by kernel_rfl⟩
theorem k49va42369s0 {q0 : List Ent} {q1 : List Ent} {q2 : List Con'} {q3 : List Int} {q4 : List Int} {q5 : Int} {q6 : Int} {q7 : List FreeVar} {q8 : List UnifyEquation} {q9 : Nat} {q10 : Nat} {q11 : Nat} {q12 : Bool} {q13 : Bool} {q14 : Int} {r : List FreeVar × List UnifyEquation × Nat × Nat × Nat × Bool × Int × Int × Int} (h : CTri Tryz.prog 49 [.cells [.mp 1 0, .mp 3 0, .sl (flat freeVarL q7) (List.length q7) .no, .ms 4 (q10 * 6) q9 q11 6, ab q12, .sl (flat freeVarL ([] : List FreeVar)) (List.length ([] : List FreeVar)) .nl, .sl (flat unifySolvedL ([] : List UnifySolved)) (List.length ([] : List UnifySolved)) .nl, .sl (flat intC ([] : List Int)) (List.length ([] : List Int)) .nl, ab q13, ai q14], .cells [.sl (flat entL q0) (List.length q0) .no, .mp 2 0, .sl (flat intC q3) (List.length q3) .no, .sl (flat intC q4) (List.length q4) .no], .cells [.sl (flat entL q1) (List.length q1) .no, .sl (flat conL q2) (List.length q2) .no], .cells [ai q5, ai q6], .row (flat unifyEquationL q8)] [.mp 0 0] (.tup []) [.cells [.mp 1 0, .mp 3 0, .sl (flat freeVarL r.1) (List.length r.1) .no, .ms 4 (r.2.2.2.1 * 6) r.2.2.1 r.2.2.2.2.1 6, ab q12, .sl (flat freeVarL ([] : List FreeVar)) (List.length ([] : List FreeVar)) .nl, .sl (flat unifySolvedL ([] : List UnifySolved)) (List.length ([] : List UnifySolved)) .nl, .sl (flat intC ([] : List Int)) (List.length ([] : List Int)) .nl, ab r.2.2.2.2.2.1, ai r.2.2.2.2.2.2.1], .cells [.sl (flat entL q0) (List.length q0) .no, .mp 2 0, .sl (flat intC q3) (List.length q3) .no, .sl (flat intC q4) (List.length q4) .no], .cells [.sl (flat entL q1) (List.length q1) .no, .sl (flat conL q2) (List.length q2) .no], .cells [ai r.2.2.2.2.2.2.2.1, ai r.2.2.2.2.2.2.2.2], .row (flat unifyEquationL r.2.1)] 0) : CT Tryz.prog 49 [.cells [.mp 1 0, .mp 3 0, .sl (flat freeVarL q7) (List.length q7) .no, .ms 4 (q10 * 6) q9 q11 6, ab q12, .sl (flat freeVarL ([] : List FreeVar)) (List.length ([] : List FreeVar)) .nl, .sl (flat unifySolvedL ([] : List UnifySolved)) (List.length ([] : List UnifySolved)) .nl, .sl (flat intC ([] : List Int)) (List.length ([] : List Int)) .nl, ab q13, ai q14], .cells [.sl (flat entL q0) (List.length q0) .no, .mp 2 0, .sl (flat intC q3) (List.length q3) .no, .sl (flat intC q4) (List.length q4) .no], .cells [.sl (flat entL q1) (List.length q1) .no, .sl (flat conL q2) (List.length q2) .no], .cells [ai q5, ai q6], .row (flat unifyEquationL q8)] [.mp 0 0] (.tup []) [.cells [.mp 1 0, .mp 3 0, .sl (flat freeVarL r.1) (List.length r.1) .no, .ms 4 (r.2.2.2.1 * 6) r.2.2.1 r.2.2.2.2.1 6, ab q12, .sl (flat freeVarL ([] : List FreeVar)) (List.length ([] : List FreeVar)) .nl, .sl (flat unifySolvedL ([] : List UnifySolved)) (List.length ([] : List UnifySolved)) .nl, .sl (flat intC ([] : List Int)) (List.length ([] : List Int)) .nl, ab r.2.2.2.2.2.1, ai r.2.2.2.2.2.2.1], .cells [.sl (flat entL q0) (List.length q0) .no, .mp 2 0, .sl (flat intC q3) (List.length q3) .no, .sl (flat intC q4) (List.length q4) .no], .cells [.sl (flat entL q1) (List.length q1) .no, .sl (flat conL q2) (List.length q2) .no], .cells [ai r.2.2.2.2.2.2.2.1, ai r.2.2.2.2.2.2.2.2], .row (flat unifyEquationL r.2.1)] 0 := ⟨h, ⟨(show 0 < 5 by decide), trivial⟩, (forall_cons ⟨(show 1 < 5 by decide), (show 3 < 5 by decide), ⟨trivial, dFreeVar _⟩, (show 4 < 5 by decide), trivial, ⟨trivial, dFreeVar _⟩, ⟨trivial, dUnifySolved _⟩, ⟨trivial, dI _⟩, trivial, trivial, trivial⟩ (forall_cons ⟨⟨trivial, dE _⟩, (show 2 < 5 by decide), ⟨trivial, dI _⟩, ⟨trivial, dI _⟩, trivial⟩ (forall_cons ⟨⟨trivial, dE _⟩, ⟨trivial, dC _⟩, trivial⟩ (forall_cons ⟨trivial, trivial, trivial⟩ (forall_cons (dUnifyEquation _) forall_nil))))), trivial, (forall_cons ⟨(show 1 < 5 by decide), (show 3 < 5 by decide), dFreeVar _, (show 4 < 5 by decide), trivial, dFreeVar _, dUnifySolved _, dI _, trivial, trivial, trivial⟩ (forall_cons ⟨dE _, (show 2 < 5 by decide), dI _, dI _, trivial⟩ (forall_cons ⟨dE _, dC _, trivial⟩ (forall_cons ⟨trivial, trivial, trivial⟩ (forall_cons (dUnifyEquation _) forall_nil)))))⟩
theorem k49va42369s1 {q0 : List Ent} {q1 : List Ent} {q2 : List Con'} {q3 : List Int} {q4 : List Int} {q5 : Int} {q6 : Int} {q7 : List FreeVar} {q8 : List UnifyEquation} {q9 : Nat} {q10 : Nat} {q11 : Nat} {q12 : Bool} {q13 : Bool} {q14 : Int} {r : List FreeVar × List UnifyEquation × List Int × Bool × Int × Int × Int × List UnifyEquation} (h : CTri Tryz.prog 49 [.cells [.mp 1 0, .mp 3 0, .sl (flat freeVarL q7) (List.length q7) .no, .ms 4 (q10 * 6) q9 q11 6, ab q12, .sl (flat freeVarL ([] : List FreeVar)) (List.length ([] : List FreeVar)) .nl, .sl (flat unifySolvedL ([] : List UnifySolved)) (List.length ([] : List UnifySolved)) .nl, .sl (flat intC ([] : List Int)) (List.length ([] : List Int)) .nl, ab q13, ai q14], .cells [.sl (flat entL q0) (List.length q0) .no, .mp 2 0, .sl (flat intC q3) (List.length q3) .no, .sl (flat intC q4) (List.length q4) .no], .cells [.sl (flat entL q1) (List.length q1) .no, .sl (flat conL q2) (List.length q2) .no], .cells [ai q5, ai q6], .row (flat unifyEquationL q8)] [.mp 0 0] (.tup []) [.cells [.mp 1 0, .mp 3 0, .sl (flat freeVarL r.1) (List.length r.1) .no, .ms 5 0 (List.length r.2.1) (List.length r.2.1) 6, ab q12, .sl (flat freeVarL ([] : List FreeVar)) (List.length ([] : List FreeVar)) .nl, .sl (flat unifySolvedL ([] : List UnifySolved)) (List.length ([] : List UnifySolved)) .nl, .ms 6 0 (List.length r.2.2.1) (List.length r.2.2.1) 1, ab r.2.2.2.1, ai r.2.2.2.2.1], .cells [.sl (flat entL q0) (List.length q0) .no, .mp 2 0, .sl (flat intC q3) (List.length q3) .no, .sl (flat intC q4) (List.length q4) .no], .cells [.sl (flat entL q1) (List.length q1) .no, .sl (flat conL q2) (List.length q2) .no], .cells [ai r.2.2.2.2.2.1, ai r.2.2.2.2.2.2.1], .row (flat unifyEquationL r.2.2.2.2.2.2.2), .row (flat unifyEquationL r.2.1), .row (flat intC r.2.2.1)] 0) : CT Tryz.prog 49 [.cells [.mp 1 0, .mp 3 0, .sl (flat freeVarL q7) (List.length q7) .no, .ms 4 (q10 * 6) q9 q11 6, ab q12, .sl (flat freeVarL ([] : List FreeVar)) (List.length ([] : List FreeVar)) .nl, .sl (flat unifySolvedL ([] : List UnifySolved)) (List.length ([] : List UnifySolved)) .nl, .sl (flat intC ([] : List Int)) (List.length ([] : List Int)) .nl, ab q13, ai q14], .cells [.sl (flat entL q0) (List.length q0) .no, .mp 2 0, .sl (flat intC q3) (List.length q3) .no, .sl (flat intC q4) (List.length q4) .no], .cells [.sl (flat entL q1) (List.length q1) .no, .sl (flat conL q2) (List.length q2) .no], .cells [ai q5, ai q6], .row (flat unifyEquationL q8)] [.mp 0 0] (.tup []) [.cells [.mp 1 0, .mp 3 0, .sl (flat freeVarL r.1) (List.length r.1) .no, .ms 5 0 (List.length r.2.1) (List.length r.2.1) 6, ab q12, .sl (flat freeVarL ([] : List FreeVar)) (List.length ([] : List FreeVar)) .nl, .sl (flat unifySolvedL ([] : List UnifySolved)) (List.length ([] : List UnifySolved)) .nl, .ms 6 0 (List.length r.2.2.1) (List.length r.2.2.1) 1, ab r.2.2.2.1, ai r.2.2.2.2.1], .cells [.sl (flat entL q0) (List.length q0) .no, .mp 2 0, .sl (flat intC q3) (List.length q3) .no, .sl (flat intC q4) (List.length q4) .no], .cells [.sl (flat entL q1) (List.length q1) .no, .sl (flat conL q2) (List.length q2) .no], .cells [ai r.2.2.2.2.2.1, ai r.2.2.2.2.2.2.1], .row (flat unifyEquationL r.2.2.2.2.2.2.2), .row (flat unifyEquationL r.2.1), .row (flat intC r.2.2.1)] 0 := ⟨h, ⟨(show 0 < 5 by decide), trivial⟩, (forall_cons ⟨(show 1 < 5 by decide), (show 3 < 5 by decide), ⟨trivial, dFreeVar _⟩, (show 4 < 5 by decide), trivial, ⟨trivial, dFreeVar _⟩, ⟨trivial, dUnifySolved _⟩, ⟨trivial, dI _⟩, trivial, trivial, trivial⟩ (forall_cons ⟨⟨trivial, dE _⟩, (show 2 < 5 by decide), ⟨trivial, dI _⟩, ⟨trivial, dI _⟩, trivial⟩ (forall_cons ⟨⟨trivial, dE _⟩, ⟨trivial, dC _⟩, trivial⟩ (forall_cons ⟨trivial, trivial, trivial⟩ (forall_cons (dUnifyEquation _) forall_nil))))), trivial, (forall_cons ⟨(show 1 < 7 by decide), (show 3 < 7 by decide), dFreeVar _, (show 5 < 7 by decide), trivial, dFreeVar _, dUnifySolved _, (show 6 < 7 by decide), trivial, trivial, trivial⟩ (forall_cons ⟨dE _, (show 2 < 7 by decide), dI _, dI _, trivial⟩ (forall_cons ⟨dE _, dC _, trivial⟩ (forall_cons ⟨trivial, trivial, trivial⟩ (forall_cons (dUnifyEquation _) (forall_cons (dUnifyEquation _) (forall_cons (dI _) forall_nil)))))))⟩
theorem c49va42369 {qq : Nat} {q0 : List Ent} {q1 : List Ent} {q2 : List Con'} {q3 : List Int} {q4 : List Int} {q5 : Int} {q6 : Int} {q7 : List FreeVar} {q8 : List UnifyEquation} {q9 : Nat} {q10 : Nat} {q11 : Nat} {q12 : Bool} {q13 : Bool} {q14 : Int} {r : (List FreeVar × List UnifyEquation × Nat × Nat × Nat × Bool × Int × Int × Int) ⊕ (List FreeVar × List UnifyEquation × List Int × Bool × Int × Int × Int × List UnifyEquation)} (h : e49va42369 qq q0 q1 q2 q3 q4 q5 q6 q7 q8 q9 q10 q11 q12 q13 q14 = some r) : (match (generalizing := false) r with | Sum.inl x => CT Tryz.prog 49 [.cells [.mp 1 0, .mp 3 0, .sl (flat freeVarL q7) (List.length q7) .no, .ms 4 (q10 * 6) q9 q11 6, ab q12, .sl (flat freeVarL ([] : List FreeVar)) (List.length ([] : List FreeVar)) .nl, .sl (flat unifySolvedL ([] : List UnifySolved)) (List.length ([] : List UnifySolved)) .nl, .sl (flat intC ([] : List Int)) (List.length ([] : List Int)) .nl, ab q13, ai q14], .cells [.sl (flat entL q0) (List.length q0) .no, .mp 2 0, .sl (flat intC q3) (List.length q3) .no, .sl (flat intC q4) (List.length q4) .no], .cells [.sl (flat entL q1) (List.length q1) .no, .sl (flat conL q2) (List.length q2) .no], .cells [ai q5, ai q6], .row (flat unifyEquationL q8)] [.mp 0 0] (.tup []) [.cells [.mp 1 0, .mp 3 0, .sl (flat freeVarL x.1) (List.length x.1) .no, .ms 4 (x.2.2.2.1 * 6) x.2.2.1 x.2.2.2.2.1 6, ab q12, .sl (flat freeVarL ([] : List FreeVar)) (List.length ([] : List FreeVar)) .nl, .sl (flat unifySolvedL ([] : List UnifySolved)) (List.length ([] : List UnifySolved)) .nl, .sl (flat intC ([] : List Int)) (List.length ([] : List Int)) .nl, ab x.2.2.2.2.2.1, ai x.2.2.2.2.2.2.1], .cells [.sl (flat entL q0) (List.length q0) .no, .mp 2 0, .sl (flat intC q3) (List.length q3) .no, .sl (flat intC q4) (List.length q4) .no], .cells [.sl (flat entL q1) (List.length q1) .no, .sl (flat conL q2) (List.length q2) .no], .cells [ai x.2.2.2.2.2.2.2.1, ai x.2.2.2.2.2.2.2.2], .row (flat unifyEquationL x.2.1)] 0 | Sum.inr x => CT Tryz.prog 49 [.cells [.mp 1 0, .mp 3 0, .sl (flat freeVarL q7) (List.length q7) .no, .ms 4 (q10 * 6) q9 q11 6, ab q12, .sl (flat freeVarL ([] : List FreeVar)) (List.length ([] : List FreeVar)) .nl, .sl (flat unifySolvedL ([] : List UnifySolved)) (List.length ([] : List UnifySolved)) .nl, .sl (flat intC ([] : List Int)) (List.length ([] : List Int)) .nl, ab q13, ai q14], .cells [.sl (flat entL q0) (List.length q0) .no, .mp 2 0, .sl (flat intC q3) (List.length q3) .no, .sl (flat intC q4) (List.length q4) .no], .cells [.sl (flat entL q1) (List.length q1) .no, .sl (flat conL q2) (List.length q2) .no], .cells [ai q5, ai q6], .row (flat unifyEquationL q8)] [.mp 0 0] (.tup []) [.cells [.mp 1 0, .mp 3 0, .sl (flat freeVarL x.1) (List.length x.1) .no, .ms 5 0 (List.length x.2.1) (List.length x.2.1) 6, ab q12, .sl (flat freeVarL ([] : List FreeVar)) (List.length ([] : List FreeVar)) .nl, .sl (flat unifySolvedL ([] : List UnifySolved)) (List.length ([] : List UnifySolved)) .nl, .ms 6 0 (List.length x.2.2.1) (List.length x.2.2.1) 1, ab x.2.2.2.1, ai x.2.2.2.2.1], .cells [.sl (flat entL q0) (List.length q0) .no, .mp 2 0, .sl (flat intC q3) (List.length q3) .no, .sl (flat intC q4) (List.length q4) .no], .cells [.sl (flat entL q1) (List.length q1) .no, .sl (flat conL q2) (List.length q2) .no], .cells [ai x.2.2.2.2.2.1, ai x.2.2.2.2.2.2.1], .row (flat unifyEquationL x.2.2.2.2.2.2.2), .row (flat unifyEquationL x.2.1), .row (flat intC x.2.2.1)] 0) := by
  unfold e49va42369 at h
  obtain ⟨x1, h2, h⟩ := obind h
  obtain ⟨x3, h4, h⟩ := obind h
  obtain ⟨x5, h6, h⟩ := obind h
  obtain ⟨r7, h8, h⟩ := obind h
  have k := oC 2 [3] (c80 h8) <| oA 2 (slMFrom104 (b := 4) (o := q10) (c := q11) h6) <| oG (a := (.agg [ai x3.a_.k, ai x3.a_.n, .sl (flat tmCells x3.a_.sub) (List.length x3.a_.sub) .no, ai x3.b_.k, ai x3.b_.n, .sl (flat tmCells x3.b_.sub) (List.length x3.b_.sub) .no])) 0 (ldE codecUnifyEquation h4 (true, 6) (val := .agg [ai x3.a_.k, ai x3.a_.n, .sl (flat tmCells x3.a_.sub) (List.length x3.a_.sub) .no, ai x3.b_.k, ai x3.b_.n, .sl (flat tmCells x3.b_.sub) (List.length x3.b_.sub) .no]) rfl) <| oA 1 (ixN104 (b := 4) (o := q10) (c := q11) (z := 6) h2) o0
  obtain ⟨h9, h⟩ := splF h
  obtain ⟨r10, h11, h⟩ := obind h
  obtain ⟨r12, h13, h⟩ := obind h
  have k := oC 2 [0, 1, 2, 3, 4] (c81va29840 h13) <| oC 3 [1, 2, 3] (c75 h11) <| oB 0 h9 k
  obtain ⟨h14, h⟩ := splF h
  obtain ⟨r15, h16, h⟩ := obind h
  obtain ⟨r17, h18, h⟩ := obind h
  have k := oC 2 [0, 1, 2, 3, 4] (c81va29840 h18) <| oC 3 [1, 2, 3] (c75 h16) <| oB 2 h14 k
  obtain ⟨h19, h⟩ := splF h
  obtain ⟨r20, h21, h⟩ := obind h
  obtain ⟨r22, h23, h⟩ := obind h
  have k := oC 1 [0, 1, 2, 3, 4] (c82va14585 h23) <| oC 1 [0, 1, 2, 3, 4] (c82va14585 h21) <| oB 2 h19 k
  rcases spl h with ⟨h24, h⟩ | ⟨h24, h⟩
  · have k := oB 0 h24 k
    obtain ⟨h25, h⟩ := splT h
    obtain rfl := sj h
    exact k49va42369s0 (tG q49va42369 1 [] [0, 1, 2, 3, 4] [] true (oD (dUnifyEquation q8) <| oD (dC q2) <| oD (dE q1) <| oD (dI q4) <| oD (dI q3) <| oD (dE q0) <| oD (dI ([] : List Int)) <| oD (dUnifySolved ([] : List UnifySolved)) <| oD (dFreeVar ([] : List FreeVar)) <| oD (dFreeVar q7) <| oB 0 h25 k) (by kernel_rfl) (by decide))
  · have k := oB 0 h24 <| oB 0 h24 k
    obtain ⟨h31, h⟩ := splF h
    obtain ⟨r37, h38, h⟩ := obind h
    have k := oB 0 h31 k
    rcases r37 with y39 | y40
    · dsimp only at h
      obtain rfl := sj h
      exact k49va42369s0 (tG q49va42369 0 [] [0, 1, 2, 3, 4] [] true (oD (dUnifyEquation q8) <| oD (dC q2) <| oD (dE q1) <| oD (dI q4) <| oD (dI q3) <| oD (dE q0) <| oD (dI ([] : List Int)) <| oD (dUnifySolved ([] : List UnifySolved)) <| oD (dFreeVar ([] : List FreeVar)) <| oD (dFreeVar q7) <| oC 1 [0, 1, 2, 3, 4] (c84va38307 h38) k) (by kernel_rfl) (by decide))
    · dsimp only at h
      obtain rfl := sj h
      exact k49va42369s1 (tG q49va42369 0 [] [0, 1, 2, 3, 4, 6, 7] [] true (oD (dI y40.2.1) <| oD (dUnifyEquation y40.1) <| oD (dUnifyEquation q8) <| oD (dC q2) <| oD (dE q1) <| oD (dI q4) <| oD (dI q3) <| oD (dE q0) <| oD (dUnifySolved ([] : List UnifySolved)) <| oD (dFreeVar ([] : List FreeVar)) <| oD (dFreeVar q7) <| oC 1 [0, 1, 2, 3, 4] (c84va38307 h38) k) (by kernel_rfl) (by decide))

end Go.Proofs.YtlbmblbeccafcaaGreat

namespace Go.Proofs.YtlbmblbeccafcaaGreat
open Go Go.Ab

/- (*scholium/unify.solver).got -/
def e81va58521 (qq : Nat) (q0 : List Ent) (q1 : List Ent) (q2 : List Con') (q3 : List Int) (q4 : List Int) (q5 : Int) (q6 : Int) (q7 : List FreeVar) (q8 : List UnifyEquation) (q9 : Nat) (q10 : Nat) (q11 : Nat) (q12 : Bool) (q13 : List Int) (q14 : Bool) (q15 : Int) (p1 : Tm) (p2 : Int) : Option (Tm × Int) :=
  if (q15 == 0) = true then
    some (p1, p2)
  else
    none
theorem q81va58521 : Tryz.prog.funcs[81]? = some Tryz.f81 ∧ Tryz.f81.body.isNone = false := ⟨Tryz.func81, by kernel_rfl⟩
theorem k81va58521 {q0 : List Ent} {q1 : List Ent} {q2 : List Con'} {q3 : List Int} {q4 : List Int} {q5 : Int} {q6 : Int} {q7 : List FreeVar} {q8 : List UnifyEquation} {q9 : Nat} {q10 : Nat} {q11 : Nat} {q12 : Bool} {q13 : List Int} {q14 : Bool} {q15 : Int} {p1 : Tm} {p2 : Int} {r : Tm × Int} (h : CTri Tryz.prog 81 [.cells [.mp 1 0, .mp 3 0, .sl (flat freeVarL q7) (List.length q7) .no, .ms 4 (q10 * 6) q9 q11 6, ab q12, .sl (flat freeVarL ([] : List FreeVar)) (List.length ([] : List FreeVar)) .nl, .sl (flat unifySolvedL ([] : List UnifySolved)) (List.length ([] : List UnifySolved)) .nl, .ms 5 0 (List.length q13) (List.length q13) 1, ab q14, ai q15], .cells [.sl (flat entL q0) (List.length q0) .no, .mp 2 0, .sl (flat intC q3) (List.length q3) .no, .sl (flat intC q4) (List.length q4) .no], .cells [.sl (flat entL q1) (List.length q1) .no, .sl (flat conL q2) (List.length q2) .no], .cells [ai q5, ai q6], .row (flat unifyEquationL q8), .row (flat intC q13)] [.mp 0 0, tmA p1, ai p2] (tmA r.1) [.cells [.mp 1 0, .mp 3 0, .sl (flat freeVarL q7) (List.length q7) .no, .ms 4 (q10 * 6) q9 q11 6, ab q12, .sl (flat freeVarL ([] : List FreeVar)) (List.length ([] : List FreeVar)) .nl, .sl (flat unifySolvedL ([] : List UnifySolved)) (List.length ([] : List UnifySolved)) .nl, .ms 5 0 (List.length q13) (List.length q13) 1, ab q14, ai r.2], .cells [.sl (flat entL q0) (List.length q0) .no, .mp 2 0, .sl (flat intC q3) (List.length q3) .no, .sl (flat intC q4) (List.length q4) .no], .cells [.sl (flat entL q1) (List.length q1) .no, .sl (flat conL q2) (List.length q2) .no], .cells [ai q5, ai q6], .row (flat unifyEquationL q8), .row (flat intC q13)] 0) : CT Tryz.prog 81 [.cells [.mp 1 0, .mp 3 0, .sl (flat freeVarL q7) (List.length q7) .no, .ms 4 (q10 * 6) q9 q11 6, ab q12, .sl (flat freeVarL ([] : List FreeVar)) (List.length ([] : List FreeVar)) .nl, .sl (flat unifySolvedL ([] : List UnifySolved)) (List.length ([] : List UnifySolved)) .nl, .ms 5 0 (List.length q13) (List.length q13) 1, ab q14, ai q15], .cells [.sl (flat entL q0) (List.length q0) .no, .mp 2 0, .sl (flat intC q3) (List.length q3) .no, .sl (flat intC q4) (List.length q4) .no], .cells [.sl (flat entL q1) (List.length q1) .no, .sl (flat conL q2) (List.length q2) .no], .cells [ai q5, ai q6], .row (flat unifyEquationL q8), .row (flat intC q13)] [.mp 0 0, tmA p1, ai p2] (tmA r.1) [.cells [.mp 1 0, .mp 3 0, .sl (flat freeVarL q7) (List.length q7) .no, .ms 4 (q10 * 6) q9 q11 6, ab q12, .sl (flat freeVarL ([] : List FreeVar)) (List.length ([] : List FreeVar)) .nl, .sl (flat unifySolvedL ([] : List UnifySolved)) (List.length ([] : List UnifySolved)) .nl, .ms 5 0 (List.length q13) (List.length q13) 1, ab q14, ai r.2], .cells [.sl (flat entL q0) (List.length q0) .no, .mp 2 0, .sl (flat intC q3) (List.length q3) .no, .sl (flat intC q4) (List.length q4) .no], .cells [.sl (flat entL q1) (List.length q1) .no, .sl (flat conL q2) (List.length q2) .no], .cells [ai q5, ai q6], .row (flat unifyEquationL q8), .row (flat intC q13)] 0 := ⟨h, ⟨(show 0 < 6 by decide), ⟨trivial, trivial, ⟨trivial, dT _⟩, trivial⟩, trivial, trivial⟩, (forall_cons ⟨(show 1 < 6 by decide), (show 3 < 6 by decide), ⟨trivial, dFreeVar _⟩, (show 4 < 6 by decide), trivial, ⟨trivial, dFreeVar _⟩, ⟨trivial, dUnifySolved _⟩, (show 5 < 6 by decide), trivial, trivial, trivial⟩ (forall_cons ⟨⟨trivial, dE _⟩, (show 2 < 6 by decide), ⟨trivial, dI _⟩, ⟨trivial, dI _⟩, trivial⟩ (forall_cons ⟨⟨trivial, dE _⟩, ⟨trivial, dC _⟩, trivial⟩ (forall_cons ⟨trivial, trivial, trivial⟩ (forall_cons (dUnifyEquation _) (forall_cons (dI _) forall_nil)))))), ⟨trivial, trivial, dT _, trivial⟩, (forall_cons ⟨(show 1 < 6 by decide), (show 3 < 6 by decide), dFreeVar _, (show 4 < 6 by decide), trivial, dFreeVar _, dUnifySolved _, (show 5 < 6 by decide), trivial, trivial, trivial⟩ (forall_cons ⟨dE _, (show 2 < 6 by decide), dI _, dI _, trivial⟩ (forall_cons ⟨dE _, dC _, trivial⟩ (forall_cons ⟨trivial, trivial, trivial⟩ (forall_cons (dUnifyEquation _) (forall_cons (dI _) forall_nil))))))⟩
theorem c81va58521 {qq : Nat} {q0 : List Ent} {q1 : List Ent} {q2 : List Con'} {q3 : List Int} {q4 : List Int} {q5 : Int} {q6 : Int} {q7 : List FreeVar} {q8 : List UnifyEquation} {q9 : Nat} {q10 : Nat} {q11 : Nat} {q12 : Bool} {q13 : List Int} {q14 : Bool} {q15 : Int} {p1 : Tm} {p2 : Int} {r : Tm × Int} (h : e81va58521 qq q0 q1 q2 q3 q4 q5 q6 q7 q8 q9 q10 q11 q12 q13 q14 q15 p1 p2 = some r) : CT Tryz.prog 81 [.cells [.mp 1 0, .mp 3 0, .sl (flat freeVarL q7) (List.length q7) .no, .ms 4 (q10 * 6) q9 q11 6, ab q12, .sl (flat freeVarL ([] : List FreeVar)) (List.length ([] : List FreeVar)) .nl, .sl (flat unifySolvedL ([] : List UnifySolved)) (List.length ([] : List UnifySolved)) .nl, .ms 5 0 (List.length q13) (List.length q13) 1, ab q14, ai q15], .cells [.sl (flat entL q0) (List.length q0) .no, .mp 2 0, .sl (flat intC q3) (List.length q3) .no, .sl (flat intC q4) (List.length q4) .no], .cells [.sl (flat entL q1) (List.length q1) .no, .sl (flat conL q2) (List.length q2) .no], .cells [ai q5, ai q6], .row (flat unifyEquationL q8), .row (flat intC q13)] [.mp 0 0, tmA p1, ai p2] (tmA r.1) [.cells [.mp 1 0, .mp 3 0, .sl (flat freeVarL q7) (List.length q7) .no, .ms 4 (q10 * 6) q9 q11 6, ab q12, .sl (flat freeVarL ([] : List FreeVar)) (List.length ([] : List FreeVar)) .nl, .sl (flat unifySolvedL ([] : List UnifySolved)) (List.length ([] : List UnifySolved)) .nl, .ms 5 0 (List.length q13) (List.length q13) 1, ab q14, ai r.2], .cells [.sl (flat entL q0) (List.length q0) .no, .mp 2 0, .sl (flat intC q3) (List.length q3) .no, .sl (flat intC q4) (List.length q4) .no], .cells [.sl (flat entL q1) (List.length q1) .no, .sl (flat conL q2) (List.length q2) .no], .cells [ai q5, ai q6], .row (flat unifyEquationL q8), .row (flat intC q13)] 0 := by
  unfold e81va58521 at h
  obtain ⟨h1, h⟩ := splT h
  obtain rfl := sj h
  exact k81va58521 (tG q81va58521 3 [] [0, 1, 2, 3, 4, 5] [] true (oD (dT p1.sub) <| oD (dI q13) <| oD (dUnifyEquation q8) <| oD (dC q2) <| oD (dE q1) <| oD (dI q4) <| oD (dI q3) <| oD (dE q0) <| oD (dUnifySolved ([] : List UnifySolved)) <| oD (dFreeVar ([] : List FreeVar)) <| oD (dFreeVar q7) <| oB 1 h1 o0) (by kernel_rfl) (by decide))

end Go.Proofs.YtlbmblbeccafcaaGreat

namespace Go.Proofs.YtlbmblbeccafcaaGreat
open Go Go.Ab

/- (*scholium/unify.solver).variable -/
def e82va31404 (qq : Nat) (q0 : List Ent) (q1 : List Ent) (q2 : List Con') (q3 : List Int) (q4 : List Int) (q5 : Int) (q6 : Int) (q7 : List FreeVar) (q8 : List UnifyEquation) (q9 : Nat) (q10 : Nat) (q11 : Nat) (q12 : Bool) (q13 : List Int) (q14 : Bool) (q15 : Int) (p1 : Tm) : Option (Int) :=
  if (p1.k != 8) = true then
    some (-1)
  else
    (e123 qq q7 p1.n) >>= fun r2 =>
    if (r2.2 != 0) = true then
      none
    else
      some p1.n
theorem q82va31404 : Tryz.prog.funcs[82]? = some Tryz.f82 ∧ Tryz.f82.body.isNone = false := ⟨Tryz.func82, by kernel_rfl⟩
theorem k82va31404 {q0 : List Ent} {q1 : List Ent} {q2 : List Con'} {q3 : List Int} {q4 : List Int} {q5 : Int} {q6 : Int} {q7 : List FreeVar} {q8 : List UnifyEquation} {q9 : Nat} {q10 : Nat} {q11 : Nat} {q12 : Bool} {q13 : List Int} {q14 : Bool} {q15 : Int} {p1 : Tm} {r : Int} (h : CTri Tryz.prog 82 [.cells [.mp 1 0, .mp 3 0, .sl (flat freeVarL q7) (List.length q7) .no, .ms 4 (q10 * 6) q9 q11 6, ab q12, .sl (flat freeVarL ([] : List FreeVar)) (List.length ([] : List FreeVar)) .nl, .sl (flat unifySolvedL ([] : List UnifySolved)) (List.length ([] : List UnifySolved)) .nl, .ms 5 0 (List.length q13) (List.length q13) 1, ab q14, ai q15], .cells [.sl (flat entL q0) (List.length q0) .no, .mp 2 0, .sl (flat intC q3) (List.length q3) .no, .sl (flat intC q4) (List.length q4) .no], .cells [.sl (flat entL q1) (List.length q1) .no, .sl (flat conL q2) (List.length q2) .no], .cells [ai q5, ai q6], .row (flat unifyEquationL q8), .row (flat intC q13)] [.mp 0 0, tmA p1] (ai r) [.cells [.mp 1 0, .mp 3 0, .sl (flat freeVarL q7) (List.length q7) .no, .ms 4 (q10 * 6) q9 q11 6, ab q12, .sl (flat freeVarL ([] : List FreeVar)) (List.length ([] : List FreeVar)) .nl, .sl (flat unifySolvedL ([] : List UnifySolved)) (List.length ([] : List UnifySolved)) .nl, .ms 5 0 (List.length q13) (List.length q13) 1, ab q14, ai q15], .cells [.sl (flat entL q0) (List.length q0) .no, .mp 2 0, .sl (flat intC q3) (List.length q3) .no, .sl (flat intC q4) (List.length q4) .no], .cells [.sl (flat entL q1) (List.length q1) .no, .sl (flat conL q2) (List.length q2) .no], .cells [ai q5, ai q6], .row (flat unifyEquationL q8), .row (flat intC q13)] 0) : CT Tryz.prog 82 [.cells [.mp 1 0, .mp 3 0, .sl (flat freeVarL q7) (List.length q7) .no, .ms 4 (q10 * 6) q9 q11 6, ab q12, .sl (flat freeVarL ([] : List FreeVar)) (List.length ([] : List FreeVar)) .nl, .sl (flat unifySolvedL ([] : List UnifySolved)) (List.length ([] : List UnifySolved)) .nl, .ms 5 0 (List.length q13) (List.length q13) 1, ab q14, ai q15], .cells [.sl (flat entL q0) (List.length q0) .no, .mp 2 0, .sl (flat intC q3) (List.length q3) .no, .sl (flat intC q4) (List.length q4) .no], .cells [.sl (flat entL q1) (List.length q1) .no, .sl (flat conL q2) (List.length q2) .no], .cells [ai q5, ai q6], .row (flat unifyEquationL q8), .row (flat intC q13)] [.mp 0 0, tmA p1] (ai r) [.cells [.mp 1 0, .mp 3 0, .sl (flat freeVarL q7) (List.length q7) .no, .ms 4 (q10 * 6) q9 q11 6, ab q12, .sl (flat freeVarL ([] : List FreeVar)) (List.length ([] : List FreeVar)) .nl, .sl (flat unifySolvedL ([] : List UnifySolved)) (List.length ([] : List UnifySolved)) .nl, .ms 5 0 (List.length q13) (List.length q13) 1, ab q14, ai q15], .cells [.sl (flat entL q0) (List.length q0) .no, .mp 2 0, .sl (flat intC q3) (List.length q3) .no, .sl (flat intC q4) (List.length q4) .no], .cells [.sl (flat entL q1) (List.length q1) .no, .sl (flat conL q2) (List.length q2) .no], .cells [ai q5, ai q6], .row (flat unifyEquationL q8), .row (flat intC q13)] 0 := ⟨h, ⟨(show 0 < 6 by decide), ⟨trivial, trivial, ⟨trivial, dT _⟩, trivial⟩, trivial⟩, (forall_cons ⟨(show 1 < 6 by decide), (show 3 < 6 by decide), ⟨trivial, dFreeVar _⟩, (show 4 < 6 by decide), trivial, ⟨trivial, dFreeVar _⟩, ⟨trivial, dUnifySolved _⟩, (show 5 < 6 by decide), trivial, trivial, trivial⟩ (forall_cons ⟨⟨trivial, dE _⟩, (show 2 < 6 by decide), ⟨trivial, dI _⟩, ⟨trivial, dI _⟩, trivial⟩ (forall_cons ⟨⟨trivial, dE _⟩, ⟨trivial, dC _⟩, trivial⟩ (forall_cons ⟨trivial, trivial, trivial⟩ (forall_cons (dUnifyEquation _) (forall_cons (dI _) forall_nil)))))), trivial, (forall_cons ⟨(show 1 < 6 by decide), (show 3 < 6 by decide), dFreeVar _, (show 4 < 6 by decide), trivial, dFreeVar _, dUnifySolved _, (show 5 < 6 by decide), trivial, trivial, trivial⟩ (forall_cons ⟨dE _, (show 2 < 6 by decide), dI _, dI _, trivial⟩ (forall_cons ⟨dE _, dC _, trivial⟩ (forall_cons ⟨trivial, trivial, trivial⟩ (forall_cons (dUnifyEquation _) (forall_cons (dI _) forall_nil))))))⟩
theorem c82va31404 {qq : Nat} {q0 : List Ent} {q1 : List Ent} {q2 : List Con'} {q3 : List Int} {q4 : List Int} {q5 : Int} {q6 : Int} {q7 : List FreeVar} {q8 : List UnifyEquation} {q9 : Nat} {q10 : Nat} {q11 : Nat} {q12 : Bool} {q13 : List Int} {q14 : Bool} {q15 : Int} {p1 : Tm} {r : Int} (h : e82va31404 qq q0 q1 q2 q3 q4 q5 q6 q7 q8 q9 q10 q11 q12 q13 q14 q15 p1 = some r) : CT Tryz.prog 82 [.cells [.mp 1 0, .mp 3 0, .sl (flat freeVarL q7) (List.length q7) .no, .ms 4 (q10 * 6) q9 q11 6, ab q12, .sl (flat freeVarL ([] : List FreeVar)) (List.length ([] : List FreeVar)) .nl, .sl (flat unifySolvedL ([] : List UnifySolved)) (List.length ([] : List UnifySolved)) .nl, .ms 5 0 (List.length q13) (List.length q13) 1, ab q14, ai q15], .cells [.sl (flat entL q0) (List.length q0) .no, .mp 2 0, .sl (flat intC q3) (List.length q3) .no, .sl (flat intC q4) (List.length q4) .no], .cells [.sl (flat entL q1) (List.length q1) .no, .sl (flat conL q2) (List.length q2) .no], .cells [ai q5, ai q6], .row (flat unifyEquationL q8), .row (flat intC q13)] [.mp 0 0, tmA p1] (ai r) [.cells [.mp 1 0, .mp 3 0, .sl (flat freeVarL q7) (List.length q7) .no, .ms 4 (q10 * 6) q9 q11 6, ab q12, .sl (flat freeVarL ([] : List FreeVar)) (List.length ([] : List FreeVar)) .nl, .sl (flat unifySolvedL ([] : List UnifySolved)) (List.length ([] : List UnifySolved)) .nl, .ms 5 0 (List.length q13) (List.length q13) 1, ab q14, ai q15], .cells [.sl (flat entL q0) (List.length q0) .no, .mp 2 0, .sl (flat intC q3) (List.length q3) .no, .sl (flat intC q4) (List.length q4) .no], .cells [.sl (flat entL q1) (List.length q1) .no, .sl (flat conL q2) (List.length q2) .no], .cells [ai q5, ai q6], .row (flat unifyEquationL q8), .row (flat intC q13)] 0 := by
  unfold e82va31404 at h
  rcases spl h with ⟨h1, h⟩ | ⟨h1, h⟩
  · obtain rfl := sj h
    exact k82va31404 (tG q82va31404 0 [] [0, 1, 2, 3, 4, 5] [] true (oD (dI q13) <| oD (dUnifyEquation q8) <| oD (dC q2) <| oD (dE q1) <| oD (dI q4) <| oD (dI q3) <| oD (dE q0) <| oD (dUnifySolved ([] : List UnifySolved)) <| oD (dFreeVar ([] : List FreeVar)) <| oD (dFreeVar q7) <| oB 1 h1 o0) (by kernel_rfl) (by decide))
  · obtain ⟨r2, h3, h⟩ := obind h
    have k := oC 2 [] (c123 h3) <| oB 1 h1 o0
    obtain ⟨h4, h⟩ := splF h
    obtain rfl := sj h
    exact k82va31404 (tG q82va31404 1 [] [0, 1, 2, 3, 4, 5] [] true (oD (dI q13) <| oD (dUnifyEquation q8) <| oD (dC q2) <| oD (dE q1) <| oD (dI q4) <| oD (dI q3) <| oD (dE q0) <| oD (dUnifySolved ([] : List UnifySolved)) <| oD (dFreeVar ([] : List FreeVar)) <| oD (dFreeVar q7) <| oB 3 h4 k) (by kernel_rfl) (by decide))

end Go.Proofs.YtlbmblbeccafcaaGreat

namespace Go.Proofs.YtlbmblbeccafcaaGreat
open Go Go.Ab

/- scholium/unify.stands -/
def e124L46102 (qq : Nat) (p1 : Int) (r1 : List Int) (v10 : Int) : Option (Bool) :=
  if decide (v10 < (List.length r1 : Int)) = true then
    none
  else
    some false
def e124 (qq : Nat) (p0 : Tm) (p1 : Int) : Option (Bool) :=
  (e71 qq p0) >>= fun r1 =>
  e124L46102 qq p1 r1 0
def g124L46102E0 (j : Nat → Value) (p1 : Int) (r1 : List Int) (v10 : Int) : List AV := sp j 18 0 [(1, ai p1), (8, .sl (flat intC r1) (List.length r1) .no), (9, ai (List.length r1 : Int)), (10, ai v10)]
def g124L46102S0 (p1 : Int) (r1 : List Int) (v10 : Int) : LSt := ⟨[], 0, [], 0, []⟩
theorem q124 : Tryz.prog.funcs[124]? = some Tryz.f124 ∧ Tryz.f124.body.isNone = false := ⟨Tryz.func124, by kernel_rfl⟩
theorem k124 {p0 : Tm} {p1 : Int} {r : Bool} (h : CTri Tryz.prog 124 [] [tmA p0, ai p1] (ab r) [] 0) : CT Tryz.prog 124 [] [tmA p0, ai p1] (ab r) [] 0 := ⟨h, ⟨⟨trivial, trivial, ⟨trivial, dT _⟩, trivial⟩, trivial, trivial⟩, forall_nil, trivial, forall_nil⟩
theorem l124L46102 (qq : Nat) (p1 : Int) (r1 : List Int) (v10 : Int) (r : Bool) (h : e124L46102 qq p1 r1 v10 = some r) : (∀ j, Dl Tryz.prog 0 (inn (inn (rgt (lft (rgt (bod Tryz.f124)))))) (g124L46102E0 j p1 r1 v10) (g124L46102S0 p1 r1 v10) (frameQ Tryz.prog 0 (FinQ Tryz.prog 0 Tryz.f124 (ab r) [] 0) [.blk 0, .seq (rgt (rgt (bod Tryz.f124)))])) := by
  unfold e124L46102 at h
  obtain ⟨h3, h⟩ := splF h
  obtain rfl := sj h
  exact fun j => lF 0 [] (oB 0 h3 o0) (by kernel_rfl)
theorem c124 {qq : Nat} {p0 : Tm} {p1 : Int} {r : Bool} (h : e124 qq p0 p1 = some r) : CT Tryz.prog 124 [] [tmA p0, ai p1] (ab r) [] 0 := by
  unfold e124 at h
  obtain ⟨r1, h2, h⟩ := obind h
  exact k124 (tH q124 1 [] [] [] [1, 8, 9, 10] (oD (dI r1) <| oC 1 [] (c71 h2) o0) (l124L46102 qq _ _ _ _ h) (fun j => by kernel_rfl))

end Go.Proofs.YtlbmblbeccafcaaGreat

namespace Go.Proofs.YtlbmblbeccafcaaGreat
open Go Go.Ab

/- (*scholium/unify.solver).done -/
def e125va10557 (qq : Nat) (q0 : List Ent) (q1 : List Ent) (q2 : List Con') (q3 : List Int) (q4 : List Int) (q5 : Int) (q6 : Int) (q7 : List FreeVar) (q8 : List UnifyEquation) (q9 : Nat) (q10 : Nat) (q11 : Nat) (q12 : Bool) (q13 : List UnifySolved) (q14 : List Int) (q15 : Bool) (q16 : Int) (p1 : Int) : Option (List Int) :=
  (gapp 8 q14 [p1]) >>= fun l1 =>
  some l1
theorem q125va10557 : Tryz.prog.funcs[125]? = some Tryz.f125 ∧ Tryz.f125.body.isNone = false := ⟨Tryz.func125, by kernel_rfl⟩
theorem k125va10557 {q0 : List Ent} {q1 : List Ent} {q2 : List Con'} {q3 : List Int} {q4 : List Int} {q5 : Int} {q6 : Int} {q7 : List FreeVar} {q8 : List UnifyEquation} {q9 : Nat} {q10 : Nat} {q11 : Nat} {q12 : Bool} {q13 : List UnifySolved} {q14 : List Int} {q15 : Bool} {q16 : Int} {p1 : Int} {r : List Int} (h : CTri Tryz.prog 125 [.cells [.mp 1 0, .mp 3 0, .sl (flat freeVarL q7) (List.length q7) .no, .ms 4 (q10 * 6) q9 q11 6, ab q12, .sl (flat freeVarL ([] : List FreeVar)) (List.length ([] : List FreeVar)) .nl, .ms 5 0 (List.length q13) (List.length q13) 4, .ms 6 0 (List.length q14) (List.length q14) 1, ab q15, ai q16], .cells [.sl (flat entL q0) (List.length q0) .no, .mp 2 0, .sl (flat intC q3) (List.length q3) .no, .sl (flat intC q4) (List.length q4) .no], .cells [.sl (flat entL q1) (List.length q1) .no, .sl (flat conL q2) (List.length q2) .no], .cells [ai q5, ai q6], .row (flat unifyEquationL q8), .row (flat unifySolvedL q13), .row (flat intC q14)] [.mp 0 0, ai p1] (.tup []) [.cells [.mp 1 0, .mp 3 0, .sl (flat freeVarL q7) (List.length q7) .no, .ms 4 (q10 * 6) q9 q11 6, ab q12, .sl (flat freeVarL ([] : List FreeVar)) (List.length ([] : List FreeVar)) .nl, .ms 5 0 (List.length q13) (List.length q13) 4, .ms 7 0 (List.length r) (List.length r) 1, ab q15, ai q16], .cells [.sl (flat entL q0) (List.length q0) .no, .mp 2 0, .sl (flat intC q3) (List.length q3) .no, .sl (flat intC q4) (List.length q4) .no], .cells [.sl (flat entL q1) (List.length q1) .no, .sl (flat conL q2) (List.length q2) .no], .cells [ai q5, ai q6], .row (flat unifyEquationL q8), .row (flat unifySolvedL q13), .dead, .row (flat intC r)] 0) : CT Tryz.prog 125 [.cells [.mp 1 0, .mp 3 0, .sl (flat freeVarL q7) (List.length q7) .no, .ms 4 (q10 * 6) q9 q11 6, ab q12, .sl (flat freeVarL ([] : List FreeVar)) (List.length ([] : List FreeVar)) .nl, .ms 5 0 (List.length q13) (List.length q13) 4, .ms 6 0 (List.length q14) (List.length q14) 1, ab q15, ai q16], .cells [.sl (flat entL q0) (List.length q0) .no, .mp 2 0, .sl (flat intC q3) (List.length q3) .no, .sl (flat intC q4) (List.length q4) .no], .cells [.sl (flat entL q1) (List.length q1) .no, .sl (flat conL q2) (List.length q2) .no], .cells [ai q5, ai q6], .row (flat unifyEquationL q8), .row (flat unifySolvedL q13), .row (flat intC q14)] [.mp 0 0, ai p1] (.tup []) [.cells [.mp 1 0, .mp 3 0, .sl (flat freeVarL q7) (List.length q7) .no, .ms 4 (q10 * 6) q9 q11 6, ab q12, .sl (flat freeVarL ([] : List FreeVar)) (List.length ([] : List FreeVar)) .nl, .ms 5 0 (List.length q13) (List.length q13) 4, .ms 7 0 (List.length r) (List.length r) 1, ab q15, ai q16], .cells [.sl (flat entL q0) (List.length q0) .no, .mp 2 0, .sl (flat intC q3) (List.length q3) .no, .sl (flat intC q4) (List.length q4) .no], .cells [.sl (flat entL q1) (List.length q1) .no, .sl (flat conL q2) (List.length q2) .no], .cells [ai q5, ai q6], .row (flat unifyEquationL q8), .row (flat unifySolvedL q13), .dead, .row (flat intC r)] 0 := ⟨h, ⟨(show 0 < 7 by decide), trivial, trivial⟩, (forall_cons ⟨(show 1 < 7 by decide), (show 3 < 7 by decide), ⟨trivial, dFreeVar _⟩, (show 4 < 7 by decide), trivial, ⟨trivial, dFreeVar _⟩, (show 5 < 7 by decide), (show 6 < 7 by decide), trivial, trivial, trivial⟩ (forall_cons ⟨⟨trivial, dE _⟩, (show 2 < 7 by decide), ⟨trivial, dI _⟩, ⟨trivial, dI _⟩, trivial⟩ (forall_cons ⟨⟨trivial, dE _⟩, ⟨trivial, dC _⟩, trivial⟩ (forall_cons ⟨trivial, trivial, trivial⟩ (forall_cons (dUnifyEquation _) (forall_cons (dUnifySolved _) (forall_cons (dI _) forall_nil))))))), trivial, (forall_cons ⟨(show 1 < 8 by decide), (show 3 < 8 by decide), dFreeVar _, (show 4 < 8 by decide), trivial, dFreeVar _, (show 5 < 8 by decide), (show 7 < 8 by decide), trivial, trivial, trivial⟩ (forall_cons ⟨dE _, (show 2 < 8 by decide), dI _, dI _, trivial⟩ (forall_cons ⟨dE _, dC _, trivial⟩ (forall_cons ⟨trivial, trivial, trivial⟩ (forall_cons (dUnifyEquation _) (forall_cons (dUnifySolved _) (forall_cons trivial (forall_cons (dI _) forall_nil))))))))⟩
theorem c125va10557 {qq : Nat} {q0 : List Ent} {q1 : List Ent} {q2 : List Con'} {q3 : List Int} {q4 : List Int} {q5 : Int} {q6 : Int} {q7 : List FreeVar} {q8 : List UnifyEquation} {q9 : Nat} {q10 : Nat} {q11 : Nat} {q12 : Bool} {q13 : List UnifySolved} {q14 : List Int} {q15 : Bool} {q16 : Int} {p1 : Int} {r : List Int} (h : e125va10557 qq q0 q1 q2 q3 q4 q5 q6 q7 q8 q9 q10 q11 q12 q13 q14 q15 q16 p1 = some r) : CT Tryz.prog 125 [.cells [.mp 1 0, .mp 3 0, .sl (flat freeVarL q7) (List.length q7) .no, .ms 4 (q10 * 6) q9 q11 6, ab q12, .sl (flat freeVarL ([] : List FreeVar)) (List.length ([] : List FreeVar)) .nl, .ms 5 0 (List.length q13) (List.length q13) 4, .ms 6 0 (List.length q14) (List.length q14) 1, ab q15, ai q16], .cells [.sl (flat entL q0) (List.length q0) .no, .mp 2 0, .sl (flat intC q3) (List.length q3) .no, .sl (flat intC q4) (List.length q4) .no], .cells [.sl (flat entL q1) (List.length q1) .no, .sl (flat conL q2) (List.length q2) .no], .cells [ai q5, ai q6], .row (flat unifyEquationL q8), .row (flat unifySolvedL q13), .row (flat intC q14)] [.mp 0 0, ai p1] (.tup []) [.cells [.mp 1 0, .mp 3 0, .sl (flat freeVarL q7) (List.length q7) .no, .ms 4 (q10 * 6) q9 q11 6, ab q12, .sl (flat freeVarL ([] : List FreeVar)) (List.length ([] : List FreeVar)) .nl, .ms 5 0 (List.length q13) (List.length q13) 4, .ms 7 0 (List.length r) (List.length r) 1, ab q15, ai q16], .cells [.sl (flat entL q0) (List.length q0) .no, .mp 2 0, .sl (flat intC q3) (List.length q3) .no, .sl (flat intC q4) (List.length q4) .no], .cells [.sl (flat entL q1) (List.length q1) .no, .sl (flat conL q2) (List.length q2) .no], .cells [ai q5, ai q6], .row (flat unifyEquationL q8), .row (flat unifySolvedL q13), .dead, .row (flat intC r)] 0 := by
  unfold e125va10557 at h
  obtain ⟨l1, h2, h⟩ := obind h
  obtain rfl := sj h
  exact k125va10557 (tG q125va10557 1 [] [0, 1, 2, 3, 4, 5, 6, 7] [] true (oD (dI l1) <| oD (dUnifySolved q13) <| oD (dUnifyEquation q8) <| oD (dC q2) <| oD (dE q1) <| oD (dI q4) <| oD (dI q3) <| oD (dE q0) <| oD (dFreeVar ([] : List FreeVar)) <| oD (dFreeVar q7) <| oM 2 (apR37 h2 (by simp)) o0) (by kernel_rfl) (by decide))

end Go.Proofs.YtlbmblbeccafcaaGreat

namespace Go.Proofs.YtlbmblbeccafcaaGreat
open Go Go.Ab

/- scholium/free.Numbers -/
def e139L15088 : Nat → (List FreeVar) → (List Int) → Int →  Option (List Int)
  | 0, _, _, _ => none
  | qq + 1, p0, v3, v8 =>
    if decide (v8 < (List.length p0 : Int)) = true then
      (gidx p0 v8) >>= fun x2 =>
      (gapp 8 v3 [x2.n_]) >>= fun l4 =>
      e139L15088 qq p0 l4 (w64 (v8 + 1))
    else
      some v3
def e139 (qq : Nat) (p0 : List FreeVar) : Option (List Int) :=
  e139L15088 qq p0 [] 0
def g139L15088E0 (j : Nat → Value) (p0 : List FreeVar) (v3 : List Int) (v8 : Int) : List AV := sp j 19 0 [(3, .sl (flat intC v3) (List.length v3) (.st 0 1)), (6, .sl (flat freeVarL p0) (List.length p0) .no), (7, ai (List.length p0 : Int)), (8, ai v8)]
def g139L15088S0 (p0 : List FreeVar) (v3 : List Int) (v8 : Int) : LSt := ⟨[], 0, [0], 1, []⟩
theorem q139 : Tryz.prog.funcs[139]? = some Tryz.f139 ∧ Tryz.f139.body.isNone = false := ⟨Tryz.func139, by kernel_rfl⟩
theorem k139 {p0 : List FreeVar} {r : List Int} (h : CTri Tryz.prog 139 [] [.sl (flat freeVarL p0) (List.length p0) .no] (.sl (flat intC r) (List.length r) .no) [] 0) : CT Tryz.prog 139 [] [.sl (flat freeVarL p0) (List.length p0) .no] (.sl (flat intC r) (List.length r) .no) [] 0 := ⟨h, ⟨⟨trivial, dFreeVar _⟩, trivial⟩, forall_nil, dI _, forall_nil⟩
theorem l139L15088 : ∀ qq : Nat, (∀ (p0 : List FreeVar) (v3 : List Int) (v8 : Int) (r : List Int), e139L15088 qq p0 v3 v8 = some r → (∀ j, Dl Tryz.prog 0 (inn (inn (rgt (lft (rgt (rgt (bod Tryz.f139))))))) (g139L15088E0 j p0 v3 v8) (g139L15088S0 p0 v3 v8) (frameQ Tryz.prog 0 (FinQ Tryz.prog 0 Tryz.f139 (.sl (flat intC r) (List.length r) .no) [] 0) [.blk 0, .seq (rgt (rgt (rgt (bod Tryz.f139))))]))) := by
  intro qq
  induction qq with
  | zero =>
    exact fun _ _ _ _ h => nn h
  | succ qq ih =>
    intro p0 v3 v8 r h
    rw [e139L15088] at h
    rcases spl h with ⟨h1, h⟩ | ⟨h1, h⟩
    · obtain ⟨x2, h3, h⟩ := obind h
      obtain ⟨l4, h5, h⟩ := obind h
      exact fun j => lH 1 [] [] [1] [3, 6, 7, 8] (oD (dFreeVar p0) <| oD (dI l4) <| oP 4 (apS37 h5 (by simp)) <| oA 0 (ix42 (o := .no) h3) <| oB 0 h1 o0) (ih _ _ _ _ h) (fun j => by kernel_rfl)
    · obtain rfl := sj h
      exact fun j => lF 0 [] (oD (dI v3) <| oB 0 h1 o0) (by kernel_rfl)
theorem c139 {qq : Nat} {p0 : List FreeVar} {r : List Int} (h : e139 qq p0 = some r) : CT Tryz.prog 139 [] [.sl (flat freeVarL p0) (List.length p0) .no] (.sl (flat intC r) (List.length r) .no) [] 0 := by
  unfold e139 at h
  exact k139 (tH q139 1 [(none, 3, 1)] [] [0] [3, 6, 7, 8] (oD (dFreeVar p0) <| oD (dI ([] : List Int)) o0) (l139L15088 _ _ _ _ _ h) (fun j => by kernel_rfl))

end Go.Proofs.YtlbmblbeccafcaaGreat

namespace Go.Proofs.YtlbmblbeccafcaaGreat
open Go Go.Ab

/- slices.Clone(()scholium/free.Var,scholium/free.Var) -/
def e137v0 (qq : Nat) (p0 : List FreeVar) : Option (List FreeVar) :=
  some []
theorem q137v0 : Tryz.prog.funcs[137]? = some Tryz.f137 ∧ Tryz.f137.body.isNone = false := ⟨Tryz.func137, by kernel_rfl⟩
theorem k137v0 {p0 : List FreeVar} {r : List FreeVar} (h : CTri Tryz.prog 137 [] [.sl (flat freeVarL p0) (List.length p0) .nl] (.sl (flat freeVarL r) (List.length r) .no) [] 0) : CT Tryz.prog 137 [] [.sl (flat freeVarL p0) (List.length p0) .nl] (.sl (flat freeVarL r) (List.length r) .no) [] 0 := ⟨h, ⟨⟨trivial, dFreeVar _⟩, trivial⟩, forall_nil, dFreeVar _, forall_nil⟩
theorem c137v0 {qq : Nat} {p0 : List FreeVar} {r : List FreeVar} (h : e137v0 qq p0 = some r) : CT Tryz.prog 137 [] [.sl (flat freeVarL p0) (List.length p0) .nl] (.sl (flat freeVarL r) (List.length r) .no) [] 0 := by
  unfold e137v0 at h
  obtain rfl := sj h
  exact k137v0 (tF q137v0 1 [] (oD (dFreeVar ([] : List FreeVar)) o0) (by kernel_rfl))

end Go.Proofs.YtlbmblbeccafcaaGreat

namespace Go.Proofs.YtlbmblbeccafcaaGreat
open Go Go.Ab

/- slices.Clone(()scholium/free.Var,scholium/free.Var) -/
def e137v1 (qq : Nat) (p0 : List FreeVar) : Option (List FreeVar) :=
  (gapp 48 ([] : List FreeVar) p0) >>= fun l1 =>
  some l1
theorem q137v1 : Tryz.prog.funcs[137]? = some Tryz.f137 ∧ Tryz.f137.body.isNone = false := ⟨Tryz.func137, by kernel_rfl⟩
theorem k137v1 {p0 : List FreeVar} {r : List FreeVar} (h : CTri Tryz.prog 137 [] [.sl (flat freeVarL p0) (List.length p0) .nn] (.sl (flat freeVarL r) (List.length r) .no) [] 0) : CT Tryz.prog 137 [] [.sl (flat freeVarL p0) (List.length p0) .nn] (.sl (flat freeVarL r) (List.length r) .no) [] 0 := ⟨h, ⟨⟨trivial, dFreeVar _⟩, trivial⟩, forall_nil, dFreeVar _, forall_nil⟩
theorem c137v1 {qq : Nat} {p0 : List FreeVar} {r : List FreeVar} (h : e137v1 qq p0 = some r) : CT Tryz.prog 137 [] [.sl (flat freeVarL p0) (List.length p0) .nn] (.sl (flat freeVarL r) (List.length r) .no) [] 0 := by
  unfold e137v1 at h
  obtain ⟨l1, h2, h⟩ := obind h
  by_cases h3 : List.length p0 = 0
  · obtain rfl := sj h
    exact k137v1 (tF q137v1 0 [] (oD (dFreeVar l1) <| oP 2 (apN42 h2 h3) o0) (by kernel_rfl))
  · obtain rfl := sj h
    exact k137v1 (tF q137v1 0 [] (oD (dFreeVar l1) <| oP 2 (apS42 h2 h3) o0) (by kernel_rfl))

end Go.Proofs.YtlbmblbeccafcaaGreat

namespace Go.Proofs.YtlbmblbeccafcaaGreat
open Go Go.Ab

/- slices.Clone(()scholium/free.Var,scholium/free.Var) -/
def e137vr1 (qq : Nat) (p0 : List FreeVar) : Option ((List FreeVar) ⊕ (List FreeVar)) :=
  if decide (List.length p0 = 0) = true then
    some (Sum.inl [])
  else
    (gapp 48 ([] : List FreeVar) p0) >>= fun l2 =>
    some (Sum.inr l2)
theorem q137vr1 : Tryz.prog.funcs[137]? = some Tryz.f137 ∧ Tryz.f137.body.isNone = false := ⟨Tryz.func137, by kernel_rfl⟩
theorem k137vr1s0 {p0 : List FreeVar} {r : List FreeVar} (h : CTri Tryz.prog 137 [] [.sl (flat freeVarL p0) (List.length p0) .nn] (.sl (flat freeVarL r) (List.length r) .no) [] 0) : CT Tryz.prog 137 [] [.sl (flat freeVarL p0) (List.length p0) .nn] (.sl (flat freeVarL r) (List.length r) .no) [] 0 := ⟨h, ⟨⟨trivial, dFreeVar _⟩, trivial⟩, forall_nil, dFreeVar _, forall_nil⟩
theorem k137vr1s1 {p0 : List FreeVar} {r : List FreeVar} (h : CTri Tryz.prog 137 [] [.sl (flat freeVarL p0) (List.length p0) .nn] (.ms 0 0 (List.length r) (List.length r) 4) [.row (flat freeVarL r)] 0) : CT Tryz.prog 137 [] [.sl (flat freeVarL p0) (List.length p0) .nn] (.ms 0 0 (List.length r) (List.length r) 4) [.row (flat freeVarL r)] 0 := ⟨h, ⟨⟨trivial, dFreeVar _⟩, trivial⟩, forall_nil, (show 0 < 1 by decide), (forall_cons (dFreeVar _) forall_nil)⟩
theorem c137vr1 {qq : Nat} {p0 : List FreeVar} {r : (List FreeVar) ⊕ (List FreeVar)} (h : e137vr1 qq p0 = some r) : (match (generalizing := false) r with | Sum.inl x => CT Tryz.prog 137 [] [.sl (flat freeVarL p0) (List.length p0) .nn] (.sl (flat freeVarL x) (List.length x) .no) [] 0 | Sum.inr x => CT Tryz.prog 137 [] [.sl (flat freeVarL p0) (List.length p0) .nn] (.ms 0 0 (List.length x) (List.length x) 4) [.row (flat freeVarL x)] 0) := by
  unfold e137vr1 at h
  rcases spl h with ⟨h1, h⟩ | ⟨h1, h⟩
  · obtain rfl := sj h
    exact k137vr1s0 (tF q137vr1 0 [] (oD (dFreeVar ([] : List FreeVar)) <| oQ 2 (apQ42 (of_decide_eq_true h1)) o0) (by kernel_rfl))
  · obtain ⟨l2, h3, h⟩ := obind h
    obtain rfl := sj h
    exact k137vr1s1 (tF q137vr1 0 [0] (oD (dFreeVar l2) <| oM 2 (apW42 h3 (of_decide_eq_false h1)) o0) (by kernel_rfl))

end Go.Proofs.YtlbmblbeccafcaaGreat

namespace Go.Proofs.YtlbmblbeccafcaaGreat
open Go Go.Ab

/- a clone, whatever it is of -/
def e137 (_qq : Nat) (p0 : List FreeVar) : Option (List FreeVar) := gapp 48 [] p0
theorem c137 {qq : Nat} {p0 : List FreeVar} {r : List FreeVar} (h : e137 qq p0 = some r) : CT Tryz.prog 137 [] [.sl (flat freeVarL p0) (List.length p0) .no] (.sl (flat freeVarL r) (List.length r) .no) [] 0 := by
  have hr : r = p0 := by have := (gapp_spec h).2; simpa using this
  have h1 : e137v1 qq p0 = some r := by unfold e137v1; rw [show gapp 48 ([] : List FreeVar) p0 = some r from h]; rfl
  have k1 := c137v1 h1
  refine ⟨CTri.nilcase (fun hn => ?_) k1.tri, ⟨⟨trivial, dFreeVar _⟩, trivial⟩, (fun _ h => nomatch h), dFreeVar _, (fun _ h => nomatch h)⟩
  have hp : p0 = [] := flat_nil codecFreeVar (by decide) hn
  subst hr
  subst hp
  exact (c137v0 (qq := qq) rfl).tri
/- the same, as a row -/
def e137vr (qq : Nat) (p0 : List FreeVar) : Option (Unit ⊕ List FreeVar) := if decide (List.length p0 = 0) = true then some (.inl ()) else (gapp 48 [] p0) >>= fun r => some (.inr r)
theorem c137vr {qq : Nat} {p0 : List FreeVar} {r : Unit ⊕ List FreeVar} (h : e137vr qq p0 = some r) : (match (generalizing := false) r with | .inl _ => CT Tryz.prog 137 [] [.sl (flat freeVarL p0) (List.length p0) .no] (.sl (flat freeVarL ([] : List FreeVar)) (List.length ([] : List FreeVar)) .no) [] 0 | .inr x => CT Tryz.prog 137 [] [.sl (flat freeVarL p0) (List.length p0) .no] (.ms 0 0 (List.length x) (List.length x) 4) [.row (flat freeVarL x)] 0) := by
  unfold e137vr at h
  rcases spl h with ⟨h1, h⟩ | ⟨h1, h⟩
  · obtain rfl := sj h
    have hp : p0 = [] := List.length_eq_zero_iff.1 (of_decide_eq_true h1)
    subst hp
    exact CT.weakS (c137 (qq := qq) (p0 := []) (r := []) rfl)
  · obtain ⟨x, h2, h⟩ := obind h
    obtain rfl := sj h
    have k1 := c137vr1 (qq := qq) (p0 := p0) (r := .inr x) (by unfold e137vr1; rw [if_neg (by rw [h1]; decide), h2]; rfl)
    refine ⟨CTri.nilcase (fun hn => ?_) k1.tri, ⟨⟨trivial, dFreeVar _⟩, trivial⟩, (fun _ h => nomatch h), (show 0 < 1 by decide), forall_cons (dFreeVar _) forall_nil⟩
    have hp : p0 = [] := flat_nil codecFreeVar (by decide) hn
    subst hp
    cases h1


end Go.Proofs.YtlbmblbeccafcaaGreat

namespace Go.Proofs.YtlbmblbeccafcaaGreat
open Go Go.Ab

/- scholium/free.Order -/
def e176L38225 (qq : Nat) (v6 : List FreeVar) : Option (List FreeVar × Int) :=
  some (v6, 0)
def e176 (qq : Nat) (p0 : List FreeVar) : Option (List FreeVar × Int) :=
  (e121 qq p0) >>= fun r1 =>
  if ((List.length r1 : Int) != (List.length p0 : Int)) = true then
    none
  else
    (e137vr qq p0) >>= fun r4 =>
    match r4 with
    | Sum.inl y6 =>
      e176L38225 qq []
    | Sum.inr y7 =>
      none
def g176L38225E0 (j : Nat → Value) (v6 : List FreeVar) : List AV := sp j 51 0 [(6, .sl (flat freeVarL v6) (List.length v6) .nl), (7, .sl (flat freeVarL ([] : List FreeVar)) (List.length ([] : List FreeVar)) .no)]
def g176L38225S0 (v6 : List FreeVar) : LSt := ⟨[], 0, [], 0, []⟩
theorem q176 : Tryz.prog.funcs[176]? = some Tryz.f176 ∧ Tryz.f176.body.isNone = false := ⟨Tryz.func176, by kernel_rfl⟩
theorem k176 {p0 : List FreeVar} {r : List FreeVar × Int} (h : CTri Tryz.prog 176 [] [.sl (flat freeVarL p0) (List.length p0) .no] (.tup [.sl (flat freeVarL r.1) (List.length r.1) .no, ai r.2]) [] 0) : CT Tryz.prog 176 [] [.sl (flat freeVarL p0) (List.length p0) .no] (.tup [.sl (flat freeVarL r.1) (List.length r.1) .no, ai r.2]) [] 0 := ⟨h, ⟨⟨trivial, dFreeVar _⟩, trivial⟩, forall_nil, ⟨dFreeVar _, trivial, trivial⟩, forall_nil⟩
theorem l176L38225 (qq : Nat) (v6 : List FreeVar) (r : List FreeVar × Int) (h : e176L38225 qq v6 = some r) : (∀ j, Dl Tryz.prog 0 (inn (inn (rgt (lft (rgt (rgt (rgt (rgt (rgt (bod Tryz.f176)))))))))) (g176L38225E0 j v6) (g176L38225S0 v6) (frameQ Tryz.prog 0 (FinQ Tryz.prog 0 Tryz.f176 (.tup [.sl (flat freeVarL r.1) (List.length r.1) .no, ai r.2]) [] 0) [.blk 0, .seq (rgt (rgt (rgt (rgt (rgt (rgt (bod Tryz.f176)))))))])) := by
  unfold e176L38225 at h
  obtain rfl := sj h
  exact fun j => lF 2 [] (oD (dFreeVar v6) o0) (by kernel_rfl)
theorem c176 {qq : Nat} {p0 : List FreeVar} {r : List FreeVar × Int} (h : e176 qq p0 = some r) : CT Tryz.prog 176 [] [.sl (flat freeVarL p0) (List.length p0) .no] (.tup [.sl (flat freeVarL r.1) (List.length r.1) .no, ai r.2]) [] 0 := by
  unfold e176 at h
  obtain ⟨r1, h2, h⟩ := obind h
  have k := oN 3 (lnI91 r1) <| oC 0 [] (c121 h2) o0
  obtain ⟨h3, h⟩ := splF h
  obtain ⟨r4, h5, h⟩ := obind h
  have k := oB 1 h3 k
  rcases r4 with y6 | y7
  · dsimp only at h
    exact k176 (tH q176 0 [] [] [] [6, 7] (oD (dFreeVar ([] : List FreeVar)) <| oD (dFreeVar ([] : List FreeVar)) <| oC 0 [] (c137vr h5) k) (l176L38225 qq _ _ h) (fun j => by kernel_rfl))
  · cases h

end Go.Proofs.YtlbmblbeccafcaaGreat

namespace Go.Proofs.YtlbmblbeccafcaaGreat
open Go Go.Ab

/- slices.Index(()int,int) -/
def e132L18630 (qq : Nat) (p0 : List Int) (p1 : Int) (v8 : Int) : Option (Int) :=
  if decide (v8 < (List.length p0 : Int)) = true then
    (gidx p0 v8) >>= fun x2 =>
    if (p1 == x2) = true then
      some v8
    else
      none
  else
    some (-1)
def e132 (qq : Nat) (p0 : List Int) (p1 : Int) : Option (Int) :=
  e132L18630 qq p0 p1 0
def g132L18630E0 (j : Nat → Value) (p0 : List Int) (p1 : Int) (v8 : Int) : List AV := sp j 19 0 [(0, .sl (flat intC p0) (List.length p0) .no), (1, ai p1), (7, ai (List.length p0 : Int)), (8, ai v8)]
def g132L18630S0 (p0 : List Int) (p1 : Int) (v8 : Int) : LSt := ⟨[], 0, [], 0, []⟩
theorem q132 : Tryz.prog.funcs[132]? = some Tryz.f132 ∧ Tryz.f132.body.isNone = false := ⟨Tryz.func132, by kernel_rfl⟩
theorem k132 {p0 : List Int} {p1 : Int} {r : Int} (h : CTri Tryz.prog 132 [] [.sl (flat intC p0) (List.length p0) .no, ai p1] (ai r) [] 0) : CT Tryz.prog 132 [] [.sl (flat intC p0) (List.length p0) .no, ai p1] (ai r) [] 0 := ⟨h, ⟨⟨trivial, dI _⟩, trivial, trivial⟩, forall_nil, trivial, forall_nil⟩
theorem l132L18630 (qq : Nat) (p0 : List Int) (p1 : Int) (v8 : Int) (r : Int) (h : e132L18630 qq p0 p1 v8 = some r) : (∀ j, Dl Tryz.prog 0 (inn (inn (rgt (lft (rgt (bod Tryz.f132)))))) (g132L18630E0 j p0 p1 v8) (g132L18630S0 p0 p1 v8) (frameQ Tryz.prog 0 (FinQ Tryz.prog 0 Tryz.f132 (ai r) [] 0) [.blk 0, .seq (rgt (rgt (bod Tryz.f132)))])) := by
  unfold e132L18630 at h
  rcases spl h with ⟨h1, h⟩ | ⟨h1, h⟩
  · obtain ⟨x2, h3, h⟩ := obind h
    have k := oA 0 (ix37 (o := .no) h3) <| oB 0 h1 o0
    obtain ⟨h4, h⟩ := splT h
    obtain rfl := sj h
    exact fun j => lF 0 [] (oB 1 h4 k) (by kernel_rfl)
  · obtain rfl := sj h
    exact fun j => lF 0 [] (oB 0 h1 o0) (by kernel_rfl)
theorem c132 {qq : Nat} {p0 : List Int} {p1 : Int} {r : Int} (h : e132 qq p0 p1 = some r) : CT Tryz.prog 132 [] [.sl (flat intC p0) (List.length p0) .no, ai p1] (ai r) [] 0 := by
  unfold e132 at h
  exact k132 (tH q132 1 [] [] [] [0, 1, 7, 8] (oD (dI p0) o0) (l132L18630 qq _ _ _ _ h) (fun j => by kernel_rfl))

end Go.Proofs.YtlbmblbeccafcaaGreat

namespace Go.Proofs.YtlbmblbeccafcaaGreat
open Go Go.Ab

/- slices.Contains(()int,int) -/
def e91 (qq : Nat) (p0 : List Int) (p1 : Int) : Option (Bool) :=
  (e132 qq p0 p1) >>= fun r1 =>
  some (decide (r1 ≥ 0))
theorem q91 : Tryz.prog.funcs[91]? = some Tryz.f91 ∧ Tryz.f91.body.isNone = false := ⟨Tryz.func91, by kernel_rfl⟩
theorem k91 {p0 : List Int} {p1 : Int} {r : Bool} (h : CTri Tryz.prog 91 [] [.sl (flat intC p0) (List.length p0) .no, ai p1] (ab r) [] 0) : CT Tryz.prog 91 [] [.sl (flat intC p0) (List.length p0) .no, ai p1] (ab r) [] 0 := ⟨h, ⟨⟨trivial, dI _⟩, trivial, trivial⟩, forall_nil, trivial, forall_nil⟩
theorem c91 {qq : Nat} {p0 : List Int} {p1 : Int} {r : Bool} (h : e91 qq p0 p1 = some r) : CT Tryz.prog 91 [] [.sl (flat intC p0) (List.length p0) .no, ai p1] (ab r) [] 0 := by
  unfold e91 at h
  obtain ⟨r1, h2, h⟩ := obind h
  obtain rfl := sj h
  exact k91 (tF q91 1 [] (oC 0 [] (c132 h2) o0) (by kernel_rfl))

end Go.Proofs.YtlbmblbeccafcaaGreat

namespace Go.Proofs.YtlbmblbeccafcaaGreat
open Go Go.Ab

/- scholium/free.Put -/
def e126L35053 : Nat → (List FreeVar) → Int → Tm → Int → (List FreeVar) →  Option (List FreeVar × Int)
  | 0, _, _, _, _, _ => none
  | qq + 1, p0, p1, p2, v37, v8 =>
    if decide (v37 < (List.length p0 : Int)) = true then
      (gidx p0 v37) >>= fun x21 =>
      if (x21.n_ == p1) = true then
        e126L35053 qq p0 p1 p2 (w64 (v37 + 1)) v8
      else
        none
    else
      (e176 qq v8) >>= fun r29 =>
      some (r29.1, r29.2)
def e126 (qq : Nat) (p0 : List FreeVar) (p1 : Int) (p2 : Tm) : Option (List FreeVar × Int) :=
  (e78 qq p0) >>= fun r1 =>
  if r1 = true then
    (e51 qq p2) >>= fun r4 =>
    if r4 = true then
      (e70 qq p2) >>= fun r7 =>
      if decide (r7 > 0) = true then
        none
      else
        (e139 qq p0) >>= fun r10 =>
        (e91 qq r10 p1) >>= fun r12 =>
        if r12 = true then
          (e71 qq p2) >>= fun r15 =>
          (e91 qq r15 p1) >>= fun r17 =>
          if r17 = true then
            none
          else
            e126L35053 qq p0 p1 p2 0 []
        else
          none
    else
      none
  else
    none
def g126L35053E0 (j : Nat → Value) (p0 : List FreeVar) (p1 : Int) (p2 : Tm) (v37 : Int) (v8 : List FreeVar) : List AV := sp j 68 0 [(1, ai p1), (5, .mp 0 0), (8, .sl (flat freeVarL v8) (List.length v8) (.st 0 4)), (35, .sl (flat freeVarL p0) (List.length p0) .no), (36, ai (List.length p0 : Int)), (37, ai v37)]
def g126L35053S0 (p0 : List FreeVar) (p1 : Int) (p2 : Tm) (v37 : Int) (v8 : List FreeVar) : LSt := ⟨[(0, .cells [ai p2.k, ai p2.n, .sl (flat tmCells p2.sub) (List.length p2.sub) .no])], 1, [0], 1, []⟩
theorem q126 : Tryz.prog.funcs[126]? = some Tryz.f126 ∧ Tryz.f126.body.isNone = false := ⟨Tryz.func126, by kernel_rfl⟩
theorem k126 {p0 : List FreeVar} {p1 : Int} {p2 : Tm} {r : List FreeVar × Int} (h : CTri Tryz.prog 126 [] [.sl (flat freeVarL p0) (List.length p0) .no, ai p1, tmA p2] (.tup [.sl (flat freeVarL r.1) (List.length r.1) .no, ai r.2]) [] 0) : CT Tryz.prog 126 [] [.sl (flat freeVarL p0) (List.length p0) .no, ai p1, tmA p2] (.tup [.sl (flat freeVarL r.1) (List.length r.1) .no, ai r.2]) [] 0 := ⟨h, ⟨⟨trivial, dFreeVar _⟩, trivial, ⟨trivial, trivial, ⟨trivial, dT _⟩, trivial⟩, trivial⟩, forall_nil, ⟨dFreeVar _, trivial, trivial⟩, forall_nil⟩
theorem l126L35053 : ∀ qq : Nat, (∀ (p0 : List FreeVar) (p1 : Int) (p2 : Tm) (v37 : Int) (v8 : List FreeVar) (r : List FreeVar × Int), e126L35053 qq p0 p1 p2 v37 v8 = some r → (∀ j, Dl Tryz.prog 0 (inn (inn (rgt (lft (rgt (rgt (rgt (rgt (rgt (bod Tryz.f126)))))))))) (g126L35053E0 j p0 p1 p2 v37 v8) (g126L35053S0 p0 p1 p2 v37 v8) (frameQ Tryz.prog 0 (FinQ Tryz.prog 0 Tryz.f126 (.tup [.sl (flat freeVarL r.1) (List.length r.1) .no, ai r.2]) [] 0) [.blk 0, .seq (rgt (rgt (rgt (rgt (rgt (rgt (bod Tryz.f126)))))))]))) := by
  intro qq
  induction qq with
  | zero =>
    exact fun _ _ _ _ _ _ h => nn h
  | succ qq ih =>
    intro p0 p1 p2 v37 v8 r h
    rw [e126L35053] at h
    rcases spl h with ⟨h20, h⟩ | ⟨h20, h⟩
    · obtain ⟨x21, h22, h⟩ := obind h
      have k := oA 0 (ix42 (o := .no) h22) <| oB 0 h20 o0
      obtain ⟨h23, h⟩ := splT h
      exact fun j => lH 1 [] [0] [0] [1, 5, 8, 35, 36, 37] (oD (dFreeVar p0) <| oD (dFreeVar v8) <| oD (dT p2.sub) <| oB 3 h23 k) (ih _ _ _ _ _ _ h) (fun j => by kernel_rfl)
    · obtain ⟨r29, h30, h⟩ := obind h
      obtain rfl := sj h
      exact fun j => lF 2 [] (oD (dFreeVar r29.1) <| oC 0 [] (c176 h30) <| oB 0 h20 o0) (by kernel_rfl)
theorem c126 {qq : Nat} {p0 : List FreeVar} {p1 : Int} {p2 : Tm} {r : List FreeVar × Int} (h : e126 qq p0 p1 p2 = some r) : CT Tryz.prog 126 [] [.sl (flat freeVarL p0) (List.length p0) .no, ai p1, tmA p2] (.tup [.sl (flat freeVarL r.1) (List.length r.1) .no, ai r.2]) [] 0 := by
  unfold e126 at h
  obtain ⟨r1, h2, h⟩ := obind h
  obtain ⟨h3, h⟩ := splT h
  obtain ⟨r4, h5, h⟩ := obind h
  have k := oK 0 [] h3 (c78 h2) o0
  obtain ⟨h6, h⟩ := splT h
  obtain ⟨r7, h8, h⟩ := obind h
  have k := oC 2 [] (c70 h8) <| oK 2 [] h6 (c51 h5) k
  obtain ⟨h9, h⟩ := splF h
  obtain ⟨r10, h11, h⟩ := obind h
  obtain ⟨r12, h13, h⟩ := obind h
  have k := oC 0 [] (c139 h11) <| oB 0 h9 k
  obtain ⟨h14, h⟩ := splT h
  obtain ⟨r15, h16, h⟩ := obind h
  obtain ⟨r17, h18, h⟩ := obind h
  have k := oC 2 [] (c71 h16) <| oK 0 [] h14 (c91 h13) k
  obtain ⟨h19, h⟩ := splF h
  exact k126 (tH q126 1 [(none, 8, 4)] [0] [0] [1, 5, 8, 35, 36, 37] (oD (dFreeVar p0) <| oD (dFreeVar ([] : List FreeVar)) <| oD (dT p2.sub) <| oK 0 [] h19 (c91 h18) k) (l126L35053 _ _ _ _ _ _ _ h) (fun j => by kernel_rfl))

end Go.Proofs.YtlbmblbeccafcaaGreat

namespace Go.Proofs.YtlbmblbeccafcaaGreat
open Go Go.Ab

/- (*scholium/unify.solver).solve -/
def e83va28761L32894 (qq : Nat) (q0 : List Ent) (q1 : List Ent) (q2 : List Con') (q3 : List Int) (q4 : List Int) (q5 : Int) (q6 : Int) (q9 : Nat) (q10 : Nat) (q11 : Nat) (q12 : Bool) (q13 : List Int) (q14 : Bool) (p1 : Int) (p2 : Tm) (r9 : List FreeVar × Int) (vb0_9 : Int) (vb4_0 : List UnifyEquation) (v94 : Int) : Option (List FreeVar × List UnifySolved × List Int × Bool × Int × List UnifyEquation) :=
  if decide (v94 < 0) = true then
    none
  else
    (gapp 48 ([] : List UnifySolved) [(UnifySolved.mk p1 p2)]) >>= fun l29 =>
    (e125va10557 qq q0 q1 q2 q3 q4 q5 q6 r9.1 vb4_0 q9 q10 q11 q12 l29 q13 q14 vb0_9 1) >>= fun r31 =>
    some (r9.1, l29, r31, q14, vb0_9, vb4_0)
def e83va28761L14918 (qq : Nat) (q0 : List Ent) (q1 : List Ent) (q2 : List Con') (q3 : List Int) (q4 : List Int) (q5 : Int) (q6 : Int) (q9 : Nat) (q10 : Nat) (q11 : Nat) (q12 : Bool) (q13 : List Int) (q14 : Bool) (p1 : Int) (p2 : Tm) (r9 : List FreeVar × Int) (v57 : Int) (vb0_9 : Int) (vb4_0 : List UnifyEquation) : Option (List FreeVar × List UnifySolved × List Int × Bool × Int × List UnifyEquation) :=
  if decide (v57 < (q9 : Int)) = true then
    none
  else
    e83va28761L32894 qq q0 q1 q2 q3 q4 q5 q6 q9 q10 q11 q12 q13 q14 p1 p2 r9 vb0_9 vb4_0 0
def e83va28761 (qq : Nat) (q0 : List Ent) (q1 : List Ent) (q2 : List Con') (q3 : List Int) (q4 : List Int) (q5 : Int) (q6 : Int) (q7 : List FreeVar) (q8 : List UnifyEquation) (q9 : Nat) (q10 : Nat) (q11 : Nat) (q12 : Bool) (q13 : List Int) (q14 : Bool) (q15 : Int) (p1 : Int) (p2 : Tm) : Option (List FreeVar × List UnifySolved × List Int × Bool × Int × List UnifyEquation) :=
  (e124 qq p2 p1) >>= fun r1 =>
  if r1 = true then
    none
  else
    (e126 qq q7 p1 p2) >>= fun r9 =>
    if (r9.2 == 3) = true then
      none
    else
      if (r9.2 != 0) = true then
        none
      else
        e83va28761L14918 qq q0 q1 q2 q3 q4 q5 q6 q9 q10 q11 q12 q13 q14 p1 p2 r9 0 q15 q8
def g83va28761L14918E0 (j : Nat → Value) (q0 : List Ent) (q1 : List Ent) (q2 : List Con') (q3 : List Int) (q4 : List Int) (q5 : Int) (q6 : Int) (q9 : Nat) (q10 : Nat) (q11 : Nat) (q12 : Bool) (q13 : List Int) (q14 : Bool) (p1 : Int) (p2 : Tm) (r9 : List FreeVar × Int) (v57 : Int) (vb0_9 : Int) (vb4_0 : List UnifyEquation) : List AV := sp j 133 0 [(0, .mp 0 0), (1, ai p1), (5, .mp 6 0), (55, .ms 4 (q10 * 6) q9 q11 6), (56, ai (q9 : Int)), (57, ai v57)]
def g83va28761L14918S0 (q0 : List Ent) (q1 : List Ent) (q2 : List Con') (q3 : List Int) (q4 : List Int) (q5 : Int) (q6 : Int) (q9 : Nat) (q10 : Nat) (q11 : Nat) (q12 : Bool) (q13 : List Int) (q14 : Bool) (p1 : Int) (p2 : Tm) (r9 : List FreeVar × Int) (v57 : Int) (vb0_9 : Int) (vb4_0 : List UnifyEquation) : LSt := ⟨[(0, .cells [.mp 1 0, .mp 3 0, .sl (flat freeVarL r9.1) (List.length r9.1) .no, .ms 4 (q10 * 6) q9 q11 6, ab q12, .sl (flat freeVarL ([] : List FreeVar)) (List.length ([] : List FreeVar)) .nl, .sl (flat unifySolvedL ([] : List UnifySolved)) (List.length ([] : List UnifySolved)) .nl, .ms 7 0 (List.length q13) (List.length q13) 1, ab q14, ai vb0_9]), (1, .cells [.sl (flat entL q0) (List.length q0) .no, .mp 2 0, .sl (flat intC q3) (List.length q3) .no, .sl (flat intC q4) (List.length q4) .no]), (2, .cells [.sl (flat entL q1) (List.length q1) .no, .sl (flat conL q2) (List.length q2) .no]), (3, .cells [ai q5, ai q6]), (4, .row (flat unifyEquationL vb4_0)), (5, .dead), (6, .cells [ai p2.k, ai p2.n, .sl (flat tmCells p2.sub) (List.length p2.sub) .no]), (7, .row (flat intC q13))], 8, [], 0, []⟩
def g83va28761L32894E0 (j : Nat → Value) (q0 : List Ent) (q1 : List Ent) (q2 : List Con') (q3 : List Int) (q4 : List Int) (q5 : Int) (q6 : Int) (q9 : Nat) (q10 : Nat) (q11 : Nat) (q12 : Bool) (q13 : List Int) (q14 : Bool) (p1 : Int) (p2 : Tm) (r9 : List FreeVar × Int) (vb0_9 : Int) (vb4_0 : List UnifyEquation) (v94 : Int) : List AV := sp j 133 0 [(0, .mp 0 0), (1, ai p1), (5, .mp 6 0), (92, .sl (flat unifySolvedL ([] : List UnifySolved)) (List.length ([] : List UnifySolved)) .nl), (93, ai 0), (94, ai v94)]
def g83va28761L32894S0 (q0 : List Ent) (q1 : List Ent) (q2 : List Con') (q3 : List Int) (q4 : List Int) (q5 : Int) (q6 : Int) (q9 : Nat) (q10 : Nat) (q11 : Nat) (q12 : Bool) (q13 : List Int) (q14 : Bool) (p1 : Int) (p2 : Tm) (r9 : List FreeVar × Int) (vb0_9 : Int) (vb4_0 : List UnifyEquation) (v94 : Int) : LSt := ⟨[(0, .cells [.mp 1 0, .mp 3 0, .sl (flat freeVarL r9.1) (List.length r9.1) .no, .ms 4 (q10 * 6) q9 q11 6, ab q12, .sl (flat freeVarL ([] : List FreeVar)) (List.length ([] : List FreeVar)) .nl, .sl (flat unifySolvedL ([] : List UnifySolved)) (List.length ([] : List UnifySolved)) .nl, .ms 7 0 (List.length q13) (List.length q13) 1, ab q14, ai vb0_9]), (1, .cells [.sl (flat entL q0) (List.length q0) .no, .mp 2 0, .sl (flat intC q3) (List.length q3) .no, .sl (flat intC q4) (List.length q4) .no]), (2, .cells [.sl (flat entL q1) (List.length q1) .no, .sl (flat conL q2) (List.length q2) .no]), (3, .cells [ai q5, ai q6]), (4, .row (flat unifyEquationL vb4_0)), (5, .dead), (6, .cells [ai p2.k, ai p2.n, .sl (flat tmCells p2.sub) (List.length p2.sub) .no]), (7, .row (flat intC q13))], 8, [], 0, []⟩
theorem q83va28761 : Tryz.prog.funcs[83]? = some Tryz.f83 ∧ Tryz.f83.body.isNone = false := ⟨Tryz.func83, by kernel_rfl⟩
theorem k83va28761 {q0 : List Ent} {q1 : List Ent} {q2 : List Con'} {q3 : List Int} {q4 : List Int} {q5 : Int} {q6 : Int} {q7 : List FreeVar} {q8 : List UnifyEquation} {q9 : Nat} {q10 : Nat} {q11 : Nat} {q12 : Bool} {q13 : List Int} {q14 : Bool} {q15 : Int} {p1 : Int} {p2 : Tm} {r : List FreeVar × List UnifySolved × List Int × Bool × Int × List UnifyEquation} (h : CTri Tryz.prog 83 [.cells [.mp 1 0, .mp 3 0, .sl (flat freeVarL q7) (List.length q7) .no, .ms 4 (q10 * 6) q9 q11 6, ab q12, .sl (flat freeVarL ([] : List FreeVar)) (List.length ([] : List FreeVar)) .nl, .sl (flat unifySolvedL ([] : List UnifySolved)) (List.length ([] : List UnifySolved)) .nl, .ms 5 0 (List.length q13) (List.length q13) 1, ab q14, ai q15], .cells [.sl (flat entL q0) (List.length q0) .no, .mp 2 0, .sl (flat intC q3) (List.length q3) .no, .sl (flat intC q4) (List.length q4) .no], .cells [.sl (flat entL q1) (List.length q1) .no, .sl (flat conL q2) (List.length q2) .no], .cells [ai q5, ai q6], .row (flat unifyEquationL q8), .row (flat intC q13)] [.mp 0 0, ai p1, tmA p2] (.tup []) [.cells [.mp 1 0, .mp 3 0, .sl (flat freeVarL r.1) (List.length r.1) .no, .ms 4 (q10 * 6) q9 q11 6, ab q12, .sl (flat freeVarL ([] : List FreeVar)) (List.length ([] : List FreeVar)) .nl, .ms 6 0 (List.length r.2.1) (List.length r.2.1) 4, .ms 7 0 (List.length r.2.2.1) (List.length r.2.2.1) 1, ab r.2.2.2.1, ai r.2.2.2.2.1], .cells [.sl (flat entL q0) (List.length q0) .no, .mp 2 0, .sl (flat intC q3) (List.length q3) .no, .sl (flat intC q4) (List.length q4) .no], .cells [.sl (flat entL q1) (List.length q1) .no, .sl (flat conL q2) (List.length q2) .no], .cells [ai q5, ai q6], .row (flat unifyEquationL r.2.2.2.2.2), .dead, .row (flat unifySolvedL r.2.1), .row (flat intC r.2.2.1)] 0) : CT Tryz.prog 83 [.cells [.mp 1 0, .mp 3 0, .sl (flat freeVarL q7) (List.length q7) .no, .ms 4 (q10 * 6) q9 q11 6, ab q12, .sl (flat freeVarL ([] : List FreeVar)) (List.length ([] : List FreeVar)) .nl, .sl (flat unifySolvedL ([] : List UnifySolved)) (List.length ([] : List UnifySolved)) .nl, .ms 5 0 (List.length q13) (List.length q13) 1, ab q14, ai q15], .cells [.sl (flat entL q0) (List.length q0) .no, .mp 2 0, .sl (flat intC q3) (List.length q3) .no, .sl (flat intC q4) (List.length q4) .no], .cells [.sl (flat entL q1) (List.length q1) .no, .sl (flat conL q2) (List.length q2) .no], .cells [ai q5, ai q6], .row (flat unifyEquationL q8), .row (flat intC q13)] [.mp 0 0, ai p1, tmA p2] (.tup []) [.cells [.mp 1 0, .mp 3 0, .sl (flat freeVarL r.1) (List.length r.1) .no, .ms 4 (q10 * 6) q9 q11 6, ab q12, .sl (flat freeVarL ([] : List FreeVar)) (List.length ([] : List FreeVar)) .nl, .ms 6 0 (List.length r.2.1) (List.length r.2.1) 4, .ms 7 0 (List.length r.2.2.1) (List.length r.2.2.1) 1, ab r.2.2.2.1, ai r.2.2.2.2.1], .cells [.sl (flat entL q0) (List.length q0) .no, .mp 2 0, .sl (flat intC q3) (List.length q3) .no, .sl (flat intC q4) (List.length q4) .no], .cells [.sl (flat entL q1) (List.length q1) .no, .sl (flat conL q2) (List.length q2) .no], .cells [ai q5, ai q6], .row (flat unifyEquationL r.2.2.2.2.2), .dead, .row (flat unifySolvedL r.2.1), .row (flat intC r.2.2.1)] 0 := ⟨h, ⟨(show 0 < 6 by decide), trivial, ⟨trivial, trivial, ⟨trivial, dT _⟩, trivial⟩, trivial⟩, (forall_cons ⟨(show 1 < 6 by decide), (show 3 < 6 by decide), ⟨trivial, dFreeVar _⟩, (show 4 < 6 by decide), trivial, ⟨trivial, dFreeVar _⟩, ⟨trivial, dUnifySolved _⟩, (show 5 < 6 by decide), trivial, trivial, trivial⟩ (forall_cons ⟨⟨trivial, dE _⟩, (show 2 < 6 by decide), ⟨trivial, dI _⟩, ⟨trivial, dI _⟩, trivial⟩ (forall_cons ⟨⟨trivial, dE _⟩, ⟨trivial, dC _⟩, trivial⟩ (forall_cons ⟨trivial, trivial, trivial⟩ (forall_cons (dUnifyEquation _) (forall_cons (dI _) forall_nil)))))), trivial, (forall_cons ⟨(show 1 < 8 by decide), (show 3 < 8 by decide), dFreeVar _, (show 4 < 8 by decide), trivial, dFreeVar _, (show 6 < 8 by decide), (show 7 < 8 by decide), trivial, trivial, trivial⟩ (forall_cons ⟨dE _, (show 2 < 8 by decide), dI _, dI _, trivial⟩ (forall_cons ⟨dE _, dC _, trivial⟩ (forall_cons ⟨trivial, trivial, trivial⟩ (forall_cons (dUnifyEquation _) (forall_cons trivial (forall_cons (dUnifySolved _) (forall_cons (dI _) forall_nil))))))))⟩
theorem l83va28761L32894 (qq : Nat) (q0 : List Ent) (q1 : List Ent) (q2 : List Con') (q3 : List Int) (q4 : List Int) (q5 : Int) (q6 : Int) (q9 : Nat) (q10 : Nat) (q11 : Nat) (q12 : Bool) (q13 : List Int) (q14 : Bool) (p1 : Int) (p2 : Tm) (r9 : List FreeVar × Int) (vb0_9 : Int) (vb4_0 : List UnifyEquation) (v94 : Int) (r : List FreeVar × List UnifySolved × List Int × Bool × Int × List UnifyEquation) (h : e83va28761L32894 qq q0 q1 q2 q3 q4 q5 q6 q9 q10 q11 q12 q13 q14 p1 p2 r9 vb0_9 vb4_0 v94 = some r) : (∀ j, Dl Tryz.prog 6 (inn (inn (rgt (lft (rgt (rgt (rgt (rgt (rgt (rgt (rgt (bod Tryz.f83)))))))))))) (g83va28761L32894E0 j q0 q1 q2 q3 q4 q5 q6 q9 q10 q11 q12 q13 q14 p1 p2 r9 vb0_9 vb4_0 v94) (g83va28761L32894S0 q0 q1 q2 q3 q4 q5 q6 q9 q10 q11 q12 q13 q14 p1 p2 r9 vb0_9 vb4_0 v94) (frameQ Tryz.prog 6 (FinQ Tryz.prog 6 Tryz.f83 (.tup []) [.cells [.mp 1 0, .mp 3 0, .sl (flat freeVarL r.1) (List.length r.1) .no, .ms 4 (q10 * 6) q9 q11 6, ab q12, .sl (flat freeVarL ([] : List FreeVar)) (List.length ([] : List FreeVar)) .nl, .ms 6 0 (List.length r.2.1) (List.length r.2.1) 4, .ms 7 0 (List.length r.2.2.1) (List.length r.2.2.1) 1, ab r.2.2.2.1, ai r.2.2.2.2.1], .cells [.sl (flat entL q0) (List.length q0) .no, .mp 2 0, .sl (flat intC q3) (List.length q3) .no, .sl (flat intC q4) (List.length q4) .no], .cells [.sl (flat entL q1) (List.length q1) .no, .sl (flat conL q2) (List.length q2) .no], .cells [ai q5, ai q6], .row (flat unifyEquationL r.2.2.2.2.2), .dead, .row (flat unifySolvedL r.2.1), .row (flat intC r.2.2.1)] 0) [.blk 2, .seq (rgt (rgt (rgt (rgt (rgt (rgt (rgt (rgt (bod Tryz.f83)))))))))])) := by
  unfold e83va28761L32894 at h
  obtain ⟨h28, h⟩ := splF h
  obtain ⟨l29, h30, h⟩ := obind h
  obtain ⟨r31, h32, h⟩ := obind h
  obtain rfl := sj h
  exact fun j => lG 0 [] [0, 1, 2, 3, 4, 5, 8, 9] [] true (oD (dI r31) <| oD (dUnifySolved l29) <| oD (dUnifyEquation vb4_0) <| oD (dC q2) <| oD (dE q1) <| oD (dI q4) <| oD (dI q3) <| oD (dE q0) <| oD (dFreeVar ([] : List FreeVar)) <| oD (dFreeVar r9.1) <| oC 1 [0, 1, 2, 3, 4, 8, 7] (c125va10557 h32) <| oM 3 (apW53 h30 (by simp)) <| oB 0 h28 o0) (by kernel_rfl) (by decide)
theorem l83va28761L14918 (qq : Nat) (q0 : List Ent) (q1 : List Ent) (q2 : List Con') (q3 : List Int) (q4 : List Int) (q5 : Int) (q6 : Int) (q9 : Nat) (q10 : Nat) (q11 : Nat) (q12 : Bool) (q13 : List Int) (q14 : Bool) (p1 : Int) (p2 : Tm) (r9 : List FreeVar × Int) (v57 : Int) (vb0_9 : Int) (vb4_0 : List UnifyEquation) (r : List FreeVar × List UnifySolved × List Int × Bool × Int × List UnifyEquation) (h : e83va28761L14918 qq q0 q1 q2 q3 q4 q5 q6 q9 q10 q11 q12 q13 q14 p1 p2 r9 v57 vb0_9 vb4_0 = some r) : (∀ j, Dl Tryz.prog 6 (inn (inn (rgt (lft (rgt (rgt (rgt (rgt (rgt (rgt (bod Tryz.f83))))))))))) (g83va28761L14918E0 j q0 q1 q2 q3 q4 q5 q6 q9 q10 q11 q12 q13 q14 p1 p2 r9 v57 vb0_9 vb4_0) (g83va28761L14918S0 q0 q1 q2 q3 q4 q5 q6 q9 q10 q11 q12 q13 q14 p1 p2 r9 v57 vb0_9 vb4_0) (frameQ Tryz.prog 6 (FinQ Tryz.prog 6 Tryz.f83 (.tup []) [.cells [.mp 1 0, .mp 3 0, .sl (flat freeVarL r.1) (List.length r.1) .no, .ms 4 (q10 * 6) q9 q11 6, ab q12, .sl (flat freeVarL ([] : List FreeVar)) (List.length ([] : List FreeVar)) .nl, .ms 6 0 (List.length r.2.1) (List.length r.2.1) 4, .ms 7 0 (List.length r.2.2.1) (List.length r.2.2.1) 1, ab r.2.2.2.1, ai r.2.2.2.2.1], .cells [.sl (flat entL q0) (List.length q0) .no, .mp 2 0, .sl (flat intC q3) (List.length q3) .no, .sl (flat intC q4) (List.length q4) .no], .cells [.sl (flat entL q1) (List.length q1) .no, .sl (flat conL q2) (List.length q2) .no], .cells [ai q5, ai q6], .row (flat unifyEquationL r.2.2.2.2.2), .dead, .row (flat unifySolvedL r.2.1), .row (flat intC r.2.2.1)] 0) [.blk 0, .seq (rgt (rgt (rgt (rgt (rgt (rgt (rgt (bod Tryz.f83))))))))])) := by
  unfold e83va28761L14918 at h
  obtain ⟨h13, h⟩ := splF h
  exact fun j => lH 2 [] [0, 1, 2, 3, 4, 5, 6, 7] [] [0, 1, 5, 92, 93, 94] (oD (dUnifySolved ([] : List UnifySolved)) <| oD (dI q13) <| oD (dT p2.sub) <| oD (dUnifyEquation vb4_0) <| oD (dC q2) <| oD (dE q1) <| oD (dI q4) <| oD (dI q3) <| oD (dE q0) <| oD (dUnifySolved ([] : List UnifySolved)) <| oD (dFreeVar ([] : List FreeVar)) <| oD (dFreeVar r9.1) <| oB 0 h13 o0) (l83va28761L32894 qq _ _ _ _ _ _ _ _ _ _ _ _ _ _ _ _ _ _ _ _ h) (fun j => by kernel_rfl)
theorem c83va28761 {qq : Nat} {q0 : List Ent} {q1 : List Ent} {q2 : List Con'} {q3 : List Int} {q4 : List Int} {q5 : Int} {q6 : Int} {q7 : List FreeVar} {q8 : List UnifyEquation} {q9 : Nat} {q10 : Nat} {q11 : Nat} {q12 : Bool} {q13 : List Int} {q14 : Bool} {q15 : Int} {p1 : Int} {p2 : Tm} {r : List FreeVar × List UnifySolved × List Int × Bool × Int × List UnifyEquation} (h : e83va28761 qq q0 q1 q2 q3 q4 q5 q6 q7 q8 q9 q10 q11 q12 q13 q14 q15 p1 p2 = some r) : CT Tryz.prog 83 [.cells [.mp 1 0, .mp 3 0, .sl (flat freeVarL q7) (List.length q7) .no, .ms 4 (q10 * 6) q9 q11 6, ab q12, .sl (flat freeVarL ([] : List FreeVar)) (List.length ([] : List FreeVar)) .nl, .sl (flat unifySolvedL ([] : List UnifySolved)) (List.length ([] : List UnifySolved)) .nl, .ms 5 0 (List.length q13) (List.length q13) 1, ab q14, ai q15], .cells [.sl (flat entL q0) (List.length q0) .no, .mp 2 0, .sl (flat intC q3) (List.length q3) .no, .sl (flat intC q4) (List.length q4) .no], .cells [.sl (flat entL q1) (List.length q1) .no, .sl (flat conL q2) (List.length q2) .no], .cells [ai q5, ai q6], .row (flat unifyEquationL q8), .row (flat intC q13)] [.mp 0 0, ai p1, tmA p2] (.tup []) [.cells [.mp 1 0, .mp 3 0, .sl (flat freeVarL r.1) (List.length r.1) .no, .ms 4 (q10 * 6) q9 q11 6, ab q12, .sl (flat freeVarL ([] : List FreeVar)) (List.length ([] : List FreeVar)) .nl, .ms 6 0 (List.length r.2.1) (List.length r.2.1) 4, .ms 7 0 (List.length r.2.2.1) (List.length r.2.2.1) 1, ab r.2.2.2.1, ai r.2.2.2.2.1], .cells [.sl (flat entL q0) (List.length q0) .no, .mp 2 0, .sl (flat intC q3) (List.length q3) .no, .sl (flat intC q4) (List.length q4) .no], .cells [.sl (flat entL q1) (List.length q1) .no, .sl (flat conL q2) (List.length q2) .no], .cells [ai q5, ai q6], .row (flat unifyEquationL r.2.2.2.2.2), .dead, .row (flat unifySolvedL r.2.1), .row (flat intC r.2.2.1)] 0 := by
  unfold e83va28761 at h
  obtain ⟨r1, h2, h⟩ := obind h
  obtain ⟨h3, h⟩ := splF h
  obtain ⟨r9, h10, h⟩ := obind h
  have k := oC 2 [] (c126 h10) <| oK 1 [] h3 (c124 h2) o0
  obtain ⟨h11, h⟩ := splF h
  have k := oB 2 h11 k
  obtain ⟨h12, h⟩ := splF h
  exact k83va28761 (tH q83va28761 3 [(some 5, 0, 0)] [0, 1, 2, 3, 4, 5, 6, 7] [] [0, 1, 5, 55, 56, 57] (oD (dI q13) <| oD (dT p2.sub) <| oD (dUnifyEquation q8) <| oD (dC q2) <| oD (dE q1) <| oD (dI q4) <| oD (dI q3) <| oD (dE q0) <| oD (dUnifySolved ([] : List UnifySolved)) <| oD (dFreeVar ([] : List FreeVar)) <| oD (dFreeVar r9.1) <| oB 0 h12 k) (l83va28761L14918 qq _ _ _ _ _ _ _ _ _ _ _ _ _ _ _ _ _ _ _ _ h) (fun j => by kernel_rfl))

end Go.Proofs.YtlbmblbeccafcaaGreat

namespace Go.Proofs.YtlbmblbeccafcaaGreat
open Go Go.Ab

/- (*scholium/unify.solver).next -/
def e49va65079 (qq : Nat) (q0 : List Ent) (q1 : List Ent) (q2 : List Con') (q3 : List Int) (q4 : List Int) (q5 : Int) (q6 : Int) (q7 : List FreeVar) (q8 : List UnifyEquation) (q9 : Nat) (q10 : Nat) (q11 : Nat) (q12 : Bool) (q13 : List Int) (q14 : Bool) (q15 : Int) : Option (List FreeVar × List UnifyEquation × Nat × Nat × Nat × List UnifySolved × List Int × Bool × Int × Int × Int) :=
  (gchk q9 0) >>= fun x1 =>
  (gidx q8 ((q10 + x1) : Int)) >>= fun x3 =>
  (gcut q9 1 (q9 : Int)) >>= fun x5 =>
  (e80 qq q5 q6) >>= fun r7 =>
  if (r7.1 != 0) = true then
    none
  else
    (e75 qq (Mach.mk q0 q1 q2 q3 q4) x3.a_ r7.2.1 r7.2.2) >>= fun r10 =>
    (e81va58521 qq q0 q1 q2 q3 q4 r10.2.2.1 r10.2.2.2 q7 q8 x5.2 (q10 + x5.1) (q11 - x5.1) q12 q13 q14 q15 r10.1 r10.2.1) >>= fun r12 =>
    if (r12.2 != 0) = true then
      none
    else
      (e75 qq (Mach.mk q0 q1 q2 q3 q4) x3.b_ r10.2.2.1 r10.2.2.2) >>= fun r15 =>
      (e81va58521 qq q0 q1 q2 q3 q4 r15.2.2.1 r15.2.2.2 q7 q8 x5.2 (q10 + x5.1) (q11 - x5.1) q12 q13 q14 r12.2 r15.1 r15.2.1) >>= fun r17 =>
      if (r17.2 != 0) = true then
        none
      else
        (e82va31404 qq q0 q1 q2 q3 q4 r15.2.2.1 r15.2.2.2 q7 q8 x5.2 (q10 + x5.1) (q11 - x5.1) q12 q13 q14 r17.2 r12.1) >>= fun r20 =>
        (e82va31404 qq q0 q1 q2 q3 q4 r15.2.2.1 r15.2.2.2 q7 q8 x5.2 (q10 + x5.1) (q11 - x5.1) q12 q13 q14 r17.2 r17.1) >>= fun r22 =>
        if decide (r20 ≥ 0) = true then
          if (r20 == r22) = true then
            none
          else
            (e83va28761 qq q0 q1 q2 q3 q4 r15.2.2.1 r15.2.2.2 q7 q8 x5.2 (q10 + x5.1) (q11 - x5.1) q12 q13 q14 r17.2 r20 r17.1) >>= fun r26 =>
            some (r26.1, r26.2.2.2.2.2, x5.2, (q10 + x5.1), (q11 - x5.1), r26.2.1, r26.2.2.1, r26.2.2.2.1, r26.2.2.2.2.1, r15.2.2.1, r15.2.2.2)
        else
          none
theorem q49va65079 : Tryz.prog.funcs[49]? = some Tryz.f49 ∧ Tryz.f49.body.isNone = false := ⟨Tryz.func49, by kernel_rfl⟩
theorem k49va65079 {q0 : List Ent} {q1 : List Ent} {q2 : List Con'} {q3 : List Int} {q4 : List Int} {q5 : Int} {q6 : Int} {q7 : List FreeVar} {q8 : List UnifyEquation} {q9 : Nat} {q10 : Nat} {q11 : Nat} {q12 : Bool} {q13 : List Int} {q14 : Bool} {q15 : Int} {r : List FreeVar × List UnifyEquation × Nat × Nat × Nat × List UnifySolved × List Int × Bool × Int × Int × Int} (h : CTri Tryz.prog 49 [.cells [.mp 1 0, .mp 3 0, .sl (flat freeVarL q7) (List.length q7) .no, .ms 4 (q10 * 6) q9 q11 6, ab q12, .sl (flat freeVarL ([] : List FreeVar)) (List.length ([] : List FreeVar)) .nl, .sl (flat unifySolvedL ([] : List UnifySolved)) (List.length ([] : List UnifySolved)) .nl, .ms 5 0 (List.length q13) (List.length q13) 1, ab q14, ai q15], .cells [.sl (flat entL q0) (List.length q0) .no, .mp 2 0, .sl (flat intC q3) (List.length q3) .no, .sl (flat intC q4) (List.length q4) .no], .cells [.sl (flat entL q1) (List.length q1) .no, .sl (flat conL q2) (List.length q2) .no], .cells [ai q5, ai q6], .row (flat unifyEquationL q8), .row (flat intC q13)] [.mp 0 0] (.tup []) [.cells [.mp 1 0, .mp 3 0, .sl (flat freeVarL r.1) (List.length r.1) .no, .ms 4 (r.2.2.2.1 * 6) r.2.2.1 r.2.2.2.2.1 6, ab q12, .sl (flat freeVarL ([] : List FreeVar)) (List.length ([] : List FreeVar)) .nl, .ms 6 0 (List.length r.2.2.2.2.2.1) (List.length r.2.2.2.2.2.1) 4, .ms 7 0 (List.length r.2.2.2.2.2.2.1) (List.length r.2.2.2.2.2.2.1) 1, ab r.2.2.2.2.2.2.2.1, ai r.2.2.2.2.2.2.2.2.1], .cells [.sl (flat entL q0) (List.length q0) .no, .mp 2 0, .sl (flat intC q3) (List.length q3) .no, .sl (flat intC q4) (List.length q4) .no], .cells [.sl (flat entL q1) (List.length q1) .no, .sl (flat conL q2) (List.length q2) .no], .cells [ai r.2.2.2.2.2.2.2.2.2.1, ai r.2.2.2.2.2.2.2.2.2.2], .row (flat unifyEquationL r.2.1), .dead, .row (flat unifySolvedL r.2.2.2.2.2.1), .row (flat intC r.2.2.2.2.2.2.1)] 0) : CT Tryz.prog 49 [.cells [.mp 1 0, .mp 3 0, .sl (flat freeVarL q7) (List.length q7) .no, .ms 4 (q10 * 6) q9 q11 6, ab q12, .sl (flat freeVarL ([] : List FreeVar)) (List.length ([] : List FreeVar)) .nl, .sl (flat unifySolvedL ([] : List UnifySolved)) (List.length ([] : List UnifySolved)) .nl, .ms 5 0 (List.length q13) (List.length q13) 1, ab q14, ai q15], .cells [.sl (flat entL q0) (List.length q0) .no, .mp 2 0, .sl (flat intC q3) (List.length q3) .no, .sl (flat intC q4) (List.length q4) .no], .cells [.sl (flat entL q1) (List.length q1) .no, .sl (flat conL q2) (List.length q2) .no], .cells [ai q5, ai q6], .row (flat unifyEquationL q8), .row (flat intC q13)] [.mp 0 0] (.tup []) [.cells [.mp 1 0, .mp 3 0, .sl (flat freeVarL r.1) (List.length r.1) .no, .ms 4 (r.2.2.2.1 * 6) r.2.2.1 r.2.2.2.2.1 6, ab q12, .sl (flat freeVarL ([] : List FreeVar)) (List.length ([] : List FreeVar)) .nl, .ms 6 0 (List.length r.2.2.2.2.2.1) (List.length r.2.2.2.2.2.1) 4, .ms 7 0 (List.length r.2.2.2.2.2.2.1) (List.length r.2.2.2.2.2.2.1) 1, ab r.2.2.2.2.2.2.2.1, ai r.2.2.2.2.2.2.2.2.1], .cells [.sl (flat entL q0) (List.length q0) .no, .mp 2 0, .sl (flat intC q3) (List.length q3) .no, .sl (flat intC q4) (List.length q4) .no], .cells [.sl (flat entL q1) (List.length q1) .no, .sl (flat conL q2) (List.length q2) .no], .cells [ai r.2.2.2.2.2.2.2.2.2.1, ai r.2.2.2.2.2.2.2.2.2.2], .row (flat unifyEquationL r.2.1), .dead, .row (flat unifySolvedL r.2.2.2.2.2.1), .row (flat intC r.2.2.2.2.2.2.1)] 0 := ⟨h, ⟨(show 0 < 6 by decide), trivial⟩, (forall_cons ⟨(show 1 < 6 by decide), (show 3 < 6 by decide), ⟨trivial, dFreeVar _⟩, (show 4 < 6 by decide), trivial, ⟨trivial, dFreeVar _⟩, ⟨trivial, dUnifySolved _⟩, (show 5 < 6 by decide), trivial, trivial, trivial⟩ (forall_cons ⟨⟨trivial, dE _⟩, (show 2 < 6 by decide), ⟨trivial, dI _⟩, ⟨trivial, dI _⟩, trivial⟩ (forall_cons ⟨⟨trivial, dE _⟩, ⟨trivial, dC _⟩, trivial⟩ (forall_cons ⟨trivial, trivial, trivial⟩ (forall_cons (dUnifyEquation _) (forall_cons (dI _) forall_nil)))))), trivial, (forall_cons ⟨(show 1 < 8 by decide), (show 3 < 8 by decide), dFreeVar _, (show 4 < 8 by decide), trivial, dFreeVar _, (show 6 < 8 by decide), (show 7 < 8 by decide), trivial, trivial, trivial⟩ (forall_cons ⟨dE _, (show 2 < 8 by decide), dI _, dI _, trivial⟩ (forall_cons ⟨dE _, dC _, trivial⟩ (forall_cons ⟨trivial, trivial, trivial⟩ (forall_cons (dUnifyEquation _) (forall_cons trivial (forall_cons (dUnifySolved _) (forall_cons (dI _) forall_nil))))))))⟩
theorem c49va65079 {qq : Nat} {q0 : List Ent} {q1 : List Ent} {q2 : List Con'} {q3 : List Int} {q4 : List Int} {q5 : Int} {q6 : Int} {q7 : List FreeVar} {q8 : List UnifyEquation} {q9 : Nat} {q10 : Nat} {q11 : Nat} {q12 : Bool} {q13 : List Int} {q14 : Bool} {q15 : Int} {r : List FreeVar × List UnifyEquation × Nat × Nat × Nat × List UnifySolved × List Int × Bool × Int × Int × Int} (h : e49va65079 qq q0 q1 q2 q3 q4 q5 q6 q7 q8 q9 q10 q11 q12 q13 q14 q15 = some r) : CT Tryz.prog 49 [.cells [.mp 1 0, .mp 3 0, .sl (flat freeVarL q7) (List.length q7) .no, .ms 4 (q10 * 6) q9 q11 6, ab q12, .sl (flat freeVarL ([] : List FreeVar)) (List.length ([] : List FreeVar)) .nl, .sl (flat unifySolvedL ([] : List UnifySolved)) (List.length ([] : List UnifySolved)) .nl, .ms 5 0 (List.length q13) (List.length q13) 1, ab q14, ai q15], .cells [.sl (flat entL q0) (List.length q0) .no, .mp 2 0, .sl (flat intC q3) (List.length q3) .no, .sl (flat intC q4) (List.length q4) .no], .cells [.sl (flat entL q1) (List.length q1) .no, .sl (flat conL q2) (List.length q2) .no], .cells [ai q5, ai q6], .row (flat unifyEquationL q8), .row (flat intC q13)] [.mp 0 0] (.tup []) [.cells [.mp 1 0, .mp 3 0, .sl (flat freeVarL r.1) (List.length r.1) .no, .ms 4 (r.2.2.2.1 * 6) r.2.2.1 r.2.2.2.2.1 6, ab q12, .sl (flat freeVarL ([] : List FreeVar)) (List.length ([] : List FreeVar)) .nl, .ms 6 0 (List.length r.2.2.2.2.2.1) (List.length r.2.2.2.2.2.1) 4, .ms 7 0 (List.length r.2.2.2.2.2.2.1) (List.length r.2.2.2.2.2.2.1) 1, ab r.2.2.2.2.2.2.2.1, ai r.2.2.2.2.2.2.2.2.1], .cells [.sl (flat entL q0) (List.length q0) .no, .mp 2 0, .sl (flat intC q3) (List.length q3) .no, .sl (flat intC q4) (List.length q4) .no], .cells [.sl (flat entL q1) (List.length q1) .no, .sl (flat conL q2) (List.length q2) .no], .cells [ai r.2.2.2.2.2.2.2.2.2.1, ai r.2.2.2.2.2.2.2.2.2.2], .row (flat unifyEquationL r.2.1), .dead, .row (flat unifySolvedL r.2.2.2.2.2.1), .row (flat intC r.2.2.2.2.2.2.1)] 0 := by
  unfold e49va65079 at h
  obtain ⟨x1, h2, h⟩ := obind h
  obtain ⟨x3, h4, h⟩ := obind h
  obtain ⟨x5, h6, h⟩ := obind h
  obtain ⟨r7, h8, h⟩ := obind h
  have k := oC 2 [3] (c80 h8) <| oA 2 (slMFrom104 (b := 4) (o := q10) (c := q11) h6) <| oG (a := (.agg [ai x3.a_.k, ai x3.a_.n, .sl (flat tmCells x3.a_.sub) (List.length x3.a_.sub) .no, ai x3.b_.k, ai x3.b_.n, .sl (flat tmCells x3.b_.sub) (List.length x3.b_.sub) .no])) 0 (ldE codecUnifyEquation h4 (true, 6) (val := .agg [ai x3.a_.k, ai x3.a_.n, .sl (flat tmCells x3.a_.sub) (List.length x3.a_.sub) .no, ai x3.b_.k, ai x3.b_.n, .sl (flat tmCells x3.b_.sub) (List.length x3.b_.sub) .no]) rfl) <| oA 1 (ixN104 (b := 4) (o := q10) (c := q11) (z := 6) h2) o0
  obtain ⟨h9, h⟩ := splF h
  obtain ⟨r10, h11, h⟩ := obind h
  obtain ⟨r12, h13, h⟩ := obind h
  have k := oC 2 [0, 1, 2, 3, 4, 5] (c81va58521 h13) <| oC 3 [1, 2, 3] (c75 h11) <| oB 0 h9 k
  obtain ⟨h14, h⟩ := splF h
  obtain ⟨r15, h16, h⟩ := obind h
  obtain ⟨r17, h18, h⟩ := obind h
  have k := oC 2 [0, 1, 2, 3, 4, 5] (c81va58521 h18) <| oC 3 [1, 2, 3] (c75 h16) <| oB 2 h14 k
  obtain ⟨h19, h⟩ := splF h
  obtain ⟨r20, h21, h⟩ := obind h
  obtain ⟨r22, h23, h⟩ := obind h
  have k := oC 1 [0, 1, 2, 3, 4, 5] (c82va31404 h23) <| oC 1 [0, 1, 2, 3, 4, 5] (c82va31404 h21) <| oB 2 h19 k
  obtain ⟨h24, h⟩ := splT h
  have k := oB 0 h24 k
  obtain ⟨h25, h⟩ := splF h
  obtain ⟨r26, h27, h⟩ := obind h
  obtain rfl := sj h
  exact k49va65079 (tG q49va65079 0 [] [0, 1, 2, 3, 4, 5, 7, 8] [] true (oD (dI r26.2.2.1) <| oD (dUnifySolved r26.2.1) <| oD (dUnifyEquation r26.2.2.2.2.2) <| oD (dC q2) <| oD (dE q1) <| oD (dI q4) <| oD (dI q3) <| oD (dE q0) <| oD (dFreeVar ([] : List FreeVar)) <| oD (dFreeVar r26.1) <| oC 1 [0, 1, 2, 3, 4, 5] (c83va28761 h27) <| oB 0 h24 <| oB 0 h25 k) (by kernel_rfl) (by decide))

end Go.Proofs.YtlbmblbeccafcaaGreat

namespace Go.Proofs.YtlbmblbeccafcaaGreat
open Go Go.Ab

/- scholium/unify.Solve -/
def e17L28815 : Nat → Mach → Int → Int → (List FreeVar) → Nat → Nat → Nat → Bool → Int → (List UnifyEquation) → Nat → Nat → (List Int) → Int → (List UnifySolved) →  Option ((UnifyAnswer × Int × Int × Int) ⊕ (List FreeVar × List UnifySolved × Nat × Nat × List Int × Int × Int × Int))
  | 0, _, _, _, _, _, _, _, _, _, _, _, _, _, _, _ => none
  | qq + 1, M, vb2_0, vb2_1, vb4_2, vb4_3_c, vb4_3_n, vb4_3_o, vb4_8, vb4_9, vb5_0, vb4_6_c, vb4_6_n, vb7_0, v109, vb5_0z =>
    if decide (v109 < (vb4_6_n : Int)) = true then
      (gchk vb4_6_n v109) >>= fun x39 =>
      (gidx vb5_0z (x39 : Int)) >>= fun x41 =>
      (e50 qq x41.t_) >>= fun r43 =>
      (gidx vb5_0z (x39 : Int)) >>= fun x45 =>
      (gset vb5_0z x39 (UnifySolved.mk x45.n_ r43)) >>= fun l47 =>
      e17L28815 qq M vb2_0 vb2_1 vb4_2 vb4_3_c vb4_3_n vb4_3_o vb4_8 vb4_9 vb5_0 vb4_6_c vb4_6_n vb7_0 (w64 (v109 + 1)) l47
    else
      some (Sum.inr ([], vb5_0z, vb4_6_n, vb4_6_c, vb7_0, 0, vb2_0, vb2_1))
def e17L4589 (qq : Nat) (M : Mach) (vb2_0 : Int) (vb2_1 : Int) (vb4_2 : List FreeVar) (vb4_3_c : Nat) (vb4_3_n : Nat) (vb4_3_o : Nat) (vb4_8 : Bool) (vb4_9 : Int) (vb5_0 : List UnifyEquation) (vb6_0 : List UnifySolved) (vb4_6_c : Nat) (vb4_6_n : Nat) (vb7_0 : List Int) (v81 : Int) : Option ((UnifyAnswer × Int × Int × Int) ⊕ (List FreeVar × List UnifySolved × Nat × Nat × List Int × Int × Int × Int)) :=
  if decide (v81 < (List.length vb4_2 : Int)) = true then
    none
  else
    e17L28815 qq M vb2_0 vb2_1 vb4_2 vb4_3_c vb4_3_n vb4_3_o vb4_8 vb4_9 vb5_0 vb4_6_c vb4_6_n vb7_0 0 vb6_0
def e17L22204 (qq : Nat) (M : Mach) (vb2_0 : Int) (vb2_1 : Int) (vb4_2 : List FreeVar) (vb4_3_c : Nat) (vb4_3_n : Nat) (vb4_3_o : Nat) (vb4_6_c : Nat) (vb4_6_n : Nat) (vb4_8 : Bool) (vb4_9 : Int) (vb5_0 : List UnifyEquation) (vb6_0 : List UnifySolved) (vb7_0 : List Int) : Option ((UnifyAnswer × Int × Int × Int) ⊕ (List FreeVar × List UnifySolved × Nat × Nat × List Int × Int × Int × Int)) :=
  if decide ((vb4_3_n : Int) > 0) = true then
    none
  else
    if (vb4_9 != 0) = true then
      none
    else
      if vb4_8 = true then
        none
      else
        e17L4589 qq M vb2_0 vb2_1 vb4_2 vb4_3_c vb4_3_n vb4_3_o vb4_8 vb4_9 vb5_0 vb6_0 vb4_6_c vb4_6_n vb7_0 0
def e17L32034 (qq : Nat) (M : Mach) (vb2_0 : Int) (vb2_1 : Int) (vb4_2 : List FreeVar) (vb4_3_c : Nat) (vb4_3_n : Nat) (vb4_3_o : Nat) (vb4_8 : Bool) (vb4_9 : Int) (vb5_0 : List UnifyEquation) (vb6_0 : List Int) : Option ((UnifyAnswer × Int × Int × Int) ⊕ (List FreeVar × List UnifySolved × Nat × Nat × List Int × Int × Int × Int)) :=
  if decide ((vb4_3_n : Int) > 0) = true then
    if (vb4_9 == 0) = true then
      if vb4_8 = true then
        none
      else
        (e49va65079 qq M.l M.rl M.parts M.args M.own vb2_0 vb2_1 vb4_2 vb5_0 vb4_3_n vb4_3_o vb4_3_c false vb6_0 vb4_8 vb4_9) >>= fun r16 =>
        e17L22204 qq M r16.2.2.2.2.2.2.2.2.2.1 r16.2.2.2.2.2.2.2.2.2.2 r16.1 r16.2.2.2.2.1 r16.2.2.1 r16.2.2.2.1 (List.length r16.2.2.2.2.2.1) (List.length r16.2.2.2.2.2.1) r16.2.2.2.2.2.2.2.1 r16.2.2.2.2.2.2.2.2.1 r16.2.1 r16.2.2.2.2.2.1 r16.2.2.2.2.2.2.1
    else
      none
  else
    none
def e17L20242 : Nat → Mach → Int → Int → (List FreeVar) → Nat → Nat → Nat → Bool → Int → (List UnifyEquation) →  Option ((UnifyAnswer × Int × Int × Int) ⊕ (List FreeVar × List UnifySolved × Nat × Nat × List Int × Int × Int × Int))
  | 0, _, _, _, _, _, _, _, _, _, _ => none
  | qq + 1, M, vb2_0, vb2_1, vb4_2, vb4_3_c, vb4_3_n, vb4_3_o, vb4_8, vb4_9, vb5_0 =>
    if decide ((vb4_3_n : Int) > 0) = true then
      if (vb4_9 == 0) = true then
        if vb4_8 = true then
          none
        else
          (e49va42369 qq M.l M.rl M.parts M.args M.own vb2_0 vb2_1 vb4_2 vb5_0 vb4_3_n vb4_3_o vb4_3_c false vb4_8 vb4_9) >>= fun r8 =>
          match r8 with
          | Sum.inl y10 =>
            e17L20242 qq M y10.2.2.2.2.2.2.2.1 y10.2.2.2.2.2.2.2.2 y10.1 y10.2.2.2.2.1 y10.2.2.1 y10.2.2.2.1 y10.2.2.2.2.2.1 y10.2.2.2.2.2.2.1 y10.2.1
          | Sum.inr y11 =>
            e17L32034 qq M y11.2.2.2.2.2.1 y11.2.2.2.2.2.2.1 y11.1 (List.length y11.2.1) (List.length y11.2.1) 0 y11.2.2.2.1 y11.2.2.2.2.1 y11.2.1 y11.2.2.1
      else
        none
    else
      if (vb4_9 != 0) = true then
        some (Sum.inl ((UnifyAnswer.mk false [] [] []), vb4_9, vb2_0, vb2_1))
      else
        none
def e17 (qq : Nat) (M : Mach) (p1 : List FreeVar) (p2 : List Tm) (p3 : List Tm) (fl : Int) (fu : Int) : Option ((UnifyAnswer × Int × Int × Int) ⊕ (List FreeVar × List UnifySolved × Nat × Nat × List Int × Int × Int × Int)) :=
  (e48 qq M p1 p2 p3 fl fu) >>= fun r1 =>
  match r1 with
  | Sum.inl y4 =>
    some (Sum.inl ((UnifyAnswer.mk false [] [] []), 5, fl, fu))
  | Sum.inr y3 =>
    e17L20242 qq M fl fu y3.1 (List.length y3.2.1) (List.length y3.2.1) 0 false y3.2.2 y3.2.1
def g17L20242E0 (j : Nat → Value) (M : Mach) (vb2_0 : Int) (vb2_1 : Int) (vb4_2 : List FreeVar) (vb4_3_c : Nat) (vb4_3_n : Nat) (vb4_3_o : Nat) (vb4_8 : Bool) (vb4_9 : Int) (vb5_0 : List UnifyEquation) : List AV := sp j 130 0 [(10, .mp 3 0), (12, .mp 4 0)]
def g17L20242S0 (M : Mach) (vb2_0 : Int) (vb2_1 : Int) (vb4_2 : List FreeVar) (vb4_3_c : Nat) (vb4_3_n : Nat) (vb4_3_o : Nat) (vb4_8 : Bool) (vb4_9 : Int) (vb5_0 : List UnifyEquation) : LSt := ⟨[(0, .cells [.sl (flat entL M.l) (List.length M.l) .no, .mp 1 0, .sl (flat intC M.args) (List.length M.args) .no, .sl (flat intC M.own) (List.length M.own) .no]), (1, .cells [.sl (flat entL M.rl) (List.length M.rl) .no, .sl (flat conL M.parts) (List.length M.parts) .no]), (2, .cells [ai vb2_0, ai vb2_1]), (3, .cells [ab false, .sl (flat freeVarL ([] : List FreeVar)) (List.length ([] : List FreeVar)) .nl, .sl (flat unifySolvedL ([] : List UnifySolved)) (List.length ([] : List UnifySolved)) .nl, .sl (flat intC ([] : List Int)) (List.length ([] : List Int)) .nl]), (4, .cells [.mp 0 0, .mp 2 0, .sl (flat freeVarL vb4_2) (List.length vb4_2) .no, .ms 5 (vb4_3_o * 6) vb4_3_n vb4_3_c 6, ab false, .sl (flat freeVarL ([] : List FreeVar)) (List.length ([] : List FreeVar)) .nl, .sl (flat unifySolvedL ([] : List UnifySolved)) (List.length ([] : List UnifySolved)) .nl, .sl (flat intC ([] : List Int)) (List.length ([] : List Int)) .nl, ab vb4_8, ai vb4_9]), (5, .row (flat unifyEquationL vb5_0))], 6, [], 0, []⟩
def g17L32034E0 (j : Nat → Value) (M : Mach) (vb2_0 : Int) (vb2_1 : Int) (vb4_2 : List FreeVar) (vb4_3_c : Nat) (vb4_3_n : Nat) (vb4_3_o : Nat) (vb4_8 : Bool) (vb4_9 : Int) (vb5_0 : List UnifyEquation) (vb6_0 : List Int) : List AV := sp j 130 0 [(10, .mp 3 0), (12, .mp 4 0)]
def g17L32034S0 (M : Mach) (vb2_0 : Int) (vb2_1 : Int) (vb4_2 : List FreeVar) (vb4_3_c : Nat) (vb4_3_n : Nat) (vb4_3_o : Nat) (vb4_8 : Bool) (vb4_9 : Int) (vb5_0 : List UnifyEquation) (vb6_0 : List Int) : LSt := ⟨[(0, .cells [.sl (flat entL M.l) (List.length M.l) .no, .mp 1 0, .sl (flat intC M.args) (List.length M.args) .no, .sl (flat intC M.own) (List.length M.own) .no]), (1, .cells [.sl (flat entL M.rl) (List.length M.rl) .no, .sl (flat conL M.parts) (List.length M.parts) .no]), (2, .cells [ai vb2_0, ai vb2_1]), (3, .cells [ab false, .sl (flat freeVarL ([] : List FreeVar)) (List.length ([] : List FreeVar)) .nl, .sl (flat unifySolvedL ([] : List UnifySolved)) (List.length ([] : List UnifySolved)) .nl, .sl (flat intC ([] : List Int)) (List.length ([] : List Int)) .nl]), (4, .cells [.mp 0 0, .mp 2 0, .sl (flat freeVarL vb4_2) (List.length vb4_2) .no, .ms 5 (vb4_3_o * 6) vb4_3_n vb4_3_c 6, ab false, .sl (flat freeVarL ([] : List FreeVar)) (List.length ([] : List FreeVar)) .nl, .sl (flat unifySolvedL ([] : List UnifySolved)) (List.length ([] : List UnifySolved)) .nl, .ms 6 0 (List.length vb6_0) (List.length vb6_0) 1, ab vb4_8, ai vb4_9]), (5, .row (flat unifyEquationL vb5_0)), (6, .row (flat intC vb6_0))], 7, [], 0, []⟩
def g17L22204E0 (j : Nat → Value) (M : Mach) (vb2_0 : Int) (vb2_1 : Int) (vb4_2 : List FreeVar) (vb4_3_c : Nat) (vb4_3_n : Nat) (vb4_3_o : Nat) (vb4_6_c : Nat) (vb4_6_n : Nat) (vb4_8 : Bool) (vb4_9 : Int) (vb5_0 : List UnifyEquation) (vb6_0 : List UnifySolved) (vb7_0 : List Int) : List AV := sp j 130 0 [(10, .mp 3 0), (12, .mp 4 0)]
def g17L22204S0 (M : Mach) (vb2_0 : Int) (vb2_1 : Int) (vb4_2 : List FreeVar) (vb4_3_c : Nat) (vb4_3_n : Nat) (vb4_3_o : Nat) (vb4_6_c : Nat) (vb4_6_n : Nat) (vb4_8 : Bool) (vb4_9 : Int) (vb5_0 : List UnifyEquation) (vb6_0 : List UnifySolved) (vb7_0 : List Int) : LSt := ⟨[(0, .cells [.sl (flat entL M.l) (List.length M.l) .no, .mp 1 0, .sl (flat intC M.args) (List.length M.args) .no, .sl (flat intC M.own) (List.length M.own) .no]), (1, .cells [.sl (flat entL M.rl) (List.length M.rl) .no, .sl (flat conL M.parts) (List.length M.parts) .no]), (2, .cells [ai vb2_0, ai vb2_1]), (3, .cells [ab false, .sl (flat freeVarL ([] : List FreeVar)) (List.length ([] : List FreeVar)) .nl, .sl (flat unifySolvedL ([] : List UnifySolved)) (List.length ([] : List UnifySolved)) .nl, .sl (flat intC ([] : List Int)) (List.length ([] : List Int)) .nl]), (4, .cells [.mp 0 0, .mp 2 0, .sl (flat freeVarL vb4_2) (List.length vb4_2) .no, .ms 5 (vb4_3_o * 6) vb4_3_n vb4_3_c 6, ab false, .sl (flat freeVarL ([] : List FreeVar)) (List.length ([] : List FreeVar)) .nl, .ms 6 0 vb4_6_n vb4_6_c 4, .ms 7 0 (List.length vb7_0) (List.length vb7_0) 1, ab vb4_8, ai vb4_9]), (5, .row (flat unifyEquationL vb5_0)), (6, .row (flat unifySolvedL vb6_0)), (7, .row (flat intC vb7_0))], 8, [], 0, []⟩
def g17L4589E0 (j : Nat → Value) (M : Mach) (vb2_0 : Int) (vb2_1 : Int) (vb4_2 : List FreeVar) (vb4_3_c : Nat) (vb4_3_n : Nat) (vb4_3_o : Nat) (vb4_8 : Bool) (vb4_9 : Int) (vb5_0 : List UnifyEquation) (vb6_0 : List UnifySolved) (vb4_6_c : Nat) (vb4_6_n : Nat) (vb7_0 : List Int) (v81 : Int) : List AV := sp j 130 0 [(10, .mp 3 0), (12, .mp 4 0), (79, .sl (flat freeVarL vb4_2) (List.length vb4_2) .no), (80, ai (List.length vb4_2 : Int)), (81, ai v81)]
def g17L4589S0 (M : Mach) (vb2_0 : Int) (vb2_1 : Int) (vb4_2 : List FreeVar) (vb4_3_c : Nat) (vb4_3_n : Nat) (vb4_3_o : Nat) (vb4_8 : Bool) (vb4_9 : Int) (vb5_0 : List UnifyEquation) (vb6_0 : List UnifySolved) (vb4_6_c : Nat) (vb4_6_n : Nat) (vb7_0 : List Int) (v81 : Int) : LSt := ⟨[(0, .cells [.sl (flat entL M.l) (List.length M.l) .no, .mp 1 0, .sl (flat intC M.args) (List.length M.args) .no, .sl (flat intC M.own) (List.length M.own) .no]), (1, .cells [.sl (flat entL M.rl) (List.length M.rl) .no, .sl (flat conL M.parts) (List.length M.parts) .no]), (2, .cells [ai vb2_0, ai vb2_1]), (3, .cells [ab false, .sl (flat freeVarL ([] : List FreeVar)) (List.length ([] : List FreeVar)) .nl, .sl (flat unifySolvedL ([] : List UnifySolved)) (List.length ([] : List UnifySolved)) .nl, .sl (flat intC ([] : List Int)) (List.length ([] : List Int)) .nl]), (4, .cells [.mp 0 0, .mp 2 0, .sl (flat freeVarL vb4_2) (List.length vb4_2) .no, .ms 5 (vb4_3_o * 6) vb4_3_n vb4_3_c 6, ab true, .sl (flat freeVarL ([] : List FreeVar)) (List.length ([] : List FreeVar)) .nl, .ms 6 0 vb4_6_n vb4_6_c 4, .ms 7 0 (List.length vb7_0) (List.length vb7_0) 1, ab vb4_8, ai vb4_9]), (5, .row (flat unifyEquationL vb5_0)), (6, .row (flat unifySolvedL vb6_0)), (7, .row (flat intC vb7_0))], 8, [], 0, []⟩
def g17L28815E0 (j : Nat → Value) (M : Mach) (vb2_0 : Int) (vb2_1 : Int) (vb4_2 : List FreeVar) (vb4_3_c : Nat) (vb4_3_n : Nat) (vb4_3_o : Nat) (vb4_8 : Bool) (vb4_9 : Int) (vb5_0 : List UnifyEquation) (vb4_6_c : Nat) (vb4_6_n : Nat) (vb7_0 : List Int) (v109 : Int) (vb5_0z : List UnifySolved) : List AV := sp j 130 0 [(10, .mp 3 0), (12, .mp 4 0), (107, .ms 5 0 vb4_6_n vb4_6_c 4), (108, ai (vb4_6_n : Int)), (109, ai v109)]
def g17L28815S0 (M : Mach) (vb2_0 : Int) (vb2_1 : Int) (vb4_2 : List FreeVar) (vb4_3_c : Nat) (vb4_3_n : Nat) (vb4_3_o : Nat) (vb4_8 : Bool) (vb4_9 : Int) (vb5_0 : List UnifyEquation) (vb4_6_c : Nat) (vb4_6_n : Nat) (vb7_0 : List Int) (v109 : Int) (vb5_0z : List UnifySolved) : LSt := ⟨[(0, .cells [.sl (flat entL M.l) (List.length M.l) .no, .mp 1 0, .sl (flat intC M.args) (List.length M.args) .no, .sl (flat intC M.own) (List.length M.own) .no]), (1, .cells [.sl (flat entL M.rl) (List.length M.rl) .no, .sl (flat conL M.parts) (List.length M.parts) .no]), (2, .cells [ai vb2_0, ai vb2_1]), (3, .cells [ab false, .sl (flat freeVarL ([] : List FreeVar)) (List.length ([] : List FreeVar)) .nl, .sl (flat unifySolvedL ([] : List UnifySolved)) (List.length ([] : List UnifySolved)) .nl, .sl (flat intC ([] : List Int)) (List.length ([] : List Int)) .nl]), (4, .cells [.mp 0 0, .mp 2 0, .sl (flat freeVarL vb4_2) (List.length vb4_2) .no, .ms 6 (vb4_3_o * 6) vb4_3_n vb4_3_c 6, ab true, .sl (flat freeVarL ([] : List FreeVar)) (List.length ([] : List FreeVar)) .nl, .ms 5 0 vb4_6_n vb4_6_c 4, .ms 7 0 (List.length vb7_0) (List.length vb7_0) 1, ab vb4_8, ai vb4_9]), (5, .row (flat unifySolvedL vb5_0z)), (6, .row (flat unifyEquationL vb5_0)), (7, .row (flat intC vb7_0))], 8, [], 0, []⟩
theorem q17 : Tryz.prog.funcs[17]? = some Tryz.f17 ∧ Tryz.f17.body.isNone = false := ⟨Tryz.func17, by kernel_rfl⟩
theorem k17s0 {M : Mach} {p1 : List FreeVar} {p2 : List Tm} {p3 : List Tm} {fl : Int} {fu : Int} {r : UnifyAnswer × Int × Int × Int} (h : CTri Tryz.prog 17 [.cells [.sl (flat entL M.l) (List.length M.l) .no, .mp 1 0, .sl (flat intC M.args) (List.length M.args) .no, .sl (flat intC M.own) (List.length M.own) .no], .cells [.sl (flat entL M.rl) (List.length M.rl) .no, .sl (flat conL M.parts) (List.length M.parts) .no], .cells [ai fl, ai fu]] [.mp 0 0, .sl (flat freeVarL p1) (List.length p1) .no, .sl (flat tmCells p2) (List.length p2) .no, .sl (flat tmCells p3) (List.length p3) .no, .mp 2 0] (.tup [unifyAnswerA r.1, ai r.2.1]) [.cells [.sl (flat entL M.l) (List.length M.l) .no, .mp 1 0, .sl (flat intC M.args) (List.length M.args) .no, .sl (flat intC M.own) (List.length M.own) .no], .cells [.sl (flat entL M.rl) (List.length M.rl) .no, .sl (flat conL M.parts) (List.length M.parts) .no], .cells [ai r.2.2.1, ai r.2.2.2]] 0) : CT Tryz.prog 17 [.cells [.sl (flat entL M.l) (List.length M.l) .no, .mp 1 0, .sl (flat intC M.args) (List.length M.args) .no, .sl (flat intC M.own) (List.length M.own) .no], .cells [.sl (flat entL M.rl) (List.length M.rl) .no, .sl (flat conL M.parts) (List.length M.parts) .no], .cells [ai fl, ai fu]] [.mp 0 0, .sl (flat freeVarL p1) (List.length p1) .no, .sl (flat tmCells p2) (List.length p2) .no, .sl (flat tmCells p3) (List.length p3) .no, .mp 2 0] (.tup [unifyAnswerA r.1, ai r.2.1]) [.cells [.sl (flat entL M.l) (List.length M.l) .no, .mp 1 0, .sl (flat intC M.args) (List.length M.args) .no, .sl (flat intC M.own) (List.length M.own) .no], .cells [.sl (flat entL M.rl) (List.length M.rl) .no, .sl (flat conL M.parts) (List.length M.parts) .no], .cells [ai r.2.2.1, ai r.2.2.2]] 0 := ⟨h, ⟨(show 0 < 3 by decide), ⟨trivial, dFreeVar _⟩, ⟨trivial, dT _⟩, ⟨trivial, dT _⟩, (show 2 < 3 by decide), trivial⟩, (forall_cons ⟨⟨trivial, dE _⟩, (show 1 < 3 by decide), ⟨trivial, dI _⟩, ⟨trivial, dI _⟩, trivial⟩ (forall_cons ⟨⟨trivial, dE _⟩, ⟨trivial, dC _⟩, trivial⟩ (forall_cons ⟨trivial, trivial, trivial⟩ forall_nil))), ⟨⟨trivial, dFreeVar _, dUnifySolved _, dI _, trivial⟩, trivial, trivial⟩, (forall_cons ⟨dE _, (show 1 < 3 by decide), dI _, dI _, trivial⟩ (forall_cons ⟨dE _, dC _, trivial⟩ (forall_cons ⟨trivial, trivial, trivial⟩ forall_nil)))⟩
theorem k17s1 {M : Mach} {p1 : List FreeVar} {p2 : List Tm} {p3 : List Tm} {fl : Int} {fu : Int} {r : List FreeVar × List UnifySolved × Nat × Nat × List Int × Int × Int × Int} (h : CTri Tryz.prog 17 [.cells [.sl (flat entL M.l) (List.length M.l) .no, .mp 1 0, .sl (flat intC M.args) (List.length M.args) .no, .sl (flat intC M.own) (List.length M.own) .no], .cells [.sl (flat entL M.rl) (List.length M.rl) .no, .sl (flat conL M.parts) (List.length M.parts) .no], .cells [ai fl, ai fu]] [.mp 0 0, .sl (flat freeVarL p1) (List.length p1) .no, .sl (flat tmCells p2) (List.length p2) .no, .sl (flat tmCells p3) (List.length p3) .no, .mp 2 0] (.tup [.agg [ab true, .sl (flat freeVarL r.1) (List.length r.1) .no, .ms 3 0 r.2.2.1 r.2.2.2.1 4, .ms 4 0 (List.length r.2.2.2.2.1) (List.length r.2.2.2.2.1) 1], ai r.2.2.2.2.2.1]) [.cells [.sl (flat entL M.l) (List.length M.l) .no, .mp 1 0, .sl (flat intC M.args) (List.length M.args) .no, .sl (flat intC M.own) (List.length M.own) .no], .cells [.sl (flat entL M.rl) (List.length M.rl) .no, .sl (flat conL M.parts) (List.length M.parts) .no], .cells [ai r.2.2.2.2.2.2.1, ai r.2.2.2.2.2.2.2], .row (flat unifySolvedL r.2.1), .row (flat intC r.2.2.2.2.1)] 0) : CT Tryz.prog 17 [.cells [.sl (flat entL M.l) (List.length M.l) .no, .mp 1 0, .sl (flat intC M.args) (List.length M.args) .no, .sl (flat intC M.own) (List.length M.own) .no], .cells [.sl (flat entL M.rl) (List.length M.rl) .no, .sl (flat conL M.parts) (List.length M.parts) .no], .cells [ai fl, ai fu]] [.mp 0 0, .sl (flat freeVarL p1) (List.length p1) .no, .sl (flat tmCells p2) (List.length p2) .no, .sl (flat tmCells p3) (List.length p3) .no, .mp 2 0] (.tup [.agg [ab true, .sl (flat freeVarL r.1) (List.length r.1) .no, .ms 3 0 r.2.2.1 r.2.2.2.1 4, .ms 4 0 (List.length r.2.2.2.2.1) (List.length r.2.2.2.2.1) 1], ai r.2.2.2.2.2.1]) [.cells [.sl (flat entL M.l) (List.length M.l) .no, .mp 1 0, .sl (flat intC M.args) (List.length M.args) .no, .sl (flat intC M.own) (List.length M.own) .no], .cells [.sl (flat entL M.rl) (List.length M.rl) .no, .sl (flat conL M.parts) (List.length M.parts) .no], .cells [ai r.2.2.2.2.2.2.1, ai r.2.2.2.2.2.2.2], .row (flat unifySolvedL r.2.1), .row (flat intC r.2.2.2.2.1)] 0 := ⟨h, ⟨(show 0 < 3 by decide), ⟨trivial, dFreeVar _⟩, ⟨trivial, dT _⟩, ⟨trivial, dT _⟩, (show 2 < 3 by decide), trivial⟩, (forall_cons ⟨⟨trivial, dE _⟩, (show 1 < 3 by decide), ⟨trivial, dI _⟩, ⟨trivial, dI _⟩, trivial⟩ (forall_cons ⟨⟨trivial, dE _⟩, ⟨trivial, dC _⟩, trivial⟩ (forall_cons ⟨trivial, trivial, trivial⟩ forall_nil))), ⟨⟨trivial, dFreeVar _, (show 3 < 5 by decide), (show 4 < 5 by decide), trivial⟩, trivial, trivial⟩, (forall_cons ⟨dE _, (show 1 < 5 by decide), dI _, dI _, trivial⟩ (forall_cons ⟨dE _, dC _, trivial⟩ (forall_cons ⟨trivial, trivial, trivial⟩ (forall_cons (dUnifySolved _) (forall_cons (dI _) forall_nil)))))⟩
theorem l17L28815 : ∀ qq : Nat, (∀ (M : Mach) (vb2_0 : Int) (vb2_1 : Int) (vb4_2 : List FreeVar) (vb4_3_c : Nat) (vb4_3_n : Nat) (vb4_3_o : Nat) (vb4_8 : Bool) (vb4_9 : Int) (vb5_0 : List UnifyEquation) (vb4_6_c : Nat) (vb4_6_n : Nat) (vb7_0 : List Int) (v109 : Int) (vb5_0z : List UnifySolved) (r : (UnifyAnswer × Int × Int × Int) ⊕ (List FreeVar × List UnifySolved × Nat × Nat × List Int × Int × Int × Int)), e17L28815 qq M vb2_0 vb2_1 vb4_2 vb4_3_c vb4_3_n vb4_3_o vb4_8 vb4_9 vb5_0 vb4_6_c vb4_6_n vb7_0 v109 vb5_0z = some r → (∀ j, Dl Tryz.prog 3 (inn (inn (rgt (lft (rgt (rgt (rgt (rgt (rgt (rgt (rgt (rgt (bod Tryz.f17))))))))))))) (g17L28815E0 j M vb2_0 vb2_1 vb4_2 vb4_3_c vb4_3_n vb4_3_o vb4_8 vb4_9 vb5_0 vb4_6_c vb4_6_n vb7_0 v109 vb5_0z) (g17L28815S0 M vb2_0 vb2_1 vb4_2 vb4_3_c vb4_3_n vb4_3_o vb4_8 vb4_9 vb5_0 vb4_6_c vb4_6_n vb7_0 v109 vb5_0z) (frameQ Tryz.prog 3 ((match (generalizing := false) r with | Sum.inl x => FinQ Tryz.prog 3 Tryz.f17 (.tup [unifyAnswerA x.1, ai x.2.1]) [.cells [.sl (flat entL M.l) (List.length M.l) .no, .mp 1 0, .sl (flat intC M.args) (List.length M.args) .no, .sl (flat intC M.own) (List.length M.own) .no], .cells [.sl (flat entL M.rl) (List.length M.rl) .no, .sl (flat conL M.parts) (List.length M.parts) .no], .cells [ai x.2.2.1, ai x.2.2.2]] 0 | Sum.inr x => FinQ Tryz.prog 3 Tryz.f17 (.tup [.agg [ab true, .sl (flat freeVarL x.1) (List.length x.1) .no, .ms 3 0 x.2.2.1 x.2.2.2.1 4, .ms 4 0 (List.length x.2.2.2.2.1) (List.length x.2.2.2.2.1) 1], ai x.2.2.2.2.2.1]) [.cells [.sl (flat entL M.l) (List.length M.l) .no, .mp 1 0, .sl (flat intC M.args) (List.length M.args) .no, .sl (flat intC M.own) (List.length M.own) .no], .cells [.sl (flat entL M.rl) (List.length M.rl) .no, .sl (flat conL M.parts) (List.length M.parts) .no], .cells [ai x.2.2.2.2.2.2.1, ai x.2.2.2.2.2.2.2], .row (flat unifySolvedL x.2.1), .row (flat intC x.2.2.2.2.1)] 0)) [.blk 4, .seq (rgt (rgt (rgt (rgt (rgt (rgt (rgt (rgt (rgt (bod Tryz.f17))))))))))]))) := by
  intro qq
  induction qq with
  | zero =>
    exact fun _ _ _ _ _ _ _ _ _ _ _ _ _ _ _ _ h => nn h
  | succ qq ih =>
    intro M vb2_0 vb2_1 vb4_2 vb4_3_c vb4_3_n vb4_3_o vb4_8 vb4_9 vb5_0 vb4_6_c vb4_6_n vb7_0 v109 vb5_0z r h
    rw [e17L28815] at h
    rcases spl h with ⟨h38, h⟩ | ⟨h38, h⟩
    · obtain ⟨x39, h40, h⟩ := obind h
      obtain ⟨x41, h42, h⟩ := obind h
      obtain ⟨r43, h44, h⟩ := obind h
      obtain ⟨x45, h46, h⟩ := obind h
      obtain ⟨l47, h48, h⟩ := obind h
      exact fun j => lH 1 [] [0, 1, 2, 3, 4, 5, 6, 7] [] [10, 12, 107, 108, 109] (oD (dI vb7_0) <| oD (dUnifyEquation vb5_0) <| oD (dUnifySolved l47) <| oD (dFreeVar ([] : List FreeVar)) <| oD (dFreeVar vb4_2) <| oD (dI ([] : List Int)) <| oD (dUnifySolved ([] : List UnifySolved)) <| oD (dFreeVar ([] : List FreeVar)) <| oD (dC M.parts) <| oD (dE M.rl) <| oD (dI M.own) <| oD (dI M.args) <| oD (dE M.l) <| oW 0 (wtF (x' := (UnifySolved.mk x45.n_ r43)) codecUnifySolved h46 h48 1 3 (.agg [ai r43.k, ai r43.n, .sl (flat tmCells r43.sub) (List.length r43.sub) .no]) rfl rfl (by decide) rfl) <| oA 0 (ixM53 (b := 5) (c := vb4_6_c) (z := 4) h40) <| oC 3 [] (c50 h44) <| oG (a := (.agg [ai x41.n_, ai x41.t_.k, ai x41.t_.n, .sl (flat tmCells x41.t_.sub) (List.length x41.t_.sub) .no])) 0 (ldE codecUnifySolved h42 (true, 4) (val := .agg [ai x41.n_, ai x41.t_.k, ai x41.t_.n, .sl (flat tmCells x41.t_.sub) (List.length x41.t_.sub) .no]) rfl) <| oA 0 (ixM53 (b := 5) (c := vb4_6_c) (z := 4) h40) <| oB 0 h38 o0) (ih _ _ _ _ _ _ _ _ _ _ _ _ _ _ _ _ h) (fun j => by kernel_rfl)
    · obtain rfl := sj h
      exact fun j => lF 2 [0, 1, 2, 5, 7] (oD (dFreeVar ([] : List FreeVar)) <| oD (dI vb7_0) <| oD (dUnifySolved vb5_0z) <| oD (dC M.parts) <| oD (dE M.rl) <| oD (dI M.own) <| oD (dI M.args) <| oD (dE M.l) <| oB 0 h38 o0) (by kernel_rfl)
theorem l17L4589 (qq : Nat) (M : Mach) (vb2_0 : Int) (vb2_1 : Int) (vb4_2 : List FreeVar) (vb4_3_c : Nat) (vb4_3_n : Nat) (vb4_3_o : Nat) (vb4_8 : Bool) (vb4_9 : Int) (vb5_0 : List UnifyEquation) (vb6_0 : List UnifySolved) (vb4_6_c : Nat) (vb4_6_n : Nat) (vb7_0 : List Int) (v81 : Int) (r : (UnifyAnswer × Int × Int × Int) ⊕ (List FreeVar × List UnifySolved × Nat × Nat × List Int × Int × Int × Int)) (h : e17L4589 qq M vb2_0 vb2_1 vb4_2 vb4_3_c vb4_3_n vb4_3_o vb4_8 vb4_9 vb5_0 vb6_0 vb4_6_c vb4_6_n vb7_0 v81 = some r) : (∀ j, Dl Tryz.prog 3 (inn (inn (rgt (lft (rgt (rgt (rgt (rgt (rgt (rgt (rgt (bod Tryz.f17)))))))))))) (g17L4589E0 j M vb2_0 vb2_1 vb4_2 vb4_3_c vb4_3_n vb4_3_o vb4_8 vb4_9 vb5_0 vb6_0 vb4_6_c vb4_6_n vb7_0 v81) (g17L4589S0 M vb2_0 vb2_1 vb4_2 vb4_3_c vb4_3_n vb4_3_o vb4_8 vb4_9 vb5_0 vb6_0 vb4_6_c vb4_6_n vb7_0 v81) (frameQ Tryz.prog 3 ((match (generalizing := false) r with | Sum.inl x => FinQ Tryz.prog 3 Tryz.f17 (.tup [unifyAnswerA x.1, ai x.2.1]) [.cells [.sl (flat entL M.l) (List.length M.l) .no, .mp 1 0, .sl (flat intC M.args) (List.length M.args) .no, .sl (flat intC M.own) (List.length M.own) .no], .cells [.sl (flat entL M.rl) (List.length M.rl) .no, .sl (flat conL M.parts) (List.length M.parts) .no], .cells [ai x.2.2.1, ai x.2.2.2]] 0 | Sum.inr x => FinQ Tryz.prog 3 Tryz.f17 (.tup [.agg [ab true, .sl (flat freeVarL x.1) (List.length x.1) .no, .ms 3 0 x.2.2.1 x.2.2.2.1 4, .ms 4 0 (List.length x.2.2.2.2.1) (List.length x.2.2.2.2.1) 1], ai x.2.2.2.2.2.1]) [.cells [.sl (flat entL M.l) (List.length M.l) .no, .mp 1 0, .sl (flat intC M.args) (List.length M.args) .no, .sl (flat intC M.own) (List.length M.own) .no], .cells [.sl (flat entL M.rl) (List.length M.rl) .no, .sl (flat conL M.parts) (List.length M.parts) .no], .cells [ai x.2.2.2.2.2.2.1, ai x.2.2.2.2.2.2.2], .row (flat unifySolvedL x.2.1), .row (flat intC x.2.2.2.2.1)] 0)) [.blk 2, .seq (rgt (rgt (rgt (rgt (rgt (rgt (rgt (rgt (bod Tryz.f17)))))))))])) := by
  unfold e17L4589 at h
  obtain ⟨h31, h⟩ := splF h
  exact fun j => lH 2 [] [0, 1, 2, 3, 4, 6, 5, 7] [] [10, 12, 107, 108, 109] (oD (dI vb7_0) <| oD (dUnifyEquation vb5_0) <| oD (dUnifySolved vb6_0) <| oD (dFreeVar ([] : List FreeVar)) <| oD (dFreeVar vb4_2) <| oD (dI ([] : List Int)) <| oD (dUnifySolved ([] : List UnifySolved)) <| oD (dFreeVar ([] : List FreeVar)) <| oD (dC M.parts) <| oD (dE M.rl) <| oD (dI M.own) <| oD (dI M.args) <| oD (dE M.l) <| oB 0 h31 o0) (l17L28815 _ _ _ _ _ _ _ _ _ _ _ _ _ _ _ _ _ h) (fun j => by kernel_rfl)
theorem l17L22204 (qq : Nat) (M : Mach) (vb2_0 : Int) (vb2_1 : Int) (vb4_2 : List FreeVar) (vb4_3_c : Nat) (vb4_3_n : Nat) (vb4_3_o : Nat) (vb4_6_c : Nat) (vb4_6_n : Nat) (vb4_8 : Bool) (vb4_9 : Int) (vb5_0 : List UnifyEquation) (vb6_0 : List UnifySolved) (vb7_0 : List Int) (r : (UnifyAnswer × Int × Int × Int) ⊕ (List FreeVar × List UnifySolved × Nat × Nat × List Int × Int × Int × Int)) (h : e17L22204 qq M vb2_0 vb2_1 vb4_2 vb4_3_c vb4_3_n vb4_3_o vb4_6_c vb4_6_n vb4_8 vb4_9 vb5_0 vb6_0 vb7_0 = some r) : (∀ j, Dl Tryz.prog 3 (inn (inn (lft (rgt (rgt (rgt (bod Tryz.f17))))))) (g17L22204E0 j M vb2_0 vb2_1 vb4_2 vb4_3_c vb4_3_n vb4_3_o vb4_6_c vb4_6_n vb4_8 vb4_9 vb5_0 vb6_0 vb7_0) (g17L22204S0 M vb2_0 vb2_1 vb4_2 vb4_3_c vb4_3_n vb4_3_o vb4_6_c vb4_6_n vb4_8 vb4_9 vb5_0 vb6_0 vb7_0) (frameQ Tryz.prog 3 ((match (generalizing := false) r with | Sum.inl x => FinQ Tryz.prog 3 Tryz.f17 (.tup [unifyAnswerA x.1, ai x.2.1]) [.cells [.sl (flat entL M.l) (List.length M.l) .no, .mp 1 0, .sl (flat intC M.args) (List.length M.args) .no, .sl (flat intC M.own) (List.length M.own) .no], .cells [.sl (flat entL M.rl) (List.length M.rl) .no, .sl (flat conL M.parts) (List.length M.parts) .no], .cells [ai x.2.2.1, ai x.2.2.2]] 0 | Sum.inr x => FinQ Tryz.prog 3 Tryz.f17 (.tup [.agg [ab true, .sl (flat freeVarL x.1) (List.length x.1) .no, .ms 3 0 x.2.2.1 x.2.2.2.1 4, .ms 4 0 (List.length x.2.2.2.2.1) (List.length x.2.2.2.2.1) 1], ai x.2.2.2.2.2.1]) [.cells [.sl (flat entL M.l) (List.length M.l) .no, .mp 1 0, .sl (flat intC M.args) (List.length M.args) .no, .sl (flat intC M.own) (List.length M.own) .no], .cells [.sl (flat entL M.rl) (List.length M.rl) .no, .sl (flat conL M.parts) (List.length M.parts) .no], .cells [ai x.2.2.2.2.2.2.1, ai x.2.2.2.2.2.2.2], .row (flat unifySolvedL x.2.1), .row (flat intC x.2.2.2.2.1)] 0)) [.blk 0, .seq (rgt (rgt (rgt (rgt (bod Tryz.f17)))))])) := by
  unfold e17L22204 at h
  obtain ⟨h18, h⟩ := splF h
  have k := oB 2 h18 o0
  obtain ⟨h31, h⟩ := splF h
  have k := oB 1 h31 k
  obtain ⟨h32, h⟩ := splF h
  exact fun j => lH 3 [] [0, 1, 2, 3, 4, 5, 6, 7] [] [10, 12, 79, 80, 81] (oD (dFreeVar vb4_2) <| oD (dI vb7_0) <| oD (dUnifySolved vb6_0) <| oD (dUnifyEquation vb5_0) <| oD (dFreeVar ([] : List FreeVar)) <| oD (dFreeVar vb4_2) <| oD (dI ([] : List Int)) <| oD (dUnifySolved ([] : List UnifySolved)) <| oD (dFreeVar ([] : List FreeVar)) <| oD (dC M.parts) <| oD (dE M.rl) <| oD (dI M.own) <| oD (dI M.args) <| oD (dE M.l) <| oB 0 h32 k) (l17L4589 qq _ _ _ _ _ _ _ _ _ _ _ _ _ _ _ _ h) (fun j => by kernel_rfl)
theorem l17L32034 (qq : Nat) (M : Mach) (vb2_0 : Int) (vb2_1 : Int) (vb4_2 : List FreeVar) (vb4_3_c : Nat) (vb4_3_n : Nat) (vb4_3_o : Nat) (vb4_8 : Bool) (vb4_9 : Int) (vb5_0 : List UnifyEquation) (vb6_0 : List Int) (r : (UnifyAnswer × Int × Int × Int) ⊕ (List FreeVar × List UnifySolved × Nat × Nat × List Int × Int × Int × Int)) (h : e17L32034 qq M vb2_0 vb2_1 vb4_2 vb4_3_c vb4_3_n vb4_3_o vb4_8 vb4_9 vb5_0 vb6_0 = some r) : (∀ j, Dl Tryz.prog 3 (inn (inn (lft (rgt (rgt (rgt (bod Tryz.f17))))))) (g17L32034E0 j M vb2_0 vb2_1 vb4_2 vb4_3_c vb4_3_n vb4_3_o vb4_8 vb4_9 vb5_0 vb6_0) (g17L32034S0 M vb2_0 vb2_1 vb4_2 vb4_3_c vb4_3_n vb4_3_o vb4_8 vb4_9 vb5_0 vb6_0) (frameQ Tryz.prog 3 ((match (generalizing := false) r with | Sum.inl x => FinQ Tryz.prog 3 Tryz.f17 (.tup [unifyAnswerA x.1, ai x.2.1]) [.cells [.sl (flat entL M.l) (List.length M.l) .no, .mp 1 0, .sl (flat intC M.args) (List.length M.args) .no, .sl (flat intC M.own) (List.length M.own) .no], .cells [.sl (flat entL M.rl) (List.length M.rl) .no, .sl (flat conL M.parts) (List.length M.parts) .no], .cells [ai x.2.2.1, ai x.2.2.2]] 0 | Sum.inr x => FinQ Tryz.prog 3 Tryz.f17 (.tup [.agg [ab true, .sl (flat freeVarL x.1) (List.length x.1) .no, .ms 3 0 x.2.2.1 x.2.2.2.1 4, .ms 4 0 (List.length x.2.2.2.2.1) (List.length x.2.2.2.2.1) 1], ai x.2.2.2.2.2.1]) [.cells [.sl (flat entL M.l) (List.length M.l) .no, .mp 1 0, .sl (flat intC M.args) (List.length M.args) .no, .sl (flat intC M.own) (List.length M.own) .no], .cells [.sl (flat entL M.rl) (List.length M.rl) .no, .sl (flat conL M.parts) (List.length M.parts) .no], .cells [ai x.2.2.2.2.2.2.1, ai x.2.2.2.2.2.2.2], .row (flat unifySolvedL x.2.1), .row (flat intC x.2.2.2.2.1)] 0)) [.blk 0, .seq (rgt (rgt (rgt (rgt (bod Tryz.f17)))))])) := by
  unfold e17L32034 at h
  obtain ⟨h12, h⟩ := splT h
  have k := oB 2 h12 o0
  obtain ⟨h13, h⟩ := splT h
  have k := oB 1 h13 k
  obtain ⟨h14, h⟩ := splF h
  obtain ⟨r16, h17, h⟩ := obind h
  exact fun j => lH 0 [] [0, 1, 2, 3, 4, 5, 7, 8] [] [10, 12] (oD (dI r16.2.2.2.2.2.2.1) <| oD (dUnifySolved r16.2.2.2.2.2.1) <| oD (dUnifyEquation r16.2.1) <| oD (dFreeVar ([] : List FreeVar)) <| oD (dFreeVar r16.1) <| oD (dI ([] : List Int)) <| oD (dUnifySolved ([] : List UnifySolved)) <| oD (dFreeVar ([] : List FreeVar)) <| oD (dC M.parts) <| oD (dE M.rl) <| oD (dI M.own) <| oD (dI M.args) <| oD (dE M.l) <| oC 1 [4, 0, 1, 2, 5, 6] (c49va65079 h17) <| oB 0 h14 k) (l17L22204 qq _ _ _ _ _ _ _ _ _ _ _ _ _ _ _ h) (fun j => by kernel_rfl)
theorem l17L20242 : ∀ qq : Nat, (∀ (M : Mach) (vb2_0 : Int) (vb2_1 : Int) (vb4_2 : List FreeVar) (vb4_3_c : Nat) (vb4_3_n : Nat) (vb4_3_o : Nat) (vb4_8 : Bool) (vb4_9 : Int) (vb5_0 : List UnifyEquation) (r : (UnifyAnswer × Int × Int × Int) ⊕ (List FreeVar × List UnifySolved × Nat × Nat × List Int × Int × Int × Int)), e17L20242 qq M vb2_0 vb2_1 vb4_2 vb4_3_c vb4_3_n vb4_3_o vb4_8 vb4_9 vb5_0 = some r → (∀ j, Dl Tryz.prog 3 (inn (inn (lft (rgt (rgt (rgt (bod Tryz.f17))))))) (g17L20242E0 j M vb2_0 vb2_1 vb4_2 vb4_3_c vb4_3_n vb4_3_o vb4_8 vb4_9 vb5_0) (g17L20242S0 M vb2_0 vb2_1 vb4_2 vb4_3_c vb4_3_n vb4_3_o vb4_8 vb4_9 vb5_0) (frameQ Tryz.prog 3 ((match (generalizing := false) r with | Sum.inl x => FinQ Tryz.prog 3 Tryz.f17 (.tup [unifyAnswerA x.1, ai x.2.1]) [.cells [.sl (flat entL M.l) (List.length M.l) .no, .mp 1 0, .sl (flat intC M.args) (List.length M.args) .no, .sl (flat intC M.own) (List.length M.own) .no], .cells [.sl (flat entL M.rl) (List.length M.rl) .no, .sl (flat conL M.parts) (List.length M.parts) .no], .cells [ai x.2.2.1, ai x.2.2.2]] 0 | Sum.inr x => FinQ Tryz.prog 3 Tryz.f17 (.tup [.agg [ab true, .sl (flat freeVarL x.1) (List.length x.1) .no, .ms 3 0 x.2.2.1 x.2.2.2.1 4, .ms 4 0 (List.length x.2.2.2.2.1) (List.length x.2.2.2.2.1) 1], ai x.2.2.2.2.2.1]) [.cells [.sl (flat entL M.l) (List.length M.l) .no, .mp 1 0, .sl (flat intC M.args) (List.length M.args) .no, .sl (flat intC M.own) (List.length M.own) .no], .cells [.sl (flat entL M.rl) (List.length M.rl) .no, .sl (flat conL M.parts) (List.length M.parts) .no], .cells [ai x.2.2.2.2.2.2.1, ai x.2.2.2.2.2.2.2], .row (flat unifySolvedL x.2.1), .row (flat intC x.2.2.2.2.1)] 0)) [.blk 0, .seq (rgt (rgt (rgt (rgt (bod Tryz.f17)))))]))) := by
  intro qq
  induction qq with
  | zero =>
    exact fun _ _ _ _ _ _ _ _ _ _ _ h => nn h
  | succ qq ih =>
    intro M vb2_0 vb2_1 vb4_2 vb4_3_c vb4_3_n vb4_3_o vb4_8 vb4_9 vb5_0 r h
    rw [e17L20242] at h
    rcases spl h with ⟨h4, h⟩ | ⟨h4, h⟩
    · have k := oB 2 h4 o0
      obtain ⟨h5, h⟩ := splT h
      have k := oB 1 h5 k
      obtain ⟨h6, h⟩ := splF h
      obtain ⟨r8, h9, h⟩ := obind h
      have k := oB 0 h6 k
      rcases r8 with y10 | y11
      · dsimp only at h
        exact fun j => lH 0 [] [0, 1, 2, 3, 4, 5] [] [10, 12] (oD (dUnifyEquation y10.2.1) <| oD (dI ([] : List Int)) <| oD (dUnifySolved ([] : List UnifySolved)) <| oD (dFreeVar ([] : List FreeVar)) <| oD (dFreeVar y10.1) <| oD (dI ([] : List Int)) <| oD (dUnifySolved ([] : List UnifySolved)) <| oD (dFreeVar ([] : List FreeVar)) <| oD (dC M.parts) <| oD (dE M.rl) <| oD (dI M.own) <| oD (dI M.args) <| oD (dE M.l) <| oC 1 [4, 0, 1, 2, 5] (c49va42369 h9) k) (ih _ _ _ _ _ _ _ _ _ _ _ h) (fun j => by kernel_rfl)
      · dsimp only at h
        exact fun j => lH 0 [] [0, 1, 2, 3, 4, 6, 7] [] [10, 12] (oD (dI y11.2.2.1) <| oD (dUnifyEquation y11.2.1) <| oD (dUnifySolved ([] : List UnifySolved)) <| oD (dFreeVar ([] : List FreeVar)) <| oD (dFreeVar y11.1) <| oD (dI ([] : List Int)) <| oD (dUnifySolved ([] : List UnifySolved)) <| oD (dFreeVar ([] : List FreeVar)) <| oD (dC M.parts) <| oD (dE M.rl) <| oD (dI M.own) <| oD (dI M.args) <| oD (dE M.l) <| oC 1 [4, 0, 1, 2, 5] (c49va42369 h9) k) (l17L32034 qq _ _ _ _ _ _ _ _ _ _ _ _ h) (fun j => by kernel_rfl)
    · have k := oB 2 h4 o0
      obtain ⟨h14, h⟩ := splT h
      obtain rfl := sj h
      exact fun j => lF 2 [0, 1, 2] (oD (dI ([] : List Int)) <| oD (dUnifySolved ([] : List UnifySolved)) <| oD (dFreeVar ([] : List FreeVar)) <| oD (dC M.parts) <| oD (dE M.rl) <| oD (dI M.own) <| oD (dI M.args) <| oD (dE M.l) <| oB 1 h14 k) (by kernel_rfl)
theorem c17 {qq : Nat} {M : Mach} {p1 : List FreeVar} {p2 : List Tm} {p3 : List Tm} {fl : Int} {fu : Int} {r : (UnifyAnswer × Int × Int × Int) ⊕ (List FreeVar × List UnifySolved × Nat × Nat × List Int × Int × Int × Int)} (h : e17 qq M p1 p2 p3 fl fu = some r) : (match (generalizing := false) r with | Sum.inl x => CT Tryz.prog 17 [.cells [.sl (flat entL M.l) (List.length M.l) .no, .mp 1 0, .sl (flat intC M.args) (List.length M.args) .no, .sl (flat intC M.own) (List.length M.own) .no], .cells [.sl (flat entL M.rl) (List.length M.rl) .no, .sl (flat conL M.parts) (List.length M.parts) .no], .cells [ai fl, ai fu]] [.mp 0 0, .sl (flat freeVarL p1) (List.length p1) .no, .sl (flat tmCells p2) (List.length p2) .no, .sl (flat tmCells p3) (List.length p3) .no, .mp 2 0] (.tup [unifyAnswerA x.1, ai x.2.1]) [.cells [.sl (flat entL M.l) (List.length M.l) .no, .mp 1 0, .sl (flat intC M.args) (List.length M.args) .no, .sl (flat intC M.own) (List.length M.own) .no], .cells [.sl (flat entL M.rl) (List.length M.rl) .no, .sl (flat conL M.parts) (List.length M.parts) .no], .cells [ai x.2.2.1, ai x.2.2.2]] 0 | Sum.inr x => CT Tryz.prog 17 [.cells [.sl (flat entL M.l) (List.length M.l) .no, .mp 1 0, .sl (flat intC M.args) (List.length M.args) .no, .sl (flat intC M.own) (List.length M.own) .no], .cells [.sl (flat entL M.rl) (List.length M.rl) .no, .sl (flat conL M.parts) (List.length M.parts) .no], .cells [ai fl, ai fu]] [.mp 0 0, .sl (flat freeVarL p1) (List.length p1) .no, .sl (flat tmCells p2) (List.length p2) .no, .sl (flat tmCells p3) (List.length p3) .no, .mp 2 0] (.tup [.agg [ab true, .sl (flat freeVarL x.1) (List.length x.1) .no, .ms 3 0 x.2.2.1 x.2.2.2.1 4, .ms 4 0 (List.length x.2.2.2.2.1) (List.length x.2.2.2.2.1) 1], ai x.2.2.2.2.2.1]) [.cells [.sl (flat entL M.l) (List.length M.l) .no, .mp 1 0, .sl (flat intC M.args) (List.length M.args) .no, .sl (flat intC M.own) (List.length M.own) .no], .cells [.sl (flat entL M.rl) (List.length M.rl) .no, .sl (flat conL M.parts) (List.length M.parts) .no], .cells [ai x.2.2.2.2.2.2.1, ai x.2.2.2.2.2.2.2], .row (flat unifySolvedL x.2.1), .row (flat intC x.2.2.2.2.1)] 0) := by
  unfold e17 at h
  obtain ⟨r1, h2, h⟩ := obind h
  rcases r1 with y4 | y3
  · dsimp only at h
    obtain rfl := sj h
    exact k17s0 (tF q17 4 [0, 1, 2] (oD (dI ([] : List Int)) <| oD (dUnifySolved ([] : List UnifySolved)) <| oD (dFreeVar ([] : List FreeVar)) <| oD (dC M.parts) <| oD (dE M.rl) <| oD (dI M.own) <| oD (dI M.args) <| oD (dE M.l) <| oC 0 [0, 1, 2] (c48 h2) o0) (by kernel_rfl))
  · dsimp only at h
    rcases r with y0 | y1
    · exact k17s0 (tH q17 3 [] [0, 1, 2, 3, 4, 5] [] [10, 12] (oD (dUnifyEquation y3.2.1) <| oD (dI ([] : List Int)) <| oD (dUnifySolved ([] : List UnifySolved)) <| oD (dFreeVar ([] : List FreeVar)) <| oD (dFreeVar y3.1) <| oD (dI ([] : List Int)) <| oD (dUnifySolved ([] : List UnifySolved)) <| oD (dFreeVar ([] : List FreeVar)) <| oD (dC M.parts) <| oD (dE M.rl) <| oD (dI M.own) <| oD (dI M.args) <| oD (dE M.l) <| oC 0 [0, 1, 2] (c48 h2) o0) (l17L20242 _ _ _ _ _ _ _ _ _ _ _ _ h) (fun j => by kernel_rfl))
    · exact k17s1 (tH q17 3 [] [0, 1, 2, 3, 4, 5] [] [10, 12] (oD (dUnifyEquation y3.2.1) <| oD (dI ([] : List Int)) <| oD (dUnifySolved ([] : List UnifySolved)) <| oD (dFreeVar ([] : List FreeVar)) <| oD (dFreeVar y3.1) <| oD (dI ([] : List Int)) <| oD (dUnifySolved ([] : List UnifySolved)) <| oD (dFreeVar ([] : List FreeVar)) <| oD (dC M.parts) <| oD (dE M.rl) <| oD (dI M.own) <| oD (dI M.args) <| oD (dE M.l) <| oC 0 [0, 1, 2] (c48 h2) o0) (l17L20242 _ _ _ _ _ _ _ _ _ _ _ _ h) (fun j => by kernel_rfl))

end Go.Proofs.YtlbmblbeccafcaaGreat

namespace Go.Proofs.YtlbmblbeccafcaaGreat
open Go Go.Ab

/- scholium/unify.start -/
def e48va5951 (qq : Nat) (p1 : List FreeVar) (p2 : List Tm) (p3 : List Tm) (q3 : Int) (q4 : Int) : Option (Unit) :=
  some ()
theorem q48va5951 : Tryz.prog.funcs[48]? = some Tryz.f48 ∧ Tryz.f48.body.isNone = false := ⟨Tryz.func48, by kernel_rfl⟩
theorem k48va5951 {p1 : List FreeVar} {p2 : List Tm} {p3 : List Tm} {q3 : Int} {q4 : Int}  (h : CTri Tryz.prog 48 [.cells [ai q3, ai q4]] [.val (.pointer none), .sl (flat freeVarL p1) (List.length p1) .no, .sl (flat tmCells p2) (List.length p2) .no, .sl (flat tmCells p3) (List.length p3) .no, .mp 0 0] (.tup [.val (.pointer none), ab false]) [.cells [ai q3, ai q4]] 0) : CT Tryz.prog 48 [.cells [ai q3, ai q4]] [.val (.pointer none), .sl (flat freeVarL p1) (List.length p1) .no, .sl (flat tmCells p2) (List.length p2) .no, .sl (flat tmCells p3) (List.length p3) .no, .mp 0 0] (.tup [.val (.pointer none), ab false]) [.cells [ai q3, ai q4]] 0 := ⟨h, ⟨trivial, ⟨trivial, dFreeVar _⟩, ⟨trivial, dT _⟩, ⟨trivial, dT _⟩, (show 0 < 1 by decide), trivial⟩, (forall_cons ⟨trivial, trivial, trivial⟩ forall_nil), ⟨trivial, trivial, trivial⟩, (forall_cons ⟨trivial, trivial, trivial⟩ forall_nil)⟩
theorem c48va5951 {qq : Nat} {p1 : List FreeVar} {p2 : List Tm} {p3 : List Tm} {q3 : Int} {q4 : Int} {r : Unit} (h : e48va5951 qq p1 p2 p3 q3 q4 = some r) : CT Tryz.prog 48 [.cells [ai q3, ai q4]] [.val (.pointer none), .sl (flat freeVarL p1) (List.length p1) .no, .sl (flat tmCells p2) (List.length p2) .no, .sl (flat tmCells p3) (List.length p3) .no, .mp 0 0] (.tup [.val (.pointer none), ab false]) [.cells [ai q3, ai q4]] 0 := by
  unfold e48va5951 at h
  obtain rfl := sj h
  exact k48va5951 (tF q48va5951 1 [0] (o0) (by kernel_rfl))

end Go.Proofs.YtlbmblbeccafcaaGreat

namespace Go.Proofs.YtlbmblbeccafcaaGreat
open Go Go.Ab

/- scholium/unify.Solve -/
def e17va5951 (qq : Nat) (p1 : List FreeVar) (p2 : List Tm) (p3 : List Tm) (q3 : Int) (q4 : Int) : Option (UnifyAnswer × Int) :=
  (e48va5951 qq p1 p2 p3 q3 q4) >>= fun r1 =>
  some ((UnifyAnswer.mk false [] [] []), 5)
theorem q17va5951 : Tryz.prog.funcs[17]? = some Tryz.f17 ∧ Tryz.f17.body.isNone = false := ⟨Tryz.func17, by kernel_rfl⟩
theorem k17va5951 {p1 : List FreeVar} {p2 : List Tm} {p3 : List Tm} {q3 : Int} {q4 : Int} {r : UnifyAnswer × Int} (h : CTri Tryz.prog 17 [.cells [ai q3, ai q4]] [.val (.pointer none), .sl (flat freeVarL p1) (List.length p1) .no, .sl (flat tmCells p2) (List.length p2) .no, .sl (flat tmCells p3) (List.length p3) .no, .mp 0 0] (.tup [unifyAnswerA r.1, ai r.2]) [.cells [ai q3, ai q4]] 0) : CT Tryz.prog 17 [.cells [ai q3, ai q4]] [.val (.pointer none), .sl (flat freeVarL p1) (List.length p1) .no, .sl (flat tmCells p2) (List.length p2) .no, .sl (flat tmCells p3) (List.length p3) .no, .mp 0 0] (.tup [unifyAnswerA r.1, ai r.2]) [.cells [ai q3, ai q4]] 0 := ⟨h, ⟨trivial, ⟨trivial, dFreeVar _⟩, ⟨trivial, dT _⟩, ⟨trivial, dT _⟩, (show 0 < 1 by decide), trivial⟩, (forall_cons ⟨trivial, trivial, trivial⟩ forall_nil), ⟨⟨trivial, dFreeVar _, dUnifySolved _, dI _, trivial⟩, trivial, trivial⟩, (forall_cons ⟨trivial, trivial, trivial⟩ forall_nil)⟩
theorem c17va5951 {qq : Nat} {p1 : List FreeVar} {p2 : List Tm} {p3 : List Tm} {q3 : Int} {q4 : Int} {r : UnifyAnswer × Int} (h : e17va5951 qq p1 p2 p3 q3 q4 = some r) : CT Tryz.prog 17 [.cells [ai q3, ai q4]] [.val (.pointer none), .sl (flat freeVarL p1) (List.length p1) .no, .sl (flat tmCells p2) (List.length p2) .no, .sl (flat tmCells p3) (List.length p3) .no, .mp 0 0] (.tup [unifyAnswerA r.1, ai r.2]) [.cells [ai q3, ai q4]] 0 := by
  unfold e17va5951 at h
  obtain ⟨r1, h2, h⟩ := obind h
  obtain rfl := sj h
  exact k17va5951 (tF q17va5951 4 [0] (oD (dI ([] : List Int)) <| oD (dUnifySolved ([] : List UnifySolved)) <| oD (dFreeVar ([] : List FreeVar)) <| oC 0 [0] (c48va5951 h2) o0) (by kernel_rfl))

end Go.Proofs.YtlbmblbeccafcaaGreat

namespace Go.Proofs.YtlbmblbeccafcaaGreat
open Go Go.Ab

/- scholium/scholiumlaw23.f -/
def e18 (qq : Nat) (p0 : Int) : Option (Tm) :=
  some (Tm.mk 8 p0 [])
theorem q18 : Tryz.prog.funcs[18]? = some Tryz.f18 ∧ Tryz.f18.body.isNone = false := ⟨Tryz.func18, by kernel_rfl⟩
theorem k18 {p0 : Int} {r : Tm} (h : CTri Tryz.prog 18 [] [ai p0] (tmA r) [] 0) : CT Tryz.prog 18 [] [ai p0] (tmA r) [] 0 := ⟨h, ⟨trivial, trivial⟩, forall_nil, ⟨trivial, trivial, dT _, trivial⟩, forall_nil⟩
theorem c18 {qq : Nat} {p0 : Int} {r : Tm} (h : e18 qq p0 = some r) : CT Tryz.prog 18 [] [ai p0] (tmA r) [] 0 := by
  unfold e18 at h
  obtain rfl := sj h
  exact k18 (tF q18 1 [] (oD (dT ([] : List Tm)) o0) (by kernel_rfl))

end Go.Proofs.YtlbmblbeccafcaaGreat

namespace Go.Proofs.YtlbmblbeccafcaaGreat
open Go Go.Ab

/- scholium/unify.Beneath -/
def e19va37379 (qq : Nat) (p1 : Tm) (p2 : Int) : Option (Bool) :=
  some false
theorem q19va37379 : Tryz.prog.funcs[19]? = some Tryz.f19 ∧ Tryz.f19.body.isNone = false := ⟨Tryz.func19, by kernel_rfl⟩
theorem k19va37379 {p1 : Tm} {p2 : Int} {r : Bool} (h : CTri Tryz.prog 19 [] [.val (.pointer none), tmA p1, ai p2] (ab r) [] 0) : CT Tryz.prog 19 [] [.val (.pointer none), tmA p1, ai p2] (ab r) [] 0 := ⟨h, ⟨trivial, ⟨trivial, trivial, ⟨trivial, dT _⟩, trivial⟩, trivial, trivial⟩, forall_nil, trivial, forall_nil⟩
theorem c19va37379 {qq : Nat} {p1 : Tm} {p2 : Int} {r : Bool} (h : e19va37379 qq p1 p2 = some r) : CT Tryz.prog 19 [] [.val (.pointer none), tmA p1, ai p2] (ab r) [] 0 := by
  unfold e19va37379 at h
  obtain rfl := sj h
  exact k19va37379 (tF q19va37379 1 [] (o0) (by kernel_rfl))

end Go.Proofs.YtlbmblbeccafcaaGreat

namespace Go.Proofs.YtlbmblbeccafcaaGreat
open Go Go.Ab

/- scholium/scholiumlaw23.awake -/
def e20 (qq : Nat)  : Option (Bool) :=
  (e15 qq 50) >>= fun r1 =>
  (e16 qq 0) >>= fun r3 =>
  (e16 qq 2) >>= fun r5 =>
  (e18 qq 1) >>= fun r7 =>
  (e23 qq r5 [r7]) >>= fun r9 =>
  (e16 qq 2) >>= fun r11 =>
  (e16 qq 1) >>= fun r13 =>
  (e23 qq r11 [r13]) >>= fun r15 =>
  (e17 qq (Mach.mk r1.1 r1.2.2.2.2.2.1 r1.2.2.2.2.2.2 r1.2.1 r1.2.2.1) [(FreeVar.mk 1 r3)] [r9] [r15] r1.2.2.2.1 r1.2.2.2.2.1) >>= fun r17 =>
  match r17 with
  | Sum.inl y19 =>
    none
  | Sum.inr y26 =>
    if (y26.2.2.2.2.2.1 == 0) = true then
      if ((y26.2.2.1 : Int) == 1) = true then
        (gchk y26.2.2.1 0) >>= fun x29 =>
        (gidx y26.2.1 (x29 : Int)) >>= fun x31 =>
        if (x31.n_ == 1) = true then
          some ((List.length y26.2.2.2.2.1 : Int) == 2)
        else
          none
      else
        none
    else
      none
theorem q20 : Tryz.prog.funcs[20]? = some Tryz.f20 ∧ Tryz.f20.body.isNone = false := ⟨Tryz.func20, by kernel_rfl⟩
theorem k20  {r : Bool} (h : CTri Tryz.prog 20 [] [] (ab r) [] 0) : CT Tryz.prog 20 [] [] (ab r) [] 0 := ⟨h, trivial, forall_nil, trivial, forall_nil⟩
theorem c20 {qq : Nat}  {r : Bool} (h : e20 qq  = some r) : CT Tryz.prog 20 [] [] (ab r) [] 0 := by
  unfold e20 at h
  obtain ⟨r1, h2, h⟩ := obind h
  obtain ⟨r3, h4, h⟩ := obind h
  obtain ⟨r5, h6, h⟩ := obind h
  obtain ⟨r7, h8, h⟩ := obind h
  obtain ⟨r9, h10, h⟩ := obind h
  obtain ⟨r11, h12, h⟩ := obind h
  obtain ⟨r13, h14, h⟩ := obind h
  obtain ⟨r15, h16, h⟩ := obind h
  obtain ⟨r17, h18, h⟩ := obind h
  have k := oS 0 (obLitR tm_eq [r15]) <| oC 0 [] (c23 h16) <| oS 0 (obLitR tm_eq [r13]) <| oC 0 [] (c16 h14) <| oC 0 [] (c16 h12) <| oS 0 (obLitR tm_eq [r9]) <| oC 0 [] (c23 h10) <| oS 0 (obLitR tm_eq [r7]) <| oC 0 [] (c18 h8) <| oC 3 [] (c16 h6) <| oC 2 [] (c16 h4) <| oC 0 [] (c15 h2) o0
  rcases r17 with y19 | y26
  · cases h
  · dsimp only at h
    have k := oC 0 [0, 2, 1] (c17 h18) k
    obtain ⟨h27, h⟩ := splT h
    have k := oB 3 h27 k
    obtain ⟨h28, h⟩ := splT h
    obtain ⟨x29, h30, h⟩ := obind h
    obtain ⟨x31, h32, h⟩ := obind h
    have k := oG (a := (ai x31.n_)) 0 (ldE codecUnifySolved h32 (false, 1) (val := ai x31.n_) rfl) <| oA 1 (ixM53 (b := 4) (c := y26.2.2.2.1) (z := 4) h30) <| oB 3 h28 k
    obtain ⟨h33, h⟩ := splT h
    obtain rfl := sj h
    exact k20 (tF q20 3 [] (oB 0 h33 k) (by kernel_rfl))

end Go.Proofs.YtlbmblbeccafcaaGreat

namespace Go.Proofs.YtlbmblbeccafcaaGreat
open Go Go.Ab

/- scholium/scholiumlaw23.UnifyRefuses -/
def e4 (qq : Nat) (p0 : U8) (p1 : Tm) : Option (Bool) :=
  (e15 qq 300) >>= fun r1 =>
  (e16 qq 0) >>= fun r3 =>
  (e18 qq (w64 (p0))) >>= fun r5 =>
  (e18 qq (w64 (p0))) >>= fun r7 =>
  (e17 qq (Mach.mk r1.1 r1.2.2.2.2.2.1 r1.2.2.2.2.2.2 r1.2.1 r1.2.2.1) [(FreeVar.mk (w64 (p0)) r3)] [r5] [r7] r1.2.2.2.1 r1.2.2.2.2.1) >>= fun r9 =>
  match r9 with
  | Sum.inl y11 =>
    (e17 qq (Mach.mk r1.1 r1.2.2.2.2.2.1 r1.2.2.2.2.2.2 r1.2.1 r1.2.2.1) [(FreeVar.mk (w64 (p0)) r3)] [r3] [r3] y11.2.2.1 y11.2.2.2) >>= fun r12 =>
    match r12 with
    | Sum.inl y14 =>
      (e18 qq 300) >>= fun r15 =>
      (e18 qq 300) >>= fun r17 =>
      (e17 qq (Mach.mk r1.1 r1.2.2.2.2.2.1 r1.2.2.2.2.2.2 r1.2.1 r1.2.2.1) [(FreeVar.mk (w64 (p0)) r3)] [r15] [r17] y14.2.2.1 y14.2.2.2) >>= fun r19 =>
      match r19 with
      | Sum.inl y21 =>
        (e17va5951 qq [(FreeVar.mk (w64 (p0)) r3)] [] [] y21.2.2.1 y21.2.2.2) >>= fun r22 =>
        (e17 qq (Mach.mk r1.1 r1.2.2.2.2.2.1 r1.2.2.2.2.2.2 r1.2.1 r1.2.2.1) [(FreeVar.mk (w64 (p0)) r3)] [p1] [] y21.2.2.1 y21.2.2.2) >>= fun r24 =>
        match r24 with
        | Sum.inl y26 =>
          if (y11.2.1 == 12) = true then
            if (y14.2.1 == 12) = true then
              if (y21.2.1 == 12) = true then
                if (r22.2 == 5) = true then
                  if (y26.2.1 == 5) = true then
                    (e19va37379 qq p1 (w64 (p0))) >>= fun r32 =>
                    if r32 = true then
                      none
                    else
                      (e20 qq) >>= fun r35 =>
                      some r35
                  else
                    none
                else
                  none
              else
                none
            else
              none
          else
            none
        | Sum.inr y37 =>
          none
      | Sum.inr y48 =>
        none
    | Sum.inr y75 =>
      none
  | Sum.inr y136 =>
    none
theorem q4 : Tryz.prog.funcs[4]? = some Tryz.f4 ∧ Tryz.f4.body.isNone = false := ⟨Tryz.func4, by kernel_rfl⟩
theorem k4 {p0 : U8} {p1 : Tm} {r : Bool} (h : CTri Tryz.prog 4 [] [.val (.int .u8 p0), tmA p1] (ab r) [] 0) : CT Tryz.prog 4 [] [.val (.int .u8 p0), tmA p1] (ab r) [] 0 := ⟨h, ⟨trivial, ⟨trivial, trivial, ⟨trivial, dT _⟩, trivial⟩, trivial⟩, forall_nil, trivial, forall_nil⟩
theorem c4 {qq : Nat} {p0 : U8} {p1 : Tm} {r : Bool} (h : e4 qq p0 p1 = some r) : CT Tryz.prog 4 [] [.val (.int .u8 p0), tmA p1] (ab r) [] 0 := by
  unfold e4 at h
  obtain ⟨r1, h2, h⟩ := obind h
  obtain ⟨r3, h4, h⟩ := obind h
  obtain ⟨r5, h6, h⟩ := obind h
  obtain ⟨r7, h8, h⟩ := obind h
  obtain ⟨r9, h10, h⟩ := obind h
  have k := oS 0 (obLitR tm_eq [r7]) <| oC 1 [] (c18 h8) <| oS 0 (obLitR tm_eq [r5]) <| oC 5 [] (c18 h6) <| oC 2 [] (c16 h4) <| oC 0 [] (c15 h2) o0
  rcases r9 with y11 | y136
  · dsimp only at h
    obtain ⟨r12, h13, h⟩ := obind h
    have k := oS 1 (obLitR tm_eq [r3]) <| oS 4 (obLitR tm_eq [r3]) <| oC 0 [1, 3, 2] (c17 h10) k
    rcases r12 with y14 | y75
    · dsimp only at h
      obtain ⟨r15, h16, h⟩ := obind h
      obtain ⟨r17, h18, h⟩ := obind h
      obtain ⟨r19, h20, h⟩ := obind h
      have k := oS 0 (obLitR tm_eq [r17]) <| oC 0 [] (c18 h18) <| oS 0 (obLitR tm_eq [r15]) <| oC 3 [] (c18 h16) <| oC 0 [1, 3, 2] (c17 h13) k
      rcases r19 with y21 | y48
      · dsimp only at h
        obtain ⟨r22, h23, h⟩ := obind h
        obtain ⟨r24, h25, h⟩ := obind h
        have k := oS 4 (obLitR tm_eq [p1]) <| oC 3 [2] (c17va5951 h23) <| oC 0 [1, 3, 2] (c17 h20) k
        rcases r24 with y26 | y37
        · dsimp only at h
          have k := oC 0 [1, 3, 2] (c17 h25) k
          obtain ⟨h27, h⟩ := splT h
          have k := oB 3 h27 k
          obtain ⟨h28, h⟩ := splT h
          have k := oB 0 h28 k
          obtain ⟨h29, h⟩ := splT h
          have k := oB 0 h29 k
          obtain ⟨h30, h⟩ := splT h
          have k := oB 0 h30 k
          obtain ⟨h31, h⟩ := splT h
          obtain ⟨r32, h33, h⟩ := obind h
          have k := oB 0 h31 k
          obtain ⟨h34, h⟩ := splF h
          obtain ⟨r35, h36, h⟩ := obind h
          obtain rfl := sj h
          exact k4 (tF q4 0 [] (oC 1 [] (c20 h36) <| oK 2 [] h34 (c19va37379 h33) k) (by kernel_rfl))
        · cases h
      · cases h
    · cases h
  · cases h

end Go.Proofs.YtlbmblbeccafcaaGreat
