/- Texts: AbF348va56346 AbF297va56346 AbF238va14356 AbF239va49771 AbF176 AbF126 AbF190 AbF136 AbF183 AbF246 AbF152va12108 AbF152va47683 AbF247 AbF248 AbF245va9901 AbF244va22335 AbF184 AbF185 AbF187 AbF250 AbF186 AbF133 AbF135 AbF138 AbF79 AbF48 AbF81va29840 AbF82va14585 AbF76 AbF127va38307 AbF299 AbF241 AbF301 AbF181va22461_242va10891_302va27343_303va22461 AbF180va30903 AbF179va42726 AbF128 AbF84va38307 AbF49va42369 AbF17 AbF92 AbF55 AbF54va27467 AbF54va53469 AbF21 AbF88va29445 AbF53va65405 AbF21va65405 AbF56 AbF22 AbF57 AbF23 AbF26 AbF29 -/
import Derived.Test.YtlbmblbeccafcaaGreatAbB3
set_option linter.unusedVariables false
set_option linter.unusedSimpArgs false

namespace Go.Proofs.YtlbmblbeccafcaaGreat
open Go Go.Ab

/- slices.IndexFunc(()scholium/free.Var,scholium/free.Var) -/
def e348va56346L11500 : Nat → (List FreeVar) → Nat → Nat → (List Int) → Int →  Option (Int)
  | 0, _, _, _, _, _ => none
  | qq + 1, q0, q1, q2, q3, v8 =>
    if decide (v8 < (q1 : Int)) = true then
      (gchk q1 v8) >>= fun x2 =>
      (gidx q0 (x2 : Int)) >>= fun x4 =>
      (e298va19760 qq x4 q3) >>= fun r6 =>
      if r6 = true then
        none
      else
        e348va56346L11500 qq q0 q1 q2 q3 (w64 (v8 + 1))
    else
      some (-1)
def e348va56346 (qq : Nat) (q0 : List FreeVar) (q1 : Nat) (q2 : Nat) (q3 : List Int) : Option (Int) :=
  e348va56346L11500 qq q0 q1 q2 q3 0
def g348va56346L11500E0 (j : Nat → Value) (q0 : List FreeVar) (q1 : Nat) (q2 : Nat) (q3 : List Int) (v8 : Int) : List AV := sp j 19 0 [(0, .ms 0 0 q1 q2 4), (1, .clo 298 [] [.mp 1 0]), (7, ai (q1 : Int)), (8, ai v8)]
def g348va56346L11500S0 (q0 : List FreeVar) (q1 : Nat) (q2 : Nat) (q3 : List Int) (v8 : Int) : LSt := ⟨[(0, .row (flat freeVarL q0)), (1, .cells [.sl (flat intC q3) (List.length q3) .no])], 2, [], 0, []⟩
theorem q348va56346 : Tryz.prog.funcs[348]? = some Tryz.f348 ∧ Tryz.f348.body.isNone = false := ⟨Tryz.func348, by kernel_rfl⟩
theorem k348va56346 {q0 : List FreeVar} {q1 : Nat} {q2 : Nat} {q3 : List Int} {r : Int} (h : CTri Tryz.prog 348 [.row (flat freeVarL q0), .cells [.sl (flat intC q3) (List.length q3) .no]] [.ms 0 0 q1 q2 4, .clo 298 [] [.mp 1 0]] (ai r) [.row (flat freeVarL q0), .cells [.sl (flat intC q3) (List.length q3) .no]] 0) : CT Tryz.prog 348 [.row (flat freeVarL q0), .cells [.sl (flat intC q3) (List.length q3) .no]] [.ms 0 0 q1 q2 4, .clo 298 [] [.mp 1 0]] (ai r) [.row (flat freeVarL q0), .cells [.sl (flat intC q3) (List.length q3) .no]] 0 := ⟨h, ⟨(show 0 < 2 by decide), ⟨trivial, ⟨(show 1 < 2 by decide), trivial⟩⟩, trivial⟩, (forall_cons (dFreeVar _) (forall_cons ⟨⟨trivial, dI _⟩, trivial⟩ forall_nil)), trivial, (forall_cons (dFreeVar _) (forall_cons ⟨dI _, trivial⟩ forall_nil))⟩
theorem l348va56346L11500 : ∀ qq : Nat, (∀ (q0 : List FreeVar) (q1 : Nat) (q2 : Nat) (q3 : List Int) (v8 : Int) (r : Int), e348va56346L11500 qq q0 q1 q2 q3 v8 = some r → (∀ j, Dl Tryz.prog 2 (inn (inn (rgt (lft (rgt (bod Tryz.f348)))))) (g348va56346L11500E0 j q0 q1 q2 q3 v8) (g348va56346L11500S0 q0 q1 q2 q3 v8) (frameQ Tryz.prog 2 (FinQ Tryz.prog 2 Tryz.f348 (ai r) [.row (flat freeVarL q0), .cells [.sl (flat intC q3) (List.length q3) .no]] 0) [.blk 0, .seq (rgt (rgt (bod Tryz.f348)))]))) := by
  intro qq
  induction qq with
  | zero =>
    exact fun _ _ _ _ _ _ h => nn h
  | succ qq ih =>
    intro q0 q1 q2 q3 v8 r h
    rw [e348va56346L11500] at h
    rcases spl h with ⟨h1, h⟩ | ⟨h1, h⟩
    · obtain ⟨x2, h3, h⟩ := obind h
      obtain ⟨x4, h5, h⟩ := obind h
      obtain ⟨r6, h7, h⟩ := obind h
      have k := oG (a := (.agg [ai x4.n_, ai x4.type_.k, ai x4.type_.n, .sl (flat tmCells x4.type_.sub) (List.length x4.type_.sub) .no])) 0 (ldE codecFreeVar h5 (true, 4) (val := .agg [ai x4.n_, ai x4.type_.k, ai x4.type_.n, .sl (flat tmCells x4.type_.sub) (List.length x4.type_.sub) .no]) rfl) <| oA 0 (ixM42 (b := 0) (c := q2) (z := 4) h3) <| oB 0 h1 o0
      obtain ⟨h8, h⟩ := splF h
      exact fun j => lH 1 [] [0, 1] [] [0, 1, 7, 8] (oD (dI q3) <| oD (dFreeVar q0) <| oK 0 [1] h8 (c298va19760 h7) k) (ih _ _ _ _ _ _ h) (fun j => by kernel_rfl)
    · obtain rfl := sj h
      exact fun j => lF 0 [0, 1] (oD (dI q3) <| oD (dFreeVar q0) <| oB 0 h1 o0) (by kernel_rfl)
theorem c348va56346 {qq : Nat} {q0 : List FreeVar} {q1 : Nat} {q2 : Nat} {q3 : List Int} {r : Int} (h : e348va56346 qq q0 q1 q2 q3 = some r) : CT Tryz.prog 348 [.row (flat freeVarL q0), .cells [.sl (flat intC q3) (List.length q3) .no]] [.ms 0 0 q1 q2 4, .clo 298 [] [.mp 1 0]] (ai r) [.row (flat freeVarL q0), .cells [.sl (flat intC q3) (List.length q3) .no]] 0 := by
  unfold e348va56346 at h
  exact k348va56346 (tH q348va56346 1 [] [0, 1] [] [0, 1, 7, 8] (oD (dI q3) <| oD (dFreeVar q0) o0) (l348va56346L11500 _ _ _ _ _ _ _ h) (fun j => by kernel_rfl))

end Go.Proofs.YtlbmblbeccafcaaGreat

namespace Go.Proofs.YtlbmblbeccafcaaGreat
open Go Go.Ab

/- slices.ContainsFunc(()scholium/free.Var,scholium/free.Var) -/
def e297va56346 (qq : Nat) (q0 : List FreeVar) (q1 : Nat) (q2 : Nat) (q3 : List Int) : Option (Bool) :=
  (e348va56346 qq q0 q1 q2 q3) >>= fun r1 =>
  some (decide (r1 ≥ 0))
theorem q297va56346 : Tryz.prog.funcs[297]? = some Tryz.f297 ∧ Tryz.f297.body.isNone = false := ⟨Tryz.func297, by kernel_rfl⟩
theorem k297va56346 {q0 : List FreeVar} {q1 : Nat} {q2 : Nat} {q3 : List Int} {r : Bool} (h : CTri Tryz.prog 297 [.row (flat freeVarL q0), .cells [.sl (flat intC q3) (List.length q3) .no]] [.ms 0 0 q1 q2 4, .clo 298 [] [.mp 1 0]] (ab r) [.row (flat freeVarL q0), .cells [.sl (flat intC q3) (List.length q3) .no]] 0) : CT Tryz.prog 297 [.row (flat freeVarL q0), .cells [.sl (flat intC q3) (List.length q3) .no]] [.ms 0 0 q1 q2 4, .clo 298 [] [.mp 1 0]] (ab r) [.row (flat freeVarL q0), .cells [.sl (flat intC q3) (List.length q3) .no]] 0 := ⟨h, ⟨(show 0 < 2 by decide), ⟨trivial, ⟨(show 1 < 2 by decide), trivial⟩⟩, trivial⟩, (forall_cons (dFreeVar _) (forall_cons ⟨⟨trivial, dI _⟩, trivial⟩ forall_nil)), trivial, (forall_cons (dFreeVar _) (forall_cons ⟨dI _, trivial⟩ forall_nil))⟩
theorem c297va56346 {qq : Nat} {q0 : List FreeVar} {q1 : Nat} {q2 : Nat} {q3 : List Int} {r : Bool} (h : e297va56346 qq q0 q1 q2 q3 = some r) : CT Tryz.prog 297 [.row (flat freeVarL q0), .cells [.sl (flat intC q3) (List.length q3) .no]] [.ms 0 0 q1 q2 4, .clo 298 [] [.mp 1 0]] (ab r) [.row (flat freeVarL q0), .cells [.sl (flat intC q3) (List.length q3) .no]] 0 := by
  unfold e297va56346 at h
  obtain ⟨r1, h2, h⟩ := obind h
  obtain rfl := sj h
  exact k297va56346 (tF q297va56346 1 [0, 1] (oD (dI q3) <| oD (dFreeVar q0) <| oC 0 [0, 1] (c348va56346 h2) o0) (by kernel_rfl))

end Go.Proofs.YtlbmblbeccafcaaGreat

namespace Go.Proofs.YtlbmblbeccafcaaGreat
open Go Go.Ab

/- scholium/free.ready -/
def e238va14356L1548 (qq : Nat) (q0 : List FreeVar) (q1 : Nat) (q2 : Nat) (v9 : Int) : Option (Int) :=
  if decide (v9 < (q1 : Int)) = true then
    (gchk q1 v9) >>= fun x2 =>
    (gidx q0 (x2 : Int)) >>= fun x4 =>
    (e71 qq x4.type_) >>= fun r6 =>
    (e297va56346 qq q0 q1 q2 r6) >>= fun r8 =>
    if r8 = true then
      none
    else
      some v9
  else
    none
def e238va14356 (qq : Nat) (q0 : List FreeVar) (q1 : Nat) (q2 : Nat) : Option (Int) :=
  e238va14356L1548 qq q0 q1 q2 0
def g238va14356L1548E0 (j : Nat → Value) (q0 : List FreeVar) (q1 : Nat) (q2 : Nat) (v9 : Int) : List AV := sp j 24 0 [(0, .ms 0 0 q1 q2 4), (7, .ms 0 0 q1 q2 4), (8, ai (q1 : Int)), (9, ai v9)]
def g238va14356L1548S0 (q0 : List FreeVar) (q1 : Nat) (q2 : Nat) (v9 : Int) : LSt := ⟨[(0, .row (flat freeVarL q0))], 1, [], 0, []⟩
theorem q238va14356 : Tryz.prog.funcs[238]? = some Tryz.f238 ∧ Tryz.f238.body.isNone = false := ⟨Tryz.func238, by kernel_rfl⟩
theorem k238va14356 {q0 : List FreeVar} {q1 : Nat} {q2 : Nat} {r : Int} (h : CTri Tryz.prog 238 [.row (flat freeVarL q0)] [.ms 0 0 q1 q2 4] (ai r) [.row (flat freeVarL q0)] 0) : CT Tryz.prog 238 [.row (flat freeVarL q0)] [.ms 0 0 q1 q2 4] (ai r) [.row (flat freeVarL q0)] 0 := ⟨h, ⟨(show 0 < 1 by decide), trivial⟩, (forall_cons (dFreeVar _) forall_nil), trivial, (forall_cons (dFreeVar _) forall_nil)⟩
theorem l238va14356L1548 (qq : Nat) (q0 : List FreeVar) (q1 : Nat) (q2 : Nat) (v9 : Int) (r : Int) (h : e238va14356L1548 qq q0 q1 q2 v9 = some r) : (∀ j, Dl Tryz.prog 1 (inn (inn (rgt (lft (rgt (bod Tryz.f238)))))) (g238va14356L1548E0 j q0 q1 q2 v9) (g238va14356L1548S0 q0 q1 q2 v9) (frameQ Tryz.prog 1 (FinQ Tryz.prog 1 Tryz.f238 (ai r) [.row (flat freeVarL q0)] 0) [.blk 0, .seq (rgt (rgt (bod Tryz.f238)))])) := by
  unfold e238va14356L1548 at h
  obtain ⟨h1, h⟩ := splT h
  obtain ⟨x2, h3, h⟩ := obind h
  obtain ⟨x4, h5, h⟩ := obind h
  obtain ⟨r6, h7, h⟩ := obind h
  obtain ⟨r8, h9, h⟩ := obind h
  have k := oC 2 [] (c71 h7) <| oG (a := (.agg [ai x4.n_, ai x4.type_.k, ai x4.type_.n, .sl (flat tmCells x4.type_.sub) (List.length x4.type_.sub) .no])) 0 (ldE codecFreeVar h5 (true, 4) (val := .agg [ai x4.n_, ai x4.type_.k, ai x4.type_.n, .sl (flat tmCells x4.type_.sub) (List.length x4.type_.sub) .no]) rfl) <| oA 0 (ixM42 (b := 0) (c := q2) (z := 4) h3) <| oB 0 h1 o0
  obtain ⟨h10, h⟩ := splF h
  obtain rfl := sj h
  exact fun j => lF 1 [0] (oD (dFreeVar q0) <| oK 1 [0, 2] h10 (c297va56346 h9) k) (by kernel_rfl)
theorem c238va14356 {qq : Nat} {q0 : List FreeVar} {q1 : Nat} {q2 : Nat} {r : Int} (h : e238va14356 qq q0 q1 q2 = some r) : CT Tryz.prog 238 [.row (flat freeVarL q0)] [.ms 0 0 q1 q2 4] (ai r) [.row (flat freeVarL q0)] 0 := by
  unfold e238va14356 at h
  exact k238va14356 (tH q238va14356 1 [] [0] [] [0, 7, 8, 9] (oD (dFreeVar q0) o0) (l238va14356L1548 qq _ _ _ _ _ h) (fun j => by kernel_rfl))

end Go.Proofs.YtlbmblbeccafcaaGreat

namespace Go.Proofs.YtlbmblbeccafcaaGreat
open Go Go.Ab

/- slices.Delete(()scholium/free.Var,scholium/free.Var) -/
def e239va49771 (qq : Nat) (q0 : List FreeVar) (q1 : Nat) (q2 : Nat) (p1 : Int) (p2 : Int) : Option (List FreeVar × Nat × Nat) :=
  (gcut q1 p1 p2) >>= fun x1 =>
  if (p1 == p2) = true then
    none
  else
    (gcut q2 0 p1) >>= fun x4 =>
    (gcut q1 p2 (q1 : Int)) >>= fun x6 =>
    (gpart q0 (0 + x6.1) x6.2) >>= fun m8 =>
    (ginp q2 x4.2 q0 m8) >>= fun l10 =>
    (gcut q2 ((x4.2 + x6.2) : Int) (q1 : Int)) >>= fun x12 =>
    (gle (List.length l10) (0 + x12.1)) >>= fun x14 =>
    some (l10, (x4.2 + x6.2), q2)
theorem q239va49771 : Tryz.prog.funcs[239]? = some Tryz.f239 ∧ Tryz.f239.body.isNone = false := ⟨Tryz.func239, by kernel_rfl⟩
theorem k239va49771 {q0 : List FreeVar} {q1 : Nat} {q2 : Nat} {p1 : Int} {p2 : Int} {r : List FreeVar × Nat × Nat} (h : CTri Tryz.prog 239 [.row (flat freeVarL q0)] [.ms 0 0 q1 q2 4, ai p1, ai p2] (.ms 0 0 r.2.1 r.2.2 4) [.row (flat freeVarL r.1)] 0) : CT Tryz.prog 239 [.row (flat freeVarL q0)] [.ms 0 0 q1 q2 4, ai p1, ai p2] (.ms 0 0 r.2.1 r.2.2 4) [.row (flat freeVarL r.1)] 0 := ⟨h, ⟨(show 0 < 1 by decide), trivial, trivial, trivial⟩, (forall_cons (dFreeVar _) forall_nil), (show 0 < 1 by decide), (forall_cons (dFreeVar _) forall_nil)⟩
theorem c239va49771 {qq : Nat} {q0 : List FreeVar} {q1 : Nat} {q2 : Nat} {p1 : Int} {p2 : Int} {r : List FreeVar × Nat × Nat} (h : e239va49771 qq q0 q1 q2 p1 p2 = some r) : CT Tryz.prog 239 [.row (flat freeVarL q0)] [.ms 0 0 q1 q2 4, ai p1, ai p2] (.ms 0 0 r.2.1 r.2.2 4) [.row (flat freeVarL r.1)] 0 := by
  unfold e239va49771 at h
  obtain ⟨x1, h2, h⟩ := obind h
  have k := oA 1 (slM3_42 (b := 0) (o := 0) (c := q2) h2) o0
  obtain ⟨h3, h⟩ := splF h
  obtain ⟨x4, h5, h⟩ := obind h
  obtain ⟨x6, h7, h⟩ := obind h
  obtain ⟨m8, h9, h⟩ := obind h
  obtain ⟨l10, h11, h⟩ := obind h
  obtain ⟨x12, h13, h⟩ := obind h
  obtain ⟨x14, h15, h⟩ := obind h
  obtain rfl := sj h
  exact k239va49771 (tF q239va49771 0 [0] (oD (dFreeVar l10) <| oR 0 (clr42 h15) <| oA 1 (slM42 (b := 0) (o := 0) (n := (x4.2 + x6.2)) h13) <| oI 0 (apIP42 h9 h11) <| oA 0 (slMFrom42 (b := 0) (o := 0) (c := q2) h7) <| oA 1 (slMTo42 (b := 0) (off := 0) (n := q1) h5) <| oB 0 h3 k) (by kernel_rfl))

end Go.Proofs.YtlbmblbeccafcaaGreat

namespace Go.Proofs.YtlbmblbeccafcaaGreat
open Go Go.Ab

/- scholium/free.Order -/
def e176L38225 (qq : Nat) (v6 : List FreeVar) : Option (List FreeVar × Int) :=
  some (v6, 0)
def e176L11670 : Nat → (List FreeVar) → Nat → Nat → (List FreeVar) →  Option (List FreeVar × Int)
  | 0, _, _, _, _ => none
  | qq + 1, v6, v7_c, v7_n, vb0_0 =>
    if decide ((v7_n : Int) > 0) = true then
      (e238va14356 qq vb0_0 v7_n v7_c) >>= fun r9 =>
      if decide (r9 < 0) = true then
        none
      else
        (gchk v7_n r9) >>= fun x12 =>
        (gidx vb0_0 (x12 : Int)) >>= fun x14 =>
        (e50 qq x14.type_) >>= fun r16 =>
        (gapp 48 v6 [(FreeVar.mk x14.n_ r16)]) >>= fun l18 =>
        (e239va49771 qq vb0_0 v7_n v7_c r9 (w64 (r9 + 1))) >>= fun r20 =>
        e176L11670 qq l18 r20.2.2 r20.2.1 r20.1
    else
      some (v6, 0)
def e176 (qq : Nat) (p0 : List FreeVar) : Option (List FreeVar × Int) :=
  (e121 qq p0) >>= fun r1 =>
  if ((List.length r1 : Int) != (List.length p0 : Int)) = true then
    none
  else
    (e137vr qq p0) >>= fun r4 =>
    match r4 with
    | Sum.inl y6 =>
      e176L38225 qq []
    | Sum.inr y7 =>
      e176L11670 qq [] (List.length y7) (List.length y7) y7
def g176L38225E0 (j : Nat → Value) (v6 : List FreeVar) : List AV := sp j 51 0 [(6, .sl (flat freeVarL v6) (List.length v6) .nl), (7, .sl (flat freeVarL ([] : List FreeVar)) (List.length ([] : List FreeVar)) .full)]
def g176L38225S0 (v6 : List FreeVar) : LSt := ⟨[], 0, [], 0, []⟩
def g176L11670E0 (j : Nat → Value) (v6 : List FreeVar) (v7_c : Nat) (v7_n : Nat) (vb0_0 : List FreeVar) : List AV := sp j 51 0 [(6, .sl (flat freeVarL v6) (List.length v6) (.st 0 4)), (7, .ms 0 0 v7_n v7_c 4)]
def g176L11670S0 (v6 : List FreeVar) (v7_c : Nat) (v7_n : Nat) (vb0_0 : List FreeVar) : LSt := ⟨[(0, .row (flat freeVarL vb0_0))], 1, [0], 1, []⟩
theorem q176 : Tryz.prog.funcs[176]? = some Tryz.f176 ∧ Tryz.f176.body.isNone = false := ⟨Tryz.func176, by kernel_rfl⟩
theorem k176 {p0 : List FreeVar} {r : List FreeVar × Int} (h : CTri Tryz.prog 176 [] [.sl (flat freeVarL p0) (List.length p0) .no] (.tup [.sl (flat freeVarL r.1) (List.length r.1) .no, ai r.2]) [] 0) : CT Tryz.prog 176 [] [.sl (flat freeVarL p0) (List.length p0) .no] (.tup [.sl (flat freeVarL r.1) (List.length r.1) .no, ai r.2]) [] 0 := ⟨h, ⟨⟨trivial, dFreeVar _⟩, trivial⟩, forall_nil, ⟨dFreeVar _, trivial, trivial⟩, forall_nil⟩
theorem l176L38225 (qq : Nat) (v6 : List FreeVar) (r : List FreeVar × Int) (h : e176L38225 qq v6 = some r) : (∀ j, Dl Tryz.prog 0 (inn (inn (rgt (lft (rgt (rgt (rgt (rgt (rgt (bod Tryz.f176)))))))))) (g176L38225E0 j v6) (g176L38225S0 v6) (frameQ Tryz.prog 0 (FinQ Tryz.prog 0 Tryz.f176 (.tup [.sl (flat freeVarL r.1) (List.length r.1) .no, ai r.2]) [] 0) [.blk 0, .seq (rgt (rgt (rgt (rgt (rgt (rgt (bod Tryz.f176)))))))])) := by
  unfold e176L38225 at h
  obtain rfl := sj h
  exact fun j => lF 2 [] (oD (dFreeVar v6) o0) (by kernel_rfl)
theorem l176L11670 : ∀ qq : Nat, (∀ (v6 : List FreeVar) (v7_c : Nat) (v7_n : Nat) (vb0_0 : List FreeVar) (r : List FreeVar × Int), e176L11670 qq v6 v7_c v7_n vb0_0 = some r → (∀ j, Dl Tryz.prog 0 (inn (inn (rgt (lft (rgt (rgt (rgt (rgt (rgt (bod Tryz.f176)))))))))) (g176L11670E0 j v6 v7_c v7_n vb0_0) (g176L11670S0 v6 v7_c v7_n vb0_0) (frameQ Tryz.prog 0 (FinQ Tryz.prog 0 Tryz.f176 (.tup [.sl (flat freeVarL r.1) (List.length r.1) .no, ai r.2]) [] 0) [.blk 0, .seq (rgt (rgt (rgt (rgt (rgt (rgt (bod Tryz.f176)))))))]))) := by
  intro qq
  induction qq with
  | zero =>
    exact fun _ _ _ _ _ h => nn h
  | succ qq ih =>
    intro v6 v7_c v7_n vb0_0 r h
    rw [e176L11670] at h
    rcases spl h with ⟨h8, h⟩ | ⟨h8, h⟩
    · obtain ⟨r9, h10, h⟩ := obind h
      have k := oC 0 [0] (c238va14356 h10) <| oB 1 h8 o0
      obtain ⟨h11, h⟩ := splF h
      obtain ⟨x12, h13, h⟩ := obind h
      obtain ⟨x14, h15, h⟩ := obind h
      obtain ⟨r16, h17, h⟩ := obind h
      obtain ⟨l18, h19, h⟩ := obind h
      obtain ⟨r20, h21, h⟩ := obind h
      exact fun j => lH 0 [] [0] [1] [6, 7] (oD (dFreeVar l18) <| oD (dFreeVar r20.1) <| oC 1 [0] (c239va49771 h21) <| oP 1 (apS42 h19 (by simp)) <| oC 0 [] (c50 h17) <| oG (a := (.agg [ai x14.type_.k, ai x14.type_.n, .sl (flat tmCells x14.type_.sub) (List.length x14.type_.sub) .no])) 0 (ldF codecFreeVar h15 1 (true, 3) (val := .agg [ai x14.type_.k, ai x14.type_.n, .sl (flat tmCells x14.type_.sub) (List.length x14.type_.sub) .no]) rfl) <| oA 0 (ixM42 (b := 0) (c := v7_c) (z := 4) h13) <| oG (a := (ai x14.n_)) 0 (ldE codecFreeVar h15 (false, 1) (val := ai x14.n_) rfl) <| oA 0 (ixM42 (b := 0) (c := v7_c) (z := 4) h13) <| oB 0 h11 k) (ih _ _ _ _ _ h) (fun j => by kernel_rfl)
    · obtain rfl := sj h
      exact fun j => lF 0 [] (oD (dFreeVar v6) <| oB 1 h8 o0) (by kernel_rfl)
theorem c176 {qq : Nat} {p0 : List FreeVar} {r : List FreeVar × Int} (h : e176 qq p0 = some r) : CT Tryz.prog 176 [] [.sl (flat freeVarL p0) (List.length p0) .no] (.tup [.sl (flat freeVarL r.1) (List.length r.1) .no, ai r.2]) [] 0 := by
  unfold e176 at h
  obtain ⟨r1, h2, h⟩ := obind h
  have k := oN 3 (lnI91 r1) <| oC 0 [] (c121 h2) o0
  obtain ⟨h3, h⟩ := splF h
  obtain ⟨r4, h5, h⟩ := obind h
  have k := oB 1 h3 k
  rcases r4 with y6 | y7
  · dsimp only at h
    exact k176 (tH q176 0 [] [] [] [6, 7] (oD (dFreeVar ([] : List FreeVar)) <| oD (dFreeVar ([] : List FreeVar)) <| oC 0 [] (c137vr h5) k) (l176L38225 qq _ _ h) (fun j => by kernel_rfl))
  · dsimp only at h
    exact k176 (tH q176 0 [(none, 6, 4)] [1] [0] [6, 7] (oD (dFreeVar ([] : List FreeVar)) <| oD (dFreeVar y7) <| oC 0 [] (c137vr h5) k) (l176L11670 _ _ _ _ _ _ h) (fun j => by kernel_rfl))

end Go.Proofs.YtlbmblbeccafcaaGreat

namespace Go.Proofs.YtlbmblbeccafcaaGreat
open Go Go.Ab

/- scholium/free.Put -/
def e126L35053 : Nat → (List FreeVar) → Int → Tm → Int → (List FreeVar) →  Option (List FreeVar × Int)
  | 0, _, _, _, _, _ => none
  | qq + 1, p0, p1, p2, v37, v8 =>
    if decide (v37 < (List.length p0 : Int)) = true then
      (gidx p0 v37) >>= fun x21 =>
      if (x21.n_ == p1) = true then
        e126L35053 qq p0 p1 p2 (w64 (v37 + 1)) v8
      else
        (e117 qq x21.type_ p2 p1) >>= fun r24 =>
        if (r24.2 != 0) = true then
          none
        else
          (gapp 48 v8 [(FreeVar.mk x21.n_ r24.1)]) >>= fun l27 =>
          e126L35053 qq p0 p1 p2 (w64 (v37 + 1)) l27
    else
      (e176 qq v8) >>= fun r29 =>
      some (r29.1, r29.2)
def e126 (qq : Nat) (p0 : List FreeVar) (p1 : Int) (p2 : Tm) : Option (List FreeVar × Int) :=
  (e78 qq p0) >>= fun r1 =>
  if r1 = true then
    (e51 qq p2) >>= fun r4 =>
    if r4 = true then
      (e70 qq p2) >>= fun r7 =>
      if decide (r7 > 0) = true then
        none
      else
        (e139 qq p0) >>= fun r10 =>
        (e91 qq r10 p1) >>= fun r12 =>
        if r12 = true then
          (e71 qq p2) >>= fun r15 =>
          (e91 qq r15 p1) >>= fun r17 =>
          if r17 = true then
            none
          else
            e126L35053 qq p0 p1 p2 0 []
        else
          none
    else
      none
  else
    none
def g126L35053E0 (j : Nat → Value) (p0 : List FreeVar) (p1 : Int) (p2 : Tm) (v37 : Int) (v8 : List FreeVar) : List AV := sp j 68 0 [(1, ai p1), (5, .mp 0 0), (8, .sl (flat freeVarL v8) (List.length v8) (.st 0 4)), (35, .sl (flat freeVarL p0) (List.length p0) .no), (36, ai (List.length p0 : Int)), (37, ai v37)]
def g126L35053S0 (p0 : List FreeVar) (p1 : Int) (p2 : Tm) (v37 : Int) (v8 : List FreeVar) : LSt := ⟨[(0, .cells [ai p2.k, ai p2.n, .sl (flat tmCells p2.sub) (List.length p2.sub) .no])], 1, [0], 1, []⟩
theorem q126 : Tryz.prog.funcs[126]? = some Tryz.f126 ∧ Tryz.f126.body.isNone = false := ⟨Tryz.func126, by kernel_rfl⟩
theorem k126 {p0 : List FreeVar} {p1 : Int} {p2 : Tm} {r : List FreeVar × Int} (h : CTri Tryz.prog 126 [] [.sl (flat freeVarL p0) (List.length p0) .no, ai p1, tmA p2] (.tup [.sl (flat freeVarL r.1) (List.length r.1) .no, ai r.2]) [] 0) : CT Tryz.prog 126 [] [.sl (flat freeVarL p0) (List.length p0) .no, ai p1, tmA p2] (.tup [.sl (flat freeVarL r.1) (List.length r.1) .no, ai r.2]) [] 0 := ⟨h, ⟨⟨trivial, dFreeVar _⟩, trivial, ⟨trivial, trivial, ⟨trivial, dT _⟩, trivial⟩, trivial⟩, forall_nil, ⟨dFreeVar _, trivial, trivial⟩, forall_nil⟩
theorem l126L35053 : ∀ qq : Nat, (∀ (p0 : List FreeVar) (p1 : Int) (p2 : Tm) (v37 : Int) (v8 : List FreeVar) (r : List FreeVar × Int), e126L35053 qq p0 p1 p2 v37 v8 = some r → (∀ j, Dl Tryz.prog 0 (inn (inn (rgt (lft (rgt (rgt (rgt (rgt (rgt (bod Tryz.f126)))))))))) (g126L35053E0 j p0 p1 p2 v37 v8) (g126L35053S0 p0 p1 p2 v37 v8) (frameQ Tryz.prog 0 (FinQ Tryz.prog 0 Tryz.f126 (.tup [.sl (flat freeVarL r.1) (List.length r.1) .no, ai r.2]) [] 0) [.blk 0, .seq (rgt (rgt (rgt (rgt (rgt (rgt (bod Tryz.f126)))))))]))) := by
  intro qq
  induction qq with
  | zero =>
    exact fun _ _ _ _ _ _ h => nn h
  | succ qq ih =>
    intro p0 p1 p2 v37 v8 r h
    rw [e126L35053] at h
    rcases spl h with ⟨h20, h⟩ | ⟨h20, h⟩
    · obtain ⟨x21, h22, h⟩ := obind h
      have k := oA 0 (ix42 (o := .no) h22) <| oB 0 h20 o0
      rcases spl h with ⟨h23, h⟩ | ⟨h23, h⟩
      · exact fun j => lH 1 [] [0] [0] [1, 5, 8, 35, 36, 37] (oD (dFreeVar p0) <| oD (dFreeVar v8) <| oD (dT p2.sub) <| oB 3 h23 k) (ih _ _ _ _ _ _ h) (fun j => by kernel_rfl)
      · obtain ⟨r24, h25, h⟩ := obind h
        have k := oC 2 [] (c117 h25) <| oB 3 h23 k
        obtain ⟨h26, h⟩ := splF h
        obtain ⟨l27, h28, h⟩ := obind h
        exact fun j => lH 1 [] [0] [1] [1, 5, 8, 35, 36, 37] (oD (dFreeVar p0) <| oD (dFreeVar l27) <| oD (dT p2.sub) <| oP 3 (apS42 h28 (by simp)) <| oB 3 h26 k) (ih _ _ _ _ _ _ h) (fun j => by kernel_rfl)
    · obtain ⟨r29, h30, h⟩ := obind h
      obtain rfl := sj h
      exact fun j => lF 2 [] (oD (dFreeVar r29.1) <| oC 0 [] (c176 h30) <| oB 0 h20 o0) (by kernel_rfl)
theorem c126 {qq : Nat} {p0 : List FreeVar} {p1 : Int} {p2 : Tm} {r : List FreeVar × Int} (h : e126 qq p0 p1 p2 = some r) : CT Tryz.prog 126 [] [.sl (flat freeVarL p0) (List.length p0) .no, ai p1, tmA p2] (.tup [.sl (flat freeVarL r.1) (List.length r.1) .no, ai r.2]) [] 0 := by
  unfold e126 at h
  obtain ⟨r1, h2, h⟩ := obind h
  obtain ⟨h3, h⟩ := splT h
  obtain ⟨r4, h5, h⟩ := obind h
  have k := oK 0 [] h3 (c78 h2) o0
  obtain ⟨h6, h⟩ := splT h
  obtain ⟨r7, h8, h⟩ := obind h
  have k := oC 2 [] (c70 h8) <| oK 2 [] h6 (c51 h5) k
  obtain ⟨h9, h⟩ := splF h
  obtain ⟨r10, h11, h⟩ := obind h
  obtain ⟨r12, h13, h⟩ := obind h
  have k := oC 0 [] (c139 h11) <| oB 0 h9 k
  obtain ⟨h14, h⟩ := splT h
  obtain ⟨r15, h16, h⟩ := obind h
  obtain ⟨r17, h18, h⟩ := obind h
  have k := oC 2 [] (c71 h16) <| oK 0 [] h14 (c91 h13) k
  obtain ⟨h19, h⟩ := splF h
  exact k126 (tH q126 1 [(none, 8, 4)] [0] [0] [1, 5, 8, 35, 36, 37] (oD (dFreeVar p0) <| oD (dFreeVar ([] : List FreeVar)) <| oD (dT p2.sub) <| oK 0 [] h19 (c91 h18) k) (l126L35053 _ _ _ _ _ _ _ h) (fun j => by kernel_rfl))

end Go.Proofs.YtlbmblbeccafcaaGreat

namespace Go.Proofs.YtlbmblbeccafcaaGreat
open Go Go.Ab

/- scholium/term.Free -/
def e190 (qq : Nat) (p0 : Int) : Option (Tm) :=
  (e189 qq 8 p0 []) >>= fun r1 =>
  some r1
theorem q190 : Tryz.prog.funcs[190]? = some Tryz.f190 ∧ Tryz.f190.body.isNone = false := ⟨Tryz.func190, by kernel_rfl⟩
theorem k190 {p0 : Int} {r : Tm} (h : CTri Tryz.prog 190 [] [ai p0] (tmA r) [] 0) : CT Tryz.prog 190 [] [ai p0] (tmA r) [] 0 := ⟨h, ⟨trivial, trivial⟩, forall_nil, ⟨trivial, trivial, dT _, trivial⟩, forall_nil⟩
theorem c190 {qq : Nat} {p0 : Int} {r : Tm} (h : e190 qq p0 = some r) : CT Tryz.prog 190 [] [ai p0] (tmA r) [] 0 := by
  unfold e190 at h
  obtain ⟨r1, h2, h⟩ := obind h
  obtain rfl := sj h
  exact k190 (tF q190 1 [] (oD (dT r1.sub) <| oC 0 [] (c189 h2) o0) (by kernel_rfl))

end Go.Proofs.YtlbmblbeccafcaaGreat

namespace Go.Proofs.YtlbmblbeccafcaaGreat
open Go Go.Ab

/- scholium/free.Terms -/
def e136L40827 : Nat → (List FreeVar) → (List Tm) → Int →  Option (List Tm)
  | 0, _, _, _ => none
  | qq + 1, p0, v3, v8 =>
    if decide (v8 < (List.length p0 : Int)) = true then
      (gidx p0 v8) >>= fun x2 =>
      (e190 qq x2.n_) >>= fun r4 =>
      (gapp 40 v3 [r4]) >>= fun l6 =>
      e136L40827 qq p0 l6 (w64 (v8 + 1))
    else
      some v3
def e136 (qq : Nat) (p0 : List FreeVar) : Option (List Tm) :=
  e136L40827 qq p0 [] 0
def g136L40827E0 (j : Nat → Value) (p0 : List FreeVar) (v3 : List Tm) (v8 : Int) : List AV := sp j 20 0 [(3, .sl (flat tmCells v3) (List.length v3) (.st 0 3)), (6, .sl (flat freeVarL p0) (List.length p0) .no), (7, ai (List.length p0 : Int)), (8, ai v8)]
def g136L40827S0 (p0 : List FreeVar) (v3 : List Tm) (v8 : Int) : LSt := ⟨[], 0, [0], 1, []⟩
theorem q136 : Tryz.prog.funcs[136]? = some Tryz.f136 ∧ Tryz.f136.body.isNone = false := ⟨Tryz.func136, by kernel_rfl⟩
theorem k136 {p0 : List FreeVar} {r : List Tm} (h : CTri Tryz.prog 136 [] [.sl (flat freeVarL p0) (List.length p0) .no] (.sl (flat tmCells r) (List.length r) .no) [] 0) : CT Tryz.prog 136 [] [.sl (flat freeVarL p0) (List.length p0) .no] (.sl (flat tmCells r) (List.length r) .no) [] 0 := ⟨h, ⟨⟨trivial, dFreeVar _⟩, trivial⟩, forall_nil, dT _, forall_nil⟩
theorem l136L40827 : ∀ qq : Nat, (∀ (p0 : List FreeVar) (v3 : List Tm) (v8 : Int) (r : List Tm), e136L40827 qq p0 v3 v8 = some r → (∀ j, Dl Tryz.prog 0 (inn (inn (rgt (lft (rgt (rgt (bod Tryz.f136))))))) (g136L40827E0 j p0 v3 v8) (g136L40827S0 p0 v3 v8) (frameQ Tryz.prog 0 (FinQ Tryz.prog 0 Tryz.f136 (.sl (flat tmCells r) (List.length r) .no) [] 0) [.blk 0, .seq (rgt (rgt (rgt (bod Tryz.f136))))]))) := by
  intro qq
  induction qq with
  | zero =>
    exact fun _ _ _ _ h => nn h
  | succ qq ih =>
    intro p0 v3 v8 r h
    rw [e136L40827] at h
    rcases spl h with ⟨h1, h⟩ | ⟨h1, h⟩
    · obtain ⟨x2, h3, h⟩ := obind h
      obtain ⟨r4, h5, h⟩ := obind h
      obtain ⟨l6, h7, h⟩ := obind h
      exact fun j => lH 1 [] [] [1] [3, 6, 7, 8] (oD (dFreeVar p0) <| oD (dT l6) <| oP 0 (apS22 h7 (by simp)) <| oS 0 (obLitR tm_eq [r4]) <| oC 3 [] (c190 h5) <| oA 0 (ix42 (o := .no) h3) <| oB 0 h1 o0) (ih _ _ _ _ h) (fun j => by kernel_rfl)
    · obtain rfl := sj h
      exact fun j => lF 0 [] (oD (dT v3) <| oB 0 h1 o0) (by kernel_rfl)
theorem c136 {qq : Nat} {p0 : List FreeVar} {r : List Tm} (h : e136 qq p0 = some r) : CT Tryz.prog 136 [] [.sl (flat freeVarL p0) (List.length p0) .no] (.sl (flat tmCells r) (List.length r) .no) [] 0 := by
  unfold e136 at h
  exact k136 (tH q136 1 [(none, 3, 3)] [] [0] [3, 6, 7, 8] (oD (dFreeVar p0) <| oD (dT ([] : List Tm)) o0) (l136L40827 _ _ _ _ _ h) (fun j => by kernel_rfl))

end Go.Proofs.YtlbmblbeccafcaaGreat

namespace Go.Proofs.YtlbmblbeccafcaaGreat
open Go Go.Ab

/- scholium/sign.Parts -/
def e183 (qq : Nat) (p0 : List Ent) (p1 : Int) : Option (Con' × Int) :=
  (e58 qq p0) >>= fun r1 =>
  if r1 = true then
    (e96 qq p0 p1 2) >>= fun r4 =>
    if r4 = true then
      (e113 qq p0 p1) >>= fun r7 =>
      some (r7, 0)
    else
      none
  else
    none
theorem q183 : Tryz.prog.funcs[183]? = some Tryz.f183 ∧ Tryz.f183.body.isNone = false := ⟨Tryz.func183, by kernel_rfl⟩
theorem k183 {p0 : List Ent} {p1 : Int} {r : Con' × Int} (h : CTri Tryz.prog 183 [] [.sl (flat entL p0) (List.length p0) .no, ai p1] (.tup [conA r.1, ai r.2]) [] 0) : CT Tryz.prog 183 [] [.sl (flat entL p0) (List.length p0) .no, ai p1] (.tup [conA r.1, ai r.2]) [] 0 := ⟨h, ⟨⟨trivial, dE _⟩, trivial, trivial⟩, forall_nil, ⟨⟨dT _, dT _, dR _, trivial⟩, trivial, trivial⟩, forall_nil⟩
theorem c183 {qq : Nat} {p0 : List Ent} {p1 : Int} {r : Con' × Int} (h : e183 qq p0 p1 = some r) : CT Tryz.prog 183 [] [.sl (flat entL p0) (List.length p0) .no, ai p1] (.tup [conA r.1, ai r.2]) [] 0 := by
  unfold e183 at h
  obtain ⟨r1, h2, h⟩ := obind h
  obtain ⟨h3, h⟩ := splT h
  obtain ⟨r4, h5, h⟩ := obind h
  have k := oK 0 [] h3 (c58 h2) o0
  obtain ⟨h6, h⟩ := splT h
  obtain ⟨r7, h8, h⟩ := obind h
  obtain rfl := sj h
  exact k183 (tF q183 1 [] (oD (dR r7.recs) <| oD (dT r7.inds) <| oD (dT r7.args) <| oC 1 [] (c113 h8) <| oK 1 [] h6 (c96 h5) k) (by kernel_rfl))

end Go.Proofs.YtlbmblbeccafcaaGreat

namespace Go.Proofs.YtlbmblbeccafcaaGreat
open Go Go.Ab

/- scholium/lift.All -/
def e246L59845 (qq : Nat) (p0 : List Tm) (p1 : Int) (p2 : Int) (v15 : Int) (v8 : List Tm) : Option (List Tm × Int) :=
  if decide (v15 < (List.length p0 : Int)) = true then
    none
  else
    some (v8, 0)
def e246 (qq : Nat) (p0 : List Tm) (p1 : Int) (p2 : Int) : Option (List Tm × Int) :=
  e246L59845 qq p0 p1 p2 0 []
def g246L59845E0 (j : Nat → Value) (p0 : List Tm) (p1 : Int) (p2 : Int) (v15 : Int) (v8 : List Tm) : List AV := sp j 35 0 [(1, ai p1), (2, ai p2), (8, .sl (flat tmCells v8) (List.length v8) (.st 0 3)), (13, .sl (flat tmCells p0) (List.length p0) .no), (14, ai (List.length p0 : Int)), (15, ai v15)]
def g246L59845S0 (p0 : List Tm) (p1 : Int) (p2 : Int) (v15 : Int) (v8 : List Tm) : LSt := ⟨[], 0, [0], 1, []⟩
theorem q246 : Tryz.prog.funcs[246]? = some Tryz.f246 ∧ Tryz.f246.body.isNone = false := ⟨Tryz.func246, by kernel_rfl⟩
theorem k246 {p0 : List Tm} {p1 : Int} {p2 : Int} {r : List Tm × Int} (h : CTri Tryz.prog 246 [] [.sl (flat tmCells p0) (List.length p0) .no, ai p1, ai p2] (.tup [.sl (flat tmCells r.1) (List.length r.1) .no, ai r.2]) [] 0) : CT Tryz.prog 246 [] [.sl (flat tmCells p0) (List.length p0) .no, ai p1, ai p2] (.tup [.sl (flat tmCells r.1) (List.length r.1) .no, ai r.2]) [] 0 := ⟨h, ⟨⟨trivial, dT _⟩, trivial, trivial, trivial⟩, forall_nil, ⟨dT _, trivial, trivial⟩, forall_nil⟩
theorem l246L59845 (qq : Nat) (p0 : List Tm) (p1 : Int) (p2 : Int) (v15 : Int) (v8 : List Tm) (r : List Tm × Int) (h : e246L59845 qq p0 p1 p2 v15 v8 = some r) : (∀ j, Dl Tryz.prog 0 (inn (inn (rgt (lft (rgt (rgt (bod Tryz.f246))))))) (g246L59845E0 j p0 p1 p2 v15 v8) (g246L59845S0 p0 p1 p2 v15 v8) (frameQ Tryz.prog 0 (FinQ Tryz.prog 0 Tryz.f246 (.tup [.sl (flat tmCells r.1) (List.length r.1) .no, ai r.2]) [] 0) [.blk 0, .seq (rgt (rgt (rgt (bod Tryz.f246))))])) := by
  unfold e246L59845 at h
  obtain ⟨h1, h⟩ := splF h
  obtain rfl := sj h
  exact fun j => lF 0 [] (oD (dT v8) <| oB 0 h1 o0) (by kernel_rfl)
theorem c246 {qq : Nat} {p0 : List Tm} {p1 : Int} {p2 : Int} {r : List Tm × Int} (h : e246 qq p0 p1 p2 = some r) : CT Tryz.prog 246 [] [.sl (flat tmCells p0) (List.length p0) .no, ai p1, ai p2] (.tup [.sl (flat tmCells r.1) (List.length r.1) .no, ai r.2]) [] 0 := by
  unfold e246 at h
  exact k246 (tH q246 1 [(none, 8, 3)] [] [0] [1, 2, 8, 13, 14, 15] (oD (dT p0) <| oD (dT ([] : List Tm)) o0) (l246L59845 qq _ _ _ _ _ _ h) (fun j => by kernel_rfl))

end Go.Proofs.YtlbmblbeccafcaaGreat

namespace Go.Proofs.YtlbmblbeccafcaaGreat
open Go Go.Ab

/- slices.Reverse(()scholium/api.Term,scholium/api.Term) -/
def e152va12108L28611 (qq : Nat) (v2 : Int) (v3 : Int) : Option (Unit) :=
  if decide (v2 < v3) = true then
    none
  else
    some ()
def e152va12108 (qq : Nat)  : Option (Unit) :=
  e152va12108L28611 qq 0 (-1)
def g152va12108L28611E0 (j : Nat → Value) (v2 : Int) (v3 : Int) : List AV := sp j 28 0 [(0, .sl (flat tmCells ([] : List Tm)) (List.length ([] : List Tm)) .no), (2, ai v2), (3, ai v3)]
def g152va12108L28611S0 (v2 : Int) (v3 : Int) : LSt := ⟨[], 0, [], 0, []⟩
theorem q152va12108 : Tryz.prog.funcs[152]? = some Tryz.f152 ∧ Tryz.f152.body.isNone = false := ⟨Tryz.func152, by kernel_rfl⟩
theorem k152va12108   (h : CTri Tryz.prog 152 [] [.sl (flat tmCells ([] : List Tm)) (List.length ([] : List Tm)) .no] (.tup []) [] 0) : CT Tryz.prog 152 [] [.sl (flat tmCells ([] : List Tm)) (List.length ([] : List Tm)) .no] (.tup []) [] 0 := ⟨h, ⟨⟨trivial, dT _⟩, trivial⟩, forall_nil, trivial, forall_nil⟩
theorem l152va12108L28611 (qq : Nat) (v2 : Int) (v3 : Int) (r : Unit) (h : e152va12108L28611 qq v2 v3 = some r) : (∀ j, Dl Tryz.prog 0 (inn (inn (rgt (bod Tryz.f152)))) (g152va12108L28611E0 j v2 v3) (g152va12108L28611S0 v2 v3) (frameQ Tryz.prog 0 (FinQ Tryz.prog 0 Tryz.f152 (.tup []) [] 0) [.blk 0])) := by
  unfold e152va12108L28611 at h
  obtain ⟨h1, h⟩ := splF h
  obtain rfl := sj h
  exact fun j => lF 0 [] (oB 0 h1 o0) (by kernel_rfl)
theorem c152va12108 {qq : Nat}  {r : Unit} (h : e152va12108 qq  = some r) : CT Tryz.prog 152 [] [.sl (flat tmCells ([] : List Tm)) (List.length ([] : List Tm)) .no] (.tup []) [] 0 := by
  unfold e152va12108 at h
  exact k152va12108 (tH q152va12108 2 [] [] [] [0, 2, 3] (oD (dT ([] : List Tm)) o0) (l152va12108L28611 qq _ _ _ h) (fun j => by kernel_rfl))

end Go.Proofs.YtlbmblbeccafcaaGreat

namespace Go.Proofs.YtlbmblbeccafcaaGreat
open Go Go.Ab

/- slices.Reverse(()scholium/api.Term,scholium/api.Term) -/
def e152va47683L16493 : Nat → (List Tm) → Int → Int → (List Tm) →  Option (List Tm)
  | 0, _, _, _, _ => none
  | qq + 1, q0, v2, v3, vb0_0 =>
    if decide (v2 < v3) = true then
      (gchk (List.length q0) v3) >>= fun x2 =>
      (gidx vb0_0 (x2 : Int)) >>= fun x4 =>
      (gchk (List.length q0) v2) >>= fun x6 =>
      (gidx vb0_0 (x6 : Int)) >>= fun x8 =>
      (gset vb0_0 x6 x4) >>= fun x10 =>
      (gset x10 x2 x8) >>= fun x12 =>
      e152va47683L16493 qq q0 (w64 (v2 + 1)) (w64 (v3 - 1)) x12
    else
      some vb0_0
def e152va47683 (qq : Nat) (q0 : List Tm) : Option (List Tm) :=
  e152va47683L16493 qq q0 0 (w64 ((List.length q0 : Int) - 1)) q0
def g152va47683L16493E0 (j : Nat → Value) (q0 : List Tm) (v2 : Int) (v3 : Int) (vb0_0 : List Tm) : List AV := sp j 28 0 [(0, .ms 0 0 (List.length q0) (List.length q0) 3), (2, ai v2), (3, ai v3)]
def g152va47683L16493S0 (q0 : List Tm) (v2 : Int) (v3 : Int) (vb0_0 : List Tm) : LSt := ⟨[(0, .row (flat tmCells vb0_0))], 1, [], 0, []⟩
theorem q152va47683 : Tryz.prog.funcs[152]? = some Tryz.f152 ∧ Tryz.f152.body.isNone = false := ⟨Tryz.func152, by kernel_rfl⟩
theorem k152va47683 {q0 : List Tm} {r : List Tm} (h : CTri Tryz.prog 152 [.row (flat tmCells q0)] [.ms 0 0 (List.length q0) (List.length q0) 3] (.tup []) [.row (flat tmCells r)] 0) : CT Tryz.prog 152 [.row (flat tmCells q0)] [.ms 0 0 (List.length q0) (List.length q0) 3] (.tup []) [.row (flat tmCells r)] 0 := ⟨h, ⟨(show 0 < 1 by decide), trivial⟩, (forall_cons (dT _) forall_nil), trivial, (forall_cons (dT _) forall_nil)⟩
theorem l152va47683L16493 : ∀ qq : Nat, (∀ (q0 : List Tm) (v2 : Int) (v3 : Int) (vb0_0 : List Tm) (r : List Tm), e152va47683L16493 qq q0 v2 v3 vb0_0 = some r → (∀ j, Dl Tryz.prog 1 (inn (inn (rgt (bod Tryz.f152)))) (g152va47683L16493E0 j q0 v2 v3 vb0_0) (g152va47683L16493S0 q0 v2 v3 vb0_0) (frameQ Tryz.prog 1 (FinQ Tryz.prog 1 Tryz.f152 (.tup []) [.row (flat tmCells r)] 0) [.blk 0]))) := by
  intro qq
  induction qq with
  | zero =>
    exact fun _ _ _ _ _ h => nn h
  | succ qq ih =>
    intro q0 v2 v3 vb0_0 r h
    rw [e152va47683L16493] at h
    rcases spl h with ⟨h1, h⟩ | ⟨h1, h⟩
    · obtain ⟨x2, h3, h⟩ := obind h
      obtain ⟨x4, h5, h⟩ := obind h
      obtain ⟨x6, h7, h⟩ := obind h
      obtain ⟨x8, h9, h⟩ := obind h
      obtain ⟨x10, h11, h⟩ := obind h
      obtain ⟨x12, h13, h⟩ := obind h
      exact fun j => lH 2 [] [0] [] [0, 2, 3] (oD (dT x12) <| oW 0 (wtE (x := x8) (cs := [ai x8.k, ai x8.n, .sl (flat tmCells x8.sub) (List.length x8.sub) .no]) codecT (by rw [tm_eq]; rfl) h13) <| oA 0 (ixM22 (b := 0) (c := List.length q0) (z := 3) h3) <| oW 0 (wtE (x := x4) (cs := [ai x4.k, ai x4.n, .sl (flat tmCells x4.sub) (List.length x4.sub) .no]) codecT (by rw [tm_eq]; rfl) h11) <| oA 0 (ixM22 (b := 0) (c := List.length q0) (z := 3) h7) <| oG (a := (.agg [ai x8.k, ai x8.n, .sl (flat tmCells x8.sub) (List.length x8.sub) .no])) 0 (ldE codecT h9 (true, 3) (val := .agg [ai x8.k, ai x8.n, .sl (flat tmCells x8.sub) (List.length x8.sub) .no]) (by rw [tm_eq]; rfl)) <| oA 0 (ixM22 (b := 0) (c := List.length q0) (z := 3) h7) <| oG (a := (.agg [ai x4.k, ai x4.n, .sl (flat tmCells x4.sub) (List.length x4.sub) .no])) 0 (ldE codecT h5 (true, 3) (val := .agg [ai x4.k, ai x4.n, .sl (flat tmCells x4.sub) (List.length x4.sub) .no]) (by rw [tm_eq]; rfl)) <| oA 0 (ixM22 (b := 0) (c := List.length q0) (z := 3) h3) <| oB 0 h1 o0) (ih _ _ _ _ _ h) (fun j => by kernel_rfl)
    · obtain rfl := sj h
      exact fun j => lF 0 [0] (oD (dT vb0_0) <| oB 0 h1 o0) (by kernel_rfl)
theorem c152va47683 {qq : Nat} {q0 : List Tm} {r : List Tm} (h : e152va47683 qq q0 = some r) : CT Tryz.prog 152 [.row (flat tmCells q0)] [.ms 0 0 (List.length q0) (List.length q0) 3] (.tup []) [.row (flat tmCells r)] 0 := by
  unfold e152va47683 at h
  exact k152va47683 (tH q152va47683 2 [] [0] [] [0, 2, 3] (oD (dT q0) o0) (l152va47683L16493 _ _ _ _ _ _ h) (fun j => by kernel_rfl))

end Go.Proofs.YtlbmblbeccafcaaGreat

namespace Go.Proofs.YtlbmblbeccafcaaGreat
open Go Go.Ab

/- scholium/tele.backwards -/
def e247 (qq : Nat) (p0 : List Tm) : Option ((Unit) ⊕ (List Tm)) :=
  (e162vr qq p0) >>= fun r1 =>
  match r1 with
  | Sum.inl y3 =>
    (e152va12108 qq) >>= fun r4 =>
    some (Sum.inl ())
  | Sum.inr y6 =>
    (e152va47683 qq y6) >>= fun r7 =>
    (gfz (List.length y6) r7) >>= fun l9 =>
    some (Sum.inr l9)
theorem q247 : Tryz.prog.funcs[247]? = some Tryz.f247 ∧ Tryz.f247.body.isNone = false := ⟨Tryz.func247, by kernel_rfl⟩
theorem k247s0 {p0 : List Tm}  (h : CTri Tryz.prog 247 [] [.sl (flat tmCells p0) (List.length p0) .no] (.sl (flat tmCells ([] : List Tm)) (List.length ([] : List Tm)) .full) [] 0) : CT Tryz.prog 247 [] [.sl (flat tmCells p0) (List.length p0) .no] (.sl (flat tmCells ([] : List Tm)) (List.length ([] : List Tm)) .full) [] 0 := ⟨h, ⟨⟨trivial, dT _⟩, trivial⟩, forall_nil, dT _, forall_nil⟩
theorem k247s1 {p0 : List Tm} {r : List Tm} (h : CTri Tryz.prog 247 [] [.sl (flat tmCells p0) (List.length p0) .no] (.ms 0 0 (List.length r) (List.length r) 3) [.row (flat tmCells r)] 0) : CT Tryz.prog 247 [] [.sl (flat tmCells p0) (List.length p0) .no] (.ms 0 0 (List.length r) (List.length r) 3) [.row (flat tmCells r)] 0 := ⟨h, ⟨⟨trivial, dT _⟩, trivial⟩, forall_nil, (show 0 < 1 by decide), (forall_cons (dT _) forall_nil)⟩
theorem c247r {qq : Nat} {p0 : List Tm} {r : (Unit) ⊕ (List Tm)} (h : e247 qq p0 = some r) : (match (generalizing := false) r with | Sum.inl x => CT Tryz.prog 247 [] [.sl (flat tmCells p0) (List.length p0) .no] (.sl (flat tmCells ([] : List Tm)) (List.length ([] : List Tm)) .full) [] 0 | Sum.inr x => CT Tryz.prog 247 [] [.sl (flat tmCells p0) (List.length p0) .no] (.ms 0 0 (List.length x) (List.length x) 3) [.row (flat tmCells x)] 0) := by
  unfold e247 at h
  obtain ⟨r1, h2, h⟩ := obind h
  rcases r1 with y3 | y6
  · dsimp only at h
    obtain ⟨r4, h5, h⟩ := obind h
    obtain rfl := sj h
    exact k247s0 (tG q247 0 [] [] [] true (oD (dT ([] : List Tm)) <| oC 0 [] (c152va12108 h5) <| oC 0 [] (c162vr h2) o0) (by kernel_rfl) (by decide))
  · dsimp only at h
    obtain ⟨r7, h8, h⟩ := obind h
    obtain ⟨l9, h10, h⟩ := obind h
    obtain ⟨h10a, h10b⟩ := gfz_spec h10
    obtain rfl := sj h
    obtain rfl := h10a.symm
    dsimp only
    exact k247s1 (by rw [← h10b]; exact (tF q247 0 [0] (oD (dT r7) <| oC 0 [0] (c152va47683 h8) <| oC 0 [] (c162vr h2) o0) (by kernel_rfl)))
theorem c247 {qq : Nat} {p0 : List Tm} {r : (Unit) ⊕ (List Tm)} (h : e247 qq p0 = some r) : (match (generalizing := false) r with | Sum.inl x => CT Tryz.prog 247 [] [.sl (flat tmCells p0) (List.length p0) .no] (.sl (flat tmCells ([] : List Tm)) (List.length ([] : List Tm)) (.st 0 3)) [] 1 | Sum.inr x => CT Tryz.prog 247 [] [.sl (flat tmCells p0) (List.length p0) .no] (.sl (flat tmCells x) (List.length x) (.st 0 3)) [] 1) := by
  have k := c247r h
  rcases r with y0 | y1
  · exact CT.stampNil k
  · exact CT.freezeS k (dT _) (flat_len codecT.len _)

end Go.Proofs.YtlbmblbeccafcaaGreat

namespace Go.Proofs.YtlbmblbeccafcaaGreat
open Go Go.Ab

/- scholium/tele.Vars -/
def e248L52891 (qq : Nat) (v3 : List Tm) (v4 : Int) : Option (List Tm) :=
  if decide (v4 ≥ 0) = true then
    none
  else
    some v3
def e248 (qq : Nat) (p0 : Int) : Option (List Tm) :=
  if decide (p0 < 0) = true then
    none
  else
    if decide (p0 > 1048576) = true then
      none
    else
      e248L52891 qq [] (w64 (p0 - 1))
def g248L52891E0 (j : Nat → Value) (v3 : List Tm) (v4 : Int) : List AV := sp j 23 0 [(3, .sl (flat tmCells v3) (List.length v3) (.st 0 3)), (4, ai v4)]
def g248L52891S0 (v3 : List Tm) (v4 : Int) : LSt := ⟨[], 0, [0], 1, []⟩
theorem q248 : Tryz.prog.funcs[248]? = some Tryz.f248 ∧ Tryz.f248.body.isNone = false := ⟨Tryz.func248, by kernel_rfl⟩
theorem k248 {p0 : Int} {r : List Tm} (h : CTri Tryz.prog 248 [] [ai p0] (.sl (flat tmCells r) (List.length r) .no) [] 0) : CT Tryz.prog 248 [] [ai p0] (.sl (flat tmCells r) (List.length r) .no) [] 0 := ⟨h, ⟨trivial, trivial⟩, forall_nil, dT _, forall_nil⟩
theorem l248L52891 (qq : Nat) (v3 : List Tm) (v4 : Int) (r : List Tm) (h : e248L52891 qq v3 v4 = some r) : (∀ j, Dl Tryz.prog 0 (inn (inn (rgt (lft (rgt (rgt (rgt (bod Tryz.f248)))))))) (g248L52891E0 j v3 v4) (g248L52891S0 v3 v4) (frameQ Tryz.prog 0 (FinQ Tryz.prog 0 Tryz.f248 (.sl (flat tmCells r) (List.length r) .no) [] 0) [.blk 0, .seq (rgt (rgt (rgt (rgt (bod Tryz.f248)))))])) := by
  unfold e248L52891 at h
  obtain ⟨h3, h⟩ := splF h
  obtain rfl := sj h
  exact fun j => lF 0 [] (oD (dT v3) <| oB 0 h3 o0) (by kernel_rfl)
theorem c248 {qq : Nat} {p0 : Int} {r : List Tm} (h : e248 qq p0 = some r) : CT Tryz.prog 248 [] [ai p0] (.sl (flat tmCells r) (List.length r) .no) [] 0 := by
  unfold e248 at h
  obtain ⟨h1, h⟩ := splF h
  have k := oB 0 h1 o0
  obtain ⟨h2, h⟩ := splF h
  exact k248 (tH q248 1 [(none, 3, 3)] [] [0] [3, 4] (oD (dT ([] : List Tm)) <| oB 0 h2 k) (l248L52891 qq _ _ _ h) (fun j => by kernel_rfl))

end Go.Proofs.YtlbmblbeccafcaaGreat

namespace Go.Proofs.YtlbmblbeccafcaaGreat
open Go Go.Ab

/- scholium/tele.Put$1 -/
def e245va9901 (qq : Nat) (p0 : Int) (p1 : Tm) (q2 : List Tm) : Option (Tm × Int) :=
  (e247 qq q2) >>= fun r1 =>
  match r1 with
  | Sum.inl y3 =>
    (e246 qq [] p0 0) >>= fun r4 =>
    if (r4.2 != 0) = true then
      none
    else
      (e248 qq p0) >>= fun r7 =>
      (e247 qq r7) >>= fun r9 =>
      match r9 with
      | Sum.inl y11 =>
        (gapp 40 ([] : List Tm) r4.1) >>= fun l12 =>
        (e249 qq p1 l12) >>= fun r15 =>
        some (r15.1, r15.2)
      | Sum.inr y17 =>
        none
  | Sum.inr y23 =>
    none
theorem q245va9901 : Tryz.prog.funcs[245]? = some Tryz.f245 ∧ Tryz.f245.body.isNone = false := ⟨Tryz.func245, by kernel_rfl⟩
theorem k245va9901 {p0 : Int} {p1 : Tm} {q2 : List Tm} {r : Tm × Int} (h : CTri Tryz.prog 245 [.cells [.sl (flat tmCells q2) (List.length q2) .no]] [ai p0, tmA p1, .mp 0 0] (.tup [tmA r.1, ai r.2]) [.cells [.sl (flat tmCells q2) (List.length q2) .no]] 0) : CT Tryz.prog 245 [.cells [.sl (flat tmCells q2) (List.length q2) .no]] [ai p0, tmA p1, .mp 0 0] (.tup [tmA r.1, ai r.2]) [.cells [.sl (flat tmCells q2) (List.length q2) .no]] 0 := ⟨h, ⟨trivial, ⟨trivial, trivial, ⟨trivial, dT _⟩, trivial⟩, (show 0 < 1 by decide), trivial⟩, (forall_cons ⟨⟨trivial, dT _⟩, trivial⟩ forall_nil), ⟨⟨trivial, trivial, dT _, trivial⟩, trivial, trivial⟩, (forall_cons ⟨dT _, trivial⟩ forall_nil)⟩
theorem c245va9901 {qq : Nat} {p0 : Int} {p1 : Tm} {q2 : List Tm} {r : Tm × Int} (h : e245va9901 qq p0 p1 q2 = some r) : CT Tryz.prog 245 [.cells [.sl (flat tmCells q2) (List.length q2) .no]] [ai p0, tmA p1, .mp 0 0] (.tup [tmA r.1, ai r.2]) [.cells [.sl (flat tmCells q2) (List.length q2) .no]] 0 := by
  unfold e245va9901 at h
  obtain ⟨r1, h2, h⟩ := obind h
  rcases r1 with y3 | y23
  · dsimp only at h
    obtain ⟨r4, h5, h⟩ := obind h
    have k := oC 0 [] (c246 h5) <| oC 1 [] (c247 h2) o0
    obtain ⟨h6, h⟩ := splF h
    obtain ⟨r7, h8, h⟩ := obind h
    obtain ⟨r9, h10, h⟩ := obind h
    have k := oC 0 [] (c248 h8) <| oB 2 h6 k
    rcases r9 with y11 | y17
    · dsimp only at h
      obtain ⟨l12, h13, h⟩ := obind h
      have k := oC 0 [] (c247 h10) k
      by_cases h14 : List.length r4.1 = 0
      · obtain ⟨r15, h16, h⟩ := obind h
        obtain rfl := sj h
        exact k245va9901 (tF q245va9901 3 [0] (oD (dT r15.1.sub) <| oD (dT q2) <| oC 0 [] (c249 h16) <| oP 1 (apN22 h13 h14) k) (by kernel_rfl))
      · obtain ⟨r15, h16, h⟩ := obind h
        obtain rfl := sj h
        exact k245va9901 (tF q245va9901 3 [0] (oD (dT r15.1.sub) <| oD (dT q2) <| oC 0 [] (c249 h16) <| oP 1 (apS22 h13 h14) k) (by kernel_rfl))
    · cases h
  · cases h

end Go.Proofs.YtlbmblbeccafcaaGreat

namespace Go.Proofs.YtlbmblbeccafcaaGreat
open Go Go.Ab

/- scholium/tele.each(scholium/api.Term) -/
def e244va22335L36884 : Nat → (List Tm) → (List Tm) → Int → (List Tm) →  Option (List Tm × Int)
  | 0, _, _, _, _ => none
  | qq + 1, p0, q1, v13, v6 =>
    if decide (v13 < (List.length p0 : Int)) = true then
      (gidx p0 v13) >>= fun x2 =>
      (e245va9901 qq v13 x2 q1) >>= fun r4 =>
      if (r4.2 != 0) = true then
        none
      else
        (gapp 40 v6 [r4.1]) >>= fun l7 =>
        e244va22335L36884 qq p0 q1 (w64 (v13 + 1)) l7
    else
      some (v6, 0)
def e244va22335 (qq : Nat) (p0 : List Tm) (q1 : List Tm) : Option (List Tm × Int) :=
  e244va22335L36884 qq p0 q1 0 []
def g244va22335L36884E0 (j : Nat → Value) (p0 : List Tm) (q1 : List Tm) (v13 : Int) (v6 : List Tm) : List AV := sp j 34 0 [(1, .clo 245 [] [.mp 0 0]), (6, .sl (flat tmCells v6) (List.length v6) (.st 0 3)), (11, .sl (flat tmCells p0) (List.length p0) .no), (12, ai (List.length p0 : Int)), (13, ai v13)]
def g244va22335L36884S0 (p0 : List Tm) (q1 : List Tm) (v13 : Int) (v6 : List Tm) : LSt := ⟨[(0, .cells [.sl (flat tmCells q1) (List.length q1) .no])], 1, [0], 1, []⟩
theorem q244va22335 : Tryz.prog.funcs[244]? = some Tryz.f244 ∧ Tryz.f244.body.isNone = false := ⟨Tryz.func244, by kernel_rfl⟩
theorem k244va22335 {p0 : List Tm} {q1 : List Tm} {r : List Tm × Int} (h : CTri Tryz.prog 244 [.cells [.sl (flat tmCells q1) (List.length q1) .no]] [.sl (flat tmCells p0) (List.length p0) .no, .clo 245 [] [.mp 0 0]] (.tup [.sl (flat tmCells r.1) (List.length r.1) .no, ai r.2]) [.cells [.sl (flat tmCells q1) (List.length q1) .no]] 0) : CT Tryz.prog 244 [.cells [.sl (flat tmCells q1) (List.length q1) .no]] [.sl (flat tmCells p0) (List.length p0) .no, .clo 245 [] [.mp 0 0]] (.tup [.sl (flat tmCells r.1) (List.length r.1) .no, ai r.2]) [.cells [.sl (flat tmCells q1) (List.length q1) .no]] 0 := ⟨h, ⟨⟨trivial, dT _⟩, ⟨trivial, ⟨(show 0 < 1 by decide), trivial⟩⟩, trivial⟩, (forall_cons ⟨⟨trivial, dT _⟩, trivial⟩ forall_nil), ⟨dT _, trivial, trivial⟩, (forall_cons ⟨dT _, trivial⟩ forall_nil)⟩
theorem l244va22335L36884 : ∀ qq : Nat, (∀ (p0 : List Tm) (q1 : List Tm) (v13 : Int) (v6 : List Tm) (r : List Tm × Int), e244va22335L36884 qq p0 q1 v13 v6 = some r → (∀ j, Dl Tryz.prog 1 (inn (inn (rgt (lft (rgt (rgt (bod Tryz.f244))))))) (g244va22335L36884E0 j p0 q1 v13 v6) (g244va22335L36884S0 p0 q1 v13 v6) (frameQ Tryz.prog 1 (FinQ Tryz.prog 1 Tryz.f244 (.tup [.sl (flat tmCells r.1) (List.length r.1) .no, ai r.2]) [.cells [.sl (flat tmCells q1) (List.length q1) .no]] 0) [.blk 0, .seq (rgt (rgt (rgt (bod Tryz.f244))))]))) := by
  intro qq
  induction qq with
  | zero =>
    exact fun _ _ _ _ _ h => nn h
  | succ qq ih =>
    intro p0 q1 v13 v6 r h
    rw [e244va22335L36884] at h
    rcases spl h with ⟨h1, h⟩ | ⟨h1, h⟩
    · obtain ⟨x2, h3, h⟩ := obind h
      obtain ⟨r4, h5, h⟩ := obind h
      have k := oC 3 [0] (c245va9901 h5) <| oA 0 (ix22 (o := .no) h3) <| oB 0 h1 o0
      obtain ⟨h6, h⟩ := splF h
      obtain ⟨l7, h8, h⟩ := obind h
      exact fun j => lH 1 [] [0] [1] [1, 6, 11, 12, 13] (oD (dT p0) <| oD (dT l7) <| oD (dT q1) <| oP 0 (apS22 h8 (by simp)) <| oS 1 (obLitR tm_eq [r4.1]) <| oB 3 h6 k) (ih _ _ _ _ _ h) (fun j => by kernel_rfl)
    · obtain rfl := sj h
      exact fun j => lF 0 [0] (oD (dT v6) <| oD (dT q1) <| oB 0 h1 o0) (by kernel_rfl)
theorem c244va22335 {qq : Nat} {p0 : List Tm} {q1 : List Tm} {r : List Tm × Int} (h : e244va22335 qq p0 q1 = some r) : CT Tryz.prog 244 [.cells [.sl (flat tmCells q1) (List.length q1) .no]] [.sl (flat tmCells p0) (List.length p0) .no, .clo 245 [] [.mp 0 0]] (.tup [.sl (flat tmCells r.1) (List.length r.1) .no, ai r.2]) [.cells [.sl (flat tmCells q1) (List.length q1) .no]] 0 := by
  unfold e244va22335 at h
  exact k244va22335 (tH q244va22335 1 [(none, 6, 3)] [0] [0] [1, 6, 11, 12, 13] (oD (dT p0) <| oD (dT ([] : List Tm)) <| oD (dT q1) o0) (l244va22335L36884 _ _ _ _ _ _ h) (fun j => by kernel_rfl))

end Go.Proofs.YtlbmblbeccafcaaGreat

namespace Go.Proofs.YtlbmblbeccafcaaGreat
open Go Go.Ab

/- scholium/tele.Put -/
def e184 (qq : Nat) (p0 : List Tm) (p1 : List Tm) : Option (List Tm × Int) :=
  (e244va22335 qq p0 p1) >>= fun r1 =>
  some (r1.1, r1.2)
theorem q184 : Tryz.prog.funcs[184]? = some Tryz.f184 ∧ Tryz.f184.body.isNone = false := ⟨Tryz.func184, by kernel_rfl⟩
theorem k184 {p0 : List Tm} {p1 : List Tm} {r : List Tm × Int} (h : CTri Tryz.prog 184 [] [.sl (flat tmCells p0) (List.length p0) .no, .sl (flat tmCells p1) (List.length p1) .no] (.tup [.sl (flat tmCells r.1) (List.length r.1) .no, ai r.2]) [] 0) : CT Tryz.prog 184 [] [.sl (flat tmCells p0) (List.length p0) .no, .sl (flat tmCells p1) (List.length p1) .no] (.tup [.sl (flat tmCells r.1) (List.length r.1) .no, ai r.2]) [] 0 := ⟨h, ⟨⟨trivial, dT _⟩, ⟨trivial, dT _⟩, trivial⟩, forall_nil, ⟨dT _, trivial, trivial⟩, forall_nil⟩
theorem c184 {qq : Nat} {p0 : List Tm} {p1 : List Tm} {r : List Tm × Int} (h : e184 qq p0 p1 = some r) : CT Tryz.prog 184 [] [.sl (flat tmCells p0) (List.length p0) .no, .sl (flat tmCells p1) (List.length p1) .no] (.tup [.sl (flat tmCells r.1) (List.length r.1) .no, ai r.2]) [] 0 := by
  unfold e184 at h
  obtain ⟨r1, h2, h⟩ := obind h
  obtain rfl := sj h
  exact k184 (tF q184 2 [] (oD (dT r1.1) <| oC 0 [0] (c244va22335 h2) o0) (by kernel_rfl))

end Go.Proofs.YtlbmblbeccafcaaGreat

namespace Go.Proofs.YtlbmblbeccafcaaGreat
open Go Go.Ab

/- scholium/split.next -/
mutual
def e185L24348 : Nat → (List FreeVar) → Int → Int →  Option (Int)
  | 0, _, _, _ => none
  | qq + 1, p0, v10, v3 =>
    if decide (v10 < (List.length p0 : Int)) = true then
      (gidx p0 v10) >>= fun x2 =>
      (e71 qq x2.type_) >>= fun r4 =>
      e185L16162 qq p0 v10 r4 0 (imax v3 (w64 (x2.n_ + 1)))
    else
      some v3
def e185L16162 : Nat → (List FreeVar) → Int → (List Int) → Int → Int →  Option (Int)
  | 0, _, _, _, _, _ => none
  | qq + 1, p0, v10, r4, v23, v3 =>
    if decide (v23 < (List.length r4 : Int)) = true then
      (gidx r4 v23) >>= fun x7 =>
      e185L16162 qq p0 v10 r4 (w64 (v23 + 1)) (imax v3 (w64 (x7 + 1)))
    else
      e185L24348 qq p0 (w64 (v10 + 1)) v3
end
def e185 (qq : Nat) (p0 : List FreeVar) : Option (Int) :=
  e185L24348 qq p0 0 0
def g185L24348E0 (j : Nat → Value) (p0 : List FreeVar) (v10 : Int) (v3 : Int) : List AV := sp j 34 0 [(3, ai v3), (8, .sl (flat freeVarL p0) (List.length p0) .no), (9, ai (List.length p0 : Int)), (10, ai v10)]
def g185L24348S0 (p0 : List FreeVar) (v10 : Int) (v3 : Int) : LSt := ⟨[], 0, [], 0, []⟩
def g185L16162E0 (j : Nat → Value) (p0 : List FreeVar) (v10 : Int) (r4 : List Int) (v23 : Int) (v3 : Int) : List AV := sp j 34 0 [(3, ai v3), (8, .sl (flat freeVarL p0) (List.length p0) .no), (9, ai (List.length p0 : Int)), (10, ai v10), (21, .sl (flat intC r4) (List.length r4) .no), (22, ai (List.length r4 : Int)), (23, ai v23)]
def g185L16162S0 (p0 : List FreeVar) (v10 : Int) (r4 : List Int) (v23 : Int) (v3 : Int) : LSt := ⟨[], 0, [], 0, []⟩
theorem q185 : Tryz.prog.funcs[185]? = some Tryz.f185 ∧ Tryz.f185.body.isNone = false := ⟨Tryz.func185, by kernel_rfl⟩
theorem k185 {p0 : List FreeVar} {r : Int} (h : CTri Tryz.prog 185 [] [.sl (flat freeVarL p0) (List.length p0) .no] (ai r) [] 0) : CT Tryz.prog 185 [] [.sl (flat freeVarL p0) (List.length p0) .no] (ai r) [] 0 := ⟨h, ⟨⟨trivial, dFreeVar _⟩, trivial⟩, forall_nil, trivial, forall_nil⟩
theorem a185L24348_185L16162 : ∀ qq : Nat, (∀ (p0 : List FreeVar) (v10 : Int) (v3 : Int) (r : Int), e185L24348 qq p0 v10 v3 = some r → (∀ j, Dl Tryz.prog 0 (inn (inn (rgt (lft (rgt (rgt (bod Tryz.f185))))))) (g185L24348E0 j p0 v10 v3) (g185L24348S0 p0 v10 v3) (frameQ Tryz.prog 0 (FinQ Tryz.prog 0 Tryz.f185 (ai r) [] 0) [.blk 0, .seq (rgt (rgt (rgt (bod Tryz.f185))))]))) ∧ (∀ (p0 : List FreeVar) (v10 : Int) (r4 : List Int) (v23 : Int) (v3 : Int) (r : Int), e185L16162 qq p0 v10 r4 v23 v3 = some r → (∀ j, Dl Tryz.prog 0 (inn (inn (rgt (rgt (rgt (inn (lft (rgt (rgt (inn (inn (rgt (lft (rgt (rgt (bod Tryz.f185)))))))))))))))) (g185L16162E0 j p0 v10 r4 v23 v3) (g185L16162S0 p0 v10 r4 v23 v3) (frameQ Tryz.prog 0 (FinQ Tryz.prog 0 Tryz.f185 (ai r) [] 0) [.blk 2, .blk 1, .seq (rgt (rgt (rgt (inn (inn (rgt (lft (rgt (rgt (bod Tryz.f185)))))))))), .loop (inn (inn (rgt (lft (rgt (rgt (bod Tryz.f185))))))), .blk 0, .seq (rgt (rgt (rgt (bod Tryz.f185))))]))) := by
  intro qq
  induction qq with
  | zero =>
    exact ⟨fun _ _ _ _ h => nn h, fun _ _ _ _ _ _ h => nn h⟩
  | succ qq ih =>
    obtain ⟨ih185L24348, ih185L16162⟩ := ih
    refine ⟨?_, ?_⟩
    · intro p0 v10 v3 r h
      rw [e185L24348] at h
      rcases spl h with ⟨h1, h⟩ | ⟨h1, h⟩
      · obtain ⟨x2, h3, h⟩ := obind h
        obtain ⟨r4, h5, h⟩ := obind h
        exact fun j => lH 1 [] [] [] [3, 8, 9, 10, 21, 22, 23] (oD (dI r4) <| oD (dFreeVar p0) <| oC 6 [] (c71 h5) <| oA 0 (ix42 (o := .no) h3) <| oB 0 h1 o0) (ih185L16162 _ _ _ _ _ _ h) (fun j => by kernel_rfl)
      · obtain rfl := sj h
        exact fun j => lF 0 [] (oB 0 h1 o0) (by kernel_rfl)
    · intro p0 v10 r4 v23 v3 r h
      rw [e185L16162] at h
      rcases spl h with ⟨h6, h⟩ | ⟨h6, h⟩
      · obtain ⟨x7, h8, h⟩ := obind h
        exact fun j => lH 4 [] [] [] [3, 8, 9, 10, 21, 22, 23] (oD (dI r4) <| oD (dFreeVar p0) <| oA 0 (ix37 (o := .no) h8) <| oB 0 h6 o0) (ih185L16162 _ _ _ _ _ _ h) (fun j => by kernel_rfl)
      · exact fun j => lH 1 [] [] [] [3, 8, 9, 10] (oD (dFreeVar p0) <| oB 0 h6 o0) (ih185L24348 _ _ _ _ h) (fun j => by kernel_rfl)
theorem c185 {qq : Nat} {p0 : List FreeVar} {r : Int} (h : e185 qq p0 = some r) : CT Tryz.prog 185 [] [.sl (flat freeVarL p0) (List.length p0) .no] (ai r) [] 0 := by
  unfold e185 at h
  exact k185 (tH q185 1 [] [] [] [3, 8, 9, 10] (oD (dFreeVar p0) o0) (((a185L24348_185L16162 _).1) _ _ _ _ h) (fun j => by kernel_rfl))

end Go.Proofs.YtlbmblbeccafcaaGreat

namespace Go.Proofs.YtlbmblbeccafcaaGreat
open Go Go.Ab

/- scholium/tele.Fill -/
def e187 (qq : Nat) (p0 : Tm) (p1 : List Tm) : Option (Tm × Int) :=
  (e247 qq p1) >>= fun r1 =>
  match r1 with
  | Sum.inl y3 =>
    (e249 qq p0 []) >>= fun r4 =>
    some (r4.1, r4.2)
  | Sum.inr y6 =>
    (e249 qq p0 y6) >>= fun r7 =>
    some (r7.1, r7.2)
theorem q187 : Tryz.prog.funcs[187]? = some Tryz.f187 ∧ Tryz.f187.body.isNone = false := ⟨Tryz.func187, by kernel_rfl⟩
theorem k187 {p0 : Tm} {p1 : List Tm} {r : Tm × Int} (h : CTri Tryz.prog 187 [] [tmA p0, .sl (flat tmCells p1) (List.length p1) .no] (.tup [tmA r.1, ai r.2]) [] 0) : CT Tryz.prog 187 [] [tmA p0, .sl (flat tmCells p1) (List.length p1) .no] (.tup [tmA r.1, ai r.2]) [] 0 := ⟨h, ⟨⟨trivial, trivial, ⟨trivial, dT _⟩, trivial⟩, ⟨trivial, dT _⟩, trivial⟩, forall_nil, ⟨⟨trivial, trivial, dT _, trivial⟩, trivial, trivial⟩, forall_nil⟩
theorem c187 {qq : Nat} {p0 : Tm} {p1 : List Tm} {r : Tm × Int} (h : e187 qq p0 p1 = some r) : CT Tryz.prog 187 [] [tmA p0, .sl (flat tmCells p1) (List.length p1) .no] (.tup [tmA r.1, ai r.2]) [] 0 := by
  unfold e187 at h
  obtain ⟨r1, h2, h⟩ := obind h
  rcases r1 with y3 | y6
  · dsimp only at h
    obtain ⟨r4, h5, h⟩ := obind h
    obtain rfl := sj h
    exact k187 (tF q187 3 [] (oD (dT r4.1.sub) <| oC 0 [] (c249 h5) <| oC 1 [] (c247 h2) o0) (by kernel_rfl))
  · dsimp only at h
    obtain ⟨r7, h8, h⟩ := obind h
    obtain rfl := sj h
    exact k187 (tF q187 3 [] (oD (dT r7.1.sub) <| oC 0 [] (c249 h8) <| oC 1 [] (c247 h2) o0) (by kernel_rfl))

end Go.Proofs.YtlbmblbeccafcaaGreat

namespace Go.Proofs.YtlbmblbeccafcaaGreat
open Go Go.Ab

/- scholium/free.loose -/
def e250L1364 : Nat → (List Tm) → Int →  Option (Bool)
  | 0, _, _ => none
  | qq + 1, p0, v7 =>
    if decide (v7 < (List.length p0 : Int)) = true then
      (gidx p0 v7) >>= fun x2 =>
      (e51 qq x2) >>= fun r4 =>
      if r4 = true then
        (e70 qq x2) >>= fun r7 =>
        if decide (r7 > v7) = true then
          none
        else
          e250L1364 qq p0 (w64 (v7 + 1))
      else
        none
    else
      some true
def e250 (qq : Nat) (p0 : List Tm) : Option (Bool) :=
  e250L1364 qq p0 0
def g250L1364E0 (j : Nat → Value) (p0 : List Tm) (v7 : Int) : List AV := sp j 22 0 [(5, .sl (flat tmCells p0) (List.length p0) .no), (6, ai (List.length p0 : Int)), (7, ai v7)]
def g250L1364S0 (p0 : List Tm) (v7 : Int) : LSt := ⟨[], 0, [], 0, []⟩
theorem q250 : Tryz.prog.funcs[250]? = some Tryz.f250 ∧ Tryz.f250.body.isNone = false := ⟨Tryz.func250, by kernel_rfl⟩
theorem k250 {p0 : List Tm} {r : Bool} (h : CTri Tryz.prog 250 [] [.sl (flat tmCells p0) (List.length p0) .no] (ab r) [] 0) : CT Tryz.prog 250 [] [.sl (flat tmCells p0) (List.length p0) .no] (ab r) [] 0 := ⟨h, ⟨⟨trivial, dT _⟩, trivial⟩, forall_nil, trivial, forall_nil⟩
theorem l250L1364 : ∀ qq : Nat, (∀ (p0 : List Tm) (v7 : Int) (r : Bool), e250L1364 qq p0 v7 = some r → (∀ j, Dl Tryz.prog 0 (inn (inn (rgt (lft (rgt (bod Tryz.f250)))))) (g250L1364E0 j p0 v7) (g250L1364S0 p0 v7) (frameQ Tryz.prog 0 (FinQ Tryz.prog 0 Tryz.f250 (ab r) [] 0) [.blk 0, .seq (rgt (rgt (bod Tryz.f250)))]))) := by
  intro qq
  induction qq with
  | zero =>
    exact fun _ _ _ h => nn h
  | succ qq ih =>
    intro p0 v7 r h
    rw [e250L1364] at h
    rcases spl h with ⟨h1, h⟩ | ⟨h1, h⟩
    · obtain ⟨x2, h3, h⟩ := obind h
      obtain ⟨r4, h5, h⟩ := obind h
      have k := oA 0 (ix22 (o := .no) h3) <| oB 0 h1 o0
      obtain ⟨h6, h⟩ := splT h
      obtain ⟨r7, h8, h⟩ := obind h
      have k := oC 2 [] (c70 h8) <| oK 3 [] h6 (c51 h5) k
      obtain ⟨h9, h⟩ := splF h
      exact fun j => lH 1 [] [] [] [5, 6, 7] (oD (dT p0) <| oB 0 h9 k) (ih _ _ _ h) (fun j => by kernel_rfl)
    · obtain rfl := sj h
      exact fun j => lF 0 [] (oB 0 h1 o0) (by kernel_rfl)
theorem c250 {qq : Nat} {p0 : List Tm} {r : Bool} (h : e250 qq p0 = some r) : CT Tryz.prog 250 [] [.sl (flat tmCells p0) (List.length p0) .no] (ab r) [] 0 := by
  unfold e250 at h
  exact k250 (tH q250 1 [] [] [] [5, 6, 7] (oD (dT p0) o0) (l250L1364 _ _ _ _ h) (fun j => by kernel_rfl))

end Go.Proofs.YtlbmblbeccafcaaGreat

namespace Go.Proofs.YtlbmblbeccafcaaGreat
open Go Go.Ab

/- scholium/free.Open -/
def e186L64741 : Nat → (List Tm) → Int → Int → (List FreeVar) →  Option (List FreeVar × Int)
  | 0, _, _, _, _ => none
  | qq + 1, p0, p1, v34, v6 =>
    if decide (v34 < (List.length p0 : Int)) = true then
      (gidx p0 v34) >>= fun x9 =>
      (e136 qq v6) >>= fun r11 =>
      (e187 qq x9 r11) >>= fun r13 =>
      if (r13.2 != 0) = true then
        none
      else
        (gapp 48 v6 [(FreeVar.mk (w64 (p1 + v34)) r13.1)]) >>= fun l16 =>
        e186L64741 qq p0 p1 (w64 (v34 + 1)) l16
    else
      some (v6, 0)
def e186 (qq : Nat) (p0 : List Tm) (p1 : Int) : Option (List FreeVar × Int) :=
  if decide (p1 < 0) = true then
    none
  else
    if decide (p1 > 1048576) = true then
      none
    else
      if decide ((List.length p0 : Int) > (w64 (1048576 - p1))) = true then
        none
      else
        (e250 qq p0) >>= fun r4 =>
        if r4 = true then
          if decide ((List.length p0 : Int) > 24) = true then
            none
          else
            e186L64741 qq p0 p1 0 []
        else
          none
def g186L64741E0 (j : Nat → Value) (p0 : List Tm) (p1 : Int) (v34 : Int) (v6 : List FreeVar) : List AV := sp j 59 0 [(1, ai p1), (6, .sl (flat freeVarL v6) (List.length v6) (.st 0 4)), (32, .sl (flat tmCells p0) (List.length p0) .no), (33, ai (List.length p0 : Int)), (34, ai v34)]
def g186L64741S0 (p0 : List Tm) (p1 : Int) (v34 : Int) (v6 : List FreeVar) : LSt := ⟨[], 0, [0], 1, []⟩
theorem q186 : Tryz.prog.funcs[186]? = some Tryz.f186 ∧ Tryz.f186.body.isNone = false := ⟨Tryz.func186, by kernel_rfl⟩
theorem k186 {p0 : List Tm} {p1 : Int} {r : List FreeVar × Int} (h : CTri Tryz.prog 186 [] [.sl (flat tmCells p0) (List.length p0) .no, ai p1] (.tup [.sl (flat freeVarL r.1) (List.length r.1) .no, ai r.2]) [] 0) : CT Tryz.prog 186 [] [.sl (flat tmCells p0) (List.length p0) .no, ai p1] (.tup [.sl (flat freeVarL r.1) (List.length r.1) .no, ai r.2]) [] 0 := ⟨h, ⟨⟨trivial, dT _⟩, trivial, trivial⟩, forall_nil, ⟨dFreeVar _, trivial, trivial⟩, forall_nil⟩
theorem l186L64741 : ∀ qq : Nat, (∀ (p0 : List Tm) (p1 : Int) (v34 : Int) (v6 : List FreeVar) (r : List FreeVar × Int), e186L64741 qq p0 p1 v34 v6 = some r → (∀ j, Dl Tryz.prog 0 (inn (inn (rgt (lft (rgt (rgt (rgt (rgt (bod Tryz.f186))))))))) (g186L64741E0 j p0 p1 v34 v6) (g186L64741S0 p0 p1 v34 v6) (frameQ Tryz.prog 0 (FinQ Tryz.prog 0 Tryz.f186 (.tup [.sl (flat freeVarL r.1) (List.length r.1) .no, ai r.2]) [] 0) [.blk 0, .seq (rgt (rgt (rgt (rgt (rgt (bod Tryz.f186))))))]))) := by
  intro qq
  induction qq with
  | zero =>
    exact fun _ _ _ _ _ h => nn h
  | succ qq ih =>
    intro p0 p1 v34 v6 r h
    rw [e186L64741] at h
    rcases spl h with ⟨h8, h⟩ | ⟨h8, h⟩
    · obtain ⟨x9, h10, h⟩ := obind h
      obtain ⟨r11, h12, h⟩ := obind h
      obtain ⟨r13, h14, h⟩ := obind h
      have k := oC 0 [] (c187 h14) <| oC 3 [] (c136 h12) <| oA 0 (ix22 (o := .no) h10) <| oB 0 h8 o0
      obtain ⟨h15, h⟩ := splF h
      obtain ⟨l16, h17, h⟩ := obind h
      exact fun j => lH 1 [] [] [1] [1, 6, 32, 33, 34] (oD (dT p0) <| oD (dFreeVar l16) <| oP 3 (apS42 h17 (by simp)) <| oB 3 h15 k) (ih _ _ _ _ _ h) (fun j => by kernel_rfl)
    · obtain rfl := sj h
      exact fun j => lF 0 [] (oD (dFreeVar v6) <| oB 0 h8 o0) (by kernel_rfl)
theorem c186 {qq : Nat} {p0 : List Tm} {p1 : Int} {r : List FreeVar × Int} (h : e186 qq p0 p1 = some r) : CT Tryz.prog 186 [] [.sl (flat tmCells p0) (List.length p0) .no, ai p1] (.tup [.sl (flat freeVarL r.1) (List.length r.1) .no, ai r.2]) [] 0 := by
  unfold e186 at h
  obtain ⟨h1, h⟩ := splF h
  have k := oB 0 h1 o0
  obtain ⟨h2, h⟩ := splF h
  have k := oB 0 h2 k
  obtain ⟨h3, h⟩ := splF h
  obtain ⟨r4, h5, h⟩ := obind h
  have k := oB 2 h3 k
  obtain ⟨h6, h⟩ := splT h
  have k := oK 0 [] h6 (c250 h5) k
  obtain ⟨h7, h⟩ := splF h
  exact k186 (tH q186 1 [(none, 6, 4)] [] [0] [1, 6, 32, 33, 34] (oD (dT p0) <| oD (dFreeVar ([] : List FreeVar)) <| oB 2 h7 k) (l186L64741 _ _ _ _ _ _ h) (fun j => by kernel_rfl))

end Go.Proofs.YtlbmblbeccafcaaGreat

namespace Go.Proofs.YtlbmblbeccafcaaGreat
open Go Go.Ab

/- (*scholium/split.maker).open -/
def e133L34860 : Nat → Mach → (List Ent) → (List FreeVar) → Int → Int → Int → (List Tm) → (List Tm) → (Con' × Int) → (List FreeVar × Int) → (List Tm) → (List Tm) → Int →  Option (List FreeVar × List Tm × Int)
  | 0, _, _, _, _, _, _, _, _, _, _, _, _, _ => none
  | qq + 1, M, q0_l, q0_c, q0_n, fl, fu, q0_pars, q0_inds, r1, r10, l17, v12, v73 =>
    if decide (v73 < (List.length r1.1.inds : Int)) = true then
      (gidx r1.1.inds v73) >>= fun x21 =>
      (e187 qq x21 l17) >>= fun r23 =>
      if (r23.2 != 0) = true then
        none
      else
        (gapp 40 v12 [r23.1]) >>= fun l26 =>
        e133L34860 qq M q0_l q0_c q0_n fl fu q0_pars q0_inds r1 r10 l17 l26 (w64 (v73 + 1))
    else
      some (r10.1, v12, 0)
def e133 (qq : Nat) (M : Mach) (q0_l : List Ent) (q0_c : List FreeVar) (q0_n : Int) (fl : Int) (fu : Int) (q0_pars : List Tm) (q0_inds : List Tm) (p1 : Int) : Option (List FreeVar × List Tm × Int) :=
  (e183 qq q0_l p1) >>= fun r1 =>
  if (r1.2 != 0) = true then
    none
  else
    (e184 qq r1.1.args q0_pars) >>= fun r4 =>
    if (r4.2 != 0) = true then
      none
    else
      (e185 qq q0_c) >>= fun r7 =>
      if decide (r7 > (w64 (1048576 - (List.length r4.1 : Int)))) = true then
        none
      else
        (e186 qq r4.1 r7) >>= fun r10 =>
        if (r10.2 != 0) = true then
          none
        else
          (e162 qq q0_pars) >>= fun r13 =>
          (e136 qq r10.1) >>= fun r15 =>
          (gapp 40 r13 r15) >>= fun l17 =>
          e133L34860 qq M q0_l q0_c q0_n fl fu q0_pars q0_inds r1 r10 l17 [] 0
def g133L34860E0 (j : Nat → Value) (M : Mach) (q0_l : List Ent) (q0_c : List FreeVar) (q0_n : Int) (fl : Int) (fu : Int) (q0_pars : List Tm) (q0_inds : List Tm) (r1 : Con' × Int) (r10 : List FreeVar × Int) (l17 : List Tm) (v12 : List Tm) (v73 : Int) : List AV := sp j 93 0 [(11, .sl (flat freeVarL r10.1) (List.length r10.1) .no), (12, .sl (flat tmCells v12) (List.length v12) (.st 0 3)), (13, .sl (flat tmCells l17) (List.length l17) (.st 1 3)), (71, .sl (flat tmCells r1.1.inds) (List.length r1.1.inds) .no), (72, ai (List.length r1.1.inds : Int)), (73, ai v73)]
def g133L34860S0 (M : Mach) (q0_l : List Ent) (q0_c : List FreeVar) (q0_n : Int) (fl : Int) (fu : Int) (q0_pars : List Tm) (q0_inds : List Tm) (r1 : Con' × Int) (r10 : List FreeVar × Int) (l17 : List Tm) (v12 : List Tm) (v73 : Int) : LSt := ⟨[(0, .cells [.mp 1 0, .sl (flat entL q0_l) (List.length q0_l) .no, .sl (flat freeVarL q0_c) (List.length q0_c) .no, ai q0_n, .mp 3 0, .sl (flat tmCells q0_pars) (List.length q0_pars) .no, .sl (flat tmCells q0_inds) (List.length q0_inds) .no]), (1, .cells [.sl (flat entL M.l) (List.length M.l) .no, .mp 2 0, .sl (flat intC M.args) (List.length M.args) .no, .sl (flat intC M.own) (List.length M.own) .no]), (2, .cells [.sl (flat entL M.rl) (List.length M.rl) .no, .sl (flat conL M.parts) (List.length M.parts) .no]), (3, .cells [ai fl, ai fu])], 4, [0, 1], 2, []⟩
theorem q133 : Tryz.prog.funcs[133]? = some Tryz.f133 ∧ Tryz.f133.body.isNone = false := ⟨Tryz.func133, by kernel_rfl⟩
theorem k133 {M : Mach} {q0_l : List Ent} {q0_c : List FreeVar} {q0_n : Int} {fl : Int} {fu : Int} {q0_pars : List Tm} {q0_inds : List Tm} {p1 : Int} {r : List FreeVar × List Tm × Int} (h : CTri Tryz.prog 133 [.cells [.mp 1 0, .sl (flat entL q0_l) (List.length q0_l) .no, .sl (flat freeVarL q0_c) (List.length q0_c) .no, ai q0_n, .mp 3 0, .sl (flat tmCells q0_pars) (List.length q0_pars) .no, .sl (flat tmCells q0_inds) (List.length q0_inds) .no], .cells [.sl (flat entL M.l) (List.length M.l) .no, .mp 2 0, .sl (flat intC M.args) (List.length M.args) .no, .sl (flat intC M.own) (List.length M.own) .no], .cells [.sl (flat entL M.rl) (List.length M.rl) .no, .sl (flat conL M.parts) (List.length M.parts) .no], .cells [ai fl, ai fu]] [.mp 0 0, ai p1] (.tup [.sl (flat freeVarL r.1) (List.length r.1) .no, .sl (flat tmCells r.2.1) (List.length r.2.1) .no, ai r.2.2]) [.cells [.mp 1 0, .sl (flat entL q0_l) (List.length q0_l) .no, .sl (flat freeVarL q0_c) (List.length q0_c) .no, ai q0_n, .mp 3 0, .sl (flat tmCells q0_pars) (List.length q0_pars) .no, .sl (flat tmCells q0_inds) (List.length q0_inds) .no], .cells [.sl (flat entL M.l) (List.length M.l) .no, .mp 2 0, .sl (flat intC M.args) (List.length M.args) .no, .sl (flat intC M.own) (List.length M.own) .no], .cells [.sl (flat entL M.rl) (List.length M.rl) .no, .sl (flat conL M.parts) (List.length M.parts) .no], .cells [ai fl, ai fu]] 0) : CT Tryz.prog 133 [.cells [.mp 1 0, .sl (flat entL q0_l) (List.length q0_l) .no, .sl (flat freeVarL q0_c) (List.length q0_c) .no, ai q0_n, .mp 3 0, .sl (flat tmCells q0_pars) (List.length q0_pars) .no, .sl (flat tmCells q0_inds) (List.length q0_inds) .no], .cells [.sl (flat entL M.l) (List.length M.l) .no, .mp 2 0, .sl (flat intC M.args) (List.length M.args) .no, .sl (flat intC M.own) (List.length M.own) .no], .cells [.sl (flat entL M.rl) (List.length M.rl) .no, .sl (flat conL M.parts) (List.length M.parts) .no], .cells [ai fl, ai fu]] [.mp 0 0, ai p1] (.tup [.sl (flat freeVarL r.1) (List.length r.1) .no, .sl (flat tmCells r.2.1) (List.length r.2.1) .no, ai r.2.2]) [.cells [.mp 1 0, .sl (flat entL q0_l) (List.length q0_l) .no, .sl (flat freeVarL q0_c) (List.length q0_c) .no, ai q0_n, .mp 3 0, .sl (flat tmCells q0_pars) (List.length q0_pars) .no, .sl (flat tmCells q0_inds) (List.length q0_inds) .no], .cells [.sl (flat entL M.l) (List.length M.l) .no, .mp 2 0, .sl (flat intC M.args) (List.length M.args) .no, .sl (flat intC M.own) (List.length M.own) .no], .cells [.sl (flat entL M.rl) (List.length M.rl) .no, .sl (flat conL M.parts) (List.length M.parts) .no], .cells [ai fl, ai fu]] 0 := ⟨h, ⟨(show 0 < 4 by decide), trivial, trivial⟩, (forall_cons ⟨(show 1 < 4 by decide), ⟨trivial, dE _⟩, ⟨trivial, dFreeVar _⟩, trivial, (show 3 < 4 by decide), ⟨trivial, dT _⟩, ⟨trivial, dT _⟩, trivial⟩ (forall_cons ⟨⟨trivial, dE _⟩, (show 2 < 4 by decide), ⟨trivial, dI _⟩, ⟨trivial, dI _⟩, trivial⟩ (forall_cons ⟨⟨trivial, dE _⟩, ⟨trivial, dC _⟩, trivial⟩ (forall_cons ⟨trivial, trivial, trivial⟩ forall_nil)))), ⟨dFreeVar _, dT _, trivial, trivial⟩, (forall_cons ⟨(show 1 < 4 by decide), dE _, dFreeVar _, trivial, (show 3 < 4 by decide), dT _, dT _, trivial⟩ (forall_cons ⟨dE _, (show 2 < 4 by decide), dI _, dI _, trivial⟩ (forall_cons ⟨dE _, dC _, trivial⟩ (forall_cons ⟨trivial, trivial, trivial⟩ forall_nil))))⟩
theorem l133L34860 : ∀ qq : Nat, (∀ (M : Mach) (q0_l : List Ent) (q0_c : List FreeVar) (q0_n : Int) (fl : Int) (fu : Int) (q0_pars : List Tm) (q0_inds : List Tm) (r1 : Con' × Int) (r10 : List FreeVar × Int) (l17 : List Tm) (v12 : List Tm) (v73 : Int) (r : List FreeVar × List Tm × Int), e133L34860 qq M q0_l q0_c q0_n fl fu q0_pars q0_inds r1 r10 l17 v12 v73 = some r → (∀ j, Dl Tryz.prog 4 (inn (inn (rgt (lft (rgt (rgt (rgt (rgt (rgt (rgt (rgt (rgt (rgt (rgt (rgt (bod Tryz.f133)))))))))))))))) (g133L34860E0 j M q0_l q0_c q0_n fl fu q0_pars q0_inds r1 r10 l17 v12 v73) (g133L34860S0 M q0_l q0_c q0_n fl fu q0_pars q0_inds r1 r10 l17 v12 v73) (frameQ Tryz.prog 4 (FinQ Tryz.prog 4 Tryz.f133 (.tup [.sl (flat freeVarL r.1) (List.length r.1) .no, .sl (flat tmCells r.2.1) (List.length r.2.1) .no, ai r.2.2]) [.cells [.mp 1 0, .sl (flat entL q0_l) (List.length q0_l) .no, .sl (flat freeVarL q0_c) (List.length q0_c) .no, ai q0_n, .mp 3 0, .sl (flat tmCells q0_pars) (List.length q0_pars) .no, .sl (flat tmCells q0_inds) (List.length q0_inds) .no], .cells [.sl (flat entL M.l) (List.length M.l) .no, .mp 2 0, .sl (flat intC M.args) (List.length M.args) .no, .sl (flat intC M.own) (List.length M.own) .no], .cells [.sl (flat entL M.rl) (List.length M.rl) .no, .sl (flat conL M.parts) (List.length M.parts) .no], .cells [ai fl, ai fu]] 0) [.blk 0, .seq (rgt (rgt (rgt (rgt (rgt (rgt (rgt (rgt (rgt (rgt (rgt (rgt (bod Tryz.f133)))))))))))))]))) := by
  intro qq
  induction qq with
  | zero =>
    exact fun _ _ _ _ _ _ _ _ _ _ _ _ _ _ h => nn h
  | succ qq ih =>
    intro M q0_l q0_c q0_n fl fu q0_pars q0_inds r1 r10 l17 v12 v73 r h
    rw [e133L34860] at h
    rcases spl h with ⟨h20, h⟩ | ⟨h20, h⟩
    · obtain ⟨x21, h22, h⟩ := obind h
      obtain ⟨r23, h24, h⟩ := obind h
      have k := oC 3 [] (c187 h24) <| oA 0 (ix22 (o := .no) h22) <| oB 0 h20 o0
      obtain ⟨h25, h⟩ := splF h
      obtain ⟨l26, h27, h⟩ := obind h
      exact fun j => lH 1 [] [0, 1, 2, 3] [2, 1] [11, 12, 13, 71, 72, 73] (oD (dT r1.1.inds) <| oD (dT l17) <| oD (dT l26) <| oD (dFreeVar r10.1) <| oD (dC M.parts) <| oD (dE M.rl) <| oD (dI M.own) <| oD (dI M.args) <| oD (dE M.l) <| oD (dT q0_inds) <| oD (dT q0_pars) <| oD (dFreeVar q0_c) <| oD (dE q0_l) <| oP 0 (apS22 h27 (by simp)) <| oS 1 (obLitR tm_eq [r23.1]) <| oB 3 h25 k) (ih _ _ _ _ _ _ _ _ _ _ _ _ _ _ h) (fun j => by kernel_rfl)
    · obtain rfl := sj h
      exact fun j => lF 0 [0, 1, 2, 3] (oD (dT v12) <| oD (dFreeVar r10.1) <| oD (dC M.parts) <| oD (dE M.rl) <| oD (dI M.own) <| oD (dI M.args) <| oD (dE M.l) <| oD (dT q0_inds) <| oD (dT q0_pars) <| oD (dFreeVar q0_c) <| oD (dE q0_l) <| oB 0 h20 o0) (by kernel_rfl)
theorem c133 {qq : Nat} {M : Mach} {q0_l : List Ent} {q0_c : List FreeVar} {q0_n : Int} {fl : Int} {fu : Int} {q0_pars : List Tm} {q0_inds : List Tm} {p1 : Int} {r : List FreeVar × List Tm × Int} (h : e133 qq M q0_l q0_c q0_n fl fu q0_pars q0_inds p1 = some r) : CT Tryz.prog 133 [.cells [.mp 1 0, .sl (flat entL q0_l) (List.length q0_l) .no, .sl (flat freeVarL q0_c) (List.length q0_c) .no, ai q0_n, .mp 3 0, .sl (flat tmCells q0_pars) (List.length q0_pars) .no, .sl (flat tmCells q0_inds) (List.length q0_inds) .no], .cells [.sl (flat entL M.l) (List.length M.l) .no, .mp 2 0, .sl (flat intC M.args) (List.length M.args) .no, .sl (flat intC M.own) (List.length M.own) .no], .cells [.sl (flat entL M.rl) (List.length M.rl) .no, .sl (flat conL M.parts) (List.length M.parts) .no], .cells [ai fl, ai fu]] [.mp 0 0, ai p1] (.tup [.sl (flat freeVarL r.1) (List.length r.1) .no, .sl (flat tmCells r.2.1) (List.length r.2.1) .no, ai r.2.2]) [.cells [.mp 1 0, .sl (flat entL q0_l) (List.length q0_l) .no, .sl (flat freeVarL q0_c) (List.length q0_c) .no, ai q0_n, .mp 3 0, .sl (flat tmCells q0_pars) (List.length q0_pars) .no, .sl (flat tmCells q0_inds) (List.length q0_inds) .no], .cells [.sl (flat entL M.l) (List.length M.l) .no, .mp 2 0, .sl (flat intC M.args) (List.length M.args) .no, .sl (flat intC M.own) (List.length M.own) .no], .cells [.sl (flat entL M.rl) (List.length M.rl) .no, .sl (flat conL M.parts) (List.length M.parts) .no], .cells [ai fl, ai fu]] 0 := by
  unfold e133 at h
  obtain ⟨r1, h2, h⟩ := obind h
  have k := oC 1 [] (c183 h2) o0
  obtain ⟨h3, h⟩ := splF h
  obtain ⟨r4, h5, h⟩ := obind h
  have k := oC 2 [] (c184 h5) <| oB 3 h3 k
  obtain ⟨h6, h⟩ := splF h
  obtain ⟨r7, h8, h⟩ := obind h
  have k := oC 1 [] (c185 h8) <| oB 2 h6 k
  obtain ⟨h9, h⟩ := splF h
  obtain ⟨r10, h11, h⟩ := obind h
  have k := oC 0 [] (c186 h11) <| oB 2 h9 k
  obtain ⟨h12, h⟩ := splF h
  obtain ⟨r13, h14, h⟩ := obind h
  obtain ⟨r15, h16, h⟩ := obind h
  obtain ⟨l17, h18, h⟩ := obind h
  have k := oC 0 [] (c136 h16) <| oC 1 [] (c162 h14) <| oB 2 h12 k
  by_cases h19 : List.length r15 = 0
  · exact k133 (tH q133 2 [(none, 12, 3)] [0, 1, 2, 3] [1, 0] [11, 12, 13, 71, 72, 73] (oD (dT r1.1.inds) <| oD (dT l17) <| oD (dT ([] : List Tm)) <| oD (dFreeVar r10.1) <| oD (dC M.parts) <| oD (dE M.rl) <| oD (dI M.own) <| oD (dI M.args) <| oD (dE M.l) <| oD (dT q0_inds) <| oD (dT q0_pars) <| oD (dFreeVar q0_c) <| oD (dE q0_l) <| oP 0 (apN22 h18 h19) k) (l133L34860 _ _ _ _ _ _ _ _ _ _ _ _ _ _ _ h) (fun j => by kernel_rfl))
  · exact k133 (tH q133 2 [(none, 12, 3)] [0, 1, 2, 3] [2, 1] [11, 12, 13, 71, 72, 73] (oD (dT r1.1.inds) <| oD (dT l17) <| oD (dT ([] : List Tm)) <| oD (dFreeVar r10.1) <| oD (dC M.parts) <| oD (dE M.rl) <| oD (dI M.own) <| oD (dI M.args) <| oD (dE M.l) <| oD (dT q0_inds) <| oD (dT q0_pars) <| oD (dFreeVar q0_c) <| oD (dE q0_l) <| oP 0 (apS22 h18 h19) k) (l133L34860 _ _ _ _ _ _ _ _ _ _ _ _ _ _ _ h) (fun j => by kernel_rfl))

end Go.Proofs.YtlbmblbeccafcaaGreat

namespace Go.Proofs.YtlbmblbeccafcaaGreat
open Go Go.Ab

/- scholium/term.Const -/
def e135 (qq : Nat) (p0 : Int) : Option (Tm) :=
  (e189 qq 6 p0 []) >>= fun r1 =>
  some r1
theorem q135 : Tryz.prog.funcs[135]? = some Tryz.f135 ∧ Tryz.f135.body.isNone = false := ⟨Tryz.func135, by kernel_rfl⟩
theorem k135 {p0 : Int} {r : Tm} (h : CTri Tryz.prog 135 [] [ai p0] (tmA r) [] 0) : CT Tryz.prog 135 [] [ai p0] (tmA r) [] 0 := ⟨h, ⟨trivial, trivial⟩, forall_nil, ⟨trivial, trivial, dT _, trivial⟩, forall_nil⟩
theorem c135 {qq : Nat} {p0 : Int} {r : Tm} (h : e135 qq p0 = some r) : CT Tryz.prog 135 [] [ai p0] (tmA r) [] 0 := by
  unfold e135 at h
  obtain ⟨r1, h2, h⟩ := obind h
  obtain rfl := sj h
  exact k135 (tF q135 1 [] (oD (dT r1.sub) <| oC 0 [] (c189 h2) o0) (by kernel_rfl))

end Go.Proofs.YtlbmblbeccafcaaGreat

namespace Go.Proofs.YtlbmblbeccafcaaGreat
open Go Go.Ab

/- scholium/unify.Put -/
def e138L60585 (qq : Nat) (p0 : List UnifySolved) (v19 : Int) (vb1_0 : Int) (vb1_1 : Int) (vb1_2 : List Tm) : Option (Tm × Int) :=
  if decide (v19 < (List.length p0 : Int)) = true then
    none
  else
    some ((Tm.mk vb1_0 vb1_1 vb1_2), 0)
def e138 (qq : Nat) (p0 : List UnifySolved) (p1 : Tm) : Option (Tm × Int) :=
  (e51 qq p1) >>= fun r1 =>
  if r1 = true then
    (e50 qq p1) >>= fun r4 =>
    e138L60585 qq p0 0 r4.k r4.n r4.sub
  else
    none
def g138L60585E0 (j : Nat → Value) (p0 : List UnifySolved) (v19 : Int) (vb1_0 : Int) (vb1_1 : Int) (vb1_2 : List Tm) : List AV := sp j 39 0 [(4, .mp 0 0), (6, .mp 1 0), (17, .sl (flat unifySolvedL p0) (List.length p0) .no), (18, ai (List.length p0 : Int)), (19, ai v19)]
def g138L60585S0 (p0 : List UnifySolved) (v19 : Int) (vb1_0 : Int) (vb1_1 : Int) (vb1_2 : List Tm) : LSt := ⟨[(0, .cells [ai 0, ai 0, .sl (flat tmCells ([] : List Tm)) (List.length ([] : List Tm)) .nl]), (1, .cells [ai vb1_0, ai vb1_1, .sl (flat tmCells vb1_2) (List.length vb1_2) .no])], 2, [], 0, []⟩
theorem q138 : Tryz.prog.funcs[138]? = some Tryz.f138 ∧ Tryz.f138.body.isNone = false := ⟨Tryz.func138, by kernel_rfl⟩
theorem k138 {p0 : List UnifySolved} {p1 : Tm} {r : Tm × Int} (h : CTri Tryz.prog 138 [] [.sl (flat unifySolvedL p0) (List.length p0) .no, tmA p1] (.tup [tmA r.1, ai r.2]) [] 0) : CT Tryz.prog 138 [] [.sl (flat unifySolvedL p0) (List.length p0) .no, tmA p1] (.tup [tmA r.1, ai r.2]) [] 0 := ⟨h, ⟨⟨trivial, dUnifySolved _⟩, ⟨trivial, trivial, ⟨trivial, dT _⟩, trivial⟩, trivial⟩, forall_nil, ⟨⟨trivial, trivial, dT _, trivial⟩, trivial, trivial⟩, forall_nil⟩
theorem l138L60585 (qq : Nat) (p0 : List UnifySolved) (v19 : Int) (vb1_0 : Int) (vb1_1 : Int) (vb1_2 : List Tm) (r : Tm × Int) (h : e138L60585 qq p0 v19 vb1_0 vb1_1 vb1_2 = some r) : (∀ j, Dl Tryz.prog 0 (inn (inn (rgt (lft (rgt (rgt (rgt (bod Tryz.f138)))))))) (g138L60585E0 j p0 v19 vb1_0 vb1_1 vb1_2) (g138L60585S0 p0 v19 vb1_0 vb1_1 vb1_2) (frameQ Tryz.prog 0 (FinQ Tryz.prog 0 Tryz.f138 (.tup [tmA r.1, ai r.2]) [] 0) [.blk 0, .seq (rgt (rgt (rgt (rgt (bod Tryz.f138)))))])) := by
  unfold e138L60585 at h
  obtain ⟨h6, h⟩ := splF h
  obtain rfl := sj h
  exact fun j => lF 2 [] (oD (dT vb1_2) <| oB 0 h6 o0) (by kernel_rfl)
theorem c138 {qq : Nat} {p0 : List UnifySolved} {p1 : Tm} {r : Tm × Int} (h : e138 qq p0 p1 = some r) : CT Tryz.prog 138 [] [.sl (flat unifySolvedL p0) (List.length p0) .no, tmA p1] (.tup [tmA r.1, ai r.2]) [] 0 := by
  unfold e138 at h
  obtain ⟨r1, h2, h⟩ := obind h
  obtain ⟨h3, h⟩ := splT h
  obtain ⟨r4, h5, h⟩ := obind h
  exact k138 (tH q138 2 [] [1, 2] [] [4, 6, 17, 18, 19] (oD (dUnifySolved p0) <| oD (dT r4.sub) <| oD (dT ([] : List Tm)) <| oC 2 [] (c50 h5) <| oK 1 [] h3 (c51 h2) o0) (l138L60585 qq _ _ _ _ _ _ h) (fun j => by kernel_rfl))

end Go.Proofs.YtlbmblbeccafcaaGreat

namespace Go.Proofs.YtlbmblbeccafcaaGreat
open Go Go.Ab

/- scholium/unify.may -/
def e79 (qq : Nat) (M : Mach) (p1 : Tm) : Option (Bool) :=
  (e42 qq M) >>= fun r1 =>
  (e41 qq p1 0 r1) >>= fun r3 =>
  some r3
theorem q79 : Tryz.prog.funcs[79]? = some Tryz.f79 ∧ Tryz.f79.body.isNone = false := ⟨Tryz.func79, by kernel_rfl⟩
theorem k79 {M : Mach} {p1 : Tm} {r : Bool} (h : CTri Tryz.prog 79 [.cells [.sl (flat entL M.l) (List.length M.l) .no, .mp 1 0, .sl (flat intC M.args) (List.length M.args) .no, .sl (flat intC M.own) (List.length M.own) .no], .cells [.sl (flat entL M.rl) (List.length M.rl) .no, .sl (flat conL M.parts) (List.length M.parts) .no]] [.mp 0 0, tmA p1] (ab r) [.cells [.sl (flat entL M.l) (List.length M.l) .no, .mp 1 0, .sl (flat intC M.args) (List.length M.args) .no, .sl (flat intC M.own) (List.length M.own) .no], .cells [.sl (flat entL M.rl) (List.length M.rl) .no, .sl (flat conL M.parts) (List.length M.parts) .no]] 0) : CT Tryz.prog 79 [.cells [.sl (flat entL M.l) (List.length M.l) .no, .mp 1 0, .sl (flat intC M.args) (List.length M.args) .no, .sl (flat intC M.own) (List.length M.own) .no], .cells [.sl (flat entL M.rl) (List.length M.rl) .no, .sl (flat conL M.parts) (List.length M.parts) .no]] [.mp 0 0, tmA p1] (ab r) [.cells [.sl (flat entL M.l) (List.length M.l) .no, .mp 1 0, .sl (flat intC M.args) (List.length M.args) .no, .sl (flat intC M.own) (List.length M.own) .no], .cells [.sl (flat entL M.rl) (List.length M.rl) .no, .sl (flat conL M.parts) (List.length M.parts) .no]] 0 := ⟨h, ⟨(show 0 < 2 by decide), ⟨trivial, trivial, ⟨trivial, dT _⟩, trivial⟩, trivial⟩, (forall_cons ⟨⟨trivial, dE _⟩, (show 1 < 2 by decide), ⟨trivial, dI _⟩, ⟨trivial, dI _⟩, trivial⟩ (forall_cons ⟨⟨trivial, dE _⟩, ⟨trivial, dC _⟩, trivial⟩ forall_nil)), trivial, (forall_cons ⟨dE _, (show 1 < 2 by decide), dI _, dI _, trivial⟩ (forall_cons ⟨dE _, dC _, trivial⟩ forall_nil))⟩
theorem c79 {qq : Nat} {M : Mach} {p1 : Tm} {r : Bool} (h : e79 qq M p1 = some r) : CT Tryz.prog 79 [.cells [.sl (flat entL M.l) (List.length M.l) .no, .mp 1 0, .sl (flat intC M.args) (List.length M.args) .no, .sl (flat intC M.own) (List.length M.own) .no], .cells [.sl (flat entL M.rl) (List.length M.rl) .no, .sl (flat conL M.parts) (List.length M.parts) .no]] [.mp 0 0, tmA p1] (ab r) [.cells [.sl (flat entL M.l) (List.length M.l) .no, .mp 1 0, .sl (flat intC M.args) (List.length M.args) .no, .sl (flat intC M.own) (List.length M.own) .no], .cells [.sl (flat entL M.rl) (List.length M.rl) .no, .sl (flat conL M.parts) (List.length M.parts) .no]] 0 := by
  unfold e79 at h
  obtain ⟨r1, h2, h⟩ := obind h
  obtain ⟨r3, h4, h⟩ := obind h
  obtain rfl := sj h
  exact k79 (tF q79 0 [0, 1] (oD (dC M.parts) <| oD (dE M.rl) <| oD (dI M.own) <| oD (dI M.args) <| oD (dE M.l) <| oC 0 [] (c41 h4) <| oC 1 [0, 1] (c42 h2) o0) (by kernel_rfl))

end Go.Proofs.YtlbmblbeccafcaaGreat

namespace Go.Proofs.YtlbmblbeccafcaaGreat
open Go Go.Ab

/- scholium/unify.start -/
def e48L23520 (qq : Nat) (M : Mach) (p1 : List FreeVar) (p2 : List Tm) (p3 : List Tm) (fl : Int) (fu : Int) (v49 : Int) (vb4_0 : List UnifyEquation) : Option ((List FreeVar × List UnifyEquation × Int) ⊕ (List FreeVar × Int)) :=
  if decide (v49 < (List.length p2 : Int)) = true then
    none
  else
    some (Sum.inl (p1, vb4_0, 0))
def e48L49526 (qq : Nat) (M : Mach) (p1 : List FreeVar) (p2 : List Tm) (p3 : List Tm) (fl : Int) (fu : Int) (v49 : Int) : Option ((List FreeVar × List UnifyEquation × Int) ⊕ (List FreeVar × Int)) :=
  if decide (v49 < (List.length p2 : Int)) = true then
    (gidx p2 v49) >>= fun x12 =>
    (e79 qq M x12) >>= fun r14 =>
    if r14 = true then
      (gidx p3 v49) >>= fun x17 =>
      (e79 qq M x17) >>= fun r19 =>
      if r19 = true then
        (gapp 80 ([] : List UnifyEquation) [(UnifyEquation.mk x12 x17)]) >>= fun l22 =>
        e48L23520 qq M p1 p2 p3 fl fu (w64 (v49 + 1)) l22
      else
        none
    else
      none
  else
    some (Sum.inr (p1, 0))
def e48L13538 : Nat → Mach → (List FreeVar) → (List Tm) → (List Tm) → Int → Int → Int →  Option ((List FreeVar × List UnifyEquation × Int) ⊕ (List FreeVar × Int))
  | 0, _, _, _, _, _, _, _ => none
  | qq + 1, M, p1, p2, p3, fl, fu, v32 =>
    if decide (v32 < (List.length p1 : Int)) = true then
      (gidx p1 v32) >>= fun x6 =>
      (e79 qq M x6.type_) >>= fun r8 =>
      if r8 = true then
        e48L13538 qq M p1 p2 p3 fl fu (w64 (v32 + 1))
      else
        none
    else
      e48L49526 qq M p1 p2 p3 fl fu 0
def e48 (qq : Nat) (M : Mach) (p1 : List FreeVar) (p2 : List Tm) (p3 : List Tm) (fl : Int) (fu : Int) : Option ((List FreeVar × List UnifyEquation × Int) ⊕ (List FreeVar × Int)) :=
  (e78 qq p1) >>= fun r1 =>
  if r1 = true then
    if ((List.length p2 : Int) != (List.length p3 : Int)) = true then
      none
    else
      e48L13538 qq M p1 p2 p3 fl fu 0
  else
    none
def g48L13538E0 (j : Nat → Value) (M : Mach) (p1 : List FreeVar) (p2 : List Tm) (p3 : List Tm) (fl : Int) (fu : Int) (v32 : Int) : List AV := sp j 88 0 [(0, .mp 0 0), (1, .sl (flat freeVarL p1) (List.length p1) .no), (2, .sl (flat tmCells p2) (List.length p2) .no), (3, .sl (flat tmCells p3) (List.length p3) .no), (4, .mp 2 0), (30, .sl (flat freeVarL p1) (List.length p1) .no), (31, ai (List.length p1 : Int)), (32, ai v32)]
def g48L13538S0 (M : Mach) (p1 : List FreeVar) (p2 : List Tm) (p3 : List Tm) (fl : Int) (fu : Int) (v32 : Int) : LSt := ⟨[(0, .cells [.sl (flat entL M.l) (List.length M.l) .no, .mp 1 0, .sl (flat intC M.args) (List.length M.args) .no, .sl (flat intC M.own) (List.length M.own) .no]), (1, .cells [.sl (flat entL M.rl) (List.length M.rl) .no, .sl (flat conL M.parts) (List.length M.parts) .no]), (2, .cells [ai fl, ai fu])], 3, [], 0, []⟩
def g48L49526E0 (j : Nat → Value) (M : Mach) (p1 : List FreeVar) (p2 : List Tm) (p3 : List Tm) (fl : Int) (fu : Int) (v49 : Int) : List AV := sp j 88 0 [(0, .mp 0 0), (2, .sl (flat tmCells p2) (List.length p2) .no), (3, .sl (flat tmCells p3) (List.length p3) .no), (14, .mp 3 0), (48, ai (List.length p2 : Int)), (49, ai v49)]
def g48L49526S0 (M : Mach) (p1 : List FreeVar) (p2 : List Tm) (p3 : List Tm) (fl : Int) (fu : Int) (v49 : Int) : LSt := ⟨[(0, .cells [.sl (flat entL M.l) (List.length M.l) .no, .mp 1 0, .sl (flat intC M.args) (List.length M.args) .no, .sl (flat intC M.own) (List.length M.own) .no]), (1, .cells [.sl (flat entL M.rl) (List.length M.rl) .no, .sl (flat conL M.parts) (List.length M.parts) .no]), (2, .cells [ai fl, ai fu]), (3, .cells [.mp 0 0, .mp 2 0, .sl (flat freeVarL p1) (List.length p1) .no, .sl (flat unifyEquationL ([] : List UnifyEquation)) (List.length ([] : List UnifyEquation)) .nl, ab false, .sl (flat freeVarL ([] : List FreeVar)) (List.length ([] : List FreeVar)) .nl, .sl (flat unifySolvedL ([] : List UnifySolved)) (List.length ([] : List UnifySolved)) .nl, .sl (flat intC ([] : List Int)) (List.length ([] : List Int)) .nl, ab false, ai 0])], 4, [], 0, []⟩
def g48L23520E0 (j : Nat → Value) (M : Mach) (p1 : List FreeVar) (p2 : List Tm) (p3 : List Tm) (fl : Int) (fu : Int) (v49 : Int) (vb4_0 : List UnifyEquation) : List AV := sp j 88 0 [(0, .mp 0 0), (2, .sl (flat tmCells p2) (List.length p2) .no), (3, .sl (flat tmCells p3) (List.length p3) .no), (14, .mp 3 0), (48, ai (List.length p2 : Int)), (49, ai v49)]
def g48L23520S0 (M : Mach) (p1 : List FreeVar) (p2 : List Tm) (p3 : List Tm) (fl : Int) (fu : Int) (v49 : Int) (vb4_0 : List UnifyEquation) : LSt := ⟨[(0, .cells [.sl (flat entL M.l) (List.length M.l) .no, .mp 1 0, .sl (flat intC M.args) (List.length M.args) .no, .sl (flat intC M.own) (List.length M.own) .no]), (1, .cells [.sl (flat entL M.rl) (List.length M.rl) .no, .sl (flat conL M.parts) (List.length M.parts) .no]), (2, .cells [ai fl, ai fu]), (3, .cells [.mp 0 0, .mp 2 0, .sl (flat freeVarL p1) (List.length p1) .no, .ms 4 0 (List.length vb4_0) (List.length vb4_0) 6, ab false, .sl (flat freeVarL ([] : List FreeVar)) (List.length ([] : List FreeVar)) .nl, .sl (flat unifySolvedL ([] : List UnifySolved)) (List.length ([] : List UnifySolved)) .nl, .sl (flat intC ([] : List Int)) (List.length ([] : List Int)) .nl, ab false, ai 0]), (4, .row (flat unifyEquationL vb4_0))], 5, [], 0, []⟩
theorem q48 : Tryz.prog.funcs[48]? = some Tryz.f48 ∧ Tryz.f48.body.isNone = false := ⟨Tryz.func48, by kernel_rfl⟩
theorem k48s0 {M : Mach} {p1 : List FreeVar} {p2 : List Tm} {p3 : List Tm} {fl : Int} {fu : Int} {r : List FreeVar × List UnifyEquation × Int} (h : CTri Tryz.prog 48 [.cells [.sl (flat entL M.l) (List.length M.l) .no, .mp 1 0, .sl (flat intC M.args) (List.length M.args) .no, .sl (flat intC M.own) (List.length M.own) .no], .cells [.sl (flat entL M.rl) (List.length M.rl) .no, .sl (flat conL M.parts) (List.length M.parts) .no], .cells [ai fl, ai fu]] [.mp 0 0, .sl (flat freeVarL p1) (List.length p1) .no, .sl (flat tmCells p2) (List.length p2) .no, .sl (flat tmCells p3) (List.length p3) .no, .mp 2 0] (.tup [.mp 3 0, ab true]) [.cells [.sl (flat entL M.l) (List.length M.l) .no, .mp 1 0, .sl (flat intC M.args) (List.length M.args) .no, .sl (flat intC M.own) (List.length M.own) .no], .cells [.sl (flat entL M.rl) (List.length M.rl) .no, .sl (flat conL M.parts) (List.length M.parts) .no], .cells [ai fl, ai fu], .cells [.mp 0 0, .mp 2 0, .sl (flat freeVarL r.1) (List.length r.1) .no, .ms 4 0 (List.length r.2.1) (List.length r.2.1) 6, ab false, .sl (flat freeVarL ([] : List FreeVar)) (List.length ([] : List FreeVar)) .nl, .sl (flat unifySolvedL ([] : List UnifySolved)) (List.length ([] : List UnifySolved)) .nl, .sl (flat intC ([] : List Int)) (List.length ([] : List Int)) .nl, ab false, ai r.2.2], .row (flat unifyEquationL r.2.1)] 0) : CT Tryz.prog 48 [.cells [.sl (flat entL M.l) (List.length M.l) .no, .mp 1 0, .sl (flat intC M.args) (List.length M.args) .no, .sl (flat intC M.own) (List.length M.own) .no], .cells [.sl (flat entL M.rl) (List.length M.rl) .no, .sl (flat conL M.parts) (List.length M.parts) .no], .cells [ai fl, ai fu]] [.mp 0 0, .sl (flat freeVarL p1) (List.length p1) .no, .sl (flat tmCells p2) (List.length p2) .no, .sl (flat tmCells p3) (List.length p3) .no, .mp 2 0] (.tup [.mp 3 0, ab true]) [.cells [.sl (flat entL M.l) (List.length M.l) .no, .mp 1 0, .sl (flat intC M.args) (List.length M.args) .no, .sl (flat intC M.own) (List.length M.own) .no], .cells [.sl (flat entL M.rl) (List.length M.rl) .no, .sl (flat conL M.parts) (List.length M.parts) .no], .cells [ai fl, ai fu], .cells [.mp 0 0, .mp 2 0, .sl (flat freeVarL r.1) (List.length r.1) .no, .ms 4 0 (List.length r.2.1) (List.length r.2.1) 6, ab false, .sl (flat freeVarL ([] : List FreeVar)) (List.length ([] : List FreeVar)) .nl, .sl (flat unifySolvedL ([] : List UnifySolved)) (List.length ([] : List UnifySolved)) .nl, .sl (flat intC ([] : List Int)) (List.length ([] : List Int)) .nl, ab false, ai r.2.2], .row (flat unifyEquationL r.2.1)] 0 := ⟨h, ⟨(show 0 < 3 by decide), ⟨trivial, dFreeVar _⟩, ⟨trivial, dT _⟩, ⟨trivial, dT _⟩, (show 2 < 3 by decide), trivial⟩, (forall_cons ⟨⟨trivial, dE _⟩, (show 1 < 3 by decide), ⟨trivial, dI _⟩, ⟨trivial, dI _⟩, trivial⟩ (forall_cons ⟨⟨trivial, dE _⟩, ⟨trivial, dC _⟩, trivial⟩ (forall_cons ⟨trivial, trivial, trivial⟩ forall_nil))), ⟨(show 3 < 5 by decide), trivial, trivial⟩, (forall_cons ⟨dE _, (show 1 < 5 by decide), dI _, dI _, trivial⟩ (forall_cons ⟨dE _, dC _, trivial⟩ (forall_cons ⟨trivial, trivial, trivial⟩ (forall_cons ⟨(show 0 < 5 by decide), (show 2 < 5 by decide), dFreeVar _, (show 4 < 5 by decide), trivial, dFreeVar _, dUnifySolved _, dI _, trivial, trivial, trivial⟩ (forall_cons (dUnifyEquation _) forall_nil)))))⟩
theorem k48s1 {M : Mach} {p1 : List FreeVar} {p2 : List Tm} {p3 : List Tm} {fl : Int} {fu : Int} {r : List FreeVar × Int} (h : CTri Tryz.prog 48 [.cells [.sl (flat entL M.l) (List.length M.l) .no, .mp 1 0, .sl (flat intC M.args) (List.length M.args) .no, .sl (flat intC M.own) (List.length M.own) .no], .cells [.sl (flat entL M.rl) (List.length M.rl) .no, .sl (flat conL M.parts) (List.length M.parts) .no], .cells [ai fl, ai fu]] [.mp 0 0, .sl (flat freeVarL p1) (List.length p1) .no, .sl (flat tmCells p2) (List.length p2) .no, .sl (flat tmCells p3) (List.length p3) .no, .mp 2 0] (.tup [.mp 3 0, ab true]) [.cells [.sl (flat entL M.l) (List.length M.l) .no, .mp 1 0, .sl (flat intC M.args) (List.length M.args) .no, .sl (flat intC M.own) (List.length M.own) .no], .cells [.sl (flat entL M.rl) (List.length M.rl) .no, .sl (flat conL M.parts) (List.length M.parts) .no], .cells [ai fl, ai fu], .cells [.mp 0 0, .mp 2 0, .sl (flat freeVarL r.1) (List.length r.1) .no, .sl (flat unifyEquationL ([] : List UnifyEquation)) (List.length ([] : List UnifyEquation)) .nl, ab false, .sl (flat freeVarL ([] : List FreeVar)) (List.length ([] : List FreeVar)) .nl, .sl (flat unifySolvedL ([] : List UnifySolved)) (List.length ([] : List UnifySolved)) .nl, .sl (flat intC ([] : List Int)) (List.length ([] : List Int)) .nl, ab false, ai r.2]] 0) : CT Tryz.prog 48 [.cells [.sl (flat entL M.l) (List.length M.l) .no, .mp 1 0, .sl (flat intC M.args) (List.length M.args) .no, .sl (flat intC M.own) (List.length M.own) .no], .cells [.sl (flat entL M.rl) (List.length M.rl) .no, .sl (flat conL M.parts) (List.length M.parts) .no], .cells [ai fl, ai fu]] [.mp 0 0, .sl (flat freeVarL p1) (List.length p1) .no, .sl (flat tmCells p2) (List.length p2) .no, .sl (flat tmCells p3) (List.length p3) .no, .mp 2 0] (.tup [.mp 3 0, ab true]) [.cells [.sl (flat entL M.l) (List.length M.l) .no, .mp 1 0, .sl (flat intC M.args) (List.length M.args) .no, .sl (flat intC M.own) (List.length M.own) .no], .cells [.sl (flat entL M.rl) (List.length M.rl) .no, .sl (flat conL M.parts) (List.length M.parts) .no], .cells [ai fl, ai fu], .cells [.mp 0 0, .mp 2 0, .sl (flat freeVarL r.1) (List.length r.1) .no, .sl (flat unifyEquationL ([] : List UnifyEquation)) (List.length ([] : List UnifyEquation)) .nl, ab false, .sl (flat freeVarL ([] : List FreeVar)) (List.length ([] : List FreeVar)) .nl, .sl (flat unifySolvedL ([] : List UnifySolved)) (List.length ([] : List UnifySolved)) .nl, .sl (flat intC ([] : List Int)) (List.length ([] : List Int)) .nl, ab false, ai r.2]] 0 := ⟨h, ⟨(show 0 < 3 by decide), ⟨trivial, dFreeVar _⟩, ⟨trivial, dT _⟩, ⟨trivial, dT _⟩, (show 2 < 3 by decide), trivial⟩, (forall_cons ⟨⟨trivial, dE _⟩, (show 1 < 3 by decide), ⟨trivial, dI _⟩, ⟨trivial, dI _⟩, trivial⟩ (forall_cons ⟨⟨trivial, dE _⟩, ⟨trivial, dC _⟩, trivial⟩ (forall_cons ⟨trivial, trivial, trivial⟩ forall_nil))), ⟨(show 3 < 4 by decide), trivial, trivial⟩, (forall_cons ⟨dE _, (show 1 < 4 by decide), dI _, dI _, trivial⟩ (forall_cons ⟨dE _, dC _, trivial⟩ (forall_cons ⟨trivial, trivial, trivial⟩ (forall_cons ⟨(show 0 < 4 by decide), (show 2 < 4 by decide), dFreeVar _, dUnifyEquation _, trivial, dFreeVar _, dUnifySolved _, dI _, trivial, trivial, trivial⟩ forall_nil))))⟩
theorem l48L23520 (qq : Nat) (M : Mach) (p1 : List FreeVar) (p2 : List Tm) (p3 : List Tm) (fl : Int) (fu : Int) (v49 : Int) (vb4_0 : List UnifyEquation) (r : (List FreeVar × List UnifyEquation × Int) ⊕ (List FreeVar × Int)) (h : e48L23520 qq M p1 p2 p3 fl fu v49 vb4_0 = some r) : (∀ j, Dl Tryz.prog 3 (inn (inn (rgt (lft (rgt (rgt (rgt (rgt (bod Tryz.f48))))))))) (g48L23520E0 j M p1 p2 p3 fl fu v49 vb4_0) (g48L23520S0 M p1 p2 p3 fl fu v49 vb4_0) (frameQ Tryz.prog 3 ((match (generalizing := false) r with | Sum.inl x => FinQ Tryz.prog 3 Tryz.f48 (.tup [.mp 3 0, ab true]) [.cells [.sl (flat entL M.l) (List.length M.l) .no, .mp 1 0, .sl (flat intC M.args) (List.length M.args) .no, .sl (flat intC M.own) (List.length M.own) .no], .cells [.sl (flat entL M.rl) (List.length M.rl) .no, .sl (flat conL M.parts) (List.length M.parts) .no], .cells [ai fl, ai fu], .cells [.mp 0 0, .mp 2 0, .sl (flat freeVarL x.1) (List.length x.1) .no, .ms 4 0 (List.length x.2.1) (List.length x.2.1) 6, ab false, .sl (flat freeVarL ([] : List FreeVar)) (List.length ([] : List FreeVar)) .nl, .sl (flat unifySolvedL ([] : List UnifySolved)) (List.length ([] : List UnifySolved)) .nl, .sl (flat intC ([] : List Int)) (List.length ([] : List Int)) .nl, ab false, ai x.2.2], .row (flat unifyEquationL x.2.1)] 0 | Sum.inr x => FinQ Tryz.prog 3 Tryz.f48 (.tup [.mp 3 0, ab true]) [.cells [.sl (flat entL M.l) (List.length M.l) .no, .mp 1 0, .sl (flat intC M.args) (List.length M.args) .no, .sl (flat intC M.own) (List.length M.own) .no], .cells [.sl (flat entL M.rl) (List.length M.rl) .no, .sl (flat conL M.parts) (List.length M.parts) .no], .cells [ai fl, ai fu], .cells [.mp 0 0, .mp 2 0, .sl (flat freeVarL x.1) (List.length x.1) .no, .sl (flat unifyEquationL ([] : List UnifyEquation)) (List.length ([] : List UnifyEquation)) .nl, ab false, .sl (flat freeVarL ([] : List FreeVar)) (List.length ([] : List FreeVar)) .nl, .sl (flat unifySolvedL ([] : List UnifySolved)) (List.length ([] : List UnifySolved)) .nl, .sl (flat intC ([] : List Int)) (List.length ([] : List Int)) .nl, ab false, ai x.2]] 0)) [.blk 2, .seq (rgt (rgt (rgt (rgt (rgt (bod Tryz.f48))))))])) := by
  unfold e48L23520 at h
  obtain ⟨h24, h⟩ := splF h
  obtain rfl := sj h
  exact fun j => lG 0 [] [0, 1, 2, 3, 4] [] true (oD (dUnifyEquation vb4_0) <| oD (dI ([] : List Int)) <| oD (dUnifySolved ([] : List UnifySolved)) <| oD (dFreeVar ([] : List FreeVar)) <| oD (dFreeVar p1) <| oD (dC M.parts) <| oD (dE M.rl) <| oD (dI M.own) <| oD (dI M.args) <| oD (dE M.l) <| oB 0 h24 o0) (by kernel_rfl) (by decide)
theorem l48L49526 (qq : Nat) (M : Mach) (p1 : List FreeVar) (p2 : List Tm) (p3 : List Tm) (fl : Int) (fu : Int) (v49 : Int) (r : (List FreeVar × List UnifyEquation × Int) ⊕ (List FreeVar × Int)) (h : e48L49526 qq M p1 p2 p3 fl fu v49 = some r) : (∀ j, Dl Tryz.prog 3 (inn (inn (rgt (lft (rgt (rgt (rgt (rgt (bod Tryz.f48))))))))) (g48L49526E0 j M p1 p2 p3 fl fu v49) (g48L49526S0 M p1 p2 p3 fl fu v49) (frameQ Tryz.prog 3 ((match (generalizing := false) r with | Sum.inl x => FinQ Tryz.prog 3 Tryz.f48 (.tup [.mp 3 0, ab true]) [.cells [.sl (flat entL M.l) (List.length M.l) .no, .mp 1 0, .sl (flat intC M.args) (List.length M.args) .no, .sl (flat intC M.own) (List.length M.own) .no], .cells [.sl (flat entL M.rl) (List.length M.rl) .no, .sl (flat conL M.parts) (List.length M.parts) .no], .cells [ai fl, ai fu], .cells [.mp 0 0, .mp 2 0, .sl (flat freeVarL x.1) (List.length x.1) .no, .ms 4 0 (List.length x.2.1) (List.length x.2.1) 6, ab false, .sl (flat freeVarL ([] : List FreeVar)) (List.length ([] : List FreeVar)) .nl, .sl (flat unifySolvedL ([] : List UnifySolved)) (List.length ([] : List UnifySolved)) .nl, .sl (flat intC ([] : List Int)) (List.length ([] : List Int)) .nl, ab false, ai x.2.2], .row (flat unifyEquationL x.2.1)] 0 | Sum.inr x => FinQ Tryz.prog 3 Tryz.f48 (.tup [.mp 3 0, ab true]) [.cells [.sl (flat entL M.l) (List.length M.l) .no, .mp 1 0, .sl (flat intC M.args) (List.length M.args) .no, .sl (flat intC M.own) (List.length M.own) .no], .cells [.sl (flat entL M.rl) (List.length M.rl) .no, .sl (flat conL M.parts) (List.length M.parts) .no], .cells [ai fl, ai fu], .cells [.mp 0 0, .mp 2 0, .sl (flat freeVarL x.1) (List.length x.1) .no, .sl (flat unifyEquationL ([] : List UnifyEquation)) (List.length ([] : List UnifyEquation)) .nl, ab false, .sl (flat freeVarL ([] : List FreeVar)) (List.length ([] : List FreeVar)) .nl, .sl (flat unifySolvedL ([] : List UnifySolved)) (List.length ([] : List UnifySolved)) .nl, .sl (flat intC ([] : List Int)) (List.length ([] : List Int)) .nl, ab false, ai x.2]] 0)) [.blk 2, .seq (rgt (rgt (rgt (rgt (rgt (bod Tryz.f48))))))])) := by
  unfold e48L49526 at h
  rcases spl h with ⟨h11, h⟩ | ⟨h11, h⟩
  · obtain ⟨x12, h13, h⟩ := obind h
    obtain ⟨r14, h15, h⟩ := obind h
    have k := oA 0 (ix22 (o := .no) h13) <| oB 0 h11 o0
    obtain ⟨h16, h⟩ := splT h
    obtain ⟨x17, h18, h⟩ := obind h
    obtain ⟨r19, h20, h⟩ := obind h
    have k := oA 1 (ix22 (o := .no) h18) <| oK 1 [0, 1] h16 (c79 h15) k
    obtain ⟨h21, h⟩ := splT h
    obtain ⟨l22, h23, h⟩ := obind h
    exact fun j => lH 2 [] [0, 1, 2, 3, 4] [] [0, 2, 3, 14, 48, 49] (oD (dT p3) <| oD (dT p2) <| oD (dUnifyEquation l22) <| oD (dI ([] : List Int)) <| oD (dUnifySolved ([] : List UnifySolved)) <| oD (dFreeVar ([] : List FreeVar)) <| oD (dFreeVar p1) <| oD (dC M.parts) <| oD (dE M.rl) <| oD (dI M.own) <| oD (dI M.args) <| oD (dE M.l) <| oM 2 (apW104 h23 (by simp)) <| oA 1 (ix22 (o := .no) h18) <| oA 2 (ix22 (o := .no) h13) <| oK 1 [0, 1] h21 (c79 h20) k) (l48L23520 qq _ _ _ _ _ _ _ _ _ h) (fun j => by kernel_rfl)
  · obtain rfl := sj h
    exact fun j => lG 0 [] [0, 1, 2, 3] [] true (oD (dI ([] : List Int)) <| oD (dUnifySolved ([] : List UnifySolved)) <| oD (dFreeVar ([] : List FreeVar)) <| oD (dUnifyEquation ([] : List UnifyEquation)) <| oD (dFreeVar p1) <| oD (dC M.parts) <| oD (dE M.rl) <| oD (dI M.own) <| oD (dI M.args) <| oD (dE M.l) <| oB 0 h11 o0) (by kernel_rfl) (by decide)
theorem l48L13538 : ∀ qq : Nat, (∀ (M : Mach) (p1 : List FreeVar) (p2 : List Tm) (p3 : List Tm) (fl : Int) (fu : Int) (v32 : Int) (r : (List FreeVar × List UnifyEquation × Int) ⊕ (List FreeVar × Int)), e48L13538 qq M p1 p2 p3 fl fu v32 = some r → (∀ j, Dl Tryz.prog 3 (inn (inn (rgt (lft (rgt (rgt (bod Tryz.f48))))))) (g48L13538E0 j M p1 p2 p3 fl fu v32) (g48L13538S0 M p1 p2 p3 fl fu v32) (frameQ Tryz.prog 3 ((match (generalizing := false) r with | Sum.inl x => FinQ Tryz.prog 3 Tryz.f48 (.tup [.mp 3 0, ab true]) [.cells [.sl (flat entL M.l) (List.length M.l) .no, .mp 1 0, .sl (flat intC M.args) (List.length M.args) .no, .sl (flat intC M.own) (List.length M.own) .no], .cells [.sl (flat entL M.rl) (List.length M.rl) .no, .sl (flat conL M.parts) (List.length M.parts) .no], .cells [ai fl, ai fu], .cells [.mp 0 0, .mp 2 0, .sl (flat freeVarL x.1) (List.length x.1) .no, .ms 4 0 (List.length x.2.1) (List.length x.2.1) 6, ab false, .sl (flat freeVarL ([] : List FreeVar)) (List.length ([] : List FreeVar)) .nl, .sl (flat unifySolvedL ([] : List UnifySolved)) (List.length ([] : List UnifySolved)) .nl, .sl (flat intC ([] : List Int)) (List.length ([] : List Int)) .nl, ab false, ai x.2.2], .row (flat unifyEquationL x.2.1)] 0 | Sum.inr x => FinQ Tryz.prog 3 Tryz.f48 (.tup [.mp 3 0, ab true]) [.cells [.sl (flat entL M.l) (List.length M.l) .no, .mp 1 0, .sl (flat intC M.args) (List.length M.args) .no, .sl (flat intC M.own) (List.length M.own) .no], .cells [.sl (flat entL M.rl) (List.length M.rl) .no, .sl (flat conL M.parts) (List.length M.parts) .no], .cells [ai fl, ai fu], .cells [.mp 0 0, .mp 2 0, .sl (flat freeVarL x.1) (List.length x.1) .no, .sl (flat unifyEquationL ([] : List UnifyEquation)) (List.length ([] : List UnifyEquation)) .nl, ab false, .sl (flat freeVarL ([] : List FreeVar)) (List.length ([] : List FreeVar)) .nl, .sl (flat unifySolvedL ([] : List UnifySolved)) (List.length ([] : List UnifySolved)) .nl, .sl (flat intC ([] : List Int)) (List.length ([] : List Int)) .nl, ab false, ai x.2]] 0)) [.blk 0, .seq (rgt (rgt (rgt (bod Tryz.f48))))]))) := by
  intro qq
  induction qq with
  | zero =>
    exact fun _ _ _ _ _ _ _ _ h => nn h
  | succ qq ih =>
    intro M p1 p2 p3 fl fu v32 r h
    rw [e48L13538] at h
    rcases spl h with ⟨h5, h⟩ | ⟨h5, h⟩
    · obtain ⟨x6, h7, h⟩ := obind h
      obtain ⟨r8, h9, h⟩ := obind h
      have k := oA 0 (ix42 (o := .no) h7) <| oB 0 h5 o0
      obtain ⟨h10, h⟩ := splT h
      exact fun j => lH 2 [] [0, 1, 2] [] [0, 1, 2, 3, 4, 30, 31, 32] (oD (dFreeVar p1) <| oD (dT p3) <| oD (dT p2) <| oD (dFreeVar p1) <| oD (dC M.parts) <| oD (dE M.rl) <| oD (dI M.own) <| oD (dI M.args) <| oD (dE M.l) <| oK 3 [0, 1] h10 (c79 h9) k) (ih _ _ _ _ _ _ _ _ h) (fun j => by kernel_rfl)
    · exact fun j => lH 1 [] [0, 1, 2, 3] [] [0, 2, 3, 14, 48, 49] (oD (dT p3) <| oD (dT p2) <| oD (dI ([] : List Int)) <| oD (dUnifySolved ([] : List UnifySolved)) <| oD (dFreeVar ([] : List FreeVar)) <| oD (dUnifyEquation ([] : List UnifyEquation)) <| oD (dFreeVar p1) <| oD (dC M.parts) <| oD (dE M.rl) <| oD (dI M.own) <| oD (dI M.args) <| oD (dE M.l) <| oB 0 h5 o0) (l48L49526 qq _ _ _ _ _ _ _ _ h) (fun j => by kernel_rfl)
theorem c48 {qq : Nat} {M : Mach} {p1 : List FreeVar} {p2 : List Tm} {p3 : List Tm} {fl : Int} {fu : Int} {r : (List FreeVar × List UnifyEquation × Int) ⊕ (List FreeVar × Int)} (h : e48 qq M p1 p2 p3 fl fu = some r) : (match (generalizing := false) r with | Sum.inl x => CT Tryz.prog 48 [.cells [.sl (flat entL M.l) (List.length M.l) .no, .mp 1 0, .sl (flat intC M.args) (List.length M.args) .no, .sl (flat intC M.own) (List.length M.own) .no], .cells [.sl (flat entL M.rl) (List.length M.rl) .no, .sl (flat conL M.parts) (List.length M.parts) .no], .cells [ai fl, ai fu]] [.mp 0 0, .sl (flat freeVarL p1) (List.length p1) .no, .sl (flat tmCells p2) (List.length p2) .no, .sl (flat tmCells p3) (List.length p3) .no, .mp 2 0] (.tup [.mp 3 0, ab true]) [.cells [.sl (flat entL M.l) (List.length M.l) .no, .mp 1 0, .sl (flat intC M.args) (List.length M.args) .no, .sl (flat intC M.own) (List.length M.own) .no], .cells [.sl (flat entL M.rl) (List.length M.rl) .no, .sl (flat conL M.parts) (List.length M.parts) .no], .cells [ai fl, ai fu], .cells [.mp 0 0, .mp 2 0, .sl (flat freeVarL x.1) (List.length x.1) .no, .ms 4 0 (List.length x.2.1) (List.length x.2.1) 6, ab false, .sl (flat freeVarL ([] : List FreeVar)) (List.length ([] : List FreeVar)) .nl, .sl (flat unifySolvedL ([] : List UnifySolved)) (List.length ([] : List UnifySolved)) .nl, .sl (flat intC ([] : List Int)) (List.length ([] : List Int)) .nl, ab false, ai x.2.2], .row (flat unifyEquationL x.2.1)] 0 | Sum.inr x => CT Tryz.prog 48 [.cells [.sl (flat entL M.l) (List.length M.l) .no, .mp 1 0, .sl (flat intC M.args) (List.length M.args) .no, .sl (flat intC M.own) (List.length M.own) .no], .cells [.sl (flat entL M.rl) (List.length M.rl) .no, .sl (flat conL M.parts) (List.length M.parts) .no], .cells [ai fl, ai fu]] [.mp 0 0, .sl (flat freeVarL p1) (List.length p1) .no, .sl (flat tmCells p2) (List.length p2) .no, .sl (flat tmCells p3) (List.length p3) .no, .mp 2 0] (.tup [.mp 3 0, ab true]) [.cells [.sl (flat entL M.l) (List.length M.l) .no, .mp 1 0, .sl (flat intC M.args) (List.length M.args) .no, .sl (flat intC M.own) (List.length M.own) .no], .cells [.sl (flat entL M.rl) (List.length M.rl) .no, .sl (flat conL M.parts) (List.length M.parts) .no], .cells [ai fl, ai fu], .cells [.mp 0 0, .mp 2 0, .sl (flat freeVarL x.1) (List.length x.1) .no, .sl (flat unifyEquationL ([] : List UnifyEquation)) (List.length ([] : List UnifyEquation)) .nl, ab false, .sl (flat freeVarL ([] : List FreeVar)) (List.length ([] : List FreeVar)) .nl, .sl (flat unifySolvedL ([] : List UnifySolved)) (List.length ([] : List UnifySolved)) .nl, .sl (flat intC ([] : List Int)) (List.length ([] : List Int)) .nl, ab false, ai x.2]] 0) := by
  unfold e48 at h
  obtain ⟨r1, h2, h⟩ := obind h
  obtain ⟨h3, h⟩ := splT h
  have k := oK 1 [] h3 (c78 h2) o0
  obtain ⟨h4, h⟩ := splF h
  rcases r with y0 | y1
  · exact k48s0 (tH q48 1 [] [0, 1, 2] [] [0, 1, 2, 3, 4, 30, 31, 32] (oD (dFreeVar p1) <| oD (dT p3) <| oD (dT p2) <| oD (dFreeVar p1) <| oD (dC M.parts) <| oD (dE M.rl) <| oD (dI M.own) <| oD (dI M.args) <| oD (dE M.l) <| oB 3 h4 k) (l48L13538 _ _ _ _ _ _ _ _ _ h) (fun j => by kernel_rfl))
  · exact k48s1 (tH q48 1 [] [0, 1, 2] [] [0, 1, 2, 3, 4, 30, 31, 32] (oD (dFreeVar p1) <| oD (dT p3) <| oD (dT p2) <| oD (dFreeVar p1) <| oD (dC M.parts) <| oD (dE M.rl) <| oD (dI M.own) <| oD (dI M.args) <| oD (dE M.l) <| oB 3 h4 k) (l48L13538 _ _ _ _ _ _ _ _ _ h) (fun j => by kernel_rfl))

end Go.Proofs.YtlbmblbeccafcaaGreat

namespace Go.Proofs.YtlbmblbeccafcaaGreat
open Go Go.Ab

/- (*scholium/unify.solver).got -/
def e81va29840 (qq : Nat) (q0 : List Ent) (q1 : List Ent) (q2 : List Con') (q3 : List Int) (q4 : List Int) (q5 : Int) (q6 : Int) (q7 : List FreeVar) (q8 : List UnifyEquation) (q9 : Nat) (q10 : Nat) (q11 : Nat) (q12 : Bool) (q13 : Bool) (q14 : Int) (p1 : Tm) (p2 : Int) : Option (Tm × Int) :=
  if (q14 == 0) = true then
    some (p1, p2)
  else
    none
theorem q81va29840 : Tryz.prog.funcs[81]? = some Tryz.f81 ∧ Tryz.f81.body.isNone = false := ⟨Tryz.func81, by kernel_rfl⟩
theorem k81va29840 {q0 : List Ent} {q1 : List Ent} {q2 : List Con'} {q3 : List Int} {q4 : List Int} {q5 : Int} {q6 : Int} {q7 : List FreeVar} {q8 : List UnifyEquation} {q9 : Nat} {q10 : Nat} {q11 : Nat} {q12 : Bool} {q13 : Bool} {q14 : Int} {p1 : Tm} {p2 : Int} {r : Tm × Int} (h : CTri Tryz.prog 81 [.cells [.mp 1 0, .mp 3 0, .sl (flat freeVarL q7) (List.length q7) .no, .ms 4 (q10 * 6) q9 q11 6, ab q12, .sl (flat freeVarL ([] : List FreeVar)) (List.length ([] : List FreeVar)) .nl, .sl (flat unifySolvedL ([] : List UnifySolved)) (List.length ([] : List UnifySolved)) .nl, .sl (flat intC ([] : List Int)) (List.length ([] : List Int)) .nl, ab q13, ai q14], .cells [.sl (flat entL q0) (List.length q0) .no, .mp 2 0, .sl (flat intC q3) (List.length q3) .no, .sl (flat intC q4) (List.length q4) .no], .cells [.sl (flat entL q1) (List.length q1) .no, .sl (flat conL q2) (List.length q2) .no], .cells [ai q5, ai q6], .row (flat unifyEquationL q8)] [.mp 0 0, tmA p1, ai p2] (tmA r.1) [.cells [.mp 1 0, .mp 3 0, .sl (flat freeVarL q7) (List.length q7) .no, .ms 4 (q10 * 6) q9 q11 6, ab q12, .sl (flat freeVarL ([] : List FreeVar)) (List.length ([] : List FreeVar)) .nl, .sl (flat unifySolvedL ([] : List UnifySolved)) (List.length ([] : List UnifySolved)) .nl, .sl (flat intC ([] : List Int)) (List.length ([] : List Int)) .nl, ab q13, ai r.2], .cells [.sl (flat entL q0) (List.length q0) .no, .mp 2 0, .sl (flat intC q3) (List.length q3) .no, .sl (flat intC q4) (List.length q4) .no], .cells [.sl (flat entL q1) (List.length q1) .no, .sl (flat conL q2) (List.length q2) .no], .cells [ai q5, ai q6], .row (flat unifyEquationL q8)] 0) : CT Tryz.prog 81 [.cells [.mp 1 0, .mp 3 0, .sl (flat freeVarL q7) (List.length q7) .no, .ms 4 (q10 * 6) q9 q11 6, ab q12, .sl (flat freeVarL ([] : List FreeVar)) (List.length ([] : List FreeVar)) .nl, .sl (flat unifySolvedL ([] : List UnifySolved)) (List.length ([] : List UnifySolved)) .nl, .sl (flat intC ([] : List Int)) (List.length ([] : List Int)) .nl, ab q13, ai q14], .cells [.sl (flat entL q0) (List.length q0) .no, .mp 2 0, .sl (flat intC q3) (List.length q3) .no, .sl (flat intC q4) (List.length q4) .no], .cells [.sl (flat entL q1) (List.length q1) .no, .sl (flat conL q2) (List.length q2) .no], .cells [ai q5, ai q6], .row (flat unifyEquationL q8)] [.mp 0 0, tmA p1, ai p2] (tmA r.1) [.cells [.mp 1 0, .mp 3 0, .sl (flat freeVarL q7) (List.length q7) .no, .ms 4 (q10 * 6) q9 q11 6, ab q12, .sl (flat freeVarL ([] : List FreeVar)) (List.length ([] : List FreeVar)) .nl, .sl (flat unifySolvedL ([] : List UnifySolved)) (List.length ([] : List UnifySolved)) .nl, .sl (flat intC ([] : List Int)) (List.length ([] : List Int)) .nl, ab q13, ai r.2], .cells [.sl (flat entL q0) (List.length q0) .no, .mp 2 0, .sl (flat intC q3) (List.length q3) .no, .sl (flat intC q4) (List.length q4) .no], .cells [.sl (flat entL q1) (List.length q1) .no, .sl (flat conL q2) (List.length q2) .no], .cells [ai q5, ai q6], .row (flat unifyEquationL q8)] 0 := ⟨h, ⟨(show 0 < 5 by decide), ⟨trivial, trivial, ⟨trivial, dT _⟩, trivial⟩, trivial, trivial⟩, (forall_cons ⟨(show 1 < 5 by decide), (show 3 < 5 by decide), ⟨trivial, dFreeVar _⟩, (show 4 < 5 by decide), trivial, ⟨trivial, dFreeVar _⟩, ⟨trivial, dUnifySolved _⟩, ⟨trivial, dI _⟩, trivial, trivial, trivial⟩ (forall_cons ⟨⟨trivial, dE _⟩, (show 2 < 5 by decide), ⟨trivial, dI _⟩, ⟨trivial, dI _⟩, trivial⟩ (forall_cons ⟨⟨trivial, dE _⟩, ⟨trivial, dC _⟩, trivial⟩ (forall_cons ⟨trivial, trivial, trivial⟩ (forall_cons (dUnifyEquation _) forall_nil))))), ⟨trivial, trivial, dT _, trivial⟩, (forall_cons ⟨(show 1 < 5 by decide), (show 3 < 5 by decide), dFreeVar _, (show 4 < 5 by decide), trivial, dFreeVar _, dUnifySolved _, dI _, trivial, trivial, trivial⟩ (forall_cons ⟨dE _, (show 2 < 5 by decide), dI _, dI _, trivial⟩ (forall_cons ⟨dE _, dC _, trivial⟩ (forall_cons ⟨trivial, trivial, trivial⟩ (forall_cons (dUnifyEquation _) forall_nil)))))⟩
theorem c81va29840 {qq : Nat} {q0 : List Ent} {q1 : List Ent} {q2 : List Con'} {q3 : List Int} {q4 : List Int} {q5 : Int} {q6 : Int} {q7 : List FreeVar} {q8 : List UnifyEquation} {q9 : Nat} {q10 : Nat} {q11 : Nat} {q12 : Bool} {q13 : Bool} {q14 : Int} {p1 : Tm} {p2 : Int} {r : Tm × Int} (h : e81va29840 qq q0 q1 q2 q3 q4 q5 q6 q7 q8 q9 q10 q11 q12 q13 q14 p1 p2 = some r) : CT Tryz.prog 81 [.cells [.mp 1 0, .mp 3 0, .sl (flat freeVarL q7) (List.length q7) .no, .ms 4 (q10 * 6) q9 q11 6, ab q12, .sl (flat freeVarL ([] : List FreeVar)) (List.length ([] : List FreeVar)) .nl, .sl (flat unifySolvedL ([] : List UnifySolved)) (List.length ([] : List UnifySolved)) .nl, .sl (flat intC ([] : List Int)) (List.length ([] : List Int)) .nl, ab q13, ai q14], .cells [.sl (flat entL q0) (List.length q0) .no, .mp 2 0, .sl (flat intC q3) (List.length q3) .no, .sl (flat intC q4) (List.length q4) .no], .cells [.sl (flat entL q1) (List.length q1) .no, .sl (flat conL q2) (List.length q2) .no], .cells [ai q5, ai q6], .row (flat unifyEquationL q8)] [.mp 0 0, tmA p1, ai p2] (tmA r.1) [.cells [.mp 1 0, .mp 3 0, .sl (flat freeVarL q7) (List.length q7) .no, .ms 4 (q10 * 6) q9 q11 6, ab q12, .sl (flat freeVarL ([] : List FreeVar)) (List.length ([] : List FreeVar)) .nl, .sl (flat unifySolvedL ([] : List UnifySolved)) (List.length ([] : List UnifySolved)) .nl, .sl (flat intC ([] : List Int)) (List.length ([] : List Int)) .nl, ab q13, ai r.2], .cells [.sl (flat entL q0) (List.length q0) .no, .mp 2 0, .sl (flat intC q3) (List.length q3) .no, .sl (flat intC q4) (List.length q4) .no], .cells [.sl (flat entL q1) (List.length q1) .no, .sl (flat conL q2) (List.length q2) .no], .cells [ai q5, ai q6], .row (flat unifyEquationL q8)] 0 := by
  unfold e81va29840 at h
  obtain ⟨h1, h⟩ := splT h
  obtain rfl := sj h
  exact k81va29840 (tG q81va29840 3 [] [0, 1, 2, 3, 4] [] true (oD (dT p1.sub) <| oD (dUnifyEquation q8) <| oD (dC q2) <| oD (dE q1) <| oD (dI q4) <| oD (dI q3) <| oD (dE q0) <| oD (dI ([] : List Int)) <| oD (dUnifySolved ([] : List UnifySolved)) <| oD (dFreeVar ([] : List FreeVar)) <| oD (dFreeVar q7) <| oB 1 h1 o0) (by kernel_rfl) (by decide))

end Go.Proofs.YtlbmblbeccafcaaGreat

namespace Go.Proofs.YtlbmblbeccafcaaGreat
open Go Go.Ab

/- (*scholium/unify.solver).variable -/
def e82va14585 (qq : Nat) (q0 : List Ent) (q1 : List Ent) (q2 : List Con') (q3 : List Int) (q4 : List Int) (q5 : Int) (q6 : Int) (q7 : List FreeVar) (q8 : List UnifyEquation) (q9 : Nat) (q10 : Nat) (q11 : Nat) (q12 : Bool) (q13 : Bool) (q14 : Int) (p1 : Tm) : Option (Int) :=
  if (p1.k != 8) = true then
    some (-1)
  else
    (e123 qq q7 p1.n) >>= fun r2 =>
    if (r2.2 != 0) = true then
      none
    else
      some p1.n
theorem q82va14585 : Tryz.prog.funcs[82]? = some Tryz.f82 ∧ Tryz.f82.body.isNone = false := ⟨Tryz.func82, by kernel_rfl⟩
theorem k82va14585 {q0 : List Ent} {q1 : List Ent} {q2 : List Con'} {q3 : List Int} {q4 : List Int} {q5 : Int} {q6 : Int} {q7 : List FreeVar} {q8 : List UnifyEquation} {q9 : Nat} {q10 : Nat} {q11 : Nat} {q12 : Bool} {q13 : Bool} {q14 : Int} {p1 : Tm} {r : Int} (h : CTri Tryz.prog 82 [.cells [.mp 1 0, .mp 3 0, .sl (flat freeVarL q7) (List.length q7) .no, .ms 4 (q10 * 6) q9 q11 6, ab q12, .sl (flat freeVarL ([] : List FreeVar)) (List.length ([] : List FreeVar)) .nl, .sl (flat unifySolvedL ([] : List UnifySolved)) (List.length ([] : List UnifySolved)) .nl, .sl (flat intC ([] : List Int)) (List.length ([] : List Int)) .nl, ab q13, ai q14], .cells [.sl (flat entL q0) (List.length q0) .no, .mp 2 0, .sl (flat intC q3) (List.length q3) .no, .sl (flat intC q4) (List.length q4) .no], .cells [.sl (flat entL q1) (List.length q1) .no, .sl (flat conL q2) (List.length q2) .no], .cells [ai q5, ai q6], .row (flat unifyEquationL q8)] [.mp 0 0, tmA p1] (ai r) [.cells [.mp 1 0, .mp 3 0, .sl (flat freeVarL q7) (List.length q7) .no, .ms 4 (q10 * 6) q9 q11 6, ab q12, .sl (flat freeVarL ([] : List FreeVar)) (List.length ([] : List FreeVar)) .nl, .sl (flat unifySolvedL ([] : List UnifySolved)) (List.length ([] : List UnifySolved)) .nl, .sl (flat intC ([] : List Int)) (List.length ([] : List Int)) .nl, ab q13, ai q14], .cells [.sl (flat entL q0) (List.length q0) .no, .mp 2 0, .sl (flat intC q3) (List.length q3) .no, .sl (flat intC q4) (List.length q4) .no], .cells [.sl (flat entL q1) (List.length q1) .no, .sl (flat conL q2) (List.length q2) .no], .cells [ai q5, ai q6], .row (flat unifyEquationL q8)] 0) : CT Tryz.prog 82 [.cells [.mp 1 0, .mp 3 0, .sl (flat freeVarL q7) (List.length q7) .no, .ms 4 (q10 * 6) q9 q11 6, ab q12, .sl (flat freeVarL ([] : List FreeVar)) (List.length ([] : List FreeVar)) .nl, .sl (flat unifySolvedL ([] : List UnifySolved)) (List.length ([] : List UnifySolved)) .nl, .sl (flat intC ([] : List Int)) (List.length ([] : List Int)) .nl, ab q13, ai q14], .cells [.sl (flat entL q0) (List.length q0) .no, .mp 2 0, .sl (flat intC q3) (List.length q3) .no, .sl (flat intC q4) (List.length q4) .no], .cells [.sl (flat entL q1) (List.length q1) .no, .sl (flat conL q2) (List.length q2) .no], .cells [ai q5, ai q6], .row (flat unifyEquationL q8)] [.mp 0 0, tmA p1] (ai r) [.cells [.mp 1 0, .mp 3 0, .sl (flat freeVarL q7) (List.length q7) .no, .ms 4 (q10 * 6) q9 q11 6, ab q12, .sl (flat freeVarL ([] : List FreeVar)) (List.length ([] : List FreeVar)) .nl, .sl (flat unifySolvedL ([] : List UnifySolved)) (List.length ([] : List UnifySolved)) .nl, .sl (flat intC ([] : List Int)) (List.length ([] : List Int)) .nl, ab q13, ai q14], .cells [.sl (flat entL q0) (List.length q0) .no, .mp 2 0, .sl (flat intC q3) (List.length q3) .no, .sl (flat intC q4) (List.length q4) .no], .cells [.sl (flat entL q1) (List.length q1) .no, .sl (flat conL q2) (List.length q2) .no], .cells [ai q5, ai q6], .row (flat unifyEquationL q8)] 0 := ⟨h, ⟨(show 0 < 5 by decide), ⟨trivial, trivial, ⟨trivial, dT _⟩, trivial⟩, trivial⟩, (forall_cons ⟨(show 1 < 5 by decide), (show 3 < 5 by decide), ⟨trivial, dFreeVar _⟩, (show 4 < 5 by decide), trivial, ⟨trivial, dFreeVar _⟩, ⟨trivial, dUnifySolved _⟩, ⟨trivial, dI _⟩, trivial, trivial, trivial⟩ (forall_cons ⟨⟨trivial, dE _⟩, (show 2 < 5 by decide), ⟨trivial, dI _⟩, ⟨trivial, dI _⟩, trivial⟩ (forall_cons ⟨⟨trivial, dE _⟩, ⟨trivial, dC _⟩, trivial⟩ (forall_cons ⟨trivial, trivial, trivial⟩ (forall_cons (dUnifyEquation _) forall_nil))))), trivial, (forall_cons ⟨(show 1 < 5 by decide), (show 3 < 5 by decide), dFreeVar _, (show 4 < 5 by decide), trivial, dFreeVar _, dUnifySolved _, dI _, trivial, trivial, trivial⟩ (forall_cons ⟨dE _, (show 2 < 5 by decide), dI _, dI _, trivial⟩ (forall_cons ⟨dE _, dC _, trivial⟩ (forall_cons ⟨trivial, trivial, trivial⟩ (forall_cons (dUnifyEquation _) forall_nil)))))⟩
theorem c82va14585 {qq : Nat} {q0 : List Ent} {q1 : List Ent} {q2 : List Con'} {q3 : List Int} {q4 : List Int} {q5 : Int} {q6 : Int} {q7 : List FreeVar} {q8 : List UnifyEquation} {q9 : Nat} {q10 : Nat} {q11 : Nat} {q12 : Bool} {q13 : Bool} {q14 : Int} {p1 : Tm} {r : Int} (h : e82va14585 qq q0 q1 q2 q3 q4 q5 q6 q7 q8 q9 q10 q11 q12 q13 q14 p1 = some r) : CT Tryz.prog 82 [.cells [.mp 1 0, .mp 3 0, .sl (flat freeVarL q7) (List.length q7) .no, .ms 4 (q10 * 6) q9 q11 6, ab q12, .sl (flat freeVarL ([] : List FreeVar)) (List.length ([] : List FreeVar)) .nl, .sl (flat unifySolvedL ([] : List UnifySolved)) (List.length ([] : List UnifySolved)) .nl, .sl (flat intC ([] : List Int)) (List.length ([] : List Int)) .nl, ab q13, ai q14], .cells [.sl (flat entL q0) (List.length q0) .no, .mp 2 0, .sl (flat intC q3) (List.length q3) .no, .sl (flat intC q4) (List.length q4) .no], .cells [.sl (flat entL q1) (List.length q1) .no, .sl (flat conL q2) (List.length q2) .no], .cells [ai q5, ai q6], .row (flat unifyEquationL q8)] [.mp 0 0, tmA p1] (ai r) [.cells [.mp 1 0, .mp 3 0, .sl (flat freeVarL q7) (List.length q7) .no, .ms 4 (q10 * 6) q9 q11 6, ab q12, .sl (flat freeVarL ([] : List FreeVar)) (List.length ([] : List FreeVar)) .nl, .sl (flat unifySolvedL ([] : List UnifySolved)) (List.length ([] : List UnifySolved)) .nl, .sl (flat intC ([] : List Int)) (List.length ([] : List Int)) .nl, ab q13, ai q14], .cells [.sl (flat entL q0) (List.length q0) .no, .mp 2 0, .sl (flat intC q3) (List.length q3) .no, .sl (flat intC q4) (List.length q4) .no], .cells [.sl (flat entL q1) (List.length q1) .no, .sl (flat conL q2) (List.length q2) .no], .cells [ai q5, ai q6], .row (flat unifyEquationL q8)] 0 := by
  unfold e82va14585 at h
  rcases spl h with ⟨h1, h⟩ | ⟨h1, h⟩
  · obtain rfl := sj h
    exact k82va14585 (tG q82va14585 0 [] [0, 1, 2, 3, 4] [] true (oD (dUnifyEquation q8) <| oD (dC q2) <| oD (dE q1) <| oD (dI q4) <| oD (dI q3) <| oD (dE q0) <| oD (dI ([] : List Int)) <| oD (dUnifySolved ([] : List UnifySolved)) <| oD (dFreeVar ([] : List FreeVar)) <| oD (dFreeVar q7) <| oB 1 h1 o0) (by kernel_rfl) (by decide))
  · obtain ⟨r2, h3, h⟩ := obind h
    have k := oC 2 [] (c123 h3) <| oB 1 h1 o0
    obtain ⟨h4, h⟩ := splF h
    obtain rfl := sj h
    exact k82va14585 (tG q82va14585 1 [] [0, 1, 2, 3, 4] [] true (oD (dUnifyEquation q8) <| oD (dC q2) <| oD (dE q1) <| oD (dI q4) <| oD (dI q3) <| oD (dE q0) <| oD (dI ([] : List Int)) <| oD (dUnifySolved ([] : List UnifySolved)) <| oD (dFreeVar ([] : List FreeVar)) <| oD (dFreeVar q7) <| oB 3 h4 k) (by kernel_rfl) (by decide))

end Go.Proofs.YtlbmblbeccafcaaGreat

namespace Go.Proofs.YtlbmblbeccafcaaGreat
open Go Go.Ab

/- (*scholium/whnf.Machine).Con -/
def e76 (qq : Nat) (M : Mach) (p1 : Tm) : Option (Int × List Tm × Bool) :=
  (e51 qq p1) >>= fun r1 =>
  if r1 = true then
    (e50 qq p1) >>= fun r4 =>
    (e120 qq M r4) >>= fun r6 =>
    some (r6.1, r6.2.1, r6.2.2)
  else
    none
theorem q76 : Tryz.prog.funcs[76]? = some Tryz.f76 ∧ Tryz.f76.body.isNone = false := ⟨Tryz.func76, by kernel_rfl⟩
theorem k76 {M : Mach} {p1 : Tm} {r : Int × List Tm × Bool} (h : CTri Tryz.prog 76 [.cells [.sl (flat entL M.l) (List.length M.l) .no, .mp 1 0, .sl (flat intC M.args) (List.length M.args) .no, .sl (flat intC M.own) (List.length M.own) .no], .cells [.sl (flat entL M.rl) (List.length M.rl) .no, .sl (flat conL M.parts) (List.length M.parts) .no]] [.mp 0 0, tmA p1] (.tup [ai r.1, .sl (flat tmCells r.2.1) (List.length r.2.1) .no, ab r.2.2]) [.cells [.sl (flat entL M.l) (List.length M.l) .no, .mp 1 0, .sl (flat intC M.args) (List.length M.args) .no, .sl (flat intC M.own) (List.length M.own) .no], .cells [.sl (flat entL M.rl) (List.length M.rl) .no, .sl (flat conL M.parts) (List.length M.parts) .no]] 0) : CT Tryz.prog 76 [.cells [.sl (flat entL M.l) (List.length M.l) .no, .mp 1 0, .sl (flat intC M.args) (List.length M.args) .no, .sl (flat intC M.own) (List.length M.own) .no], .cells [.sl (flat entL M.rl) (List.length M.rl) .no, .sl (flat conL M.parts) (List.length M.parts) .no]] [.mp 0 0, tmA p1] (.tup [ai r.1, .sl (flat tmCells r.2.1) (List.length r.2.1) .no, ab r.2.2]) [.cells [.sl (flat entL M.l) (List.length M.l) .no, .mp 1 0, .sl (flat intC M.args) (List.length M.args) .no, .sl (flat intC M.own) (List.length M.own) .no], .cells [.sl (flat entL M.rl) (List.length M.rl) .no, .sl (flat conL M.parts) (List.length M.parts) .no]] 0 := ⟨h, ⟨(show 0 < 2 by decide), ⟨trivial, trivial, ⟨trivial, dT _⟩, trivial⟩, trivial⟩, (forall_cons ⟨⟨trivial, dE _⟩, (show 1 < 2 by decide), ⟨trivial, dI _⟩, ⟨trivial, dI _⟩, trivial⟩ (forall_cons ⟨⟨trivial, dE _⟩, ⟨trivial, dC _⟩, trivial⟩ forall_nil)), ⟨trivial, dT _, trivial, trivial⟩, (forall_cons ⟨dE _, (show 1 < 2 by decide), dI _, dI _, trivial⟩ (forall_cons ⟨dE _, dC _, trivial⟩ forall_nil))⟩
theorem c76 {qq : Nat} {M : Mach} {p1 : Tm} {r : Int × List Tm × Bool} (h : e76 qq M p1 = some r) : CT Tryz.prog 76 [.cells [.sl (flat entL M.l) (List.length M.l) .no, .mp 1 0, .sl (flat intC M.args) (List.length M.args) .no, .sl (flat intC M.own) (List.length M.own) .no], .cells [.sl (flat entL M.rl) (List.length M.rl) .no, .sl (flat conL M.parts) (List.length M.parts) .no]] [.mp 0 0, tmA p1] (.tup [ai r.1, .sl (flat tmCells r.2.1) (List.length r.2.1) .no, ab r.2.2]) [.cells [.sl (flat entL M.l) (List.length M.l) .no, .mp 1 0, .sl (flat intC M.args) (List.length M.args) .no, .sl (flat intC M.own) (List.length M.own) .no], .cells [.sl (flat entL M.rl) (List.length M.rl) .no, .sl (flat conL M.parts) (List.length M.parts) .no]] 0 := by
  unfold e76 at h
  obtain ⟨r1, h2, h⟩ := obind h
  obtain ⟨h3, h⟩ := splT h
  obtain ⟨r4, h5, h⟩ := obind h
  obtain ⟨r6, h7, h⟩ := obind h
  obtain rfl := sj h
  exact k76 (tF q76 3 [0, 1] (oD (dT r6.2.1) <| oD (dC M.parts) <| oD (dE M.rl) <| oD (dI M.own) <| oD (dI M.args) <| oD (dE M.l) <| oC 0 [0, 1] (c120 h7) <| oC 2 [] (c50 h5) <| oK 2 [] h3 (c51 h2) o0) (by kernel_rfl))

end Go.Proofs.YtlbmblbeccafcaaGreat

namespace Go.Proofs.YtlbmblbeccafcaaGreat
open Go Go.Ab

/- (*scholium/unify.solver).constructors -/
def e127va38307 (qq : Nat) (q0 : List Ent) (q1 : List Ent) (q2 : List Con') (q3 : List Int) (q4 : List Int) (q5 : Int) (q6 : Int) (q7 : List FreeVar) (q8 : List UnifyEquation) (q9 : Nat) (q10 : Nat) (q11 : Nat) (q12 : Bool) (q13 : Bool) (q14 : Int) (p1 : UnifyEquation) : Option (Bool × List UnifyEquation × Nat × Nat × Nat × Bool × Int × Int × Int) :=
  (e76 qq (Mach.mk q0 q1 q2 q3 q4) p1.a_) >>= fun r1 =>
  if r1.2.2 = true then
    (e76 qq (Mach.mk q0 q1 q2 q3 q4) p1.b_) >>= fun r4 =>
    if r4.2.2 = true then
      none
    else
      some (false, q8, q9, q10, q11, q13, q14, q5, q6)
  else
    none
theorem q127va38307 : Tryz.prog.funcs[127]? = some Tryz.f127 ∧ Tryz.f127.body.isNone = false := ⟨Tryz.func127, by kernel_rfl⟩
theorem k127va38307 {q0 : List Ent} {q1 : List Ent} {q2 : List Con'} {q3 : List Int} {q4 : List Int} {q5 : Int} {q6 : Int} {q7 : List FreeVar} {q8 : List UnifyEquation} {q9 : Nat} {q10 : Nat} {q11 : Nat} {q12 : Bool} {q13 : Bool} {q14 : Int} {p1 : UnifyEquation} {r : Bool × List UnifyEquation × Nat × Nat × Nat × Bool × Int × Int × Int} (h : CTri Tryz.prog 127 [.cells [.mp 1 0, .mp 3 0, .sl (flat freeVarL q7) (List.length q7) .no, .ms 4 (q10 * 6) q9 q11 6, ab q12, .sl (flat freeVarL ([] : List FreeVar)) (List.length ([] : List FreeVar)) .nl, .sl (flat unifySolvedL ([] : List UnifySolved)) (List.length ([] : List UnifySolved)) .nl, .sl (flat intC ([] : List Int)) (List.length ([] : List Int)) .nl, ab q13, ai q14], .cells [.sl (flat entL q0) (List.length q0) .no, .mp 2 0, .sl (flat intC q3) (List.length q3) .no, .sl (flat intC q4) (List.length q4) .no], .cells [.sl (flat entL q1) (List.length q1) .no, .sl (flat conL q2) (List.length q2) .no], .cells [ai q5, ai q6], .row (flat unifyEquationL q8)] [.mp 0 0, unifyEquationA p1] (ab r.1) [.cells [.mp 1 0, .mp 3 0, .sl (flat freeVarL q7) (List.length q7) .no, .ms 4 (r.2.2.2.1 * 6) r.2.2.1 r.2.2.2.2.1 6, ab q12, .sl (flat freeVarL ([] : List FreeVar)) (List.length ([] : List FreeVar)) .nl, .sl (flat unifySolvedL ([] : List UnifySolved)) (List.length ([] : List UnifySolved)) .nl, .sl (flat intC ([] : List Int)) (List.length ([] : List Int)) .nl, ab r.2.2.2.2.2.1, ai r.2.2.2.2.2.2.1], .cells [.sl (flat entL q0) (List.length q0) .no, .mp 2 0, .sl (flat intC q3) (List.length q3) .no, .sl (flat intC q4) (List.length q4) .no], .cells [.sl (flat entL q1) (List.length q1) .no, .sl (flat conL q2) (List.length q2) .no], .cells [ai r.2.2.2.2.2.2.2.1, ai r.2.2.2.2.2.2.2.2], .row (flat unifyEquationL q8)] 0) : CT Tryz.prog 127 [.cells [.mp 1 0, .mp 3 0, .sl (flat freeVarL q7) (List.length q7) .no, .ms 4 (q10 * 6) q9 q11 6, ab q12, .sl (flat freeVarL ([] : List FreeVar)) (List.length ([] : List FreeVar)) .nl, .sl (flat unifySolvedL ([] : List UnifySolved)) (List.length ([] : List UnifySolved)) .nl, .sl (flat intC ([] : List Int)) (List.length ([] : List Int)) .nl, ab q13, ai q14], .cells [.sl (flat entL q0) (List.length q0) .no, .mp 2 0, .sl (flat intC q3) (List.length q3) .no, .sl (flat intC q4) (List.length q4) .no], .cells [.sl (flat entL q1) (List.length q1) .no, .sl (flat conL q2) (List.length q2) .no], .cells [ai q5, ai q6], .row (flat unifyEquationL q8)] [.mp 0 0, unifyEquationA p1] (ab r.1) [.cells [.mp 1 0, .mp 3 0, .sl (flat freeVarL q7) (List.length q7) .no, .ms 4 (r.2.2.2.1 * 6) r.2.2.1 r.2.2.2.2.1 6, ab q12, .sl (flat freeVarL ([] : List FreeVar)) (List.length ([] : List FreeVar)) .nl, .sl (flat unifySolvedL ([] : List UnifySolved)) (List.length ([] : List UnifySolved)) .nl, .sl (flat intC ([] : List Int)) (List.length ([] : List Int)) .nl, ab r.2.2.2.2.2.1, ai r.2.2.2.2.2.2.1], .cells [.sl (flat entL q0) (List.length q0) .no, .mp 2 0, .sl (flat intC q3) (List.length q3) .no, .sl (flat intC q4) (List.length q4) .no], .cells [.sl (flat entL q1) (List.length q1) .no, .sl (flat conL q2) (List.length q2) .no], .cells [ai r.2.2.2.2.2.2.2.1, ai r.2.2.2.2.2.2.2.2], .row (flat unifyEquationL q8)] 0 := ⟨h, ⟨(show 0 < 5 by decide), ⟨trivial, trivial, ⟨trivial, dT _⟩, trivial, trivial, ⟨trivial, dT _⟩, trivial⟩, trivial⟩, (forall_cons ⟨(show 1 < 5 by decide), (show 3 < 5 by decide), ⟨trivial, dFreeVar _⟩, (show 4 < 5 by decide), trivial, ⟨trivial, dFreeVar _⟩, ⟨trivial, dUnifySolved _⟩, ⟨trivial, dI _⟩, trivial, trivial, trivial⟩ (forall_cons ⟨⟨trivial, dE _⟩, (show 2 < 5 by decide), ⟨trivial, dI _⟩, ⟨trivial, dI _⟩, trivial⟩ (forall_cons ⟨⟨trivial, dE _⟩, ⟨trivial, dC _⟩, trivial⟩ (forall_cons ⟨trivial, trivial, trivial⟩ (forall_cons (dUnifyEquation _) forall_nil))))), trivial, (forall_cons ⟨(show 1 < 5 by decide), (show 3 < 5 by decide), dFreeVar _, (show 4 < 5 by decide), trivial, dFreeVar _, dUnifySolved _, dI _, trivial, trivial, trivial⟩ (forall_cons ⟨dE _, (show 2 < 5 by decide), dI _, dI _, trivial⟩ (forall_cons ⟨dE _, dC _, trivial⟩ (forall_cons ⟨trivial, trivial, trivial⟩ (forall_cons (dUnifyEquation _) forall_nil)))))⟩
theorem c127va38307 {qq : Nat} {q0 : List Ent} {q1 : List Ent} {q2 : List Con'} {q3 : List Int} {q4 : List Int} {q5 : Int} {q6 : Int} {q7 : List FreeVar} {q8 : List UnifyEquation} {q9 : Nat} {q10 : Nat} {q11 : Nat} {q12 : Bool} {q13 : Bool} {q14 : Int} {p1 : UnifyEquation} {r : Bool × List UnifyEquation × Nat × Nat × Nat × Bool × Int × Int × Int} (h : e127va38307 qq q0 q1 q2 q3 q4 q5 q6 q7 q8 q9 q10 q11 q12 q13 q14 p1 = some r) : CT Tryz.prog 127 [.cells [.mp 1 0, .mp 3 0, .sl (flat freeVarL q7) (List.length q7) .no, .ms 4 (q10 * 6) q9 q11 6, ab q12, .sl (flat freeVarL ([] : List FreeVar)) (List.length ([] : List FreeVar)) .nl, .sl (flat unifySolvedL ([] : List UnifySolved)) (List.length ([] : List UnifySolved)) .nl, .sl (flat intC ([] : List Int)) (List.length ([] : List Int)) .nl, ab q13, ai q14], .cells [.sl (flat entL q0) (List.length q0) .no, .mp 2 0, .sl (flat intC q3) (List.length q3) .no, .sl (flat intC q4) (List.length q4) .no], .cells [.sl (flat entL q1) (List.length q1) .no, .sl (flat conL q2) (List.length q2) .no], .cells [ai q5, ai q6], .row (flat unifyEquationL q8)] [.mp 0 0, unifyEquationA p1] (ab r.1) [.cells [.mp 1 0, .mp 3 0, .sl (flat freeVarL q7) (List.length q7) .no, .ms 4 (r.2.2.2.1 * 6) r.2.2.1 r.2.2.2.2.1 6, ab q12, .sl (flat freeVarL ([] : List FreeVar)) (List.length ([] : List FreeVar)) .nl, .sl (flat unifySolvedL ([] : List UnifySolved)) (List.length ([] : List UnifySolved)) .nl, .sl (flat intC ([] : List Int)) (List.length ([] : List Int)) .nl, ab r.2.2.2.2.2.1, ai r.2.2.2.2.2.2.1], .cells [.sl (flat entL q0) (List.length q0) .no, .mp 2 0, .sl (flat intC q3) (List.length q3) .no, .sl (flat intC q4) (List.length q4) .no], .cells [.sl (flat entL q1) (List.length q1) .no, .sl (flat conL q2) (List.length q2) .no], .cells [ai r.2.2.2.2.2.2.2.1, ai r.2.2.2.2.2.2.2.2], .row (flat unifyEquationL q8)] 0 := by
  unfold e127va38307 at h
  obtain ⟨r1, h2, h⟩ := obind h
  have k := oC 2 [1, 2] (c76 h2) o0
  obtain ⟨h3, h⟩ := splT h
  obtain ⟨r4, h5, h⟩ := obind h
  have k := oC 2 [1, 2] (c76 h5) <| oB 2 h3 k
  obtain ⟨h6, h⟩ := splF h
  obtain rfl := sj h
  exact k127va38307 (tG q127va38307 2 [] [0, 1, 2, 3, 4] [] true (oD (dUnifyEquation q8) <| oD (dC q2) <| oD (dE q1) <| oD (dI q4) <| oD (dI q3) <| oD (dE q0) <| oD (dI ([] : List Int)) <| oD (dUnifySolved ([] : List UnifySolved)) <| oD (dFreeVar ([] : List FreeVar)) <| oD (dFreeVar q7) <| oB 2 h6 k) (by kernel_rfl) (by decide))

end Go.Proofs.YtlbmblbeccafcaaGreat

namespace Go.Proofs.YtlbmblbeccafcaaGreat
open Go Go.Ab

/- (*scholium/conv.asker).bring -/
def e299 (qq : Nat) (M : Mach) (q0_l : List Ent) (fl : Int) (fu : Int) (q0_e : Int) (p1 : Tm) : Option (Tm × Int × Int × Int) :=
  (e75 qq M p1 fl fu) >>= fun r1 =>
  if (q0_e == 0) = true then
    some (r1.1, r1.2.1, r1.2.2.1, r1.2.2.2)
  else
    none
theorem q299 : Tryz.prog.funcs[299]? = some Tryz.f299 ∧ Tryz.f299.body.isNone = false := ⟨Tryz.func299, by kernel_rfl⟩
theorem k299 {M : Mach} {q0_l : List Ent} {fl : Int} {fu : Int} {q0_e : Int} {p1 : Tm} {r : Tm × Int × Int × Int} (h : CTri Tryz.prog 299 [.cells [.mp 1 0, .sl (flat entL q0_l) (List.length q0_l) .no, .mp 3 0, ai q0_e], .cells [.sl (flat entL M.l) (List.length M.l) .no, .mp 2 0, .sl (flat intC M.args) (List.length M.args) .no, .sl (flat intC M.own) (List.length M.own) .no], .cells [.sl (flat entL M.rl) (List.length M.rl) .no, .sl (flat conL M.parts) (List.length M.parts) .no], .cells [ai fl, ai fu]] [.mp 0 0, tmA p1] (tmA r.1) [.cells [.mp 1 0, .sl (flat entL q0_l) (List.length q0_l) .no, .mp 3 0, ai r.2.1], .cells [.sl (flat entL M.l) (List.length M.l) .no, .mp 2 0, .sl (flat intC M.args) (List.length M.args) .no, .sl (flat intC M.own) (List.length M.own) .no], .cells [.sl (flat entL M.rl) (List.length M.rl) .no, .sl (flat conL M.parts) (List.length M.parts) .no], .cells [ai r.2.2.1, ai r.2.2.2]] 0) : CT Tryz.prog 299 [.cells [.mp 1 0, .sl (flat entL q0_l) (List.length q0_l) .no, .mp 3 0, ai q0_e], .cells [.sl (flat entL M.l) (List.length M.l) .no, .mp 2 0, .sl (flat intC M.args) (List.length M.args) .no, .sl (flat intC M.own) (List.length M.own) .no], .cells [.sl (flat entL M.rl) (List.length M.rl) .no, .sl (flat conL M.parts) (List.length M.parts) .no], .cells [ai fl, ai fu]] [.mp 0 0, tmA p1] (tmA r.1) [.cells [.mp 1 0, .sl (flat entL q0_l) (List.length q0_l) .no, .mp 3 0, ai r.2.1], .cells [.sl (flat entL M.l) (List.length M.l) .no, .mp 2 0, .sl (flat intC M.args) (List.length M.args) .no, .sl (flat intC M.own) (List.length M.own) .no], .cells [.sl (flat entL M.rl) (List.length M.rl) .no, .sl (flat conL M.parts) (List.length M.parts) .no], .cells [ai r.2.2.1, ai r.2.2.2]] 0 := ⟨h, ⟨(show 0 < 4 by decide), ⟨trivial, trivial, ⟨trivial, dT _⟩, trivial⟩, trivial⟩, (forall_cons ⟨(show 1 < 4 by decide), ⟨trivial, dE _⟩, (show 3 < 4 by decide), trivial, trivial⟩ (forall_cons ⟨⟨trivial, dE _⟩, (show 2 < 4 by decide), ⟨trivial, dI _⟩, ⟨trivial, dI _⟩, trivial⟩ (forall_cons ⟨⟨trivial, dE _⟩, ⟨trivial, dC _⟩, trivial⟩ (forall_cons ⟨trivial, trivial, trivial⟩ forall_nil)))), ⟨trivial, trivial, dT _, trivial⟩, (forall_cons ⟨(show 1 < 4 by decide), dE _, (show 3 < 4 by decide), trivial, trivial⟩ (forall_cons ⟨dE _, (show 2 < 4 by decide), dI _, dI _, trivial⟩ (forall_cons ⟨dE _, dC _, trivial⟩ (forall_cons ⟨trivial, trivial, trivial⟩ forall_nil))))⟩
theorem c299 {qq : Nat} {M : Mach} {q0_l : List Ent} {fl : Int} {fu : Int} {q0_e : Int} {p1 : Tm} {r : Tm × Int × Int × Int} (h : e299 qq M q0_l fl fu q0_e p1 = some r) : CT Tryz.prog 299 [.cells [.mp 1 0, .sl (flat entL q0_l) (List.length q0_l) .no, .mp 3 0, ai q0_e], .cells [.sl (flat entL M.l) (List.length M.l) .no, .mp 2 0, .sl (flat intC M.args) (List.length M.args) .no, .sl (flat intC M.own) (List.length M.own) .no], .cells [.sl (flat entL M.rl) (List.length M.rl) .no, .sl (flat conL M.parts) (List.length M.parts) .no], .cells [ai fl, ai fu]] [.mp 0 0, tmA p1] (tmA r.1) [.cells [.mp 1 0, .sl (flat entL q0_l) (List.length q0_l) .no, .mp 3 0, ai r.2.1], .cells [.sl (flat entL M.l) (List.length M.l) .no, .mp 2 0, .sl (flat intC M.args) (List.length M.args) .no, .sl (flat intC M.own) (List.length M.own) .no], .cells [.sl (flat entL M.rl) (List.length M.rl) .no, .sl (flat conL M.parts) (List.length M.parts) .no], .cells [ai r.2.2.1, ai r.2.2.2]] 0 := by
  unfold e299 at h
  obtain ⟨r1, h2, h⟩ := obind h
  have k := oC 3 [1, 2, 3] (c75 h2) o0
  obtain ⟨h3, h⟩ := splT h
  obtain rfl := sj h
  exact k299 (tF q299 3 [0, 1, 2, 3] (oD (dT r1.1.sub) <| oD (dC M.parts) <| oD (dE M.rl) <| oD (dI M.own) <| oD (dI M.args) <| oD (dE M.l) <| oD (dE q0_l) <| oB 4 h3 k) (by kernel_rfl))

end Go.Proofs.YtlbmblbeccafcaaGreat

namespace Go.Proofs.YtlbmblbeccafcaaGreat
open Go Go.Ab

/- (*scholium/conv.asker).pair -/
def e241 (qq : Nat) (M : Mach) (q0_l : List Ent) (fl : Int) (fu : Int) (q0_e : Int) (p1 : Tm) (p2 : Tm) : Option (Tm × Tm × Bool × Int × Int × Int) :=
  if (q0_e != 0) = true then
    none
  else
    (e299 qq M q0_l fl fu q0_e p1) >>= fun r2 =>
    if (r2.2.1 != 0) = true then
      none
    else
      (e299 qq M q0_l r2.2.2.1 r2.2.2.2 r2.2.1 p2) >>= fun r5 =>
      some (r2.1, r5.1, (r5.2.1 == 0), r5.2.1, r5.2.2.1, r5.2.2.2)
theorem q241 : Tryz.prog.funcs[241]? = some Tryz.f241 ∧ Tryz.f241.body.isNone = false := ⟨Tryz.func241, by kernel_rfl⟩
theorem k241 {M : Mach} {q0_l : List Ent} {fl : Int} {fu : Int} {q0_e : Int} {p1 : Tm} {p2 : Tm} {r : Tm × Tm × Bool × Int × Int × Int} (h : CTri Tryz.prog 241 [.cells [.mp 1 0, .sl (flat entL q0_l) (List.length q0_l) .no, .mp 3 0, ai q0_e], .cells [.sl (flat entL M.l) (List.length M.l) .no, .mp 2 0, .sl (flat intC M.args) (List.length M.args) .no, .sl (flat intC M.own) (List.length M.own) .no], .cells [.sl (flat entL M.rl) (List.length M.rl) .no, .sl (flat conL M.parts) (List.length M.parts) .no], .cells [ai fl, ai fu]] [.mp 0 0, tmA p1, tmA p2] (.tup [tmA r.1, tmA r.2.1, ab r.2.2.1]) [.cells [.mp 1 0, .sl (flat entL q0_l) (List.length q0_l) .no, .mp 3 0, ai r.2.2.2.1], .cells [.sl (flat entL M.l) (List.length M.l) .no, .mp 2 0, .sl (flat intC M.args) (List.length M.args) .no, .sl (flat intC M.own) (List.length M.own) .no], .cells [.sl (flat entL M.rl) (List.length M.rl) .no, .sl (flat conL M.parts) (List.length M.parts) .no], .cells [ai r.2.2.2.2.1, ai r.2.2.2.2.2]] 0) : CT Tryz.prog 241 [.cells [.mp 1 0, .sl (flat entL q0_l) (List.length q0_l) .no, .mp 3 0, ai q0_e], .cells [.sl (flat entL M.l) (List.length M.l) .no, .mp 2 0, .sl (flat intC M.args) (List.length M.args) .no, .sl (flat intC M.own) (List.length M.own) .no], .cells [.sl (flat entL M.rl) (List.length M.rl) .no, .sl (flat conL M.parts) (List.length M.parts) .no], .cells [ai fl, ai fu]] [.mp 0 0, tmA p1, tmA p2] (.tup [tmA r.1, tmA r.2.1, ab r.2.2.1]) [.cells [.mp 1 0, .sl (flat entL q0_l) (List.length q0_l) .no, .mp 3 0, ai r.2.2.2.1], .cells [.sl (flat entL M.l) (List.length M.l) .no, .mp 2 0, .sl (flat intC M.args) (List.length M.args) .no, .sl (flat intC M.own) (List.length M.own) .no], .cells [.sl (flat entL M.rl) (List.length M.rl) .no, .sl (flat conL M.parts) (List.length M.parts) .no], .cells [ai r.2.2.2.2.1, ai r.2.2.2.2.2]] 0 := ⟨h, ⟨(show 0 < 4 by decide), ⟨trivial, trivial, ⟨trivial, dT _⟩, trivial⟩, ⟨trivial, trivial, ⟨trivial, dT _⟩, trivial⟩, trivial⟩, (forall_cons ⟨(show 1 < 4 by decide), ⟨trivial, dE _⟩, (show 3 < 4 by decide), trivial, trivial⟩ (forall_cons ⟨⟨trivial, dE _⟩, (show 2 < 4 by decide), ⟨trivial, dI _⟩, ⟨trivial, dI _⟩, trivial⟩ (forall_cons ⟨⟨trivial, dE _⟩, ⟨trivial, dC _⟩, trivial⟩ (forall_cons ⟨trivial, trivial, trivial⟩ forall_nil)))), ⟨⟨trivial, trivial, dT _, trivial⟩, ⟨trivial, trivial, dT _, trivial⟩, trivial, trivial⟩, (forall_cons ⟨(show 1 < 4 by decide), dE _, (show 3 < 4 by decide), trivial, trivial⟩ (forall_cons ⟨dE _, (show 2 < 4 by decide), dI _, dI _, trivial⟩ (forall_cons ⟨dE _, dC _, trivial⟩ (forall_cons ⟨trivial, trivial, trivial⟩ forall_nil))))⟩
theorem c241 {qq : Nat} {M : Mach} {q0_l : List Ent} {fl : Int} {fu : Int} {q0_e : Int} {p1 : Tm} {p2 : Tm} {r : Tm × Tm × Bool × Int × Int × Int} (h : e241 qq M q0_l fl fu q0_e p1 p2 = some r) : CT Tryz.prog 241 [.cells [.mp 1 0, .sl (flat entL q0_l) (List.length q0_l) .no, .mp 3 0, ai q0_e], .cells [.sl (flat entL M.l) (List.length M.l) .no, .mp 2 0, .sl (flat intC M.args) (List.length M.args) .no, .sl (flat intC M.own) (List.length M.own) .no], .cells [.sl (flat entL M.rl) (List.length M.rl) .no, .sl (flat conL M.parts) (List.length M.parts) .no], .cells [ai fl, ai fu]] [.mp 0 0, tmA p1, tmA p2] (.tup [tmA r.1, tmA r.2.1, ab r.2.2.1]) [.cells [.mp 1 0, .sl (flat entL q0_l) (List.length q0_l) .no, .mp 3 0, ai r.2.2.2.1], .cells [.sl (flat entL M.l) (List.length M.l) .no, .mp 2 0, .sl (flat intC M.args) (List.length M.args) .no, .sl (flat intC M.own) (List.length M.own) .no], .cells [.sl (flat entL M.rl) (List.length M.rl) .no, .sl (flat conL M.parts) (List.length M.parts) .no], .cells [ai r.2.2.2.2.1, ai r.2.2.2.2.2]] 0 := by
  unfold e241 at h
  obtain ⟨h1, h⟩ := splF h
  obtain ⟨r2, h3, h⟩ := obind h
  have k := oC 1 [0, 1, 2, 3] (c299 h3) <| oB 1 h1 o0
  obtain ⟨h4, h⟩ := splF h
  obtain ⟨r5, h6, h⟩ := obind h
  obtain rfl := sj h
  exact k241 (tF q241 7 [0, 1, 2, 3] (oD (dT r5.1.sub) <| oD (dT r2.1.sub) <| oD (dC M.parts) <| oD (dE M.rl) <| oD (dI M.own) <| oD (dI M.args) <| oD (dE M.l) <| oD (dE q0_l) <| oC 1 [0, 1, 2, 3] (c299 h6) <| oB 2 h4 k) (by kernel_rfl))

end Go.Proofs.YtlbmblbeccafcaaGreat

namespace Go.Proofs.YtlbmblbeccafcaaGreat
open Go Go.Ab

/- (*scholium/conv.asker).record -/
def e301 (qq : Nat) (M : Mach) (q0_l : List Ent) (fl : Int) (fu : Int) (q0_e : Int) (p1 : Tm) : Option (Int × List Tm × Bool) :=
  (e76 qq M p1) >>= fun r1 =>
  if r1.2.2 = true then
    (gidx q0_l r1.1) >>= fun x4 =>
    (gidx q0_l x4.fam) >>= fun x6 =>
    if ((List.length x6.fields : Int) == 0) = true then
      some (0, [], false)
    else
      none
  else
    some (0, [], false)
theorem q301 : Tryz.prog.funcs[301]? = some Tryz.f301 ∧ Tryz.f301.body.isNone = false := ⟨Tryz.func301, by kernel_rfl⟩
theorem k301 {M : Mach} {q0_l : List Ent} {fl : Int} {fu : Int} {q0_e : Int} {p1 : Tm} {r : Int × List Tm × Bool} (h : CTri Tryz.prog 301 [.cells [.mp 1 0, .sl (flat entL q0_l) (List.length q0_l) .no, .mp 3 0, ai q0_e], .cells [.sl (flat entL M.l) (List.length M.l) .no, .mp 2 0, .sl (flat intC M.args) (List.length M.args) .no, .sl (flat intC M.own) (List.length M.own) .no], .cells [.sl (flat entL M.rl) (List.length M.rl) .no, .sl (flat conL M.parts) (List.length M.parts) .no], .cells [ai fl, ai fu]] [.mp 0 0, tmA p1] (.tup [ai r.1, .sl (flat tmCells r.2.1) (List.length r.2.1) .no, ab r.2.2]) [.cells [.mp 1 0, .sl (flat entL q0_l) (List.length q0_l) .no, .mp 3 0, ai q0_e], .cells [.sl (flat entL M.l) (List.length M.l) .no, .mp 2 0, .sl (flat intC M.args) (List.length M.args) .no, .sl (flat intC M.own) (List.length M.own) .no], .cells [.sl (flat entL M.rl) (List.length M.rl) .no, .sl (flat conL M.parts) (List.length M.parts) .no], .cells [ai fl, ai fu]] 0) : CT Tryz.prog 301 [.cells [.mp 1 0, .sl (flat entL q0_l) (List.length q0_l) .no, .mp 3 0, ai q0_e], .cells [.sl (flat entL M.l) (List.length M.l) .no, .mp 2 0, .sl (flat intC M.args) (List.length M.args) .no, .sl (flat intC M.own) (List.length M.own) .no], .cells [.sl (flat entL M.rl) (List.length M.rl) .no, .sl (flat conL M.parts) (List.length M.parts) .no], .cells [ai fl, ai fu]] [.mp 0 0, tmA p1] (.tup [ai r.1, .sl (flat tmCells r.2.1) (List.length r.2.1) .no, ab r.2.2]) [.cells [.mp 1 0, .sl (flat entL q0_l) (List.length q0_l) .no, .mp 3 0, ai q0_e], .cells [.sl (flat entL M.l) (List.length M.l) .no, .mp 2 0, .sl (flat intC M.args) (List.length M.args) .no, .sl (flat intC M.own) (List.length M.own) .no], .cells [.sl (flat entL M.rl) (List.length M.rl) .no, .sl (flat conL M.parts) (List.length M.parts) .no], .cells [ai fl, ai fu]] 0 := ⟨h, ⟨(show 0 < 4 by decide), ⟨trivial, trivial, ⟨trivial, dT _⟩, trivial⟩, trivial⟩, (forall_cons ⟨(show 1 < 4 by decide), ⟨trivial, dE _⟩, (show 3 < 4 by decide), trivial, trivial⟩ (forall_cons ⟨⟨trivial, dE _⟩, (show 2 < 4 by decide), ⟨trivial, dI _⟩, ⟨trivial, dI _⟩, trivial⟩ (forall_cons ⟨⟨trivial, dE _⟩, ⟨trivial, dC _⟩, trivial⟩ (forall_cons ⟨trivial, trivial, trivial⟩ forall_nil)))), ⟨trivial, dT _, trivial, trivial⟩, (forall_cons ⟨(show 1 < 4 by decide), dE _, (show 3 < 4 by decide), trivial, trivial⟩ (forall_cons ⟨dE _, (show 2 < 4 by decide), dI _, dI _, trivial⟩ (forall_cons ⟨dE _, dC _, trivial⟩ (forall_cons ⟨trivial, trivial, trivial⟩ forall_nil))))⟩
theorem c301 {qq : Nat} {M : Mach} {q0_l : List Ent} {fl : Int} {fu : Int} {q0_e : Int} {p1 : Tm} {r : Int × List Tm × Bool} (h : e301 qq M q0_l fl fu q0_e p1 = some r) : CT Tryz.prog 301 [.cells [.mp 1 0, .sl (flat entL q0_l) (List.length q0_l) .no, .mp 3 0, ai q0_e], .cells [.sl (flat entL M.l) (List.length M.l) .no, .mp 2 0, .sl (flat intC M.args) (List.length M.args) .no, .sl (flat intC M.own) (List.length M.own) .no], .cells [.sl (flat entL M.rl) (List.length M.rl) .no, .sl (flat conL M.parts) (List.length M.parts) .no], .cells [ai fl, ai fu]] [.mp 0 0, tmA p1] (.tup [ai r.1, .sl (flat tmCells r.2.1) (List.length r.2.1) .no, ab r.2.2]) [.cells [.mp 1 0, .sl (flat entL q0_l) (List.length q0_l) .no, .mp 3 0, ai q0_e], .cells [.sl (flat entL M.l) (List.length M.l) .no, .mp 2 0, .sl (flat intC M.args) (List.length M.args) .no, .sl (flat intC M.own) (List.length M.own) .no], .cells [.sl (flat entL M.rl) (List.length M.rl) .no, .sl (flat conL M.parts) (List.length M.parts) .no], .cells [ai fl, ai fu]] 0 := by
  unfold e301 at h
  obtain ⟨r1, h2, h⟩ := obind h
  have k := oC 2 [1, 2] (c76 h2) o0
  rcases spl h with ⟨h3, h⟩ | ⟨h3, h⟩
  · obtain ⟨x4, h5, h⟩ := obind h
    obtain ⟨x6, h7, h⟩ := obind h
    have k := oA 1 (ix25 (o := .no) h7) <| oA 3 (ix25 (o := .no) h5) <| oB 2 h3 k
    obtain ⟨h8, h⟩ := splT h
    obtain rfl := sj h
    exact k301 (tF q301 0 [0, 1, 2, 3] (oD (dT ([] : List Tm)) <| oD (dC M.parts) <| oD (dE M.rl) <| oD (dI M.own) <| oD (dI M.args) <| oD (dE M.l) <| oD (dE q0_l) <| oB 2 h8 k) (by kernel_rfl))
  · obtain rfl := sj h
    exact k301 (tF q301 1 [0, 1, 2, 3] (oD (dT ([] : List Tm)) <| oD (dC M.parts) <| oD (dE M.rl) <| oD (dI M.own) <| oD (dI M.args) <| oD (dE M.l) <| oD (dE q0_l) <| oB 2 h3 k) (by kernel_rfl))

end Go.Proofs.YtlbmblbeccafcaaGreat

namespace Go.Proofs.YtlbmblbeccafcaaGreat
open Go Go.Ab

/- (*scholium/conv.asker).same -/
/- (*scholium/conv.asker).heads -/
/- (*scholium/conv.asker).fields -/
/- (*scholium/conv.asker).spines -/
def e242va10891 (qq : Nat) (q0 : List Ent) (q1 : List Ent) (q2 : List Con') (q3 : List Int) (q4 : List Int) (q5 : List Ent) (q6 : Int) (q7 : Int) (q8 : Int) (p1 : Tm) (p2 : Tm) : Option (Bool × Int × Int × Int) :=
  if (p1.k == 4) = true then
    none
  else
    if (p2.k == 4) = true then
      none
    else
      (e301 qq (Mach.mk q0 q1 q2 q3 q4) q5 q6 q7 q8 p1) >>= fun r15 =>
      if r15.2.2 = true then
        none
      else
        (e301 qq (Mach.mk q0 q1 q2 q3 q4) q5 q6 q7 q8 p2) >>= fun r34 =>
        if r34.2.2 = true then
          none
        else
          if (p1.k != p2.k) = true then
            some (false, q8, q6, q7)
          else
            none
def e181va22461 (qq : Nat) (q0 : List Ent) (q1 : List Ent) (q2 : List Con') (q3 : List Int) (q4 : List Int) (q5 : List Ent) (q6 : Int) (q7 : Int) (q8 : Int) (p1 : Tm) (p2 : Tm) : Option (Bool × Int × Int × Int) :=
  (e241 qq (Mach.mk q0 q1 q2 q3 q4) q5 q6 q7 q8 p1 p2) >>= fun r1 =>
  if r1.2.2.1 = true then
    (e242va10891 qq q0 q1 q2 q3 q4 q5 r1.2.2.2.2.1 r1.2.2.2.2.2 r1.2.2.2.1 r1.1 r1.2.1) >>= fun r4 =>
    some (r4.1, r4.2.1, r4.2.2.1, r4.2.2.2)
  else
    none
def e302va27343 (qq : Nat) (q0 : List Ent) (q1 : List Ent) (q2 : List Con') (q3 : List Int) (q4 : List Int) (q5 : List Ent) (q6 : Int) (q7 : Int) (q8 : Int) (p1 : Tm) (p2 : Tm) (p3 : Int) (p4 : List Tm) : Option (Bool × Int × Int × Int) :=
  none
def e303va22461 (qq : Nat) (q0 : List Ent) (q1 : List Ent) (q2 : List Con') (q3 : List Int) (q4 : List Int) (q5 : List Ent) (q6 : Int) (q7 : Int) (q8 : Int) (p1 : Tm) (p2 : Tm) : Option (Bool × Int × Int × Int) :=
  none
theorem q181va22461 : Tryz.prog.funcs[181]? = some Tryz.f181 ∧ Tryz.f181.body.isNone = false := ⟨Tryz.func181, by kernel_rfl⟩
theorem k181va22461 {q0 : List Ent} {q1 : List Ent} {q2 : List Con'} {q3 : List Int} {q4 : List Int} {q5 : List Ent} {q6 : Int} {q7 : Int} {q8 : Int} {p1 : Tm} {p2 : Tm} {r : Bool × Int × Int × Int} (h : CTri Tryz.prog 181 [.cells [.mp 1 0, .sl (flat entL q5) (List.length q5) .no, .mp 3 0, ai q8], .cells [.sl (flat entL q0) (List.length q0) .no, .mp 2 0, .sl (flat intC q3) (List.length q3) .no, .sl (flat intC q4) (List.length q4) .no], .cells [.sl (flat entL q1) (List.length q1) .no, .sl (flat conL q2) (List.length q2) .no], .cells [ai q6, ai q7]] [.mp 0 0, tmA p1, tmA p2] (ab r.1) [.cells [.mp 1 0, .sl (flat entL q5) (List.length q5) .no, .mp 3 0, ai r.2.1], .cells [.sl (flat entL q0) (List.length q0) .no, .mp 2 0, .sl (flat intC q3) (List.length q3) .no, .sl (flat intC q4) (List.length q4) .no], .cells [.sl (flat entL q1) (List.length q1) .no, .sl (flat conL q2) (List.length q2) .no], .cells [ai r.2.2.1, ai r.2.2.2]] 0) : CT Tryz.prog 181 [.cells [.mp 1 0, .sl (flat entL q5) (List.length q5) .no, .mp 3 0, ai q8], .cells [.sl (flat entL q0) (List.length q0) .no, .mp 2 0, .sl (flat intC q3) (List.length q3) .no, .sl (flat intC q4) (List.length q4) .no], .cells [.sl (flat entL q1) (List.length q1) .no, .sl (flat conL q2) (List.length q2) .no], .cells [ai q6, ai q7]] [.mp 0 0, tmA p1, tmA p2] (ab r.1) [.cells [.mp 1 0, .sl (flat entL q5) (List.length q5) .no, .mp 3 0, ai r.2.1], .cells [.sl (flat entL q0) (List.length q0) .no, .mp 2 0, .sl (flat intC q3) (List.length q3) .no, .sl (flat intC q4) (List.length q4) .no], .cells [.sl (flat entL q1) (List.length q1) .no, .sl (flat conL q2) (List.length q2) .no], .cells [ai r.2.2.1, ai r.2.2.2]] 0 := ⟨h, ⟨(show 0 < 4 by decide), ⟨trivial, trivial, ⟨trivial, dT _⟩, trivial⟩, ⟨trivial, trivial, ⟨trivial, dT _⟩, trivial⟩, trivial⟩, (forall_cons ⟨(show 1 < 4 by decide), ⟨trivial, dE _⟩, (show 3 < 4 by decide), trivial, trivial⟩ (forall_cons ⟨⟨trivial, dE _⟩, (show 2 < 4 by decide), ⟨trivial, dI _⟩, ⟨trivial, dI _⟩, trivial⟩ (forall_cons ⟨⟨trivial, dE _⟩, ⟨trivial, dC _⟩, trivial⟩ (forall_cons ⟨trivial, trivial, trivial⟩ forall_nil)))), trivial, (forall_cons ⟨(show 1 < 4 by decide), dE _, (show 3 < 4 by decide), trivial, trivial⟩ (forall_cons ⟨dE _, (show 2 < 4 by decide), dI _, dI _, trivial⟩ (forall_cons ⟨dE _, dC _, trivial⟩ (forall_cons ⟨trivial, trivial, trivial⟩ forall_nil))))⟩
theorem q242va10891 : Tryz.prog.funcs[242]? = some Tryz.f242 ∧ Tryz.f242.body.isNone = false := ⟨Tryz.func242, by kernel_rfl⟩
theorem k242va10891 {q0 : List Ent} {q1 : List Ent} {q2 : List Con'} {q3 : List Int} {q4 : List Int} {q5 : List Ent} {q6 : Int} {q7 : Int} {q8 : Int} {p1 : Tm} {p2 : Tm} {r : Bool × Int × Int × Int} (h : CTri Tryz.prog 242 [.cells [.mp 1 0, .sl (flat entL q5) (List.length q5) .no, .mp 3 0, ai q8], .cells [.sl (flat entL q0) (List.length q0) .no, .mp 2 0, .sl (flat intC q3) (List.length q3) .no, .sl (flat intC q4) (List.length q4) .no], .cells [.sl (flat entL q1) (List.length q1) .no, .sl (flat conL q2) (List.length q2) .no], .cells [ai q6, ai q7]] [.mp 0 0, tmA p1, tmA p2, .agg [.clo 243 [] [], .clo 181 [.mp 0 0] []]] (ab r.1) [.cells [.mp 1 0, .sl (flat entL q5) (List.length q5) .no, .mp 3 0, ai r.2.1], .cells [.sl (flat entL q0) (List.length q0) .no, .mp 2 0, .sl (flat intC q3) (List.length q3) .no, .sl (flat intC q4) (List.length q4) .no], .cells [.sl (flat entL q1) (List.length q1) .no, .sl (flat conL q2) (List.length q2) .no], .cells [ai r.2.2.1, ai r.2.2.2]] 0) : CT Tryz.prog 242 [.cells [.mp 1 0, .sl (flat entL q5) (List.length q5) .no, .mp 3 0, ai q8], .cells [.sl (flat entL q0) (List.length q0) .no, .mp 2 0, .sl (flat intC q3) (List.length q3) .no, .sl (flat intC q4) (List.length q4) .no], .cells [.sl (flat entL q1) (List.length q1) .no, .sl (flat conL q2) (List.length q2) .no], .cells [ai q6, ai q7]] [.mp 0 0, tmA p1, tmA p2, .agg [.clo 243 [] [], .clo 181 [.mp 0 0] []]] (ab r.1) [.cells [.mp 1 0, .sl (flat entL q5) (List.length q5) .no, .mp 3 0, ai r.2.1], .cells [.sl (flat entL q0) (List.length q0) .no, .mp 2 0, .sl (flat intC q3) (List.length q3) .no, .sl (flat intC q4) (List.length q4) .no], .cells [.sl (flat entL q1) (List.length q1) .no, .sl (flat conL q2) (List.length q2) .no], .cells [ai r.2.2.1, ai r.2.2.2]] 0 := ⟨h, ⟨(show 0 < 4 by decide), ⟨trivial, trivial, ⟨trivial, dT _⟩, trivial⟩, ⟨trivial, trivial, ⟨trivial, dT _⟩, trivial⟩, ⟨⟨trivial, trivial⟩, ⟨⟨(show 0 < 4 by decide), trivial⟩, trivial⟩, trivial⟩, trivial⟩, (forall_cons ⟨(show 1 < 4 by decide), ⟨trivial, dE _⟩, (show 3 < 4 by decide), trivial, trivial⟩ (forall_cons ⟨⟨trivial, dE _⟩, (show 2 < 4 by decide), ⟨trivial, dI _⟩, ⟨trivial, dI _⟩, trivial⟩ (forall_cons ⟨⟨trivial, dE _⟩, ⟨trivial, dC _⟩, trivial⟩ (forall_cons ⟨trivial, trivial, trivial⟩ forall_nil)))), trivial, (forall_cons ⟨(show 1 < 4 by decide), dE _, (show 3 < 4 by decide), trivial, trivial⟩ (forall_cons ⟨dE _, (show 2 < 4 by decide), dI _, dI _, trivial⟩ (forall_cons ⟨dE _, dC _, trivial⟩ (forall_cons ⟨trivial, trivial, trivial⟩ forall_nil))))⟩
theorem c242va10891 {qq : Nat} {q0 : List Ent} {q1 : List Ent} {q2 : List Con'} {q3 : List Int} {q4 : List Int} {q5 : List Ent} {q6 : Int} {q7 : Int} {q8 : Int} {p1 : Tm} {p2 : Tm} {r : Bool × Int × Int × Int} (h : e242va10891 qq q0 q1 q2 q3 q4 q5 q6 q7 q8 p1 p2 = some r) : CT Tryz.prog 242 [.cells [.mp 1 0, .sl (flat entL q5) (List.length q5) .no, .mp 3 0, ai q8], .cells [.sl (flat entL q0) (List.length q0) .no, .mp 2 0, .sl (flat intC q3) (List.length q3) .no, .sl (flat intC q4) (List.length q4) .no], .cells [.sl (flat entL q1) (List.length q1) .no, .sl (flat conL q2) (List.length q2) .no], .cells [ai q6, ai q7]] [.mp 0 0, tmA p1, tmA p2, .agg [.clo 243 [] [], .clo 181 [.mp 0 0] []]] (ab r.1) [.cells [.mp 1 0, .sl (flat entL q5) (List.length q5) .no, .mp 3 0, ai r.2.1], .cells [.sl (flat entL q0) (List.length q0) .no, .mp 2 0, .sl (flat intC q3) (List.length q3) .no, .sl (flat intC q4) (List.length q4) .no], .cells [.sl (flat entL q1) (List.length q1) .no, .sl (flat conL q2) (List.length q2) .no], .cells [ai r.2.2.1, ai r.2.2.2]] 0 := by
  unfold e242va10891 at h
  obtain ⟨h1, h⟩ := splF h
  have k := oB 1 h1 o0
  obtain ⟨h8, h⟩ := splF h
  obtain ⟨r15, h16, h⟩ := obind h
  have k := oC 1 [0, 1, 2, 3] (c301 h16) <| oB 1 h8 k
  obtain ⟨h17, h⟩ := splF h
  obtain ⟨r34, h35, h⟩ := obind h
  have k := oC 1 [0, 1, 2, 3] (c301 h35) <| oB 2 h17 k
  obtain ⟨h36, h⟩ := splF h
  have k := oB 2 h36 k
  obtain ⟨h43, h⟩ := splT h
  obtain rfl := sj h
  exact k242va10891 (tF q242va10891 0 [0, 1, 2, 3] (oD (dC q2) <| oD (dE q1) <| oD (dI q4) <| oD (dI q3) <| oD (dE q0) <| oD (dE q5) <| oB 2 h43 k) (by kernel_rfl))
theorem c181va22461 {qq : Nat} {q0 : List Ent} {q1 : List Ent} {q2 : List Con'} {q3 : List Int} {q4 : List Int} {q5 : List Ent} {q6 : Int} {q7 : Int} {q8 : Int} {p1 : Tm} {p2 : Tm} {r : Bool × Int × Int × Int} (h : e181va22461 qq q0 q1 q2 q3 q4 q5 q6 q7 q8 p1 p2 = some r) : CT Tryz.prog 181 [.cells [.mp 1 0, .sl (flat entL q5) (List.length q5) .no, .mp 3 0, ai q8], .cells [.sl (flat entL q0) (List.length q0) .no, .mp 2 0, .sl (flat intC q3) (List.length q3) .no, .sl (flat intC q4) (List.length q4) .no], .cells [.sl (flat entL q1) (List.length q1) .no, .sl (flat conL q2) (List.length q2) .no], .cells [ai q6, ai q7]] [.mp 0 0, tmA p1, tmA p2] (ab r.1) [.cells [.mp 1 0, .sl (flat entL q5) (List.length q5) .no, .mp 3 0, ai r.2.1], .cells [.sl (flat entL q0) (List.length q0) .no, .mp 2 0, .sl (flat intC q3) (List.length q3) .no, .sl (flat intC q4) (List.length q4) .no], .cells [.sl (flat entL q1) (List.length q1) .no, .sl (flat conL q2) (List.length q2) .no], .cells [ai r.2.2.1, ai r.2.2.2]] 0 := by
  unfold e181va22461 at h
  obtain ⟨r1, h2, h⟩ := obind h
  have k := oC 2 [0, 1, 2, 3] (c241 h2) o0
  obtain ⟨h3, h⟩ := splT h
  obtain ⟨r4, h5, h⟩ := obind h
  obtain rfl := sj h
  exact k181va22461 (tF q181va22461 0 [0, 1, 2, 3] (oD (dC q2) <| oD (dE q1) <| oD (dI q4) <| oD (dI q3) <| oD (dE q0) <| oD (dE q5) <| oC 4 [0, 1, 2, 3] (c242va10891 h5) <| oB 2 h3 k) (by kernel_rfl))
theorem c302va27343 {qq : Nat} {q0 : List Ent} {q1 : List Ent} {q2 : List Con'} {q3 : List Int} {q4 : List Int} {q5 : List Ent} {q6 : Int} {q7 : Int} {q8 : Int} {p1 : Tm} {p2 : Tm} {p3 : Int} {p4 : List Tm} {r : Bool × Int × Int × Int} (h : e302va27343 qq q0 q1 q2 q3 q4 q5 q6 q7 q8 p1 p2 p3 p4 = some r) : CT Tryz.prog 302 [.cells [.mp 1 0, .sl (flat entL q5) (List.length q5) .no, .mp 3 0, ai q8], .cells [.sl (flat entL q0) (List.length q0) .no, .mp 2 0, .sl (flat intC q3) (List.length q3) .no, .sl (flat intC q4) (List.length q4) .no], .cells [.sl (flat entL q1) (List.length q1) .no, .sl (flat conL q2) (List.length q2) .no], .cells [ai q6, ai q7]] [.mp 0 0, tmA p1, tmA p2, ai p3, .sl (flat tmCells p4) (List.length p4) .no] (ab r.1) [.cells [.mp 1 0, .sl (flat entL q5) (List.length q5) .no, .mp 3 0, ai r.2.1], .cells [.sl (flat entL q0) (List.length q0) .no, .mp 2 0, .sl (flat intC q3) (List.length q3) .no, .sl (flat intC q4) (List.length q4) .no], .cells [.sl (flat entL q1) (List.length q1) .no, .sl (flat conL q2) (List.length q2) .no], .cells [ai r.2.2.1, ai r.2.2.2]] 0 := by
  unfold e302va27343 at h
  cases h
theorem c303va22461 {qq : Nat} {q0 : List Ent} {q1 : List Ent} {q2 : List Con'} {q3 : List Int} {q4 : List Int} {q5 : List Ent} {q6 : Int} {q7 : Int} {q8 : Int} {p1 : Tm} {p2 : Tm} {r : Bool × Int × Int × Int} (h : e303va22461 qq q0 q1 q2 q3 q4 q5 q6 q7 q8 p1 p2 = some r) : CT Tryz.prog 303 [.cells [.mp 1 0, .sl (flat entL q5) (List.length q5) .no, .mp 3 0, ai q8], .cells [.sl (flat entL q0) (List.length q0) .no, .mp 2 0, .sl (flat intC q3) (List.length q3) .no, .sl (flat intC q4) (List.length q4) .no], .cells [.sl (flat entL q1) (List.length q1) .no, .sl (flat conL q2) (List.length q2) .no], .cells [ai q6, ai q7]] [.mp 0 0, tmA p1, tmA p2] (ab r.1) [.cells [.mp 1 0, .sl (flat entL q5) (List.length q5) .no, .mp 3 0, ai r.2.1], .cells [.sl (flat entL q0) (List.length q0) .no, .mp 2 0, .sl (flat intC q3) (List.length q3) .no, .sl (flat intC q4) (List.length q4) .no], .cells [.sl (flat entL q1) (List.length q1) .no, .sl (flat conL q2) (List.length q2) .no], .cells [ai r.2.2.1, ai r.2.2.2]] 0 := by
  unfold e303va22461 at h
  cases h

end Go.Proofs.YtlbmblbeccafcaaGreat

namespace Go.Proofs.YtlbmblbeccafcaaGreat
open Go Go.Ab

/- scholium/conv.Same$1 -/
def e180va30903 (qq : Nat) (q0 : List Ent) (q1 : List Ent) (q2 : List Con') (q3 : List Int) (q4 : List Int) (q5 : List Ent) (q6 : Int) (q7 : Int) (q8 : Int) (q9 : Int) (q10 : Int) (q11 : List Tm) (q12 : Int) (q13 : Int) (q14 : List Tm) : Option (Bool × Int × Int × Int) :=
  (e181va22461 qq q0 q1 q2 q3 q4 q5 q6 q7 q8 (Tm.mk q9 q10 q11) (Tm.mk q12 q13 q14)) >>= fun r1 =>
  some (r1.1, r1.2.1, r1.2.2.1, r1.2.2.2)
theorem q180va30903 : Tryz.prog.funcs[180]? = some Tryz.f180 ∧ Tryz.f180.body.isNone = false := ⟨Tryz.func180, by kernel_rfl⟩
theorem k180va30903 {q0 : List Ent} {q1 : List Ent} {q2 : List Con'} {q3 : List Int} {q4 : List Int} {q5 : List Ent} {q6 : Int} {q7 : Int} {q8 : Int} {q9 : Int} {q10 : Int} {q11 : List Tm} {q12 : Int} {q13 : Int} {q14 : List Tm} {r : Bool × Int × Int × Int} (h : CTri Tryz.prog 180 [.cells [.mp 1 0, .sl (flat entL q5) (List.length q5) .no, .mp 3 0, ai q8], .cells [.sl (flat entL q0) (List.length q0) .no, .mp 2 0, .sl (flat intC q3) (List.length q3) .no, .sl (flat intC q4) (List.length q4) .no], .cells [.sl (flat entL q1) (List.length q1) .no, .sl (flat conL q2) (List.length q2) .no], .cells [ai q6, ai q7], .cells [ai q9, ai q10, .sl (flat tmCells q11) (List.length q11) .no], .cells [ai q12, ai q13, .sl (flat tmCells q14) (List.length q14) .no]] [.mp 0 0, .mp 4 0, .mp 5 0] (ab r.1) [.cells [.mp 1 0, .sl (flat entL q5) (List.length q5) .no, .mp 3 0, ai r.2.1], .cells [.sl (flat entL q0) (List.length q0) .no, .mp 2 0, .sl (flat intC q3) (List.length q3) .no, .sl (flat intC q4) (List.length q4) .no], .cells [.sl (flat entL q1) (List.length q1) .no, .sl (flat conL q2) (List.length q2) .no], .cells [ai r.2.2.1, ai r.2.2.2], .cells [ai q9, ai q10, .sl (flat tmCells q11) (List.length q11) .no], .cells [ai q12, ai q13, .sl (flat tmCells q14) (List.length q14) .no]] 0) : CT Tryz.prog 180 [.cells [.mp 1 0, .sl (flat entL q5) (List.length q5) .no, .mp 3 0, ai q8], .cells [.sl (flat entL q0) (List.length q0) .no, .mp 2 0, .sl (flat intC q3) (List.length q3) .no, .sl (flat intC q4) (List.length q4) .no], .cells [.sl (flat entL q1) (List.length q1) .no, .sl (flat conL q2) (List.length q2) .no], .cells [ai q6, ai q7], .cells [ai q9, ai q10, .sl (flat tmCells q11) (List.length q11) .no], .cells [ai q12, ai q13, .sl (flat tmCells q14) (List.length q14) .no]] [.mp 0 0, .mp 4 0, .mp 5 0] (ab r.1) [.cells [.mp 1 0, .sl (flat entL q5) (List.length q5) .no, .mp 3 0, ai r.2.1], .cells [.sl (flat entL q0) (List.length q0) .no, .mp 2 0, .sl (flat intC q3) (List.length q3) .no, .sl (flat intC q4) (List.length q4) .no], .cells [.sl (flat entL q1) (List.length q1) .no, .sl (flat conL q2) (List.length q2) .no], .cells [ai r.2.2.1, ai r.2.2.2], .cells [ai q9, ai q10, .sl (flat tmCells q11) (List.length q11) .no], .cells [ai q12, ai q13, .sl (flat tmCells q14) (List.length q14) .no]] 0 := ⟨h, ⟨(show 0 < 6 by decide), (show 4 < 6 by decide), (show 5 < 6 by decide), trivial⟩, (forall_cons ⟨(show 1 < 6 by decide), ⟨trivial, dE _⟩, (show 3 < 6 by decide), trivial, trivial⟩ (forall_cons ⟨⟨trivial, dE _⟩, (show 2 < 6 by decide), ⟨trivial, dI _⟩, ⟨trivial, dI _⟩, trivial⟩ (forall_cons ⟨⟨trivial, dE _⟩, ⟨trivial, dC _⟩, trivial⟩ (forall_cons ⟨trivial, trivial, trivial⟩ (forall_cons ⟨trivial, trivial, ⟨trivial, dT _⟩, trivial⟩ (forall_cons ⟨trivial, trivial, ⟨trivial, dT _⟩, trivial⟩ forall_nil)))))), trivial, (forall_cons ⟨(show 1 < 6 by decide), dE _, (show 3 < 6 by decide), trivial, trivial⟩ (forall_cons ⟨dE _, (show 2 < 6 by decide), dI _, dI _, trivial⟩ (forall_cons ⟨dE _, dC _, trivial⟩ (forall_cons ⟨trivial, trivial, trivial⟩ (forall_cons ⟨trivial, trivial, dT _, trivial⟩ (forall_cons ⟨trivial, trivial, dT _, trivial⟩ forall_nil))))))⟩
theorem c180va30903 {qq : Nat} {q0 : List Ent} {q1 : List Ent} {q2 : List Con'} {q3 : List Int} {q4 : List Int} {q5 : List Ent} {q6 : Int} {q7 : Int} {q8 : Int} {q9 : Int} {q10 : Int} {q11 : List Tm} {q12 : Int} {q13 : Int} {q14 : List Tm} {r : Bool × Int × Int × Int} (h : e180va30903 qq q0 q1 q2 q3 q4 q5 q6 q7 q8 q9 q10 q11 q12 q13 q14 = some r) : CT Tryz.prog 180 [.cells [.mp 1 0, .sl (flat entL q5) (List.length q5) .no, .mp 3 0, ai q8], .cells [.sl (flat entL q0) (List.length q0) .no, .mp 2 0, .sl (flat intC q3) (List.length q3) .no, .sl (flat intC q4) (List.length q4) .no], .cells [.sl (flat entL q1) (List.length q1) .no, .sl (flat conL q2) (List.length q2) .no], .cells [ai q6, ai q7], .cells [ai q9, ai q10, .sl (flat tmCells q11) (List.length q11) .no], .cells [ai q12, ai q13, .sl (flat tmCells q14) (List.length q14) .no]] [.mp 0 0, .mp 4 0, .mp 5 0] (ab r.1) [.cells [.mp 1 0, .sl (flat entL q5) (List.length q5) .no, .mp 3 0, ai r.2.1], .cells [.sl (flat entL q0) (List.length q0) .no, .mp 2 0, .sl (flat intC q3) (List.length q3) .no, .sl (flat intC q4) (List.length q4) .no], .cells [.sl (flat entL q1) (List.length q1) .no, .sl (flat conL q2) (List.length q2) .no], .cells [ai r.2.2.1, ai r.2.2.2], .cells [ai q9, ai q10, .sl (flat tmCells q11) (List.length q11) .no], .cells [ai q12, ai q13, .sl (flat tmCells q14) (List.length q14) .no]] 0 := by
  unfold e180va30903 at h
  obtain ⟨r1, h2, h⟩ := obind h
  obtain rfl := sj h
  exact k180va30903 (tF q180va30903 0 [0, 1, 2, 3, 4, 5] (oD (dT q14) <| oD (dT q11) <| oD (dC q2) <| oD (dE q1) <| oD (dI q4) <| oD (dI q3) <| oD (dE q0) <| oD (dE q5) <| oC 2 [0, 1, 2, 3] (c181va22461 h2) o0) (by kernel_rfl))

end Go.Proofs.YtlbmblbeccafcaaGreat

namespace Go.Proofs.YtlbmblbeccafcaaGreat
open Go Go.Ab

/- scholium/conv.ask -/
def e179va42726 (qq : Nat) (q0 : List Ent) (q1 : List Ent) (q2 : List Con') (q3 : List Int) (q4 : List Int) (p1 : Tm) (p2 : Tm) (q7 : Int) (q8 : Int) (q9 : Int) (q10 : Int) (q11 : List Tm) (q12 : Int) (q13 : Int) (q14 : List Tm) : Option (Bool × Int × Int × Int) :=
  (e42 qq (Mach.mk q0 q1 q2 q3 q4)) >>= fun r1 =>
  (e41 qq p1 1048577 r1) >>= fun r3 =>
  if r3 = true then
    (e42 qq (Mach.mk q0 q1 q2 q3 q4)) >>= fun r6 =>
    (e41 qq p2 1048577 r6) >>= fun r8 =>
    if r8 = true then
      (e89 qq (Mach.mk q0 q1 q2 q3 q4)) >>= fun r11 =>
      (e180va30903 qq q0 q1 q2 q3 q4 r11 q7 q8 0 q9 q10 q11 q12 q13 q14) >>= fun r13 =>
      if r13.1 = true then
        none
      else
        some (false, r13.2.1, r13.2.2.1, r13.2.2.2)
    else
      none
  else
    none
theorem q179va42726 : Tryz.prog.funcs[179]? = some Tryz.f179 ∧ Tryz.f179.body.isNone = false := ⟨Tryz.func179, by kernel_rfl⟩
theorem k179va42726 {q0 : List Ent} {q1 : List Ent} {q2 : List Con'} {q3 : List Int} {q4 : List Int} {p1 : Tm} {p2 : Tm} {q7 : Int} {q8 : Int} {q9 : Int} {q10 : Int} {q11 : List Tm} {q12 : Int} {q13 : Int} {q14 : List Tm} {r : Bool × Int × Int × Int} (h : CTri Tryz.prog 179 [.cells [.sl (flat entL q0) (List.length q0) .no, .mp 1 0, .sl (flat intC q3) (List.length q3) .no, .sl (flat intC q4) (List.length q4) .no], .cells [.sl (flat entL q1) (List.length q1) .no, .sl (flat conL q2) (List.length q2) .no], .cells [ai q7, ai q8], .cells [ai q9, ai q10, .sl (flat tmCells q11) (List.length q11) .no], .cells [ai q12, ai q13, .sl (flat tmCells q14) (List.length q14) .no]] [.mp 0 0, tmA p1, tmA p2, .mp 2 0, .clo 180 [] [.mp 3 0, .mp 4 0]] (.tup [ab r.1, ai r.2.1]) [.cells [.sl (flat entL q0) (List.length q0) .no, .mp 1 0, .sl (flat intC q3) (List.length q3) .no, .sl (flat intC q4) (List.length q4) .no], .cells [.sl (flat entL q1) (List.length q1) .no, .sl (flat conL q2) (List.length q2) .no], .cells [ai r.2.2.1, ai r.2.2.2], .cells [ai q9, ai q10, .sl (flat tmCells q11) (List.length q11) .no], .cells [ai q12, ai q13, .sl (flat tmCells q14) (List.length q14) .no]] 0) : CT Tryz.prog 179 [.cells [.sl (flat entL q0) (List.length q0) .no, .mp 1 0, .sl (flat intC q3) (List.length q3) .no, .sl (flat intC q4) (List.length q4) .no], .cells [.sl (flat entL q1) (List.length q1) .no, .sl (flat conL q2) (List.length q2) .no], .cells [ai q7, ai q8], .cells [ai q9, ai q10, .sl (flat tmCells q11) (List.length q11) .no], .cells [ai q12, ai q13, .sl (flat tmCells q14) (List.length q14) .no]] [.mp 0 0, tmA p1, tmA p2, .mp 2 0, .clo 180 [] [.mp 3 0, .mp 4 0]] (.tup [ab r.1, ai r.2.1]) [.cells [.sl (flat entL q0) (List.length q0) .no, .mp 1 0, .sl (flat intC q3) (List.length q3) .no, .sl (flat intC q4) (List.length q4) .no], .cells [.sl (flat entL q1) (List.length q1) .no, .sl (flat conL q2) (List.length q2) .no], .cells [ai r.2.2.1, ai r.2.2.2], .cells [ai q9, ai q10, .sl (flat tmCells q11) (List.length q11) .no], .cells [ai q12, ai q13, .sl (flat tmCells q14) (List.length q14) .no]] 0 := ⟨h, ⟨(show 0 < 5 by decide), ⟨trivial, trivial, ⟨trivial, dT _⟩, trivial⟩, ⟨trivial, trivial, ⟨trivial, dT _⟩, trivial⟩, (show 2 < 5 by decide), ⟨trivial, ⟨(show 3 < 5 by decide), (show 4 < 5 by decide), trivial⟩⟩, trivial⟩, (forall_cons ⟨⟨trivial, dE _⟩, (show 1 < 5 by decide), ⟨trivial, dI _⟩, ⟨trivial, dI _⟩, trivial⟩ (forall_cons ⟨⟨trivial, dE _⟩, ⟨trivial, dC _⟩, trivial⟩ (forall_cons ⟨trivial, trivial, trivial⟩ (forall_cons ⟨trivial, trivial, ⟨trivial, dT _⟩, trivial⟩ (forall_cons ⟨trivial, trivial, ⟨trivial, dT _⟩, trivial⟩ forall_nil))))), ⟨trivial, trivial, trivial⟩, (forall_cons ⟨dE _, (show 1 < 5 by decide), dI _, dI _, trivial⟩ (forall_cons ⟨dE _, dC _, trivial⟩ (forall_cons ⟨trivial, trivial, trivial⟩ (forall_cons ⟨trivial, trivial, dT _, trivial⟩ (forall_cons ⟨trivial, trivial, dT _, trivial⟩ forall_nil)))))⟩
theorem c179va42726 {qq : Nat} {q0 : List Ent} {q1 : List Ent} {q2 : List Con'} {q3 : List Int} {q4 : List Int} {p1 : Tm} {p2 : Tm} {q7 : Int} {q8 : Int} {q9 : Int} {q10 : Int} {q11 : List Tm} {q12 : Int} {q13 : Int} {q14 : List Tm} {r : Bool × Int × Int × Int} (h : e179va42726 qq q0 q1 q2 q3 q4 p1 p2 q7 q8 q9 q10 q11 q12 q13 q14 = some r) : CT Tryz.prog 179 [.cells [.sl (flat entL q0) (List.length q0) .no, .mp 1 0, .sl (flat intC q3) (List.length q3) .no, .sl (flat intC q4) (List.length q4) .no], .cells [.sl (flat entL q1) (List.length q1) .no, .sl (flat conL q2) (List.length q2) .no], .cells [ai q7, ai q8], .cells [ai q9, ai q10, .sl (flat tmCells q11) (List.length q11) .no], .cells [ai q12, ai q13, .sl (flat tmCells q14) (List.length q14) .no]] [.mp 0 0, tmA p1, tmA p2, .mp 2 0, .clo 180 [] [.mp 3 0, .mp 4 0]] (.tup [ab r.1, ai r.2.1]) [.cells [.sl (flat entL q0) (List.length q0) .no, .mp 1 0, .sl (flat intC q3) (List.length q3) .no, .sl (flat intC q4) (List.length q4) .no], .cells [.sl (flat entL q1) (List.length q1) .no, .sl (flat conL q2) (List.length q2) .no], .cells [ai r.2.2.1, ai r.2.2.2], .cells [ai q9, ai q10, .sl (flat tmCells q11) (List.length q11) .no], .cells [ai q12, ai q13, .sl (flat tmCells q14) (List.length q14) .no]] 0 := by
  unfold e179va42726 at h
  obtain ⟨r1, h2, h⟩ := obind h
  obtain ⟨r3, h4, h⟩ := obind h
  have k := oC 2 [0, 1] (c42 h2) o0
  obtain ⟨h5, h⟩ := splT h
  obtain ⟨r6, h7, h⟩ := obind h
  obtain ⟨r8, h9, h⟩ := obind h
  have k := oC 2 [0, 1] (c42 h7) <| oK 0 [] h5 (c41 h4) k
  obtain ⟨h10, h⟩ := splT h
  obtain ⟨r11, h12, h⟩ := obind h
  obtain ⟨r13, h14, h⟩ := obind h
  have k := oC 1 [0, 1] (c89 h12) <| oK 0 [] h10 (c41 h9) k
  obtain ⟨h15, h⟩ := splF h
  obtain rfl := sj h
  exact k179va42726 (tF q179va42726 1 [0, 1, 2, 3, 4] (oD (dT q14) <| oD (dT q11) <| oD (dC q2) <| oD (dE q1) <| oD (dI q4) <| oD (dI q3) <| oD (dE q0) <| oK 0 [7, 0, 1, 2, 3, 4] h15 (c180va30903 h14) k) (by kernel_rfl))

end Go.Proofs.YtlbmblbeccafcaaGreat

namespace Go.Proofs.YtlbmblbeccafcaaGreat
open Go Go.Ab

/- scholium/conv.Same -/
def e128 (qq : Nat) (M : Mach) (p1 : Tm) (p2 : Tm) (fl : Int) (fu : Int) : Option (Bool × Int × Int × Int) :=
  (e179va42726 qq M.l M.rl M.parts M.args M.own p1 p2 fl fu p1.k p1.n p1.sub p2.k p2.n p2.sub) >>= fun r1 =>
  some (r1.1, r1.2.1, r1.2.2.1, r1.2.2.2)
theorem q128 : Tryz.prog.funcs[128]? = some Tryz.f128 ∧ Tryz.f128.body.isNone = false := ⟨Tryz.func128, by kernel_rfl⟩
theorem k128 {M : Mach} {p1 : Tm} {p2 : Tm} {fl : Int} {fu : Int} {r : Bool × Int × Int × Int} (h : CTri Tryz.prog 128 [.cells [.sl (flat entL M.l) (List.length M.l) .no, .mp 1 0, .sl (flat intC M.args) (List.length M.args) .no, .sl (flat intC M.own) (List.length M.own) .no], .cells [.sl (flat entL M.rl) (List.length M.rl) .no, .sl (flat conL M.parts) (List.length M.parts) .no], .cells [ai fl, ai fu]] [.mp 0 0, tmA p1, tmA p2, .mp 2 0] (.tup [ab r.1, ai r.2.1]) [.cells [.sl (flat entL M.l) (List.length M.l) .no, .mp 1 0, .sl (flat intC M.args) (List.length M.args) .no, .sl (flat intC M.own) (List.length M.own) .no], .cells [.sl (flat entL M.rl) (List.length M.rl) .no, .sl (flat conL M.parts) (List.length M.parts) .no], .cells [ai r.2.2.1, ai r.2.2.2]] 0) : CT Tryz.prog 128 [.cells [.sl (flat entL M.l) (List.length M.l) .no, .mp 1 0, .sl (flat intC M.args) (List.length M.args) .no, .sl (flat intC M.own) (List.length M.own) .no], .cells [.sl (flat entL M.rl) (List.length M.rl) .no, .sl (flat conL M.parts) (List.length M.parts) .no], .cells [ai fl, ai fu]] [.mp 0 0, tmA p1, tmA p2, .mp 2 0] (.tup [ab r.1, ai r.2.1]) [.cells [.sl (flat entL M.l) (List.length M.l) .no, .mp 1 0, .sl (flat intC M.args) (List.length M.args) .no, .sl (flat intC M.own) (List.length M.own) .no], .cells [.sl (flat entL M.rl) (List.length M.rl) .no, .sl (flat conL M.parts) (List.length M.parts) .no], .cells [ai r.2.2.1, ai r.2.2.2]] 0 := ⟨h, ⟨(show 0 < 3 by decide), ⟨trivial, trivial, ⟨trivial, dT _⟩, trivial⟩, ⟨trivial, trivial, ⟨trivial, dT _⟩, trivial⟩, (show 2 < 3 by decide), trivial⟩, (forall_cons ⟨⟨trivial, dE _⟩, (show 1 < 3 by decide), ⟨trivial, dI _⟩, ⟨trivial, dI _⟩, trivial⟩ (forall_cons ⟨⟨trivial, dE _⟩, ⟨trivial, dC _⟩, trivial⟩ (forall_cons ⟨trivial, trivial, trivial⟩ forall_nil))), ⟨trivial, trivial, trivial⟩, (forall_cons ⟨dE _, (show 1 < 3 by decide), dI _, dI _, trivial⟩ (forall_cons ⟨dE _, dC _, trivial⟩ (forall_cons ⟨trivial, trivial, trivial⟩ forall_nil)))⟩
theorem c128 {qq : Nat} {M : Mach} {p1 : Tm} {p2 : Tm} {fl : Int} {fu : Int} {r : Bool × Int × Int × Int} (h : e128 qq M p1 p2 fl fu = some r) : CT Tryz.prog 128 [.cells [.sl (flat entL M.l) (List.length M.l) .no, .mp 1 0, .sl (flat intC M.args) (List.length M.args) .no, .sl (flat intC M.own) (List.length M.own) .no], .cells [.sl (flat entL M.rl) (List.length M.rl) .no, .sl (flat conL M.parts) (List.length M.parts) .no], .cells [ai fl, ai fu]] [.mp 0 0, tmA p1, tmA p2, .mp 2 0] (.tup [ab r.1, ai r.2.1]) [.cells [.sl (flat entL M.l) (List.length M.l) .no, .mp 1 0, .sl (flat intC M.args) (List.length M.args) .no, .sl (flat intC M.own) (List.length M.own) .no], .cells [.sl (flat entL M.rl) (List.length M.rl) .no, .sl (flat conL M.parts) (List.length M.parts) .no], .cells [ai r.2.2.1, ai r.2.2.2]] 0 := by
  unfold e128 at h
  obtain ⟨r1, h2, h⟩ := obind h
  obtain rfl := sj h
  exact k128 (tF q128 2 [0, 1, 2] (oD (dC M.parts) <| oD (dE M.rl) <| oD (dI M.own) <| oD (dI M.args) <| oD (dE M.l) <| oC 2 [0, 1, 2, 3, 4] (c179va42726 h2) o0) (by kernel_rfl))

end Go.Proofs.YtlbmblbeccafcaaGreat

namespace Go.Proofs.YtlbmblbeccafcaaGreat
open Go Go.Ab

/- (*scholium/unify.solver).rigid -/
def e84va38307 (qq : Nat) (q0 : List Ent) (q1 : List Ent) (q2 : List Con') (q3 : List Int) (q4 : List Int) (q5 : Int) (q6 : Int) (q7 : List FreeVar) (q8 : List UnifyEquation) (q9 : Nat) (q10 : Nat) (q11 : Nat) (q12 : Bool) (q13 : Bool) (q14 : Int) (p1 : UnifyEquation) : Option (List UnifyEquation × Nat × Nat × Nat × Bool × Int × Int × Int) :=
  (e127va38307 qq q0 q1 q2 q3 q4 q5 q6 q7 q8 q9 q10 q11 q12 q13 q14 p1) >>= fun r1 =>
  if r1.1 = true then
    none
  else
    (e128 qq (Mach.mk q0 q1 q2 q3 q4) p1.a_ p1.b_ r1.2.2.2.2.2.2.2.1 r1.2.2.2.2.2.2.2.2) >>= fun r4 =>
    if r4.1 = true then
      none
    else
      if (r4.2.1 != 0) = true then
        none
      else
        some (q8, r1.2.2.1, r1.2.2.2.1, r1.2.2.2.2.1, r1.2.2.2.2.2.1, 13, r4.2.2.1, r4.2.2.2)
theorem q84va38307 : Tryz.prog.funcs[84]? = some Tryz.f84 ∧ Tryz.f84.body.isNone = false := ⟨Tryz.func84, by kernel_rfl⟩
theorem k84va38307 {q0 : List Ent} {q1 : List Ent} {q2 : List Con'} {q3 : List Int} {q4 : List Int} {q5 : Int} {q6 : Int} {q7 : List FreeVar} {q8 : List UnifyEquation} {q9 : Nat} {q10 : Nat} {q11 : Nat} {q12 : Bool} {q13 : Bool} {q14 : Int} {p1 : UnifyEquation} {r : List UnifyEquation × Nat × Nat × Nat × Bool × Int × Int × Int} (h : CTri Tryz.prog 84 [.cells [.mp 1 0, .mp 3 0, .sl (flat freeVarL q7) (List.length q7) .no, .ms 4 (q10 * 6) q9 q11 6, ab q12, .sl (flat freeVarL ([] : List FreeVar)) (List.length ([] : List FreeVar)) .nl, .sl (flat unifySolvedL ([] : List UnifySolved)) (List.length ([] : List UnifySolved)) .nl, .sl (flat intC ([] : List Int)) (List.length ([] : List Int)) .nl, ab q13, ai q14], .cells [.sl (flat entL q0) (List.length q0) .no, .mp 2 0, .sl (flat intC q3) (List.length q3) .no, .sl (flat intC q4) (List.length q4) .no], .cells [.sl (flat entL q1) (List.length q1) .no, .sl (flat conL q2) (List.length q2) .no], .cells [ai q5, ai q6], .row (flat unifyEquationL q8)] [.mp 0 0, unifyEquationA p1] (.tup []) [.cells [.mp 1 0, .mp 3 0, .sl (flat freeVarL q7) (List.length q7) .no, .ms 4 (r.2.2.1 * 6) r.2.1 r.2.2.2.1 6, ab q12, .sl (flat freeVarL ([] : List FreeVar)) (List.length ([] : List FreeVar)) .nl, .sl (flat unifySolvedL ([] : List UnifySolved)) (List.length ([] : List UnifySolved)) .nl, .sl (flat intC ([] : List Int)) (List.length ([] : List Int)) .nl, ab r.2.2.2.2.1, ai r.2.2.2.2.2.1], .cells [.sl (flat entL q0) (List.length q0) .no, .mp 2 0, .sl (flat intC q3) (List.length q3) .no, .sl (flat intC q4) (List.length q4) .no], .cells [.sl (flat entL q1) (List.length q1) .no, .sl (flat conL q2) (List.length q2) .no], .cells [ai r.2.2.2.2.2.2.1, ai r.2.2.2.2.2.2.2], .row (flat unifyEquationL q8)] 0) : CT Tryz.prog 84 [.cells [.mp 1 0, .mp 3 0, .sl (flat freeVarL q7) (List.length q7) .no, .ms 4 (q10 * 6) q9 q11 6, ab q12, .sl (flat freeVarL ([] : List FreeVar)) (List.length ([] : List FreeVar)) .nl, .sl (flat unifySolvedL ([] : List UnifySolved)) (List.length ([] : List UnifySolved)) .nl, .sl (flat intC ([] : List Int)) (List.length ([] : List Int)) .nl, ab q13, ai q14], .cells [.sl (flat entL q0) (List.length q0) .no, .mp 2 0, .sl (flat intC q3) (List.length q3) .no, .sl (flat intC q4) (List.length q4) .no], .cells [.sl (flat entL q1) (List.length q1) .no, .sl (flat conL q2) (List.length q2) .no], .cells [ai q5, ai q6], .row (flat unifyEquationL q8)] [.mp 0 0, unifyEquationA p1] (.tup []) [.cells [.mp 1 0, .mp 3 0, .sl (flat freeVarL q7) (List.length q7) .no, .ms 4 (r.2.2.1 * 6) r.2.1 r.2.2.2.1 6, ab q12, .sl (flat freeVarL ([] : List FreeVar)) (List.length ([] : List FreeVar)) .nl, .sl (flat unifySolvedL ([] : List UnifySolved)) (List.length ([] : List UnifySolved)) .nl, .sl (flat intC ([] : List Int)) (List.length ([] : List Int)) .nl, ab r.2.2.2.2.1, ai r.2.2.2.2.2.1], .cells [.sl (flat entL q0) (List.length q0) .no, .mp 2 0, .sl (flat intC q3) (List.length q3) .no, .sl (flat intC q4) (List.length q4) .no], .cells [.sl (flat entL q1) (List.length q1) .no, .sl (flat conL q2) (List.length q2) .no], .cells [ai r.2.2.2.2.2.2.1, ai r.2.2.2.2.2.2.2], .row (flat unifyEquationL q8)] 0 := ⟨h, ⟨(show 0 < 5 by decide), ⟨trivial, trivial, ⟨trivial, dT _⟩, trivial, trivial, ⟨trivial, dT _⟩, trivial⟩, trivial⟩, (forall_cons ⟨(show 1 < 5 by decide), (show 3 < 5 by decide), ⟨trivial, dFreeVar _⟩, (show 4 < 5 by decide), trivial, ⟨trivial, dFreeVar _⟩, ⟨trivial, dUnifySolved _⟩, ⟨trivial, dI _⟩, trivial, trivial, trivial⟩ (forall_cons ⟨⟨trivial, dE _⟩, (show 2 < 5 by decide), ⟨trivial, dI _⟩, ⟨trivial, dI _⟩, trivial⟩ (forall_cons ⟨⟨trivial, dE _⟩, ⟨trivial, dC _⟩, trivial⟩ (forall_cons ⟨trivial, trivial, trivial⟩ (forall_cons (dUnifyEquation _) forall_nil))))), trivial, (forall_cons ⟨(show 1 < 5 by decide), (show 3 < 5 by decide), dFreeVar _, (show 4 < 5 by decide), trivial, dFreeVar _, dUnifySolved _, dI _, trivial, trivial, trivial⟩ (forall_cons ⟨dE _, (show 2 < 5 by decide), dI _, dI _, trivial⟩ (forall_cons ⟨dE _, dC _, trivial⟩ (forall_cons ⟨trivial, trivial, trivial⟩ (forall_cons (dUnifyEquation _) forall_nil)))))⟩
theorem c84va38307 {qq : Nat} {q0 : List Ent} {q1 : List Ent} {q2 : List Con'} {q3 : List Int} {q4 : List Int} {q5 : Int} {q6 : Int} {q7 : List FreeVar} {q8 : List UnifyEquation} {q9 : Nat} {q10 : Nat} {q11 : Nat} {q12 : Bool} {q13 : Bool} {q14 : Int} {p1 : UnifyEquation} {r : List UnifyEquation × Nat × Nat × Nat × Bool × Int × Int × Int} (h : e84va38307 qq q0 q1 q2 q3 q4 q5 q6 q7 q8 q9 q10 q11 q12 q13 q14 p1 = some r) : CT Tryz.prog 84 [.cells [.mp 1 0, .mp 3 0, .sl (flat freeVarL q7) (List.length q7) .no, .ms 4 (q10 * 6) q9 q11 6, ab q12, .sl (flat freeVarL ([] : List FreeVar)) (List.length ([] : List FreeVar)) .nl, .sl (flat unifySolvedL ([] : List UnifySolved)) (List.length ([] : List UnifySolved)) .nl, .sl (flat intC ([] : List Int)) (List.length ([] : List Int)) .nl, ab q13, ai q14], .cells [.sl (flat entL q0) (List.length q0) .no, .mp 2 0, .sl (flat intC q3) (List.length q3) .no, .sl (flat intC q4) (List.length q4) .no], .cells [.sl (flat entL q1) (List.length q1) .no, .sl (flat conL q2) (List.length q2) .no], .cells [ai q5, ai q6], .row (flat unifyEquationL q8)] [.mp 0 0, unifyEquationA p1] (.tup []) [.cells [.mp 1 0, .mp 3 0, .sl (flat freeVarL q7) (List.length q7) .no, .ms 4 (r.2.2.1 * 6) r.2.1 r.2.2.2.1 6, ab q12, .sl (flat freeVarL ([] : List FreeVar)) (List.length ([] : List FreeVar)) .nl, .sl (flat unifySolvedL ([] : List UnifySolved)) (List.length ([] : List UnifySolved)) .nl, .sl (flat intC ([] : List Int)) (List.length ([] : List Int)) .nl, ab r.2.2.2.2.1, ai r.2.2.2.2.2.1], .cells [.sl (flat entL q0) (List.length q0) .no, .mp 2 0, .sl (flat intC q3) (List.length q3) .no, .sl (flat intC q4) (List.length q4) .no], .cells [.sl (flat entL q1) (List.length q1) .no, .sl (flat conL q2) (List.length q2) .no], .cells [ai r.2.2.2.2.2.2.1, ai r.2.2.2.2.2.2.2], .row (flat unifyEquationL q8)] 0 := by
  unfold e84va38307 at h
  obtain ⟨r1, h2, h⟩ := obind h
  obtain ⟨h3, h⟩ := splF h
  obtain ⟨r4, h5, h⟩ := obind h
  have k := oC 4 [1, 2, 3] (c128 h5) <| oK 1 [0, 1, 2, 3, 4] h3 (c127va38307 h2) o0
  obtain ⟨h6, h⟩ := splF h
  have k := oB 0 h6 k
  obtain ⟨h8, h⟩ := splF h
  obtain rfl := sj h
  exact k84va38307 (tG q84va38307 1 [] [0, 1, 2, 3, 4] [] true (oD (dUnifyEquation q8) <| oD (dC q2) <| oD (dE q1) <| oD (dI q4) <| oD (dI q3) <| oD (dE q0) <| oD (dI ([] : List Int)) <| oD (dUnifySolved ([] : List UnifySolved)) <| oD (dFreeVar ([] : List FreeVar)) <| oD (dFreeVar q7) <| oB 1 h8 k) (by kernel_rfl) (by decide))

end Go.Proofs.YtlbmblbeccafcaaGreat

namespace Go.Proofs.YtlbmblbeccafcaaGreat
open Go Go.Ab

/- (*scholium/unify.solver).next -/
def e49va42369 (qq : Nat) (q0 : List Ent) (q1 : List Ent) (q2 : List Con') (q3 : List Int) (q4 : List Int) (q5 : Int) (q6 : Int) (q7 : List FreeVar) (q8 : List UnifyEquation) (q9 : Nat) (q10 : Nat) (q11 : Nat) (q12 : Bool) (q13 : Bool) (q14 : Int) : Option (List FreeVar × List UnifyEquation × Nat × Nat × Nat × Bool × Int × Int × Int) :=
  (gchk q9 0) >>= fun x1 =>
  (gidx q8 ((q10 + x1) : Int)) >>= fun x3 =>
  (gcut q9 1 (q9 : Int)) >>= fun x5 =>
  (e80 qq q5 q6) >>= fun r7 =>
  if (r7.1 != 0) = true then
    none
  else
    (e75 qq (Mach.mk q0 q1 q2 q3 q4) x3.a_ r7.2.1 r7.2.2) >>= fun r10 =>
    (e81va29840 qq q0 q1 q2 q3 q4 r10.2.2.1 r10.2.2.2 q7 q8 x5.2 (q10 + x5.1) (q11 - x5.1) q12 q13 q14 r10.1 r10.2.1) >>= fun r12 =>
    if (r12.2 != 0) = true then
      none
    else
      (e75 qq (Mach.mk q0 q1 q2 q3 q4) x3.b_ r10.2.2.1 r10.2.2.2) >>= fun r15 =>
      (e81va29840 qq q0 q1 q2 q3 q4 r15.2.2.1 r15.2.2.2 q7 q8 x5.2 (q10 + x5.1) (q11 - x5.1) q12 q13 r12.2 r15.1 r15.2.1) >>= fun r17 =>
      if (r17.2 != 0) = true then
        none
      else
        (e82va14585 qq q0 q1 q2 q3 q4 r15.2.2.1 r15.2.2.2 q7 q8 x5.2 (q10 + x5.1) (q11 - x5.1) q12 q13 r17.2 r12.1) >>= fun r20 =>
        (e82va14585 qq q0 q1 q2 q3 q4 r15.2.2.1 r15.2.2.2 q7 q8 x5.2 (q10 + x5.1) (q11 - x5.1) q12 q13 r17.2 r17.1) >>= fun r22 =>
        if decide (r20 ≥ 0) = true then
          if (r20 == r22) = true then
            some (q7, q8, x5.2, (q10 + x5.1), (q11 - x5.1), q13, 12, r15.2.2.1, r15.2.2.2)
          else
            none
        else
          if decide (r22 ≥ 0) = true then
            none
          else
            (e84va38307 qq q0 q1 q2 q3 q4 r15.2.2.1 r15.2.2.2 q7 q8 x5.2 (q10 + x5.1) (q11 - x5.1) q12 q13 r17.2 (UnifyEquation.mk r12.1 r17.1)) >>= fun r37 =>
            some (q7, q8, r37.2.1, r37.2.2.1, r37.2.2.2.1, r37.2.2.2.2.1, r37.2.2.2.2.2.1, r37.2.2.2.2.2.2.1, r37.2.2.2.2.2.2.2)
theorem q49va42369 : Tryz.prog.funcs[49]? = some Tryz.f49 ∧ Tryz.f49.body.isNone = false := ⟨Tryz.func49, by kernel_rfl⟩
theorem k49va42369 {q0 : List Ent} {q1 : List Ent} {q2 : List Con'} {q3 : List Int} {q4 : List Int} {q5 : Int} {q6 : Int} {q7 : List FreeVar} {q8 : List UnifyEquation} {q9 : Nat} {q10 : Nat} {q11 : Nat} {q12 : Bool} {q13 : Bool} {q14 : Int} {r : List FreeVar × List UnifyEquation × Nat × Nat × Nat × Bool × Int × Int × Int} (h : CTri Tryz.prog 49 [.cells [.mp 1 0, .mp 3 0, .sl (flat freeVarL q7) (List.length q7) .no, .ms 4 (q10 * 6) q9 q11 6, ab q12, .sl (flat freeVarL ([] : List FreeVar)) (List.length ([] : List FreeVar)) .nl, .sl (flat unifySolvedL ([] : List UnifySolved)) (List.length ([] : List UnifySolved)) .nl, .sl (flat intC ([] : List Int)) (List.length ([] : List Int)) .nl, ab q13, ai q14], .cells [.sl (flat entL q0) (List.length q0) .no, .mp 2 0, .sl (flat intC q3) (List.length q3) .no, .sl (flat intC q4) (List.length q4) .no], .cells [.sl (flat entL q1) (List.length q1) .no, .sl (flat conL q2) (List.length q2) .no], .cells [ai q5, ai q6], .row (flat unifyEquationL q8)] [.mp 0 0] (.tup []) [.cells [.mp 1 0, .mp 3 0, .sl (flat freeVarL r.1) (List.length r.1) .no, .ms 4 (r.2.2.2.1 * 6) r.2.2.1 r.2.2.2.2.1 6, ab q12, .sl (flat freeVarL ([] : List FreeVar)) (List.length ([] : List FreeVar)) .nl, .sl (flat unifySolvedL ([] : List UnifySolved)) (List.length ([] : List UnifySolved)) .nl, .sl (flat intC ([] : List Int)) (List.length ([] : List Int)) .nl, ab r.2.2.2.2.2.1, ai r.2.2.2.2.2.2.1], .cells [.sl (flat entL q0) (List.length q0) .no, .mp 2 0, .sl (flat intC q3) (List.length q3) .no, .sl (flat intC q4) (List.length q4) .no], .cells [.sl (flat entL q1) (List.length q1) .no, .sl (flat conL q2) (List.length q2) .no], .cells [ai r.2.2.2.2.2.2.2.1, ai r.2.2.2.2.2.2.2.2], .row (flat unifyEquationL r.2.1)] 0) : CT Tryz.prog 49 [.cells [.mp 1 0, .mp 3 0, .sl (flat freeVarL q7) (List.length q7) .no, .ms 4 (q10 * 6) q9 q11 6, ab q12, .sl (flat freeVarL ([] : List FreeVar)) (List.length ([] : List FreeVar)) .nl, .sl (flat unifySolvedL ([] : List UnifySolved)) (List.length ([] : List UnifySolved)) .nl, .sl (flat intC ([] : List Int)) (List.length ([] : List Int)) .nl, ab q13, ai q14], .cells [.sl (flat entL q0) (List.length q0) .no, .mp 2 0, .sl (flat intC q3) (List.length q3) .no, .sl (flat intC q4) (List.length q4) .no], .cells [.sl (flat entL q1) (List.length q1) .no, .sl (flat conL q2) (List.length q2) .no], .cells [ai q5, ai q6], .row (flat unifyEquationL q8)] [.mp 0 0] (.tup []) [.cells [.mp 1 0, .mp 3 0, .sl (flat freeVarL r.1) (List.length r.1) .no, .ms 4 (r.2.2.2.1 * 6) r.2.2.1 r.2.2.2.2.1 6, ab q12, .sl (flat freeVarL ([] : List FreeVar)) (List.length ([] : List FreeVar)) .nl, .sl (flat unifySolvedL ([] : List UnifySolved)) (List.length ([] : List UnifySolved)) .nl, .sl (flat intC ([] : List Int)) (List.length ([] : List Int)) .nl, ab r.2.2.2.2.2.1, ai r.2.2.2.2.2.2.1], .cells [.sl (flat entL q0) (List.length q0) .no, .mp 2 0, .sl (flat intC q3) (List.length q3) .no, .sl (flat intC q4) (List.length q4) .no], .cells [.sl (flat entL q1) (List.length q1) .no, .sl (flat conL q2) (List.length q2) .no], .cells [ai r.2.2.2.2.2.2.2.1, ai r.2.2.2.2.2.2.2.2], .row (flat unifyEquationL r.2.1)] 0 := ⟨h, ⟨(show 0 < 5 by decide), trivial⟩, (forall_cons ⟨(show 1 < 5 by decide), (show 3 < 5 by decide), ⟨trivial, dFreeVar _⟩, (show 4 < 5 by decide), trivial, ⟨trivial, dFreeVar _⟩, ⟨trivial, dUnifySolved _⟩, ⟨trivial, dI _⟩, trivial, trivial, trivial⟩ (forall_cons ⟨⟨trivial, dE _⟩, (show 2 < 5 by decide), ⟨trivial, dI _⟩, ⟨trivial, dI _⟩, trivial⟩ (forall_cons ⟨⟨trivial, dE _⟩, ⟨trivial, dC _⟩, trivial⟩ (forall_cons ⟨trivial, trivial, trivial⟩ (forall_cons (dUnifyEquation _) forall_nil))))), trivial, (forall_cons ⟨(show 1 < 5 by decide), (show 3 < 5 by decide), dFreeVar _, (show 4 < 5 by decide), trivial, dFreeVar _, dUnifySolved _, dI _, trivial, trivial, trivial⟩ (forall_cons ⟨dE _, (show 2 < 5 by decide), dI _, dI _, trivial⟩ (forall_cons ⟨dE _, dC _, trivial⟩ (forall_cons ⟨trivial, trivial, trivial⟩ (forall_cons (dUnifyEquation _) forall_nil)))))⟩
theorem c49va42369 {qq : Nat} {q0 : List Ent} {q1 : List Ent} {q2 : List Con'} {q3 : List Int} {q4 : List Int} {q5 : Int} {q6 : Int} {q7 : List FreeVar} {q8 : List UnifyEquation} {q9 : Nat} {q10 : Nat} {q11 : Nat} {q12 : Bool} {q13 : Bool} {q14 : Int} {r : List FreeVar × List UnifyEquation × Nat × Nat × Nat × Bool × Int × Int × Int} (h : e49va42369 qq q0 q1 q2 q3 q4 q5 q6 q7 q8 q9 q10 q11 q12 q13 q14 = some r) : CT Tryz.prog 49 [.cells [.mp 1 0, .mp 3 0, .sl (flat freeVarL q7) (List.length q7) .no, .ms 4 (q10 * 6) q9 q11 6, ab q12, .sl (flat freeVarL ([] : List FreeVar)) (List.length ([] : List FreeVar)) .nl, .sl (flat unifySolvedL ([] : List UnifySolved)) (List.length ([] : List UnifySolved)) .nl, .sl (flat intC ([] : List Int)) (List.length ([] : List Int)) .nl, ab q13, ai q14], .cells [.sl (flat entL q0) (List.length q0) .no, .mp 2 0, .sl (flat intC q3) (List.length q3) .no, .sl (flat intC q4) (List.length q4) .no], .cells [.sl (flat entL q1) (List.length q1) .no, .sl (flat conL q2) (List.length q2) .no], .cells [ai q5, ai q6], .row (flat unifyEquationL q8)] [.mp 0 0] (.tup []) [.cells [.mp 1 0, .mp 3 0, .sl (flat freeVarL r.1) (List.length r.1) .no, .ms 4 (r.2.2.2.1 * 6) r.2.2.1 r.2.2.2.2.1 6, ab q12, .sl (flat freeVarL ([] : List FreeVar)) (List.length ([] : List FreeVar)) .nl, .sl (flat unifySolvedL ([] : List UnifySolved)) (List.length ([] : List UnifySolved)) .nl, .sl (flat intC ([] : List Int)) (List.length ([] : List Int)) .nl, ab r.2.2.2.2.2.1, ai r.2.2.2.2.2.2.1], .cells [.sl (flat entL q0) (List.length q0) .no, .mp 2 0, .sl (flat intC q3) (List.length q3) .no, .sl (flat intC q4) (List.length q4) .no], .cells [.sl (flat entL q1) (List.length q1) .no, .sl (flat conL q2) (List.length q2) .no], .cells [ai r.2.2.2.2.2.2.2.1, ai r.2.2.2.2.2.2.2.2], .row (flat unifyEquationL r.2.1)] 0 := by
  unfold e49va42369 at h
  obtain ⟨x1, h2, h⟩ := obind h
  obtain ⟨x3, h4, h⟩ := obind h
  obtain ⟨x5, h6, h⟩ := obind h
  obtain ⟨r7, h8, h⟩ := obind h
  have k := oC 2 [3] (c80 h8) <| oA 2 (slMFrom104 (b := 4) (o := q10) (c := q11) h6) <| oG (a := (.agg [ai x3.a_.k, ai x3.a_.n, .sl (flat tmCells x3.a_.sub) (List.length x3.a_.sub) .no, ai x3.b_.k, ai x3.b_.n, .sl (flat tmCells x3.b_.sub) (List.length x3.b_.sub) .no])) 0 (ldE codecUnifyEquation h4 (true, 6) (val := .agg [ai x3.a_.k, ai x3.a_.n, .sl (flat tmCells x3.a_.sub) (List.length x3.a_.sub) .no, ai x3.b_.k, ai x3.b_.n, .sl (flat tmCells x3.b_.sub) (List.length x3.b_.sub) .no]) rfl) <| oA 1 (ixN104 (b := 4) (o := q10) (c := q11) (z := 6) h2) o0
  obtain ⟨h9, h⟩ := splF h
  obtain ⟨r10, h11, h⟩ := obind h
  obtain ⟨r12, h13, h⟩ := obind h
  have k := oC 2 [0, 1, 2, 3, 4] (c81va29840 h13) <| oC 3 [1, 2, 3] (c75 h11) <| oB 0 h9 k
  obtain ⟨h14, h⟩ := splF h
  obtain ⟨r15, h16, h⟩ := obind h
  obtain ⟨r17, h18, h⟩ := obind h
  have k := oC 2 [0, 1, 2, 3, 4] (c81va29840 h18) <| oC 3 [1, 2, 3] (c75 h16) <| oB 2 h14 k
  obtain ⟨h19, h⟩ := splF h
  obtain ⟨r20, h21, h⟩ := obind h
  obtain ⟨r22, h23, h⟩ := obind h
  have k := oC 1 [0, 1, 2, 3, 4] (c82va14585 h23) <| oC 1 [0, 1, 2, 3, 4] (c82va14585 h21) <| oB 2 h19 k
  rcases spl h with ⟨h24, h⟩ | ⟨h24, h⟩
  · have k := oB 0 h24 k
    obtain ⟨h25, h⟩ := splT h
    obtain rfl := sj h
    exact k49va42369 (tG q49va42369 1 [] [0, 1, 2, 3, 4] [] true (oD (dUnifyEquation q8) <| oD (dC q2) <| oD (dE q1) <| oD (dI q4) <| oD (dI q3) <| oD (dE q0) <| oD (dI ([] : List Int)) <| oD (dUnifySolved ([] : List UnifySolved)) <| oD (dFreeVar ([] : List FreeVar)) <| oD (dFreeVar q7) <| oB 0 h25 k) (by kernel_rfl) (by decide))
  · have k := oB 0 h24 <| oB 0 h24 k
    obtain ⟨h31, h⟩ := splF h
    obtain ⟨r37, h38, h⟩ := obind h
    obtain rfl := sj h
    exact k49va42369 (tG q49va42369 0 [] [0, 1, 2, 3, 4] [] true (oD (dUnifyEquation q8) <| oD (dC q2) <| oD (dE q1) <| oD (dI q4) <| oD (dI q3) <| oD (dE q0) <| oD (dI ([] : List Int)) <| oD (dUnifySolved ([] : List UnifySolved)) <| oD (dFreeVar ([] : List FreeVar)) <| oD (dFreeVar q7) <| oC 1 [0, 1, 2, 3, 4] (c84va38307 h38) <| oB 0 h31 k) (by kernel_rfl) (by decide))

end Go.Proofs.YtlbmblbeccafcaaGreat

namespace Go.Proofs.YtlbmblbeccafcaaGreat
open Go Go.Ab

/- scholium/unify.Solve -/
def e17L20242 : Nat → Mach → Int → Int → (List FreeVar) → Nat → Nat → Nat → Bool → Int → (List UnifyEquation) →  Option (UnifyAnswer × Int × Int × Int)
  | 0, _, _, _, _, _, _, _, _, _, _ => none
  | qq + 1, M, vb2_0, vb2_1, vb4_2, vb4_3_c, vb4_3_n, vb4_3_o, vb4_8, vb4_9, vb5_0 =>
    if decide ((vb4_3_n : Int) > 0) = true then
      if (vb4_9 == 0) = true then
        if vb4_8 = true then
          none
        else
          (e49va42369 qq M.l M.rl M.parts M.args M.own vb2_0 vb2_1 vb4_2 vb5_0 vb4_3_n vb4_3_o vb4_3_c false vb4_8 vb4_9) >>= fun r8 =>
          e17L20242 qq M r8.2.2.2.2.2.2.2.1 r8.2.2.2.2.2.2.2.2 r8.1 r8.2.2.2.2.1 r8.2.2.1 r8.2.2.2.1 r8.2.2.2.2.2.1 r8.2.2.2.2.2.2.1 r8.2.1
      else
        none
    else
      if (vb4_9 != 0) = true then
        some ((UnifyAnswer.mk false [] [] []), vb4_9, vb2_0, vb2_1)
      else
        none
def e17L44500 (qq : Nat) (M : Mach) (fl : Int) (fu : Int) (y4 : List FreeVar × Int) (vb4_5 : List FreeVar) (v109 : Int) : Option (UnifyAnswer × Int × Int × Int) :=
  if decide (v109 < 0) = true then
    none
  else
    some ((UnifyAnswer.mk true vb4_5 [] []), 0, fl, fu)
def e17L37531 (qq : Nat) (M : Mach) (fl : Int) (fu : Int) (y4 : List FreeVar × Int) (v81 : Int) (vb4_5 : List FreeVar) : Option (UnifyAnswer × Int × Int × Int) :=
  if decide (v81 < (List.length y4.1 : Int)) = true then
    none
  else
    e17L44500 qq M fl fu y4 vb4_5 0
def e17L6383 (qq : Nat) (M : Mach) (fl : Int) (fu : Int) (y4 : List FreeVar × Int) (v109 : Int) : Option (UnifyAnswer × Int × Int × Int) :=
  if decide (v109 < 0) = true then
    none
  else
    some ((UnifyAnswer.mk true [] [] []), 0, fl, fu)
def e17L55847 (qq : Nat) (M : Mach) (fl : Int) (fu : Int) (y4 : List FreeVar × Int) (v81 : Int) : Option (UnifyAnswer × Int × Int × Int) :=
  if decide (v81 < (List.length y4.1 : Int)) = true then
    (gidx y4.1 v81) >>= fun x7 =>
    (e50 qq x7.type_) >>= fun r9 =>
    (gapp 48 ([] : List FreeVar) [(FreeVar.mk x7.n_ r9)]) >>= fun l11 =>
    e17L37531 qq M fl fu y4 (w64 (v81 + 1)) l11
  else
    e17L6383 qq M fl fu y4 0
def e17L53266 (qq : Nat) (M : Mach) (fl : Int) (fu : Int) (y4 : List FreeVar × Int) : Option (UnifyAnswer × Int × Int × Int) :=
  if (y4.2 != 0) = true then
    none
  else
    e17L55847 qq M fl fu y4 0
def e17 (qq : Nat) (M : Mach) (p1 : List FreeVar) (p2 : List Tm) (p3 : List Tm) (fl : Int) (fu : Int) : Option (UnifyAnswer × Int × Int × Int) :=
  (e48 qq M p1 p2 p3 fl fu) >>= fun r1 =>
  match r1 with
  | Sum.inl y3 =>
    e17L20242 qq M fl fu y3.1 (List.length y3.2.1) (List.length y3.2.1) 0 false y3.2.2 y3.2.1
  | Sum.inr y4 =>
    e17L53266 qq M fl fu y4
def g17L20242E0 (j : Nat → Value) (M : Mach) (vb2_0 : Int) (vb2_1 : Int) (vb4_2 : List FreeVar) (vb4_3_c : Nat) (vb4_3_n : Nat) (vb4_3_o : Nat) (vb4_8 : Bool) (vb4_9 : Int) (vb5_0 : List UnifyEquation) : List AV := sp j 130 0 [(10, .mp 3 0), (12, .mp 4 0)]
def g17L20242S0 (M : Mach) (vb2_0 : Int) (vb2_1 : Int) (vb4_2 : List FreeVar) (vb4_3_c : Nat) (vb4_3_n : Nat) (vb4_3_o : Nat) (vb4_8 : Bool) (vb4_9 : Int) (vb5_0 : List UnifyEquation) : LSt := ⟨[(0, .cells [.sl (flat entL M.l) (List.length M.l) .no, .mp 1 0, .sl (flat intC M.args) (List.length M.args) .no, .sl (flat intC M.own) (List.length M.own) .no]), (1, .cells [.sl (flat entL M.rl) (List.length M.rl) .no, .sl (flat conL M.parts) (List.length M.parts) .no]), (2, .cells [ai vb2_0, ai vb2_1]), (3, .cells [ab false, .sl (flat freeVarL ([] : List FreeVar)) (List.length ([] : List FreeVar)) .nl, .sl (flat unifySolvedL ([] : List UnifySolved)) (List.length ([] : List UnifySolved)) .nl, .sl (flat intC ([] : List Int)) (List.length ([] : List Int)) .nl]), (4, .cells [.mp 0 0, .mp 2 0, .sl (flat freeVarL vb4_2) (List.length vb4_2) .no, .ms 5 (vb4_3_o * 6) vb4_3_n vb4_3_c 6, ab false, .sl (flat freeVarL ([] : List FreeVar)) (List.length ([] : List FreeVar)) .nl, .sl (flat unifySolvedL ([] : List UnifySolved)) (List.length ([] : List UnifySolved)) .nl, .sl (flat intC ([] : List Int)) (List.length ([] : List Int)) .nl, ab vb4_8, ai vb4_9]), (5, .row (flat unifyEquationL vb5_0))], 6, [], 0, []⟩
def g17L53266E0 (j : Nat → Value) (M : Mach) (fl : Int) (fu : Int) (y4 : List FreeVar × Int) : List AV := sp j 130 0 [(10, .mp 3 0), (12, .mp 4 0)]
def g17L53266S0 (M : Mach) (fl : Int) (fu : Int) (y4 : List FreeVar × Int) : LSt := ⟨[(0, .cells [.sl (flat entL M.l) (List.length M.l) .no, .mp 1 0, .sl (flat intC M.args) (List.length M.args) .no, .sl (flat intC M.own) (List.length M.own) .no]), (1, .cells [.sl (flat entL M.rl) (List.length M.rl) .no, .sl (flat conL M.parts) (List.length M.parts) .no]), (2, .cells [ai fl, ai fu]), (3, .cells [ab false, .sl (flat freeVarL ([] : List FreeVar)) (List.length ([] : List FreeVar)) .nl, .sl (flat unifySolvedL ([] : List UnifySolved)) (List.length ([] : List UnifySolved)) .nl, .sl (flat intC ([] : List Int)) (List.length ([] : List Int)) .nl]), (4, .cells [.mp 0 0, .mp 2 0, .sl (flat freeVarL y4.1) (List.length y4.1) .no, .sl (flat unifyEquationL ([] : List UnifyEquation)) (List.length ([] : List UnifyEquation)) .nl, ab false, .sl (flat freeVarL ([] : List FreeVar)) (List.length ([] : List FreeVar)) .nl, .sl (flat unifySolvedL ([] : List UnifySolved)) (List.length ([] : List UnifySolved)) .nl, .sl (flat intC ([] : List Int)) (List.length ([] : List Int)) .nl, ab false, ai y4.2])], 5, [], 0, []⟩
def g17L55847E0 (j : Nat → Value) (M : Mach) (fl : Int) (fu : Int) (y4 : List FreeVar × Int) (v81 : Int) : List AV := sp j 130 0 [(10, .mp 3 0), (12, .mp 4 0), (79, .sl (flat freeVarL y4.1) (List.length y4.1) .no), (80, ai (List.length y4.1 : Int)), (81, ai v81)]
def g17L55847S0 (M : Mach) (fl : Int) (fu : Int) (y4 : List FreeVar × Int) (v81 : Int) : LSt := ⟨[(0, .cells [.sl (flat entL M.l) (List.length M.l) .no, .mp 1 0, .sl (flat intC M.args) (List.length M.args) .no, .sl (flat intC M.own) (List.length M.own) .no]), (1, .cells [.sl (flat entL M.rl) (List.length M.rl) .no, .sl (flat conL M.parts) (List.length M.parts) .no]), (2, .cells [ai fl, ai fu]), (3, .cells [ab false, .sl (flat freeVarL ([] : List FreeVar)) (List.length ([] : List FreeVar)) .nl, .sl (flat unifySolvedL ([] : List UnifySolved)) (List.length ([] : List UnifySolved)) .nl, .sl (flat intC ([] : List Int)) (List.length ([] : List Int)) .nl]), (4, .cells [.mp 0 0, .mp 2 0, .sl (flat freeVarL y4.1) (List.length y4.1) .no, .sl (flat unifyEquationL ([] : List UnifyEquation)) (List.length ([] : List UnifyEquation)) .nl, ab true, .sl (flat freeVarL ([] : List FreeVar)) (List.length ([] : List FreeVar)) .nl, .sl (flat unifySolvedL ([] : List UnifySolved)) (List.length ([] : List UnifySolved)) .nl, .sl (flat intC ([] : List Int)) (List.length ([] : List Int)) .nl, ab false, ai y4.2])], 5, [], 0, []⟩
def g17L37531E0 (j : Nat → Value) (M : Mach) (fl : Int) (fu : Int) (y4 : List FreeVar × Int) (v81 : Int) (vb4_5 : List FreeVar) : List AV := sp j 130 0 [(10, .mp 3 0), (12, .mp 4 0), (79, .sl (flat freeVarL y4.1) (List.length y4.1) .no), (80, ai (List.length y4.1 : Int)), (81, ai v81)]
def g17L37531S0 (M : Mach) (fl : Int) (fu : Int) (y4 : List FreeVar × Int) (v81 : Int) (vb4_5 : List FreeVar) : LSt := ⟨[(0, .cells [.sl (flat entL M.l) (List.length M.l) .no, .mp 1 0, .sl (flat intC M.args) (List.length M.args) .no, .sl (flat intC M.own) (List.length M.own) .no]), (1, .cells [.sl (flat entL M.rl) (List.length M.rl) .no, .sl (flat conL M.parts) (List.length M.parts) .no]), (2, .cells [ai fl, ai fu]), (3, .cells [ab false, .sl (flat freeVarL ([] : List FreeVar)) (List.length ([] : List FreeVar)) .nl, .sl (flat unifySolvedL ([] : List UnifySolved)) (List.length ([] : List UnifySolved)) .nl, .sl (flat intC ([] : List Int)) (List.length ([] : List Int)) .nl]), (4, .cells [.mp 0 0, .mp 2 0, .sl (flat freeVarL y4.1) (List.length y4.1) .no, .sl (flat unifyEquationL ([] : List UnifyEquation)) (List.length ([] : List UnifyEquation)) .nl, ab true, .sl (flat freeVarL vb4_5) (List.length vb4_5) (.st 0 4), .sl (flat unifySolvedL ([] : List UnifySolved)) (List.length ([] : List UnifySolved)) .nl, .sl (flat intC ([] : List Int)) (List.length ([] : List Int)) .nl, ab false, ai y4.2])], 5, [0], 1, []⟩
def g17L44500E0 (j : Nat → Value) (M : Mach) (fl : Int) (fu : Int) (y4 : List FreeVar × Int) (vb4_5 : List FreeVar) (v109 : Int) : List AV := sp j 130 0 [(10, .mp 3 0), (12, .mp 4 0), (107, .sl (flat unifySolvedL ([] : List UnifySolved)) (List.length ([] : List UnifySolved)) .nl), (108, ai 0), (109, ai v109)]
def g17L44500S0 (M : Mach) (fl : Int) (fu : Int) (y4 : List FreeVar × Int) (vb4_5 : List FreeVar) (v109 : Int) : LSt := ⟨[(0, .cells [.sl (flat entL M.l) (List.length M.l) .no, .mp 1 0, .sl (flat intC M.args) (List.length M.args) .no, .sl (flat intC M.own) (List.length M.own) .no]), (1, .cells [.sl (flat entL M.rl) (List.length M.rl) .no, .sl (flat conL M.parts) (List.length M.parts) .no]), (2, .cells [ai fl, ai fu]), (3, .cells [ab false, .sl (flat freeVarL ([] : List FreeVar)) (List.length ([] : List FreeVar)) .nl, .sl (flat unifySolvedL ([] : List UnifySolved)) (List.length ([] : List UnifySolved)) .nl, .sl (flat intC ([] : List Int)) (List.length ([] : List Int)) .nl]), (4, .cells [.mp 0 0, .mp 2 0, .sl (flat freeVarL y4.1) (List.length y4.1) .no, .sl (flat unifyEquationL ([] : List UnifyEquation)) (List.length ([] : List UnifyEquation)) .nl, ab true, .sl (flat freeVarL vb4_5) (List.length vb4_5) (.st 0 4), .sl (flat unifySolvedL ([] : List UnifySolved)) (List.length ([] : List UnifySolved)) .nl, .sl (flat intC ([] : List Int)) (List.length ([] : List Int)) .nl, ab false, ai y4.2])], 5, [0], 1, []⟩
def g17L6383E0 (j : Nat → Value) (M : Mach) (fl : Int) (fu : Int) (y4 : List FreeVar × Int) (v109 : Int) : List AV := sp j 130 0 [(10, .mp 3 0), (12, .mp 4 0), (107, .sl (flat unifySolvedL ([] : List UnifySolved)) (List.length ([] : List UnifySolved)) .nl), (108, ai 0), (109, ai v109)]
def g17L6383S0 (M : Mach) (fl : Int) (fu : Int) (y4 : List FreeVar × Int) (v109 : Int) : LSt := ⟨[(0, .cells [.sl (flat entL M.l) (List.length M.l) .no, .mp 1 0, .sl (flat intC M.args) (List.length M.args) .no, .sl (flat intC M.own) (List.length M.own) .no]), (1, .cells [.sl (flat entL M.rl) (List.length M.rl) .no, .sl (flat conL M.parts) (List.length M.parts) .no]), (2, .cells [ai fl, ai fu]), (3, .cells [ab false, .sl (flat freeVarL ([] : List FreeVar)) (List.length ([] : List FreeVar)) .nl, .sl (flat unifySolvedL ([] : List UnifySolved)) (List.length ([] : List UnifySolved)) .nl, .sl (flat intC ([] : List Int)) (List.length ([] : List Int)) .nl]), (4, .cells [.mp 0 0, .mp 2 0, .sl (flat freeVarL y4.1) (List.length y4.1) .no, .sl (flat unifyEquationL ([] : List UnifyEquation)) (List.length ([] : List UnifyEquation)) .nl, ab true, .sl (flat freeVarL ([] : List FreeVar)) (List.length ([] : List FreeVar)) .nl, .sl (flat unifySolvedL ([] : List UnifySolved)) (List.length ([] : List UnifySolved)) .nl, .sl (flat intC ([] : List Int)) (List.length ([] : List Int)) .nl, ab false, ai y4.2])], 5, [], 0, []⟩
theorem q17 : Tryz.prog.funcs[17]? = some Tryz.f17 ∧ Tryz.f17.body.isNone = false := ⟨Tryz.func17, by kernel_rfl⟩
theorem k17 {M : Mach} {p1 : List FreeVar} {p2 : List Tm} {p3 : List Tm} {fl : Int} {fu : Int} {r : UnifyAnswer × Int × Int × Int} (h : CTri Tryz.prog 17 [.cells [.sl (flat entL M.l) (List.length M.l) .no, .mp 1 0, .sl (flat intC M.args) (List.length M.args) .no, .sl (flat intC M.own) (List.length M.own) .no], .cells [.sl (flat entL M.rl) (List.length M.rl) .no, .sl (flat conL M.parts) (List.length M.parts) .no], .cells [ai fl, ai fu]] [.mp 0 0, .sl (flat freeVarL p1) (List.length p1) .no, .sl (flat tmCells p2) (List.length p2) .no, .sl (flat tmCells p3) (List.length p3) .no, .mp 2 0] (.tup [unifyAnswerA r.1, ai r.2.1]) [.cells [.sl (flat entL M.l) (List.length M.l) .no, .mp 1 0, .sl (flat intC M.args) (List.length M.args) .no, .sl (flat intC M.own) (List.length M.own) .no], .cells [.sl (flat entL M.rl) (List.length M.rl) .no, .sl (flat conL M.parts) (List.length M.parts) .no], .cells [ai r.2.2.1, ai r.2.2.2]] 0) : CT Tryz.prog 17 [.cells [.sl (flat entL M.l) (List.length M.l) .no, .mp 1 0, .sl (flat intC M.args) (List.length M.args) .no, .sl (flat intC M.own) (List.length M.own) .no], .cells [.sl (flat entL M.rl) (List.length M.rl) .no, .sl (flat conL M.parts) (List.length M.parts) .no], .cells [ai fl, ai fu]] [.mp 0 0, .sl (flat freeVarL p1) (List.length p1) .no, .sl (flat tmCells p2) (List.length p2) .no, .sl (flat tmCells p3) (List.length p3) .no, .mp 2 0] (.tup [unifyAnswerA r.1, ai r.2.1]) [.cells [.sl (flat entL M.l) (List.length M.l) .no, .mp 1 0, .sl (flat intC M.args) (List.length M.args) .no, .sl (flat intC M.own) (List.length M.own) .no], .cells [.sl (flat entL M.rl) (List.length M.rl) .no, .sl (flat conL M.parts) (List.length M.parts) .no], .cells [ai r.2.2.1, ai r.2.2.2]] 0 := ⟨h, ⟨(show 0 < 3 by decide), ⟨trivial, dFreeVar _⟩, ⟨trivial, dT _⟩, ⟨trivial, dT _⟩, (show 2 < 3 by decide), trivial⟩, (forall_cons ⟨⟨trivial, dE _⟩, (show 1 < 3 by decide), ⟨trivial, dI _⟩, ⟨trivial, dI _⟩, trivial⟩ (forall_cons ⟨⟨trivial, dE _⟩, ⟨trivial, dC _⟩, trivial⟩ (forall_cons ⟨trivial, trivial, trivial⟩ forall_nil))), ⟨⟨trivial, dFreeVar _, dUnifySolved _, dI _, trivial⟩, trivial, trivial⟩, (forall_cons ⟨dE _, (show 1 < 3 by decide), dI _, dI _, trivial⟩ (forall_cons ⟨dE _, dC _, trivial⟩ (forall_cons ⟨trivial, trivial, trivial⟩ forall_nil)))⟩
theorem l17L20242 : ∀ qq : Nat, (∀ (M : Mach) (vb2_0 : Int) (vb2_1 : Int) (vb4_2 : List FreeVar) (vb4_3_c : Nat) (vb4_3_n : Nat) (vb4_3_o : Nat) (vb4_8 : Bool) (vb4_9 : Int) (vb5_0 : List UnifyEquation) (r : UnifyAnswer × Int × Int × Int), e17L20242 qq M vb2_0 vb2_1 vb4_2 vb4_3_c vb4_3_n vb4_3_o vb4_8 vb4_9 vb5_0 = some r → (∀ j, Dl Tryz.prog 3 (inn (inn (lft (rgt (rgt (rgt (bod Tryz.f17))))))) (g17L20242E0 j M vb2_0 vb2_1 vb4_2 vb4_3_c vb4_3_n vb4_3_o vb4_8 vb4_9 vb5_0) (g17L20242S0 M vb2_0 vb2_1 vb4_2 vb4_3_c vb4_3_n vb4_3_o vb4_8 vb4_9 vb5_0) (frameQ Tryz.prog 3 (FinQ Tryz.prog 3 Tryz.f17 (.tup [unifyAnswerA r.1, ai r.2.1]) [.cells [.sl (flat entL M.l) (List.length M.l) .no, .mp 1 0, .sl (flat intC M.args) (List.length M.args) .no, .sl (flat intC M.own) (List.length M.own) .no], .cells [.sl (flat entL M.rl) (List.length M.rl) .no, .sl (flat conL M.parts) (List.length M.parts) .no], .cells [ai r.2.2.1, ai r.2.2.2]] 0) [.blk 0, .seq (rgt (rgt (rgt (rgt (bod Tryz.f17)))))]))) := by
  intro qq
  induction qq with
  | zero =>
    exact fun _ _ _ _ _ _ _ _ _ _ _ h => nn h
  | succ qq ih =>
    intro M vb2_0 vb2_1 vb4_2 vb4_3_c vb4_3_n vb4_3_o vb4_8 vb4_9 vb5_0 r h
    rw [e17L20242] at h
    rcases spl h with ⟨h4, h⟩ | ⟨h4, h⟩
    · have k := oB 2 h4 o0
      obtain ⟨h5, h⟩ := splT h
      have k := oB 1 h5 k
      obtain ⟨h6, h⟩ := splF h
      obtain ⟨r8, h9, h⟩ := obind h
      exact fun j => lH 0 [] [0, 1, 2, 3, 4, 5] [] [10, 12] (oD (dUnifyEquation r8.2.1) <| oD (dI ([] : List Int)) <| oD (dUnifySolved ([] : List UnifySolved)) <| oD (dFreeVar ([] : List FreeVar)) <| oD (dFreeVar r8.1) <| oD (dI ([] : List Int)) <| oD (dUnifySolved ([] : List UnifySolved)) <| oD (dFreeVar ([] : List FreeVar)) <| oD (dC M.parts) <| oD (dE M.rl) <| oD (dI M.own) <| oD (dI M.args) <| oD (dE M.l) <| oC 1 [4, 0, 1, 2, 5] (c49va42369 h9) <| oB 0 h6 k) (ih _ _ _ _ _ _ _ _ _ _ _ h) (fun j => by kernel_rfl)
    · have k := oB 2 h4 o0
      obtain ⟨h12, h⟩ := splT h
      obtain rfl := sj h
      exact fun j => lF 2 [0, 1, 2] (oD (dI ([] : List Int)) <| oD (dUnifySolved ([] : List UnifySolved)) <| oD (dFreeVar ([] : List FreeVar)) <| oD (dC M.parts) <| oD (dE M.rl) <| oD (dI M.own) <| oD (dI M.args) <| oD (dE M.l) <| oB 1 h12 k) (by kernel_rfl)
theorem l17L44500 (qq : Nat) (M : Mach) (fl : Int) (fu : Int) (y4 : List FreeVar × Int) (vb4_5 : List FreeVar) (v109 : Int) (r : UnifyAnswer × Int × Int × Int) (h : e17L44500 qq M fl fu y4 vb4_5 v109 = some r) : (∀ j, Dl Tryz.prog 3 (inn (inn (rgt (lft (rgt (rgt (rgt (rgt (rgt (rgt (rgt (rgt (bod Tryz.f17))))))))))))) (g17L44500E0 j M fl fu y4 vb4_5 v109) (g17L44500S0 M fl fu y4 vb4_5 v109) (frameQ Tryz.prog 3 (FinQ Tryz.prog 3 Tryz.f17 (.tup [unifyAnswerA r.1, ai r.2.1]) [.cells [.sl (flat entL M.l) (List.length M.l) .no, .mp 1 0, .sl (flat intC M.args) (List.length M.args) .no, .sl (flat intC M.own) (List.length M.own) .no], .cells [.sl (flat entL M.rl) (List.length M.rl) .no, .sl (flat conL M.parts) (List.length M.parts) .no], .cells [ai r.2.2.1, ai r.2.2.2]] 0) [.blk 4, .seq (rgt (rgt (rgt (rgt (rgt (rgt (rgt (rgt (rgt (bod Tryz.f17))))))))))])) := by
  unfold e17L44500 at h
  obtain ⟨h20, h⟩ := splF h
  obtain rfl := sj h
  exact fun j => lF 2 [0, 1, 2] (oD (dI ([] : List Int)) <| oD (dUnifySolved ([] : List UnifySolved)) <| oD (dFreeVar vb4_5) <| oD (dC M.parts) <| oD (dE M.rl) <| oD (dI M.own) <| oD (dI M.args) <| oD (dE M.l) <| oB 0 h20 o0) (by kernel_rfl)
theorem l17L37531 (qq : Nat) (M : Mach) (fl : Int) (fu : Int) (y4 : List FreeVar × Int) (v81 : Int) (vb4_5 : List FreeVar) (r : UnifyAnswer × Int × Int × Int) (h : e17L37531 qq M fl fu y4 v81 vb4_5 = some r) : (∀ j, Dl Tryz.prog 3 (inn (inn (rgt (lft (rgt (rgt (rgt (rgt (rgt (rgt (rgt (bod Tryz.f17)))))))))))) (g17L37531E0 j M fl fu y4 v81 vb4_5) (g17L37531S0 M fl fu y4 v81 vb4_5) (frameQ Tryz.prog 3 (FinQ Tryz.prog 3 Tryz.f17 (.tup [unifyAnswerA r.1, ai r.2.1]) [.cells [.sl (flat entL M.l) (List.length M.l) .no, .mp 1 0, .sl (flat intC M.args) (List.length M.args) .no, .sl (flat intC M.own) (List.length M.own) .no], .cells [.sl (flat entL M.rl) (List.length M.rl) .no, .sl (flat conL M.parts) (List.length M.parts) .no], .cells [ai r.2.2.1, ai r.2.2.2]] 0) [.blk 2, .seq (rgt (rgt (rgt (rgt (rgt (rgt (rgt (rgt (bod Tryz.f17)))))))))])) := by
  unfold e17L37531 at h
  obtain ⟨h13, h⟩ := splF h
  exact fun j => lH 2 [] [0, 1, 2, 3, 4] [0] [10, 12, 107, 108, 109] (oD (dUnifySolved ([] : List UnifySolved)) <| oD (dI ([] : List Int)) <| oD (dUnifySolved ([] : List UnifySolved)) <| oD (dFreeVar vb4_5) <| oD (dUnifyEquation ([] : List UnifyEquation)) <| oD (dFreeVar y4.1) <| oD (dI ([] : List Int)) <| oD (dUnifySolved ([] : List UnifySolved)) <| oD (dFreeVar ([] : List FreeVar)) <| oD (dC M.parts) <| oD (dE M.rl) <| oD (dI M.own) <| oD (dI M.args) <| oD (dE M.l) <| oB 0 h13 o0) (l17L44500 qq _ _ _ _ _ _ _ h) (fun j => by kernel_rfl)
theorem l17L6383 (qq : Nat) (M : Mach) (fl : Int) (fu : Int) (y4 : List FreeVar × Int) (v109 : Int) (r : UnifyAnswer × Int × Int × Int) (h : e17L6383 qq M fl fu y4 v109 = some r) : (∀ j, Dl Tryz.prog 3 (inn (inn (rgt (lft (rgt (rgt (rgt (rgt (rgt (rgt (rgt (rgt (bod Tryz.f17))))))))))))) (g17L6383E0 j M fl fu y4 v109) (g17L6383S0 M fl fu y4 v109) (frameQ Tryz.prog 3 (FinQ Tryz.prog 3 Tryz.f17 (.tup [unifyAnswerA r.1, ai r.2.1]) [.cells [.sl (flat entL M.l) (List.length M.l) .no, .mp 1 0, .sl (flat intC M.args) (List.length M.args) .no, .sl (flat intC M.own) (List.length M.own) .no], .cells [.sl (flat entL M.rl) (List.length M.rl) .no, .sl (flat conL M.parts) (List.length M.parts) .no], .cells [ai r.2.2.1, ai r.2.2.2]] 0) [.blk 4, .seq (rgt (rgt (rgt (rgt (rgt (rgt (rgt (rgt (rgt (bod Tryz.f17))))))))))])) := by
  unfold e17L6383 at h
  obtain ⟨h13, h⟩ := splF h
  obtain rfl := sj h
  exact fun j => lF 2 [0, 1, 2] (oD (dI ([] : List Int)) <| oD (dUnifySolved ([] : List UnifySolved)) <| oD (dFreeVar ([] : List FreeVar)) <| oD (dC M.parts) <| oD (dE M.rl) <| oD (dI M.own) <| oD (dI M.args) <| oD (dE M.l) <| oB 0 h13 o0) (by kernel_rfl)
theorem l17L55847 (qq : Nat) (M : Mach) (fl : Int) (fu : Int) (y4 : List FreeVar × Int) (v81 : Int) (r : UnifyAnswer × Int × Int × Int) (h : e17L55847 qq M fl fu y4 v81 = some r) : (∀ j, Dl Tryz.prog 3 (inn (inn (rgt (lft (rgt (rgt (rgt (rgt (rgt (rgt (rgt (bod Tryz.f17)))))))))))) (g17L55847E0 j M fl fu y4 v81) (g17L55847S0 M fl fu y4 v81) (frameQ Tryz.prog 3 (FinQ Tryz.prog 3 Tryz.f17 (.tup [unifyAnswerA r.1, ai r.2.1]) [.cells [.sl (flat entL M.l) (List.length M.l) .no, .mp 1 0, .sl (flat intC M.args) (List.length M.args) .no, .sl (flat intC M.own) (List.length M.own) .no], .cells [.sl (flat entL M.rl) (List.length M.rl) .no, .sl (flat conL M.parts) (List.length M.parts) .no], .cells [ai r.2.2.1, ai r.2.2.2]] 0) [.blk 2, .seq (rgt (rgt (rgt (rgt (rgt (rgt (rgt (rgt (bod Tryz.f17)))))))))])) := by
  unfold e17L55847 at h
  rcases spl h with ⟨h6, h⟩ | ⟨h6, h⟩
  · obtain ⟨x7, h8, h⟩ := obind h
    obtain ⟨r9, h10, h⟩ := obind h
    obtain ⟨l11, h12, h⟩ := obind h
    exact fun j => lH 2 [] [0, 1, 2, 3, 4] [0] [10, 12, 79, 80, 81] (oD (dFreeVar y4.1) <| oD (dI ([] : List Int)) <| oD (dUnifySolved ([] : List UnifySolved)) <| oD (dFreeVar l11) <| oD (dUnifyEquation ([] : List UnifyEquation)) <| oD (dFreeVar y4.1) <| oD (dI ([] : List Int)) <| oD (dUnifySolved ([] : List UnifySolved)) <| oD (dFreeVar ([] : List FreeVar)) <| oD (dC M.parts) <| oD (dE M.rl) <| oD (dI M.own) <| oD (dI M.args) <| oD (dE M.l) <| oP 1 (apS42 h12 (by simp)) <| oC 5 [] (c50 h10) <| oA 0 (ix42 (o := .no) h8) <| oB 0 h6 o0) (l17L37531 qq _ _ _ _ _ _ _ h) (fun j => by kernel_rfl)
  · exact fun j => lH 2 [] [0, 1, 2, 3, 4] [] [10, 12, 107, 108, 109] (oD (dUnifySolved ([] : List UnifySolved)) <| oD (dI ([] : List Int)) <| oD (dUnifySolved ([] : List UnifySolved)) <| oD (dFreeVar ([] : List FreeVar)) <| oD (dUnifyEquation ([] : List UnifyEquation)) <| oD (dFreeVar y4.1) <| oD (dI ([] : List Int)) <| oD (dUnifySolved ([] : List UnifySolved)) <| oD (dFreeVar ([] : List FreeVar)) <| oD (dC M.parts) <| oD (dE M.rl) <| oD (dI M.own) <| oD (dI M.args) <| oD (dE M.l) <| oB 0 h6 o0) (l17L6383 qq _ _ _ _ _ _ h) (fun j => by kernel_rfl)
theorem l17L53266 (qq : Nat) (M : Mach) (fl : Int) (fu : Int) (y4 : List FreeVar × Int) (r : UnifyAnswer × Int × Int × Int) (h : e17L53266 qq M fl fu y4 = some r) : (∀ j, Dl Tryz.prog 3 (inn (inn (lft (rgt (rgt (rgt (bod Tryz.f17))))))) (g17L53266E0 j M fl fu y4) (g17L53266S0 M fl fu y4) (frameQ Tryz.prog 3 (FinQ Tryz.prog 3 Tryz.f17 (.tup [unifyAnswerA r.1, ai r.2.1]) [.cells [.sl (flat entL M.l) (List.length M.l) .no, .mp 1 0, .sl (flat intC M.args) (List.length M.args) .no, .sl (flat intC M.own) (List.length M.own) .no], .cells [.sl (flat entL M.rl) (List.length M.rl) .no, .sl (flat conL M.parts) (List.length M.parts) .no], .cells [ai r.2.2.1, ai r.2.2.2]] 0) [.blk 0, .seq (rgt (rgt (rgt (rgt (bod Tryz.f17)))))])) := by
  unfold e17L53266 at h
  obtain ⟨h5, h⟩ := splF h
  exact fun j => lH 4 [] [0, 1, 2, 3, 4] [] [10, 12, 79, 80, 81] (oD (dFreeVar y4.1) <| oD (dI ([] : List Int)) <| oD (dUnifySolved ([] : List UnifySolved)) <| oD (dFreeVar ([] : List FreeVar)) <| oD (dUnifyEquation ([] : List UnifyEquation)) <| oD (dFreeVar y4.1) <| oD (dI ([] : List Int)) <| oD (dUnifySolved ([] : List UnifySolved)) <| oD (dFreeVar ([] : List FreeVar)) <| oD (dC M.parts) <| oD (dE M.rl) <| oD (dI M.own) <| oD (dI M.args) <| oD (dE M.l) <| oB 4 h5 o0) (l17L55847 qq _ _ _ _ _ _ h) (fun j => by kernel_rfl)
theorem c17 {qq : Nat} {M : Mach} {p1 : List FreeVar} {p2 : List Tm} {p3 : List Tm} {fl : Int} {fu : Int} {r : UnifyAnswer × Int × Int × Int} (h : e17 qq M p1 p2 p3 fl fu = some r) : CT Tryz.prog 17 [.cells [.sl (flat entL M.l) (List.length M.l) .no, .mp 1 0, .sl (flat intC M.args) (List.length M.args) .no, .sl (flat intC M.own) (List.length M.own) .no], .cells [.sl (flat entL M.rl) (List.length M.rl) .no, .sl (flat conL M.parts) (List.length M.parts) .no], .cells [ai fl, ai fu]] [.mp 0 0, .sl (flat freeVarL p1) (List.length p1) .no, .sl (flat tmCells p2) (List.length p2) .no, .sl (flat tmCells p3) (List.length p3) .no, .mp 2 0] (.tup [unifyAnswerA r.1, ai r.2.1]) [.cells [.sl (flat entL M.l) (List.length M.l) .no, .mp 1 0, .sl (flat intC M.args) (List.length M.args) .no, .sl (flat intC M.own) (List.length M.own) .no], .cells [.sl (flat entL M.rl) (List.length M.rl) .no, .sl (flat conL M.parts) (List.length M.parts) .no], .cells [ai r.2.2.1, ai r.2.2.2]] 0 := by
  unfold e17 at h
  obtain ⟨r1, h2, h⟩ := obind h
  rcases r1 with y3 | y4
  · dsimp only at h
    exact k17 (tH q17 3 [] [0, 1, 2, 3, 4, 5] [] [10, 12] (oD (dUnifyEquation y3.2.1) <| oD (dI ([] : List Int)) <| oD (dUnifySolved ([] : List UnifySolved)) <| oD (dFreeVar ([] : List FreeVar)) <| oD (dFreeVar y3.1) <| oD (dI ([] : List Int)) <| oD (dUnifySolved ([] : List UnifySolved)) <| oD (dFreeVar ([] : List FreeVar)) <| oD (dC M.parts) <| oD (dE M.rl) <| oD (dI M.own) <| oD (dI M.args) <| oD (dE M.l) <| oC 0 [0, 1, 2] (c48 h2) o0) (l17L20242 _ _ _ _ _ _ _ _ _ _ _ _ h) (fun j => by kernel_rfl))
  · dsimp only at h
    exact k17 (tH q17 3 [] [0, 1, 2, 3, 4] [] [10, 12] (oD (dI ([] : List Int)) <| oD (dUnifySolved ([] : List UnifySolved)) <| oD (dFreeVar ([] : List FreeVar)) <| oD (dUnifyEquation ([] : List UnifyEquation)) <| oD (dFreeVar y4.1) <| oD (dI ([] : List Int)) <| oD (dUnifySolved ([] : List UnifySolved)) <| oD (dFreeVar ([] : List FreeVar)) <| oD (dC M.parts) <| oD (dE M.rl) <| oD (dI M.own) <| oD (dI M.args) <| oD (dE M.l) <| oC 0 [0, 1, 2] (c48 h2) o0) (l17L53266 qq _ _ _ _ _ h) (fun j => by kernel_rfl))

end Go.Proofs.YtlbmblbeccafcaaGreat

namespace Go.Proofs.YtlbmblbeccafcaaGreat
open Go Go.Ab

/- (*scholium/split.maker).branch -/
def e92 (qq : Nat) (M : Mach) (q0_l : List Ent) (q0_c : List FreeVar) (q0_n : Int) (fl : Int) (fu : Int) (q0_pars : List Tm) (q0_inds : List Tm) (p1 : Int) : Option (SplitBranch × Int × Int × Int) :=
  (e133 qq M q0_l q0_c q0_n fl fu q0_pars q0_inds p1) >>= fun r1 =>
  if (r1.2.2 != 0) = true then
    none
  else
    (e135 qq p1) >>= fun r4 =>
    (e134 qq r4 q0_pars) >>= fun r6 =>
    (e136 qq r1.1) >>= fun r8 =>
    (e134 qq r6 r8) >>= fun r10 =>
    (e51 qq r10) >>= fun r12 =>
    if r12 = true then
      (e137 qq q0_c) >>= fun r15 =>
      (gapp 48 r15 r1.1) >>= fun l17 =>
      (e126 qq l17 q0_n r10) >>= fun r20 =>
      if (r20.2 != 0) = true then
        none
      else
        (e17 qq M r20.1 r1.2.1 q0_inds fl fu) >>= fun r23 =>
        if (r23.2.1 != 0) = true then
          some ((SplitBranch.mk 0 false [] [] []), r23.2.1, r23.2.2.1, r23.2.2.2)
        else
          if r23.1.yes_ = true then
            (e138 qq r23.1.solved_ r10) >>= fun r27 =>
            if (r27.2 != 0) = true then
              none
            else
              (gapp 48 [(UnifySolved.mk q0_n r27.1)] r23.1.solved_) >>= fun l30 =>
              (e139 qq r1.1) >>= fun r33 =>
              some ((SplitBranch.mk p1 true r33 r23.1.vars_ l30), 0, r23.2.2.1, r23.2.2.2)
          else
            none
    else
      none
theorem q92 : Tryz.prog.funcs[92]? = some Tryz.f92 ∧ Tryz.f92.body.isNone = false := ⟨Tryz.func92, by kernel_rfl⟩
theorem k92 {M : Mach} {q0_l : List Ent} {q0_c : List FreeVar} {q0_n : Int} {fl : Int} {fu : Int} {q0_pars : List Tm} {q0_inds : List Tm} {p1 : Int} {r : SplitBranch × Int × Int × Int} (h : CTri Tryz.prog 92 [.cells [.mp 1 0, .sl (flat entL q0_l) (List.length q0_l) .no, .sl (flat freeVarL q0_c) (List.length q0_c) .no, ai q0_n, .mp 3 0, .sl (flat tmCells q0_pars) (List.length q0_pars) .no, .sl (flat tmCells q0_inds) (List.length q0_inds) .no], .cells [.sl (flat entL M.l) (List.length M.l) .no, .mp 2 0, .sl (flat intC M.args) (List.length M.args) .no, .sl (flat intC M.own) (List.length M.own) .no], .cells [.sl (flat entL M.rl) (List.length M.rl) .no, .sl (flat conL M.parts) (List.length M.parts) .no], .cells [ai fl, ai fu]] [.mp 0 0, ai p1] (.tup [splitBranchA r.1, ai r.2.1]) [.cells [.mp 1 0, .sl (flat entL q0_l) (List.length q0_l) .no, .sl (flat freeVarL q0_c) (List.length q0_c) .no, ai q0_n, .mp 3 0, .sl (flat tmCells q0_pars) (List.length q0_pars) .no, .sl (flat tmCells q0_inds) (List.length q0_inds) .no], .cells [.sl (flat entL M.l) (List.length M.l) .no, .mp 2 0, .sl (flat intC M.args) (List.length M.args) .no, .sl (flat intC M.own) (List.length M.own) .no], .cells [.sl (flat entL M.rl) (List.length M.rl) .no, .sl (flat conL M.parts) (List.length M.parts) .no], .cells [ai r.2.2.1, ai r.2.2.2]] 0) : CT Tryz.prog 92 [.cells [.mp 1 0, .sl (flat entL q0_l) (List.length q0_l) .no, .sl (flat freeVarL q0_c) (List.length q0_c) .no, ai q0_n, .mp 3 0, .sl (flat tmCells q0_pars) (List.length q0_pars) .no, .sl (flat tmCells q0_inds) (List.length q0_inds) .no], .cells [.sl (flat entL M.l) (List.length M.l) .no, .mp 2 0, .sl (flat intC M.args) (List.length M.args) .no, .sl (flat intC M.own) (List.length M.own) .no], .cells [.sl (flat entL M.rl) (List.length M.rl) .no, .sl (flat conL M.parts) (List.length M.parts) .no], .cells [ai fl, ai fu]] [.mp 0 0, ai p1] (.tup [splitBranchA r.1, ai r.2.1]) [.cells [.mp 1 0, .sl (flat entL q0_l) (List.length q0_l) .no, .sl (flat freeVarL q0_c) (List.length q0_c) .no, ai q0_n, .mp 3 0, .sl (flat tmCells q0_pars) (List.length q0_pars) .no, .sl (flat tmCells q0_inds) (List.length q0_inds) .no], .cells [.sl (flat entL M.l) (List.length M.l) .no, .mp 2 0, .sl (flat intC M.args) (List.length M.args) .no, .sl (flat intC M.own) (List.length M.own) .no], .cells [.sl (flat entL M.rl) (List.length M.rl) .no, .sl (flat conL M.parts) (List.length M.parts) .no], .cells [ai r.2.2.1, ai r.2.2.2]] 0 := ⟨h, ⟨(show 0 < 4 by decide), trivial, trivial⟩, (forall_cons ⟨(show 1 < 4 by decide), ⟨trivial, dE _⟩, ⟨trivial, dFreeVar _⟩, trivial, (show 3 < 4 by decide), ⟨trivial, dT _⟩, ⟨trivial, dT _⟩, trivial⟩ (forall_cons ⟨⟨trivial, dE _⟩, (show 2 < 4 by decide), ⟨trivial, dI _⟩, ⟨trivial, dI _⟩, trivial⟩ (forall_cons ⟨⟨trivial, dE _⟩, ⟨trivial, dC _⟩, trivial⟩ (forall_cons ⟨trivial, trivial, trivial⟩ forall_nil)))), ⟨⟨trivial, trivial, dI _, dFreeVar _, dUnifySolved _, trivial⟩, trivial, trivial⟩, (forall_cons ⟨(show 1 < 4 by decide), dE _, dFreeVar _, trivial, (show 3 < 4 by decide), dT _, dT _, trivial⟩ (forall_cons ⟨dE _, (show 2 < 4 by decide), dI _, dI _, trivial⟩ (forall_cons ⟨dE _, dC _, trivial⟩ (forall_cons ⟨trivial, trivial, trivial⟩ forall_nil))))⟩
theorem c92 {qq : Nat} {M : Mach} {q0_l : List Ent} {q0_c : List FreeVar} {q0_n : Int} {fl : Int} {fu : Int} {q0_pars : List Tm} {q0_inds : List Tm} {p1 : Int} {r : SplitBranch × Int × Int × Int} (h : e92 qq M q0_l q0_c q0_n fl fu q0_pars q0_inds p1 = some r) : CT Tryz.prog 92 [.cells [.mp 1 0, .sl (flat entL q0_l) (List.length q0_l) .no, .sl (flat freeVarL q0_c) (List.length q0_c) .no, ai q0_n, .mp 3 0, .sl (flat tmCells q0_pars) (List.length q0_pars) .no, .sl (flat tmCells q0_inds) (List.length q0_inds) .no], .cells [.sl (flat entL M.l) (List.length M.l) .no, .mp 2 0, .sl (flat intC M.args) (List.length M.args) .no, .sl (flat intC M.own) (List.length M.own) .no], .cells [.sl (flat entL M.rl) (List.length M.rl) .no, .sl (flat conL M.parts) (List.length M.parts) .no], .cells [ai fl, ai fu]] [.mp 0 0, ai p1] (.tup [splitBranchA r.1, ai r.2.1]) [.cells [.mp 1 0, .sl (flat entL q0_l) (List.length q0_l) .no, .sl (flat freeVarL q0_c) (List.length q0_c) .no, ai q0_n, .mp 3 0, .sl (flat tmCells q0_pars) (List.length q0_pars) .no, .sl (flat tmCells q0_inds) (List.length q0_inds) .no], .cells [.sl (flat entL M.l) (List.length M.l) .no, .mp 2 0, .sl (flat intC M.args) (List.length M.args) .no, .sl (flat intC M.own) (List.length M.own) .no], .cells [.sl (flat entL M.rl) (List.length M.rl) .no, .sl (flat conL M.parts) (List.length M.parts) .no], .cells [ai r.2.2.1, ai r.2.2.2]] 0 := by
  unfold e92 at h
  obtain ⟨r1, h2, h⟩ := obind h
  have k := oC 0 [0, 1, 2, 3] (c133 h2) o0
  obtain ⟨h3, h⟩ := splF h
  obtain ⟨r4, h5, h⟩ := obind h
  obtain ⟨r6, h7, h⟩ := obind h
  obtain ⟨r8, h9, h⟩ := obind h
  obtain ⟨r10, h11, h⟩ := obind h
  obtain ⟨r12, h13, h⟩ := obind h
  have k := oC 0 [] (c134 h11) <| oC 0 [] (c136 h9) <| oC 1 [] (c134 h7) <| oC 0 [] (c135 h5) <| oB 3 h3 k
  obtain ⟨h14, h⟩ := splT h
  obtain ⟨r15, h16, h⟩ := obind h
  obtain ⟨l17, h18, h⟩ := obind h
  have k := oC 2 [] (c137 h16) <| oK 2 [] h14 (c51 h13) k
  by_cases h19 : List.length r1.1 = 0
  · obtain ⟨r20, h21, h⟩ := obind h
    have k := oC 2 [] (c126 h21) <| oP 0 (apN42 h18 h19) k
    obtain ⟨h22, h⟩ := splF h
    obtain ⟨r23, h24, h⟩ := obind h
    have k := oC 3 [1, 2, 3] (c17 h24) <| oB 2 h22 k
    rcases spl h with ⟨h25, h⟩ | ⟨h25, h⟩
    · obtain rfl := sj h
      exact k92 (tF q92 1 [0, 1, 2, 3] (oD (dUnifySolved ([] : List UnifySolved)) <| oD (dFreeVar ([] : List FreeVar)) <| oD (dI ([] : List Int)) <| oD (dC M.parts) <| oD (dE M.rl) <| oD (dI M.own) <| oD (dI M.args) <| oD (dE M.l) <| oD (dT q0_inds) <| oD (dT q0_pars) <| oD (dFreeVar q0_c) <| oD (dE q0_l) <| oB 3 h25 k) (by kernel_rfl))
    · have k := oB 3 h25 k
      obtain ⟨h26, h⟩ := splT h
      obtain ⟨r27, h28, h⟩ := obind h
      have k := oC 3 [] (c138 h28) <| oB 0 h26 k
      obtain ⟨h29, h⟩ := splF h
      obtain ⟨l30, h31, h⟩ := obind h
      have k := oB 3 h29 k
      by_cases h32 : List.length r23.1.solved_ = 0
      · obtain ⟨r33, h34, h⟩ := obind h
        obtain rfl := sj h
        exact k92 (tF q92 2 [0, 1, 2, 3] (oD (dUnifySolved l30) <| oD (dFreeVar r23.1.vars_) <| oD (dI r33) <| oD (dC M.parts) <| oD (dE M.rl) <| oD (dI M.own) <| oD (dI M.args) <| oD (dE M.l) <| oD (dT q0_inds) <| oD (dT q0_pars) <| oD (dFreeVar q0_c) <| oD (dE q0_l) <| oC 0 [] (c139 h34) <| oP 4 (apN53 h31 h32) k) (by kernel_rfl))
      · obtain ⟨r33, h34, h⟩ := obind h
        obtain rfl := sj h
        exact k92 (tF q92 2 [0, 1, 2, 3] (oD (dUnifySolved l30) <| oD (dFreeVar r23.1.vars_) <| oD (dI r33) <| oD (dC M.parts) <| oD (dE M.rl) <| oD (dI M.own) <| oD (dI M.args) <| oD (dE M.l) <| oD (dT q0_inds) <| oD (dT q0_pars) <| oD (dFreeVar q0_c) <| oD (dE q0_l) <| oC 0 [] (c139 h34) <| oP 4 (apS53 h31 h32) k) (by kernel_rfl))
  · obtain ⟨r20, h21, h⟩ := obind h
    have k := oC 2 [] (c126 h21) <| oP 0 (apS42 h18 h19) k
    obtain ⟨h22, h⟩ := splF h
    obtain ⟨r23, h24, h⟩ := obind h
    have k := oC 3 [1, 2, 3] (c17 h24) <| oB 2 h22 k
    rcases spl h with ⟨h25, h⟩ | ⟨h25, h⟩
    · obtain rfl := sj h
      exact k92 (tF q92 1 [0, 1, 2, 3] (oD (dUnifySolved ([] : List UnifySolved)) <| oD (dFreeVar ([] : List FreeVar)) <| oD (dI ([] : List Int)) <| oD (dC M.parts) <| oD (dE M.rl) <| oD (dI M.own) <| oD (dI M.args) <| oD (dE M.l) <| oD (dT q0_inds) <| oD (dT q0_pars) <| oD (dFreeVar q0_c) <| oD (dE q0_l) <| oB 3 h25 k) (by kernel_rfl))
    · have k := oB 3 h25 k
      obtain ⟨h26, h⟩ := splT h
      obtain ⟨r27, h28, h⟩ := obind h
      have k := oC 3 [] (c138 h28) <| oB 0 h26 k
      obtain ⟨h29, h⟩ := splF h
      obtain ⟨l30, h31, h⟩ := obind h
      have k := oB 3 h29 k
      by_cases h32 : List.length r23.1.solved_ = 0
      · obtain ⟨r33, h34, h⟩ := obind h
        obtain rfl := sj h
        exact k92 (tF q92 2 [0, 1, 2, 3] (oD (dUnifySolved l30) <| oD (dFreeVar r23.1.vars_) <| oD (dI r33) <| oD (dC M.parts) <| oD (dE M.rl) <| oD (dI M.own) <| oD (dI M.args) <| oD (dE M.l) <| oD (dT q0_inds) <| oD (dT q0_pars) <| oD (dFreeVar q0_c) <| oD (dE q0_l) <| oC 0 [] (c139 h34) <| oP 4 (apN53 h31 h32) k) (by kernel_rfl))
      · obtain ⟨r33, h34, h⟩ := obind h
        obtain rfl := sj h
        exact k92 (tF q92 2 [0, 1, 2, 3] (oD (dUnifySolved l30) <| oD (dFreeVar r23.1.vars_) <| oD (dI r33) <| oD (dC M.parts) <| oD (dE M.rl) <| oD (dI M.own) <| oD (dI M.args) <| oD (dE M.l) <| oD (dT q0_inds) <| oD (dT q0_pars) <| oD (dFreeVar q0_c) <| oD (dE q0_l) <| oC 0 [] (c139 h34) <| oP 4 (apS53 h31 h32) k) (by kernel_rfl))

end Go.Proofs.YtlbmblbeccafcaaGreat

namespace Go.Proofs.YtlbmblbeccafcaaGreat
open Go Go.Ab

/- scholium/split.One -/
def e55 (qq : Nat) (M : Mach) (p1 : List FreeVar) (p2 : Int) (p3 : Int) (fl : Int) (fu : Int) : Option (SplitBranch × Int × Int × Int) :=
  (e53 qq M p1 p2 fl fu) >>= fun r1 =>
  if (r1.2.1 != 0) = true then
    none
  else
    (gidx r1.2.2.2.2.1 r1.1) >>= fun x4 =>
    (e91 qq x4.cons p3) >>= fun r6 =>
    if r6 = true then
      (e92 qq M r1.2.2.2.2.1 r1.2.2.2.2.2.1 r1.2.2.2.2.2.2.1 r1.2.2.1 r1.2.2.2.1 r1.2.2.2.2.2.2.2.1 r1.2.2.2.2.2.2.2.2 p3) >>= fun r9 =>
      some (r9.1, r9.2.1, r9.2.2.1, r9.2.2.2)
    else
      none
theorem q55 : Tryz.prog.funcs[55]? = some Tryz.f55 ∧ Tryz.f55.body.isNone = false := ⟨Tryz.func55, by kernel_rfl⟩
theorem k55 {M : Mach} {p1 : List FreeVar} {p2 : Int} {p3 : Int} {fl : Int} {fu : Int} {r : SplitBranch × Int × Int × Int} (h : CTri Tryz.prog 55 [.cells [.sl (flat entL M.l) (List.length M.l) .no, .mp 1 0, .sl (flat intC M.args) (List.length M.args) .no, .sl (flat intC M.own) (List.length M.own) .no], .cells [.sl (flat entL M.rl) (List.length M.rl) .no, .sl (flat conL M.parts) (List.length M.parts) .no], .cells [ai fl, ai fu]] [.mp 0 0, .sl (flat freeVarL p1) (List.length p1) .no, ai p2, ai p3, .mp 2 0] (.tup [splitBranchA r.1, ai r.2.1]) [.cells [.sl (flat entL M.l) (List.length M.l) .no, .mp 1 0, .sl (flat intC M.args) (List.length M.args) .no, .sl (flat intC M.own) (List.length M.own) .no], .cells [.sl (flat entL M.rl) (List.length M.rl) .no, .sl (flat conL M.parts) (List.length M.parts) .no], .cells [ai r.2.2.1, ai r.2.2.2]] 0) : CT Tryz.prog 55 [.cells [.sl (flat entL M.l) (List.length M.l) .no, .mp 1 0, .sl (flat intC M.args) (List.length M.args) .no, .sl (flat intC M.own) (List.length M.own) .no], .cells [.sl (flat entL M.rl) (List.length M.rl) .no, .sl (flat conL M.parts) (List.length M.parts) .no], .cells [ai fl, ai fu]] [.mp 0 0, .sl (flat freeVarL p1) (List.length p1) .no, ai p2, ai p3, .mp 2 0] (.tup [splitBranchA r.1, ai r.2.1]) [.cells [.sl (flat entL M.l) (List.length M.l) .no, .mp 1 0, .sl (flat intC M.args) (List.length M.args) .no, .sl (flat intC M.own) (List.length M.own) .no], .cells [.sl (flat entL M.rl) (List.length M.rl) .no, .sl (flat conL M.parts) (List.length M.parts) .no], .cells [ai r.2.2.1, ai r.2.2.2]] 0 := ⟨h, ⟨(show 0 < 3 by decide), ⟨trivial, dFreeVar _⟩, trivial, trivial, (show 2 < 3 by decide), trivial⟩, (forall_cons ⟨⟨trivial, dE _⟩, (show 1 < 3 by decide), ⟨trivial, dI _⟩, ⟨trivial, dI _⟩, trivial⟩ (forall_cons ⟨⟨trivial, dE _⟩, ⟨trivial, dC _⟩, trivial⟩ (forall_cons ⟨trivial, trivial, trivial⟩ forall_nil))), ⟨⟨trivial, trivial, dI _, dFreeVar _, dUnifySolved _, trivial⟩, trivial, trivial⟩, (forall_cons ⟨dE _, (show 1 < 3 by decide), dI _, dI _, trivial⟩ (forall_cons ⟨dE _, dC _, trivial⟩ (forall_cons ⟨trivial, trivial, trivial⟩ forall_nil)))⟩
theorem c55 {qq : Nat} {M : Mach} {p1 : List FreeVar} {p2 : Int} {p3 : Int} {fl : Int} {fu : Int} {r : SplitBranch × Int × Int × Int} (h : e55 qq M p1 p2 p3 fl fu = some r) : CT Tryz.prog 55 [.cells [.sl (flat entL M.l) (List.length M.l) .no, .mp 1 0, .sl (flat intC M.args) (List.length M.args) .no, .sl (flat intC M.own) (List.length M.own) .no], .cells [.sl (flat entL M.rl) (List.length M.rl) .no, .sl (flat conL M.parts) (List.length M.parts) .no], .cells [ai fl, ai fu]] [.mp 0 0, .sl (flat freeVarL p1) (List.length p1) .no, ai p2, ai p3, .mp 2 0] (.tup [splitBranchA r.1, ai r.2.1]) [.cells [.sl (flat entL M.l) (List.length M.l) .no, .mp 1 0, .sl (flat intC M.args) (List.length M.args) .no, .sl (flat intC M.own) (List.length M.own) .no], .cells [.sl (flat entL M.rl) (List.length M.rl) .no, .sl (flat conL M.parts) (List.length M.parts) .no], .cells [ai r.2.2.1, ai r.2.2.2]] 0 := by
  unfold e55 at h
  obtain ⟨r1, h2, h⟩ := obind h
  have k := oC 0 [0, 1, 2] (c53 h2) o0
  obtain ⟨h3, h⟩ := splF h
  obtain ⟨x4, h5, h⟩ := obind h
  obtain ⟨r6, h7, h⟩ := obind h
  have k := oA 1 (ix25 (o := .no) h5) <| oB 3 h3 k
  obtain ⟨h8, h⟩ := splT h
  obtain ⟨r9, h10, h⟩ := obind h
  obtain rfl := sj h
  exact k55 (tF q55 3 [0, 1, 2] (oD (dUnifySolved r9.1.solved_) <| oD (dFreeVar r9.1.vars_) <| oD (dI r9.1.args_) <| oD (dC M.parts) <| oD (dE M.rl) <| oD (dI M.own) <| oD (dI M.args) <| oD (dE M.l) <| oC 1 [4, 0, 1, 2] (c92 h10) <| oK 1 [] h8 (c91 h7) k) (by kernel_rfl))

end Go.Proofs.YtlbmblbeccafcaaGreat

namespace Go.Proofs.YtlbmblbeccafcaaGreat
open Go Go.Ab

/- scholium/split.All$1 -/
def e54va27467 (qq : Nat) (p0 : Int) (q1 : Int) (q2 : List Ent) (q3 : List Ent) (q4 : List Con') (q5 : List Int) (q6 : List Int) (q7 : List FreeVar) (q8 : Int) (q9 : Int) (q10 : Int) (q11 : List SplitBranch) : Option (Int × Int × Int × List SplitBranch) :=
  if (q1 == 0) = true then
    (e55 qq (Mach.mk q2 q3 q4 q5 q6) q7 q8 p0 q9 q10) >>= fun r2 =>
    (gapp 88 q11 [r2.1]) >>= fun l4 =>
    some (r2.2.1, r2.2.2.1, r2.2.2.2, l4)
  else
    some (q1, q9, q10, q11)
theorem q54va27467 : Tryz.prog.funcs[54]? = some Tryz.f54 ∧ Tryz.f54.body.isNone = false := ⟨Tryz.func54, by kernel_rfl⟩
theorem k54va27467 {p0 : Int} {q1 : Int} {q2 : List Ent} {q3 : List Ent} {q4 : List Con'} {q5 : List Int} {q6 : List Int} {q7 : List FreeVar} {q8 : Int} {q9 : Int} {q10 : Int} {q11 : List SplitBranch} {r : Int × Int × Int × List SplitBranch} (h : CTri Tryz.prog 54 [.cells [ai q1], .cells [.mp 2 0], .cells [.sl (flat entL q2) (List.length q2) .no, .mp 3 0, .sl (flat intC q5) (List.length q5) .no, .sl (flat intC q6) (List.length q6) .no], .cells [.sl (flat entL q3) (List.length q3) .no, .sl (flat conL q4) (List.length q4) .no], .cells [.sl (flat freeVarL q7) (List.length q7) .no], .cells [ai q8], .cells [.mp 7 0], .cells [ai q9, ai q10], .cells [.ms 9 0 (List.length q11) (List.length q11) 5], .row (flat splitBranchL q11)] [ai p0, .mp 0 0, .mp 1 0, .mp 4 0, .mp 5 0, .mp 6 0, .mp 8 0] (.tup []) [.cells [ai r.1], .cells [.mp 2 0], .cells [.sl (flat entL q2) (List.length q2) .no, .mp 3 0, .sl (flat intC q5) (List.length q5) .no, .sl (flat intC q6) (List.length q6) .no], .cells [.sl (flat entL q3) (List.length q3) .no, .sl (flat conL q4) (List.length q4) .no], .cells [.sl (flat freeVarL q7) (List.length q7) .no], .cells [ai q8], .cells [.mp 7 0], .cells [ai r.2.1, ai r.2.2.1], .cells [.ms 10 0 (List.length r.2.2.2) (List.length r.2.2.2) 5], .dead, .row (flat splitBranchL r.2.2.2)] 0) : CT Tryz.prog 54 [.cells [ai q1], .cells [.mp 2 0], .cells [.sl (flat entL q2) (List.length q2) .no, .mp 3 0, .sl (flat intC q5) (List.length q5) .no, .sl (flat intC q6) (List.length q6) .no], .cells [.sl (flat entL q3) (List.length q3) .no, .sl (flat conL q4) (List.length q4) .no], .cells [.sl (flat freeVarL q7) (List.length q7) .no], .cells [ai q8], .cells [.mp 7 0], .cells [ai q9, ai q10], .cells [.ms 9 0 (List.length q11) (List.length q11) 5], .row (flat splitBranchL q11)] [ai p0, .mp 0 0, .mp 1 0, .mp 4 0, .mp 5 0, .mp 6 0, .mp 8 0] (.tup []) [.cells [ai r.1], .cells [.mp 2 0], .cells [.sl (flat entL q2) (List.length q2) .no, .mp 3 0, .sl (flat intC q5) (List.length q5) .no, .sl (flat intC q6) (List.length q6) .no], .cells [.sl (flat entL q3) (List.length q3) .no, .sl (flat conL q4) (List.length q4) .no], .cells [.sl (flat freeVarL q7) (List.length q7) .no], .cells [ai q8], .cells [.mp 7 0], .cells [ai r.2.1, ai r.2.2.1], .cells [.ms 10 0 (List.length r.2.2.2) (List.length r.2.2.2) 5], .dead, .row (flat splitBranchL r.2.2.2)] 0 := ⟨h, ⟨trivial, (show 0 < 10 by decide), (show 1 < 10 by decide), (show 4 < 10 by decide), (show 5 < 10 by decide), (show 6 < 10 by decide), (show 8 < 10 by decide), trivial⟩, (forall_cons ⟨trivial, trivial⟩ (forall_cons ⟨(show 2 < 10 by decide), trivial⟩ (forall_cons ⟨⟨trivial, dE _⟩, (show 3 < 10 by decide), ⟨trivial, dI _⟩, ⟨trivial, dI _⟩, trivial⟩ (forall_cons ⟨⟨trivial, dE _⟩, ⟨trivial, dC _⟩, trivial⟩ (forall_cons ⟨⟨trivial, dFreeVar _⟩, trivial⟩ (forall_cons ⟨trivial, trivial⟩ (forall_cons ⟨(show 7 < 10 by decide), trivial⟩ (forall_cons ⟨trivial, trivial, trivial⟩ (forall_cons ⟨(show 9 < 10 by decide), trivial⟩ (forall_cons (dSplitBranch _) forall_nil)))))))))), trivial, (forall_cons ⟨trivial, trivial⟩ (forall_cons ⟨(show 2 < 11 by decide), trivial⟩ (forall_cons ⟨dE _, (show 3 < 11 by decide), dI _, dI _, trivial⟩ (forall_cons ⟨dE _, dC _, trivial⟩ (forall_cons ⟨dFreeVar _, trivial⟩ (forall_cons ⟨trivial, trivial⟩ (forall_cons ⟨(show 7 < 11 by decide), trivial⟩ (forall_cons ⟨trivial, trivial, trivial⟩ (forall_cons ⟨(show 10 < 11 by decide), trivial⟩ (forall_cons trivial (forall_cons (dSplitBranch _) forall_nil)))))))))))⟩
theorem c54va27467 {qq : Nat} {p0 : Int} {q1 : Int} {q2 : List Ent} {q3 : List Ent} {q4 : List Con'} {q5 : List Int} {q6 : List Int} {q7 : List FreeVar} {q8 : Int} {q9 : Int} {q10 : Int} {q11 : List SplitBranch} {r : Int × Int × Int × List SplitBranch} (h : e54va27467 qq p0 q1 q2 q3 q4 q5 q6 q7 q8 q9 q10 q11 = some r) : CT Tryz.prog 54 [.cells [ai q1], .cells [.mp 2 0], .cells [.sl (flat entL q2) (List.length q2) .no, .mp 3 0, .sl (flat intC q5) (List.length q5) .no, .sl (flat intC q6) (List.length q6) .no], .cells [.sl (flat entL q3) (List.length q3) .no, .sl (flat conL q4) (List.length q4) .no], .cells [.sl (flat freeVarL q7) (List.length q7) .no], .cells [ai q8], .cells [.mp 7 0], .cells [ai q9, ai q10], .cells [.ms 9 0 (List.length q11) (List.length q11) 5], .row (flat splitBranchL q11)] [ai p0, .mp 0 0, .mp 1 0, .mp 4 0, .mp 5 0, .mp 6 0, .mp 8 0] (.tup []) [.cells [ai r.1], .cells [.mp 2 0], .cells [.sl (flat entL q2) (List.length q2) .no, .mp 3 0, .sl (flat intC q5) (List.length q5) .no, .sl (flat intC q6) (List.length q6) .no], .cells [.sl (flat entL q3) (List.length q3) .no, .sl (flat conL q4) (List.length q4) .no], .cells [.sl (flat freeVarL q7) (List.length q7) .no], .cells [ai q8], .cells [.mp 7 0], .cells [ai r.2.1, ai r.2.2.1], .cells [.ms 10 0 (List.length r.2.2.2) (List.length r.2.2.2) 5], .dead, .row (flat splitBranchL r.2.2.2)] 0 := by
  unfold e54va27467 at h
  rcases spl h with ⟨h1, h⟩ | ⟨h1, h⟩
  · obtain ⟨r2, h3, h⟩ := obind h
    obtain ⟨l4, h5, h⟩ := obind h
    obtain rfl := sj h
    exact k54va27467 (tF q54va27467 1 [0, 1, 2, 3, 4, 5, 6, 7, 8, 9, 11] (oD (dSplitBranch l4) <| oD (dFreeVar q7) <| oD (dC q4) <| oD (dE q3) <| oD (dI q6) <| oD (dI q5) <| oD (dE q2) <| oM 7 (apR60 h5 (by simp)) <| oC 4 [2, 3, 7] (c55 h3) <| oB 1 h1 o0) (by kernel_rfl))
  · obtain rfl := sj h
    exact k54va27467 (tG q54va27467 0 [(some 9, 0, 0)] [0, 1, 2, 3, 4, 5, 6, 7, 8, 9, 10] [] false (oD (dSplitBranch q11) <| oD (dFreeVar q7) <| oD (dC q4) <| oD (dE q3) <| oD (dI q6) <| oD (dI q5) <| oD (dE q2) <| oB 1 h1 o0) (by kernel_rfl) (by decide))

end Go.Proofs.YtlbmblbeccafcaaGreat

namespace Go.Proofs.YtlbmblbeccafcaaGreat
open Go Go.Ab

/- scholium/split.All$1 -/
def e54va53469 (qq : Nat) (p0 : Int) (q1 : Int) (q2 : List Ent) (q3 : List Ent) (q4 : List Con') (q5 : List Int) (q6 : List Int) (q7 : List FreeVar) (q8 : Int) (q9 : Int) (q10 : Int) : Option (Int × Int × Int × List SplitBranch) :=
  if (q1 == 0) = true then
    (e55 qq (Mach.mk q2 q3 q4 q5 q6) q7 q8 p0 q9 q10) >>= fun r2 =>
    (gapp 88 ([] : List SplitBranch) [r2.1]) >>= fun l4 =>
    some (r2.2.1, r2.2.2.1, r2.2.2.2, l4)
  else
    none
theorem q54va53469 : Tryz.prog.funcs[54]? = some Tryz.f54 ∧ Tryz.f54.body.isNone = false := ⟨Tryz.func54, by kernel_rfl⟩
theorem k54va53469 {p0 : Int} {q1 : Int} {q2 : List Ent} {q3 : List Ent} {q4 : List Con'} {q5 : List Int} {q6 : List Int} {q7 : List FreeVar} {q8 : Int} {q9 : Int} {q10 : Int} {r : Int × Int × Int × List SplitBranch} (h : CTri Tryz.prog 54 [.cells [ai q1], .cells [.mp 2 0], .cells [.sl (flat entL q2) (List.length q2) .no, .mp 3 0, .sl (flat intC q5) (List.length q5) .no, .sl (flat intC q6) (List.length q6) .no], .cells [.sl (flat entL q3) (List.length q3) .no, .sl (flat conL q4) (List.length q4) .no], .cells [.sl (flat freeVarL q7) (List.length q7) .no], .cells [ai q8], .cells [.mp 7 0], .cells [ai q9, ai q10], .cells [.sl (flat splitBranchL ([] : List SplitBranch)) (List.length ([] : List SplitBranch)) .nl]] [ai p0, .mp 0 0, .mp 1 0, .mp 4 0, .mp 5 0, .mp 6 0, .mp 8 0] (.tup []) [.cells [ai r.1], .cells [.mp 2 0], .cells [.sl (flat entL q2) (List.length q2) .no, .mp 3 0, .sl (flat intC q5) (List.length q5) .no, .sl (flat intC q6) (List.length q6) .no], .cells [.sl (flat entL q3) (List.length q3) .no, .sl (flat conL q4) (List.length q4) .no], .cells [.sl (flat freeVarL q7) (List.length q7) .no], .cells [ai q8], .cells [.mp 7 0], .cells [ai r.2.1, ai r.2.2.1], .cells [.ms 9 0 (List.length r.2.2.2) (List.length r.2.2.2) 5], .row (flat splitBranchL r.2.2.2)] 0) : CT Tryz.prog 54 [.cells [ai q1], .cells [.mp 2 0], .cells [.sl (flat entL q2) (List.length q2) .no, .mp 3 0, .sl (flat intC q5) (List.length q5) .no, .sl (flat intC q6) (List.length q6) .no], .cells [.sl (flat entL q3) (List.length q3) .no, .sl (flat conL q4) (List.length q4) .no], .cells [.sl (flat freeVarL q7) (List.length q7) .no], .cells [ai q8], .cells [.mp 7 0], .cells [ai q9, ai q10], .cells [.sl (flat splitBranchL ([] : List SplitBranch)) (List.length ([] : List SplitBranch)) .nl]] [ai p0, .mp 0 0, .mp 1 0, .mp 4 0, .mp 5 0, .mp 6 0, .mp 8 0] (.tup []) [.cells [ai r.1], .cells [.mp 2 0], .cells [.sl (flat entL q2) (List.length q2) .no, .mp 3 0, .sl (flat intC q5) (List.length q5) .no, .sl (flat intC q6) (List.length q6) .no], .cells [.sl (flat entL q3) (List.length q3) .no, .sl (flat conL q4) (List.length q4) .no], .cells [.sl (flat freeVarL q7) (List.length q7) .no], .cells [ai q8], .cells [.mp 7 0], .cells [ai r.2.1, ai r.2.2.1], .cells [.ms 9 0 (List.length r.2.2.2) (List.length r.2.2.2) 5], .row (flat splitBranchL r.2.2.2)] 0 := ⟨h, ⟨trivial, (show 0 < 9 by decide), (show 1 < 9 by decide), (show 4 < 9 by decide), (show 5 < 9 by decide), (show 6 < 9 by decide), (show 8 < 9 by decide), trivial⟩, (forall_cons ⟨trivial, trivial⟩ (forall_cons ⟨(show 2 < 9 by decide), trivial⟩ (forall_cons ⟨⟨trivial, dE _⟩, (show 3 < 9 by decide), ⟨trivial, dI _⟩, ⟨trivial, dI _⟩, trivial⟩ (forall_cons ⟨⟨trivial, dE _⟩, ⟨trivial, dC _⟩, trivial⟩ (forall_cons ⟨⟨trivial, dFreeVar _⟩, trivial⟩ (forall_cons ⟨trivial, trivial⟩ (forall_cons ⟨(show 7 < 9 by decide), trivial⟩ (forall_cons ⟨trivial, trivial, trivial⟩ (forall_cons ⟨⟨trivial, dSplitBranch _⟩, trivial⟩ forall_nil))))))))), trivial, (forall_cons ⟨trivial, trivial⟩ (forall_cons ⟨(show 2 < 10 by decide), trivial⟩ (forall_cons ⟨dE _, (show 3 < 10 by decide), dI _, dI _, trivial⟩ (forall_cons ⟨dE _, dC _, trivial⟩ (forall_cons ⟨dFreeVar _, trivial⟩ (forall_cons ⟨trivial, trivial⟩ (forall_cons ⟨(show 7 < 10 by decide), trivial⟩ (forall_cons ⟨trivial, trivial, trivial⟩ (forall_cons ⟨(show 9 < 10 by decide), trivial⟩ (forall_cons (dSplitBranch _) forall_nil))))))))))⟩
theorem c54va53469 {qq : Nat} {p0 : Int} {q1 : Int} {q2 : List Ent} {q3 : List Ent} {q4 : List Con'} {q5 : List Int} {q6 : List Int} {q7 : List FreeVar} {q8 : Int} {q9 : Int} {q10 : Int} {r : Int × Int × Int × List SplitBranch} (h : e54va53469 qq p0 q1 q2 q3 q4 q5 q6 q7 q8 q9 q10 = some r) : CT Tryz.prog 54 [.cells [ai q1], .cells [.mp 2 0], .cells [.sl (flat entL q2) (List.length q2) .no, .mp 3 0, .sl (flat intC q5) (List.length q5) .no, .sl (flat intC q6) (List.length q6) .no], .cells [.sl (flat entL q3) (List.length q3) .no, .sl (flat conL q4) (List.length q4) .no], .cells [.sl (flat freeVarL q7) (List.length q7) .no], .cells [ai q8], .cells [.mp 7 0], .cells [ai q9, ai q10], .cells [.sl (flat splitBranchL ([] : List SplitBranch)) (List.length ([] : List SplitBranch)) .nl]] [ai p0, .mp 0 0, .mp 1 0, .mp 4 0, .mp 5 0, .mp 6 0, .mp 8 0] (.tup []) [.cells [ai r.1], .cells [.mp 2 0], .cells [.sl (flat entL q2) (List.length q2) .no, .mp 3 0, .sl (flat intC q5) (List.length q5) .no, .sl (flat intC q6) (List.length q6) .no], .cells [.sl (flat entL q3) (List.length q3) .no, .sl (flat conL q4) (List.length q4) .no], .cells [.sl (flat freeVarL q7) (List.length q7) .no], .cells [ai q8], .cells [.mp 7 0], .cells [ai r.2.1, ai r.2.2.1], .cells [.ms 9 0 (List.length r.2.2.2) (List.length r.2.2.2) 5], .row (flat splitBranchL r.2.2.2)] 0 := by
  unfold e54va53469 at h
  obtain ⟨h1, h⟩ := splT h
  obtain ⟨r2, h3, h⟩ := obind h
  obtain ⟨l4, h5, h⟩ := obind h
  obtain rfl := sj h
  exact k54va53469 (tF q54va53469 1 [0, 1, 2, 3, 4, 5, 6, 7, 8, 10] (oD (dSplitBranch l4) <| oD (dFreeVar q7) <| oD (dC q4) <| oD (dE q3) <| oD (dI q6) <| oD (dI q5) <| oD (dE q2) <| oM 7 (apW60 h5 (by simp)) <| oC 4 [2, 3, 7] (c55 h3) <| oB 1 h1 o0) (by kernel_rfl))

end Go.Proofs.YtlbmblbeccafcaaGreat

namespace Go.Proofs.YtlbmblbeccafcaaGreat
open Go Go.Ab

/- scholium/split.All -/
def e21L4021 : Nat → Mach → (List FreeVar) → Int → Ent → Int → Int → Int → Int → (List SplitBranch) →  Option ((List SplitBranch × Int × Int × Int) ⊕ (List SplitBranch × Int × Int × Int))
  | 0, _, _, _, _, _, _, _, _, _ => none
  | qq + 1, M, p1, p2, x4, v39, vb2_0, vb2_1, vb3_0, vb9_0 =>
    if decide (v39 < (List.length x4.cons : Int)) = true then
      (gidx x4.cons v39) >>= fun x12 =>
      (e54va27467 qq x12 vb3_0 M.l M.rl M.parts M.args M.own p1 p2 vb2_0 vb2_1 vb9_0) >>= fun r14 =>
      e21L4021 qq M p1 p2 x4 (w64 (v39 + 1)) r14.2.1 r14.2.2.1 r14.1 r14.2.2.2
    else
      if (vb3_0 != 0) = true then
        some (Sum.inl ([], vb3_0, vb2_0, vb2_1))
      else
        (gfz (List.length vb9_0) vb9_0) >>= fun l17 =>
        some (Sum.inr (l17, 0, vb2_0, vb2_1))
def e21L54356 (qq : Nat) (M : Mach) (p1 : List FreeVar) (p2 : Int) (r1 : Int × Int × Int × Int × List Ent × List FreeVar × Int × List Tm × List Tm) (x4 : Ent) (v39 : Int) : Option ((List SplitBranch × Int × Int × Int) ⊕ (List SplitBranch × Int × Int × Int)) :=
  if decide (v39 < (List.length x4.cons : Int)) = true then
    (gidx x4.cons v39) >>= fun x7 =>
    (e54va53469 qq x7 r1.2.1 M.l M.rl M.parts M.args M.own p1 p2 r1.2.2.1 r1.2.2.2.1) >>= fun r9 =>
    e21L4021 qq M p1 p2 x4 (w64 (v39 + 1)) r9.2.1 r9.2.2.1 r9.1 r9.2.2.2
  else
    none
def e21 (qq : Nat) (M : Mach) (p1 : List FreeVar) (p2 : Int) (fl : Int) (fu : Int) : Option ((List SplitBranch × Int × Int × Int) ⊕ (List SplitBranch × Int × Int × Int)) :=
  (e53 qq M p1 p2 fl fu) >>= fun r1 =>
  if (r1.2.1 != 0) = true then
    some (Sum.inl ([], r1.2.1, r1.2.2.1, r1.2.2.2.1))
  else
    (gidx r1.2.2.2.2.1 r1.1) >>= fun x4 =>
    e21L54356 qq M p1 p2 r1 x4 0
def g21L54356E0 (j : Nat → Value) (M : Mach) (p1 : List FreeVar) (p2 : Int) (r1 : Int × Int × Int × Int × List Ent × List FreeVar × Int × List Tm × List Tm) (x4 : Ent) (v39 : Int) : List AV := sp j 51 0 [(12, .mp 3 0), (13, .mp 4 0), (14, .clo 54 [] [.mp 3 0, .mp 5 0, .mp 6 0, .mp 7 0, .mp 8 0, .mp 4 0]), (37, .sl (flat intC x4.cons) (List.length x4.cons) .no), (38, ai (List.length x4.cons : Int)), (39, ai v39)]
def g21L54356S0 (M : Mach) (p1 : List FreeVar) (p2 : Int) (r1 : Int × Int × Int × Int × List Ent × List FreeVar × Int × List Tm × List Tm) (x4 : Ent) (v39 : Int) : LSt := ⟨[(0, .cells [.sl (flat entL M.l) (List.length M.l) .no, .mp 1 0, .sl (flat intC M.args) (List.length M.args) .no, .sl (flat intC M.own) (List.length M.own) .no]), (1, .cells [.sl (flat entL M.rl) (List.length M.rl) .no, .sl (flat conL M.parts) (List.length M.parts) .no]), (2, .cells [ai r1.2.2.1, ai r1.2.2.2.1]), (3, .cells [ai r1.2.1]), (4, .cells [.sl (flat splitBranchL ([] : List SplitBranch)) (List.length ([] : List SplitBranch)) .nl]), (5, .cells [.mp 0 0]), (6, .cells [.sl (flat freeVarL p1) (List.length p1) .no]), (7, .cells [ai p2]), (8, .cells [.mp 2 0])], 9, [], 0, []⟩
def g21L4021E0 (j : Nat → Value) (M : Mach) (p1 : List FreeVar) (p2 : Int) (x4 : Ent) (v39 : Int) (vb2_0 : Int) (vb2_1 : Int) (vb3_0 : Int) (vb9_0 : List SplitBranch) : List AV := sp j 51 0 [(12, .mp 3 0), (13, .mp 4 0), (14, .clo 54 [] [.mp 3 0, .mp 5 0, .mp 6 0, .mp 7 0, .mp 8 0, .mp 4 0]), (37, .sl (flat intC x4.cons) (List.length x4.cons) .no), (38, ai (List.length x4.cons : Int)), (39, ai v39)]
def g21L4021S0 (M : Mach) (p1 : List FreeVar) (p2 : Int) (x4 : Ent) (v39 : Int) (vb2_0 : Int) (vb2_1 : Int) (vb3_0 : Int) (vb9_0 : List SplitBranch) : LSt := ⟨[(0, .cells [.sl (flat entL M.l) (List.length M.l) .no, .mp 1 0, .sl (flat intC M.args) (List.length M.args) .no, .sl (flat intC M.own) (List.length M.own) .no]), (1, .cells [.sl (flat entL M.rl) (List.length M.rl) .no, .sl (flat conL M.parts) (List.length M.parts) .no]), (2, .cells [ai vb2_0, ai vb2_1]), (3, .cells [ai vb3_0]), (4, .cells [.ms 9 0 (List.length vb9_0) (List.length vb9_0) 5]), (5, .cells [.mp 0 0]), (6, .cells [.sl (flat freeVarL p1) (List.length p1) .no]), (7, .cells [ai p2]), (8, .cells [.mp 2 0]), (9, .row (flat splitBranchL vb9_0))], 10, [], 0, []⟩
theorem q21 : Tryz.prog.funcs[21]? = some Tryz.f21 ∧ Tryz.f21.body.isNone = false := ⟨Tryz.func21, by kernel_rfl⟩
theorem k21s0 {M : Mach} {p1 : List FreeVar} {p2 : Int} {fl : Int} {fu : Int} {r : List SplitBranch × Int × Int × Int} (h : CTri Tryz.prog 21 [.cells [.sl (flat entL M.l) (List.length M.l) .no, .mp 1 0, .sl (flat intC M.args) (List.length M.args) .no, .sl (flat intC M.own) (List.length M.own) .no], .cells [.sl (flat entL M.rl) (List.length M.rl) .no, .sl (flat conL M.parts) (List.length M.parts) .no], .cells [ai fl, ai fu]] [.mp 0 0, .sl (flat freeVarL p1) (List.length p1) .no, ai p2, .mp 2 0] (.tup [.sl (flat splitBranchL r.1) (List.length r.1) .no, ai r.2.1]) [.cells [.sl (flat entL M.l) (List.length M.l) .no, .mp 1 0, .sl (flat intC M.args) (List.length M.args) .no, .sl (flat intC M.own) (List.length M.own) .no], .cells [.sl (flat entL M.rl) (List.length M.rl) .no, .sl (flat conL M.parts) (List.length M.parts) .no], .cells [ai r.2.2.1, ai r.2.2.2]] 0) : CT Tryz.prog 21 [.cells [.sl (flat entL M.l) (List.length M.l) .no, .mp 1 0, .sl (flat intC M.args) (List.length M.args) .no, .sl (flat intC M.own) (List.length M.own) .no], .cells [.sl (flat entL M.rl) (List.length M.rl) .no, .sl (flat conL M.parts) (List.length M.parts) .no], .cells [ai fl, ai fu]] [.mp 0 0, .sl (flat freeVarL p1) (List.length p1) .no, ai p2, .mp 2 0] (.tup [.sl (flat splitBranchL r.1) (List.length r.1) .no, ai r.2.1]) [.cells [.sl (flat entL M.l) (List.length M.l) .no, .mp 1 0, .sl (flat intC M.args) (List.length M.args) .no, .sl (flat intC M.own) (List.length M.own) .no], .cells [.sl (flat entL M.rl) (List.length M.rl) .no, .sl (flat conL M.parts) (List.length M.parts) .no], .cells [ai r.2.2.1, ai r.2.2.2]] 0 := ⟨h, ⟨(show 0 < 3 by decide), ⟨trivial, dFreeVar _⟩, trivial, (show 2 < 3 by decide), trivial⟩, (forall_cons ⟨⟨trivial, dE _⟩, (show 1 < 3 by decide), ⟨trivial, dI _⟩, ⟨trivial, dI _⟩, trivial⟩ (forall_cons ⟨⟨trivial, dE _⟩, ⟨trivial, dC _⟩, trivial⟩ (forall_cons ⟨trivial, trivial, trivial⟩ forall_nil))), ⟨dSplitBranch _, trivial, trivial⟩, (forall_cons ⟨dE _, (show 1 < 3 by decide), dI _, dI _, trivial⟩ (forall_cons ⟨dE _, dC _, trivial⟩ (forall_cons ⟨trivial, trivial, trivial⟩ forall_nil)))⟩
theorem k21s1 {M : Mach} {p1 : List FreeVar} {p2 : Int} {fl : Int} {fu : Int} {r : List SplitBranch × Int × Int × Int} (h : CTri Tryz.prog 21 [.cells [.sl (flat entL M.l) (List.length M.l) .no, .mp 1 0, .sl (flat intC M.args) (List.length M.args) .no, .sl (flat intC M.own) (List.length M.own) .no], .cells [.sl (flat entL M.rl) (List.length M.rl) .no, .sl (flat conL M.parts) (List.length M.parts) .no], .cells [ai fl, ai fu]] [.mp 0 0, .sl (flat freeVarL p1) (List.length p1) .no, ai p2, .mp 2 0] (.tup [.ms 3 0 (List.length r.1) (List.length r.1) 5, ai r.2.1]) [.cells [.sl (flat entL M.l) (List.length M.l) .no, .mp 1 0, .sl (flat intC M.args) (List.length M.args) .no, .sl (flat intC M.own) (List.length M.own) .no], .cells [.sl (flat entL M.rl) (List.length M.rl) .no, .sl (flat conL M.parts) (List.length M.parts) .no], .cells [ai r.2.2.1, ai r.2.2.2], .row (flat splitBranchL r.1)] 0) : CT Tryz.prog 21 [.cells [.sl (flat entL M.l) (List.length M.l) .no, .mp 1 0, .sl (flat intC M.args) (List.length M.args) .no, .sl (flat intC M.own) (List.length M.own) .no], .cells [.sl (flat entL M.rl) (List.length M.rl) .no, .sl (flat conL M.parts) (List.length M.parts) .no], .cells [ai fl, ai fu]] [.mp 0 0, .sl (flat freeVarL p1) (List.length p1) .no, ai p2, .mp 2 0] (.tup [.ms 3 0 (List.length r.1) (List.length r.1) 5, ai r.2.1]) [.cells [.sl (flat entL M.l) (List.length M.l) .no, .mp 1 0, .sl (flat intC M.args) (List.length M.args) .no, .sl (flat intC M.own) (List.length M.own) .no], .cells [.sl (flat entL M.rl) (List.length M.rl) .no, .sl (flat conL M.parts) (List.length M.parts) .no], .cells [ai r.2.2.1, ai r.2.2.2], .row (flat splitBranchL r.1)] 0 := ⟨h, ⟨(show 0 < 3 by decide), ⟨trivial, dFreeVar _⟩, trivial, (show 2 < 3 by decide), trivial⟩, (forall_cons ⟨⟨trivial, dE _⟩, (show 1 < 3 by decide), ⟨trivial, dI _⟩, ⟨trivial, dI _⟩, trivial⟩ (forall_cons ⟨⟨trivial, dE _⟩, ⟨trivial, dC _⟩, trivial⟩ (forall_cons ⟨trivial, trivial, trivial⟩ forall_nil))), ⟨(show 3 < 4 by decide), trivial, trivial⟩, (forall_cons ⟨dE _, (show 1 < 4 by decide), dI _, dI _, trivial⟩ (forall_cons ⟨dE _, dC _, trivial⟩ (forall_cons ⟨trivial, trivial, trivial⟩ (forall_cons (dSplitBranch _) forall_nil))))⟩
theorem l21L4021 : ∀ qq : Nat, (∀ (M : Mach) (p1 : List FreeVar) (p2 : Int) (x4 : Ent) (v39 : Int) (vb2_0 : Int) (vb2_1 : Int) (vb3_0 : Int) (vb9_0 : List SplitBranch) (r : (List SplitBranch × Int × Int × Int) ⊕ (List SplitBranch × Int × Int × Int)), e21L4021 qq M p1 p2 x4 v39 vb2_0 vb2_1 vb3_0 vb9_0 = some r → (∀ j, Dl Tryz.prog 3 (inn (inn (rgt (lft (rgt (rgt (rgt (rgt (rgt (bod Tryz.f21)))))))))) (g21L4021E0 j M p1 p2 x4 v39 vb2_0 vb2_1 vb3_0 vb9_0) (g21L4021S0 M p1 p2 x4 v39 vb2_0 vb2_1 vb3_0 vb9_0) (frameQ Tryz.prog 3 ((match (generalizing := false) r with | Sum.inl x => FinQ Tryz.prog 3 Tryz.f21 (.tup [.sl (flat splitBranchL x.1) (List.length x.1) .no, ai x.2.1]) [.cells [.sl (flat entL M.l) (List.length M.l) .no, .mp 1 0, .sl (flat intC M.args) (List.length M.args) .no, .sl (flat intC M.own) (List.length M.own) .no], .cells [.sl (flat entL M.rl) (List.length M.rl) .no, .sl (flat conL M.parts) (List.length M.parts) .no], .cells [ai x.2.2.1, ai x.2.2.2]] 0 | Sum.inr x => FinQ Tryz.prog 3 Tryz.f21 (.tup [.ms 3 0 (List.length x.1) (List.length x.1) 5, ai x.2.1]) [.cells [.sl (flat entL M.l) (List.length M.l) .no, .mp 1 0, .sl (flat intC M.args) (List.length M.args) .no, .sl (flat intC M.own) (List.length M.own) .no], .cells [.sl (flat entL M.rl) (List.length M.rl) .no, .sl (flat conL M.parts) (List.length M.parts) .no], .cells [ai x.2.2.1, ai x.2.2.2], .row (flat splitBranchL x.1)] 0)) [.blk 0, .seq (rgt (rgt (rgt (rgt (rgt (rgt (bod Tryz.f21)))))))]))) := by
  intro qq
  induction qq with
  | zero =>
    exact fun _ _ _ _ _ _ _ _ _ _ h => nn h
  | succ qq ih =>
    intro M p1 p2 x4 v39 vb2_0 vb2_1 vb3_0 vb9_0 r h
    rw [e21L4021] at h
    rcases spl h with ⟨h11, h⟩ | ⟨h11, h⟩
    · obtain ⟨x12, h13, h⟩ := obind h
      obtain ⟨r14, h15, h⟩ := obind h
      exact fun j => lH 1 [] [0, 1, 2, 3, 4, 5, 6, 7, 8, 10] [] [12, 13, 14, 37, 38, 39] (oD (dI x4.cons) <| oD (dSplitBranch r14.2.2.2) <| oD (dFreeVar p1) <| oD (dC M.parts) <| oD (dE M.rl) <| oD (dI M.own) <| oD (dI M.args) <| oD (dE M.l) <| oC 1 [3, 5, 0, 1, 6, 7, 8, 2, 4, 9] (c54va27467 h15) <| oA 0 (ix37 (o := .no) h13) <| oB 0 h11 o0) (ih _ _ _ _ _ _ _ _ _ _ h) (fun j => by kernel_rfl)
    · have k := oB 0 h11 o0
      rcases spl h with ⟨h16, h⟩ | ⟨h16, h⟩
      · obtain rfl := sj h
        exact fun j => lF 1 [0, 1, 2] (oD (dSplitBranch ([] : List SplitBranch)) <| oD (dC M.parts) <| oD (dE M.rl) <| oD (dI M.own) <| oD (dI M.args) <| oD (dE M.l) <| oB 1 h16 k) (by kernel_rfl)
      · obtain ⟨l17, h18, h⟩ := obind h
        obtain ⟨h18a, h18b⟩ := gfz_spec h18
        obtain rfl := sj h
        obtain rfl := h18a.symm
        dsimp only
        rw [← h18b]
        exact fun j => lF 1 [0, 1, 2, 9] (oD (dSplitBranch vb9_0) <| oD (dC M.parts) <| oD (dE M.rl) <| oD (dI M.own) <| oD (dI M.args) <| oD (dE M.l) <| oB 1 h16 k) (by kernel_rfl)
theorem l21L54356 (qq : Nat) (M : Mach) (p1 : List FreeVar) (p2 : Int) (r1 : Int × Int × Int × Int × List Ent × List FreeVar × Int × List Tm × List Tm) (x4 : Ent) (v39 : Int) (r : (List SplitBranch × Int × Int × Int) ⊕ (List SplitBranch × Int × Int × Int)) (h : e21L54356 qq M p1 p2 r1 x4 v39 = some r) : (∀ j, Dl Tryz.prog 3 (inn (inn (rgt (lft (rgt (rgt (rgt (rgt (rgt (bod Tryz.f21)))))))))) (g21L54356E0 j M p1 p2 r1 x4 v39) (g21L54356S0 M p1 p2 r1 x4 v39) (frameQ Tryz.prog 3 ((match (generalizing := false) r with | Sum.inl x => FinQ Tryz.prog 3 Tryz.f21 (.tup [.sl (flat splitBranchL x.1) (List.length x.1) .no, ai x.2.1]) [.cells [.sl (flat entL M.l) (List.length M.l) .no, .mp 1 0, .sl (flat intC M.args) (List.length M.args) .no, .sl (flat intC M.own) (List.length M.own) .no], .cells [.sl (flat entL M.rl) (List.length M.rl) .no, .sl (flat conL M.parts) (List.length M.parts) .no], .cells [ai x.2.2.1, ai x.2.2.2]] 0 | Sum.inr x => FinQ Tryz.prog 3 Tryz.f21 (.tup [.ms 3 0 (List.length x.1) (List.length x.1) 5, ai x.2.1]) [.cells [.sl (flat entL M.l) (List.length M.l) .no, .mp 1 0, .sl (flat intC M.args) (List.length M.args) .no, .sl (flat intC M.own) (List.length M.own) .no], .cells [.sl (flat entL M.rl) (List.length M.rl) .no, .sl (flat conL M.parts) (List.length M.parts) .no], .cells [ai x.2.2.1, ai x.2.2.2], .row (flat splitBranchL x.1)] 0)) [.blk 0, .seq (rgt (rgt (rgt (rgt (rgt (rgt (bod Tryz.f21)))))))])) := by
  unfold e21L54356 at h
  obtain ⟨h6, h⟩ := splT h
  obtain ⟨x7, h8, h⟩ := obind h
  obtain ⟨r9, h10, h⟩ := obind h
  exact fun j => lH 1 [] [0, 1, 2, 3, 4, 5, 6, 7, 8, 9] [] [12, 13, 14, 37, 38, 39] (oD (dI x4.cons) <| oD (dSplitBranch r9.2.2.2) <| oD (dFreeVar p1) <| oD (dC M.parts) <| oD (dE M.rl) <| oD (dI M.own) <| oD (dI M.args) <| oD (dE M.l) <| oC 1 [3, 5, 0, 1, 6, 7, 8, 2, 4] (c54va53469 h10) <| oA 0 (ix37 (o := .no) h8) <| oB 0 h6 o0) (l21L4021 _ _ _ _ _ _ _ _ _ _ _ h) (fun j => by kernel_rfl)
theorem c21r {qq : Nat} {M : Mach} {p1 : List FreeVar} {p2 : Int} {fl : Int} {fu : Int} {r : (List SplitBranch × Int × Int × Int) ⊕ (List SplitBranch × Int × Int × Int)} (h : e21 qq M p1 p2 fl fu = some r) : (match (generalizing := false) r with | Sum.inl x => CT Tryz.prog 21 [.cells [.sl (flat entL M.l) (List.length M.l) .no, .mp 1 0, .sl (flat intC M.args) (List.length M.args) .no, .sl (flat intC M.own) (List.length M.own) .no], .cells [.sl (flat entL M.rl) (List.length M.rl) .no, .sl (flat conL M.parts) (List.length M.parts) .no], .cells [ai fl, ai fu]] [.mp 0 0, .sl (flat freeVarL p1) (List.length p1) .no, ai p2, .mp 2 0] (.tup [.sl (flat splitBranchL x.1) (List.length x.1) .no, ai x.2.1]) [.cells [.sl (flat entL M.l) (List.length M.l) .no, .mp 1 0, .sl (flat intC M.args) (List.length M.args) .no, .sl (flat intC M.own) (List.length M.own) .no], .cells [.sl (flat entL M.rl) (List.length M.rl) .no, .sl (flat conL M.parts) (List.length M.parts) .no], .cells [ai x.2.2.1, ai x.2.2.2]] 0 | Sum.inr x => CT Tryz.prog 21 [.cells [.sl (flat entL M.l) (List.length M.l) .no, .mp 1 0, .sl (flat intC M.args) (List.length M.args) .no, .sl (flat intC M.own) (List.length M.own) .no], .cells [.sl (flat entL M.rl) (List.length M.rl) .no, .sl (flat conL M.parts) (List.length M.parts) .no], .cells [ai fl, ai fu]] [.mp 0 0, .sl (flat freeVarL p1) (List.length p1) .no, ai p2, .mp 2 0] (.tup [.ms 3 0 (List.length x.1) (List.length x.1) 5, ai x.2.1]) [.cells [.sl (flat entL M.l) (List.length M.l) .no, .mp 1 0, .sl (flat intC M.args) (List.length M.args) .no, .sl (flat intC M.own) (List.length M.own) .no], .cells [.sl (flat entL M.rl) (List.length M.rl) .no, .sl (flat conL M.parts) (List.length M.parts) .no], .cells [ai x.2.2.1, ai x.2.2.2], .row (flat splitBranchL x.1)] 0) := by
  unfold e21 at h
  obtain ⟨r1, h2, h⟩ := obind h
  have k := oC 4 [0, 1, 2] (c53 h2) o0
  rcases spl h with ⟨h3, h⟩ | ⟨h3, h⟩
  · obtain rfl := sj h
    exact k21s0 (tF q21 1 [0, 1, 2] (oD (dSplitBranch ([] : List SplitBranch)) <| oD (dC M.parts) <| oD (dE M.rl) <| oD (dI M.own) <| oD (dI M.args) <| oD (dE M.l) <| oB 5 h3 k) (by kernel_rfl))
  · obtain ⟨x4, h5, h⟩ := obind h
    rcases r with y0 | y1
    · exact k21s0 (tH q21 2 [] [0, 1, 2, 8, 9, 3, 4, 5, 6] [] [12, 13, 14, 37, 38, 39] (oD (dI x4.cons) <| oD (dFreeVar p1) <| oD (dSplitBranch ([] : List SplitBranch)) <| oD (dC M.parts) <| oD (dE M.rl) <| oD (dI M.own) <| oD (dI M.args) <| oD (dE M.l) <| oA 1 (ix25 (o := .no) h5) <| oB 5 h3 k) (l21L54356 qq _ _ _ _ _ _ _ h) (fun j => by kernel_rfl))
    · exact k21s1 (tH q21 2 [] [0, 1, 2, 8, 9, 3, 4, 5, 6] [] [12, 13, 14, 37, 38, 39] (oD (dI x4.cons) <| oD (dFreeVar p1) <| oD (dSplitBranch ([] : List SplitBranch)) <| oD (dC M.parts) <| oD (dE M.rl) <| oD (dI M.own) <| oD (dI M.args) <| oD (dE M.l) <| oA 1 (ix25 (o := .no) h5) <| oB 5 h3 k) (l21L54356 qq _ _ _ _ _ _ _ h) (fun j => by kernel_rfl))
theorem c21 {qq : Nat} {M : Mach} {p1 : List FreeVar} {p2 : Int} {fl : Int} {fu : Int} {r : (List SplitBranch × Int × Int × Int) ⊕ (List SplitBranch × Int × Int × Int)} (h : e21 qq M p1 p2 fl fu = some r) : (match (generalizing := false) r with | Sum.inl x => CT Tryz.prog 21 [.cells [.sl (flat entL M.l) (List.length M.l) .no, .mp 1 0, .sl (flat intC M.args) (List.length M.args) .no, .sl (flat intC M.own) (List.length M.own) .no], .cells [.sl (flat entL M.rl) (List.length M.rl) .no, .sl (flat conL M.parts) (List.length M.parts) .no], .cells [ai fl, ai fu]] [.mp 0 0, .sl (flat freeVarL p1) (List.length p1) .no, ai p2, .mp 2 0] (.tup [.sl (flat splitBranchL x.1) (List.length x.1) .no, ai x.2.1]) [.cells [.sl (flat entL M.l) (List.length M.l) .no, .mp 1 0, .sl (flat intC M.args) (List.length M.args) .no, .sl (flat intC M.own) (List.length M.own) .no], .cells [.sl (flat entL M.rl) (List.length M.rl) .no, .sl (flat conL M.parts) (List.length M.parts) .no], .cells [ai x.2.2.1, ai x.2.2.2]] 0 | Sum.inr x => CT Tryz.prog 21 [.cells [.sl (flat entL M.l) (List.length M.l) .no, .mp 1 0, .sl (flat intC M.args) (List.length M.args) .no, .sl (flat intC M.own) (List.length M.own) .no], .cells [.sl (flat entL M.rl) (List.length M.rl) .no, .sl (flat conL M.parts) (List.length M.parts) .no], .cells [ai fl, ai fu]] [.mp 0 0, .sl (flat freeVarL p1) (List.length p1) .no, ai p2, .mp 2 0] (.tup [.sl (flat splitBranchL x.1) (List.length x.1) .no, ai x.2.1]) [.cells [.sl (flat entL M.l) (List.length M.l) .no, .mp 1 0, .sl (flat intC M.args) (List.length M.args) .no, .sl (flat intC M.own) (List.length M.own) .no], .cells [.sl (flat entL M.rl) (List.length M.rl) .no, .sl (flat conL M.parts) (List.length M.parts) .no], .cells [ai x.2.2.1, ai x.2.2.2]] 0) := by
  have k := c21r h
  rcases r with y0 | y1
  · exact k
  · exact CT.freeze (H1 := [.cells [.sl (flat entL M.l) (List.length M.l) .no, .mp 1 0, .sl (flat intC M.args) (List.length M.args) .no, .sl (flat intC M.own) (List.length M.own) .no], .cells [.sl (flat entL M.rl) (List.length M.rl) .no, .sl (flat conL M.parts) (List.length M.parts) .no], .cells [ai y1.2.2.1, ai y1.2.2.2]]) (cs := flat splitBranchL y1.1) (res' := (.tup [.sl (flat splitBranchL y1.1) (List.length y1.1) .no, ai y1.2.1])) k (Nat.le_of_ble_eq_true rfl) (forall_cons ⟨dE _, (show 1 < 3 by decide), dI _, dI _, trivial⟩ (forall_cons ⟨dE _, dC _, trivial⟩ (forall_cons ⟨trivial, trivial, trivial⟩ forall_nil))) (dSplitBranch _) ⟨(.inl ⟨rfl, rfl⟩), trivial, trivial⟩ (by rfl) rfl

end Go.Proofs.YtlbmblbeccafcaaGreat

namespace Go.Proofs.YtlbmblbeccafcaaGreat
open Go Go.Ab

/- scholium/split.right -/
def e88va29445 (qq : Nat) (p1 : List FreeVar) : Option (Bool) :=
  some false
theorem q88va29445 : Tryz.prog.funcs[88]? = some Tryz.f88 ∧ Tryz.f88.body.isNone = false := ⟨Tryz.func88, by kernel_rfl⟩
theorem k88va29445 {p1 : List FreeVar} {r : Bool} (h : CTri Tryz.prog 88 [] [.val (.pointer none), .sl (flat freeVarL p1) (List.length p1) .no] (ab r) [] 0) : CT Tryz.prog 88 [] [.val (.pointer none), .sl (flat freeVarL p1) (List.length p1) .no] (ab r) [] 0 := ⟨h, ⟨trivial, ⟨trivial, dFreeVar _⟩, trivial⟩, forall_nil, trivial, forall_nil⟩
theorem c88va29445 {qq : Nat} {p1 : List FreeVar} {r : Bool} (h : e88va29445 qq p1 = some r) : CT Tryz.prog 88 [] [.val (.pointer none), .sl (flat freeVarL p1) (List.length p1) .no] (ab r) [] 0 := by
  unfold e88va29445 at h
  obtain rfl := sj h
  exact k88va29445 (tF q88va29445 1 [] (o0) (by kernel_rfl))

end Go.Proofs.YtlbmblbeccafcaaGreat

namespace Go.Proofs.YtlbmblbeccafcaaGreat
open Go Go.Ab

/- scholium/split.start -/
def e53va65405 (qq : Nat) (p1 : List FreeVar) (p2 : Int) (q2 : Int) (q3 : Int) : Option (Int × Int) :=
  (e88va29445 qq p1) >>= fun r1 =>
  if r1 = true then
    none
  else
    some (0, 5)
theorem q53va65405 : Tryz.prog.funcs[53]? = some Tryz.f53 ∧ Tryz.f53.body.isNone = false := ⟨Tryz.func53, by kernel_rfl⟩
theorem k53va65405 {p1 : List FreeVar} {p2 : Int} {q2 : Int} {q3 : Int} {r : Int × Int} (h : CTri Tryz.prog 53 [.cells [ai q2, ai q3]] [.val (.pointer none), .sl (flat freeVarL p1) (List.length p1) .no, ai p2, .mp 0 0] (.tup [.val (.pointer none), ai r.1, ai r.2]) [.cells [ai q2, ai q3]] 0) : CT Tryz.prog 53 [.cells [ai q2, ai q3]] [.val (.pointer none), .sl (flat freeVarL p1) (List.length p1) .no, ai p2, .mp 0 0] (.tup [.val (.pointer none), ai r.1, ai r.2]) [.cells [ai q2, ai q3]] 0 := ⟨h, ⟨trivial, ⟨trivial, dFreeVar _⟩, trivial, (show 0 < 1 by decide), trivial⟩, (forall_cons ⟨trivial, trivial, trivial⟩ forall_nil), ⟨trivial, trivial, trivial, trivial⟩, (forall_cons ⟨trivial, trivial, trivial⟩ forall_nil)⟩
theorem c53va65405 {qq : Nat} {p1 : List FreeVar} {p2 : Int} {q2 : Int} {q3 : Int} {r : Int × Int} (h : e53va65405 qq p1 p2 q2 q3 = some r) : CT Tryz.prog 53 [.cells [ai q2, ai q3]] [.val (.pointer none), .sl (flat freeVarL p1) (List.length p1) .no, ai p2, .mp 0 0] (.tup [.val (.pointer none), ai r.1, ai r.2]) [.cells [ai q2, ai q3]] 0 := by
  unfold e53va65405 at h
  obtain ⟨r1, h2, h⟩ := obind h
  obtain ⟨h3, h⟩ := splF h
  obtain rfl := sj h
  exact k53va65405 (tF q53va65405 1 [0] (oK 0 [] h3 (c88va29445 h2) o0) (by kernel_rfl))

end Go.Proofs.YtlbmblbeccafcaaGreat

namespace Go.Proofs.YtlbmblbeccafcaaGreat
open Go Go.Ab

/- scholium/split.All -/
def e21va65405 (qq : Nat) (p1 : List FreeVar) (p2 : Int) (q2 : Int) (q3 : Int) : Option (List SplitBranch × Int) :=
  (e53va65405 qq p1 p2 q2 q3) >>= fun r1 =>
  if (r1.2 != 0) = true then
    some ([], r1.2)
  else
    none
theorem q21va65405 : Tryz.prog.funcs[21]? = some Tryz.f21 ∧ Tryz.f21.body.isNone = false := ⟨Tryz.func21, by kernel_rfl⟩
theorem k21va65405 {p1 : List FreeVar} {p2 : Int} {q2 : Int} {q3 : Int} {r : List SplitBranch × Int} (h : CTri Tryz.prog 21 [.cells [ai q2, ai q3]] [.val (.pointer none), .sl (flat freeVarL p1) (List.length p1) .no, ai p2, .mp 0 0] (.tup [.sl (flat splitBranchL r.1) (List.length r.1) .no, ai r.2]) [.cells [ai q2, ai q3]] 0) : CT Tryz.prog 21 [.cells [ai q2, ai q3]] [.val (.pointer none), .sl (flat freeVarL p1) (List.length p1) .no, ai p2, .mp 0 0] (.tup [.sl (flat splitBranchL r.1) (List.length r.1) .no, ai r.2]) [.cells [ai q2, ai q3]] 0 := ⟨h, ⟨trivial, ⟨trivial, dFreeVar _⟩, trivial, (show 0 < 1 by decide), trivial⟩, (forall_cons ⟨trivial, trivial, trivial⟩ forall_nil), ⟨dSplitBranch _, trivial, trivial⟩, (forall_cons ⟨trivial, trivial, trivial⟩ forall_nil)⟩
theorem c21va65405 {qq : Nat} {p1 : List FreeVar} {p2 : Int} {q2 : Int} {q3 : Int} {r : List SplitBranch × Int} (h : e21va65405 qq p1 p2 q2 q3 = some r) : CT Tryz.prog 21 [.cells [ai q2, ai q3]] [.val (.pointer none), .sl (flat freeVarL p1) (List.length p1) .no, ai p2, .mp 0 0] (.tup [.sl (flat splitBranchL r.1) (List.length r.1) .no, ai r.2]) [.cells [ai q2, ai q3]] 0 := by
  unfold e21va65405 at h
  obtain ⟨r1, h2, h⟩ := obind h
  have k := oC 4 [0] (c53va65405 h2) o0
  obtain ⟨h3, h⟩ := splT h
  obtain rfl := sj h
  exact k21va65405 (tF q21va65405 1 [0] (oD (dSplitBranch ([] : List SplitBranch)) <| oB 5 h3 k) (by kernel_rfl))

end Go.Proofs.YtlbmblbeccafcaaGreat

namespace Go.Proofs.YtlbmblbeccafcaaGreat
open Go Go.Ab

/- scholium/scholiumref07.Two -/
def e56 (qq : Nat) (p0 : Int) (p1 : Tm) (p2 : Tm) : Option (Tm) :=
  some (Tm.mk p0 0 [p1, p2])
theorem q56 : Tryz.prog.funcs[56]? = some Tryz.f56 ∧ Tryz.f56.body.isNone = false := ⟨Tryz.func56, by kernel_rfl⟩
theorem k56 {p0 : Int} {p1 : Tm} {p2 : Tm} {r : Tm} (h : CTri Tryz.prog 56 [] [ai p0, tmA p1, tmA p2] (tmA r) [] 0) : CT Tryz.prog 56 [] [ai p0, tmA p1, tmA p2] (tmA r) [] 0 := ⟨h, ⟨trivial, ⟨trivial, trivial, ⟨trivial, dT _⟩, trivial⟩, ⟨trivial, trivial, ⟨trivial, dT _⟩, trivial⟩, trivial⟩, forall_nil, ⟨trivial, trivial, dT _, trivial⟩, forall_nil⟩
theorem c56 {qq : Nat} {p0 : Int} {p1 : Tm} {p2 : Tm} {r : Tm} (h : e56 qq p0 p1 p2 = some r) : CT Tryz.prog 56 [] [ai p0, tmA p1, tmA p2] (tmA r) [] 0 := by
  unfold e56 at h
  obtain rfl := sj h
  exact k56 (tF q56 1 [] (oD (dT [p1, p2]) <| oS 2 (obLitR tm_eq [p1, p2]) o0) (by kernel_rfl))

end Go.Proofs.YtlbmblbeccafcaaGreat

namespace Go.Proofs.YtlbmblbeccafcaaGreat
open Go Go.Ab

/- scholium/scholiumref12.P -/
def e22 (qq : Nat) (p0 : Tm) (p1 : Tm) : Option (Tm) :=
  (e56 qq 3 p0 p1) >>= fun r1 =>
  some r1
theorem q22 : Tryz.prog.funcs[22]? = some Tryz.f22 ∧ Tryz.f22.body.isNone = false := ⟨Tryz.func22, by kernel_rfl⟩
theorem k22 {p0 : Tm} {p1 : Tm} {r : Tm} (h : CTri Tryz.prog 22 [] [tmA p0, tmA p1] (tmA r) [] 0) : CT Tryz.prog 22 [] [tmA p0, tmA p1] (tmA r) [] 0 := ⟨h, ⟨⟨trivial, trivial, ⟨trivial, dT _⟩, trivial⟩, ⟨trivial, trivial, ⟨trivial, dT _⟩, trivial⟩, trivial⟩, forall_nil, ⟨trivial, trivial, dT _, trivial⟩, forall_nil⟩
theorem c22 {qq : Nat} {p0 : Tm} {p1 : Tm} {r : Tm} (h : e22 qq p0 p1 = some r) : CT Tryz.prog 22 [] [tmA p0, tmA p1] (tmA r) [] 0 := by
  unfold e22 at h
  obtain ⟨r1, h2, h⟩ := obind h
  obtain rfl := sj h
  exact k22 (tF q22 1 [] (oD (dT r1.sub) <| oC 2 [] (c56 h2) o0) (by kernel_rfl))

end Go.Proofs.YtlbmblbeccafcaaGreat

namespace Go.Proofs.YtlbmblbeccafcaaGreat
open Go Go.Ab

/- scholium/scholiumref07.Apply -/
def e57L34202 : Nat → (List Tm) → Int → Int → Int → (List Tm) →  Option (Tm)
  | 0, _, _, _, _, _ => none
  | qq + 1, p1, v5, vb0_0, vb0_1, vb0_2 =>
    if decide (v5 < (List.length p1 : Int)) = true then
      (gidx p1 v5) >>= fun x2 =>
      (e56 qq 5 (Tm.mk vb0_0 vb0_1 vb0_2) x2) >>= fun r4 =>
      e57L34202 qq p1 (w64 (v5 + 1)) r4.k r4.n r4.sub
    else
      some (Tm.mk vb0_0 vb0_1 vb0_2)
def e57 (qq : Nat) (p0 : Tm) (p1 : List Tm) : Option (Tm) :=
  e57L34202 qq p1 0 p0.k p0.n p0.sub
def g57L34202E0 (j : Nat → Value) (p1 : List Tm) (v5 : Int) (vb0_0 : Int) (vb0_1 : Int) (vb0_2 : List Tm) : List AV := sp j 19 0 [(1, .sl (flat tmCells p1) (List.length p1) .no), (2, .mp 0 0), (4, .mp 1 0), (5, ai v5)]
def g57L34202S0 (p1 : List Tm) (v5 : Int) (vb0_0 : Int) (vb0_1 : Int) (vb0_2 : List Tm) : LSt := ⟨[(0, .cells [ai vb0_0, ai vb0_1, .sl (flat tmCells vb0_2) (List.length vb0_2) .no]), (1, .cells [ai 0, ai 0, .sl (flat tmCells ([] : List Tm)) (List.length ([] : List Tm)) .nl])], 2, [], 0, []⟩
theorem q57 : Tryz.prog.funcs[57]? = some Tryz.f57 ∧ Tryz.f57.body.isNone = false := ⟨Tryz.func57, by kernel_rfl⟩
theorem k57 {p0 : Tm} {p1 : List Tm} {r : Tm} (h : CTri Tryz.prog 57 [] [tmA p0, .sl (flat tmCells p1) (List.length p1) .no] (tmA r) [] 0) : CT Tryz.prog 57 [] [tmA p0, .sl (flat tmCells p1) (List.length p1) .no] (tmA r) [] 0 := ⟨h, ⟨⟨trivial, trivial, ⟨trivial, dT _⟩, trivial⟩, ⟨trivial, dT _⟩, trivial⟩, forall_nil, ⟨trivial, trivial, dT _, trivial⟩, forall_nil⟩
theorem l57L34202 : ∀ qq : Nat, (∀ (p1 : List Tm) (v5 : Int) (vb0_0 : Int) (vb0_1 : Int) (vb0_2 : List Tm) (r : Tm), e57L34202 qq p1 v5 vb0_0 vb0_1 vb0_2 = some r → (∀ j, Dl Tryz.prog 0 (inn (inn (rgt (lft (rgt (bod Tryz.f57)))))) (g57L34202E0 j p1 v5 vb0_0 vb0_1 vb0_2) (g57L34202S0 p1 v5 vb0_0 vb0_1 vb0_2) (frameQ Tryz.prog 0 (FinQ Tryz.prog 0 Tryz.f57 (tmA r) [] 0) [.blk 0, .seq (rgt (rgt (bod Tryz.f57)))]))) := by
  intro qq
  induction qq with
  | zero =>
    exact fun _ _ _ _ _ _ h => nn h
  | succ qq ih =>
    intro p1 v5 vb0_0 vb0_1 vb0_2 r h
    rw [e57L34202] at h
    rcases spl h with ⟨h1, h⟩ | ⟨h1, h⟩
    · obtain ⟨x2, h3, h⟩ := obind h
      obtain ⟨r4, h5, h⟩ := obind h
      exact fun j => lH 2 [] [0, 1] [] [1, 2, 4, 5] (oD (dT p1) <| oD (dT ([] : List Tm)) <| oD (dT r4.sub) <| oC 1 [] (c56 h5) <| oA 1 (ix22 (o := .no) h3) <| oB 1 h1 o0) (ih _ _ _ _ _ _ h) (fun j => by kernel_rfl)
    · obtain rfl := sj h
      exact fun j => lF 2 [] (oD (dT vb0_2) <| oB 1 h1 o0) (by kernel_rfl)
theorem c57 {qq : Nat} {p0 : Tm} {p1 : List Tm} {r : Tm} (h : e57 qq p0 p1 = some r) : CT Tryz.prog 57 [] [tmA p0, .sl (flat tmCells p1) (List.length p1) .no] (tmA r) [] 0 := by
  unfold e57 at h
  exact k57 (tH q57 0 [] [0, 1] [] [1, 2, 4, 5] (oD (dT p1) <| oD (dT ([] : List Tm)) <| oD (dT p0.sub) o0) (l57L34202 _ _ _ _ _ _ _ h) (fun j => by kernel_rfl))

end Go.Proofs.YtlbmblbeccafcaaGreat

namespace Go.Proofs.YtlbmblbeccafcaaGreat
open Go Go.Ab

/- scholium/scholiumref12.A -/
def e23 (qq : Nat) (p0 : Tm) (p1 : List Tm) : Option (Tm) :=
  (e57 qq p0 p1) >>= fun r1 =>
  some r1
theorem q23 : Tryz.prog.funcs[23]? = some Tryz.f23 ∧ Tryz.f23.body.isNone = false := ⟨Tryz.func23, by kernel_rfl⟩
theorem k23 {p0 : Tm} {p1 : List Tm} {r : Tm} (h : CTri Tryz.prog 23 [] [tmA p0, .sl (flat tmCells p1) (List.length p1) .no] (tmA r) [] 0) : CT Tryz.prog 23 [] [tmA p0, .sl (flat tmCells p1) (List.length p1) .no] (tmA r) [] 0 := ⟨h, ⟨⟨trivial, trivial, ⟨trivial, dT _⟩, trivial⟩, ⟨trivial, dT _⟩, trivial⟩, forall_nil, ⟨trivial, trivial, dT _, trivial⟩, forall_nil⟩
theorem c23 {qq : Nat} {p0 : Tm} {p1 : List Tm} {r : Tm} (h : e23 qq p0 p1 = some r) : CT Tryz.prog 23 [] [tmA p0, .sl (flat tmCells p1) (List.length p1) .no] (tmA r) [] 0 := by
  unfold e23 at h
  obtain ⟨r1, h2, h⟩ := obind h
  obtain rfl := sj h
  exact k23 (tF q23 1 [] (oD (dT r1.sub) <| oC 1 [] (c57 h2) o0) (by kernel_rfl))

end Go.Proofs.YtlbmblbeccafcaaGreat

namespace Go.Proofs.YtlbmblbeccafcaaGreat
open Go Go.Ab

/- scholium/scholiumref12.S -/
def e26 (qq : Nat) (p0 : Int) : Option (Tm) :=
  (e47 qq 2 p0) >>= fun r1 =>
  some r1
theorem q26 : Tryz.prog.funcs[26]? = some Tryz.f26 ∧ Tryz.f26.body.isNone = false := ⟨Tryz.func26, by kernel_rfl⟩
theorem k26 {p0 : Int} {r : Tm} (h : CTri Tryz.prog 26 [] [ai p0] (tmA r) [] 0) : CT Tryz.prog 26 [] [ai p0] (tmA r) [] 0 := ⟨h, ⟨trivial, trivial⟩, forall_nil, ⟨trivial, trivial, dT _, trivial⟩, forall_nil⟩
theorem c26 {qq : Nat} {p0 : Int} {r : Tm} (h : e26 qq p0 = some r) : CT Tryz.prog 26 [] [ai p0] (tmA r) [] 0 := by
  unfold e26 at h
  obtain ⟨r1, h2, h⟩ := obind h
  obtain rfl := sj h
  exact k26 (tF q26 1 [] (oD (dT r1.sub) <| oC 0 [] (c47 h2) o0) (by kernel_rfl))

end Go.Proofs.YtlbmblbeccafcaaGreat

namespace Go.Proofs.YtlbmblbeccafcaaGreat
open Go Go.Ab

/- scholium/scholiumref12.data -/
def e29 (qq : Nat) (p0 : ByteArray) (p1 : Tm) (p2 : Int) (p3 : Int) (p4 : List Int) : Option (Ent) :=
  some (Ent.mk 1 p0 p1 (Tm.mk 0 0 []) 0 0 p2 p3 0 p4 [])
theorem q29 : Tryz.prog.funcs[29]? = some Tryz.f29 ∧ Tryz.f29.body.isNone = false := ⟨Tryz.func29, by kernel_rfl⟩
theorem k29 {p0 : ByteArray} {p1 : Tm} {p2 : Int} {p3 : Int} {p4 : List Int} {r : Ent} (h : CTri Tryz.prog 29 [] [at' p0, tmA p1, ai p2, ai p3, .sl (flat intC p4) (List.length p4) .no] (entA r) [] 0) : CT Tryz.prog 29 [] [at' p0, tmA p1, ai p2, ai p3, .sl (flat intC p4) (List.length p4) .no] (entA r) [] 0 := ⟨h, ⟨trivial, ⟨trivial, trivial, ⟨trivial, dT _⟩, trivial⟩, trivial, trivial, ⟨trivial, dI _⟩, trivial⟩, forall_nil, ⟨trivial, trivial, trivial, trivial, dT _, trivial, trivial, dT _, trivial, trivial, trivial, trivial, trivial, dI _, dI _, trivial⟩, forall_nil⟩
theorem c29 {qq : Nat} {p0 : ByteArray} {p1 : Tm} {p2 : Int} {p3 : Int} {p4 : List Int} {r : Ent} (h : e29 qq p0 p1 p2 p3 p4 = some r) : CT Tryz.prog 29 [] [at' p0, tmA p1, ai p2, ai p3, .sl (flat intC p4) (List.length p4) .no] (entA r) [] 0 := by
  unfold e29 at h
  obtain rfl := sj h
  exact k29 (tF q29 2 [] (oD (dI ([] : List Int)) <| oD (dI p4) <| oD (dT ([] : List Tm)) <| oD (dT p1.sub) o0) (by kernel_rfl))

end Go.Proofs.YtlbmblbeccafcaaGreat
