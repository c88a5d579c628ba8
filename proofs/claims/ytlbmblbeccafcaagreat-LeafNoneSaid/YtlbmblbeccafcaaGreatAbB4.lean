/- Texts: AbF199 AbF143 AbF144 AbF145 AbF95 AbF58 AbF162v0 AbF162v1 AbF162vr0 AbF162vr1 AbF162 AbF163 AbF113 AbF68 AbF37 AbF11 AbF39va12063 AbF12 AbF42 AbF166 AbF168va13904 AbF342 AbF343va45641 AbF294 AbF231 AbF170va49381 AbF169va53239 AbF230va49381 AbF167va41413 AbF117 AbF74 AbF44va45810 AbF45va45810 AbF45va8026 AbF13 AbF13va15441 AbF14 AbF7 AbF47 AbF16 AbF56 AbF22 AbF57 AbF23 AbF26 AbF29 AbF30 AbF31 AbF64 AbF32 AbF33 AbF34 AbF9 AbF8 AbF3 -/
import Derived.Test.YtlbmblbeccafcaaGreatAbB3
set_option linter.unusedVariables false
set_option linter.unusedSimpArgs false

namespace Go.Proofs.YtlbmblbeccafcaaGreat
open Go Go.Ab

/- scholium/sign.applied -/
def e199L58991 : Nat → Int → Int → (Tm × List Tm) → Int →  Option (Bool)
  | 0, _, _, _, _ => none
  | qq + 1, p2, p4, r1, v37 =>
    if decide (v37 < p2) = true then
      (gidx r1.2 v37) >>= fun x7 =>
      if (x7.k != 1) = true then
        none
      else
        if (x7.n != (w64 ((w64 (p4 - 1)) - v37))) = true then
          none
        else
          e199L58991 qq p2 p4 r1 (w64 (v37 + 1))
    else
      some true
def e199 (qq : Nat) (p0 : Tm) (p1 : Int) (p2 : Int) (p3 : Int) (p4 : Int) : Option (Bool) :=
  (e106 qq p0) >>= fun r1 =>
  if (r1.1.k != 6) = true then
    none
  else
    if (r1.1.n != p1) = true then
      none
    else
      if ((List.length r1.2 : Int) != (w64 (p2 + p3))) = true then
        none
      else
        e199L58991 qq p2 p4 r1 0
def g199L58991E0 (j : Nat → Value) (p2 : Int) (p4 : Int) (r1 : Tm × List Tm) (v37 : Int) : List AV := sp j 59 0 [(4, ai p4), (12, .sl (flat tmCells r1.2) (List.length r1.2) .no), (36, ai p2), (37, ai v37)]
def g199L58991S0 (p2 : Int) (p4 : Int) (r1 : Tm × List Tm) (v37 : Int) : LSt := ⟨[], 0, [], 0, []⟩
theorem q199 : Tryz.prog.funcs[199]? = some Tryz.f199 ∧ Tryz.f199.body.isNone = false := ⟨Tryz.func199, by kernel_rfl⟩
theorem k199 {p0 : Tm} {p1 : Int} {p2 : Int} {p3 : Int} {p4 : Int} {r : Bool} (h : CTri Tryz.prog 199 [] [tmA p0, ai p1, ai p2, ai p3, ai p4] (ab r) [] 0) : CT Tryz.prog 199 [] [tmA p0, ai p1, ai p2, ai p3, ai p4] (ab r) [] 0 := ⟨h, ⟨⟨trivial, trivial, ⟨trivial, dT _⟩, trivial⟩, trivial, trivial, trivial, trivial, trivial⟩, forall_nil, trivial, forall_nil⟩
theorem l199L58991 : ∀ qq : Nat, (∀ (p2 : Int) (p4 : Int) (r1 : Tm × List Tm) (v37 : Int) (r : Bool), e199L58991 qq p2 p4 r1 v37 = some r → (∀ j, Dl Tryz.prog 0 (inn (inn (rgt (lft (rgt (rgt (rgt (bod Tryz.f199)))))))) (g199L58991E0 j p2 p4 r1 v37) (g199L58991S0 p2 p4 r1 v37) (frameQ Tryz.prog 0 (FinQ Tryz.prog 0 Tryz.f199 (ab r) [] 0) [.blk 0, .seq (rgt (rgt (rgt (rgt (bod Tryz.f199)))))]))) := by
  intro qq
  induction qq with
  | zero =>
    exact fun _ _ _ _ _ h => nn h
  | succ qq ih =>
    intro p2 p4 r1 v37 r h
    rw [e199L58991] at h
    rcases spl h with ⟨h6, h⟩ | ⟨h6, h⟩
    · obtain ⟨x7, h8, h⟩ := obind h
      have k := oA 0 (ix22 (o := .no) h8) <| oB 0 h6 o0
      obtain ⟨h9, h⟩ := splF h
      have k := oA 0 (ix22 (o := .no) h8) <| oB 1 h9 k
      obtain ⟨h10, h⟩ := splF h
      exact fun j => lH 1 [] [] [] [4, 12, 36, 37] (oD (dT r1.2) <| oB 3 h10 k) (ih _ _ _ _ _ h) (fun j => by kernel_rfl)
    · obtain rfl := sj h
      exact fun j => lF 0 [] (oB 0 h6 o0) (by kernel_rfl)
theorem c199 {qq : Nat} {p0 : Tm} {p1 : Int} {p2 : Int} {p3 : Int} {p4 : Int} {r : Bool} (h : e199 qq p0 p1 p2 p3 p4 = some r) : CT Tryz.prog 199 [] [tmA p0, ai p1, ai p2, ai p3, ai p4] (ab r) [] 0 := by
  unfold e199 at h
  obtain ⟨r1, h2, h⟩ := obind h
  have k := oC 1 [] (c106 h2) o0
  obtain ⟨h3, h⟩ := splF h
  have k := oB 4 h3 k
  obtain ⟨h4, h⟩ := splF h
  have k := oB 1 h4 k
  obtain ⟨h5, h⟩ := splF h
  exact k199 (tH q199 0 [] [] [] [4, 12, 36, 37] (oD (dT r1.2) <| oB 2 h5 k) (l199L58991 _ _ _ _ _ _ h) (fun j => by kernel_rfl))
theorem mm199L58991 : ∀ qq : Nat, (∀ (p2 : Int) (p4 : Int) (r1 : Tm × List Tm) (v37 : Int) (r : Bool), e199L58991 qq p2 p4 r1 v37 = some r → e199L58991 (qq + 1) p2 p4 r1 v37 = some r) := by
  intro qq
  induction qq with
  | zero => exact fun _ _ _ _ _ h => nn h
  | succ qq ih =>
    have ih199L58991 := ih
    intro p2 p4 r1 v37 r h
    rw [e199L58991] at h ⊢
    rcases spl h with ⟨k, h⟩ | ⟨k, h⟩
    · rw [ifTe k]
      obtain ⟨x7, hx, h⟩ := obind h
      refine obk hx ?_
      obtain ⟨k, h⟩ := splF h
      rw [ifFe k]
      obtain ⟨k, h⟩ := splF h
      rw [ifFe k]
      exact ih199L58991 _ _ _ _ _ h
    · rw [ifFe k]
      exact h
theorem m199L58991 {qq : Nat} {p2 : Int} {p4 : Int} {r1 : Tm × List Tm} {v37 : Int} {r : Bool} (h : e199L58991 qq p2 p4 r1 v37 = some r) : e199L58991 (qq + 1) p2 p4 r1 v37 = some r := mm199L58991 _ _ _ _ _ _ h
theorem m199 {qq : Nat} {p0 : Tm} {p1 : Int} {p2 : Int} {p3 : Int} {p4 : Int} {r : Bool} (h : e199 qq p0 p1 p2 p3 p4 = some r) : e199 (qq + 1) p0 p1 p2 p3 p4 = some r := by
  unfold e199 at h ⊢
  obtain ⟨r1, hx, h⟩ := obind h
  refine obk (m106 hx) ?_
  obtain ⟨k, h⟩ := splF h
  rw [ifFe k]
  obtain ⟨k, h⟩ := splF h
  rw [ifFe k]
  obtain ⟨k, h⟩ := splF h
  rw [ifFe k]
  exact m199L58991 h

end Go.Proofs.YtlbmblbeccafcaaGreat

namespace Go.Proofs.YtlbmblbeccafcaaGreat
open Go Go.Ab

/- scholium/sign.con -/
def e143 (qq : Nat) (p0 : List Ent) (p1 : Int) : Option (Bool) :=
  (gidx p0 p1) >>= fun x1 =>
  (e103 qq x1.type) >>= fun r3 =>
  (e198 qq p0 p1) >>= fun r5 =>
  if r5 = true then
    if (r3.2.2 == 0) = true then
      if decide ((List.length r3.1 : Int) ≥ x1.pars) = true then
        (gidx p0 x1.fam) >>= fun x10 =>
        (e199 qq r3.2.1 x1.fam x1.pars x10.inds (List.length r3.1 : Int)) >>= fun r12 =>
        some r12
      else
        none
    else
      none
  else
    none
theorem q143 : Tryz.prog.funcs[143]? = some Tryz.f143 ∧ Tryz.f143.body.isNone = false := ⟨Tryz.func143, by kernel_rfl⟩
theorem k143 {p0 : List Ent} {p1 : Int} {r : Bool} (h : CTri Tryz.prog 143 [] [.sl (flat entL p0) (List.length p0) .no, ai p1] (ab r) [] 0) : CT Tryz.prog 143 [] [.sl (flat entL p0) (List.length p0) .no, ai p1] (ab r) [] 0 := ⟨h, ⟨⟨trivial, dE _⟩, trivial, trivial⟩, forall_nil, trivial, forall_nil⟩
theorem c143 {qq : Nat} {p0 : List Ent} {p1 : Int} {r : Bool} (h : e143 qq p0 p1 = some r) : CT Tryz.prog 143 [] [.sl (flat entL p0) (List.length p0) .no, ai p1] (ab r) [] 0 := by
  unfold e143 at h
  obtain ⟨x1, h2, h⟩ := obind h
  obtain ⟨r3, h4, h⟩ := obind h
  obtain ⟨r5, h6, h⟩ := obind h
  have k := oC 1 [] (c103 h4) <| oA 0 (ix25 (o := .no) h2) o0
  obtain ⟨h7, h⟩ := splT h
  have k := oK 4 [] h7 (c198 h6) k
  obtain ⟨h8, h⟩ := splT h
  have k := oA 1 (ix25 (o := .no) h2) <| oB 0 h8 k
  obtain ⟨h9, h⟩ := splT h
  obtain ⟨x10, h11, h⟩ := obind h
  obtain ⟨r12, h13, h⟩ := obind h
  obtain rfl := sj h
  exact k143 (tF q143 0 [] (oC 2 [] (c199 h13) <| oA 1 (ix25 (o := .no) h11) <| oA 1 (ix25 (o := .no) h2) <| oA 1 (ix25 (o := .no) h2) <| oA 1 (ix25 (o := .no) h2) <| oB 1 h9 k) (by kernel_rfl))
theorem m143 {qq : Nat} {p0 : List Ent} {p1 : Int} {r : Bool} (h : e143 qq p0 p1 = some r) : e143 (qq + 1) p0 p1 = some r := by
  unfold e143 at h ⊢
  obtain ⟨x1, hx, h⟩ := obind h
  refine obk hx ?_
  obtain ⟨r3, hx, h⟩ := obind h
  refine obk (m103 hx) ?_
  obtain ⟨r5, hx, h⟩ := obind h
  refine obk (m198 hx) ?_
  obtain ⟨k, h⟩ := splT h
  rw [ifTe k]
  obtain ⟨k, h⟩ := splT h
  rw [ifTe k]
  obtain ⟨k, h⟩ := splT h
  rw [ifTe k]
  obtain ⟨x10, hx, h⟩ := obind h
  refine obk hx ?_
  obtain ⟨r12, hx, h⟩ := obind h
  refine obk (m199 hx) ?_
  exact h

end Go.Proofs.YtlbmblbeccafcaaGreat

namespace Go.Proofs.YtlbmblbeccafcaaGreat
open Go Go.Ab

/- scholium/sign.proj -/
def e144 (qq : Nat) (p0 : List Ent) (p1 : Int) : Option (Bool) :=
  (e198 qq p0 p1) >>= fun r1 =>
  if r1 = true then
    (gidx p0 p1) >>= fun x4 =>
    (e97 qq x4.type (w64 (x4.pars + 1))) >>= fun r6 =>
    if (r6.2.2 == 0) = true then
      (gidx r6.1 x4.pars) >>= fun x9 =>
      (e199 qq x9 x4.fam x4.pars 0 x4.pars) >>= fun r11 =>
      some r11
    else
      none
  else
    none
theorem q144 : Tryz.prog.funcs[144]? = some Tryz.f144 ∧ Tryz.f144.body.isNone = false := ⟨Tryz.func144, by kernel_rfl⟩
theorem k144 {p0 : List Ent} {p1 : Int} {r : Bool} (h : CTri Tryz.prog 144 [] [.sl (flat entL p0) (List.length p0) .no, ai p1] (ab r) [] 0) : CT Tryz.prog 144 [] [.sl (flat entL p0) (List.length p0) .no, ai p1] (ab r) [] 0 := ⟨h, ⟨⟨trivial, dE _⟩, trivial, trivial⟩, forall_nil, trivial, forall_nil⟩
theorem c144 {qq : Nat} {p0 : List Ent} {p1 : Int} {r : Bool} (h : e144 qq p0 p1 = some r) : CT Tryz.prog 144 [] [.sl (flat entL p0) (List.length p0) .no, ai p1] (ab r) [] 0 := by
  unfold e144 at h
  obtain ⟨r1, h2, h⟩ := obind h
  obtain ⟨h3, h⟩ := splT h
  obtain ⟨x4, h5, h⟩ := obind h
  obtain ⟨r6, h7, h⟩ := obind h
  have k := oC 2 [] (c97 h7) <| oA 1 (ix25 (o := .no) h5) <| oA 1 (ix25 (o := .no) h5) <| oK 0 [] h3 (c198 h2) o0
  obtain ⟨h8, h⟩ := splT h
  obtain ⟨x9, h10, h⟩ := obind h
  obtain ⟨r11, h12, h⟩ := obind h
  obtain rfl := sj h
  exact k144 (tF q144 0 [] (oC 1 [] (c199 h12) <| oA 1 (ix25 (o := .no) h5) <| oA 1 (ix25 (o := .no) h5) <| oA 1 (ix25 (o := .no) h5) <| oA 1 (ix22 (o := .no) h10) <| oA 0 (ix25 (o := .no) h5) <| oB 4 h8 k) (by kernel_rfl))
theorem m144 {qq : Nat} {p0 : List Ent} {p1 : Int} {r : Bool} (h : e144 qq p0 p1 = some r) : e144 (qq + 1) p0 p1 = some r := by
  unfold e144 at h ⊢
  obtain ⟨r1, hx, h⟩ := obind h
  refine obk (m198 hx) ?_
  obtain ⟨k, h⟩ := splT h
  rw [ifTe k]
  obtain ⟨x4, hx, h⟩ := obind h
  refine obk hx ?_
  obtain ⟨r6, hx, h⟩ := obind h
  refine obk (m97 hx) ?_
  obtain ⟨k, h⟩ := splT h
  rw [ifTe k]
  obtain ⟨x9, hx, h⟩ := obind h
  refine obk hx ?_
  obtain ⟨r11, hx, h⟩ := obind h
  refine obk (m199 hx) ?_
  exact h

end Go.Proofs.YtlbmblbeccafcaaGreat

namespace Go.Proofs.YtlbmblbeccafcaaGreat
open Go Go.Ab

/- scholium/sign.def -/
def e145 (qq : Nat) (p0 : List Ent) (p1 : Int) : Option (Bool) :=
  (gidx p0 p1) >>= fun x1 =>
  (e141 qq x1.body p1) >>= fun r3 =>
  if r3 = true then
    if (x1.fam == 0) = true then
      if (x1.place == 0) = true then
        if (x1.pars == 0) = true then
          if (x1.inds == 0) = true then
            if (x1.level == 0) = true then
              some ((w64 ((List.length x1.cons : Int) + (List.length x1.fields : Int))) == 0)
            else
              none
          else
            none
        else
          none
      else
        none
    else
      none
  else
    none
theorem q145 : Tryz.prog.funcs[145]? = some Tryz.f145 ∧ Tryz.f145.body.isNone = false := ⟨Tryz.func145, by kernel_rfl⟩
theorem k145 {p0 : List Ent} {p1 : Int} {r : Bool} (h : CTri Tryz.prog 145 [] [.sl (flat entL p0) (List.length p0) .no, ai p1] (ab r) [] 0) : CT Tryz.prog 145 [] [.sl (flat entL p0) (List.length p0) .no, ai p1] (ab r) [] 0 := ⟨h, ⟨⟨trivial, dE _⟩, trivial, trivial⟩, forall_nil, trivial, forall_nil⟩
theorem c145 {qq : Nat} {p0 : List Ent} {p1 : Int} {r : Bool} (h : e145 qq p0 p1 = some r) : CT Tryz.prog 145 [] [.sl (flat entL p0) (List.length p0) .no, ai p1] (ab r) [] 0 := by
  unfold e145 at h
  obtain ⟨x1, h2, h⟩ := obind h
  obtain ⟨r3, h4, h⟩ := obind h
  have k := oA 0 (ix25 (o := .no) h2) o0
  obtain ⟨h5, h⟩ := splT h
  have k := oK 3 [] h5 (c141 h4) k
  obtain ⟨h6, h⟩ := splT h
  have k := oB 1 h6 k
  obtain ⟨h7, h⟩ := splT h
  have k := oB 1 h7 k
  obtain ⟨h8, h⟩ := splT h
  have k := oB 1 h8 k
  obtain ⟨h9, h⟩ := splT h
  have k := oB 1 h9 k
  obtain ⟨h10, h⟩ := splT h
  obtain rfl := sj h
  exact k145 (tF q145 6 [] (oB 1 h10 k) (by kernel_rfl))
theorem m145 {qq : Nat} {p0 : List Ent} {p1 : Int} {r : Bool} (h : e145 qq p0 p1 = some r) : e145 (qq + 1) p0 p1 = some r := by
  unfold e145 at h ⊢
  obtain ⟨x1, hx, h⟩ := obind h
  refine obk hx ?_
  obtain ⟨r3, hx, h⟩ := obind h
  refine obk (m141 hx) ?_
  obtain ⟨k, h⟩ := splT h
  rw [ifTe k]
  obtain ⟨k, h⟩ := splT h
  rw [ifTe k]
  obtain ⟨k, h⟩ := splT h
  rw [ifTe k]
  obtain ⟨k, h⟩ := splT h
  rw [ifTe k]
  obtain ⟨k, h⟩ := splT h
  rw [ifTe k]
  obtain ⟨k, h⟩ := splT h
  rw [ifTe k]
  exact h

end Go.Proofs.YtlbmblbeccafcaaGreat

namespace Go.Proofs.YtlbmblbeccafcaaGreat
open Go Go.Ab

/- scholium/sign.entry -/
def e95 (qq : Nat) (p0 : List Ent) (p1 : Int) : Option (Bool) :=
  (gidx p0 p1) >>= fun x1 =>
  (e140 qq x1.name) >>= fun r3 =>
  if r3 = true then
    (e141 qq x1.type p1) >>= fun r6 =>
    if r6 = true then
      if (x1.kind == 1) = true then
        (e142 qq p0 p1) >>= fun r10 =>
        some r10
      else
        if (x1.kind == 2) = true then
          (e143 qq p0 p1) >>= fun r13 =>
          some r13
        else
          if (x1.kind == 4) = true then
            (e144 qq p0 p1) >>= fun r16 =>
            some r16
          else
            if (x1.kind == 3) = true then
              (e145 qq p0 p1) >>= fun r19 =>
              some r19
            else
              none
    else
      none
  else
    none
theorem q95 : Tryz.prog.funcs[95]? = some Tryz.f95 ∧ Tryz.f95.body.isNone = false := ⟨Tryz.func95, by kernel_rfl⟩
theorem k95 {p0 : List Ent} {p1 : Int} {r : Bool} (h : CTri Tryz.prog 95 [] [.sl (flat entL p0) (List.length p0) .no, ai p1] (ab r) [] 0) : CT Tryz.prog 95 [] [.sl (flat entL p0) (List.length p0) .no, ai p1] (ab r) [] 0 := ⟨h, ⟨⟨trivial, dE _⟩, trivial, trivial⟩, forall_nil, trivial, forall_nil⟩
theorem c95 {qq : Nat} {p0 : List Ent} {p1 : Int} {r : Bool} (h : e95 qq p0 p1 = some r) : CT Tryz.prog 95 [] [.sl (flat entL p0) (List.length p0) .no, ai p1] (ab r) [] 0 := by
  unfold e95 at h
  obtain ⟨x1, h2, h⟩ := obind h
  obtain ⟨r3, h4, h⟩ := obind h
  have k := oA 0 (ix25 (o := .no) h2) o0
  obtain ⟨h5, h⟩ := splT h
  obtain ⟨r6, h7, h⟩ := obind h
  have k := oA 1 (ix25 (o := .no) h2) <| oK 1 [] h5 (c140 h4) k
  obtain ⟨h8, h⟩ := splT h
  have k := oA 1 (ix25 (o := .no) h2) <| oK 1 [] h8 (c141 h7) k
  rcases spl h with ⟨h9, h⟩ | ⟨h9, h⟩
  · obtain ⟨r10, h11, h⟩ := obind h
    obtain rfl := sj h
    exact k95 (tF q95 0 [] (oC 0 [] (c142 h11) <| oB 1 h9 k) (by kernel_rfl))
  · have k := oB 1 h9 k
    rcases spl h with ⟨h12, h⟩ | ⟨h12, h⟩
    · obtain ⟨r13, h14, h⟩ := obind h
      obtain rfl := sj h
      exact k95 (tF q95 0 [] (oC 0 [] (c143 h14) <| oB 0 h12 k) (by kernel_rfl))
    · have k := oB 0 h12 k
      rcases spl h with ⟨h15, h⟩ | ⟨h15, h⟩
      · obtain ⟨r16, h17, h⟩ := obind h
        obtain rfl := sj h
        exact k95 (tF q95 0 [] (oC 0 [] (c144 h17) <| oB 0 h15 k) (by kernel_rfl))
      · have k := oB 0 h15 k
        obtain ⟨h18, h⟩ := splT h
        obtain ⟨r19, h20, h⟩ := obind h
        obtain rfl := sj h
        exact k95 (tF q95 0 [] (oC 0 [] (c145 h20) <| oB 0 h18 k) (by kernel_rfl))
theorem m95 {qq : Nat} {p0 : List Ent} {p1 : Int} {r : Bool} (h : e95 qq p0 p1 = some r) : e95 (qq + 1) p0 p1 = some r := by
  unfold e95 at h ⊢
  obtain ⟨x1, hx, h⟩ := obind h
  refine obk hx ?_
  obtain ⟨r3, hx, h⟩ := obind h
  refine obk (m140 hx) ?_
  obtain ⟨k, h⟩ := splT h
  rw [ifTe k]
  obtain ⟨r6, hx, h⟩ := obind h
  refine obk (m141 hx) ?_
  obtain ⟨k, h⟩ := splT h
  rw [ifTe k]
  rcases spl h with ⟨k, h⟩ | ⟨k, h⟩
  · rw [ifTe k]
    obtain ⟨r10, hx, h⟩ := obind h
    refine obk (m142 hx) ?_
    exact h
  · rw [ifFe k]
    rcases spl h with ⟨k, h⟩ | ⟨k, h⟩
    · rw [ifTe k]
      obtain ⟨r13, hx, h⟩ := obind h
      refine obk (m143 hx) ?_
      exact h
    · rw [ifFe k]
      rcases spl h with ⟨k, h⟩ | ⟨k, h⟩
      · rw [ifTe k]
        obtain ⟨r16, hx, h⟩ := obind h
        refine obk (m144 hx) ?_
        exact h
      · rw [ifFe k]
        obtain ⟨k, h⟩ := splT h
        rw [ifTe k]
        obtain ⟨r19, hx, h⟩ := obind h
        refine obk (m145 hx) ?_
        exact h

end Go.Proofs.YtlbmblbeccafcaaGreat

namespace Go.Proofs.YtlbmblbeccafcaaGreat
open Go Go.Ab

/- scholium/sign.Formed -/
def e58L39192 : Nat → (List Ent) → Int →  Option (Bool)
  | 0, _, _ => none
  | qq + 1, p0, v15 =>
    if decide (v15 < (List.length p0 : Int)) = true then
      (e95 qq p0 v15) >>= fun r8 =>
      if r8 = true then
        e58L39192 qq p0 (w64 (v15 + 1))
      else
        none
    else
      some true
def e58 (qq : Nat) (p0 : List Ent) : Option (Bool) :=
  if decide ((List.length p0 : Int) > 256) = true then
    none
  else
    (e94 qq p0) >>= fun r2 =>
    (e93 qq r2) >>= fun r4 =>
    if r4 = true then
      e58L39192 qq p0 0
    else
      none
def g58L39192E0 (j : Nat → Value) (p0 : List Ent) (v15 : Int) : List AV := sp j 23 0 [(0, .sl (flat entL p0) (List.length p0) .no), (14, ai (List.length p0 : Int)), (15, ai v15)]
def g58L39192S0 (p0 : List Ent) (v15 : Int) : LSt := ⟨[], 0, [], 0, []⟩
theorem q58 : Tryz.prog.funcs[58]? = some Tryz.f58 ∧ Tryz.f58.body.isNone = false := ⟨Tryz.func58, by kernel_rfl⟩
theorem k58 {p0 : List Ent} {r : Bool} (h : CTri Tryz.prog 58 [] [.sl (flat entL p0) (List.length p0) .no] (ab r) [] 0) : CT Tryz.prog 58 [] [.sl (flat entL p0) (List.length p0) .no] (ab r) [] 0 := ⟨h, ⟨⟨trivial, dE _⟩, trivial⟩, forall_nil, trivial, forall_nil⟩
theorem l58L39192 : ∀ qq : Nat, (∀ (p0 : List Ent) (v15 : Int) (r : Bool), e58L39192 qq p0 v15 = some r → (∀ j, Dl Tryz.prog 0 (inn (inn (rgt (lft (rgt (rgt (bod Tryz.f58))))))) (g58L39192E0 j p0 v15) (g58L39192S0 p0 v15) (frameQ Tryz.prog 0 (FinQ Tryz.prog 0 Tryz.f58 (ab r) [] 0) [.blk 0, .seq (rgt (rgt (rgt (bod Tryz.f58))))]))) := by
  intro qq
  induction qq with
  | zero =>
    exact fun _ _ _ h => nn h
  | succ qq ih =>
    intro p0 v15 r h
    rw [e58L39192] at h
    rcases spl h with ⟨h7, h⟩ | ⟨h7, h⟩
    · obtain ⟨r8, h9, h⟩ := obind h
      have k := oB 0 h7 o0
      obtain ⟨h10, h⟩ := splT h
      exact fun j => lH 2 [] [] [] [0, 14, 15] (oD (dE p0) <| oK 0 [] h10 (c95 h9) k) (ih _ _ _ h) (fun j => by kernel_rfl)
    · obtain rfl := sj h
      exact fun j => lF 0 [] (oB 0 h7 o0) (by kernel_rfl)
theorem c58 {qq : Nat} {p0 : List Ent} {r : Bool} (h : e58 qq p0 = some r) : CT Tryz.prog 58 [] [.sl (flat entL p0) (List.length p0) .no] (ab r) [] 0 := by
  unfold e58 at h
  obtain ⟨h1, h⟩ := splF h
  obtain ⟨r2, h3, h⟩ := obind h
  obtain ⟨r4, h5, h⟩ := obind h
  have k := oC 0 [] (c94 h3) <| oB 1 h1 o0
  obtain ⟨h6, h⟩ := splT h
  exact k58 (tH q58 2 [] [] [] [0, 14, 15] (oD (dE p0) <| oK 0 [] h6 (c93 h5) k) (l58L39192 _ _ _ _ h) (fun j => by kernel_rfl))
theorem mm58L39192 : ∀ qq : Nat, (∀ (p0 : List Ent) (v15 : Int) (r : Bool), e58L39192 qq p0 v15 = some r → e58L39192 (qq + 1) p0 v15 = some r) := by
  intro qq
  induction qq with
  | zero => exact fun _ _ _ h => nn h
  | succ qq ih =>
    have ih58L39192 := ih
    intro p0 v15 r h
    rw [e58L39192] at h ⊢
    rcases spl h with ⟨k, h⟩ | ⟨k, h⟩
    · rw [ifTe k]
      obtain ⟨r8, hx, h⟩ := obind h
      refine obk (m95 hx) ?_
      obtain ⟨k, h⟩ := splT h
      rw [ifTe k]
      exact ih58L39192 _ _ _ h
    · rw [ifFe k]
      exact h
theorem m58L39192 {qq : Nat} {p0 : List Ent} {v15 : Int} {r : Bool} (h : e58L39192 qq p0 v15 = some r) : e58L39192 (qq + 1) p0 v15 = some r := mm58L39192 _ _ _ _ h
theorem m58 {qq : Nat} {p0 : List Ent} {r : Bool} (h : e58 qq p0 = some r) : e58 (qq + 1) p0 = some r := by
  unfold e58 at h ⊢
  obtain ⟨k, h⟩ := splF h
  rw [ifFe k]
  obtain ⟨r2, hx, h⟩ := obind h
  refine obk (m94 hx) ?_
  obtain ⟨r4, hx, h⟩ := obind h
  refine obk (m93 hx) ?_
  obtain ⟨k, h⟩ := splT h
  rw [ifTe k]
  exact m58L39192 h

end Go.Proofs.YtlbmblbeccafcaaGreat

namespace Go.Proofs.YtlbmblbeccafcaaGreat
open Go Go.Ab

/- slices.Clone(()scholium/api.Term,scholium/api.Term) -/
def e162v0 (qq : Nat) (p0 : List Tm) : Option (List Tm) :=
  some []
theorem q162v0 : Tryz.prog.funcs[162]? = some Tryz.f162 ∧ Tryz.f162.body.isNone = false := ⟨Tryz.func162, by kernel_rfl⟩
theorem k162v0 {p0 : List Tm} {r : List Tm} (h : CTri Tryz.prog 162 [] [.sl (flat tmCells p0) (List.length p0) .nl] (.sl (flat tmCells r) (List.length r) .no) [] 0) : CT Tryz.prog 162 [] [.sl (flat tmCells p0) (List.length p0) .nl] (.sl (flat tmCells r) (List.length r) .no) [] 0 := ⟨h, ⟨⟨trivial, dT _⟩, trivial⟩, forall_nil, dT _, forall_nil⟩
theorem c162v0 {qq : Nat} {p0 : List Tm} {r : List Tm} (h : e162v0 qq p0 = some r) : CT Tryz.prog 162 [] [.sl (flat tmCells p0) (List.length p0) .nl] (.sl (flat tmCells r) (List.length r) .no) [] 0 := by
  unfold e162v0 at h
  obtain rfl := sj h
  exact k162v0 (tF q162v0 1 [] (oD (dT ([] : List Tm)) o0) (by kernel_rfl))
theorem m162v0 {qq : Nat} {p0 : List Tm} {r : List Tm} (h : e162v0 qq p0 = some r) : e162v0 (qq + 1) p0 = some r := by
  unfold e162v0 at h ⊢
  exact h

end Go.Proofs.YtlbmblbeccafcaaGreat

namespace Go.Proofs.YtlbmblbeccafcaaGreat
open Go Go.Ab

/- slices.Clone(()scholium/api.Term,scholium/api.Term) -/
def e162v1 (qq : Nat) (p0 : List Tm) : Option (List Tm) :=
  (gapp 40 ([] : List Tm) p0) >>= fun l1 =>
  some l1
theorem q162v1 : Tryz.prog.funcs[162]? = some Tryz.f162 ∧ Tryz.f162.body.isNone = false := ⟨Tryz.func162, by kernel_rfl⟩
theorem k162v1 {p0 : List Tm} {r : List Tm} (h : CTri Tryz.prog 162 [] [.sl (flat tmCells p0) (List.length p0) .nn] (.sl (flat tmCells r) (List.length r) .no) [] 0) : CT Tryz.prog 162 [] [.sl (flat tmCells p0) (List.length p0) .nn] (.sl (flat tmCells r) (List.length r) .no) [] 0 := ⟨h, ⟨⟨trivial, dT _⟩, trivial⟩, forall_nil, dT _, forall_nil⟩
theorem c162v1 {qq : Nat} {p0 : List Tm} {r : List Tm} (h : e162v1 qq p0 = some r) : CT Tryz.prog 162 [] [.sl (flat tmCells p0) (List.length p0) .nn] (.sl (flat tmCells r) (List.length r) .no) [] 0 := by
  unfold e162v1 at h
  obtain ⟨l1, h2, h⟩ := obind h
  by_cases h3 : List.length p0 = 0
  · obtain rfl := sj h
    exact k162v1 (tF q162v1 0 [] (oD (dT l1) <| oP 2 (apN22 h2 h3) o0) (by kernel_rfl))
  · obtain rfl := sj h
    exact k162v1 (tF q162v1 0 [] (oD (dT l1) <| oP 2 (apS22 h2 h3) o0) (by kernel_rfl))
theorem m162v1 {qq : Nat} {p0 : List Tm} {r : List Tm} (h : e162v1 qq p0 = some r) : e162v1 (qq + 1) p0 = some r := by
  unfold e162v1 at h ⊢
  obtain ⟨l1, hx, h⟩ := obind h
  refine obk hx ?_
  exact h

end Go.Proofs.YtlbmblbeccafcaaGreat

namespace Go.Proofs.YtlbmblbeccafcaaGreat
open Go Go.Ab

/- slices.Clone(()scholium/api.Term,scholium/api.Term) -/
def e162vr0 (qq : Nat) (p0 : List Tm) : Option (Unit) :=
  some ()
theorem q162vr0 : Tryz.prog.funcs[162]? = some Tryz.f162 ∧ Tryz.f162.body.isNone = false := ⟨Tryz.func162, by kernel_rfl⟩
theorem k162vr0 {p0 : List Tm}  (h : CTri Tryz.prog 162 [] [.sl (flat tmCells p0) (List.length p0) .nl] (.sl (flat tmCells ([] : List Tm)) (List.length ([] : List Tm)) .full) [] 0) : CT Tryz.prog 162 [] [.sl (flat tmCells p0) (List.length p0) .nl] (.sl (flat tmCells ([] : List Tm)) (List.length ([] : List Tm)) .full) [] 0 := ⟨h, ⟨⟨trivial, dT _⟩, trivial⟩, forall_nil, dT _, forall_nil⟩
theorem c162vr0 {qq : Nat} {p0 : List Tm} {r : Unit} (h : e162vr0 qq p0 = some r) : CT Tryz.prog 162 [] [.sl (flat tmCells p0) (List.length p0) .nl] (.sl (flat tmCells ([] : List Tm)) (List.length ([] : List Tm)) .full) [] 0 := by
  unfold e162vr0 at h
  obtain rfl := sj h
  exact k162vr0 (tG q162vr0 1 [] [] [] true (oD (dT ([] : List Tm)) o0) (by kernel_rfl) (by decide))
theorem m162vr0 {qq : Nat} {p0 : List Tm} {r : Unit} (h : e162vr0 qq p0 = some r) : e162vr0 (qq + 1) p0 = some r := by
  unfold e162vr0 at h ⊢
  exact h

end Go.Proofs.YtlbmblbeccafcaaGreat

namespace Go.Proofs.YtlbmblbeccafcaaGreat
open Go Go.Ab

/- slices.Clone(()scholium/api.Term,scholium/api.Term) -/
def e162vr1 (qq : Nat) (p0 : List Tm) : Option ((Unit) ⊕ (List Tm)) :=
  if decide (List.length p0 = 0) = true then
    some (Sum.inl ())
  else
    (gapp 40 ([] : List Tm) p0) >>= fun l2 =>
    some (Sum.inr l2)
theorem q162vr1 : Tryz.prog.funcs[162]? = some Tryz.f162 ∧ Tryz.f162.body.isNone = false := ⟨Tryz.func162, by kernel_rfl⟩
theorem k162vr1s0 {p0 : List Tm}  (h : CTri Tryz.prog 162 [] [.sl (flat tmCells p0) (List.length p0) .nn] (.sl (flat tmCells ([] : List Tm)) (List.length ([] : List Tm)) .full) [] 0) : CT Tryz.prog 162 [] [.sl (flat tmCells p0) (List.length p0) .nn] (.sl (flat tmCells ([] : List Tm)) (List.length ([] : List Tm)) .full) [] 0 := ⟨h, ⟨⟨trivial, dT _⟩, trivial⟩, forall_nil, dT _, forall_nil⟩
theorem k162vr1s1 {p0 : List Tm} {r : List Tm} (h : CTri Tryz.prog 162 [] [.sl (flat tmCells p0) (List.length p0) .nn] (.ms 0 0 (List.length r) (List.length r) 3) [.row (flat tmCells r)] 0) : CT Tryz.prog 162 [] [.sl (flat tmCells p0) (List.length p0) .nn] (.ms 0 0 (List.length r) (List.length r) 3) [.row (flat tmCells r)] 0 := ⟨h, ⟨⟨trivial, dT _⟩, trivial⟩, forall_nil, (show 0 < 1 by decide), (forall_cons (dT _) forall_nil)⟩
theorem c162vr1 {qq : Nat} {p0 : List Tm} {r : (Unit) ⊕ (List Tm)} (h : e162vr1 qq p0 = some r) : (match (generalizing := false) r with | Sum.inl x => CT Tryz.prog 162 [] [.sl (flat tmCells p0) (List.length p0) .nn] (.sl (flat tmCells ([] : List Tm)) (List.length ([] : List Tm)) .full) [] 0 | Sum.inr x => CT Tryz.prog 162 [] [.sl (flat tmCells p0) (List.length p0) .nn] (.ms 0 0 (List.length x) (List.length x) 3) [.row (flat tmCells x)] 0) := by
  unfold e162vr1 at h
  rcases spl h with ⟨h1, h⟩ | ⟨h1, h⟩
  · obtain rfl := sj h
    exact k162vr1s0 (tG q162vr1 0 [] [] [] true (oD (dT ([] : List Tm)) <| oQ 2 (apQ22 (of_decide_eq_true h1)) o0) (by kernel_rfl) (by decide))
  · obtain ⟨l2, h3, h⟩ := obind h
    obtain rfl := sj h
    exact k162vr1s1 (tF q162vr1 0 [0] (oD (dT l2) <| oM 2 (apW22 h3 (of_decide_eq_false h1)) o0) (by kernel_rfl))
theorem m162vr1 {qq : Nat} {p0 : List Tm} {r : (Unit) ⊕ (List Tm)} (h : e162vr1 qq p0 = some r) : e162vr1 (qq + 1) p0 = some r := by
  unfold e162vr1 at h ⊢
  rcases spl h with ⟨k, h⟩ | ⟨k, h⟩
  · rw [ifTe k]
    exact h
  · rw [ifFe k]
    obtain ⟨l2, hx, h⟩ := obind h
    refine obk hx ?_
    exact h

end Go.Proofs.YtlbmblbeccafcaaGreat

namespace Go.Proofs.YtlbmblbeccafcaaGreat
open Go Go.Ab

/- a clone, whatever it is of -/
def e162 (_qq : Nat) (p0 : List Tm) : Option (List Tm) := gapp 40 [] p0
theorem c162 {qq : Nat} {p0 : List Tm} {r : List Tm} (h : e162 qq p0 = some r) : CT Tryz.prog 162 [] [.sl (flat tmCells p0) (List.length p0) .no] (.sl (flat tmCells r) (List.length r) .no) [] 0 := by
  have hr : r = p0 := by have := (gapp_spec h).2; simpa using this
  have h1 : e162v1 qq p0 = some r := by unfold e162v1; rw [show gapp 40 ([] : List Tm) p0 = some r from h]; rfl
  have k1 := c162v1 h1
  refine ⟨CTri.nilcase (fun hn => ?_) k1.tri, ⟨⟨trivial, dT _⟩, trivial⟩, (fun _ h => nomatch h), dT _, (fun _ h => nomatch h)⟩
  have hp : p0 = [] := flat_nil codecT (by decide) hn
  subst hr
  subst hp
  exact (c162v0 (qq := qq) rfl).tri
/- the same, as a row -/
def e162vr (qq : Nat) (p0 : List Tm) : Option (Unit ⊕ List Tm) := if decide (List.length p0 = 0) = true then some (.inl ()) else (gapp 40 [] p0) >>= fun r => some (.inr r)
theorem c162vr {qq : Nat} {p0 : List Tm} {r : Unit ⊕ List Tm} (h : e162vr qq p0 = some r) : (match (generalizing := false) r with | .inl _ => CT Tryz.prog 162 [] [.sl (flat tmCells p0) (List.length p0) .no] (.sl (flat tmCells ([] : List Tm)) (List.length ([] : List Tm)) .full) [] 0 | .inr x => CT Tryz.prog 162 [] [.sl (flat tmCells p0) (List.length p0) .no] (.ms 0 0 (List.length x) (List.length x) 3) [.row (flat tmCells x)] 0) := by
  unfold e162vr at h
  rcases spl h with ⟨h1, h⟩ | ⟨h1, h⟩
  · obtain rfl := sj h
    have hp : p0 = [] := List.length_eq_zero_iff.1 (of_decide_eq_true h1)
    subst hp
    have k0 := c162vr0 (qq := qq) (p0 := []) (r := ()) rfl
    have k1 := c162vr1 (qq := qq) (p0 := []) (r := .inl ()) rfl
    exact ⟨CTri.nilcase (fun _ => k0.tri) k1.tri, ⟨⟨trivial, dT _⟩, trivial⟩, (fun _ h => nomatch h), dT _, (fun _ h => nomatch h)⟩
  · obtain ⟨x, h2, h⟩ := obind h
    obtain rfl := sj h
    have k1 := c162vr1 (qq := qq) (p0 := p0) (r := .inr x) (by unfold e162vr1; rw [if_neg (by rw [h1]; decide), h2]; rfl)
    refine ⟨CTri.nilcase (fun hn => ?_) k1.tri, ⟨⟨trivial, dT _⟩, trivial⟩, (fun _ h => nomatch h), (show 0 < 1 by decide), forall_cons (dT _) forall_nil⟩
    have hp : p0 = [] := flat_nil codecT (by decide) hn
    subst hp
    cases h1

theorem m162 {qq : Nat} {p0 : List Tm} {r : List Tm} (h : e162 qq p0 = some r) : e162 (qq + 1) p0 = some r := h


end Go.Proofs.YtlbmblbeccafcaaGreat

namespace Go.Proofs.YtlbmblbeccafcaaGreat
open Go Go.Ab

/- scholium/sign.rec -/
def e163 (qq : Nat) (p0 : List Ent) (p1 : Tm) (p2 : Int) (p3 : Int) : Option (Rec') :=
  (e103 qq p1) >>= fun r1 =>
  (e106 qq r1.2.1) >>= fun r3 =>
  if (r1.2.2 != 0) = true then
    none
  else
    if (r3.1.k != 6) = true then
      some (Rec'.mk false [] [])
    else
      if (r3.1.n != p2) = true then
        some (Rec'.mk false [] [])
      else
        (gidx p0 p2) >>= fun x8 =>
        (e199 qq r1.2.1 p2 x8.pars x8.inds (w64 (p3 + (List.length r1.1 : Int)))) >>= fun r10 =>
        if r10 = true then
          (gsl r3.2 x8.pars (List.length r3.2 : Int)) >>= fun x13 =>
          (e162 qq x13) >>= fun r15 =>
          some (Rec'.mk true r1.1 r15)
        else
          none
theorem q163 : Tryz.prog.funcs[163]? = some Tryz.f163 ∧ Tryz.f163.body.isNone = false := ⟨Tryz.func163, by kernel_rfl⟩
theorem k163 {p0 : List Ent} {p1 : Tm} {p2 : Int} {p3 : Int} {r : Rec'} (h : CTri Tryz.prog 163 [] [.sl (flat entL p0) (List.length p0) .no, tmA p1, ai p2, ai p3] (recA r) [] 0) : CT Tryz.prog 163 [] [.sl (flat entL p0) (List.length p0) .no, tmA p1, ai p2, ai p3] (recA r) [] 0 := ⟨h, ⟨⟨trivial, dE _⟩, ⟨trivial, trivial, ⟨trivial, dT _⟩, trivial⟩, trivial, trivial, trivial⟩, forall_nil, ⟨trivial, dT _, dT _, trivial⟩, forall_nil⟩
theorem c163 {qq : Nat} {p0 : List Ent} {p1 : Tm} {p2 : Int} {p3 : Int} {r : Rec'} (h : e163 qq p0 p1 p2 p3 = some r) : CT Tryz.prog 163 [] [.sl (flat entL p0) (List.length p0) .no, tmA p1, ai p2, ai p3] (recA r) [] 0 := by
  unfold e163 at h
  obtain ⟨r1, h2, h⟩ := obind h
  obtain ⟨r3, h4, h⟩ := obind h
  have k := oC 5 [] (c106 h4) <| oC 1 [] (c103 h2) o0
  obtain ⟨h5, h⟩ := splF h
  have k := oB 3 h5 k
  rcases spl h with ⟨h6, h⟩ | ⟨h6, h⟩
  · obtain rfl := sj h
    exact k163 (tF q163 1 [] (oD (dT ([] : List Tm)) <| oD (dT ([] : List Tm)) <| oB 1 h6 k) (by kernel_rfl))
  · have k := oB 1 h6 k
    rcases spl h with ⟨h7, h⟩ | ⟨h7, h⟩
    · obtain rfl := sj h
      exact k163 (tF q163 1 [] (oD (dT ([] : List Tm)) <| oD (dT ([] : List Tm)) <| oB 1 h7 k) (by kernel_rfl))
    · obtain ⟨x8, h9, h⟩ := obind h
      obtain ⟨r10, h11, h⟩ := obind h
      have k := oA 1 (ix25 (o := .no) h9) <| oA 1 (ix25 (o := .no) h9) <| oB 1 h7 k
      obtain ⟨h12, h⟩ := splT h
      obtain ⟨x13, h14, h⟩ := obind h
      obtain ⟨r15, h16, h⟩ := obind h
      obtain rfl := sj h
      exact k163 (tF q163 1 [] (oD (dT r15) <| oD (dT r1.1) <| oC 0 [] (c162 h16) <| oA 1 (slFrom22 h14) <| oA 1 (ix25 (o := .no) h9) <| oK 3 [] h12 (c199 h11) k) (by kernel_rfl))
theorem m163 {qq : Nat} {p0 : List Ent} {p1 : Tm} {p2 : Int} {p3 : Int} {r : Rec'} (h : e163 qq p0 p1 p2 p3 = some r) : e163 (qq + 1) p0 p1 p2 p3 = some r := by
  unfold e163 at h ⊢
  obtain ⟨r1, hx, h⟩ := obind h
  refine obk (m103 hx) ?_
  obtain ⟨r3, hx, h⟩ := obind h
  refine obk (m106 hx) ?_
  obtain ⟨k, h⟩ := splF h
  rw [ifFe k]
  rcases spl h with ⟨k, h⟩ | ⟨k, h⟩
  · rw [ifTe k]
    exact h
  · rw [ifFe k]
    rcases spl h with ⟨k, h⟩ | ⟨k, h⟩
    · rw [ifTe k]
      exact h
    · rw [ifFe k]
      obtain ⟨x8, hx, h⟩ := obind h
      refine obk hx ?_
      obtain ⟨r10, hx, h⟩ := obind h
      refine obk (m199 hx) ?_
      obtain ⟨k, h⟩ := splT h
      rw [ifTe k]
      obtain ⟨x13, hx, h⟩ := obind h
      refine obk hx ?_
      obtain ⟨r15, hx, h⟩ := obind h
      refine obk (m162 hx) ?_
      exact h

end Go.Proofs.YtlbmblbeccafcaaGreat

namespace Go.Proofs.YtlbmblbeccafcaaGreat
open Go Go.Ab

/- scholium/sign.parts -/
def e113L43048 : Nat → (List Ent) → Ent → (List Tm) → (List Tm) → Int → (List Rec') →  Option (Con')
  | 0, _, _, _, _, _, _ => none
  | qq + 1, p0, x1, x7, r11, v43, vb2_2 =>
    if decide (v43 < (List.length x7 : Int)) = true then
      (gidx x7 v43) >>= fun x14 =>
      (e163 qq p0 x14 x1.fam (w64 (x1.pars + v43))) >>= fun r16 =>
      (gapp 56 vb2_2 [r16]) >>= fun l18 =>
      e113L43048 qq p0 x1 x7 r11 (w64 (v43 + 1)) l18
    else
      some (Con'.mk x7 r11 vb2_2)
def e113 (qq : Nat) (p0 : List Ent) (p1 : Int) : Option (Con') :=
  (gidx p0 p1) >>= fun x1 =>
  (e103 qq x1.type) >>= fun r3 =>
  (e106 qq r3.2.1) >>= fun r5 =>
  (gsl r3.1 x1.pars (List.length r3.1 : Int)) >>= fun x7 =>
  (gsl r5.2 x1.pars (List.length r5.2 : Int)) >>= fun x9 =>
  (e162 qq x9) >>= fun r11 =>
  e113L43048 qq p0 x1 x7 r11 0 []
def g113L43048E0 (j : Nat → Value) (p0 : List Ent) (x1 : Ent) (x7 : List Tm) (r11 : List Tm) (v43 : Int) (vb2_2 : List Rec') : List AV := sp j 64 0 [(0, .sl (flat entL p0) (List.length p0) .no), (4, .mp 0 0), (5, .mp 1 0), (11, .mp 2 0), (41, .sl (flat tmCells x7) (List.length x7) .no), (42, ai (List.length x7 : Int)), (43, ai v43)]
def g113L43048S0 (p0 : List Ent) (x1 : Ent) (x7 : List Tm) (r11 : List Tm) (v43 : Int) (vb2_2 : List Rec') : LSt := ⟨[(0, .cells [.sl (flat tmCells ([] : List Tm)) (List.length ([] : List Tm)) .nl, .sl (flat tmCells ([] : List Tm)) (List.length ([] : List Tm)) .nl, .sl (flat recL ([] : List Rec')) (List.length ([] : List Rec')) .nl]), (1, .cells [ai x1.kind, at' x1.name, ai x1.type.k, ai x1.type.n, .sl (flat tmCells x1.type.sub) (List.length x1.type.sub) .no, ai x1.body.k, ai x1.body.n, .sl (flat tmCells x1.body.sub) (List.length x1.body.sub) .no, ai x1.fam, ai x1.place, ai x1.pars, ai x1.inds, ai x1.level, .sl (flat intC x1.cons) (List.length x1.cons) .no, .sl (flat intC x1.fields) (List.length x1.fields) .no]), (2, .cells [.sl (flat tmCells x7) (List.length x7) .no, .sl (flat tmCells r11) (List.length r11) .no, .sl (flat recL vb2_2) (List.length vb2_2) (.st 0 3)])], 3, [0], 1, []⟩
theorem q113 : Tryz.prog.funcs[113]? = some Tryz.f113 ∧ Tryz.f113.body.isNone = false := ⟨Tryz.func113, by kernel_rfl⟩
theorem k113 {p0 : List Ent} {p1 : Int} {r : Con'} (h : CTri Tryz.prog 113 [] [.sl (flat entL p0) (List.length p0) .no, ai p1] (conA r) [] 0) : CT Tryz.prog 113 [] [.sl (flat entL p0) (List.length p0) .no, ai p1] (conA r) [] 0 := ⟨h, ⟨⟨trivial, dE _⟩, trivial, trivial⟩, forall_nil, ⟨dT _, dT _, dR _, trivial⟩, forall_nil⟩
theorem l113L43048 : ∀ qq : Nat, (∀ (p0 : List Ent) (x1 : Ent) (x7 : List Tm) (r11 : List Tm) (v43 : Int) (vb2_2 : List Rec') (r : Con'), e113L43048 qq p0 x1 x7 r11 v43 vb2_2 = some r → (∀ j, Dl Tryz.prog 0 (inn (inn (rgt (lft (rgt (rgt (rgt (rgt (rgt (bod Tryz.f113)))))))))) (g113L43048E0 j p0 x1 x7 r11 v43 vb2_2) (g113L43048S0 p0 x1 x7 r11 v43 vb2_2) (frameQ Tryz.prog 0 (FinQ Tryz.prog 0 Tryz.f113 (conA r) [] 0) [.blk 0, .seq (rgt (rgt (rgt (rgt (rgt (rgt (bod Tryz.f113)))))))]))) := by
  intro qq
  induction qq with
  | zero =>
    exact fun _ _ _ _ _ _ _ h => nn h
  | succ qq ih =>
    intro p0 x1 x7 r11 v43 vb2_2 r h
    rw [e113L43048] at h
    rcases spl h with ⟨h13, h⟩ | ⟨h13, h⟩
    · obtain ⟨x14, h15, h⟩ := obind h
      obtain ⟨r16, h17, h⟩ := obind h
      obtain ⟨l18, h19, h⟩ := obind h
      exact fun j => lH 2 [] [0, 1, 2] [1] [0, 4, 5, 11, 41, 42, 43] (oD (dT x7) <| oD (dE p0) <| oD (dR l18) <| oD (dT r11) <| oD (dT x7) <| oD (dI x1.fields) <| oD (dI x1.cons) <| oD (dT x1.body.sub) <| oD (dT x1.type.sub) <| oD (dR ([] : List Rec')) <| oD (dT ([] : List Tm)) <| oD (dT ([] : List Tm)) <| oP 1 (apS199 h19 (by simp)) <| oC 7 [] (c163 h17) <| oA 0 (ix22 (o := .no) h15) <| oB 0 h13 o0) (ih _ _ _ _ _ _ _ h) (fun j => by kernel_rfl)
    · obtain rfl := sj h
      exact fun j => lF 2 [] (oD (dR vb2_2) <| oD (dT r11) <| oD (dT x7) <| oB 0 h13 o0) (by kernel_rfl)
theorem c113 {qq : Nat} {p0 : List Ent} {p1 : Int} {r : Con'} (h : e113 qq p0 p1 = some r) : CT Tryz.prog 113 [] [.sl (flat entL p0) (List.length p0) .no, ai p1] (conA r) [] 0 := by
  unfold e113 at h
  obtain ⟨x1, h2, h⟩ := obind h
  obtain ⟨r3, h4, h⟩ := obind h
  obtain ⟨r5, h6, h⟩ := obind h
  obtain ⟨x7, h8, h⟩ := obind h
  obtain ⟨x9, h10, h⟩ := obind h
  obtain ⟨r11, h12, h⟩ := obind h
  exact k113 (tH q113 3 [(some 4, 2, 3)] [0, 1, 4] [0] [0, 4, 5, 11, 41, 42, 43] (oD (dT x7) <| oD (dE p0) <| oD (dR ([] : List Rec')) <| oD (dT r11) <| oD (dT x7) <| oD (dI x1.fields) <| oD (dI x1.cons) <| oD (dT x1.body.sub) <| oD (dT x1.type.sub) <| oD (dR ([] : List Rec')) <| oD (dT ([] : List Tm)) <| oD (dT ([] : List Tm)) <| oC 0 [] (c162 h12) <| oA 1 (slFrom22 h10) <| oA 4 (slFrom22 h8) <| oC 5 [] (c106 h6) <| oC 3 [] (c103 h4) <| oA 0 (ix25 (o := .no) h2) o0) (l113L43048 _ _ _ _ _ _ _ _ h) (fun j => by kernel_rfl))
theorem mm113L43048 : ∀ qq : Nat, (∀ (p0 : List Ent) (x1 : Ent) (x7 : List Tm) (r11 : List Tm) (v43 : Int) (vb2_2 : List Rec') (r : Con'), e113L43048 qq p0 x1 x7 r11 v43 vb2_2 = some r → e113L43048 (qq + 1) p0 x1 x7 r11 v43 vb2_2 = some r) := by
  intro qq
  induction qq with
  | zero => exact fun _ _ _ _ _ _ _ h => nn h
  | succ qq ih =>
    have ih113L43048 := ih
    intro p0 x1 x7 r11 v43 vb2_2 r h
    rw [e113L43048] at h ⊢
    rcases spl h with ⟨k, h⟩ | ⟨k, h⟩
    · rw [ifTe k]
      obtain ⟨x14, hx, h⟩ := obind h
      refine obk hx ?_
      obtain ⟨r16, hx, h⟩ := obind h
      refine obk (m163 hx) ?_
      obtain ⟨l18, hx, h⟩ := obind h
      refine obk hx ?_
      exact ih113L43048 _ _ _ _ _ _ _ h
    · rw [ifFe k]
      exact h
theorem m113L43048 {qq : Nat} {p0 : List Ent} {x1 : Ent} {x7 : List Tm} {r11 : List Tm} {v43 : Int} {vb2_2 : List Rec'} {r : Con'} (h : e113L43048 qq p0 x1 x7 r11 v43 vb2_2 = some r) : e113L43048 (qq + 1) p0 x1 x7 r11 v43 vb2_2 = some r := mm113L43048 _ _ _ _ _ _ _ _ h
theorem m113 {qq : Nat} {p0 : List Ent} {p1 : Int} {r : Con'} (h : e113 qq p0 p1 = some r) : e113 (qq + 1) p0 p1 = some r := by
  unfold e113 at h ⊢
  obtain ⟨x1, hx, h⟩ := obind h
  refine obk hx ?_
  obtain ⟨r3, hx, h⟩ := obind h
  refine obk (m103 hx) ?_
  obtain ⟨r5, hx, h⟩ := obind h
  refine obk (m106 hx) ?_
  obtain ⟨x7, hx, h⟩ := obind h
  refine obk hx ?_
  obtain ⟨x9, hx, h⟩ := obind h
  refine obk hx ?_
  obtain ⟨r11, hx, h⟩ := obind h
  refine obk (m162 hx) ?_
  exact m113L43048 h

end Go.Proofs.YtlbmblbeccafcaaGreat

namespace Go.Proofs.YtlbmblbeccafcaaGreat
open Go Go.Ab

/- scholium/sign.Every -/
def e68L44439 : Nat → (List Ent) → (List Con') → Int → (List Con') →  Option (List Con' × Int)
  | 0, _, _, _, _ => none
  | qq + 1, p0, x4, v14, vb0_0 =>
    if decide (v14 < (List.length p0 : Int)) = true then
      (gidx p0 v14) >>= fun x7 =>
      if (x7.kind == 2) = true then
        (e113 qq p0 v14) >>= fun r10 =>
        (gchk (List.length x4) v14) >>= fun x12 =>
        (gset vb0_0 x12 r10) >>= fun x14 =>
        e68L44439 qq p0 x4 (w64 (v14 + 1)) x14
      else
        e68L44439 qq p0 x4 (w64 (v14 + 1)) vb0_0
    else
      (gfz (List.length x4) vb0_0) >>= fun l16 =>
      some (l16, 0)
def e68 (qq : Nat) (p0 : List Ent) : Option (List Con' × Int) :=
  (e58 qq p0) >>= fun r1 =>
  if r1 = true then
    (gmk 72 (default : Con') (List.length p0 : Int)) >>= fun x4 =>
    e68L44439 qq p0 x4 0 x4
  else
    none
def g68L44439E0 (j : Nat → Value) (p0 : List Ent) (x4 : List Con') (v14 : Int) (vb0_0 : List Con') : List AV := sp j 31 0 [(0, .sl (flat entL p0) (List.length p0) .no), (4, .ms 0 0 (List.length x4) (List.length x4) 3), (13, ai (List.length p0 : Int)), (14, ai v14)]
def g68L44439S0 (p0 : List Ent) (x4 : List Con') (v14 : Int) (vb0_0 : List Con') : LSt := ⟨[(0, .row (flat conL vb0_0))], 1, [], 0, []⟩
theorem q68 : Tryz.prog.funcs[68]? = some Tryz.f68 ∧ Tryz.f68.body.isNone = false := ⟨Tryz.func68, by kernel_rfl⟩
theorem k68 {p0 : List Ent} {r : List Con' × Int} (h : CTri Tryz.prog 68 [] [.sl (flat entL p0) (List.length p0) .no] (.tup [.ms 0 0 (List.length r.1) (List.length r.1) 3, ai r.2]) [.row (flat conL r.1)] 0) : CT Tryz.prog 68 [] [.sl (flat entL p0) (List.length p0) .no] (.tup [.ms 0 0 (List.length r.1) (List.length r.1) 3, ai r.2]) [.row (flat conL r.1)] 0 := ⟨h, ⟨⟨trivial, dE _⟩, trivial⟩, forall_nil, ⟨(show 0 < 1 by decide), trivial, trivial⟩, (forall_cons (dC _) forall_nil)⟩
theorem l68L44439 : ∀ qq : Nat, (∀ (p0 : List Ent) (x4 : List Con') (v14 : Int) (vb0_0 : List Con') (r : List Con' × Int), e68L44439 qq p0 x4 v14 vb0_0 = some r → (∀ j, Dl Tryz.prog 0 (inn (inn (rgt (lft (rgt (rgt (rgt (bod Tryz.f68)))))))) (g68L44439E0 j p0 x4 v14 vb0_0) (g68L44439S0 p0 x4 v14 vb0_0) (frameQ Tryz.prog 0 (FinQ Tryz.prog 0 Tryz.f68 (.tup [.ms 0 0 (List.length r.1) (List.length r.1) 3, ai r.2]) [.row (flat conL r.1)] 0) [.blk 0, .seq (rgt (rgt (rgt (rgt (bod Tryz.f68)))))]))) := by
  intro qq
  induction qq with
  | zero =>
    exact fun _ _ _ _ _ h => nn h
  | succ qq ih =>
    intro p0 x4 v14 vb0_0 r h
    rw [e68L44439] at h
    rcases spl h with ⟨h6, h⟩ | ⟨h6, h⟩
    · obtain ⟨x7, h8, h⟩ := obind h
      have k := oA 0 (ix25 (o := .no) h8) <| oB 0 h6 o0
      rcases spl h with ⟨h9, h⟩ | ⟨h9, h⟩
      · obtain ⟨r10, h11, h⟩ := obind h
        obtain ⟨x12, h13, h⟩ := obind h
        obtain ⟨x14, h15, h⟩ := obind h
        exact fun j => lH 1 [] [0] [] [0, 4, 13, 14] (oD (dE p0) <| oD (dC x14) <| oW 0 (wtE (x := r10) (cs := [.sl (flat tmCells r10.args) (List.length r10.args) .no, .sl (flat tmCells r10.inds) (List.length r10.inds) .no, .sl (flat recL r10.recs) (List.length r10.recs) .no]) codecC rfl h15) <| oA 0 (ixM147 (b := 0) (c := List.length x4) (z := 3) h13) <| oC 0 [] (c113 h11) <| oB 1 h9 k) (ih _ _ _ _ _ h) (fun j => by kernel_rfl)
      · exact fun j => lH 1 [] [0] [] [0, 4, 13, 14] (oD (dE p0) <| oD (dC vb0_0) <| oB 1 h9 k) (ih _ _ _ _ _ h) (fun j => by kernel_rfl)
    · obtain ⟨l16, h17, h⟩ := obind h
      obtain ⟨h17a, h17b⟩ := gfz_spec h17
      obtain rfl := sj h
      obtain rfl := h17a.symm
      dsimp only
      rw [← h17b]
      exact fun j => lF 0 [0] (oD (dC vb0_0) <| oB 0 h6 o0) (by kernel_rfl)
theorem c68r {qq : Nat} {p0 : List Ent} {r : List Con' × Int} (h : e68 qq p0 = some r) : CT Tryz.prog 68 [] [.sl (flat entL p0) (List.length p0) .no] (.tup [.ms 0 0 (List.length r.1) (List.length r.1) 3, ai r.2]) [.row (flat conL r.1)] 0 := by
  unfold e68 at h
  obtain ⟨r1, h2, h⟩ := obind h
  obtain ⟨h3, h⟩ := splT h
  obtain ⟨x4, h5, h⟩ := obind h
  exact k68 (tH q68 1 [] [0] [] [0, 4, 13, 14] (oD (dE p0) <| oD (dC x4) <| oM 2 (mkM147 h5) <| oK 0 [] h3 (c58 h2) o0) (l68L44439 _ _ _ _ _ _ h) (fun j => by kernel_rfl))
theorem mm68L44439 : ∀ qq : Nat, (∀ (p0 : List Ent) (x4 : List Con') (v14 : Int) (vb0_0 : List Con') (r : List Con' × Int), e68L44439 qq p0 x4 v14 vb0_0 = some r → e68L44439 (qq + 1) p0 x4 v14 vb0_0 = some r) := by
  intro qq
  induction qq with
  | zero => exact fun _ _ _ _ _ h => nn h
  | succ qq ih =>
    have ih68L44439 := ih
    intro p0 x4 v14 vb0_0 r h
    rw [e68L44439] at h ⊢
    rcases spl h with ⟨k, h⟩ | ⟨k, h⟩
    · rw [ifTe k]
      obtain ⟨x7, hx, h⟩ := obind h
      refine obk hx ?_
      rcases spl h with ⟨k, h⟩ | ⟨k, h⟩
      · rw [ifTe k]
        obtain ⟨r10, hx, h⟩ := obind h
        refine obk (m113 hx) ?_
        obtain ⟨x12, hx, h⟩ := obind h
        refine obk hx ?_
        obtain ⟨x14, hx, h⟩ := obind h
        refine obk hx ?_
        exact ih68L44439 _ _ _ _ _ h
      · rw [ifFe k]
        exact ih68L44439 _ _ _ _ _ h
    · rw [ifFe k]
      obtain ⟨l16, hx, h⟩ := obind h
      refine obk hx ?_
      exact h
theorem m68L44439 {qq : Nat} {p0 : List Ent} {x4 : List Con'} {v14 : Int} {vb0_0 : List Con'} {r : List Con' × Int} (h : e68L44439 qq p0 x4 v14 vb0_0 = some r) : e68L44439 (qq + 1) p0 x4 v14 vb0_0 = some r := mm68L44439 _ _ _ _ _ _ h
theorem m68 {qq : Nat} {p0 : List Ent} {r : List Con' × Int} (h : e68 qq p0 = some r) : e68 (qq + 1) p0 = some r := by
  unfold e68 at h ⊢
  obtain ⟨r1, hx, h⟩ := obind h
  refine obk (m58 hx) ?_
  obtain ⟨k, h⟩ := splT h
  rw [ifTe k]
  obtain ⟨x4, hx, h⟩ := obind h
  refine obk hx ?_
  exact m68L44439 h
theorem c68 {qq : Nat} {p0 : List Ent} {r : List Con' × Int} (h : e68 qq p0 = some r) : CT Tryz.prog 68 [] [.sl (flat entL p0) (List.length p0) .no] (.tup [.sl (flat conL r.1) (List.length r.1) .no, ai r.2]) [] 0 := by
  have k := c68r h
  exact CT.freeze (H1 := []) (cs := flat conL r.1) (res' := (.tup [.sl (flat conL r.1) (List.length r.1) .no, ai r.2])) k (Nat.le_of_ble_eq_true rfl) forall_nil (dC _) ⟨(.inl ⟨rfl, rfl⟩), trivial, trivial⟩ (by rfl) rfl

end Go.Proofs.YtlbmblbeccafcaaGreat

namespace Go.Proofs.YtlbmblbeccafcaaGreat
open Go Go.Ab

/- scholium/iota.New -/
def e37 (qq : Nat) (p0 : List Ent) : Option (Int × List Ent × List Con') :=
  (e38 qq p0) >>= fun r1 =>
  (e58 qq p0) >>= fun r3 =>
  if r3 = true then
    (e68 qq r1) >>= fun r6 =>
    if (r6.2 != 0) = true then
      none
    else
      some (0, r1, r6.1)
  else
    none
theorem q37 : Tryz.prog.funcs[37]? = some Tryz.f37 ∧ Tryz.f37.body.isNone = false := ⟨Tryz.func37, by kernel_rfl⟩
theorem k37 {p0 : List Ent} {r : Int × List Ent × List Con'} (h : CTri Tryz.prog 37 [] [.sl (flat entL p0) (List.length p0) .no] (.tup [.mp 0 0, ai r.1]) [.cells [.sl (flat entL r.2.1) (List.length r.2.1) .no, .sl (flat conL r.2.2) (List.length r.2.2) .no]] 0) : CT Tryz.prog 37 [] [.sl (flat entL p0) (List.length p0) .no] (.tup [.mp 0 0, ai r.1]) [.cells [.sl (flat entL r.2.1) (List.length r.2.1) .no, .sl (flat conL r.2.2) (List.length r.2.2) .no]] 0 := ⟨h, ⟨⟨trivial, dE _⟩, trivial⟩, forall_nil, ⟨(show 0 < 1 by decide), trivial, trivial⟩, (forall_cons ⟨dE _, dC _, trivial⟩ forall_nil)⟩
theorem c37 {qq : Nat} {p0 : List Ent} {r : Int × List Ent × List Con'} (h : e37 qq p0 = some r) : CT Tryz.prog 37 [] [.sl (flat entL p0) (List.length p0) .no] (.tup [.mp 0 0, ai r.1]) [.cells [.sl (flat entL r.2.1) (List.length r.2.1) .no, .sl (flat conL r.2.2) (List.length r.2.2) .no]] 0 := by
  unfold e37 at h
  obtain ⟨r1, h2, h⟩ := obind h
  obtain ⟨r3, h4, h⟩ := obind h
  have k := oC 0 [] (c38 h2) o0
  obtain ⟨h5, h⟩ := splT h
  obtain ⟨r6, h7, h⟩ := obind h
  have k := oC 1 [] (c68 h7) <| oK 0 [] h5 (c58 h4) k
  obtain ⟨h8, h⟩ := splF h
  obtain rfl := sj h
  exact k37 (tF q37 0 [0] (oD (dC r6.1) <| oD (dE r1) <| oB 2 h8 k) (by kernel_rfl))
theorem m37 {qq : Nat} {p0 : List Ent} {r : Int × List Ent × List Con'} (h : e37 qq p0 = some r) : e37 (qq + 1) p0 = some r := by
  unfold e37 at h ⊢
  obtain ⟨r1, hx, h⟩ := obind h
  refine obk (m38 hx) ?_
  obtain ⟨r3, hx, h⟩ := obind h
  refine obk (m58 hx) ?_
  obtain ⟨k, h⟩ := splT h
  rw [ifTe k]
  obtain ⟨r6, hx, h⟩ := obind h
  refine obk (m68 hx) ?_
  obtain ⟨k, h⟩ := splF h
  rw [ifFe k]
  exact h

end Go.Proofs.YtlbmblbeccafcaaGreat

namespace Go.Proofs.YtlbmblbeccafcaaGreat
open Go Go.Ab

/- scholium/whnf.New -/
mutual
def e11L61040 : Nat → (List Ent) → (Int × List Ent × List Con') → (List Ent) → Int → (List Int) → (List Int) →  Option (Int × List Ent × List Int × List Int × List Ent × List Con')
  | 0, _, _, _, _, _, _ => none
  | qq + 1, p0, r1, r4, v27, vb0_2, vb0_3 =>
    if decide (v27 < (List.length p0 : Int)) = true then
      (gidx p0 v27) >>= fun x7 =>
      if (x7.kind == 1) = true then
        (gapp 8 vb0_2 [(w64 ((w64 ((w64 (x7.pars + 2)) + (List.length x7.cons : Int))) + x7.inds))]) >>= fun l10 =>
        (gapp 8 vb0_3 [0]) >>= fun l12 =>
        e11L61040 qq p0 r1 r4 (w64 (v27 + 1)) l10 l12
      else
        if (x7.kind == 2) = true then
          e11L55979 qq p0 r1 r4 v27 vb0_2 vb0_3 0 x7.type.k x7.type.n x7.type.sub
        else
          (gapp 8 vb0_2 [0]) >>= fun l15 =>
          (gapp 8 vb0_3 [0]) >>= fun l17 =>
          e11L61040 qq p0 r1 r4 (w64 (v27 + 1)) l15 l17
    else
      some (0, r4, vb0_2, vb0_3, r1.2.1, r1.2.2)
def e11L55979 : Nat → (List Ent) → (Int × List Ent × List Con') → (List Ent) → Int → (List Int) → (List Int) → Int → Int → Int → (List Tm) →  Option (Int × List Ent × List Int × List Int × List Ent × List Con')
  | 0, _, _, _, _, _, _, _, _, _, _ => none
  | qq + 1, p0, r1, r4, v27, vb0_2, vb0_3, v10, vb1_0, vb1_1, vb1_2 =>
    if (vb1_0 == 3) = true then
      (gidx vb1_2 1) >>= fun x16 =>
      e11L55979 qq p0 r1 r4 v27 vb0_2 vb0_3 (w64 (v10 + 1)) x16.k x16.n x16.sub
    else
      (gapp 8 vb0_2 [0]) >>= fun l18 =>
      (gapp 8 vb0_3 [v10]) >>= fun l20 =>
      e11L61040 qq p0 r1 r4 (w64 (v27 + 1)) l18 l20
end
def e11 (qq : Nat) (p0 : List Ent) : Option (Int × List Ent × List Int × List Int × List Ent × List Con') :=
  (e37 qq p0) >>= fun r1 =>
  if (r1.1 != 0) = true then
    none
  else
    (e38 qq p0) >>= fun r4 =>
    e11L61040 qq p0 r1 r4 0 [] []
def g11L61040E0 (j : Nat → Value) (p0 : List Ent) (r1 : Int × List Ent × List Con') (r4 : List Ent) (v27 : Int) (vb0_2 : List Int) (vb0_3 : List Int) : List AV := sp j 81 0 [(6, .mp 0 0), (25, .sl (flat entL p0) (List.length p0) .no), (26, ai (List.length p0 : Int)), (27, ai v27)]
def g11L61040S0 (p0 : List Ent) (r1 : Int × List Ent × List Con') (r4 : List Ent) (v27 : Int) (vb0_2 : List Int) (vb0_3 : List Int) : LSt := ⟨[(0, .cells [.sl (flat entL r4) (List.length r4) .no, .mp 1 0, .sl (flat intC vb0_2) (List.length vb0_2) (.st 0 1), .sl (flat intC vb0_3) (List.length vb0_3) (.st 1 1)]), (1, .cells [.sl (flat entL r1.2.1) (List.length r1.2.1) .no, .sl (flat conL r1.2.2) (List.length r1.2.2) .no])], 2, [0, 1], 2, []⟩
def g11L55979E0 (j : Nat → Value) (p0 : List Ent) (r1 : Int × List Ent × List Con') (r4 : List Ent) (v27 : Int) (vb0_2 : List Int) (vb0_3 : List Int) (v10 : Int) (vb1_0 : Int) (vb1_1 : Int) (vb1_2 : List Tm) : List AV := sp j 81 0 [(6, .mp 0 0), (9, ai 0), (10, ai v10), (11, .mp 1 0), (25, .sl (flat entL p0) (List.length p0) .no), (26, ai (List.length p0 : Int)), (27, ai v27)]
def g11L55979S0 (p0 : List Ent) (r1 : Int × List Ent × List Con') (r4 : List Ent) (v27 : Int) (vb0_2 : List Int) (vb0_3 : List Int) (v10 : Int) (vb1_0 : Int) (vb1_1 : Int) (vb1_2 : List Tm) : LSt := ⟨[(0, .cells [.sl (flat entL r4) (List.length r4) .no, .mp 2 0, .sl (flat intC vb0_2) (List.length vb0_2) (.st 0 1), .sl (flat intC vb0_3) (List.length vb0_3) (.st 1 1)]), (1, .cells [ai vb1_0, ai vb1_1, .sl (flat tmCells vb1_2) (List.length vb1_2) .no]), (2, .cells [.sl (flat entL r1.2.1) (List.length r1.2.1) .no, .sl (flat conL r1.2.2) (List.length r1.2.2) .no])], 3, [0, 1], 2, []⟩
theorem q11 : Tryz.prog.funcs[11]? = some Tryz.f11 ∧ Tryz.f11.body.isNone = false := ⟨Tryz.func11, by kernel_rfl⟩
theorem k11 {p0 : List Ent} {r : Int × List Ent × List Int × List Int × List Ent × List Con'} (h : CTri Tryz.prog 11 [] [.sl (flat entL p0) (List.length p0) .no] (.tup [.mp 0 0, ai r.1]) [.cells [.sl (flat entL r.2.1) (List.length r.2.1) .no, .mp 1 0, .sl (flat intC r.2.2.1) (List.length r.2.2.1) .no, .sl (flat intC r.2.2.2.1) (List.length r.2.2.2.1) .no], .cells [.sl (flat entL r.2.2.2.2.1) (List.length r.2.2.2.2.1) .no, .sl (flat conL r.2.2.2.2.2) (List.length r.2.2.2.2.2) .no]] 0) : CT Tryz.prog 11 [] [.sl (flat entL p0) (List.length p0) .no] (.tup [.mp 0 0, ai r.1]) [.cells [.sl (flat entL r.2.1) (List.length r.2.1) .no, .mp 1 0, .sl (flat intC r.2.2.1) (List.length r.2.2.1) .no, .sl (flat intC r.2.2.2.1) (List.length r.2.2.2.1) .no], .cells [.sl (flat entL r.2.2.2.2.1) (List.length r.2.2.2.2.1) .no, .sl (flat conL r.2.2.2.2.2) (List.length r.2.2.2.2.2) .no]] 0 := ⟨h, ⟨⟨trivial, dE _⟩, trivial⟩, forall_nil, ⟨(show 0 < 2 by decide), trivial, trivial⟩, (forall_cons ⟨dE _, (show 1 < 2 by decide), dI _, dI _, trivial⟩ (forall_cons ⟨dE _, dC _, trivial⟩ forall_nil))⟩
theorem a11L61040_11L55979 : ∀ qq : Nat, (∀ (p0 : List Ent) (r1 : Int × List Ent × List Con') (r4 : List Ent) (v27 : Int) (vb0_2 : List Int) (vb0_3 : List Int) (r : Int × List Ent × List Int × List Int × List Ent × List Con'), e11L61040 qq p0 r1 r4 v27 vb0_2 vb0_3 = some r → (∀ j, Dl Tryz.prog 0 (inn (inn (rgt (lft (rgt (rgt (rgt (rgt (bod Tryz.f11))))))))) (g11L61040E0 j p0 r1 r4 v27 vb0_2 vb0_3) (g11L61040S0 p0 r1 r4 v27 vb0_2 vb0_3) (frameQ Tryz.prog 0 (FinQ Tryz.prog 0 Tryz.f11 (.tup [.mp 0 0, ai r.1]) [.cells [.sl (flat entL r.2.1) (List.length r.2.1) .no, .mp 1 0, .sl (flat intC r.2.2.1) (List.length r.2.2.1) .no, .sl (flat intC r.2.2.2.1) (List.length r.2.2.2.1) .no], .cells [.sl (flat entL r.2.2.2.2.1) (List.length r.2.2.2.2.1) .no, .sl (flat conL r.2.2.2.2.2) (List.length r.2.2.2.2.2) .no]] 0) [.blk 0, .seq (rgt (rgt (rgt (rgt (rgt (bod Tryz.f11))))))]))) ∧ (∀ (p0 : List Ent) (r1 : Int × List Ent × List Con') (r4 : List Ent) (v27 : Int) (vb0_2 : List Int) (vb0_3 : List Int) (v10 : Int) (vb1_0 : Int) (vb1_1 : Int) (vb1_2 : List Tm) (r : Int × List Ent × List Int × List Int × List Ent × List Con'), e11L55979 qq p0 r1 r4 v27 vb0_2 vb0_3 v10 vb1_0 vb1_1 vb1_2 = some r → (∀ j, Dl Tryz.prog 0 (inn (inn (rgt (lft (rgt (rgt (rgt (inn (rgt (lft (rgt (rgt (inn (lft (rgt (rgt (inn (inn (rgt (lft (rgt (rgt (rgt (rgt (bod Tryz.f11))))))))))))))))))))))))) (g11L55979E0 j p0 r1 r4 v27 vb0_2 vb0_3 v10 vb1_0 vb1_1 vb1_2) (g11L55979S0 p0 r1 r4 v27 vb0_2 vb0_3 v10 vb1_0 vb1_1 vb1_2) (frameQ Tryz.prog 0 (FinQ Tryz.prog 0 Tryz.f11 (.tup [.mp 0 0, ai r.1]) [.cells [.sl (flat entL r.2.1) (List.length r.2.1) .no, .mp 1 0, .sl (flat intC r.2.2.1) (List.length r.2.2.1) .no, .sl (flat intC r.2.2.2.1) (List.length r.2.2.2.1) .no], .cells [.sl (flat entL r.2.2.2.2.1) (List.length r.2.2.2.2.1) .no, .sl (flat conL r.2.2.2.2.2) (List.length r.2.2.2.2.2) .no]] 0) [.blk 3, .blk 2, .seq (rgt (rgt (rgt (inn (lft (rgt (rgt (inn (inn (rgt (lft (rgt (rgt (rgt (rgt (bod Tryz.f11)))))))))))))))), .blk 1, .seq (rgt (rgt (rgt (inn (inn (rgt (lft (rgt (rgt (rgt (rgt (bod Tryz.f11)))))))))))), .loop (inn (inn (rgt (lft (rgt (rgt (rgt (rgt (bod Tryz.f11))))))))), .blk 0, .seq (rgt (rgt (rgt (rgt (rgt (bod Tryz.f11))))))]))) := by
  intro qq
  induction qq with
  | zero =>
    exact ⟨fun _ _ _ _ _ _ _ h => nn h, fun _ _ _ _ _ _ _ _ _ _ _ h => nn h⟩
  | succ qq ih =>
    obtain ⟨ih11L61040, ih11L55979⟩ := ih
    refine ⟨?_, ?_⟩
    · intro p0 r1 r4 v27 vb0_2 vb0_3 r h
      rw [e11L61040] at h
      rcases spl h with ⟨h6, h⟩ | ⟨h6, h⟩
      · obtain ⟨x7, h8, h⟩ := obind h
        have k := oA 0 (ix25 (o := .no) h8) <| oB 0 h6 o0
        rcases spl h with ⟨h9, h⟩ | ⟨h9, h⟩
        · obtain ⟨l10, h11, h⟩ := obind h
          obtain ⟨l12, h13, h⟩ := obind h
          exact fun j => lH 3 [] [0, 1] [2, 3] [6, 25, 26, 27] (oD (dE p0) <| oD (dC r1.2.2) <| oD (dE r1.2.1) <| oD (dI l12) <| oD (dI l10) <| oD (dE r4) <| oP 2 (apS37 h13 (by simp)) <| oP 9 (apS37 h11 (by simp)) <| oB 3 h9 k) (ih11L61040 _ _ _ _ _ _ _ h) (fun j => by kernel_rfl)
        · have k := oB 3 h9 k
          rcases spl h with ⟨h14, h⟩ | ⟨h14, h⟩
          · exact fun j => lH 2 [] [0, 3, 1] [0, 1] [6, 9, 10, 11, 25, 26, 27] (oD (dE p0) <| oD (dC r1.2.2) <| oD (dE r1.2.1) <| oD (dT x7.type.sub) <| oD (dI vb0_3) <| oD (dI vb0_2) <| oD (dE r4) <| oB 0 h14 k) (ih11L55979 _ _ _ _ _ _ _ _ _ _ _ h) (fun j => by kernel_rfl)
          · obtain ⟨l15, h16, h⟩ := obind h
            obtain ⟨l17, h18, h⟩ := obind h
            exact fun j => lH 3 [] [0, 1] [2, 3] [6, 25, 26, 27] (oD (dE p0) <| oD (dC r1.2.2) <| oD (dE r1.2.1) <| oD (dI l17) <| oD (dI l15) <| oD (dE r4) <| oP 2 (apS37 h18 (by simp)) <| oP 2 (apS37 h16 (by simp)) <| oB 0 h14 k) (ih11L61040 _ _ _ _ _ _ _ h) (fun j => by kernel_rfl)
      · obtain rfl := sj h
        exact fun j => lF 0 [0, 1] (oD (dC r1.2.2) <| oD (dE r1.2.1) <| oD (dI vb0_3) <| oD (dI vb0_2) <| oD (dE r4) <| oB 0 h6 o0) (by kernel_rfl)
    · intro p0 r1 r4 v27 vb0_2 vb0_3 v10 vb1_0 vb1_1 vb1_2 r h
      rw [e11L55979] at h
      rcases spl h with ⟨h15, h⟩ | ⟨h15, h⟩
      · obtain ⟨x16, h17, h⟩ := obind h
        exact fun j => lH 2 [] [0, 3, 2] [0, 1] [6, 9, 10, 11, 25, 26, 27] (oD (dE p0) <| oD (dC r1.2.2) <| oD (dE r1.2.1) <| oD (dT x16.sub) <| oD (dI vb0_3) <| oD (dI vb0_2) <| oD (dE r4) <| oA 4 (ix22 (o := .no) h17) <| oB 1 h15 o0) (ih11L55979 _ _ _ _ _ _ _ _ _ _ _ h) (fun j => by kernel_rfl)
      · obtain ⟨l18, h19, h⟩ := obind h
        obtain ⟨l20, h21, h⟩ := obind h
        exact fun j => lH 3 [] [0, 2] [2, 3] [6, 25, 26, 27] (oD (dE p0) <| oD (dC r1.2.2) <| oD (dE r1.2.1) <| oD (dI l20) <| oD (dI l18) <| oD (dE r4) <| oP 2 (apS37 h21 (by simp)) <| oP 2 (apS37 h19 (by simp)) <| oB 1 h15 o0) (ih11L61040 _ _ _ _ _ _ _ h) (fun j => by kernel_rfl)
theorem c11 {qq : Nat} {p0 : List Ent} {r : Int × List Ent × List Int × List Int × List Ent × List Con'} (h : e11 qq p0 = some r) : CT Tryz.prog 11 [] [.sl (flat entL p0) (List.length p0) .no] (.tup [.mp 0 0, ai r.1]) [.cells [.sl (flat entL r.2.1) (List.length r.2.1) .no, .mp 1 0, .sl (flat intC r.2.2.1) (List.length r.2.2.1) .no, .sl (flat intC r.2.2.2.1) (List.length r.2.2.2.1) .no], .cells [.sl (flat entL r.2.2.2.2.1) (List.length r.2.2.2.2.1) .no, .sl (flat conL r.2.2.2.2.2) (List.length r.2.2.2.2.2) .no]] 0 := by
  unfold e11 at h
  obtain ⟨r1, h2, h⟩ := obind h
  have k := oC 0 [] (c37 h2) o0
  obtain ⟨h3, h⟩ := splF h
  obtain ⟨r4, h5, h⟩ := obind h
  exact k11 (tH q11 1 [(some 1, 2, 1), (some 1, 3, 1)] [1, 0] [0, 1] [6, 25, 26, 27] (oD (dE p0) <| oD (dC r1.2.2) <| oD (dE r1.2.1) <| oD (dI ([] : List Int)) <| oD (dI ([] : List Int)) <| oD (dE r4) <| oC 0 [] (c38 h5) <| oB 2 h3 k) (((a11L61040_11L55979 _).1) _ _ _ _ _ _ _ h) (fun j => by kernel_rfl))
theorem mm11L61040_11L55979 : ∀ qq : Nat, (∀ (p0 : List Ent) (r1 : Int × List Ent × List Con') (r4 : List Ent) (v27 : Int) (vb0_2 : List Int) (vb0_3 : List Int) (r : Int × List Ent × List Int × List Int × List Ent × List Con'), e11L61040 qq p0 r1 r4 v27 vb0_2 vb0_3 = some r → e11L61040 (qq + 1) p0 r1 r4 v27 vb0_2 vb0_3 = some r) ∧ (∀ (p0 : List Ent) (r1 : Int × List Ent × List Con') (r4 : List Ent) (v27 : Int) (vb0_2 : List Int) (vb0_3 : List Int) (v10 : Int) (vb1_0 : Int) (vb1_1 : Int) (vb1_2 : List Tm) (r : Int × List Ent × List Int × List Int × List Ent × List Con'), e11L55979 qq p0 r1 r4 v27 vb0_2 vb0_3 v10 vb1_0 vb1_1 vb1_2 = some r → e11L55979 (qq + 1) p0 r1 r4 v27 vb0_2 vb0_3 v10 vb1_0 vb1_1 vb1_2 = some r) := by
  intro qq
  induction qq with
  | zero => exact ⟨fun _ _ _ _ _ _ _ h => nn h, fun _ _ _ _ _ _ _ _ _ _ _ h => nn h⟩
  | succ qq ih =>
    obtain ⟨ih11L61040, ih11L55979⟩ := ih
    refine ⟨?_, ?_⟩
    · intro p0 r1 r4 v27 vb0_2 vb0_3 r h
      rw [e11L61040] at h ⊢
      rcases spl h with ⟨k, h⟩ | ⟨k, h⟩
      · rw [ifTe k]
        obtain ⟨x7, hx, h⟩ := obind h
        refine obk hx ?_
        rcases spl h with ⟨k, h⟩ | ⟨k, h⟩
        · rw [ifTe k]
          obtain ⟨l10, hx, h⟩ := obind h
          refine obk hx ?_
          obtain ⟨l12, hx, h⟩ := obind h
          refine obk hx ?_
          exact ih11L61040 _ _ _ _ _ _ _ h
        · rw [ifFe k]
          rcases spl h with ⟨k, h⟩ | ⟨k, h⟩
          · rw [ifTe k]
            exact ih11L55979 _ _ _ _ _ _ _ _ _ _ _ h
          · rw [ifFe k]
            obtain ⟨l15, hx, h⟩ := obind h
            refine obk hx ?_
            obtain ⟨l17, hx, h⟩ := obind h
            refine obk hx ?_
            exact ih11L61040 _ _ _ _ _ _ _ h
      · rw [ifFe k]
        exact h
    · intro p0 r1 r4 v27 vb0_2 vb0_3 v10 vb1_0 vb1_1 vb1_2 r h
      rw [e11L55979] at h ⊢
      rcases spl h with ⟨k, h⟩ | ⟨k, h⟩
      · rw [ifTe k]
        obtain ⟨x16, hx, h⟩ := obind h
        refine obk hx ?_
        exact ih11L55979 _ _ _ _ _ _ _ _ _ _ _ h
      · rw [ifFe k]
        obtain ⟨l18, hx, h⟩ := obind h
        refine obk hx ?_
        obtain ⟨l20, hx, h⟩ := obind h
        refine obk hx ?_
        exact ih11L61040 _ _ _ _ _ _ _ h
theorem m11L61040 {qq : Nat} {p0 : List Ent} {r1 : Int × List Ent × List Con'} {r4 : List Ent} {v27 : Int} {vb0_2 : List Int} {vb0_3 : List Int} {r : Int × List Ent × List Int × List Int × List Ent × List Con'} (h : e11L61040 qq p0 r1 r4 v27 vb0_2 vb0_3 = some r) : e11L61040 (qq + 1) p0 r1 r4 v27 vb0_2 vb0_3 = some r := (mm11L61040_11L55979 _).1 _ _ _ _ _ _ _ h
theorem m11L55979 {qq : Nat} {p0 : List Ent} {r1 : Int × List Ent × List Con'} {r4 : List Ent} {v27 : Int} {vb0_2 : List Int} {vb0_3 : List Int} {v10 : Int} {vb1_0 : Int} {vb1_1 : Int} {vb1_2 : List Tm} {r : Int × List Ent × List Int × List Int × List Ent × List Con'} (h : e11L55979 qq p0 r1 r4 v27 vb0_2 vb0_3 v10 vb1_0 vb1_1 vb1_2 = some r) : e11L55979 (qq + 1) p0 r1 r4 v27 vb0_2 vb0_3 v10 vb1_0 vb1_1 vb1_2 = some r := (mm11L61040_11L55979 _).2 _ _ _ _ _ _ _ _ _ _ _ h
theorem m11 {qq : Nat} {p0 : List Ent} {r : Int × List Ent × List Int × List Int × List Ent × List Con'} (h : e11 qq p0 = some r) : e11 (qq + 1) p0 = some r := by
  unfold e11 at h ⊢
  obtain ⟨r1, hx, h⟩ := obind h
  refine obk (m37 hx) ?_
  obtain ⟨k, h⟩ := splF h
  rw [ifFe k]
  obtain ⟨r4, hx, h⟩ := obind h
  refine obk (m38 hx) ?_
  exact m11L61040 h

end Go.Proofs.YtlbmblbeccafcaaGreat

namespace Go.Proofs.YtlbmblbeccafcaaGreat
open Go Go.Ab

/- (*sync/atomic.Int64).Store -/
def e39va12063 (qq : Nat) (q0 : Int) (q1 : Int) (p1 : Int) : Option (Int) :=
  some p1
theorem q39va12063 : Tryz.prog.funcs[39]? = some Tryz.f39 ∧ Tryz.f39.body.isNone = false := ⟨Tryz.func39, by kernel_rfl⟩
theorem k39va12063 {q0 : Int} {q1 : Int} {p1 : Int} {r : Int} (h : CTri Tryz.prog 39 [.cells [ai q0, ai q1]] [.mp 0 0, ai p1] (.tup []) [.cells [ai r, ai q1]] 0) : CT Tryz.prog 39 [.cells [ai q0, ai q1]] [.mp 0 0, ai p1] (.tup []) [.cells [ai r, ai q1]] 0 := ⟨h, ⟨(show 0 < 1 by decide), trivial, trivial⟩, (forall_cons ⟨trivial, trivial, trivial⟩ forall_nil), trivial, (forall_cons ⟨trivial, trivial, trivial⟩ forall_nil)⟩
theorem c39va12063 {qq : Nat} {q0 : Int} {q1 : Int} {p1 : Int} {r : Int} (h : e39va12063 qq q0 q1 p1 = some r) : CT Tryz.prog 39 [.cells [ai q0, ai q1]] [.mp 0 0, ai p1] (.tup []) [.cells [ai r, ai q1]] 0 := by
  unfold e39va12063 at h
  obtain rfl := sj h
  exact k39va12063 (tF q39va12063 1 [0] (o0) (by kernel_rfl))
theorem m39va12063 {qq : Nat} {q0 : Int} {q1 : Int} {p1 : Int} {r : Int} (h : e39va12063 qq q0 q1 p1 = some r) : e39va12063 (qq + 1) q0 q1 p1 = some r := by
  unfold e39va12063 at h ⊢
  exact h

end Go.Proofs.YtlbmblbeccafcaaGreat

namespace Go.Proofs.YtlbmblbeccafcaaGreat
open Go Go.Ab

/- scholium/meter.New -/
def e12 (qq : Nat) (p0 : Int) : Option (Int × Int × Int) :=
  if decide (p0 < 0) = true then
    none
  else
    if decide (p0 > 1048576) = true then
      none
    else
      (e39va12063 qq 0 0 p0) >>= fun r3 =>
      some (0, r3, 0)
theorem q12 : Tryz.prog.funcs[12]? = some Tryz.f12 ∧ Tryz.f12.body.isNone = false := ⟨Tryz.func12, by kernel_rfl⟩
theorem k12 {p0 : Int} {r : Int × Int × Int} (h : CTri Tryz.prog 12 [] [ai p0] (.tup [.mp 0 0, ai r.1]) [.cells [ai r.2.1, ai r.2.2]] 0) : CT Tryz.prog 12 [] [ai p0] (.tup [.mp 0 0, ai r.1]) [.cells [ai r.2.1, ai r.2.2]] 0 := ⟨h, ⟨trivial, trivial⟩, forall_nil, ⟨(show 0 < 1 by decide), trivial, trivial⟩, (forall_cons ⟨trivial, trivial, trivial⟩ forall_nil)⟩
theorem c12 {qq : Nat} {p0 : Int} {r : Int × Int × Int} (h : e12 qq p0 = some r) : CT Tryz.prog 12 [] [ai p0] (.tup [.mp 0 0, ai r.1]) [.cells [ai r.2.1, ai r.2.2]] 0 := by
  unfold e12 at h
  obtain ⟨h1, h⟩ := splF h
  have k := oB 0 h1 o0
  obtain ⟨h2, h⟩ := splF h
  obtain ⟨r3, h4, h⟩ := obind h
  obtain rfl := sj h
  exact k12 (tF q12 0 [0] (oC 0 [0] (c39va12063 h4) <| oB 0 h2 k) (by kernel_rfl))
theorem m12 {qq : Nat} {p0 : Int} {r : Int × Int × Int} (h : e12 qq p0 = some r) : e12 (qq + 1) p0 = some r := by
  unfold e12 at h ⊢
  obtain ⟨k, h⟩ := splF h
  rw [ifFe k]
  obtain ⟨k, h⟩ := splF h
  rw [ifFe k]
  obtain ⟨r3, hx, h⟩ := obind h
  refine obk (m39va12063 hx) ?_
  exact h

end Go.Proofs.YtlbmblbeccafcaaGreat

namespace Go.Proofs.YtlbmblbeccafcaaGreat
open Go Go.Ab

/- (*scholium/whnf.Machine).Len -/
def e42 (qq : Nat) (M : Mach) : Option (Int) :=
  some (List.length M.l : Int)
theorem q42 : Tryz.prog.funcs[42]? = some Tryz.f42 ∧ Tryz.f42.body.isNone = false := ⟨Tryz.func42, by kernel_rfl⟩
theorem k42 {M : Mach} {r : Int} (h : CTri Tryz.prog 42 [.cells [.sl (flat entL M.l) (List.length M.l) .no, .mp 1 0, .sl (flat intC M.args) (List.length M.args) .no, .sl (flat intC M.own) (List.length M.own) .no], .cells [.sl (flat entL M.rl) (List.length M.rl) .no, .sl (flat conL M.parts) (List.length M.parts) .no]] [.mp 0 0] (ai r) [.cells [.sl (flat entL M.l) (List.length M.l) .no, .mp 1 0, .sl (flat intC M.args) (List.length M.args) .no, .sl (flat intC M.own) (List.length M.own) .no], .cells [.sl (flat entL M.rl) (List.length M.rl) .no, .sl (flat conL M.parts) (List.length M.parts) .no]] 0) : CT Tryz.prog 42 [.cells [.sl (flat entL M.l) (List.length M.l) .no, .mp 1 0, .sl (flat intC M.args) (List.length M.args) .no, .sl (flat intC M.own) (List.length M.own) .no], .cells [.sl (flat entL M.rl) (List.length M.rl) .no, .sl (flat conL M.parts) (List.length M.parts) .no]] [.mp 0 0] (ai r) [.cells [.sl (flat entL M.l) (List.length M.l) .no, .mp 1 0, .sl (flat intC M.args) (List.length M.args) .no, .sl (flat intC M.own) (List.length M.own) .no], .cells [.sl (flat entL M.rl) (List.length M.rl) .no, .sl (flat conL M.parts) (List.length M.parts) .no]] 0 := ⟨h, ⟨(show 0 < 2 by decide), trivial⟩, (forall_cons ⟨⟨trivial, dE _⟩, (show 1 < 2 by decide), ⟨trivial, dI _⟩, ⟨trivial, dI _⟩, trivial⟩ (forall_cons ⟨⟨trivial, dE _⟩, ⟨trivial, dC _⟩, trivial⟩ forall_nil)), trivial, (forall_cons ⟨dE _, (show 1 < 2 by decide), dI _, dI _, trivial⟩ (forall_cons ⟨dE _, dC _, trivial⟩ forall_nil))⟩
theorem c42 {qq : Nat} {M : Mach} {r : Int} (h : e42 qq M = some r) : CT Tryz.prog 42 [.cells [.sl (flat entL M.l) (List.length M.l) .no, .mp 1 0, .sl (flat intC M.args) (List.length M.args) .no, .sl (flat intC M.own) (List.length M.own) .no], .cells [.sl (flat entL M.rl) (List.length M.rl) .no, .sl (flat conL M.parts) (List.length M.parts) .no]] [.mp 0 0] (ai r) [.cells [.sl (flat entL M.l) (List.length M.l) .no, .mp 1 0, .sl (flat intC M.args) (List.length M.args) .no, .sl (flat intC M.own) (List.length M.own) .no], .cells [.sl (flat entL M.rl) (List.length M.rl) .no, .sl (flat conL M.parts) (List.length M.parts) .no]] 0 := by
  unfold e42 at h
  obtain rfl := sj h
  exact k42 (tF q42 3 [0, 1] (oD (dC M.parts) <| oD (dE M.rl) <| oD (dI M.own) <| oD (dI M.args) <| oD (dE M.l) o0) (by kernel_rfl))
theorem m42 {qq : Nat} {M : Mach} {r : Int} (h : e42 qq M = some r) : e42 (qq + 1) M = some r := by
  unfold e42 at h ⊢
  exact h

end Go.Proofs.YtlbmblbeccafcaaGreat

namespace Go.Proofs.YtlbmblbeccafcaaGreat
open Go Go.Ab

/- scholium/subst.fits -/
def e166 (qq : Nat) (p0 : Int) : Option (Bool) :=
  if decide (p0 ≥ 0) = true then
    some (decide (p0 ≤ 1048576))
  else
    none
theorem q166 : Tryz.prog.funcs[166]? = some Tryz.f166 ∧ Tryz.f166.body.isNone = false := ⟨Tryz.func166, by kernel_rfl⟩
theorem k166 {p0 : Int} {r : Bool} (h : CTri Tryz.prog 166 [] [ai p0] (ab r) [] 0) : CT Tryz.prog 166 [] [ai p0] (ab r) [] 0 := ⟨h, ⟨trivial, trivial⟩, forall_nil, trivial, forall_nil⟩
theorem c166 {qq : Nat} {p0 : Int} {r : Bool} (h : e166 qq p0 = some r) : CT Tryz.prog 166 [] [ai p0] (ab r) [] 0 := by
  unfold e166 at h
  obtain ⟨h1, h⟩ := splT h
  obtain rfl := sj h
  exact k166 (tF q166 1 [] (oB 0 h1 o0) (by kernel_rfl))
theorem m166 {qq : Nat} {p0 : Int} {r : Bool} (h : e166 qq p0 = some r) : e166 (qq + 1) p0 = some r := by
  unfold e166 at h ⊢
  obtain ⟨k, h⟩ := splT h
  rw [ifTe k]
  exact h

end Go.Proofs.YtlbmblbeccafcaaGreat

namespace Go.Proofs.YtlbmblbeccafcaaGreat
open Go Go.Ab

/- scholium/subst.Named$1 -/
def e168va13904 (qq : Nat) (q0 : Int) (q1 : Bool) (q2 : Int) (q3 : Int) (q4 : Int) (q5 : List Tm) : Option (Unit) :=
  some ()
theorem q168va13904 : Tryz.prog.funcs[168]? = some Tryz.f168 ∧ Tryz.f168.body.isNone = false := ⟨Tryz.func168, by kernel_rfl⟩
theorem k168va13904 {q0 : Int} {q1 : Bool} {q2 : Int} {q3 : Int} {q4 : Int} {q5 : List Tm}  (h : CTri Tryz.prog 168 [.cells [ai q0, ab q1, .val .nilFunc], .cells [ai q2], .cells [ai q3, ai q4, .sl (flat tmCells q5) (List.length q5) .no]] [.mp 0 0, .mp 1 0, .mp 2 0] (.clo 169 [] [.mp 1 0, .mp 3 0, .mp 2 0]) [.cells [ai q0, ab q1, .val .nilFunc], .cells [ai q2], .cells [ai q3, ai q4, .sl (flat tmCells q5) (List.length q5) .no], .cells [.mp 0 0]] 0) : CT Tryz.prog 168 [.cells [ai q0, ab q1, .val .nilFunc], .cells [ai q2], .cells [ai q3, ai q4, .sl (flat tmCells q5) (List.length q5) .no]] [.mp 0 0, .mp 1 0, .mp 2 0] (.clo 169 [] [.mp 1 0, .mp 3 0, .mp 2 0]) [.cells [ai q0, ab q1, .val .nilFunc], .cells [ai q2], .cells [ai q3, ai q4, .sl (flat tmCells q5) (List.length q5) .no], .cells [.mp 0 0]] 0 := ⟨h, ⟨(show 0 < 3 by decide), (show 1 < 3 by decide), (show 2 < 3 by decide), trivial⟩, (forall_cons ⟨trivial, trivial, trivial, trivial⟩ (forall_cons ⟨trivial, trivial⟩ (forall_cons ⟨trivial, trivial, ⟨trivial, dT _⟩, trivial⟩ forall_nil))), ⟨trivial, ⟨(show 1 < 4 by decide), (show 3 < 4 by decide), (show 2 < 4 by decide), trivial⟩⟩, (forall_cons ⟨trivial, trivial, trivial, trivial⟩ (forall_cons ⟨trivial, trivial⟩ (forall_cons ⟨trivial, trivial, dT _, trivial⟩ (forall_cons ⟨(show 0 < 4 by decide), trivial⟩ forall_nil))))⟩
theorem c168va13904 {qq : Nat} {q0 : Int} {q1 : Bool} {q2 : Int} {q3 : Int} {q4 : Int} {q5 : List Tm} {r : Unit} (h : e168va13904 qq q0 q1 q2 q3 q4 q5 = some r) : CT Tryz.prog 168 [.cells [ai q0, ab q1, .val .nilFunc], .cells [ai q2], .cells [ai q3, ai q4, .sl (flat tmCells q5) (List.length q5) .no]] [.mp 0 0, .mp 1 0, .mp 2 0] (.clo 169 [] [.mp 1 0, .mp 3 0, .mp 2 0]) [.cells [ai q0, ab q1, .val .nilFunc], .cells [ai q2], .cells [ai q3, ai q4, .sl (flat tmCells q5) (List.length q5) .no], .cells [.mp 0 0]] 0 := by
  unfold e168va13904 at h
  obtain rfl := sj h
  exact k168va13904 (tF q168va13904 0 [0, 1, 2, 3] (oD (dT q5) o0) (by kernel_rfl))
theorem m168va13904 {qq : Nat} {q0 : Int} {q1 : Bool} {q2 : Int} {q3 : Int} {q4 : Int} {q5 : List Tm} {r : Unit} (h : e168va13904 qq q0 q1 q2 q3 q4 q5 = some r) : e168va13904 (qq + 1) q0 q1 q2 q3 q4 q5 = some r := by
  unfold e168va13904 at h ⊢
  exact h

end Go.Proofs.YtlbmblbeccafcaaGreat

namespace Go.Proofs.YtlbmblbeccafcaaGreat
open Go Go.Ab

/- scholium/lift.fits -/
def e342 (qq : Nat) (p0 : Int) : Option (Bool) :=
  if decide (p0 ≥ 0) = true then
    some (decide (p0 ≤ 1048576))
  else
    none
theorem q342 : Tryz.prog.funcs[342]? = some Tryz.f342 ∧ Tryz.f342.body.isNone = false := ⟨Tryz.func342, by kernel_rfl⟩
theorem k342 {p0 : Int} {r : Bool} (h : CTri Tryz.prog 342 [] [ai p0] (ab r) [] 0) : CT Tryz.prog 342 [] [ai p0] (ab r) [] 0 := ⟨h, ⟨trivial, trivial⟩, forall_nil, trivial, forall_nil⟩
theorem c342 {qq : Nat} {p0 : Int} {r : Bool} (h : e342 qq p0 = some r) : CT Tryz.prog 342 [] [ai p0] (ab r) [] 0 := by
  unfold e342 at h
  obtain ⟨h1, h⟩ := splT h
  obtain rfl := sj h
  exact k342 (tF q342 1 [] (oB 0 h1 o0) (by kernel_rfl))
theorem m342 {qq : Nat} {p0 : Int} {r : Bool} (h : e342 qq p0 = some r) : e342 (qq + 1) p0 = some r := by
  unfold e342 at h ⊢
  obtain ⟨k, h⟩ := splT h
  rw [ifTe k]
  exact h

end Go.Proofs.YtlbmblbeccafcaaGreat

namespace Go.Proofs.YtlbmblbeccafcaaGreat
open Go Go.Ab

/- scholium/lift.walk -/
def e343va45641L14922 (qq : Nat) (p0 : Tm) (p1 : Int) (q2 : Int) (q3 : Int) (v38 : Int) (vb4_2 : List Tm) : Option (Tm) :=
  if decide (v38 < (List.length p0.sub : Int)) = true then
    none
  else
    some (Tm.mk p0.k p0.n vb4_2)
def e343va45641 (qq : Nat) (p0 : Tm) (p1 : Int) (q2 : Int) (q3 : Int) : Option (Tm) :=
  if (p0.k == 1) = true then
    none
  else
    e343va45641L14922 qq p0 p1 q2 q3 0 []
def g343va45641L14922E0 (j : Nat → Value) (p0 : Tm) (p1 : Int) (q2 : Int) (q3 : Int) (v38 : Int) (vb4_2 : List Tm) : List AV := sp j 64 0 [(1, ai p1), (2, .clo 344 [] [.mp 0 0, .mp 1 0]), (3, .mp 2 0), (6, .mp 3 0), (7, .mp 4 0), (36, .sl (flat tmCells p0.sub) (List.length p0.sub) .no), (37, ai (List.length p0.sub : Int)), (38, ai v38)]
def g343va45641L14922S0 (p0 : Tm) (p1 : Int) (q2 : Int) (q3 : Int) (v38 : Int) (vb4_2 : List Tm) : LSt := ⟨[(0, .cells [ai q2]), (1, .cells [ai q3]), (2, .cells [ai p0.k, ai p0.n, .sl (flat tmCells p0.sub) (List.length p0.sub) .no]), (3, .cells [ai 0, ai 0, .sl (flat tmCells ([] : List Tm)) (List.length ([] : List Tm)) .nl]), (4, .cells [ai p0.k, ai p0.n, .sl (flat tmCells vb4_2) (List.length vb4_2) (.st 0 3)])], 5, [0], 1, []⟩
theorem q343va45641 : Tryz.prog.funcs[343]? = some Tryz.f343 ∧ Tryz.f343.body.isNone = false := ⟨Tryz.func343, by kernel_rfl⟩
theorem k343va45641 {p0 : Tm} {p1 : Int} {q2 : Int} {q3 : Int} {r : Tm} (h : CTri Tryz.prog 343 [.cells [ai q2], .cells [ai q3]] [tmA p0, ai p1, .clo 344 [] [.mp 0 0, .mp 1 0]] (tmA r) [.cells [ai q2], .cells [ai q3]] 0) : CT Tryz.prog 343 [.cells [ai q2], .cells [ai q3]] [tmA p0, ai p1, .clo 344 [] [.mp 0 0, .mp 1 0]] (tmA r) [.cells [ai q2], .cells [ai q3]] 0 := ⟨h, ⟨⟨trivial, trivial, ⟨trivial, dT _⟩, trivial⟩, trivial, ⟨trivial, ⟨(show 0 < 2 by decide), (show 1 < 2 by decide), trivial⟩⟩, trivial⟩, (forall_cons ⟨trivial, trivial⟩ (forall_cons ⟨trivial, trivial⟩ forall_nil)), ⟨trivial, trivial, dT _, trivial⟩, (forall_cons ⟨trivial, trivial⟩ (forall_cons ⟨trivial, trivial⟩ forall_nil))⟩
theorem l343va45641L14922 (qq : Nat) (p0 : Tm) (p1 : Int) (q2 : Int) (q3 : Int) (v38 : Int) (vb4_2 : List Tm) (r : Tm) (h : e343va45641L14922 qq p0 p1 q2 q3 v38 vb4_2 = some r) : (∀ j, Dl Tryz.prog 2 (inn (inn (rgt (lft (rgt (rgt (rgt (bod Tryz.f343)))))))) (g343va45641L14922E0 j p0 p1 q2 q3 v38 vb4_2) (g343va45641L14922S0 p0 p1 q2 q3 v38 vb4_2) (frameQ Tryz.prog 2 (FinQ Tryz.prog 2 Tryz.f343 (tmA r) [.cells [ai q2], .cells [ai q3]] 0) [.blk 0, .seq (rgt (rgt (rgt (rgt (bod Tryz.f343)))))])) := by
  unfold e343va45641L14922 at h
  obtain ⟨h9, h⟩ := splF h
  obtain rfl := sj h
  exact fun j => lF 2 [0, 1] (oD (dT vb4_2) <| oB 0 h9 o0) (by kernel_rfl)
theorem c343va45641 {qq : Nat} {p0 : Tm} {p1 : Int} {q2 : Int} {q3 : Int} {r : Tm} (h : e343va45641 qq p0 p1 q2 q3 = some r) : CT Tryz.prog 343 [.cells [ai q2], .cells [ai q3]] [tmA p0, ai p1, .clo 344 [] [.mp 0 0, .mp 1 0]] (tmA r) [.cells [ai q2], .cells [ai q3]] 0 := by
  unfold e343va45641 at h
  obtain ⟨h1, h⟩ := splF h
  exact k343va45641 (tH q343va45641 5 [(some 4, 2, 3)] [0, 1, 2, 3, 4] [0] [1, 2, 3, 6, 7, 36, 37, 38] (oD (dT p0.sub) <| oD (dT ([] : List Tm)) <| oD (dT ([] : List Tm)) <| oD (dT p0.sub) <| oB 1 h1 o0) (l343va45641L14922 qq _ _ _ _ _ _ _ h) (fun j => by kernel_rfl))
theorem m343va45641L14922 {qq : Nat} {p0 : Tm} {p1 : Int} {q2 : Int} {q3 : Int} {v38 : Int} {vb4_2 : List Tm} {r : Tm} (h : e343va45641L14922 qq p0 p1 q2 q3 v38 vb4_2 = some r) : e343va45641L14922 (qq + 1) p0 p1 q2 q3 v38 vb4_2 = some r := by
  unfold e343va45641L14922 at h ⊢
  obtain ⟨k, h⟩ := splF h
  rw [ifFe k]
  exact h
theorem m343va45641 {qq : Nat} {p0 : Tm} {p1 : Int} {q2 : Int} {q3 : Int} {r : Tm} (h : e343va45641 qq p0 p1 q2 q3 = some r) : e343va45641 (qq + 1) p0 p1 q2 q3 = some r := by
  unfold e343va45641 at h ⊢
  obtain ⟨k, h⟩ := splF h
  rw [ifFe k]
  exact m343va45641L14922 h

end Go.Proofs.YtlbmblbeccafcaaGreat

namespace Go.Proofs.YtlbmblbeccafcaaGreat
open Go Go.Ab

/- scholium/lift.Lift -/
def e294 (qq : Nat) (p0 : Tm) (p1 : Int) (p2 : Int) : Option (Tm × Int) :=
  (e51 qq p0) >>= fun r1 =>
  if r1 = true then
    (e342 qq p1) >>= fun r4 =>
    if r4 = true then
      (e342 qq p2) >>= fun r7 =>
      if r7 = true then
        (e343va45641 qq p0 0 p2 p1) >>= fun r10 =>
        (e51 qq r10) >>= fun r12 =>
        if r12 = true then
          some (r10, 0)
        else
          none
      else
        none
    else
      none
  else
    none
theorem q294 : Tryz.prog.funcs[294]? = some Tryz.f294 ∧ Tryz.f294.body.isNone = false := ⟨Tryz.func294, by kernel_rfl⟩
theorem k294 {p0 : Tm} {p1 : Int} {p2 : Int} {r : Tm × Int} (h : CTri Tryz.prog 294 [] [tmA p0, ai p1, ai p2] (.tup [tmA r.1, ai r.2]) [] 0) : CT Tryz.prog 294 [] [tmA p0, ai p1, ai p2] (.tup [tmA r.1, ai r.2]) [] 0 := ⟨h, ⟨⟨trivial, trivial, ⟨trivial, dT _⟩, trivial⟩, trivial, trivial, trivial⟩, forall_nil, ⟨⟨trivial, trivial, dT _, trivial⟩, trivial, trivial⟩, forall_nil⟩
theorem c294 {qq : Nat} {p0 : Tm} {p1 : Int} {p2 : Int} {r : Tm × Int} (h : e294 qq p0 p1 p2 = some r) : CT Tryz.prog 294 [] [tmA p0, ai p1, ai p2] (.tup [tmA r.1, ai r.2]) [] 0 := by
  unfold e294 at h
  obtain ⟨r1, h2, h⟩ := obind h
  obtain ⟨h3, h⟩ := splT h
  obtain ⟨r4, h5, h⟩ := obind h
  have k := oK 1 [] h3 (c51 h2) o0
  obtain ⟨h6, h⟩ := splT h
  obtain ⟨r7, h8, h⟩ := obind h
  have k := oK 2 [] h6 (c342 h5) k
  obtain ⟨h9, h⟩ := splT h
  obtain ⟨r10, h11, h⟩ := obind h
  obtain ⟨r12, h13, h⟩ := obind h
  have k := oC 2 [2, 1] (c343va45641 h11) <| oK 2 [] h9 (c342 h8) k
  obtain ⟨h14, h⟩ := splT h
  obtain rfl := sj h
  exact k294 (tF q294 3 [] (oD (dT r10.sub) <| oK 2 [] h14 (c51 h13) k) (by kernel_rfl))
theorem m294 {qq : Nat} {p0 : Tm} {p1 : Int} {p2 : Int} {r : Tm × Int} (h : e294 qq p0 p1 p2 = some r) : e294 (qq + 1) p0 p1 p2 = some r := by
  unfold e294 at h ⊢
  obtain ⟨r1, hx, h⟩ := obind h
  refine obk (m51 hx) ?_
  obtain ⟨k, h⟩ := splT h
  rw [ifTe k]
  obtain ⟨r4, hx, h⟩ := obind h
  refine obk (m342 hx) ?_
  obtain ⟨k, h⟩ := splT h
  rw [ifTe k]
  obtain ⟨r7, hx, h⟩ := obind h
  refine obk (m342 hx) ?_
  obtain ⟨k, h⟩ := splT h
  rw [ifTe k]
  obtain ⟨r10, hx, h⟩ := obind h
  refine obk (m343va45641 hx) ?_
  obtain ⟨r12, hx, h⟩ := obind h
  refine obk (m51 hx) ?_
  obtain ⟨k, h⟩ := splT h
  rw [ifTe k]
  exact h

end Go.Proofs.YtlbmblbeccafcaaGreat

namespace Go.Proofs.YtlbmblbeccafcaaGreat
open Go Go.Ab

/- scholium/lift.Up -/
def e231 (qq : Nat) (p0 : Tm) (p1 : Int) : Option (Tm × Int) :=
  (e294 qq p0 p1 0) >>= fun r1 =>
  some (r1.1, r1.2)
theorem q231 : Tryz.prog.funcs[231]? = some Tryz.f231 ∧ Tryz.f231.body.isNone = false := ⟨Tryz.func231, by kernel_rfl⟩
theorem k231 {p0 : Tm} {p1 : Int} {r : Tm × Int} (h : CTri Tryz.prog 231 [] [tmA p0, ai p1] (.tup [tmA r.1, ai r.2]) [] 0) : CT Tryz.prog 231 [] [tmA p0, ai p1] (.tup [tmA r.1, ai r.2]) [] 0 := ⟨h, ⟨⟨trivial, trivial, ⟨trivial, dT _⟩, trivial⟩, trivial, trivial⟩, forall_nil, ⟨⟨trivial, trivial, dT _, trivial⟩, trivial, trivial⟩, forall_nil⟩
theorem c231 {qq : Nat} {p0 : Tm} {p1 : Int} {r : Tm × Int} (h : e231 qq p0 p1 = some r) : CT Tryz.prog 231 [] [tmA p0, ai p1] (.tup [tmA r.1, ai r.2]) [] 0 := by
  unfold e231 at h
  obtain ⟨r1, h2, h⟩ := obind h
  obtain rfl := sj h
  exact k231 (tF q231 3 [] (oD (dT r1.1.sub) <| oC 1 [] (c294 h2) o0) (by kernel_rfl))
theorem m231 {qq : Nat} {p0 : Tm} {p1 : Int} {r : Tm × Int} (h : e231 qq p0 p1 = some r) : e231 (qq + 1) p0 p1 = some r := by
  unfold e231 at h ⊢
  obtain ⟨r1, hx, h⟩ := obind h
  refine obk (m294 hx) ?_
  exact h

end Go.Proofs.YtlbmblbeccafcaaGreat

namespace Go.Proofs.YtlbmblbeccafcaaGreat
open Go Go.Ab

/- (*scholium/subst.walker).raised -/
def e170va49381 (qq : Nat) (q0 : Int) (q1 : Bool) (q2 : Int) (q3 : Int) (q4 : Int) (q5 : List Tm) (p1 : Tm) (p2 : Int) : Option (Tm × Int × Bool) :=
  (e129 qq p1) >>= fun r1 =>
  if decide ((w64 (q0 - r1)) < 0) = true then
    none
  else
    (e231 qq p1 p2) >>= fun r6 =>
    if (r6.2 != 0) = true then
      none
    else
      some (r6.1, (w64 (q0 - r1)), q1)
theorem q170va49381 : Tryz.prog.funcs[170]? = some Tryz.f170 ∧ Tryz.f170.body.isNone = false := ⟨Tryz.func170, by kernel_rfl⟩
theorem k170va49381 {q0 : Int} {q1 : Bool} {q2 : Int} {q3 : Int} {q4 : Int} {q5 : List Tm} {p1 : Tm} {p2 : Int} {r : Tm × Int × Bool} (h : CTri Tryz.prog 170 [.cells [ai q0, ab q1, .clo 169 [] [.mp 1 0, .mp 2 0, .mp 3 0]], .cells [ai q2], .cells [.mp 0 0], .cells [ai q3, ai q4, .sl (flat tmCells q5) (List.length q5) .no]] [.mp 0 0, tmA p1, ai p2] (tmA r.1) [.cells [ai r.2.1, ab r.2.2, .clo 169 [] [.mp 1 0, .mp 2 0, .mp 3 0]], .cells [ai q2], .cells [.mp 0 0], .cells [ai q3, ai q4, .sl (flat tmCells q5) (List.length q5) .no]] 0) : CT Tryz.prog 170 [.cells [ai q0, ab q1, .clo 169 [] [.mp 1 0, .mp 2 0, .mp 3 0]], .cells [ai q2], .cells [.mp 0 0], .cells [ai q3, ai q4, .sl (flat tmCells q5) (List.length q5) .no]] [.mp 0 0, tmA p1, ai p2] (tmA r.1) [.cells [ai r.2.1, ab r.2.2, .clo 169 [] [.mp 1 0, .mp 2 0, .mp 3 0]], .cells [ai q2], .cells [.mp 0 0], .cells [ai q3, ai q4, .sl (flat tmCells q5) (List.length q5) .no]] 0 := ⟨h, ⟨(show 0 < 4 by decide), ⟨trivial, trivial, ⟨trivial, dT _⟩, trivial⟩, trivial, trivial⟩, (forall_cons ⟨trivial, trivial, ⟨trivial, ⟨(show 1 < 4 by decide), (show 2 < 4 by decide), (show 3 < 4 by decide), trivial⟩⟩, trivial⟩ (forall_cons ⟨trivial, trivial⟩ (forall_cons ⟨(show 0 < 4 by decide), trivial⟩ (forall_cons ⟨trivial, trivial, ⟨trivial, dT _⟩, trivial⟩ forall_nil)))), ⟨trivial, trivial, dT _, trivial⟩, (forall_cons ⟨trivial, trivial, ⟨trivial, ⟨(show 1 < 4 by decide), (show 2 < 4 by decide), (show 3 < 4 by decide), trivial⟩⟩, trivial⟩ (forall_cons ⟨trivial, trivial⟩ (forall_cons ⟨(show 0 < 4 by decide), trivial⟩ (forall_cons ⟨trivial, trivial, dT _, trivial⟩ forall_nil))))⟩
theorem c170va49381 {qq : Nat} {q0 : Int} {q1 : Bool} {q2 : Int} {q3 : Int} {q4 : Int} {q5 : List Tm} {p1 : Tm} {p2 : Int} {r : Tm × Int × Bool} (h : e170va49381 qq q0 q1 q2 q3 q4 q5 p1 p2 = some r) : CT Tryz.prog 170 [.cells [ai q0, ab q1, .clo 169 [] [.mp 1 0, .mp 2 0, .mp 3 0]], .cells [ai q2], .cells [.mp 0 0], .cells [ai q3, ai q4, .sl (flat tmCells q5) (List.length q5) .no]] [.mp 0 0, tmA p1, ai p2] (tmA r.1) [.cells [ai r.2.1, ab r.2.2, .clo 169 [] [.mp 1 0, .mp 2 0, .mp 3 0]], .cells [ai q2], .cells [.mp 0 0], .cells [ai q3, ai q4, .sl (flat tmCells q5) (List.length q5) .no]] 0 := by
  unfold e170va49381 at h
  obtain ⟨r1, h2, h⟩ := obind h
  have k := oC 2 [] (c129 h2) o0
  obtain ⟨h3, h⟩ := splF h
  obtain ⟨r6, h7, h⟩ := obind h
  have k := oC 1 [] (c231 h7) <| oB 3 h3 k
  obtain ⟨h8, h⟩ := splF h
  obtain rfl := sj h
  exact k170va49381 (tF q170va49381 2 [0, 1, 2, 3] (oD (dT r6.1.sub) <| oD (dT q5) <| oB 3 h8 k) (by kernel_rfl))
theorem m170va49381 {qq : Nat} {q0 : Int} {q1 : Bool} {q2 : Int} {q3 : Int} {q4 : Int} {q5 : List Tm} {p1 : Tm} {p2 : Int} {r : Tm × Int × Bool} (h : e170va49381 qq q0 q1 q2 q3 q4 q5 p1 p2 = some r) : e170va49381 (qq + 1) q0 q1 q2 q3 q4 q5 p1 p2 = some r := by
  unfold e170va49381 at h ⊢
  obtain ⟨r1, hx, h⟩ := obind h
  refine obk (m129 hx) ?_
  obtain ⟨k, h⟩ := splF h
  rw [ifFe k]
  obtain ⟨r6, hx, h⟩ := obind h
  refine obk (m231 hx) ?_
  obtain ⟨k, h⟩ := splF h
  rw [ifFe k]
  exact h

end Go.Proofs.YtlbmblbeccafcaaGreat

namespace Go.Proofs.YtlbmblbeccafcaaGreat
open Go Go.Ab

/- scholium/subst.Named$1$1 -/
def e169va53239 (qq : Nat) (p0 : Tm) (p1 : Int) (q2 : Int) (q3 : Int) (q4 : Bool) (q5 : Int) (q6 : Int) (q7 : List Tm) : Option (Tm × Bool × Int × Bool) :=
  if (p0.k != 8) = true then
    none
  else
    if (p0.n != q2) = true then
      none
    else
      (e170va49381 qq q3 q4 q2 q5 q6 q7 (Tm.mk q5 q6 q7) p1) >>= fun r3 =>
      some (r3.1, true, r3.2.1, r3.2.2)
theorem q169va53239 : Tryz.prog.funcs[169]? = some Tryz.f169 ∧ Tryz.f169.body.isNone = false := ⟨Tryz.func169, by kernel_rfl⟩
theorem k169va53239 {p0 : Tm} {p1 : Int} {q2 : Int} {q3 : Int} {q4 : Bool} {q5 : Int} {q6 : Int} {q7 : List Tm} {r : Tm × Bool × Int × Bool} (h : CTri Tryz.prog 169 [.cells [ai q2], .cells [.mp 2 0], .cells [ai q3, ab q4, .clo 169 [] [.mp 0 0, .mp 1 0, .mp 3 0]], .cells [ai q5, ai q6, .sl (flat tmCells q7) (List.length q7) .no]] [tmA p0, ai p1, .mp 0 0, .mp 1 0, .mp 3 0] (.tup [tmA r.1, ab r.2.1]) [.cells [ai q2], .cells [.mp 2 0], .cells [ai r.2.2.1, ab r.2.2.2, .clo 169 [] [.mp 0 0, .mp 1 0, .mp 3 0]], .cells [ai q5, ai q6, .sl (flat tmCells q7) (List.length q7) .no]] 0) : CT Tryz.prog 169 [.cells [ai q2], .cells [.mp 2 0], .cells [ai q3, ab q4, .clo 169 [] [.mp 0 0, .mp 1 0, .mp 3 0]], .cells [ai q5, ai q6, .sl (flat tmCells q7) (List.length q7) .no]] [tmA p0, ai p1, .mp 0 0, .mp 1 0, .mp 3 0] (.tup [tmA r.1, ab r.2.1]) [.cells [ai q2], .cells [.mp 2 0], .cells [ai r.2.2.1, ab r.2.2.2, .clo 169 [] [.mp 0 0, .mp 1 0, .mp 3 0]], .cells [ai q5, ai q6, .sl (flat tmCells q7) (List.length q7) .no]] 0 := ⟨h, ⟨⟨trivial, trivial, ⟨trivial, dT _⟩, trivial⟩, trivial, (show 0 < 4 by decide), (show 1 < 4 by decide), (show 3 < 4 by decide), trivial⟩, (forall_cons ⟨trivial, trivial⟩ (forall_cons ⟨(show 2 < 4 by decide), trivial⟩ (forall_cons ⟨trivial, trivial, ⟨trivial, ⟨(show 0 < 4 by decide), (show 1 < 4 by decide), (show 3 < 4 by decide), trivial⟩⟩, trivial⟩ (forall_cons ⟨trivial, trivial, ⟨trivial, dT _⟩, trivial⟩ forall_nil)))), ⟨⟨trivial, trivial, dT _, trivial⟩, trivial, trivial⟩, (forall_cons ⟨trivial, trivial⟩ (forall_cons ⟨(show 2 < 4 by decide), trivial⟩ (forall_cons ⟨trivial, trivial, ⟨trivial, ⟨(show 0 < 4 by decide), (show 1 < 4 by decide), (show 3 < 4 by decide), trivial⟩⟩, trivial⟩ (forall_cons ⟨trivial, trivial, dT _, trivial⟩ forall_nil))))⟩
theorem c169va53239 {qq : Nat} {p0 : Tm} {p1 : Int} {q2 : Int} {q3 : Int} {q4 : Bool} {q5 : Int} {q6 : Int} {q7 : List Tm} {r : Tm × Bool × Int × Bool} (h : e169va53239 qq p0 p1 q2 q3 q4 q5 q6 q7 = some r) : CT Tryz.prog 169 [.cells [ai q2], .cells [.mp 2 0], .cells [ai q3, ab q4, .clo 169 [] [.mp 0 0, .mp 1 0, .mp 3 0]], .cells [ai q5, ai q6, .sl (flat tmCells q7) (List.length q7) .no]] [tmA p0, ai p1, .mp 0 0, .mp 1 0, .mp 3 0] (.tup [tmA r.1, ab r.2.1]) [.cells [ai q2], .cells [.mp 2 0], .cells [ai r.2.2.1, ab r.2.2.2, .clo 169 [] [.mp 0 0, .mp 1 0, .mp 3 0]], .cells [ai q5, ai q6, .sl (flat tmCells q7) (List.length q7) .no]] 0 := by
  unfold e169va53239 at h
  obtain ⟨h1, h⟩ := splF h
  have k := oB 1 h1 o0
  obtain ⟨h2, h⟩ := splF h
  obtain ⟨r3, h4, h⟩ := obind h
  obtain rfl := sj h
  exact k169va53239 (tF q169va53239 1 [0, 1, 2, 3] (oD (dT r3.1.sub) <| oD (dT q7) <| oC 2 [2, 0, 1, 3] (c170va49381 h4) <| oB 2 h2 k) (by kernel_rfl))
theorem m169va53239 {qq : Nat} {p0 : Tm} {p1 : Int} {q2 : Int} {q3 : Int} {q4 : Bool} {q5 : Int} {q6 : Int} {q7 : List Tm} {r : Tm × Bool × Int × Bool} (h : e169va53239 qq p0 p1 q2 q3 q4 q5 q6 q7 = some r) : e169va53239 (qq + 1) p0 p1 q2 q3 q4 q5 q6 q7 = some r := by
  unfold e169va53239 at h ⊢
  obtain ⟨k, h⟩ := splF h
  rw [ifFe k]
  obtain ⟨k, h⟩ := splF h
  rw [ifFe k]
  obtain ⟨r3, hx, h⟩ := obind h
  refine obk (m170va49381 hx) ?_
  exact h

end Go.Proofs.YtlbmblbeccafcaaGreat

namespace Go.Proofs.YtlbmblbeccafcaaGreat
open Go Go.Ab

/- (*scholium/subst.walker).walk -/
def e230va49381 (qq : Nat) (q0 : Int) (q1 : Bool) (q2 : Int) (q3 : Int) (q4 : Int) (q5 : List Tm) (p1 : Tm) (p2 : Int) : Option (Tm × Int × Bool) :=
  if q1 = true then
    none
  else
    (e169va53239 qq p1 p2 q2 q0 q1 q3 q4 q5) >>= fun r4 =>
    if r4.2.1 = true then
      some (r4.1, r4.2.2.1, r4.2.2.2)
    else
      none
theorem q230va49381 : Tryz.prog.funcs[230]? = some Tryz.f230 ∧ Tryz.f230.body.isNone = false := ⟨Tryz.func230, by kernel_rfl⟩
theorem k230va49381 {q0 : Int} {q1 : Bool} {q2 : Int} {q3 : Int} {q4 : Int} {q5 : List Tm} {p1 : Tm} {p2 : Int} {r : Tm × Int × Bool} (h : CTri Tryz.prog 230 [.cells [ai q0, ab q1, .clo 169 [] [.mp 1 0, .mp 2 0, .mp 3 0]], .cells [ai q2], .cells [.mp 0 0], .cells [ai q3, ai q4, .sl (flat tmCells q5) (List.length q5) .no]] [.mp 0 0, tmA p1, ai p2] (tmA r.1) [.cells [ai r.2.1, ab r.2.2, .clo 169 [] [.mp 1 0, .mp 2 0, .mp 3 0]], .cells [ai q2], .cells [.mp 0 0], .cells [ai q3, ai q4, .sl (flat tmCells q5) (List.length q5) .no]] 0) : CT Tryz.prog 230 [.cells [ai q0, ab q1, .clo 169 [] [.mp 1 0, .mp 2 0, .mp 3 0]], .cells [ai q2], .cells [.mp 0 0], .cells [ai q3, ai q4, .sl (flat tmCells q5) (List.length q5) .no]] [.mp 0 0, tmA p1, ai p2] (tmA r.1) [.cells [ai r.2.1, ab r.2.2, .clo 169 [] [.mp 1 0, .mp 2 0, .mp 3 0]], .cells [ai q2], .cells [.mp 0 0], .cells [ai q3, ai q4, .sl (flat tmCells q5) (List.length q5) .no]] 0 := ⟨h, ⟨(show 0 < 4 by decide), ⟨trivial, trivial, ⟨trivial, dT _⟩, trivial⟩, trivial, trivial⟩, (forall_cons ⟨trivial, trivial, ⟨trivial, ⟨(show 1 < 4 by decide), (show 2 < 4 by decide), (show 3 < 4 by decide), trivial⟩⟩, trivial⟩ (forall_cons ⟨trivial, trivial⟩ (forall_cons ⟨(show 0 < 4 by decide), trivial⟩ (forall_cons ⟨trivial, trivial, ⟨trivial, dT _⟩, trivial⟩ forall_nil)))), ⟨trivial, trivial, dT _, trivial⟩, (forall_cons ⟨trivial, trivial, ⟨trivial, ⟨(show 1 < 4 by decide), (show 2 < 4 by decide), (show 3 < 4 by decide), trivial⟩⟩, trivial⟩ (forall_cons ⟨trivial, trivial⟩ (forall_cons ⟨(show 0 < 4 by decide), trivial⟩ (forall_cons ⟨trivial, trivial, dT _, trivial⟩ forall_nil))))⟩
theorem c230va49381 {qq : Nat} {q0 : Int} {q1 : Bool} {q2 : Int} {q3 : Int} {q4 : Int} {q5 : List Tm} {p1 : Tm} {p2 : Int} {r : Tm × Int × Bool} (h : e230va49381 qq q0 q1 q2 q3 q4 q5 p1 p2 = some r) : CT Tryz.prog 230 [.cells [ai q0, ab q1, .clo 169 [] [.mp 1 0, .mp 2 0, .mp 3 0]], .cells [ai q2], .cells [.mp 0 0], .cells [ai q3, ai q4, .sl (flat tmCells q5) (List.length q5) .no]] [.mp 0 0, tmA p1, ai p2] (tmA r.1) [.cells [ai r.2.1, ab r.2.2, .clo 169 [] [.mp 1 0, .mp 2 0, .mp 3 0]], .cells [ai q2], .cells [.mp 0 0], .cells [ai q3, ai q4, .sl (flat tmCells q5) (List.length q5) .no]] 0 := by
  unfold e230va49381 at h
  obtain ⟨h1, h⟩ := splF h
  obtain ⟨r4, h5, h⟩ := obind h
  have k := oC 2 [1, 2, 0, 3] (c169va53239 h5) <| oB 0 h1 o0
  obtain ⟨h6, h⟩ := splT h
  obtain rfl := sj h
  exact k230va49381 (tF q230va49381 3 [0, 1, 2, 3] (oD (dT r4.1.sub) <| oD (dT q5) <| oB 1 h6 k) (by kernel_rfl))
theorem m230va49381 {qq : Nat} {q0 : Int} {q1 : Bool} {q2 : Int} {q3 : Int} {q4 : Int} {q5 : List Tm} {p1 : Tm} {p2 : Int} {r : Tm × Int × Bool} (h : e230va49381 qq q0 q1 q2 q3 q4 q5 p1 p2 = some r) : e230va49381 (qq + 1) q0 q1 q2 q3 q4 q5 p1 p2 = some r := by
  unfold e230va49381 at h ⊢
  obtain ⟨k, h⟩ := splF h
  rw [ifFe k]
  obtain ⟨r4, hx, h⟩ := obind h
  refine obk (m169va53239 hx) ?_
  obtain ⟨k, h⟩ := splT h
  rw [ifTe k]
  exact h

end Go.Proofs.YtlbmblbeccafcaaGreat

namespace Go.Proofs.YtlbmblbeccafcaaGreat
open Go Go.Ab

/- scholium/subst.run -/
def e167va41413 (qq : Nat) (p0 : Tm) (q1 : Int) (q2 : Int) (q3 : Int) (q4 : List Tm) : Option (Tm × Int) :=
  (e168va13904 qq 8192 false q1 q2 q3 q4) >>= fun r1 =>
  (e230va49381 qq 8192 false q1 q2 q3 q4 p0 0) >>= fun r3 =>
  if r3.2.2 = true then
    none
  else
    (e51 qq r3.1) >>= fun r6 =>
    if r6 = true then
      some (r3.1, 0)
    else
      none
theorem q167va41413 : Tryz.prog.funcs[167]? = some Tryz.f167 ∧ Tryz.f167.body.isNone = false := ⟨Tryz.func167, by kernel_rfl⟩
theorem k167va41413 {p0 : Tm} {q1 : Int} {q2 : Int} {q3 : Int} {q4 : List Tm} {r : Tm × Int} (h : CTri Tryz.prog 167 [.cells [ai q1], .cells [ai q2, ai q3, .sl (flat tmCells q4) (List.length q4) .no]] [tmA p0, .clo 168 [] [.mp 0 0, .mp 1 0]] (.tup [tmA r.1, ai r.2]) [.cells [ai q1], .cells [ai q2, ai q3, .sl (flat tmCells q4) (List.length q4) .no]] 0) : CT Tryz.prog 167 [.cells [ai q1], .cells [ai q2, ai q3, .sl (flat tmCells q4) (List.length q4) .no]] [tmA p0, .clo 168 [] [.mp 0 0, .mp 1 0]] (.tup [tmA r.1, ai r.2]) [.cells [ai q1], .cells [ai q2, ai q3, .sl (flat tmCells q4) (List.length q4) .no]] 0 := ⟨h, ⟨⟨trivial, trivial, ⟨trivial, dT _⟩, trivial⟩, ⟨trivial, ⟨(show 0 < 2 by decide), (show 1 < 2 by decide), trivial⟩⟩, trivial⟩, (forall_cons ⟨trivial, trivial⟩ (forall_cons ⟨trivial, trivial, ⟨trivial, dT _⟩, trivial⟩ forall_nil)), ⟨⟨trivial, trivial, dT _, trivial⟩, trivial, trivial⟩, (forall_cons ⟨trivial, trivial⟩ (forall_cons ⟨trivial, trivial, dT _, trivial⟩ forall_nil))⟩
theorem c167va41413 {qq : Nat} {p0 : Tm} {q1 : Int} {q2 : Int} {q3 : Int} {q4 : List Tm} {r : Tm × Int} (h : e167va41413 qq p0 q1 q2 q3 q4 = some r) : CT Tryz.prog 167 [.cells [ai q1], .cells [ai q2, ai q3, .sl (flat tmCells q4) (List.length q4) .no]] [tmA p0, .clo 168 [] [.mp 0 0, .mp 1 0]] (.tup [tmA r.1, ai r.2]) [.cells [ai q1], .cells [ai q2, ai q3, .sl (flat tmCells q4) (List.length q4) .no]] 0 := by
  unfold e167va41413 at h
  obtain ⟨r1, h2, h⟩ := obind h
  obtain ⟨r3, h4, h⟩ := obind h
  have k := oC 2 [4, 0, 5, 1] (c230va49381 h4) <| oC 0 [4, 0, 1] (c168va13904 h2) o0
  obtain ⟨h5, h⟩ := splF h
  obtain ⟨r6, h7, h⟩ := obind h
  have k := oB 1 h5 k
  obtain ⟨h8, h⟩ := splT h
  obtain rfl := sj h
  exact k167va41413 (tF q167va41413 3 [0, 1] (oD (dT r3.1.sub) <| oD (dT q4) <| oK 1 [] h8 (c51 h7) k) (by kernel_rfl))
theorem m167va41413 {qq : Nat} {p0 : Tm} {q1 : Int} {q2 : Int} {q3 : Int} {q4 : List Tm} {r : Tm × Int} (h : e167va41413 qq p0 q1 q2 q3 q4 = some r) : e167va41413 (qq + 1) p0 q1 q2 q3 q4 = some r := by
  unfold e167va41413 at h ⊢
  obtain ⟨r1, hx, h⟩ := obind h
  refine obk (m168va13904 hx) ?_
  obtain ⟨r3, hx, h⟩ := obind h
  refine obk (m230va49381 hx) ?_
  obtain ⟨k, h⟩ := splF h
  rw [ifFe k]
  obtain ⟨r6, hx, h⟩ := obind h
  refine obk (m51 hx) ?_
  obtain ⟨k, h⟩ := splT h
  rw [ifTe k]
  exact h

end Go.Proofs.YtlbmblbeccafcaaGreat

namespace Go.Proofs.YtlbmblbeccafcaaGreat
open Go Go.Ab

/- scholium/subst.Named -/
def e117 (qq : Nat) (p0 : Tm) (p1 : Tm) (p2 : Int) : Option (Tm × Int) :=
  (e51 qq p0) >>= fun r1 =>
  if r1 = true then
    (e51 qq p1) >>= fun r4 =>
    if r4 = true then
      (e166 qq p2) >>= fun r7 =>
      if r7 = true then
        (e167va41413 qq p0 p2 p1.k p1.n p1.sub) >>= fun r10 =>
        some (r10.1, r10.2)
      else
        none
    else
      none
  else
    none
theorem q117 : Tryz.prog.funcs[117]? = some Tryz.f117 ∧ Tryz.f117.body.isNone = false := ⟨Tryz.func117, by kernel_rfl⟩
theorem k117 {p0 : Tm} {p1 : Tm} {p2 : Int} {r : Tm × Int} (h : CTri Tryz.prog 117 [] [tmA p0, tmA p1, ai p2] (.tup [tmA r.1, ai r.2]) [] 0) : CT Tryz.prog 117 [] [tmA p0, tmA p1, ai p2] (.tup [tmA r.1, ai r.2]) [] 0 := ⟨h, ⟨⟨trivial, trivial, ⟨trivial, dT _⟩, trivial⟩, ⟨trivial, trivial, ⟨trivial, dT _⟩, trivial⟩, trivial, trivial⟩, forall_nil, ⟨⟨trivial, trivial, dT _, trivial⟩, trivial, trivial⟩, forall_nil⟩
theorem c117 {qq : Nat} {p0 : Tm} {p1 : Tm} {p2 : Int} {r : Tm × Int} (h : e117 qq p0 p1 p2 = some r) : CT Tryz.prog 117 [] [tmA p0, tmA p1, ai p2] (.tup [tmA r.1, ai r.2]) [] 0 := by
  unfold e117 at h
  obtain ⟨r1, h2, h⟩ := obind h
  obtain ⟨h3, h⟩ := splT h
  obtain ⟨r4, h5, h⟩ := obind h
  have k := oK 1 [] h3 (c51 h2) o0
  obtain ⟨h6, h⟩ := splT h
  obtain ⟨r7, h8, h⟩ := obind h
  have k := oK 2 [] h6 (c51 h5) k
  obtain ⟨h9, h⟩ := splT h
  obtain ⟨r10, h11, h⟩ := obind h
  obtain rfl := sj h
  exact k117 (tF q117 3 [] (oD (dT r10.1.sub) <| oC 2 [2, 1] (c167va41413 h11) <| oK 2 [] h9 (c166 h8) k) (by kernel_rfl))
theorem m117 {qq : Nat} {p0 : Tm} {p1 : Tm} {p2 : Int} {r : Tm × Int} (h : e117 qq p0 p1 p2 = some r) : e117 (qq + 1) p0 p1 p2 = some r := by
  unfold e117 at h ⊢
  obtain ⟨r1, hx, h⟩ := obind h
  refine obk (m51 hx) ?_
  obtain ⟨k, h⟩ := splT h
  rw [ifTe k]
  obtain ⟨r4, hx, h⟩ := obind h
  refine obk (m51 hx) ?_
  obtain ⟨k, h⟩ := splT h
  rw [ifTe k]
  obtain ⟨r7, hx, h⟩ := obind h
  refine obk (m166 hx) ?_
  obtain ⟨k, h⟩ := splT h
  rw [ifTe k]
  obtain ⟨r10, hx, h⟩ := obind h
  refine obk (m167va41413 hx) ?_
  exact h

end Go.Proofs.YtlbmblbeccafcaaGreat

namespace Go.Proofs.YtlbmblbeccafcaaGreat
open Go Go.Ab

/- scholium/leaf.Put -/
def e74L26358 : Nat → (List Int) → (List Tm) → Int → Int → Int → (List Tm) →  Option (Tm × Int)
  | 0, _, _, _, _, _, _ => none
  | qq + 1, p0, p1, v41, vb1_0, vb1_1, vb1_2 =>
    if decide (v41 < (List.length p0 : Int)) = true then
      (gidx p0 v41) >>= fun x14 =>
      (gidx p1 v41) >>= fun x16 =>
      (e117 qq (Tm.mk vb1_0 vb1_1 vb1_2) x16 x14) >>= fun r18 =>
      if (r18.2 != 0) = true then
        none
      else
        e74L26358 qq p0 p1 (w64 (v41 + 1)) r18.1.k r18.1.n r18.1.sub
    else
      some ((Tm.mk vb1_0 vb1_1 vb1_2), 0)
def e74L46308 : Nat → (List Int) → (List Tm) → Tm → Int →  Option (Tm × Int)
  | 0, _, _, _, _ => none
  | qq + 1, p0, p1, p2, v28 =>
    if decide (v28 < (List.length p1 : Int)) = true then
      (gidx p1 v28) >>= fun x6 =>
      (e40 qq x6) >>= fun r8 =>
      if r8 = true then
        e74L46308 qq p0 p1 p2 (w64 (v28 + 1))
      else
        none
    else
      (e50 qq p2) >>= fun r11 =>
      e74L26358 qq p0 p1 0 r11.k r11.n r11.sub
def e74 (qq : Nat) (p0 : List Int) (p1 : List Tm) (p2 : Tm) : Option (Tm × Int) :=
  if ((List.length p0 : Int) != (List.length p1 : Int)) = true then
    none
  else
    (e51 qq p2) >>= fun r2 =>
    if r2 = true then
      e74L46308 qq p0 p1 p2 0
    else
      none
def g74L46308E0 (j : Nat → Value) (p0 : List Int) (p1 : List Tm) (p2 : Tm) (v28 : Int) : List AV := sp j 63 0 [(0, .sl (flat intC p0) (List.length p0) .no), (1, .sl (flat tmCells p1) (List.length p1) .no), (5, .mp 0 0), (6, .mp 1 0), (26, .sl (flat tmCells p1) (List.length p1) .no), (27, ai (List.length p1 : Int)), (28, ai v28)]
def g74L46308S0 (p0 : List Int) (p1 : List Tm) (p2 : Tm) (v28 : Int) : LSt := ⟨[(0, .cells [ai p2.k, ai p2.n, .sl (flat tmCells p2.sub) (List.length p2.sub) .no]), (1, .cells [ai 0, ai 0, .sl (flat tmCells ([] : List Tm)) (List.length ([] : List Tm)) .nl])], 2, [], 0, []⟩
def g74L26358E0 (j : Nat → Value) (p0 : List Int) (p1 : List Tm) (v41 : Int) (vb1_0 : Int) (vb1_1 : Int) (vb1_2 : List Tm) : List AV := sp j 63 0 [(1, .sl (flat tmCells p1) (List.length p1) .no), (6, .mp 0 0), (10, .mp 1 0), (39, .sl (flat intC p0) (List.length p0) .no), (40, ai (List.length p0 : Int)), (41, ai v41)]
def g74L26358S0 (p0 : List Int) (p1 : List Tm) (v41 : Int) (vb1_0 : Int) (vb1_1 : Int) (vb1_2 : List Tm) : LSt := ⟨[(0, .cells [ai 0, ai 0, .sl (flat tmCells ([] : List Tm)) (List.length ([] : List Tm)) .nl]), (1, .cells [ai vb1_0, ai vb1_1, .sl (flat tmCells vb1_2) (List.length vb1_2) .no])], 2, [], 0, []⟩
theorem q74 : Tryz.prog.funcs[74]? = some Tryz.f74 ∧ Tryz.f74.body.isNone = false := ⟨Tryz.func74, by kernel_rfl⟩
theorem k74 {p0 : List Int} {p1 : List Tm} {p2 : Tm} {r : Tm × Int} (h : CTri Tryz.prog 74 [] [.sl (flat intC p0) (List.length p0) .no, .sl (flat tmCells p1) (List.length p1) .no, tmA p2] (.tup [tmA r.1, ai r.2]) [] 0) : CT Tryz.prog 74 [] [.sl (flat intC p0) (List.length p0) .no, .sl (flat tmCells p1) (List.length p1) .no, tmA p2] (.tup [tmA r.1, ai r.2]) [] 0 := ⟨h, ⟨⟨trivial, dI _⟩, ⟨trivial, dT _⟩, ⟨trivial, trivial, ⟨trivial, dT _⟩, trivial⟩, trivial⟩, forall_nil, ⟨⟨trivial, trivial, dT _, trivial⟩, trivial, trivial⟩, forall_nil⟩
theorem l74L26358 : ∀ qq : Nat, (∀ (p0 : List Int) (p1 : List Tm) (v41 : Int) (vb1_0 : Int) (vb1_1 : Int) (vb1_2 : List Tm) (r : Tm × Int), e74L26358 qq p0 p1 v41 vb1_0 vb1_1 vb1_2 = some r → (∀ j, Dl Tryz.prog 0 (inn (inn (rgt (lft (rgt (rgt (rgt (rgt (bod Tryz.f74))))))))) (g74L26358E0 j p0 p1 v41 vb1_0 vb1_1 vb1_2) (g74L26358S0 p0 p1 v41 vb1_0 vb1_1 vb1_2) (frameQ Tryz.prog 0 (FinQ Tryz.prog 0 Tryz.f74 (.tup [tmA r.1, ai r.2]) [] 0) [.blk 2, .seq (rgt (rgt (rgt (rgt (rgt (bod Tryz.f74))))))]))) := by
  intro qq
  induction qq with
  | zero =>
    exact fun _ _ _ _ _ _ _ h => nn h
  | succ qq ih =>
    intro p0 p1 v41 vb1_0 vb1_1 vb1_2 r h
    rw [e74L26358] at h
    rcases spl h with ⟨h13, h⟩ | ⟨h13, h⟩
    · obtain ⟨x14, h15, h⟩ := obind h
      obtain ⟨x16, h17, h⟩ := obind h
      obtain ⟨r18, h19, h⟩ := obind h
      have k := oC 1 [] (c117 h19) <| oA 2 (ix22 (o := .no) h17) <| oA 0 (ix37 (o := .no) h15) <| oB 0 h13 o0
      obtain ⟨h20, h⟩ := splF h
      exact fun j => lH 3 [] [0, 1] [] [1, 6, 10, 39, 40, 41] (oD (dI p0) <| oD (dT p1) <| oD (dT r18.1.sub) <| oD (dT ([] : List Tm)) <| oB 3 h20 k) (ih _ _ _ _ _ _ _ h) (fun j => by kernel_rfl)
    · obtain rfl := sj h
      exact fun j => lF 2 [] (oD (dT vb1_2) <| oB 0 h13 o0) (by kernel_rfl)
theorem l74L46308 : ∀ qq : Nat, (∀ (p0 : List Int) (p1 : List Tm) (p2 : Tm) (v28 : Int) (r : Tm × Int), e74L46308 qq p0 p1 p2 v28 = some r → (∀ j, Dl Tryz.prog 0 (inn (inn (rgt (lft (rgt (rgt (bod Tryz.f74))))))) (g74L46308E0 j p0 p1 p2 v28) (g74L46308S0 p0 p1 p2 v28) (frameQ Tryz.prog 0 (FinQ Tryz.prog 0 Tryz.f74 (.tup [tmA r.1, ai r.2]) [] 0) [.blk 0, .seq (rgt (rgt (rgt (bod Tryz.f74))))]))) := by
  intro qq
  induction qq with
  | zero =>
    exact fun _ _ _ _ _ h => nn h
  | succ qq ih =>
    intro p0 p1 p2 v28 r h
    rw [e74L46308] at h
    rcases spl h with ⟨h5, h⟩ | ⟨h5, h⟩
    · obtain ⟨x6, h7, h⟩ := obind h
      obtain ⟨r8, h9, h⟩ := obind h
      have k := oA 0 (ix22 (o := .no) h7) <| oB 0 h5 o0
      obtain ⟨h10, h⟩ := splT h
      exact fun j => lH 2 [] [0, 1] [] [0, 1, 5, 6, 26, 27, 28] (oD (dT p1) <| oD (dT p1) <| oD (dI p0) <| oD (dT ([] : List Tm)) <| oD (dT p2.sub) <| oK 3 [] h10 (c40 h9) k) (ih _ _ _ _ _ h) (fun j => by kernel_rfl)
    · obtain ⟨r11, h12, h⟩ := obind h
      exact fun j => lH 2 [] [1, 2] [] [1, 6, 10, 39, 40, 41] (oD (dI p0) <| oD (dT p1) <| oD (dT r11.sub) <| oD (dT ([] : List Tm)) <| oC 1 [] (c50 h12) <| oB 0 h5 o0) (l74L26358 _ _ _ _ _ _ _ _ h) (fun j => by kernel_rfl)
theorem c74 {qq : Nat} {p0 : List Int} {p1 : List Tm} {p2 : Tm} {r : Tm × Int} (h : e74 qq p0 p1 p2 = some r) : CT Tryz.prog 74 [] [.sl (flat intC p0) (List.length p0) .no, .sl (flat tmCells p1) (List.length p1) .no, tmA p2] (.tup [tmA r.1, ai r.2]) [] 0 := by
  unfold e74 at h
  obtain ⟨h1, h⟩ := splF h
  obtain ⟨r2, h3, h⟩ := obind h
  have k := oB 2 h1 o0
  obtain ⟨h4, h⟩ := splT h
  exact k74 (tH q74 2 [] [0, 1] [] [0, 1, 5, 6, 26, 27, 28] (oD (dT p1) <| oD (dT p1) <| oD (dI p0) <| oD (dT ([] : List Tm)) <| oD (dT p2.sub) <| oK 1 [] h4 (c51 h3) k) (l74L46308 _ _ _ _ _ _ h) (fun j => by kernel_rfl))
theorem mm74L26358 : ∀ qq : Nat, (∀ (p0 : List Int) (p1 : List Tm) (v41 : Int) (vb1_0 : Int) (vb1_1 : Int) (vb1_2 : List Tm) (r : Tm × Int), e74L26358 qq p0 p1 v41 vb1_0 vb1_1 vb1_2 = some r → e74L26358 (qq + 1) p0 p1 v41 vb1_0 vb1_1 vb1_2 = some r) := by
  intro qq
  induction qq with
  | zero => exact fun _ _ _ _ _ _ _ h => nn h
  | succ qq ih =>
    have ih74L26358 := ih
    intro p0 p1 v41 vb1_0 vb1_1 vb1_2 r h
    rw [e74L26358] at h ⊢
    rcases spl h with ⟨k, h⟩ | ⟨k, h⟩
    · rw [ifTe k]
      obtain ⟨x14, hx, h⟩ := obind h
      refine obk hx ?_
      obtain ⟨x16, hx, h⟩ := obind h
      refine obk hx ?_
      obtain ⟨r18, hx, h⟩ := obind h
      refine obk (m117 hx) ?_
      obtain ⟨k, h⟩ := splF h
      rw [ifFe k]
      exact ih74L26358 _ _ _ _ _ _ _ h
    · rw [ifFe k]
      exact h
theorem m74L26358 {qq : Nat} {p0 : List Int} {p1 : List Tm} {v41 : Int} {vb1_0 : Int} {vb1_1 : Int} {vb1_2 : List Tm} {r : Tm × Int} (h : e74L26358 qq p0 p1 v41 vb1_0 vb1_1 vb1_2 = some r) : e74L26358 (qq + 1) p0 p1 v41 vb1_0 vb1_1 vb1_2 = some r := mm74L26358 _ _ _ _ _ _ _ _ h
theorem mm74L46308 : ∀ qq : Nat, (∀ (p0 : List Int) (p1 : List Tm) (p2 : Tm) (v28 : Int) (r : Tm × Int), e74L46308 qq p0 p1 p2 v28 = some r → e74L46308 (qq + 1) p0 p1 p2 v28 = some r) := by
  intro qq
  induction qq with
  | zero => exact fun _ _ _ _ _ h => nn h
  | succ qq ih =>
    have ih74L46308 := ih
    intro p0 p1 p2 v28 r h
    rw [e74L46308] at h ⊢
    rcases spl h with ⟨k, h⟩ | ⟨k, h⟩
    · rw [ifTe k]
      obtain ⟨x6, hx, h⟩ := obind h
      refine obk hx ?_
      obtain ⟨r8, hx, h⟩ := obind h
      refine obk (m40 hx) ?_
      obtain ⟨k, h⟩ := splT h
      rw [ifTe k]
      exact ih74L46308 _ _ _ _ _ h
    · rw [ifFe k]
      obtain ⟨r11, hx, h⟩ := obind h
      refine obk (m50 hx) ?_
      exact m74L26358 h
theorem m74L46308 {qq : Nat} {p0 : List Int} {p1 : List Tm} {p2 : Tm} {v28 : Int} {r : Tm × Int} (h : e74L46308 qq p0 p1 p2 v28 = some r) : e74L46308 (qq + 1) p0 p1 p2 v28 = some r := mm74L46308 _ _ _ _ _ _ h
theorem m74 {qq : Nat} {p0 : List Int} {p1 : List Tm} {p2 : Tm} {r : Tm × Int} (h : e74 qq p0 p1 p2 = some r) : e74 (qq + 1) p0 p1 p2 = some r := by
  unfold e74 at h ⊢
  obtain ⟨k, h⟩ := splF h
  rw [ifFe k]
  obtain ⟨r2, hx, h⟩ := obind h
  refine obk (m51 hx) ?_
  obtain ⟨k, h⟩ := splT h
  rw [ifTe k]
  exact m74L46308 h

end Go.Proofs.YtlbmblbeccafcaaGreat

namespace Go.Proofs.YtlbmblbeccafcaaGreat
open Go Go.Ab

/- (*scholium/leaf.walker).end -/
def e44va45810L6206 (qq : Nat) (q0 : List Ent) (q1 : List Ent) (q2 : List Con') (q3 : List Int) (q4 : List Int) (q5 : Int) (q6 : Int) (q7 : List (Int × Int)) (q8 : List Int) (q9 : List Tm) (q10 : Nat) (q11 : Nat) (p1 : CoverTree) (v7 : List Int) (v8 : List Tm) (v58 : Int) (vb8_2 : List Tm) : Option (LeafFound × Int) :=
  if decide (v58 < (List.length p1.binds_ : Int)) = true then
    none
  else
    some ((LeafFound.mk true p1.row_ vb8_2 []), 0)
def e44va45810L47330 (qq : Nat) (q0 : List Ent) (q1 : List Ent) (q2 : List Con') (q3 : List Int) (q4 : List Int) (q5 : Int) (q6 : Int) (q7 : List (Int × Int)) (q8 : List Int) (q9 : List Tm) (q10 : Nat) (q11 : Nat) (p1 : CoverTree) (v7 : List Int) (v8 : List Tm) (v58 : Int) : Option (LeafFound × Int) :=
  if decide (v58 < (List.length p1.binds_ : Int)) = true then
    (gidx p1.binds_ v58) >>= fun x30 =>
    (e74 qq v7 v8 x30) >>= fun r32 =>
    if (r32.2 != 0) = true then
      none
    else
      (gapp 40 ([] : List Tm) [r32.1]) >>= fun l35 =>
      e44va45810L6206 qq q0 q1 q2 q3 q4 q5 q6 q7 q8 q9 q10 q11 p1 v7 v8 (w64 (v58 + 1)) l35
  else
    none
def e44va45810L34510 (qq : Nat) (q0 : List Ent) (q1 : List Ent) (q2 : List Con') (q3 : List Int) (q4 : List Int) (q5 : Int) (q6 : Int) (q7 : List (Int × Int)) (q8 : List Int) (q9 : List Tm) (q10 : Nat) (q11 : Nat) (p1 : CoverTree) (v27 : Int) (v7 : List Int) (v8 : List Tm) : Option (LeafFound × Int) :=
  if decide (v27 < (List.length q8 : Int)) = true then
    none
  else
    e44va45810L47330 qq q0 q1 q2 q3 q4 q5 q6 q7 q8 q9 q10 q11 p1 v7 v8 0
def e44va45810L48300 (qq : Nat) (q0 : List Ent) (q1 : List Ent) (q2 : List Con') (q3 : List Int) (q4 : List Int) (q5 : Int) (q6 : Int) (q7 : List (Int × Int)) (q8 : List Int) (q9 : List Tm) (q10 : Nat) (q11 : Nat) (p1 : CoverTree) (v27 : Int) : Option (LeafFound × Int) :=
  if decide (v27 < (List.length q8 : Int)) = true then
    (gchk (List.length q8) v27) >>= fun x2 =>
    (gidx q8 (x2 : Int)) >>= fun x4 =>
    if ((iget q7 x4) == v27) = true then
      (gapp 8 ([] : List Int) [x4]) >>= fun l7 =>
      (gchk q10 v27) >>= fun x9 =>
      (gidx q9 (x9 : Int)) >>= fun x11 =>
      (gapp 40 ([] : List Tm) [x11]) >>= fun l13 =>
      e44va45810L34510 qq q0 q1 q2 q3 q4 q5 q6 q7 q8 q9 q10 q11 p1 (w64 (v27 + 1)) l7 l13
    else
      none
  else
    none
def e44va45810 (qq : Nat) (q0 : List Ent) (q1 : List Ent) (q2 : List Con') (q3 : List Int) (q4 : List Int) (q5 : Int) (q6 : Int) (q7 : List (Int × Int)) (q8 : List Int) (q9 : List Tm) (q10 : Nat) (q11 : Nat) (p1 : CoverTree) : Option (LeafFound × Int) :=
  e44va45810L48300 qq q0 q1 q2 q3 q4 q5 q6 q7 q8 q9 q10 q11 p1 0
def g44va45810L48300E0 (j : Nat → Value) (q0 : List Ent) (q1 : List Ent) (q2 : List Con') (q3 : List Int) (q4 : List Int) (q5 : Int) (q6 : Int) (q7 : List (Int × Int)) (q8 : List Int) (q9 : List Tm) (q10 : Nat) (q11 : Nat) (p1 : CoverTree) (v27 : Int) : List AV := sp j 81 0 [(0, .mp 0 0), (3, .mp 7 0), (4, .mp 8 0), (6, .mp 9 0), (7, .sl (flat intC ([] : List Int)) (List.length ([] : List Int)) .nl), (8, .sl (flat tmCells ([] : List Tm)) (List.length ([] : List Tm)) .nl), (25, .ms 5 0 (List.length q8) (List.length q8) 1), (26, ai (List.length q8 : Int)), (27, ai v27)]
def g44va45810L48300S0 (q0 : List Ent) (q1 : List Ent) (q2 : List Con') (q3 : List Int) (q4 : List Int) (q5 : Int) (q6 : Int) (q7 : List (Int × Int)) (q8 : List Int) (q9 : List Tm) (q10 : Nat) (q11 : Nat) (p1 : CoverTree) (v27 : Int) : LSt := ⟨[(0, .cells [.mp 1 0, .mp 3 0, .obj 4, .ms 5 0 (List.length q8) (List.length q8) 1, .ms 6 0 q10 q11 3, .sl (flat intC ([] : List Int)) (List.length ([] : List Int)) .nl]), (1, .cells [.sl (flat entL q0) (List.length q0) .no, .mp 2 0, .sl (flat intC q3) (List.length q3) .no, .sl (flat intC q4) (List.length q4) .no]), (2, .cells [.sl (flat entL q1) (List.length q1) .no, .sl (flat conL q2) (List.length q2) .no]), (3, .cells [ai q5, ai q6]), (4, imap q7), (5, .row (flat intC q8)), (6, .row (flat tmCells q9)), (7, .cells [ai p1.kind_, ai p1.row_, ai p1.var_, .sl (flat freeVarL p1.vars_) (List.length p1.vars_) .no, .sl (flat tmCells p1.binds_) (List.length p1.binds_) .no, .sl (flat tmCells p1.args_) (List.length p1.args_) .no, .sl (flat coverKidC p1.kids_) (List.length p1.kids_) .no]), (8, .cells [ab false, ai 0, .sl (flat tmCells ([] : List Tm)) (List.length ([] : List Tm)) .nl, .sl (flat intC ([] : List Int)) (List.length ([] : List Int)) .nl]), (9, .cells [ab true, ai p1.row_, .sl (flat tmCells ([] : List Tm)) (List.length ([] : List Tm)) .nl, .sl (flat intC ([] : List Int)) (List.length ([] : List Int)) .nl])], 10, [], 0, []⟩
def g44va45810L34510E0 (j : Nat → Value) (q0 : List Ent) (q1 : List Ent) (q2 : List Con') (q3 : List Int) (q4 : List Int) (q5 : Int) (q6 : Int) (q7 : List (Int × Int)) (q8 : List Int) (q9 : List Tm) (q10 : Nat) (q11 : Nat) (p1 : CoverTree) (v27 : Int) (v7 : List Int) (v8 : List Tm) : List AV := sp j 81 0 [(0, .mp 0 0), (3, .mp 7 0), (4, .mp 8 0), (6, .mp 9 0), (7, .sl (flat intC v7) (List.length v7) (.st 0 1)), (8, .sl (flat tmCells v8) (List.length v8) (.st 1 3)), (25, .ms 5 0 (List.length q8) (List.length q8) 1), (26, ai (List.length q8 : Int)), (27, ai v27)]
def g44va45810L34510S0 (q0 : List Ent) (q1 : List Ent) (q2 : List Con') (q3 : List Int) (q4 : List Int) (q5 : Int) (q6 : Int) (q7 : List (Int × Int)) (q8 : List Int) (q9 : List Tm) (q10 : Nat) (q11 : Nat) (p1 : CoverTree) (v27 : Int) (v7 : List Int) (v8 : List Tm) : LSt := ⟨[(0, .cells [.mp 1 0, .mp 3 0, .obj 4, .ms 5 0 (List.length q8) (List.length q8) 1, .ms 6 0 q10 q11 3, .sl (flat intC ([] : List Int)) (List.length ([] : List Int)) .nl]), (1, .cells [.sl (flat entL q0) (List.length q0) .no, .mp 2 0, .sl (flat intC q3) (List.length q3) .no, .sl (flat intC q4) (List.length q4) .no]), (2, .cells [.sl (flat entL q1) (List.length q1) .no, .sl (flat conL q2) (List.length q2) .no]), (3, .cells [ai q5, ai q6]), (4, imap q7), (5, .row (flat intC q8)), (6, .row (flat tmCells q9)), (7, .cells [ai p1.kind_, ai p1.row_, ai p1.var_, .sl (flat freeVarL p1.vars_) (List.length p1.vars_) .no, .sl (flat tmCells p1.binds_) (List.length p1.binds_) .no, .sl (flat tmCells p1.args_) (List.length p1.args_) .no, .sl (flat coverKidC p1.kids_) (List.length p1.kids_) .no]), (8, .cells [ab false, ai 0, .sl (flat tmCells ([] : List Tm)) (List.length ([] : List Tm)) .nl, .sl (flat intC ([] : List Int)) (List.length ([] : List Int)) .nl]), (9, .cells [ab true, ai p1.row_, .sl (flat tmCells ([] : List Tm)) (List.length ([] : List Tm)) .nl, .sl (flat intC ([] : List Int)) (List.length ([] : List Int)) .nl])], 10, [0, 1], 2, []⟩
def g44va45810L47330E0 (j : Nat → Value) (q0 : List Ent) (q1 : List Ent) (q2 : List Con') (q3 : List Int) (q4 : List Int) (q5 : Int) (q6 : Int) (q7 : List (Int × Int)) (q8 : List Int) (q9 : List Tm) (q10 : Nat) (q11 : Nat) (p1 : CoverTree) (v7 : List Int) (v8 : List Tm) (v58 : Int) : List AV := sp j 81 0 [(4, .mp 7 0), (6, .mp 8 0), (7, .sl (flat intC v7) (List.length v7) (.st 0 1)), (8, .sl (flat tmCells v8) (List.length v8) (.st 1 3)), (56, .sl (flat tmCells p1.binds_) (List.length p1.binds_) .no), (57, ai (List.length p1.binds_ : Int)), (58, ai v58)]
def g44va45810L47330S0 (q0 : List Ent) (q1 : List Ent) (q2 : List Con') (q3 : List Int) (q4 : List Int) (q5 : Int) (q6 : Int) (q7 : List (Int × Int)) (q8 : List Int) (q9 : List Tm) (q10 : Nat) (q11 : Nat) (p1 : CoverTree) (v7 : List Int) (v8 : List Tm) (v58 : Int) : LSt := ⟨[(0, .cells [.mp 1 0, .mp 3 0, .obj 4, .ms 5 0 (List.length q8) (List.length q8) 1, .ms 6 0 q10 q11 3, .sl (flat intC ([] : List Int)) (List.length ([] : List Int)) .nl]), (1, .cells [.sl (flat entL q0) (List.length q0) .no, .mp 2 0, .sl (flat intC q3) (List.length q3) .no, .sl (flat intC q4) (List.length q4) .no]), (2, .cells [.sl (flat entL q1) (List.length q1) .no, .sl (flat conL q2) (List.length q2) .no]), (3, .cells [ai q5, ai q6]), (4, imap q7), (5, .row (flat intC q8)), (6, .row (flat tmCells q9)), (7, .cells [ab false, ai 0, .sl (flat tmCells ([] : List Tm)) (List.length ([] : List Tm)) .nl, .sl (flat intC ([] : List Int)) (List.length ([] : List Int)) .nl]), (8, .cells [ab true, ai p1.row_, .sl (flat tmCells ([] : List Tm)) (List.length ([] : List Tm)) .nl, .sl (flat intC ([] : List Int)) (List.length ([] : List Int)) .nl])], 9, [0, 1], 2, []⟩
def g44va45810L6206E0 (j : Nat → Value) (q0 : List Ent) (q1 : List Ent) (q2 : List Con') (q3 : List Int) (q4 : List Int) (q5 : Int) (q6 : Int) (q7 : List (Int × Int)) (q8 : List Int) (q9 : List Tm) (q10 : Nat) (q11 : Nat) (p1 : CoverTree) (v7 : List Int) (v8 : List Tm) (v58 : Int) (vb8_2 : List Tm) : List AV := sp j 81 0 [(4, .mp 7 0), (6, .mp 8 0), (7, .sl (flat intC v7) (List.length v7) (.st 0 1)), (8, .sl (flat tmCells v8) (List.length v8) (.st 1 3)), (56, .sl (flat tmCells p1.binds_) (List.length p1.binds_) .no), (57, ai (List.length p1.binds_ : Int)), (58, ai v58)]
def g44va45810L6206S0 (q0 : List Ent) (q1 : List Ent) (q2 : List Con') (q3 : List Int) (q4 : List Int) (q5 : Int) (q6 : Int) (q7 : List (Int × Int)) (q8 : List Int) (q9 : List Tm) (q10 : Nat) (q11 : Nat) (p1 : CoverTree) (v7 : List Int) (v8 : List Tm) (v58 : Int) (vb8_2 : List Tm) : LSt := ⟨[(0, .cells [.mp 1 0, .mp 3 0, .obj 4, .ms 5 0 (List.length q8) (List.length q8) 1, .ms 6 0 q10 q11 3, .sl (flat intC ([] : List Int)) (List.length ([] : List Int)) .nl]), (1, .cells [.sl (flat entL q0) (List.length q0) .no, .mp 2 0, .sl (flat intC q3) (List.length q3) .no, .sl (flat intC q4) (List.length q4) .no]), (2, .cells [.sl (flat entL q1) (List.length q1) .no, .sl (flat conL q2) (List.length q2) .no]), (3, .cells [ai q5, ai q6]), (4, imap q7), (5, .row (flat intC q8)), (6, .row (flat tmCells q9)), (7, .cells [ab false, ai 0, .sl (flat tmCells ([] : List Tm)) (List.length ([] : List Tm)) .nl, .sl (flat intC ([] : List Int)) (List.length ([] : List Int)) .nl]), (8, .cells [ab true, ai p1.row_, .sl (flat tmCells vb8_2) (List.length vb8_2) (.st 2 3), .sl (flat intC ([] : List Int)) (List.length ([] : List Int)) .nl])], 9, [0, 1, 2], 3, []⟩
theorem q44va45810 : Tryz.prog.funcs[44]? = some Tryz.f44 ∧ Tryz.f44.body.isNone = false := ⟨Tryz.func44, by kernel_rfl⟩
theorem k44va45810 {q0 : List Ent} {q1 : List Ent} {q2 : List Con'} {q3 : List Int} {q4 : List Int} {q5 : Int} {q6 : Int} {q7 : List (Int × Int)} {q8 : List Int} {q9 : List Tm} {q10 : Nat} {q11 : Nat} {p1 : CoverTree} {r : LeafFound × Int} (h : CTri Tryz.prog 44 [.cells [.mp 1 0, .mp 3 0, .obj 4, .ms 5 0 (List.length q8) (List.length q8) 1, .ms 6 0 q10 q11 3, .sl (flat intC ([] : List Int)) (List.length ([] : List Int)) .nl], .cells [.sl (flat entL q0) (List.length q0) .no, .mp 2 0, .sl (flat intC q3) (List.length q3) .no, .sl (flat intC q4) (List.length q4) .no], .cells [.sl (flat entL q1) (List.length q1) .no, .sl (flat conL q2) (List.length q2) .no], .cells [ai q5, ai q6], imap q7, .row (flat intC q8), .row (flat tmCells q9)] [.mp 0 0, coverTreeA p1] (.tup [leafFoundA r.1, ai r.2]) [.cells [.mp 1 0, .mp 3 0, .obj 4, .ms 5 0 (List.length q8) (List.length q8) 1, .ms 6 0 q10 q11 3, .sl (flat intC ([] : List Int)) (List.length ([] : List Int)) .nl], .cells [.sl (flat entL q0) (List.length q0) .no, .mp 2 0, .sl (flat intC q3) (List.length q3) .no, .sl (flat intC q4) (List.length q4) .no], .cells [.sl (flat entL q1) (List.length q1) .no, .sl (flat conL q2) (List.length q2) .no], .cells [ai q5, ai q6], imap q7, .row (flat intC q8), .row (flat tmCells q9)] 0) : CT Tryz.prog 44 [.cells [.mp 1 0, .mp 3 0, .obj 4, .ms 5 0 (List.length q8) (List.length q8) 1, .ms 6 0 q10 q11 3, .sl (flat intC ([] : List Int)) (List.length ([] : List Int)) .nl], .cells [.sl (flat entL q0) (List.length q0) .no, .mp 2 0, .sl (flat intC q3) (List.length q3) .no, .sl (flat intC q4) (List.length q4) .no], .cells [.sl (flat entL q1) (List.length q1) .no, .sl (flat conL q2) (List.length q2) .no], .cells [ai q5, ai q6], imap q7, .row (flat intC q8), .row (flat tmCells q9)] [.mp 0 0, coverTreeA p1] (.tup [leafFoundA r.1, ai r.2]) [.cells [.mp 1 0, .mp 3 0, .obj 4, .ms 5 0 (List.length q8) (List.length q8) 1, .ms 6 0 q10 q11 3, .sl (flat intC ([] : List Int)) (List.length ([] : List Int)) .nl], .cells [.sl (flat entL q0) (List.length q0) .no, .mp 2 0, .sl (flat intC q3) (List.length q3) .no, .sl (flat intC q4) (List.length q4) .no], .cells [.sl (flat entL q1) (List.length q1) .no, .sl (flat conL q2) (List.length q2) .no], .cells [ai q5, ai q6], imap q7, .row (flat intC q8), .row (flat tmCells q9)] 0 := ⟨h, ⟨(show 0 < 7 by decide), ⟨trivial, trivial, trivial, ⟨trivial, dFreeVar _⟩, ⟨trivial, dT _⟩, ⟨trivial, dT _⟩, ⟨trivial, dCoverKid _⟩, trivial⟩, trivial⟩, (forall_cons ⟨(show 1 < 7 by decide), (show 3 < 7 by decide), (show 4 < 7 by decide), (show 5 < 7 by decide), (show 6 < 7 by decide), ⟨trivial, dI _⟩, trivial⟩ (forall_cons ⟨⟨trivial, dE _⟩, (show 2 < 7 by decide), ⟨trivial, dI _⟩, ⟨trivial, dI _⟩, trivial⟩ (forall_cons ⟨⟨trivial, dE _⟩, ⟨trivial, dC _⟩, trivial⟩ (forall_cons ⟨trivial, trivial, trivial⟩ (forall_cons trivial (forall_cons (dI _) (forall_cons (dT _) forall_nil))))))), ⟨⟨trivial, trivial, dT _, dI _, trivial⟩, trivial, trivial⟩, (forall_cons ⟨(show 1 < 7 by decide), (show 3 < 7 by decide), (show 4 < 7 by decide), (show 5 < 7 by decide), (show 6 < 7 by decide), dI _, trivial⟩ (forall_cons ⟨dE _, (show 2 < 7 by decide), dI _, dI _, trivial⟩ (forall_cons ⟨dE _, dC _, trivial⟩ (forall_cons ⟨trivial, trivial, trivial⟩ (forall_cons trivial (forall_cons (dI _) (forall_cons (dT _) forall_nil)))))))⟩
theorem l44va45810L6206 (qq : Nat) (q0 : List Ent) (q1 : List Ent) (q2 : List Con') (q3 : List Int) (q4 : List Int) (q5 : Int) (q6 : Int) (q7 : List (Int × Int)) (q8 : List Int) (q9 : List Tm) (q10 : Nat) (q11 : Nat) (p1 : CoverTree) (v7 : List Int) (v8 : List Tm) (v58 : Int) (vb8_2 : List Tm) (r : LeafFound × Int) (h : e44va45810L6206 qq q0 q1 q2 q3 q4 q5 q6 q7 q8 q9 q10 q11 p1 v7 v8 v58 vb8_2 = some r) : (∀ j, Dl Tryz.prog 7 (inn (inn (rgt (lft (rgt (rgt (rgt (rgt (rgt (bod Tryz.f44)))))))))) (g44va45810L6206E0 j q0 q1 q2 q3 q4 q5 q6 q7 q8 q9 q10 q11 p1 v7 v8 v58 vb8_2) (g44va45810L6206S0 q0 q1 q2 q3 q4 q5 q6 q7 q8 q9 q10 q11 p1 v7 v8 v58 vb8_2) (frameQ Tryz.prog 7 (FinQ Tryz.prog 7 Tryz.f44 (.tup [leafFoundA r.1, ai r.2]) [.cells [.mp 1 0, .mp 3 0, .obj 4, .ms 5 0 (List.length q8) (List.length q8) 1, .ms 6 0 q10 q11 3, .sl (flat intC ([] : List Int)) (List.length ([] : List Int)) .nl], .cells [.sl (flat entL q0) (List.length q0) .no, .mp 2 0, .sl (flat intC q3) (List.length q3) .no, .sl (flat intC q4) (List.length q4) .no], .cells [.sl (flat entL q1) (List.length q1) .no, .sl (flat conL q2) (List.length q2) .no], .cells [ai q5, ai q6], imap q7, .row (flat intC q8), .row (flat tmCells q9)] 0) [.blk 2, .seq (rgt (rgt (rgt (rgt (rgt (rgt (bod Tryz.f44)))))))])) := by
  unfold e44va45810L6206 at h
  obtain ⟨h37, h⟩ := splF h
  obtain rfl := sj h
  exact fun j => lG 2 [] [0, 1, 2, 3, 4, 5, 6] [] true (oD (dI ([] : List Int)) <| oD (dT vb8_2) <| oD (dT q9) <| oD (dI q8) <| oD (dC q2) <| oD (dE q1) <| oD (dI q4) <| oD (dI q3) <| oD (dE q0) <| oD (dI ([] : List Int)) <| oB 0 h37 o0) (by kernel_rfl) (by decide)
theorem l44va45810L47330 (qq : Nat) (q0 : List Ent) (q1 : List Ent) (q2 : List Con') (q3 : List Int) (q4 : List Int) (q5 : Int) (q6 : Int) (q7 : List (Int × Int)) (q8 : List Int) (q9 : List Tm) (q10 : Nat) (q11 : Nat) (p1 : CoverTree) (v7 : List Int) (v8 : List Tm) (v58 : Int) (r : LeafFound × Int) (h : e44va45810L47330 qq q0 q1 q2 q3 q4 q5 q6 q7 q8 q9 q10 q11 p1 v7 v8 v58 = some r) : (∀ j, Dl Tryz.prog 7 (inn (inn (rgt (lft (rgt (rgt (rgt (rgt (rgt (bod Tryz.f44)))))))))) (g44va45810L47330E0 j q0 q1 q2 q3 q4 q5 q6 q7 q8 q9 q10 q11 p1 v7 v8 v58) (g44va45810L47330S0 q0 q1 q2 q3 q4 q5 q6 q7 q8 q9 q10 q11 p1 v7 v8 v58) (frameQ Tryz.prog 7 (FinQ Tryz.prog 7 Tryz.f44 (.tup [leafFoundA r.1, ai r.2]) [.cells [.mp 1 0, .mp 3 0, .obj 4, .ms 5 0 (List.length q8) (List.length q8) 1, .ms 6 0 q10 q11 3, .sl (flat intC ([] : List Int)) (List.length ([] : List Int)) .nl], .cells [.sl (flat entL q0) (List.length q0) .no, .mp 2 0, .sl (flat intC q3) (List.length q3) .no, .sl (flat intC q4) (List.length q4) .no], .cells [.sl (flat entL q1) (List.length q1) .no, .sl (flat conL q2) (List.length q2) .no], .cells [ai q5, ai q6], imap q7, .row (flat intC q8), .row (flat tmCells q9)] 0) [.blk 2, .seq (rgt (rgt (rgt (rgt (rgt (rgt (bod Tryz.f44)))))))])) := by
  unfold e44va45810L47330 at h
  obtain ⟨h29, h⟩ := splT h
  obtain ⟨x30, h31, h⟩ := obind h
  obtain ⟨r32, h33, h⟩ := obind h
  have k := oC 3 [] (c74 h33) <| oA 0 (ix22 (o := .no) h31) <| oB 0 h29 o0
  obtain ⟨h34, h⟩ := splF h
  obtain ⟨l35, h36, h⟩ := obind h
  exact fun j => lH 2 [] [0, 1, 2, 3, 4, 5, 6, 7, 8] [0, 1, 2] [4, 6, 7, 8, 56, 57, 58] (oD (dT p1.binds_) <| oD (dT v8) <| oD (dI v7) <| oD (dI ([] : List Int)) <| oD (dT l35) <| oD (dI ([] : List Int)) <| oD (dT ([] : List Tm)) <| oD (dT q9) <| oD (dI q8) <| oD (dC q2) <| oD (dE q1) <| oD (dI q4) <| oD (dI q3) <| oD (dE q0) <| oD (dI ([] : List Int)) <| oP 0 (apS22 h36 (by simp)) <| oS 2 (obLitR tm_eq [r32.1]) <| oB 3 h34 k) (l44va45810L6206 qq _ _ _ _ _ _ _ _ _ _ _ _ _ _ _ _ _ _ h) (fun j => by kernel_rfl)
theorem l44va45810L34510 (qq : Nat) (q0 : List Ent) (q1 : List Ent) (q2 : List Con') (q3 : List Int) (q4 : List Int) (q5 : Int) (q6 : Int) (q7 : List (Int × Int)) (q8 : List Int) (q9 : List Tm) (q10 : Nat) (q11 : Nat) (p1 : CoverTree) (v27 : Int) (v7 : List Int) (v8 : List Tm) (r : LeafFound × Int) (h : e44va45810L34510 qq q0 q1 q2 q3 q4 q5 q6 q7 q8 q9 q10 q11 p1 v27 v7 v8 = some r) : (∀ j, Dl Tryz.prog 7 (inn (inn (rgt (lft (rgt (rgt (rgt (rgt (bod Tryz.f44))))))))) (g44va45810L34510E0 j q0 q1 q2 q3 q4 q5 q6 q7 q8 q9 q10 q11 p1 v27 v7 v8) (g44va45810L34510S0 q0 q1 q2 q3 q4 q5 q6 q7 q8 q9 q10 q11 p1 v27 v7 v8) (frameQ Tryz.prog 7 (FinQ Tryz.prog 7 Tryz.f44 (.tup [leafFoundA r.1, ai r.2]) [.cells [.mp 1 0, .mp 3 0, .obj 4, .ms 5 0 (List.length q8) (List.length q8) 1, .ms 6 0 q10 q11 3, .sl (flat intC ([] : List Int)) (List.length ([] : List Int)) .nl], .cells [.sl (flat entL q0) (List.length q0) .no, .mp 2 0, .sl (flat intC q3) (List.length q3) .no, .sl (flat intC q4) (List.length q4) .no], .cells [.sl (flat entL q1) (List.length q1) .no, .sl (flat conL q2) (List.length q2) .no], .cells [ai q5, ai q6], imap q7, .row (flat intC q8), .row (flat tmCells q9)] 0) [.blk 0, .seq (rgt (rgt (rgt (rgt (rgt (bod Tryz.f44))))))])) := by
  unfold e44va45810L34510 at h
  obtain ⟨h15, h⟩ := splF h
  exact fun j => lH 2 [] [0, 1, 2, 3, 4, 5, 6, 8, 9] [0, 1] [4, 6, 7, 8, 56, 57, 58] (oD (dT p1.binds_) <| oD (dT v8) <| oD (dI v7) <| oD (dI ([] : List Int)) <| oD (dT ([] : List Tm)) <| oD (dI ([] : List Int)) <| oD (dT ([] : List Tm)) <| oD (dT q9) <| oD (dI q8) <| oD (dC q2) <| oD (dE q1) <| oD (dI q4) <| oD (dI q3) <| oD (dE q0) <| oD (dI ([] : List Int)) <| oB 0 h15 o0) (l44va45810L47330 qq _ _ _ _ _ _ _ _ _ _ _ _ _ _ _ _ _ h) (fun j => by kernel_rfl)
theorem l44va45810L48300 (qq : Nat) (q0 : List Ent) (q1 : List Ent) (q2 : List Con') (q3 : List Int) (q4 : List Int) (q5 : Int) (q6 : Int) (q7 : List (Int × Int)) (q8 : List Int) (q9 : List Tm) (q10 : Nat) (q11 : Nat) (p1 : CoverTree) (v27 : Int) (r : LeafFound × Int) (h : e44va45810L48300 qq q0 q1 q2 q3 q4 q5 q6 q7 q8 q9 q10 q11 p1 v27 = some r) : (∀ j, Dl Tryz.prog 7 (inn (inn (rgt (lft (rgt (rgt (rgt (rgt (bod Tryz.f44))))))))) (g44va45810L48300E0 j q0 q1 q2 q3 q4 q5 q6 q7 q8 q9 q10 q11 p1 v27) (g44va45810L48300S0 q0 q1 q2 q3 q4 q5 q6 q7 q8 q9 q10 q11 p1 v27) (frameQ Tryz.prog 7 (FinQ Tryz.prog 7 Tryz.f44 (.tup [leafFoundA r.1, ai r.2]) [.cells [.mp 1 0, .mp 3 0, .obj 4, .ms 5 0 (List.length q8) (List.length q8) 1, .ms 6 0 q10 q11 3, .sl (flat intC ([] : List Int)) (List.length ([] : List Int)) .nl], .cells [.sl (flat entL q0) (List.length q0) .no, .mp 2 0, .sl (flat intC q3) (List.length q3) .no, .sl (flat intC q4) (List.length q4) .no], .cells [.sl (flat entL q1) (List.length q1) .no, .sl (flat conL q2) (List.length q2) .no], .cells [ai q5, ai q6], imap q7, .row (flat intC q8), .row (flat tmCells q9)] 0) [.blk 0, .seq (rgt (rgt (rgt (rgt (rgt (bod Tryz.f44))))))])) := by
  unfold e44va45810L48300 at h
  obtain ⟨h1, h⟩ := splT h
  obtain ⟨x2, h3, h⟩ := obind h
  obtain ⟨x4, h5, h⟩ := obind h
  have k := oL 1 (lkI91 q7 x4) <| oG (a := (ai x4)) 0 (ldE codecI h5 (false, 1) (val := ai x4) rfl) <| oA 0 (ixM37 (b := 5) (c := List.length q8) (z := 1) h3) <| oB 0 h1 o0
  obtain ⟨h6, h⟩ := splT h
  obtain ⟨l7, h8, h⟩ := obind h
  obtain ⟨x9, h10, h⟩ := obind h
  obtain ⟨x11, h12, h⟩ := obind h
  obtain ⟨l13, h14, h⟩ := obind h
  exact fun j => lH 1 [] [0, 1, 2, 3, 4, 5, 6, 7, 8, 9] [0, 1] [0, 3, 4, 6, 7, 8, 25, 26, 27] (oD (dT l13) <| oD (dI l7) <| oD (dI ([] : List Int)) <| oD (dT ([] : List Tm)) <| oD (dI ([] : List Int)) <| oD (dT ([] : List Tm)) <| oD (dCoverKid p1.kids_) <| oD (dT p1.args_) <| oD (dT p1.binds_) <| oD (dFreeVar p1.vars_) <| oD (dT q9) <| oD (dI q8) <| oD (dC q2) <| oD (dE q1) <| oD (dI q4) <| oD (dI q3) <| oD (dE q0) <| oD (dI ([] : List Int)) <| oP 0 (apS22 h14 (by simp)) <| oS 0 (obLitR tm_eq [x11]) <| oG (a := (.agg [ai x11.k, ai x11.n, .sl (flat tmCells x11.sub) (List.length x11.sub) .no])) 0 (ldE codecT h12 (true, 3) (val := .agg [ai x11.k, ai x11.n, .sl (flat tmCells x11.sub) (List.length x11.sub) .no]) (by rw [tm_eq]; rfl)) <| oA 1 (ixM22 (b := 6) (c := q11) (z := 3) h10) <| oP 1 (apS37 h8 (by simp)) <| oB 0 h6 k) (l44va45810L34510 qq _ _ _ _ _ _ _ _ _ _ _ _ _ _ _ _ _ h) (fun j => by kernel_rfl)
theorem c44va45810 {qq : Nat} {q0 : List Ent} {q1 : List Ent} {q2 : List Con'} {q3 : List Int} {q4 : List Int} {q5 : Int} {q6 : Int} {q7 : List (Int × Int)} {q8 : List Int} {q9 : List Tm} {q10 : Nat} {q11 : Nat} {p1 : CoverTree} {r : LeafFound × Int} (h : e44va45810 qq q0 q1 q2 q3 q4 q5 q6 q7 q8 q9 q10 q11 p1 = some r) : CT Tryz.prog 44 [.cells [.mp 1 0, .mp 3 0, .obj 4, .ms 5 0 (List.length q8) (List.length q8) 1, .ms 6 0 q10 q11 3, .sl (flat intC ([] : List Int)) (List.length ([] : List Int)) .nl], .cells [.sl (flat entL q0) (List.length q0) .no, .mp 2 0, .sl (flat intC q3) (List.length q3) .no, .sl (flat intC q4) (List.length q4) .no], .cells [.sl (flat entL q1) (List.length q1) .no, .sl (flat conL q2) (List.length q2) .no], .cells [ai q5, ai q6], imap q7, .row (flat intC q8), .row (flat tmCells q9)] [.mp 0 0, coverTreeA p1] (.tup [leafFoundA r.1, ai r.2]) [.cells [.mp 1 0, .mp 3 0, .obj 4, .ms 5 0 (List.length q8) (List.length q8) 1, .ms 6 0 q10 q11 3, .sl (flat intC ([] : List Int)) (List.length ([] : List Int)) .nl], .cells [.sl (flat entL q0) (List.length q0) .no, .mp 2 0, .sl (flat intC q3) (List.length q3) .no, .sl (flat intC q4) (List.length q4) .no], .cells [.sl (flat entL q1) (List.length q1) .no, .sl (flat conL q2) (List.length q2) .no], .cells [ai q5, ai q6], imap q7, .row (flat intC q8), .row (flat tmCells q9)] 0 := by
  unfold e44va45810 at h
  exact k44va45810 (tH q44va45810 5 [] [0, 1, 2, 3, 4, 5, 6, 7, 8, 9] [] [0, 3, 4, 6, 7, 8, 25, 26, 27] (oD (dT ([] : List Tm)) <| oD (dI ([] : List Int)) <| oD (dI ([] : List Int)) <| oD (dT ([] : List Tm)) <| oD (dI ([] : List Int)) <| oD (dT ([] : List Tm)) <| oD (dCoverKid p1.kids_) <| oD (dT p1.args_) <| oD (dT p1.binds_) <| oD (dFreeVar p1.vars_) <| oD (dT q9) <| oD (dI q8) <| oD (dC q2) <| oD (dE q1) <| oD (dI q4) <| oD (dI q3) <| oD (dE q0) <| oD (dI ([] : List Int)) o0) (l44va45810L48300 qq _ _ _ _ _ _ _ _ _ _ _ _ _ _ _ h) (fun j => by kernel_rfl))
theorem m44va45810L6206 {qq : Nat} {q0 : List Ent} {q1 : List Ent} {q2 : List Con'} {q3 : List Int} {q4 : List Int} {q5 : Int} {q6 : Int} {q7 : List (Int × Int)} {q8 : List Int} {q9 : List Tm} {q10 : Nat} {q11 : Nat} {p1 : CoverTree} {v7 : List Int} {v8 : List Tm} {v58 : Int} {vb8_2 : List Tm} {r : LeafFound × Int} (h : e44va45810L6206 qq q0 q1 q2 q3 q4 q5 q6 q7 q8 q9 q10 q11 p1 v7 v8 v58 vb8_2 = some r) : e44va45810L6206 (qq + 1) q0 q1 q2 q3 q4 q5 q6 q7 q8 q9 q10 q11 p1 v7 v8 v58 vb8_2 = some r := by
  unfold e44va45810L6206 at h ⊢
  obtain ⟨k, h⟩ := splF h
  rw [ifFe k]
  exact h
theorem m44va45810L47330 {qq : Nat} {q0 : List Ent} {q1 : List Ent} {q2 : List Con'} {q3 : List Int} {q4 : List Int} {q5 : Int} {q6 : Int} {q7 : List (Int × Int)} {q8 : List Int} {q9 : List Tm} {q10 : Nat} {q11 : Nat} {p1 : CoverTree} {v7 : List Int} {v8 : List Tm} {v58 : Int} {r : LeafFound × Int} (h : e44va45810L47330 qq q0 q1 q2 q3 q4 q5 q6 q7 q8 q9 q10 q11 p1 v7 v8 v58 = some r) : e44va45810L47330 (qq + 1) q0 q1 q2 q3 q4 q5 q6 q7 q8 q9 q10 q11 p1 v7 v8 v58 = some r := by
  unfold e44va45810L47330 at h ⊢
  obtain ⟨k, h⟩ := splT h
  rw [ifTe k]
  obtain ⟨x30, hx, h⟩ := obind h
  refine obk hx ?_
  obtain ⟨r32, hx, h⟩ := obind h
  refine obk (m74 hx) ?_
  obtain ⟨k, h⟩ := splF h
  rw [ifFe k]
  obtain ⟨l35, hx, h⟩ := obind h
  refine obk hx ?_
  exact m44va45810L6206 h
theorem m44va45810L34510 {qq : Nat} {q0 : List Ent} {q1 : List Ent} {q2 : List Con'} {q3 : List Int} {q4 : List Int} {q5 : Int} {q6 : Int} {q7 : List (Int × Int)} {q8 : List Int} {q9 : List Tm} {q10 : Nat} {q11 : Nat} {p1 : CoverTree} {v27 : Int} {v7 : List Int} {v8 : List Tm} {r : LeafFound × Int} (h : e44va45810L34510 qq q0 q1 q2 q3 q4 q5 q6 q7 q8 q9 q10 q11 p1 v27 v7 v8 = some r) : e44va45810L34510 (qq + 1) q0 q1 q2 q3 q4 q5 q6 q7 q8 q9 q10 q11 p1 v27 v7 v8 = some r := by
  unfold e44va45810L34510 at h ⊢
  obtain ⟨k, h⟩ := splF h
  rw [ifFe k]
  exact m44va45810L47330 h
theorem m44va45810L48300 {qq : Nat} {q0 : List Ent} {q1 : List Ent} {q2 : List Con'} {q3 : List Int} {q4 : List Int} {q5 : Int} {q6 : Int} {q7 : List (Int × Int)} {q8 : List Int} {q9 : List Tm} {q10 : Nat} {q11 : Nat} {p1 : CoverTree} {v27 : Int} {r : LeafFound × Int} (h : e44va45810L48300 qq q0 q1 q2 q3 q4 q5 q6 q7 q8 q9 q10 q11 p1 v27 = some r) : e44va45810L48300 (qq + 1) q0 q1 q2 q3 q4 q5 q6 q7 q8 q9 q10 q11 p1 v27 = some r := by
  unfold e44va45810L48300 at h ⊢
  obtain ⟨k, h⟩ := splT h
  rw [ifTe k]
  obtain ⟨x2, hx, h⟩ := obind h
  refine obk hx ?_
  obtain ⟨x4, hx, h⟩ := obind h
  refine obk hx ?_
  obtain ⟨k, h⟩ := splT h
  rw [ifTe k]
  obtain ⟨l7, hx, h⟩ := obind h
  refine obk hx ?_
  obtain ⟨x9, hx, h⟩ := obind h
  refine obk hx ?_
  obtain ⟨x11, hx, h⟩ := obind h
  refine obk hx ?_
  obtain ⟨l13, hx, h⟩ := obind h
  refine obk hx ?_
  exact m44va45810L34510 h
theorem m44va45810 {qq : Nat} {q0 : List Ent} {q1 : List Ent} {q2 : List Con'} {q3 : List Int} {q4 : List Int} {q5 : Int} {q6 : Int} {q7 : List (Int × Int)} {q8 : List Int} {q9 : List Tm} {q10 : Nat} {q11 : Nat} {p1 : CoverTree} {r : LeafFound × Int} (h : e44va45810 qq q0 q1 q2 q3 q4 q5 q6 q7 q8 q9 q10 q11 p1 = some r) : e44va45810 (qq + 1) q0 q1 q2 q3 q4 q5 q6 q7 q8 q9 q10 q11 p1 = some r := by
  unfold e44va45810 at h ⊢
  exact m44va45810L48300 h

end Go.Proofs.YtlbmblbeccafcaaGreat

namespace Go.Proofs.YtlbmblbeccafcaaGreat
open Go Go.Ab

/- (*scholium/leaf.walker).kid -/
def e45va45810 (qq : Nat) (q0 : List Ent) (q1 : List Ent) (q2 : List Con') (q3 : List Int) (q4 : List Int) (q5 : Int) (q6 : Int) (q7 : List (Int × Int)) (q8 : List Int) (q9 : List Tm) (q10 : Nat) (q11 : Nat) (p1 : CoverTree) : Option (CoverTree × Bool × Int × List Int × List Tm × Nat × Nat × Int × Int × (List (Int × Int))) :=
  if (ihas q7 p1.var_) = true then
    none
  else
    some (p1, false, 0, q8, q9, q10, q11, q5, q6, q7)
theorem q45va45810 : Tryz.prog.funcs[45]? = some Tryz.f45 ∧ Tryz.f45.body.isNone = false := ⟨Tryz.func45, by kernel_rfl⟩
theorem k45va45810 {q0 : List Ent} {q1 : List Ent} {q2 : List Con'} {q3 : List Int} {q4 : List Int} {q5 : Int} {q6 : Int} {q7 : List (Int × Int)} {q8 : List Int} {q9 : List Tm} {q10 : Nat} {q11 : Nat} {p1 : CoverTree} {r : CoverTree × Bool × Int × List Int × List Tm × Nat × Nat × Int × Int × (List (Int × Int))} (h : CTri Tryz.prog 45 [.cells [.mp 1 0, .mp 3 0, .obj 4, .ms 5 0 (List.length q8) (List.length q8) 1, .ms 6 0 q10 q11 3, .sl (flat intC ([] : List Int)) (List.length ([] : List Int)) .nl], .cells [.sl (flat entL q0) (List.length q0) .no, .mp 2 0, .sl (flat intC q3) (List.length q3) .no, .sl (flat intC q4) (List.length q4) .no], .cells [.sl (flat entL q1) (List.length q1) .no, .sl (flat conL q2) (List.length q2) .no], .cells [ai q5, ai q6], imap q7, .row (flat intC q8), .row (flat tmCells q9)] [.mp 0 0, coverTreeA p1] (.tup [coverTreeA r.1, ab r.2.1, ai r.2.2.1]) [.cells [.mp 1 0, .mp 3 0, .obj 4, .ms 7 0 (List.length r.2.2.2.1) (List.length r.2.2.2.1) 1, .ms 8 0 r.2.2.2.2.2.1 r.2.2.2.2.2.2.1 3, .sl (flat intC ([] : List Int)) (List.length ([] : List Int)) .nl], .cells [.sl (flat entL q0) (List.length q0) .no, .mp 2 0, .sl (flat intC q3) (List.length q3) .no, .sl (flat intC q4) (List.length q4) .no], .cells [.sl (flat entL q1) (List.length q1) .no, .sl (flat conL q2) (List.length q2) .no], .cells [ai r.2.2.2.2.2.2.2.1, ai r.2.2.2.2.2.2.2.2.1], imap r.2.2.2.2.2.2.2.2.2, .dead, .dead, .row (flat intC r.2.2.2.1), .row (flat tmCells r.2.2.2.2.1)] 0) : CT Tryz.prog 45 [.cells [.mp 1 0, .mp 3 0, .obj 4, .ms 5 0 (List.length q8) (List.length q8) 1, .ms 6 0 q10 q11 3, .sl (flat intC ([] : List Int)) (List.length ([] : List Int)) .nl], .cells [.sl (flat entL q0) (List.length q0) .no, .mp 2 0, .sl (flat intC q3) (List.length q3) .no, .sl (flat intC q4) (List.length q4) .no], .cells [.sl (flat entL q1) (List.length q1) .no, .sl (flat conL q2) (List.length q2) .no], .cells [ai q5, ai q6], imap q7, .row (flat intC q8), .row (flat tmCells q9)] [.mp 0 0, coverTreeA p1] (.tup [coverTreeA r.1, ab r.2.1, ai r.2.2.1]) [.cells [.mp 1 0, .mp 3 0, .obj 4, .ms 7 0 (List.length r.2.2.2.1) (List.length r.2.2.2.1) 1, .ms 8 0 r.2.2.2.2.2.1 r.2.2.2.2.2.2.1 3, .sl (flat intC ([] : List Int)) (List.length ([] : List Int)) .nl], .cells [.sl (flat entL q0) (List.length q0) .no, .mp 2 0, .sl (flat intC q3) (List.length q3) .no, .sl (flat intC q4) (List.length q4) .no], .cells [.sl (flat entL q1) (List.length q1) .no, .sl (flat conL q2) (List.length q2) .no], .cells [ai r.2.2.2.2.2.2.2.1, ai r.2.2.2.2.2.2.2.2.1], imap r.2.2.2.2.2.2.2.2.2, .dead, .dead, .row (flat intC r.2.2.2.1), .row (flat tmCells r.2.2.2.2.1)] 0 := ⟨h, ⟨(show 0 < 7 by decide), ⟨trivial, trivial, trivial, ⟨trivial, dFreeVar _⟩, ⟨trivial, dT _⟩, ⟨trivial, dT _⟩, ⟨trivial, dCoverKid _⟩, trivial⟩, trivial⟩, (forall_cons ⟨(show 1 < 7 by decide), (show 3 < 7 by decide), (show 4 < 7 by decide), (show 5 < 7 by decide), (show 6 < 7 by decide), ⟨trivial, dI _⟩, trivial⟩ (forall_cons ⟨⟨trivial, dE _⟩, (show 2 < 7 by decide), ⟨trivial, dI _⟩, ⟨trivial, dI _⟩, trivial⟩ (forall_cons ⟨⟨trivial, dE _⟩, ⟨trivial, dC _⟩, trivial⟩ (forall_cons ⟨trivial, trivial, trivial⟩ (forall_cons trivial (forall_cons (dI _) (forall_cons (dT _) forall_nil))))))), ⟨⟨trivial, trivial, trivial, dFreeVar _, dT _, dT _, dCoverKid _, trivial⟩, trivial, trivial, trivial⟩, (forall_cons ⟨(show 1 < 9 by decide), (show 3 < 9 by decide), (show 4 < 9 by decide), (show 7 < 9 by decide), (show 8 < 9 by decide), dI _, trivial⟩ (forall_cons ⟨dE _, (show 2 < 9 by decide), dI _, dI _, trivial⟩ (forall_cons ⟨dE _, dC _, trivial⟩ (forall_cons ⟨trivial, trivial, trivial⟩ (forall_cons trivial (forall_cons trivial (forall_cons trivial (forall_cons (dI _) (forall_cons (dT _) forall_nil)))))))))⟩
theorem c45va45810 {qq : Nat} {q0 : List Ent} {q1 : List Ent} {q2 : List Con'} {q3 : List Int} {q4 : List Int} {q5 : Int} {q6 : Int} {q7 : List (Int × Int)} {q8 : List Int} {q9 : List Tm} {q10 : Nat} {q11 : Nat} {p1 : CoverTree} {r : CoverTree × Bool × Int × List Int × List Tm × Nat × Nat × Int × Int × (List (Int × Int))} (h : e45va45810 qq q0 q1 q2 q3 q4 q5 q6 q7 q8 q9 q10 q11 p1 = some r) : CT Tryz.prog 45 [.cells [.mp 1 0, .mp 3 0, .obj 4, .ms 5 0 (List.length q8) (List.length q8) 1, .ms 6 0 q10 q11 3, .sl (flat intC ([] : List Int)) (List.length ([] : List Int)) .nl], .cells [.sl (flat entL q0) (List.length q0) .no, .mp 2 0, .sl (flat intC q3) (List.length q3) .no, .sl (flat intC q4) (List.length q4) .no], .cells [.sl (flat entL q1) (List.length q1) .no, .sl (flat conL q2) (List.length q2) .no], .cells [ai q5, ai q6], imap q7, .row (flat intC q8), .row (flat tmCells q9)] [.mp 0 0, coverTreeA p1] (.tup [coverTreeA r.1, ab r.2.1, ai r.2.2.1]) [.cells [.mp 1 0, .mp 3 0, .obj 4, .ms 7 0 (List.length r.2.2.2.1) (List.length r.2.2.2.1) 1, .ms 8 0 r.2.2.2.2.2.1 r.2.2.2.2.2.2.1 3, .sl (flat intC ([] : List Int)) (List.length ([] : List Int)) .nl], .cells [.sl (flat entL q0) (List.length q0) .no, .mp 2 0, .sl (flat intC q3) (List.length q3) .no, .sl (flat intC q4) (List.length q4) .no], .cells [.sl (flat entL q1) (List.length q1) .no, .sl (flat conL q2) (List.length q2) .no], .cells [ai r.2.2.2.2.2.2.2.1, ai r.2.2.2.2.2.2.2.2.1], imap r.2.2.2.2.2.2.2.2.2, .dead, .dead, .row (flat intC r.2.2.2.1), .row (flat tmCells r.2.2.2.2.1)] 0 := by
  unfold e45va45810 at h
  have k := oL 2 (lkJ91 q7 p1.var_) o0
  obtain ⟨h1, h⟩ := splF h
  obtain rfl := sj h
  exact k45va45810 (tG q45va45810 3 [(some 5, 0, 0), (some 6, 0, 0)] [0, 1, 2, 3, 4, 5, 6, 9, 10] [] true (oD (dCoverKid p1.kids_) <| oD (dT p1.args_) <| oD (dT p1.binds_) <| oD (dFreeVar p1.vars_) <| oD (dT q9) <| oD (dI q8) <| oD (dC q2) <| oD (dE q1) <| oD (dI q4) <| oD (dI q3) <| oD (dE q0) <| oD (dI ([] : List Int)) <| oB 1 h1 k) (by kernel_rfl) (by decide))
theorem m45va45810 {qq : Nat} {q0 : List Ent} {q1 : List Ent} {q2 : List Con'} {q3 : List Int} {q4 : List Int} {q5 : Int} {q6 : Int} {q7 : List (Int × Int)} {q8 : List Int} {q9 : List Tm} {q10 : Nat} {q11 : Nat} {p1 : CoverTree} {r : CoverTree × Bool × Int × List Int × List Tm × Nat × Nat × Int × Int × (List (Int × Int))} (h : e45va45810 qq q0 q1 q2 q3 q4 q5 q6 q7 q8 q9 q10 q11 p1 = some r) : e45va45810 (qq + 1) q0 q1 q2 q3 q4 q5 q6 q7 q8 q9 q10 q11 p1 = some r := by
  unfold e45va45810 at h ⊢
  obtain ⟨k, h⟩ := splF h
  rw [ifFe k]
  exact h

end Go.Proofs.YtlbmblbeccafcaaGreat

namespace Go.Proofs.YtlbmblbeccafcaaGreat
open Go Go.Ab

/- (*scholium/leaf.walker).kid -/
def e45va8026 (qq : Nat) (q0 : List Ent) (q1 : List Ent) (q2 : List Con') (q3 : List Int) (q4 : List Int) (q5 : Int) (q6 : Int) (q7 : List (Int × Int)) (p1 : CoverTree) : Option (CoverTree × Bool × Int) :=
  if (ihas q7 p1.var_) = true then
    none
  else
    some (p1, false, 0)
theorem q45va8026 : Tryz.prog.funcs[45]? = some Tryz.f45 ∧ Tryz.f45.body.isNone = false := ⟨Tryz.func45, by kernel_rfl⟩
theorem k45va8026 {q0 : List Ent} {q1 : List Ent} {q2 : List Con'} {q3 : List Int} {q4 : List Int} {q5 : Int} {q6 : Int} {q7 : List (Int × Int)} {p1 : CoverTree} {r : CoverTree × Bool × Int} (h : CTri Tryz.prog 45 [.cells [.mp 1 0, .mp 3 0, .obj 4, .sl (flat intC ([] : List Int)) (List.length ([] : List Int)) .nl, .sl (flat tmCells ([] : List Tm)) (List.length ([] : List Tm)) .nl, .sl (flat intC ([] : List Int)) (List.length ([] : List Int)) .nl], .cells [.sl (flat entL q0) (List.length q0) .no, .mp 2 0, .sl (flat intC q3) (List.length q3) .no, .sl (flat intC q4) (List.length q4) .no], .cells [.sl (flat entL q1) (List.length q1) .no, .sl (flat conL q2) (List.length q2) .no], .cells [ai q5, ai q6], imap q7] [.mp 0 0, coverTreeA p1] (.tup [coverTreeA r.1, ab r.2.1, ai r.2.2]) [.cells [.mp 1 0, .mp 3 0, .obj 4, .sl (flat intC ([] : List Int)) (List.length ([] : List Int)) .nl, .sl (flat tmCells ([] : List Tm)) (List.length ([] : List Tm)) .nl, .sl (flat intC ([] : List Int)) (List.length ([] : List Int)) .nl], .cells [.sl (flat entL q0) (List.length q0) .no, .mp 2 0, .sl (flat intC q3) (List.length q3) .no, .sl (flat intC q4) (List.length q4) .no], .cells [.sl (flat entL q1) (List.length q1) .no, .sl (flat conL q2) (List.length q2) .no], .cells [ai q5, ai q6], imap q7] 0) : CT Tryz.prog 45 [.cells [.mp 1 0, .mp 3 0, .obj 4, .sl (flat intC ([] : List Int)) (List.length ([] : List Int)) .nl, .sl (flat tmCells ([] : List Tm)) (List.length ([] : List Tm)) .nl, .sl (flat intC ([] : List Int)) (List.length ([] : List Int)) .nl], .cells [.sl (flat entL q0) (List.length q0) .no, .mp 2 0, .sl (flat intC q3) (List.length q3) .no, .sl (flat intC q4) (List.length q4) .no], .cells [.sl (flat entL q1) (List.length q1) .no, .sl (flat conL q2) (List.length q2) .no], .cells [ai q5, ai q6], imap q7] [.mp 0 0, coverTreeA p1] (.tup [coverTreeA r.1, ab r.2.1, ai r.2.2]) [.cells [.mp 1 0, .mp 3 0, .obj 4, .sl (flat intC ([] : List Int)) (List.length ([] : List Int)) .nl, .sl (flat tmCells ([] : List Tm)) (List.length ([] : List Tm)) .nl, .sl (flat intC ([] : List Int)) (List.length ([] : List Int)) .nl], .cells [.sl (flat entL q0) (List.length q0) .no, .mp 2 0, .sl (flat intC q3) (List.length q3) .no, .sl (flat intC q4) (List.length q4) .no], .cells [.sl (flat entL q1) (List.length q1) .no, .sl (flat conL q2) (List.length q2) .no], .cells [ai q5, ai q6], imap q7] 0 := ⟨h, ⟨(show 0 < 5 by decide), ⟨trivial, trivial, trivial, ⟨trivial, dFreeVar _⟩, ⟨trivial, dT _⟩, ⟨trivial, dT _⟩, ⟨trivial, dCoverKid _⟩, trivial⟩, trivial⟩, (forall_cons ⟨(show 1 < 5 by decide), (show 3 < 5 by decide), (show 4 < 5 by decide), ⟨trivial, dI _⟩, ⟨trivial, dT _⟩, ⟨trivial, dI _⟩, trivial⟩ (forall_cons ⟨⟨trivial, dE _⟩, (show 2 < 5 by decide), ⟨trivial, dI _⟩, ⟨trivial, dI _⟩, trivial⟩ (forall_cons ⟨⟨trivial, dE _⟩, ⟨trivial, dC _⟩, trivial⟩ (forall_cons ⟨trivial, trivial, trivial⟩ (forall_cons trivial forall_nil))))), ⟨⟨trivial, trivial, trivial, dFreeVar _, dT _, dT _, dCoverKid _, trivial⟩, trivial, trivial, trivial⟩, (forall_cons ⟨(show 1 < 5 by decide), (show 3 < 5 by decide), (show 4 < 5 by decide), dI _, dT _, dI _, trivial⟩ (forall_cons ⟨dE _, (show 2 < 5 by decide), dI _, dI _, trivial⟩ (forall_cons ⟨dE _, dC _, trivial⟩ (forall_cons ⟨trivial, trivial, trivial⟩ (forall_cons trivial forall_nil)))))⟩
theorem c45va8026 {qq : Nat} {q0 : List Ent} {q1 : List Ent} {q2 : List Con'} {q3 : List Int} {q4 : List Int} {q5 : Int} {q6 : Int} {q7 : List (Int × Int)} {p1 : CoverTree} {r : CoverTree × Bool × Int} (h : e45va8026 qq q0 q1 q2 q3 q4 q5 q6 q7 p1 = some r) : CT Tryz.prog 45 [.cells [.mp 1 0, .mp 3 0, .obj 4, .sl (flat intC ([] : List Int)) (List.length ([] : List Int)) .nl, .sl (flat tmCells ([] : List Tm)) (List.length ([] : List Tm)) .nl, .sl (flat intC ([] : List Int)) (List.length ([] : List Int)) .nl], .cells [.sl (flat entL q0) (List.length q0) .no, .mp 2 0, .sl (flat intC q3) (List.length q3) .no, .sl (flat intC q4) (List.length q4) .no], .cells [.sl (flat entL q1) (List.length q1) .no, .sl (flat conL q2) (List.length q2) .no], .cells [ai q5, ai q6], imap q7] [.mp 0 0, coverTreeA p1] (.tup [coverTreeA r.1, ab r.2.1, ai r.2.2]) [.cells [.mp 1 0, .mp 3 0, .obj 4, .sl (flat intC ([] : List Int)) (List.length ([] : List Int)) .nl, .sl (flat tmCells ([] : List Tm)) (List.length ([] : List Tm)) .nl, .sl (flat intC ([] : List Int)) (List.length ([] : List Int)) .nl], .cells [.sl (flat entL q0) (List.length q0) .no, .mp 2 0, .sl (flat intC q3) (List.length q3) .no, .sl (flat intC q4) (List.length q4) .no], .cells [.sl (flat entL q1) (List.length q1) .no, .sl (flat conL q2) (List.length q2) .no], .cells [ai q5, ai q6], imap q7] 0 := by
  unfold e45va8026 at h
  have k := oL 2 (lkJ91 q7 p1.var_) o0
  obtain ⟨h1, h⟩ := splF h
  obtain rfl := sj h
  exact k45va8026 (tG q45va8026 3 [] [0, 1, 2, 3, 4] [] true (oD (dCoverKid p1.kids_) <| oD (dT p1.args_) <| oD (dT p1.binds_) <| oD (dFreeVar p1.vars_) <| oD (dC q2) <| oD (dE q1) <| oD (dI q4) <| oD (dI q3) <| oD (dE q0) <| oD (dI ([] : List Int)) <| oD (dT ([] : List Tm)) <| oD (dI ([] : List Int)) <| oB 1 h1 k) (by kernel_rfl) (by decide))
theorem m45va8026 {qq : Nat} {q0 : List Ent} {q1 : List Ent} {q2 : List Con'} {q3 : List Int} {q4 : List Int} {q5 : Int} {q6 : Int} {q7 : List (Int × Int)} {p1 : CoverTree} {r : CoverTree × Bool × Int} (h : e45va8026 qq q0 q1 q2 q3 q4 q5 q6 q7 p1 = some r) : e45va8026 (qq + 1) q0 q1 q2 q3 q4 q5 q6 q7 p1 = some r := by
  unfold e45va8026 at h ⊢
  obtain ⟨k, h⟩ := splF h
  rw [ifFe k]
  exact h

end Go.Proofs.YtlbmblbeccafcaaGreat

namespace Go.Proofs.YtlbmblbeccafcaaGreat
open Go Go.Ab

/- scholium/leaf.Down -/
def e13L62586 (qq : Nat) (M : Mach) (vb2_0 : Int) (vb2_1 : Int) (vb3_0 : Int) (vb3_1 : Int) (vb3_2 : Int) (vb3_3 : List FreeVar) (vb3_4 : List Tm) (vb3_5 : List Tm) (vb3_6 : List CoverKid) (vb5_4_c : Nat) (vb5_4_n : Nat) (vb6_0 : List (Int × Int)) (vb7_0 : List Int) (vb8_0 : List Tm) : Option (LeafFound × Int × Int × Int) :=
  if (vb3_0 == 1) = true then
    (e44va45810 qq M.l M.rl M.parts M.args M.own vb2_0 vb2_1 vb6_0 vb7_0 vb8_0 vb5_4_n vb5_4_c (CoverTree.mk vb3_0 vb3_1 vb3_2 vb3_3 vb3_4 vb3_5 vb3_6)) >>= fun r29 =>
    some (r29.1, r29.2, vb2_0, vb2_1)
  else
    if (vb3_0 == 3) = true then
      (e45va45810 qq M.l M.rl M.parts M.args M.own vb2_0 vb2_1 vb6_0 vb7_0 vb8_0 vb5_4_n vb5_4_c (CoverTree.mk vb3_0 vb3_1 vb3_2 vb3_3 vb3_4 vb3_5 vb3_6)) >>= fun r32 =>
      if r32.2.1 = true then
        none
      else
        if (r32.2.2.1 != 0) = true then
          none
        else
          (e46 qq []) >>= fun r37 =>
          some ((LeafFound.mk false 0 [] r37), 0, r32.2.2.2.2.2.2.2.1, r32.2.2.2.2.2.2.2.2.1)
    else
      (e46 qq []) >>= fun r39 =>
      some ((LeafFound.mk false 0 [] r39), 0, vb2_0, vb2_1)
def e13L17591 : Nat → Mach → CoverTree → (List Tm) → Int → Int → Int → Nat → Nat → (List (Int × Int)) → (List Int) → (List Tm) →  Option (LeafFound × Int × Int × Int)
  | 0, _, _, _, _, _, _, _, _, _, _, _ => none
  | qq + 1, M, p1, p2, fl, fu, v31, vb5_4_c, vb5_4_n, vb6_0, vb7_0, vb8_0 =>
    if decide (v31 < (List.length p2 : Int)) = true then
      (gidx p2 v31) >>= fun x16 =>
      (e40 qq x16) >>= fun r18 =>
      if r18 = true then
        (e42 qq M) >>= fun r21 =>
        (e41 qq x16 0 r21) >>= fun r23 =>
        if r23 = true then
          (e43va36581 qq M.l M.rl M.parts M.args M.own fl fu vb6_0 vb7_0 vb8_0 vb5_4_n vb5_4_c [v31] [x16]) >>= fun r26 =>
          e13L17591 qq M p1 p2 fl fu (w64 (v31 + 1)) r26.2.2.2.1 r26.2.2.1 r26.2.2.2.2 r26.1 r26.2.1
        else
          none
      else
        none
    else
      e13L62586 qq M fl fu p1.kind_ p1.row_ p1.var_ p1.vars_ p1.binds_ p1.args_ p1.kids_ vb5_4_c vb5_4_n vb6_0 vb7_0 vb8_0
def e13L40467 (qq : Nat) (M : Mach) (fl : Int) (fu : Int) (vb3_0 : Int) (vb3_1 : Int) (vb3_2 : Int) (vb3_3 : List FreeVar) (vb3_4 : List Tm) (vb3_5 : List Tm) (vb3_6 : List CoverKid) : Option (LeafFound × Int × Int × Int) :=
  if (vb3_0 == 1) = true then
    none
  else
    if (vb3_0 == 3) = true then
      (e45va8026 qq M.l M.rl M.parts M.args M.own fl fu ([] : List (Int × Int)) (CoverTree.mk vb3_0 vb3_1 vb3_2 vb3_3 vb3_4 vb3_5 vb3_6)) >>= fun r19 =>
      if r19.2.1 = true then
        none
      else
        if (r19.2.2 != 0) = true then
          none
        else
          (e46 qq []) >>= fun r24 =>
          some ((LeafFound.mk false 0 [] r24), 0, fl, fu)
    else
      (e46 qq []) >>= fun r26 =>
      some ((LeafFound.mk false 0 [] r26), 0, fl, fu)
def e13L26054 (qq : Nat) (M : Mach) (p1 : CoverTree) (p2 : List Tm) (fl : Int) (fu : Int) (v31 : Int) : Option (LeafFound × Int × Int × Int) :=
  if decide (v31 < (List.length p2 : Int)) = true then
    (gidx p2 v31) >>= fun x3 =>
    (e40 qq x3) >>= fun r5 =>
    if r5 = true then
      (e42 qq M) >>= fun r8 =>
      (e41 qq x3 0 r8) >>= fun r10 =>
      if r10 = true then
        (e43va38460 qq M.l M.rl M.parts M.args M.own fl fu ([] : List (Int × Int)) [v31] [x3]) >>= fun r13 =>
        e13L17591 qq M p1 p2 fl fu (w64 (v31 + 1)) r13.2.2.2.1 r13.2.2.1 r13.2.2.2.2 r13.1 r13.2.1
      else
        none
    else
      none
  else
    e13L40467 qq M fl fu p1.kind_ p1.row_ p1.var_ p1.vars_ p1.binds_ p1.args_ p1.kids_
def e13 (qq : Nat) (M : Mach) (p1 : CoverTree) (p2 : List Tm) (fl : Int) (fu : Int) : Option (LeafFound × Int × Int × Int) :=
  if decide ((List.length p2 : Int) > 24) = true then
    none
  else
    e13L26054 qq M p1 p2 fl fu 0
def g13L26054E0 (j : Nat → Value) (M : Mach) (p1 : CoverTree) (p2 : List Tm) (fl : Int) (fu : Int) (v31 : Int) : List AV := sp j 84 0 [(0, .mp 0 0), (5, .mp 3 0), (8, .mp 4 0), (10, .mp 5 0), (29, .sl (flat tmCells p2) (List.length p2) .no), (30, ai (List.length p2 : Int)), (31, ai v31)]
def g13L26054S0 (M : Mach) (p1 : CoverTree) (p2 : List Tm) (fl : Int) (fu : Int) (v31 : Int) : LSt := ⟨[(0, .cells [.sl (flat entL M.l) (List.length M.l) .no, .mp 1 0, .sl (flat intC M.args) (List.length M.args) .no, .sl (flat intC M.own) (List.length M.own) .no]), (1, .cells [.sl (flat entL M.rl) (List.length M.rl) .no, .sl (flat conL M.parts) (List.length M.parts) .no]), (2, .cells [ai fl, ai fu]), (3, .cells [ai p1.kind_, ai p1.row_, ai p1.var_, .sl (flat freeVarL p1.vars_) (List.length p1.vars_) .no, .sl (flat tmCells p1.binds_) (List.length p1.binds_) .no, .sl (flat tmCells p1.args_) (List.length p1.args_) .no, .sl (flat coverKidC p1.kids_) (List.length p1.kids_) .no]), (4, .cells [ab false, ai 0, .sl (flat tmCells ([] : List Tm)) (List.length ([] : List Tm)) .nl, .sl (flat intC ([] : List Int)) (List.length ([] : List Int)) .nl]), (5, .cells [.mp 0 0, .mp 2 0, .obj 6, .sl (flat intC ([] : List Int)) (List.length ([] : List Int)) .nl, .sl (flat tmCells ([] : List Tm)) (List.length ([] : List Tm)) .nl, .sl (flat intC ([] : List Int)) (List.length ([] : List Int)) .nl]), (6, imap ([] : List (Int × Int)))], 7, [], 0, []⟩
def g13L17591E0 (j : Nat → Value) (M : Mach) (p1 : CoverTree) (p2 : List Tm) (fl : Int) (fu : Int) (v31 : Int) (vb5_4_c : Nat) (vb5_4_n : Nat) (vb6_0 : List (Int × Int)) (vb7_0 : List Int) (vb8_0 : List Tm) : List AV := sp j 84 0 [(0, .mp 0 0), (5, .mp 3 0), (8, .mp 4 0), (10, .mp 5 0), (29, .sl (flat tmCells p2) (List.length p2) .no), (30, ai (List.length p2 : Int)), (31, ai v31)]
def g13L17591S0 (M : Mach) (p1 : CoverTree) (p2 : List Tm) (fl : Int) (fu : Int) (v31 : Int) (vb5_4_c : Nat) (vb5_4_n : Nat) (vb6_0 : List (Int × Int)) (vb7_0 : List Int) (vb8_0 : List Tm) : LSt := ⟨[(0, .cells [.sl (flat entL M.l) (List.length M.l) .no, .mp 1 0, .sl (flat intC M.args) (List.length M.args) .no, .sl (flat intC M.own) (List.length M.own) .no]), (1, .cells [.sl (flat entL M.rl) (List.length M.rl) .no, .sl (flat conL M.parts) (List.length M.parts) .no]), (2, .cells [ai fl, ai fu]), (3, .cells [ai p1.kind_, ai p1.row_, ai p1.var_, .sl (flat freeVarL p1.vars_) (List.length p1.vars_) .no, .sl (flat tmCells p1.binds_) (List.length p1.binds_) .no, .sl (flat tmCells p1.args_) (List.length p1.args_) .no, .sl (flat coverKidC p1.kids_) (List.length p1.kids_) .no]), (4, .cells [ab false, ai 0, .sl (flat tmCells ([] : List Tm)) (List.length ([] : List Tm)) .nl, .sl (flat intC ([] : List Int)) (List.length ([] : List Int)) .nl]), (5, .cells [.mp 0 0, .mp 2 0, .obj 6, .ms 7 0 (List.length vb7_0) (List.length vb7_0) 1, .ms 8 0 vb5_4_n vb5_4_c 3, .sl (flat intC ([] : List Int)) (List.length ([] : List Int)) .nl]), (6, imap vb6_0), (7, .row (flat intC vb7_0)), (8, .row (flat tmCells vb8_0))], 9, [], 0, []⟩
def g13L62586E0 (j : Nat → Value) (M : Mach) (vb2_0 : Int) (vb2_1 : Int) (vb3_0 : Int) (vb3_1 : Int) (vb3_2 : Int) (vb3_3 : List FreeVar) (vb3_4 : List Tm) (vb3_5 : List Tm) (vb3_6 : List CoverKid) (vb5_4_c : Nat) (vb5_4_n : Nat) (vb6_0 : List (Int × Int)) (vb7_0 : List Int) (vb8_0 : List Tm) : List AV := sp j 84 0 [(5, .mp 3 0), (8, .mp 4 0), (10, .mp 5 0)]
def g13L62586S0 (M : Mach) (vb2_0 : Int) (vb2_1 : Int) (vb3_0 : Int) (vb3_1 : Int) (vb3_2 : Int) (vb3_3 : List FreeVar) (vb3_4 : List Tm) (vb3_5 : List Tm) (vb3_6 : List CoverKid) (vb5_4_c : Nat) (vb5_4_n : Nat) (vb6_0 : List (Int × Int)) (vb7_0 : List Int) (vb8_0 : List Tm) : LSt := ⟨[(0, .cells [.sl (flat entL M.l) (List.length M.l) .no, .mp 1 0, .sl (flat intC M.args) (List.length M.args) .no, .sl (flat intC M.own) (List.length M.own) .no]), (1, .cells [.sl (flat entL M.rl) (List.length M.rl) .no, .sl (flat conL M.parts) (List.length M.parts) .no]), (2, .cells [ai vb2_0, ai vb2_1]), (3, .cells [ai vb3_0, ai vb3_1, ai vb3_2, .sl (flat freeVarL vb3_3) (List.length vb3_3) .no, .sl (flat tmCells vb3_4) (List.length vb3_4) .no, .sl (flat tmCells vb3_5) (List.length vb3_5) .no, .sl (flat coverKidC vb3_6) (List.length vb3_6) .no]), (4, .cells [ab false, ai 0, .sl (flat tmCells ([] : List Tm)) (List.length ([] : List Tm)) .nl, .sl (flat intC ([] : List Int)) (List.length ([] : List Int)) .nl]), (5, .cells [.mp 0 0, .mp 2 0, .obj 6, .ms 7 0 (List.length vb7_0) (List.length vb7_0) 1, .ms 8 0 vb5_4_n vb5_4_c 3, .sl (flat intC ([] : List Int)) (List.length ([] : List Int)) .nl]), (6, imap vb6_0), (7, .row (flat intC vb7_0)), (8, .row (flat tmCells vb8_0))], 9, [], 0, []⟩
def g13L40467E0 (j : Nat → Value) (M : Mach) (fl : Int) (fu : Int) (vb3_0 : Int) (vb3_1 : Int) (vb3_2 : Int) (vb3_3 : List FreeVar) (vb3_4 : List Tm) (vb3_5 : List Tm) (vb3_6 : List CoverKid) : List AV := sp j 84 0 [(5, .mp 3 0), (8, .mp 4 0), (10, .mp 5 0)]
def g13L40467S0 (M : Mach) (fl : Int) (fu : Int) (vb3_0 : Int) (vb3_1 : Int) (vb3_2 : Int) (vb3_3 : List FreeVar) (vb3_4 : List Tm) (vb3_5 : List Tm) (vb3_6 : List CoverKid) : LSt := ⟨[(0, .cells [.sl (flat entL M.l) (List.length M.l) .no, .mp 1 0, .sl (flat intC M.args) (List.length M.args) .no, .sl (flat intC M.own) (List.length M.own) .no]), (1, .cells [.sl (flat entL M.rl) (List.length M.rl) .no, .sl (flat conL M.parts) (List.length M.parts) .no]), (2, .cells [ai fl, ai fu]), (3, .cells [ai vb3_0, ai vb3_1, ai vb3_2, .sl (flat freeVarL vb3_3) (List.length vb3_3) .no, .sl (flat tmCells vb3_4) (List.length vb3_4) .no, .sl (flat tmCells vb3_5) (List.length vb3_5) .no, .sl (flat coverKidC vb3_6) (List.length vb3_6) .no]), (4, .cells [ab false, ai 0, .sl (flat tmCells ([] : List Tm)) (List.length ([] : List Tm)) .nl, .sl (flat intC ([] : List Int)) (List.length ([] : List Int)) .nl]), (5, .cells [.mp 0 0, .mp 2 0, .obj 6, .sl (flat intC ([] : List Int)) (List.length ([] : List Int)) .nl, .sl (flat tmCells ([] : List Tm)) (List.length ([] : List Tm)) .nl, .sl (flat intC ([] : List Int)) (List.length ([] : List Int)) .nl]), (6, imap ([] : List (Int × Int)))], 7, [], 0, []⟩
theorem q13 : Tryz.prog.funcs[13]? = some Tryz.f13 ∧ Tryz.f13.body.isNone = false := ⟨Tryz.func13, by kernel_rfl⟩
theorem k13 {M : Mach} {p1 : CoverTree} {p2 : List Tm} {fl : Int} {fu : Int} {r : LeafFound × Int × Int × Int} (h : CTri Tryz.prog 13 [.cells [.sl (flat entL M.l) (List.length M.l) .no, .mp 1 0, .sl (flat intC M.args) (List.length M.args) .no, .sl (flat intC M.own) (List.length M.own) .no], .cells [.sl (flat entL M.rl) (List.length M.rl) .no, .sl (flat conL M.parts) (List.length M.parts) .no], .cells [ai fl, ai fu]] [.mp 0 0, coverTreeA p1, .sl (flat tmCells p2) (List.length p2) .no, .mp 2 0] (.tup [leafFoundA r.1, ai r.2.1]) [.cells [.sl (flat entL M.l) (List.length M.l) .no, .mp 1 0, .sl (flat intC M.args) (List.length M.args) .no, .sl (flat intC M.own) (List.length M.own) .no], .cells [.sl (flat entL M.rl) (List.length M.rl) .no, .sl (flat conL M.parts) (List.length M.parts) .no], .cells [ai r.2.2.1, ai r.2.2.2]] 0) : CT Tryz.prog 13 [.cells [.sl (flat entL M.l) (List.length M.l) .no, .mp 1 0, .sl (flat intC M.args) (List.length M.args) .no, .sl (flat intC M.own) (List.length M.own) .no], .cells [.sl (flat entL M.rl) (List.length M.rl) .no, .sl (flat conL M.parts) (List.length M.parts) .no], .cells [ai fl, ai fu]] [.mp 0 0, coverTreeA p1, .sl (flat tmCells p2) (List.length p2) .no, .mp 2 0] (.tup [leafFoundA r.1, ai r.2.1]) [.cells [.sl (flat entL M.l) (List.length M.l) .no, .mp 1 0, .sl (flat intC M.args) (List.length M.args) .no, .sl (flat intC M.own) (List.length M.own) .no], .cells [.sl (flat entL M.rl) (List.length M.rl) .no, .sl (flat conL M.parts) (List.length M.parts) .no], .cells [ai r.2.2.1, ai r.2.2.2]] 0 := ⟨h, ⟨(show 0 < 3 by decide), ⟨trivial, trivial, trivial, ⟨trivial, dFreeVar _⟩, ⟨trivial, dT _⟩, ⟨trivial, dT _⟩, ⟨trivial, dCoverKid _⟩, trivial⟩, ⟨trivial, dT _⟩, (show 2 < 3 by decide), trivial⟩, (forall_cons ⟨⟨trivial, dE _⟩, (show 1 < 3 by decide), ⟨trivial, dI _⟩, ⟨trivial, dI _⟩, trivial⟩ (forall_cons ⟨⟨trivial, dE _⟩, ⟨trivial, dC _⟩, trivial⟩ (forall_cons ⟨trivial, trivial, trivial⟩ forall_nil))), ⟨⟨trivial, trivial, dT _, dI _, trivial⟩, trivial, trivial⟩, (forall_cons ⟨dE _, (show 1 < 3 by decide), dI _, dI _, trivial⟩ (forall_cons ⟨dE _, dC _, trivial⟩ (forall_cons ⟨trivial, trivial, trivial⟩ forall_nil)))⟩
theorem l13L62586 (qq : Nat) (M : Mach) (vb2_0 : Int) (vb2_1 : Int) (vb3_0 : Int) (vb3_1 : Int) (vb3_2 : Int) (vb3_3 : List FreeVar) (vb3_4 : List Tm) (vb3_5 : List Tm) (vb3_6 : List CoverKid) (vb5_4_c : Nat) (vb5_4_n : Nat) (vb6_0 : List (Int × Int)) (vb7_0 : List Int) (vb8_0 : List Tm) (r : LeafFound × Int × Int × Int) (h : e13L62586 qq M vb2_0 vb2_1 vb3_0 vb3_1 vb3_2 vb3_3 vb3_4 vb3_5 vb3_6 vb5_4_c vb5_4_n vb6_0 vb7_0 vb8_0 = some r) : (∀ j, Dl Tryz.prog 3 (inn (inn (lft (rgt (rgt (rgt (rgt (inn (rgt (bod Tryz.f13)))))))))) (g13L62586E0 j M vb2_0 vb2_1 vb3_0 vb3_1 vb3_2 vb3_3 vb3_4 vb3_5 vb3_6 vb5_4_c vb5_4_n vb6_0 vb7_0 vb8_0) (g13L62586S0 M vb2_0 vb2_1 vb3_0 vb3_1 vb3_2 vb3_3 vb3_4 vb3_5 vb3_6 vb5_4_c vb5_4_n vb6_0 vb7_0 vb8_0) (frameQ Tryz.prog 3 (FinQ Tryz.prog 3 Tryz.f13 (.tup [leafFoundA r.1, ai r.2.1]) [.cells [.sl (flat entL M.l) (List.length M.l) .no, .mp 1 0, .sl (flat intC M.args) (List.length M.args) .no, .sl (flat intC M.own) (List.length M.own) .no], .cells [.sl (flat entL M.rl) (List.length M.rl) .no, .sl (flat conL M.parts) (List.length M.parts) .no], .cells [ai r.2.2.1, ai r.2.2.2]] 0) [.blk 2, .seq (rgt (rgt (rgt (rgt (rgt (inn (rgt (bod Tryz.f13))))))))])) := by
  unfold e13L62586 at h
  rcases spl h with ⟨h28, h⟩ | ⟨h28, h⟩
  · obtain ⟨r29, h30, h⟩ := obind h
    obtain rfl := sj h
    exact fun j => lF 3 [0, 1, 2] (oD (dI r29.1.path_) <| oD (dT r29.1.binds_) <| oD (dC M.parts) <| oD (dE M.rl) <| oD (dI M.own) <| oD (dI M.args) <| oD (dE M.l) <| oC 1 [5, 0, 1, 2, 6, 7, 8] (c44va45810 h30) <| oB 1 h28 o0) (by kernel_rfl)
  · have k := oB 1 h28 o0
    rcases spl h with ⟨h31, h⟩ | ⟨h31, h⟩
    · obtain ⟨r32, h33, h⟩ := obind h
      have k := oC 1 [5, 0, 1, 2, 6, 7, 8] (c45va45810 h33) <| oB 0 h31 k
      obtain ⟨h34, h⟩ := splF h
      have k := oB 1 h34 k
      obtain ⟨h36, h⟩ := splF h
      obtain ⟨r37, h38, h⟩ := obind h
      obtain rfl := sj h
      exact fun j => lF 1 [0, 1, 2] (oD (dI r37) <| oD (dT ([] : List Tm)) <| oD (dC M.parts) <| oD (dE M.rl) <| oD (dI M.own) <| oD (dI M.args) <| oD (dE M.l) <| oC 1 [] (c46 h38) <| oB 2 h36 k) (by kernel_rfl)
    · obtain ⟨r39, h40, h⟩ := obind h
      obtain rfl := sj h
      exact fun j => lF 1 [0, 1, 2] (oD (dI r39) <| oD (dT ([] : List Tm)) <| oD (dC M.parts) <| oD (dE M.rl) <| oD (dI M.own) <| oD (dI M.args) <| oD (dE M.l) <| oC 1 [] (c46 h40) <| oB 0 h31 k) (by kernel_rfl)
theorem l13L17591 : ∀ qq : Nat, (∀ (M : Mach) (p1 : CoverTree) (p2 : List Tm) (fl : Int) (fu : Int) (v31 : Int) (vb5_4_c : Nat) (vb5_4_n : Nat) (vb6_0 : List (Int × Int)) (vb7_0 : List Int) (vb8_0 : List Tm) (r : LeafFound × Int × Int × Int), e13L17591 qq M p1 p2 fl fu v31 vb5_4_c vb5_4_n vb6_0 vb7_0 vb8_0 = some r → (∀ j, Dl Tryz.prog 3 (inn (inn (rgt (lft (rgt (rgt (inn (rgt (bod Tryz.f13))))))))) (g13L17591E0 j M p1 p2 fl fu v31 vb5_4_c vb5_4_n vb6_0 vb7_0 vb8_0) (g13L17591S0 M p1 p2 fl fu v31 vb5_4_c vb5_4_n vb6_0 vb7_0 vb8_0) (frameQ Tryz.prog 3 (FinQ Tryz.prog 3 Tryz.f13 (.tup [leafFoundA r.1, ai r.2.1]) [.cells [.sl (flat entL M.l) (List.length M.l) .no, .mp 1 0, .sl (flat intC M.args) (List.length M.args) .no, .sl (flat intC M.own) (List.length M.own) .no], .cells [.sl (flat entL M.rl) (List.length M.rl) .no, .sl (flat conL M.parts) (List.length M.parts) .no], .cells [ai r.2.2.1, ai r.2.2.2]] 0) [.blk 0, .seq (rgt (rgt (rgt (inn (rgt (bod Tryz.f13))))))]))) := by
  intro qq
  induction qq with
  | zero =>
    exact fun _ _ _ _ _ _ _ _ _ _ _ _ h => nn h
  | succ qq ih =>
    intro M p1 p2 fl fu v31 vb5_4_c vb5_4_n vb6_0 vb7_0 vb8_0 r h
    rw [e13L17591] at h
    rcases spl h with ⟨h15, h⟩ | ⟨h15, h⟩
    · obtain ⟨x16, h17, h⟩ := obind h
      obtain ⟨r18, h19, h⟩ := obind h
      have k := oA 0 (ix22 (o := .no) h17) <| oB 0 h15 o0
      obtain ⟨h20, h⟩ := splT h
      obtain ⟨r21, h22, h⟩ := obind h
      obtain ⟨r23, h24, h⟩ := obind h
      have k := oC 2 [0, 1] (c42 h22) <| oK 3 [] h20 (c40 h19) k
      obtain ⟨h25, h⟩ := splT h
      obtain ⟨r26, h27, h⟩ := obind h
      exact fun j => lH 1 [] [0, 1, 2, 3, 4, 5, 6, 10, 11] [] [0, 5, 8, 10, 29, 30, 31] (oD (dT p2) <| oD (dT r26.2.1) <| oD (dI r26.1) <| oD (dI ([] : List Int)) <| oD (dI ([] : List Int)) <| oD (dT ([] : List Tm)) <| oD (dCoverKid p1.kids_) <| oD (dT p1.args_) <| oD (dT p1.binds_) <| oD (dFreeVar p1.vars_) <| oD (dC M.parts) <| oD (dE M.rl) <| oD (dI M.own) <| oD (dI M.args) <| oD (dE M.l) <| oC 0 [5, 0, 1, 2, 6, 7, 8] (c43va36581 h27) <| oS 3 (obLitR tm_eq [x16]) <| oK 0 [] h25 (c41 h24) k) (ih _ _ _ _ _ _ _ _ _ _ _ _ h) (fun j => by kernel_rfl)
    · exact fun j => lH 0 [] [0, 1, 2, 3, 4, 5, 6, 7, 8] [] [5, 8, 10] (oD (dT vb8_0) <| oD (dI vb7_0) <| oD (dI ([] : List Int)) <| oD (dI ([] : List Int)) <| oD (dT ([] : List Tm)) <| oD (dCoverKid p1.kids_) <| oD (dT p1.args_) <| oD (dT p1.binds_) <| oD (dFreeVar p1.vars_) <| oD (dC M.parts) <| oD (dE M.rl) <| oD (dI M.own) <| oD (dI M.args) <| oD (dE M.l) <| oB 0 h15 o0) (l13L62586 qq _ _ _ _ _ _ _ _ _ _ _ _ _ _ _ _ h) (fun j => by kernel_rfl)
theorem l13L40467 (qq : Nat) (M : Mach) (fl : Int) (fu : Int) (vb3_0 : Int) (vb3_1 : Int) (vb3_2 : Int) (vb3_3 : List FreeVar) (vb3_4 : List Tm) (vb3_5 : List Tm) (vb3_6 : List CoverKid) (r : LeafFound × Int × Int × Int) (h : e13L40467 qq M fl fu vb3_0 vb3_1 vb3_2 vb3_3 vb3_4 vb3_5 vb3_6 = some r) : (∀ j, Dl Tryz.prog 3 (inn (inn (lft (rgt (rgt (rgt (rgt (inn (rgt (bod Tryz.f13)))))))))) (g13L40467E0 j M fl fu vb3_0 vb3_1 vb3_2 vb3_3 vb3_4 vb3_5 vb3_6) (g13L40467S0 M fl fu vb3_0 vb3_1 vb3_2 vb3_3 vb3_4 vb3_5 vb3_6) (frameQ Tryz.prog 3 (FinQ Tryz.prog 3 Tryz.f13 (.tup [leafFoundA r.1, ai r.2.1]) [.cells [.sl (flat entL M.l) (List.length M.l) .no, .mp 1 0, .sl (flat intC M.args) (List.length M.args) .no, .sl (flat intC M.own) (List.length M.own) .no], .cells [.sl (flat entL M.rl) (List.length M.rl) .no, .sl (flat conL M.parts) (List.length M.parts) .no], .cells [ai r.2.2.1, ai r.2.2.2]] 0) [.blk 2, .seq (rgt (rgt (rgt (rgt (rgt (inn (rgt (bod Tryz.f13))))))))])) := by
  unfold e13L40467 at h
  obtain ⟨h15, h⟩ := splF h
  have k := oB 1 h15 o0
  rcases spl h with ⟨h18, h⟩ | ⟨h18, h⟩
  · obtain ⟨r19, h20, h⟩ := obind h
    have k := oC 1 [5, 0, 1, 2, 6] (c45va8026 h20) <| oB 0 h18 k
    obtain ⟨h21, h⟩ := splF h
    have k := oB 1 h21 k
    obtain ⟨h23, h⟩ := splF h
    obtain ⟨r24, h25, h⟩ := obind h
    obtain rfl := sj h
    exact fun j => lF 1 [0, 1, 2] (oD (dI r24) <| oD (dT ([] : List Tm)) <| oD (dC M.parts) <| oD (dE M.rl) <| oD (dI M.own) <| oD (dI M.args) <| oD (dE M.l) <| oC 1 [] (c46 h25) <| oB 2 h23 k) (by kernel_rfl)
  · obtain ⟨r26, h27, h⟩ := obind h
    obtain rfl := sj h
    exact fun j => lF 1 [0, 1, 2] (oD (dI r26) <| oD (dT ([] : List Tm)) <| oD (dC M.parts) <| oD (dE M.rl) <| oD (dI M.own) <| oD (dI M.args) <| oD (dE M.l) <| oC 1 [] (c46 h27) <| oB 0 h18 k) (by kernel_rfl)
theorem l13L26054 (qq : Nat) (M : Mach) (p1 : CoverTree) (p2 : List Tm) (fl : Int) (fu : Int) (v31 : Int) (r : LeafFound × Int × Int × Int) (h : e13L26054 qq M p1 p2 fl fu v31 = some r) : (∀ j, Dl Tryz.prog 3 (inn (inn (rgt (lft (rgt (rgt (inn (rgt (bod Tryz.f13))))))))) (g13L26054E0 j M p1 p2 fl fu v31) (g13L26054S0 M p1 p2 fl fu v31) (frameQ Tryz.prog 3 (FinQ Tryz.prog 3 Tryz.f13 (.tup [leafFoundA r.1, ai r.2.1]) [.cells [.sl (flat entL M.l) (List.length M.l) .no, .mp 1 0, .sl (flat intC M.args) (List.length M.args) .no, .sl (flat intC M.own) (List.length M.own) .no], .cells [.sl (flat entL M.rl) (List.length M.rl) .no, .sl (flat conL M.parts) (List.length M.parts) .no], .cells [ai r.2.2.1, ai r.2.2.2]] 0) [.blk 0, .seq (rgt (rgt (rgt (inn (rgt (bod Tryz.f13))))))])) := by
  unfold e13L26054 at h
  rcases spl h with ⟨h2, h⟩ | ⟨h2, h⟩
  · obtain ⟨x3, h4, h⟩ := obind h
    obtain ⟨r5, h6, h⟩ := obind h
    have k := oA 0 (ix22 (o := .no) h4) <| oB 0 h2 o0
    obtain ⟨h7, h⟩ := splT h
    obtain ⟨r8, h9, h⟩ := obind h
    obtain ⟨r10, h11, h⟩ := obind h
    have k := oC 2 [0, 1] (c42 h9) <| oK 3 [] h7 (c40 h6) k
    obtain ⟨h12, h⟩ := splT h
    obtain ⟨r13, h14, h⟩ := obind h
    exact fun j => lH 1 [] [0, 1, 2, 3, 4, 5, 6, 8, 9] [] [0, 5, 8, 10, 29, 30, 31] (oD (dT p2) <| oD (dT r13.2.1) <| oD (dI r13.1) <| oD (dI ([] : List Int)) <| oD (dI ([] : List Int)) <| oD (dT ([] : List Tm)) <| oD (dCoverKid p1.kids_) <| oD (dT p1.args_) <| oD (dT p1.binds_) <| oD (dFreeVar p1.vars_) <| oD (dC M.parts) <| oD (dE M.rl) <| oD (dI M.own) <| oD (dI M.args) <| oD (dE M.l) <| oC 0 [5, 0, 1, 2, 6] (c43va38460 h14) <| oS 3 (obLitR tm_eq [x3]) <| oK 0 [] h12 (c41 h11) k) (l13L17591 _ _ _ _ _ _ _ _ _ _ _ _ _ h) (fun j => by kernel_rfl)
  · exact fun j => lH 0 [] [0, 1, 2, 3, 4, 5, 6] [] [5, 8, 10] (oD (dI ([] : List Int)) <| oD (dT ([] : List Tm)) <| oD (dI ([] : List Int)) <| oD (dI ([] : List Int)) <| oD (dT ([] : List Tm)) <| oD (dCoverKid p1.kids_) <| oD (dT p1.args_) <| oD (dT p1.binds_) <| oD (dFreeVar p1.vars_) <| oD (dC M.parts) <| oD (dE M.rl) <| oD (dI M.own) <| oD (dI M.args) <| oD (dE M.l) <| oB 0 h2 o0) (l13L40467 qq _ _ _ _ _ _ _ _ _ _ _ h) (fun j => by kernel_rfl)
theorem c13 {qq : Nat} {M : Mach} {p1 : CoverTree} {p2 : List Tm} {fl : Int} {fu : Int} {r : LeafFound × Int × Int × Int} (h : e13 qq M p1 p2 fl fu = some r) : CT Tryz.prog 13 [.cells [.sl (flat entL M.l) (List.length M.l) .no, .mp 1 0, .sl (flat intC M.args) (List.length M.args) .no, .sl (flat intC M.own) (List.length M.own) .no], .cells [.sl (flat entL M.rl) (List.length M.rl) .no, .sl (flat conL M.parts) (List.length M.parts) .no], .cells [ai fl, ai fu]] [.mp 0 0, coverTreeA p1, .sl (flat tmCells p2) (List.length p2) .no, .mp 2 0] (.tup [leafFoundA r.1, ai r.2.1]) [.cells [.sl (flat entL M.l) (List.length M.l) .no, .mp 1 0, .sl (flat intC M.args) (List.length M.args) .no, .sl (flat intC M.own) (List.length M.own) .no], .cells [.sl (flat entL M.rl) (List.length M.rl) .no, .sl (flat conL M.parts) (List.length M.parts) .no], .cells [ai r.2.2.1, ai r.2.2.2]] 0 := by
  unfold e13 at h
  obtain ⟨h1, h⟩ := splF h
  exact k13 (tH q13 1 [] [0, 1, 2, 3, 4, 6, 5] [] [0, 5, 8, 10, 29, 30, 31] (oD (dT p2) <| oD (dI ([] : List Int)) <| oD (dT ([] : List Tm)) <| oD (dI ([] : List Int)) <| oD (dI ([] : List Int)) <| oD (dT ([] : List Tm)) <| oD (dCoverKid p1.kids_) <| oD (dT p1.args_) <| oD (dT p1.binds_) <| oD (dFreeVar p1.vars_) <| oD (dC M.parts) <| oD (dE M.rl) <| oD (dI M.own) <| oD (dI M.args) <| oD (dE M.l) <| oB 2 h1 o0) (l13L26054 qq _ _ _ _ _ _ _ h) (fun j => by kernel_rfl))
theorem m13L62586 {qq : Nat} {M : Mach} {vb2_0 : Int} {vb2_1 : Int} {vb3_0 : Int} {vb3_1 : Int} {vb3_2 : Int} {vb3_3 : List FreeVar} {vb3_4 : List Tm} {vb3_5 : List Tm} {vb3_6 : List CoverKid} {vb5_4_c : Nat} {vb5_4_n : Nat} {vb6_0 : List (Int × Int)} {vb7_0 : List Int} {vb8_0 : List Tm} {r : LeafFound × Int × Int × Int} (h : e13L62586 qq M vb2_0 vb2_1 vb3_0 vb3_1 vb3_2 vb3_3 vb3_4 vb3_5 vb3_6 vb5_4_c vb5_4_n vb6_0 vb7_0 vb8_0 = some r) : e13L62586 (qq + 1) M vb2_0 vb2_1 vb3_0 vb3_1 vb3_2 vb3_3 vb3_4 vb3_5 vb3_6 vb5_4_c vb5_4_n vb6_0 vb7_0 vb8_0 = some r := by
  unfold e13L62586 at h ⊢
  rcases spl h with ⟨k, h⟩ | ⟨k, h⟩
  · rw [ifTe k]
    obtain ⟨r29, hx, h⟩ := obind h
    refine obk (m44va45810 hx) ?_
    exact h
  · rw [ifFe k]
    rcases spl h with ⟨k, h⟩ | ⟨k, h⟩
    · rw [ifTe k]
      obtain ⟨r32, hx, h⟩ := obind h
      refine obk (m45va45810 hx) ?_
      obtain ⟨k, h⟩ := splF h
      rw [ifFe k]
      obtain ⟨k, h⟩ := splF h
      rw [ifFe k]
      obtain ⟨r37, hx, h⟩ := obind h
      refine obk (m46 hx) ?_
      exact h
    · rw [ifFe k]
      obtain ⟨r39, hx, h⟩ := obind h
      refine obk (m46 hx) ?_
      exact h
theorem mm13L17591 : ∀ qq : Nat, (∀ (M : Mach) (p1 : CoverTree) (p2 : List Tm) (fl : Int) (fu : Int) (v31 : Int) (vb5_4_c : Nat) (vb5_4_n : Nat) (vb6_0 : List (Int × Int)) (vb7_0 : List Int) (vb8_0 : List Tm) (r : LeafFound × Int × Int × Int), e13L17591 qq M p1 p2 fl fu v31 vb5_4_c vb5_4_n vb6_0 vb7_0 vb8_0 = some r → e13L17591 (qq + 1) M p1 p2 fl fu v31 vb5_4_c vb5_4_n vb6_0 vb7_0 vb8_0 = some r) := by
  intro qq
  induction qq with
  | zero => exact fun _ _ _ _ _ _ _ _ _ _ _ _ h => nn h
  | succ qq ih =>
    have ih13L17591 := ih
    intro M p1 p2 fl fu v31 vb5_4_c vb5_4_n vb6_0 vb7_0 vb8_0 r h
    rw [e13L17591] at h ⊢
    rcases spl h with ⟨k, h⟩ | ⟨k, h⟩
    · rw [ifTe k]
      obtain ⟨x16, hx, h⟩ := obind h
      refine obk hx ?_
      obtain ⟨r18, hx, h⟩ := obind h
      refine obk (m40 hx) ?_
      obtain ⟨k, h⟩ := splT h
      rw [ifTe k]
      obtain ⟨r21, hx, h⟩ := obind h
      refine obk (m42 hx) ?_
      obtain ⟨r23, hx, h⟩ := obind h
      refine obk (m41 hx) ?_
      obtain ⟨k, h⟩ := splT h
      rw [ifTe k]
      obtain ⟨r26, hx, h⟩ := obind h
      refine obk (m43va36581 hx) ?_
      exact ih13L17591 _ _ _ _ _ _ _ _ _ _ _ _ h
    · rw [ifFe k]
      exact m13L62586 h
theorem m13L17591 {qq : Nat} {M : Mach} {p1 : CoverTree} {p2 : List Tm} {fl : Int} {fu : Int} {v31 : Int} {vb5_4_c : Nat} {vb5_4_n : Nat} {vb6_0 : List (Int × Int)} {vb7_0 : List Int} {vb8_0 : List Tm} {r : LeafFound × Int × Int × Int} (h : e13L17591 qq M p1 p2 fl fu v31 vb5_4_c vb5_4_n vb6_0 vb7_0 vb8_0 = some r) : e13L17591 (qq + 1) M p1 p2 fl fu v31 vb5_4_c vb5_4_n vb6_0 vb7_0 vb8_0 = some r := mm13L17591 _ _ _ _ _ _ _ _ _ _ _ _ _ h
theorem m13L40467 {qq : Nat} {M : Mach} {fl : Int} {fu : Int} {vb3_0 : Int} {vb3_1 : Int} {vb3_2 : Int} {vb3_3 : List FreeVar} {vb3_4 : List Tm} {vb3_5 : List Tm} {vb3_6 : List CoverKid} {r : LeafFound × Int × Int × Int} (h : e13L40467 qq M fl fu vb3_0 vb3_1 vb3_2 vb3_3 vb3_4 vb3_5 vb3_6 = some r) : e13L40467 (qq + 1) M fl fu vb3_0 vb3_1 vb3_2 vb3_3 vb3_4 vb3_5 vb3_6 = some r := by
  unfold e13L40467 at h ⊢
  obtain ⟨k, h⟩ := splF h
  rw [ifFe k]
  rcases spl h with ⟨k, h⟩ | ⟨k, h⟩
  · rw [ifTe k]
    obtain ⟨r19, hx, h⟩ := obind h
    refine obk (m45va8026 hx) ?_
    obtain ⟨k, h⟩ := splF h
    rw [ifFe k]
    obtain ⟨k, h⟩ := splF h
    rw [ifFe k]
    obtain ⟨r24, hx, h⟩ := obind h
    refine obk (m46 hx) ?_
    exact h
  · rw [ifFe k]
    obtain ⟨r26, hx, h⟩ := obind h
    refine obk (m46 hx) ?_
    exact h
theorem m13L26054 {qq : Nat} {M : Mach} {p1 : CoverTree} {p2 : List Tm} {fl : Int} {fu : Int} {v31 : Int} {r : LeafFound × Int × Int × Int} (h : e13L26054 qq M p1 p2 fl fu v31 = some r) : e13L26054 (qq + 1) M p1 p2 fl fu v31 = some r := by
  unfold e13L26054 at h ⊢
  rcases spl h with ⟨k, h⟩ | ⟨k, h⟩
  · rw [ifTe k]
    obtain ⟨x3, hx, h⟩ := obind h
    refine obk hx ?_
    obtain ⟨r5, hx, h⟩ := obind h
    refine obk (m40 hx) ?_
    obtain ⟨k, h⟩ := splT h
    rw [ifTe k]
    obtain ⟨r8, hx, h⟩ := obind h
    refine obk (m42 hx) ?_
    obtain ⟨r10, hx, h⟩ := obind h
    refine obk (m41 hx) ?_
    obtain ⟨k, h⟩ := splT h
    rw [ifTe k]
    obtain ⟨r13, hx, h⟩ := obind h
    refine obk (m43va38460 hx) ?_
    exact m13L17591 h
  · rw [ifFe k]
    exact m13L40467 h
theorem m13 {qq : Nat} {M : Mach} {p1 : CoverTree} {p2 : List Tm} {fl : Int} {fu : Int} {r : LeafFound × Int × Int × Int} (h : e13 qq M p1 p2 fl fu = some r) : e13 (qq + 1) M p1 p2 fl fu = some r := by
  unfold e13 at h ⊢
  obtain ⟨k, h⟩ := splF h
  rw [ifFe k]
  exact m13L26054 h

end Go.Proofs.YtlbmblbeccafcaaGreat

namespace Go.Proofs.YtlbmblbeccafcaaGreat
open Go Go.Ab

/- scholium/leaf.Down -/
def e13va15441 (qq : Nat) (p1 : CoverTree) (p2 : List Tm) (q2 : Int) (q3 : Int) : Option (LeafFound × Int) :=
  some ((LeafFound.mk false 0 [] []), 5)
theorem q13va15441 : Tryz.prog.funcs[13]? = some Tryz.f13 ∧ Tryz.f13.body.isNone = false := ⟨Tryz.func13, by kernel_rfl⟩
theorem k13va15441 {p1 : CoverTree} {p2 : List Tm} {q2 : Int} {q3 : Int} {r : LeafFound × Int} (h : CTri Tryz.prog 13 [.cells [ai q2, ai q3]] [.val (.pointer none), coverTreeA p1, .sl (flat tmCells p2) (List.length p2) .no, .mp 0 0] (.tup [leafFoundA r.1, ai r.2]) [.cells [ai q2, ai q3]] 0) : CT Tryz.prog 13 [.cells [ai q2, ai q3]] [.val (.pointer none), coverTreeA p1, .sl (flat tmCells p2) (List.length p2) .no, .mp 0 0] (.tup [leafFoundA r.1, ai r.2]) [.cells [ai q2, ai q3]] 0 := ⟨h, ⟨trivial, ⟨trivial, trivial, trivial, ⟨trivial, dFreeVar _⟩, ⟨trivial, dT _⟩, ⟨trivial, dT _⟩, ⟨trivial, dCoverKid _⟩, trivial⟩, ⟨trivial, dT _⟩, (show 0 < 1 by decide), trivial⟩, (forall_cons ⟨trivial, trivial, trivial⟩ forall_nil), ⟨⟨trivial, trivial, dT _, dI _, trivial⟩, trivial, trivial⟩, (forall_cons ⟨trivial, trivial, trivial⟩ forall_nil)⟩
theorem c13va15441 {qq : Nat} {p1 : CoverTree} {p2 : List Tm} {q2 : Int} {q3 : Int} {r : LeafFound × Int} (h : e13va15441 qq p1 p2 q2 q3 = some r) : CT Tryz.prog 13 [.cells [ai q2, ai q3]] [.val (.pointer none), coverTreeA p1, .sl (flat tmCells p2) (List.length p2) .no, .mp 0 0] (.tup [leafFoundA r.1, ai r.2]) [.cells [ai q2, ai q3]] 0 := by
  unfold e13va15441 at h
  obtain rfl := sj h
  exact k13va15441 (tF q13va15441 2 [0] (oD (dI ([] : List Int)) <| oD (dT ([] : List Tm)) o0) (by kernel_rfl))
theorem m13va15441 {qq : Nat} {p1 : CoverTree} {p2 : List Tm} {q2 : Int} {q3 : Int} {r : LeafFound × Int} (h : e13va15441 qq p1 p2 q2 q3 = some r) : e13va15441 (qq + 1) p1 p2 q2 q3 = some r := by
  unfold e13va15441 at h ⊢
  exact h

end Go.Proofs.YtlbmblbeccafcaaGreat

namespace Go.Proofs.YtlbmblbeccafcaaGreat
open Go Go.Ab

/- scholium/scholiumlaw27.leafy -/
def e14 (qq : Nat)  : Option (CoverTree) :=
  some (CoverTree.mk 1 3 0 [] [(Tm.mk 8 0 [])] [] [])
theorem q14 : Tryz.prog.funcs[14]? = some Tryz.f14 ∧ Tryz.f14.body.isNone = false := ⟨Tryz.func14, by kernel_rfl⟩
theorem k14  {r : CoverTree} (h : CTri Tryz.prog 14 [] [] (coverTreeA r) [] 0) : CT Tryz.prog 14 [] [] (coverTreeA r) [] 0 := ⟨h, trivial, forall_nil, ⟨trivial, trivial, trivial, dFreeVar _, dT _, dT _, dCoverKid _, trivial⟩, forall_nil⟩
theorem c14 {qq : Nat}  {r : CoverTree} (h : e14 qq  = some r) : CT Tryz.prog 14 [] [] (coverTreeA r) [] 0 := by
  unfold e14 at h
  obtain rfl := sj h
  exact k14 (tF q14 1 [] (oD (dCoverKid ([] : List CoverKid)) <| oD (dT ([] : List Tm)) <| oD (dT [(Tm.mk 8 0 [])]) <| oD (dFreeVar ([] : List FreeVar)) <| oS 0 (obLitR tm_eq [(Tm.mk 8 0 [])]) o0) (by kernel_rfl))
theorem m14 {qq : Nat}  {r : CoverTree} (h : e14 qq  = some r) : e14 (qq + 1)  = some r := by
  unfold e14 at h ⊢
  exact h

end Go.Proofs.YtlbmblbeccafcaaGreat

namespace Go.Proofs.YtlbmblbeccafcaaGreat
open Go Go.Ab

/- scholium/scholiumlaw27.small -/
def e7L7830 : Nat → (List Tm) → Int →  Option (Bool)
  | 0, _, _ => none
  | qq + 1, p0, v3 =>
    if decide (v3 < (List.length p0 : Int)) = true then
      (gidx p0 v3) >>= fun x3 =>
      (e28 qq x3) >>= fun r5 =>
      if decide (r5 > 150) = true then
        some false
      else
        e7L7830 qq p0 (w64 (v3 + 1))
    else
      some true
def e7 (qq : Nat) (p0 : List Tm) : Option (Bool) :=
  if decide ((List.length p0 : Int) > 30) = true then
    some false
  else
    e7L7830 qq p0 0
def g7L7830E0 (j : Nat → Value) (p0 : List Tm) (v3 : Int) : List AV := sp j 19 0 [(0, .sl (flat tmCells p0) (List.length p0) .no), (3, ai v3)]
def g7L7830S0 (p0 : List Tm) (v3 : Int) : LSt := ⟨[], 0, [], 0, []⟩
theorem q7 : Tryz.prog.funcs[7]? = some Tryz.f7 ∧ Tryz.f7.body.isNone = false := ⟨Tryz.func7, by kernel_rfl⟩
theorem k7 {p0 : List Tm} {r : Bool} (h : CTri Tryz.prog 7 [] [.sl (flat tmCells p0) (List.length p0) .no] (ab r) [] 0) : CT Tryz.prog 7 [] [.sl (flat tmCells p0) (List.length p0) .no] (ab r) [] 0 := ⟨h, ⟨⟨trivial, dT _⟩, trivial⟩, forall_nil, trivial, forall_nil⟩
theorem l7L7830 : ∀ qq : Nat, (∀ (p0 : List Tm) (v3 : Int) (r : Bool), e7L7830 qq p0 v3 = some r → (∀ j, Dl Tryz.prog 0 (inn (inn (rgt (lft (rgt (rgt (bod Tryz.f7))))))) (g7L7830E0 j p0 v3) (g7L7830S0 p0 v3) (frameQ Tryz.prog 0 (FinQ Tryz.prog 0 Tryz.f7 (ab r) [] 0) [.blk 0, .seq (rgt (rgt (rgt (bod Tryz.f7))))]))) := by
  intro qq
  induction qq with
  | zero =>
    exact fun _ _ _ h => nn h
  | succ qq ih =>
    intro p0 v3 r h
    rw [e7L7830] at h
    rcases spl h with ⟨h2, h⟩ | ⟨h2, h⟩
    · obtain ⟨x3, h4, h⟩ := obind h
      obtain ⟨r5, h6, h⟩ := obind h
      have k := oC 1 [] (c28 h6) <| oA 0 (ix22 (o := .no) h4) <| oB 1 h2 o0
      rcases spl h with ⟨h7, h⟩ | ⟨h7, h⟩
      · obtain rfl := sj h
        exact fun j => lF 0 [] (oB 0 h7 k) (by kernel_rfl)
      · exact fun j => lH 1 [] [] [] [0, 3] (oD (dT p0) <| oB 0 h7 k) (ih _ _ _ h) (fun j => by kernel_rfl)
    · obtain rfl := sj h
      exact fun j => lF 0 [] (oB 1 h2 o0) (by kernel_rfl)
theorem c7 {qq : Nat} {p0 : List Tm} {r : Bool} (h : e7 qq p0 = some r) : CT Tryz.prog 7 [] [.sl (flat tmCells p0) (List.length p0) .no] (ab r) [] 0 := by
  unfold e7 at h
  rcases spl h with ⟨h1, h⟩ | ⟨h1, h⟩
  · obtain rfl := sj h
    exact k7 (tF q7 0 [] (oB 1 h1 o0) (by kernel_rfl))
  · exact k7 (tH q7 0 [] [] [] [0, 3] (oD (dT p0) <| oB 1 h1 o0) (l7L7830 _ _ _ _ h) (fun j => by kernel_rfl))
theorem mm7L7830 : ∀ qq : Nat, (∀ (p0 : List Tm) (v3 : Int) (r : Bool), e7L7830 qq p0 v3 = some r → e7L7830 (qq + 1) p0 v3 = some r) := by
  intro qq
  induction qq with
  | zero => exact fun _ _ _ h => nn h
  | succ qq ih =>
    have ih7L7830 := ih
    intro p0 v3 r h
    rw [e7L7830] at h ⊢
    rcases spl h with ⟨k, h⟩ | ⟨k, h⟩
    · rw [ifTe k]
      obtain ⟨x3, hx, h⟩ := obind h
      refine obk hx ?_
      obtain ⟨r5, hx, h⟩ := obind h
      refine obk (m28 hx) ?_
      rcases spl h with ⟨k, h⟩ | ⟨k, h⟩
      · rw [ifTe k]
        exact h
      · rw [ifFe k]
        exact ih7L7830 _ _ _ h
    · rw [ifFe k]
      exact h
theorem m7L7830 {qq : Nat} {p0 : List Tm} {v3 : Int} {r : Bool} (h : e7L7830 qq p0 v3 = some r) : e7L7830 (qq + 1) p0 v3 = some r := mm7L7830 _ _ _ _ h
theorem m7 {qq : Nat} {p0 : List Tm} {r : Bool} (h : e7 qq p0 = some r) : e7 (qq + 1) p0 = some r := by
  unfold e7 at h ⊢
  rcases spl h with ⟨k, h⟩ | ⟨k, h⟩
  · rw [ifTe k]
    exact h
  · rw [ifFe k]
    exact m7L7830 h

end Go.Proofs.YtlbmblbeccafcaaGreat

namespace Go.Proofs.YtlbmblbeccafcaaGreat
open Go Go.Ab

/- scholium/scholiumref07.Leaf -/
def e47 (qq : Nat) (p0 : Int) (p1 : Int) : Option (Tm) :=
  some (Tm.mk p0 p1 [])
theorem q47 : Tryz.prog.funcs[47]? = some Tryz.f47 ∧ Tryz.f47.body.isNone = false := ⟨Tryz.func47, by kernel_rfl⟩
theorem k47 {p0 : Int} {p1 : Int} {r : Tm} (h : CTri Tryz.prog 47 [] [ai p0, ai p1] (tmA r) [] 0) : CT Tryz.prog 47 [] [ai p0, ai p1] (tmA r) [] 0 := ⟨h, ⟨trivial, trivial, trivial⟩, forall_nil, ⟨trivial, trivial, dT _, trivial⟩, forall_nil⟩
theorem c47 {qq : Nat} {p0 : Int} {p1 : Int} {r : Tm} (h : e47 qq p0 p1 = some r) : CT Tryz.prog 47 [] [ai p0, ai p1] (tmA r) [] 0 := by
  unfold e47 at h
  obtain rfl := sj h
  exact k47 (tF q47 1 [] (oD (dT ([] : List Tm)) o0) (by kernel_rfl))
theorem m47 {qq : Nat} {p0 : Int} {p1 : Int} {r : Tm} (h : e47 qq p0 p1 = some r) : e47 (qq + 1) p0 p1 = some r := by
  unfold e47 at h ⊢
  exact h

end Go.Proofs.YtlbmblbeccafcaaGreat

namespace Go.Proofs.YtlbmblbeccafcaaGreat
open Go Go.Ab

/- scholium/scholiumref12.C -/
def e16 (qq : Nat) (p0 : Int) : Option (Tm) :=
  (e47 qq 6 p0) >>= fun r1 =>
  some r1
theorem q16 : Tryz.prog.funcs[16]? = some Tryz.f16 ∧ Tryz.f16.body.isNone = false := ⟨Tryz.func16, by kernel_rfl⟩
theorem k16 {p0 : Int} {r : Tm} (h : CTri Tryz.prog 16 [] [ai p0] (tmA r) [] 0) : CT Tryz.prog 16 [] [ai p0] (tmA r) [] 0 := ⟨h, ⟨trivial, trivial⟩, forall_nil, ⟨trivial, trivial, dT _, trivial⟩, forall_nil⟩
theorem c16 {qq : Nat} {p0 : Int} {r : Tm} (h : e16 qq p0 = some r) : CT Tryz.prog 16 [] [ai p0] (tmA r) [] 0 := by
  unfold e16 at h
  obtain ⟨r1, h2, h⟩ := obind h
  obtain rfl := sj h
  exact k16 (tF q16 1 [] (oD (dT r1.sub) <| oC 0 [] (c47 h2) o0) (by kernel_rfl))
theorem m16 {qq : Nat} {p0 : Int} {r : Tm} (h : e16 qq p0 = some r) : e16 (qq + 1) p0 = some r := by
  unfold e16 at h ⊢
  obtain ⟨r1, hx, h⟩ := obind h
  refine obk (m47 hx) ?_
  exact h

end Go.Proofs.YtlbmblbeccafcaaGreat

namespace Go.Proofs.YtlbmblbeccafcaaGreat
open Go Go.Ab

/- scholium/scholiumref07.Two -/
def e56 (qq : Nat) (p0 : Int) (p1 : Tm) (p2 : Tm) : Option (Tm) :=
  some (Tm.mk p0 0 [p1, p2])
theorem q56 : Tryz.prog.funcs[56]? = some Tryz.f56 ∧ Tryz.f56.body.isNone = false := ⟨Tryz.func56, by kernel_rfl⟩
theorem k56 {p0 : Int} {p1 : Tm} {p2 : Tm} {r : Tm} (h : CTri Tryz.prog 56 [] [ai p0, tmA p1, tmA p2] (tmA r) [] 0) : CT Tryz.prog 56 [] [ai p0, tmA p1, tmA p2] (tmA r) [] 0 := ⟨h, ⟨trivial, ⟨trivial, trivial, ⟨trivial, dT _⟩, trivial⟩, ⟨trivial, trivial, ⟨trivial, dT _⟩, trivial⟩, trivial⟩, forall_nil, ⟨trivial, trivial, dT _, trivial⟩, forall_nil⟩
theorem c56 {qq : Nat} {p0 : Int} {p1 : Tm} {p2 : Tm} {r : Tm} (h : e56 qq p0 p1 p2 = some r) : CT Tryz.prog 56 [] [ai p0, tmA p1, tmA p2] (tmA r) [] 0 := by
  unfold e56 at h
  obtain rfl := sj h
  exact k56 (tF q56 1 [] (oD (dT [p1, p2]) <| oS 2 (obLitR tm_eq [p1, p2]) o0) (by kernel_rfl))
theorem m56 {qq : Nat} {p0 : Int} {p1 : Tm} {p2 : Tm} {r : Tm} (h : e56 qq p0 p1 p2 = some r) : e56 (qq + 1) p0 p1 p2 = some r := by
  unfold e56 at h ⊢
  exact h

end Go.Proofs.YtlbmblbeccafcaaGreat

namespace Go.Proofs.YtlbmblbeccafcaaGreat
open Go Go.Ab

/- scholium/scholiumref12.P -/
def e22 (qq : Nat) (p0 : Tm) (p1 : Tm) : Option (Tm) :=
  (e56 qq 3 p0 p1) >>= fun r1 =>
  some r1
theorem q22 : Tryz.prog.funcs[22]? = some Tryz.f22 ∧ Tryz.f22.body.isNone = false := ⟨Tryz.func22, by kernel_rfl⟩
theorem k22 {p0 : Tm} {p1 : Tm} {r : Tm} (h : CTri Tryz.prog 22 [] [tmA p0, tmA p1] (tmA r) [] 0) : CT Tryz.prog 22 [] [tmA p0, tmA p1] (tmA r) [] 0 := ⟨h, ⟨⟨trivial, trivial, ⟨trivial, dT _⟩, trivial⟩, ⟨trivial, trivial, ⟨trivial, dT _⟩, trivial⟩, trivial⟩, forall_nil, ⟨trivial, trivial, dT _, trivial⟩, forall_nil⟩
theorem c22 {qq : Nat} {p0 : Tm} {p1 : Tm} {r : Tm} (h : e22 qq p0 p1 = some r) : CT Tryz.prog 22 [] [tmA p0, tmA p1] (tmA r) [] 0 := by
  unfold e22 at h
  obtain ⟨r1, h2, h⟩ := obind h
  obtain rfl := sj h
  exact k22 (tF q22 1 [] (oD (dT r1.sub) <| oC 2 [] (c56 h2) o0) (by kernel_rfl))
theorem m22 {qq : Nat} {p0 : Tm} {p1 : Tm} {r : Tm} (h : e22 qq p0 p1 = some r) : e22 (qq + 1) p0 p1 = some r := by
  unfold e22 at h ⊢
  obtain ⟨r1, hx, h⟩ := obind h
  refine obk (m56 hx) ?_
  exact h

end Go.Proofs.YtlbmblbeccafcaaGreat

namespace Go.Proofs.YtlbmblbeccafcaaGreat
open Go Go.Ab

/- scholium/scholiumref07.Apply -/
def e57L34202 : Nat → (List Tm) → Int → Int → Int → (List Tm) →  Option (Tm)
  | 0, _, _, _, _, _ => none
  | qq + 1, p1, v5, vb0_0, vb0_1, vb0_2 =>
    if decide (v5 < (List.length p1 : Int)) = true then
      (gidx p1 v5) >>= fun x2 =>
      (e56 qq 5 (Tm.mk vb0_0 vb0_1 vb0_2) x2) >>= fun r4 =>
      e57L34202 qq p1 (w64 (v5 + 1)) r4.k r4.n r4.sub
    else
      some (Tm.mk vb0_0 vb0_1 vb0_2)
def e57 (qq : Nat) (p0 : Tm) (p1 : List Tm) : Option (Tm) :=
  e57L34202 qq p1 0 p0.k p0.n p0.sub
def g57L34202E0 (j : Nat → Value) (p1 : List Tm) (v5 : Int) (vb0_0 : Int) (vb0_1 : Int) (vb0_2 : List Tm) : List AV := sp j 19 0 [(1, .sl (flat tmCells p1) (List.length p1) .no), (2, .mp 0 0), (4, .mp 1 0), (5, ai v5)]
def g57L34202S0 (p1 : List Tm) (v5 : Int) (vb0_0 : Int) (vb0_1 : Int) (vb0_2 : List Tm) : LSt := ⟨[(0, .cells [ai vb0_0, ai vb0_1, .sl (flat tmCells vb0_2) (List.length vb0_2) .no]), (1, .cells [ai 0, ai 0, .sl (flat tmCells ([] : List Tm)) (List.length ([] : List Tm)) .nl])], 2, [], 0, []⟩
theorem q57 : Tryz.prog.funcs[57]? = some Tryz.f57 ∧ Tryz.f57.body.isNone = false := ⟨Tryz.func57, by kernel_rfl⟩
theorem k57 {p0 : Tm} {p1 : List Tm} {r : Tm} (h : CTri Tryz.prog 57 [] [tmA p0, .sl (flat tmCells p1) (List.length p1) .no] (tmA r) [] 0) : CT Tryz.prog 57 [] [tmA p0, .sl (flat tmCells p1) (List.length p1) .no] (tmA r) [] 0 := ⟨h, ⟨⟨trivial, trivial, ⟨trivial, dT _⟩, trivial⟩, ⟨trivial, dT _⟩, trivial⟩, forall_nil, ⟨trivial, trivial, dT _, trivial⟩, forall_nil⟩
theorem l57L34202 : ∀ qq : Nat, (∀ (p1 : List Tm) (v5 : Int) (vb0_0 : Int) (vb0_1 : Int) (vb0_2 : List Tm) (r : Tm), e57L34202 qq p1 v5 vb0_0 vb0_1 vb0_2 = some r → (∀ j, Dl Tryz.prog 0 (inn (inn (rgt (lft (rgt (bod Tryz.f57)))))) (g57L34202E0 j p1 v5 vb0_0 vb0_1 vb0_2) (g57L34202S0 p1 v5 vb0_0 vb0_1 vb0_2) (frameQ Tryz.prog 0 (FinQ Tryz.prog 0 Tryz.f57 (tmA r) [] 0) [.blk 0, .seq (rgt (rgt (bod Tryz.f57)))]))) := by
  intro qq
  induction qq with
  | zero =>
    exact fun _ _ _ _ _ _ h => nn h
  | succ qq ih =>
    intro p1 v5 vb0_0 vb0_1 vb0_2 r h
    rw [e57L34202] at h
    rcases spl h with ⟨h1, h⟩ | ⟨h1, h⟩
    · obtain ⟨x2, h3, h⟩ := obind h
      obtain ⟨r4, h5, h⟩ := obind h
      exact fun j => lH 2 [] [0, 1] [] [1, 2, 4, 5] (oD (dT p1) <| oD (dT ([] : List Tm)) <| oD (dT r4.sub) <| oC 1 [] (c56 h5) <| oA 1 (ix22 (o := .no) h3) <| oB 1 h1 o0) (ih _ _ _ _ _ _ h) (fun j => by kernel_rfl)
    · obtain rfl := sj h
      exact fun j => lF 2 [] (oD (dT vb0_2) <| oB 1 h1 o0) (by kernel_rfl)
theorem c57 {qq : Nat} {p0 : Tm} {p1 : List Tm} {r : Tm} (h : e57 qq p0 p1 = some r) : CT Tryz.prog 57 [] [tmA p0, .sl (flat tmCells p1) (List.length p1) .no] (tmA r) [] 0 := by
  unfold e57 at h
  exact k57 (tH q57 0 [] [0, 1] [] [1, 2, 4, 5] (oD (dT p1) <| oD (dT ([] : List Tm)) <| oD (dT p0.sub) o0) (l57L34202 _ _ _ _ _ _ _ h) (fun j => by kernel_rfl))
theorem mm57L34202 : ∀ qq : Nat, (∀ (p1 : List Tm) (v5 : Int) (vb0_0 : Int) (vb0_1 : Int) (vb0_2 : List Tm) (r : Tm), e57L34202 qq p1 v5 vb0_0 vb0_1 vb0_2 = some r → e57L34202 (qq + 1) p1 v5 vb0_0 vb0_1 vb0_2 = some r) := by
  intro qq
  induction qq with
  | zero => exact fun _ _ _ _ _ _ h => nn h
  | succ qq ih =>
    have ih57L34202 := ih
    intro p1 v5 vb0_0 vb0_1 vb0_2 r h
    rw [e57L34202] at h ⊢
    rcases spl h with ⟨k, h⟩ | ⟨k, h⟩
    · rw [ifTe k]
      obtain ⟨x2, hx, h⟩ := obind h
      refine obk hx ?_
      obtain ⟨r4, hx, h⟩ := obind h
      refine obk (m56 hx) ?_
      exact ih57L34202 _ _ _ _ _ _ h
    · rw [ifFe k]
      exact h
theorem m57L34202 {qq : Nat} {p1 : List Tm} {v5 : Int} {vb0_0 : Int} {vb0_1 : Int} {vb0_2 : List Tm} {r : Tm} (h : e57L34202 qq p1 v5 vb0_0 vb0_1 vb0_2 = some r) : e57L34202 (qq + 1) p1 v5 vb0_0 vb0_1 vb0_2 = some r := mm57L34202 _ _ _ _ _ _ _ h
theorem m57 {qq : Nat} {p0 : Tm} {p1 : List Tm} {r : Tm} (h : e57 qq p0 p1 = some r) : e57 (qq + 1) p0 p1 = some r := by
  unfold e57 at h ⊢
  exact m57L34202 h

end Go.Proofs.YtlbmblbeccafcaaGreat

namespace Go.Proofs.YtlbmblbeccafcaaGreat
open Go Go.Ab

/- scholium/scholiumref12.A -/
def e23 (qq : Nat) (p0 : Tm) (p1 : List Tm) : Option (Tm) :=
  (e57 qq p0 p1) >>= fun r1 =>
  some r1
theorem q23 : Tryz.prog.funcs[23]? = some Tryz.f23 ∧ Tryz.f23.body.isNone = false := ⟨Tryz.func23, by kernel_rfl⟩
theorem k23 {p0 : Tm} {p1 : List Tm} {r : Tm} (h : CTri Tryz.prog 23 [] [tmA p0, .sl (flat tmCells p1) (List.length p1) .no] (tmA r) [] 0) : CT Tryz.prog 23 [] [tmA p0, .sl (flat tmCells p1) (List.length p1) .no] (tmA r) [] 0 := ⟨h, ⟨⟨trivial, trivial, ⟨trivial, dT _⟩, trivial⟩, ⟨trivial, dT _⟩, trivial⟩, forall_nil, ⟨trivial, trivial, dT _, trivial⟩, forall_nil⟩
theorem c23 {qq : Nat} {p0 : Tm} {p1 : List Tm} {r : Tm} (h : e23 qq p0 p1 = some r) : CT Tryz.prog 23 [] [tmA p0, .sl (flat tmCells p1) (List.length p1) .no] (tmA r) [] 0 := by
  unfold e23 at h
  obtain ⟨r1, h2, h⟩ := obind h
  obtain rfl := sj h
  exact k23 (tF q23 1 [] (oD (dT r1.sub) <| oC 1 [] (c57 h2) o0) (by kernel_rfl))
theorem m23 {qq : Nat} {p0 : Tm} {p1 : List Tm} {r : Tm} (h : e23 qq p0 p1 = some r) : e23 (qq + 1) p0 p1 = some r := by
  unfold e23 at h ⊢
  obtain ⟨r1, hx, h⟩ := obind h
  refine obk (m57 hx) ?_
  exact h

end Go.Proofs.YtlbmblbeccafcaaGreat

namespace Go.Proofs.YtlbmblbeccafcaaGreat
open Go Go.Ab

/- scholium/scholiumref12.S -/
def e26 (qq : Nat) (p0 : Int) : Option (Tm) :=
  (e47 qq 2 p0) >>= fun r1 =>
  some r1
theorem q26 : Tryz.prog.funcs[26]? = some Tryz.f26 ∧ Tryz.f26.body.isNone = false := ⟨Tryz.func26, by kernel_rfl⟩
theorem k26 {p0 : Int} {r : Tm} (h : CTri Tryz.prog 26 [] [ai p0] (tmA r) [] 0) : CT Tryz.prog 26 [] [ai p0] (tmA r) [] 0 := ⟨h, ⟨trivial, trivial⟩, forall_nil, ⟨trivial, trivial, dT _, trivial⟩, forall_nil⟩
theorem c26 {qq : Nat} {p0 : Int} {r : Tm} (h : e26 qq p0 = some r) : CT Tryz.prog 26 [] [ai p0] (tmA r) [] 0 := by
  unfold e26 at h
  obtain ⟨r1, h2, h⟩ := obind h
  obtain rfl := sj h
  exact k26 (tF q26 1 [] (oD (dT r1.sub) <| oC 0 [] (c47 h2) o0) (by kernel_rfl))
theorem m26 {qq : Nat} {p0 : Int} {r : Tm} (h : e26 qq p0 = some r) : e26 (qq + 1) p0 = some r := by
  unfold e26 at h ⊢
  obtain ⟨r1, hx, h⟩ := obind h
  refine obk (m47 hx) ?_
  exact h

end Go.Proofs.YtlbmblbeccafcaaGreat

namespace Go.Proofs.YtlbmblbeccafcaaGreat
open Go Go.Ab

/- scholium/scholiumref12.data -/
def e29 (qq : Nat) (p0 : ByteArray) (p1 : Tm) (p2 : Int) (p3 : Int) (p4 : List Int) : Option (Ent) :=
  some (Ent.mk 1 p0 p1 (Tm.mk 0 0 []) 0 0 p2 p3 0 p4 [])
theorem q29 : Tryz.prog.funcs[29]? = some Tryz.f29 ∧ Tryz.f29.body.isNone = false := ⟨Tryz.func29, by kernel_rfl⟩
theorem k29 {p0 : ByteArray} {p1 : Tm} {p2 : Int} {p3 : Int} {p4 : List Int} {r : Ent} (h : CTri Tryz.prog 29 [] [at' p0, tmA p1, ai p2, ai p3, .sl (flat intC p4) (List.length p4) .no] (entA r) [] 0) : CT Tryz.prog 29 [] [at' p0, tmA p1, ai p2, ai p3, .sl (flat intC p4) (List.length p4) .no] (entA r) [] 0 := ⟨h, ⟨trivial, ⟨trivial, trivial, ⟨trivial, dT _⟩, trivial⟩, trivial, trivial, ⟨trivial, dI _⟩, trivial⟩, forall_nil, ⟨trivial, trivial, trivial, trivial, dT _, trivial, trivial, dT _, trivial, trivial, trivial, trivial, trivial, dI _, dI _, trivial⟩, forall_nil⟩
theorem c29 {qq : Nat} {p0 : ByteArray} {p1 : Tm} {p2 : Int} {p3 : Int} {p4 : List Int} {r : Ent} (h : e29 qq p0 p1 p2 p3 p4 = some r) : CT Tryz.prog 29 [] [at' p0, tmA p1, ai p2, ai p3, .sl (flat intC p4) (List.length p4) .no] (entA r) [] 0 := by
  unfold e29 at h
  obtain rfl := sj h
  exact k29 (tF q29 2 [] (oD (dI ([] : List Int)) <| oD (dI p4) <| oD (dT ([] : List Tm)) <| oD (dT p1.sub) o0) (by kernel_rfl))
theorem m29 {qq : Nat} {p0 : ByteArray} {p1 : Tm} {p2 : Int} {p3 : Int} {p4 : List Int} {r : Ent} (h : e29 qq p0 p1 p2 p3 p4 = some r) : e29 (qq + 1) p0 p1 p2 p3 p4 = some r := by
  unfold e29 at h ⊢
  exact h

end Go.Proofs.YtlbmblbeccafcaaGreat

namespace Go.Proofs.YtlbmblbeccafcaaGreat
open Go Go.Ab

/- scholium/scholiumref12.V -/
def e30 (qq : Nat) (p0 : Int) : Option (Tm) :=
  (e47 qq 1 p0) >>= fun r1 =>
  some r1
theorem q30 : Tryz.prog.funcs[30]? = some Tryz.f30 ∧ Tryz.f30.body.isNone = false := ⟨Tryz.func30, by kernel_rfl⟩
theorem k30 {p0 : Int} {r : Tm} (h : CTri Tryz.prog 30 [] [ai p0] (tmA r) [] 0) : CT Tryz.prog 30 [] [ai p0] (tmA r) [] 0 := ⟨h, ⟨trivial, trivial⟩, forall_nil, ⟨trivial, trivial, dT _, trivial⟩, forall_nil⟩
theorem c30 {qq : Nat} {p0 : Int} {r : Tm} (h : e30 qq p0 = some r) : CT Tryz.prog 30 [] [ai p0] (tmA r) [] 0 := by
  unfold e30 at h
  obtain ⟨r1, h2, h⟩ := obind h
  obtain rfl := sj h
  exact k30 (tF q30 1 [] (oD (dT r1.sub) <| oC 0 [] (c47 h2) o0) (by kernel_rfl))
theorem m30 {qq : Nat} {p0 : Int} {r : Tm} (h : e30 qq p0 = some r) : e30 (qq + 1) p0 = some r := by
  unfold e30 at h ⊢
  obtain ⟨r1, hx, h⟩ := obind h
  refine obk (m47 hx) ?_
  exact h

end Go.Proofs.YtlbmblbeccafcaaGreat

namespace Go.Proofs.YtlbmblbeccafcaaGreat
open Go Go.Ab

/- scholium/scholiumref12.L -/
def e31 (qq : Nat) (p0 : Tm) (p1 : Tm) : Option (Tm) :=
  (e56 qq 4 p0 p1) >>= fun r1 =>
  some r1
theorem q31 : Tryz.prog.funcs[31]? = some Tryz.f31 ∧ Tryz.f31.body.isNone = false := ⟨Tryz.func31, by kernel_rfl⟩
theorem k31 {p0 : Tm} {p1 : Tm} {r : Tm} (h : CTri Tryz.prog 31 [] [tmA p0, tmA p1] (tmA r) [] 0) : CT Tryz.prog 31 [] [tmA p0, tmA p1] (tmA r) [] 0 := ⟨h, ⟨⟨trivial, trivial, ⟨trivial, dT _⟩, trivial⟩, ⟨trivial, trivial, ⟨trivial, dT _⟩, trivial⟩, trivial⟩, forall_nil, ⟨trivial, trivial, dT _, trivial⟩, forall_nil⟩
theorem c31 {qq : Nat} {p0 : Tm} {p1 : Tm} {r : Tm} (h : e31 qq p0 p1 = some r) : CT Tryz.prog 31 [] [tmA p0, tmA p1] (tmA r) [] 0 := by
  unfold e31 at h
  obtain ⟨r1, h2, h⟩ := obind h
  obtain rfl := sj h
  exact k31 (tF q31 1 [] (oD (dT r1.sub) <| oC 2 [] (c56 h2) o0) (by kernel_rfl))
theorem m31 {qq : Nat} {p0 : Tm} {p1 : Tm} {r : Tm} (h : e31 qq p0 p1 = some r) : e31 (qq + 1) p0 p1 = some r := by
  unfold e31 at h ⊢
  obtain ⟨r1, hx, h⟩ := obind h
  refine obk (m56 hx) ?_
  exact h

end Go.Proofs.YtlbmblbeccafcaaGreat

namespace Go.Proofs.YtlbmblbeccafcaaGreat
open Go Go.Ab

/- scholium/scholiumref07.Node -/
def e64 (qq : Nat) (p0 : Int) (p1 : Int) (p2 : List Tm) : Option (Tm) :=
  some (Tm.mk p0 p1 p2)
theorem q64 : Tryz.prog.funcs[64]? = some Tryz.f64 ∧ Tryz.f64.body.isNone = false := ⟨Tryz.func64, by kernel_rfl⟩
theorem k64 {p0 : Int} {p1 : Int} {p2 : List Tm} {r : Tm} (h : CTri Tryz.prog 64 [] [ai p0, ai p1, .sl (flat tmCells p2) (List.length p2) .no] (tmA r) [] 0) : CT Tryz.prog 64 [] [ai p0, ai p1, .sl (flat tmCells p2) (List.length p2) .no] (tmA r) [] 0 := ⟨h, ⟨trivial, trivial, ⟨trivial, dT _⟩, trivial⟩, forall_nil, ⟨trivial, trivial, dT _, trivial⟩, forall_nil⟩
theorem c64 {qq : Nat} {p0 : Int} {p1 : Int} {p2 : List Tm} {r : Tm} (h : e64 qq p0 p1 p2 = some r) : CT Tryz.prog 64 [] [ai p0, ai p1, .sl (flat tmCells p2) (List.length p2) .no] (tmA r) [] 0 := by
  unfold e64 at h
  obtain rfl := sj h
  exact k64 (tF q64 1 [] (oD (dT p2) o0) (by kernel_rfl))
theorem m64 {qq : Nat} {p0 : Int} {p1 : Int} {p2 : List Tm} {r : Tm} (h : e64 qq p0 p1 p2 = some r) : e64 (qq + 1) p0 p1 p2 = some r := by
  unfold e64 at h ⊢
  exact h

end Go.Proofs.YtlbmblbeccafcaaGreat

namespace Go.Proofs.YtlbmblbeccafcaaGreat
open Go Go.Ab

/- scholium/scholiumref12.E -/
def e32 (qq : Nat) (p0 : Int) (p1 : Int) : Option (Tm) :=
  (e26 qq p1) >>= fun r1 =>
  (e64 qq 7 p0 [r1]) >>= fun r3 =>
  some r3
theorem q32 : Tryz.prog.funcs[32]? = some Tryz.f32 ∧ Tryz.f32.body.isNone = false := ⟨Tryz.func32, by kernel_rfl⟩
theorem k32 {p0 : Int} {p1 : Int} {r : Tm} (h : CTri Tryz.prog 32 [] [ai p0, ai p1] (tmA r) [] 0) : CT Tryz.prog 32 [] [ai p0, ai p1] (tmA r) [] 0 := ⟨h, ⟨trivial, trivial, trivial⟩, forall_nil, ⟨trivial, trivial, dT _, trivial⟩, forall_nil⟩
theorem c32 {qq : Nat} {p0 : Int} {p1 : Int} {r : Tm} (h : e32 qq p0 p1 = some r) : CT Tryz.prog 32 [] [ai p0, ai p1] (tmA r) [] 0 := by
  unfold e32 at h
  obtain ⟨r1, h2, h⟩ := obind h
  obtain ⟨r3, h4, h⟩ := obind h
  obtain rfl := sj h
  exact k32 (tF q32 1 [] (oD (dT r3.sub) <| oC 0 [] (c64 h4) <| oS 0 (obLitR tm_eq [r1]) <| oC 0 [] (c26 h2) o0) (by kernel_rfl))
theorem m32 {qq : Nat} {p0 : Int} {p1 : Int} {r : Tm} (h : e32 qq p0 p1 = some r) : e32 (qq + 1) p0 p1 = some r := by
  unfold e32 at h ⊢
  obtain ⟨r1, hx, h⟩ := obind h
  refine obk (m26 hx) ?_
  obtain ⟨r3, hx, h⟩ := obind h
  refine obk (m64 hx) ?_
  exact h

end Go.Proofs.YtlbmblbeccafcaaGreat

namespace Go.Proofs.YtlbmblbeccafcaaGreat
open Go Go.Ab

/- scholium/scholiumref12.con -/
def e33 (qq : Nat) (p0 : ByteArray) (p1 : Tm) (p2 : Int) (p3 : Int) (p4 : Int) : Option (Ent) :=
  some (Ent.mk 2 p0 p1 (Tm.mk 0 0 []) p2 p3 p4 0 0 [] [])
theorem q33 : Tryz.prog.funcs[33]? = some Tryz.f33 ∧ Tryz.f33.body.isNone = false := ⟨Tryz.func33, by kernel_rfl⟩
theorem k33 {p0 : ByteArray} {p1 : Tm} {p2 : Int} {p3 : Int} {p4 : Int} {r : Ent} (h : CTri Tryz.prog 33 [] [at' p0, tmA p1, ai p2, ai p3, ai p4] (entA r) [] 0) : CT Tryz.prog 33 [] [at' p0, tmA p1, ai p2, ai p3, ai p4] (entA r) [] 0 := ⟨h, ⟨trivial, ⟨trivial, trivial, ⟨trivial, dT _⟩, trivial⟩, trivial, trivial, trivial, trivial⟩, forall_nil, ⟨trivial, trivial, trivial, trivial, dT _, trivial, trivial, dT _, trivial, trivial, trivial, trivial, trivial, dI _, dI _, trivial⟩, forall_nil⟩
theorem c33 {qq : Nat} {p0 : ByteArray} {p1 : Tm} {p2 : Int} {p3 : Int} {p4 : Int} {r : Ent} (h : e33 qq p0 p1 p2 p3 p4 = some r) : CT Tryz.prog 33 [] [at' p0, tmA p1, ai p2, ai p3, ai p4] (entA r) [] 0 := by
  unfold e33 at h
  obtain rfl := sj h
  exact k33 (tF q33 2 [] (oD (dI ([] : List Int)) <| oD (dI ([] : List Int)) <| oD (dT ([] : List Tm)) <| oD (dT p1.sub) o0) (by kernel_rfl))
theorem m33 {qq : Nat} {p0 : ByteArray} {p1 : Tm} {p2 : Int} {p3 : Int} {p4 : Int} {r : Ent} (h : e33 qq p0 p1 p2 p3 p4 = some r) : e33 (qq + 1) p0 p1 p2 p3 p4 = some r := by
  unfold e33 at h ⊢
  exact h

end Go.Proofs.YtlbmblbeccafcaaGreat

namespace Go.Proofs.YtlbmblbeccafcaaGreat
open Go Go.Ab

/- scholium/scholiumref12.proj -/
def e34 (qq : Nat) (p0 : ByteArray) (p1 : Tm) (p2 : Int) : Option (Ent) :=
  some (Ent.mk 4 p0 p1 (Tm.mk 0 0 []) 14 p2 2 0 0 [] [])
theorem q34 : Tryz.prog.funcs[34]? = some Tryz.f34 ∧ Tryz.f34.body.isNone = false := ⟨Tryz.func34, by kernel_rfl⟩
theorem k34 {p0 : ByteArray} {p1 : Tm} {p2 : Int} {r : Ent} (h : CTri Tryz.prog 34 [] [at' p0, tmA p1, ai p2] (entA r) [] 0) : CT Tryz.prog 34 [] [at' p0, tmA p1, ai p2] (entA r) [] 0 := ⟨h, ⟨trivial, ⟨trivial, trivial, ⟨trivial, dT _⟩, trivial⟩, trivial, trivial⟩, forall_nil, ⟨trivial, trivial, trivial, trivial, dT _, trivial, trivial, dT _, trivial, trivial, trivial, trivial, trivial, dI _, dI _, trivial⟩, forall_nil⟩
theorem c34 {qq : Nat} {p0 : ByteArray} {p1 : Tm} {p2 : Int} {r : Ent} (h : e34 qq p0 p1 p2 = some r) : CT Tryz.prog 34 [] [at' p0, tmA p1, ai p2] (entA r) [] 0 := by
  unfold e34 at h
  obtain rfl := sj h
  exact k34 (tF q34 2 [] (oD (dI ([] : List Int)) <| oD (dI ([] : List Int)) <| oD (dT ([] : List Tm)) <| oD (dT p1.sub) o0) (by kernel_rfl))
theorem m34 {qq : Nat} {p0 : ByteArray} {p1 : Tm} {p2 : Int} {r : Ent} (h : e34 qq p0 p1 p2 = some r) : e34 (qq + 1) p0 p1 p2 = some r := by
  unfold e34 at h ⊢
  exact h

end Go.Proofs.YtlbmblbeccafcaaGreat

namespace Go.Proofs.YtlbmblbeccafcaaGreat
open Go Go.Ab

/- scholium/scholiumref12.Base -/
def e9 (qq : Nat)  : Option (List Ent) :=
  (e16 qq 0) >>= fun r1 =>
  (e26 qq 0) >>= fun r3 =>
  (e26 qq 0) >>= fun r5 =>
  (e26 qq 0) >>= fun r7 =>
  (e22 qq r5 r7) >>= fun r9 =>
  (e22 qq r3 r9) >>= fun r11 =>
  (e29 qq (⟨#[80, 97, 105, 114]⟩ : ByteArray) r11 2 0 [15]) >>= fun r13 =>
  (e16 qq 14) >>= fun r15 =>
  (e30 qq 1) >>= fun r17 =>
  (e30 qq 0) >>= fun r19 =>
  (e23 qq r15 [r17, r19]) >>= fun r21 =>
  (e32 qq 0 0) >>= fun r23 =>
  (e31 qq r1 r1) >>= fun r25 =>
  (e30 qq 0) >>= fun r27 =>
  (e16 qq 2) >>= fun r29 =>
  (e30 qq 0) >>= fun r31 =>
  (e23 qq r29 [r31]) >>= fun r33 =>
  (e31 qq r1 r33) >>= fun r35 =>
  (e31 qq r1 r35) >>= fun r37 =>
  (e30 qq 1) >>= fun r39 =>
  (e23 qq r23 [r25, r27, r37, r39]) >>= fun r41 =>
  (e31 qq r1 r41) >>= fun r43 =>
  (e31 qq r1 r43) >>= fun r45 =>
  (e26 qq 0) >>= fun r47 =>
  (e29 qq (⟨#[78, 97, 116]⟩ : ByteArray) r47 0 0 [1, 2]) >>= fun r49 =>
  (e33 qq (⟨#[122, 101, 114, 111]⟩ : ByteArray) r1 0 0 0) >>= fun r51 =>
  (e22 qq r1 r1) >>= fun r53 =>
  (e33 qq (⟨#[115, 117, 99]⟩ : ByteArray) r53 0 1 0) >>= fun r55 =>
  (e26 qq 0) >>= fun r57 =>
  (e29 qq (⟨#[66, 111, 111, 108]⟩ : ByteArray) r57 0 0 [4, 5]) >>= fun r59 =>
  (e16 qq 3) >>= fun r61 =>
  (e33 qq (⟨#[116, 114, 117, 101]⟩ : ByteArray) r61 3 0 0) >>= fun r63 =>
  (e16 qq 3) >>= fun r65 =>
  (e33 qq (⟨#[102, 97, 108, 115, 101]⟩ : ByteArray) r65 3 1 0) >>= fun r67 =>
  (e26 qq 0) >>= fun r69 =>
  (e26 qq 0) >>= fun r71 =>
  (e22 qq r69 r71) >>= fun r73 =>
  (e29 qq (⟨#[76, 105, 115, 116]⟩ : ByteArray) r73 1 0 [7, 8]) >>= fun r75 =>
  (e26 qq 0) >>= fun r77 =>
  (e16 qq 6) >>= fun r79 =>
  (e30 qq 0) >>= fun r81 =>
  (e23 qq r79 [r81]) >>= fun r83 =>
  (e22 qq r77 r83) >>= fun r85 =>
  (e33 qq (⟨#[110, 105, 108]⟩ : ByteArray) r85 6 0 1) >>= fun r87 =>
  (e26 qq 0) >>= fun r89 =>
  (e30 qq 0) >>= fun r91 =>
  (e16 qq 6) >>= fun r93 =>
  (e30 qq 1) >>= fun r95 =>
  (e23 qq r93 [r95]) >>= fun r97 =>
  (e16 qq 6) >>= fun r99 =>
  (e30 qq 2) >>= fun r101 =>
  (e23 qq r99 [r101]) >>= fun r103 =>
  (e22 qq r97 r103) >>= fun r105 =>
  (e22 qq r91 r105) >>= fun r107 =>
  (e22 qq r89 r107) >>= fun r109 =>
  (e33 qq (⟨#[99, 111, 110, 115]⟩ : ByteArray) r109 6 1 1) >>= fun r111 =>
  (e26 qq 0) >>= fun r113 =>
  (e26 qq 0) >>= fun r115 =>
  (e22 qq r1 r115) >>= fun r117 =>
  (e22 qq r113 r117) >>= fun r119 =>
  (e29 qq (⟨#[86, 101, 99]⟩ : ByteArray) r119 1 1 [10, 11]) >>= fun r121 =>
  (e26 qq 0) >>= fun r123 =>
  (e16 qq 9) >>= fun r125 =>
  (e30 qq 0) >>= fun r127 =>
  (e16 qq 1) >>= fun r129 =>
  (e23 qq r125 [r127, r129]) >>= fun r131 =>
  (e22 qq r123 r131) >>= fun r133 =>
  (e33 qq (⟨#[118, 110, 105, 108]⟩ : ByteArray) r133 9 0 1) >>= fun r135 =>
  (e26 qq 0) >>= fun r137 =>
  (e30 qq 1) >>= fun r139 =>
  (e16 qq 9) >>= fun r141 =>
  (e30 qq 2) >>= fun r143 =>
  (e30 qq 1) >>= fun r145 =>
  (e23 qq r141 [r143, r145]) >>= fun r147 =>
  (e16 qq 9) >>= fun r149 =>
  (e30 qq 3) >>= fun r151 =>
  (e16 qq 2) >>= fun r153 =>
  (e30 qq 2) >>= fun r155 =>
  (e23 qq r153 [r155]) >>= fun r157 =>
  (e23 qq r149 [r151, r157]) >>= fun r159 =>
  (e22 qq r147 r159) >>= fun r161 =>
  (e22 qq r139 r161) >>= fun r163 =>
  (e22 qq r1 r163) >>= fun r165 =>
  (e22 qq r137 r165) >>= fun r167 =>
  (e33 qq (⟨#[118, 99, 111, 110, 115]⟩ : ByteArray) r167 9 1 1) >>= fun r169 =>
  (e26 qq 0) >>= fun r171 =>
  (e30 qq 0) >>= fun r173 =>
  (e30 qq 1) >>= fun r175 =>
  (e26 qq 0) >>= fun r177 =>
  (e22 qq r175 r177) >>= fun r179 =>
  (e22 qq r173 r179) >>= fun r181 =>
  (e22 qq r171 r181) >>= fun r183 =>
  (e29 qq (⟨#[69, 113]⟩ : ByteArray) r183 2 1 [13]) >>= fun r185 =>
  (e26 qq 0) >>= fun r187 =>
  (e30 qq 0) >>= fun r189 =>
  (e16 qq 12) >>= fun r191 =>
  (e30 qq 1) >>= fun r193 =>
  (e30 qq 0) >>= fun r195 =>
  (e30 qq 0) >>= fun r197 =>
  (e23 qq r191 [r193, r195, r197]) >>= fun r199 =>
  (e22 qq r189 r199) >>= fun r201 =>
  (e22 qq r187 r201) >>= fun r203 =>
  (e33 qq (⟨#[114, 101, 102, 108]⟩ : ByteArray) r203 12 0 2) >>= fun r205 =>
  (e26 qq 0) >>= fun r207 =>
  (e26 qq 0) >>= fun r209 =>
  (e30 qq 1) >>= fun r211 =>
  (e30 qq 1) >>= fun r213 =>
  (e16 qq 14) >>= fun r215 =>
  (e30 qq 3) >>= fun r217 =>
  (e30 qq 2) >>= fun r219 =>
  (e23 qq r215 [r217, r219]) >>= fun r221 =>
  (e22 qq r213 r221) >>= fun r223 =>
  (e22 qq r211 r223) >>= fun r225 =>
  (e22 qq r209 r225) >>= fun r227 =>
  (e22 qq r207 r227) >>= fun r229 =>
  (e33 qq (⟨#[112, 97, 105, 114]⟩ : ByteArray) r229 14 0 2) >>= fun r231 =>
  (e26 qq 0) >>= fun r233 =>
  (e26 qq 0) >>= fun r235 =>
  (e30 qq 2) >>= fun r237 =>
  (e22 qq r21 r237) >>= fun r239 =>
  (e22 qq r235 r239) >>= fun r241 =>
  (e22 qq r233 r241) >>= fun r243 =>
  (e34 qq (⟨#[102, 115, 116]⟩ : ByteArray) r243 0) >>= fun r245 =>
  (e26 qq 0) >>= fun r247 =>
  (e26 qq 0) >>= fun r249 =>
  (e30 qq 1) >>= fun r251 =>
  (e22 qq r21 r251) >>= fun r253 =>
  (e22 qq r249 r253) >>= fun r255 =>
  (e22 qq r247 r255) >>= fun r257 =>
  (e34 qq (⟨#[115, 110, 100]⟩ : ByteArray) r257 1) >>= fun r259 =>
  (e26 qq 0) >>= fun r261 =>
  (e29 qq (⟨#[84, 114, 101, 101]⟩ : ByteArray) r261 0 0 [19, 20]) >>= fun r263 =>
  (e16 qq 18) >>= fun r265 =>
  (e33 qq (⟨#[108, 101, 97, 102]⟩ : ByteArray) r265 18 0 0) >>= fun r267 =>
  (e16 qq 18) >>= fun r269 =>
  (e22 qq r1 r269) >>= fun r271 =>
  (e16 qq 18) >>= fun r273 =>
  (e22 qq r271 r273) >>= fun r275 =>
  (e33 qq (⟨#[110, 111, 100, 101]⟩ : ByteArray) r275 18 1 0) >>= fun r277 =>
  (e22 qq r1 r1) >>= fun r279 =>
  (e22 qq r1 r279) >>= fun r281 =>
  (e26 qq 0) >>= fun r283 =>
  (e30 qq 0) >>= fun r285 =>
  (e30 qq 1) >>= fun r287 =>
  (e22 qq r285 r287) >>= fun r289 =>
  (e22 qq r283 r289) >>= fun r291 =>
  (e26 qq 0) >>= fun r293 =>
  (e30 qq 0) >>= fun r295 =>
  (e30 qq 0) >>= fun r297 =>
  (e31 qq r295 r297) >>= fun r299 =>
  (e31 qq r293 r299) >>= fun r301 =>
  some [r49, r51, r55, r59, r63, r67, r75, r87, r111, r121, r135, r169, r185, r205, (Ent.mk r13.kind r13.name r13.type r13.body r13.fam r13.place r13.pars r13.inds r13.level r13.cons [16, 17]), r231, r245, r259, r263, r267, r277, (Ent.mk 3 (⟨#[112, 108, 117, 115]⟩ : ByteArray) r281 r45 0 0 0 0 0 [] []), (Ent.mk 3 (⟨#[105, 100]⟩ : ByteArray) r291 r301 0 0 0 0 0 [] [])]
theorem q9 : Tryz.prog.funcs[9]? = some Tryz.f9 ∧ Tryz.f9.body.isNone = false := ⟨Tryz.func9, by kernel_rfl⟩
theorem k9  {r : List Ent} (h : CTri Tryz.prog 9 [] [] (.sl (flat entL r) (List.length r) .no) [] 0) : CT Tryz.prog 9 [] [] (.sl (flat entL r) (List.length r) .no) [] 0 := ⟨h, trivial, forall_nil, dE _, forall_nil⟩
theorem c9 {qq : Nat}  {r : List Ent} (h : e9 qq  = some r) : CT Tryz.prog 9 [] [] (.sl (flat entL r) (List.length r) .no) [] 0 := by
  unfold e9 at h
  obtain ⟨r1, h2, h⟩ := obind h
  obtain ⟨r3, h4, h⟩ := obind h
  obtain ⟨r5, h6, h⟩ := obind h
  obtain ⟨r7, h8, h⟩ := obind h
  obtain ⟨r9, h10, h⟩ := obind h
  obtain ⟨r11, h12, h⟩ := obind h
  obtain ⟨r13, h14, h⟩ := obind h
  obtain ⟨r15, h16, h⟩ := obind h
  obtain ⟨r17, h18, h⟩ := obind h
  obtain ⟨r19, h20, h⟩ := obind h
  obtain ⟨r21, h22, h⟩ := obind h
  obtain ⟨r23, h24, h⟩ := obind h
  obtain ⟨r25, h26, h⟩ := obind h
  obtain ⟨r27, h28, h⟩ := obind h
  obtain ⟨r29, h30, h⟩ := obind h
  obtain ⟨r31, h32, h⟩ := obind h
  obtain ⟨r33, h34, h⟩ := obind h
  obtain ⟨r35, h36, h⟩ := obind h
  obtain ⟨r37, h38, h⟩ := obind h
  obtain ⟨r39, h40, h⟩ := obind h
  obtain ⟨r41, h42, h⟩ := obind h
  obtain ⟨r43, h44, h⟩ := obind h
  obtain ⟨r45, h46, h⟩ := obind h
  obtain ⟨r47, h48, h⟩ := obind h
  obtain ⟨r49, h50, h⟩ := obind h
  obtain ⟨r51, h52, h⟩ := obind h
  obtain ⟨r53, h54, h⟩ := obind h
  obtain ⟨r55, h56, h⟩ := obind h
  obtain ⟨r57, h58, h⟩ := obind h
  obtain ⟨r59, h60, h⟩ := obind h
  obtain ⟨r61, h62, h⟩ := obind h
  obtain ⟨r63, h64, h⟩ := obind h
  obtain ⟨r65, h66, h⟩ := obind h
  obtain ⟨r67, h68, h⟩ := obind h
  obtain ⟨r69, h70, h⟩ := obind h
  obtain ⟨r71, h72, h⟩ := obind h
  obtain ⟨r73, h74, h⟩ := obind h
  obtain ⟨r75, h76, h⟩ := obind h
  obtain ⟨r77, h78, h⟩ := obind h
  obtain ⟨r79, h80, h⟩ := obind h
  obtain ⟨r81, h82, h⟩ := obind h
  obtain ⟨r83, h84, h⟩ := obind h
  obtain ⟨r85, h86, h⟩ := obind h
  obtain ⟨r87, h88, h⟩ := obind h
  obtain ⟨r89, h90, h⟩ := obind h
  obtain ⟨r91, h92, h⟩ := obind h
  obtain ⟨r93, h94, h⟩ := obind h
  obtain ⟨r95, h96, h⟩ := obind h
  obtain ⟨r97, h98, h⟩ := obind h
  obtain ⟨r99, h100, h⟩ := obind h
  obtain ⟨r101, h102, h⟩ := obind h
  obtain ⟨r103, h104, h⟩ := obind h
  obtain ⟨r105, h106, h⟩ := obind h
  obtain ⟨r107, h108, h⟩ := obind h
  obtain ⟨r109, h110, h⟩ := obind h
  obtain ⟨r111, h112, h⟩ := obind h
  obtain ⟨r113, h114, h⟩ := obind h
  obtain ⟨r115, h116, h⟩ := obind h
  obtain ⟨r117, h118, h⟩ := obind h
  obtain ⟨r119, h120, h⟩ := obind h
  obtain ⟨r121, h122, h⟩ := obind h
  obtain ⟨r123, h124, h⟩ := obind h
  obtain ⟨r125, h126, h⟩ := obind h
  obtain ⟨r127, h128, h⟩ := obind h
  obtain ⟨r129, h130, h⟩ := obind h
  obtain ⟨r131, h132, h⟩ := obind h
  obtain ⟨r133, h134, h⟩ := obind h
  obtain ⟨r135, h136, h⟩ := obind h
  obtain ⟨r137, h138, h⟩ := obind h
  obtain ⟨r139, h140, h⟩ := obind h
  obtain ⟨r141, h142, h⟩ := obind h
  obtain ⟨r143, h144, h⟩ := obind h
  obtain ⟨r145, h146, h⟩ := obind h
  obtain ⟨r147, h148, h⟩ := obind h
  obtain ⟨r149, h150, h⟩ := obind h
  obtain ⟨r151, h152, h⟩ := obind h
  obtain ⟨r153, h154, h⟩ := obind h
  obtain ⟨r155, h156, h⟩ := obind h
  obtain ⟨r157, h158, h⟩ := obind h
  obtain ⟨r159, h160, h⟩ := obind h
  obtain ⟨r161, h162, h⟩ := obind h
  obtain ⟨r163, h164, h⟩ := obind h
  obtain ⟨r165, h166, h⟩ := obind h
  obtain ⟨r167, h168, h⟩ := obind h
  obtain ⟨r169, h170, h⟩ := obind h
  obtain ⟨r171, h172, h⟩ := obind h
  obtain ⟨r173, h174, h⟩ := obind h
  obtain ⟨r175, h176, h⟩ := obind h
  obtain ⟨r177, h178, h⟩ := obind h
  obtain ⟨r179, h180, h⟩ := obind h
  obtain ⟨r181, h182, h⟩ := obind h
  obtain ⟨r183, h184, h⟩ := obind h
  obtain ⟨r185, h186, h⟩ := obind h
  obtain ⟨r187, h188, h⟩ := obind h
  obtain ⟨r189, h190, h⟩ := obind h
  obtain ⟨r191, h192, h⟩ := obind h
  obtain ⟨r193, h194, h⟩ := obind h
  obtain ⟨r195, h196, h⟩ := obind h
  obtain ⟨r197, h198, h⟩ := obind h
  obtain ⟨r199, h200, h⟩ := obind h
  obtain ⟨r201, h202, h⟩ := obind h
  obtain ⟨r203, h204, h⟩ := obind h
  obtain ⟨r205, h206, h⟩ := obind h
  obtain ⟨r207, h208, h⟩ := obind h
  obtain ⟨r209, h210, h⟩ := obind h
  obtain ⟨r211, h212, h⟩ := obind h
  obtain ⟨r213, h214, h⟩ := obind h
  obtain ⟨r215, h216, h⟩ := obind h
  obtain ⟨r217, h218, h⟩ := obind h
  obtain ⟨r219, h220, h⟩ := obind h
  obtain ⟨r221, h222, h⟩ := obind h
  obtain ⟨r223, h224, h⟩ := obind h
  obtain ⟨r225, h226, h⟩ := obind h
  obtain ⟨r227, h228, h⟩ := obind h
  obtain ⟨r229, h230, h⟩ := obind h
  obtain ⟨r231, h232, h⟩ := obind h
  obtain ⟨r233, h234, h⟩ := obind h
  obtain ⟨r235, h236, h⟩ := obind h
  obtain ⟨r237, h238, h⟩ := obind h
  obtain ⟨r239, h240, h⟩ := obind h
  obtain ⟨r241, h242, h⟩ := obind h
  obtain ⟨r243, h244, h⟩ := obind h
  obtain ⟨r245, h246, h⟩ := obind h
  obtain ⟨r247, h248, h⟩ := obind h
  obtain ⟨r249, h250, h⟩ := obind h
  obtain ⟨r251, h252, h⟩ := obind h
  obtain ⟨r253, h254, h⟩ := obind h
  obtain ⟨r255, h256, h⟩ := obind h
  obtain ⟨r257, h258, h⟩ := obind h
  obtain ⟨r259, h260, h⟩ := obind h
  obtain ⟨r261, h262, h⟩ := obind h
  obtain ⟨r263, h264, h⟩ := obind h
  obtain ⟨r265, h266, h⟩ := obind h
  obtain ⟨r267, h268, h⟩ := obind h
  obtain ⟨r269, h270, h⟩ := obind h
  obtain ⟨r271, h272, h⟩ := obind h
  obtain ⟨r273, h274, h⟩ := obind h
  obtain ⟨r275, h276, h⟩ := obind h
  obtain ⟨r277, h278, h⟩ := obind h
  obtain ⟨r279, h280, h⟩ := obind h
  obtain ⟨r281, h282, h⟩ := obind h
  obtain ⟨r283, h284, h⟩ := obind h
  obtain ⟨r285, h286, h⟩ := obind h
  obtain ⟨r287, h288, h⟩ := obind h
  obtain ⟨r289, h290, h⟩ := obind h
  obtain ⟨r291, h292, h⟩ := obind h
  obtain ⟨r293, h294, h⟩ := obind h
  obtain ⟨r295, h296, h⟩ := obind h
  obtain ⟨r297, h298, h⟩ := obind h
  obtain ⟨r299, h300, h⟩ := obind h
  obtain ⟨r301, h302, h⟩ := obind h
  obtain rfl := sj h
  exact k9 (tF q9 1 [] (oD (dE [r49, r51, r55, r59, r63, r67, r75, r87, r111, r121, r135, r169, r185, r205, (Ent.mk r13.kind r13.name r13.type r13.body r13.fam r13.place r13.pars r13.inds r13.level r13.cons [16, 17]), r231, r245, r259, r263, r267, r277, (Ent.mk 3 (⟨#[112, 108, 117, 115]⟩ : ByteArray) r281 r45 0 0 0 0 0 [] []), (Ent.mk 3 (⟨#[105, 100]⟩ : ByteArray) r291 r301 0 0 0 0 0 [] [])]) <| oC 0 [] (c31 h302) <| oC 0 [] (c31 h300) <| oC 0 [] (c30 h298) <| oC 0 [] (c30 h296) <| oC 0 [] (c26 h294) <| oC 0 [] (c22 h292) <| oC 0 [] (c22 h290) <| oC 0 [] (c30 h288) <| oC 0 [] (c30 h286) <| oC 1 [] (c26 h284) <| oC 0 [] (c22 h282) <| oC 3 [] (c22 h280) <| oC 0 [] (c33 h278) <| oC 0 [] (c22 h276) <| oC 0 [] (c16 h274) <| oC 0 [] (c22 h272) <| oC 1 [] (c16 h270) <| oC 0 [] (c33 h268) <| oC 0 [] (c16 h266) <| oC 1 [] (c29 h264) <| oC 0 [] (c26 h262) <| oC 0 [] (c34 h260) <| oC 0 [] (c22 h258) <| oC 0 [] (c22 h256) <| oC 0 [] (c22 h254) <| oC 1 [] (c30 h252) <| oC 0 [] (c26 h250) <| oC 0 [] (c26 h248) <| oC 0 [] (c34 h246) <| oC 0 [] (c22 h244) <| oC 0 [] (c22 h242) <| oC 0 [] (c22 h240) <| oC 1 [] (c30 h238) <| oC 0 [] (c26 h236) <| oC 0 [] (c26 h234) <| oC 0 [] (c33 h232) <| oC 0 [] (c22 h230) <| oC 0 [] (c22 h228) <| oC 0 [] (c22 h226) <| oC 0 [] (c22 h224) <| oC 0 [] (c23 h222) <| oS 0 (obLitR tm_eq [r217, r219]) <| oC 0 [] (c30 h220) <| oC 0 [] (c30 h218) <| oC 0 [] (c16 h216) <| oC 0 [] (c30 h214) <| oC 0 [] (c30 h212) <| oC 0 [] (c26 h210) <| oC 1 [] (c26 h208) <| oC 0 [] (c33 h206) <| oC 0 [] (c22 h204) <| oC 0 [] (c22 h202) <| oC 0 [] (c23 h200) <| oS 0 (obLitR tm_eq [r193, r195, r197]) <| oC 0 [] (c30 h198) <| oC 0 [] (c30 h196) <| oC 0 [] (c30 h194) <| oC 0 [] (c16 h192) <| oC 0 [] (c30 h190) <| oC 0 [] (c26 h188) <| oC 1 [] (c29 h186) <| oC 0 [] (c22 h184) <| oC 0 [] (c22 h182) <| oC 0 [] (c22 h180) <| oC 0 [] (c26 h178) <| oC 0 [] (c30 h176) <| oC 0 [] (c30 h174) <| oC 0 [] (c26 h172) <| oC 0 [] (c33 h170) <| oC 0 [] (c22 h168) <| oC 0 [] (c22 h166) <| oC 0 [] (c22 h164) <| oC 0 [] (c22 h162) <| oC 0 [] (c23 h160) <| oS 0 (obLitR tm_eq [r151, r157]) <| oC 0 [] (c23 h158) <| oS 0 (obLitR tm_eq [r155]) <| oC 0 [] (c30 h156) <| oC 0 [] (c16 h154) <| oC 0 [] (c30 h152) <| oC 0 [] (c16 h150) <| oC 0 [] (c23 h148) <| oS 0 (obLitR tm_eq [r143, r145]) <| oC 0 [] (c30 h146) <| oC 0 [] (c30 h144) <| oC 0 [] (c16 h142) <| oC 1 [] (c30 h140) <| oC 0 [] (c26 h138) <| oC 0 [] (c33 h136) <| oC 0 [] (c22 h134) <| oC 0 [] (c23 h132) <| oS 0 (obLitR tm_eq [r127, r129]) <| oC 0 [] (c16 h130) <| oC 0 [] (c30 h128) <| oC 0 [] (c16 h126) <| oC 0 [] (c26 h124) <| oC 1 [] (c29 h122) <| oC 0 [] (c22 h120) <| oC 0 [] (c22 h118) <| oC 1 [] (c26 h116) <| oC 0 [] (c26 h114) <| oC 0 [] (c33 h112) <| oC 0 [] (c22 h110) <| oC 0 [] (c22 h108) <| oC 0 [] (c22 h106) <| oC 0 [] (c23 h104) <| oS 0 (obLitR tm_eq [r101]) <| oC 0 [] (c30 h102) <| oC 0 [] (c16 h100) <| oC 0 [] (c23 h98) <| oS 0 (obLitR tm_eq [r95]) <| oC 0 [] (c30 h96) <| oC 0 [] (c16 h94) <| oC 0 [] (c30 h92) <| oC 0 [] (c26 h90) <| oC 0 [] (c33 h88) <| oC 0 [] (c22 h86) <| oC 0 [] (c23 h84) <| oS 0 (obLitR tm_eq [r81]) <| oC 0 [] (c30 h82) <| oC 0 [] (c16 h80) <| oC 0 [] (c26 h78) <| oC 1 [] (c29 h76) <| oC 0 [] (c22 h74) <| oC 0 [] (c26 h72) <| oC 0 [] (c26 h70) <| oC 0 [] (c33 h68) <| oC 0 [] (c16 h66) <| oC 0 [] (c33 h64) <| oC 0 [] (c16 h62) <| oC 1 [] (c29 h60) <| oC 0 [] (c26 h58) <| oC 0 [] (c33 h56) <| oC 2 [] (c22 h54) <| oC 1 [] (c33 h52) <| oC 1 [] (c29 h50) <| oC 1 [] (c26 h48) <| oC 0 [] (c31 h46) <| oC 0 [] (c31 h44) <| oC 0 [] (c23 h42) <| oS 0 (obLitR tm_eq [r25, r27, r37, r39]) <| oC 0 [] (c30 h40) <| oC 0 [] (c31 h38) <| oC 0 [] (c31 h36) <| oC 0 [] (c23 h34) <| oS 0 (obLitR tm_eq [r31]) <| oC 0 [] (c30 h32) <| oC 2 [] (c16 h30) <| oC 0 [] (c30 h28) <| oC 2 [] (c31 h26) <| oC 3 [] (c32 h24) <| oC 0 [] (c23 h22) <| oS 0 (obLitR tm_eq [r17, r19]) <| oC 0 [] (c30 h20) <| oC 0 [] (c30 h18) <| oC 3 [] (c16 h16) <| oC 1 [] (c29 h14) <| oC 0 [] (c22 h12) <| oC 0 [] (c22 h10) <| oC 0 [] (c26 h8) <| oC 0 [] (c26 h6) <| oC 1 [] (c26 h4) <| oC 0 [] (c16 h2) o0) (by kernel_rfl))
theorem m9 {qq : Nat}  {r : List Ent} (h : e9 qq  = some r) : e9 (qq + 1)  = some r := by
  unfold e9 at h ⊢
  obtain ⟨r1, hx, h⟩ := obind h
  refine obk (m16 hx) ?_
  obtain ⟨r3, hx, h⟩ := obind h
  refine obk (m26 hx) ?_
  obtain ⟨r5, hx, h⟩ := obind h
  refine obk (m26 hx) ?_
  obtain ⟨r7, hx, h⟩ := obind h
  refine obk (m26 hx) ?_
  obtain ⟨r9, hx, h⟩ := obind h
  refine obk (m22 hx) ?_
  obtain ⟨r11, hx, h⟩ := obind h
  refine obk (m22 hx) ?_
  obtain ⟨r13, hx, h⟩ := obind h
  refine obk (m29 hx) ?_
  obtain ⟨r15, hx, h⟩ := obind h
  refine obk (m16 hx) ?_
  obtain ⟨r17, hx, h⟩ := obind h
  refine obk (m30 hx) ?_
  obtain ⟨r19, hx, h⟩ := obind h
  refine obk (m30 hx) ?_
  obtain ⟨r21, hx, h⟩ := obind h
  refine obk (m23 hx) ?_
  obtain ⟨r23, hx, h⟩ := obind h
  refine obk (m32 hx) ?_
  obtain ⟨r25, hx, h⟩ := obind h
  refine obk (m31 hx) ?_
  obtain ⟨r27, hx, h⟩ := obind h
  refine obk (m30 hx) ?_
  obtain ⟨r29, hx, h⟩ := obind h
  refine obk (m16 hx) ?_
  obtain ⟨r31, hx, h⟩ := obind h
  refine obk (m30 hx) ?_
  obtain ⟨r33, hx, h⟩ := obind h
  refine obk (m23 hx) ?_
  obtain ⟨r35, hx, h⟩ := obind h
  refine obk (m31 hx) ?_
  obtain ⟨r37, hx, h⟩ := obind h
  refine obk (m31 hx) ?_
  obtain ⟨r39, hx, h⟩ := obind h
  refine obk (m30 hx) ?_
  obtain ⟨r41, hx, h⟩ := obind h
  refine obk (m23 hx) ?_
  obtain ⟨r43, hx, h⟩ := obind h
  refine obk (m31 hx) ?_
  obtain ⟨r45, hx, h⟩ := obind h
  refine obk (m31 hx) ?_
  obtain ⟨r47, hx, h⟩ := obind h
  refine obk (m26 hx) ?_
  obtain ⟨r49, hx, h⟩ := obind h
  refine obk (m29 hx) ?_
  obtain ⟨r51, hx, h⟩ := obind h
  refine obk (m33 hx) ?_
  obtain ⟨r53, hx, h⟩ := obind h
  refine obk (m22 hx) ?_
  obtain ⟨r55, hx, h⟩ := obind h
  refine obk (m33 hx) ?_
  obtain ⟨r57, hx, h⟩ := obind h
  refine obk (m26 hx) ?_
  obtain ⟨r59, hx, h⟩ := obind h
  refine obk (m29 hx) ?_
  obtain ⟨r61, hx, h⟩ := obind h
  refine obk (m16 hx) ?_
  obtain ⟨r63, hx, h⟩ := obind h
  refine obk (m33 hx) ?_
  obtain ⟨r65, hx, h⟩ := obind h
  refine obk (m16 hx) ?_
  obtain ⟨r67, hx, h⟩ := obind h
  refine obk (m33 hx) ?_
  obtain ⟨r69, hx, h⟩ := obind h
  refine obk (m26 hx) ?_
  obtain ⟨r71, hx, h⟩ := obind h
  refine obk (m26 hx) ?_
  obtain ⟨r73, hx, h⟩ := obind h
  refine obk (m22 hx) ?_
  obtain ⟨r75, hx, h⟩ := obind h
  refine obk (m29 hx) ?_
  obtain ⟨r77, hx, h⟩ := obind h
  refine obk (m26 hx) ?_
  obtain ⟨r79, hx, h⟩ := obind h
  refine obk (m16 hx) ?_
  obtain ⟨r81, hx, h⟩ := obind h
  refine obk (m30 hx) ?_
  obtain ⟨r83, hx, h⟩ := obind h
  refine obk (m23 hx) ?_
  obtain ⟨r85, hx, h⟩ := obind h
  refine obk (m22 hx) ?_
  obtain ⟨r87, hx, h⟩ := obind h
  refine obk (m33 hx) ?_
  obtain ⟨r89, hx, h⟩ := obind h
  refine obk (m26 hx) ?_
  obtain ⟨r91, hx, h⟩ := obind h
  refine obk (m30 hx) ?_
  obtain ⟨r93, hx, h⟩ := obind h
  refine obk (m16 hx) ?_
  obtain ⟨r95, hx, h⟩ := obind h
  refine obk (m30 hx) ?_
  obtain ⟨r97, hx, h⟩ := obind h
  refine obk (m23 hx) ?_
  obtain ⟨r99, hx, h⟩ := obind h
  refine obk (m16 hx) ?_
  obtain ⟨r101, hx, h⟩ := obind h
  refine obk (m30 hx) ?_
  obtain ⟨r103, hx, h⟩ := obind h
  refine obk (m23 hx) ?_
  obtain ⟨r105, hx, h⟩ := obind h
  refine obk (m22 hx) ?_
  obtain ⟨r107, hx, h⟩ := obind h
  refine obk (m22 hx) ?_
  obtain ⟨r109, hx, h⟩ := obind h
  refine obk (m22 hx) ?_
  obtain ⟨r111, hx, h⟩ := obind h
  refine obk (m33 hx) ?_
  obtain ⟨r113, hx, h⟩ := obind h
  refine obk (m26 hx) ?_
  obtain ⟨r115, hx, h⟩ := obind h
  refine obk (m26 hx) ?_
  obtain ⟨r117, hx, h⟩ := obind h
  refine obk (m22 hx) ?_
  obtain ⟨r119, hx, h⟩ := obind h
  refine obk (m22 hx) ?_
  obtain ⟨r121, hx, h⟩ := obind h
  refine obk (m29 hx) ?_
  obtain ⟨r123, hx, h⟩ := obind h
  refine obk (m26 hx) ?_
  obtain ⟨r125, hx, h⟩ := obind h
  refine obk (m16 hx) ?_
  obtain ⟨r127, hx, h⟩ := obind h
  refine obk (m30 hx) ?_
  obtain ⟨r129, hx, h⟩ := obind h
  refine obk (m16 hx) ?_
  obtain ⟨r131, hx, h⟩ := obind h
  refine obk (m23 hx) ?_
  obtain ⟨r133, hx, h⟩ := obind h
  refine obk (m22 hx) ?_
  obtain ⟨r135, hx, h⟩ := obind h
  refine obk (m33 hx) ?_
  obtain ⟨r137, hx, h⟩ := obind h
  refine obk (m26 hx) ?_
  obtain ⟨r139, hx, h⟩ := obind h
  refine obk (m30 hx) ?_
  obtain ⟨r141, hx, h⟩ := obind h
  refine obk (m16 hx) ?_
  obtain ⟨r143, hx, h⟩ := obind h
  refine obk (m30 hx) ?_
  obtain ⟨r145, hx, h⟩ := obind h
  refine obk (m30 hx) ?_
  obtain ⟨r147, hx, h⟩ := obind h
  refine obk (m23 hx) ?_
  obtain ⟨r149, hx, h⟩ := obind h
  refine obk (m16 hx) ?_
  obtain ⟨r151, hx, h⟩ := obind h
  refine obk (m30 hx) ?_
  obtain ⟨r153, hx, h⟩ := obind h
  refine obk (m16 hx) ?_
  obtain ⟨r155, hx, h⟩ := obind h
  refine obk (m30 hx) ?_
  obtain ⟨r157, hx, h⟩ := obind h
  refine obk (m23 hx) ?_
  obtain ⟨r159, hx, h⟩ := obind h
  refine obk (m23 hx) ?_
  obtain ⟨r161, hx, h⟩ := obind h
  refine obk (m22 hx) ?_
  obtain ⟨r163, hx, h⟩ := obind h
  refine obk (m22 hx) ?_
  obtain ⟨r165, hx, h⟩ := obind h
  refine obk (m22 hx) ?_
  obtain ⟨r167, hx, h⟩ := obind h
  refine obk (m22 hx) ?_
  obtain ⟨r169, hx, h⟩ := obind h
  refine obk (m33 hx) ?_
  obtain ⟨r171, hx, h⟩ := obind h
  refine obk (m26 hx) ?_
  obtain ⟨r173, hx, h⟩ := obind h
  refine obk (m30 hx) ?_
  obtain ⟨r175, hx, h⟩ := obind h
  refine obk (m30 hx) ?_
  obtain ⟨r177, hx, h⟩ := obind h
  refine obk (m26 hx) ?_
  obtain ⟨r179, hx, h⟩ := obind h
  refine obk (m22 hx) ?_
  obtain ⟨r181, hx, h⟩ := obind h
  refine obk (m22 hx) ?_
  obtain ⟨r183, hx, h⟩ := obind h
  refine obk (m22 hx) ?_
  obtain ⟨r185, hx, h⟩ := obind h
  refine obk (m29 hx) ?_
  obtain ⟨r187, hx, h⟩ := obind h
  refine obk (m26 hx) ?_
  obtain ⟨r189, hx, h⟩ := obind h
  refine obk (m30 hx) ?_
  obtain ⟨r191, hx, h⟩ := obind h
  refine obk (m16 hx) ?_
  obtain ⟨r193, hx, h⟩ := obind h
  refine obk (m30 hx) ?_
  obtain ⟨r195, hx, h⟩ := obind h
  refine obk (m30 hx) ?_
  obtain ⟨r197, hx, h⟩ := obind h
  refine obk (m30 hx) ?_
  obtain ⟨r199, hx, h⟩ := obind h
  refine obk (m23 hx) ?_
  obtain ⟨r201, hx, h⟩ := obind h
  refine obk (m22 hx) ?_
  obtain ⟨r203, hx, h⟩ := obind h
  refine obk (m22 hx) ?_
  obtain ⟨r205, hx, h⟩ := obind h
  refine obk (m33 hx) ?_
  obtain ⟨r207, hx, h⟩ := obind h
  refine obk (m26 hx) ?_
  obtain ⟨r209, hx, h⟩ := obind h
  refine obk (m26 hx) ?_
  obtain ⟨r211, hx, h⟩ := obind h
  refine obk (m30 hx) ?_
  obtain ⟨r213, hx, h⟩ := obind h
  refine obk (m30 hx) ?_
  obtain ⟨r215, hx, h⟩ := obind h
  refine obk (m16 hx) ?_
  obtain ⟨r217, hx, h⟩ := obind h
  refine obk (m30 hx) ?_
  obtain ⟨r219, hx, h⟩ := obind h
  refine obk (m30 hx) ?_
  obtain ⟨r221, hx, h⟩ := obind h
  refine obk (m23 hx) ?_
  obtain ⟨r223, hx, h⟩ := obind h
  refine obk (m22 hx) ?_
  obtain ⟨r225, hx, h⟩ := obind h
  refine obk (m22 hx) ?_
  obtain ⟨r227, hx, h⟩ := obind h
  refine obk (m22 hx) ?_
  obtain ⟨r229, hx, h⟩ := obind h
  refine obk (m22 hx) ?_
  obtain ⟨r231, hx, h⟩ := obind h
  refine obk (m33 hx) ?_
  obtain ⟨r233, hx, h⟩ := obind h
  refine obk (m26 hx) ?_
  obtain ⟨r235, hx, h⟩ := obind h
  refine obk (m26 hx) ?_
  obtain ⟨r237, hx, h⟩ := obind h
  refine obk (m30 hx) ?_
  obtain ⟨r239, hx, h⟩ := obind h
  refine obk (m22 hx) ?_
  obtain ⟨r241, hx, h⟩ := obind h
  refine obk (m22 hx) ?_
  obtain ⟨r243, hx, h⟩ := obind h
  refine obk (m22 hx) ?_
  obtain ⟨r245, hx, h⟩ := obind h
  refine obk (m34 hx) ?_
  obtain ⟨r247, hx, h⟩ := obind h
  refine obk (m26 hx) ?_
  obtain ⟨r249, hx, h⟩ := obind h
  refine obk (m26 hx) ?_
  obtain ⟨r251, hx, h⟩ := obind h
  refine obk (m30 hx) ?_
  obtain ⟨r253, hx, h⟩ := obind h
  refine obk (m22 hx) ?_
  obtain ⟨r255, hx, h⟩ := obind h
  refine obk (m22 hx) ?_
  obtain ⟨r257, hx, h⟩ := obind h
  refine obk (m22 hx) ?_
  obtain ⟨r259, hx, h⟩ := obind h
  refine obk (m34 hx) ?_
  obtain ⟨r261, hx, h⟩ := obind h
  refine obk (m26 hx) ?_
  obtain ⟨r263, hx, h⟩ := obind h
  refine obk (m29 hx) ?_
  obtain ⟨r265, hx, h⟩ := obind h
  refine obk (m16 hx) ?_
  obtain ⟨r267, hx, h⟩ := obind h
  refine obk (m33 hx) ?_
  obtain ⟨r269, hx, h⟩ := obind h
  refine obk (m16 hx) ?_
  obtain ⟨r271, hx, h⟩ := obind h
  refine obk (m22 hx) ?_
  obtain ⟨r273, hx, h⟩ := obind h
  refine obk (m16 hx) ?_
  obtain ⟨r275, hx, h⟩ := obind h
  refine obk (m22 hx) ?_
  obtain ⟨r277, hx, h⟩ := obind h
  refine obk (m33 hx) ?_
  obtain ⟨r279, hx, h⟩ := obind h
  refine obk (m22 hx) ?_
  obtain ⟨r281, hx, h⟩ := obind h
  refine obk (m22 hx) ?_
  obtain ⟨r283, hx, h⟩ := obind h
  refine obk (m26 hx) ?_
  obtain ⟨r285, hx, h⟩ := obind h
  refine obk (m30 hx) ?_
  obtain ⟨r287, hx, h⟩ := obind h
  refine obk (m30 hx) ?_
  obtain ⟨r289, hx, h⟩ := obind h
  refine obk (m22 hx) ?_
  obtain ⟨r291, hx, h⟩ := obind h
  refine obk (m22 hx) ?_
  obtain ⟨r293, hx, h⟩ := obind h
  refine obk (m26 hx) ?_
  obtain ⟨r295, hx, h⟩ := obind h
  refine obk (m30 hx) ?_
  obtain ⟨r297, hx, h⟩ := obind h
  refine obk (m30 hx) ?_
  obtain ⟨r299, hx, h⟩ := obind h
  refine obk (m31 hx) ?_
  obtain ⟨r301, hx, h⟩ := obind h
  refine obk (m31 hx) ?_
  exact h

end Go.Proofs.YtlbmblbeccafcaaGreat

namespace Go.Proofs.YtlbmblbeccafcaaGreat
open Go Go.Ab

/- scholium/scholiumlaw27.awake -/
def e8 (qq : Nat)  : Option (Bool) :=
  (e9 qq) >>= fun r1 =>
  (e11 qq r1) >>= fun r3 =>
  (e12 qq 100) >>= fun r5 =>
  (e14 qq) >>= fun r7 =>
  (e16 qq 1) >>= fun r9 =>
  (e13 qq (Mach.mk r3.2.1 r3.2.2.2.2.1 r3.2.2.2.2.2 r3.2.2.1 r3.2.2.2.1) r7 [r9] r5.2.1 r5.2.2) >>= fun r11 =>
  if (r11.2.1 == 0) = true then
    if r11.1.yes_ = true then
      if (r11.1.row_ == 3) = true then
        if ((List.length r11.1.binds_ : Int) == 1) = true then
          (gidx r11.1.binds_ 0) >>= fun x17 =>
          some (x17.n == 1)
        else
          none
      else
        none
    else
      none
  else
    none
theorem q8 : Tryz.prog.funcs[8]? = some Tryz.f8 ∧ Tryz.f8.body.isNone = false := ⟨Tryz.func8, by kernel_rfl⟩
theorem k8  {r : Bool} (h : CTri Tryz.prog 8 [] [] (ab r) [] 0) : CT Tryz.prog 8 [] [] (ab r) [] 0 := ⟨h, trivial, forall_nil, trivial, forall_nil⟩
theorem c8 {qq : Nat}  {r : Bool} (h : e8 qq  = some r) : CT Tryz.prog 8 [] [] (ab r) [] 0 := by
  unfold e8 at h
  obtain ⟨r1, h2, h⟩ := obind h
  obtain ⟨r3, h4, h⟩ := obind h
  obtain ⟨r5, h6, h⟩ := obind h
  obtain ⟨r7, h8, h⟩ := obind h
  obtain ⟨r9, h10, h⟩ := obind h
  obtain ⟨r11, h12, h⟩ := obind h
  have k := oC 0 [0, 1, 2] (c13 h12) <| oS 0 (obLitR tm_eq [r9]) <| oC 0 [] (c16 h10) <| oC 2 [] (c14 h8) <| oC 2 [] (c12 h6) <| oC 0 [] (c11 h4) <| oC 0 [] (c9 h2) o0
  obtain ⟨h13, h⟩ := splT h
  have k := oB 3 h13 k
  obtain ⟨h14, h⟩ := splT h
  have k := oB 0 h14 k
  obtain ⟨h15, h⟩ := splT h
  have k := oB 1 h15 k
  obtain ⟨h16, h⟩ := splT h
  obtain ⟨x17, h18, h⟩ := obind h
  obtain rfl := sj h
  exact k8 (tF q8 2 [] (oA 1 (ix22 (o := .no) h18) <| oB 2 h16 k) (by kernel_rfl))
theorem m8 {qq : Nat}  {r : Bool} (h : e8 qq  = some r) : e8 (qq + 1)  = some r := by
  unfold e8 at h ⊢
  obtain ⟨r1, hx, h⟩ := obind h
  refine obk (m9 hx) ?_
  obtain ⟨r3, hx, h⟩ := obind h
  refine obk (m11 hx) ?_
  obtain ⟨r5, hx, h⟩ := obind h
  refine obk (m12 hx) ?_
  obtain ⟨r7, hx, h⟩ := obind h
  refine obk (m14 hx) ?_
  obtain ⟨r9, hx, h⟩ := obind h
  refine obk (m16 hx) ?_
  obtain ⟨r11, hx, h⟩ := obind h
  refine obk (m13 hx) ?_
  obtain ⟨k, h⟩ := splT h
  rw [ifTe k]
  obtain ⟨k, h⟩ := splT h
  rw [ifTe k]
  obtain ⟨k, h⟩ := splT h
  rw [ifTe k]
  obtain ⟨k, h⟩ := splT h
  rw [ifTe k]
  obtain ⟨x17, hx, h⟩ := obind h
  refine obk hx ?_
  exact h

end Go.Proofs.YtlbmblbeccafcaaGreat

namespace Go.Proofs.YtlbmblbeccafcaaGreat
open Go Go.Ab

/- scholium/scholiumlaw27.LeafNone -/
def e3L56199 : Nat → Int → Int → (List Tm) → (List Ent) → Int →  Option (Bool)
  | 0, _, _, _, _, _ => none
  | qq + 1, p0, p1, p2, r7, v8 =>
    if decide (v8 < (List.length p2 : Int)) = true then
      (gidx p2 v8) >>= fun x10 =>
      (e10 qq x10 (List.length r7 : Int)) >>= fun r12 =>
      if r12 = true then
        e3L56199 qq p0 p1 p2 r7 (w64 (v8 + 1))
      else
        (e8 qq) >>= fun r15 =>
        some r15
    else
      (e11 qq r7) >>= fun r17 =>
      (e12 qq 300) >>= fun r19 =>
      if (p0 != 1) = true then
        (e13 qq (Mach.mk r17.2.1 r17.2.2.2.2.1 r17.2.2.2.2.2 r17.2.2.1 r17.2.2.2.1) (CoverTree.mk p0 p1 (w64 (99 + (List.length p2 : Int))) [] [] [] []) p2 r19.2.1 r19.2.2) >>= fun r22 =>
        if (r22.2.1 != 0) = true then
          none
        else
          if r22.1.yes_ = true then
            none
          else
            if (r22.1.row_ != 0) = true then
              none
            else
              if ((List.length r22.1.path_ : Int) != 0) = true then
                none
              else
                (e14 qq) >>= fun r28 =>
                (e13va15441 qq r28 p2 r22.2.2.1 r22.2.2.2) >>= fun r30 =>
                if (r30.2 == 5) = true then
                  (e8 qq) >>= fun r33 =>
                  some r33
                else
                  none
      else
        (e14 qq) >>= fun r35 =>
        (e13va15441 qq r35 p2 r19.2.1 r19.2.2) >>= fun r37 =>
        if (r37.2 == 5) = true then
          (e8 qq) >>= fun r40 =>
          some r40
        else
          none
def e3 (qq : Nat) (p0 : Int) (p1 : Int) (p2 : List Tm) : Option (Bool) :=
  (e7 qq p2) >>= fun r1 =>
  if r1 = true then
    if decide ((List.length p2 : Int) > 24) = true then
      (e8 qq) >>= fun r5 =>
      some r5
    else
      (e9 qq) >>= fun r7 =>
      e3L56199 qq p0 p1 p2 r7 0
  else
    (e8 qq) >>= fun r9 =>
    some r9
def g3L56199E0 (j : Nat → Value) (p0 : Int) (p1 : Int) (p2 : List Tm) (r7 : List Ent) (v8 : Int) : List AV := sp j 95 0 [(0, ai p0), (1, ai p1), (2, .sl (flat tmCells p2) (List.length p2) .no), (7, .sl (flat entL r7) (List.length r7) .no), (8, ai v8)]
def g3L56199S0 (p0 : Int) (p1 : Int) (p2 : List Tm) (r7 : List Ent) (v8 : Int) : LSt := ⟨[], 0, [], 0, []⟩
theorem q3 : Tryz.prog.funcs[3]? = some Tryz.f3 ∧ Tryz.f3.body.isNone = false := ⟨Tryz.func3, by kernel_rfl⟩
theorem k3 {p0 : Int} {p1 : Int} {p2 : List Tm} {r : Bool} (h : CTri Tryz.prog 3 [] [ai p0, ai p1, .sl (flat tmCells p2) (List.length p2) .no] (ab r) [] 0) : CT Tryz.prog 3 [] [ai p0, ai p1, .sl (flat tmCells p2) (List.length p2) .no] (ab r) [] 0 := ⟨h, ⟨trivial, trivial, ⟨trivial, dT _⟩, trivial⟩, forall_nil, trivial, forall_nil⟩
theorem l3L56199 : ∀ qq : Nat, (∀ (p0 : Int) (p1 : Int) (p2 : List Tm) (r7 : List Ent) (v8 : Int) (r : Bool), e3L56199 qq p0 p1 p2 r7 v8 = some r → (∀ j, Dl Tryz.prog 0 (inn (inn (rgt (lft (rgt (rgt (rgt (bod Tryz.f3)))))))) (g3L56199E0 j p0 p1 p2 r7 v8) (g3L56199S0 p0 p1 p2 r7 v8) (frameQ Tryz.prog 0 (FinQ Tryz.prog 0 Tryz.f3 (ab r) [] 0) [.blk 0, .seq (rgt (rgt (rgt (rgt (bod Tryz.f3)))))]))) := by
  intro qq
  induction qq with
  | zero =>
    exact fun _ _ _ _ _ _ h => nn h
  | succ qq ih =>
    intro p0 p1 p2 r7 v8 r h
    rw [e3L56199] at h
    rcases spl h with ⟨h9, h⟩ | ⟨h9, h⟩
    · obtain ⟨x10, h11, h⟩ := obind h
      obtain ⟨r12, h13, h⟩ := obind h
      have k := oA 0 (ix22 (o := .no) h11) <| oB 1 h9 o0
      rcases spl h with ⟨h14, h⟩ | ⟨h14, h⟩
      · exact fun j => lH 2 [] [] [] [0, 1, 2, 7, 8] (oD (dE r7) <| oD (dT p2) <| oK 2 [] h14 (c10 h13) k) (ih _ _ _ _ _ _ h) (fun j => by kernel_rfl)
      · obtain ⟨r15, h16, h⟩ := obind h
        obtain rfl := sj h
        exact fun j => lF 0 [] (oC 1 [] (c8 h16) <| oK 2 [] h14 (c10 h13) k) (by kernel_rfl)
    · obtain ⟨r17, h18, h⟩ := obind h
      obtain ⟨r19, h20, h⟩ := obind h
      have k := oC 2 [] (c12 h20) <| oC 0 [] (c11 h18) <| oB 1 h9 o0
      rcases spl h with ⟨h21, h⟩ | ⟨h21, h⟩
      · obtain ⟨r22, h23, h⟩ := obind h
        have k := oC 2 [0, 1, 2] (c13 h23) <| oB 2 h21 k
        obtain ⟨h24, h⟩ := splF h
        have k := oB 3 h24 k
        obtain ⟨h25, h⟩ := splF h
        have k := oB 0 h25 k
        obtain ⟨h26, h⟩ := splF h
        have k := oB 1 h26 k
        obtain ⟨h27, h⟩ := splF h
        obtain ⟨r28, h29, h⟩ := obind h
        obtain ⟨r30, h31, h⟩ := obind h
        have k := oC 0 [2] (c13va15441 h31) <| oC 0 [] (c14 h29) <| oB 2 h27 k
        obtain ⟨h32, h⟩ := splT h
        obtain ⟨r33, h34, h⟩ := obind h
        obtain rfl := sj h
        exact fun j => lF 0 [] (oC 0 [] (c8 h34) <| oB 3 h32 k) (by kernel_rfl)
      · obtain ⟨r35, h36, h⟩ := obind h
        obtain ⟨r37, h38, h⟩ := obind h
        have k := oC 0 [2] (c13va15441 h38) <| oC 0 [] (c14 h36) <| oB 2 h21 k
        obtain ⟨h39, h⟩ := splT h
        obtain ⟨r40, h41, h⟩ := obind h
        obtain rfl := sj h
        exact fun j => lF 0 [] (oC 0 [] (c8 h41) <| oB 3 h39 k) (by kernel_rfl)
theorem c3 {qq : Nat} {p0 : Int} {p1 : Int} {p2 : List Tm} {r : Bool} (h : e3 qq p0 p1 p2 = some r) : CT Tryz.prog 3 [] [ai p0, ai p1, .sl (flat tmCells p2) (List.length p2) .no] (ab r) [] 0 := by
  unfold e3 at h
  obtain ⟨r1, h2, h⟩ := obind h
  rcases spl h with ⟨h3, h⟩ | ⟨h3, h⟩
  · have k := oK 0 [] h3 (c7 h2) o0
    rcases spl h with ⟨h4, h⟩ | ⟨h4, h⟩
    · obtain ⟨r5, h6, h⟩ := obind h
      obtain rfl := sj h
      exact k3 (tF q3 0 [] (oC 0 [] (c8 h6) <| oB 2 h4 k) (by kernel_rfl))
    · obtain ⟨r7, h8, h⟩ := obind h
      exact k3 (tH q3 0 [] [] [] [0, 1, 2, 7, 8] (oD (dE r7) <| oD (dT p2) <| oC 0 [] (c9 h8) <| oB 2 h4 k) (l3L56199 _ _ _ _ _ _ _ h) (fun j => by kernel_rfl))
  · obtain ⟨r9, h10, h⟩ := obind h
    obtain rfl := sj h
    exact k3 (tF q3 0 [] (oC 1 [] (c8 h10) <| oK 0 [] h3 (c7 h2) o0) (by kernel_rfl))
theorem mm3L56199 : ∀ qq : Nat, (∀ (p0 : Int) (p1 : Int) (p2 : List Tm) (r7 : List Ent) (v8 : Int) (r : Bool), e3L56199 qq p0 p1 p2 r7 v8 = some r → e3L56199 (qq + 1) p0 p1 p2 r7 v8 = some r) := by
  intro qq
  induction qq with
  | zero => exact fun _ _ _ _ _ _ h => nn h
  | succ qq ih =>
    have ih3L56199 := ih
    intro p0 p1 p2 r7 v8 r h
    rw [e3L56199] at h ⊢
    rcases spl h with ⟨k, h⟩ | ⟨k, h⟩
    · rw [ifTe k]
      obtain ⟨x10, hx, h⟩ := obind h
      refine obk hx ?_
      obtain ⟨r12, hx, h⟩ := obind h
      refine obk (m10 hx) ?_
      rcases spl h with ⟨k, h⟩ | ⟨k, h⟩
      · rw [ifTe k]
        exact ih3L56199 _ _ _ _ _ _ h
      · rw [ifFe k]
        obtain ⟨r15, hx, h⟩ := obind h
        refine obk (m8 hx) ?_
        exact h
    · rw [ifFe k]
      obtain ⟨r17, hx, h⟩ := obind h
      refine obk (m11 hx) ?_
      obtain ⟨r19, hx, h⟩ := obind h
      refine obk (m12 hx) ?_
      rcases spl h with ⟨k, h⟩ | ⟨k, h⟩
      · rw [ifTe k]
        obtain ⟨r22, hx, h⟩ := obind h
        refine obk (m13 hx) ?_
        obtain ⟨k, h⟩ := splF h
        rw [ifFe k]
        obtain ⟨k, h⟩ := splF h
        rw [ifFe k]
        obtain ⟨k, h⟩ := splF h
        rw [ifFe k]
        obtain ⟨k, h⟩ := splF h
        rw [ifFe k]
        obtain ⟨r28, hx, h⟩ := obind h
        refine obk (m14 hx) ?_
        obtain ⟨r30, hx, h⟩ := obind h
        refine obk (m13va15441 hx) ?_
        obtain ⟨k, h⟩ := splT h
        rw [ifTe k]
        obtain ⟨r33, hx, h⟩ := obind h
        refine obk (m8 hx) ?_
        exact h
      · rw [ifFe k]
        obtain ⟨r35, hx, h⟩ := obind h
        refine obk (m14 hx) ?_
        obtain ⟨r37, hx, h⟩ := obind h
        refine obk (m13va15441 hx) ?_
        obtain ⟨k, h⟩ := splT h
        rw [ifTe k]
        obtain ⟨r40, hx, h⟩ := obind h
        refine obk (m8 hx) ?_
        exact h
theorem m3L56199 {qq : Nat} {p0 : Int} {p1 : Int} {p2 : List Tm} {r7 : List Ent} {v8 : Int} {r : Bool} (h : e3L56199 qq p0 p1 p2 r7 v8 = some r) : e3L56199 (qq + 1) p0 p1 p2 r7 v8 = some r := mm3L56199 _ _ _ _ _ _ _ h
theorem m3 {qq : Nat} {p0 : Int} {p1 : Int} {p2 : List Tm} {r : Bool} (h : e3 qq p0 p1 p2 = some r) : e3 (qq + 1) p0 p1 p2 = some r := by
  unfold e3 at h ⊢
  obtain ⟨r1, hx, h⟩ := obind h
  refine obk (m7 hx) ?_
  rcases spl h with ⟨k, h⟩ | ⟨k, h⟩
  · rw [ifTe k]
    rcases spl h with ⟨k, h⟩ | ⟨k, h⟩
    · rw [ifTe k]
      obtain ⟨r5, hx, h⟩ := obind h
      refine obk (m8 hx) ?_
      exact h
    · rw [ifFe k]
      obtain ⟨r7, hx, h⟩ := obind h
      refine obk (m9 hx) ?_
      exact m3L56199 h
  · rw [ifFe k]
    obtain ⟨r9, hx, h⟩ := obind h
    refine obk (m8 hx) ?_
    exact h

end Go.Proofs.YtlbmblbeccafcaaGreat
