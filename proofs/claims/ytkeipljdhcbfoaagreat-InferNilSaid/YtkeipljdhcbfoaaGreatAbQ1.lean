/- What the functions come to: printed by wip/tools/gen.py. -/
import Derived.Test.YtkeipljdhcbfoaaGreatAbSt2
set_option linter.unusedVariables false
set_option linter.unusedSimpArgs false
namespace Go.Proofs.YtkeipljdhcbfoaaGreat
open Go Go.Ab

/- scholium/term.size -/
mutual
def g243 (p0 : Tm) (p1 : Int) : Option (Int) :=
  g243L0 p0 (w64 (p1 + 1)) 0
 partial_fixpoint
def g243L0 (p0 : Tm) (v1 : Int) (v12 : Int) : Option (Int) :=
  if decide (v12 < (List.length p0.sub : Int)) = true then
    (gidx p0.sub v12) >>= fun x2 =>
    if decide (v1 > 8192) = true then
      some v1
    else
      (g243 x2 v1) >>= fun r5 =>
      g243L0 p0 r5 (w64 (v12 + 1))
  else
    some v1
 partial_fixpoint
end
def g243L0E0 (j : Nat → Value) (p0 : Tm) (v1 : Int) (v12 : Int) : List AV := [.val (j 0), ai v1, .val (j 2), .val (j 3), .val (j 4), .val (j 5), .val (j 6), .val (j 7), .val (j 8), .val (j 9), .sl (flat tmCells p0.sub) (List.length p0.sub) .no, ai (List.length p0.sub : Int), ai v12, .val (j 13), .val (j 14), .val (j 15), .val (j 16), .val (j 17), .val (j 18), .val (j 19), .val (j 20), .val (j 21), .val (j 22)]
def g243L0S0 (p0 : Tm) (v1 : Int) (v12 : Int) : LSt := ⟨[], 0, [], 0, []⟩
theorem a243_243L0  : (∀ (p0 : Tm) (p1 : Int) (r : Int), g243 p0 p1 = some r → CT Tryz.prog 243 [] [tmA p0, ai p1] (ai r) [] 0) ∧ (∀ (p0 : Tm) (v1 : Int) (v12 : Int) (r : Int), g243L0 p0 v1 v12 = some r → (∀ j, Dl Tryz.prog 0 (inn (inn (rgt (lft (rgt (rgt (bod Tryz.f243))))))) (g243L0E0 j p0 v1 v12) (g243L0S0 p0 v1 v12) (frameQ Tryz.prog 0 (FinQ Tryz.prog 0 Tryz.f243 (ai r) [] 0) [.blk 0, .seq (rgt (rgt (rgt (bod Tryz.f243))))]))) := by
  refine g243.mutual_partial_correctness  (fun p0 p1 r => CT Tryz.prog 243 [] [tmA p0, ai p1] (ai r) [] 0) (fun p0 v1 v12 r => (∀ j, Dl Tryz.prog 0 (inn (inn (rgt (lft (rgt (rgt (bod Tryz.f243))))))) (g243L0E0 j p0 v1 v12) (g243L0S0 p0 v1 v12) (frameQ Tryz.prog 0 (FinQ Tryz.prog 0 Tryz.f243 (ai r) [] 0) [.blk 0, .seq (rgt (rgt (rgt (bod Tryz.f243))))]))) ?_ ?_
  · intro g243L0 ihg243L0 p0 p1 r h
    exact ⟨CTri.toHead prim_ok mixed Tryz.func243 (by kernel_rfl) 3000 [.no, .no, .no] [] [] [] [1, 10, 11, 12] (E := fun j => g243L0E0 j p0 (w64 (p1 + 1)) 0) (S := g243L0S0 p0 (w64 (p1 + 1)) 0) (fun j => by kernel_rfl) (ObsOk.cons (obData (dT p0.sub)) ObsOk.nil) (ihg243L0 _ _ _ _ h), ⟨⟨trivial, trivial, ⟨trivial, dT _⟩, trivial⟩, trivial, trivial⟩, (fun _ h => nomatch h), trivial, (fun _ h => nomatch h)⟩
  · intro g243 g243L0 ih243 ihg243L0 p0 v1 v12 r h
    rcases bcases (decide (v12 < (List.length p0.sub : Int))) with h1 | h1
    · replace h := ifT h1 h
      obtain ⟨x2, h3, h⟩ := obind h
      rcases bcases (decide (v1 > 8192)) with h4 | h4
      · replace h := ifT h4 h
        replace h := Option.some.inj h
        subst h
        exact fun j => Dl.toFin prim_ok mixed 3000 [.bit true, .av (.ip (tmL x2 ++ flat tmCells (List.drop (Int.toNat v12 + 1) p0.sub))), .no, .no, .bit true] [] [] [] false (by kernel_rfl) (ObsOk.cons (obBit h1) (ObsOk.cons (obAv (ix22 (o := .no) h3)) (ObsOk.cons (obBit h4) ObsOk.nil))) (by decide)
      · replace h := ifF h4 h
        obtain ⟨r5, h6, h⟩ := obind h
        exact fun j => Dl.toHead prim_ok mixed 3000 [.bit true, .av (.ip (tmL x2 ++ flat tmCells (List.drop (Int.toNat v12 + 1) p0.sub))), .no, .no, .bit false, .no, .call [] [] 0 (ai r5) none, .no] [] [] [] [1, 10, 11, 12] (E := fun j => g243L0E0 j p0 r5 (w64 (v12 + 1))) (S := g243L0S0 p0 r5 (w64 (v12 + 1))) (fun j => by kernel_rfl) (ObsOk.cons (obBit h1) (ObsOk.cons (obAv (ix22 (o := .no) h3)) (ObsOk.cons (obBit h4) (ObsOk.cons (obCall (ih243 _ _ _ h6)) (ObsOk.cons (obData (dT p0.sub)) ObsOk.nil))))) (ihg243L0 _ _ _ _ h)
    · replace h := ifF h1 h
      replace h := Option.some.inj h
      subst h
      exact fun j => Dl.toFin prim_ok mixed 3000 [.bit false] [] [] [] false (by kernel_rfl) (ObsOk.cons (obBit h1) ObsOk.nil) (by decide)
theorem c243 {p0 : Tm} {p1 : Int} {r : Int} (h : g243 p0 p1 = some r) : CT Tryz.prog 243 [] [tmA p0, ai p1] (ai r) [] 0 := (a243_243L0 ).1 _ _ _ h
theorem l243L0 {p0 : Tm} {v1 : Int} {v12 : Int} {r : Int} (h : g243L0 p0 v1 v12 = some r) : (∀ j, Dl Tryz.prog 0 (inn (inn (rgt (lft (rgt (rgt (bod Tryz.f243))))))) (g243L0E0 j p0 v1 v12) (g243L0S0 p0 v1 v12) (frameQ Tryz.prog 0 (FinQ Tryz.prog 0 Tryz.f243 (ai r) [] 0) [.blk 0, .seq (rgt (rgt (rgt (bod Tryz.f243))))])) := (a243_243L0 ).2 _ _ _ _ h

/- scholium/term.Size -/
def g194 (p0 : Tm) : Option (Int) :=
  (g243 p0 0) >>= fun r1 =>
  some r1
theorem c194 {p0 : Tm} {r : Int} (h : g194 p0 = some r) : CT Tryz.prog 194 [] [tmA p0] (ai r) [] 0 := by
  unfold g194 at h
  obtain ⟨r1, h2, h⟩ := obind h
  replace h := Option.some.inj h
  subst h
  exact ⟨CTri.toFin prim_ok mixed Tryz.func194 (by kernel_rfl) 3000 [.no, .call [] [] 0 (ai r1) none] [] [] [] false (by kernel_rfl) (ObsOk.cons (obCall (c243 h2)) ObsOk.nil) (by decide), ⟨⟨trivial, trivial, ⟨trivial, dT _⟩, trivial⟩, trivial⟩, (fun _ h => nomatch h), trivial, (fun _ h => nomatch h)⟩

/- scholium/term.deep -/
mutual
def g195 (p0 : Tm) (p1 : Int) : Option (Int) :=
  if decide (p1 > 128) = true then
    some p1
  else
    g195L0 p0 p1 0 p1
 partial_fixpoint
def g195L0 (p0 : Tm) (p1 : Int) (v15 : Int) (v5 : Int) : Option (Int) :=
  if decide (v15 < (List.length p0.sub : Int)) = true then
    (gidx p0.sub v15) >>= fun x3 =>
    (g195 x3 (w64 (p1 + 1))) >>= fun r5 =>
    g195L0 p0 p1 (w64 (v15 + 1)) (imax v5 r5)
  else
    some v5
 partial_fixpoint
end
def g195L0E0 (j : Nat → Value) (p0 : Tm) (p1 : Int) (v15 : Int) (v5 : Int) : List AV := [.val (j 0), ai p1, .val (j 2), .val (j 3), .val (j 4), ai v5, .val (j 6), .val (j 7), .val (j 8), .val (j 9), .val (j 10), .val (j 11), .val (j 12), .sl (flat tmCells p0.sub) (List.length p0.sub) .no, ai (List.length p0.sub : Int), ai v15, .val (j 16), .val (j 17), .val (j 18), .val (j 19), .val (j 20), .val (j 21), .val (j 22), .val (j 23), .val (j 24), .val (j 25), .val (j 26)]
def g195L0S0 (p0 : Tm) (p1 : Int) (v15 : Int) (v5 : Int) : LSt := ⟨[], 0, [], 0, []⟩
theorem a195_195L0  : (∀ (p0 : Tm) (p1 : Int) (r : Int), g195 p0 p1 = some r → CT Tryz.prog 195 [] [tmA p0, ai p1] (ai r) [] 0) ∧ (∀ (p0 : Tm) (p1 : Int) (v15 : Int) (v5 : Int) (r : Int), g195L0 p0 p1 v15 v5 = some r → (∀ j, Dl Tryz.prog 0 (inn (inn (rgt (lft (rgt (rgt (rgt (bod Tryz.f195)))))))) (g195L0E0 j p0 p1 v15 v5) (g195L0S0 p0 p1 v15 v5) (frameQ Tryz.prog 0 (FinQ Tryz.prog 0 Tryz.f195 (ai r) [] 0) [.blk 0, .seq (rgt (rgt (rgt (rgt (bod Tryz.f195)))))]))) := by
  refine g195.mutual_partial_correctness  (fun p0 p1 r => CT Tryz.prog 195 [] [tmA p0, ai p1] (ai r) [] 0) (fun p0 p1 v15 v5 r => (∀ j, Dl Tryz.prog 0 (inn (inn (rgt (lft (rgt (rgt (rgt (bod Tryz.f195)))))))) (g195L0E0 j p0 p1 v15 v5) (g195L0S0 p0 p1 v15 v5) (frameQ Tryz.prog 0 (FinQ Tryz.prog 0 Tryz.f195 (ai r) [] 0) [.blk 0, .seq (rgt (rgt (rgt (rgt (bod Tryz.f195)))))]))) ?_ ?_
  · intro g195L0 ihg195L0 p0 p1 r h
    rcases bcases (decide (p1 > 128)) with h1 | h1
    · replace h := ifT h1 h
      replace h := Option.some.inj h
      subst h
      exact ⟨CTri.toFin prim_ok mixed Tryz.func195 (by kernel_rfl) 3000 [.bit true] [] [] [] false (by kernel_rfl) (ObsOk.cons (obBit h1) ObsOk.nil) (by decide), ⟨⟨trivial, trivial, ⟨trivial, dT _⟩, trivial⟩, trivial, trivial⟩, (fun _ h => nomatch h), trivial, (fun _ h => nomatch h)⟩
    · replace h := ifF h1 h
      exact ⟨CTri.toHead prim_ok mixed Tryz.func195 (by kernel_rfl) 3000 [.bit false, .no, .no] [] [] [] [1, 5, 13, 14, 15] (E := fun j => g195L0E0 j p0 p1 0 p1) (S := g195L0S0 p0 p1 0 p1) (fun j => by kernel_rfl) (ObsOk.cons (obBit h1) (ObsOk.cons (obData (dT p0.sub)) ObsOk.nil)) (ihg195L0 _ _ _ _ _ h), ⟨⟨trivial, trivial, ⟨trivial, dT _⟩, trivial⟩, trivial, trivial⟩, (fun _ h => nomatch h), trivial, (fun _ h => nomatch h)⟩
  · intro g195 g195L0 ih195 ihg195L0 p0 p1 v15 v5 r h
    rcases bcases (decide (v15 < (List.length p0.sub : Int))) with h2 | h2
    · replace h := ifT h2 h
      obtain ⟨x3, h4, h⟩ := obind h
      obtain ⟨r5, h6, h⟩ := obind h
      exact fun j => Dl.toHead prim_ok mixed 3000 [.bit true, .av (.ip (tmL x3 ++ flat tmCells (List.drop (Int.toNat v15 + 1) p0.sub))), .no, .no, .no, .no, .call [] [] 0 (ai r5) none, .no, .no] [] [] [] [1, 5, 13, 14, 15] (E := fun j => g195L0E0 j p0 p1 (w64 (v15 + 1)) (imax v5 r5)) (S := g195L0S0 p0 p1 (w64 (v15 + 1)) (imax v5 r5)) (fun j => by kernel_rfl) (ObsOk.cons (obBit h2) (ObsOk.cons (obAv (ix22 (o := .no) h4)) (ObsOk.cons (obCall (ih195 _ _ _ h6)) (ObsOk.cons (obData (dT p0.sub)) ObsOk.nil)))) (ihg195L0 _ _ _ _ _ h)
    · replace h := ifF h2 h
      replace h := Option.some.inj h
      subst h
      exact fun j => Dl.toFin prim_ok mixed 3000 [.bit false] [] [] [] false (by kernel_rfl) (ObsOk.cons (obBit h2) ObsOk.nil) (by decide)
theorem c195 {p0 : Tm} {p1 : Int} {r : Int} (h : g195 p0 p1 = some r) : CT Tryz.prog 195 [] [tmA p0, ai p1] (ai r) [] 0 := (a195_195L0 ).1 _ _ _ h
theorem l195L0 {p0 : Tm} {p1 : Int} {v15 : Int} {v5 : Int} {r : Int} (h : g195L0 p0 p1 v15 v5 = some r) : (∀ j, Dl Tryz.prog 0 (inn (inn (rgt (lft (rgt (rgt (rgt (bod Tryz.f195)))))))) (g195L0E0 j p0 p1 v15 v5) (g195L0S0 p0 p1 v15 v5) (frameQ Tryz.prog 0 (FinQ Tryz.prog 0 Tryz.f195 (ai r) [] 0) [.blk 0, .seq (rgt (rgt (rgt (rgt (bod Tryz.f195)))))])) := (a195_195L0 ).2 _ _ _ _ _ h

/- scholium/term.Depth -/
def g143 (p0 : Tm) : Option (Int) :=
  (g194 p0) >>= fun r1 =>
  if decide (r1 > 8192) = true then
    some 129
  else
    (g195 p0 1) >>= fun r4 =>
    some r4
theorem c143 {p0 : Tm} {r : Int} (h : g143 p0 = some r) : CT Tryz.prog 143 [] [tmA p0] (ai r) [] 0 := by
  unfold g143 at h
  obtain ⟨r1, h2, h⟩ := obind h
  rcases bcases (decide (r1 > 8192)) with h3 | h3
  · replace h := ifT h3 h
    replace h := Option.some.inj h
    subst h
    exact ⟨CTri.toFin prim_ok mixed Tryz.func143 (by kernel_rfl) 3000 [.no, .call [] [] 0 (ai r1) none, .bit true] [] [] [] false (by kernel_rfl) (ObsOk.cons (obCall (c194 h2)) (ObsOk.cons (obBit h3) ObsOk.nil)) (by decide), ⟨⟨trivial, trivial, ⟨trivial, dT _⟩, trivial⟩, trivial⟩, (fun _ h => nomatch h), trivial, (fun _ h => nomatch h)⟩
  · replace h := ifF h3 h
    obtain ⟨r4, h5, h⟩ := obind h
    replace h := Option.some.inj h
    subst h
    exact ⟨CTri.toFin prim_ok mixed Tryz.func143 (by kernel_rfl) 3000 [.no, .call [] [] 0 (ai r1) none, .bit false, .no, .call [] [] 0 (ai r4) none] [] [] [] false (by kernel_rfl) (ObsOk.cons (obCall (c194 h2)) (ObsOk.cons (obBit h3) (ObsOk.cons (obCall (c195 h5)) ObsOk.nil))) (by decide), ⟨⟨trivial, trivial, ⟨trivial, dT _⟩, trivial⟩, trivial⟩, (fun _ h => nomatch h), trivial, (fun _ h => nomatch h)⟩

/- scholium/term.head -/
def g196 (p0 : Tm) : Option (Bool) :=
  if decide (p0.k < 1) = true then
    some false
  else
    if decide (p0.k > 8) = true then
      some false
    else
      (gidx ([0, 0, 0, 2, 2, 2, 0, 1, 0] : List Int) p0.k) >>= fun x3 =>
      (gidx ([0, 1048576, 7, 0, 0, 0, 1048576, 1048576, 1048576] : List Int) p0.k) >>= fun x5 =>
      if ((List.length p0.sub : Int) == x3) = true then
        if decide (p0.n ≥ 0) = true then
          if decide (p0.n ≤ x5) = true then
            if (p0.k != 7) = true then
              some true
            else
              (gidx p0.sub 0) >>= fun x11 =>
              some (x11.k == 2)
          else
            some false
        else
          some false
      else
        some false
theorem c196 {p0 : Tm} {r : Bool} (h : g196 p0 = some r) : CT Tryz.prog 196 [] [tmA p0] (ab r) [] 0 := by
  unfold g196 at h
  rcases bcases (decide (p0.k < 1)) with h1 | h1
  · replace h := ifT h1 h
    replace h := Option.some.inj h
    subst h
    exact ⟨CTri.toFin prim_ok mixed Tryz.func196 (by kernel_rfl) 3000 [.no, .bit true] [] [] [] false (by kernel_rfl) (ObsOk.cons (obBit h1) ObsOk.nil) (by decide), ⟨⟨trivial, trivial, ⟨trivial, dT _⟩, trivial⟩, trivial⟩, (fun _ h => nomatch h), trivial, (fun _ h => nomatch h)⟩
  · replace h := ifF h1 h
    rcases bcases (decide (p0.k > 8)) with h2 | h2
    · replace h := ifT h2 h
      replace h := Option.some.inj h
      subst h
      exact ⟨CTri.toFin prim_ok mixed Tryz.func196 (by kernel_rfl) 3000 [.no, .bit false, .no, .bit true] [] [] [] false (by kernel_rfl) (ObsOk.cons (obBit h1) (ObsOk.cons (obBit h2) ObsOk.nil)) (by decide), ⟨⟨trivial, trivial, ⟨trivial, dT _⟩, trivial⟩, trivial⟩, (fun _ h => nomatch h), trivial, (fun _ h => nomatch h)⟩
    · replace h := ifF h2 h
      obtain ⟨x3, h4, h⟩ := obind h
      obtain ⟨x5, h6, h⟩ := obind h
      rcases bcases ((List.length p0.sub : Int) == x3) with h7 | h7
      · replace h := ifT h7 h
        rcases bcases (decide (p0.n ≥ 0)) with h8 | h8
        · replace h := ifT h8 h
          rcases bcases (decide (p0.n ≤ x5)) with h9 | h9
          · replace h := ifT h9 h
            rcases bcases (p0.k != 7) with h10 | h10
            · replace h := ifT h10 h
              replace h := Option.some.inj h
              subst h
              exact ⟨CTri.toFin prim_ok mixed Tryz.func196 (by kernel_rfl) 3000 [.no, .bit false, .no, .bit false, .no, .av (ai x3), .no, .av (ai x5), .no, .no, .bit true, .no, .bit true, .no, .bit true, .no, .bit true] [] [] [] false (by kernel_rfl) (ObsOk.cons (obBit h1) (ObsOk.cons (obBit h2) (ObsOk.cons (obAv (ixArr247 h4 rfl)) (ObsOk.cons (obAv (ixArr247 h6 rfl)) (ObsOk.cons (obBit h7) (ObsOk.cons (obBit h8) (ObsOk.cons (obBit h9) (ObsOk.cons (obBit h10) ObsOk.nil)))))))) (by decide), ⟨⟨trivial, trivial, ⟨trivial, dT _⟩, trivial⟩, trivial⟩, (fun _ h => nomatch h), trivial, (fun _ h => nomatch h)⟩
            · replace h := ifF h10 h
              obtain ⟨x11, h12, h⟩ := obind h
              replace h := Option.some.inj h
              subst h
              exact ⟨CTri.toFin prim_ok mixed Tryz.func196 (by kernel_rfl) 3000 [.no, .bit false, .no, .bit false, .no, .av (ai x3), .no, .av (ai x5), .no, .no, .bit true, .no, .bit true, .no, .bit true, .no, .bit false, .no, .av (.ip (tmL x11 ++ flat tmCells (List.drop (Int.toNat 0 + 1) p0.sub))), .no, .no] [] [] [] false (by kernel_rfl) (ObsOk.cons (obBit h1) (ObsOk.cons (obBit h2) (ObsOk.cons (obAv (ixArr247 h4 rfl)) (ObsOk.cons (obAv (ixArr247 h6 rfl)) (ObsOk.cons (obBit h7) (ObsOk.cons (obBit h8) (ObsOk.cons (obBit h9) (ObsOk.cons (obBit h10) (ObsOk.cons (obAv (ix22 (o := .no) h12)) ObsOk.nil))))))))) (by decide), ⟨⟨trivial, trivial, ⟨trivial, dT _⟩, trivial⟩, trivial⟩, (fun _ h => nomatch h), trivial, (fun _ h => nomatch h)⟩
          · replace h := ifF h9 h
            replace h := Option.some.inj h
            subst h
            exact ⟨CTri.toFin prim_ok mixed Tryz.func196 (by kernel_rfl) 3000 [.no, .bit false, .no, .bit false, .no, .av (ai x3), .no, .av (ai x5), .no, .no, .bit true, .no, .bit true, .no, .bit false] [] [] [] false (by kernel_rfl) (ObsOk.cons (obBit h1) (ObsOk.cons (obBit h2) (ObsOk.cons (obAv (ixArr247 h4 rfl)) (ObsOk.cons (obAv (ixArr247 h6 rfl)) (ObsOk.cons (obBit h7) (ObsOk.cons (obBit h8) (ObsOk.cons (obBit h9) ObsOk.nil))))))) (by decide), ⟨⟨trivial, trivial, ⟨trivial, dT _⟩, trivial⟩, trivial⟩, (fun _ h => nomatch h), trivial, (fun _ h => nomatch h)⟩
        · replace h := ifF h8 h
          replace h := Option.some.inj h
          subst h
          exact ⟨CTri.toFin prim_ok mixed Tryz.func196 (by kernel_rfl) 3000 [.no, .bit false, .no, .bit false, .no, .av (ai x3), .no, .av (ai x5), .no, .no, .bit true, .no, .bit false] [] [] [] false (by kernel_rfl) (ObsOk.cons (obBit h1) (ObsOk.cons (obBit h2) (ObsOk.cons (obAv (ixArr247 h4 rfl)) (ObsOk.cons (obAv (ixArr247 h6 rfl)) (ObsOk.cons (obBit h7) (ObsOk.cons (obBit h8) ObsOk.nil)))))) (by decide), ⟨⟨trivial, trivial, ⟨trivial, dT _⟩, trivial⟩, trivial⟩, (fun _ h => nomatch h), trivial, (fun _ h => nomatch h)⟩
      · replace h := ifF h7 h
        replace h := Option.some.inj h
        subst h
        exact ⟨CTri.toFin prim_ok mixed Tryz.func196 (by kernel_rfl) 3000 [.no, .bit false, .no, .bit false, .no, .av (ai x3), .no, .av (ai x5), .no, .no, .bit false] [] [] [] false (by kernel_rfl) (ObsOk.cons (obBit h1) (ObsOk.cons (obBit h2) (ObsOk.cons (obAv (ixArr247 h4 rfl)) (ObsOk.cons (obAv (ixArr247 h6 rfl)) (ObsOk.cons (obBit h7) ObsOk.nil))))) (by decide), ⟨⟨trivial, trivial, ⟨trivial, dT _⟩, trivial⟩, trivial⟩, (fun _ h => nomatch h), trivial, (fun _ h => nomatch h)⟩

/- scholium/term.good -/
mutual
def g144 (p0 : Tm) : Option (Bool) :=
  (g196 p0) >>= fun r1 =>
  if r1 = true then
    g144L0 p0 0
  else
    some false
 partial_fixpoint
def g144L0 (p0 : Tm) (v11 : Int) : Option (Bool) :=
  if decide (v11 < (List.length p0.sub : Int)) = true then
    (gidx p0.sub v11) >>= fun x5 =>
    (g144 x5) >>= fun r7 =>
    if r7 = true then
      g144L0 p0 (w64 (v11 + 1))
    else
      some false
  else
    some true
 partial_fixpoint
end
def g144L0E0 (j : Nat → Value) (p0 : Tm) (v11 : Int) : List AV := [.val (j 0), .val (j 1), .val (j 2), .val (j 3), .val (j 4), .val (j 5), .val (j 6), .val (j 7), .val (j 8), .sl (flat tmCells p0.sub) (List.length p0.sub) .no, ai (List.length p0.sub : Int), ai v11, .val (j 12), .val (j 13), .val (j 14), .val (j 15), .val (j 16), .val (j 17), .val (j 18)]
def g144L0S0 (p0 : Tm) (v11 : Int) : LSt := ⟨[], 0, [], 0, []⟩
theorem a144_144L0  : (∀ (p0 : Tm) (r : Bool), g144 p0 = some r → CT Tryz.prog 144 [] [tmA p0] (ab r) [] 0) ∧ (∀ (p0 : Tm) (v11 : Int) (r : Bool), g144L0 p0 v11 = some r → (∀ j, Dl Tryz.prog 0 (inn (inn (rgt (lft (rgt (rgt (bod Tryz.f144))))))) (g144L0E0 j p0 v11) (g144L0S0 p0 v11) (frameQ Tryz.prog 0 (FinQ Tryz.prog 0 Tryz.f144 (ab r) [] 0) [.blk 0, .seq (rgt (rgt (rgt (bod Tryz.f144))))]))) := by
  refine g144.mutual_partial_correctness  (fun p0 r => CT Tryz.prog 144 [] [tmA p0] (ab r) [] 0) (fun p0 v11 r => (∀ j, Dl Tryz.prog 0 (inn (inn (rgt (lft (rgt (rgt (bod Tryz.f144))))))) (g144L0E0 j p0 v11) (g144L0S0 p0 v11) (frameQ Tryz.prog 0 (FinQ Tryz.prog 0 Tryz.f144 (ab r) [] 0) [.blk 0, .seq (rgt (rgt (rgt (bod Tryz.f144))))]))) ?_ ?_
  · intro g144L0 ihg144L0 p0 r h
    obtain ⟨r1, h2, h⟩ := obind h
    rcases bcases r1 with h3 | h3
    · replace h := ifT h3 h
      exact ⟨CTri.toHead prim_ok mixed Tryz.func144 (by kernel_rfl) 3000 [.no, .call [] [] 0 (ab r1) (some true), .no, .no, .no] [] [] [] [9, 10, 11] (E := fun j => g144L0E0 j p0 0) (S := g144L0S0 p0 0) (fun j => by kernel_rfl) (ObsOk.cons (obBit h3) (ObsOk.cons (obCall (c196 h2)) (ObsOk.cons (obData (dT p0.sub)) ObsOk.nil))) (ihg144L0 _ _ _ h), ⟨⟨trivial, trivial, ⟨trivial, dT _⟩, trivial⟩, trivial⟩, (fun _ h => nomatch h), trivial, (fun _ h => nomatch h)⟩
    · replace h := ifF h3 h
      replace h := Option.some.inj h
      subst h
      exact ⟨CTri.toFin prim_ok mixed Tryz.func144 (by kernel_rfl) 3000 [.no, .call [] [] 0 (ab r1) (some false), .no] [] [] [] false (by kernel_rfl) (ObsOk.cons (obBit h3) (ObsOk.cons (obCall (c196 h2)) ObsOk.nil)) (by decide), ⟨⟨trivial, trivial, ⟨trivial, dT _⟩, trivial⟩, trivial⟩, (fun _ h => nomatch h), trivial, (fun _ h => nomatch h)⟩
  · intro g144 g144L0 ih144 ihg144L0 p0 v11 r h
    rcases bcases (decide (v11 < (List.length p0.sub : Int))) with h4 | h4
    · replace h := ifT h4 h
      obtain ⟨x5, h6, h⟩ := obind h
      obtain ⟨r7, h8, h⟩ := obind h
      rcases bcases r7 with h9 | h9
      · replace h := ifT h9 h
        exact fun j => Dl.toHead prim_ok mixed 3000 [.bit true, .av (.ip (tmL x5 ++ flat tmCells (List.drop (Int.toNat v11 + 1) p0.sub))), .no, .no, .no, .call [] [] 0 (ab r7) (some true), .no, .no] [] [] [] [9, 10, 11] (E := fun j => g144L0E0 j p0 (w64 (v11 + 1))) (S := g144L0S0 p0 (w64 (v11 + 1))) (fun j => by kernel_rfl) (ObsOk.cons (obBit h4) (ObsOk.cons (obAv (ix22 (o := .no) h6)) (ObsOk.cons (obBit h9) (ObsOk.cons (obCall (ih144 _ _ h8)) (ObsOk.cons (obData (dT p0.sub)) ObsOk.nil))))) (ihg144L0 _ _ _ h)
      · replace h := ifF h9 h
        replace h := Option.some.inj h
        subst h
        exact fun j => Dl.toFin prim_ok mixed 3000 [.bit true, .av (.ip (tmL x5 ++ flat tmCells (List.drop (Int.toNat v11 + 1) p0.sub))), .no, .no, .no, .call [] [] 0 (ab r7) (some false), .no] [] [] [] false (by kernel_rfl) (ObsOk.cons (obBit h4) (ObsOk.cons (obAv (ix22 (o := .no) h6)) (ObsOk.cons (obBit h9) (ObsOk.cons (obCall (ih144 _ _ h8)) ObsOk.nil)))) (by decide)
    · replace h := ifF h4 h
      replace h := Option.some.inj h
      subst h
      exact fun j => Dl.toFin prim_ok mixed 3000 [.bit false] [] [] [] false (by kernel_rfl) (ObsOk.cons (obBit h4) ObsOk.nil) (by decide)
theorem c144 {p0 : Tm} {r : Bool} (h : g144 p0 = some r) : CT Tryz.prog 144 [] [tmA p0] (ab r) [] 0 := (a144_144L0 ).1 _ _ h
theorem l144L0 {p0 : Tm} {v11 : Int} {r : Bool} (h : g144L0 p0 v11 = some r) : (∀ j, Dl Tryz.prog 0 (inn (inn (rgt (lft (rgt (rgt (bod Tryz.f144))))))) (g144L0E0 j p0 v11) (g144L0S0 p0 v11) (frameQ Tryz.prog 0 (FinQ Tryz.prog 0 Tryz.f144 (ab r) [] 0) [.blk 0, .seq (rgt (rgt (rgt (bod Tryz.f144))))])) := (a144_144L0 ).2 _ _ _ h

/- scholium/term.Shaped -/
def g74 (p0 : Tm) : Option (Bool) :=
  (g143 p0) >>= fun r1 =>
  if decide (r1 ≤ 128) = true then
    (g144 p0) >>= fun r4 =>
    some r4
  else
    some false
theorem c74 {p0 : Tm} {r : Bool} (h : g74 p0 = some r) : CT Tryz.prog 74 [] [tmA p0] (ab r) [] 0 := by
  unfold g74 at h
  obtain ⟨r1, h2, h⟩ := obind h
  rcases bcases (decide (r1 ≤ 128)) with h3 | h3
  · replace h := ifT h3 h
    obtain ⟨r4, h5, h⟩ := obind h
    replace h := Option.some.inj h
    subst h
    exact ⟨CTri.toFin prim_ok mixed Tryz.func74 (by kernel_rfl) 3000 [.no, .call [] [] 0 (ai r1) none, .bit true, .no, .call [] [] 0 (ab r4) none] [] [] [] false (by kernel_rfl) (ObsOk.cons (obCall (c143 h2)) (ObsOk.cons (obBit h3) (ObsOk.cons (obCall (c144 h5)) ObsOk.nil))) (by decide), ⟨⟨trivial, trivial, ⟨trivial, dT _⟩, trivial⟩, trivial⟩, (fun _ h => nomatch h), trivial, (fun _ h => nomatch h)⟩
  · replace h := ifF h3 h
    replace h := Option.some.inj h
    subst h
    exact ⟨CTri.toFin prim_ok mixed Tryz.func74 (by kernel_rfl) 3000 [.no, .call [] [] 0 (ai r1) none, .bit false] [] [] [] false (by kernel_rfl) (ObsOk.cons (obCall (c143 h2)) (ObsOk.cons (obBit h3) ObsOk.nil)) (by decide), ⟨⟨trivial, trivial, ⟨trivial, dT _⟩, trivial⟩, trivial⟩, (fun _ h => nomatch h), trivial, (fun _ h => nomatch h)⟩

/- scholium/term.cloned -/
mutual
def g134 (p0 : Tm) : Option (Tm) :=
  g134L0 p0 0 []
 partial_fixpoint
def g134L0 (p0 : Tm) (v14 : Int) (vb1_2 : List Tm) : Option (Tm) :=
  if decide (v14 < (List.length p0.sub : Int)) = true then
    (gidx p0.sub v14) >>= fun x2 =>
    (g134 x2) >>= fun r4 =>
    (gapp 40 vb1_2 [r4]) >>= fun l6 =>
    g134L0 p0 (w64 (v14 + 1)) l6
  else
    some (Tm.mk p0.k p0.n vb1_2)
 partial_fixpoint
end
def g134L0E0 (j : Nat → Value) (p0 : Tm) (v14 : Int) (vb1_2 : List Tm) : List AV := [.val (j 0), .val (j 1), .mp 0 0, .mp 1 0, .val (j 4), .val (j 5), .val (j 6), .val (j 7), .val (j 8), .val (j 9), .val (j 10), .val (j 11), .sl (flat tmCells p0.sub) (List.length p0.sub) .no, ai (List.length p0.sub : Int), ai v14, .val (j 15), .val (j 16), .val (j 17), .val (j 18), .val (j 19), .val (j 20), .val (j 21), .val (j 22), .val (j 23), .val (j 24), .val (j 25), .val (j 26)]
def g134L0S0 (p0 : Tm) (v14 : Int) (vb1_2 : List Tm) : LSt := ⟨[(0, .cells [ai 0, ai 0, .sl (flat tmCells ([] : List Tm)) (List.length ([] : List Tm)) .nl]), (1, .cells [ai p0.k, ai p0.n, .sl (flat tmCells vb1_2) (List.length vb1_2) (.st 0 3)])], 2, [0], 1, []⟩
theorem a134_134L0  : (∀ (p0 : Tm) (r : Tm), g134 p0 = some r → CT Tryz.prog 134 [] [tmA p0] (tmA r) [] 0) ∧ (∀ (p0 : Tm) (v14 : Int) (vb1_2 : List Tm) (r : Tm), g134L0 p0 v14 vb1_2 = some r → (∀ j, Dl Tryz.prog 0 (inn (inn (rgt (lft (rgt (rgt (bod Tryz.f134))))))) (g134L0E0 j p0 v14 vb1_2) (g134L0S0 p0 v14 vb1_2) (frameQ Tryz.prog 0 (FinQ Tryz.prog 0 Tryz.f134 (tmA r) [] 0) [.blk 0, .seq (rgt (rgt (rgt (bod Tryz.f134))))]))) := by
  refine g134.mutual_partial_correctness  (fun p0 r => CT Tryz.prog 134 [] [tmA p0] (tmA r) [] 0) (fun p0 v14 vb1_2 r => (∀ j, Dl Tryz.prog 0 (inn (inn (rgt (lft (rgt (rgt (bod Tryz.f134))))))) (g134L0E0 j p0 v14 vb1_2) (g134L0S0 p0 v14 vb1_2) (frameQ Tryz.prog 0 (FinQ Tryz.prog 0 Tryz.f134 (tmA r) [] 0) [.blk 0, .seq (rgt (rgt (rgt (bod Tryz.f134))))]))) ?_ ?_
  · intro g134L0 ihg134L0 p0 r h
    exact ⟨CTri.toHead prim_ok mixed Tryz.func134 (by kernel_rfl) 3000 [.no, .no, .no, .no, .no] [(some 2, 2, 3)] [1, 2] [0] [2, 3, 12, 13, 14] (E := fun j => g134L0E0 j p0 0 []) (S := g134L0S0 p0 0 []) (fun j => by kernel_rfl) (ObsOk.cons (obData (dT ([] : List Tm))) (ObsOk.cons (obData (dT ([] : List Tm))) (ObsOk.cons (obData (dT p0.sub)) ObsOk.nil))) (ihg134L0 _ _ _ _ h), ⟨⟨trivial, trivial, ⟨trivial, dT _⟩, trivial⟩, trivial⟩, (fun _ h => nomatch h), ⟨trivial, trivial, dT _, trivial⟩, (fun _ h => nomatch h)⟩
  · intro g134 g134L0 ih134 ihg134L0 p0 v14 vb1_2 r h
    rcases bcases (decide (v14 < (List.length p0.sub : Int))) with h1 | h1
    · replace h := ifT h1 h
      obtain ⟨x2, h3, h⟩ := obind h
      obtain ⟨r4, h5, h⟩ := obind h
      obtain ⟨l6, h7, h⟩ := obind h
      exact fun j => Dl.toHead prim_ok mixed 3000 [.bit true, .av (.ip (tmL x2 ++ flat tmCells (List.drop (Int.toNat v14 + 1) p0.sub))), .no, .no, .no, .no, .call [] [] 0 (tmA r4) none, .sl (flat tmCells [r4]) (List.length [r4]), .app (flat tmCells l6) (List.length l6) 3 false, .no, .no] [] [0, 1] [1] [2, 3, 12, 13, 14] (E := fun j => g134L0E0 j p0 (w64 (v14 + 1)) l6) (S := g134L0S0 p0 (w64 (v14 + 1)) l6) (fun j => by kernel_rfl) (ObsOk.cons (obBit h1) (ObsOk.cons (obAv (ix22 (o := .no) h3)) (ObsOk.cons (obCall (ih134 _ _ h5)) (ObsOk.cons (obLit [r4]) (ObsOk.cons (apS22 h7 (by simp)) (ObsOk.cons (obData (dT ([] : List Tm))) (ObsOk.cons (obData (dT l6)) (ObsOk.cons (obData (dT p0.sub)) ObsOk.nil)))))))) (ihg134L0 _ _ _ _ h)
    · replace h := ifF h1 h
      replace h := Option.some.inj h
      subst h
      exact fun j => Dl.toFin prim_ok mixed 3000 [.bit false, .no, .no] [] [] [] false (by kernel_rfl) (ObsOk.cons (obBit h1) (ObsOk.cons (obData (dT vb1_2)) ObsOk.nil)) (by decide)
theorem c134 {p0 : Tm} {r : Tm} (h : g134 p0 = some r) : CT Tryz.prog 134 [] [tmA p0] (tmA r) [] 0 := (a134_134L0 ).1 _ _ h
theorem l134L0 {p0 : Tm} {v14 : Int} {vb1_2 : List Tm} {r : Tm} (h : g134L0 p0 v14 vb1_2 = some r) : (∀ j, Dl Tryz.prog 0 (inn (inn (rgt (lft (rgt (rgt (bod Tryz.f134))))))) (g134L0E0 j p0 v14 vb1_2) (g134L0S0 p0 v14 vb1_2) (frameQ Tryz.prog 0 (FinQ Tryz.prog 0 Tryz.f134 (tmA r) [] 0) [.blk 0, .seq (rgt (rgt (rgt (bod Tryz.f134))))])) := (a134_134L0 ).2 _ _ _ _ h

/- scholium/term.Copy -/
def g72 (p0 : Tm) : Option (Tm) :=
  (g74 p0) >>= fun r1 =>
  if r1 = true then
    (g134 p0) >>= fun r4 =>
    some r4
  else
    some (Tm.mk 0 0 [])
theorem c72 {p0 : Tm} {r : Tm} (h : g72 p0 = some r) : CT Tryz.prog 72 [] [tmA p0] (tmA r) [] 0 := by
  unfold g72 at h
  obtain ⟨r1, h2, h⟩ := obind h
  rcases bcases r1 with h3 | h3
  · replace h := ifT h3 h
    obtain ⟨r4, h5, h⟩ := obind h
    replace h := Option.some.inj h
    subst h
    exact ⟨CTri.toFin prim_ok mixed Tryz.func72 (by kernel_rfl) 3000 [.no, .call [] [] 0 (ab r1) (some true), .no, .no, .call [] [] 0 (tmA r4) none, .no] [] [] [] false (by kernel_rfl) (ObsOk.cons (obBit h3) (ObsOk.cons (obCall (c74 h2)) (ObsOk.cons (obCall (c134 h5)) (ObsOk.cons (obData (dT r4.sub)) ObsOk.nil)))) (by decide), ⟨⟨trivial, trivial, ⟨trivial, dT _⟩, trivial⟩, trivial⟩, (fun _ h => nomatch h), ⟨trivial, trivial, dT _, trivial⟩, (fun _ h => nomatch h)⟩
  · replace h := ifF h3 h
    replace h := Option.some.inj h
    subst h
    exact ⟨CTri.toFin prim_ok mixed Tryz.func72 (by kernel_rfl) 3000 [.no, .call [] [] 0 (ab r1) (some false), .no, .no] [] [] [] false (by kernel_rfl) (ObsOk.cons (obBit h3) (ObsOk.cons (obCall (c74 h2)) (ObsOk.cons (obData (dT ([] : List Tm))) ObsOk.nil))) (by decide), ⟨⟨trivial, trivial, ⟨trivial, dT _⟩, trivial⟩, trivial⟩, (fun _ h => nomatch h), ⟨trivial, trivial, dT _, trivial⟩, (fun _ h => nomatch h)⟩

/- slices.Clone(()int,int) -/
def g145v0 (p0 : List Int) : Option (List Int) :=
  some []
theorem c145v0 {p0 : List Int} {r : List Int} (h : g145v0 p0 = some r) : CT Tryz.prog 145 [] [.sl (flat intC p0) (List.length p0) .nl] (.sl (flat intC r) (List.length r) .no) [] 0 := by
  unfold g145v0 at h
  replace h := Option.some.inj h
  subst h
  exact ⟨CTri.toFin prim_ok mixed Tryz.func145 (by kernel_rfl) 3000 [.no] [] [] [] false (by kernel_rfl) (ObsOk.cons (obData (dI ([] : List Int))) ObsOk.nil) (by decide), ⟨⟨trivial, dI _⟩, trivial⟩, (fun _ h => nomatch h), dI _, (fun _ h => nomatch h)⟩

/- slices.Clone(()int,int) -/
def g145v1 (p0 : List Int) : Option (List Int) :=
  (gapp 8 ([] : List Int) p0) >>= fun l1 =>
  some l1
theorem c145v1 {p0 : List Int} {r : List Int} (h : g145v1 p0 = some r) : CT Tryz.prog 145 [] [.sl (flat intC p0) (List.length p0) .nn] (.sl (flat intC r) (List.length r) .no) [] 0 := by
  unfold g145v1 at h
  obtain ⟨l1, h2, h⟩ := obind h
  by_cases h3 : List.length p0 = 0
  · replace h := Option.some.inj h
    subst h
    exact ⟨CTri.toFin prim_ok mixed Tryz.func145 (by kernel_rfl) 3000 [.no, .no, .app (flat intC l1) (List.length l1) 1 true] [] [] [] false (by kernel_rfl) (ObsOk.cons (apN52 h2 h3) (ObsOk.cons (obData (dI l1)) ObsOk.nil)) (by decide), ⟨⟨trivial, dI _⟩, trivial⟩, (fun _ h => nomatch h), dI _, (fun _ h => nomatch h)⟩
  · replace h := Option.some.inj h
    subst h
    exact ⟨CTri.toFin prim_ok mixed Tryz.func145 (by kernel_rfl) 3000 [.no, .no, .app (flat intC l1) (List.length l1) 1 false] [] [] [] false (by kernel_rfl) (ObsOk.cons (apS52 h2 h3) (ObsOk.cons (obData (dI l1)) ObsOk.nil)) (by decide), ⟨⟨trivial, dI _⟩, trivial⟩, (fun _ h => nomatch h), dI _, (fun _ h => nomatch h)⟩

/- a clone, whatever it is of -/
def g145 (p0 : List Int) : Option (List Int) := gapp 8 [] p0
theorem c145 {p0 : List Int} {r : List Int} (h : g145 p0 = some r) : CT Tryz.prog 145 [] [.sl (flat intC p0) (List.length p0) .no] (.sl (flat intC r) (List.length r) .no) [] 0 := by
  have hr : r = p0 := by have := (gapp_spec h).2; simpa using this
  have h1 : g145v1 p0 = some r := by unfold g145v1; rw [show gapp 8 ([] : List Int) p0 = some r from h]; rfl
  have k1 := c145v1 h1
  refine ⟨CTri.nilcase (fun hn => ?_) k1.tri, ⟨⟨trivial, dI _⟩, trivial⟩, (fun _ h => nomatch h), dI _, (fun _ h => nomatch h)⟩
  have hp : p0 = [] := flat_nil codecI (by decide) hn
  subst hr
  subst hp
  exact (c145v0 rfl).tri

/- scholium/sign.Copy -/
def g76L0 (p0 : List Ent) (v3 : List Ent) (v8 : Int) : Option (List Ent) :=
  if decide (v8 < (List.length p0 : Int)) = true then
    (gidx p0 v8) >>= fun x2 =>
    (g72 x2.type) >>= fun r4 =>
    (g72 x2.body) >>= fun r6 =>
    (g145 x2.cons) >>= fun r8 =>
    (g145 x2.fields) >>= fun r10 =>
    (gapp 192 v3 [(Ent.mk x2.kind x2.name r4 r6 x2.fam x2.place x2.pars x2.inds x2.level r8 r10)]) >>= fun l12 =>
    g76L0 p0 l12 (w64 (v8 + 1))
  else
    some v3
 partial_fixpoint
def g76 (p0 : List Ent) : Option (List Ent) :=
  g76L0 p0 [] 0
def g76L0E0 (j : Nat → Value) (p0 : List Ent) (v3 : List Ent) (v8 : Int) : List AV := [.val (j 0), .val (j 1), .val (j 2), .sl (flat entL v3) (List.length v3) (.st 0 15), .val (j 4), .val (j 5), .sl (flat entL p0) (List.length p0) .no, ai (List.length p0 : Int), ai v8, .val (j 9), .val (j 10), .val (j 11), .val (j 12), .val (j 13), .val (j 14), .val (j 15), .val (j 16), .val (j 17), .val (j 18), .val (j 19), .val (j 20), .val (j 21), .val (j 22), .val (j 23), .val (j 24), .val (j 25), .val (j 26), .val (j 27), .val (j 28), .val (j 29), .val (j 30), .val (j 31), .val (j 32), .val (j 33)]
def g76L0S0 (p0 : List Ent) (v3 : List Ent) (v8 : Int) : LSt := ⟨[], 0, [0], 1, []⟩
theorem l76L0 {p0 : List Ent} {v3 : List Ent} {v8 : Int} {r : List Ent} (h : g76L0 p0 v3 v8 = some r) : (∀ j, Dl Tryz.prog 0 (inn (inn (rgt (lft (rgt (rgt (bod Tryz.f76))))))) (g76L0E0 j p0 v3 v8) (g76L0S0 p0 v3 v8) (frameQ Tryz.prog 0 (FinQ Tryz.prog 0 Tryz.f76 (.sl (flat entL r) (List.length r) .no) [] 0) [.blk 0, .seq (rgt (rgt (rgt (bod Tryz.f76))))])) := by
  refine g76L0.partial_correctness p0 (fun v3 v8 r => (∀ j, Dl Tryz.prog 0 (inn (inn (rgt (lft (rgt (rgt (bod Tryz.f76))))))) (g76L0E0 j p0 v3 v8) (g76L0S0 p0 v3 v8) (frameQ Tryz.prog 0 (FinQ Tryz.prog 0 Tryz.f76 (.sl (flat entL r) (List.length r) .no) [] 0) [.blk 0, .seq (rgt (rgt (rgt (bod Tryz.f76))))]))) ?_ v3 v8 _ h
  clear h
  intro g76L0 ihg76L0 v3 v8 r h
  rcases bcases (decide (v8 < (List.length p0 : Int))) with h1 | h1
  · replace h := ifT h1 h
    obtain ⟨x2, h3, h⟩ := obind h
    obtain ⟨r4, h5, h⟩ := obind h
    obtain ⟨r6, h7, h⟩ := obind h
    obtain ⟨r8, h9, h⟩ := obind h
    obtain ⟨r10, h11, h⟩ := obind h
    obtain ⟨l12, h13, h⟩ := obind h
    exact fun j => Dl.toHead prim_ok mixed 3000 [.bit true, .av (.ip (entL x2 ++ flat entL (List.drop (Int.toNat v8 + 1) p0))), .no, .no, .no, .call [] [] 0 (tmA r4) none, .no, .call [] [] 0 (tmA r6) none, .no, .no, .no, .call [] [] 0 (.sl (flat intC r8) (List.length r8) .no) none, .no, .call [] [] 0 (.sl (flat intC r10) (List.length r10) .no) none, .no, .no, .no, .no, .app (flat entL l12) (List.length l12) 15 false, .no] [] [] [1] [3, 6, 7, 8] (E := fun j => g76L0E0 j p0 l12 (w64 (v8 + 1))) (S := g76L0S0 p0 l12 (w64 (v8 + 1))) (fun j => by kernel_rfl) (ObsOk.cons (obBit h1) (ObsOk.cons (obAv (ix37 (o := .no) h3)) (ObsOk.cons (obCall (c72 h5)) (ObsOk.cons (obCall (c72 h7)) (ObsOk.cons (obCall (c145 h9)) (ObsOk.cons (obCall (c145 h11)) (ObsOk.cons (apS37 h13 (by simp)) (ObsOk.cons (obData (dE l12)) (ObsOk.cons (obData (dE p0)) ObsOk.nil))))))))) (ihg76L0 _ _ _ h)
  · replace h := ifF h1 h
    replace h := Option.some.inj h
    subst h
    exact fun j => Dl.toFin prim_ok mixed 3000 [.bit false] [] [] [] false (by kernel_rfl) (ObsOk.cons (obBit h1) (ObsOk.cons (obData (dE v3)) ObsOk.nil)) (by decide)
theorem c76 {p0 : List Ent} {r : List Ent} (h : g76 p0 = some r) : CT Tryz.prog 76 [] [.sl (flat entL p0) (List.length p0) .no] (.sl (flat entL r) (List.length r) .no) [] 0 := by
  unfold g76 at h
  exact ⟨CTri.toHead prim_ok mixed Tryz.func76 (by kernel_rfl) 3000 [.no] [(none, 3, 15)] [] [0] [3, 6, 7, 8] (E := fun j => g76L0E0 j p0 [] 0) (S := g76L0S0 p0 [] 0) (fun j => by kernel_rfl) (ObsOk.cons (obData (dE ([] : List Ent))) (ObsOk.cons (obData (dE p0)) ObsOk.nil)) (l76L0 h), ⟨⟨trivial, dE _⟩, trivial⟩, (fun _ h => nomatch h), dE _, (fun _ h => nomatch h)⟩

/- scholium/name.Distinct -/
def g172L0 (p0 : List ByteArray) (v9 : Int) (vb0_0 : List (ByteArray × Int)) : Option (Bool) :=
  if decide (v9 < (List.length p0 : Int)) = true then
    (gidx p0 v9) >>= fun x2 =>
    if decide ((mget vb0_0 x2) > 0) = true then
      some false
    else
      g172L0 p0 (w64 (v9 + 1)) (mset vb0_0 x2 (w64 ((mget vb0_0 x2) + 1)))
  else
    some true
 partial_fixpoint
def g172 (p0 : List ByteArray) : Option (Bool) :=
  g172L0 p0 0 ([] : List (ByteArray × Int))
def g172L0E0 (j : Nat → Value) (p0 : List ByteArray) (v9 : Int) (vb0_0 : List (ByteArray × Int)) : List AV := [.val (j 0), .val (j 1), .val (j 2), .obj 0, .val (j 4), .val (j 5), .val (j 6), .sl (flat strC p0) (List.length p0) .no, ai (List.length p0 : Int), ai v9, .val (j 10), .val (j 11), .val (j 12), .val (j 13), .val (j 14), .val (j 15), .val (j 16), .val (j 17), .val (j 18), .val (j 19), .val (j 20), .val (j 21)]
def g172L0S0 (p0 : List ByteArray) (v9 : Int) (vb0_0 : List (ByteArray × Int)) : LSt := ⟨[(0, smap vb0_0)], 1, [], 0, []⟩
theorem l172L0 {p0 : List ByteArray} {v9 : Int} {vb0_0 : List (ByteArray × Int)} {r : Bool} (h : g172L0 p0 v9 vb0_0 = some r) : (∀ j, Dl Tryz.prog 0 (inn (inn (rgt (lft (rgt (rgt (bod Tryz.f172))))))) (g172L0E0 j p0 v9 vb0_0) (g172L0S0 p0 v9 vb0_0) (frameQ Tryz.prog 0 (FinQ Tryz.prog 0 Tryz.f172 (ab r) [] 0) [.blk 0, .seq (rgt (rgt (rgt (bod Tryz.f172))))])) := by
  refine g172L0.partial_correctness p0 (fun v9 vb0_0 r => (∀ j, Dl Tryz.prog 0 (inn (inn (rgt (lft (rgt (rgt (bod Tryz.f172))))))) (g172L0E0 j p0 v9 vb0_0) (g172L0S0 p0 v9 vb0_0) (frameQ Tryz.prog 0 (FinQ Tryz.prog 0 Tryz.f172 (ab r) [] 0) [.blk 0, .seq (rgt (rgt (rgt (bod Tryz.f172))))]))) ?_ v9 vb0_0 _ h
  clear h
  intro g172L0 ihg172L0 v9 vb0_0 r h
  rcases bcases (decide (v9 < (List.length p0 : Int))) with h1 | h1
  · replace h := ifT h1 h
    obtain ⟨x2, h3, h⟩ := obind h
    rcases bcases (decide ((mget vb0_0 x2) > 0)) with h4 | h4
    · replace h := ifT h4 h
      replace h := Option.some.inj h
      subst h
      exact fun j => Dl.toFin prim_ok mixed 3000 [.bit true, .av (.ip (strC x2 ++ flat strC (List.drop (Int.toNat v9 + 1) p0))), .no, .lk (ai (mget vb0_0 x2)), .bit true] [] [] [] false (by kernel_rfl) (ObsOk.cons (obBit h1) (ObsOk.cons (obAv (ix155 (o := .no) h3)) (ObsOk.cons (lk235 vb0_0 x2) (ObsOk.cons (obBit h4) ObsOk.nil)))) (by decide)
    · replace h := ifF h4 h
      exact fun j => Dl.toHead prim_ok mixed 3000 [.bit true, .av (.ip (strC x2 ++ flat strC (List.drop (Int.toNat v9 + 1) p0))), .no, .lk (ai (mget vb0_0 x2)), .bit false, .lk (ai (mget vb0_0 x2)), .no, .mu (smap (mset vb0_0 x2 (w64 ((mget vb0_0 x2) + 1)))), .no] [] [0] [] [3, 7, 8, 9] (E := fun j => g172L0E0 j p0 (w64 (v9 + 1)) (mset vb0_0 x2 (w64 ((mget vb0_0 x2) + 1)))) (S := g172L0S0 p0 (w64 (v9 + 1)) (mset vb0_0 x2 (w64 ((mget vb0_0 x2) + 1)))) (fun j => by kernel_rfl) (ObsOk.cons (obBit h1) (ObsOk.cons (obAv (ix155 (o := .no) h3)) (ObsOk.cons (lk235 vb0_0 x2) (ObsOk.cons (obBit h4) (ObsOk.cons (lk235 vb0_0 x2) (ObsOk.cons (mu235 vb0_0 x2 (w64 ((mget vb0_0 x2) + 1))) (ObsOk.cons (obData (dS p0)) ObsOk.nil))))))) (ihg172L0 _ _ _ h)
  · replace h := ifF h1 h
    replace h := Option.some.inj h
    subst h
    exact fun j => Dl.toFin prim_ok mixed 3000 [.bit false] [] [] [] false (by kernel_rfl) (ObsOk.cons (obBit h1) ObsOk.nil) (by decide)
theorem c172 {p0 : List ByteArray} {r : Bool} (h : g172 p0 = some r) : CT Tryz.prog 172 [] [.sl (flat strC p0) (List.length p0) .no] (ab r) [] 0 := by
  unfold g172 at h
  exact ⟨CTri.toHead prim_ok mixed Tryz.func172 (by kernel_rfl) 3000 [.no] [] [0] [] [3, 7, 8, 9] (E := fun j => g172L0E0 j p0 0 ([] : List (ByteArray × Int))) (S := g172L0S0 p0 0 ([] : List (ByteArray × Int))) (fun j => by kernel_rfl) (ObsOk.cons (obData (dS p0)) ObsOk.nil) (l172L0 h), ⟨⟨trivial, dS _⟩, trivial⟩, (fun _ h => nomatch h), trivial, (fun _ h => nomatch h)⟩

/- scholium/sign.Names -/
def g173L0 (p0 : List Ent) (v3 : List ByteArray) (v8 : Int) : Option (List ByteArray) :=
  if decide (v8 < (List.length p0 : Int)) = true then
    (gidx p0 v8) >>= fun x2 =>
    (gapp 16 v3 [x2.name]) >>= fun l4 =>
    g173L0 p0 l4 (w64 (v8 + 1))
  else
    some v3
 partial_fixpoint
def g173 (p0 : List Ent) : Option (List ByteArray) :=
  g173L0 p0 [] 0
def g173L0E0 (j : Nat → Value) (p0 : List Ent) (v3 : List ByteArray) (v8 : Int) : List AV := [.val (j 0), .val (j 1), .val (j 2), .sl (flat strC v3) (List.length v3) (.st 0 1), .val (j 4), .val (j 5), .sl (flat entL p0) (List.length p0) .no, ai (List.length p0 : Int), ai v8, .val (j 9), .val (j 10), .val (j 11), .val (j 12), .val (j 13), .val (j 14), .val (j 15), .val (j 16), .val (j 17), .val (j 18)]
def g173L0S0 (p0 : List Ent) (v3 : List ByteArray) (v8 : Int) : LSt := ⟨[], 0, [0], 1, []⟩
theorem l173L0 {p0 : List Ent} {v3 : List ByteArray} {v8 : Int} {r : List ByteArray} (h : g173L0 p0 v3 v8 = some r) : (∀ j, Dl Tryz.prog 0 (inn (inn (rgt (lft (rgt (rgt (bod Tryz.f173))))))) (g173L0E0 j p0 v3 v8) (g173L0S0 p0 v3 v8) (frameQ Tryz.prog 0 (FinQ Tryz.prog 0 Tryz.f173 (.sl (flat strC r) (List.length r) .no) [] 0) [.blk 0, .seq (rgt (rgt (rgt (bod Tryz.f173))))])) := by
  refine g173L0.partial_correctness p0 (fun v3 v8 r => (∀ j, Dl Tryz.prog 0 (inn (inn (rgt (lft (rgt (rgt (bod Tryz.f173))))))) (g173L0E0 j p0 v3 v8) (g173L0S0 p0 v3 v8) (frameQ Tryz.prog 0 (FinQ Tryz.prog 0 Tryz.f173 (.sl (flat strC r) (List.length r) .no) [] 0) [.blk 0, .seq (rgt (rgt (rgt (bod Tryz.f173))))]))) ?_ v3 v8 _ h
  clear h
  intro g173L0 ihg173L0 v3 v8 r h
  rcases bcases (decide (v8 < (List.length p0 : Int))) with h1 | h1
  · replace h := ifT h1 h
    obtain ⟨x2, h3, h⟩ := obind h
    obtain ⟨l4, h5, h⟩ := obind h
    exact fun j => Dl.toHead prim_ok mixed 3000 [.bit true, .av (.ip (entL x2 ++ flat entL (List.drop (Int.toNat v8 + 1) p0))), .no, .no, .no, .no, .app (flat strC l4) (List.length l4) 1 false, .no] [] [] [1] [3, 6, 7, 8] (E := fun j => g173L0E0 j p0 l4 (w64 (v8 + 1))) (S := g173L0S0 p0 l4 (w64 (v8 + 1))) (fun j => by kernel_rfl) (ObsOk.cons (obBit h1) (ObsOk.cons (obAv (ix37 (o := .no) h3)) (ObsOk.cons (apS155 h5 (by simp)) (ObsOk.cons (obData (dS l4)) (ObsOk.cons (obData (dE p0)) ObsOk.nil))))) (ihg173L0 _ _ _ h)
  · replace h := ifF h1 h
    replace h := Option.some.inj h
    subst h
    exact fun j => Dl.toFin prim_ok mixed 3000 [.bit false] [] [] [] false (by kernel_rfl) (ObsOk.cons (obBit h1) (ObsOk.cons (obData (dS v3)) ObsOk.nil)) (by decide)
theorem c173 {p0 : List Ent} {r : List ByteArray} (h : g173 p0 = some r) : CT Tryz.prog 173 [] [.sl (flat entL p0) (List.length p0) .no] (.sl (flat strC r) (List.length r) .no) [] 0 := by
  unfold g173 at h
  exact ⟨CTri.toHead prim_ok mixed Tryz.func173 (by kernel_rfl) 3000 [.no] [(none, 3, 1)] [] [0] [3, 6, 7, 8] (E := fun j => g173L0E0 j p0 [] 0) (S := g173L0S0 p0 [] 0) (fun j => by kernel_rfl) (ObsOk.cons (obData (dS ([] : List ByteArray))) (ObsOk.cons (obData (dE p0)) ObsOk.nil)) (l173L0 h), ⟨⟨trivial, dE _⟩, trivial⟩, (fun _ h => nomatch h), dS _, (fun _ h => nomatch h)⟩

/- scholium/utf.Right -/
def g273 (p0 : Int) : Option (Bool) :=
  if decide (p0 ≥ 0) = true then
    if decide (p0 ≤ 1114111) = true then
      if decide (p0 < 55296) = true then
        some true
      else
        some (decide (p0 > 57343))
    else
      some false
  else
    some false
theorem c273 {p0 : Int} {r : Bool} (h : g273 p0 = some r) : CT Tryz.prog 273 [] [ai p0] (ab r) [] 0 := by
  unfold g273 at h
  rcases bcases (decide (p0 ≥ 0)) with h1 | h1
  · replace h := ifT h1 h
    rcases bcases (decide (p0 ≤ 1114111)) with h2 | h2
    · replace h := ifT h2 h
      rcases bcases (decide (p0 < 55296)) with h3 | h3
      · replace h := ifT h3 h
        replace h := Option.some.inj h
        subst h
        exact ⟨CTri.toFin prim_ok mixed Tryz.func273 (by kernel_rfl) 3000 [.bit true, .bit true, .bit true] [] [] [] false (by kernel_rfl) (ObsOk.cons (obBit h1) (ObsOk.cons (obBit h2) (ObsOk.cons (obBit h3) ObsOk.nil))) (by decide), ⟨trivial, trivial⟩, (fun _ h => nomatch h), trivial, (fun _ h => nomatch h)⟩
      · replace h := ifF h3 h
        replace h := Option.some.inj h
        subst h
        exact ⟨CTri.toFin prim_ok mixed Tryz.func273 (by kernel_rfl) 3000 [.bit true, .bit true, .bit false, .no] [] [] [] false (by kernel_rfl) (ObsOk.cons (obBit h1) (ObsOk.cons (obBit h2) (ObsOk.cons (obBit h3) ObsOk.nil))) (by decide), ⟨trivial, trivial⟩, (fun _ h => nomatch h), trivial, (fun _ h => nomatch h)⟩
    · replace h := ifF h2 h
      replace h := Option.some.inj h
      subst h
      exact ⟨CTri.toFin prim_ok mixed Tryz.func273 (by kernel_rfl) 3000 [.bit true, .bit false] [] [] [] false (by kernel_rfl) (ObsOk.cons (obBit h1) (ObsOk.cons (obBit h2) ObsOk.nil)) (by decide), ⟨trivial, trivial⟩, (fun _ h => nomatch h), trivial, (fun _ h => nomatch h)⟩
  · replace h := ifF h1 h
    replace h := Option.some.inj h
    subst h
    exact ⟨CTri.toFin prim_ok mixed Tryz.func273 (by kernel_rfl) 3000 [.bit false] [] [] [] false (by kernel_rfl) (ObsOk.cons (obBit h1) ObsOk.nil) (by decide), ⟨trivial, trivial⟩, (fun _ h => nomatch h), trivial, (fun _ h => nomatch h)⟩

/- scholium/utf.lead -/
def g281 (p0 : U8) : Option (Int × Int) :=
  if decide (p0 < 128) = true then
    some (1, (w64 (p0)))
  else
    if decide (p0 ≥ 192) = true then
      if decide (p0 < 224) = true then
        some (2, (w64 ((IntKind.u8.wrap ((BitVec.ofInt (IntKind.bits .u8) p0 &&& BitVec.ofInt (IntKind.bits .u8) 31).toNat : Nat)))))
      else
        if decide (p0 ≥ 224) = true then
          if decide (p0 < 240) = true then
            some (3, (w64 ((IntKind.u8.wrap ((BitVec.ofInt (IntKind.bits .u8) p0 &&& BitVec.ofInt (IntKind.bits .u8) 15).toNat : Nat)))))
          else
            if decide (p0 ≥ 240) = true then
              if decide (p0 < 248) = true then
                some (4, (w64 ((IntKind.u8.wrap ((BitVec.ofInt (IntKind.bits .u8) p0 &&& BitVec.ofInt (IntKind.bits .u8) 7).toNat : Nat)))))
              else
                some (0, 0)
            else
              some (0, 0)
        else
          if decide (p0 ≥ 240) = true then
            if decide (p0 < 248) = true then
              some (4, (w64 ((IntKind.u8.wrap ((BitVec.ofInt (IntKind.bits .u8) p0 &&& BitVec.ofInt (IntKind.bits .u8) 7).toNat : Nat)))))
            else
              some (0, 0)
          else
            some (0, 0)
    else
      if decide (p0 ≥ 224) = true then
        if decide (p0 < 240) = true then
          some (3, (w64 ((IntKind.u8.wrap ((BitVec.ofInt (IntKind.bits .u8) p0 &&& BitVec.ofInt (IntKind.bits .u8) 15).toNat : Nat)))))
        else
          if decide (p0 ≥ 240) = true then
            if decide (p0 < 248) = true then
              some (4, (w64 ((IntKind.u8.wrap ((BitVec.ofInt (IntKind.bits .u8) p0 &&& BitVec.ofInt (IntKind.bits .u8) 7).toNat : Nat)))))
            else
              some (0, 0)
          else
            some (0, 0)
      else
        if decide (p0 ≥ 240) = true then
          if decide (p0 < 248) = true then
            some (4, (w64 ((IntKind.u8.wrap ((BitVec.ofInt (IntKind.bits .u8) p0 &&& BitVec.ofInt (IntKind.bits .u8) 7).toNat : Nat)))))
          else
            some (0, 0)
        else
          some (0, 0)
theorem c281 {p0 : U8} {r : Int × Int} (h : g281 p0 = some r) : CT Tryz.prog 281 [] [.val (.int .u8 p0)] (.tup [ai r.1, ai r.2]) [] 0 := by
  unfold g281 at h
  rcases bcases (decide (p0 < 128)) with h1 | h1
  · replace h := ifT h1 h
    replace h := Option.some.inj h
    subst h
    exact ⟨CTri.toFin prim_ok mixed Tryz.func281 (by kernel_rfl) 3000 [.bit true, .no] [] [] [] false (by kernel_rfl) (ObsOk.cons (obBit h1) ObsOk.nil) (by decide), ⟨trivial, trivial⟩, (fun _ h => nomatch h), ⟨trivial, trivial, trivial⟩, (fun _ h => nomatch h)⟩
  · replace h := ifF h1 h
    rcases bcases (decide (p0 ≥ 192)) with h2 | h2
    · replace h := ifT h2 h
      rcases bcases (decide (p0 < 224)) with h3 | h3
      · replace h := ifT h3 h
        replace h := Option.some.inj h
        subst h
        exact ⟨CTri.toFin prim_ok mixed Tryz.func281 (by kernel_rfl) 3000 [.bit false, .bit true, .bit true, .no, .no] [] [] [] false (by kernel_rfl) (ObsOk.cons (obBit h1) (ObsOk.cons (obBit h2) (ObsOk.cons (obBit h3) ObsOk.nil))) (by decide), ⟨trivial, trivial⟩, (fun _ h => nomatch h), ⟨trivial, trivial, trivial⟩, (fun _ h => nomatch h)⟩
      · replace h := ifF h3 h
        rcases bcases (decide (p0 ≥ 224)) with h4 | h4
        · replace h := ifT h4 h
          rcases bcases (decide (p0 < 240)) with h5 | h5
          · replace h := ifT h5 h
            replace h := Option.some.inj h
            subst h
            exact ⟨CTri.toFin prim_ok mixed Tryz.func281 (by kernel_rfl) 3000 [.bit false, .bit true, .bit false, .bit true, .bit true, .no, .no] [] [] [] false (by kernel_rfl) (ObsOk.cons (obBit h1) (ObsOk.cons (obBit h2) (ObsOk.cons (obBit h3) (ObsOk.cons (obBit h4) (ObsOk.cons (obBit h5) ObsOk.nil))))) (by decide), ⟨trivial, trivial⟩, (fun _ h => nomatch h), ⟨trivial, trivial, trivial⟩, (fun _ h => nomatch h)⟩
          · replace h := ifF h5 h
            rcases bcases (decide (p0 ≥ 240)) with h6 | h6
            · replace h := ifT h6 h
              rcases bcases (decide (p0 < 248)) with h7 | h7
              · replace h := ifT h7 h
                replace h := Option.some.inj h
                subst h
                exact ⟨CTri.toFin prim_ok mixed Tryz.func281 (by kernel_rfl) 3000 [.bit false, .bit true, .bit false, .bit true, .bit false, .bit true, .bit true, .no, .no] [] [] [] false (by kernel_rfl) (ObsOk.cons (obBit h1) (ObsOk.cons (obBit h2) (ObsOk.cons (obBit h3) (ObsOk.cons (obBit h4) (ObsOk.cons (obBit h5) (ObsOk.cons (obBit h6) (ObsOk.cons (obBit h7) ObsOk.nil))))))) (by decide), ⟨trivial, trivial⟩, (fun _ h => nomatch h), ⟨trivial, trivial, trivial⟩, (fun _ h => nomatch h)⟩
              · replace h := ifF h7 h
                replace h := Option.some.inj h
                subst h
                exact ⟨CTri.toFin prim_ok mixed Tryz.func281 (by kernel_rfl) 3000 [.bit false, .bit true, .bit false, .bit true, .bit false, .bit true, .bit false] [] [] [] false (by kernel_rfl) (ObsOk.cons (obBit h1) (ObsOk.cons (obBit h2) (ObsOk.cons (obBit h3) (ObsOk.cons (obBit h4) (ObsOk.cons (obBit h5) (ObsOk.cons (obBit h6) (ObsOk.cons (obBit h7) ObsOk.nil))))))) (by decide), ⟨trivial, trivial⟩, (fun _ h => nomatch h), ⟨trivial, trivial, trivial⟩, (fun _ h => nomatch h)⟩
            · replace h := ifF h6 h
              replace h := Option.some.inj h
              subst h
              exact ⟨CTri.toFin prim_ok mixed Tryz.func281 (by kernel_rfl) 3000 [.bit false, .bit true, .bit false, .bit true, .bit false, .bit false] [] [] [] false (by kernel_rfl) (ObsOk.cons (obBit h1) (ObsOk.cons (obBit h2) (ObsOk.cons (obBit h3) (ObsOk.cons (obBit h4) (ObsOk.cons (obBit h5) (ObsOk.cons (obBit h6) ObsOk.nil)))))) (by decide), ⟨trivial, trivial⟩, (fun _ h => nomatch h), ⟨trivial, trivial, trivial⟩, (fun _ h => nomatch h)⟩
        · replace h := ifF h4 h
          rcases bcases (decide (p0 ≥ 240)) with h8 | h8
          · replace h := ifT h8 h
            rcases bcases (decide (p0 < 248)) with h9 | h9
            · replace h := ifT h9 h
              replace h := Option.some.inj h
              subst h
              exact ⟨CTri.toFin prim_ok mixed Tryz.func281 (by kernel_rfl) 3000 [.bit false, .bit true, .bit false, .bit false, .bit true, .bit true, .no, .no] [] [] [] false (by kernel_rfl) (ObsOk.cons (obBit h1) (ObsOk.cons (obBit h2) (ObsOk.cons (obBit h3) (ObsOk.cons (obBit h4) (ObsOk.cons (obBit h8) (ObsOk.cons (obBit h9) ObsOk.nil)))))) (by decide), ⟨trivial, trivial⟩, (fun _ h => nomatch h), ⟨trivial, trivial, trivial⟩, (fun _ h => nomatch h)⟩
            · replace h := ifF h9 h
              replace h := Option.some.inj h
              subst h
              exact ⟨CTri.toFin prim_ok mixed Tryz.func281 (by kernel_rfl) 3000 [.bit false, .bit true, .bit false, .bit false, .bit true, .bit false] [] [] [] false (by kernel_rfl) (ObsOk.cons (obBit h1) (ObsOk.cons (obBit h2) (ObsOk.cons (obBit h3) (ObsOk.cons (obBit h4) (ObsOk.cons (obBit h8) (ObsOk.cons (obBit h9) ObsOk.nil)))))) (by decide), ⟨trivial, trivial⟩, (fun _ h => nomatch h), ⟨trivial, trivial, trivial⟩, (fun _ h => nomatch h)⟩
          · replace h := ifF h8 h
            replace h := Option.some.inj h
            subst h
            exact ⟨CTri.toFin prim_ok mixed Tryz.func281 (by kernel_rfl) 3000 [.bit false, .bit true, .bit false, .bit false, .bit false] [] [] [] false (by kernel_rfl) (ObsOk.cons (obBit h1) (ObsOk.cons (obBit h2) (ObsOk.cons (obBit h3) (ObsOk.cons (obBit h4) (ObsOk.cons (obBit h8) ObsOk.nil))))) (by decide), ⟨trivial, trivial⟩, (fun _ h => nomatch h), ⟨trivial, trivial, trivial⟩, (fun _ h => nomatch h)⟩
    · replace h := ifF h2 h
      rcases bcases (decide (p0 ≥ 224)) with h10 | h10
      · replace h := ifT h10 h
        rcases bcases (decide (p0 < 240)) with h11 | h11
        · replace h := ifT h11 h
          replace h := Option.some.inj h
          subst h
          exact ⟨CTri.toFin prim_ok mixed Tryz.func281 (by kernel_rfl) 3000 [.bit false, .bit false, .bit true, .bit true, .no, .no] [] [] [] false (by kernel_rfl) (ObsOk.cons (obBit h1) (ObsOk.cons (obBit h2) (ObsOk.cons (obBit h10) (ObsOk.cons (obBit h11) ObsOk.nil)))) (by decide), ⟨trivial, trivial⟩, (fun _ h => nomatch h), ⟨trivial, trivial, trivial⟩, (fun _ h => nomatch h)⟩
        · replace h := ifF h11 h
          rcases bcases (decide (p0 ≥ 240)) with h12 | h12
          · replace h := ifT h12 h
            rcases bcases (decide (p0 < 248)) with h13 | h13
            · replace h := ifT h13 h
              replace h := Option.some.inj h
              subst h
              exact ⟨CTri.toFin prim_ok mixed Tryz.func281 (by kernel_rfl) 3000 [.bit false, .bit false, .bit true, .bit false, .bit true, .bit true, .no, .no] [] [] [] false (by kernel_rfl) (ObsOk.cons (obBit h1) (ObsOk.cons (obBit h2) (ObsOk.cons (obBit h10) (ObsOk.cons (obBit h11) (ObsOk.cons (obBit h12) (ObsOk.cons (obBit h13) ObsOk.nil)))))) (by decide), ⟨trivial, trivial⟩, (fun _ h => nomatch h), ⟨trivial, trivial, trivial⟩, (fun _ h => nomatch h)⟩
            · replace h := ifF h13 h
              replace h := Option.some.inj h
              subst h
              exact ⟨CTri.toFin prim_ok mixed Tryz.func281 (by kernel_rfl) 3000 [.bit false, .bit false, .bit true, .bit false, .bit true, .bit false] [] [] [] false (by kernel_rfl) (ObsOk.cons (obBit h1) (ObsOk.cons (obBit h2) (ObsOk.cons (obBit h10) (ObsOk.cons (obBit h11) (ObsOk.cons (obBit h12) (ObsOk.cons (obBit h13) ObsOk.nil)))))) (by decide), ⟨trivial, trivial⟩, (fun _ h => nomatch h), ⟨trivial, trivial, trivial⟩, (fun _ h => nomatch h)⟩
          · replace h := ifF h12 h
            replace h := Option.some.inj h
            subst h
            exact ⟨CTri.toFin prim_ok mixed Tryz.func281 (by kernel_rfl) 3000 [.bit false, .bit false, .bit true, .bit false, .bit false] [] [] [] false (by kernel_rfl) (ObsOk.cons (obBit h1) (ObsOk.cons (obBit h2) (ObsOk.cons (obBit h10) (ObsOk.cons (obBit h11) (ObsOk.cons (obBit h12) ObsOk.nil))))) (by decide), ⟨trivial, trivial⟩, (fun _ h => nomatch h), ⟨trivial, trivial, trivial⟩, (fun _ h => nomatch h)⟩
      · replace h := ifF h10 h
        rcases bcases (decide (p0 ≥ 240)) with h14 | h14
        · replace h := ifT h14 h
          rcases bcases (decide (p0 < 248)) with h15 | h15
          · replace h := ifT h15 h
            replace h := Option.some.inj h
            subst h
            exact ⟨CTri.toFin prim_ok mixed Tryz.func281 (by kernel_rfl) 3000 [.bit false, .bit false, .bit false, .bit true, .bit true, .no, .no] [] [] [] false (by kernel_rfl) (ObsOk.cons (obBit h1) (ObsOk.cons (obBit h2) (ObsOk.cons (obBit h10) (ObsOk.cons (obBit h14) (ObsOk.cons (obBit h15) ObsOk.nil))))) (by decide), ⟨trivial, trivial⟩, (fun _ h => nomatch h), ⟨trivial, trivial, trivial⟩, (fun _ h => nomatch h)⟩
          · replace h := ifF h15 h
            replace h := Option.some.inj h
            subst h
            exact ⟨CTri.toFin prim_ok mixed Tryz.func281 (by kernel_rfl) 3000 [.bit false, .bit false, .bit false, .bit true, .bit false] [] [] [] false (by kernel_rfl) (ObsOk.cons (obBit h1) (ObsOk.cons (obBit h2) (ObsOk.cons (obBit h10) (ObsOk.cons (obBit h14) (ObsOk.cons (obBit h15) ObsOk.nil))))) (by decide), ⟨trivial, trivial⟩, (fun _ h => nomatch h), ⟨trivial, trivial, trivial⟩, (fun _ h => nomatch h)⟩
        · replace h := ifF h14 h
          replace h := Option.some.inj h
          subst h
          exact ⟨CTri.toFin prim_ok mixed Tryz.func281 (by kernel_rfl) 3000 [.bit false, .bit false, .bit false, .bit false] [] [] [] false (by kernel_rfl) (ObsOk.cons (obBit h1) (ObsOk.cons (obBit h2) (ObsOk.cons (obBit h10) (ObsOk.cons (obBit h14) ObsOk.nil)))) (by decide), ⟨trivial, trivial⟩, (fun _ h => nomatch h), ⟨trivial, trivial, trivial⟩, (fun _ h => nomatch h)⟩

/- scholium/utf.width -/
def g282 (p0 : Int) : Option (Int) :=
  if decide (p0 ≥ 65536) = true then
    some (w64 ((w64 ((w64 (1 + 1)) + 1)) + 1))
  else
    if decide (p0 ≥ 2048) = true then
      some (w64 ((w64 (1 + 1)) + 1))
    else
      if decide (p0 ≥ 128) = true then
        some (w64 (1 + 1))
      else
        some 1
theorem c282 {p0 : Int} {r : Int} (h : g282 p0 = some r) : CT Tryz.prog 282 [] [ai p0] (ai r) [] 0 := by
  unfold g282 at h
  rcases bcases (decide (p0 ≥ 65536)) with h1 | h1
  · replace h := ifT h1 h
    replace h := Option.some.inj h
    subst h
    exact ⟨CTri.toFin prim_ok mixed Tryz.func282 (by kernel_rfl) 3000 [.bit true, .no, .no, .no] [] [] [] false (by kernel_rfl) (ObsOk.cons (obBit h1) ObsOk.nil) (by decide), ⟨trivial, trivial⟩, (fun _ h => nomatch h), trivial, (fun _ h => nomatch h)⟩
  · replace h := ifF h1 h
    rcases bcases (decide (p0 ≥ 2048)) with h2 | h2
    · replace h := ifT h2 h
      replace h := Option.some.inj h
      subst h
      exact ⟨CTri.toFin prim_ok mixed Tryz.func282 (by kernel_rfl) 3000 [.bit false, .bit true, .no, .no] [] [] [] false (by kernel_rfl) (ObsOk.cons (obBit h1) (ObsOk.cons (obBit h2) ObsOk.nil)) (by decide), ⟨trivial, trivial⟩, (fun _ h => nomatch h), trivial, (fun _ h => nomatch h)⟩
    · replace h := ifF h2 h
      rcases bcases (decide (p0 ≥ 128)) with h3 | h3
      · replace h := ifT h3 h
        replace h := Option.some.inj h
        subst h
        exact ⟨CTri.toFin prim_ok mixed Tryz.func282 (by kernel_rfl) 3000 [.bit false, .bit false, .bit true, .no] [] [] [] false (by kernel_rfl) (ObsOk.cons (obBit h1) (ObsOk.cons (obBit h2) (ObsOk.cons (obBit h3) ObsOk.nil))) (by decide), ⟨trivial, trivial⟩, (fun _ h => nomatch h), trivial, (fun _ h => nomatch h)⟩
      · replace h := ifF h3 h
        replace h := Option.some.inj h
        subst h
        exact ⟨CTri.toFin prim_ok mixed Tryz.func282 (by kernel_rfl) 3000 [.bit false, .bit false, .bit false] [] [] [] false (by kernel_rfl) (ObsOk.cons (obBit h1) (ObsOk.cons (obBit h2) (ObsOk.cons (obBit h3) ObsOk.nil))) (by decide), ⟨trivial, trivial⟩, (fun _ h => nomatch h), trivial, (fun _ h => nomatch h)⟩

/- scholium/utf.Next -/
def g271L0 (p0 : ByteArray) (p1 : Int) (r5 : Int × Int) (v8 : Int) (v9 : Int) : Option (Int × Int × Int) :=
  if decide (v9 < r5.1) = true then
    (gbyte p0 (w64 (p1 + v9))) >>= fun x10 =>
    if ((IntKind.u8.wrap ((BitVec.ofInt (IntKind.bits .u8) x10 &&& BitVec.ofInt (IntKind.bits .u8) 192).toNat : Nat)) != 128) = true then
      some (0, 0, 1)
    else
      g271L0 p0 p1 r5 (IntKind.i64.wrap ((BitVec.ofInt (IntKind.bits .i64) (w64 (v8 * 2 ^ (min (Int.toNat 6) (IntKind.bits .i64)))) ||| BitVec.ofInt (IntKind.bits .i64) (w64 ((IntKind.u8.wrap ((BitVec.ofInt (IntKind.bits .u8) x10 &&& BitVec.ofInt (IntKind.bits .u8) 63).toNat : Nat))))).toNat : Nat)) (w64 (v9 + 1))
  else
    (g273 v8) >>= fun r13 =>
    if r13 = true then
      (g282 v8) >>= fun r16 =>
      if (r16 != r5.1) = true then
        some (0, 0, 1)
      else
        some (v8, r5.1, 0)
    else
      some (0, 0, 1)
 partial_fixpoint
def g271 (p0 : ByteArray) (p1 : Int) : Option (Int × Int × Int) :=
  if decide (p1 < 0) = true then
    some (0, 0, 1)
  else
    if decide (p1 ≥ (p0.size : Int)) = true then
      some (0, 0, 1)
    else
      (gbyte p0 p1) >>= fun x3 =>
      (g281 x3) >>= fun r5 =>
      if (r5.1 == 0) = true then
        some (0, 0, 1)
      else
        if decide (r5.1 > (w64 ((p0.size : Int) - p1))) = true then
          some (0, 0, 1)
        else
          g271L0 p0 p1 r5 r5.2 1
def g271L0E0 (j : Nat → Value) (p0 : ByteArray) (p1 : Int) (r5 : Int × Int) (v8 : Int) (v9 : Int) : List AV := [at' p0, ai p1, .val (j 2), .val (j 3), .val (j 4), .val (j 5), .val (j 6), ai r5.1, ai v8, ai v9, .val (j 10), .val (j 11), .val (j 12), .val (j 13), .val (j 14), .val (j 15), .val (j 16), .val (j 17), .val (j 18), .val (j 19), .val (j 20), .val (j 21), .val (j 22), .val (j 23), .val (j 24), .val (j 25), .val (j 26), .val (j 27), .val (j 28), .val (j 29), .val (j 30), .val (j 31), .val (j 32), .val (j 33), .val (j 34), .val (j 35), .val (j 36), .val (j 37), .val (j 38), .val (j 39), .val (j 40), .val (j 41), .val (j 42), .val (j 43), .val (j 44), .val (j 45), .val (j 46), .val (j 47), .val (j 48), .val (j 49), .val (j 50), .val (j 51), .val (j 52), .val (j 53), .val (j 54), .val (j 55), .val (j 56), .val (j 57), .val (j 58), .val (j 59), .val (j 60), .val (j 61), .val (j 62), .val (j 63), .val (j 64), .val (j 65)]
def g271L0S0 (p0 : ByteArray) (p1 : Int) (r5 : Int × Int) (v8 : Int) (v9 : Int) : LSt := ⟨[], 0, [], 0, []⟩
theorem l271L0 {p0 : ByteArray} {p1 : Int} {r5 : Int × Int} {v8 : Int} {v9 : Int} {r : Int × Int × Int} (h : g271L0 p0 p1 r5 v8 v9 = some r) : (∀ j, Dl Tryz.prog 0 (inn (inn (rgt (lft (rgt (rgt (rgt (rgt (bod Tryz.f271))))))))) (g271L0E0 j p0 p1 r5 v8 v9) (g271L0S0 p0 p1 r5 v8 v9) (frameQ Tryz.prog 0 (FinQ Tryz.prog 0 Tryz.f271 (.tup [ai r.1, ai r.2.1, ai r.2.2]) [] 0) [.blk 0, .seq (rgt (rgt (rgt (rgt (rgt (bod Tryz.f271))))))])) := by
  refine g271L0.partial_correctness p0 p1 r5 (fun v8 v9 r => (∀ j, Dl Tryz.prog 0 (inn (inn (rgt (lft (rgt (rgt (rgt (rgt (bod Tryz.f271))))))))) (g271L0E0 j p0 p1 r5 v8 v9) (g271L0S0 p0 p1 r5 v8 v9) (frameQ Tryz.prog 0 (FinQ Tryz.prog 0 Tryz.f271 (.tup [ai r.1, ai r.2.1, ai r.2.2]) [] 0) [.blk 0, .seq (rgt (rgt (rgt (rgt (rgt (bod Tryz.f271))))))]))) ?_ v8 v9 _ h
  clear h
  intro g271L0 ihg271L0 v8 v9 r h
  rcases bcases (decide (v9 < r5.1)) with h9 | h9
  · replace h := ifT h9 h
    obtain ⟨x10, h11, h⟩ := obind h
    rcases bcases ((IntKind.u8.wrap ((BitVec.ofInt (IntKind.bits .u8) x10 &&& BitVec.ofInt (IntKind.bits .u8) 192).toNat : Nat)) != 128) with h12 | h12
    · replace h := ifT h12 h
      replace h := Option.some.inj h
      subst h
      exact fun j => Dl.toFin prim_ok mixed 3000 [.bit true, .no, .av (.val (.int .u8 x10)), .no, .bit true] [] [] [] false (by kernel_rfl) (ObsOk.cons (obBit h9) (ObsOk.cons (obAv (ixStr9 h11)) (ObsOk.cons (obBit h12) ObsOk.nil))) (by decide)
    · replace h := ifF h12 h
      exact fun j => Dl.toHead prim_ok mixed 3000 [.bit true, .no, .av (.val (.int .u8 x10)), .no, .bit false, .no, .no, .no, .no, .no] [] [] [] [0, 1, 7, 8, 9] (E := fun j => g271L0E0 j p0 p1 r5 (IntKind.i64.wrap ((BitVec.ofInt (IntKind.bits .i64) (w64 (v8 * 2 ^ (min (Int.toNat 6) (IntKind.bits .i64)))) ||| BitVec.ofInt (IntKind.bits .i64) (w64 ((IntKind.u8.wrap ((BitVec.ofInt (IntKind.bits .u8) x10 &&& BitVec.ofInt (IntKind.bits .u8) 63).toNat : Nat))))).toNat : Nat)) (w64 (v9 + 1))) (S := g271L0S0 p0 p1 r5 (IntKind.i64.wrap ((BitVec.ofInt (IntKind.bits .i64) (w64 (v8 * 2 ^ (min (Int.toNat 6) (IntKind.bits .i64)))) ||| BitVec.ofInt (IntKind.bits .i64) (w64 ((IntKind.u8.wrap ((BitVec.ofInt (IntKind.bits .u8) x10 &&& BitVec.ofInt (IntKind.bits .u8) 63).toNat : Nat))))).toNat : Nat)) (w64 (v9 + 1))) (fun j => by kernel_rfl) (ObsOk.cons (obBit h9) (ObsOk.cons (obAv (ixStr9 h11)) (ObsOk.cons (obBit h12) ObsOk.nil))) (ihg271L0 _ _ _ h)
  · replace h := ifF h9 h
    obtain ⟨r13, h14, h⟩ := obind h
    rcases bcases r13 with h15 | h15
    · replace h := ifT h15 h
      obtain ⟨r16, h17, h⟩ := obind h
      rcases bcases (r16 != r5.1) with h18 | h18
      · replace h := ifT h18 h
        replace h := Option.some.inj h
        subst h
        exact fun j => Dl.toFin prim_ok mixed 3000 [.bit false, .call [] [] 0 (ab r13) (some true), .no, .call [] [] 0 (ai r16) none, .bit true] [] [] [] false (by kernel_rfl) (ObsOk.cons (obBit h9) (ObsOk.cons (obBit h15) (ObsOk.cons (obCall (c273 h14)) (ObsOk.cons (obCall (c282 h17)) (ObsOk.cons (obBit h18) ObsOk.nil))))) (by decide)
      · replace h := ifF h18 h
        replace h := Option.some.inj h
        subst h
        exact fun j => Dl.toFin prim_ok mixed 3000 [.bit false, .call [] [] 0 (ab r13) (some true), .no, .call [] [] 0 (ai r16) none, .bit false] [] [] [] false (by kernel_rfl) (ObsOk.cons (obBit h9) (ObsOk.cons (obBit h15) (ObsOk.cons (obCall (c273 h14)) (ObsOk.cons (obCall (c282 h17)) (ObsOk.cons (obBit h18) ObsOk.nil))))) (by decide)
    · replace h := ifF h15 h
      replace h := Option.some.inj h
      subst h
      exact fun j => Dl.toFin prim_ok mixed 3000 [.bit false, .call [] [] 0 (ab r13) (some false), .no] [] [] [] false (by kernel_rfl) (ObsOk.cons (obBit h9) (ObsOk.cons (obBit h15) (ObsOk.cons (obCall (c273 h14)) ObsOk.nil))) (by decide)
theorem c271 {p0 : ByteArray} {p1 : Int} {r : Int × Int × Int} (h : g271 p0 p1 = some r) : CT Tryz.prog 271 [] [at' p0, ai p1] (.tup [ai r.1, ai r.2.1, ai r.2.2]) [] 0 := by
  unfold g271 at h
  rcases bcases (decide (p1 < 0)) with h1 | h1
  · replace h := ifT h1 h
    replace h := Option.some.inj h
    subst h
    exact ⟨CTri.toFin prim_ok mixed Tryz.func271 (by kernel_rfl) 3000 [.bit true] [] [] [] false (by kernel_rfl) (ObsOk.cons (obBit h1) ObsOk.nil) (by decide), ⟨trivial, trivial, trivial⟩, (fun _ h => nomatch h), ⟨trivial, trivial, trivial, trivial⟩, (fun _ h => nomatch h)⟩
  · replace h := ifF h1 h
    rcases bcases (decide (p1 ≥ (p0.size : Int))) with h2 | h2
    · replace h := ifT h2 h
      replace h := Option.some.inj h
      subst h
      exact ⟨CTri.toFin prim_ok mixed Tryz.func271 (by kernel_rfl) 3000 [.bit false, .no, .bit true] [] [] [] false (by kernel_rfl) (ObsOk.cons (obBit h1) (ObsOk.cons (obBit h2) ObsOk.nil)) (by decide), ⟨trivial, trivial, trivial⟩, (fun _ h => nomatch h), ⟨trivial, trivial, trivial, trivial⟩, (fun _ h => nomatch h)⟩
    · replace h := ifF h2 h
      obtain ⟨x3, h4, h⟩ := obind h
      obtain ⟨r5, h6, h⟩ := obind h
      rcases bcases (r5.1 == 0) with h7 | h7
      · replace h := ifT h7 h
        replace h := Option.some.inj h
        subst h
        exact ⟨CTri.toFin prim_ok mixed Tryz.func271 (by kernel_rfl) 3000 [.bit false, .no, .bit false, .av (.val (.int .u8 x3)), .call [] [] 0 (.tup [ai r5.1, ai r5.2]) none, .no, .no, .bit true] [] [] [] false (by kernel_rfl) (ObsOk.cons (obBit h1) (ObsOk.cons (obBit h2) (ObsOk.cons (obAv (ixStr9 h4)) (ObsOk.cons (obCall (c281 h6)) (ObsOk.cons (obBit h7) ObsOk.nil))))) (by decide), ⟨trivial, trivial, trivial⟩, (fun _ h => nomatch h), ⟨trivial, trivial, trivial, trivial⟩, (fun _ h => nomatch h)⟩
      · replace h := ifF h7 h
        rcases bcases (decide (r5.1 > (w64 ((p0.size : Int) - p1)))) with h8 | h8
        · replace h := ifT h8 h
          replace h := Option.some.inj h
          subst h
          exact ⟨CTri.toFin prim_ok mixed Tryz.func271 (by kernel_rfl) 3000 [.bit false, .no, .bit false, .av (.val (.int .u8 x3)), .call [] [] 0 (.tup [ai r5.1, ai r5.2]) none, .no, .no, .bit false, .no, .no, .bit true] [] [] [] false (by kernel_rfl) (ObsOk.cons (obBit h1) (ObsOk.cons (obBit h2) (ObsOk.cons (obAv (ixStr9 h4)) (ObsOk.cons (obCall (c281 h6)) (ObsOk.cons (obBit h7) (ObsOk.cons (obBit h8) ObsOk.nil)))))) (by decide), ⟨trivial, trivial, trivial⟩, (fun _ h => nomatch h), ⟨trivial, trivial, trivial, trivial⟩, (fun _ h => nomatch h)⟩
        · replace h := ifF h8 h
          exact ⟨CTri.toHead prim_ok mixed Tryz.func271 (by kernel_rfl) 3000 [.bit false, .no, .bit false, .av (.val (.int .u8 x3)), .call [] [] 0 (.tup [ai r5.1, ai r5.2]) none, .no, .no, .bit false, .no, .no, .bit false] [] [] [] [0, 1, 7, 8, 9] (E := fun j => g271L0E0 j p0 p1 r5 r5.2 1) (S := g271L0S0 p0 p1 r5 r5.2 1) (fun j => by kernel_rfl) (ObsOk.cons (obBit h1) (ObsOk.cons (obBit h2) (ObsOk.cons (obAv (ixStr9 h4)) (ObsOk.cons (obCall (c281 h6)) (ObsOk.cons (obBit h7) (ObsOk.cons (obBit h8) ObsOk.nil)))))) (l271L0 h), ⟨trivial, trivial, trivial⟩, (fun _ h => nomatch h), ⟨trivial, trivial, trivial, trivial⟩, (fun _ h => nomatch h)⟩

/- scholium/utf.All -/
def g248L0 (p0 : ByteArray) (v5 : List Int) (v6 : Int) : Option (List Int × Int × Int) :=
  if decide (v6 < (p0.size : Int)) = true then
    (g271 p0 v6) >>= fun r3 =>
    if (r3.2.2 != 0) = true then
      some ([], v6, r3.2.2)
    else
      (gapp 8 v5 [r3.1]) >>= fun l6 =>
      g248L0 p0 l6 (w64 (v6 + r3.2.1))
  else
    some (v5, (p0.size : Int), 0)
 partial_fixpoint
def g248 (p0 : ByteArray) : Option (List Int × Int × Int) :=
  if decide ((p0.size : Int) > 65535) = true then
    some ([], 0, 2)
  else
    g248L0 p0 [] 0
def g248L0E0 (j : Nat → Value) (p0 : ByteArray) (v5 : List Int) (v6 : Int) : List AV := [at' p0, .val (j 1), .val (j 2), .val (j 3), .val (j 4), .sl (flat intC v5) (List.length v5) (.st 0 1), ai v6, .val (j 7), .val (j 8), .val (j 9), .val (j 10), .val (j 11), .val (j 12), .val (j 13), .val (j 14), .val (j 15), .val (j 16), .val (j 17), .val (j 18), .val (j 19), .val (j 20), .val (j 21), .val (j 22), .val (j 23), .val (j 24), .val (j 25), .val (j 26), .val (j 27), .val (j 28), .val (j 29), .val (j 30), .val (j 31), .val (j 32), .val (j 33), .val (j 34), .val (j 35), .val (j 36), .val (j 37)]
def g248L0S0 (p0 : ByteArray) (v5 : List Int) (v6 : Int) : LSt := ⟨[], 0, [0], 1, []⟩
theorem l248L0 {p0 : ByteArray} {v5 : List Int} {v6 : Int} {r : List Int × Int × Int} (h : g248L0 p0 v5 v6 = some r) : (∀ j, Dl Tryz.prog 0 (inn (inn (rgt (lft (rgt (rgt (rgt (bod Tryz.f248)))))))) (g248L0E0 j p0 v5 v6) (g248L0S0 p0 v5 v6) (frameQ Tryz.prog 0 (FinQ Tryz.prog 0 Tryz.f248 (.tup [.sl (flat intC r.1) (List.length r.1) .no, ai r.2.1, ai r.2.2]) [] 0) [.blk 0, .seq (rgt (rgt (rgt (rgt (bod Tryz.f248)))))])) := by
  refine g248L0.partial_correctness p0 (fun v5 v6 r => (∀ j, Dl Tryz.prog 0 (inn (inn (rgt (lft (rgt (rgt (rgt (bod Tryz.f248)))))))) (g248L0E0 j p0 v5 v6) (g248L0S0 p0 v5 v6) (frameQ Tryz.prog 0 (FinQ Tryz.prog 0 Tryz.f248 (.tup [.sl (flat intC r.1) (List.length r.1) .no, ai r.2.1, ai r.2.2]) [] 0) [.blk 0, .seq (rgt (rgt (rgt (rgt (bod Tryz.f248)))))]))) ?_ v5 v6 _ h
  clear h
  intro g248L0 ihg248L0 v5 v6 r h
  rcases bcases (decide (v6 < (p0.size : Int))) with h2 | h2
  · replace h := ifT h2 h
    obtain ⟨r3, h4, h⟩ := obind h
    rcases bcases (r3.2.2 != 0) with h5 | h5
    · replace h := ifT h5 h
      replace h := Option.some.inj h
      subst h
      exact fun j => Dl.toFin prim_ok mixed 3000 [.no, .bit true, .call [] [] 0 (.tup [ai r3.1, ai r3.2.1, ai r3.2.2]) none, .no, .no, .no, .bit true] [] [] [] false (by kernel_rfl) (ObsOk.cons (obBit h2) (ObsOk.cons (obCall (c271 h4)) (ObsOk.cons (obBit h5) (ObsOk.cons (obData (dI ([] : List Int))) ObsOk.nil)))) (by decide)
    · replace h := ifF h5 h
      obtain ⟨l6, h7, h⟩ := obind h
      exact fun j => Dl.toHead prim_ok mixed 3000 [.no, .bit true, .call [] [] 0 (.tup [ai r3.1, ai r3.2.1, ai r3.2.2]) none, .no, .no, .no, .bit false, .no, .app (flat intC l6) (List.length l6) 1 false, .no] [] [] [1] [0, 5, 6] (E := fun j => g248L0E0 j p0 l6 (w64 (v6 + r3.2.1))) (S := g248L0S0 p0 l6 (w64 (v6 + r3.2.1))) (fun j => by kernel_rfl) (ObsOk.cons (obBit h2) (ObsOk.cons (obCall (c271 h4)) (ObsOk.cons (obBit h5) (ObsOk.cons (apS52 h7 (by simp)) (ObsOk.cons (obData (dI l6)) ObsOk.nil))))) (ihg248L0 _ _ _ h)
  · replace h := ifF h2 h
    replace h := Option.some.inj h
    subst h
    exact fun j => Dl.toFin prim_ok mixed 3000 [.no, .bit false, .no] [] [] [] false (by kernel_rfl) (ObsOk.cons (obBit h2) (ObsOk.cons (obData (dI v5)) ObsOk.nil)) (by decide)
theorem c248 {p0 : ByteArray} {r : List Int × Int × Int} (h : g248 p0 = some r) : CT Tryz.prog 248 [] [at' p0] (.tup [.sl (flat intC r.1) (List.length r.1) .no, ai r.2.1, ai r.2.2]) [] 0 := by
  unfold g248 at h
  rcases bcases (decide ((p0.size : Int) > 65535)) with h1 | h1
  · replace h := ifT h1 h
    replace h := Option.some.inj h
    subst h
    exact ⟨CTri.toFin prim_ok mixed Tryz.func248 (by kernel_rfl) 3000 [.no, .bit true] [] [] [] false (by kernel_rfl) (ObsOk.cons (obBit h1) (ObsOk.cons (obData (dI ([] : List Int))) ObsOk.nil)) (by decide), ⟨trivial, trivial⟩, (fun _ h => nomatch h), ⟨dI _, trivial, trivial, trivial⟩, (fun _ h => nomatch h)⟩
  · replace h := ifF h1 h
    exact ⟨CTri.toHead prim_ok mixed Tryz.func248 (by kernel_rfl) 3000 [.no, .bit false] [(none, 5, 1)] [] [0] [0, 5, 6] (E := fun j => g248L0E0 j p0 [] 0) (S := g248L0S0 p0 [] 0) (fun j => by kernel_rfl) (ObsOk.cons (obBit h1) (ObsOk.cons (obData (dI ([] : List Int))) ObsOk.nil)) (l248L0 h), ⟨trivial, trivial⟩, (fun _ h => nomatch h), ⟨dI _, trivial, trivial, trivial⟩, (fun _ h => nomatch h)⟩

/- scholium/name.Keyword -/
def g249 (p0 : ByteArray) : Option (Bool) :=
  if (p0.toList == (⟨#[100, 97, 116, 97]⟩ : ByteArray).toList) = true then
    some true
  else
    if (p0.toList == (⟨#[114, 101, 99, 111, 114, 100]⟩ : ByteArray).toList) = true then
      some true
    else
      if (p0.toList == (⟨#[100, 101, 102]⟩ : ByteArray).toList) = true then
        some true
      else
        if (p0.toList == (⟨#[83, 101, 116]⟩ : ByteArray).toList) = true then
          some true
        else
          some false
theorem c249 {p0 : ByteArray} {r : Bool} (h : g249 p0 = some r) : CT Tryz.prog 249 [] [at' p0] (ab r) [] 0 := by
  unfold g249 at h
  rcases bcases (p0.toList == (⟨#[100, 97, 116, 97]⟩ : ByteArray).toList) with h1 | h1
  · replace h := ifT h1 h
    replace h := Option.some.inj h
    subst h
    exact ⟨CTri.toFin prim_ok mixed Tryz.func249 (by kernel_rfl) 3000 [.bit true] [] [] [] false (by kernel_rfl) (ObsOk.cons (obBit h1) ObsOk.nil) (by decide), ⟨trivial, trivial⟩, (fun _ h => nomatch h), trivial, (fun _ h => nomatch h)⟩
  · replace h := ifF h1 h
    rcases bcases (p0.toList == (⟨#[114, 101, 99, 111, 114, 100]⟩ : ByteArray).toList) with h2 | h2
    · replace h := ifT h2 h
      replace h := Option.some.inj h
      subst h
      exact ⟨CTri.toFin prim_ok mixed Tryz.func249 (by kernel_rfl) 3000 [.bit false, .bit true] [] [] [] false (by kernel_rfl) (ObsOk.cons (obBit h1) (ObsOk.cons (obBit h2) ObsOk.nil)) (by decide), ⟨trivial, trivial⟩, (fun _ h => nomatch h), trivial, (fun _ h => nomatch h)⟩
    · replace h := ifF h2 h
      rcases bcases (p0.toList == (⟨#[100, 101, 102]⟩ : ByteArray).toList) with h3 | h3
      · replace h := ifT h3 h
        replace h := Option.some.inj h
        subst h
        exact ⟨CTri.toFin prim_ok mixed Tryz.func249 (by kernel_rfl) 3000 [.bit false, .bit false, .bit true] [] [] [] false (by kernel_rfl) (ObsOk.cons (obBit h1) (ObsOk.cons (obBit h2) (ObsOk.cons (obBit h3) ObsOk.nil))) (by decide), ⟨trivial, trivial⟩, (fun _ h => nomatch h), trivial, (fun _ h => nomatch h)⟩
      · replace h := ifF h3 h
        rcases bcases (p0.toList == (⟨#[83, 101, 116]⟩ : ByteArray).toList) with h4 | h4
        · replace h := ifT h4 h
          replace h := Option.some.inj h
          subst h
          exact ⟨CTri.toFin prim_ok mixed Tryz.func249 (by kernel_rfl) 3000 [.bit false, .bit false, .bit false, .bit true] [] [] [] false (by kernel_rfl) (ObsOk.cons (obBit h1) (ObsOk.cons (obBit h2) (ObsOk.cons (obBit h3) (ObsOk.cons (obBit h4) ObsOk.nil)))) (by decide), ⟨trivial, trivial⟩, (fun _ h => nomatch h), trivial, (fun _ h => nomatch h)⟩
        · replace h := ifF h4 h
          replace h := Option.some.inj h
          subst h
          exact ⟨CTri.toFin prim_ok mixed Tryz.func249 (by kernel_rfl) 3000 [.bit false, .bit false, .bit false, .bit false] [] [] [] false (by kernel_rfl) (ObsOk.cons (obBit h1) (ObsOk.cons (obBit h2) (ObsOk.cons (obBit h3) (ObsOk.cons (obBit h4) ObsOk.nil)))) (by decide), ⟨trivial, trivial⟩, (fun _ h => nomatch h), trivial, (fun _ h => nomatch h)⟩

/- scholium/name.Mark -/
def g274 (p0 : Int) : Option (Bool) :=
  none
theorem c274 {p0 : Int} {r : Bool} (h : g274 p0 = some r) : CT Tryz.prog 274 [] [ai p0] (ab r) [] 0 := by
  unfold g274 at h
  cases h

/- scholium/name.Letter -/
def g251 (p0 : Int) : Option (Bool) :=
  if decide (p0 < 128) = true then
    if decide (p0 ≥ 97) = true then
      if decide (p0 ≤ 122) = true then
        some true
      else
        if decide (p0 ≥ 65) = true then
          some (decide (p0 ≤ 90))
        else
          some false
    else
      if decide (p0 ≥ 65) = true then
        some (decide (p0 ≤ 90))
      else
        some false
  else
    (g273 p0) >>= fun r6 =>
    if r6 = true then
      (g274 p0) >>= fun r9 =>
      if r9 = true then
        some false
      else
        if (p0 != 160) = true then
          if decide (p0 < 8192) = true then
            some true
          else
            some (decide (p0 > 8303))
        else
          some false
    else
      some false
theorem c251 {p0 : Int} {r : Bool} (h : g251 p0 = some r) : CT Tryz.prog 251 [] [ai p0] (ab r) [] 0 := by
  unfold g251 at h
  rcases bcases (decide (p0 < 128)) with h1 | h1
  · replace h := ifT h1 h
    rcases bcases (decide (p0 ≥ 97)) with h2 | h2
    · replace h := ifT h2 h
      rcases bcases (decide (p0 ≤ 122)) with h3 | h3
      · replace h := ifT h3 h
        replace h := Option.some.inj h
        subst h
        exact ⟨CTri.toFin prim_ok mixed Tryz.func251 (by kernel_rfl) 3000 [.bit true, .bit true, .bit true] [] [] [] false (by kernel_rfl) (ObsOk.cons (obBit h1) (ObsOk.cons (obBit h2) (ObsOk.cons (obBit h3) ObsOk.nil))) (by decide), ⟨trivial, trivial⟩, (fun _ h => nomatch h), trivial, (fun _ h => nomatch h)⟩
      · replace h := ifF h3 h
        rcases bcases (decide (p0 ≥ 65)) with h4 | h4
        · replace h := ifT h4 h
          replace h := Option.some.inj h
          subst h
          exact ⟨CTri.toFin prim_ok mixed Tryz.func251 (by kernel_rfl) 3000 [.bit true, .bit true, .bit false, .bit true, .no] [] [] [] false (by kernel_rfl) (ObsOk.cons (obBit h1) (ObsOk.cons (obBit h2) (ObsOk.cons (obBit h3) (ObsOk.cons (obBit h4) ObsOk.nil)))) (by decide), ⟨trivial, trivial⟩, (fun _ h => nomatch h), trivial, (fun _ h => nomatch h)⟩
        · replace h := ifF h4 h
          replace h := Option.some.inj h
          subst h
          exact ⟨CTri.toFin prim_ok mixed Tryz.func251 (by kernel_rfl) 3000 [.bit true, .bit true, .bit false, .bit false] [] [] [] false (by kernel_rfl) (ObsOk.cons (obBit h1) (ObsOk.cons (obBit h2) (ObsOk.cons (obBit h3) (ObsOk.cons (obBit h4) ObsOk.nil)))) (by decide), ⟨trivial, trivial⟩, (fun _ h => nomatch h), trivial, (fun _ h => nomatch h)⟩
    · replace h := ifF h2 h
      rcases bcases (decide (p0 ≥ 65)) with h5 | h5
      · replace h := ifT h5 h
        replace h := Option.some.inj h
        subst h
        exact ⟨CTri.toFin prim_ok mixed Tryz.func251 (by kernel_rfl) 3000 [.bit true, .bit false, .bit true, .no] [] [] [] false (by kernel_rfl) (ObsOk.cons (obBit h1) (ObsOk.cons (obBit h2) (ObsOk.cons (obBit h5) ObsOk.nil))) (by decide), ⟨trivial, trivial⟩, (fun _ h => nomatch h), trivial, (fun _ h => nomatch h)⟩
      · replace h := ifF h5 h
        replace h := Option.some.inj h
        subst h
        exact ⟨CTri.toFin prim_ok mixed Tryz.func251 (by kernel_rfl) 3000 [.bit true, .bit false, .bit false] [] [] [] false (by kernel_rfl) (ObsOk.cons (obBit h1) (ObsOk.cons (obBit h2) (ObsOk.cons (obBit h5) ObsOk.nil))) (by decide), ⟨trivial, trivial⟩, (fun _ h => nomatch h), trivial, (fun _ h => nomatch h)⟩
  · replace h := ifF h1 h
    obtain ⟨r6, h7, h⟩ := obind h
    rcases bcases r6 with h8 | h8
    · replace h := ifT h8 h
      obtain ⟨r9, h10, h⟩ := obind h
      rcases bcases r9 with h11 | h11
      · replace h := ifT h11 h
        replace h := Option.some.inj h
        subst h
        exact ⟨CTri.toFin prim_ok mixed Tryz.func251 (by kernel_rfl) 3000 [.bit false, .call [] [] 0 (ab r6) (some true), .call [] [] 0 (ab r9) (some true), .no] [] [] [] false (by kernel_rfl) (ObsOk.cons (obBit h1) (ObsOk.cons (obBit h8) (ObsOk.cons (obCall (c273 h7)) (ObsOk.cons (obBit h11) (ObsOk.cons (obCall (c274 h10)) ObsOk.nil))))) (by decide), ⟨trivial, trivial⟩, (fun _ h => nomatch h), trivial, (fun _ h => nomatch h)⟩
      · replace h := ifF h11 h
        rcases bcases (p0 != 160) with h12 | h12
        · replace h := ifT h12 h
          rcases bcases (decide (p0 < 8192)) with h13 | h13
          · replace h := ifT h13 h
            replace h := Option.some.inj h
            subst h
            exact ⟨CTri.toFin prim_ok mixed Tryz.func251 (by kernel_rfl) 3000 [.bit false, .call [] [] 0 (ab r6) (some true), .call [] [] 0 (ab r9) (some false), .no, .bit true, .bit true] [] [] [] false (by kernel_rfl) (ObsOk.cons (obBit h1) (ObsOk.cons (obBit h8) (ObsOk.cons (obCall (c273 h7)) (ObsOk.cons (obBit h11) (ObsOk.cons (obCall (c274 h10)) (ObsOk.cons (obBit h12) (ObsOk.cons (obBit h13) ObsOk.nil))))))) (by decide), ⟨trivial, trivial⟩, (fun _ h => nomatch h), trivial, (fun _ h => nomatch h)⟩
          · replace h := ifF h13 h
            replace h := Option.some.inj h
            subst h
            exact ⟨CTri.toFin prim_ok mixed Tryz.func251 (by kernel_rfl) 3000 [.bit false, .call [] [] 0 (ab r6) (some true), .call [] [] 0 (ab r9) (some false), .no, .bit true, .bit false, .no] [] [] [] false (by kernel_rfl) (ObsOk.cons (obBit h1) (ObsOk.cons (obBit h8) (ObsOk.cons (obCall (c273 h7)) (ObsOk.cons (obBit h11) (ObsOk.cons (obCall (c274 h10)) (ObsOk.cons (obBit h12) (ObsOk.cons (obBit h13) ObsOk.nil))))))) (by decide), ⟨trivial, trivial⟩, (fun _ h => nomatch h), trivial, (fun _ h => nomatch h)⟩
        · replace h := ifF h12 h
          replace h := Option.some.inj h
          subst h
          exact ⟨CTri.toFin prim_ok mixed Tryz.func251 (by kernel_rfl) 3000 [.bit false, .call [] [] 0 (ab r6) (some true), .call [] [] 0 (ab r9) (some false), .no, .bit false] [] [] [] false (by kernel_rfl) (ObsOk.cons (obBit h1) (ObsOk.cons (obBit h8) (ObsOk.cons (obCall (c273 h7)) (ObsOk.cons (obBit h11) (ObsOk.cons (obCall (c274 h10)) (ObsOk.cons (obBit h12) ObsOk.nil)))))) (by decide), ⟨trivial, trivial⟩, (fun _ h => nomatch h), trivial, (fun _ h => nomatch h)⟩
    · replace h := ifF h8 h
      replace h := Option.some.inj h
      subst h
      exact ⟨CTri.toFin prim_ok mixed Tryz.func251 (by kernel_rfl) 3000 [.bit false, .call [] [] 0 (ab r6) (some false)] [] [] [] false (by kernel_rfl) (ObsOk.cons (obBit h1) (ObsOk.cons (obBit h8) (ObsOk.cons (obCall (c273 h7)) ObsOk.nil))) (by decide), ⟨trivial, trivial⟩, (fun _ h => nomatch h), trivial, (fun _ h => nomatch h)⟩

/- scholium/name.Digit -/
def g272 (p0 : Int) : Option (Bool) :=
  none
theorem c272 {p0 : Int} {r : Bool} (h : g272 p0 = some r) : CT Tryz.prog 272 [] [ai p0] (ab r) [] 0 := by
  unfold g272 at h
  cases h

/- scholium/name.inner -/
def g250 (p0 : Int) : Option (Bool) :=
  (g251 p0) >>= fun r1 =>
  if r1 = true then
    some true
  else
    (g272 p0) >>= fun r4 =>
    if r4 = true then
      some true
    else
      if (p0 == 95) = true then
        some true
      else
        some (p0 == 39)
theorem c250 {p0 : Int} {r : Bool} (h : g250 p0 = some r) : CT Tryz.prog 250 [] [ai p0] (ab r) [] 0 := by
  unfold g250 at h
  obtain ⟨r1, h2, h⟩ := obind h
  rcases bcases r1 with h3 | h3
  · replace h := ifT h3 h
    replace h := Option.some.inj h
    subst h
    exact ⟨CTri.toFin prim_ok mixed Tryz.func250 (by kernel_rfl) 3000 [.call [] [] 0 (ab r1) (some true)] [] [] [] false (by kernel_rfl) (ObsOk.cons (obBit h3) (ObsOk.cons (obCall (c251 h2)) ObsOk.nil)) (by decide), ⟨trivial, trivial⟩, (fun _ h => nomatch h), trivial, (fun _ h => nomatch h)⟩
  · replace h := ifF h3 h
    obtain ⟨r4, h5, h⟩ := obind h
    rcases bcases r4 with h6 | h6
    · replace h := ifT h6 h
      replace h := Option.some.inj h
      subst h
      exact ⟨CTri.toFin prim_ok mixed Tryz.func250 (by kernel_rfl) 3000 [.call [] [] 0 (ab r1) (some false), .call [] [] 0 (ab r4) (some true)] [] [] [] false (by kernel_rfl) (ObsOk.cons (obBit h3) (ObsOk.cons (obCall (c251 h2)) (ObsOk.cons (obBit h6) (ObsOk.cons (obCall (c272 h5)) ObsOk.nil)))) (by decide), ⟨trivial, trivial⟩, (fun _ h => nomatch h), trivial, (fun _ h => nomatch h)⟩
    · replace h := ifF h6 h
      rcases bcases (p0 == 95) with h7 | h7
      · replace h := ifT h7 h
        replace h := Option.some.inj h
        subst h
        exact ⟨CTri.toFin prim_ok mixed Tryz.func250 (by kernel_rfl) 3000 [.call [] [] 0 (ab r1) (some false), .call [] [] 0 (ab r4) (some false), .bit true] [] [] [] false (by kernel_rfl) (ObsOk.cons (obBit h3) (ObsOk.cons (obCall (c251 h2)) (ObsOk.cons (obBit h6) (ObsOk.cons (obCall (c272 h5)) (ObsOk.cons (obBit h7) ObsOk.nil))))) (by decide), ⟨trivial, trivial⟩, (fun _ h => nomatch h), trivial, (fun _ h => nomatch h)⟩
      · replace h := ifF h7 h
        replace h := Option.some.inj h
        subst h
        exact ⟨CTri.toFin prim_ok mixed Tryz.func250 (by kernel_rfl) 3000 [.call [] [] 0 (ab r1) (some false), .call [] [] 0 (ab r4) (some false), .bit false, .no] [] [] [] false (by kernel_rfl) (ObsOk.cons (obBit h3) (ObsOk.cons (obCall (c251 h2)) (ObsOk.cons (obBit h6) (ObsOk.cons (obCall (c272 h5)) (ObsOk.cons (obBit h7) ObsOk.nil))))) (by decide), ⟨trivial, trivial⟩, (fun _ h => nomatch h), trivial, (fun _ h => nomatch h)⟩

/- scholium/name.Right -/
def g215L0 (r1 : List Int × Int × Int) (v32 : Int) : Option (Bool) :=
  if decide (v32 < (List.length r1.1 : Int)) = true then
    (gidx r1.1 v32) >>= fun x10 =>
    (g250 x10) >>= fun r12 =>
    if r12 = true then
      g215L0 r1 (w64 (v32 + 1))
    else
      some false
  else
    (gidx r1.1 0) >>= fun x15 =>
    (g251 x15) >>= fun r17 =>
    if r17 = true then
      some true
    else
      if (x15 == 95) = true then
        some (decide ((List.length r1.1 : Int) > 1))
      else
        some false
 partial_fixpoint
def g215 (p0 : ByteArray) : Option (Bool) :=
  (g248 p0) >>= fun r1 =>
  if (r1.2.2 != 0) = true then
    some false
  else
    if ((List.length r1.1 : Int) == 0) = true then
      some false
    else
      if decide ((p0.size : Int) > 40) = true then
        some false
      else
        (g249 p0) >>= fun r6 =>
        if r6 = true then
          some false
        else
          g215L0 r1 0
def g215L0E0 (j : Nat → Value) (r1 : List Int × Int × Int) (v32 : Int) : List AV := [.val (j 0), .val (j 1), .val (j 2), .sl (flat intC r1.1) (List.length r1.1) .no, .val (j 4), .val (j 5), .val (j 6), .val (j 7), .val (j 8), .val (j 9), .val (j 10), .val (j 11), .val (j 12), .val (j 13), .val (j 14), .val (j 15), .val (j 16), .val (j 17), .val (j 18), .val (j 19), .val (j 20), .val (j 21), .val (j 22), .val (j 23), .val (j 24), .val (j 25), .val (j 26), .val (j 27), .val (j 28), .val (j 29), .sl (flat intC r1.1) (List.length r1.1) .no, ai (List.length r1.1 : Int), ai v32, .val (j 33), .val (j 34), .val (j 35), .val (j 36), .val (j 37), .val (j 38), .val (j 39), .val (j 40), .val (j 41), .val (j 42), .val (j 43), .val (j 44), .val (j 45), .val (j 46), .val (j 47), .val (j 48), .val (j 49), .val (j 50), .val (j 51), .val (j 52), .val (j 53), .val (j 54)]
def g215L0S0 (r1 : List Int × Int × Int) (v32 : Int) : LSt := ⟨[], 0, [], 0, []⟩
theorem l215L0 {r1 : List Int × Int × Int} {v32 : Int} {r : Bool} (h : g215L0 r1 v32 = some r) : (∀ j, Dl Tryz.prog 0 (inn (inn (rgt (lft (rgt (rgt (rgt (bod Tryz.f215)))))))) (g215L0E0 j r1 v32) (g215L0S0 r1 v32) (frameQ Tryz.prog 0 (FinQ Tryz.prog 0 Tryz.f215 (ab r) [] 0) [.blk 0, .seq (rgt (rgt (rgt (rgt (bod Tryz.f215)))))])) := by
  refine g215L0.partial_correctness r1 (fun v32 r => (∀ j, Dl Tryz.prog 0 (inn (inn (rgt (lft (rgt (rgt (rgt (bod Tryz.f215)))))))) (g215L0E0 j r1 v32) (g215L0S0 r1 v32) (frameQ Tryz.prog 0 (FinQ Tryz.prog 0 Tryz.f215 (ab r) [] 0) [.blk 0, .seq (rgt (rgt (rgt (rgt (bod Tryz.f215)))))]))) ?_ v32 _ h
  clear h
  intro g215L0 ihg215L0 v32 r h
  rcases bcases (decide (v32 < (List.length r1.1 : Int))) with h9 | h9
  · replace h := ifT h9 h
    obtain ⟨x10, h11, h⟩ := obind h
    obtain ⟨r12, h13, h⟩ := obind h
    rcases bcases r12 with h14 | h14
    · replace h := ifT h14 h
      exact fun j => Dl.toHead prim_ok mixed 3000 [.bit true, .av (.ip (intC x10 ++ flat intC (List.drop (Int.toNat v32 + 1) r1.1))), .no, .call [] [] 0 (ab r12) (some true), .no, .no] [] [] [] [3, 30, 31, 32] (E := fun j => g215L0E0 j r1 (w64 (v32 + 1))) (S := g215L0S0 r1 (w64 (v32 + 1))) (fun j => by kernel_rfl) (ObsOk.cons (obBit h9) (ObsOk.cons (obAv (ix52 (o := .no) h11)) (ObsOk.cons (obBit h14) (ObsOk.cons (obCall (c250 h13)) (ObsOk.cons (obData (dI r1.1)) (ObsOk.cons (obData (dI r1.1)) ObsOk.nil)))))) (ihg215L0 _ _ h)
    · replace h := ifF h14 h
      replace h := Option.some.inj h
      subst h
      exact fun j => Dl.toFin prim_ok mixed 3000 [.bit true, .av (.ip (intC x10 ++ flat intC (List.drop (Int.toNat v32 + 1) r1.1))), .no, .call [] [] 0 (ab r12) (some false), .no] [] [] [] false (by kernel_rfl) (ObsOk.cons (obBit h9) (ObsOk.cons (obAv (ix52 (o := .no) h11)) (ObsOk.cons (obBit h14) (ObsOk.cons (obCall (c250 h13)) ObsOk.nil)))) (by decide)
  · replace h := ifF h9 h
    obtain ⟨x15, h16, h⟩ := obind h
    obtain ⟨r17, h18, h⟩ := obind h
    rcases bcases r17 with h19 | h19
    · replace h := ifT h19 h
      replace h := Option.some.inj h
      subst h
      exact fun j => Dl.toFin prim_ok mixed 3000 [.bit false, .av (.ip (intC x15 ++ flat intC (List.drop (Int.toNat 0 + 1) r1.1))), .no, .call [] [] 0 (ab r17) (some true)] [] [] [] false (by kernel_rfl) (ObsOk.cons (obBit h9) (ObsOk.cons (obAv (ix52 (o := .no) h16)) (ObsOk.cons (obBit h19) (ObsOk.cons (obCall (c251 h18)) ObsOk.nil)))) (by decide)
    · replace h := ifF h19 h
      rcases bcases (x15 == 95) with h20 | h20
      · replace h := ifT h20 h
        replace h := Option.some.inj h
        subst h
        exact fun j => Dl.toFin prim_ok mixed 3000 [.bit false, .av (.ip (intC x15 ++ flat intC (List.drop (Int.toNat 0 + 1) r1.1))), .no, .call [] [] 0 (ab r17) (some false), .av (.ip (intC x15 ++ flat intC (List.drop (Int.toNat 0 + 1) r1.1))), .no, .bit true, .no, .no] [] [] [] false (by kernel_rfl) (ObsOk.cons (obBit h9) (ObsOk.cons (obAv (ix52 (o := .no) h16)) (ObsOk.cons (obBit h19) (ObsOk.cons (obCall (c251 h18)) (ObsOk.cons (obAv (ix52 (o := .no) h16)) (ObsOk.cons (obBit h20) ObsOk.nil)))))) (by decide)
      · replace h := ifF h20 h
        replace h := Option.some.inj h
        subst h
        exact fun j => Dl.toFin prim_ok mixed 3000 [.bit false, .av (.ip (intC x15 ++ flat intC (List.drop (Int.toNat 0 + 1) r1.1))), .no, .call [] [] 0 (ab r17) (some false), .av (.ip (intC x15 ++ flat intC (List.drop (Int.toNat 0 + 1) r1.1))), .no, .bit false] [] [] [] false (by kernel_rfl) (ObsOk.cons (obBit h9) (ObsOk.cons (obAv (ix52 (o := .no) h16)) (ObsOk.cons (obBit h19) (ObsOk.cons (obCall (c251 h18)) (ObsOk.cons (obAv (ix52 (o := .no) h16)) (ObsOk.cons (obBit h20) ObsOk.nil)))))) (by decide)
theorem c215 {p0 : ByteArray} {r : Bool} (h : g215 p0 = some r) : CT Tryz.prog 215 [] [at' p0] (ab r) [] 0 := by
  unfold g215 at h
  obtain ⟨r1, h2, h⟩ := obind h
  rcases bcases (r1.2.2 != 0) with h3 | h3
  · replace h := ifT h3 h
    replace h := Option.some.inj h
    subst h
    exact ⟨CTri.toFin prim_ok mixed Tryz.func215 (by kernel_rfl) 3000 [.call [] [] 0 (.tup [.sl (flat intC r1.1) (List.length r1.1) .no, ai r1.2.1, ai r1.2.2]) none, .no, .no, .no, .bit true] [] [] [] false (by kernel_rfl) (ObsOk.cons (obCall (c248 h2)) (ObsOk.cons (obBit h3) ObsOk.nil)) (by decide), ⟨trivial, trivial⟩, (fun _ h => nomatch h), trivial, (fun _ h => nomatch h)⟩
  · replace h := ifF h3 h
    rcases bcases ((List.length r1.1 : Int) == 0) with h4 | h4
    · replace h := ifT h4 h
      replace h := Option.some.inj h
      subst h
      exact ⟨CTri.toFin prim_ok mixed Tryz.func215 (by kernel_rfl) 3000 [.call [] [] 0 (.tup [.sl (flat intC r1.1) (List.length r1.1) .no, ai r1.2.1, ai r1.2.2]) none, .no, .no, .no, .bit false, .no, .bit true] [] [] [] false (by kernel_rfl) (ObsOk.cons (obCall (c248 h2)) (ObsOk.cons (obBit h3) (ObsOk.cons (obBit h4) ObsOk.nil))) (by decide), ⟨trivial, trivial⟩, (fun _ h => nomatch h), trivial, (fun _ h => nomatch h)⟩
    · replace h := ifF h4 h
      rcases bcases (decide ((p0.size : Int) > 40)) with h5 | h5
      · replace h := ifT h5 h
        replace h := Option.some.inj h
        subst h
        exact ⟨CTri.toFin prim_ok mixed Tryz.func215 (by kernel_rfl) 3000 [.call [] [] 0 (.tup [.sl (flat intC r1.1) (List.length r1.1) .no, ai r1.2.1, ai r1.2.2]) none, .no, .no, .no, .bit false, .no, .bit false, .no, .bit true] [] [] [] false (by kernel_rfl) (ObsOk.cons (obCall (c248 h2)) (ObsOk.cons (obBit h3) (ObsOk.cons (obBit h4) (ObsOk.cons (obBit h5) ObsOk.nil)))) (by decide), ⟨trivial, trivial⟩, (fun _ h => nomatch h), trivial, (fun _ h => nomatch h)⟩
      · replace h := ifF h5 h
        obtain ⟨r6, h7, h⟩ := obind h
        rcases bcases r6 with h8 | h8
        · replace h := ifT h8 h
          replace h := Option.some.inj h
          subst h
          exact ⟨CTri.toFin prim_ok mixed Tryz.func215 (by kernel_rfl) 3000 [.call [] [] 0 (.tup [.sl (flat intC r1.1) (List.length r1.1) .no, ai r1.2.1, ai r1.2.2]) none, .no, .no, .no, .bit false, .no, .bit false, .no, .bit false, .call [] [] 0 (ab r6) (some true)] [] [] [] false (by kernel_rfl) (ObsOk.cons (obCall (c248 h2)) (ObsOk.cons (obBit h3) (ObsOk.cons (obBit h4) (ObsOk.cons (obBit h5) (ObsOk.cons (obBit h8) (ObsOk.cons (obCall (c249 h7)) ObsOk.nil)))))) (by decide), ⟨trivial, trivial⟩, (fun _ h => nomatch h), trivial, (fun _ h => nomatch h)⟩
        · replace h := ifF h8 h
          exact ⟨CTri.toHead prim_ok mixed Tryz.func215 (by kernel_rfl) 3000 [.call [] [] 0 (.tup [.sl (flat intC r1.1) (List.length r1.1) .no, ai r1.2.1, ai r1.2.2]) none, .no, .no, .no, .bit false, .no, .bit false, .no, .bit false, .call [] [] 0 (ab r6) (some false), .no] [] [] [] [3, 30, 31, 32] (E := fun j => g215L0E0 j r1 0) (S := g215L0S0 r1 0) (fun j => by kernel_rfl) (ObsOk.cons (obCall (c248 h2)) (ObsOk.cons (obBit h3) (ObsOk.cons (obBit h4) (ObsOk.cons (obBit h5) (ObsOk.cons (obBit h8) (ObsOk.cons (obCall (c249 h7)) (ObsOk.cons (obData (dI r1.1)) (ObsOk.cons (obData (dI r1.1)) ObsOk.nil)))))))) (l215L0 h), ⟨trivial, trivial⟩, (fun _ h => nomatch h), trivial, (fun _ h => nomatch h)⟩

/- scholium/term.under -/
def g234 (p0 : Tm) (p1 : Int) : Option (Int) :=
  if (p1 == 1) = true then
    if (p0.k == 3) = true then
      some 1
    else
      if (p0.k == 4) = true then
        some 1
      else
        some 0
  else
    some 0
theorem c234 {p0 : Tm} {p1 : Int} {r : Int} (h : g234 p0 p1 = some r) : CT Tryz.prog 234 [] [tmA p0, ai p1] (ai r) [] 0 := by
  unfold g234 at h
  rcases bcases (p1 == 1) with h1 | h1
  · replace h := ifT h1 h
    rcases bcases (p0.k == 3) with h2 | h2
    · replace h := ifT h2 h
      replace h := Option.some.inj h
      subst h
      exact ⟨CTri.toFin prim_ok mixed Tryz.func234 (by kernel_rfl) 3000 [.bit true, .no, .bit true] [] [] [] false (by kernel_rfl) (ObsOk.cons (obBit h1) (ObsOk.cons (obBit h2) ObsOk.nil)) (by decide), ⟨⟨trivial, trivial, ⟨trivial, dT _⟩, trivial⟩, trivial, trivial⟩, (fun _ h => nomatch h), trivial, (fun _ h => nomatch h)⟩
    · replace h := ifF h2 h
      rcases bcases (p0.k == 4) with h3 | h3
      · replace h := ifT h3 h
        replace h := Option.some.inj h
        subst h
        exact ⟨CTri.toFin prim_ok mixed Tryz.func234 (by kernel_rfl) 3000 [.bit true, .no, .bit false, .no, .bit true] [] [] [] false (by kernel_rfl) (ObsOk.cons (obBit h1) (ObsOk.cons (obBit h2) (ObsOk.cons (obBit h3) ObsOk.nil))) (by decide), ⟨⟨trivial, trivial, ⟨trivial, dT _⟩, trivial⟩, trivial, trivial⟩, (fun _ h => nomatch h), trivial, (fun _ h => nomatch h)⟩
      · replace h := ifF h3 h
        replace h := Option.some.inj h
        subst h
        exact ⟨CTri.toFin prim_ok mixed Tryz.func234 (by kernel_rfl) 3000 [.bit true, .no, .bit false, .no, .bit false] [] [] [] false (by kernel_rfl) (ObsOk.cons (obBit h1) (ObsOk.cons (obBit h2) (ObsOk.cons (obBit h3) ObsOk.nil))) (by decide), ⟨⟨trivial, trivial, ⟨trivial, dT _⟩, trivial⟩, trivial, trivial⟩, (fun _ h => nomatch h), trivial, (fun _ h => nomatch h)⟩
  · replace h := ifF h1 h
    replace h := Option.some.inj h
    subst h
    exact ⟨CTri.toFin prim_ok mixed Tryz.func234 (by kernel_rfl) 3000 [.bit false] [] [] [] false (by kernel_rfl) (ObsOk.cons (obBit h1) ObsOk.nil) (by decide), ⟨⟨trivial, trivial, ⟨trivial, dT _⟩, trivial⟩, trivial, trivial⟩, (fun _ h => nomatch h), trivial, (fun _ h => nomatch h)⟩

/- scholium/term.loose -/
mutual
def g189 (p0 : Tm) (p1 : Int) : Option (Int) :=
  if (p0.k == 1) = true then
    some (imax 0 (w64 ((w64 (p0.n + 1)) - p1)))
  else
    g189L0 p0 p1 0 0
 partial_fixpoint
def g189L0 (p0 : Tm) (p1 : Int) (v20 : Int) (v5 : Int) : Option (Int) :=
  if decide (v20 < (List.length p0.sub : Int)) = true then
    (gidx p0.sub v20) >>= fun x3 =>
    (g234 p0 v20) >>= fun r5 =>
    (g189 x3 (w64 (p1 + r5))) >>= fun r7 =>
    g189L0 p0 p1 (w64 (v20 + 1)) (imax v5 r7)
  else
    some v5
 partial_fixpoint
end
def g189L0E0 (j : Nat → Value) (p0 : Tm) (p1 : Int) (v20 : Int) (v5 : Int) : List AV := [.val (j 0), ai p1, .mp 0 0, .val (j 3), .val (j 4), ai v5, .val (j 6), .val (j 7), .val (j 8), .val (j 9), .val (j 10), .val (j 11), .val (j 12), .val (j 13), .val (j 14), .val (j 15), .val (j 16), .val (j 17), .sl (flat tmCells p0.sub) (List.length p0.sub) .no, ai (List.length p0.sub : Int), ai v20, .val (j 21), .val (j 22), .val (j 23), .val (j 24), .val (j 25), .val (j 26), .val (j 27), .val (j 28), .val (j 29), .val (j 30), .val (j 31), .val (j 32), .val (j 33), .val (j 34), .val (j 35)]
def g189L0S0 (p0 : Tm) (p1 : Int) (v20 : Int) (v5 : Int) : LSt := ⟨[(0, .cells [ai p0.k, ai p0.n, .sl (flat tmCells p0.sub) (List.length p0.sub) .no])], 1, [], 0, []⟩
theorem a189_189L0  : (∀ (p0 : Tm) (p1 : Int) (r : Int), g189 p0 p1 = some r → CT Tryz.prog 189 [] [tmA p0, ai p1] (ai r) [] 0) ∧ (∀ (p0 : Tm) (p1 : Int) (v20 : Int) (v5 : Int) (r : Int), g189L0 p0 p1 v20 v5 = some r → (∀ j, Dl Tryz.prog 0 (inn (inn (rgt (lft (rgt (rgt (rgt (bod Tryz.f189)))))))) (g189L0E0 j p0 p1 v20 v5) (g189L0S0 p0 p1 v20 v5) (frameQ Tryz.prog 0 (FinQ Tryz.prog 0 Tryz.f189 (ai r) [] 0) [.blk 0, .seq (rgt (rgt (rgt (rgt (bod Tryz.f189)))))]))) := by
  refine g189.mutual_partial_correctness  (fun p0 p1 r => CT Tryz.prog 189 [] [tmA p0, ai p1] (ai r) [] 0) (fun p0 p1 v20 v5 r => (∀ j, Dl Tryz.prog 0 (inn (inn (rgt (lft (rgt (rgt (rgt (bod Tryz.f189)))))))) (g189L0E0 j p0 p1 v20 v5) (g189L0S0 p0 p1 v20 v5) (frameQ Tryz.prog 0 (FinQ Tryz.prog 0 Tryz.f189 (ai r) [] 0) [.blk 0, .seq (rgt (rgt (rgt (rgt (bod Tryz.f189)))))]))) ?_ ?_
  · intro g189L0 ihg189L0 p0 p1 r h
    rcases bcases (p0.k == 1) with h1 | h1
    · replace h := ifT h1 h
      replace h := Option.some.inj h
      subst h
      exact ⟨CTri.toFin prim_ok mixed Tryz.func189 (by kernel_rfl) 3000 [.no, .bit true, .no, .no, .no, .no] [] [] [] false (by kernel_rfl) (ObsOk.cons (obBit h1) ObsOk.nil) (by decide), ⟨⟨trivial, trivial, ⟨trivial, dT _⟩, trivial⟩, trivial, trivial⟩, (fun _ h => nomatch h), trivial, (fun _ h => nomatch h)⟩
    · replace h := ifF h1 h
      exact ⟨CTri.toHead prim_ok mixed Tryz.func189 (by kernel_rfl) 3000 [.no, .bit false, .no, .no] [] [0] [] [1, 2, 5, 18, 19, 20] (E := fun j => g189L0E0 j p0 p1 0 0) (S := g189L0S0 p0 p1 0 0) (fun j => by kernel_rfl) (ObsOk.cons (obBit h1) (ObsOk.cons (obData (dT p0.sub)) (ObsOk.cons (obData (dT p0.sub)) ObsOk.nil))) (ihg189L0 _ _ _ _ _ h), ⟨⟨trivial, trivial, ⟨trivial, dT _⟩, trivial⟩, trivial, trivial⟩, (fun _ h => nomatch h), trivial, (fun _ h => nomatch h)⟩
  · intro g189 g189L0 ih189 ihg189L0 p0 p1 v20 v5 r h
    rcases bcases (decide (v20 < (List.length p0.sub : Int))) with h2 | h2
    · replace h := ifT h2 h
      obtain ⟨x3, h4, h⟩ := obind h
      obtain ⟨r5, h6, h⟩ := obind h
      obtain ⟨r7, h8, h⟩ := obind h
      exact fun j => Dl.toHead prim_ok mixed 3000 [.bit true, .av (.ip (tmL x3 ++ flat tmCells (List.drop (Int.toNat v20 + 1) p0.sub))), .no, .no, .no, .no, .call [] [] 0 (ai r5) none, .no, .call [] [] 0 (ai r7) none, .no, .no] [] [0] [] [1, 2, 5, 18, 19, 20] (E := fun j => g189L0E0 j p0 p1 (w64 (v20 + 1)) (imax v5 r7)) (S := g189L0S0 p0 p1 (w64 (v20 + 1)) (imax v5 r7)) (fun j => by kernel_rfl) (ObsOk.cons (obBit h2) (ObsOk.cons (obAv (ix22 (o := .no) h4)) (ObsOk.cons (obCall (c234 h6)) (ObsOk.cons (obCall (ih189 _ _ _ h8)) (ObsOk.cons (obData (dT p0.sub)) (ObsOk.cons (obData (dT p0.sub)) ObsOk.nil)))))) (ihg189L0 _ _ _ _ _ h)
    · replace h := ifF h2 h
      replace h := Option.some.inj h
      subst h
      exact fun j => Dl.toFin prim_ok mixed 3000 [.bit false] [] [] [] false (by kernel_rfl) (ObsOk.cons (obBit h2) ObsOk.nil) (by decide)
theorem c189 {p0 : Tm} {p1 : Int} {r : Int} (h : g189 p0 p1 = some r) : CT Tryz.prog 189 [] [tmA p0, ai p1] (ai r) [] 0 := (a189_189L0 ).1 _ _ _ h
theorem l189L0 {p0 : Tm} {p1 : Int} {v20 : Int} {v5 : Int} {r : Int} (h : g189L0 p0 p1 v20 v5 = some r) : (∀ j, Dl Tryz.prog 0 (inn (inn (rgt (lft (rgt (rgt (rgt (bod Tryz.f189)))))))) (g189L0E0 j p0 p1 v20 v5) (g189L0S0 p0 p1 v20 v5) (frameQ Tryz.prog 0 (FinQ Tryz.prog 0 Tryz.f189 (ai r) [] 0) [.blk 0, .seq (rgt (rgt (rgt (rgt (bod Tryz.f189)))))])) := (a189_189L0 ).2 _ _ _ _ _ h

/- scholium/term.collect -/
mutual
def g236 (p0 : Tm) (p1 : Int) (p2 : Int) : Option (List Int) :=
  if (p0.k == p1) = true then
    (gapp 8 ([] : List Int) [p0.n]) >>= fun l2 =>
    g236L0 p0 p1 p2 0 l2
  else
    if (p0.k == p2) = true then
      (gapp 8 ([] : List Int) [p0.n]) >>= fun l5 =>
      g236L0 p0 p1 p2 0 l5
    else
      g236L0 p0 p1 p2 0 []
 partial_fixpoint
def g236L0 (p0 : Tm) (p1 : Int) (p2 : Int) (v28 : Int) (v7 : List Int) : Option (List Int) :=
  if decide (v28 < (List.length p0.sub : Int)) = true then
    (gidx p0.sub v28) >>= fun x5 =>
    (g236 x5 p1 p2) >>= fun r7 =>
    (gapp 8 v7 r7) >>= fun l9 =>
    g236L0 p0 p1 p2 (w64 (v28 + 1)) l9
  else
    some v7
 partial_fixpoint
end
def g236L0E0 (j : Nat → Value) (p0 : Tm) (p1 : Int) (p2 : Int) (v28 : Int) (v7 : List Int) : List AV := [.val (j 0), ai p1, ai p2, .val (j 3), .val (j 4), .val (j 5), .val (j 6), .sl (flat intC v7) (List.length v7) (.st 0 1), .val (j 8), .val (j 9), .val (j 10), .val (j 11), .val (j 12), .val (j 13), .val (j 14), .val (j 15), .val (j 16), .val (j 17), .val (j 18), .val (j 19), .val (j 20), .val (j 21), .val (j 22), .val (j 23), .val (j 24), .val (j 25), .sl (flat tmCells p0.sub) (List.length p0.sub) .no, ai (List.length p0.sub : Int), ai v28, .val (j 29), .val (j 30), .val (j 31), .val (j 32), .val (j 33), .val (j 34), .val (j 35), .val (j 36), .val (j 37), .val (j 38), .val (j 39)]
def g236L0S0 (p0 : Tm) (p1 : Int) (p2 : Int) (v28 : Int) (v7 : List Int) : LSt := ⟨[], 0, [0], 1, []⟩
def g236L0E1 (j : Nat → Value) (p0 : Tm) (p1 : Int) (p2 : Int) (v28 : Int) (v7 : List Int) : List AV := [.val (j 0), ai p1, ai p2, .val (j 3), .val (j 4), .val (j 5), .val (j 6), .sl (flat intC v7) (List.length v7) .nl, .val (j 8), .val (j 9), .val (j 10), .val (j 11), .val (j 12), .val (j 13), .val (j 14), .val (j 15), .val (j 16), .val (j 17), .val (j 18), .val (j 19), .val (j 20), .val (j 21), .val (j 22), .val (j 23), .val (j 24), .val (j 25), .sl (flat tmCells p0.sub) (List.length p0.sub) .no, ai (List.length p0.sub : Int), ai v28, .val (j 29), .val (j 30), .val (j 31), .val (j 32), .val (j 33), .val (j 34), .val (j 35), .val (j 36), .val (j 37), .val (j 38), .val (j 39)]
def g236L0S1 (p0 : Tm) (p1 : Int) (p2 : Int) (v28 : Int) (v7 : List Int) : LSt := ⟨[], 0, [], 0, []⟩
theorem a236_236L0 (p1 : Int) (p2 : Int) : (∀ (p0 : Tm) (r : List Int), g236 p0 p1 p2 = some r → CT Tryz.prog 236 [] [tmA p0, ai p1, ai p2] (.sl (flat intC r) (List.length r) (.st 0 1)) [] 1) ∧ (∀ (p0 : Tm) (v28 : Int) (v7 : List Int) (r : List Int), g236L0 p0 p1 p2 v28 v7 = some r → (∀ j, Dl Tryz.prog 0 (inn (inn (rgt (lft (rgt (rgt (rgt (bod Tryz.f236)))))))) (g236L0E0 j p0 p1 p2 v28 v7) (g236L0S0 p0 p1 p2 v28 v7) (frameQ Tryz.prog 0 (FinQ Tryz.prog 0 Tryz.f236 (.sl (flat intC r) (List.length r) (.st 0 1)) [] 1) [.blk 0, .seq (rgt (rgt (rgt (rgt (bod Tryz.f236)))))])) ∧ (∀ j, Dl Tryz.prog 0 (inn (inn (rgt (lft (rgt (rgt (rgt (bod Tryz.f236)))))))) (g236L0E1 j p0 p1 p2 v28 v7) (g236L0S1 p0 p1 p2 v28 v7) (frameQ Tryz.prog 0 (FinQ Tryz.prog 0 Tryz.f236 (.sl (flat intC r) (List.length r) (.st 0 1)) [] 1) [.blk 0, .seq (rgt (rgt (rgt (rgt (bod Tryz.f236)))))]))) := by
  refine g236.mutual_partial_correctness p1 p2 (fun p0 r => CT Tryz.prog 236 [] [tmA p0, ai p1, ai p2] (.sl (flat intC r) (List.length r) (.st 0 1)) [] 1) (fun p0 v28 v7 r => (∀ j, Dl Tryz.prog 0 (inn (inn (rgt (lft (rgt (rgt (rgt (bod Tryz.f236)))))))) (g236L0E0 j p0 p1 p2 v28 v7) (g236L0S0 p0 p1 p2 v28 v7) (frameQ Tryz.prog 0 (FinQ Tryz.prog 0 Tryz.f236 (.sl (flat intC r) (List.length r) (.st 0 1)) [] 1) [.blk 0, .seq (rgt (rgt (rgt (rgt (bod Tryz.f236)))))])) ∧ (∀ j, Dl Tryz.prog 0 (inn (inn (rgt (lft (rgt (rgt (rgt (bod Tryz.f236)))))))) (g236L0E1 j p0 p1 p2 v28 v7) (g236L0S1 p0 p1 p2 v28 v7) (frameQ Tryz.prog 0 (FinQ Tryz.prog 0 Tryz.f236 (.sl (flat intC r) (List.length r) (.st 0 1)) [] 1) [.blk 0, .seq (rgt (rgt (rgt (rgt (bod Tryz.f236)))))]))) ?_ ?_
  · intro g236L0 ihg236L0 p0 r h
    rcases bcases (p0.k == p1) with h1 | h1
    · replace h := ifT h1 h
      obtain ⟨l2, h3, h⟩ := obind h
      exact ⟨CTri.toHead prim_ok mixed Tryz.func236 (by kernel_rfl) 3000 [.no, .bit true, .no, .no, .app (flat intC l2) (List.length l2) 1 false, .no, .no] [] [] [0] [1, 2, 7, 26, 27, 28] (E := fun j => g236L0E0 j p0 p1 p2 0 l2) (S := g236L0S0 p0 p1 p2 0 l2) (fun j => by kernel_rfl) (ObsOk.cons (obBit h1) (ObsOk.cons (apS52 h3 (by simp)) (ObsOk.cons (obData (dI l2)) (ObsOk.cons (obData (dT p0.sub)) ObsOk.nil)))) ((ihg236L0 _ _ _ _ h).1), ⟨⟨trivial, trivial, ⟨trivial, dT _⟩, trivial⟩, trivial, trivial, trivial⟩, (fun _ h => nomatch h), dI _, (fun _ h => nomatch h)⟩
    · replace h := ifF h1 h
      rcases bcases (p0.k == p2) with h4 | h4
      · replace h := ifT h4 h
        obtain ⟨l5, h6, h⟩ := obind h
        exact ⟨CTri.toHead prim_ok mixed Tryz.func236 (by kernel_rfl) 3000 [.no, .bit false, .no, .bit true, .no, .no, .app (flat intC l5) (List.length l5) 1 false, .no, .no] [] [] [0] [1, 2, 7, 26, 27, 28] (E := fun j => g236L0E0 j p0 p1 p2 0 l5) (S := g236L0S0 p0 p1 p2 0 l5) (fun j => by kernel_rfl) (ObsOk.cons (obBit h1) (ObsOk.cons (obBit h4) (ObsOk.cons (apS52 h6 (by simp)) (ObsOk.cons (obData (dI l5)) (ObsOk.cons (obData (dT p0.sub)) ObsOk.nil))))) ((ihg236L0 _ _ _ _ h).1), ⟨⟨trivial, trivial, ⟨trivial, dT _⟩, trivial⟩, trivial, trivial, trivial⟩, (fun _ h => nomatch h), dI _, (fun _ h => nomatch h)⟩
      · replace h := ifF h4 h
        exact ⟨CTri.toHead prim_ok mixed Tryz.func236 (by kernel_rfl) 3000 [.no, .bit false, .no, .bit false, .no, .no] [] [] [] [1, 2, 7, 26, 27, 28] (E := fun j => g236L0E1 j p0 p1 p2 0 []) (S := g236L0S1 p0 p1 p2 0 []) (fun j => by kernel_rfl) (ObsOk.cons (obBit h1) (ObsOk.cons (obBit h4) (ObsOk.cons (obData (dI ([] : List Int))) (ObsOk.cons (obData (dT p0.sub)) ObsOk.nil)))) ((ihg236L0 _ _ _ _ h).2), ⟨⟨trivial, trivial, ⟨trivial, dT _⟩, trivial⟩, trivial, trivial, trivial⟩, (fun _ h => nomatch h), dI _, (fun _ h => nomatch h)⟩
  · intro g236 g236L0 ih236 ihg236L0 p0 v28 v7 r h
    refine ⟨?_, ?_⟩
    · rcases bcases (decide (v28 < (List.length p0.sub : Int))) with h4 | h4
      · replace h := ifT h4 h
        obtain ⟨x5, h6, h⟩ := obind h
        obtain ⟨r7, h8, h⟩ := obind h
        obtain ⟨l9, h10, h⟩ := obind h
        by_cases h11 : List.length r7 = 0
        · exact fun j => Dl.toHead prim_ok mixed 3000 [.bit true, .av (.ip (tmL x5 ++ flat tmCells (List.drop (Int.toNat v28 + 1) p0.sub))), .no, .no, .no, .call [] [] 1 (.sl (flat intC r7) (List.length r7) (.st 0 1)) none, .app (flat intC l9) (List.length l9) 1 true, .no] [] [] [0] [1, 2, 7, 26, 27, 28] (E := fun j => g236L0E0 j p0 p1 p2 (w64 (v28 + 1)) l9) (S := g236L0S0 p0 p1 p2 (w64 (v28 + 1)) l9) (fun j => by kernel_rfl) (ObsOk.cons (obBit h4) (ObsOk.cons (obAv (ix22 (o := .no) h6)) (ObsOk.cons (obCall (ih236 _ _ h8)) (ObsOk.cons (apN52 h10 h11) (ObsOk.cons (obData (dI l9)) (ObsOk.cons (obData (dT p0.sub)) ObsOk.nil)))))) ((ihg236L0 _ _ _ _ h).1)
        · exact fun j => Dl.toHead prim_ok mixed 3000 [.bit true, .av (.ip (tmL x5 ++ flat tmCells (List.drop (Int.toNat v28 + 1) p0.sub))), .no, .no, .no, .call [] [] 1 (.sl (flat intC r7) (List.length r7) (.st 0 1)) none, .app (flat intC l9) (List.length l9) 1 false, .no] [] [] [2] [1, 2, 7, 26, 27, 28] (E := fun j => g236L0E0 j p0 p1 p2 (w64 (v28 + 1)) l9) (S := g236L0S0 p0 p1 p2 (w64 (v28 + 1)) l9) (fun j => by kernel_rfl) (ObsOk.cons (obBit h4) (ObsOk.cons (obAv (ix22 (o := .no) h6)) (ObsOk.cons (obCall (ih236 _ _ h8)) (ObsOk.cons (apS52 h10 h11) (ObsOk.cons (obData (dI l9)) (ObsOk.cons (obData (dT p0.sub)) ObsOk.nil)))))) ((ihg236L0 _ _ _ _ h).1)
      · replace h := ifF h4 h
        replace h := Option.some.inj h
        subst h
        exact fun j => Dl.toFin prim_ok mixed 3000 [.bit false] [] [] [0] true (by kernel_rfl) (ObsOk.cons (obBit h4) (ObsOk.cons (obData (dI v7)) ObsOk.nil)) (by decide)
    · rcases bcases (decide (v28 < (List.length p0.sub : Int))) with h4 | h4
      · replace h := ifT h4 h
        obtain ⟨x5, h6, h⟩ := obind h
        obtain ⟨r7, h8, h⟩ := obind h
        obtain ⟨l9, h10, h⟩ := obind h
        by_cases h11 : List.length r7 = 0
        · exact fun j => Dl.toHead prim_ok mixed 3000 [.bit true, .av (.ip (tmL x5 ++ flat tmCells (List.drop (Int.toNat v28 + 1) p0.sub))), .no, .no, .no, .call [] [] 1 (.sl (flat intC r7) (List.length r7) (.st 0 1)) none, .app (flat intC l9) (List.length l9) 1 true, .no] [] [] [] [1, 2, 7, 26, 27, 28] (E := fun j => g236L0E1 j p0 p1 p2 (w64 (v28 + 1)) l9) (S := g236L0S1 p0 p1 p2 (w64 (v28 + 1)) l9) (fun j => by kernel_rfl) (ObsOk.cons (obBit h4) (ObsOk.cons (obAv (ix22 (o := .no) h6)) (ObsOk.cons (obCall (ih236 _ _ h8)) (ObsOk.cons (apN52 h10 h11) (ObsOk.cons (obData (dI l9)) (ObsOk.cons (obData (dT p0.sub)) ObsOk.nil)))))) ((ihg236L0 _ _ _ _ h).2)
        · exact fun j => Dl.toHead prim_ok mixed 3000 [.bit true, .av (.ip (tmL x5 ++ flat tmCells (List.drop (Int.toNat v28 + 1) p0.sub))), .no, .no, .no, .call [] [] 1 (.sl (flat intC r7) (List.length r7) (.st 0 1)) none, .app (flat intC l9) (List.length l9) 1 false, .no] [] [] [1] [1, 2, 7, 26, 27, 28] (E := fun j => g236L0E0 j p0 p1 p2 (w64 (v28 + 1)) l9) (S := g236L0S0 p0 p1 p2 (w64 (v28 + 1)) l9) (fun j => by kernel_rfl) (ObsOk.cons (obBit h4) (ObsOk.cons (obAv (ix22 (o := .no) h6)) (ObsOk.cons (obCall (ih236 _ _ h8)) (ObsOk.cons (apS52 h10 h11) (ObsOk.cons (obData (dI l9)) (ObsOk.cons (obData (dT p0.sub)) ObsOk.nil)))))) ((ihg236L0 _ _ _ _ h).1)
      · replace h := ifF h4 h
        replace h := Option.some.inj h
        subst h
        exact fun j => Dl.toFin prim_ok mixed 3000 [.bit false] [(none, 6, 1)] [] [0] true (by kernel_rfl) (ObsOk.cons (obBit h4) (ObsOk.cons (obData (dI v7)) ObsOk.nil)) (by decide)
theorem c236 {p0 : Tm} {p1 : Int} {p2 : Int} {r : List Int} (h : g236 p0 p1 p2 = some r) : CT Tryz.prog 236 [] [tmA p0, ai p1, ai p2] (.sl (flat intC r) (List.length r) (.st 0 1)) [] 1 := (a236_236L0 p1 p2).1 _ _ h
theorem l236L0 {p0 : Tm} {p1 : Int} {p2 : Int} {v28 : Int} {v7 : List Int} {r : List Int} (h : g236L0 p0 p1 p2 v28 v7 = some r) : (∀ j, Dl Tryz.prog 0 (inn (inn (rgt (lft (rgt (rgt (rgt (bod Tryz.f236)))))))) (g236L0E0 j p0 p1 p2 v28 v7) (g236L0S0 p0 p1 p2 v28 v7) (frameQ Tryz.prog 0 (FinQ Tryz.prog 0 Tryz.f236 (.sl (flat intC r) (List.length r) (.st 0 1)) [] 1) [.blk 0, .seq (rgt (rgt (rgt (rgt (bod Tryz.f236)))))])) ∧ (∀ j, Dl Tryz.prog 0 (inn (inn (rgt (lft (rgt (rgt (rgt (bod Tryz.f236)))))))) (g236L0E1 j p0 p1 p2 v28 v7) (g236L0S1 p0 p1 p2 v28 v7) (frameQ Tryz.prog 0 (FinQ Tryz.prog 0 Tryz.f236 (.sl (flat intC r) (List.length r) (.st 0 1)) [] 1) [.blk 0, .seq (rgt (rgt (rgt (rgt (bod Tryz.f236)))))])) := (a236_236L0 p1 p2).2 _ _ _ _ h

/- scholium/term.Entries -/
def g190 (p0 : Tm) : Option (List Int) :=
  (g74 p0) >>= fun r1 =>
  if r1 = true then
    (g236 p0 6 7) >>= fun r4 =>
    if decide (List.length r4 < 4611686018427387904) = true then some (rise r4) else none
  else
    some []
theorem c190 {p0 : Tm} {r : List Int} (h : g190 p0 = some r) : CT Tryz.prog 190 [] [tmA p0] (.sl (flat intC r) (List.length r) .no) [] 0 := by
  unfold g190 at h
  obtain ⟨r1, h2, h⟩ := obind h
  rcases bcases r1 with h3 | h3
  · replace h := ifT h3 h
    obtain ⟨l, h5, h⟩ := obind h
    rcases bcases (decide (List.length l < 4611686018427387904)) with h6 | h6
    · replace h := ifT h6 h
      replace h := Option.some.inj h
      subst h
      subst h3
      have hsz : List.length l < 4611686018427387904 := by simpa using h6
      refine ⟨?_, ⟨⟨trivial, trivial, ⟨trivial, dT _⟩, trivial⟩, trivial⟩, (fun _ h => nomatch h), dI _, (fun _ h => nomatch h)⟩
      have k0 : knd (bod Tryz.f190) = 1 := by kernel_rfl
      have k1 : knd (rgt (bod Tryz.f190)) = 1 := by kernel_rfl
      have k2 : knd (rgt (rgt (bod Tryz.f190))) = 1 := by kernel_rfl
      have k3 : isReg (lft (rgt (rgt (bod Tryz.f190)))) = true := by kernel_rfl
      have k4 : clOf (regOps (lft (rgt (rgt (bod Tryz.f190)))))[2]? = some (some 8, 235, #[.tmp 7]) := by kernel_rfl
      have k5 : (Tryz.f235.name == "runtime.NumGoroutine") = false := by kernel_rfl
      have k6 : Tryz.f235.body.isNone = false := by kernel_rfl
      have x1 : krun Tryz.prog prim 3000 (.run (lft (bod Tryz.f190))) [] ([tmA p0] ++ List.replicate (Tryz.f190.ntmps - 1) (.val undef)) (st0 []) [] = some (.fin .normal, [tmA p0, .mp 0 0, .sl [] 0 .nl, .val undef, .val undef, .val undef, .val undef, .val undef, .val undef], ⟨[(0, .cells (tmL p0))], 1, [], 0, []⟩, [], []) := by kernel_rfl
      have x2 : krun Tryz.prog prim 3000 (.run (lft (rgt (bod Tryz.f190)))) [] [tmA p0, .mp 0 0, .sl [] 0 .nl, .val undef, .val undef, .val undef, .val undef, .val undef, .val undef] ⟨[(0, .cells (tmL p0))], 1, [], 0, []⟩ [.no, .call [] [] 0 (ab true) (some true), .no] = some (.fin .normal, [tmA p0, .mp 0 0, .sl [] 0 .nl, tmA p0, ab true, ab false, .val undef, .val undef, .val undef], ⟨[(0, .cells (tmL p0))], 1, [], 0, []⟩, [], [.bit true true, .call 74 [] [tmA p0] (ab true) [] 0]) := by kernel_rfl
      have x3 : (xops Tryz.prog prim (regOps (lft (rgt (rgt (bod Tryz.f190))))) ((regOps (lft (rgt (rgt (bod Tryz.f190))))).toList.take 2) 0 [tmA p0, .mp 0 0, .sl [] 0 .nl, tmA p0, ab true, ab false, .val undef, .val undef, .val undef] ⟨[(0, .cells (tmL p0))], 1, [], 0, []⟩ [.no, .call [] [] 1 (.sl (flat intC l) l.length (.st 0 1)) none]).map Prod.snd = some ([tmA p0, .mp 0 0, .sl [] 0 .nl, tmA p0, ab true, ab false, tmA p0, .sl (flat intC l) l.length (.st 0 1), .val undef], ⟨[(0, .cells (tmL p0))], 1, [0], 1, []⟩, [], [.call 236 [] [tmA p0, ai 6, ai 7] (.sl (flat intC l) l.length (.st 0 1)) [] 1]) := by kernel_rfl
      have x4 : ∀ j : Nat → Value, (xops Tryz.prog prim (regOps (lft (rgt (rgt (bod Tryz.f190))))) ((regOps (lft (rgt (rgt (bod Tryz.f190))))).toList.drop 3) 3 (eset (tells [] (mutEnv [] j [tmA p0, .mp 0 0, .sl [] 0 .nl, tmA p0, ab true, ab false, tmA p0, .sl (flat intC l) l.length (.st 0 1), .val undef] 0)) (some 8) (.sl (flat intC (rise l)) (rise l).length .no)) (pickSt [] ⟨[(0, .cells (tmL p0))], 1, [0], 1, []⟩) []).map Prod.snd = some ([.val (j 0), .val (j 1), .sl (flat intC (rise l)) (rise l).length .no, .val (j 3), ab true, ab false, .val (j 6), .val (j 7), .sl (flat intC (rise l)) (rise l).length .no], ⟨[], 1, [], 0, []⟩, [], []) := fun j => by kernel_rfl
      have x5 : ∀ j : Nat → Value, kfin Tryz.prog prim 0 Tryz.f190 3000 (.run (rgt (rgt (rgt (bod Tryz.f190))))) [] [.val (j 0), .val (j 1), .sl (flat intC (rise l)) (rise l).length .no, .val (j 3), ab true, ab false, .val (j 6), .val (j 7), .sl (flat intC (rise l)) (rise l).length .no] ⟨[], 1, [], 0, []⟩ [] [] [] [] false = some (.sl (flat intC (rise l)) (rise l).length .no, [], [.data (flat intC (rise l))]) := fun j => by kernel_rfl
      refine CTri.body Tryz.func190 (by kernel_rfl) ?_
      refine Dv.seqP k0 ?_
      refine krun_ok (Q := _) prim_ok mixed 3000 (.run (lft (bod Tryz.f190))) [] _ _ _ _ _ _ _ _ x1 ObsOk.nil ?_
      refine Dv.seqP k1 ?_
      refine krun_ok (Q := _) prim_ok mixed 3000 (.run (lft (rgt (bod Tryz.f190)))) [] _ _ _ _ _ _ _ _ x2 (ObsOk.cons (obBit rfl) (ObsOk.cons (obCall (c74 h2)) ObsOk.nil)) ?_
      refine Dv.seqP k2 ?_
      obtain ⟨id, k7⟩ := regP k3
      rw [k7]
      refine Dv.mut prim_ok (na := (0 : Nat)) rfl 2 [] [] _ x3 (ObsOk.cons (obCall (c236 h5)) ObsOk.nil) k4 Tryz.func235 k5 k6 (fun i X h => by cases h) ?_ x4 ObsOk.nil ?_
      · intro G0 W hB G w hE hR u hu
        refine (rise_call hR (by rfl) hsz hu).mono ?_
        rintro e w' ⟨v, b, S, e1, e2, e3, e4, e5, e6⟩
        exact ⟨v, b, S, e1, e2, e3, e4, e5, fun G' _ _ hS => ⟨e6 G' hS, fun q hq => by cases hq⟩⟩
      · intro j
        exact kfin_ok (na := (0 : Nat)) prim_ok mixed (x5 j) (ObsOk.cons (obData (dI _)) ObsOk.nil) (by decide)
    · replace h := ifF h6 h
      cases h
  · replace h := ifF h3 h
    replace h := Option.some.inj h
    subst h
    exact ⟨CTri.toFin prim_ok mixed Tryz.func190 (by kernel_rfl) 3000 [.no, .call [] [] 0 (ab r1) (some false), .no] [] [] [] false (by kernel_rfl) (ObsOk.cons (obBit h3) (ObsOk.cons (obCall (c74 h2)) (ObsOk.cons (obData (dI ([] : List Int))) ObsOk.nil))) (by decide), ⟨⟨trivial, trivial, ⟨trivial, dT _⟩, trivial⟩, trivial⟩, (fun _ h => nomatch h), dI _, (fun _ h => nomatch h)⟩

/- scholium/term.Right -/
def g133 (p0 : Tm) (p1 : Int) (p2 : Int) : Option (Bool) :=
  (g74 p0) >>= fun r1 =>
  if r1 = true then
    (g189 p0 0) >>= fun r4 =>
    if decide (r4 > p1) = true then
      some false
    else
      (g190 p0) >>= fun r7 =>
      if ((List.length r7 : Int) == 0) = true then
        some true
      else
        (gidx r7 (w64 ((List.length r7 : Int) - 1))) >>= fun x10 =>
        some (decide (x10 < p2))
  else
    some false
theorem c133 {p0 : Tm} {p1 : Int} {p2 : Int} {r : Bool} (h : g133 p0 p1 p2 = some r) : CT Tryz.prog 133 [] [tmA p0, ai p1, ai p2] (ab r) [] 0 := by
  unfold g133 at h
  obtain ⟨r1, h2, h⟩ := obind h
  rcases bcases r1 with h3 | h3
  · replace h := ifT h3 h
    obtain ⟨r4, h5, h⟩ := obind h
    rcases bcases (decide (r4 > p1)) with h6 | h6
    · replace h := ifT h6 h
      replace h := Option.some.inj h
      subst h
      exact ⟨CTri.toFin prim_ok mixed Tryz.func133 (by kernel_rfl) 3000 [.no, .call [] [] 0 (ab r1) (some true), .no, .no, .call [] [] 0 (ai r4) none, .bit true] [] [] [] false (by kernel_rfl) (ObsOk.cons (obBit h3) (ObsOk.cons (obCall (c74 h2)) (ObsOk.cons (obCall (c189 h5)) (ObsOk.cons (obBit h6) ObsOk.nil)))) (by decide), ⟨⟨trivial, trivial, ⟨trivial, dT _⟩, trivial⟩, trivial, trivial, trivial⟩, (fun _ h => nomatch h), trivial, (fun _ h => nomatch h)⟩
    · replace h := ifF h6 h
      obtain ⟨r7, h8, h⟩ := obind h
      rcases bcases ((List.length r7 : Int) == 0) with h9 | h9
      · replace h := ifT h9 h
        replace h := Option.some.inj h
        subst h
        exact ⟨CTri.toFin prim_ok mixed Tryz.func133 (by kernel_rfl) 3000 [.no, .call [] [] 0 (ab r1) (some true), .no, .no, .call [] [] 0 (ai r4) none, .bit false, .no, .call [] [] 0 (.sl (flat intC r7) (List.length r7) .no) none, .no, .bit true] [] [] [] false (by kernel_rfl) (ObsOk.cons (obBit h3) (ObsOk.cons (obCall (c74 h2)) (ObsOk.cons (obCall (c189 h5)) (ObsOk.cons (obBit h6) (ObsOk.cons (obCall (c190 h8)) (ObsOk.cons (obBit h9) ObsOk.nil)))))) (by decide), ⟨⟨trivial, trivial, ⟨trivial, dT _⟩, trivial⟩, trivial, trivial, trivial⟩, (fun _ h => nomatch h), trivial, (fun _ h => nomatch h)⟩
      · replace h := ifF h9 h
        obtain ⟨x10, h11, h⟩ := obind h
        replace h := Option.some.inj h
        subst h
        exact ⟨CTri.toFin prim_ok mixed Tryz.func133 (by kernel_rfl) 3000 [.no, .call [] [] 0 (ab r1) (some true), .no, .no, .call [] [] 0 (ai r4) none, .bit false, .no, .call [] [] 0 (.sl (flat intC r7) (List.length r7) .no) none, .no, .bit false, .no, .no, .av (.ip (intC x10 ++ flat intC (List.drop (Int.toNat (w64 ((List.length r7 : Int) - 1)) + 1) r7))), .no, .no] [] [] [] false (by kernel_rfl) (ObsOk.cons (obBit h3) (ObsOk.cons (obCall (c74 h2)) (ObsOk.cons (obCall (c189 h5)) (ObsOk.cons (obBit h6) (ObsOk.cons (obCall (c190 h8)) (ObsOk.cons (obBit h9) (ObsOk.cons (obAv (ix52 (o := .no) h11)) ObsOk.nil))))))) (by decide), ⟨⟨trivial, trivial, ⟨trivial, dT _⟩, trivial⟩, trivial, trivial, trivial⟩, (fun _ h => nomatch h), trivial, (fun _ h => nomatch h)⟩
  · replace h := ifF h3 h
    replace h := Option.some.inj h
    subst h
    exact ⟨CTri.toFin prim_ok mixed Tryz.func133 (by kernel_rfl) 3000 [.no, .call [] [] 0 (ab r1) (some false), .no] [] [] [] false (by kernel_rfl) (ObsOk.cons (obBit h3) (ObsOk.cons (obCall (c74 h2)) ObsOk.nil)) (by decide), ⟨⟨trivial, trivial, ⟨trivial, dT _⟩, trivial⟩, trivial, trivial, trivial⟩, (fun _ h => nomatch h), trivial, (fun _ h => nomatch h)⟩

/- scholium/term.Frees -/
def g252 (p0 : Tm) : Option (List Int) :=
  (g74 p0) >>= fun r1 =>
  if r1 = true then
    (g236 p0 8 8) >>= fun r4 =>
    if decide (List.length r4 < 4611686018427387904) = true then some (rise r4) else none
  else
    some []
theorem c252 {p0 : Tm} {r : List Int} (h : g252 p0 = some r) : CT Tryz.prog 252 [] [tmA p0] (.sl (flat intC r) (List.length r) .no) [] 0 := by
  unfold g252 at h
  obtain ⟨r1, h2, h⟩ := obind h
  rcases bcases r1 with h3 | h3
  · replace h := ifT h3 h
    obtain ⟨l, h5, h⟩ := obind h
    rcases bcases (decide (List.length l < 4611686018427387904)) with h6 | h6
    · replace h := ifT h6 h
      replace h := Option.some.inj h
      subst h
      subst h3
      have hsz : List.length l < 4611686018427387904 := by simpa using h6
      refine ⟨?_, ⟨⟨trivial, trivial, ⟨trivial, dT _⟩, trivial⟩, trivial⟩, (fun _ h => nomatch h), dI _, (fun _ h => nomatch h)⟩
      have k0 : knd (bod Tryz.f252) = 1 := by kernel_rfl
      have k1 : knd (rgt (bod Tryz.f252)) = 1 := by kernel_rfl
      have k2 : knd (rgt (rgt (bod Tryz.f252))) = 1 := by kernel_rfl
      have k3 : isReg (lft (rgt (rgt (bod Tryz.f252)))) = true := by kernel_rfl
      have k4 : clOf (regOps (lft (rgt (rgt (bod Tryz.f252)))))[2]? = some (some 8, 235, #[.tmp 7]) := by kernel_rfl
      have k5 : (Tryz.f235.name == "runtime.NumGoroutine") = false := by kernel_rfl
      have k6 : Tryz.f235.body.isNone = false := by kernel_rfl
      have x1 : krun Tryz.prog prim 3000 (.run (lft (bod Tryz.f252))) [] ([tmA p0] ++ List.replicate (Tryz.f252.ntmps - 1) (.val undef)) (st0 []) [] = some (.fin .normal, [tmA p0, .mp 0 0, .sl [] 0 .nl, .val undef, .val undef, .val undef, .val undef, .val undef, .val undef], ⟨[(0, .cells (tmL p0))], 1, [], 0, []⟩, [], []) := by kernel_rfl
      have x2 : krun Tryz.prog prim 3000 (.run (lft (rgt (bod Tryz.f252)))) [] [tmA p0, .mp 0 0, .sl [] 0 .nl, .val undef, .val undef, .val undef, .val undef, .val undef, .val undef] ⟨[(0, .cells (tmL p0))], 1, [], 0, []⟩ [.no, .call [] [] 0 (ab true) (some true), .no] = some (.fin .normal, [tmA p0, .mp 0 0, .sl [] 0 .nl, tmA p0, ab true, ab false, .val undef, .val undef, .val undef], ⟨[(0, .cells (tmL p0))], 1, [], 0, []⟩, [], [.bit true true, .call 74 [] [tmA p0] (ab true) [] 0]) := by kernel_rfl
      have x3 : (xops Tryz.prog prim (regOps (lft (rgt (rgt (bod Tryz.f252))))) ((regOps (lft (rgt (rgt (bod Tryz.f252))))).toList.take 2) 0 [tmA p0, .mp 0 0, .sl [] 0 .nl, tmA p0, ab true, ab false, .val undef, .val undef, .val undef] ⟨[(0, .cells (tmL p0))], 1, [], 0, []⟩ [.no, .call [] [] 1 (.sl (flat intC l) l.length (.st 0 1)) none]).map Prod.snd = some ([tmA p0, .mp 0 0, .sl [] 0 .nl, tmA p0, ab true, ab false, tmA p0, .sl (flat intC l) l.length (.st 0 1), .val undef], ⟨[(0, .cells (tmL p0))], 1, [0], 1, []⟩, [], [.call 236 [] [tmA p0, ai 8, ai 8] (.sl (flat intC l) l.length (.st 0 1)) [] 1]) := by kernel_rfl
      have x4 : ∀ j : Nat → Value, (xops Tryz.prog prim (regOps (lft (rgt (rgt (bod Tryz.f252))))) ((regOps (lft (rgt (rgt (bod Tryz.f252))))).toList.drop 3) 3 (eset (tells [] (mutEnv [] j [tmA p0, .mp 0 0, .sl [] 0 .nl, tmA p0, ab true, ab false, tmA p0, .sl (flat intC l) l.length (.st 0 1), .val undef] 0)) (some 8) (.sl (flat intC (rise l)) (rise l).length .no)) (pickSt [] ⟨[(0, .cells (tmL p0))], 1, [0], 1, []⟩) []).map Prod.snd = some ([.val (j 0), .val (j 1), .sl (flat intC (rise l)) (rise l).length .no, .val (j 3), ab true, ab false, .val (j 6), .val (j 7), .sl (flat intC (rise l)) (rise l).length .no], ⟨[], 1, [], 0, []⟩, [], []) := fun j => by kernel_rfl
      have x5 : ∀ j : Nat → Value, kfin Tryz.prog prim 0 Tryz.f252 3000 (.run (rgt (rgt (rgt (bod Tryz.f252))))) [] [.val (j 0), .val (j 1), .sl (flat intC (rise l)) (rise l).length .no, .val (j 3), ab true, ab false, .val (j 6), .val (j 7), .sl (flat intC (rise l)) (rise l).length .no] ⟨[], 1, [], 0, []⟩ [] [] [] [] false = some (.sl (flat intC (rise l)) (rise l).length .no, [], [.data (flat intC (rise l))]) := fun j => by kernel_rfl
      refine CTri.body Tryz.func252 (by kernel_rfl) ?_
      refine Dv.seqP k0 ?_
      refine krun_ok (Q := _) prim_ok mixed 3000 (.run (lft (bod Tryz.f252))) [] _ _ _ _ _ _ _ _ x1 ObsOk.nil ?_
      refine Dv.seqP k1 ?_
      refine krun_ok (Q := _) prim_ok mixed 3000 (.run (lft (rgt (bod Tryz.f252)))) [] _ _ _ _ _ _ _ _ x2 (ObsOk.cons (obBit rfl) (ObsOk.cons (obCall (c74 h2)) ObsOk.nil)) ?_
      refine Dv.seqP k2 ?_
      obtain ⟨id, k7⟩ := regP k3
      rw [k7]
      refine Dv.mut prim_ok (na := (0 : Nat)) rfl 2 [] [] _ x3 (ObsOk.cons (obCall (c236 h5)) ObsOk.nil) k4 Tryz.func235 k5 k6 (fun i X h => by cases h) ?_ x4 ObsOk.nil ?_
      · intro G0 W hB G w hE hR u hu
        refine (rise_call hR (by rfl) hsz hu).mono ?_
        rintro e w' ⟨v, b, S, e1, e2, e3, e4, e5, e6⟩
        exact ⟨v, b, S, e1, e2, e3, e4, e5, fun G' _ _ hS => ⟨e6 G' hS, fun q hq => by cases hq⟩⟩
      · intro j
        exact kfin_ok (na := (0 : Nat)) prim_ok mixed (x5 j) (ObsOk.cons (obData (dI _)) ObsOk.nil) (by decide)
    · replace h := ifF h6 h
      cases h
  · replace h := ifF h3 h
    replace h := Option.some.inj h
    subst h
    exact ⟨CTri.toFin prim_ok mixed Tryz.func252 (by kernel_rfl) 3000 [.no, .call [] [] 0 (ab r1) (some false), .no] [] [] [] false (by kernel_rfl) (ObsOk.cons (obBit h3) (ObsOk.cons (obCall (c74 h2)) (ObsOk.cons (obData (dI ([] : List Int))) ObsOk.nil))) (by decide), ⟨⟨trivial, trivial, ⟨trivial, dT _⟩, trivial⟩, trivial⟩, (fun _ h => nomatch h), dI _, (fun _ h => nomatch h)⟩

/- scholium/sign.closed -/
def g216 (p0 : Tm) (p1 : Int) : Option (Bool) :=
  (g133 p0 0 p1) >>= fun r1 =>
  if r1 = true then
    (g252 p0) >>= fun r4 =>
    some ((List.length r4 : Int) == 0)
  else
    some false
theorem c216 {p0 : Tm} {p1 : Int} {r : Bool} (h : g216 p0 p1 = some r) : CT Tryz.prog 216 [] [tmA p0, ai p1] (ab r) [] 0 := by
  unfold g216 at h
  obtain ⟨r1, h2, h⟩ := obind h
  rcases bcases r1 with h3 | h3
  · replace h := ifT h3 h
    obtain ⟨r4, h5, h⟩ := obind h
    replace h := Option.some.inj h
    subst h
    exact ⟨CTri.toFin prim_ok mixed Tryz.func216 (by kernel_rfl) 3000 [.no, .call [] [] 0 (ab r1) (some true), .no, .call [] [] 0 (.sl (flat intC r4) (List.length r4) .no) none, .no, .no] [] [] [] false (by kernel_rfl) (ObsOk.cons (obBit h3) (ObsOk.cons (obCall (c133 h2)) (ObsOk.cons (obCall (c252 h5)) ObsOk.nil))) (by decide), ⟨⟨trivial, trivial, ⟨trivial, dT _⟩, trivial⟩, trivial, trivial⟩, (fun _ h => nomatch h), trivial, (fun _ h => nomatch h)⟩
  · replace h := ifF h3 h
    replace h := Option.some.inj h
    subst h
    exact ⟨CTri.toFin prim_ok mixed Tryz.func216 (by kernel_rfl) 3000 [.no, .call [] [] 0 (ab r1) (some false)] [] [] [] false (by kernel_rfl) (ObsOk.cons (obBit h3) (ObsOk.cons (obCall (c133 h2)) ObsOk.nil)) (by decide), ⟨⟨trivial, trivial, ⟨trivial, dT _⟩, trivial⟩, trivial, trivial⟩, (fun _ h => nomatch h), trivial, (fun _ h => nomatch h)⟩

/- scholium/tele.Split -/
def g207L0 (p1 : Int) (v25 : Int) (v7 : List Tm) (vb1_0 : Int) (vb1_1 : Int) (vb1_2 : List Tm) : Option (List Tm × Tm × Int) :=
  if decide (v25 < p1) = true then
    if (vb1_0 != 3) = true then
      some ([], (Tm.mk 0 0 []), 6)
    else
      (gidx vb1_2 0) >>= fun x10 =>
      (gapp 40 v7 [x10]) >>= fun l12 =>
      (gidx vb1_2 1) >>= fun x14 =>
      g207L0 p1 (w64 (v25 + 1)) l12 x14.k x14.n x14.sub
  else
    some (v7, (Tm.mk vb1_0 vb1_1 vb1_2), 0)
 partial_fixpoint
def g207 (p0 : Tm) (p1 : Int) : Option (List Tm × Tm × Int) :=
  (g74 p0) >>= fun r1 =>
  if r1 = true then
    if decide (p1 < 0) = true then
      some ([], (Tm.mk 0 0 []), 5)
    else
      if decide (p1 > 24) = true then
        some ([], (Tm.mk 0 0 []), 2)
      else
        (g72 p0) >>= fun r6 =>
        g207L0 p1 0 [] r6.k r6.n r6.sub
  else
    some ([], (Tm.mk 0 0 []), 5)
def g207L0E0 (j : Nat → Value) (p1 : Int) (v25 : Int) (v7 : List Tm) (vb1_0 : Int) (vb1_1 : Int) (vb1_2 : List Tm) : List AV := [.val (j 0), .val (j 1), .val (j 2), .val (j 3), .val (j 4), .mp 0 0, .val (j 6), .sl (flat tmCells v7) (List.length v7) (.st 0 3), .mp 1 0, .val (j 9), .val (j 10), .val (j 11), .val (j 12), .val (j 13), .val (j 14), .val (j 15), .val (j 16), .val (j 17), .val (j 18), .val (j 19), .val (j 20), .val (j 21), .val (j 22), .val (j 23), ai p1, ai v25, .val (j 26), .val (j 27), .val (j 28), .val (j 29), .val (j 30), .val (j 31), .val (j 32), .val (j 33), .val (j 34), .val (j 35), .val (j 36), .val (j 37), .val (j 38), .val (j 39), .val (j 40), .val (j 41), .val (j 42), .val (j 43), .val (j 44)]
def g207L0S0 (p1 : Int) (v25 : Int) (v7 : List Tm) (vb1_0 : Int) (vb1_1 : Int) (vb1_2 : List Tm) : LSt := ⟨[(0, .cells [ai 0, ai 0, .sl (flat tmCells ([] : List Tm)) (List.length ([] : List Tm)) .nl]), (1, .cells [ai vb1_0, ai vb1_1, .sl (flat tmCells vb1_2) (List.length vb1_2) .no])], 2, [0], 1, []⟩
theorem l207L0 {p1 : Int} {v25 : Int} {v7 : List Tm} {vb1_0 : Int} {vb1_1 : Int} {vb1_2 : List Tm} {r : List Tm × Tm × Int} (h : g207L0 p1 v25 v7 vb1_0 vb1_1 vb1_2 = some r) : (∀ j, Dl Tryz.prog 0 (inn (inn (rgt (lft (rgt (rgt (rgt (rgt (bod Tryz.f207))))))))) (g207L0E0 j p1 v25 v7 vb1_0 vb1_1 vb1_2) (g207L0S0 p1 v25 v7 vb1_0 vb1_1 vb1_2) (frameQ Tryz.prog 0 (FinQ Tryz.prog 0 Tryz.f207 (.tup [.sl (flat tmCells r.1) (List.length r.1) .no, tmA r.2.1, ai r.2.2]) [] 0) [.blk 1, .seq (rgt (rgt (rgt (rgt (rgt (bod Tryz.f207))))))])) := by
  refine g207L0.partial_correctness p1 (fun v25 v7 vb1_0 vb1_1 vb1_2 r => (∀ j, Dl Tryz.prog 0 (inn (inn (rgt (lft (rgt (rgt (rgt (rgt (bod Tryz.f207))))))))) (g207L0E0 j p1 v25 v7 vb1_0 vb1_1 vb1_2) (g207L0S0 p1 v25 v7 vb1_0 vb1_1 vb1_2) (frameQ Tryz.prog 0 (FinQ Tryz.prog 0 Tryz.f207 (.tup [.sl (flat tmCells r.1) (List.length r.1) .no, tmA r.2.1, ai r.2.2]) [] 0) [.blk 1, .seq (rgt (rgt (rgt (rgt (rgt (bod Tryz.f207))))))]))) ?_ v25 v7 vb1_0 vb1_1 vb1_2 _ h
  clear h
  intro g207L0 ihg207L0 v25 v7 vb1_0 vb1_1 vb1_2 r h
  rcases bcases (decide (v25 < p1)) with h8 | h8
  · replace h := ifT h8 h
    rcases bcases (vb1_0 != 3) with h9 | h9
    · replace h := ifT h9 h
      replace h := Option.some.inj h
      subst h
      exact fun j => Dl.toFin prim_ok mixed 3000 [.bit true, .no, .bit true, .no] [] [] [] false (by kernel_rfl) (ObsOk.cons (obBit h8) (ObsOk.cons (obBit h9) (ObsOk.cons (obData (dT ([] : List Tm))) (ObsOk.cons (obData (dT ([] : List Tm))) ObsOk.nil)))) (by decide)
    · replace h := ifF h9 h
      obtain ⟨x10, h11, h⟩ := obind h
      obtain ⟨l12, h13, h⟩ := obind h
      obtain ⟨x14, h15, h⟩ := obind h
      exact fun j => Dl.toHead prim_ok mixed 3000 [.bit true, .no, .bit false, .no, .av (.ip (tmL x10 ++ flat tmCells (List.drop (Int.toNat 0 + 1) vb1_2))), .no, .sl (flat tmCells [x10]) (List.length [x10]), .app (flat tmCells l12) (List.length l12) 3 false, .no, .av (.ip (tmL x14 ++ flat tmCells (List.drop (Int.toNat 1 + 1) vb1_2))), .no, .no, .no] [] [0, 1] [1] [5, 7, 8, 24, 25] (E := fun j => g207L0E0 j p1 (w64 (v25 + 1)) l12 x14.k x14.n x14.sub) (S := g207L0S0 p1 (w64 (v25 + 1)) l12 x14.k x14.n x14.sub) (fun j => by kernel_rfl) (ObsOk.cons (obBit h8) (ObsOk.cons (obBit h9) (ObsOk.cons (obAv (ix22 (o := .no) h11)) (ObsOk.cons (obLit [x10]) (ObsOk.cons (apS22 h13 (by simp)) (ObsOk.cons (obAv (ix22 (o := .no) h15)) (ObsOk.cons (obData (dT ([] : List Tm))) (ObsOk.cons (obData (dT x14.sub)) (ObsOk.cons (obData (dT l12)) ObsOk.nil))))))))) (ihg207L0 _ _ _ _ _ _ h)
  · replace h := ifF h8 h
    replace h := Option.some.inj h
    subst h
    exact fun j => Dl.toFin prim_ok mixed 3000 [.bit false, .no, .no] [] [] [] false (by kernel_rfl) (ObsOk.cons (obBit h8) (ObsOk.cons (obData (dT v7)) (ObsOk.cons (obData (dT vb1_2)) ObsOk.nil))) (by decide)
theorem c207 {p0 : Tm} {p1 : Int} {r : List Tm × Tm × Int} (h : g207 p0 p1 = some r) : CT Tryz.prog 207 [] [tmA p0, ai p1] (.tup [.sl (flat tmCells r.1) (List.length r.1) .no, tmA r.2.1, ai r.2.2]) [] 0 := by
  unfold g207 at h
  obtain ⟨r1, h2, h⟩ := obind h
  rcases bcases r1 with h3 | h3
  · replace h := ifT h3 h
    rcases bcases (decide (p1 < 0)) with h4 | h4
    · replace h := ifT h4 h
      replace h := Option.some.inj h
      subst h
      exact ⟨CTri.toFin prim_ok mixed Tryz.func207 (by kernel_rfl) 3000 [.no, .call [] [] 0 (ab r1) (some true), .no, .bit true, .no] [] [] [] false (by kernel_rfl) (ObsOk.cons (obBit h3) (ObsOk.cons (obCall (c74 h2)) (ObsOk.cons (obBit h4) (ObsOk.cons (obData (dT ([] : List Tm))) (ObsOk.cons (obData (dT ([] : List Tm))) ObsOk.nil))))) (by decide), ⟨⟨trivial, trivial, ⟨trivial, dT _⟩, trivial⟩, trivial, trivial⟩, (fun _ h => nomatch h), ⟨dT _, ⟨trivial, trivial, dT _, trivial⟩, trivial, trivial⟩, (fun _ h => nomatch h)⟩
    · replace h := ifF h4 h
      rcases bcases (decide (p1 > 24)) with h5 | h5
      · replace h := ifT h5 h
        replace h := Option.some.inj h
        subst h
        exact ⟨CTri.toFin prim_ok mixed Tryz.func207 (by kernel_rfl) 3000 [.no, .call [] [] 0 (ab r1) (some true), .no, .bit false, .bit true, .no] [] [] [] false (by kernel_rfl) (ObsOk.cons (obBit h3) (ObsOk.cons (obCall (c74 h2)) (ObsOk.cons (obBit h4) (ObsOk.cons (obBit h5) (ObsOk.cons (obData (dT ([] : List Tm))) (ObsOk.cons (obData (dT ([] : List Tm))) ObsOk.nil)))))) (by decide), ⟨⟨trivial, trivial, ⟨trivial, dT _⟩, trivial⟩, trivial, trivial⟩, (fun _ h => nomatch h), ⟨dT _, ⟨trivial, trivial, dT _, trivial⟩, trivial, trivial⟩, (fun _ h => nomatch h)⟩
      · replace h := ifF h5 h
        obtain ⟨r6, h7, h⟩ := obind h
        exact ⟨CTri.toHead prim_ok mixed Tryz.func207 (by kernel_rfl) 3000 [.no, .call [] [] 0 (ab r1) (some true), .no, .bit false, .bit false, .no, .call [] [] 0 (tmA r6) none, .no] [(none, 7, 3)] [1, 2] [0] [5, 7, 8, 24, 25] (E := fun j => g207L0E0 j p1 0 [] r6.k r6.n r6.sub) (S := g207L0S0 p1 0 [] r6.k r6.n r6.sub) (fun j => by kernel_rfl) (ObsOk.cons (obBit h3) (ObsOk.cons (obCall (c74 h2)) (ObsOk.cons (obBit h4) (ObsOk.cons (obBit h5) (ObsOk.cons (obCall (c72 h7)) (ObsOk.cons (obData (dT ([] : List Tm))) (ObsOk.cons (obData (dT r6.sub)) (ObsOk.cons (obData (dT ([] : List Tm))) ObsOk.nil)))))))) (l207L0 h), ⟨⟨trivial, trivial, ⟨trivial, dT _⟩, trivial⟩, trivial, trivial⟩, (fun _ h => nomatch h), ⟨dT _, ⟨trivial, trivial, dT _, trivial⟩, trivial, trivial⟩, (fun _ h => nomatch h)⟩
  · replace h := ifF h3 h
    replace h := Option.some.inj h
    subst h
    exact ⟨CTri.toFin prim_ok mixed Tryz.func207 (by kernel_rfl) 3000 [.no, .call [] [] 0 (ab r1) (some false), .no, .no] [] [] [] false (by kernel_rfl) (ObsOk.cons (obBit h3) (ObsOk.cons (obCall (c74 h2)) (ObsOk.cons (obData (dT ([] : List Tm))) (ObsOk.cons (obData (dT ([] : List Tm))) ObsOk.nil)))) (by decide), ⟨⟨trivial, trivial, ⟨trivial, dT _⟩, trivial⟩, trivial, trivial⟩, (fun _ h => nomatch h), ⟨dT _, ⟨trivial, trivial, dT _, trivial⟩, trivial, trivial⟩, (fun _ h => nomatch h)⟩

/- scholium/tele.Whole -/
def g229L0 (p0 : Tm) (v5 : Int) (vb2_0 : Int) (vb2_1 : Int) (vb2_2 : List Tm) : Option (List Tm × Tm × Int) :=
  if (vb2_0 == 3) = true then
    if ((List.length vb2_2 : Int) == 2) = true then
      if decide (v5 ≤ 24) = true then
        (gidx vb2_2 1) >>= fun x4 =>
        g229L0 p0 (w64 (v5 + 1)) x4.k x4.n x4.sub
      else
        (g207 p0 v5) >>= fun r6 =>
        some (r6.1, r6.2.1, r6.2.2)
    else
      (g207 p0 v5) >>= fun r8 =>
      some (r8.1, r8.2.1, r8.2.2)
  else
    (g207 p0 v5) >>= fun r10 =>
    some (r10.1, r10.2.1, r10.2.2)
 partial_fixpoint
def g229 (p0 : Tm) : Option (List Tm × Tm × Int) :=
  g229L0 p0 0 p0.k p0.n p0.sub
def g229L0E0 (j : Nat → Value) (p0 : Tm) (v5 : Int) (vb2_0 : Int) (vb2_1 : Int) (vb2_2 : List Tm) : List AV := [.val (j 0), .mp 0 0, .val (j 2), .mp 1 0, .val (j 4), ai v5, .mp 2 0, .val (j 7), .val (j 8), .val (j 9), .val (j 10), .val (j 11), .val (j 12), .val (j 13), .val (j 14), .val (j 15), .val (j 16), .val (j 17), .val (j 18), .val (j 19), .val (j 20), .val (j 21), .val (j 22), .val (j 23), .val (j 24), .val (j 25), .val (j 26), .val (j 27), .val (j 28), .val (j 29), .val (j 30), .val (j 31), .val (j 32), .val (j 33)]
def g229L0S0 (p0 : Tm) (v5 : Int) (vb2_0 : Int) (vb2_1 : Int) (vb2_2 : List Tm) : LSt := ⟨[(0, .cells [ai p0.k, ai p0.n, .sl (flat tmCells p0.sub) (List.length p0.sub) .no]), (1, .cells [ai 0, ai 0, .sl (flat tmCells ([] : List Tm)) (List.length ([] : List Tm)) .nl]), (2, .cells [ai vb2_0, ai vb2_1, .sl (flat tmCells vb2_2) (List.length vb2_2) .no])], 3, [], 0, []⟩
theorem l229L0 {p0 : Tm} {v5 : Int} {vb2_0 : Int} {vb2_1 : Int} {vb2_2 : List Tm} {r : List Tm × Tm × Int} (h : g229L0 p0 v5 vb2_0 vb2_1 vb2_2 = some r) : (∀ j, Dl Tryz.prog 0 (inn (inn (rgt (lft (rgt (rgt (bod Tryz.f229))))))) (g229L0E0 j p0 v5 vb2_0 vb2_1 vb2_2) (g229L0S0 p0 v5 vb2_0 vb2_1 vb2_2) (frameQ Tryz.prog 0 (FinQ Tryz.prog 0 Tryz.f229 (.tup [.sl (flat tmCells r.1) (List.length r.1) .no, tmA r.2.1, ai r.2.2]) [] 0) [.blk 0, .seq (rgt (rgt (rgt (bod Tryz.f229))))])) := by
  refine g229L0.partial_correctness p0 (fun v5 vb2_0 vb2_1 vb2_2 r => (∀ j, Dl Tryz.prog 0 (inn (inn (rgt (lft (rgt (rgt (bod Tryz.f229))))))) (g229L0E0 j p0 v5 vb2_0 vb2_1 vb2_2) (g229L0S0 p0 v5 vb2_0 vb2_1 vb2_2) (frameQ Tryz.prog 0 (FinQ Tryz.prog 0 Tryz.f229 (.tup [.sl (flat tmCells r.1) (List.length r.1) .no, tmA r.2.1, ai r.2.2]) [] 0) [.blk 0, .seq (rgt (rgt (rgt (bod Tryz.f229))))]))) ?_ v5 vb2_0 vb2_1 vb2_2 _ h
  clear h
  intro g229L0 ihg229L0 v5 vb2_0 vb2_1 vb2_2 r h
  rcases bcases (vb2_0 == 3) with h1 | h1
  · replace h := ifT h1 h
    rcases bcases ((List.length vb2_2 : Int) == 2) with h2 | h2
    · replace h := ifT h2 h
      rcases bcases (decide (v5 ≤ 24)) with h3 | h3
      · replace h := ifT h3 h
        obtain ⟨x4, h5, h⟩ := obind h
        exact fun j => Dl.toHead prim_ok mixed 3000 [.no, .bit true, .no, .no, .bit true, .bit true, .no, .no, .no, .no, .av (.ip (tmL x4 ++ flat tmCells (List.drop (Int.toNat 1 + 1) vb2_2))), .no, .no] [] [0, 1, 3] [] [1, 3, 5, 6] (E := fun j => g229L0E0 j p0 (w64 (v5 + 1)) x4.k x4.n x4.sub) (S := g229L0S0 p0 (w64 (v5 + 1)) x4.k x4.n x4.sub) (fun j => by kernel_rfl) (ObsOk.cons (obBit h1) (ObsOk.cons (obBit h2) (ObsOk.cons (obBit h3) (ObsOk.cons (obAv (ix22 (o := .no) h5)) (ObsOk.cons (obData (dT p0.sub)) (ObsOk.cons (obData (dT ([] : List Tm))) (ObsOk.cons (obData (dT x4.sub)) ObsOk.nil))))))) (ihg229L0 _ _ _ _ _ h)
      · replace h := ifF h3 h
        obtain ⟨r6, h7, h⟩ := obind h
        replace h := Option.some.inj h
        subst h
        exact fun j => Dl.toFin prim_ok mixed 3000 [.no, .bit true, .no, .no, .bit true, .bit false, .no, .call [] [] 0 (.tup [.sl (flat tmCells r6.1) (List.length r6.1) .no, tmA r6.2.1, ai r6.2.2]) none, .no, .no, .no, .no] [] [] [] false (by kernel_rfl) (ObsOk.cons (obBit h1) (ObsOk.cons (obBit h2) (ObsOk.cons (obBit h3) (ObsOk.cons (obCall (c207 h7)) (ObsOk.cons (obData (dT r6.1)) (ObsOk.cons (obData (dT r6.2.1.sub)) ObsOk.nil)))))) (by decide)
    · replace h := ifF h2 h
      obtain ⟨r8, h9, h⟩ := obind h
      replace h := Option.some.inj h
      subst h
      exact fun j => Dl.toFin prim_ok mixed 3000 [.no, .bit true, .no, .no, .bit false, .no, .call [] [] 0 (.tup [.sl (flat tmCells r8.1) (List.length r8.1) .no, tmA r8.2.1, ai r8.2.2]) none, .no, .no, .no, .no] [] [] [] false (by kernel_rfl) (ObsOk.cons (obBit h1) (ObsOk.cons (obBit h2) (ObsOk.cons (obCall (c207 h9)) (ObsOk.cons (obData (dT r8.1)) (ObsOk.cons (obData (dT r8.2.1.sub)) ObsOk.nil))))) (by decide)
  · replace h := ifF h1 h
    obtain ⟨r10, h11, h⟩ := obind h
    replace h := Option.some.inj h
    subst h
    exact fun j => Dl.toFin prim_ok mixed 3000 [.no, .bit false, .no, .call [] [] 0 (.tup [.sl (flat tmCells r10.1) (List.length r10.1) .no, tmA r10.2.1, ai r10.2.2]) none, .no, .no, .no, .no] [] [] [] false (by kernel_rfl) (ObsOk.cons (obBit h1) (ObsOk.cons (obCall (c207 h11)) (ObsOk.cons (obData (dT r10.1)) (ObsOk.cons (obData (dT r10.2.1.sub)) ObsOk.nil)))) (by decide)
theorem c229 {p0 : Tm} {r : List Tm × Tm × Int} (h : g229 p0 = some r) : CT Tryz.prog 229 [] [tmA p0] (.tup [.sl (flat tmCells r.1) (List.length r.1) .no, tmA r.2.1, ai r.2.2]) [] 0 := by
  unfold g229 at h
  exact ⟨CTri.toHead prim_ok mixed Tryz.func229 (by kernel_rfl) 3000 [.no, .no] [] [0, 1, 2] [] [1, 3, 5, 6] (E := fun j => g229L0E0 j p0 0 p0.k p0.n p0.sub) (S := g229L0S0 p0 0 p0.k p0.n p0.sub) (fun j => by kernel_rfl) (ObsOk.cons (obData (dT p0.sub)) (ObsOk.cons (obData (dT ([] : List Tm))) (ObsOk.cons (obData (dT p0.sub)) ObsOk.nil))) (l229L0 h), ⟨⟨trivial, trivial, ⟨trivial, dT _⟩, trivial⟩, trivial⟩, (fun _ h => nomatch h), ⟨dT _, ⟨trivial, trivial, dT _, trivial⟩, trivial, trivial⟩, (fun _ h => nomatch h)⟩

/- scholium/sign.none -/
def g253 (p0 : Tm) : Option (Bool) :=
  if (p0.k == 0) = true then
    if (p0.n == 0) = true then
      some ((List.length p0.sub : Int) == 0)
    else
      some false
  else
    some false
theorem c253 {p0 : Tm} {r : Bool} (h : g253 p0 = some r) : CT Tryz.prog 253 [] [tmA p0] (ab r) [] 0 := by
  unfold g253 at h
  rcases bcases (p0.k == 0) with h1 | h1
  · replace h := ifT h1 h
    rcases bcases (p0.n == 0) with h2 | h2
    · replace h := ifT h2 h
      replace h := Option.some.inj h
      subst h
      exact ⟨CTri.toFin prim_ok mixed Tryz.func253 (by kernel_rfl) 3000 [.no, .bit true, .no, .bit true, .no, .no, .no] [] [] [] false (by kernel_rfl) (ObsOk.cons (obBit h1) (ObsOk.cons (obBit h2) ObsOk.nil)) (by decide), ⟨⟨trivial, trivial, ⟨trivial, dT _⟩, trivial⟩, trivial⟩, (fun _ h => nomatch h), trivial, (fun _ h => nomatch h)⟩
    · replace h := ifF h2 h
      replace h := Option.some.inj h
      subst h
      exact ⟨CTri.toFin prim_ok mixed Tryz.func253 (by kernel_rfl) 3000 [.no, .bit true, .no, .bit false] [] [] [] false (by kernel_rfl) (ObsOk.cons (obBit h1) (ObsOk.cons (obBit h2) ObsOk.nil)) (by decide), ⟨⟨trivial, trivial, ⟨trivial, dT _⟩, trivial⟩, trivial⟩, (fun _ h => nomatch h), trivial, (fun _ h => nomatch h)⟩
  · replace h := ifF h1 h
    replace h := Option.some.inj h
    subst h
    exact ⟨CTri.toFin prim_ok mixed Tryz.func253 (by kernel_rfl) 3000 [.no, .bit false] [] [] [] false (by kernel_rfl) (ObsOk.cons (obBit h1) ObsOk.nil) (by decide), ⟨⟨trivial, trivial, ⟨trivial, dT _⟩, trivial⟩, trivial⟩, (fun _ h => nomatch h), trivial, (fun _ h => nomatch h)⟩

/- scholium/sign.run -/
def g254L0 (p0 : List Int) (p1 : Int) (v9 : Int) : Option (Bool) :=
  if decide (v9 < (List.length p0 : Int)) = true then
    (gidx p0 v9) >>= fun x2 =>
    if (x2 != (w64 (p1 + v9))) = true then
      some false
    else
      g254L0 p0 p1 (w64 (v9 + 1))
  else
    some true
 partial_fixpoint
def g254 (p0 : List Int) (p1 : Int) : Option (Bool) :=
  g254L0 p0 p1 0
def g254L0E0 (j : Nat → Value) (p0 : List Int) (p1 : Int) (v9 : Int) : List AV := [.val (j 0), ai p1, .val (j 2), .val (j 3), .val (j 4), .val (j 5), .val (j 6), .sl (flat intC p0) (List.length p0) .no, ai (List.length p0 : Int), ai v9, .val (j 10), .val (j 11), .val (j 12), .val (j 13), .val (j 14), .val (j 15), .val (j 16), .val (j 17), .val (j 18), .val (j 19)]
def g254L0S0 (p0 : List Int) (p1 : Int) (v9 : Int) : LSt := ⟨[], 0, [], 0, []⟩
theorem l254L0 {p0 : List Int} {p1 : Int} {v9 : Int} {r : Bool} (h : g254L0 p0 p1 v9 = some r) : (∀ j, Dl Tryz.prog 0 (inn (inn (rgt (lft (rgt (bod Tryz.f254)))))) (g254L0E0 j p0 p1 v9) (g254L0S0 p0 p1 v9) (frameQ Tryz.prog 0 (FinQ Tryz.prog 0 Tryz.f254 (ab r) [] 0) [.blk 0, .seq (rgt (rgt (bod Tryz.f254)))])) := by
  refine g254L0.partial_correctness p0 p1 (fun v9 r => (∀ j, Dl Tryz.prog 0 (inn (inn (rgt (lft (rgt (bod Tryz.f254)))))) (g254L0E0 j p0 p1 v9) (g254L0S0 p0 p1 v9) (frameQ Tryz.prog 0 (FinQ Tryz.prog 0 Tryz.f254 (ab r) [] 0) [.blk 0, .seq (rgt (rgt (bod Tryz.f254)))]))) ?_ v9 _ h
  clear h
  intro g254L0 ihg254L0 v9 r h
  rcases bcases (decide (v9 < (List.length p0 : Int))) with h1 | h1
  · replace h := ifT h1 h
    obtain ⟨x2, h3, h⟩ := obind h
    rcases bcases (x2 != (w64 (p1 + v9))) with h4 | h4
    · replace h := ifT h4 h
      replace h := Option.some.inj h
      subst h
      exact fun j => Dl.toFin prim_ok mixed 3000 [.bit true, .av (.ip (intC x2 ++ flat intC (List.drop (Int.toNat v9 + 1) p0))), .no, .no, .bit true] [] [] [] false (by kernel_rfl) (ObsOk.cons (obBit h1) (ObsOk.cons (obAv (ix52 (o := .no) h3)) (ObsOk.cons (obBit h4) ObsOk.nil))) (by decide)
    · replace h := ifF h4 h
      exact fun j => Dl.toHead prim_ok mixed 3000 [.bit true, .av (.ip (intC x2 ++ flat intC (List.drop (Int.toNat v9 + 1) p0))), .no, .no, .bit false, .no] [] [] [] [1, 7, 8, 9] (E := fun j => g254L0E0 j p0 p1 (w64 (v9 + 1))) (S := g254L0S0 p0 p1 (w64 (v9 + 1))) (fun j => by kernel_rfl) (ObsOk.cons (obBit h1) (ObsOk.cons (obAv (ix52 (o := .no) h3)) (ObsOk.cons (obBit h4) (ObsOk.cons (obData (dI p0)) ObsOk.nil)))) (ihg254L0 _ _ h)
  · replace h := ifF h1 h
    replace h := Option.some.inj h
    subst h
    exact fun j => Dl.toFin prim_ok mixed 3000 [.bit false] [] [] [] false (by kernel_rfl) (ObsOk.cons (obBit h1) ObsOk.nil) (by decide)
theorem c254 {p0 : List Int} {p1 : Int} {r : Bool} (h : g254 p0 p1 = some r) : CT Tryz.prog 254 [] [.sl (flat intC p0) (List.length p0) .no, ai p1] (ab r) [] 0 := by
  unfold g254 at h
  exact ⟨CTri.toHead prim_ok mixed Tryz.func254 (by kernel_rfl) 3000 [.no] [] [] [] [1, 7, 8, 9] (E := fun j => g254L0E0 j p0 p1 0) (S := g254L0S0 p0 p1 0) (fun j => by kernel_rfl) (ObsOk.cons (obData (dI p0)) ObsOk.nil) (l254L0 h), ⟨⟨trivial, dI _⟩, trivial, trivial⟩, (fun _ h => nomatch h), trivial, (fun _ h => nomatch h)⟩

/- scholium/sign.is -/
def g206 (p0 : List Ent) (p1 : Int) (p2 : Int) : Option (Bool) :=
  if decide (p1 ≥ 0) = true then
    if decide (p1 < (List.length p0 : Int)) = true then
      (gidx p0 p1) >>= fun x3 =>
      some (x3.kind == p2)
    else
      some false
  else
    some false
theorem c206 {p0 : List Ent} {p1 : Int} {p2 : Int} {r : Bool} (h : g206 p0 p1 p2 = some r) : CT Tryz.prog 206 [] [.sl (flat entL p0) (List.length p0) .no, ai p1, ai p2] (ab r) [] 0 := by
  unfold g206 at h
  rcases bcases (decide (p1 ≥ 0)) with h1 | h1
  · replace h := ifT h1 h
    rcases bcases (decide (p1 < (List.length p0 : Int))) with h2 | h2
    · replace h := ifT h2 h
      obtain ⟨x3, h4, h⟩ := obind h
      replace h := Option.some.inj h
      subst h
      exact ⟨CTri.toFin prim_ok mixed Tryz.func206 (by kernel_rfl) 3000 [.bit true, .no, .bit true, .av (.ip (entL x3 ++ flat entL (List.drop (Int.toNat p1 + 1) p0))), .no, .no] [] [] [] false (by kernel_rfl) (ObsOk.cons (obBit h1) (ObsOk.cons (obBit h2) (ObsOk.cons (obAv (ix37 (o := .no) h4)) ObsOk.nil))) (by decide), ⟨⟨trivial, dE _⟩, trivial, trivial, trivial⟩, (fun _ h => nomatch h), trivial, (fun _ h => nomatch h)⟩
    · replace h := ifF h2 h
      replace h := Option.some.inj h
      subst h
      exact ⟨CTri.toFin prim_ok mixed Tryz.func206 (by kernel_rfl) 3000 [.bit true, .no, .bit false] [] [] [] false (by kernel_rfl) (ObsOk.cons (obBit h1) (ObsOk.cons (obBit h2) ObsOk.nil)) (by decide), ⟨⟨trivial, dE _⟩, trivial, trivial, trivial⟩, (fun _ h => nomatch h), trivial, (fun _ h => nomatch h)⟩
  · replace h := ifF h1 h
    replace h := Option.some.inj h
    subst h
    exact ⟨CTri.toFin prim_ok mixed Tryz.func206 (by kernel_rfl) 3000 [.bit false] [] [] [] false (by kernel_rfl) (ObsOk.cons (obBit h1) ObsOk.nil) (by decide), ⟨⟨trivial, dE _⟩, trivial, trivial, trivial⟩, (fun _ h => nomatch h), trivial, (fun _ h => nomatch h)⟩

/- scholium/sign.members -/
def g255L0 (p0 : List Ent) (p1 : Int) (p2 : List Int) (p3 : Int) (v13 : Int) : Option (Bool) :=
  if decide (v13 < (List.length p2 : Int)) = true then
    (gidx p2 v13) >>= fun x2 =>
    (g206 p0 x2 p3) >>= fun r4 =>
    if r4 = true then
      (gidx p0 x2) >>= fun x7 =>
      if (x7.fam != p1) = true then
        some false
      else
        if (x7.place != v13) = true then
          some false
        else
          g255L0 p0 p1 p2 p3 (w64 (v13 + 1))
    else
      some false
  else
    some true
 partial_fixpoint
def g255 (p0 : List Ent) (p1 : Int) (p2 : List Int) (p3 : Int) : Option (Bool) :=
  g255L0 p0 p1 p2 p3 0
def g255L0E0 (j : Nat → Value) (p0 : List Ent) (p1 : Int) (p2 : List Int) (p3 : Int) (v13 : Int) : List AV := [.sl (flat entL p0) (List.length p0) .no, ai p1, .val (j 2), ai p3, .val (j 4), .val (j 5), .val (j 6), .val (j 7), .val (j 8), .val (j 9), .val (j 10), .sl (flat intC p2) (List.length p2) .no, ai (List.length p2 : Int), ai v13, .val (j 14), .val (j 15), .val (j 16), .val (j 17), .val (j 18), .val (j 19), .val (j 20), .val (j 21), .val (j 22), .val (j 23), .val (j 24), .val (j 25), .val (j 26), .val (j 27), .val (j 28), .val (j 29), .val (j 30), .val (j 31), .val (j 32), .val (j 33), .val (j 34), .val (j 35), .val (j 36), .val (j 37), .val (j 38), .val (j 39), .val (j 40), .val (j 41)]
def g255L0S0 (p0 : List Ent) (p1 : Int) (p2 : List Int) (p3 : Int) (v13 : Int) : LSt := ⟨[], 0, [], 0, []⟩
theorem l255L0 {p0 : List Ent} {p1 : Int} {p2 : List Int} {p3 : Int} {v13 : Int} {r : Bool} (h : g255L0 p0 p1 p2 p3 v13 = some r) : (∀ j, Dl Tryz.prog 0 (inn (inn (rgt (lft (rgt (bod Tryz.f255)))))) (g255L0E0 j p0 p1 p2 p3 v13) (g255L0S0 p0 p1 p2 p3 v13) (frameQ Tryz.prog 0 (FinQ Tryz.prog 0 Tryz.f255 (ab r) [] 0) [.blk 0, .seq (rgt (rgt (bod Tryz.f255)))])) := by
  refine g255L0.partial_correctness p0 p1 p2 p3 (fun v13 r => (∀ j, Dl Tryz.prog 0 (inn (inn (rgt (lft (rgt (bod Tryz.f255)))))) (g255L0E0 j p0 p1 p2 p3 v13) (g255L0S0 p0 p1 p2 p3 v13) (frameQ Tryz.prog 0 (FinQ Tryz.prog 0 Tryz.f255 (ab r) [] 0) [.blk 0, .seq (rgt (rgt (bod Tryz.f255)))]))) ?_ v13 _ h
  clear h
  intro g255L0 ihg255L0 v13 r h
  rcases bcases (decide (v13 < (List.length p2 : Int))) with h1 | h1
  · replace h := ifT h1 h
    obtain ⟨x2, h3, h⟩ := obind h
    obtain ⟨r4, h5, h⟩ := obind h
    rcases bcases r4 with h6 | h6
    · replace h := ifT h6 h
      obtain ⟨x7, h8, h⟩ := obind h
      rcases bcases (x7.fam != p1) with h9 | h9
      · replace h := ifT h9 h
        replace h := Option.some.inj h
        subst h
        exact fun j => Dl.toFin prim_ok mixed 3000 [.bit true, .av (.ip (intC x2 ++ flat intC (List.drop (Int.toNat v13 + 1) p2))), .no, .call [] [] 0 (ab r4) (some true), .no, .av (.ip (entL x7 ++ flat entL (List.drop (Int.toNat x2 + 1) p0))), .no, .bit true] [] [] [] false (by kernel_rfl) (ObsOk.cons (obBit h1) (ObsOk.cons (obAv (ix52 (o := .no) h3)) (ObsOk.cons (obBit h6) (ObsOk.cons (obCall (c206 h5)) (ObsOk.cons (obAv (ix37 (o := .no) h8)) (ObsOk.cons (obBit h9) ObsOk.nil)))))) (by decide)
      · replace h := ifF h9 h
        rcases bcases (x7.place != v13) with h10 | h10
        · replace h := ifT h10 h
          replace h := Option.some.inj h
          subst h
          exact fun j => Dl.toFin prim_ok mixed 3000 [.bit true, .av (.ip (intC x2 ++ flat intC (List.drop (Int.toNat v13 + 1) p2))), .no, .call [] [] 0 (ab r4) (some true), .no, .av (.ip (entL x7 ++ flat entL (List.drop (Int.toNat x2 + 1) p0))), .no, .bit false, .av (.ip (entL x7 ++ flat entL (List.drop (Int.toNat x2 + 1) p0))), .no, .bit true] [] [] [] false (by kernel_rfl) (ObsOk.cons (obBit h1) (ObsOk.cons (obAv (ix52 (o := .no) h3)) (ObsOk.cons (obBit h6) (ObsOk.cons (obCall (c206 h5)) (ObsOk.cons (obAv (ix37 (o := .no) h8)) (ObsOk.cons (obBit h9) (ObsOk.cons (obAv (ix37 (o := .no) h8)) (ObsOk.cons (obBit h10) ObsOk.nil)))))))) (by decide)
        · replace h := ifF h10 h
          exact fun j => Dl.toHead prim_ok mixed 3000 [.bit true, .av (.ip (intC x2 ++ flat intC (List.drop (Int.toNat v13 + 1) p2))), .no, .call [] [] 0 (ab r4) (some true), .no, .av (.ip (entL x7 ++ flat entL (List.drop (Int.toNat x2 + 1) p0))), .no, .bit false, .av (.ip (entL x7 ++ flat entL (List.drop (Int.toNat x2 + 1) p0))), .no, .bit false, .no] [] [] [] [0, 1, 3, 11, 12, 13] (E := fun j => g255L0E0 j p0 p1 p2 p3 (w64 (v13 + 1))) (S := g255L0S0 p0 p1 p2 p3 (w64 (v13 + 1))) (fun j => by kernel_rfl) (ObsOk.cons (obBit h1) (ObsOk.cons (obAv (ix52 (o := .no) h3)) (ObsOk.cons (obBit h6) (ObsOk.cons (obCall (c206 h5)) (ObsOk.cons (obAv (ix37 (o := .no) h8)) (ObsOk.cons (obBit h9) (ObsOk.cons (obAv (ix37 (o := .no) h8)) (ObsOk.cons (obBit h10) (ObsOk.cons (obData (dE p0)) (ObsOk.cons (obData (dI p2)) ObsOk.nil)))))))))) (ihg255L0 _ _ h)
    · replace h := ifF h6 h
      replace h := Option.some.inj h
      subst h
      exact fun j => Dl.toFin prim_ok mixed 3000 [.bit true, .av (.ip (intC x2 ++ flat intC (List.drop (Int.toNat v13 + 1) p2))), .no, .call [] [] 0 (ab r4) (some false), .no] [] [] [] false (by kernel_rfl) (ObsOk.cons (obBit h1) (ObsOk.cons (obAv (ix52 (o := .no) h3)) (ObsOk.cons (obBit h6) (ObsOk.cons (obCall (c206 h5)) ObsOk.nil)))) (by decide)
  · replace h := ifF h1 h
    replace h := Option.some.inj h
    subst h
    exact fun j => Dl.toFin prim_ok mixed 3000 [.bit false] [] [] [] false (by kernel_rfl) (ObsOk.cons (obBit h1) ObsOk.nil) (by decide)
theorem c255 {p0 : List Ent} {p1 : Int} {p2 : List Int} {p3 : Int} {r : Bool} (h : g255 p0 p1 p2 p3 = some r) : CT Tryz.prog 255 [] [.sl (flat entL p0) (List.length p0) .no, ai p1, .sl (flat intC p2) (List.length p2) .no, ai p3] (ab r) [] 0 := by
  unfold g255 at h
  exact ⟨CTri.toHead prim_ok mixed Tryz.func255 (by kernel_rfl) 3000 [.no] [] [] [] [0, 1, 3, 11, 12, 13] (E := fun j => g255L0E0 j p0 p1 p2 p3 0) (S := g255L0S0 p0 p1 p2 p3 0) (fun j => by kernel_rfl) (ObsOk.cons (obData (dE p0)) (ObsOk.cons (obData (dI p2)) ObsOk.nil)) (l255L0 h), ⟨⟨trivial, dE _⟩, trivial, ⟨trivial, dI _⟩, trivial, trivial⟩, (fun _ h => nomatch h), trivial, (fun _ h => nomatch h)⟩

/- scholium/sign.family -/
def g217 (p0 : List Ent) (p1 : Int) : Option (Bool) :=
  (gidx p0 p1) >>= fun x1 =>
  if decide (x1.pars < 0) = true then
    some false
  else
    if decide (x1.inds < 0) = true then
      some false
    else
      if decide (x1.pars > 24) = true then
        some false
      else
        if decide (x1.inds > (w64 (24 - x1.pars))) = true then
          some false
        else
          if (x1.fam != 0) = true then
            some false
          else
            if (x1.place != 0) = true then
              some false
            else
              (g253 x1.body) >>= fun r9 =>
              if r9 = true then
                (g207 x1.type (w64 (x1.pars + x1.inds))) >>= fun r12 =>
                if (r12.2.2 != 0) = true then
                  some false
                else
                  if (r12.2.1.k != 2) = true then
                    some false
                  else
                    if (r12.2.1.n != x1.level) = true then
                      some false
                    else
                      if decide ((List.length x1.cons : Int) > 16) = true then
                        some false
                      else
                        (g254 x1.cons (w64 (p1 + 1))) >>= fun r18 =>
                        if r18 = true then
                          (g255 p0 p1 x1.cons 2) >>= fun r21 =>
                          if r21 = true then
                            if ((List.length x1.fields : Int) == 0) = true then
                              some true
                            else
                              if (x1.inds != 0) = true then
                                some false
                              else
                                if ((List.length x1.cons : Int) != 1) = true then
                                  some false
                                else
                                  (g254 x1.fields (w64 (p1 + 2))) >>= fun r27 =>
                                  if r27 = true then
                                    (g255 p0 p1 x1.fields 4) >>= fun r30 =>
                                    if r30 = true then
                                      (gidx p0 (w64 (p1 + 1))) >>= fun x33 =>
                                      (g229 x33.type) >>= fun r35 =>
                                      if (r35.2.2 == 0) = true then
                                        some ((List.length r35.1 : Int) == (w64 (x1.pars + (List.length x1.fields : Int))))
                                      else
                                        some false
                                    else
                                      some false
                                  else
                                    some false
                          else
                            some false
                        else
                          some false
              else
                some false
theorem c217 {p0 : List Ent} {p1 : Int} {r : Bool} (h : g217 p0 p1 = some r) : CT Tryz.prog 217 [] [.sl (flat entL p0) (List.length p0) .no, ai p1] (ab r) [] 0 := by
  unfold g217 at h
  obtain ⟨x1, h2, h⟩ := obind h
  rcases bcases (decide (x1.pars < 0)) with h3 | h3
  · replace h := ifT h3 h
    replace h := Option.some.inj h
    subst h
    exact ⟨CTri.toFin prim_ok mixed Tryz.func217 (by kernel_rfl) 3000 [.av (.ip (entL x1 ++ flat entL (List.drop (Int.toNat p1 + 1) p0))), .no, .no, .no, .bit true] [] [] [] false (by kernel_rfl) (ObsOk.cons (obAv (ix37 (o := .no) h2)) (ObsOk.cons (obBit h3) ObsOk.nil)) (by decide), ⟨⟨trivial, dE _⟩, trivial, trivial⟩, (fun _ h => nomatch h), trivial, (fun _ h => nomatch h)⟩
  · replace h := ifF h3 h
    rcases bcases (decide (x1.inds < 0)) with h4 | h4
    · replace h := ifT h4 h
      replace h := Option.some.inj h
      subst h
      exact ⟨CTri.toFin prim_ok mixed Tryz.func217 (by kernel_rfl) 3000 [.av (.ip (entL x1 ++ flat entL (List.drop (Int.toNat p1 + 1) p0))), .no, .no, .no, .bit false, .no, .bit true] [] [] [] false (by kernel_rfl) (ObsOk.cons (obAv (ix37 (o := .no) h2)) (ObsOk.cons (obBit h3) (ObsOk.cons (obBit h4) ObsOk.nil))) (by decide), ⟨⟨trivial, dE _⟩, trivial, trivial⟩, (fun _ h => nomatch h), trivial, (fun _ h => nomatch h)⟩
    · replace h := ifF h4 h
      rcases bcases (decide (x1.pars > 24)) with h5 | h5
      · replace h := ifT h5 h
        replace h := Option.some.inj h
        subst h
        exact ⟨CTri.toFin prim_ok mixed Tryz.func217 (by kernel_rfl) 3000 [.av (.ip (entL x1 ++ flat entL (List.drop (Int.toNat p1 + 1) p0))), .no, .no, .no, .bit false, .no, .bit false, .no, .bit true] [] [] [] false (by kernel_rfl) (ObsOk.cons (obAv (ix37 (o := .no) h2)) (ObsOk.cons (obBit h3) (ObsOk.cons (obBit h4) (ObsOk.cons (obBit h5) ObsOk.nil)))) (by decide), ⟨⟨trivial, dE _⟩, trivial, trivial⟩, (fun _ h => nomatch h), trivial, (fun _ h => nomatch h)⟩
      · replace h := ifF h5 h
        rcases bcases (decide (x1.inds > (w64 (24 - x1.pars)))) with h6 | h6
        · replace h := ifT h6 h
          replace h := Option.some.inj h
          subst h
          exact ⟨CTri.toFin prim_ok mixed Tryz.func217 (by kernel_rfl) 3000 [.av (.ip (entL x1 ++ flat entL (List.drop (Int.toNat p1 + 1) p0))), .no, .no, .no, .bit false, .no, .bit false, .no, .bit false, .no, .no, .no, .bit true] [] [] [] false (by kernel_rfl) (ObsOk.cons (obAv (ix37 (o := .no) h2)) (ObsOk.cons (obBit h3) (ObsOk.cons (obBit h4) (ObsOk.cons (obBit h5) (ObsOk.cons (obBit h6) ObsOk.nil))))) (by decide), ⟨⟨trivial, dE _⟩, trivial, trivial⟩, (fun _ h => nomatch h), trivial, (fun _ h => nomatch h)⟩
        · replace h := ifF h6 h
          rcases bcases (x1.fam != 0) with h7 | h7
          · replace h := ifT h7 h
            replace h := Option.some.inj h
            subst h
            exact ⟨CTri.toFin prim_ok mixed Tryz.func217 (by kernel_rfl) 3000 [.av (.ip (entL x1 ++ flat entL (List.drop (Int.toNat p1 + 1) p0))), .no, .no, .no, .bit false, .no, .bit false, .no, .bit false, .no, .no, .no, .bit false, .no, .bit true] [] [] [] false (by kernel_rfl) (ObsOk.cons (obAv (ix37 (o := .no) h2)) (ObsOk.cons (obBit h3) (ObsOk.cons (obBit h4) (ObsOk.cons (obBit h5) (ObsOk.cons (obBit h6) (ObsOk.cons (obBit h7) ObsOk.nil)))))) (by decide), ⟨⟨trivial, dE _⟩, trivial, trivial⟩, (fun _ h => nomatch h), trivial, (fun _ h => nomatch h)⟩
          · replace h := ifF h7 h
            rcases bcases (x1.place != 0) with h8 | h8
            · replace h := ifT h8 h
              replace h := Option.some.inj h
              subst h
              exact ⟨CTri.toFin prim_ok mixed Tryz.func217 (by kernel_rfl) 3000 [.av (.ip (entL x1 ++ flat entL (List.drop (Int.toNat p1 + 1) p0))), .no, .no, .no, .bit false, .no, .bit false, .no, .bit false, .no, .no, .no, .bit false, .no, .bit false, .no, .bit true] [] [] [] false (by kernel_rfl) (ObsOk.cons (obAv (ix37 (o := .no) h2)) (ObsOk.cons (obBit h3) (ObsOk.cons (obBit h4) (ObsOk.cons (obBit h5) (ObsOk.cons (obBit h6) (ObsOk.cons (obBit h7) (ObsOk.cons (obBit h8) ObsOk.nil))))))) (by decide), ⟨⟨trivial, dE _⟩, trivial, trivial⟩, (fun _ h => nomatch h), trivial, (fun _ h => nomatch h)⟩
            · replace h := ifF h8 h
              obtain ⟨r9, h10, h⟩ := obind h
              rcases bcases r9 with h11 | h11
              · replace h := ifT h11 h
                obtain ⟨r12, h13, h⟩ := obind h
                rcases bcases (r12.2.2 != 0) with h14 | h14
                · replace h := ifT h14 h
                  replace h := Option.some.inj h
                  subst h
                  exact ⟨CTri.toFin prim_ok mixed Tryz.func217 (by kernel_rfl) 3000 [.av (.ip (entL x1 ++ flat entL (List.drop (Int.toNat p1 + 1) p0))), .no, .no, .no, .bit false, .no, .bit false, .no, .bit false, .no, .no, .no, .bit false, .no, .bit false, .no, .bit false, .no, .call [] [] 0 (ab r9) (some true), .no, .no, .no, .no, .no, .call [] [] 0 (.tup [.sl (flat tmCells r12.1) (List.length r12.1) .no, tmA r12.2.1, ai r12.2.2]) none, .no, .no, .no, .no, .bit true] [] [] [] false (by kernel_rfl) (ObsOk.cons (obAv (ix37 (o := .no) h2)) (ObsOk.cons (obBit h3) (ObsOk.cons (obBit h4) (ObsOk.cons (obBit h5) (ObsOk.cons (obBit h6) (ObsOk.cons (obBit h7) (ObsOk.cons (obBit h8) (ObsOk.cons (obBit h11) (ObsOk.cons (obCall (c253 h10)) (ObsOk.cons (obCall (c207 h13)) (ObsOk.cons (obBit h14) ObsOk.nil))))))))))) (by decide), ⟨⟨trivial, dE _⟩, trivial, trivial⟩, (fun _ h => nomatch h), trivial, (fun _ h => nomatch h)⟩
                · replace h := ifF h14 h
                  rcases bcases (r12.2.1.k != 2) with h15 | h15
                  · replace h := ifT h15 h
                    replace h := Option.some.inj h
                    subst h
                    exact ⟨CTri.toFin prim_ok mixed Tryz.func217 (by kernel_rfl) 3000 [.av (.ip (entL x1 ++ flat entL (List.drop (Int.toNat p1 + 1) p0))), .no, .no, .no, .bit false, .no, .bit false, .no, .bit false, .no, .no, .no, .bit false, .no, .bit false, .no, .bit false, .no, .call [] [] 0 (ab r9) (some true), .no, .no, .no, .no, .no, .call [] [] 0 (.tup [.sl (flat tmCells r12.1) (List.length r12.1) .no, tmA r12.2.1, ai r12.2.2]) none, .no, .no, .no, .no, .bit false, .no, .bit true] [] [] [] false (by kernel_rfl) (ObsOk.cons (obAv (ix37 (o := .no) h2)) (ObsOk.cons (obBit h3) (ObsOk.cons (obBit h4) (ObsOk.cons (obBit h5) (ObsOk.cons (obBit h6) (ObsOk.cons (obBit h7) (ObsOk.cons (obBit h8) (ObsOk.cons (obBit h11) (ObsOk.cons (obCall (c253 h10)) (ObsOk.cons (obCall (c207 h13)) (ObsOk.cons (obBit h14) (ObsOk.cons (obBit h15) ObsOk.nil)))))))))))) (by decide), ⟨⟨trivial, dE _⟩, trivial, trivial⟩, (fun _ h => nomatch h), trivial, (fun _ h => nomatch h)⟩
                  · replace h := ifF h15 h
                    rcases bcases (r12.2.1.n != x1.level) with h16 | h16
                    · replace h := ifT h16 h
                      replace h := Option.some.inj h
                      subst h
                      exact ⟨CTri.toFin prim_ok mixed Tryz.func217 (by kernel_rfl) 3000 [.av (.ip (entL x1 ++ flat entL (List.drop (Int.toNat p1 + 1) p0))), .no, .no, .no, .bit false, .no, .bit false, .no, .bit false, .no, .no, .no, .bit false, .no, .bit false, .no, .bit false, .no, .call [] [] 0 (ab r9) (some true), .no, .no, .no, .no, .no, .call [] [] 0 (.tup [.sl (flat tmCells r12.1) (List.length r12.1) .no, tmA r12.2.1, ai r12.2.2]) none, .no, .no, .no, .no, .bit false, .no, .bit false, .no, .no, .bit true] [] [] [] false (by kernel_rfl) (ObsOk.cons (obAv (ix37 (o := .no) h2)) (ObsOk.cons (obBit h3) (ObsOk.cons (obBit h4) (ObsOk.cons (obBit h5) (ObsOk.cons (obBit h6) (ObsOk.cons (obBit h7) (ObsOk.cons (obBit h8) (ObsOk.cons (obBit h11) (ObsOk.cons (obCall (c253 h10)) (ObsOk.cons (obCall (c207 h13)) (ObsOk.cons (obBit h14) (ObsOk.cons (obBit h15) (ObsOk.cons (obBit h16) ObsOk.nil))))))))))))) (by decide), ⟨⟨trivial, dE _⟩, trivial, trivial⟩, (fun _ h => nomatch h), trivial, (fun _ h => nomatch h)⟩
                    · replace h := ifF h16 h
                      rcases bcases (decide ((List.length x1.cons : Int) > 16)) with h17 | h17
                      · replace h := ifT h17 h
                        replace h := Option.some.inj h
                        subst h
                        exact ⟨CTri.toFin prim_ok mixed Tryz.func217 (by kernel_rfl) 3000 [.av (.ip (entL x1 ++ flat entL (List.drop (Int.toNat p1 + 1) p0))), .no, .no, .no, .bit false, .no, .bit false, .no, .bit false, .no, .no, .no, .bit false, .no, .bit false, .no, .bit false, .no, .call [] [] 0 (ab r9) (some true), .no, .no, .no, .no, .no, .call [] [] 0 (.tup [.sl (flat tmCells r12.1) (List.length r12.1) .no, tmA r12.2.1, ai r12.2.2]) none, .no, .no, .no, .no, .bit false, .no, .bit false, .no, .no, .bit false, .no, .no, .bit true] [] [] [] false (by kernel_rfl) (ObsOk.cons (obAv (ix37 (o := .no) h2)) (ObsOk.cons (obBit h3) (ObsOk.cons (obBit h4) (ObsOk.cons (obBit h5) (ObsOk.cons (obBit h6) (ObsOk.cons (obBit h7) (ObsOk.cons (obBit h8) (ObsOk.cons (obBit h11) (ObsOk.cons (obCall (c253 h10)) (ObsOk.cons (obCall (c207 h13)) (ObsOk.cons (obBit h14) (ObsOk.cons (obBit h15) (ObsOk.cons (obBit h16) (ObsOk.cons (obBit h17) ObsOk.nil)))))))))))))) (by decide), ⟨⟨trivial, dE _⟩, trivial, trivial⟩, (fun _ h => nomatch h), trivial, (fun _ h => nomatch h)⟩
                      · replace h := ifF h17 h
                        obtain ⟨r18, h19, h⟩ := obind h
                        rcases bcases r18 with h20 | h20
                        · replace h := ifT h20 h
                          obtain ⟨r21, h22, h⟩ := obind h
                          rcases bcases r21 with h23 | h23
                          · replace h := ifT h23 h
                            rcases bcases ((List.length x1.fields : Int) == 0) with h24 | h24
                            · replace h := ifT h24 h
                              replace h := Option.some.inj h
                              subst h
                              exact ⟨CTri.toFin prim_ok mixed Tryz.func217 (by kernel_rfl) 3000 [.av (.ip (entL x1 ++ flat entL (List.drop (Int.toNat p1 + 1) p0))), .no, .no, .no, .bit false, .no, .bit false, .no, .bit false, .no, .no, .no, .bit false, .no, .bit false, .no, .bit false, .no, .call [] [] 0 (ab r9) (some true), .no, .no, .no, .no, .no, .call [] [] 0 (.tup [.sl (flat tmCells r12.1) (List.length r12.1) .no, tmA r12.2.1, ai r12.2.2]) none, .no, .no, .no, .no, .bit false, .no, .bit false, .no, .no, .bit false, .no, .no, .bit false, .no, .no, .call [] [] 0 (ab r18) (some true), .no, .no, .call [] [] 0 (ab r21) (some true), .no, .no, .no, .bit true] [] [] [] false (by kernel_rfl) (ObsOk.cons (obAv (ix37 (o := .no) h2)) (ObsOk.cons (obBit h3) (ObsOk.cons (obBit h4) (ObsOk.cons (obBit h5) (ObsOk.cons (obBit h6) (ObsOk.cons (obBit h7) (ObsOk.cons (obBit h8) (ObsOk.cons (obBit h11) (ObsOk.cons (obCall (c253 h10)) (ObsOk.cons (obCall (c207 h13)) (ObsOk.cons (obBit h14) (ObsOk.cons (obBit h15) (ObsOk.cons (obBit h16) (ObsOk.cons (obBit h17) (ObsOk.cons (obBit h20) (ObsOk.cons (obCall (c254 h19)) (ObsOk.cons (obBit h23) (ObsOk.cons (obCall (c255 h22)) (ObsOk.cons (obBit h24) ObsOk.nil))))))))))))))))))) (by decide), ⟨⟨trivial, dE _⟩, trivial, trivial⟩, (fun _ h => nomatch h), trivial, (fun _ h => nomatch h)⟩
                            · replace h := ifF h24 h
                              rcases bcases (x1.inds != 0) with h25 | h25
                              · replace h := ifT h25 h
                                replace h := Option.some.inj h
                                subst h
                                exact ⟨CTri.toFin prim_ok mixed Tryz.func217 (by kernel_rfl) 3000 [.av (.ip (entL x1 ++ flat entL (List.drop (Int.toNat p1 + 1) p0))), .no, .no, .no, .bit false, .no, .bit false, .no, .bit false, .no, .no, .no, .bit false, .no, .bit false, .no, .bit false, .no, .call [] [] 0 (ab r9) (some true), .no, .no, .no, .no, .no, .call [] [] 0 (.tup [.sl (flat tmCells r12.1) (List.length r12.1) .no, tmA r12.2.1, ai r12.2.2]) none, .no, .no, .no, .no, .bit false, .no, .bit false, .no, .no, .bit false, .no, .no, .bit false, .no, .no, .call [] [] 0 (ab r18) (some true), .no, .no, .call [] [] 0 (ab r21) (some true), .no, .no, .no, .bit false, .no, .bit true] [] [] [] false (by kernel_rfl) (ObsOk.cons (obAv (ix37 (o := .no) h2)) (ObsOk.cons (obBit h3) (ObsOk.cons (obBit h4) (ObsOk.cons (obBit h5) (ObsOk.cons (obBit h6) (ObsOk.cons (obBit h7) (ObsOk.cons (obBit h8) (ObsOk.cons (obBit h11) (ObsOk.cons (obCall (c253 h10)) (ObsOk.cons (obCall (c207 h13)) (ObsOk.cons (obBit h14) (ObsOk.cons (obBit h15) (ObsOk.cons (obBit h16) (ObsOk.cons (obBit h17) (ObsOk.cons (obBit h20) (ObsOk.cons (obCall (c254 h19)) (ObsOk.cons (obBit h23) (ObsOk.cons (obCall (c255 h22)) (ObsOk.cons (obBit h24) (ObsOk.cons (obBit h25) ObsOk.nil)))))))))))))))))))) (by decide), ⟨⟨trivial, dE _⟩, trivial, trivial⟩, (fun _ h => nomatch h), trivial, (fun _ h => nomatch h)⟩
                              · replace h := ifF h25 h
                                rcases bcases ((List.length x1.cons : Int) != 1) with h26 | h26
                                · replace h := ifT h26 h
                                  replace h := Option.some.inj h
                                  subst h
                                  exact ⟨CTri.toFin prim_ok mixed Tryz.func217 (by kernel_rfl) 3000 [.av (.ip (entL x1 ++ flat entL (List.drop (Int.toNat p1 + 1) p0))), .no, .no, .no, .bit false, .no, .bit false, .no, .bit false, .no, .no, .no, .bit false, .no, .bit false, .no, .bit false, .no, .call [] [] 0 (ab r9) (some true), .no, .no, .no, .no, .no, .call [] [] 0 (.tup [.sl (flat tmCells r12.1) (List.length r12.1) .no, tmA r12.2.1, ai r12.2.2]) none, .no, .no, .no, .no, .bit false, .no, .bit false, .no, .no, .bit false, .no, .no, .bit false, .no, .no, .call [] [] 0 (ab r18) (some true), .no, .no, .call [] [] 0 (ab r21) (some true), .no, .no, .no, .bit false, .no, .bit false, .no, .no, .bit true] [] [] [] false (by kernel_rfl) (ObsOk.cons (obAv (ix37 (o := .no) h2)) (ObsOk.cons (obBit h3) (ObsOk.cons (obBit h4) (ObsOk.cons (obBit h5) (ObsOk.cons (obBit h6) (ObsOk.cons (obBit h7) (ObsOk.cons (obBit h8) (ObsOk.cons (obBit h11) (ObsOk.cons (obCall (c253 h10)) (ObsOk.cons (obCall (c207 h13)) (ObsOk.cons (obBit h14) (ObsOk.cons (obBit h15) (ObsOk.cons (obBit h16) (ObsOk.cons (obBit h17) (ObsOk.cons (obBit h20) (ObsOk.cons (obCall (c254 h19)) (ObsOk.cons (obBit h23) (ObsOk.cons (obCall (c255 h22)) (ObsOk.cons (obBit h24) (ObsOk.cons (obBit h25) (ObsOk.cons (obBit h26) ObsOk.nil))))))))))))))))))))) (by decide), ⟨⟨trivial, dE _⟩, trivial, trivial⟩, (fun _ h => nomatch h), trivial, (fun _ h => nomatch h)⟩
                                · replace h := ifF h26 h
                                  obtain ⟨r27, h28, h⟩ := obind h
                                  rcases bcases r27 with h29 | h29
                                  · replace h := ifT h29 h
                                    obtain ⟨r30, h31, h⟩ := obind h
                                    rcases bcases r30 with h32 | h32
                                    · replace h := ifT h32 h
                                      obtain ⟨x33, h34, h⟩ := obind h
                                      obtain ⟨r35, h36, h⟩ := obind h
                                      rcases bcases (r35.2.2 == 0) with h37 | h37
                                      · replace h := ifT h37 h
                                        replace h := Option.some.inj h
                                        subst h
                                        exact ⟨CTri.toFin prim_ok mixed Tryz.func217 (by kernel_rfl) 3000 [.av (.ip (entL x1 ++ flat entL (List.drop (Int.toNat p1 + 1) p0))), .no, .no, .no, .bit false, .no, .bit false, .no, .bit false, .no, .no, .no, .bit false, .no, .bit false, .no, .bit false, .no, .call [] [] 0 (ab r9) (some true), .no, .no, .no, .no, .no, .call [] [] 0 (.tup [.sl (flat tmCells r12.1) (List.length r12.1) .no, tmA r12.2.1, ai r12.2.2]) none, .no, .no, .no, .no, .bit false, .no, .bit false, .no, .no, .bit false, .no, .no, .bit false, .no, .no, .call [] [] 0 (ab r18) (some true), .no, .no, .call [] [] 0 (ab r21) (some true), .no, .no, .no, .bit false, .no, .bit false, .no, .no, .bit false, .no, .no, .call [] [] 0 (ab r27) (some true), .no, .no, .call [] [] 0 (ab r30) (some true), .no, .no, .av (.ip (entL x33 ++ flat entL (List.drop (Int.toNat (w64 (p1 + 1)) + 1) p0))), .no, .call [] [] 0 (.tup [.sl (flat tmCells r35.1) (List.length r35.1) .no, tmA r35.2.1, ai r35.2.2]) none, .no, .no, .no, .no, .bit true, .no, .no, .no, .no, .no, .no] [] [] [] false (by kernel_rfl) (ObsOk.cons (obAv (ix37 (o := .no) h2)) (ObsOk.cons (obBit h3) (ObsOk.cons (obBit h4) (ObsOk.cons (obBit h5) (ObsOk.cons (obBit h6) (ObsOk.cons (obBit h7) (ObsOk.cons (obBit h8) (ObsOk.cons (obBit h11) (ObsOk.cons (obCall (c253 h10)) (ObsOk.cons (obCall (c207 h13)) (ObsOk.cons (obBit h14) (ObsOk.cons (obBit h15) (ObsOk.cons (obBit h16) (ObsOk.cons (obBit h17) (ObsOk.cons (obBit h20) (ObsOk.cons (obCall (c254 h19)) (ObsOk.cons (obBit h23) (ObsOk.cons (obCall (c255 h22)) (ObsOk.cons (obBit h24) (ObsOk.cons (obBit h25) (ObsOk.cons (obBit h26) (ObsOk.cons (obBit h29) (ObsOk.cons (obCall (c254 h28)) (ObsOk.cons (obBit h32) (ObsOk.cons (obCall (c255 h31)) (ObsOk.cons (obAv (ix37 (o := .no) h34)) (ObsOk.cons (obCall (c229 h36)) (ObsOk.cons (obBit h37) ObsOk.nil)))))))))))))))))))))))))))) (by decide), ⟨⟨trivial, dE _⟩, trivial, trivial⟩, (fun _ h => nomatch h), trivial, (fun _ h => nomatch h)⟩
                                      · replace h := ifF h37 h
                                        replace h := Option.some.inj h
                                        subst h
                                        exact ⟨CTri.toFin prim_ok mixed Tryz.func217 (by kernel_rfl) 3000 [.av (.ip (entL x1 ++ flat entL (List.drop (Int.toNat p1 + 1) p0))), .no, .no, .no, .bit false, .no, .bit false, .no, .bit false, .no, .no, .no, .bit false, .no, .bit false, .no, .bit false, .no, .call [] [] 0 (ab r9) (some true), .no, .no, .no, .no, .no, .call [] [] 0 (.tup [.sl (flat tmCells r12.1) (List.length r12.1) .no, tmA r12.2.1, ai r12.2.2]) none, .no, .no, .no, .no, .bit false, .no, .bit false, .no, .no, .bit false, .no, .no, .bit false, .no, .no, .call [] [] 0 (ab r18) (some true), .no, .no, .call [] [] 0 (ab r21) (some true), .no, .no, .no, .bit false, .no, .bit false, .no, .no, .bit false, .no, .no, .call [] [] 0 (ab r27) (some true), .no, .no, .call [] [] 0 (ab r30) (some true), .no, .no, .av (.ip (entL x33 ++ flat entL (List.drop (Int.toNat (w64 (p1 + 1)) + 1) p0))), .no, .call [] [] 0 (.tup [.sl (flat tmCells r35.1) (List.length r35.1) .no, tmA r35.2.1, ai r35.2.2]) none, .no, .no, .no, .no, .bit false] [] [] [] false (by kernel_rfl) (ObsOk.cons (obAv (ix37 (o := .no) h2)) (ObsOk.cons (obBit h3) (ObsOk.cons (obBit h4) (ObsOk.cons (obBit h5) (ObsOk.cons (obBit h6) (ObsOk.cons (obBit h7) (ObsOk.cons (obBit h8) (ObsOk.cons (obBit h11) (ObsOk.cons (obCall (c253 h10)) (ObsOk.cons (obCall (c207 h13)) (ObsOk.cons (obBit h14) (ObsOk.cons (obBit h15) (ObsOk.cons (obBit h16) (ObsOk.cons (obBit h17) (ObsOk.cons (obBit h20) (ObsOk.cons (obCall (c254 h19)) (ObsOk.cons (obBit h23) (ObsOk.cons (obCall (c255 h22)) (ObsOk.cons (obBit h24) (ObsOk.cons (obBit h25) (ObsOk.cons (obBit h26) (ObsOk.cons (obBit h29) (ObsOk.cons (obCall (c254 h28)) (ObsOk.cons (obBit h32) (ObsOk.cons (obCall (c255 h31)) (ObsOk.cons (obAv (ix37 (o := .no) h34)) (ObsOk.cons (obCall (c229 h36)) (ObsOk.cons (obBit h37) ObsOk.nil)))))))))))))))))))))))))))) (by decide), ⟨⟨trivial, dE _⟩, trivial, trivial⟩, (fun _ h => nomatch h), trivial, (fun _ h => nomatch h)⟩
                                    · replace h := ifF h32 h
                                      replace h := Option.some.inj h
                                      subst h
                                      exact ⟨CTri.toFin prim_ok mixed Tryz.func217 (by kernel_rfl) 3000 [.av (.ip (entL x1 ++ flat entL (List.drop (Int.toNat p1 + 1) p0))), .no, .no, .no, .bit false, .no, .bit false, .no, .bit false, .no, .no, .no, .bit false, .no, .bit false, .no, .bit false, .no, .call [] [] 0 (ab r9) (some true), .no, .no, .no, .no, .no, .call [] [] 0 (.tup [.sl (flat tmCells r12.1) (List.length r12.1) .no, tmA r12.2.1, ai r12.2.2]) none, .no, .no, .no, .no, .bit false, .no, .bit false, .no, .no, .bit false, .no, .no, .bit false, .no, .no, .call [] [] 0 (ab r18) (some true), .no, .no, .call [] [] 0 (ab r21) (some true), .no, .no, .no, .bit false, .no, .bit false, .no, .no, .bit false, .no, .no, .call [] [] 0 (ab r27) (some true), .no, .no, .call [] [] 0 (ab r30) (some false), .no] [] [] [] false (by kernel_rfl) (ObsOk.cons (obAv (ix37 (o := .no) h2)) (ObsOk.cons (obBit h3) (ObsOk.cons (obBit h4) (ObsOk.cons (obBit h5) (ObsOk.cons (obBit h6) (ObsOk.cons (obBit h7) (ObsOk.cons (obBit h8) (ObsOk.cons (obBit h11) (ObsOk.cons (obCall (c253 h10)) (ObsOk.cons (obCall (c207 h13)) (ObsOk.cons (obBit h14) (ObsOk.cons (obBit h15) (ObsOk.cons (obBit h16) (ObsOk.cons (obBit h17) (ObsOk.cons (obBit h20) (ObsOk.cons (obCall (c254 h19)) (ObsOk.cons (obBit h23) (ObsOk.cons (obCall (c255 h22)) (ObsOk.cons (obBit h24) (ObsOk.cons (obBit h25) (ObsOk.cons (obBit h26) (ObsOk.cons (obBit h29) (ObsOk.cons (obCall (c254 h28)) (ObsOk.cons (obBit h32) (ObsOk.cons (obCall (c255 h31)) ObsOk.nil))))))))))))))))))))))))) (by decide), ⟨⟨trivial, dE _⟩, trivial, trivial⟩, (fun _ h => nomatch h), trivial, (fun _ h => nomatch h)⟩
                                  · replace h := ifF h29 h
                                    replace h := Option.some.inj h
                                    subst h
                                    exact ⟨CTri.toFin prim_ok mixed Tryz.func217 (by kernel_rfl) 3000 [.av (.ip (entL x1 ++ flat entL (List.drop (Int.toNat p1 + 1) p0))), .no, .no, .no, .bit false, .no, .bit false, .no, .bit false, .no, .no, .no, .bit false, .no, .bit false, .no, .bit false, .no, .call [] [] 0 (ab r9) (some true), .no, .no, .no, .no, .no, .call [] [] 0 (.tup [.sl (flat tmCells r12.1) (List.length r12.1) .no, tmA r12.2.1, ai r12.2.2]) none, .no, .no, .no, .no, .bit false, .no, .bit false, .no, .no, .bit false, .no, .no, .bit false, .no, .no, .call [] [] 0 (ab r18) (some true), .no, .no, .call [] [] 0 (ab r21) (some true), .no, .no, .no, .bit false, .no, .bit false, .no, .no, .bit false, .no, .no, .call [] [] 0 (ab r27) (some false), .no] [] [] [] false (by kernel_rfl) (ObsOk.cons (obAv (ix37 (o := .no) h2)) (ObsOk.cons (obBit h3) (ObsOk.cons (obBit h4) (ObsOk.cons (obBit h5) (ObsOk.cons (obBit h6) (ObsOk.cons (obBit h7) (ObsOk.cons (obBit h8) (ObsOk.cons (obBit h11) (ObsOk.cons (obCall (c253 h10)) (ObsOk.cons (obCall (c207 h13)) (ObsOk.cons (obBit h14) (ObsOk.cons (obBit h15) (ObsOk.cons (obBit h16) (ObsOk.cons (obBit h17) (ObsOk.cons (obBit h20) (ObsOk.cons (obCall (c254 h19)) (ObsOk.cons (obBit h23) (ObsOk.cons (obCall (c255 h22)) (ObsOk.cons (obBit h24) (ObsOk.cons (obBit h25) (ObsOk.cons (obBit h26) (ObsOk.cons (obBit h29) (ObsOk.cons (obCall (c254 h28)) ObsOk.nil))))))))))))))))))))))) (by decide), ⟨⟨trivial, dE _⟩, trivial, trivial⟩, (fun _ h => nomatch h), trivial, (fun _ h => nomatch h)⟩
                          · replace h := ifF h23 h
                            replace h := Option.some.inj h
                            subst h
                            exact ⟨CTri.toFin prim_ok mixed Tryz.func217 (by kernel_rfl) 3000 [.av (.ip (entL x1 ++ flat entL (List.drop (Int.toNat p1 + 1) p0))), .no, .no, .no, .bit false, .no, .bit false, .no, .bit false, .no, .no, .no, .bit false, .no, .bit false, .no, .bit false, .no, .call [] [] 0 (ab r9) (some true), .no, .no, .no, .no, .no, .call [] [] 0 (.tup [.sl (flat tmCells r12.1) (List.length r12.1) .no, tmA r12.2.1, ai r12.2.2]) none, .no, .no, .no, .no, .bit false, .no, .bit false, .no, .no, .bit false, .no, .no, .bit false, .no, .no, .call [] [] 0 (ab r18) (some true), .no, .no, .call [] [] 0 (ab r21) (some false), .no] [] [] [] false (by kernel_rfl) (ObsOk.cons (obAv (ix37 (o := .no) h2)) (ObsOk.cons (obBit h3) (ObsOk.cons (obBit h4) (ObsOk.cons (obBit h5) (ObsOk.cons (obBit h6) (ObsOk.cons (obBit h7) (ObsOk.cons (obBit h8) (ObsOk.cons (obBit h11) (ObsOk.cons (obCall (c253 h10)) (ObsOk.cons (obCall (c207 h13)) (ObsOk.cons (obBit h14) (ObsOk.cons (obBit h15) (ObsOk.cons (obBit h16) (ObsOk.cons (obBit h17) (ObsOk.cons (obBit h20) (ObsOk.cons (obCall (c254 h19)) (ObsOk.cons (obBit h23) (ObsOk.cons (obCall (c255 h22)) ObsOk.nil)))))))))))))))))) (by decide), ⟨⟨trivial, dE _⟩, trivial, trivial⟩, (fun _ h => nomatch h), trivial, (fun _ h => nomatch h)⟩
                        · replace h := ifF h20 h
                          replace h := Option.some.inj h
                          subst h
                          exact ⟨CTri.toFin prim_ok mixed Tryz.func217 (by kernel_rfl) 3000 [.av (.ip (entL x1 ++ flat entL (List.drop (Int.toNat p1 + 1) p0))), .no, .no, .no, .bit false, .no, .bit false, .no, .bit false, .no, .no, .no, .bit false, .no, .bit false, .no, .bit false, .no, .call [] [] 0 (ab r9) (some true), .no, .no, .no, .no, .no, .call [] [] 0 (.tup [.sl (flat tmCells r12.1) (List.length r12.1) .no, tmA r12.2.1, ai r12.2.2]) none, .no, .no, .no, .no, .bit false, .no, .bit false, .no, .no, .bit false, .no, .no, .bit false, .no, .no, .call [] [] 0 (ab r18) (some false), .no] [] [] [] false (by kernel_rfl) (ObsOk.cons (obAv (ix37 (o := .no) h2)) (ObsOk.cons (obBit h3) (ObsOk.cons (obBit h4) (ObsOk.cons (obBit h5) (ObsOk.cons (obBit h6) (ObsOk.cons (obBit h7) (ObsOk.cons (obBit h8) (ObsOk.cons (obBit h11) (ObsOk.cons (obCall (c253 h10)) (ObsOk.cons (obCall (c207 h13)) (ObsOk.cons (obBit h14) (ObsOk.cons (obBit h15) (ObsOk.cons (obBit h16) (ObsOk.cons (obBit h17) (ObsOk.cons (obBit h20) (ObsOk.cons (obCall (c254 h19)) ObsOk.nil)))))))))))))))) (by decide), ⟨⟨trivial, dE _⟩, trivial, trivial⟩, (fun _ h => nomatch h), trivial, (fun _ h => nomatch h)⟩
              · replace h := ifF h11 h
                replace h := Option.some.inj h
                subst h
                exact ⟨CTri.toFin prim_ok mixed Tryz.func217 (by kernel_rfl) 3000 [.av (.ip (entL x1 ++ flat entL (List.drop (Int.toNat p1 + 1) p0))), .no, .no, .no, .bit false, .no, .bit false, .no, .bit false, .no, .no, .no, .bit false, .no, .bit false, .no, .bit false, .no, .call [] [] 0 (ab r9) (some false), .no] [] [] [] false (by kernel_rfl) (ObsOk.cons (obAv (ix37 (o := .no) h2)) (ObsOk.cons (obBit h3) (ObsOk.cons (obBit h4) (ObsOk.cons (obBit h5) (ObsOk.cons (obBit h6) (ObsOk.cons (obBit h7) (ObsOk.cons (obBit h8) (ObsOk.cons (obBit h11) (ObsOk.cons (obCall (c253 h10)) ObsOk.nil))))))))) (by decide), ⟨⟨trivial, dE _⟩, trivial, trivial⟩, (fun _ h => nomatch h), trivial, (fun _ h => nomatch h)⟩

end Go.Proofs.YtkeipljdhcbfoaaGreat
