/- What the functions come to: printed by wip/tools/gen.py. -/
import Derived.Test.YtkeipljdhcbfoaaGreatAbQ1
set_option linter.unusedVariables false
set_option linter.unusedSimpArgs false
namespace Go.Proofs.YtkeipljdhcbfoaaGreat
open Go Go.Ab

/- scholium/sign.owned -/
def g256 (p0 : List Ent) (p1 : Int) : Option (Bool) :=
  (gidx p0 p1) >>= fun x1 =>
  (g206 p0 x1.fam 1) >>= fun r3 =>
  if r3 = true then
    if decide (x1.fam ≥ p1) = true then
      some false
    else
      (gidx p0 x1.fam) >>= fun x7 =>
      if (x1.pars != x7.pars) = true then
        some false
      else
        (g253 x1.body) >>= fun r10 =>
        if r10 = true then
          if (x1.inds != 0) = true then
            some false
          else
            if (x1.level != 0) = true then
              some false
            else
              if decide ((w64 ((List.length x1.cons : Int) + (List.length x1.fields : Int))) > 0) = true then
                some false
              else
                if (x1.kind == 4) = true then
                  if decide (x1.place ≥ 0) = true then
                    if decide (x1.place < (List.length x7.fields : Int)) = true then
                      (gidx x7.fields x1.place) >>= fun x19 =>
                      some (x19 == p1)
                    else
                      some false
                  else
                    some false
                else
                  if decide (x1.place ≥ 0) = true then
                    if decide (x1.place < (List.length x7.cons : Int)) = true then
                      (gidx x7.cons x1.place) >>= fun x23 =>
                      some (x23 == p1)
                    else
                      some false
                  else
                    some false
        else
          some false
  else
    some false
theorem c256 {p0 : List Ent} {p1 : Int} {r : Bool} (h : g256 p0 p1 = some r) : CT Tryz.prog 256 [] [.sl (flat entL p0) (List.length p0) .no, ai p1] (ab r) [] 0 := by
  unfold g256 at h
  obtain ⟨x1, h2, h⟩ := obind h
  obtain ⟨r3, h4, h⟩ := obind h
  rcases bcases r3 with h5 | h5
  · replace h := ifT h5 h
    rcases bcases (decide (x1.fam ≥ p1)) with h6 | h6
    · replace h := ifT h6 h
      replace h := Option.some.inj h
      subst h
      exact ⟨CTri.toFin prim_ok mixed Tryz.func256 (by kernel_rfl) 3000 [.av (.ip (entL x1 ++ flat entL (List.drop (Int.toNat p1 + 1) p0))), .no, .no, .no, .call [] [] 0 (ab r3) (some true), .no, .no, .bit true] [] [] [] false (by kernel_rfl) (ObsOk.cons (obAv (ix37 (o := .no) h2)) (ObsOk.cons (obBit h5) (ObsOk.cons (obCall (c206 h4)) (ObsOk.cons (obBit h6) ObsOk.nil)))) (by decide), ⟨⟨trivial, dE _⟩, trivial, trivial⟩, (fun _ h => nomatch h), trivial, (fun _ h => nomatch h)⟩
    · replace h := ifF h6 h
      obtain ⟨x7, h8, h⟩ := obind h
      rcases bcases (x1.pars != x7.pars) with h9 | h9
      · replace h := ifT h9 h
        replace h := Option.some.inj h
        subst h
        exact ⟨CTri.toFin prim_ok mixed Tryz.func256 (by kernel_rfl) 3000 [.av (.ip (entL x1 ++ flat entL (List.drop (Int.toNat p1 + 1) p0))), .no, .no, .no, .call [] [] 0 (ab r3) (some true), .no, .no, .bit false, .no, .no, .av (.ip (entL x7 ++ flat entL (List.drop (Int.toNat x1.fam + 1) p0))), .no, .bit true] [] [] [] false (by kernel_rfl) (ObsOk.cons (obAv (ix37 (o := .no) h2)) (ObsOk.cons (obBit h5) (ObsOk.cons (obCall (c206 h4)) (ObsOk.cons (obBit h6) (ObsOk.cons (obAv (ix37 (o := .no) h8)) (ObsOk.cons (obBit h9) ObsOk.nil)))))) (by decide), ⟨⟨trivial, dE _⟩, trivial, trivial⟩, (fun _ h => nomatch h), trivial, (fun _ h => nomatch h)⟩
      · replace h := ifF h9 h
        obtain ⟨r10, h11, h⟩ := obind h
        rcases bcases r10 with h12 | h12
        · replace h := ifT h12 h
          rcases bcases (x1.inds != 0) with h13 | h13
          · replace h := ifT h13 h
            replace h := Option.some.inj h
            subst h
            exact ⟨CTri.toFin prim_ok mixed Tryz.func256 (by kernel_rfl) 3000 [.av (.ip (entL x1 ++ flat entL (List.drop (Int.toNat p1 + 1) p0))), .no, .no, .no, .call [] [] 0 (ab r3) (some true), .no, .no, .bit false, .no, .no, .av (.ip (entL x7 ++ flat entL (List.drop (Int.toNat x1.fam + 1) p0))), .no, .bit false, .no, .call [] [] 0 (ab r10) (some true), .no, .no, .bit true] [] [] [] false (by kernel_rfl) (ObsOk.cons (obAv (ix37 (o := .no) h2)) (ObsOk.cons (obBit h5) (ObsOk.cons (obCall (c206 h4)) (ObsOk.cons (obBit h6) (ObsOk.cons (obAv (ix37 (o := .no) h8)) (ObsOk.cons (obBit h9) (ObsOk.cons (obBit h12) (ObsOk.cons (obCall (c253 h11)) (ObsOk.cons (obBit h13) ObsOk.nil))))))))) (by decide), ⟨⟨trivial, dE _⟩, trivial, trivial⟩, (fun _ h => nomatch h), trivial, (fun _ h => nomatch h)⟩
          · replace h := ifF h13 h
            rcases bcases (x1.level != 0) with h14 | h14
            · replace h := ifT h14 h
              replace h := Option.some.inj h
              subst h
              exact ⟨CTri.toFin prim_ok mixed Tryz.func256 (by kernel_rfl) 3000 [.av (.ip (entL x1 ++ flat entL (List.drop (Int.toNat p1 + 1) p0))), .no, .no, .no, .call [] [] 0 (ab r3) (some true), .no, .no, .bit false, .no, .no, .av (.ip (entL x7 ++ flat entL (List.drop (Int.toNat x1.fam + 1) p0))), .no, .bit false, .no, .call [] [] 0 (ab r10) (some true), .no, .no, .bit false, .no, .bit true] [] [] [] false (by kernel_rfl) (ObsOk.cons (obAv (ix37 (o := .no) h2)) (ObsOk.cons (obBit h5) (ObsOk.cons (obCall (c206 h4)) (ObsOk.cons (obBit h6) (ObsOk.cons (obAv (ix37 (o := .no) h8)) (ObsOk.cons (obBit h9) (ObsOk.cons (obBit h12) (ObsOk.cons (obCall (c253 h11)) (ObsOk.cons (obBit h13) (ObsOk.cons (obBit h14) ObsOk.nil)))))))))) (by decide), ⟨⟨trivial, dE _⟩, trivial, trivial⟩, (fun _ h => nomatch h), trivial, (fun _ h => nomatch h)⟩
            · replace h := ifF h14 h
              rcases bcases (decide ((w64 ((List.length x1.cons : Int) + (List.length x1.fields : Int))) > 0)) with h15 | h15
              · replace h := ifT h15 h
                replace h := Option.some.inj h
                subst h
                exact ⟨CTri.toFin prim_ok mixed Tryz.func256 (by kernel_rfl) 3000 [.av (.ip (entL x1 ++ flat entL (List.drop (Int.toNat p1 + 1) p0))), .no, .no, .no, .call [] [] 0 (ab r3) (some true), .no, .no, .bit false, .no, .no, .av (.ip (entL x7 ++ flat entL (List.drop (Int.toNat x1.fam + 1) p0))), .no, .bit false, .no, .call [] [] 0 (ab r10) (some true), .no, .no, .bit false, .no, .bit false, .no, .no, .no, .no, .no, .bit true] [] [] [] false (by kernel_rfl) (ObsOk.cons (obAv (ix37 (o := .no) h2)) (ObsOk.cons (obBit h5) (ObsOk.cons (obCall (c206 h4)) (ObsOk.cons (obBit h6) (ObsOk.cons (obAv (ix37 (o := .no) h8)) (ObsOk.cons (obBit h9) (ObsOk.cons (obBit h12) (ObsOk.cons (obCall (c253 h11)) (ObsOk.cons (obBit h13) (ObsOk.cons (obBit h14) (ObsOk.cons (obBit h15) ObsOk.nil))))))))))) (by decide), ⟨⟨trivial, dE _⟩, trivial, trivial⟩, (fun _ h => nomatch h), trivial, (fun _ h => nomatch h)⟩
              · replace h := ifF h15 h
                rcases bcases (x1.kind == 4) with h16 | h16
                · replace h := ifT h16 h
                  rcases bcases (decide (x1.place ≥ 0)) with h17 | h17
                  · replace h := ifT h17 h
                    rcases bcases (decide (x1.place < (List.length x7.fields : Int))) with h18 | h18
                    · replace h := ifT h18 h
                      obtain ⟨x19, h20, h⟩ := obind h
                      replace h := Option.some.inj h
                      subst h
                      exact ⟨CTri.toFin prim_ok mixed Tryz.func256 (by kernel_rfl) 3000 [.av (.ip (entL x1 ++ flat entL (List.drop (Int.toNat p1 + 1) p0))), .no, .no, .no, .call [] [] 0 (ab r3) (some true), .no, .no, .bit false, .no, .no, .av (.ip (entL x7 ++ flat entL (List.drop (Int.toNat x1.fam + 1) p0))), .no, .bit false, .no, .call [] [] 0 (ab r10) (some true), .no, .no, .bit false, .no, .bit false, .no, .no, .no, .no, .no, .bit false, .no, .av (.ip (entL x7 ++ flat entL (List.drop (Int.toNat x1.fam + 1) p0))), .no, .no, .bit true, .no, .av (.ip (entL x7 ++ flat entL (List.drop (Int.toNat x1.fam + 1) p0))), .no, .no, .bit true, .no, .no, .bit true, .no, .av (.ip (intC x19 ++ flat intC (List.drop (Int.toNat x1.place + 1) x7.fields))), .no, .no] [] [] [] false (by kernel_rfl) (ObsOk.cons (obAv (ix37 (o := .no) h2)) (ObsOk.cons (obBit h5) (ObsOk.cons (obCall (c206 h4)) (ObsOk.cons (obBit h6) (ObsOk.cons (obAv (ix37 (o := .no) h8)) (ObsOk.cons (obBit h9) (ObsOk.cons (obBit h12) (ObsOk.cons (obCall (c253 h11)) (ObsOk.cons (obBit h13) (ObsOk.cons (obBit h14) (ObsOk.cons (obBit h15) (ObsOk.cons (obAv (ix37 (o := .no) h8)) (ObsOk.cons (obBit h16) (ObsOk.cons (obAv (ix37 (o := .no) h8)) (ObsOk.cons (obBit h17) (ObsOk.cons (obBit h18) (ObsOk.cons (obAv (ix52 (o := .no) h20)) ObsOk.nil))))))))))))))))) (by decide), ⟨⟨trivial, dE _⟩, trivial, trivial⟩, (fun _ h => nomatch h), trivial, (fun _ h => nomatch h)⟩
                    · replace h := ifF h18 h
                      replace h := Option.some.inj h
                      subst h
                      exact ⟨CTri.toFin prim_ok mixed Tryz.func256 (by kernel_rfl) 3000 [.av (.ip (entL x1 ++ flat entL (List.drop (Int.toNat p1 + 1) p0))), .no, .no, .no, .call [] [] 0 (ab r3) (some true), .no, .no, .bit false, .no, .no, .av (.ip (entL x7 ++ flat entL (List.drop (Int.toNat x1.fam + 1) p0))), .no, .bit false, .no, .call [] [] 0 (ab r10) (some true), .no, .no, .bit false, .no, .bit false, .no, .no, .no, .no, .no, .bit false, .no, .av (.ip (entL x7 ++ flat entL (List.drop (Int.toNat x1.fam + 1) p0))), .no, .no, .bit true, .no, .av (.ip (entL x7 ++ flat entL (List.drop (Int.toNat x1.fam + 1) p0))), .no, .no, .bit true, .no, .no, .bit false] [] [] [] false (by kernel_rfl) (ObsOk.cons (obAv (ix37 (o := .no) h2)) (ObsOk.cons (obBit h5) (ObsOk.cons (obCall (c206 h4)) (ObsOk.cons (obBit h6) (ObsOk.cons (obAv (ix37 (o := .no) h8)) (ObsOk.cons (obBit h9) (ObsOk.cons (obBit h12) (ObsOk.cons (obCall (c253 h11)) (ObsOk.cons (obBit h13) (ObsOk.cons (obBit h14) (ObsOk.cons (obBit h15) (ObsOk.cons (obAv (ix37 (o := .no) h8)) (ObsOk.cons (obBit h16) (ObsOk.cons (obAv (ix37 (o := .no) h8)) (ObsOk.cons (obBit h17) (ObsOk.cons (obBit h18) ObsOk.nil)))))))))))))))) (by decide), ⟨⟨trivial, dE _⟩, trivial, trivial⟩, (fun _ h => nomatch h), trivial, (fun _ h => nomatch h)⟩
                  · replace h := ifF h17 h
                    replace h := Option.some.inj h
                    subst h
                    exact ⟨CTri.toFin prim_ok mixed Tryz.func256 (by kernel_rfl) 3000 [.av (.ip (entL x1 ++ flat entL (List.drop (Int.toNat p1 + 1) p0))), .no, .no, .no, .call [] [] 0 (ab r3) (some true), .no, .no, .bit false, .no, .no, .av (.ip (entL x7 ++ flat entL (List.drop (Int.toNat x1.fam + 1) p0))), .no, .bit false, .no, .call [] [] 0 (ab r10) (some true), .no, .no, .bit false, .no, .bit false, .no, .no, .no, .no, .no, .bit false, .no, .av (.ip (entL x7 ++ flat entL (List.drop (Int.toNat x1.fam + 1) p0))), .no, .no, .bit true, .no, .av (.ip (entL x7 ++ flat entL (List.drop (Int.toNat x1.fam + 1) p0))), .no, .no, .bit false] [] [] [] false (by kernel_rfl) (ObsOk.cons (obAv (ix37 (o := .no) h2)) (ObsOk.cons (obBit h5) (ObsOk.cons (obCall (c206 h4)) (ObsOk.cons (obBit h6) (ObsOk.cons (obAv (ix37 (o := .no) h8)) (ObsOk.cons (obBit h9) (ObsOk.cons (obBit h12) (ObsOk.cons (obCall (c253 h11)) (ObsOk.cons (obBit h13) (ObsOk.cons (obBit h14) (ObsOk.cons (obBit h15) (ObsOk.cons (obAv (ix37 (o := .no) h8)) (ObsOk.cons (obBit h16) (ObsOk.cons (obAv (ix37 (o := .no) h8)) (ObsOk.cons (obBit h17) ObsOk.nil))))))))))))))) (by decide), ⟨⟨trivial, dE _⟩, trivial, trivial⟩, (fun _ h => nomatch h), trivial, (fun _ h => nomatch h)⟩
                · replace h := ifF h16 h
                  rcases bcases (decide (x1.place ≥ 0)) with h21 | h21
                  · replace h := ifT h21 h
                    rcases bcases (decide (x1.place < (List.length x7.cons : Int))) with h22 | h22
                    · replace h := ifT h22 h
                      obtain ⟨x23, h24, h⟩ := obind h
                      replace h := Option.some.inj h
                      subst h
                      exact ⟨CTri.toFin prim_ok mixed Tryz.func256 (by kernel_rfl) 3000 [.av (.ip (entL x1 ++ flat entL (List.drop (Int.toNat p1 + 1) p0))), .no, .no, .no, .call [] [] 0 (ab r3) (some true), .no, .no, .bit false, .no, .no, .av (.ip (entL x7 ++ flat entL (List.drop (Int.toNat x1.fam + 1) p0))), .no, .bit false, .no, .call [] [] 0 (ab r10) (some true), .no, .no, .bit false, .no, .bit false, .no, .no, .no, .no, .no, .bit false, .no, .av (.ip (entL x7 ++ flat entL (List.drop (Int.toNat x1.fam + 1) p0))), .no, .no, .bit false, .no, .bit true, .no, .no, .bit true, .no, .av (.ip (intC x23 ++ flat intC (List.drop (Int.toNat x1.place + 1) x7.cons))), .no, .no] [] [] [] false (by kernel_rfl) (ObsOk.cons (obAv (ix37 (o := .no) h2)) (ObsOk.cons (obBit h5) (ObsOk.cons (obCall (c206 h4)) (ObsOk.cons (obBit h6) (ObsOk.cons (obAv (ix37 (o := .no) h8)) (ObsOk.cons (obBit h9) (ObsOk.cons (obBit h12) (ObsOk.cons (obCall (c253 h11)) (ObsOk.cons (obBit h13) (ObsOk.cons (obBit h14) (ObsOk.cons (obBit h15) (ObsOk.cons (obAv (ix37 (o := .no) h8)) (ObsOk.cons (obBit h16) (ObsOk.cons (obBit h21) (ObsOk.cons (obBit h22) (ObsOk.cons (obAv (ix52 (o := .no) h24)) ObsOk.nil)))))))))))))))) (by decide), ⟨⟨trivial, dE _⟩, trivial, trivial⟩, (fun _ h => nomatch h), trivial, (fun _ h => nomatch h)⟩
                    · replace h := ifF h22 h
                      replace h := Option.some.inj h
                      subst h
                      exact ⟨CTri.toFin prim_ok mixed Tryz.func256 (by kernel_rfl) 3000 [.av (.ip (entL x1 ++ flat entL (List.drop (Int.toNat p1 + 1) p0))), .no, .no, .no, .call [] [] 0 (ab r3) (some true), .no, .no, .bit false, .no, .no, .av (.ip (entL x7 ++ flat entL (List.drop (Int.toNat x1.fam + 1) p0))), .no, .bit false, .no, .call [] [] 0 (ab r10) (some true), .no, .no, .bit false, .no, .bit false, .no, .no, .no, .no, .no, .bit false, .no, .av (.ip (entL x7 ++ flat entL (List.drop (Int.toNat x1.fam + 1) p0))), .no, .no, .bit false, .no, .bit true, .no, .no, .bit false] [] [] [] false (by kernel_rfl) (ObsOk.cons (obAv (ix37 (o := .no) h2)) (ObsOk.cons (obBit h5) (ObsOk.cons (obCall (c206 h4)) (ObsOk.cons (obBit h6) (ObsOk.cons (obAv (ix37 (o := .no) h8)) (ObsOk.cons (obBit h9) (ObsOk.cons (obBit h12) (ObsOk.cons (obCall (c253 h11)) (ObsOk.cons (obBit h13) (ObsOk.cons (obBit h14) (ObsOk.cons (obBit h15) (ObsOk.cons (obAv (ix37 (o := .no) h8)) (ObsOk.cons (obBit h16) (ObsOk.cons (obBit h21) (ObsOk.cons (obBit h22) ObsOk.nil))))))))))))))) (by decide), ⟨⟨trivial, dE _⟩, trivial, trivial⟩, (fun _ h => nomatch h), trivial, (fun _ h => nomatch h)⟩
                  · replace h := ifF h21 h
                    replace h := Option.some.inj h
                    subst h
                    exact ⟨CTri.toFin prim_ok mixed Tryz.func256 (by kernel_rfl) 3000 [.av (.ip (entL x1 ++ flat entL (List.drop (Int.toNat p1 + 1) p0))), .no, .no, .no, .call [] [] 0 (ab r3) (some true), .no, .no, .bit false, .no, .no, .av (.ip (entL x7 ++ flat entL (List.drop (Int.toNat x1.fam + 1) p0))), .no, .bit false, .no, .call [] [] 0 (ab r10) (some true), .no, .no, .bit false, .no, .bit false, .no, .no, .no, .no, .no, .bit false, .no, .av (.ip (entL x7 ++ flat entL (List.drop (Int.toNat x1.fam + 1) p0))), .no, .no, .bit false, .no, .bit false] [] [] [] false (by kernel_rfl) (ObsOk.cons (obAv (ix37 (o := .no) h2)) (ObsOk.cons (obBit h5) (ObsOk.cons (obCall (c206 h4)) (ObsOk.cons (obBit h6) (ObsOk.cons (obAv (ix37 (o := .no) h8)) (ObsOk.cons (obBit h9) (ObsOk.cons (obBit h12) (ObsOk.cons (obCall (c253 h11)) (ObsOk.cons (obBit h13) (ObsOk.cons (obBit h14) (ObsOk.cons (obBit h15) (ObsOk.cons (obAv (ix37 (o := .no) h8)) (ObsOk.cons (obBit h16) (ObsOk.cons (obBit h21) ObsOk.nil)))))))))))))) (by decide), ⟨⟨trivial, dE _⟩, trivial, trivial⟩, (fun _ h => nomatch h), trivial, (fun _ h => nomatch h)⟩
        · replace h := ifF h12 h
          replace h := Option.some.inj h
          subst h
          exact ⟨CTri.toFin prim_ok mixed Tryz.func256 (by kernel_rfl) 3000 [.av (.ip (entL x1 ++ flat entL (List.drop (Int.toNat p1 + 1) p0))), .no, .no, .no, .call [] [] 0 (ab r3) (some true), .no, .no, .bit false, .no, .no, .av (.ip (entL x7 ++ flat entL (List.drop (Int.toNat x1.fam + 1) p0))), .no, .bit false, .no, .call [] [] 0 (ab r10) (some false), .no] [] [] [] false (by kernel_rfl) (ObsOk.cons (obAv (ix37 (o := .no) h2)) (ObsOk.cons (obBit h5) (ObsOk.cons (obCall (c206 h4)) (ObsOk.cons (obBit h6) (ObsOk.cons (obAv (ix37 (o := .no) h8)) (ObsOk.cons (obBit h9) (ObsOk.cons (obBit h12) (ObsOk.cons (obCall (c253 h11)) ObsOk.nil)))))))) (by decide), ⟨⟨trivial, dE _⟩, trivial, trivial⟩, (fun _ h => nomatch h), trivial, (fun _ h => nomatch h)⟩
  · replace h := ifF h5 h
    replace h := Option.some.inj h
    subst h
    exact ⟨CTri.toFin prim_ok mixed Tryz.func256 (by kernel_rfl) 3000 [.av (.ip (entL x1 ++ flat entL (List.drop (Int.toNat p1 + 1) p0))), .no, .no, .no, .call [] [] 0 (ab r3) (some false), .no] [] [] [] false (by kernel_rfl) (ObsOk.cons (obAv (ix37 (o := .no) h2)) (ObsOk.cons (obBit h5) (ObsOk.cons (obCall (c206 h4)) ObsOk.nil))) (by decide), ⟨⟨trivial, dE _⟩, trivial, trivial⟩, (fun _ h => nomatch h), trivial, (fun _ h => nomatch h)⟩

/- THE WALK OF term.Spine: its loop, and slices.Reverse behind it. -/
theorem spA1 (j : Nat → Value) (ls : List L3) (x : Tm) (u : List AV) (vs : List Value) (o : Own) : krun Tryz.prog prim 3000 (.run (inn (inn (lft (rgt (rgt (rgt (bod Tryz.f135)))))))) [] [.val (j 0), .mp 0 0, .mp 1 0, .val (j 3), .sl (flat c3 ls) ls.length (.st 0 3), .mp 2 0, .val (j 6), .val (j 7), .val (j 8), .val (j 9), .val (j 10), .val (j 11), .val (j 12), .val (j 13), .val (j 14), .val (j 15), .val (j 16), .val (j 17), .val (j 18), .val (j 19), .val (j 20), .val (j 21), .val (j 22), .val (j 23), .val (j 24), .val (j 25), .val (j 26), .val (j 27), .val (j 28), .val (j 29), .val (j 30), .val (j 31), .val (j 32), .val (j 33), .val (j 34)] ⟨[(0, .cells u), (1, .cells [ai 0, ai 0, .sl [] 0 .nl]), (2, .cells [ai x.k, ai x.n, .sl (vs.map .val) x.sub.length o])], 3, [0], 1, []⟩ [.no, .bit false] = some (.fin (.exit 0), [.val (j 0), .mp 0 0, .mp 1 0, .val (j 3), .sl (flat c3 ls) ls.length (.st 0 3), .mp 2 0, .val (j 6), .mp 2 0, ai x.k, ab false, ab false, .val undef, .val undef, .val undef, .val undef, ab false, .val (j 16), .val (j 17), .val (j 18), .val (j 19), .val (j 20), .val (j 21), .val (j 22), .val (j 23), .val (j 24), .val (j 25), .val (j 26), .val (j 27), .val (j 28), .val (j 29), .val (j 30), .val (j 31), .val (j 32), .val (j 33), .val (j 34)], ⟨[(0, .cells u), (1, .cells [ai 0, ai 0, .sl [] 0 .nl]), (2, .cells [ai x.k, ai x.n, .sl (vs.map .val) x.sub.length o])], 3, [0], 1, []⟩, [], [.bit (x.k == 5) false]) := by kernel_rfl
theorem spA2 (j : Nat → Value) (ls : List L3) (x : Tm) (u : List AV) (vs : List Value) (o : Own) : (xops Tryz.prog prim (regOps (lft (rgt (rgt (rgt (rgt (bod Tryz.f135))))))) ((regOps (lft (rgt (rgt (rgt (rgt (bod Tryz.f135))))))).toList.take 1) 0 [.val (j 0), .mp 0 0, .mp 1 0, .val (j 3), .sl (flat c3 ls) ls.length (.st 0 3), .mp 2 0, .val (j 6), .mp 2 0, ai x.k, ab false, ab false, .val undef, .val undef, .val undef, .val undef, ab false, .val (j 16), .val (j 17), .val (j 18), .val (j 19), .val (j 20), .val (j 21), .val (j 22), .val (j 23), .val (j 24), .val (j 25), .val (j 26), .val (j 27), .val (j 28), .val (j 29), .val (j 30), .val (j 31), .val (j 32), .val (j 33), .val (j 34)] ⟨[(0, .cells u), (1, .cells [ai 0, ai 0, .sl [] 0 .nl]), (2, .cells [ai x.k, ai x.n, .sl (vs.map .val) x.sub.length o])], 3, [0], 1, []⟩ []).map Prod.snd = some ([.val (j 0), .mp 0 0, .mp 1 0, .val (j 3), .sl (flat c3 ls) ls.length (.st 0 3), .mp 2 0, .val (j 6), .mp 2 0, ai x.k, ab false, ab false, .val undef, .val undef, .val undef, .val undef, ab false, .val (j 16), .val (j 17), .val (j 18), .val (j 19), .val (j 20), .val (j 21), .val (j 22), .val (j 23), .val (j 24), .val (j 25), .val (j 26), .val (j 27), .val (j 28), .val (j 29), .val (j 30), .sl (flat c3 ls) ls.length (.st 0 3), .val (j 32), .val (j 33), .val (j 34)], ⟨[(0, .cells u), (1, .cells [ai 0, ai 0, .sl [] 0 .nl]), (2, .cells [ai x.k, ai x.n, .sl (vs.map .val) x.sub.length o])], 3, [0], 1, []⟩, [], []) := by kernel_rfl
theorem spA3 (j i : Nat → Value) (ls : List L3) (l : List Tm) (x : Tm) (u : List AV) (vs : List Value) (o : Own) : (xops Tryz.prog prim (regOps (lft (rgt (rgt (rgt (rgt (bod Tryz.f135))))))) ((regOps (lft (rgt (rgt (rgt (rgt (bod Tryz.f135))))))).toList.drop 2) 2 (eset (tells [(4, .sl (flat tmCells l.reverse) l.length .no)] (mutEnv [1, 2] i [.val (j 0), .mp 0 0, .mp 1 0, .val (j 3), .sl (flat c3 ls) ls.length (.st 0 3), .mp 2 0, .val (j 6), .mp 2 0, ai x.k, ab false, ab false, .val undef, .val undef, .val undef, .val undef, ab false, .val (j 16), .val (j 17), .val (j 18), .val (j 19), .val (j 20), .val (j 21), .val (j 22), .val (j 23), .val (j 24), .val (j 25), .val (j 26), .val (j 27), .val (j 28), .val (j 29), .val (j 30), .sl (flat c3 ls) ls.length (.st 0 3), .val (j 32), .val (j 33), .val (j 34)] 0)) (some 32) (.tup [])) (pickSt [1, 2] ⟨[(0, .cells u), (1, .cells [ai 0, ai 0, .sl [] 0 .nl]), (2, .cells [ai x.k, ai x.n, .sl (vs.map .val) x.sub.length o])], 3, [0], 1, []⟩) []).map Prod.snd = some ([.val (j 0), .val (i 1), .mp 1 0, .val (j 3), .sl (flat tmCells l.reverse) l.length .no, .mp 2 0, .val (j 6), .mp 2 0, ai x.k, ab false, ab false, .val undef, .val undef, .val undef, .val undef, ab false, .val (j 16), .val (j 17), .val (j 18), .val (j 19), .val (j 20), .val (j 21), .val (j 22), .val (j 23), .val (j 24), .val (j 25), .val (j 26), .val (j 27), .val (j 28), .val (j 29), .val (j 30), .val (i 31), .tup [], .val (j 33), .val (j 34)], ⟨[(1, .cells [ai 0, ai 0, .sl [] 0 .nl]), (2, .cells [ai x.k, ai x.n, .sl (vs.map .val) x.sub.length o])], 3, [], 0, []⟩, [], []) := by kernel_rfl
theorem spA4 (j i : Nat → Value) (l : List Tm) (x : Tm) (vs : List Value) (o : Own) : kfin Tryz.prog prim 0 Tryz.f135 3000 (.run (rgt (rgt (rgt (rgt (rgt (bod Tryz.f135))))))) [] [.val (j 0), .val (i 1), .mp 1 0, .val (j 3), .sl (flat tmCells l.reverse) l.length .no, .mp 2 0, .val (j 6), .mp 2 0, ai x.k, ab false, ab false, .val undef, .val undef, .val undef, .val undef, ab false, .val (j 16), .val (j 17), .val (j 18), .val (j 19), .val (j 20), .val (j 21), .val (j 22), .val (j 23), .val (j 24), .val (j 25), .val (j 26), .val (j 27), .val (j 28), .val (j 29), .val (j 30), .val (i 31), .tup [], .val (j 33), .val (j 34)] ⟨[(1, .cells [ai 0, ai 0, .sl [] 0 .nl]), (2, .cells [ai x.k, ai x.n, .sl (vs.map .val) x.sub.length o])], 3, [], 0, []⟩ [.no, .no] [] [] [] false = some (.tup [.agg [ai x.k, ai x.n, .sl (vs.map .val) x.sub.length .no], .sl (flat tmCells l.reverse) l.length .no], [], [.data (vs.map .val), .data (flat tmCells l.reverse)]) := by kernel_rfl
theorem spB1 (j : Nat → Value) (ls : List L3) (x : Tm) (u : List AV) (vs : List Value) (o : Own) : krun Tryz.prog prim 3000 (.run (inn (inn (lft (rgt (rgt (rgt (bod Tryz.f135)))))))) [] [.val (j 0), .mp 0 0, .mp 1 0, .val (j 3), .sl (flat c3 ls) ls.length (.st 0 3), .mp 2 0, .val (j 6), .val (j 7), .val (j 8), .val (j 9), .val (j 10), .val (j 11), .val (j 12), .val (j 13), .val (j 14), .val (j 15), .val (j 16), .val (j 17), .val (j 18), .val (j 19), .val (j 20), .val (j 21), .val (j 22), .val (j 23), .val (j 24), .val (j 25), .val (j 26), .val (j 27), .val (j 28), .val (j 29), .val (j 30), .val (j 31), .val (j 32), .val (j 33), .val (j 34)] ⟨[(0, .cells u), (1, .cells [ai 0, ai 0, .sl [] 0 .nl]), (2, .cells [ai x.k, ai x.n, .sl (vs.map .val) x.sub.length o])], 3, [0], 1, []⟩ [.no, .bit true, .no, .no, .bit false] = some (.fin (.exit 0), [.val (j 0), .mp 0 0, .mp 1 0, .val (j 3), .sl (flat c3 ls) ls.length (.st 0 3), .mp 2 0, .val (j 6), .mp 2 0, ai x.k, ab true, ab true, .mp 2 2, .sl (vs.map .val) x.sub.length o, ai (x.sub.length : Int), ab false, ab false, .val (j 16), .val (j 17), .val (j 18), .val (j 19), .val (j 20), .val (j 21), .val (j 22), .val (j 23), .val (j 24), .val (j 25), .val (j 26), .val (j 27), .val (j 28), .val (j 29), .val (j 30), .val (j 31), .val (j 32), .val (j 33), .val (j 34)], ⟨[(0, .cells u), (1, .cells [ai 0, ai 0, .sl [] 0 .nl]), (2, .cells [ai x.k, ai x.n, .sl (vs.map .val) x.sub.length o])], 3, [0], 1, []⟩, [], [.bit (x.k == 5) true, .bit ((x.sub.length : Int) == 2) false]) := by kernel_rfl
theorem spB2 (j : Nat → Value) (ls : List L3) (x : Tm) (u : List AV) (vs : List Value) (o : Own) : (xops Tryz.prog prim (regOps (lft (rgt (rgt (rgt (rgt (bod Tryz.f135))))))) ((regOps (lft (rgt (rgt (rgt (rgt (bod Tryz.f135))))))).toList.take 1) 0 [.val (j 0), .mp 0 0, .mp 1 0, .val (j 3), .sl (flat c3 ls) ls.length (.st 0 3), .mp 2 0, .val (j 6), .mp 2 0, ai x.k, ab true, ab true, .mp 2 2, .sl (vs.map .val) x.sub.length o, ai (x.sub.length : Int), ab false, ab false, .val (j 16), .val (j 17), .val (j 18), .val (j 19), .val (j 20), .val (j 21), .val (j 22), .val (j 23), .val (j 24), .val (j 25), .val (j 26), .val (j 27), .val (j 28), .val (j 29), .val (j 30), .val (j 31), .val (j 32), .val (j 33), .val (j 34)] ⟨[(0, .cells u), (1, .cells [ai 0, ai 0, .sl [] 0 .nl]), (2, .cells [ai x.k, ai x.n, .sl (vs.map .val) x.sub.length o])], 3, [0], 1, []⟩ []).map Prod.snd = some ([.val (j 0), .mp 0 0, .mp 1 0, .val (j 3), .sl (flat c3 ls) ls.length (.st 0 3), .mp 2 0, .val (j 6), .mp 2 0, ai x.k, ab true, ab true, .mp 2 2, .sl (vs.map .val) x.sub.length o, ai (x.sub.length : Int), ab false, ab false, .val (j 16), .val (j 17), .val (j 18), .val (j 19), .val (j 20), .val (j 21), .val (j 22), .val (j 23), .val (j 24), .val (j 25), .val (j 26), .val (j 27), .val (j 28), .val (j 29), .val (j 30), .sl (flat c3 ls) ls.length (.st 0 3), .val (j 32), .val (j 33), .val (j 34)], ⟨[(0, .cells u), (1, .cells [ai 0, ai 0, .sl [] 0 .nl]), (2, .cells [ai x.k, ai x.n, .sl (vs.map .val) x.sub.length o])], 3, [0], 1, []⟩, [], []) := by kernel_rfl
theorem spB3 (j i : Nat → Value) (ls : List L3) (l : List Tm) (x : Tm) (u : List AV) (vs : List Value) (o : Own) : (xops Tryz.prog prim (regOps (lft (rgt (rgt (rgt (rgt (bod Tryz.f135))))))) ((regOps (lft (rgt (rgt (rgt (rgt (bod Tryz.f135))))))).toList.drop 2) 2 (eset (tells [(4, .sl (flat tmCells l.reverse) l.length .no)] (mutEnv [1, 2] i [.val (j 0), .mp 0 0, .mp 1 0, .val (j 3), .sl (flat c3 ls) ls.length (.st 0 3), .mp 2 0, .val (j 6), .mp 2 0, ai x.k, ab true, ab true, .mp 2 2, .sl (vs.map .val) x.sub.length o, ai (x.sub.length : Int), ab false, ab false, .val (j 16), .val (j 17), .val (j 18), .val (j 19), .val (j 20), .val (j 21), .val (j 22), .val (j 23), .val (j 24), .val (j 25), .val (j 26), .val (j 27), .val (j 28), .val (j 29), .val (j 30), .sl (flat c3 ls) ls.length (.st 0 3), .val (j 32), .val (j 33), .val (j 34)] 0)) (some 32) (.tup [])) (pickSt [1, 2] ⟨[(0, .cells u), (1, .cells [ai 0, ai 0, .sl [] 0 .nl]), (2, .cells [ai x.k, ai x.n, .sl (vs.map .val) x.sub.length o])], 3, [0], 1, []⟩) []).map Prod.snd = some ([.val (j 0), .val (i 1), .mp 1 0, .val (j 3), .sl (flat tmCells l.reverse) l.length .no, .mp 2 0, .val (j 6), .mp 2 0, ai x.k, ab true, ab true, .mp 2 2, .val (i 12), ai (x.sub.length : Int), ab false, ab false, .val (j 16), .val (j 17), .val (j 18), .val (j 19), .val (j 20), .val (j 21), .val (j 22), .val (j 23), .val (j 24), .val (j 25), .val (j 26), .val (j 27), .val (j 28), .val (j 29), .val (j 30), .val (i 31), .tup [], .val (j 33), .val (j 34)], ⟨[(1, .cells [ai 0, ai 0, .sl [] 0 .nl]), (2, .cells [ai x.k, ai x.n, .sl (vs.map .val) x.sub.length o])], 3, [], 0, []⟩, [], []) := by kernel_rfl
theorem spB4 (j i : Nat → Value) (l : List Tm) (x : Tm) (vs : List Value) (o : Own) : kfin Tryz.prog prim 0 Tryz.f135 3000 (.run (rgt (rgt (rgt (rgt (rgt (bod Tryz.f135))))))) [] [.val (j 0), .val (i 1), .mp 1 0, .val (j 3), .sl (flat tmCells l.reverse) l.length .no, .mp 2 0, .val (j 6), .mp 2 0, ai x.k, ab true, ab true, .mp 2 2, .val (i 12), ai (x.sub.length : Int), ab false, ab false, .val (j 16), .val (j 17), .val (j 18), .val (j 19), .val (j 20), .val (j 21), .val (j 22), .val (j 23), .val (j 24), .val (j 25), .val (j 26), .val (j 27), .val (j 28), .val (j 29), .val (j 30), .val (i 31), .tup [], .val (j 33), .val (j 34)] ⟨[(1, .cells [ai 0, ai 0, .sl [] 0 .nl]), (2, .cells [ai x.k, ai x.n, .sl (vs.map .val) x.sub.length o])], 3, [], 0, []⟩ [.no, .no] [] [] [] false = some (.tup [.agg [ai x.k, ai x.n, .sl (vs.map .val) x.sub.length .no], .sl (flat tmCells l.reverse) l.length .no], [], [.data (vs.map .val), .data (flat tmCells l.reverse)]) := by kernel_rfl
theorem spC (j : Nat → Value) (p0 : Tm) (q0 : Option Addr × Nat × Nat) (ls : List L3) (x : Tm) (vs : List Value) (o : Own) : kfin Tryz.prog prim 0 Tryz.f135 3000 (.run (inn (inn (lft (rgt (rgt (rgt (bod Tryz.f135)))))))) [.loop (inn (inn (lft (rgt (rgt (rgt (bod Tryz.f135))))))), .blk 0, .seq (rgt (rgt (rgt (rgt (bod Tryz.f135)))))] [.val (j 0), .mp 0 0, .mp 1 0, .val (j 3), .sl (flat c3 ls) ls.length (.st 0 3), .mp 2 0, .val (j 6), .val (j 7), .val (j 8), .val (j 9), .val (j 10), .val (j 11), .val (j 12), .val (j 13), .val (j 14), .val (j 15), .val (j 16), .val (j 17), .val (j 18), .val (j 19), .val (j 20), .val (j 21), .val (j 22), .val (j 23), .val (j 24), .val (j 25), .val (j 26), .val (j 27), .val (j 28), .val (j 29), .val (j 30), .val (j 31), .val (j 32), .val (j 33), .val (j 34)] ⟨[(0, .cells [.val (.int .i64 p0.k), .val (.int .i64 p0.n), .val (.slice q0.1 q0.2.1 q0.2.2)]), (1, .cells [ai 0, ai 0, .sl [] 0 .nl]), (2, .cells [ai x.k, ai x.n, .sl (vs.map .val) x.sub.length o])], 3, [0], 1, []⟩ [.no, .bit true, .no, .no, .bit true, .no, .bit true, .no, .no] [] [] [] false = some (.tup [.agg [.val (.int .i64 p0.k), .val (.int .i64 p0.n), .val (.slice q0.1 q0.2.1 q0.2.2)], .sl [] 0 .no], [], [.bit (x.k == 5) true, .bit ((x.sub.length : Int) == 2) true, .bit (decide ((ls.length : Int) ≥ 8192)) true, .data []]) := by kernel_rfl
theorem spD (i j : Nat → Value) (k n : Int) (a b : Tm) (qa qb : Option Addr × Nat × Nat) (u0 u1 u2 : Value) (ls ls2 : List L3) (o : Own) : khead Tryz.prog prim 0 3000 (.run (inn (inn (lft (rgt (rgt (rgt (bod Tryz.f135)))))))) [.loop (inn (inn (lft (rgt (rgt (rgt (bod Tryz.f135))))))), .blk 0, .seq (rgt (rgt (rgt (rgt (bod Tryz.f135)))))] [.val (j 0), .mp 0 0, .mp 1 0, .val (j 3), .sl (flat c3 ls) ls.length (.st 0 3), .mp 2 0, .val (j 6), .val (j 7), .val (j 8), .val (j 9), .val (j 10), .val (j 11), .val (j 12), .val (j 13), .val (j 14), .val (j 15), .val (j 16), .val (j 17), .val (j 18), .val (j 19), .val (j 20), .val (j 21), .val (j 22), .val (j 23), .val (j 24), .val (j 25), .val (j 26), .val (j 27), .val (j 28), .val (j 29), .val (j 30), .val (j 31), .val (j 32), .val (j 33), .val (j 34)] ⟨[(0, .cells [.val u0, .val u1, .val u2]), (1, .cells [ai 0, ai 0, .sl [] 0 .nl]), (2, .cells [ai k, ai n, .sl [.val (.int .i64 a.k), .val (.int .i64 a.n), .val (.slice qa.1 qa.2.1 qa.2.2), .val (.int .i64 b.k), .val (.int .i64 b.n), .val (.slice qb.1 qb.2.1 qb.2.2)] 2 o])], 3, [0], 1, []⟩ [.no, .bit true, .no, .no, .bit true, .no, .bit false, .no, .no, .no, .no, .app (flat c3 ls2) ls2.length 3 false, .no, .no, .no, .no] [] [0, 1, 2] [1] [1, 2, 4, 5] i = some (inn (inn (lft (rgt (rgt (rgt (bod Tryz.f135)))))), [.blk 0, .seq (rgt (rgt (rgt (rgt (bod Tryz.f135)))))], [.val (i 0), .mp 0 0, .mp 1 0, .val (i 3), .sl (flat c3 ls2) ls2.length (.st 0 3), .mp 2 0, .val (i 6), .val (i 7), .val (i 8), .val (i 9), .val (i 10), .val (i 11), .val (i 12), .val (i 13), .val (i 14), .val (i 15), .val (i 16), .val (i 17), .val (i 18), .val (i 19), .val (i 20), .val (i 21), .val (i 22), .val (i 23), .val (i 24), .val (i 25), .val (i 26), .val (i 27), .val (i 28), .val (i 29), .val (i 30), .val (i 31), .val (i 32), .val (i 33), .val (i 34)], ⟨[(0, .cells [.val u0, .val u1, .val u2]), (1, .cells [ai 0, ai 0, .sl [] 0 .nl]), (2, .cells [.val (.int .i64 a.k), .val (.int .i64 a.n), .val (.slice qa.1 qa.2.1 qa.2.2)])], 3, [0], 1, []⟩, [.bit (k == 5) true, .bit ((2 : Int) == 2) true, .bit (decide ((ls.length : Int) ≥ 8192)) false, .app 22 22 (flat c3 ls) [.val (.int .i64 b.k), .val (.int .i64 b.n), .val (.slice qb.1 qb.2.1 qb.2.2)] (flat c3 ls2) ls.length 1 ls2.length 3 false, .data [], .data (flat c3 ls2)]) := by kernel_rfl
theorem spE (i : Nat → Value) (u0 u1 : Int) (u2 : Option Addr × Nat × Nat) : khead Tryz.prog prim 0 3000 (.run (bod Tryz.f135)) [] ([.agg [.val (.int .i64 u0), .val (.int .i64 u1), .val (.slice u2.1 u2.2.1 u2.2.2)]] ++ List.replicate (Tryz.f135.ntmps - 1) (.val undef)) (st0 []) [.no, .no] [(none, 4, 3)] [0, 1, 2] [0] [1, 2, 4, 5] i = some (inn (inn (lft (rgt (rgt (rgt (bod Tryz.f135)))))), [.blk 0, .seq (rgt (rgt (rgt (rgt (bod Tryz.f135)))))], [.val (i 0), .mp 0 0, .mp 1 0, .val (i 3), .sl [] 0 (.st 0 3), .mp 2 0, .val (i 6), .val (i 7), .val (i 8), .val (i 9), .val (i 10), .val (i 11), .val (i 12), .val (i 13), .val (i 14), .val (i 15), .val (i 16), .val (i 17), .val (i 18), .val (i 19), .val (i 20), .val (i 21), .val (i 22), .val (i 23), .val (i 24), .val (i 25), .val (i 26), .val (i 27), .val (i 28), .val (i 29), .val (i 30), .val (i 31), .val (i 32), .val (i 33), .val (i 34)], ⟨[(0, .cells [.val (.int .i64 u0), .val (.int .i64 u1), .val (.slice u2.1 u2.2.1 u2.2.2)]), (1, .cells [ai 0, ai 0, .sl [] 0 .nl]), (2, .cells [.val (.int .i64 u0), .val (.int .i64 u1), .val (.slice u2.1 u2.2.1 u2.2.2)])], 3, [0], 1, []⟩, [.data [], .data []]) := by kernel_rfl

/-- a term's three cells, told as what they hold -/
def sv (x : Tm) (q : Option Addr × Nat × Nat) : List Value := [.int .i64 x.k, .int .i64 x.n, .slice q.1 q.2.1 q.2.2]
def sv3 (x : Tm) (q : Option Addr × Nat × Nat) : L3 := ⟨.int .i64 x.k, .int .i64 x.n, .slice q.1 q.2.1 q.2.2, rfl, rfl, rfl⟩

theorem VL.split {G : Gh} {w : World} : ∀ (cs bs : List AV) (us : List Value), VL G w (cs ++ bs) us → ∃ u1 u2, us = u1 ++ u2 ∧ VL G w cs u1 ∧ VL G w bs u2
  | [], bs, us, h => ⟨[], us, rfl, by simp only [VL], h⟩
  | a :: cs, bs, [], h => by simp only [List.cons_append, VL] at h
  | a :: cs, bs, u :: us, h => by
    simp only [List.cons_append, VL] at h
    obtain ⟨u1, u2, rfl, h1, h2⟩ := VL.split cs bs us h.2
    exact ⟨u :: u1, u2, rfl, by simp only [VL]; exact ⟨h.1, h1⟩, h2⟩

theorem sv_of {G : Gh} {w : World} {x : Tm} {us : List Value} (h : VL G w (tmL x) us) : ∃ q, us = sv x q := by
  unfold tmL at h
  match us, h with
  | [], h => simp only [VL] at h
  | [_], h => simp only [VL, and_false] at h
  | [_, _], h => simp only [VL, and_false] at h
  | [u0, u1, u2], h =>
    simp only [VL, and_true] at h
    obtain ⟨h0, h1, h2⟩ := h
    simp only [V] at h0 h1 h2
    obtain ⟨cap, _, ⟨_, _, _, h, _⟩ | ⟨b, off, h, _⟩⟩ := h2
    · obtain ⟨p, h⟩ : ∃ p, u2 = .slice p 0 0 := ⟨_, h⟩
      exact ⟨(p, 0, 0), by simp [sv, h0, h1, h]⟩
    · exact ⟨(some ⟨b, off, none⟩, x.sub.length, cap), by simp [sv, h0, h1, h]⟩
  | _ :: _ :: _ :: _ :: _, h => simp only [VL, and_false] at h

theorem VC.lit {G G' : Gh} {w w' : World} (b : Nat) (hL : ∀ o, G.L b o → G'.L b o) (hc : ∀ o, w'.cell? ⟨b, o, none⟩ = w.cell? ⟨b, o, none⟩) : ∀ (vs : List Value) (off : Nat), VC G w (vs.map .val) b off → VC G' w' (vs.map .val) b off
  | [], _, _ => by simp only [List.map_nil, VC]
  | v :: vs, off, h => by
    simp only [List.map_cons, VC] at h ⊢
    obtain ⟨h1, ⟨u, h2, h3⟩, h4⟩ := h
    exact ⟨hL _ h1, ⟨u, (hc _).trans h2, by simpa only [V] using h3⟩, VC.lit b hL hc vs (off + 1) h4⟩

theorem relit {G : Gh} {w : World} {vs : List Value} {n : Nat} {o : Own} {u : Value} {es : List AV} (h : V G w (.sl (vs.map .val) n o) u) (he : VL G w es vs) : V G w (.sl es n .no) u := by
  simp only [V] at h ⊢
  obtain ⟨cap, hc, ⟨h1, h2, h3, h4, _⟩ | ⟨b, off, h1, h2, _⟩⟩ := h
  · have hv : vs = [] := by simpa using h1
    subst hv
    have := VL.length _ _ he
    exact ⟨cap, hc, .inl ⟨List.length_eq_zero_iff.1 this.symm, h2, h3, h4, trivial⟩⟩
  · refine ⟨cap, hc, .inr ⟨b, off, h1, ?_, trivial⟩⟩
    obtain ⟨us, q1, q2⟩ := VC.cells _ _ _ h2
    have := VL.litEq _ _ q1
    subst this
    exact VC.of_cells es us b off he (fun i hi => (VC.cell _ _ _ i (.val us[i]) h2 (by simp [hi])).1) q2

/-- a term opened by one level -/
theorem open_tm {na : Nb} {G0 : Gh} {w : World} (hB : Base na G0) {x : Tm} {q : Option Addr × Nat × Nat} (h : VL G0 w (tmL x) (sv x q)) :
    ∃ (vs : List Value) (o : Own), VL G0 w (flat tmCells x.sub) vs ∧ VL G0 w [ai x.k, ai x.n, .sl (vs.map .val) x.sub.length o] (sv x q) ∧ Blk.lit (.cells [ai x.k, ai x.n, .sl (vs.map .val) x.sub.length o]) := by
  unfold tmL sv at h
  simp only [VL, and_true] at h
  obtain ⟨_, _, h2⟩ := h
  have key : ∃ (vs : List Value) (o : Own), VL G0 w (flat tmCells x.sub) vs ∧ V G0 w (.sl (vs.map .val) x.sub.length o) (.slice q.1 q.2.1 q.2.2) ∧
      ∀ (G G' : Gh) (w w' : World) (u : Value), G'.F = G.F → (∀ b o, G.F b → G.L b o → G'.L b o) → (∀ b o, G.F b → w'.cell? ⟨b, o, none⟩ = w.cell? ⟨b, o, none⟩) → V G w (.sl (vs.map .val) x.sub.length o) u → V G' w' (.sl (vs.map .val) x.sub.length o) u := by
    simp only [V] at h2
    obtain ⟨cap, hc, ⟨h1, h2, h3, h4, _⟩ | ⟨b, off, h1, h2, _⟩⟩ := h2
    · refine ⟨[], .no, by rw [h1]; simp only [VL], ?_, ?_⟩
      · simp only [V]; exact ⟨cap, hc, .inl ⟨rfl, h2, h3, h4, trivial⟩⟩
      · intro G G' w w' u _ _ _ hu
        rw [h2] at hu ⊢
        exact V.none hu
    · obtain ⟨vs, q1, q2⟩ := VC.cells _ _ _ h2
      have hL : ∀ i, i < vs.length → G0.L b (off + i) := by
        intro i hi
        have hl := VL.length _ _ q1
        exact (VC.cell _ _ _ i ((flat tmCells x.sub)[i]'(by omega)) h2 (by rw [List.getElem?_eq_getElem])).1
      have hcl : VC G0 w (vs.map .val) b off := VC.of_cells _ vs b off (VL.lits vs) hL q2
      by_cases hs : vs = []
      · subst hs
        have hl := VL.length _ _ q1
        have hfl := flat_len codecT.len x.sub
        have h0 : x.sub.length = 0 := by simp at hl; omega
        refine ⟨[], .no, q1, ?_, ?_⟩
        · simp only [V]; exact ⟨cap, hc, .inr ⟨b, off, h1, hcl, trivial⟩⟩
        · intro G G' w w' u _ _ _ hu
          rw [h0] at hu ⊢
          exact V.none hu
      · have hF : G0.F b := hB.LF b (off + 0) (hL 0 (List.length_pos_iff.2 hs))
        refine ⟨vs, .fr, q1, ?_, ?_⟩
        · simp only [V]; exact ⟨cap, hc, .inr ⟨b, off, h1, hcl, hF⟩⟩
        · intro G G' w w' u e1 e2 e3 hu
          simp only [V] at hu ⊢
          obtain ⟨cap', hc', ⟨p1, p2, p3, p4, _⟩ | ⟨b', off', p1, p2, p3⟩⟩ := hu
          · exact ⟨cap', hc', .inl ⟨p1, p2, p3, p4, trivial⟩⟩
          · have p3' : G.F b' := p3
            exact ⟨cap', hc', .inr ⟨b', off', p1, VC.lit b' (fun o h => e2 b' o p3' h) (fun o => e3 b' o p3') vs off' p2, by show G'.F b'; rw [e1]; exact p3'⟩⟩
  obtain ⟨vs, o, k1, k2, k3⟩ := key
  refine ⟨vs, o, k1, ?_, ?_⟩
  · simp only [sv, VL, V]; simp only [V] at k2; exact ⟨trivial, trivial, k2, trivial⟩
  · intro G G' w w' us e1 e2 e3 hu
    match us, hu with
    | [], hu => simp only [VL] at hu
    | [_], hu => simp only [VL, and_false] at hu
    | [_, _], hu => simp only [VL, and_false] at hu
    | [u0, u1, u2], hu =>
      simp only [VL, and_true] at hu ⊢
      exact ⟨by simpa only [V] using hu.1, by simpa only [V] using hu.2.1, k3 G G' w w' u2 e1 e2 e3 hu.2.2⟩
    | _ :: _ :: _ :: _ :: _, hu => simp only [VL, and_false] at hu

theorem zlit : Blk.lit (.cells [ai 0, ai 0, .sl [] 0 .nl]) := by
  intro G G' w w' us e1 e2 e3 hu
  match us, hu with
  | [], hu => simp only [VL] at hu
  | [_], hu => simp only [VL, and_false] at hu
  | [_, _], hu => simp only [VL, and_false] at hu
  | [u0, u1, u2], hu =>
    simp only [VL, and_true] at hu ⊢
    refine ⟨by simpa only [V] using hu.1, by simpa only [V] using hu.2.1, ?_⟩
    have := hu.2.2
    simp only [V] at this ⊢
    obtain ⟨cap, h1, ⟨_, _, h2, h3, h4⟩ | ⟨b, off, h2, _, h3⟩⟩ := this
    · exact ⟨cap, h1, .inl ⟨trivial, trivial, h2, h3, h4⟩⟩
    · exact h3.elim
  | _ :: _ :: _ :: _ :: _, hu => simp only [VL, and_false] at hu

def Good (G0 : Gh) (res : AV) (r : Tm × List Tm) : Prop := ∀ W G' W', Ext G0 W G' W' → Keep G'.F G'.w0 W' → ∀ u, V G' W' res u → V G' W' (.tup [tmA r.1, .sl (flat tmCells r.2) (List.length r.2) .no]) u

/- scholium/term.Spine -/
def g135L0 (p0 : Tm) : Tm → List Tm → Option (Tm × List Tm)
  | .mk k n [a, b], l =>
    if (k == 5) = true then
      if decide ((List.length l : Int) ≥ 8192) = true then some (p0, []) else (gapp 40 l [b]) >>= fun l2 => g135L0 p0 a l2
    else some (.mk k n [a, b], l.reverse)
  | x, l => some (x, l.reverse)
def g135 (p0 : Tm) : Option (Tm × List Tm) := g135L0 p0 p0 []

theorem dVals : ∀ vs : List Value, AV.DataL (vs.map .val)
  | [] => trivial
  | _ :: vs => ⟨trivial, dVals vs⟩

theorem VL.rev {G : Gh} {w : World} : ∀ (l : List Tm) (ls : List L3), VL G w (flat tmCells l) (vals ls) → ls.length = l.length → VL G w (flat tmCells l.reverse) (vals ls.reverse)
  | [], [], _, _ => by simp [flat, vals, VL]
  | x :: l, y :: ls, h, hl => by
    simp only [flat, vals, List.flatMap_cons] at h
    obtain ⟨u1, u2, e, h1, h2⟩ := VL.split _ _ _ h
    have n1 := VL.length _ _ h1
    rw [codecT.len] at n1
    obtain ⟨rfl, rfl⟩ := List.append_inj e (by rw [n1]; rfl)
    have ih := VL.rev l ls h2 (by simpa using hl)
    simp only [List.reverse_cons, flat, vals, List.flatMap_append, List.flatMap_cons, List.flatMap_nil, List.append_nil]
    exact VL.append _ _ _ _ ih h1
  | [], _ :: _, _, h => by simp at h
  | _ :: _, [], _, h => by simp at h

theorem good_exit {na : Nb} {G0 : Gh} (hB : Base na G0) {x : Tm} {l : List Tm} {vs : List Value} (v1 : VL G0 G0.w0 (flat tmCells x.sub) vs) : Good G0 (.tup [.agg [ai x.k, ai x.n, .sl (vs.map .val) x.sub.length .no], .sl (flat tmCells l.reverse) l.length .no]) (x, l.reverse) := by
  intro W G' W' hE hK u hu
  have v := VL.later hB hE hK v1
  simp only [V, VL] at hu
  obtain ⟨us, rfl, hus⟩ := hu
  match us, hus with
  | [], h => simp only [VL] at h
  | [_], h => simp only [VL, and_false] at h
  | [ua, ub], h =>
    simp only [VL, and_true] at h
    obtain ⟨h1, h2⟩ := h
    simp only [V] at h1
    obtain ⟨ws, rfl, hws⟩ := h1
    match ws, hws with
    | [], h => simp only [VL] at h
    | [_], h => simp only [VL, and_false] at h
    | [_, _], h => simp only [VL, and_false] at h
    | [w0, w1, w2], h =>
      simp only [VL, and_true] at h
      obtain ⟨g0, g1, g2⟩ := h
      have g3 := relit g2 v
      simp only [V]
      refine ⟨[.agg #[w0, w1, w2], ub], rfl, ?_⟩
      simp only [VL, and_true]
      refine ⟨?_, by simpa using h2⟩
      simp only [tmA, V]
      exact ⟨[w0, w1, w2], rfl, by simp only [tmL, VL, and_true]; exact ⟨g0, g1, g3⟩⟩
    | _ :: _ :: _ :: _ :: _, h => simp only [VL, and_false] at h
  | _ :: _ :: _ :: _, h => simp only [VL, and_false] at h

theorem good_long {na : Nb} {G0 : Gh} (hB : Base na G0) {x : Tm} {q : Option Addr × Nat × Nat} (h0 : VL G0 G0.w0 (tmL x) (sv x q)) : Good G0 (.tup [.agg [.val (.int .i64 x.k), .val (.int .i64 x.n), .val (.slice q.1 q.2.1 q.2.2)], .sl [] 0 .no]) (x, []) := by
  intro W G' W' hE hK u hu
  have v := VL.later hB hE hK h0
  simp only [V, VL] at hu
  obtain ⟨us, rfl, hus⟩ := hu
  match us, hus with
  | [], h => simp only [VL] at h
  | [_], h => simp only [VL, and_false] at h
  | [ua, ub], h =>
    simp only [VL, and_true] at h
    obtain ⟨h1, h2⟩ := h
    simp only [V] at h1
    obtain ⟨ws, rfl, hws⟩ := h1
    have hw : ws = sv x q := VL.litEq (sv x q) ws hws
    subst hw
    simp only [V]
    refine ⟨[.agg (sv x q).toArray, ub], rfl, ?_⟩
    simp only [VL, and_true]
    refine ⟨?_, by simpa [flat] using h2⟩
    simp only [tmA, V]
    exact ⟨sv x q, rfl, v⟩
  | _ :: _ :: _ :: _, h => simp only [VL, and_false] at h

theorem spAX {G0 : Gh} {p0 x : Tm} {q0 : Option Addr × Nat × Nat} {l : List Tm} {ls : List L3} {vs : List Value} {o : Own} (j : Nat → Value) (hlit : Blk.lit (.cells [ai x.k, ai x.n, .sl (vs.map .val) x.sub.length o])) (hl : VL G0 G0.w0 (flat tmCells l) (vals ls)) (hlen : ls.length = l.length) (h8 : l.length ≤ 8192) :
    Dv Tryz.prog (⟨0, fun G => G = G0⟩ : Nb) (rgt (rgt (rgt (rgt (bod Tryz.f135))))) [.val (j 0), .mp 0 0, .mp 1 0, .val (j 3), .sl (flat c3 ls) ls.length (.st 0 3), .mp 2 0, .val (j 6), .mp 2 0, ai x.k, ab false, ab false, .val undef, .val undef, .val undef, .val undef, ab false, .val (j 16), .val (j 17), .val (j 18), .val (j 19), .val (j 20), .val (j 21), .val (j 22), .val (j 23), .val (j 24), .val (j 25), .val (j 26), .val (j 27), .val (j 28), .val (j 29), .val (j 30), .val (j 31), .val (j 32), .val (j 33), .val (j 34)] ⟨[(0, .cells [.val (.int .i64 p0.k), .val (.int .i64 p0.n), .val (.slice q0.1 q0.2.1 q0.2.2)]), (1, .cells [ai 0, ai 0, .sl [] 0 .nl]), (2, .cells [ai x.k, ai x.n, .sl (vs.map .val) x.sub.length o])], 3, [0], 1, []⟩ (FinQ Tryz.prog (⟨0, fun G => G = G0⟩ : Nb) Tryz.f135 (.tup [.agg [ai x.k, ai x.n, .sl (vs.map .val) x.sub.length .no], .sl (flat tmCells l.reverse) l.length .no]) [] 0) := by
  have k1 : knd (rgt (rgt (rgt (rgt (bod Tryz.f135))))) = 1 := by kernel_rfl
  have k3 : isReg (lft (rgt (rgt (rgt (rgt (bod Tryz.f135)))))) = true := by kernel_rfl
  have k4 : clOf (regOps (lft (rgt (rgt (rgt (rgt (bod Tryz.f135)))))))[1]? = some (some 32, 191, #[.tmp 31]) := by kernel_rfl
  have k5 : (Tryz.f191.name == "runtime.NumGoroutine") = false := by kernel_rfl
  have k6 : Tryz.f191.body.isNone = false := by kernel_rfl
  refine Dv.seqP k1 ?_
  obtain ⟨id, k7⟩ := regP k3
  rw [k7]
  refine Dv.mut prim_ok (na := (⟨0, fun G => G = G0⟩ : Nb)) rfl 1 [1, 2] [(4, .sl (flat tmCells l.reverse) l.length .no)] (.tup []) (spA2 j ls x _ vs o) ObsOk.nil k4 Tryz.func191 k5 k6 ?_ ?_ (fun i => spA3 j i ls l x _ vs o) ObsOk.nil ?_
  · intro i X hm hX
    have : i = 1 ∨ i = 2 := by simpa using any_beq.1 hm
    rcases this with rfl | rfl
    · cases hX; exact zlit
    · cases hX; exact hlit
  · intro G1 W hB' G w hE hR u hu
    have e := hB'.κ
    subst e
    refine (rev_call (l := ls) hR (by rfl) (by omega) hu).mono ?_
    rintro e w' ⟨v, b, S, e1, e2, e3, e4, e5, e6, e7⟩
    refine ⟨v, b, S, e1, e2, e3, e4, e5, fun G' hE' hK' hS => ⟨by subst e6; simp only [V]; exact ⟨[], rfl, by simp only [VL]⟩, ?_⟩⟩
    intro p hp u' hu'
    have hp' := List.mem_singleton.1 hp
    subst hp'
    have := e7 G' hS _ (VL.later hB' hE' hK' (VL.rev l ls hl hlen)) u' hu'
    rw [hlen] at this
    exact this
  · intro i
    exact kfin_ok (na := (⟨0, fun G => G = G0⟩ : Nb)) prim_ok mixed (spA4 j i l x vs o) (ObsOk.cons (obData (dVals vs)) (ObsOk.cons (obData (dT _)) ObsOk.nil)) (by decide)

theorem spBX {G0 : Gh} {p0 x : Tm} {q0 : Option Addr × Nat × Nat} {l : List Tm} {ls : List L3} {vs : List Value} {o : Own} (j : Nat → Value) (hlit : Blk.lit (.cells [ai x.k, ai x.n, .sl (vs.map .val) x.sub.length o])) (hl : VL G0 G0.w0 (flat tmCells l) (vals ls)) (hlen : ls.length = l.length) (h8 : l.length ≤ 8192) :
    Dv Tryz.prog (⟨0, fun G => G = G0⟩ : Nb) (rgt (rgt (rgt (rgt (bod Tryz.f135))))) [.val (j 0), .mp 0 0, .mp 1 0, .val (j 3), .sl (flat c3 ls) ls.length (.st 0 3), .mp 2 0, .val (j 6), .mp 2 0, ai x.k, ab true, ab true, .mp 2 2, .sl (vs.map .val) x.sub.length o, ai (x.sub.length : Int), ab false, ab false, .val (j 16), .val (j 17), .val (j 18), .val (j 19), .val (j 20), .val (j 21), .val (j 22), .val (j 23), .val (j 24), .val (j 25), .val (j 26), .val (j 27), .val (j 28), .val (j 29), .val (j 30), .val (j 31), .val (j 32), .val (j 33), .val (j 34)] ⟨[(0, .cells [.val (.int .i64 p0.k), .val (.int .i64 p0.n), .val (.slice q0.1 q0.2.1 q0.2.2)]), (1, .cells [ai 0, ai 0, .sl [] 0 .nl]), (2, .cells [ai x.k, ai x.n, .sl (vs.map .val) x.sub.length o])], 3, [0], 1, []⟩ (FinQ Tryz.prog (⟨0, fun G => G = G0⟩ : Nb) Tryz.f135 (.tup [.agg [ai x.k, ai x.n, .sl (vs.map .val) x.sub.length .no], .sl (flat tmCells l.reverse) l.length .no]) [] 0) := by
  have k1 : knd (rgt (rgt (rgt (rgt (bod Tryz.f135))))) = 1 := by kernel_rfl
  have k3 : isReg (lft (rgt (rgt (rgt (rgt (bod Tryz.f135)))))) = true := by kernel_rfl
  have k4 : clOf (regOps (lft (rgt (rgt (rgt (rgt (bod Tryz.f135)))))))[1]? = some (some 32, 191, #[.tmp 31]) := by kernel_rfl
  have k5 : (Tryz.f191.name == "runtime.NumGoroutine") = false := by kernel_rfl
  have k6 : Tryz.f191.body.isNone = false := by kernel_rfl
  refine Dv.seqP k1 ?_
  obtain ⟨id, k7⟩ := regP k3
  rw [k7]
  refine Dv.mut prim_ok (na := (⟨0, fun G => G = G0⟩ : Nb)) rfl 1 [1, 2] [(4, .sl (flat tmCells l.reverse) l.length .no)] (.tup []) (spB2 j ls x _ vs o) ObsOk.nil k4 Tryz.func191 k5 k6 ?_ ?_ (fun i => spB3 j i ls l x _ vs o) ObsOk.nil ?_
  · intro i X hm hX
    have : i = 1 ∨ i = 2 := by simpa using any_beq.1 hm
    rcases this with rfl | rfl
    · cases hX; exact zlit
    · cases hX; exact hlit
  · intro G1 W hB' G w hE hR u hu
    have e := hB'.κ
    subst e
    refine (rev_call (l := ls) hR (by rfl) (by omega) hu).mono ?_
    rintro e w' ⟨v, b, S, e1, e2, e3, e4, e5, e6, e7⟩
    refine ⟨v, b, S, e1, e2, e3, e4, e5, fun G' hE' hK' hS => ⟨by subst e6; simp only [V]; exact ⟨[], rfl, by simp only [VL]⟩, ?_⟩⟩
    intro p hp u' hu'
    have hp' := List.mem_singleton.1 hp
    subst hp'
    have := e7 G' hS _ (VL.later hB' hE' hK' (VL.rev l ls hl hlen)) u' hu'
    rw [hlen] at this
    exact this
  · intro i
    exact kfin_ok (na := (⟨0, fun G => G = G0⟩ : Nb)) prim_ok mixed (spB4 j i l x vs o) (ObsOk.cons (obData (dVals vs)) (ObsOk.cons (obData (dT _)) ObsOk.nil)) (by decide)


theorem apC22 {l m r : List L3} (h : gapp 40 l m = some r) (hm : m.length ≠ 0) : Ob.ok Tryz.prog (.app 22 22 (flat c3 l) (flat c3 m) (flat c3 r) l.length m.length r.length 3 false) := app_some codec3 Tryz.underlying22 info24 rfl rfl rfl (by decide) rfl (by decide) h hm

theorem g135_exit {p0 x : Tm} {l : List Tm} {r : Tm × List Tm} (h : g135L0 p0 x l = some r) (hx : ¬ ((x.k == 5) = true ∧ x.sub.length = 2)) : r = (x, l.reverse) := by
  obtain ⟨k, n, sub⟩ := x
  unfold g135L0 at h
  split at h
  · rename_i k' n' a b e
    cases e
    split at h
    · rename_i hk
      exact (hx ⟨hk, rfl⟩).elim
    · cases h; rfl
  · cases h; rfl

theorem spine_loop {p0 : Tm} {q0 : Option Addr × Nat × Nat} {G0 : Gh} (hB : Base (⟨0, fun G => G = G0⟩ : Nb) G0) (h0 : VL G0 G0.w0 (tmL p0) (sv p0 q0)) : ∀ (N : Nat) (x : Tm) (l : List Tm) (r : Tm × List Tm) (hN : SizeOf.sizeOf x ≤ N) (h : g135L0 p0 x l = some r) (h8 : l.length ≤ 8192) (q : Option Addr × Nat × Nat) (ls : List L3)
    (hx : VL G0 G0.w0 (tmL x) (sv x q)) (hl : VL G0 G0.w0 (flat tmCells l) (vals ls)) (hlen : ls.length = l.length), ∃ res, Good G0 res r ∧ ∀ j : Nat → Value, Dl Tryz.prog (⟨0, fun G => G = G0⟩ : Nb) (inn (inn (lft (rgt (rgt (rgt (bod Tryz.f135))))))) [.val (j 0), .mp 0 0, .mp 1 0, .val (j 3), .sl (flat c3 ls) ls.length (.st 0 3), .mp 2 0, .val (j 6), .val (j 7), .val (j 8), .val (j 9), .val (j 10), .val (j 11), .val (j 12), .val (j 13), .val (j 14), .val (j 15), .val (j 16), .val (j 17), .val (j 18), .val (j 19), .val (j 20), .val (j 21), .val (j 22), .val (j 23), .val (j 24), .val (j 25), .val (j 26), .val (j 27), .val (j 28), .val (j 29), .val (j 30), .val (j 31), .val (j 32), .val (j 33), .val (j 34)] ⟨[(0, .cells [.val (.int .i64 p0.k), .val (.int .i64 p0.n), .val (.slice q0.1 q0.2.1 q0.2.2)]), (1, .cells [ai 0, ai 0, .sl [] 0 .nl]), (2, .cells [.val (.int .i64 x.k), .val (.int .i64 x.n), .val (.slice q.1 q.2.1 q.2.2)])], 3, [0], 1, []⟩ (frameQ Tryz.prog (⟨0, fun G => G = G0⟩ : Nb) (FinQ Tryz.prog (⟨0, fun G => G = G0⟩ : Nb) Tryz.f135 res [] 0) [.blk 0, .seq (rgt (rgt (rgt (rgt (bod Tryz.f135)))))]) := by
  intro N
  induction N with
  | zero =>
    intro x l r hN
    obtain ⟨k, n, sub⟩ := x
    simp at hN
  | succ N spine_ih =>
  intro x l r hN h h8 q ls hx hl hlen
  obtain ⟨vs, o, v1, v2, v3⟩ := open_tm hB hx
  have hopen : ∀ {res : AV} (j : Nat → Value), Dl Tryz.prog (⟨0, fun G => G = G0⟩ : Nb) (inn (inn (lft (rgt (rgt (rgt (bod Tryz.f135))))))) [.val (j 0), .mp 0 0, .mp 1 0, .val (j 3), .sl (flat c3 ls) ls.length (.st 0 3), .mp 2 0, .val (j 6), .val (j 7), .val (j 8), .val (j 9), .val (j 10), .val (j 11), .val (j 12), .val (j 13), .val (j 14), .val (j 15), .val (j 16), .val (j 17), .val (j 18), .val (j 19), .val (j 20), .val (j 21), .val (j 22), .val (j 23), .val (j 24), .val (j 25), .val (j 26), .val (j 27), .val (j 28), .val (j 29), .val (j 30), .val (j 31), .val (j 32), .val (j 33), .val (j 34)] ⟨[(0, .cells [.val (.int .i64 p0.k), .val (.int .i64 p0.n), .val (.slice q0.1 q0.2.1 q0.2.2)]), (1, .cells [ai 0, ai 0, .sl [] 0 .nl]), (2, .cells [ai x.k, ai x.n, .sl (vs.map .val) x.sub.length o])], 3, [0], 1, []⟩ (frameQ Tryz.prog (⟨0, fun G => G = G0⟩ : Nb) (FinQ Tryz.prog (⟨0, fun G => G = G0⟩ : Nb) Tryz.f135 res [] 0) [.blk 0, .seq (rgt (rgt (rgt (rgt (bod Tryz.f135)))))]) → Dl Tryz.prog (⟨0, fun G => G = G0⟩ : Nb) (inn (inn (lft (rgt (rgt (rgt (bod Tryz.f135))))))) [.val (j 0), .mp 0 0, .mp 1 0, .val (j 3), .sl (flat c3 ls) ls.length (.st 0 3), .mp 2 0, .val (j 6), .val (j 7), .val (j 8), .val (j 9), .val (j 10), .val (j 11), .val (j 12), .val (j 13), .val (j 14), .val (j 15), .val (j 16), .val (j 17), .val (j 18), .val (j 19), .val (j 20), .val (j 21), .val (j 22), .val (j 23), .val (j 24), .val (j 25), .val (j 26), .val (j 27), .val (j 28), .val (j 29), .val (j 30), .val (j 31), .val (j 32), .val (j 33), .val (j 34)] ⟨[(0, .cells [.val (.int .i64 p0.k), .val (.int .i64 p0.n), .val (.slice q0.1 q0.2.1 q0.2.2)]), (1, .cells [ai 0, ai 0, .sl [] 0 .nl]), (2, .cells [.val (.int .i64 x.k), .val (.int .i64 x.n), .val (.slice q.1 q.2.1 q.2.2)])], 3, [0], 1, []⟩ (frameQ Tryz.prog (⟨0, fun G => G = G0⟩ : Nb) (FinQ Tryz.prog (⟨0, fun G => G = G0⟩ : Nb) Tryz.f135 res [] 0) [.blk 0, .seq (rgt (rgt (rgt (rgt (bod Tryz.f135)))))]) := by
    intro res j hd
    refine Dl.openB (b := 2) (cs := [.val (.int .i64 x.k), .val (.int .i64 x.n), .val (.slice q.1 q.2.1 q.2.2)]) (cs' := [ai x.k, ai x.n, .sl (vs.map .val) x.sub.length o]) rfl (fun G1 W hB' G w hE hK us hus => ?_) hd
    have e := hB'.κ
    subst e
    have hu : us = sv x q := VL.litEq (sv x q) us hus
    subst hu
    exact VL.later hB' hE hK v2
  by_cases hk : (x.k == 5) = true
  · by_cases h2 : x.sub.length = 2
    · obtain ⟨k, n, sub⟩ := x
      match sub, h2 with
      | [a, b], _ =>
      rw [g135L0] at h
      replace h := ifT hk h
      rcases bcases (decide ((List.length l : Int) ≥ 8192)) with h3 | h3
      · replace h := ifT h3 h
        cases h
        exact ⟨_, good_long hB h0, fun j => hopen j (Dl.toFin (na := (⟨0, fun G => G = G0⟩ : Nb)) prim_ok mixed 3000 _ _ _ _ _ (spC j p0 q0 ls (.mk k n [a, b]) vs o) (ObsOk.cons (obBit hk) (ObsOk.cons (obBit rfl) (ObsOk.cons (obBit (by rw [hlen]; exact h3)) (ObsOk.cons (obData trivial) ObsOk.nil)))) (by decide))⟩
      · replace h := ifF h3 h
        obtain ⟨l2, hg, h⟩ := obind h
        obtain ⟨hg1, rfl⟩ := gapp_spec hg
        have w1 : VL G0 G0.w0 (tmCells a ++ (tmCells b ++ [])) vs := v1
        obtain ⟨ua, u2, rfl, wa, w2⟩ := VL.split _ _ _ w1
        obtain ⟨ub, u3, rfl, wb, w3⟩ := VL.split _ _ _ w2
        have e3 : u3 = [] := by
          have := VL.length _ _ w3
          exact List.length_eq_zero_iff.1 this
        subst e3
        rw [tm_eq] at wa wb
        obtain ⟨qa, rfl⟩ := sv_of wa
        obtain ⟨qb, rfl⟩ := sv_of wb
        have h3' : List.length l < 8192 := by
          have := of_decide_eq_false h3
          omega
        have hl2 : VL G0 G0.w0 (flat tmCells (l ++ [b])) (vals (ls ++ [sv3 b qb])) := by
          simp only [flat, vals, List.flatMap_append, List.flatMap_cons, List.flatMap_nil, List.append_nil]
          refine VL.append _ _ _ _ hl ?_
          rw [tm_eq]; exact wb
        have hga : gapp 40 ls [sv3 b qb] = some (ls ++ [sv3 b qb]) := by
          unfold gapp
          rw [if_pos]
          simp only [List.length_cons, List.length_nil] at hg1 ⊢
          rw [hlen]; exact hg1
        obtain ⟨res, hgood, hdl⟩ := spine_ih a (l ++ [b]) r (by simp at hN; omega) h (by simp; omega) qa (ls ++ [sv3 b qb]) wa hl2 (by simp [hlen])
        refine ⟨res, hgood, fun j => hopen j (Dl.toHead (na := (⟨0, fun G => G = G0⟩ : Nb)) prim_ok mixed 3000 _ _ _ _ _ (fun i => spD i j k n a b qa qb _ _ _ ls (ls ++ [sv3 b qb]) o) ?_ fun i => hdl i)⟩
        exact ObsOk.cons (obBit hk) (ObsOk.cons (obBit rfl) (ObsOk.cons (obBit (by rw [hlen]; exact h3)) (ObsOk.cons (apC22 (m := [sv3 b qb]) hga (by simp)) (ObsOk.cons (obData trivial) (ObsOk.cons (obData (flat_data codec3.data _)) ObsOk.nil)))))
    · have hr := g135_exit h (fun e => h2 e.2)
      subst hr
      refine ⟨.tup [.agg [ai x.k, ai x.n, .sl (vs.map .val) x.sub.length .no], .sl (flat tmCells l.reverse) l.length .no], good_exit hB v1, fun j => hopen j (Dl.step ?_)⟩
      have hx1 := spBX (G0 := G0) (p0 := p0) (q0 := q0) j v3 hl hlen h8
      refine krun_ok (Q := _) prim_ok mixed 3000 (.run (inn (inn (lft (rgt (rgt (rgt (bod Tryz.f135)))))))) [] _ _ _ _ _ _ _ _ (spB1 j ls x _ vs o) (ObsOk.cons (obBit hk) (ObsOk.cons (obBit (by simp; omega)) ObsOk.nil)) ?_
      simp only [KQ, seqQ, frameQ, blockQ, if_true]
      exact hx1
  · have hr := g135_exit h (fun e => hk e.1)
    subst hr
    · refine ⟨.tup [.agg [ai x.k, ai x.n, .sl (vs.map .val) x.sub.length .no], .sl (flat tmCells l.reverse) l.length .no], good_exit hB v1, fun j => hopen j (Dl.step ?_)⟩
      have hx1 := spAX (G0 := G0) (p0 := p0) (q0 := q0) j v3 hl hlen h8
      refine krun_ok (Q := _) prim_ok mixed 3000 (.run (inn (inn (lft (rgt (rgt (rgt (bod Tryz.f135)))))))) [] _ _ _ _ _ _ _ _ (spA1 j ls x _ vs o) (ObsOk.cons (obBit (by simpa using hk)) ObsOk.nil) ?_
      simp only [KQ, seqQ, frameQ, blockQ, if_true]
      exact hx1

theorem c135 {p0 : Tm} {r : Tm × List Tm} (h : g135 p0 = some r) : CT Tryz.prog 135 [] [tmA p0] (.tup [tmA r.1, .sl (flat tmCells r.2) (List.length r.2) .no]) [] 0 := by
  refine ⟨?_, ⟨⟨trivial, trivial, ⟨trivial, dT _⟩, trivial⟩, trivial⟩, (fun _ h => nomatch h), ⟨⟨trivial, trivial, dT _, trivial⟩, dT _, trivial⟩, (fun _ h => nomatch h)⟩
  intro G0 W cargs hB hR hv
  cases hc : cargs.toList with
  | nil => rw [hc] at hv; simp only [VL] at hv
  | cons u us =>
    rw [hc] at hv
    simp only [VL] at hv
    obtain ⟨hu, hus⟩ := hv
    have hus' : us = [] := by
      have := VL.length _ _ hus
      exact List.length_eq_zero_iff.1 this
    subst hus'
    simp only [tmA, V] at hu
    obtain ⟨ws, rfl, hws⟩ := hu
    obtain ⟨q0, rfl⟩ := sv_of hws
    have hBK : Base (⟨0, fun G => G = G0⟩ : Nb) G0 := ⟨hB.ρ, hB.τ, hB.LF, rfl⟩
    have h0 := VL.back hB hR hws
    obtain ⟨res, hgood, hdl⟩ := spine_loop hBK h0 _ p0 [] r (Nat.le_refl _) h (by simp) q0 [] h0 (by simp [flat, vals, VL]) rfl
    have hv2 : VL G0 W [.agg [.val (.int .i64 p0.k), .val (.int .i64 p0.n), .val (.slice q0.1 q0.2.1 q0.2.2)]] cargs.toList := by
      rw [hc]
      simp only [VL, V, and_true]
      exact ⟨sv p0 q0, rfl, VL.lits (sv p0 q0)⟩
    have hb := body_at (na := (⟨0, fun G => G = G0⟩ : Nb)) (res := res) (H1 := []) (nst := 0) rfl Tryz.func135 (by kernel_rfl) (khead_ok (na := (⟨0, fun G => G = G0⟩ : Nb)) (m := .run (bod Tryz.f135)) (fs := []) prim_ok mixed (fun i => spE i p0.k p0.n q0) (ObsOk.cons (obData trivial) (ObsOk.cons (obData trivial) ObsOk.nil)) fun i => hdl i) hBK hR hv2
    refine hb.mono ?_
    rintro e W' ⟨u, G', s', rfl, hE, hR', hu, h1, h2⟩
    exact ⟨u, G', s', rfl, hE, hR', hgood W G' W' hE hR'.below u hu, h1, h2⟩


/- scholium/sign.applied -/
def g257L0 (p2 : Int) (p4 : Int) (r1 : Tm × List Tm) (v37 : Int) : Option (Bool) :=
  if decide (v37 < p2) = true then
    (gidx r1.2 v37) >>= fun x7 =>
    if (x7.k != 1) = true then
      some false
    else
      if (x7.n != (w64 ((w64 (p4 - 1)) - v37))) = true then
        some false
      else
        g257L0 p2 p4 r1 (w64 (v37 + 1))
  else
    some true
 partial_fixpoint
def g257 (p0 : Tm) (p1 : Int) (p2 : Int) (p3 : Int) (p4 : Int) : Option (Bool) :=
  (g135 p0) >>= fun r1 =>
  if (r1.1.k != 6) = true then
    some false
  else
    if (r1.1.n != p1) = true then
      some false
    else
      if ((List.length r1.2 : Int) != (w64 (p2 + p3))) = true then
        some false
      else
        g257L0 p2 p4 r1 0
def g257L0E0 (j : Nat → Value) (p2 : Int) (p4 : Int) (r1 : Tm × List Tm) (v37 : Int) : List AV := [.val (j 0), .val (j 1), .val (j 2), .val (j 3), ai p4, .val (j 5), .val (j 6), .val (j 7), .val (j 8), .val (j 9), .val (j 10), .val (j 11), .sl (flat tmCells r1.2) (List.length r1.2) .no, .val (j 13), .val (j 14), .val (j 15), .val (j 16), .val (j 17), .val (j 18), .val (j 19), .val (j 20), .val (j 21), .val (j 22), .val (j 23), .val (j 24), .val (j 25), .val (j 26), .val (j 27), .val (j 28), .val (j 29), .val (j 30), .val (j 31), .val (j 32), .val (j 33), .val (j 34), .val (j 35), ai p2, ai v37, .val (j 38), .val (j 39), .val (j 40), .val (j 41), .val (j 42), .val (j 43), .val (j 44), .val (j 45), .val (j 46), .val (j 47), .val (j 48), .val (j 49), .val (j 50), .val (j 51), .val (j 52), .val (j 53), .val (j 54), .val (j 55), .val (j 56), .val (j 57), .val (j 58)]
def g257L0S0 (p2 : Int) (p4 : Int) (r1 : Tm × List Tm) (v37 : Int) : LSt := ⟨[], 0, [], 0, []⟩
theorem l257L0 {p2 : Int} {p4 : Int} {r1 : Tm × List Tm} {v37 : Int} {r : Bool} (h : g257L0 p2 p4 r1 v37 = some r) : (∀ j, Dl Tryz.prog 0 (inn (inn (rgt (lft (rgt (rgt (rgt (bod Tryz.f257)))))))) (g257L0E0 j p2 p4 r1 v37) (g257L0S0 p2 p4 r1 v37) (frameQ Tryz.prog 0 (FinQ Tryz.prog 0 Tryz.f257 (ab r) [] 0) [.blk 0, .seq (rgt (rgt (rgt (rgt (bod Tryz.f257)))))])) := by
  refine g257L0.partial_correctness p2 p4 r1 (fun v37 r => (∀ j, Dl Tryz.prog 0 (inn (inn (rgt (lft (rgt (rgt (rgt (bod Tryz.f257)))))))) (g257L0E0 j p2 p4 r1 v37) (g257L0S0 p2 p4 r1 v37) (frameQ Tryz.prog 0 (FinQ Tryz.prog 0 Tryz.f257 (ab r) [] 0) [.blk 0, .seq (rgt (rgt (rgt (rgt (bod Tryz.f257)))))]))) ?_ v37 _ h
  clear h
  intro g257L0 ihg257L0 v37 r h
  rcases bcases (decide (v37 < p2)) with h6 | h6
  · replace h := ifT h6 h
    obtain ⟨x7, h8, h⟩ := obind h
    rcases bcases (x7.k != 1) with h9 | h9
    · replace h := ifT h9 h
      replace h := Option.some.inj h
      subst h
      exact fun j => Dl.toFin prim_ok mixed 3000 [.bit true, .av (.ip (tmL x7 ++ flat tmCells (List.drop (Int.toNat v37 + 1) r1.2))), .no, .bit true] [] [] [] false (by kernel_rfl) (ObsOk.cons (obBit h6) (ObsOk.cons (obAv (ix22 (o := .no) h8)) (ObsOk.cons (obBit h9) ObsOk.nil))) (by decide)
    · replace h := ifF h9 h
      rcases bcases (x7.n != (w64 ((w64 (p4 - 1)) - v37))) with h10 | h10
      · replace h := ifT h10 h
        replace h := Option.some.inj h
        subst h
        exact fun j => Dl.toFin prim_ok mixed 3000 [.bit true, .av (.ip (tmL x7 ++ flat tmCells (List.drop (Int.toNat v37 + 1) r1.2))), .no, .bit false, .av (.ip (tmL x7 ++ flat tmCells (List.drop (Int.toNat v37 + 1) r1.2))), .no, .no, .no, .bit true] [] [] [] false (by kernel_rfl) (ObsOk.cons (obBit h6) (ObsOk.cons (obAv (ix22 (o := .no) h8)) (ObsOk.cons (obBit h9) (ObsOk.cons (obAv (ix22 (o := .no) h8)) (ObsOk.cons (obBit h10) ObsOk.nil))))) (by decide)
      · replace h := ifF h10 h
        exact fun j => Dl.toHead prim_ok mixed 3000 [.bit true, .av (.ip (tmL x7 ++ flat tmCells (List.drop (Int.toNat v37 + 1) r1.2))), .no, .bit false, .av (.ip (tmL x7 ++ flat tmCells (List.drop (Int.toNat v37 + 1) r1.2))), .no, .no, .no, .bit false, .no] [] [] [] [4, 12, 36, 37] (E := fun j => g257L0E0 j p2 p4 r1 (w64 (v37 + 1))) (S := g257L0S0 p2 p4 r1 (w64 (v37 + 1))) (fun j => by kernel_rfl) (ObsOk.cons (obBit h6) (ObsOk.cons (obAv (ix22 (o := .no) h8)) (ObsOk.cons (obBit h9) (ObsOk.cons (obAv (ix22 (o := .no) h8)) (ObsOk.cons (obBit h10) (ObsOk.cons (obData (dT r1.2)) ObsOk.nil)))))) (ihg257L0 _ _ h)
  · replace h := ifF h6 h
    replace h := Option.some.inj h
    subst h
    exact fun j => Dl.toFin prim_ok mixed 3000 [.bit false] [] [] [] false (by kernel_rfl) (ObsOk.cons (obBit h6) ObsOk.nil) (by decide)
theorem c257 {p0 : Tm} {p1 : Int} {p2 : Int} {p3 : Int} {p4 : Int} {r : Bool} (h : g257 p0 p1 p2 p3 p4 = some r) : CT Tryz.prog 257 [] [tmA p0, ai p1, ai p2, ai p3, ai p4] (ab r) [] 0 := by
  unfold g257 at h
  obtain ⟨r1, h2, h⟩ := obind h
  rcases bcases (r1.1.k != 6) with h3 | h3
  · replace h := ifT h3 h
    replace h := Option.some.inj h
    subst h
    exact ⟨CTri.toFin prim_ok mixed Tryz.func257 (by kernel_rfl) 3000 [.no, .call [] [] 0 (.tup [tmA r1.1, .sl (flat tmCells r1.2) (List.length r1.2) .no]) none, .no, .no, .no, .no, .bit true] [] [] [] false (by kernel_rfl) (ObsOk.cons (obCall (c135 h2)) (ObsOk.cons (obBit h3) ObsOk.nil)) (by decide), ⟨⟨trivial, trivial, ⟨trivial, dT _⟩, trivial⟩, trivial, trivial, trivial, trivial, trivial⟩, (fun _ h => nomatch h), trivial, (fun _ h => nomatch h)⟩
  · replace h := ifF h3 h
    rcases bcases (r1.1.n != p1) with h4 | h4
    · replace h := ifT h4 h
      replace h := Option.some.inj h
      subst h
      exact ⟨CTri.toFin prim_ok mixed Tryz.func257 (by kernel_rfl) 3000 [.no, .call [] [] 0 (.tup [tmA r1.1, .sl (flat tmCells r1.2) (List.length r1.2) .no]) none, .no, .no, .no, .no, .bit false, .no, .bit true] [] [] [] false (by kernel_rfl) (ObsOk.cons (obCall (c135 h2)) (ObsOk.cons (obBit h3) (ObsOk.cons (obBit h4) ObsOk.nil))) (by decide), ⟨⟨trivial, trivial, ⟨trivial, dT _⟩, trivial⟩, trivial, trivial, trivial, trivial, trivial⟩, (fun _ h => nomatch h), trivial, (fun _ h => nomatch h)⟩
    · replace h := ifF h4 h
      rcases bcases ((List.length r1.2 : Int) != (w64 (p2 + p3))) with h5 | h5
      · replace h := ifT h5 h
        replace h := Option.some.inj h
        subst h
        exact ⟨CTri.toFin prim_ok mixed Tryz.func257 (by kernel_rfl) 3000 [.no, .call [] [] 0 (.tup [tmA r1.1, .sl (flat tmCells r1.2) (List.length r1.2) .no]) none, .no, .no, .no, .no, .bit false, .no, .bit false, .no, .no, .bit true] [] [] [] false (by kernel_rfl) (ObsOk.cons (obCall (c135 h2)) (ObsOk.cons (obBit h3) (ObsOk.cons (obBit h4) (ObsOk.cons (obBit h5) ObsOk.nil)))) (by decide), ⟨⟨trivial, trivial, ⟨trivial, dT _⟩, trivial⟩, trivial, trivial, trivial, trivial, trivial⟩, (fun _ h => nomatch h), trivial, (fun _ h => nomatch h)⟩
      · replace h := ifF h5 h
        exact ⟨CTri.toHead prim_ok mixed Tryz.func257 (by kernel_rfl) 3000 [.no, .call [] [] 0 (.tup [tmA r1.1, .sl (flat tmCells r1.2) (List.length r1.2) .no]) none, .no, .no, .no, .no, .bit false, .no, .bit false, .no, .no, .bit false] [] [] [] [4, 12, 36, 37] (E := fun j => g257L0E0 j p2 p4 r1 0) (S := g257L0S0 p2 p4 r1 0) (fun j => by kernel_rfl) (ObsOk.cons (obCall (c135 h2)) (ObsOk.cons (obBit h3) (ObsOk.cons (obBit h4) (ObsOk.cons (obBit h5) (ObsOk.cons (obData (dT r1.2)) ObsOk.nil))))) (l257L0 h), ⟨⟨trivial, trivial, ⟨trivial, dT _⟩, trivial⟩, trivial, trivial, trivial, trivial, trivial⟩, (fun _ h => nomatch h), trivial, (fun _ h => nomatch h)⟩

/- scholium/sign.con -/
def g218 (p0 : List Ent) (p1 : Int) : Option (Bool) :=
  (gidx p0 p1) >>= fun x1 =>
  (g229 x1.type) >>= fun r3 =>
  (g256 p0 p1) >>= fun r5 =>
  if r5 = true then
    if (r3.2.2 == 0) = true then
      if decide ((List.length r3.1 : Int) ≥ x1.pars) = true then
        (gidx p0 x1.fam) >>= fun x10 =>
        (g257 r3.2.1 x1.fam x1.pars x10.inds (List.length r3.1 : Int)) >>= fun r12 =>
        some r12
      else
        some false
    else
      some false
  else
    some false
theorem c218 {p0 : List Ent} {p1 : Int} {r : Bool} (h : g218 p0 p1 = some r) : CT Tryz.prog 218 [] [.sl (flat entL p0) (List.length p0) .no, ai p1] (ab r) [] 0 := by
  unfold g218 at h
  obtain ⟨x1, h2, h⟩ := obind h
  obtain ⟨r3, h4, h⟩ := obind h
  obtain ⟨r5, h6, h⟩ := obind h
  rcases bcases r5 with h7 | h7
  · replace h := ifT h7 h
    rcases bcases (r3.2.2 == 0) with h8 | h8
    · replace h := ifT h8 h
      rcases bcases (decide ((List.length r3.1 : Int) ≥ x1.pars)) with h9 | h9
      · replace h := ifT h9 h
        obtain ⟨x10, h11, h⟩ := obind h
        obtain ⟨r12, h13, h⟩ := obind h
        replace h := Option.some.inj h
        subst h
        exact ⟨CTri.toFin prim_ok mixed Tryz.func218 (by kernel_rfl) 3000 [.av (.ip (entL x1 ++ flat entL (List.drop (Int.toNat p1 + 1) p0))), .no, .call [] [] 0 (.tup [.sl (flat tmCells r3.1) (List.length r3.1) .no, tmA r3.2.1, ai r3.2.2]) none, .no, .no, .no, .no, .call [] [] 0 (ab r5) (some true), .bit true, .no, .av (.ip (entL x1 ++ flat entL (List.drop (Int.toNat p1 + 1) p0))), .no, .bit true, .no, .av (.ip (entL x1 ++ flat entL (List.drop (Int.toNat p1 + 1) p0))), .no, .av (.ip (entL x1 ++ flat entL (List.drop (Int.toNat p1 + 1) p0))), .no, .av (.ip (entL x1 ++ flat entL (List.drop (Int.toNat p1 + 1) p0))), .no, .av (.ip (entL x10 ++ flat entL (List.drop (Int.toNat x1.fam + 1) p0))), .no, .no, .call [] [] 0 (ab r12) none] [] [] [] false (by kernel_rfl) (ObsOk.cons (obAv (ix37 (o := .no) h2)) (ObsOk.cons (obCall (c229 h4)) (ObsOk.cons (obBit h7) (ObsOk.cons (obCall (c256 h6)) (ObsOk.cons (obBit h8) (ObsOk.cons (obAv (ix37 (o := .no) h2)) (ObsOk.cons (obBit h9) (ObsOk.cons (obAv (ix37 (o := .no) h2)) (ObsOk.cons (obAv (ix37 (o := .no) h2)) (ObsOk.cons (obAv (ix37 (o := .no) h2)) (ObsOk.cons (obAv (ix37 (o := .no) h11)) (ObsOk.cons (obCall (c257 h13)) ObsOk.nil)))))))))))) (by decide), ⟨⟨trivial, dE _⟩, trivial, trivial⟩, (fun _ h => nomatch h), trivial, (fun _ h => nomatch h)⟩
      · replace h := ifF h9 h
        replace h := Option.some.inj h
        subst h
        exact ⟨CTri.toFin prim_ok mixed Tryz.func218 (by kernel_rfl) 3000 [.av (.ip (entL x1 ++ flat entL (List.drop (Int.toNat p1 + 1) p0))), .no, .call [] [] 0 (.tup [.sl (flat tmCells r3.1) (List.length r3.1) .no, tmA r3.2.1, ai r3.2.2]) none, .no, .no, .no, .no, .call [] [] 0 (ab r5) (some true), .bit true, .no, .av (.ip (entL x1 ++ flat entL (List.drop (Int.toNat p1 + 1) p0))), .no, .bit false] [] [] [] false (by kernel_rfl) (ObsOk.cons (obAv (ix37 (o := .no) h2)) (ObsOk.cons (obCall (c229 h4)) (ObsOk.cons (obBit h7) (ObsOk.cons (obCall (c256 h6)) (ObsOk.cons (obBit h8) (ObsOk.cons (obAv (ix37 (o := .no) h2)) (ObsOk.cons (obBit h9) ObsOk.nil))))))) (by decide), ⟨⟨trivial, dE _⟩, trivial, trivial⟩, (fun _ h => nomatch h), trivial, (fun _ h => nomatch h)⟩
    · replace h := ifF h8 h
      replace h := Option.some.inj h
      subst h
      exact ⟨CTri.toFin prim_ok mixed Tryz.func218 (by kernel_rfl) 3000 [.av (.ip (entL x1 ++ flat entL (List.drop (Int.toNat p1 + 1) p0))), .no, .call [] [] 0 (.tup [.sl (flat tmCells r3.1) (List.length r3.1) .no, tmA r3.2.1, ai r3.2.2]) none, .no, .no, .no, .no, .call [] [] 0 (ab r5) (some true), .bit false] [] [] [] false (by kernel_rfl) (ObsOk.cons (obAv (ix37 (o := .no) h2)) (ObsOk.cons (obCall (c229 h4)) (ObsOk.cons (obBit h7) (ObsOk.cons (obCall (c256 h6)) (ObsOk.cons (obBit h8) ObsOk.nil))))) (by decide), ⟨⟨trivial, dE _⟩, trivial, trivial⟩, (fun _ h => nomatch h), trivial, (fun _ h => nomatch h)⟩
  · replace h := ifF h7 h
    replace h := Option.some.inj h
    subst h
    exact ⟨CTri.toFin prim_ok mixed Tryz.func218 (by kernel_rfl) 3000 [.av (.ip (entL x1 ++ flat entL (List.drop (Int.toNat p1 + 1) p0))), .no, .call [] [] 0 (.tup [.sl (flat tmCells r3.1) (List.length r3.1) .no, tmA r3.2.1, ai r3.2.2]) none, .no, .no, .no, .no, .call [] [] 0 (ab r5) (some false)] [] [] [] false (by kernel_rfl) (ObsOk.cons (obAv (ix37 (o := .no) h2)) (ObsOk.cons (obCall (c229 h4)) (ObsOk.cons (obBit h7) (ObsOk.cons (obCall (c256 h6)) ObsOk.nil)))) (by decide), ⟨⟨trivial, dE _⟩, trivial, trivial⟩, (fun _ h => nomatch h), trivial, (fun _ h => nomatch h)⟩

/- scholium/sign.proj -/
def g219 (p0 : List Ent) (p1 : Int) : Option (Bool) :=
  (g256 p0 p1) >>= fun r1 =>
  if r1 = true then
    (gidx p0 p1) >>= fun x4 =>
    (g207 x4.type (w64 (x4.pars + 1))) >>= fun r6 =>
    if (r6.2.2 == 0) = true then
      (gidx r6.1 x4.pars) >>= fun x9 =>
      (g257 x9 x4.fam x4.pars 0 x4.pars) >>= fun r11 =>
      some r11
    else
      some false
  else
    some false
theorem c219 {p0 : List Ent} {p1 : Int} {r : Bool} (h : g219 p0 p1 = some r) : CT Tryz.prog 219 [] [.sl (flat entL p0) (List.length p0) .no, ai p1] (ab r) [] 0 := by
  unfold g219 at h
  obtain ⟨r1, h2, h⟩ := obind h
  rcases bcases r1 with h3 | h3
  · replace h := ifT h3 h
    obtain ⟨x4, h5, h⟩ := obind h
    obtain ⟨r6, h7, h⟩ := obind h
    rcases bcases (r6.2.2 == 0) with h8 | h8
    · replace h := ifT h8 h
      obtain ⟨x9, h10, h⟩ := obind h
      obtain ⟨r11, h12, h⟩ := obind h
      replace h := Option.some.inj h
      subst h
      exact ⟨CTri.toFin prim_ok mixed Tryz.func219 (by kernel_rfl) 3000 [.call [] [] 0 (ab r1) (some true), .no, .av (.ip (entL x4 ++ flat entL (List.drop (Int.toNat p1 + 1) p0))), .no, .av (.ip (entL x4 ++ flat entL (List.drop (Int.toNat p1 + 1) p0))), .no, .no, .call [] [] 0 (.tup [.sl (flat tmCells r6.1) (List.length r6.1) .no, tmA r6.2.1, ai r6.2.2]) none, .no, .no, .no, .no, .bit true, .av (.ip (entL x4 ++ flat entL (List.drop (Int.toNat p1 + 1) p0))), .no, .av (.ip (tmL x9 ++ flat tmCells (List.drop (Int.toNat x4.pars + 1) r6.1))), .no, .av (.ip (entL x4 ++ flat entL (List.drop (Int.toNat p1 + 1) p0))), .no, .av (.ip (entL x4 ++ flat entL (List.drop (Int.toNat p1 + 1) p0))), .no, .av (.ip (entL x4 ++ flat entL (List.drop (Int.toNat p1 + 1) p0))), .no, .call [] [] 0 (ab r11) none] [] [] [] false (by kernel_rfl) (ObsOk.cons (obBit h3) (ObsOk.cons (obCall (c256 h2)) (ObsOk.cons (obAv (ix37 (o := .no) h5)) (ObsOk.cons (obAv (ix37 (o := .no) h5)) (ObsOk.cons (obCall (c207 h7)) (ObsOk.cons (obBit h8) (ObsOk.cons (obAv (ix37 (o := .no) h5)) (ObsOk.cons (obAv (ix22 (o := .no) h10)) (ObsOk.cons (obAv (ix37 (o := .no) h5)) (ObsOk.cons (obAv (ix37 (o := .no) h5)) (ObsOk.cons (obAv (ix37 (o := .no) h5)) (ObsOk.cons (obCall (c257 h12)) ObsOk.nil)))))))))))) (by decide), ⟨⟨trivial, dE _⟩, trivial, trivial⟩, (fun _ h => nomatch h), trivial, (fun _ h => nomatch h)⟩
    · replace h := ifF h8 h
      replace h := Option.some.inj h
      subst h
      exact ⟨CTri.toFin prim_ok mixed Tryz.func219 (by kernel_rfl) 3000 [.call [] [] 0 (ab r1) (some true), .no, .av (.ip (entL x4 ++ flat entL (List.drop (Int.toNat p1 + 1) p0))), .no, .av (.ip (entL x4 ++ flat entL (List.drop (Int.toNat p1 + 1) p0))), .no, .no, .call [] [] 0 (.tup [.sl (flat tmCells r6.1) (List.length r6.1) .no, tmA r6.2.1, ai r6.2.2]) none, .no, .no, .no, .no, .bit false] [] [] [] false (by kernel_rfl) (ObsOk.cons (obBit h3) (ObsOk.cons (obCall (c256 h2)) (ObsOk.cons (obAv (ix37 (o := .no) h5)) (ObsOk.cons (obAv (ix37 (o := .no) h5)) (ObsOk.cons (obCall (c207 h7)) (ObsOk.cons (obBit h8) ObsOk.nil)))))) (by decide), ⟨⟨trivial, dE _⟩, trivial, trivial⟩, (fun _ h => nomatch h), trivial, (fun _ h => nomatch h)⟩
  · replace h := ifF h3 h
    replace h := Option.some.inj h
    subst h
    exact ⟨CTri.toFin prim_ok mixed Tryz.func219 (by kernel_rfl) 3000 [.call [] [] 0 (ab r1) (some false), .no] [] [] [] false (by kernel_rfl) (ObsOk.cons (obBit h3) (ObsOk.cons (obCall (c256 h2)) ObsOk.nil)) (by decide), ⟨⟨trivial, dE _⟩, trivial, trivial⟩, (fun _ h => nomatch h), trivial, (fun _ h => nomatch h)⟩

/- scholium/sign.def -/
def g220 (p0 : List Ent) (p1 : Int) : Option (Bool) :=
  (gidx p0 p1) >>= fun x1 =>
  (g216 x1.body p1) >>= fun r3 =>
  if r3 = true then
    if (x1.fam == 0) = true then
      if (x1.place == 0) = true then
        if (x1.pars == 0) = true then
          if (x1.inds == 0) = true then
            if (x1.level == 0) = true then
              some ((w64 ((List.length x1.cons : Int) + (List.length x1.fields : Int))) == 0)
            else
              some false
          else
            some false
        else
          some false
      else
        some false
    else
      some false
  else
    some false
theorem c220 {p0 : List Ent} {p1 : Int} {r : Bool} (h : g220 p0 p1 = some r) : CT Tryz.prog 220 [] [.sl (flat entL p0) (List.length p0) .no, ai p1] (ab r) [] 0 := by
  unfold g220 at h
  obtain ⟨x1, h2, h⟩ := obind h
  obtain ⟨r3, h4, h⟩ := obind h
  rcases bcases r3 with h5 | h5
  · replace h := ifT h5 h
    rcases bcases (x1.fam == 0) with h6 | h6
    · replace h := ifT h6 h
      rcases bcases (x1.place == 0) with h7 | h7
      · replace h := ifT h7 h
        rcases bcases (x1.pars == 0) with h8 | h8
        · replace h := ifT h8 h
          rcases bcases (x1.inds == 0) with h9 | h9
          · replace h := ifT h9 h
            rcases bcases (x1.level == 0) with h10 | h10
            · replace h := ifT h10 h
              replace h := Option.some.inj h
              subst h
              exact ⟨CTri.toFin prim_ok mixed Tryz.func220 (by kernel_rfl) 3000 [.av (.ip (entL x1 ++ flat entL (List.drop (Int.toNat p1 + 1) p0))), .no, .no, .no, .call [] [] 0 (ab r3) (some true), .no, .bit true, .no, .bit true, .no, .bit true, .no, .bit true, .no, .bit true, .no, .no, .no, .no, .no, .no] [] [] [] false (by kernel_rfl) (ObsOk.cons (obAv (ix37 (o := .no) h2)) (ObsOk.cons (obBit h5) (ObsOk.cons (obCall (c216 h4)) (ObsOk.cons (obBit h6) (ObsOk.cons (obBit h7) (ObsOk.cons (obBit h8) (ObsOk.cons (obBit h9) (ObsOk.cons (obBit h10) ObsOk.nil)))))))) (by decide), ⟨⟨trivial, dE _⟩, trivial, trivial⟩, (fun _ h => nomatch h), trivial, (fun _ h => nomatch h)⟩
            · replace h := ifF h10 h
              replace h := Option.some.inj h
              subst h
              exact ⟨CTri.toFin prim_ok mixed Tryz.func220 (by kernel_rfl) 3000 [.av (.ip (entL x1 ++ flat entL (List.drop (Int.toNat p1 + 1) p0))), .no, .no, .no, .call [] [] 0 (ab r3) (some true), .no, .bit true, .no, .bit true, .no, .bit true, .no, .bit true, .no, .bit false] [] [] [] false (by kernel_rfl) (ObsOk.cons (obAv (ix37 (o := .no) h2)) (ObsOk.cons (obBit h5) (ObsOk.cons (obCall (c216 h4)) (ObsOk.cons (obBit h6) (ObsOk.cons (obBit h7) (ObsOk.cons (obBit h8) (ObsOk.cons (obBit h9) (ObsOk.cons (obBit h10) ObsOk.nil)))))))) (by decide), ⟨⟨trivial, dE _⟩, trivial, trivial⟩, (fun _ h => nomatch h), trivial, (fun _ h => nomatch h)⟩
          · replace h := ifF h9 h
            replace h := Option.some.inj h
            subst h
            exact ⟨CTri.toFin prim_ok mixed Tryz.func220 (by kernel_rfl) 3000 [.av (.ip (entL x1 ++ flat entL (List.drop (Int.toNat p1 + 1) p0))), .no, .no, .no, .call [] [] 0 (ab r3) (some true), .no, .bit true, .no, .bit true, .no, .bit true, .no, .bit false] [] [] [] false (by kernel_rfl) (ObsOk.cons (obAv (ix37 (o := .no) h2)) (ObsOk.cons (obBit h5) (ObsOk.cons (obCall (c216 h4)) (ObsOk.cons (obBit h6) (ObsOk.cons (obBit h7) (ObsOk.cons (obBit h8) (ObsOk.cons (obBit h9) ObsOk.nil))))))) (by decide), ⟨⟨trivial, dE _⟩, trivial, trivial⟩, (fun _ h => nomatch h), trivial, (fun _ h => nomatch h)⟩
        · replace h := ifF h8 h
          replace h := Option.some.inj h
          subst h
          exact ⟨CTri.toFin prim_ok mixed Tryz.func220 (by kernel_rfl) 3000 [.av (.ip (entL x1 ++ flat entL (List.drop (Int.toNat p1 + 1) p0))), .no, .no, .no, .call [] [] 0 (ab r3) (some true), .no, .bit true, .no, .bit true, .no, .bit false] [] [] [] false (by kernel_rfl) (ObsOk.cons (obAv (ix37 (o := .no) h2)) (ObsOk.cons (obBit h5) (ObsOk.cons (obCall (c216 h4)) (ObsOk.cons (obBit h6) (ObsOk.cons (obBit h7) (ObsOk.cons (obBit h8) ObsOk.nil)))))) (by decide), ⟨⟨trivial, dE _⟩, trivial, trivial⟩, (fun _ h => nomatch h), trivial, (fun _ h => nomatch h)⟩
      · replace h := ifF h7 h
        replace h := Option.some.inj h
        subst h
        exact ⟨CTri.toFin prim_ok mixed Tryz.func220 (by kernel_rfl) 3000 [.av (.ip (entL x1 ++ flat entL (List.drop (Int.toNat p1 + 1) p0))), .no, .no, .no, .call [] [] 0 (ab r3) (some true), .no, .bit true, .no, .bit false] [] [] [] false (by kernel_rfl) (ObsOk.cons (obAv (ix37 (o := .no) h2)) (ObsOk.cons (obBit h5) (ObsOk.cons (obCall (c216 h4)) (ObsOk.cons (obBit h6) (ObsOk.cons (obBit h7) ObsOk.nil))))) (by decide), ⟨⟨trivial, dE _⟩, trivial, trivial⟩, (fun _ h => nomatch h), trivial, (fun _ h => nomatch h)⟩
    · replace h := ifF h6 h
      replace h := Option.some.inj h
      subst h
      exact ⟨CTri.toFin prim_ok mixed Tryz.func220 (by kernel_rfl) 3000 [.av (.ip (entL x1 ++ flat entL (List.drop (Int.toNat p1 + 1) p0))), .no, .no, .no, .call [] [] 0 (ab r3) (some true), .no, .bit false] [] [] [] false (by kernel_rfl) (ObsOk.cons (obAv (ix37 (o := .no) h2)) (ObsOk.cons (obBit h5) (ObsOk.cons (obCall (c216 h4)) (ObsOk.cons (obBit h6) ObsOk.nil)))) (by decide), ⟨⟨trivial, dE _⟩, trivial, trivial⟩, (fun _ h => nomatch h), trivial, (fun _ h => nomatch h)⟩
  · replace h := ifF h5 h
    replace h := Option.some.inj h
    subst h
    exact ⟨CTri.toFin prim_ok mixed Tryz.func220 (by kernel_rfl) 3000 [.av (.ip (entL x1 ++ flat entL (List.drop (Int.toNat p1 + 1) p0))), .no, .no, .no, .call [] [] 0 (ab r3) (some false)] [] [] [] false (by kernel_rfl) (ObsOk.cons (obAv (ix37 (o := .no) h2)) (ObsOk.cons (obBit h5) (ObsOk.cons (obCall (c216 h4)) ObsOk.nil))) (by decide), ⟨⟨trivial, dE _⟩, trivial, trivial⟩, (fun _ h => nomatch h), trivial, (fun _ h => nomatch h)⟩

/- scholium/sign.entry -/
def g174 (p0 : List Ent) (p1 : Int) : Option (Bool) :=
  (gidx p0 p1) >>= fun x1 =>
  (g215 x1.name) >>= fun r3 =>
  if r3 = true then
    (g216 x1.type p1) >>= fun r6 =>
    if r6 = true then
      if (x1.kind == 1) = true then
        (g217 p0 p1) >>= fun r10 =>
        some r10
      else
        if (x1.kind == 2) = true then
          (g218 p0 p1) >>= fun r13 =>
          some r13
        else
          if (x1.kind == 4) = true then
            (g219 p0 p1) >>= fun r16 =>
            some r16
          else
            if (x1.kind == 3) = true then
              (g220 p0 p1) >>= fun r19 =>
              some r19
            else
              some false
    else
      some false
  else
    some false
theorem c174 {p0 : List Ent} {p1 : Int} {r : Bool} (h : g174 p0 p1 = some r) : CT Tryz.prog 174 [] [.sl (flat entL p0) (List.length p0) .no, ai p1] (ab r) [] 0 := by
  unfold g174 at h
  obtain ⟨x1, h2, h⟩ := obind h
  obtain ⟨r3, h4, h⟩ := obind h
  rcases bcases r3 with h5 | h5
  · replace h := ifT h5 h
    obtain ⟨r6, h7, h⟩ := obind h
    rcases bcases r6 with h8 | h8
    · replace h := ifT h8 h
      rcases bcases (x1.kind == 1) with h9 | h9
      · replace h := ifT h9 h
        obtain ⟨r10, h11, h⟩ := obind h
        replace h := Option.some.inj h
        subst h
        exact ⟨CTri.toFin prim_ok mixed Tryz.func174 (by kernel_rfl) 3000 [.av (.ip (entL x1 ++ flat entL (List.drop (Int.toNat p1 + 1) p0))), .no, .call [] [] 0 (ab r3) (some true), .no, .av (.ip (entL x1 ++ flat entL (List.drop (Int.toNat p1 + 1) p0))), .no, .call [] [] 0 (ab r6) (some true), .no, .av (.ip (entL x1 ++ flat entL (List.drop (Int.toNat p1 + 1) p0))), .no, .bit true, .call [] [] 0 (ab r10) none] [] [] [] false (by kernel_rfl) (ObsOk.cons (obAv (ix37 (o := .no) h2)) (ObsOk.cons (obBit h5) (ObsOk.cons (obCall (c215 h4)) (ObsOk.cons (obAv (ix37 (o := .no) h2)) (ObsOk.cons (obBit h8) (ObsOk.cons (obCall (c216 h7)) (ObsOk.cons (obAv (ix37 (o := .no) h2)) (ObsOk.cons (obBit h9) (ObsOk.cons (obCall (c217 h11)) ObsOk.nil))))))))) (by decide), ⟨⟨trivial, dE _⟩, trivial, trivial⟩, (fun _ h => nomatch h), trivial, (fun _ h => nomatch h)⟩
      · replace h := ifF h9 h
        rcases bcases (x1.kind == 2) with h12 | h12
        · replace h := ifT h12 h
          obtain ⟨r13, h14, h⟩ := obind h
          replace h := Option.some.inj h
          subst h
          exact ⟨CTri.toFin prim_ok mixed Tryz.func174 (by kernel_rfl) 3000 [.av (.ip (entL x1 ++ flat entL (List.drop (Int.toNat p1 + 1) p0))), .no, .call [] [] 0 (ab r3) (some true), .no, .av (.ip (entL x1 ++ flat entL (List.drop (Int.toNat p1 + 1) p0))), .no, .call [] [] 0 (ab r6) (some true), .no, .av (.ip (entL x1 ++ flat entL (List.drop (Int.toNat p1 + 1) p0))), .no, .bit false, .bit true, .call [] [] 0 (ab r13) none] [] [] [] false (by kernel_rfl) (ObsOk.cons (obAv (ix37 (o := .no) h2)) (ObsOk.cons (obBit h5) (ObsOk.cons (obCall (c215 h4)) (ObsOk.cons (obAv (ix37 (o := .no) h2)) (ObsOk.cons (obBit h8) (ObsOk.cons (obCall (c216 h7)) (ObsOk.cons (obAv (ix37 (o := .no) h2)) (ObsOk.cons (obBit h9) (ObsOk.cons (obBit h12) (ObsOk.cons (obCall (c218 h14)) ObsOk.nil)))))))))) (by decide), ⟨⟨trivial, dE _⟩, trivial, trivial⟩, (fun _ h => nomatch h), trivial, (fun _ h => nomatch h)⟩
        · replace h := ifF h12 h
          rcases bcases (x1.kind == 4) with h15 | h15
          · replace h := ifT h15 h
            obtain ⟨r16, h17, h⟩ := obind h
            replace h := Option.some.inj h
            subst h
            exact ⟨CTri.toFin prim_ok mixed Tryz.func174 (by kernel_rfl) 3000 [.av (.ip (entL x1 ++ flat entL (List.drop (Int.toNat p1 + 1) p0))), .no, .call [] [] 0 (ab r3) (some true), .no, .av (.ip (entL x1 ++ flat entL (List.drop (Int.toNat p1 + 1) p0))), .no, .call [] [] 0 (ab r6) (some true), .no, .av (.ip (entL x1 ++ flat entL (List.drop (Int.toNat p1 + 1) p0))), .no, .bit false, .bit false, .bit true, .call [] [] 0 (ab r16) none] [] [] [] false (by kernel_rfl) (ObsOk.cons (obAv (ix37 (o := .no) h2)) (ObsOk.cons (obBit h5) (ObsOk.cons (obCall (c215 h4)) (ObsOk.cons (obAv (ix37 (o := .no) h2)) (ObsOk.cons (obBit h8) (ObsOk.cons (obCall (c216 h7)) (ObsOk.cons (obAv (ix37 (o := .no) h2)) (ObsOk.cons (obBit h9) (ObsOk.cons (obBit h12) (ObsOk.cons (obBit h15) (ObsOk.cons (obCall (c219 h17)) ObsOk.nil))))))))))) (by decide), ⟨⟨trivial, dE _⟩, trivial, trivial⟩, (fun _ h => nomatch h), trivial, (fun _ h => nomatch h)⟩
          · replace h := ifF h15 h
            rcases bcases (x1.kind == 3) with h18 | h18
            · replace h := ifT h18 h
              obtain ⟨r19, h20, h⟩ := obind h
              replace h := Option.some.inj h
              subst h
              exact ⟨CTri.toFin prim_ok mixed Tryz.func174 (by kernel_rfl) 3000 [.av (.ip (entL x1 ++ flat entL (List.drop (Int.toNat p1 + 1) p0))), .no, .call [] [] 0 (ab r3) (some true), .no, .av (.ip (entL x1 ++ flat entL (List.drop (Int.toNat p1 + 1) p0))), .no, .call [] [] 0 (ab r6) (some true), .no, .av (.ip (entL x1 ++ flat entL (List.drop (Int.toNat p1 + 1) p0))), .no, .bit false, .bit false, .bit false, .bit true, .call [] [] 0 (ab r19) none] [] [] [] false (by kernel_rfl) (ObsOk.cons (obAv (ix37 (o := .no) h2)) (ObsOk.cons (obBit h5) (ObsOk.cons (obCall (c215 h4)) (ObsOk.cons (obAv (ix37 (o := .no) h2)) (ObsOk.cons (obBit h8) (ObsOk.cons (obCall (c216 h7)) (ObsOk.cons (obAv (ix37 (o := .no) h2)) (ObsOk.cons (obBit h9) (ObsOk.cons (obBit h12) (ObsOk.cons (obBit h15) (ObsOk.cons (obBit h18) (ObsOk.cons (obCall (c220 h20)) ObsOk.nil)))))))))))) (by decide), ⟨⟨trivial, dE _⟩, trivial, trivial⟩, (fun _ h => nomatch h), trivial, (fun _ h => nomatch h)⟩
            · replace h := ifF h18 h
              replace h := Option.some.inj h
              subst h
              exact ⟨CTri.toFin prim_ok mixed Tryz.func174 (by kernel_rfl) 3000 [.av (.ip (entL x1 ++ flat entL (List.drop (Int.toNat p1 + 1) p0))), .no, .call [] [] 0 (ab r3) (some true), .no, .av (.ip (entL x1 ++ flat entL (List.drop (Int.toNat p1 + 1) p0))), .no, .call [] [] 0 (ab r6) (some true), .no, .av (.ip (entL x1 ++ flat entL (List.drop (Int.toNat p1 + 1) p0))), .no, .bit false, .bit false, .bit false, .bit false] [] [] [] false (by kernel_rfl) (ObsOk.cons (obAv (ix37 (o := .no) h2)) (ObsOk.cons (obBit h5) (ObsOk.cons (obCall (c215 h4)) (ObsOk.cons (obAv (ix37 (o := .no) h2)) (ObsOk.cons (obBit h8) (ObsOk.cons (obCall (c216 h7)) (ObsOk.cons (obAv (ix37 (o := .no) h2)) (ObsOk.cons (obBit h9) (ObsOk.cons (obBit h12) (ObsOk.cons (obBit h15) (ObsOk.cons (obBit h18) ObsOk.nil))))))))))) (by decide), ⟨⟨trivial, dE _⟩, trivial, trivial⟩, (fun _ h => nomatch h), trivial, (fun _ h => nomatch h)⟩
    · replace h := ifF h8 h
      replace h := Option.some.inj h
      subst h
      exact ⟨CTri.toFin prim_ok mixed Tryz.func174 (by kernel_rfl) 3000 [.av (.ip (entL x1 ++ flat entL (List.drop (Int.toNat p1 + 1) p0))), .no, .call [] [] 0 (ab r3) (some true), .no, .av (.ip (entL x1 ++ flat entL (List.drop (Int.toNat p1 + 1) p0))), .no, .call [] [] 0 (ab r6) (some false), .no] [] [] [] false (by kernel_rfl) (ObsOk.cons (obAv (ix37 (o := .no) h2)) (ObsOk.cons (obBit h5) (ObsOk.cons (obCall (c215 h4)) (ObsOk.cons (obAv (ix37 (o := .no) h2)) (ObsOk.cons (obBit h8) (ObsOk.cons (obCall (c216 h7)) ObsOk.nil)))))) (by decide), ⟨⟨trivial, dE _⟩, trivial, trivial⟩, (fun _ h => nomatch h), trivial, (fun _ h => nomatch h)⟩
  · replace h := ifF h5 h
    replace h := Option.some.inj h
    subst h
    exact ⟨CTri.toFin prim_ok mixed Tryz.func174 (by kernel_rfl) 3000 [.av (.ip (entL x1 ++ flat entL (List.drop (Int.toNat p1 + 1) p0))), .no, .call [] [] 0 (ab r3) (some false), .no] [] [] [] false (by kernel_rfl) (ObsOk.cons (obAv (ix37 (o := .no) h2)) (ObsOk.cons (obBit h5) (ObsOk.cons (obCall (c215 h4)) ObsOk.nil))) (by decide), ⟨⟨trivial, dE _⟩, trivial, trivial⟩, (fun _ h => nomatch h), trivial, (fun _ h => nomatch h)⟩

/- scholium/sign.Formed -/
def g113L0 (p0 : List Ent) (v15 : Int) : Option (Bool) :=
  if decide (v15 < (List.length p0 : Int)) = true then
    (g174 p0 v15) >>= fun r8 =>
    if r8 = true then
      g113L0 p0 (w64 (v15 + 1))
    else
      some false
  else
    some true
 partial_fixpoint
def g113 (p0 : List Ent) : Option (Bool) :=
  if decide ((List.length p0 : Int) > 256) = true then
    some false
  else
    (g173 p0) >>= fun r2 =>
    (g172 r2) >>= fun r4 =>
    if r4 = true then
      g113L0 p0 0
    else
      some false
def g113L0E0 (j : Nat → Value) (p0 : List Ent) (v15 : Int) : List AV := [.sl (flat entL p0) (List.length p0) .no, .val (j 1), .val (j 2), .val (j 3), .val (j 4), .val (j 5), .val (j 6), .val (j 7), .val (j 8), .val (j 9), .val (j 10), .val (j 11), .val (j 12), .val (j 13), ai (List.length p0 : Int), ai v15, .val (j 16), .val (j 17), .val (j 18), .val (j 19), .val (j 20), .val (j 21), .val (j 22)]
def g113L0S0 (p0 : List Ent) (v15 : Int) : LSt := ⟨[], 0, [], 0, []⟩
theorem l113L0 {p0 : List Ent} {v15 : Int} {r : Bool} (h : g113L0 p0 v15 = some r) : (∀ j, Dl Tryz.prog 0 (inn (inn (rgt (lft (rgt (rgt (bod Tryz.f113))))))) (g113L0E0 j p0 v15) (g113L0S0 p0 v15) (frameQ Tryz.prog 0 (FinQ Tryz.prog 0 Tryz.f113 (ab r) [] 0) [.blk 0, .seq (rgt (rgt (rgt (bod Tryz.f113))))])) := by
  refine g113L0.partial_correctness p0 (fun v15 r => (∀ j, Dl Tryz.prog 0 (inn (inn (rgt (lft (rgt (rgt (bod Tryz.f113))))))) (g113L0E0 j p0 v15) (g113L0S0 p0 v15) (frameQ Tryz.prog 0 (FinQ Tryz.prog 0 Tryz.f113 (ab r) [] 0) [.blk 0, .seq (rgt (rgt (rgt (bod Tryz.f113))))]))) ?_ v15 _ h
  clear h
  intro g113L0 ihg113L0 v15 r h
  rcases bcases (decide (v15 < (List.length p0 : Int))) with h7 | h7
  · replace h := ifT h7 h
    obtain ⟨r8, h9, h⟩ := obind h
    rcases bcases r8 with h10 | h10
    · replace h := ifT h10 h
      exact fun j => Dl.toHead prim_ok mixed 3000 [.bit true, .call [] [] 0 (ab r8) (some true), .no, .no] [] [] [] [0, 14, 15] (E := fun j => g113L0E0 j p0 (w64 (v15 + 1))) (S := g113L0S0 p0 (w64 (v15 + 1))) (fun j => by kernel_rfl) (ObsOk.cons (obBit h7) (ObsOk.cons (obBit h10) (ObsOk.cons (obCall (c174 h9)) (ObsOk.cons (obData (dE p0)) ObsOk.nil)))) (ihg113L0 _ _ h)
    · replace h := ifF h10 h
      replace h := Option.some.inj h
      subst h
      exact fun j => Dl.toFin prim_ok mixed 3000 [.bit true, .call [] [] 0 (ab r8) (some false), .no] [] [] [] false (by kernel_rfl) (ObsOk.cons (obBit h7) (ObsOk.cons (obBit h10) (ObsOk.cons (obCall (c174 h9)) ObsOk.nil))) (by decide)
  · replace h := ifF h7 h
    replace h := Option.some.inj h
    subst h
    exact fun j => Dl.toFin prim_ok mixed 3000 [.bit false] [] [] [] false (by kernel_rfl) (ObsOk.cons (obBit h7) ObsOk.nil) (by decide)
theorem c113 {p0 : List Ent} {r : Bool} (h : g113 p0 = some r) : CT Tryz.prog 113 [] [.sl (flat entL p0) (List.length p0) .no] (ab r) [] 0 := by
  unfold g113 at h
  rcases bcases (decide ((List.length p0 : Int) > 256)) with h1 | h1
  · replace h := ifT h1 h
    replace h := Option.some.inj h
    subst h
    exact ⟨CTri.toFin prim_ok mixed Tryz.func113 (by kernel_rfl) 3000 [.no, .bit true] [] [] [] false (by kernel_rfl) (ObsOk.cons (obBit h1) ObsOk.nil) (by decide), ⟨⟨trivial, dE _⟩, trivial⟩, (fun _ h => nomatch h), trivial, (fun _ h => nomatch h)⟩
  · replace h := ifF h1 h
    obtain ⟨r2, h3, h⟩ := obind h
    obtain ⟨r4, h5, h⟩ := obind h
    rcases bcases r4 with h6 | h6
    · replace h := ifT h6 h
      exact ⟨CTri.toHead prim_ok mixed Tryz.func113 (by kernel_rfl) 3000 [.no, .bit false, .call [] [] 0 (.sl (flat strC r2) (List.length r2) .no) none, .call [] [] 0 (ab r4) (some true), .no, .no] [] [] [] [0, 14, 15] (E := fun j => g113L0E0 j p0 0) (S := g113L0S0 p0 0) (fun j => by kernel_rfl) (ObsOk.cons (obBit h1) (ObsOk.cons (obCall (c173 h3)) (ObsOk.cons (obBit h6) (ObsOk.cons (obCall (c172 h5)) (ObsOk.cons (obData (dE p0)) ObsOk.nil))))) (l113L0 h), ⟨⟨trivial, dE _⟩, trivial⟩, (fun _ h => nomatch h), trivial, (fun _ h => nomatch h)⟩
    · replace h := ifF h6 h
      replace h := Option.some.inj h
      subst h
      exact ⟨CTri.toFin prim_ok mixed Tryz.func113 (by kernel_rfl) 3000 [.no, .bit false, .call [] [] 0 (.sl (flat strC r2) (List.length r2) .no) none, .call [] [] 0 (ab r4) (some false), .no] [] [] [] false (by kernel_rfl) (ObsOk.cons (obBit h1) (ObsOk.cons (obCall (c173 h3)) (ObsOk.cons (obBit h6) (ObsOk.cons (obCall (c172 h5)) ObsOk.nil)))) (by decide), ⟨⟨trivial, dE _⟩, trivial⟩, (fun _ h => nomatch h), trivial, (fun _ h => nomatch h)⟩

/- slices.Clone(()scholium/api.Term,scholium/api.Term) -/
def g230v0 (p0 : List Tm) : Option (List Tm) :=
  some []
theorem c230v0 {p0 : List Tm} {r : List Tm} (h : g230v0 p0 = some r) : CT Tryz.prog 230 [] [.sl (flat tmCells p0) (List.length p0) .nl] (.sl (flat tmCells r) (List.length r) .no) [] 0 := by
  unfold g230v0 at h
  replace h := Option.some.inj h
  subst h
  exact ⟨CTri.toFin prim_ok mixed Tryz.func230 (by kernel_rfl) 3000 [.no] [] [] [] false (by kernel_rfl) (ObsOk.cons (obData (dT ([] : List Tm))) ObsOk.nil) (by decide), ⟨⟨trivial, dT _⟩, trivial⟩, (fun _ h => nomatch h), dT _, (fun _ h => nomatch h)⟩

/- slices.Clone(()scholium/api.Term,scholium/api.Term) -/
def g230v1 (p0 : List Tm) : Option (List Tm) :=
  (gapp 40 ([] : List Tm) p0) >>= fun l1 =>
  some l1
theorem c230v1 {p0 : List Tm} {r : List Tm} (h : g230v1 p0 = some r) : CT Tryz.prog 230 [] [.sl (flat tmCells p0) (List.length p0) .nn] (.sl (flat tmCells r) (List.length r) .no) [] 0 := by
  unfold g230v1 at h
  obtain ⟨l1, h2, h⟩ := obind h
  by_cases h3 : List.length p0 = 0
  · replace h := Option.some.inj h
    subst h
    exact ⟨CTri.toFin prim_ok mixed Tryz.func230 (by kernel_rfl) 3000 [.no, .no, .app (flat tmCells l1) (List.length l1) 3 true] [] [] [] false (by kernel_rfl) (ObsOk.cons (apN22 h2 h3) (ObsOk.cons (obData (dT l1)) ObsOk.nil)) (by decide), ⟨⟨trivial, dT _⟩, trivial⟩, (fun _ h => nomatch h), dT _, (fun _ h => nomatch h)⟩
  · replace h := Option.some.inj h
    subst h
    exact ⟨CTri.toFin prim_ok mixed Tryz.func230 (by kernel_rfl) 3000 [.no, .no, .app (flat tmCells l1) (List.length l1) 3 false] [] [] [] false (by kernel_rfl) (ObsOk.cons (apS22 h2 h3) (ObsOk.cons (obData (dT l1)) ObsOk.nil)) (by decide), ⟨⟨trivial, dT _⟩, trivial⟩, (fun _ h => nomatch h), dT _, (fun _ h => nomatch h)⟩

/- a clone, whatever it is of -/
def g230 (p0 : List Tm) : Option (List Tm) := gapp 40 [] p0
theorem c230 {p0 : List Tm} {r : List Tm} (h : g230 p0 = some r) : CT Tryz.prog 230 [] [.sl (flat tmCells p0) (List.length p0) .no] (.sl (flat tmCells r) (List.length r) .no) [] 0 := by
  have hr : r = p0 := by have := (gapp_spec h).2; simpa using this
  have h1 : g230v1 p0 = some r := by unfold g230v1; rw [show gapp 40 ([] : List Tm) p0 = some r from h]; rfl
  have k1 := c230v1 h1
  refine ⟨CTri.nilcase (fun hn => ?_) k1.tri, ⟨⟨trivial, dT _⟩, trivial⟩, (fun _ h => nomatch h), dT _, (fun _ h => nomatch h)⟩
  have hp : p0 = [] := flat_nil codecT (by decide) hn
  subst hr
  subst hp
  exact (c230v0 rfl).tri

/- scholium/sign.rec -/
def g231 (p0 : List Ent) (p1 : Tm) (p2 : Int) (p3 : Int) : Option (Rec') :=
  (g229 p1) >>= fun r1 =>
  (g135 r1.2.1) >>= fun r3 =>
  if (r1.2.2 != 0) = true then
    some (Rec'.mk false [] [])
  else
    if (r3.1.k != 6) = true then
      some (Rec'.mk false [] [])
    else
      if (r3.1.n != p2) = true then
        some (Rec'.mk false [] [])
      else
        (gidx p0 p2) >>= fun x8 =>
        (g257 r1.2.1 p2 x8.pars x8.inds (w64 (p3 + (List.length r1.1 : Int)))) >>= fun r10 =>
        if r10 = true then
          (gsl r3.2 x8.pars (List.length r3.2 : Int)) >>= fun x13 =>
          (g230 x13) >>= fun r15 =>
          some (Rec'.mk true r1.1 r15)
        else
          some (Rec'.mk false [] [])
theorem c231 {p0 : List Ent} {p1 : Tm} {p2 : Int} {p3 : Int} {r : Rec'} (h : g231 p0 p1 p2 p3 = some r) : CT Tryz.prog 231 [] [.sl (flat entL p0) (List.length p0) .no, tmA p1, ai p2, ai p3] (recA r) [] 0 := by
  unfold g231 at h
  obtain ⟨r1, h2, h⟩ := obind h
  obtain ⟨r3, h4, h⟩ := obind h
  rcases bcases (r1.2.2 != 0) with h5 | h5
  · replace h := ifT h5 h
    replace h := Option.some.inj h
    subst h
    exact ⟨CTri.toFin prim_ok mixed Tryz.func231 (by kernel_rfl) 3000 [.no, .call [] [] 0 (.tup [.sl (flat tmCells r1.1) (List.length r1.1) .no, tmA r1.2.1, ai r1.2.2]) none, .no, .no, .no, .no, .no, .call [] [] 0 (.tup [tmA r3.1, .sl (flat tmCells r3.2) (List.length r3.2) .no]) none, .no, .no, .no, .bit true, .no] [] [] [] false (by kernel_rfl) (ObsOk.cons (obCall (c229 h2)) (ObsOk.cons (obCall (c135 h4)) (ObsOk.cons (obBit h5) (ObsOk.cons (obData (dT ([] : List Tm))) (ObsOk.cons (obData (dT ([] : List Tm))) ObsOk.nil))))) (by decide), ⟨⟨trivial, dE _⟩, ⟨trivial, trivial, ⟨trivial, dT _⟩, trivial⟩, trivial, trivial, trivial⟩, (fun _ h => nomatch h), ⟨trivial, dT _, dT _, trivial⟩, (fun _ h => nomatch h)⟩
  · replace h := ifF h5 h
    rcases bcases (r3.1.k != 6) with h6 | h6
    · replace h := ifT h6 h
      replace h := Option.some.inj h
      subst h
      exact ⟨CTri.toFin prim_ok mixed Tryz.func231 (by kernel_rfl) 3000 [.no, .call [] [] 0 (.tup [.sl (flat tmCells r1.1) (List.length r1.1) .no, tmA r1.2.1, ai r1.2.2]) none, .no, .no, .no, .no, .no, .call [] [] 0 (.tup [tmA r3.1, .sl (flat tmCells r3.2) (List.length r3.2) .no]) none, .no, .no, .no, .bit false, .no, .bit true, .no] [] [] [] false (by kernel_rfl) (ObsOk.cons (obCall (c229 h2)) (ObsOk.cons (obCall (c135 h4)) (ObsOk.cons (obBit h5) (ObsOk.cons (obBit h6) (ObsOk.cons (obData (dT ([] : List Tm))) (ObsOk.cons (obData (dT ([] : List Tm))) ObsOk.nil)))))) (by decide), ⟨⟨trivial, dE _⟩, ⟨trivial, trivial, ⟨trivial, dT _⟩, trivial⟩, trivial, trivial, trivial⟩, (fun _ h => nomatch h), ⟨trivial, dT _, dT _, trivial⟩, (fun _ h => nomatch h)⟩
    · replace h := ifF h6 h
      rcases bcases (r3.1.n != p2) with h7 | h7
      · replace h := ifT h7 h
        replace h := Option.some.inj h
        subst h
        exact ⟨CTri.toFin prim_ok mixed Tryz.func231 (by kernel_rfl) 3000 [.no, .call [] [] 0 (.tup [.sl (flat tmCells r1.1) (List.length r1.1) .no, tmA r1.2.1, ai r1.2.2]) none, .no, .no, .no, .no, .no, .call [] [] 0 (.tup [tmA r3.1, .sl (flat tmCells r3.2) (List.length r3.2) .no]) none, .no, .no, .no, .bit false, .no, .bit false, .no, .bit true, .no] [] [] [] false (by kernel_rfl) (ObsOk.cons (obCall (c229 h2)) (ObsOk.cons (obCall (c135 h4)) (ObsOk.cons (obBit h5) (ObsOk.cons (obBit h6) (ObsOk.cons (obBit h7) (ObsOk.cons (obData (dT ([] : List Tm))) (ObsOk.cons (obData (dT ([] : List Tm))) ObsOk.nil))))))) (by decide), ⟨⟨trivial, dE _⟩, ⟨trivial, trivial, ⟨trivial, dT _⟩, trivial⟩, trivial, trivial, trivial⟩, (fun _ h => nomatch h), ⟨trivial, dT _, dT _, trivial⟩, (fun _ h => nomatch h)⟩
      · replace h := ifF h7 h
        obtain ⟨x8, h9, h⟩ := obind h
        obtain ⟨r10, h11, h⟩ := obind h
        rcases bcases r10 with h12 | h12
        · replace h := ifT h12 h
          obtain ⟨x13, h14, h⟩ := obind h
          obtain ⟨r15, h16, h⟩ := obind h
          replace h := Option.some.inj h
          subst h
          exact ⟨CTri.toFin prim_ok mixed Tryz.func231 (by kernel_rfl) 3000 [.no, .call [] [] 0 (.tup [.sl (flat tmCells r1.1) (List.length r1.1) .no, tmA r1.2.1, ai r1.2.2]) none, .no, .no, .no, .no, .no, .call [] [] 0 (.tup [tmA r3.1, .sl (flat tmCells r3.2) (List.length r3.2) .no]) none, .no, .no, .no, .bit false, .no, .bit false, .no, .bit false, .no, .av (.ip (entL x8 ++ flat entL (List.drop (Int.toNat p2 + 1) p0))), .no, .av (.ip (entL x8 ++ flat entL (List.drop (Int.toNat p2 + 1) p0))), .no, .no, .no, .call [] [] 0 (ab r10) (some true), .no, .av (.ip (entL x8 ++ flat entL (List.drop (Int.toNat p2 + 1) p0))), .no, .av (.sl (flat tmCells x13) (List.length x13) .no), .call [] [] 0 (.sl (flat tmCells r15) (List.length r15) .no) none, .no] [] [] [] false (by kernel_rfl) (ObsOk.cons (obCall (c229 h2)) (ObsOk.cons (obCall (c135 h4)) (ObsOk.cons (obBit h5) (ObsOk.cons (obBit h6) (ObsOk.cons (obBit h7) (ObsOk.cons (obAv (ix37 (o := .no) h9)) (ObsOk.cons (obAv (ix37 (o := .no) h9)) (ObsOk.cons (obBit h12) (ObsOk.cons (obCall (c257 h11)) (ObsOk.cons (obAv (ix37 (o := .no) h9)) (ObsOk.cons (obAv (slFrom22 h14)) (ObsOk.cons (obCall (c230 h16)) (ObsOk.cons (obData (dT r1.1)) (ObsOk.cons (obData (dT r15)) ObsOk.nil)))))))))))))) (by decide), ⟨⟨trivial, dE _⟩, ⟨trivial, trivial, ⟨trivial, dT _⟩, trivial⟩, trivial, trivial, trivial⟩, (fun _ h => nomatch h), ⟨trivial, dT _, dT _, trivial⟩, (fun _ h => nomatch h)⟩
        · replace h := ifF h12 h
          replace h := Option.some.inj h
          subst h
          exact ⟨CTri.toFin prim_ok mixed Tryz.func231 (by kernel_rfl) 3000 [.no, .call [] [] 0 (.tup [.sl (flat tmCells r1.1) (List.length r1.1) .no, tmA r1.2.1, ai r1.2.2]) none, .no, .no, .no, .no, .no, .call [] [] 0 (.tup [tmA r3.1, .sl (flat tmCells r3.2) (List.length r3.2) .no]) none, .no, .no, .no, .bit false, .no, .bit false, .no, .bit false, .no, .av (.ip (entL x8 ++ flat entL (List.drop (Int.toNat p2 + 1) p0))), .no, .av (.ip (entL x8 ++ flat entL (List.drop (Int.toNat p2 + 1) p0))), .no, .no, .no, .call [] [] 0 (ab r10) (some false), .no, .no] [] [] [] false (by kernel_rfl) (ObsOk.cons (obCall (c229 h2)) (ObsOk.cons (obCall (c135 h4)) (ObsOk.cons (obBit h5) (ObsOk.cons (obBit h6) (ObsOk.cons (obBit h7) (ObsOk.cons (obAv (ix37 (o := .no) h9)) (ObsOk.cons (obAv (ix37 (o := .no) h9)) (ObsOk.cons (obBit h12) (ObsOk.cons (obCall (c257 h11)) (ObsOk.cons (obData (dT ([] : List Tm))) (ObsOk.cons (obData (dT ([] : List Tm))) ObsOk.nil))))))))))) (by decide), ⟨⟨trivial, dE _⟩, ⟨trivial, trivial, ⟨trivial, dT _⟩, trivial⟩, trivial, trivial, trivial⟩, (fun _ h => nomatch h), ⟨trivial, dT _, dT _, trivial⟩, (fun _ h => nomatch h)⟩

/- scholium/sign.parts -/
def g184L0 (p0 : List Ent) (x1 : Ent) (x7 : List Tm) (r11 : List Tm) (v43 : Int) (vb2_2 : List Rec') : Option (Con') :=
  if decide (v43 < (List.length x7 : Int)) = true then
    (gidx x7 v43) >>= fun x14 =>
    (g231 p0 x14 x1.fam (w64 (x1.pars + v43))) >>= fun r16 =>
    (gapp 56 vb2_2 [r16]) >>= fun l18 =>
    g184L0 p0 x1 x7 r11 (w64 (v43 + 1)) l18
  else
    some (Con'.mk x7 r11 vb2_2)
 partial_fixpoint
def g184 (p0 : List Ent) (p1 : Int) : Option (Con') :=
  (gidx p0 p1) >>= fun x1 =>
  (g229 x1.type) >>= fun r3 =>
  (g135 r3.2.1) >>= fun r5 =>
  (gsl r3.1 x1.pars (List.length r3.1 : Int)) >>= fun x7 =>
  (gsl r5.2 x1.pars (List.length r5.2 : Int)) >>= fun x9 =>
  (g230 x9) >>= fun r11 =>
  g184L0 p0 x1 x7 r11 0 []
def g184L0E0 (j : Nat → Value) (p0 : List Ent) (x1 : Ent) (x7 : List Tm) (r11 : List Tm) (v43 : Int) (vb2_2 : List Rec') : List AV := [.sl (flat entL p0) (List.length p0) .no, .val (j 1), .val (j 2), .val (j 3), .mp 0 0, .mp 1 0, .val (j 6), .val (j 7), .val (j 8), .val (j 9), .val (j 10), .mp 2 0, .val (j 12), .val (j 13), .val (j 14), .val (j 15), .val (j 16), .val (j 17), .val (j 18), .val (j 19), .val (j 20), .val (j 21), .val (j 22), .val (j 23), .val (j 24), .val (j 25), .val (j 26), .val (j 27), .val (j 28), .val (j 29), .val (j 30), .val (j 31), .val (j 32), .val (j 33), .val (j 34), .val (j 35), .val (j 36), .val (j 37), .val (j 38), .val (j 39), .val (j 40), .sl (flat tmCells x7) (List.length x7) .no, ai (List.length x7 : Int), ai v43, .val (j 44), .val (j 45), .val (j 46), .val (j 47), .val (j 48), .val (j 49), .val (j 50), .val (j 51), .val (j 52), .val (j 53), .val (j 54), .val (j 55), .val (j 56), .val (j 57), .val (j 58), .val (j 59), .val (j 60), .val (j 61), .val (j 62), .val (j 63)]
def g184L0S0 (p0 : List Ent) (x1 : Ent) (x7 : List Tm) (r11 : List Tm) (v43 : Int) (vb2_2 : List Rec') : LSt := ⟨[(0, .cells [.sl (flat tmCells ([] : List Tm)) (List.length ([] : List Tm)) .nl, .sl (flat tmCells ([] : List Tm)) (List.length ([] : List Tm)) .nl, .sl (flat recL ([] : List Rec')) (List.length ([] : List Rec')) .nl]), (1, .cells [ai x1.kind, at' x1.name, ai x1.type.k, ai x1.type.n, .sl (flat tmCells x1.type.sub) (List.length x1.type.sub) .no, ai x1.body.k, ai x1.body.n, .sl (flat tmCells x1.body.sub) (List.length x1.body.sub) .no, ai x1.fam, ai x1.place, ai x1.pars, ai x1.inds, ai x1.level, .sl (flat intC x1.cons) (List.length x1.cons) .no, .sl (flat intC x1.fields) (List.length x1.fields) .no]), (2, .cells [.sl (flat tmCells x7) (List.length x7) .no, .sl (flat tmCells r11) (List.length r11) .no, .sl (flat recL vb2_2) (List.length vb2_2) (.st 0 3)])], 3, [0], 1, []⟩
theorem l184L0 {p0 : List Ent} {x1 : Ent} {x7 : List Tm} {r11 : List Tm} {v43 : Int} {vb2_2 : List Rec'} {r : Con'} (h : g184L0 p0 x1 x7 r11 v43 vb2_2 = some r) : (∀ j, Dl Tryz.prog 0 (inn (inn (rgt (lft (rgt (rgt (rgt (rgt (rgt (bod Tryz.f184)))))))))) (g184L0E0 j p0 x1 x7 r11 v43 vb2_2) (g184L0S0 p0 x1 x7 r11 v43 vb2_2) (frameQ Tryz.prog 0 (FinQ Tryz.prog 0 Tryz.f184 (conA r) [] 0) [.blk 0, .seq (rgt (rgt (rgt (rgt (rgt (rgt (bod Tryz.f184)))))))])) := by
  refine g184L0.partial_correctness p0 x1 x7 r11 (fun v43 vb2_2 r => (∀ j, Dl Tryz.prog 0 (inn (inn (rgt (lft (rgt (rgt (rgt (rgt (rgt (bod Tryz.f184)))))))))) (g184L0E0 j p0 x1 x7 r11 v43 vb2_2) (g184L0S0 p0 x1 x7 r11 v43 vb2_2) (frameQ Tryz.prog 0 (FinQ Tryz.prog 0 Tryz.f184 (conA r) [] 0) [.blk 0, .seq (rgt (rgt (rgt (rgt (rgt (rgt (bod Tryz.f184)))))))]))) ?_ v43 vb2_2 _ h
  clear h
  intro g184L0 ihg184L0 v43 vb2_2 r h
  rcases bcases (decide (v43 < (List.length x7 : Int))) with h13 | h13
  · replace h := ifT h13 h
    obtain ⟨x14, h15, h⟩ := obind h
    obtain ⟨r16, h17, h⟩ := obind h
    obtain ⟨l18, h19, h⟩ := obind h
    exact fun j => Dl.toHead prim_ok mixed 3000 [.bit true, .av (.ip (tmL x14 ++ flat tmCells (List.drop (Int.toNat v43 + 1) x7))), .no, .no, .no, .no, .no, .no, .no, .call [] [] 0 (recA r16) none, .no, .app (flat recL l18) (List.length l18) 3 false, .no, .no] [] [0, 1, 2] [1] [0, 4, 5, 11, 41, 42, 43] (E := fun j => g184L0E0 j p0 x1 x7 r11 (w64 (v43 + 1)) l18) (S := g184L0S0 p0 x1 x7 r11 (w64 (v43 + 1)) l18) (fun j => by kernel_rfl) (ObsOk.cons (obBit h13) (ObsOk.cons (obAv (ix22 (o := .no) h15)) (ObsOk.cons (obCall (c231 h17)) (ObsOk.cons (apS204 h19 (by simp)) (ObsOk.cons (obData (dT ([] : List Tm))) (ObsOk.cons (obData (dT ([] : List Tm))) (ObsOk.cons (obData (dR ([] : List Rec'))) (ObsOk.cons (obData (dT x1.type.sub)) (ObsOk.cons (obData (dT x1.body.sub)) (ObsOk.cons (obData (dI x1.cons)) (ObsOk.cons (obData (dI x1.fields)) (ObsOk.cons (obData (dT x7)) (ObsOk.cons (obData (dT r11)) (ObsOk.cons (obData (dR l18)) (ObsOk.cons (obData (dE p0)) (ObsOk.cons (obData (dT x7)) ObsOk.nil)))))))))))))))) (ihg184L0 _ _ _ h)
  · replace h := ifF h13 h
    replace h := Option.some.inj h
    subst h
    exact fun j => Dl.toFin prim_ok mixed 3000 [.bit false, .no, .no] [] [] [] false (by kernel_rfl) (ObsOk.cons (obBit h13) (ObsOk.cons (obData (dT x7)) (ObsOk.cons (obData (dT r11)) (ObsOk.cons (obData (dR vb2_2)) ObsOk.nil)))) (by decide)
theorem c184 {p0 : List Ent} {p1 : Int} {r : Con'} (h : g184 p0 p1 = some r) : CT Tryz.prog 184 [] [.sl (flat entL p0) (List.length p0) .no, ai p1] (conA r) [] 0 := by
  unfold g184 at h
  obtain ⟨x1, h2, h⟩ := obind h
  obtain ⟨r3, h4, h⟩ := obind h
  obtain ⟨r5, h6, h⟩ := obind h
  obtain ⟨x7, h8, h⟩ := obind h
  obtain ⟨x9, h10, h⟩ := obind h
  obtain ⟨r11, h12, h⟩ := obind h
  exact ⟨CTri.toHead prim_ok mixed Tryz.func184 (by kernel_rfl) 3000 [.av (.ip (entL x1 ++ flat entL (List.drop (Int.toNat p1 + 1) p0))), .no, .no, .no, .call [] [] 0 (.tup [.sl (flat tmCells r3.1) (List.length r3.1) .no, tmA r3.2.1, ai r3.2.2]) none, .no, .no, .no, .no, .no, .call [] [] 0 (.tup [tmA r5.1, .sl (flat tmCells r5.2) (List.length r5.2) .no]) none, .no, .no, .no, .no, .av (.sl (flat tmCells x7) (List.length x7) .no), .no, .av (.sl (flat tmCells x9) (List.length x9) .no), .call [] [] 0 (.sl (flat tmCells r11) (List.length r11) .no) none, .no, .no, .no] [(some 4, 2, 3)] [0, 1, 4] [0] [0, 4, 5, 11, 41, 42, 43] (E := fun j => g184L0E0 j p0 x1 x7 r11 0 []) (S := g184L0S0 p0 x1 x7 r11 0 []) (fun j => by kernel_rfl) (ObsOk.cons (obAv (ix37 (o := .no) h2)) (ObsOk.cons (obCall (c229 h4)) (ObsOk.cons (obCall (c135 h6)) (ObsOk.cons (obAv (slFrom22 h8)) (ObsOk.cons (obAv (slFrom22 h10)) (ObsOk.cons (obCall (c230 h12)) (ObsOk.cons (obData (dT ([] : List Tm))) (ObsOk.cons (obData (dT ([] : List Tm))) (ObsOk.cons (obData (dR ([] : List Rec'))) (ObsOk.cons (obData (dT x1.type.sub)) (ObsOk.cons (obData (dT x1.body.sub)) (ObsOk.cons (obData (dI x1.cons)) (ObsOk.cons (obData (dI x1.fields)) (ObsOk.cons (obData (dT x7)) (ObsOk.cons (obData (dT r11)) (ObsOk.cons (obData (dR ([] : List Rec'))) (ObsOk.cons (obData (dE p0)) (ObsOk.cons (obData (dT x7)) ObsOk.nil)))))))))))))))))) (l184L0 h), ⟨⟨trivial, dE _⟩, trivial, trivial⟩, (fun _ h => nomatch h), ⟨dT _, dT _, dR _, trivial⟩, (fun _ h => nomatch h)⟩

/- scholium/sign.Every -/
def g123L0 (p0 : List Ent) (x4 : List Con') (v14 : Int) (vb0_0 : List Con') : Option ((List Con' × Int) ⊕ (List Con' × Int)) :=
  if decide (v14 < (List.length p0 : Int)) = true then
    (gidx p0 v14) >>= fun x7 =>
    if (x7.kind == 2) = true then
      (g184 p0 v14) >>= fun r10 =>
      (gchk (List.length x4) v14) >>= fun x12 =>
      (gset vb0_0 x12 r10) >>= fun x14 =>
      g123L0 p0 x4 (w64 (v14 + 1)) x14
    else
      g123L0 p0 x4 (w64 (v14 + 1)) vb0_0
  else
    (gfz (List.length x4) vb0_0) >>= fun l16 =>
    some (Sum.inr (l16, 0))
 partial_fixpoint
def g123 (p0 : List Ent) : Option ((List Con' × Int) ⊕ (List Con' × Int)) :=
  (g113 p0) >>= fun r1 =>
  if r1 = true then
    (gmk 72 (default : Con') (List.length p0 : Int)) >>= fun x4 =>
    g123L0 p0 x4 0 x4
  else
    some (Sum.inl ([], 5))
def g123L0E0 (j : Nat → Value) (p0 : List Ent) (x4 : List Con') (v14 : Int) (vb0_0 : List Con') : List AV := [.sl (flat entL p0) (List.length p0) .no, .val (j 1), .val (j 2), .val (j 3), .ms 0 0 (List.length x4), .val (j 5), .val (j 6), .val (j 7), .val (j 8), .val (j 9), .val (j 10), .val (j 11), .val (j 12), ai (List.length p0 : Int), ai v14, .val (j 15), .val (j 16), .val (j 17), .val (j 18), .val (j 19), .val (j 20), .val (j 21), .val (j 22), .val (j 23), .val (j 24), .val (j 25), .val (j 26), .val (j 27), .val (j 28), .val (j 29), .val (j 30)]
def g123L0S0 (p0 : List Ent) (x4 : List Con') (v14 : Int) (vb0_0 : List Con') : LSt := ⟨[(0, .row (flat conL vb0_0))], 1, [], 0, []⟩
theorem l123L0 {p0 : List Ent} {x4 : List Con'} {v14 : Int} {vb0_0 : List Con'} {r : (List Con' × Int) ⊕ (List Con' × Int)} (h : g123L0 p0 x4 v14 vb0_0 = some r) : (∀ j, Dl Tryz.prog 0 (inn (inn (rgt (lft (rgt (rgt (rgt (bod Tryz.f123)))))))) (g123L0E0 j p0 x4 v14 vb0_0) (g123L0S0 p0 x4 v14 vb0_0) (frameQ Tryz.prog 0 ((match (generalizing := false) r with | Sum.inl x => FinQ Tryz.prog 0 Tryz.f123 (.tup [.sl (flat conL x.1) (List.length x.1) .no, ai x.2]) [] 0 | Sum.inr x => FinQ Tryz.prog 0 Tryz.f123 (.tup [.ms 0 0 (List.length x.1), ai x.2]) [.row (flat conL x.1)] 0)) [.blk 0, .seq (rgt (rgt (rgt (rgt (bod Tryz.f123)))))])) := by
  refine g123L0.partial_correctness p0 x4 (fun v14 vb0_0 r => (∀ j, Dl Tryz.prog 0 (inn (inn (rgt (lft (rgt (rgt (rgt (bod Tryz.f123)))))))) (g123L0E0 j p0 x4 v14 vb0_0) (g123L0S0 p0 x4 v14 vb0_0) (frameQ Tryz.prog 0 ((match (generalizing := false) r with | Sum.inl x => FinQ Tryz.prog 0 Tryz.f123 (.tup [.sl (flat conL x.1) (List.length x.1) .no, ai x.2]) [] 0 | Sum.inr x => FinQ Tryz.prog 0 Tryz.f123 (.tup [.ms 0 0 (List.length x.1), ai x.2]) [.row (flat conL x.1)] 0)) [.blk 0, .seq (rgt (rgt (rgt (rgt (bod Tryz.f123)))))]))) ?_ v14 vb0_0 _ h
  clear h
  intro g123L0 ihg123L0 v14 vb0_0 r h
  rcases bcases (decide (v14 < (List.length p0 : Int))) with h6 | h6
  · replace h := ifT h6 h
    obtain ⟨x7, h8, h⟩ := obind h
    rcases bcases (x7.kind == 2) with h9 | h9
    · replace h := ifT h9 h
      obtain ⟨r10, h11, h⟩ := obind h
      obtain ⟨x12, h13, h⟩ := obind h
      obtain ⟨x14, h15, h⟩ := obind h
      exact fun j => Dl.toHead prim_ok mixed 3000 [.bit true, .av (.ip (entL x7 ++ flat entL (List.drop (Int.toNat v14 + 1) p0))), .no, .bit true, .call [] [] 0 (conA r10) none, .av (.mp 0 (x12 * 3)), .wt (flat conL x14), .no] [] [0] [] [0, 4, 13, 14] (E := fun j => g123L0E0 j p0 x4 (w64 (v14 + 1)) x14) (S := g123L0S0 p0 x4 (w64 (v14 + 1)) x14) (fun j => by kernel_rfl) (ObsOk.cons (obBit h6) (ObsOk.cons (obAv (ix37 (o := .no) h8)) (ObsOk.cons (obBit h9) (ObsOk.cons (obCall (c184 h11)) (ObsOk.cons (obAv (ixM161 (b := 0) h13)) (ObsOk.cons (wt_elem (x := r10) codecC h15) (ObsOk.cons (obData (dC x14)) (ObsOk.cons (obData (dE p0)) ObsOk.nil)))))))) (ihg123L0 _ _ _ h)
    · replace h := ifF h9 h
      exact fun j => Dl.toHead prim_ok mixed 3000 [.bit true, .av (.ip (entL x7 ++ flat entL (List.drop (Int.toNat v14 + 1) p0))), .no, .bit false, .no] [] [0] [] [0, 4, 13, 14] (E := fun j => g123L0E0 j p0 x4 (w64 (v14 + 1)) vb0_0) (S := g123L0S0 p0 x4 (w64 (v14 + 1)) vb0_0) (fun j => by kernel_rfl) (ObsOk.cons (obBit h6) (ObsOk.cons (obAv (ix37 (o := .no) h8)) (ObsOk.cons (obBit h9) (ObsOk.cons (obData (dC vb0_0)) (ObsOk.cons (obData (dE p0)) ObsOk.nil))))) (ihg123L0 _ _ _ h)
  · replace h := ifF h6 h
    obtain ⟨l16, h17, h⟩ := obind h
    obtain ⟨h17a, h17b⟩ := gfz_spec h17
    replace h := Option.some.inj h
    subst h
    dsimp only
    rw [← h17b, h17a]
    exact fun j => Dl.toFin prim_ok mixed 3000 [.bit false] [] [0] [] false (by kernel_rfl) (ObsOk.cons (obBit h6) (ObsOk.cons (obData (dC vb0_0)) ObsOk.nil)) (by decide)
theorem c123r {p0 : List Ent} {r : (List Con' × Int) ⊕ (List Con' × Int)} (h : g123 p0 = some r) : (match (generalizing := false) r with | Sum.inl x => CT Tryz.prog 123 [] [.sl (flat entL p0) (List.length p0) .no] (.tup [.sl (flat conL x.1) (List.length x.1) .no, ai x.2]) [] 0 | Sum.inr x => CT Tryz.prog 123 [] [.sl (flat entL p0) (List.length p0) .no] (.tup [.ms 0 0 (List.length x.1), ai x.2]) [.row (flat conL x.1)] 0) := by
  unfold g123 at h
  obtain ⟨r1, h2, h⟩ := obind h
  rcases bcases r1 with h3 | h3
  · replace h := ifT h3 h
    obtain ⟨x4, h5, h⟩ := obind h
    rcases r with y0 | y1
    · exact ⟨CTri.toHead prim_ok mixed Tryz.func123 (by kernel_rfl) 3000 [.call [] [] 0 (ab r1) (some true), .no, .no, .mk (flat conL x4) (List.length x4), .no] [] [0] [] [0, 4, 13, 14] (E := fun j => g123L0E0 j p0 x4 0 x4) (S := g123L0S0 p0 x4 0 x4) (fun j => by kernel_rfl) (ObsOk.cons (obBit h3) (ObsOk.cons (obCall (c113 h2)) (ObsOk.cons (mkM161 h5) (ObsOk.cons (obData (dC x4)) (ObsOk.cons (obData (dE p0)) ObsOk.nil))))) (l123L0 h), ⟨⟨trivial, dE _⟩, trivial⟩, (fun _ h => nomatch h), ⟨dC _, trivial, trivial⟩, (fun _ h => nomatch h)⟩
    · exact ⟨CTri.toHead prim_ok mixed Tryz.func123 (by kernel_rfl) 3000 [.call [] [] 0 (ab r1) (some true), .no, .no, .mk (flat conL x4) (List.length x4), .no] [] [0] [] [0, 4, 13, 14] (E := fun j => g123L0E0 j p0 x4 0 x4) (S := g123L0S0 p0 x4 0 x4) (fun j => by kernel_rfl) (ObsOk.cons (obBit h3) (ObsOk.cons (obCall (c113 h2)) (ObsOk.cons (mkM161 h5) (ObsOk.cons (obData (dC x4)) (ObsOk.cons (obData (dE p0)) ObsOk.nil))))) (l123L0 h), ⟨⟨trivial, dE _⟩, trivial⟩, (fun _ h => nomatch h), ⟨(show 0 < 1 by decide), trivial, trivial⟩, (forall_cons (dC _) forall_nil)⟩
  · replace h := ifF h3 h
    replace h := Option.some.inj h
    subst h
    exact ⟨CTri.toFin prim_ok mixed Tryz.func123 (by kernel_rfl) 3000 [.call [] [] 0 (ab r1) (some false), .no] [] [] [] false (by kernel_rfl) (ObsOk.cons (obBit h3) (ObsOk.cons (obCall (c113 h2)) (ObsOk.cons (obData (dC ([] : List Con'))) ObsOk.nil))) (by decide), ⟨⟨trivial, dE _⟩, trivial⟩, (fun _ h => nomatch h), ⟨dC _, trivial, trivial⟩, (fun _ h => nomatch h)⟩
theorem c123 {p0 : List Ent} {r : (List Con' × Int) ⊕ (List Con' × Int)} (h : g123 p0 = some r) : (match (generalizing := false) r with | Sum.inl x => CT Tryz.prog 123 [] [.sl (flat entL p0) (List.length p0) .no] (.tup [.sl (flat conL x.1) (List.length x.1) .no, ai x.2]) [] 0 | Sum.inr x => CT Tryz.prog 123 [] [.sl (flat entL p0) (List.length p0) .no] (.tup [.sl (flat conL x.1) (List.length x.1) .no, ai x.2]) [] 0) := by
  have k := c123r h
  rcases r with y0 | y1
  · exact k
  · exact CT.freeze (H1 := []) (cs := flat conL y1.1) k (by decide) (fun _ h => nomatch h) (dC _) ⟨(.inl rfl), trivial, trivial⟩ rfl

/- scholium/iota.New -/
def g56 (p0 : List Ent) : Option ((Int) ⊕ (Int × List Ent × List Con')) :=
  (g76 p0) >>= fun r1 =>
  (g113 p0) >>= fun r3 =>
  if r3 = true then
    (g123 r1) >>= fun r6 =>
    match r6 with
    | Sum.inl y8 =>
      if (y8.2 != 0) = true then
        some (Sum.inl y8.2)
      else
        some (Sum.inr (0, r1, y8.1))
    | Sum.inr y10 =>
      if (y10.2 != 0) = true then
        some (Sum.inl y10.2)
      else
        some (Sum.inr (0, r1, y10.1))
  else
    some (Sum.inl 5)
theorem c56 {p0 : List Ent} {r : (Int) ⊕ (Int × List Ent × List Con')} (h : g56 p0 = some r) : (match (generalizing := false) r with | Sum.inl x => CT Tryz.prog 56 [] [.sl (flat entL p0) (List.length p0) .no] (.tup [.val (.pointer none), ai x]) [] 0 | Sum.inr x => CT Tryz.prog 56 [] [.sl (flat entL p0) (List.length p0) .no] (.tup [.mp 0 0, ai x.1]) [.cells [.sl (flat entL x.2.1) (List.length x.2.1) .no, .sl (flat conL x.2.2) (List.length x.2.2) .no]] 0) := by
  unfold g56 at h
  obtain ⟨r1, h2, h⟩ := obind h
  obtain ⟨r3, h4, h⟩ := obind h
  rcases bcases r3 with h5 | h5
  · replace h := ifT h5 h
    obtain ⟨r6, h7, h⟩ := obind h
    rcases r6 with y8 | y10
    · dsimp only at h
      rcases bcases (y8.2 != 0) with h9 | h9
      · replace h := ifT h9 h
        replace h := Option.some.inj h
        subst h
        exact ⟨CTri.toFin prim_ok mixed Tryz.func56 (by kernel_rfl) 3000 [.call [] [] 0 (.sl (flat entL r1) (List.length r1) .no) none, .call [] [] 0 (ab r3) (some true), .no, .call [] [] 0 (.tup [.sl (flat conL y8.1) (List.length y8.1) .no, ai y8.2]) none, .no, .no, .bit true] [] [] [] false (by kernel_rfl) (ObsOk.cons (obCall (c76 h2)) (ObsOk.cons (obBit h5) (ObsOk.cons (obCall (c113 h4)) (ObsOk.cons (obCall (c123 h7)) (ObsOk.cons (obBit h9) ObsOk.nil))))) (by decide), ⟨⟨trivial, dE _⟩, trivial⟩, (fun _ h => nomatch h), ⟨trivial, trivial, trivial⟩, (fun _ h => nomatch h)⟩
      · replace h := ifF h9 h
        replace h := Option.some.inj h
        subst h
        exact ⟨CTri.toFin prim_ok mixed Tryz.func56 (by kernel_rfl) 3000 [.call [] [] 0 (.sl (flat entL r1) (List.length r1) .no) none, .call [] [] 0 (ab r3) (some true), .no, .call [] [] 0 (.tup [.sl (flat conL y8.1) (List.length y8.1) .no, ai y8.2]) none, .no, .no, .bit false] [] [0] [] false (by kernel_rfl) (ObsOk.cons (obCall (c76 h2)) (ObsOk.cons (obBit h5) (ObsOk.cons (obCall (c113 h4)) (ObsOk.cons (obCall (c123 h7)) (ObsOk.cons (obBit h9) (ObsOk.cons (obData (dE r1)) (ObsOk.cons (obData (dC y8.1)) ObsOk.nil))))))) (by decide), ⟨⟨trivial, dE _⟩, trivial⟩, (fun _ h => nomatch h), ⟨(show 0 < 1 by decide), trivial, trivial⟩, (forall_cons ⟨dE _, dC _, trivial⟩ forall_nil)⟩
    · dsimp only at h
      rcases bcases (y10.2 != 0) with h11 | h11
      · replace h := ifT h11 h
        replace h := Option.some.inj h
        subst h
        exact ⟨CTri.toFin prim_ok mixed Tryz.func56 (by kernel_rfl) 3000 [.call [] [] 0 (.sl (flat entL r1) (List.length r1) .no) none, .call [] [] 0 (ab r3) (some true), .no, .call [] [] 0 (.tup [.sl (flat conL y10.1) (List.length y10.1) .no, ai y10.2]) none, .no, .no, .bit true] [] [] [] false (by kernel_rfl) (ObsOk.cons (obCall (c76 h2)) (ObsOk.cons (obBit h5) (ObsOk.cons (obCall (c113 h4)) (ObsOk.cons (obCall (c123 h7)) (ObsOk.cons (obBit h11) ObsOk.nil))))) (by decide), ⟨⟨trivial, dE _⟩, trivial⟩, (fun _ h => nomatch h), ⟨trivial, trivial, trivial⟩, (fun _ h => nomatch h)⟩
      · replace h := ifF h11 h
        replace h := Option.some.inj h
        subst h
        exact ⟨CTri.toFin prim_ok mixed Tryz.func56 (by kernel_rfl) 3000 [.call [] [] 0 (.sl (flat entL r1) (List.length r1) .no) none, .call [] [] 0 (ab r3) (some true), .no, .call [] [] 0 (.tup [.sl (flat conL y10.1) (List.length y10.1) .no, ai y10.2]) none, .no, .no, .bit false] [] [0] [] false (by kernel_rfl) (ObsOk.cons (obCall (c76 h2)) (ObsOk.cons (obBit h5) (ObsOk.cons (obCall (c113 h4)) (ObsOk.cons (obCall (c123 h7)) (ObsOk.cons (obBit h11) (ObsOk.cons (obData (dE r1)) (ObsOk.cons (obData (dC y10.1)) ObsOk.nil))))))) (by decide), ⟨⟨trivial, dE _⟩, trivial⟩, (fun _ h => nomatch h), ⟨(show 0 < 1 by decide), trivial, trivial⟩, (forall_cons ⟨dE _, dC _, trivial⟩ forall_nil)⟩
  · replace h := ifF h5 h
    replace h := Option.some.inj h
    subst h
    exact ⟨CTri.toFin prim_ok mixed Tryz.func56 (by kernel_rfl) 3000 [.call [] [] 0 (.sl (flat entL r1) (List.length r1) .no) none, .call [] [] 0 (ab r3) (some false), .no] [] [] [] false (by kernel_rfl) (ObsOk.cons (obCall (c76 h2)) (ObsOk.cons (obBit h5) (ObsOk.cons (obCall (c113 h4)) ObsOk.nil))) (by decide), ⟨⟨trivial, dE _⟩, trivial⟩, (fun _ h => nomatch h), ⟨trivial, trivial, trivial⟩, (fun _ h => nomatch h)⟩

set_option synthInstance.maxHeartbeats 2000000
set_option synthInstance.maxSize 10000
set_option maxHeartbeats 2000000
/- scholium/whnf.New -/
mutual
def g21L0 (p0 : List Ent) (y3 : Int × List Ent × List Con') (v27 : Int) (vb0_0 : List Ent) (vb0_2 : List Int) (vb0_3 : List Int) : Option ((Int) ⊕ (Int × List Ent × List Int × List Int × List Ent × List Con')) :=
  if decide (v27 < (List.length p0 : Int)) = true then
    (gidx p0 v27) >>= fun x8 =>
    if (x8.kind == 1) = true then
      (gapp 8 vb0_2 [(w64 ((w64 ((w64 (x8.pars + 2)) + (List.length x8.cons : Int))) + x8.inds))]) >>= fun l11 =>
      (gapp 8 vb0_3 [0]) >>= fun l13 =>
      g21L0 p0 y3 (w64 (v27 + 1)) vb0_0 l11 l13
    else
      if (x8.kind == 2) = true then
        g21L1 p0 y3 vb0_0 v27 vb0_2 vb0_3 0 x8.type.k x8.type.n x8.type.sub
      else
        (gapp 8 vb0_2 [0]) >>= fun l16 =>
        (gapp 8 vb0_3 [0]) >>= fun l18 =>
        g21L0 p0 y3 (w64 (v27 + 1)) vb0_0 l16 l18
  else
    some (Sum.inr (0, vb0_0, vb0_2, vb0_3, y3.2.1, y3.2.2))
 partial_fixpoint
def g21L1 (p0 : List Ent) (y3 : Int × List Ent × List Con') (vb0_0 : List Ent) (v27 : Int) (vb0_2 : List Int) (vb0_3 : List Int) (v10 : Int) (vb1_0 : Int) (vb1_1 : Int) (vb1_2 : List Tm) : Option ((Int) ⊕ (Int × List Ent × List Int × List Int × List Ent × List Con')) :=
  if (vb1_0 == 3) = true then
    (gidx vb1_2 1) >>= fun x17 =>
    g21L1 p0 y3 vb0_0 v27 vb0_2 vb0_3 (w64 (v10 + 1)) x17.k x17.n x17.sub
  else
    (gapp 8 vb0_2 [0]) >>= fun l19 =>
    (gapp 8 vb0_3 [v10]) >>= fun l21 =>
    g21L0 p0 y3 (w64 (v27 + 1)) vb0_0 l19 l21
 partial_fixpoint
end
def g21 (p0 : List Ent) : Option ((Int) ⊕ (Int × List Ent × List Int × List Int × List Ent × List Con')) :=
  (g56 p0) >>= fun r1 =>
  match r1 with
  | Sum.inl y7 =>
    if (y7 != 0) = true then
      some (Sum.inl y7)
    else
      none
  | Sum.inr y3 =>
    if (y3.1 != 0) = true then
      some (Sum.inl y3.1)
    else
      (g76 p0) >>= fun r5 =>
      g21L0 p0 y3 0 r5 [] []
def g21L0E0 (j : Nat → Value) (p0 : List Ent) (y3 : Int × List Ent × List Con') (v27 : Int) (vb0_0 : List Ent) (vb0_2 : List Int) (vb0_3 : List Int) : List AV := [.val (j 0), .val (j 1), .val (j 2), .val (j 3), .val (j 4), .val (j 5), .mp 0 0, .val (j 7), .val (j 8), .val (j 9), .val (j 10), .val (j 11), .val (j 12), .val (j 13), .val (j 14), .val (j 15), .val (j 16), .val (j 17), .val (j 18), .val (j 19), .val (j 20), .val (j 21), .val (j 22), .val (j 23), .val (j 24), .sl (flat entL p0) (List.length p0) .no, ai (List.length p0 : Int), ai v27, .val (j 28), .val (j 29), .val (j 30), .val (j 31), .val (j 32), .val (j 33), .val (j 34), .val (j 35), .val (j 36), .val (j 37), .val (j 38), .val (j 39), .val (j 40), .val (j 41), .val (j 42), .val (j 43), .val (j 44), .val (j 45), .val (j 46), .val (j 47), .val (j 48), .val (j 49), .val (j 50), .val (j 51), .val (j 52), .val (j 53), .val (j 54), .val (j 55), .val (j 56), .val (j 57), .val (j 58), .val (j 59), .val (j 60), .val (j 61), .val (j 62), .val (j 63), .val (j 64), .val (j 65), .val (j 66), .val (j 67), .val (j 68), .val (j 69), .val (j 70), .val (j 71), .val (j 72), .val (j 73), .val (j 74), .val (j 75), .val (j 76), .val (j 77), .val (j 78), .val (j 79), .val (j 80)]
def g21L0S0 (p0 : List Ent) (y3 : Int × List Ent × List Con') (v27 : Int) (vb0_0 : List Ent) (vb0_2 : List Int) (vb0_3 : List Int) : LSt := ⟨[(0, .cells [.sl (flat entL vb0_0) (List.length vb0_0) .no, .mp 1 0, .sl (flat intC vb0_2) (List.length vb0_2) (.st 0 1), .sl (flat intC vb0_3) (List.length vb0_3) (.st 1 1)]), (1, .cells [.sl (flat entL y3.2.1) (List.length y3.2.1) .no, .sl (flat conL y3.2.2) (List.length y3.2.2) .no])], 2, [0, 1], 2, []⟩
def g21L1E0 (j : Nat → Value) (p0 : List Ent) (y3 : Int × List Ent × List Con') (vb0_0 : List Ent) (v27 : Int) (vb0_2 : List Int) (vb0_3 : List Int) (v10 : Int) (vb1_0 : Int) (vb1_1 : Int) (vb1_2 : List Tm) : List AV := [.val (j 0), .val (j 1), .val (j 2), .val (j 3), .val (j 4), .val (j 5), .mp 0 0, .val (j 7), .val (j 8), ai 0, ai v10, .mp 1 0, .val (j 12), .val (j 13), .val (j 14), .val (j 15), .val (j 16), .val (j 17), .val (j 18), .val (j 19), .val (j 20), .val (j 21), .val (j 22), .val (j 23), .val (j 24), .sl (flat entL p0) (List.length p0) .no, ai (List.length p0 : Int), ai v27, .val (j 28), .val (j 29), .val (j 30), .val (j 31), .val (j 32), .val (j 33), .val (j 34), .val (j 35), .val (j 36), .val (j 37), .val (j 38), .val (j 39), .val (j 40), .val (j 41), .val (j 42), .val (j 43), .val (j 44), .val (j 45), .val (j 46), .val (j 47), .val (j 48), .val (j 49), .val (j 50), .val (j 51), .val (j 52), .val (j 53), .val (j 54), .val (j 55), .val (j 56), .val (j 57), .val (j 58), .val (j 59), .val (j 60), .val (j 61), .val (j 62), .val (j 63), .val (j 64), .val (j 65), .val (j 66), .val (j 67), .val (j 68), .val (j 69), .val (j 70), .val (j 71), .val (j 72), .val (j 73), .val (j 74), .val (j 75), .val (j 76), .val (j 77), .val (j 78), .val (j 79), .val (j 80)]
def g21L1S0 (p0 : List Ent) (y3 : Int × List Ent × List Con') (vb0_0 : List Ent) (v27 : Int) (vb0_2 : List Int) (vb0_3 : List Int) (v10 : Int) (vb1_0 : Int) (vb1_1 : Int) (vb1_2 : List Tm) : LSt := ⟨[(0, .cells [.sl (flat entL vb0_0) (List.length vb0_0) .no, .mp 2 0, .sl (flat intC vb0_2) (List.length vb0_2) (.st 0 1), .sl (flat intC vb0_3) (List.length vb0_3) (.st 1 1)]), (1, .cells [ai vb1_0, ai vb1_1, .sl (flat tmCells vb1_2) (List.length vb1_2) .no]), (2, .cells [.sl (flat entL y3.2.1) (List.length y3.2.1) .no, .sl (flat conL y3.2.2) (List.length y3.2.2) .no])], 3, [0, 1], 2, []⟩
theorem a21L0_21L1 (p0 : List Ent) (y3 : Int × List Ent × List Con') (vb0_0 : List Ent) : (∀ (v27 : Int) (vb0_2 : List Int) (vb0_3 : List Int) (r : (Int) ⊕ (Int × List Ent × List Int × List Int × List Ent × List Con')), g21L0 p0 y3 v27 vb0_0 vb0_2 vb0_3 = some r → (∀ j, Dl Tryz.prog 0 (inn (inn (rgt (lft (rgt (rgt (rgt (rgt (bod Tryz.f21))))))))) (g21L0E0 j p0 y3 v27 vb0_0 vb0_2 vb0_3) (g21L0S0 p0 y3 v27 vb0_0 vb0_2 vb0_3) (frameQ Tryz.prog 0 ((match (generalizing := false) r with | Sum.inl x => FinQ Tryz.prog 0 Tryz.f21 (.tup [.val (.pointer none), ai x]) [] 0 | Sum.inr x => FinQ Tryz.prog 0 Tryz.f21 (.tup [.mp 0 0, ai x.1]) [.cells [.sl (flat entL x.2.1) (List.length x.2.1) .no, .mp 1 0, .sl (flat intC x.2.2.1) (List.length x.2.2.1) .no, .sl (flat intC x.2.2.2.1) (List.length x.2.2.2.1) .no], .cells [.sl (flat entL x.2.2.2.2.1) (List.length x.2.2.2.2.1) .no, .sl (flat conL x.2.2.2.2.2) (List.length x.2.2.2.2.2) .no]] 0)) [.blk 0, .seq (rgt (rgt (rgt (rgt (rgt (bod Tryz.f21))))))]))) ∧ (∀ (v27 : Int) (vb0_2 : List Int) (vb0_3 : List Int) (v10 : Int) (vb1_0 : Int) (vb1_1 : Int) (vb1_2 : List Tm) (r : (Int) ⊕ (Int × List Ent × List Int × List Int × List Ent × List Con')), g21L1 p0 y3 vb0_0 v27 vb0_2 vb0_3 v10 vb1_0 vb1_1 vb1_2 = some r → (∀ j, Dl Tryz.prog 0 (inn (inn (rgt (lft (rgt (rgt (rgt (inn (rgt (lft (rgt (rgt (inn (lft (rgt (rgt (inn (inn (rgt (lft (rgt (rgt (rgt (rgt (bod Tryz.f21))))))))))))))))))))))))) (g21L1E0 j p0 y3 vb0_0 v27 vb0_2 vb0_3 v10 vb1_0 vb1_1 vb1_2) (g21L1S0 p0 y3 vb0_0 v27 vb0_2 vb0_3 v10 vb1_0 vb1_1 vb1_2) (frameQ Tryz.prog 0 ((match (generalizing := false) r with | Sum.inl x => FinQ Tryz.prog 0 Tryz.f21 (.tup [.val (.pointer none), ai x]) [] 0 | Sum.inr x => FinQ Tryz.prog 0 Tryz.f21 (.tup [.mp 0 0, ai x.1]) [.cells [.sl (flat entL x.2.1) (List.length x.2.1) .no, .mp 1 0, .sl (flat intC x.2.2.1) (List.length x.2.2.1) .no, .sl (flat intC x.2.2.2.1) (List.length x.2.2.2.1) .no], .cells [.sl (flat entL x.2.2.2.2.1) (List.length x.2.2.2.2.1) .no, .sl (flat conL x.2.2.2.2.2) (List.length x.2.2.2.2.2) .no]] 0)) [.blk 3, .blk 2, .seq (rgt (rgt (rgt (inn (lft (rgt (rgt (inn (inn (rgt (lft (rgt (rgt (rgt (rgt (bod Tryz.f21)))))))))))))))), .blk 1, .seq (rgt (rgt (rgt (inn (inn (rgt (lft (rgt (rgt (rgt (rgt (bod Tryz.f21)))))))))))), .loop (inn (inn (rgt (lft (rgt (rgt (rgt (rgt (bod Tryz.f21))))))))), .blk 0, .seq (rgt (rgt (rgt (rgt (rgt (bod Tryz.f21))))))]))) := by
  refine g21L0.mutual_partial_correctness p0 y3 vb0_0 (fun v27 vb0_2 vb0_3 r => (∀ j, Dl Tryz.prog 0 (inn (inn (rgt (lft (rgt (rgt (rgt (rgt (bod Tryz.f21))))))))) (g21L0E0 j p0 y3 v27 vb0_0 vb0_2 vb0_3) (g21L0S0 p0 y3 v27 vb0_0 vb0_2 vb0_3) (frameQ Tryz.prog 0 ((match (generalizing := false) r with | Sum.inl x => FinQ Tryz.prog 0 Tryz.f21 (.tup [.val (.pointer none), ai x]) [] 0 | Sum.inr x => FinQ Tryz.prog 0 Tryz.f21 (.tup [.mp 0 0, ai x.1]) [.cells [.sl (flat entL x.2.1) (List.length x.2.1) .no, .mp 1 0, .sl (flat intC x.2.2.1) (List.length x.2.2.1) .no, .sl (flat intC x.2.2.2.1) (List.length x.2.2.2.1) .no], .cells [.sl (flat entL x.2.2.2.2.1) (List.length x.2.2.2.2.1) .no, .sl (flat conL x.2.2.2.2.2) (List.length x.2.2.2.2.2) .no]] 0)) [.blk 0, .seq (rgt (rgt (rgt (rgt (rgt (bod Tryz.f21))))))]))) (fun v27 vb0_2 vb0_3 v10 vb1_0 vb1_1 vb1_2 r => (∀ j, Dl Tryz.prog 0 (inn (inn (rgt (lft (rgt (rgt (rgt (inn (rgt (lft (rgt (rgt (inn (lft (rgt (rgt (inn (inn (rgt (lft (rgt (rgt (rgt (rgt (bod Tryz.f21))))))))))))))))))))))))) (g21L1E0 j p0 y3 vb0_0 v27 vb0_2 vb0_3 v10 vb1_0 vb1_1 vb1_2) (g21L1S0 p0 y3 vb0_0 v27 vb0_2 vb0_3 v10 vb1_0 vb1_1 vb1_2) (frameQ Tryz.prog 0 ((match (generalizing := false) r with | Sum.inl x => FinQ Tryz.prog 0 Tryz.f21 (.tup [.val (.pointer none), ai x]) [] 0 | Sum.inr x => FinQ Tryz.prog 0 Tryz.f21 (.tup [.mp 0 0, ai x.1]) [.cells [.sl (flat entL x.2.1) (List.length x.2.1) .no, .mp 1 0, .sl (flat intC x.2.2.1) (List.length x.2.2.1) .no, .sl (flat intC x.2.2.2.1) (List.length x.2.2.2.1) .no], .cells [.sl (flat entL x.2.2.2.2.1) (List.length x.2.2.2.2.1) .no, .sl (flat conL x.2.2.2.2.2) (List.length x.2.2.2.2.2) .no]] 0)) [.blk 3, .blk 2, .seq (rgt (rgt (rgt (inn (lft (rgt (rgt (inn (inn (rgt (lft (rgt (rgt (rgt (rgt (bod Tryz.f21)))))))))))))))), .blk 1, .seq (rgt (rgt (rgt (inn (inn (rgt (lft (rgt (rgt (rgt (rgt (bod Tryz.f21)))))))))))), .loop (inn (inn (rgt (lft (rgt (rgt (rgt (rgt (bod Tryz.f21))))))))), .blk 0, .seq (rgt (rgt (rgt (rgt (rgt (bod Tryz.f21))))))]))) ?_ ?_
  · intro g21L0 g21L1 ihg21L0 ihg21L1 v27 vb0_2 vb0_3 r h
    rcases bcases (decide (v27 < (List.length p0 : Int))) with h7 | h7
    · replace h := ifT h7 h
      obtain ⟨x8, h9, h⟩ := obind h
      rcases bcases (x8.kind == 1) with h10 | h10
      · replace h := ifT h10 h
        obtain ⟨l11, h12, h⟩ := obind h
        obtain ⟨l13, h14, h⟩ := obind h
        exact fun j => Dl.toHead prim_ok mixed 3000 [.bit true, .av (.ip (entL x8 ++ flat entL (List.drop (Int.toNat v27 + 1) p0))), .no, .no, .no, .bit true, .no, .no, .no, .no, .no, .no, .no, .no, .no, .app (flat intC l11) (List.length l11) 1 false, .no, .no, .app (flat intC l13) (List.length l13) 1 false, .no, .no, .no] [] [0, 1] [2, 3] [6, 25, 26, 27] (E := fun j => g21L0E0 j p0 y3 (w64 (v27 + 1)) vb0_0 l11 l13) (S := g21L0S0 p0 y3 (w64 (v27 + 1)) vb0_0 l11 l13) (fun j => by kernel_rfl) (ObsOk.cons (obBit h7) (ObsOk.cons (obAv (ix37 (o := .no) h9)) (ObsOk.cons (obBit h10) (ObsOk.cons (apS52 h12 (by simp)) (ObsOk.cons (apS52 h14 (by simp)) (ObsOk.cons (obData (dE vb0_0)) (ObsOk.cons (obData (dI l11)) (ObsOk.cons (obData (dI l13)) (ObsOk.cons (obData (dE y3.2.1)) (ObsOk.cons (obData (dC y3.2.2)) (ObsOk.cons (obData (dE p0)) ObsOk.nil))))))))))) (ihg21L0 _ _ _ _ h)
      · replace h := ifF h10 h
        rcases bcases (x8.kind == 2) with h15 | h15
        · replace h := ifT h15 h
          exact fun j => Dl.toHead prim_ok mixed 3000 [.bit true, .av (.ip (entL x8 ++ flat entL (List.drop (Int.toNat v27 + 1) p0))), .no, .no, .no, .bit false, .bit true, .no, .no] [] [0, 3, 1] [0, 1] [6, 9, 10, 11, 25, 26, 27] (E := fun j => g21L1E0 j p0 y3 vb0_0 v27 vb0_2 vb0_3 0 x8.type.k x8.type.n x8.type.sub) (S := g21L1S0 p0 y3 vb0_0 v27 vb0_2 vb0_3 0 x8.type.k x8.type.n x8.type.sub) (fun j => by kernel_rfl) (ObsOk.cons (obBit h7) (ObsOk.cons (obAv (ix37 (o := .no) h9)) (ObsOk.cons (obBit h10) (ObsOk.cons (obBit h15) (ObsOk.cons (obData (dE vb0_0)) (ObsOk.cons (obData (dI vb0_2)) (ObsOk.cons (obData (dI vb0_3)) (ObsOk.cons (obData (dT x8.type.sub)) (ObsOk.cons (obData (dE y3.2.1)) (ObsOk.cons (obData (dC y3.2.2)) (ObsOk.cons (obData (dE p0)) ObsOk.nil))))))))))) (ihg21L1 _ _ _ _ _ _ _ _ h)
        · replace h := ifF h15 h
          obtain ⟨l16, h17, h⟩ := obind h
          obtain ⟨l18, h19, h⟩ := obind h
          exact fun j => Dl.toHead prim_ok mixed 3000 [.bit true, .av (.ip (entL x8 ++ flat entL (List.drop (Int.toNat v27 + 1) p0))), .no, .no, .no, .bit false, .bit false, .no, .no, .app (flat intC l16) (List.length l16) 1 false, .no, .no, .app (flat intC l18) (List.length l18) 1 false, .no, .no, .no] [] [0, 1] [2, 3] [6, 25, 26, 27] (E := fun j => g21L0E0 j p0 y3 (w64 (v27 + 1)) vb0_0 l16 l18) (S := g21L0S0 p0 y3 (w64 (v27 + 1)) vb0_0 l16 l18) (fun j => by kernel_rfl) (ObsOk.cons (obBit h7) (ObsOk.cons (obAv (ix37 (o := .no) h9)) (ObsOk.cons (obBit h10) (ObsOk.cons (obBit h15) (ObsOk.cons (apS52 h17 (by simp)) (ObsOk.cons (apS52 h19 (by simp)) (ObsOk.cons (obData (dE vb0_0)) (ObsOk.cons (obData (dI l16)) (ObsOk.cons (obData (dI l18)) (ObsOk.cons (obData (dE y3.2.1)) (ObsOk.cons (obData (dC y3.2.2)) (ObsOk.cons (obData (dE p0)) ObsOk.nil)))))))))))) (ihg21L0 _ _ _ _ h)
    · replace h := ifF h7 h
      replace h := Option.some.inj h
      subst h
      exact fun j => Dl.toFin prim_ok mixed 3000 [.bit false] [] [0, 1] [] false (by kernel_rfl) (ObsOk.cons (obBit h7) (ObsOk.cons (obData (dE vb0_0)) (ObsOk.cons (obData (dI vb0_2)) (ObsOk.cons (obData (dI vb0_3)) (ObsOk.cons (obData (dE y3.2.1)) (ObsOk.cons (obData (dC y3.2.2)) ObsOk.nil)))))) (by decide)
  · intro g21L0 g21L1 ihg21L0 ihg21L1 v27 vb0_2 vb0_3 v10 vb1_0 vb1_1 vb1_2 r h
    rcases bcases (vb1_0 == 3) with h16 | h16
    · replace h := ifT h16 h
      obtain ⟨x17, h18, h⟩ := obind h
      exact fun j => Dl.toHead prim_ok mixed 3000 [.no, .bit true, .no, .no, .no, .no, .av (.ip (tmL x17 ++ flat tmCells (List.drop (Int.toNat 1 + 1) vb1_2))), .no, .no] [] [0, 3, 2] [0, 1] [6, 9, 10, 11, 25, 26, 27] (E := fun j => g21L1E0 j p0 y3 vb0_0 v27 vb0_2 vb0_3 (w64 (v10 + 1)) x17.k x17.n x17.sub) (S := g21L1S0 p0 y3 vb0_0 v27 vb0_2 vb0_3 (w64 (v10 + 1)) x17.k x17.n x17.sub) (fun j => by kernel_rfl) (ObsOk.cons (obBit h16) (ObsOk.cons (obAv (ix22 (o := .no) h18)) (ObsOk.cons (obData (dE vb0_0)) (ObsOk.cons (obData (dI vb0_2)) (ObsOk.cons (obData (dI vb0_3)) (ObsOk.cons (obData (dT x17.sub)) (ObsOk.cons (obData (dE y3.2.1)) (ObsOk.cons (obData (dC y3.2.2)) (ObsOk.cons (obData (dE p0)) ObsOk.nil))))))))) (ihg21L1 _ _ _ _ _ _ _ _ h)
    · replace h := ifF h16 h
      obtain ⟨l19, h20, h⟩ := obind h
      obtain ⟨l21, h22, h⟩ := obind h
      exact fun j => Dl.toHead prim_ok mixed 3000 [.no, .bit false, .no, .no, .app (flat intC l19) (List.length l19) 1 false, .no, .no, .app (flat intC l21) (List.length l21) 1 false, .no, .no, .no] [] [0, 2] [2, 3] [6, 25, 26, 27] (E := fun j => g21L0E0 j p0 y3 (w64 (v27 + 1)) vb0_0 l19 l21) (S := g21L0S0 p0 y3 (w64 (v27 + 1)) vb0_0 l19 l21) (fun j => by kernel_rfl) (ObsOk.cons (obBit h16) (ObsOk.cons (apS52 h20 (by simp)) (ObsOk.cons (apS52 h22 (by simp)) (ObsOk.cons (obData (dE vb0_0)) (ObsOk.cons (obData (dI l19)) (ObsOk.cons (obData (dI l21)) (ObsOk.cons (obData (dE y3.2.1)) (ObsOk.cons (obData (dC y3.2.2)) (ObsOk.cons (obData (dE p0)) ObsOk.nil))))))))) (ihg21L0 _ _ _ _ h)
theorem l21L0 {p0 : List Ent} {y3 : Int × List Ent × List Con'} {v27 : Int} {vb0_0 : List Ent} {vb0_2 : List Int} {vb0_3 : List Int} {r : (Int) ⊕ (Int × List Ent × List Int × List Int × List Ent × List Con')} (h : g21L0 p0 y3 v27 vb0_0 vb0_2 vb0_3 = some r) : (∀ j, Dl Tryz.prog 0 (inn (inn (rgt (lft (rgt (rgt (rgt (rgt (bod Tryz.f21))))))))) (g21L0E0 j p0 y3 v27 vb0_0 vb0_2 vb0_3) (g21L0S0 p0 y3 v27 vb0_0 vb0_2 vb0_3) (frameQ Tryz.prog 0 ((match (generalizing := false) r with | Sum.inl x => FinQ Tryz.prog 0 Tryz.f21 (.tup [.val (.pointer none), ai x]) [] 0 | Sum.inr x => FinQ Tryz.prog 0 Tryz.f21 (.tup [.mp 0 0, ai x.1]) [.cells [.sl (flat entL x.2.1) (List.length x.2.1) .no, .mp 1 0, .sl (flat intC x.2.2.1) (List.length x.2.2.1) .no, .sl (flat intC x.2.2.2.1) (List.length x.2.2.2.1) .no], .cells [.sl (flat entL x.2.2.2.2.1) (List.length x.2.2.2.2.1) .no, .sl (flat conL x.2.2.2.2.2) (List.length x.2.2.2.2.2) .no]] 0)) [.blk 0, .seq (rgt (rgt (rgt (rgt (rgt (bod Tryz.f21))))))])) := (a21L0_21L1 p0 y3 vb0_0).1 _ _ _ _ h
theorem l21L1 {p0 : List Ent} {y3 : Int × List Ent × List Con'} {vb0_0 : List Ent} {v27 : Int} {vb0_2 : List Int} {vb0_3 : List Int} {v10 : Int} {vb1_0 : Int} {vb1_1 : Int} {vb1_2 : List Tm} {r : (Int) ⊕ (Int × List Ent × List Int × List Int × List Ent × List Con')} (h : g21L1 p0 y3 vb0_0 v27 vb0_2 vb0_3 v10 vb1_0 vb1_1 vb1_2 = some r) : (∀ j, Dl Tryz.prog 0 (inn (inn (rgt (lft (rgt (rgt (rgt (inn (rgt (lft (rgt (rgt (inn (lft (rgt (rgt (inn (inn (rgt (lft (rgt (rgt (rgt (rgt (bod Tryz.f21))))))))))))))))))))))))) (g21L1E0 j p0 y3 vb0_0 v27 vb0_2 vb0_3 v10 vb1_0 vb1_1 vb1_2) (g21L1S0 p0 y3 vb0_0 v27 vb0_2 vb0_3 v10 vb1_0 vb1_1 vb1_2) (frameQ Tryz.prog 0 ((match (generalizing := false) r with | Sum.inl x => FinQ Tryz.prog 0 Tryz.f21 (.tup [.val (.pointer none), ai x]) [] 0 | Sum.inr x => FinQ Tryz.prog 0 Tryz.f21 (.tup [.mp 0 0, ai x.1]) [.cells [.sl (flat entL x.2.1) (List.length x.2.1) .no, .mp 1 0, .sl (flat intC x.2.2.1) (List.length x.2.2.1) .no, .sl (flat intC x.2.2.2.1) (List.length x.2.2.2.1) .no], .cells [.sl (flat entL x.2.2.2.2.1) (List.length x.2.2.2.2.1) .no, .sl (flat conL x.2.2.2.2.2) (List.length x.2.2.2.2.2) .no]] 0)) [.blk 3, .blk 2, .seq (rgt (rgt (rgt (inn (lft (rgt (rgt (inn (inn (rgt (lft (rgt (rgt (rgt (rgt (bod Tryz.f21)))))))))))))))), .blk 1, .seq (rgt (rgt (rgt (inn (inn (rgt (lft (rgt (rgt (rgt (rgt (bod Tryz.f21)))))))))))), .loop (inn (inn (rgt (lft (rgt (rgt (rgt (rgt (bod Tryz.f21))))))))), .blk 0, .seq (rgt (rgt (rgt (rgt (rgt (bod Tryz.f21))))))])) := (a21L0_21L1 p0 y3 vb0_0).2 _ _ _ _ _ _ _ _ h
theorem c21 {p0 : List Ent} {r : (Int) ⊕ (Int × List Ent × List Int × List Int × List Ent × List Con')} (h : g21 p0 = some r) : (match (generalizing := false) r with | Sum.inl x => CT Tryz.prog 21 [] [.sl (flat entL p0) (List.length p0) .no] (.tup [.val (.pointer none), ai x]) [] 0 | Sum.inr x => CT Tryz.prog 21 [] [.sl (flat entL p0) (List.length p0) .no] (.tup [.mp 0 0, ai x.1]) [.cells [.sl (flat entL x.2.1) (List.length x.2.1) .no, .mp 1 0, .sl (flat intC x.2.2.1) (List.length x.2.2.1) .no, .sl (flat intC x.2.2.2.1) (List.length x.2.2.2.1) .no], .cells [.sl (flat entL x.2.2.2.2.1) (List.length x.2.2.2.2.1) .no, .sl (flat conL x.2.2.2.2.2) (List.length x.2.2.2.2.2) .no]] 0) := by
  unfold g21 at h
  obtain ⟨r1, h2, h⟩ := obind h
  rcases r1 with y7 | y3
  · dsimp only at h
    rcases bcases (y7 != 0) with h8 | h8
    · replace h := ifT h8 h
      replace h := Option.some.inj h
      subst h
      exact ⟨CTri.toFin prim_ok mixed Tryz.func21 (by kernel_rfl) 3000 [.call [] [] 0 (.tup [.val (.pointer none), ai y7]) none, .no, .no, .bit true] [] [] [] false (by kernel_rfl) (ObsOk.cons (obCall (c56 h2)) (ObsOk.cons (obBit h8) ObsOk.nil)) (by decide), ⟨⟨trivial, dE _⟩, trivial⟩, (fun _ h => nomatch h), ⟨trivial, trivial, trivial⟩, (fun _ h => nomatch h)⟩
    · replace h := ifF h8 h
      cases h
  · dsimp only at h
    rcases bcases (y3.1 != 0) with h4 | h4
    · replace h := ifT h4 h
      replace h := Option.some.inj h
      subst h
      exact ⟨CTri.toFin prim_ok mixed Tryz.func21 (by kernel_rfl) 3000 [.call [] [.cells [.sl (flat entL y3.2.1) (List.length y3.2.1) .no, .sl (flat conL y3.2.2) (List.length y3.2.2) .no]] 0 (.tup [.mp 0 0, ai y3.1]) none, .no, .no, .bit true] [] [] [] false (by kernel_rfl) (ObsOk.cons (obCall (c56 h2)) (ObsOk.cons (obBit h4) ObsOk.nil)) (by decide), ⟨⟨trivial, dE _⟩, trivial⟩, (fun _ h => nomatch h), ⟨trivial, trivial, trivial⟩, (fun _ h => nomatch h)⟩
    · replace h := ifF h4 h
      obtain ⟨r5, h6, h⟩ := obind h
      rcases r with y0 | y1
      · exact ⟨CTri.toHead prim_ok mixed Tryz.func21 (by kernel_rfl) 3000 [.call [] [.cells [.sl (flat entL y3.2.1) (List.length y3.2.1) .no, .sl (flat conL y3.2.2) (List.length y3.2.2) .no]] 0 (.tup [.mp 0 0, ai y3.1]) none, .no, .no, .bit false, .call [] [] 0 (.sl (flat entL r5) (List.length r5) .no) none, .no] [(some 1, 2, 1), (some 1, 3, 1)] [1, 0] [0, 1] [6, 25, 26, 27] (E := fun j => g21L0E0 j p0 y3 0 r5 [] []) (S := g21L0S0 p0 y3 0 r5 [] []) (fun j => by kernel_rfl) (ObsOk.cons (obCall (c56 h2)) (ObsOk.cons (obBit h4) (ObsOk.cons (obCall (c76 h6)) (ObsOk.cons (obData (dE r5)) (ObsOk.cons (obData (dI ([] : List Int))) (ObsOk.cons (obData (dI ([] : List Int))) (ObsOk.cons (obData (dE y3.2.1)) (ObsOk.cons (obData (dC y3.2.2)) (ObsOk.cons (obData (dE p0)) ObsOk.nil))))))))) (l21L0 h), ⟨⟨trivial, dE _⟩, trivial⟩, (fun _ h => nomatch h), ⟨trivial, trivial, trivial⟩, (fun _ h => nomatch h)⟩
      · exact ⟨CTri.toHead prim_ok mixed Tryz.func21 (by kernel_rfl) 3000 [.call [] [.cells [.sl (flat entL y3.2.1) (List.length y3.2.1) .no, .sl (flat conL y3.2.2) (List.length y3.2.2) .no]] 0 (.tup [.mp 0 0, ai y3.1]) none, .no, .no, .bit false, .call [] [] 0 (.sl (flat entL r5) (List.length r5) .no) none, .no] [(some 1, 2, 1), (some 1, 3, 1)] [1, 0] [0, 1] [6, 25, 26, 27] (E := fun j => g21L0E0 j p0 y3 0 r5 [] []) (S := g21L0S0 p0 y3 0 r5 [] []) (fun j => by kernel_rfl) (ObsOk.cons (obCall (c56 h2)) (ObsOk.cons (obBit h4) (ObsOk.cons (obCall (c76 h6)) (ObsOk.cons (obData (dE r5)) (ObsOk.cons (obData (dI ([] : List Int))) (ObsOk.cons (obData (dI ([] : List Int))) (ObsOk.cons (obData (dE y3.2.1)) (ObsOk.cons (obData (dC y3.2.2)) (ObsOk.cons (obData (dE p0)) ObsOk.nil))))))))) (l21L0 h), ⟨⟨trivial, dE _⟩, trivial⟩, (fun _ h => nomatch h), ⟨(show 0 < 2 by decide), trivial, trivial⟩, (forall_cons ⟨dE _, (show 1 < 2 by decide), dI _, dI _, trivial⟩ (forall_cons ⟨dE _, dC _, trivial⟩ forall_nil))⟩

/- (*scholium/whnf.Machine).Entries -/
def g20 (M : Mach) : Option (List Ent) :=
  (g76 M.l) >>= fun r1 =>
  some r1
theorem c20 {M : Mach} {r : List Ent} (h : g20 M = some r) : CT Tryz.prog 20 [.cells [.sl (flat entL M.l) (List.length M.l) .no, .mp 1 0, .sl (flat intC M.args) (List.length M.args) .no, .sl (flat intC M.own) (List.length M.own) .no], .cells [.sl (flat entL M.rl) (List.length M.rl) .no, .sl (flat conL M.parts) (List.length M.parts) .no]] [.mp 0 0] (.sl (flat entL r) (List.length r) .no) [.cells [.sl (flat entL M.l) (List.length M.l) .no, .mp 1 0, .sl (flat intC M.args) (List.length M.args) .no, .sl (flat intC M.own) (List.length M.own) .no], .cells [.sl (flat entL M.rl) (List.length M.rl) .no, .sl (flat conL M.parts) (List.length M.parts) .no]] 0 := by
  unfold g20 at h
  obtain ⟨r1, h2, h⟩ := obind h
  replace h := Option.some.inj h
  subst h
  exact ⟨CTri.toFin prim_ok mixed Tryz.func20 (by kernel_rfl) 3000 [.no, .no, .call [] [] 0 (.sl (flat entL r1) (List.length r1) .no) none] [] [0, 1] [] false (by kernel_rfl) (ObsOk.cons (obCall (c76 h2)) (ObsOk.cons (obData (dE M.l)) (ObsOk.cons (obData (dI M.args)) (ObsOk.cons (obData (dI M.own)) (ObsOk.cons (obData (dE M.rl)) (ObsOk.cons (obData (dC M.parts)) (ObsOk.cons (obData (dE r1)) ObsOk.nil))))))) (by decide), ⟨(show 0 < 2 by decide), trivial⟩, (forall_cons ⟨⟨trivial, dE _⟩, (show 1 < 2 by decide), ⟨trivial, dI _⟩, ⟨trivial, dI _⟩, trivial⟩ (forall_cons ⟨⟨trivial, dE _⟩, ⟨trivial, dC _⟩, trivial⟩ forall_nil)), dE _, (forall_cons ⟨dE _, (show 1 < 2 by decide), dI _, dI _, trivial⟩ (forall_cons ⟨dE _, dC _, trivial⟩ forall_nil))⟩

/- (*scholium/whnf.Machine).Len -/
def g19 (M : Mach) : Option (Int) :=
  some (List.length M.l : Int)
theorem c19 {M : Mach} {r : Int} (h : g19 M = some r) : CT Tryz.prog 19 [.cells [.sl (flat entL M.l) (List.length M.l) .no, .mp 1 0, .sl (flat intC M.args) (List.length M.args) .no, .sl (flat intC M.own) (List.length M.own) .no], .cells [.sl (flat entL M.rl) (List.length M.rl) .no, .sl (flat conL M.parts) (List.length M.parts) .no]] [.mp 0 0] (ai r) [.cells [.sl (flat entL M.l) (List.length M.l) .no, .mp 1 0, .sl (flat intC M.args) (List.length M.args) .no, .sl (flat intC M.own) (List.length M.own) .no], .cells [.sl (flat entL M.rl) (List.length M.rl) .no, .sl (flat conL M.parts) (List.length M.parts) .no]] 0 := by
  unfold g19 at h
  replace h := Option.some.inj h
  subst h
  exact ⟨CTri.toFin prim_ok mixed Tryz.func19 (by kernel_rfl) 3000 [.no, .no, .no] [] [0, 1] [] false (by kernel_rfl) (ObsOk.cons (obData (dE M.l)) (ObsOk.cons (obData (dI M.args)) (ObsOk.cons (obData (dI M.own)) (ObsOk.cons (obData (dE M.rl)) (ObsOk.cons (obData (dC M.parts)) ObsOk.nil))))) (by decide), ⟨(show 0 < 2 by decide), trivial⟩, (forall_cons ⟨⟨trivial, dE _⟩, (show 1 < 2 by decide), ⟨trivial, dI _⟩, ⟨trivial, dI _⟩, trivial⟩ (forall_cons ⟨⟨trivial, dE _⟩, ⟨trivial, dC _⟩, trivial⟩ forall_nil)), trivial, (forall_cons ⟨dE _, (show 1 < 2 by decide), dI _, dI _, trivial⟩ (forall_cons ⟨dE _, dC _, trivial⟩ forall_nil))⟩

/- (scholium/infer.World).right -/
def g151v0L0 (p1 : List Tm) (M : Mach) (fl : Int) (fu : Int) (cx : List Tm) (ny : List Int) (ty : List Tm) (v21 : Int) : Option (Bool) :=
  if decide (v21 < (List.length p1 : Int)) = true then
    (gidx p1 v21) >>= fun x3 =>
    (g19 M) >>= fun r5 =>
    (g133 x3 1048577 r5) >>= fun r7 =>
    if r7 = true then
      g151v0L0 p1 M fl fu cx ny ty (w64 (v21 + 1))
    else
      some false
  else
    some true
 partial_fixpoint
def g151v0 (p1 : List Tm) (M : Mach) (fl : Int) (fu : Int) (cx : List Tm) (ny : List Int) (ty : List Tm) : Option (Bool) :=
  if ((List.length ny : Int) != (List.length ty : Int)) = true then
    some false
  else
    g151v0L0 p1 M fl fu cx ny ty 0
def g151v0L0E0 (j : Nat → Value) (p1 : List Tm) (M : Mach) (fl : Int) (fu : Int) (cx : List Tm) (ny : List Int) (ty : List Tm) (v21 : Int) : List AV := [.val (j 0), .val (j 1), .mp 3 0, .val (j 3), .val (j 4), .val (j 5), .val (j 6), .val (j 7), .val (j 8), .val (j 9), .val (j 10), .val (j 11), .val (j 12), .val (j 13), .val (j 14), .val (j 15), .val (j 16), .val (j 17), .val (j 18), .sl (flat tmCells p1) (List.length p1) .no, ai (List.length p1 : Int), ai v21, .val (j 22), .val (j 23), .val (j 24), .val (j 25), .val (j 26), .val (j 27), .val (j 28), .val (j 29), .val (j 30), .val (j 31)]
def g151v0L0S0 (p1 : List Tm) (M : Mach) (fl : Int) (fu : Int) (cx : List Tm) (ny : List Int) (ty : List Tm) (v21 : Int) : LSt := ⟨[(0, .cells [.sl (flat entL M.l) (List.length M.l) .no, .mp 1 0, .sl (flat intC M.args) (List.length M.args) .no, .sl (flat intC M.own) (List.length M.own) .no]), (1, .cells [.sl (flat entL M.rl) (List.length M.rl) .no, .sl (flat conL M.parts) (List.length M.parts) .no]), (2, .cells [ai fl, ai fu]), (3, .cells [.mp 0 0, .mp 2 0, .sl (flat tmCells cx) (List.length cx) .no, .sl (flat intC ny) (List.length ny) .no, .sl (flat tmCells ty) (List.length ty) .no])], 4, [], 0, []⟩
theorem l151v0L0 {p1 : List Tm} {M : Mach} {fl : Int} {fu : Int} {cx : List Tm} {ny : List Int} {ty : List Tm} {v21 : Int} {r : Bool} (h : g151v0L0 p1 M fl fu cx ny ty v21 = some r) : (∀ j, Dl Tryz.prog 3 (inn (inn (rgt (lft (rgt (rgt (bod Tryz.f151))))))) (g151v0L0E0 j p1 M fl fu cx ny ty v21) (g151v0L0S0 p1 M fl fu cx ny ty v21) (frameQ Tryz.prog 3 (FinQ Tryz.prog 3 Tryz.f151 (ab r) [.cells [.sl (flat entL M.l) (List.length M.l) .no, .mp 1 0, .sl (flat intC M.args) (List.length M.args) .no, .sl (flat intC M.own) (List.length M.own) .no], .cells [.sl (flat entL M.rl) (List.length M.rl) .no, .sl (flat conL M.parts) (List.length M.parts) .no], .cells [ai fl, ai fu]] 0) [.blk 0, .seq (rgt (rgt (rgt (bod Tryz.f151))))])) := by
  refine g151v0L0.partial_correctness p1 M fl fu cx ny ty (fun v21 r => (∀ j, Dl Tryz.prog 3 (inn (inn (rgt (lft (rgt (rgt (bod Tryz.f151))))))) (g151v0L0E0 j p1 M fl fu cx ny ty v21) (g151v0L0S0 p1 M fl fu cx ny ty v21) (frameQ Tryz.prog 3 (FinQ Tryz.prog 3 Tryz.f151 (ab r) [.cells [.sl (flat entL M.l) (List.length M.l) .no, .mp 1 0, .sl (flat intC M.args) (List.length M.args) .no, .sl (flat intC M.own) (List.length M.own) .no], .cells [.sl (flat entL M.rl) (List.length M.rl) .no, .sl (flat conL M.parts) (List.length M.parts) .no], .cells [ai fl, ai fu]] 0) [.blk 0, .seq (rgt (rgt (rgt (bod Tryz.f151))))]))) ?_ v21 _ h
  clear h
  intro g151v0L0 ihg151v0L0 v21 r h
  rcases bcases (decide (v21 < (List.length p1 : Int))) with h2 | h2
  · replace h := ifT h2 h
    obtain ⟨x3, h4, h⟩ := obind h
    obtain ⟨r5, h6, h⟩ := obind h
    obtain ⟨r7, h8, h⟩ := obind h
    rcases bcases r7 with h9 | h9
    · replace h := ifT h9 h
      exact fun j => Dl.toHead prim_ok mixed 3000 [.bit true, .av (.ip (tmL x3 ++ flat tmCells (List.drop (Int.toNat v21 + 1) p1))), .no, .no, .no, .no, .call [0, 1] [.cells [.sl (flat entL M.l) (List.length M.l) .no, .mp 1 0, .sl (flat intC M.args) (List.length M.args) .no, .sl (flat intC M.own) (List.length M.own) .no], .cells [.sl (flat entL M.rl) (List.length M.rl) .no, .sl (flat conL M.parts) (List.length M.parts) .no]] 0 (ai r5) none, .call [] [] 0 (ab r7) (some true), .no, .no] [] [0, 1, 2, 3] [] [2, 19, 20, 21] (E := fun j => g151v0L0E0 j p1 M fl fu cx ny ty (w64 (v21 + 1))) (S := g151v0L0S0 p1 M fl fu cx ny ty (w64 (v21 + 1))) (fun j => by kernel_rfl) (ObsOk.cons (obBit h2) (ObsOk.cons (obAv (ix22 (o := .no) h4)) (ObsOk.cons (obCall (c19 h6)) (ObsOk.cons (obBit h9) (ObsOk.cons (obCall (c133 h8)) (ObsOk.cons (obData (dE M.l)) (ObsOk.cons (obData (dI M.args)) (ObsOk.cons (obData (dI M.own)) (ObsOk.cons (obData (dE M.rl)) (ObsOk.cons (obData (dC M.parts)) (ObsOk.cons (obData (dT cx)) (ObsOk.cons (obData (dI ny)) (ObsOk.cons (obData (dT ty)) (ObsOk.cons (obData (dT p1)) ObsOk.nil)))))))))))))) (ihg151v0L0 _ _ h)
    · replace h := ifF h9 h
      replace h := Option.some.inj h
      subst h
      exact fun j => Dl.toFin prim_ok mixed 3000 [.bit true, .av (.ip (tmL x3 ++ flat tmCells (List.drop (Int.toNat v21 + 1) p1))), .no, .no, .no, .no, .call [0, 1] [.cells [.sl (flat entL M.l) (List.length M.l) .no, .mp 1 0, .sl (flat intC M.args) (List.length M.args) .no, .sl (flat intC M.own) (List.length M.own) .no], .cells [.sl (flat entL M.rl) (List.length M.rl) .no, .sl (flat conL M.parts) (List.length M.parts) .no]] 0 (ai r5) none, .call [] [] 0 (ab r7) (some false), .no] [] [0, 1, 2] [] false (by kernel_rfl) (ObsOk.cons (obBit h2) (ObsOk.cons (obAv (ix22 (o := .no) h4)) (ObsOk.cons (obCall (c19 h6)) (ObsOk.cons (obBit h9) (ObsOk.cons (obCall (c133 h8)) (ObsOk.cons (obData (dE M.l)) (ObsOk.cons (obData (dI M.args)) (ObsOk.cons (obData (dI M.own)) (ObsOk.cons (obData (dE M.rl)) (ObsOk.cons (obData (dC M.parts)) ObsOk.nil)))))))))) (by decide)
  · replace h := ifF h2 h
    replace h := Option.some.inj h
    subst h
    exact fun j => Dl.toFin prim_ok mixed 3000 [.bit false] [] [0, 1, 2] [] false (by kernel_rfl) (ObsOk.cons (obBit h2) (ObsOk.cons (obData (dE M.l)) (ObsOk.cons (obData (dI M.args)) (ObsOk.cons (obData (dI M.own)) (ObsOk.cons (obData (dE M.rl)) (ObsOk.cons (obData (dC M.parts)) ObsOk.nil)))))) (by decide)
theorem c151v0 {p1 : List Tm} {M : Mach} {fl : Int} {fu : Int} {cx : List Tm} {ny : List Int} {ty : List Tm} {r : Bool} (h : g151v0 p1 M fl fu cx ny ty = some r) : CT Tryz.prog 151 [.cells [.sl (flat entL M.l) (List.length M.l) .no, .mp 1 0, .sl (flat intC M.args) (List.length M.args) .no, .sl (flat intC M.own) (List.length M.own) .no], .cells [.sl (flat entL M.rl) (List.length M.rl) .no, .sl (flat conL M.parts) (List.length M.parts) .no], .cells [ai fl, ai fu]] [.agg [.mp 0 0, .mp 2 0, .sl (flat tmCells cx) (List.length cx) .no, .sl (flat intC ny) (List.length ny) .no, .sl (flat tmCells ty) (List.length ty) .no], .sl (flat tmCells p1) (List.length p1) .no] (ab r) [.cells [.sl (flat entL M.l) (List.length M.l) .no, .mp 1 0, .sl (flat intC M.args) (List.length M.args) .no, .sl (flat intC M.own) (List.length M.own) .no], .cells [.sl (flat entL M.rl) (List.length M.rl) .no, .sl (flat conL M.parts) (List.length M.parts) .no], .cells [ai fl, ai fu]] 0 := by
  unfold g151v0 at h
  rcases bcases ((List.length ny : Int) != (List.length ty : Int)) with h1 | h1
  · replace h := ifT h1 h
    replace h := Option.some.inj h
    subst h
    exact ⟨CTri.toFin prim_ok mixed Tryz.func151 (by kernel_rfl) 3000 [.no, .no, .no, .no, .no, .no, .bit true] [] [0, 1, 2] [] false (by kernel_rfl) (ObsOk.cons (obBit h1) (ObsOk.cons (obData (dE M.l)) (ObsOk.cons (obData (dI M.args)) (ObsOk.cons (obData (dI M.own)) (ObsOk.cons (obData (dE M.rl)) (ObsOk.cons (obData (dC M.parts)) ObsOk.nil)))))) (by decide), ⟨⟨(show 0 < 3 by decide), (show 2 < 3 by decide), ⟨trivial, dT _⟩, ⟨trivial, dI _⟩, ⟨trivial, dT _⟩, trivial⟩, ⟨trivial, dT _⟩, trivial⟩, (forall_cons ⟨⟨trivial, dE _⟩, (show 1 < 3 by decide), ⟨trivial, dI _⟩, ⟨trivial, dI _⟩, trivial⟩ (forall_cons ⟨⟨trivial, dE _⟩, ⟨trivial, dC _⟩, trivial⟩ (forall_cons ⟨trivial, trivial, trivial⟩ forall_nil))), trivial, (forall_cons ⟨dE _, (show 1 < 3 by decide), dI _, dI _, trivial⟩ (forall_cons ⟨dE _, dC _, trivial⟩ (forall_cons ⟨trivial, trivial, trivial⟩ forall_nil)))⟩
  · replace h := ifF h1 h
    exact ⟨CTri.toHead prim_ok mixed Tryz.func151 (by kernel_rfl) 3000 [.no, .no, .no, .no, .no, .no, .bit false, .no] [] [0, 1, 2, 3] [] [2, 19, 20, 21] (E := fun j => g151v0L0E0 j p1 M fl fu cx ny ty 0) (S := g151v0L0S0 p1 M fl fu cx ny ty 0) (fun j => by kernel_rfl) (ObsOk.cons (obBit h1) (ObsOk.cons (obData (dE M.l)) (ObsOk.cons (obData (dI M.args)) (ObsOk.cons (obData (dI M.own)) (ObsOk.cons (obData (dE M.rl)) (ObsOk.cons (obData (dC M.parts)) (ObsOk.cons (obData (dT cx)) (ObsOk.cons (obData (dI ny)) (ObsOk.cons (obData (dT ty)) (ObsOk.cons (obData (dT p1)) ObsOk.nil)))))))))) (l151v0L0 h), ⟨⟨(show 0 < 3 by decide), (show 2 < 3 by decide), ⟨trivial, dT _⟩, ⟨trivial, dI _⟩, ⟨trivial, dT _⟩, trivial⟩, ⟨trivial, dT _⟩, trivial⟩, (forall_cons ⟨⟨trivial, dE _⟩, (show 1 < 3 by decide), ⟨trivial, dI _⟩, ⟨trivial, dI _⟩, trivial⟩ (forall_cons ⟨⟨trivial, dE _⟩, ⟨trivial, dC _⟩, trivial⟩ (forall_cons ⟨trivial, trivial, trivial⟩ forall_nil))), trivial, (forall_cons ⟨dE _, (show 1 < 3 by decide), dI _, dI _, trivial⟩ (forall_cons ⟨dE _, dC _, trivial⟩ (forall_cons ⟨trivial, trivial, trivial⟩ forall_nil)))⟩

/- (scholium/infer.World).right -/
def g151vnL0 (p1 : List Tm) (M : Mach) (cx : List Tm) (ny : List Int) (ty : List Tm) (v21 : Int) : Option (Bool) :=
  if decide (v21 < (List.length p1 : Int)) = true then
    (gidx p1 v21) >>= fun x3 =>
    (g19 M) >>= fun r5 =>
    (g133 x3 1048577 r5) >>= fun r7 =>
    if r7 = true then
      g151vnL0 p1 M cx ny ty (w64 (v21 + 1))
    else
      some false
  else
    some true
 partial_fixpoint
def g151vn (p1 : List Tm) (M : Mach) (cx : List Tm) (ny : List Int) (ty : List Tm) : Option (Bool) :=
  if ((List.length ny : Int) != (List.length ty : Int)) = true then
    some false
  else
    g151vnL0 p1 M cx ny ty 0
def g151vnL0E0 (j : Nat → Value) (p1 : List Tm) (M : Mach) (cx : List Tm) (ny : List Int) (ty : List Tm) (v21 : Int) : List AV := [.val (j 0), .val (j 1), .mp 2 0, .val (j 3), .val (j 4), .val (j 5), .val (j 6), .val (j 7), .val (j 8), .val (j 9), .val (j 10), .val (j 11), .val (j 12), .val (j 13), .val (j 14), .val (j 15), .val (j 16), .val (j 17), .val (j 18), .sl (flat tmCells p1) (List.length p1) .no, ai (List.length p1 : Int), ai v21, .val (j 22), .val (j 23), .val (j 24), .val (j 25), .val (j 26), .val (j 27), .val (j 28), .val (j 29), .val (j 30), .val (j 31)]
def g151vnL0S0 (p1 : List Tm) (M : Mach) (cx : List Tm) (ny : List Int) (ty : List Tm) (v21 : Int) : LSt := ⟨[(0, .cells [.sl (flat entL M.l) (List.length M.l) .no, .mp 1 0, .sl (flat intC M.args) (List.length M.args) .no, .sl (flat intC M.own) (List.length M.own) .no]), (1, .cells [.sl (flat entL M.rl) (List.length M.rl) .no, .sl (flat conL M.parts) (List.length M.parts) .no]), (2, .cells [.mp 0 0, .val (.pointer none), .sl (flat tmCells cx) (List.length cx) .no, .sl (flat intC ny) (List.length ny) .no, .sl (flat tmCells ty) (List.length ty) .no])], 3, [], 0, []⟩
theorem l151vnL0 {p1 : List Tm} {M : Mach} {cx : List Tm} {ny : List Int} {ty : List Tm} {v21 : Int} {r : Bool} (h : g151vnL0 p1 M cx ny ty v21 = some r) : (∀ j, Dl Tryz.prog 2 (inn (inn (rgt (lft (rgt (rgt (bod Tryz.f151))))))) (g151vnL0E0 j p1 M cx ny ty v21) (g151vnL0S0 p1 M cx ny ty v21) (frameQ Tryz.prog 2 (FinQ Tryz.prog 2 Tryz.f151 (ab r) [.cells [.sl (flat entL M.l) (List.length M.l) .no, .mp 1 0, .sl (flat intC M.args) (List.length M.args) .no, .sl (flat intC M.own) (List.length M.own) .no], .cells [.sl (flat entL M.rl) (List.length M.rl) .no, .sl (flat conL M.parts) (List.length M.parts) .no]] 0) [.blk 0, .seq (rgt (rgt (rgt (bod Tryz.f151))))])) := by
  refine g151vnL0.partial_correctness p1 M cx ny ty (fun v21 r => (∀ j, Dl Tryz.prog 2 (inn (inn (rgt (lft (rgt (rgt (bod Tryz.f151))))))) (g151vnL0E0 j p1 M cx ny ty v21) (g151vnL0S0 p1 M cx ny ty v21) (frameQ Tryz.prog 2 (FinQ Tryz.prog 2 Tryz.f151 (ab r) [.cells [.sl (flat entL M.l) (List.length M.l) .no, .mp 1 0, .sl (flat intC M.args) (List.length M.args) .no, .sl (flat intC M.own) (List.length M.own) .no], .cells [.sl (flat entL M.rl) (List.length M.rl) .no, .sl (flat conL M.parts) (List.length M.parts) .no]] 0) [.blk 0, .seq (rgt (rgt (rgt (bod Tryz.f151))))]))) ?_ v21 _ h
  clear h
  intro g151vnL0 ihg151vnL0 v21 r h
  rcases bcases (decide (v21 < (List.length p1 : Int))) with h2 | h2
  · replace h := ifT h2 h
    obtain ⟨x3, h4, h⟩ := obind h
    obtain ⟨r5, h6, h⟩ := obind h
    obtain ⟨r7, h8, h⟩ := obind h
    rcases bcases r7 with h9 | h9
    · replace h := ifT h9 h
      exact fun j => Dl.toHead prim_ok mixed 3000 [.bit true, .av (.ip (tmL x3 ++ flat tmCells (List.drop (Int.toNat v21 + 1) p1))), .no, .no, .no, .no, .call [0, 1] [.cells [.sl (flat entL M.l) (List.length M.l) .no, .mp 1 0, .sl (flat intC M.args) (List.length M.args) .no, .sl (flat intC M.own) (List.length M.own) .no], .cells [.sl (flat entL M.rl) (List.length M.rl) .no, .sl (flat conL M.parts) (List.length M.parts) .no]] 0 (ai r5) none, .call [] [] 0 (ab r7) (some true), .no, .no] [] [0, 1, 2] [] [2, 19, 20, 21] (E := fun j => g151vnL0E0 j p1 M cx ny ty (w64 (v21 + 1))) (S := g151vnL0S0 p1 M cx ny ty (w64 (v21 + 1))) (fun j => by kernel_rfl) (ObsOk.cons (obBit h2) (ObsOk.cons (obAv (ix22 (o := .no) h4)) (ObsOk.cons (obCall (c19 h6)) (ObsOk.cons (obBit h9) (ObsOk.cons (obCall (c133 h8)) (ObsOk.cons (obData (dE M.l)) (ObsOk.cons (obData (dI M.args)) (ObsOk.cons (obData (dI M.own)) (ObsOk.cons (obData (dE M.rl)) (ObsOk.cons (obData (dC M.parts)) (ObsOk.cons (obData (dT cx)) (ObsOk.cons (obData (dI ny)) (ObsOk.cons (obData (dT ty)) (ObsOk.cons (obData (dT p1)) ObsOk.nil)))))))))))))) (ihg151vnL0 _ _ h)
    · replace h := ifF h9 h
      replace h := Option.some.inj h
      subst h
      exact fun j => Dl.toFin prim_ok mixed 3000 [.bit true, .av (.ip (tmL x3 ++ flat tmCells (List.drop (Int.toNat v21 + 1) p1))), .no, .no, .no, .no, .call [0, 1] [.cells [.sl (flat entL M.l) (List.length M.l) .no, .mp 1 0, .sl (flat intC M.args) (List.length M.args) .no, .sl (flat intC M.own) (List.length M.own) .no], .cells [.sl (flat entL M.rl) (List.length M.rl) .no, .sl (flat conL M.parts) (List.length M.parts) .no]] 0 (ai r5) none, .call [] [] 0 (ab r7) (some false), .no] [] [0, 1] [] false (by kernel_rfl) (ObsOk.cons (obBit h2) (ObsOk.cons (obAv (ix22 (o := .no) h4)) (ObsOk.cons (obCall (c19 h6)) (ObsOk.cons (obBit h9) (ObsOk.cons (obCall (c133 h8)) (ObsOk.cons (obData (dE M.l)) (ObsOk.cons (obData (dI M.args)) (ObsOk.cons (obData (dI M.own)) (ObsOk.cons (obData (dE M.rl)) (ObsOk.cons (obData (dC M.parts)) ObsOk.nil)))))))))) (by decide)
  · replace h := ifF h2 h
    replace h := Option.some.inj h
    subst h
    exact fun j => Dl.toFin prim_ok mixed 3000 [.bit false] [] [0, 1] [] false (by kernel_rfl) (ObsOk.cons (obBit h2) (ObsOk.cons (obData (dE M.l)) (ObsOk.cons (obData (dI M.args)) (ObsOk.cons (obData (dI M.own)) (ObsOk.cons (obData (dE M.rl)) (ObsOk.cons (obData (dC M.parts)) ObsOk.nil)))))) (by decide)
theorem c151vn {p1 : List Tm} {M : Mach} {cx : List Tm} {ny : List Int} {ty : List Tm} {r : Bool} (h : g151vn p1 M cx ny ty = some r) : CT Tryz.prog 151 [.cells [.sl (flat entL M.l) (List.length M.l) .no, .mp 1 0, .sl (flat intC M.args) (List.length M.args) .no, .sl (flat intC M.own) (List.length M.own) .no], .cells [.sl (flat entL M.rl) (List.length M.rl) .no, .sl (flat conL M.parts) (List.length M.parts) .no]] [.agg [.mp 0 0, .val (.pointer none), .sl (flat tmCells cx) (List.length cx) .no, .sl (flat intC ny) (List.length ny) .no, .sl (flat tmCells ty) (List.length ty) .no], .sl (flat tmCells p1) (List.length p1) .no] (ab r) [.cells [.sl (flat entL M.l) (List.length M.l) .no, .mp 1 0, .sl (flat intC M.args) (List.length M.args) .no, .sl (flat intC M.own) (List.length M.own) .no], .cells [.sl (flat entL M.rl) (List.length M.rl) .no, .sl (flat conL M.parts) (List.length M.parts) .no]] 0 := by
  unfold g151vn at h
  rcases bcases ((List.length ny : Int) != (List.length ty : Int)) with h1 | h1
  · replace h := ifT h1 h
    replace h := Option.some.inj h
    subst h
    exact ⟨CTri.toFin prim_ok mixed Tryz.func151 (by kernel_rfl) 3000 [.no, .no, .no, .no, .no, .no, .bit true] [] [0, 1] [] false (by kernel_rfl) (ObsOk.cons (obBit h1) (ObsOk.cons (obData (dE M.l)) (ObsOk.cons (obData (dI M.args)) (ObsOk.cons (obData (dI M.own)) (ObsOk.cons (obData (dE M.rl)) (ObsOk.cons (obData (dC M.parts)) ObsOk.nil)))))) (by decide), ⟨⟨(show 0 < 2 by decide), trivial, ⟨trivial, dT _⟩, ⟨trivial, dI _⟩, ⟨trivial, dT _⟩, trivial⟩, ⟨trivial, dT _⟩, trivial⟩, (forall_cons ⟨⟨trivial, dE _⟩, (show 1 < 2 by decide), ⟨trivial, dI _⟩, ⟨trivial, dI _⟩, trivial⟩ (forall_cons ⟨⟨trivial, dE _⟩, ⟨trivial, dC _⟩, trivial⟩ forall_nil)), trivial, (forall_cons ⟨dE _, (show 1 < 2 by decide), dI _, dI _, trivial⟩ (forall_cons ⟨dE _, dC _, trivial⟩ forall_nil))⟩
  · replace h := ifF h1 h
    exact ⟨CTri.toHead prim_ok mixed Tryz.func151 (by kernel_rfl) 3000 [.no, .no, .no, .no, .no, .no, .bit false, .no] [] [0, 1, 2] [] [2, 19, 20, 21] (E := fun j => g151vnL0E0 j p1 M cx ny ty 0) (S := g151vnL0S0 p1 M cx ny ty 0) (fun j => by kernel_rfl) (ObsOk.cons (obBit h1) (ObsOk.cons (obData (dE M.l)) (ObsOk.cons (obData (dI M.args)) (ObsOk.cons (obData (dI M.own)) (ObsOk.cons (obData (dE M.rl)) (ObsOk.cons (obData (dC M.parts)) (ObsOk.cons (obData (dT cx)) (ObsOk.cons (obData (dI ny)) (ObsOk.cons (obData (dT ty)) (ObsOk.cons (obData (dT p1)) ObsOk.nil)))))))))) (l151vnL0 h), ⟨⟨(show 0 < 2 by decide), trivial, ⟨trivial, dT _⟩, ⟨trivial, dI _⟩, ⟨trivial, dT _⟩, trivial⟩, ⟨trivial, dT _⟩, trivial⟩, (forall_cons ⟨⟨trivial, dE _⟩, (show 1 < 2 by decide), ⟨trivial, dI _⟩, ⟨trivial, dI _⟩, trivial⟩ (forall_cons ⟨⟨trivial, dE _⟩, ⟨trivial, dC _⟩, trivial⟩ forall_nil)), trivial, (forall_cons ⟨dE _, (show 1 < 2 by decide), dI _, dI _, trivial⟩ (forall_cons ⟨dE _, dC _, trivial⟩ forall_nil))⟩

/- (scholium/infer.World).right -/
def g151vz (p1 : List Tm) (cx : List Tm) (ny : List Int) (ty : List Tm) : Option (Bool) :=
  some false
theorem c151vz {p1 : List Tm} {cx : List Tm} {ny : List Int} {ty : List Tm} {r : Bool} (h : g151vz p1 cx ny ty = some r) : CT Tryz.prog 151 [] [.agg [.val (.pointer none), .val (.pointer none), .sl (flat tmCells cx) (List.length cx) .no, .sl (flat intC ny) (List.length ny) .no, .sl (flat tmCells ty) (List.length ty) .no], .sl (flat tmCells p1) (List.length p1) .no] (ab r) [] 0 := by
  unfold g151vz at h
  replace h := Option.some.inj h
  subst h
  exact ⟨CTri.toFin prim_ok mixed Tryz.func151 (by kernel_rfl) 3000 [.no, .no] [] [] [] false (by kernel_rfl) ObsOk.nil (by decide), ⟨⟨trivial, trivial, ⟨trivial, dT _⟩, ⟨trivial, dI _⟩, ⟨trivial, dT _⟩, trivial⟩, ⟨trivial, dT _⟩, trivial⟩, (fun _ h => nomatch h), trivial, (fun _ h => nomatch h)⟩

/- scholium/infer.start -/
def g87v0 (p1 : List Tm) (M : Mach) (fl : Int) (fu : Int) (cx : List Tm) (ny : List Int) (ty : List Tm) : Option ((Int × List Tm × List Int × List Tm × List Ent) ⊕ (Int)) :=
  (g151v0 p1 M fl fu cx ny ty) >>= fun r1 =>
  if r1 = true then
    (g151v0 cx M fl fu cx ny ty) >>= fun r4 =>
    if r4 = true then
      (g151v0 ty M fl fu cx ny ty) >>= fun r7 =>
      if r7 = true then
        (g20 M) >>= fun r10 =>
        some (Sum.inl (0, cx, ny, ty, r10))
      else
        some (Sum.inr 5)
    else
      some (Sum.inr 5)
  else
    some (Sum.inr 5)
theorem c87v0 {p1 : List Tm} {M : Mach} {fl : Int} {fu : Int} {cx : List Tm} {ny : List Int} {ty : List Tm} {r : (Int × List Tm × List Int × List Tm × List Ent) ⊕ (Int)} (h : g87v0 p1 M fl fu cx ny ty = some r) : (match (generalizing := false) r with | Sum.inl x => CT Tryz.prog 87 [.cells [.sl (flat entL M.l) (List.length M.l) .no, .mp 1 0, .sl (flat intC M.args) (List.length M.args) .no, .sl (flat intC M.own) (List.length M.own) .no], .cells [.sl (flat entL M.rl) (List.length M.rl) .no, .sl (flat conL M.parts) (List.length M.parts) .no], .cells [ai fl, ai fu]] [.agg [.mp 0 0, .mp 2 0, .sl (flat tmCells cx) (List.length cx) .no, .sl (flat intC ny) (List.length ny) .no, .sl (flat tmCells ty) (List.length ty) .no], .sl (flat tmCells p1) (List.length p1) .no] (.tup [.mp 3 0, ai x.1]) [.cells [.sl (flat entL M.l) (List.length M.l) .no, .mp 1 0, .sl (flat intC M.args) (List.length M.args) .no, .sl (flat intC M.own) (List.length M.own) .no], .cells [.sl (flat entL M.rl) (List.length M.rl) .no, .sl (flat conL M.parts) (List.length M.parts) .no], .cells [ai fl, ai fu], .cells [.mp 0 0, .mp 2 0, .sl (flat tmCells x.2.1) (List.length x.2.1) .no, .sl (flat intC x.2.2.1) (List.length x.2.2.1) .no, .sl (flat tmCells x.2.2.2.1) (List.length x.2.2.2.1) .no, .sl (flat entL x.2.2.2.2) (List.length x.2.2.2.2) .no]] 0 | Sum.inr x => CT Tryz.prog 87 [.cells [.sl (flat entL M.l) (List.length M.l) .no, .mp 1 0, .sl (flat intC M.args) (List.length M.args) .no, .sl (flat intC M.own) (List.length M.own) .no], .cells [.sl (flat entL M.rl) (List.length M.rl) .no, .sl (flat conL M.parts) (List.length M.parts) .no], .cells [ai fl, ai fu]] [.agg [.mp 0 0, .mp 2 0, .sl (flat tmCells cx) (List.length cx) .no, .sl (flat intC ny) (List.length ny) .no, .sl (flat tmCells ty) (List.length ty) .no], .sl (flat tmCells p1) (List.length p1) .no] (.tup [.val (.pointer none), ai x]) [.cells [.sl (flat entL M.l) (List.length M.l) .no, .mp 1 0, .sl (flat intC M.args) (List.length M.args) .no, .sl (flat intC M.own) (List.length M.own) .no], .cells [.sl (flat entL M.rl) (List.length M.rl) .no, .sl (flat conL M.parts) (List.length M.parts) .no], .cells [ai fl, ai fu]] 0) := by
  unfold g87v0 at h
  obtain ⟨r1, h2, h⟩ := obind h
  rcases bcases r1 with h3 | h3
  · replace h := ifT h3 h
    obtain ⟨r4, h5, h⟩ := obind h
    rcases bcases r4 with h6 | h6
    · replace h := ifT h6 h
      obtain ⟨r7, h8, h⟩ := obind h
      rcases bcases r7 with h9 | h9
      · replace h := ifT h9 h
        obtain ⟨r10, h11, h⟩ := obind h
        replace h := Option.some.inj h
        subst h
        exact ⟨CTri.toFin prim_ok mixed Tryz.func87 (by kernel_rfl) 3000 [.no, .call [0, 1, 2] [.cells [.sl (flat entL M.l) (List.length M.l) .no, .mp 1 0, .sl (flat intC M.args) (List.length M.args) .no, .sl (flat intC M.own) (List.length M.own) .no], .cells [.sl (flat entL M.rl) (List.length M.rl) .no, .sl (flat conL M.parts) (List.length M.parts) .no], .cells [ai fl, ai fu]] 0 (ab r1) (some true), .no, .no, .no, .call [0, 1, 2] [.cells [.sl (flat entL M.l) (List.length M.l) .no, .mp 1 0, .sl (flat intC M.args) (List.length M.args) .no, .sl (flat intC M.own) (List.length M.own) .no], .cells [.sl (flat entL M.rl) (List.length M.rl) .no, .sl (flat conL M.parts) (List.length M.parts) .no], .cells [ai fl, ai fu]] 0 (ab r4) (some true), .no, .no, .no, .call [0, 1, 2] [.cells [.sl (flat entL M.l) (List.length M.l) .no, .mp 1 0, .sl (flat intC M.args) (List.length M.args) .no, .sl (flat intC M.own) (List.length M.own) .no], .cells [.sl (flat entL M.rl) (List.length M.rl) .no, .sl (flat conL M.parts) (List.length M.parts) .no], .cells [ai fl, ai fu]] 0 (ab r7) (some true), .no, .no, .no, .call [0, 1] [.cells [.sl (flat entL M.l) (List.length M.l) .no, .mp 1 0, .sl (flat intC M.args) (List.length M.args) .no, .sl (flat intC M.own) (List.length M.own) .no], .cells [.sl (flat entL M.rl) (List.length M.rl) .no, .sl (flat conL M.parts) (List.length M.parts) .no]] 0 (.sl (flat entL r10) (List.length r10) .no) none] [] [0, 1, 2, 4] [] false (by kernel_rfl) (ObsOk.cons (obBit h3) (ObsOk.cons (obCall (c151v0 h2)) (ObsOk.cons (obBit h6) (ObsOk.cons (obCall (c151v0 h5)) (ObsOk.cons (obBit h9) (ObsOk.cons (obCall (c151v0 h8)) (ObsOk.cons (obCall (c20 h11)) (ObsOk.cons (obData (dE M.l)) (ObsOk.cons (obData (dI M.args)) (ObsOk.cons (obData (dI M.own)) (ObsOk.cons (obData (dE M.rl)) (ObsOk.cons (obData (dC M.parts)) (ObsOk.cons (obData (dT cx)) (ObsOk.cons (obData (dI ny)) (ObsOk.cons (obData (dT ty)) (ObsOk.cons (obData (dE r10)) ObsOk.nil)))))))))))))))) (by decide), ⟨⟨(show 0 < 3 by decide), (show 2 < 3 by decide), ⟨trivial, dT _⟩, ⟨trivial, dI _⟩, ⟨trivial, dT _⟩, trivial⟩, ⟨trivial, dT _⟩, trivial⟩, (forall_cons ⟨⟨trivial, dE _⟩, (show 1 < 3 by decide), ⟨trivial, dI _⟩, ⟨trivial, dI _⟩, trivial⟩ (forall_cons ⟨⟨trivial, dE _⟩, ⟨trivial, dC _⟩, trivial⟩ (forall_cons ⟨trivial, trivial, trivial⟩ forall_nil))), ⟨(show 3 < 4 by decide), trivial, trivial⟩, (forall_cons ⟨dE _, (show 1 < 4 by decide), dI _, dI _, trivial⟩ (forall_cons ⟨dE _, dC _, trivial⟩ (forall_cons ⟨trivial, trivial, trivial⟩ (forall_cons ⟨(show 0 < 4 by decide), (show 2 < 4 by decide), dT _, dI _, dT _, dE _, trivial⟩ forall_nil))))⟩
      · replace h := ifF h9 h
        replace h := Option.some.inj h
        subst h
        exact ⟨CTri.toFin prim_ok mixed Tryz.func87 (by kernel_rfl) 3000 [.no, .call [0, 1, 2] [.cells [.sl (flat entL M.l) (List.length M.l) .no, .mp 1 0, .sl (flat intC M.args) (List.length M.args) .no, .sl (flat intC M.own) (List.length M.own) .no], .cells [.sl (flat entL M.rl) (List.length M.rl) .no, .sl (flat conL M.parts) (List.length M.parts) .no], .cells [ai fl, ai fu]] 0 (ab r1) (some true), .no, .no, .no, .call [0, 1, 2] [.cells [.sl (flat entL M.l) (List.length M.l) .no, .mp 1 0, .sl (flat intC M.args) (List.length M.args) .no, .sl (flat intC M.own) (List.length M.own) .no], .cells [.sl (flat entL M.rl) (List.length M.rl) .no, .sl (flat conL M.parts) (List.length M.parts) .no], .cells [ai fl, ai fu]] 0 (ab r4) (some true), .no, .no, .no, .call [0, 1, 2] [.cells [.sl (flat entL M.l) (List.length M.l) .no, .mp 1 0, .sl (flat intC M.args) (List.length M.args) .no, .sl (flat intC M.own) (List.length M.own) .no], .cells [.sl (flat entL M.rl) (List.length M.rl) .no, .sl (flat conL M.parts) (List.length M.parts) .no], .cells [ai fl, ai fu]] 0 (ab r7) (some false), .no] [] [0, 1, 2] [] false (by kernel_rfl) (ObsOk.cons (obBit h3) (ObsOk.cons (obCall (c151v0 h2)) (ObsOk.cons (obBit h6) (ObsOk.cons (obCall (c151v0 h5)) (ObsOk.cons (obBit h9) (ObsOk.cons (obCall (c151v0 h8)) (ObsOk.cons (obData (dE M.l)) (ObsOk.cons (obData (dI M.args)) (ObsOk.cons (obData (dI M.own)) (ObsOk.cons (obData (dE M.rl)) (ObsOk.cons (obData (dC M.parts)) ObsOk.nil))))))))))) (by decide), ⟨⟨(show 0 < 3 by decide), (show 2 < 3 by decide), ⟨trivial, dT _⟩, ⟨trivial, dI _⟩, ⟨trivial, dT _⟩, trivial⟩, ⟨trivial, dT _⟩, trivial⟩, (forall_cons ⟨⟨trivial, dE _⟩, (show 1 < 3 by decide), ⟨trivial, dI _⟩, ⟨trivial, dI _⟩, trivial⟩ (forall_cons ⟨⟨trivial, dE _⟩, ⟨trivial, dC _⟩, trivial⟩ (forall_cons ⟨trivial, trivial, trivial⟩ forall_nil))), ⟨trivial, trivial, trivial⟩, (forall_cons ⟨dE _, (show 1 < 3 by decide), dI _, dI _, trivial⟩ (forall_cons ⟨dE _, dC _, trivial⟩ (forall_cons ⟨trivial, trivial, trivial⟩ forall_nil)))⟩
    · replace h := ifF h6 h
      replace h := Option.some.inj h
      subst h
      exact ⟨CTri.toFin prim_ok mixed Tryz.func87 (by kernel_rfl) 3000 [.no, .call [0, 1, 2] [.cells [.sl (flat entL M.l) (List.length M.l) .no, .mp 1 0, .sl (flat intC M.args) (List.length M.args) .no, .sl (flat intC M.own) (List.length M.own) .no], .cells [.sl (flat entL M.rl) (List.length M.rl) .no, .sl (flat conL M.parts) (List.length M.parts) .no], .cells [ai fl, ai fu]] 0 (ab r1) (some true), .no, .no, .no, .call [0, 1, 2] [.cells [.sl (flat entL M.l) (List.length M.l) .no, .mp 1 0, .sl (flat intC M.args) (List.length M.args) .no, .sl (flat intC M.own) (List.length M.own) .no], .cells [.sl (flat entL M.rl) (List.length M.rl) .no, .sl (flat conL M.parts) (List.length M.parts) .no], .cells [ai fl, ai fu]] 0 (ab r4) (some false), .no] [] [0, 1, 2] [] false (by kernel_rfl) (ObsOk.cons (obBit h3) (ObsOk.cons (obCall (c151v0 h2)) (ObsOk.cons (obBit h6) (ObsOk.cons (obCall (c151v0 h5)) (ObsOk.cons (obData (dE M.l)) (ObsOk.cons (obData (dI M.args)) (ObsOk.cons (obData (dI M.own)) (ObsOk.cons (obData (dE M.rl)) (ObsOk.cons (obData (dC M.parts)) ObsOk.nil))))))))) (by decide), ⟨⟨(show 0 < 3 by decide), (show 2 < 3 by decide), ⟨trivial, dT _⟩, ⟨trivial, dI _⟩, ⟨trivial, dT _⟩, trivial⟩, ⟨trivial, dT _⟩, trivial⟩, (forall_cons ⟨⟨trivial, dE _⟩, (show 1 < 3 by decide), ⟨trivial, dI _⟩, ⟨trivial, dI _⟩, trivial⟩ (forall_cons ⟨⟨trivial, dE _⟩, ⟨trivial, dC _⟩, trivial⟩ (forall_cons ⟨trivial, trivial, trivial⟩ forall_nil))), ⟨trivial, trivial, trivial⟩, (forall_cons ⟨dE _, (show 1 < 3 by decide), dI _, dI _, trivial⟩ (forall_cons ⟨dE _, dC _, trivial⟩ (forall_cons ⟨trivial, trivial, trivial⟩ forall_nil)))⟩
  · replace h := ifF h3 h
    replace h := Option.some.inj h
    subst h
    exact ⟨CTri.toFin prim_ok mixed Tryz.func87 (by kernel_rfl) 3000 [.no, .call [0, 1, 2] [.cells [.sl (flat entL M.l) (List.length M.l) .no, .mp 1 0, .sl (flat intC M.args) (List.length M.args) .no, .sl (flat intC M.own) (List.length M.own) .no], .cells [.sl (flat entL M.rl) (List.length M.rl) .no, .sl (flat conL M.parts) (List.length M.parts) .no], .cells [ai fl, ai fu]] 0 (ab r1) (some false), .no] [] [0, 1, 2] [] false (by kernel_rfl) (ObsOk.cons (obBit h3) (ObsOk.cons (obCall (c151v0 h2)) (ObsOk.cons (obData (dE M.l)) (ObsOk.cons (obData (dI M.args)) (ObsOk.cons (obData (dI M.own)) (ObsOk.cons (obData (dE M.rl)) (ObsOk.cons (obData (dC M.parts)) ObsOk.nil))))))) (by decide), ⟨⟨(show 0 < 3 by decide), (show 2 < 3 by decide), ⟨trivial, dT _⟩, ⟨trivial, dI _⟩, ⟨trivial, dT _⟩, trivial⟩, ⟨trivial, dT _⟩, trivial⟩, (forall_cons ⟨⟨trivial, dE _⟩, (show 1 < 3 by decide), ⟨trivial, dI _⟩, ⟨trivial, dI _⟩, trivial⟩ (forall_cons ⟨⟨trivial, dE _⟩, ⟨trivial, dC _⟩, trivial⟩ (forall_cons ⟨trivial, trivial, trivial⟩ forall_nil))), ⟨trivial, trivial, trivial⟩, (forall_cons ⟨dE _, (show 1 < 3 by decide), dI _, dI _, trivial⟩ (forall_cons ⟨dE _, dC _, trivial⟩ (forall_cons ⟨trivial, trivial, trivial⟩ forall_nil)))⟩

/- scholium/infer.start -/
def g87vn (p1 : List Tm) (M : Mach) (cx : List Tm) (ny : List Int) (ty : List Tm) : Option ((Int × List Tm × List Int × List Tm × List Ent) ⊕ (Int)) :=
  (g151vn p1 M cx ny ty) >>= fun r1 =>
  if r1 = true then
    (g151vn cx M cx ny ty) >>= fun r4 =>
    if r4 = true then
      (g151vn ty M cx ny ty) >>= fun r7 =>
      if r7 = true then
        (g20 M) >>= fun r10 =>
        some (Sum.inl (0, cx, ny, ty, r10))
      else
        some (Sum.inr 5)
    else
      some (Sum.inr 5)
  else
    some (Sum.inr 5)
theorem c87vn {p1 : List Tm} {M : Mach} {cx : List Tm} {ny : List Int} {ty : List Tm} {r : (Int × List Tm × List Int × List Tm × List Ent) ⊕ (Int)} (h : g87vn p1 M cx ny ty = some r) : (match (generalizing := false) r with | Sum.inl x => CT Tryz.prog 87 [.cells [.sl (flat entL M.l) (List.length M.l) .no, .mp 1 0, .sl (flat intC M.args) (List.length M.args) .no, .sl (flat intC M.own) (List.length M.own) .no], .cells [.sl (flat entL M.rl) (List.length M.rl) .no, .sl (flat conL M.parts) (List.length M.parts) .no]] [.agg [.mp 0 0, .val (.pointer none), .sl (flat tmCells cx) (List.length cx) .no, .sl (flat intC ny) (List.length ny) .no, .sl (flat tmCells ty) (List.length ty) .no], .sl (flat tmCells p1) (List.length p1) .no] (.tup [.mp 2 0, ai x.1]) [.cells [.sl (flat entL M.l) (List.length M.l) .no, .mp 1 0, .sl (flat intC M.args) (List.length M.args) .no, .sl (flat intC M.own) (List.length M.own) .no], .cells [.sl (flat entL M.rl) (List.length M.rl) .no, .sl (flat conL M.parts) (List.length M.parts) .no], .cells [.mp 0 0, .val (.pointer none), .sl (flat tmCells x.2.1) (List.length x.2.1) .no, .sl (flat intC x.2.2.1) (List.length x.2.2.1) .no, .sl (flat tmCells x.2.2.2.1) (List.length x.2.2.2.1) .no, .sl (flat entL x.2.2.2.2) (List.length x.2.2.2.2) .no]] 0 | Sum.inr x => CT Tryz.prog 87 [.cells [.sl (flat entL M.l) (List.length M.l) .no, .mp 1 0, .sl (flat intC M.args) (List.length M.args) .no, .sl (flat intC M.own) (List.length M.own) .no], .cells [.sl (flat entL M.rl) (List.length M.rl) .no, .sl (flat conL M.parts) (List.length M.parts) .no]] [.agg [.mp 0 0, .val (.pointer none), .sl (flat tmCells cx) (List.length cx) .no, .sl (flat intC ny) (List.length ny) .no, .sl (flat tmCells ty) (List.length ty) .no], .sl (flat tmCells p1) (List.length p1) .no] (.tup [.val (.pointer none), ai x]) [.cells [.sl (flat entL M.l) (List.length M.l) .no, .mp 1 0, .sl (flat intC M.args) (List.length M.args) .no, .sl (flat intC M.own) (List.length M.own) .no], .cells [.sl (flat entL M.rl) (List.length M.rl) .no, .sl (flat conL M.parts) (List.length M.parts) .no]] 0) := by
  unfold g87vn at h
  obtain ⟨r1, h2, h⟩ := obind h
  rcases bcases r1 with h3 | h3
  · replace h := ifT h3 h
    obtain ⟨r4, h5, h⟩ := obind h
    rcases bcases r4 with h6 | h6
    · replace h := ifT h6 h
      obtain ⟨r7, h8, h⟩ := obind h
      rcases bcases r7 with h9 | h9
      · replace h := ifT h9 h
        obtain ⟨r10, h11, h⟩ := obind h
        replace h := Option.some.inj h
        subst h
        exact ⟨CTri.toFin prim_ok mixed Tryz.func87 (by kernel_rfl) 3000 [.no, .call [0, 1] [.cells [.sl (flat entL M.l) (List.length M.l) .no, .mp 1 0, .sl (flat intC M.args) (List.length M.args) .no, .sl (flat intC M.own) (List.length M.own) .no], .cells [.sl (flat entL M.rl) (List.length M.rl) .no, .sl (flat conL M.parts) (List.length M.parts) .no]] 0 (ab r1) (some true), .no, .no, .no, .call [0, 1] [.cells [.sl (flat entL M.l) (List.length M.l) .no, .mp 1 0, .sl (flat intC M.args) (List.length M.args) .no, .sl (flat intC M.own) (List.length M.own) .no], .cells [.sl (flat entL M.rl) (List.length M.rl) .no, .sl (flat conL M.parts) (List.length M.parts) .no]] 0 (ab r4) (some true), .no, .no, .no, .call [0, 1] [.cells [.sl (flat entL M.l) (List.length M.l) .no, .mp 1 0, .sl (flat intC M.args) (List.length M.args) .no, .sl (flat intC M.own) (List.length M.own) .no], .cells [.sl (flat entL M.rl) (List.length M.rl) .no, .sl (flat conL M.parts) (List.length M.parts) .no]] 0 (ab r7) (some true), .no, .no, .no, .call [0, 1] [.cells [.sl (flat entL M.l) (List.length M.l) .no, .mp 1 0, .sl (flat intC M.args) (List.length M.args) .no, .sl (flat intC M.own) (List.length M.own) .no], .cells [.sl (flat entL M.rl) (List.length M.rl) .no, .sl (flat conL M.parts) (List.length M.parts) .no]] 0 (.sl (flat entL r10) (List.length r10) .no) none] [] [0, 1, 3] [] false (by kernel_rfl) (ObsOk.cons (obBit h3) (ObsOk.cons (obCall (c151vn h2)) (ObsOk.cons (obBit h6) (ObsOk.cons (obCall (c151vn h5)) (ObsOk.cons (obBit h9) (ObsOk.cons (obCall (c151vn h8)) (ObsOk.cons (obCall (c20 h11)) (ObsOk.cons (obData (dE M.l)) (ObsOk.cons (obData (dI M.args)) (ObsOk.cons (obData (dI M.own)) (ObsOk.cons (obData (dE M.rl)) (ObsOk.cons (obData (dC M.parts)) (ObsOk.cons (obData (dT cx)) (ObsOk.cons (obData (dI ny)) (ObsOk.cons (obData (dT ty)) (ObsOk.cons (obData (dE r10)) ObsOk.nil)))))))))))))))) (by decide), ⟨⟨(show 0 < 2 by decide), trivial, ⟨trivial, dT _⟩, ⟨trivial, dI _⟩, ⟨trivial, dT _⟩, trivial⟩, ⟨trivial, dT _⟩, trivial⟩, (forall_cons ⟨⟨trivial, dE _⟩, (show 1 < 2 by decide), ⟨trivial, dI _⟩, ⟨trivial, dI _⟩, trivial⟩ (forall_cons ⟨⟨trivial, dE _⟩, ⟨trivial, dC _⟩, trivial⟩ forall_nil)), ⟨(show 2 < 3 by decide), trivial, trivial⟩, (forall_cons ⟨dE _, (show 1 < 3 by decide), dI _, dI _, trivial⟩ (forall_cons ⟨dE _, dC _, trivial⟩ (forall_cons ⟨(show 0 < 3 by decide), trivial, dT _, dI _, dT _, dE _, trivial⟩ forall_nil)))⟩
      · replace h := ifF h9 h
        replace h := Option.some.inj h
        subst h
        exact ⟨CTri.toFin prim_ok mixed Tryz.func87 (by kernel_rfl) 3000 [.no, .call [0, 1] [.cells [.sl (flat entL M.l) (List.length M.l) .no, .mp 1 0, .sl (flat intC M.args) (List.length M.args) .no, .sl (flat intC M.own) (List.length M.own) .no], .cells [.sl (flat entL M.rl) (List.length M.rl) .no, .sl (flat conL M.parts) (List.length M.parts) .no]] 0 (ab r1) (some true), .no, .no, .no, .call [0, 1] [.cells [.sl (flat entL M.l) (List.length M.l) .no, .mp 1 0, .sl (flat intC M.args) (List.length M.args) .no, .sl (flat intC M.own) (List.length M.own) .no], .cells [.sl (flat entL M.rl) (List.length M.rl) .no, .sl (flat conL M.parts) (List.length M.parts) .no]] 0 (ab r4) (some true), .no, .no, .no, .call [0, 1] [.cells [.sl (flat entL M.l) (List.length M.l) .no, .mp 1 0, .sl (flat intC M.args) (List.length M.args) .no, .sl (flat intC M.own) (List.length M.own) .no], .cells [.sl (flat entL M.rl) (List.length M.rl) .no, .sl (flat conL M.parts) (List.length M.parts) .no]] 0 (ab r7) (some false), .no] [] [0, 1] [] false (by kernel_rfl) (ObsOk.cons (obBit h3) (ObsOk.cons (obCall (c151vn h2)) (ObsOk.cons (obBit h6) (ObsOk.cons (obCall (c151vn h5)) (ObsOk.cons (obBit h9) (ObsOk.cons (obCall (c151vn h8)) (ObsOk.cons (obData (dE M.l)) (ObsOk.cons (obData (dI M.args)) (ObsOk.cons (obData (dI M.own)) (ObsOk.cons (obData (dE M.rl)) (ObsOk.cons (obData (dC M.parts)) ObsOk.nil))))))))))) (by decide), ⟨⟨(show 0 < 2 by decide), trivial, ⟨trivial, dT _⟩, ⟨trivial, dI _⟩, ⟨trivial, dT _⟩, trivial⟩, ⟨trivial, dT _⟩, trivial⟩, (forall_cons ⟨⟨trivial, dE _⟩, (show 1 < 2 by decide), ⟨trivial, dI _⟩, ⟨trivial, dI _⟩, trivial⟩ (forall_cons ⟨⟨trivial, dE _⟩, ⟨trivial, dC _⟩, trivial⟩ forall_nil)), ⟨trivial, trivial, trivial⟩, (forall_cons ⟨dE _, (show 1 < 2 by decide), dI _, dI _, trivial⟩ (forall_cons ⟨dE _, dC _, trivial⟩ forall_nil))⟩
    · replace h := ifF h6 h
      replace h := Option.some.inj h
      subst h
      exact ⟨CTri.toFin prim_ok mixed Tryz.func87 (by kernel_rfl) 3000 [.no, .call [0, 1] [.cells [.sl (flat entL M.l) (List.length M.l) .no, .mp 1 0, .sl (flat intC M.args) (List.length M.args) .no, .sl (flat intC M.own) (List.length M.own) .no], .cells [.sl (flat entL M.rl) (List.length M.rl) .no, .sl (flat conL M.parts) (List.length M.parts) .no]] 0 (ab r1) (some true), .no, .no, .no, .call [0, 1] [.cells [.sl (flat entL M.l) (List.length M.l) .no, .mp 1 0, .sl (flat intC M.args) (List.length M.args) .no, .sl (flat intC M.own) (List.length M.own) .no], .cells [.sl (flat entL M.rl) (List.length M.rl) .no, .sl (flat conL M.parts) (List.length M.parts) .no]] 0 (ab r4) (some false), .no] [] [0, 1] [] false (by kernel_rfl) (ObsOk.cons (obBit h3) (ObsOk.cons (obCall (c151vn h2)) (ObsOk.cons (obBit h6) (ObsOk.cons (obCall (c151vn h5)) (ObsOk.cons (obData (dE M.l)) (ObsOk.cons (obData (dI M.args)) (ObsOk.cons (obData (dI M.own)) (ObsOk.cons (obData (dE M.rl)) (ObsOk.cons (obData (dC M.parts)) ObsOk.nil))))))))) (by decide), ⟨⟨(show 0 < 2 by decide), trivial, ⟨trivial, dT _⟩, ⟨trivial, dI _⟩, ⟨trivial, dT _⟩, trivial⟩, ⟨trivial, dT _⟩, trivial⟩, (forall_cons ⟨⟨trivial, dE _⟩, (show 1 < 2 by decide), ⟨trivial, dI _⟩, ⟨trivial, dI _⟩, trivial⟩ (forall_cons ⟨⟨trivial, dE _⟩, ⟨trivial, dC _⟩, trivial⟩ forall_nil)), ⟨trivial, trivial, trivial⟩, (forall_cons ⟨dE _, (show 1 < 2 by decide), dI _, dI _, trivial⟩ (forall_cons ⟨dE _, dC _, trivial⟩ forall_nil))⟩
  · replace h := ifF h3 h
    replace h := Option.some.inj h
    subst h
    exact ⟨CTri.toFin prim_ok mixed Tryz.func87 (by kernel_rfl) 3000 [.no, .call [0, 1] [.cells [.sl (flat entL M.l) (List.length M.l) .no, .mp 1 0, .sl (flat intC M.args) (List.length M.args) .no, .sl (flat intC M.own) (List.length M.own) .no], .cells [.sl (flat entL M.rl) (List.length M.rl) .no, .sl (flat conL M.parts) (List.length M.parts) .no]] 0 (ab r1) (some false), .no] [] [0, 1] [] false (by kernel_rfl) (ObsOk.cons (obBit h3) (ObsOk.cons (obCall (c151vn h2)) (ObsOk.cons (obData (dE M.l)) (ObsOk.cons (obData (dI M.args)) (ObsOk.cons (obData (dI M.own)) (ObsOk.cons (obData (dE M.rl)) (ObsOk.cons (obData (dC M.parts)) ObsOk.nil))))))) (by decide), ⟨⟨(show 0 < 2 by decide), trivial, ⟨trivial, dT _⟩, ⟨trivial, dI _⟩, ⟨trivial, dT _⟩, trivial⟩, ⟨trivial, dT _⟩, trivial⟩, (forall_cons ⟨⟨trivial, dE _⟩, (show 1 < 2 by decide), ⟨trivial, dI _⟩, ⟨trivial, dI _⟩, trivial⟩ (forall_cons ⟨⟨trivial, dE _⟩, ⟨trivial, dC _⟩, trivial⟩ forall_nil)), ⟨trivial, trivial, trivial⟩, (forall_cons ⟨dE _, (show 1 < 2 by decide), dI _, dI _, trivial⟩ (forall_cons ⟨dE _, dC _, trivial⟩ forall_nil))⟩

/- scholium/infer.start -/
def g87vz (p1 : List Tm) (cx : List Tm) (ny : List Int) (ty : List Tm) : Option (Int) :=
  (g151vz p1 cx ny ty) >>= fun r1 =>
  if r1 = true then
    (g151vz cx cx ny ty) >>= fun r4 =>
    if r4 = true then
      (g151vz ty cx ny ty) >>= fun r7 =>
      if r7 = true then
        none
      else
        some 5
    else
      some 5
  else
    some 5
theorem c87vz {p1 : List Tm} {cx : List Tm} {ny : List Int} {ty : List Tm} {r : Int} (h : g87vz p1 cx ny ty = some r) : CT Tryz.prog 87 [] [.agg [.val (.pointer none), .val (.pointer none), .sl (flat tmCells cx) (List.length cx) .no, .sl (flat intC ny) (List.length ny) .no, .sl (flat tmCells ty) (List.length ty) .no], .sl (flat tmCells p1) (List.length p1) .no] (.tup [.val (.pointer none), ai r]) [] 0 := by
  unfold g87vz at h
  obtain ⟨r1, h2, h⟩ := obind h
  rcases bcases r1 with h3 | h3
  · replace h := ifT h3 h
    obtain ⟨r4, h5, h⟩ := obind h
    rcases bcases r4 with h6 | h6
    · replace h := ifT h6 h
      obtain ⟨r7, h8, h⟩ := obind h
      rcases bcases r7 with h9 | h9
      · replace h := ifT h9 h
        cases h
      · replace h := ifF h9 h
        replace h := Option.some.inj h
        subst h
        exact ⟨CTri.toFin prim_ok mixed Tryz.func87 (by kernel_rfl) 3000 [.no, .call [] [] 0 (ab r1) (some true), .no, .no, .no, .call [] [] 0 (ab r4) (some true), .no, .no, .no, .call [] [] 0 (ab r7) (some false), .no] [] [] [] false (by kernel_rfl) (ObsOk.cons (obBit h3) (ObsOk.cons (obCall (c151vz h2)) (ObsOk.cons (obBit h6) (ObsOk.cons (obCall (c151vz h5)) (ObsOk.cons (obBit h9) (ObsOk.cons (obCall (c151vz h8)) ObsOk.nil)))))) (by decide), ⟨⟨trivial, trivial, ⟨trivial, dT _⟩, ⟨trivial, dI _⟩, ⟨trivial, dT _⟩, trivial⟩, ⟨trivial, dT _⟩, trivial⟩, (fun _ h => nomatch h), ⟨trivial, trivial, trivial⟩, (fun _ h => nomatch h)⟩
    · replace h := ifF h6 h
      replace h := Option.some.inj h
      subst h
      exact ⟨CTri.toFin prim_ok mixed Tryz.func87 (by kernel_rfl) 3000 [.no, .call [] [] 0 (ab r1) (some true), .no, .no, .no, .call [] [] 0 (ab r4) (some false), .no] [] [] [] false (by kernel_rfl) (ObsOk.cons (obBit h3) (ObsOk.cons (obCall (c151vz h2)) (ObsOk.cons (obBit h6) (ObsOk.cons (obCall (c151vz h5)) ObsOk.nil)))) (by decide), ⟨⟨trivial, trivial, ⟨trivial, dT _⟩, ⟨trivial, dI _⟩, ⟨trivial, dT _⟩, trivial⟩, ⟨trivial, dT _⟩, trivial⟩, (fun _ h => nomatch h), ⟨trivial, trivial, trivial⟩, (fun _ h => nomatch h)⟩
  · replace h := ifF h3 h
    replace h := Option.some.inj h
    subst h
    exact ⟨CTri.toFin prim_ok mixed Tryz.func87 (by kernel_rfl) 3000 [.no, .call [] [] 0 (ab r1) (some false), .no] [] [] [] false (by kernel_rfl) (ObsOk.cons (obBit h3) (ObsOk.cons (obCall (c151vz h2)) ObsOk.nil)) (by decide), ⟨⟨trivial, trivial, ⟨trivial, dT _⟩, ⟨trivial, dI _⟩, ⟨trivial, dT _⟩, trivial⟩, ⟨trivial, dT _⟩, trivial⟩, (fun _ h => nomatch h), ⟨trivial, trivial, trivial⟩, (fun _ h => nomatch h)⟩

/- scholium/term.node -/
def g203 (p0 : Int) (p1 : Int) (p2 : List Tm) : Option (Tm) :=
  some (Tm.mk p0 p1 p2)
theorem c203 {p0 : Int} {p1 : Int} {p2 : List Tm} {r : Tm} (h : g203 p0 p1 p2 = some r) : CT Tryz.prog 203 [] [ai p0, ai p1, .sl (flat tmCells p2) (List.length p2) .no] (tmA r) [] 0 := by
  unfold g203 at h
  replace h := Option.some.inj h
  subst h
  exact ⟨CTri.toFin prim_ok mixed Tryz.func203 (by kernel_rfl) 3000 [.no] [] [] [] false (by kernel_rfl) (ObsOk.cons (obData (dT p2)) ObsOk.nil) (by decide), ⟨trivial, trivial, ⟨trivial, dT _⟩, trivial⟩, (fun _ h => nomatch h), ⟨trivial, trivial, dT _, trivial⟩, (fun _ h => nomatch h)⟩

/- scholium/term.Sort -/
def g154 (p0 : Int) : Option (Tm) :=
  (g203 2 p0 []) >>= fun r1 =>
  some r1
theorem c154 {p0 : Int} {r : Tm} (h : g154 p0 = some r) : CT Tryz.prog 154 [] [ai p0] (tmA r) [] 0 := by
  unfold g154 at h
  obtain ⟨r1, h2, h⟩ := obind h
  replace h := Option.some.inj h
  subst h
  exact ⟨CTri.toFin prim_ok mixed Tryz.func154 (by kernel_rfl) 3000 [.call [] [] 0 (tmA r1) none, .no] [] [] [] false (by kernel_rfl) (ObsOk.cons (obCall (c203 h2)) (ObsOk.cons (obData (dT r1.sub)) ObsOk.nil)) (by decide), ⟨trivial, trivial⟩, (fun _ h => nomatch h), ⟨trivial, trivial, dT _, trivial⟩, (fun _ h => nomatch h)⟩

/- scholium/iota.Type -/
def g103 (p0 : List Ent) (p1 : Int) (p2 : Int) : Option (Tm × Int) :=
  none
theorem c103 {p0 : List Ent} {p1 : Int} {p2 : Int} {r : Tm × Int} (h : g103 p0 p1 p2 = some r) : CT Tryz.prog 103 [] [.sl (flat entL p0) (List.length p0) .no, ai p1, ai p2] (.tup [tmA r.1, ai r.2]) [] 0 := by
  unfold g103 at h
  cases h

/- (*scholium/infer.typer).variable -/
def g152v0 (p1 : Int) (M : Mach) (fl : Int) (fu : Int) (yl : List Ent) (cx : List Tm) (ny : List Int) (ty : List Tm) : Option (Tm × Int) :=
  none
theorem c152v0 {p1 : Int} {M : Mach} {fl : Int} {fu : Int} {yl : List Ent} {cx : List Tm} {ny : List Int} {ty : List Tm} {r : Tm × Int} (h : g152v0 p1 M fl fu yl cx ny ty = some r) : CT Tryz.prog 152 [.cells [.mp 1 0, .mp 3 0, .sl (flat tmCells cx) (List.length cx) .no, .sl (flat intC ny) (List.length ny) .no, .sl (flat tmCells ty) (List.length ty) .no, .sl (flat entL yl) (List.length yl) .no], .cells [.sl (flat entL M.l) (List.length M.l) .no, .mp 2 0, .sl (flat intC M.args) (List.length M.args) .no, .sl (flat intC M.own) (List.length M.own) .no], .cells [.sl (flat entL M.rl) (List.length M.rl) .no, .sl (flat conL M.parts) (List.length M.parts) .no], .cells [ai fl, ai fu]] [.mp 0 0, ai p1] (.tup [tmA r.1, ai r.2]) [.cells [.mp 1 0, .mp 3 0, .sl (flat tmCells cx) (List.length cx) .no, .sl (flat intC ny) (List.length ny) .no, .sl (flat tmCells ty) (List.length ty) .no, .sl (flat entL yl) (List.length yl) .no], .cells [.sl (flat entL M.l) (List.length M.l) .no, .mp 2 0, .sl (flat intC M.args) (List.length M.args) .no, .sl (flat intC M.own) (List.length M.own) .no], .cells [.sl (flat entL M.rl) (List.length M.rl) .no, .sl (flat conL M.parts) (List.length M.parts) .no], .cells [ai fl, ai fu]] 0 := by
  unfold g152v0 at h
  cases h

/- (*scholium/infer.typer).variable -/
def g152vn (p1 : Int) (M : Mach) (yl : List Ent) (cx : List Tm) (ny : List Int) (ty : List Tm) : Option (Tm × Int) :=
  none
theorem c152vn {p1 : Int} {M : Mach} {yl : List Ent} {cx : List Tm} {ny : List Int} {ty : List Tm} {r : Tm × Int} (h : g152vn p1 M yl cx ny ty = some r) : CT Tryz.prog 152 [.cells [.mp 1 0, .val (.pointer none), .sl (flat tmCells cx) (List.length cx) .no, .sl (flat intC ny) (List.length ny) .no, .sl (flat tmCells ty) (List.length ty) .no, .sl (flat entL yl) (List.length yl) .no], .cells [.sl (flat entL M.l) (List.length M.l) .no, .mp 2 0, .sl (flat intC M.args) (List.length M.args) .no, .sl (flat intC M.own) (List.length M.own) .no], .cells [.sl (flat entL M.rl) (List.length M.rl) .no, .sl (flat conL M.parts) (List.length M.parts) .no]] [.mp 0 0, ai p1] (.tup [tmA r.1, ai r.2]) [.cells [.mp 1 0, .val (.pointer none), .sl (flat tmCells cx) (List.length cx) .no, .sl (flat intC ny) (List.length ny) .no, .sl (flat tmCells ty) (List.length ty) .no, .sl (flat entL yl) (List.length yl) .no], .cells [.sl (flat entL M.l) (List.length M.l) .no, .mp 2 0, .sl (flat intC M.args) (List.length M.args) .no, .sl (flat intC M.own) (List.length M.own) .no], .cells [.sl (flat entL M.rl) (List.length M.rl) .no, .sl (flat conL M.parts) (List.length M.parts) .no]] 0 := by
  unfold g152vn at h
  cases h

/- (*scholium/infer.typer).named -/
def g153v0 (p1 : Int) (M : Mach) (fl : Int) (fu : Int) (yl : List Ent) (cx : List Tm) (ny : List Int) (ty : List Tm) : Option (Tm × Int) :=
  none
theorem c153v0 {p1 : Int} {M : Mach} {fl : Int} {fu : Int} {yl : List Ent} {cx : List Tm} {ny : List Int} {ty : List Tm} {r : Tm × Int} (h : g153v0 p1 M fl fu yl cx ny ty = some r) : CT Tryz.prog 153 [.cells [.mp 1 0, .mp 3 0, .sl (flat tmCells cx) (List.length cx) .no, .sl (flat intC ny) (List.length ny) .no, .sl (flat tmCells ty) (List.length ty) .no, .sl (flat entL yl) (List.length yl) .no], .cells [.sl (flat entL M.l) (List.length M.l) .no, .mp 2 0, .sl (flat intC M.args) (List.length M.args) .no, .sl (flat intC M.own) (List.length M.own) .no], .cells [.sl (flat entL M.rl) (List.length M.rl) .no, .sl (flat conL M.parts) (List.length M.parts) .no], .cells [ai fl, ai fu]] [.mp 0 0, ai p1] (.tup [tmA r.1, ai r.2]) [.cells [.mp 1 0, .mp 3 0, .sl (flat tmCells cx) (List.length cx) .no, .sl (flat intC ny) (List.length ny) .no, .sl (flat tmCells ty) (List.length ty) .no, .sl (flat entL yl) (List.length yl) .no], .cells [.sl (flat entL M.l) (List.length M.l) .no, .mp 2 0, .sl (flat intC M.args) (List.length M.args) .no, .sl (flat intC M.own) (List.length M.own) .no], .cells [.sl (flat entL M.rl) (List.length M.rl) .no, .sl (flat conL M.parts) (List.length M.parts) .no], .cells [ai fl, ai fu]] 0 := by
  unfold g153v0 at h
  cases h

/- (*scholium/infer.typer).named -/
def g153vn (p1 : Int) (M : Mach) (yl : List Ent) (cx : List Tm) (ny : List Int) (ty : List Tm) : Option (Tm × Int) :=
  none
theorem c153vn {p1 : Int} {M : Mach} {yl : List Ent} {cx : List Tm} {ny : List Int} {ty : List Tm} {r : Tm × Int} (h : g153vn p1 M yl cx ny ty = some r) : CT Tryz.prog 153 [.cells [.mp 1 0, .val (.pointer none), .sl (flat tmCells cx) (List.length cx) .no, .sl (flat intC ny) (List.length ny) .no, .sl (flat tmCells ty) (List.length ty) .no, .sl (flat entL yl) (List.length yl) .no], .cells [.sl (flat entL M.l) (List.length M.l) .no, .mp 2 0, .sl (flat intC M.args) (List.length M.args) .no, .sl (flat intC M.own) (List.length M.own) .no], .cells [.sl (flat entL M.rl) (List.length M.rl) .no, .sl (flat conL M.parts) (List.length M.parts) .no]] [.mp 0 0, ai p1] (.tup [tmA r.1, ai r.2]) [.cells [.mp 1 0, .val (.pointer none), .sl (flat tmCells cx) (List.length cx) .no, .sl (flat intC ny) (List.length ny) .no, .sl (flat tmCells ty) (List.length ty) .no, .sl (flat entL yl) (List.length yl) .no], .cells [.sl (flat entL M.l) (List.length M.l) .no, .mp 2 0, .sl (flat intC M.args) (List.length M.args) .no, .sl (flat intC M.own) (List.length M.own) .no], .cells [.sl (flat entL M.rl) (List.length M.rl) .no, .sl (flat conL M.parts) (List.length M.parts) .no]] 0 := by
  unfold g153vn at h
  cases h

/- (*scholium/meter.Meter).Spend -/
def g193vn (p1 : Int) : Option (Int) :=
  some 8
theorem c193vn {p1 : Int} {r : Int} (h : g193vn p1 = some r) : CT Tryz.prog 193 [] [.val (.pointer none), ai p1] (ai r) [] 0 := by
  unfold g193vn at h
  replace h := Option.some.inj h
  subst h
  exact ⟨CTri.toFin prim_ok mixed Tryz.func193 (by kernel_rfl) 3000 [.no] [] [] [] false (by kernel_rfl) ObsOk.nil (by decide), ⟨trivial, trivial, trivial⟩, (fun _ h => nomatch h), trivial, (fun _ h => nomatch h)⟩

end Go.Proofs.YtkeipljdhcbfoaaGreat
