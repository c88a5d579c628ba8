/- What the functions come to: printed by wip/tools/gen.py. -/
import Derived.Test.YtkeipljdhcbfoaaGreatAbQ2
set_option linter.unusedVariables false
set_option linter.unusedSimpArgs false
namespace Go.Proofs.YtkeipljdhcbfoaaGreat
open Go Go.Ab

/- (*scholium/meter.Meter).Step -/
def g141vn  : Option (Int) :=
  (g193vn 1) >>= fun r1 =>
  some r1
theorem c141vn  {r : Int} (h : g141vn  = some r) : CT Tryz.prog 141 [] [.val (.pointer none)] (ai r) [] 0 := by
  unfold g141vn at h
  obtain ⟨r1, h2, h⟩ := obind h
  replace h := Option.some.inj h
  subst h
  exact ⟨CTri.toFin prim_ok mixed Tryz.func141 (by kernel_rfl) 3000 [.call [] [] 0 (ai r1) none] [] [] [] false (by kernel_rfl) (ObsOk.cons (obCall (c193vn h2)) ObsOk.nil) (by decide), ⟨trivial, trivial⟩, (fun _ h => nomatch h), trivial, (fun _ h => nomatch h)⟩

/- (*scholium/infer.typer).infer -/
/- (*scholium/infer.typer).universe -/
/- (*scholium/infer.typer).check -/
/- (*scholium/infer.typer).pi -/
/- (*scholium/infer.typer).lam -/
/- (*scholium/infer.typer).app -/
/- (*scholium/infer.typer).function -/
def g155 (p1 : Tm) (M : Mach) (fl : Int) (fu : Int) (yl : List Ent) (cx : List Tm) (ny : List Int) (ty : List Tm) : Option (Tm × Int × Int × Int) :=
  none
def g156 (p1 : Tm) (M : Mach) (fl : Int) (fu : Int) (yl : List Ent) (cx : List Tm) (ny : List Int) (ty : List Tm) : Option (Tm × Int × Int × Int) :=
  none
def g157 (p1 : Tm) (M : Mach) (fl : Int) (fu : Int) (yl : List Ent) (cx : List Tm) (ny : List Int) (ty : List Tm) : Option (Tm × Int × Int × Int) :=
  none
def g88 (p1 : Tm) (M : Mach) (fl : Int) (fu : Int) (yl : List Ent) (cx : List Tm) (ny : List Int) (ty : List Tm) : Option (Tm × Int × Int × Int) :=
  if (p1.k == 1) = true then
    (g152v0 p1.n M fl fu yl cx ny ty) >>= fun r2 =>
    some (r2.1, r2.2, fl, fu)
  else
    if (p1.k == 8) = true then
      (g153v0 p1.n M fl fu yl cx ny ty) >>= fun r5 =>
      some (r5.1, r5.2, fl, fu)
    else
      if (p1.k == 6) = true then
        (gidx yl p1.n) >>= fun x8 =>
        some (x8.type, 0, fl, fu)
      else
        if (p1.k == 7) = true then
          (gidx p1.sub 0) >>= fun x11 =>
          (g103 yl p1.n x11.n) >>= fun r13 =>
          some (r13.1, r13.2, fl, fu)
        else
          if (p1.k == 2) = true then
            if decide (p1.n ≥ 7) = true then
              some ((Tm.mk 0 0 []), 7, fl, fu)
            else
              (g154 (w64 (p1.n + 1))) >>= fun r17 =>
              some (r17, 0, fl, fu)
          else
            if (p1.k == 3) = true then
              (g155 p1 M fl fu yl cx ny ty) >>= fun r20 =>
              some (r20.1, r20.2.1, r20.2.2.1, r20.2.2.2)
            else
              if (p1.k == 4) = true then
                (g156 p1 M fl fu yl cx ny ty) >>= fun r23 =>
                some (r23.1, r23.2.1, r23.2.2.1, r23.2.2.2)
              else
                (g157 p1 M fl fu yl cx ny ty) >>= fun r25 =>
                some (r25.1, r25.2.1, r25.2.2.1, r25.2.2.2)
def g89 (p1 : Tm) (M : Mach) (fl : Int) (fu : Int) (yl : List Ent) (cx : List Tm) (ny : List Int) (ty : List Tm) : Option (Int × Int × Int × Int) :=
  none
def g101 (p1 : Tm) (p2 : Tm) (M : Mach) (fl : Int) (fu : Int) (yl : List Ent) (cx : List Tm) (ny : List Int) (ty : List Tm) : Option (Int × Int × Int) :=
  none
def g159 (p1 : Tm) (p2 : Tm) (M : Mach) (fl : Int) (fu : Int) (yl : List Ent) (cx : List Tm) (ny : List Int) (ty : List Tm) : Option (Int × Int × Int) :=
  none
theorem c155 {p1 : Tm} {M : Mach} {fl : Int} {fu : Int} {yl : List Ent} {cx : List Tm} {ny : List Int} {ty : List Tm} {r : Tm × Int × Int × Int} (h : g155 p1 M fl fu yl cx ny ty = some r) : CT Tryz.prog 155 [.cells [.mp 1 0, .mp 3 0, .sl (flat tmCells cx) (List.length cx) .no, .sl (flat intC ny) (List.length ny) .no, .sl (flat tmCells ty) (List.length ty) .no, .sl (flat entL yl) (List.length yl) .no], .cells [.sl (flat entL M.l) (List.length M.l) .no, .mp 2 0, .sl (flat intC M.args) (List.length M.args) .no, .sl (flat intC M.own) (List.length M.own) .no], .cells [.sl (flat entL M.rl) (List.length M.rl) .no, .sl (flat conL M.parts) (List.length M.parts) .no], .cells [ai fl, ai fu]] [.mp 0 0, tmA p1] (.tup [tmA r.1, ai r.2.1]) [.cells [.mp 1 0, .mp 3 0, .sl (flat tmCells cx) (List.length cx) .no, .sl (flat intC ny) (List.length ny) .no, .sl (flat tmCells ty) (List.length ty) .no, .sl (flat entL yl) (List.length yl) .no], .cells [.sl (flat entL M.l) (List.length M.l) .no, .mp 2 0, .sl (flat intC M.args) (List.length M.args) .no, .sl (flat intC M.own) (List.length M.own) .no], .cells [.sl (flat entL M.rl) (List.length M.rl) .no, .sl (flat conL M.parts) (List.length M.parts) .no], .cells [ai r.2.2.1, ai r.2.2.2]] 0 := by
  unfold g155 at h
  cases h
theorem c156 {p1 : Tm} {M : Mach} {fl : Int} {fu : Int} {yl : List Ent} {cx : List Tm} {ny : List Int} {ty : List Tm} {r : Tm × Int × Int × Int} (h : g156 p1 M fl fu yl cx ny ty = some r) : CT Tryz.prog 156 [.cells [.mp 1 0, .mp 3 0, .sl (flat tmCells cx) (List.length cx) .no, .sl (flat intC ny) (List.length ny) .no, .sl (flat tmCells ty) (List.length ty) .no, .sl (flat entL yl) (List.length yl) .no], .cells [.sl (flat entL M.l) (List.length M.l) .no, .mp 2 0, .sl (flat intC M.args) (List.length M.args) .no, .sl (flat intC M.own) (List.length M.own) .no], .cells [.sl (flat entL M.rl) (List.length M.rl) .no, .sl (flat conL M.parts) (List.length M.parts) .no], .cells [ai fl, ai fu]] [.mp 0 0, tmA p1] (.tup [tmA r.1, ai r.2.1]) [.cells [.mp 1 0, .mp 3 0, .sl (flat tmCells cx) (List.length cx) .no, .sl (flat intC ny) (List.length ny) .no, .sl (flat tmCells ty) (List.length ty) .no, .sl (flat entL yl) (List.length yl) .no], .cells [.sl (flat entL M.l) (List.length M.l) .no, .mp 2 0, .sl (flat intC M.args) (List.length M.args) .no, .sl (flat intC M.own) (List.length M.own) .no], .cells [.sl (flat entL M.rl) (List.length M.rl) .no, .sl (flat conL M.parts) (List.length M.parts) .no], .cells [ai r.2.2.1, ai r.2.2.2]] 0 := by
  unfold g156 at h
  cases h
theorem c157 {p1 : Tm} {M : Mach} {fl : Int} {fu : Int} {yl : List Ent} {cx : List Tm} {ny : List Int} {ty : List Tm} {r : Tm × Int × Int × Int} (h : g157 p1 M fl fu yl cx ny ty = some r) : CT Tryz.prog 157 [.cells [.mp 1 0, .mp 3 0, .sl (flat tmCells cx) (List.length cx) .no, .sl (flat intC ny) (List.length ny) .no, .sl (flat tmCells ty) (List.length ty) .no, .sl (flat entL yl) (List.length yl) .no], .cells [.sl (flat entL M.l) (List.length M.l) .no, .mp 2 0, .sl (flat intC M.args) (List.length M.args) .no, .sl (flat intC M.own) (List.length M.own) .no], .cells [.sl (flat entL M.rl) (List.length M.rl) .no, .sl (flat conL M.parts) (List.length M.parts) .no], .cells [ai fl, ai fu]] [.mp 0 0, tmA p1] (.tup [tmA r.1, ai r.2.1]) [.cells [.mp 1 0, .mp 3 0, .sl (flat tmCells cx) (List.length cx) .no, .sl (flat intC ny) (List.length ny) .no, .sl (flat tmCells ty) (List.length ty) .no, .sl (flat entL yl) (List.length yl) .no], .cells [.sl (flat entL M.l) (List.length M.l) .no, .mp 2 0, .sl (flat intC M.args) (List.length M.args) .no, .sl (flat intC M.own) (List.length M.own) .no], .cells [.sl (flat entL M.rl) (List.length M.rl) .no, .sl (flat conL M.parts) (List.length M.parts) .no], .cells [ai r.2.2.1, ai r.2.2.2]] 0 := by
  unfold g157 at h
  cases h
theorem c88 {p1 : Tm} {M : Mach} {fl : Int} {fu : Int} {yl : List Ent} {cx : List Tm} {ny : List Int} {ty : List Tm} {r : Tm × Int × Int × Int} (h : g88 p1 M fl fu yl cx ny ty = some r) : CT Tryz.prog 88 [.cells [.mp 1 0, .mp 3 0, .sl (flat tmCells cx) (List.length cx) .no, .sl (flat intC ny) (List.length ny) .no, .sl (flat tmCells ty) (List.length ty) .no, .sl (flat entL yl) (List.length yl) .no], .cells [.sl (flat entL M.l) (List.length M.l) .no, .mp 2 0, .sl (flat intC M.args) (List.length M.args) .no, .sl (flat intC M.own) (List.length M.own) .no], .cells [.sl (flat entL M.rl) (List.length M.rl) .no, .sl (flat conL M.parts) (List.length M.parts) .no], .cells [ai fl, ai fu]] [.mp 0 0, tmA p1] (.tup [tmA r.1, ai r.2.1]) [.cells [.mp 1 0, .mp 3 0, .sl (flat tmCells cx) (List.length cx) .no, .sl (flat intC ny) (List.length ny) .no, .sl (flat tmCells ty) (List.length ty) .no, .sl (flat entL yl) (List.length yl) .no], .cells [.sl (flat entL M.l) (List.length M.l) .no, .mp 2 0, .sl (flat intC M.args) (List.length M.args) .no, .sl (flat intC M.own) (List.length M.own) .no], .cells [.sl (flat entL M.rl) (List.length M.rl) .no, .sl (flat conL M.parts) (List.length M.parts) .no], .cells [ai r.2.2.1, ai r.2.2.2]] 0 := by
  unfold g88 at h
  rcases bcases (p1.k == 1) with h1 | h1
  · replace h := ifT h1 h
    obtain ⟨r2, h3, h⟩ := obind h
    replace h := Option.some.inj h
    subst h
    exact ⟨CTri.toFin prim_ok mixed Tryz.func88 (by kernel_rfl) 3000 [.no, .bit true, .no, .call [0, 1, 2, 3] [.cells [.mp 1 0, .mp 3 0, .sl (flat tmCells cx) (List.length cx) .no, .sl (flat intC ny) (List.length ny) .no, .sl (flat tmCells ty) (List.length ty) .no, .sl (flat entL yl) (List.length yl) .no], .cells [.sl (flat entL M.l) (List.length M.l) .no, .mp 2 0, .sl (flat intC M.args) (List.length M.args) .no, .sl (flat intC M.own) (List.length M.own) .no], .cells [.sl (flat entL M.rl) (List.length M.rl) .no, .sl (flat conL M.parts) (List.length M.parts) .no], .cells [ai fl, ai fu]] 0 (.tup [tmA r2.1, ai r2.2]) none, .no, .no, .no] [] [0, 1, 2, 3] [] false (by kernel_rfl) (ObsOk.cons (obBit h1) (ObsOk.cons (obCall (c152v0 h3)) (ObsOk.cons (obData (dT cx)) (ObsOk.cons (obData (dI ny)) (ObsOk.cons (obData (dT ty)) (ObsOk.cons (obData (dE yl)) (ObsOk.cons (obData (dE M.l)) (ObsOk.cons (obData (dI M.args)) (ObsOk.cons (obData (dI M.own)) (ObsOk.cons (obData (dE M.rl)) (ObsOk.cons (obData (dC M.parts)) (ObsOk.cons (obData (dT r2.1.sub)) ObsOk.nil)))))))))))) (by decide), ⟨(show 0 < 4 by decide), ⟨trivial, trivial, ⟨trivial, dT _⟩, trivial⟩, trivial⟩, (forall_cons ⟨(show 1 < 4 by decide), (show 3 < 4 by decide), ⟨trivial, dT _⟩, ⟨trivial, dI _⟩, ⟨trivial, dT _⟩, ⟨trivial, dE _⟩, trivial⟩ (forall_cons ⟨⟨trivial, dE _⟩, (show 2 < 4 by decide), ⟨trivial, dI _⟩, ⟨trivial, dI _⟩, trivial⟩ (forall_cons ⟨⟨trivial, dE _⟩, ⟨trivial, dC _⟩, trivial⟩ (forall_cons ⟨trivial, trivial, trivial⟩ forall_nil)))), ⟨⟨trivial, trivial, dT _, trivial⟩, trivial, trivial⟩, (forall_cons ⟨(show 1 < 4 by decide), (show 3 < 4 by decide), dT _, dI _, dT _, dE _, trivial⟩ (forall_cons ⟨dE _, (show 2 < 4 by decide), dI _, dI _, trivial⟩ (forall_cons ⟨dE _, dC _, trivial⟩ (forall_cons ⟨trivial, trivial, trivial⟩ forall_nil))))⟩
  · replace h := ifF h1 h
    rcases bcases (p1.k == 8) with h4 | h4
    · replace h := ifT h4 h
      obtain ⟨r5, h6, h⟩ := obind h
      replace h := Option.some.inj h
      subst h
      exact ⟨CTri.toFin prim_ok mixed Tryz.func88 (by kernel_rfl) 3000 [.no, .bit false, .bit true, .no, .call [0, 1, 2, 3] [.cells [.mp 1 0, .mp 3 0, .sl (flat tmCells cx) (List.length cx) .no, .sl (flat intC ny) (List.length ny) .no, .sl (flat tmCells ty) (List.length ty) .no, .sl (flat entL yl) (List.length yl) .no], .cells [.sl (flat entL M.l) (List.length M.l) .no, .mp 2 0, .sl (flat intC M.args) (List.length M.args) .no, .sl (flat intC M.own) (List.length M.own) .no], .cells [.sl (flat entL M.rl) (List.length M.rl) .no, .sl (flat conL M.parts) (List.length M.parts) .no], .cells [ai fl, ai fu]] 0 (.tup [tmA r5.1, ai r5.2]) none, .no, .no, .no] [] [0, 1, 2, 3] [] false (by kernel_rfl) (ObsOk.cons (obBit h1) (ObsOk.cons (obBit h4) (ObsOk.cons (obCall (c153v0 h6)) (ObsOk.cons (obData (dT cx)) (ObsOk.cons (obData (dI ny)) (ObsOk.cons (obData (dT ty)) (ObsOk.cons (obData (dE yl)) (ObsOk.cons (obData (dE M.l)) (ObsOk.cons (obData (dI M.args)) (ObsOk.cons (obData (dI M.own)) (ObsOk.cons (obData (dE M.rl)) (ObsOk.cons (obData (dC M.parts)) (ObsOk.cons (obData (dT r5.1.sub)) ObsOk.nil))))))))))))) (by decide), ⟨(show 0 < 4 by decide), ⟨trivial, trivial, ⟨trivial, dT _⟩, trivial⟩, trivial⟩, (forall_cons ⟨(show 1 < 4 by decide), (show 3 < 4 by decide), ⟨trivial, dT _⟩, ⟨trivial, dI _⟩, ⟨trivial, dT _⟩, ⟨trivial, dE _⟩, trivial⟩ (forall_cons ⟨⟨trivial, dE _⟩, (show 2 < 4 by decide), ⟨trivial, dI _⟩, ⟨trivial, dI _⟩, trivial⟩ (forall_cons ⟨⟨trivial, dE _⟩, ⟨trivial, dC _⟩, trivial⟩ (forall_cons ⟨trivial, trivial, trivial⟩ forall_nil)))), ⟨⟨trivial, trivial, dT _, trivial⟩, trivial, trivial⟩, (forall_cons ⟨(show 1 < 4 by decide), (show 3 < 4 by decide), dT _, dI _, dT _, dE _, trivial⟩ (forall_cons ⟨dE _, (show 2 < 4 by decide), dI _, dI _, trivial⟩ (forall_cons ⟨dE _, dC _, trivial⟩ (forall_cons ⟨trivial, trivial, trivial⟩ forall_nil))))⟩
    · replace h := ifF h4 h
      rcases bcases (p1.k == 6) with h7 | h7
      · replace h := ifT h7 h
        obtain ⟨x8, h9, h⟩ := obind h
        replace h := Option.some.inj h
        subst h
        exact ⟨CTri.toFin prim_ok mixed Tryz.func88 (by kernel_rfl) 3000 [.no, .bit false, .bit false, .bit true, .no, .no, .av (.ip (entL x8 ++ flat entL (List.drop (Int.toNat p1.n + 1) yl))), .no, .no] [] [0, 1, 2, 3] [] false (by kernel_rfl) (ObsOk.cons (obBit h1) (ObsOk.cons (obBit h4) (ObsOk.cons (obBit h7) (ObsOk.cons (obAv (ix37 (o := .no) h9)) (ObsOk.cons (obData (dT cx)) (ObsOk.cons (obData (dI ny)) (ObsOk.cons (obData (dT ty)) (ObsOk.cons (obData (dE yl)) (ObsOk.cons (obData (dE M.l)) (ObsOk.cons (obData (dI M.args)) (ObsOk.cons (obData (dI M.own)) (ObsOk.cons (obData (dE M.rl)) (ObsOk.cons (obData (dC M.parts)) (ObsOk.cons (obData (dT x8.type.sub)) ObsOk.nil)))))))))))))) (by decide), ⟨(show 0 < 4 by decide), ⟨trivial, trivial, ⟨trivial, dT _⟩, trivial⟩, trivial⟩, (forall_cons ⟨(show 1 < 4 by decide), (show 3 < 4 by decide), ⟨trivial, dT _⟩, ⟨trivial, dI _⟩, ⟨trivial, dT _⟩, ⟨trivial, dE _⟩, trivial⟩ (forall_cons ⟨⟨trivial, dE _⟩, (show 2 < 4 by decide), ⟨trivial, dI _⟩, ⟨trivial, dI _⟩, trivial⟩ (forall_cons ⟨⟨trivial, dE _⟩, ⟨trivial, dC _⟩, trivial⟩ (forall_cons ⟨trivial, trivial, trivial⟩ forall_nil)))), ⟨⟨trivial, trivial, dT _, trivial⟩, trivial, trivial⟩, (forall_cons ⟨(show 1 < 4 by decide), (show 3 < 4 by decide), dT _, dI _, dT _, dE _, trivial⟩ (forall_cons ⟨dE _, (show 2 < 4 by decide), dI _, dI _, trivial⟩ (forall_cons ⟨dE _, dC _, trivial⟩ (forall_cons ⟨trivial, trivial, trivial⟩ forall_nil))))⟩
      · replace h := ifF h7 h
        rcases bcases (p1.k == 7) with h10 | h10
        · replace h := ifT h10 h
          obtain ⟨x11, h12, h⟩ := obind h
          obtain ⟨r13, h14, h⟩ := obind h
          replace h := Option.some.inj h
          subst h
          exact ⟨CTri.toFin prim_ok mixed Tryz.func88 (by kernel_rfl) 3000 [.no, .bit false, .bit false, .bit false, .bit true, .no, .no, .no, .av (.ip (tmL x11 ++ flat tmCells (List.drop (Int.toNat 0 + 1) p1.sub))), .no, .call [] [] 0 (.tup [tmA r13.1, ai r13.2]) none, .no, .no, .no] [] [0, 1, 2, 3] [] false (by kernel_rfl) (ObsOk.cons (obBit h1) (ObsOk.cons (obBit h4) (ObsOk.cons (obBit h7) (ObsOk.cons (obBit h10) (ObsOk.cons (obAv (ix22 (o := .no) h12)) (ObsOk.cons (obCall (c103 h14)) (ObsOk.cons (obData (dT cx)) (ObsOk.cons (obData (dI ny)) (ObsOk.cons (obData (dT ty)) (ObsOk.cons (obData (dE yl)) (ObsOk.cons (obData (dE M.l)) (ObsOk.cons (obData (dI M.args)) (ObsOk.cons (obData (dI M.own)) (ObsOk.cons (obData (dE M.rl)) (ObsOk.cons (obData (dC M.parts)) (ObsOk.cons (obData (dT r13.1.sub)) ObsOk.nil)))))))))))))))) (by decide), ⟨(show 0 < 4 by decide), ⟨trivial, trivial, ⟨trivial, dT _⟩, trivial⟩, trivial⟩, (forall_cons ⟨(show 1 < 4 by decide), (show 3 < 4 by decide), ⟨trivial, dT _⟩, ⟨trivial, dI _⟩, ⟨trivial, dT _⟩, ⟨trivial, dE _⟩, trivial⟩ (forall_cons ⟨⟨trivial, dE _⟩, (show 2 < 4 by decide), ⟨trivial, dI _⟩, ⟨trivial, dI _⟩, trivial⟩ (forall_cons ⟨⟨trivial, dE _⟩, ⟨trivial, dC _⟩, trivial⟩ (forall_cons ⟨trivial, trivial, trivial⟩ forall_nil)))), ⟨⟨trivial, trivial, dT _, trivial⟩, trivial, trivial⟩, (forall_cons ⟨(show 1 < 4 by decide), (show 3 < 4 by decide), dT _, dI _, dT _, dE _, trivial⟩ (forall_cons ⟨dE _, (show 2 < 4 by decide), dI _, dI _, trivial⟩ (forall_cons ⟨dE _, dC _, trivial⟩ (forall_cons ⟨trivial, trivial, trivial⟩ forall_nil))))⟩
        · replace h := ifF h10 h
          rcases bcases (p1.k == 2) with h15 | h15
          · replace h := ifT h15 h
            rcases bcases (decide (p1.n ≥ 7)) with h16 | h16
            · replace h := ifT h16 h
              replace h := Option.some.inj h
              subst h
              exact ⟨CTri.toFin prim_ok mixed Tryz.func88 (by kernel_rfl) 3000 [.no, .bit false, .bit false, .bit false, .bit false, .bit true, .no, .bit true, .no] [] [0, 1, 2, 3] [] false (by kernel_rfl) (ObsOk.cons (obBit h1) (ObsOk.cons (obBit h4) (ObsOk.cons (obBit h7) (ObsOk.cons (obBit h10) (ObsOk.cons (obBit h15) (ObsOk.cons (obBit h16) (ObsOk.cons (obData (dT cx)) (ObsOk.cons (obData (dI ny)) (ObsOk.cons (obData (dT ty)) (ObsOk.cons (obData (dE yl)) (ObsOk.cons (obData (dE M.l)) (ObsOk.cons (obData (dI M.args)) (ObsOk.cons (obData (dI M.own)) (ObsOk.cons (obData (dE M.rl)) (ObsOk.cons (obData (dC M.parts)) (ObsOk.cons (obData (dT ([] : List Tm))) ObsOk.nil)))))))))))))))) (by decide), ⟨(show 0 < 4 by decide), ⟨trivial, trivial, ⟨trivial, dT _⟩, trivial⟩, trivial⟩, (forall_cons ⟨(show 1 < 4 by decide), (show 3 < 4 by decide), ⟨trivial, dT _⟩, ⟨trivial, dI _⟩, ⟨trivial, dT _⟩, ⟨trivial, dE _⟩, trivial⟩ (forall_cons ⟨⟨trivial, dE _⟩, (show 2 < 4 by decide), ⟨trivial, dI _⟩, ⟨trivial, dI _⟩, trivial⟩ (forall_cons ⟨⟨trivial, dE _⟩, ⟨trivial, dC _⟩, trivial⟩ (forall_cons ⟨trivial, trivial, trivial⟩ forall_nil)))), ⟨⟨trivial, trivial, dT _, trivial⟩, trivial, trivial⟩, (forall_cons ⟨(show 1 < 4 by decide), (show 3 < 4 by decide), dT _, dI _, dT _, dE _, trivial⟩ (forall_cons ⟨dE _, (show 2 < 4 by decide), dI _, dI _, trivial⟩ (forall_cons ⟨dE _, dC _, trivial⟩ (forall_cons ⟨trivial, trivial, trivial⟩ forall_nil))))⟩
            · replace h := ifF h16 h
              obtain ⟨r17, h18, h⟩ := obind h
              replace h := Option.some.inj h
              subst h
              exact ⟨CTri.toFin prim_ok mixed Tryz.func88 (by kernel_rfl) 3000 [.no, .bit false, .bit false, .bit false, .bit false, .bit true, .no, .bit false, .no, .no, .call [] [] 0 (tmA r17) none, .no] [] [0, 1, 2, 3] [] false (by kernel_rfl) (ObsOk.cons (obBit h1) (ObsOk.cons (obBit h4) (ObsOk.cons (obBit h7) (ObsOk.cons (obBit h10) (ObsOk.cons (obBit h15) (ObsOk.cons (obBit h16) (ObsOk.cons (obCall (c154 h18)) (ObsOk.cons (obData (dT cx)) (ObsOk.cons (obData (dI ny)) (ObsOk.cons (obData (dT ty)) (ObsOk.cons (obData (dE yl)) (ObsOk.cons (obData (dE M.l)) (ObsOk.cons (obData (dI M.args)) (ObsOk.cons (obData (dI M.own)) (ObsOk.cons (obData (dE M.rl)) (ObsOk.cons (obData (dC M.parts)) (ObsOk.cons (obData (dT r17.sub)) ObsOk.nil))))))))))))))))) (by decide), ⟨(show 0 < 4 by decide), ⟨trivial, trivial, ⟨trivial, dT _⟩, trivial⟩, trivial⟩, (forall_cons ⟨(show 1 < 4 by decide), (show 3 < 4 by decide), ⟨trivial, dT _⟩, ⟨trivial, dI _⟩, ⟨trivial, dT _⟩, ⟨trivial, dE _⟩, trivial⟩ (forall_cons ⟨⟨trivial, dE _⟩, (show 2 < 4 by decide), ⟨trivial, dI _⟩, ⟨trivial, dI _⟩, trivial⟩ (forall_cons ⟨⟨trivial, dE _⟩, ⟨trivial, dC _⟩, trivial⟩ (forall_cons ⟨trivial, trivial, trivial⟩ forall_nil)))), ⟨⟨trivial, trivial, dT _, trivial⟩, trivial, trivial⟩, (forall_cons ⟨(show 1 < 4 by decide), (show 3 < 4 by decide), dT _, dI _, dT _, dE _, trivial⟩ (forall_cons ⟨dE _, (show 2 < 4 by decide), dI _, dI _, trivial⟩ (forall_cons ⟨dE _, dC _, trivial⟩ (forall_cons ⟨trivial, trivial, trivial⟩ forall_nil))))⟩
          · replace h := ifF h15 h
            rcases bcases (p1.k == 3) with h19 | h19
            · replace h := ifT h19 h
              obtain ⟨r20, h21, h⟩ := obind h
              replace h := Option.some.inj h
              subst h
              exact ⟨CTri.toFin prim_ok mixed Tryz.func88 (by kernel_rfl) 3000 [.no, .bit false, .bit false, .bit false, .bit false, .bit false, .bit true, .no, .call [0, 1, 2, 3] [.cells [.mp 1 0, .mp 3 0, .sl (flat tmCells cx) (List.length cx) .no, .sl (flat intC ny) (List.length ny) .no, .sl (flat tmCells ty) (List.length ty) .no, .sl (flat entL yl) (List.length yl) .no], .cells [.sl (flat entL M.l) (List.length M.l) .no, .mp 2 0, .sl (flat intC M.args) (List.length M.args) .no, .sl (flat intC M.own) (List.length M.own) .no], .cells [.sl (flat entL M.rl) (List.length M.rl) .no, .sl (flat conL M.parts) (List.length M.parts) .no], .cells [ai r20.2.2.1, ai r20.2.2.2]] 0 (.tup [tmA r20.1, ai r20.2.1]) none, .no, .no, .no] [] [0, 1, 2, 3] [] false (by kernel_rfl) (ObsOk.cons (obBit h1) (ObsOk.cons (obBit h4) (ObsOk.cons (obBit h7) (ObsOk.cons (obBit h10) (ObsOk.cons (obBit h15) (ObsOk.cons (obBit h19) (ObsOk.cons (obCall (c155 h21)) (ObsOk.cons (obData (dT cx)) (ObsOk.cons (obData (dI ny)) (ObsOk.cons (obData (dT ty)) (ObsOk.cons (obData (dE yl)) (ObsOk.cons (obData (dE M.l)) (ObsOk.cons (obData (dI M.args)) (ObsOk.cons (obData (dI M.own)) (ObsOk.cons (obData (dE M.rl)) (ObsOk.cons (obData (dC M.parts)) (ObsOk.cons (obData (dT r20.1.sub)) ObsOk.nil))))))))))))))))) (by decide), ⟨(show 0 < 4 by decide), ⟨trivial, trivial, ⟨trivial, dT _⟩, trivial⟩, trivial⟩, (forall_cons ⟨(show 1 < 4 by decide), (show 3 < 4 by decide), ⟨trivial, dT _⟩, ⟨trivial, dI _⟩, ⟨trivial, dT _⟩, ⟨trivial, dE _⟩, trivial⟩ (forall_cons ⟨⟨trivial, dE _⟩, (show 2 < 4 by decide), ⟨trivial, dI _⟩, ⟨trivial, dI _⟩, trivial⟩ (forall_cons ⟨⟨trivial, dE _⟩, ⟨trivial, dC _⟩, trivial⟩ (forall_cons ⟨trivial, trivial, trivial⟩ forall_nil)))), ⟨⟨trivial, trivial, dT _, trivial⟩, trivial, trivial⟩, (forall_cons ⟨(show 1 < 4 by decide), (show 3 < 4 by decide), dT _, dI _, dT _, dE _, trivial⟩ (forall_cons ⟨dE _, (show 2 < 4 by decide), dI _, dI _, trivial⟩ (forall_cons ⟨dE _, dC _, trivial⟩ (forall_cons ⟨trivial, trivial, trivial⟩ forall_nil))))⟩
            · replace h := ifF h19 h
              rcases bcases (p1.k == 4) with h22 | h22
              · replace h := ifT h22 h
                obtain ⟨r23, h24, h⟩ := obind h
                replace h := Option.some.inj h
                subst h
                exact ⟨CTri.toFin prim_ok mixed Tryz.func88 (by kernel_rfl) 3000 [.no, .bit false, .bit false, .bit false, .bit false, .bit false, .bit false, .bit true, .no, .call [0, 1, 2, 3] [.cells [.mp 1 0, .mp 3 0, .sl (flat tmCells cx) (List.length cx) .no, .sl (flat intC ny) (List.length ny) .no, .sl (flat tmCells ty) (List.length ty) .no, .sl (flat entL yl) (List.length yl) .no], .cells [.sl (flat entL M.l) (List.length M.l) .no, .mp 2 0, .sl (flat intC M.args) (List.length M.args) .no, .sl (flat intC M.own) (List.length M.own) .no], .cells [.sl (flat entL M.rl) (List.length M.rl) .no, .sl (flat conL M.parts) (List.length M.parts) .no], .cells [ai r23.2.2.1, ai r23.2.2.2]] 0 (.tup [tmA r23.1, ai r23.2.1]) none, .no, .no, .no] [] [0, 1, 2, 3] [] false (by kernel_rfl) (ObsOk.cons (obBit h1) (ObsOk.cons (obBit h4) (ObsOk.cons (obBit h7) (ObsOk.cons (obBit h10) (ObsOk.cons (obBit h15) (ObsOk.cons (obBit h19) (ObsOk.cons (obBit h22) (ObsOk.cons (obCall (c156 h24)) (ObsOk.cons (obData (dT cx)) (ObsOk.cons (obData (dI ny)) (ObsOk.cons (obData (dT ty)) (ObsOk.cons (obData (dE yl)) (ObsOk.cons (obData (dE M.l)) (ObsOk.cons (obData (dI M.args)) (ObsOk.cons (obData (dI M.own)) (ObsOk.cons (obData (dE M.rl)) (ObsOk.cons (obData (dC M.parts)) (ObsOk.cons (obData (dT r23.1.sub)) ObsOk.nil)))))))))))))))))) (by decide), ⟨(show 0 < 4 by decide), ⟨trivial, trivial, ⟨trivial, dT _⟩, trivial⟩, trivial⟩, (forall_cons ⟨(show 1 < 4 by decide), (show 3 < 4 by decide), ⟨trivial, dT _⟩, ⟨trivial, dI _⟩, ⟨trivial, dT _⟩, ⟨trivial, dE _⟩, trivial⟩ (forall_cons ⟨⟨trivial, dE _⟩, (show 2 < 4 by decide), ⟨trivial, dI _⟩, ⟨trivial, dI _⟩, trivial⟩ (forall_cons ⟨⟨trivial, dE _⟩, ⟨trivial, dC _⟩, trivial⟩ (forall_cons ⟨trivial, trivial, trivial⟩ forall_nil)))), ⟨⟨trivial, trivial, dT _, trivial⟩, trivial, trivial⟩, (forall_cons ⟨(show 1 < 4 by decide), (show 3 < 4 by decide), dT _, dI _, dT _, dE _, trivial⟩ (forall_cons ⟨dE _, (show 2 < 4 by decide), dI _, dI _, trivial⟩ (forall_cons ⟨dE _, dC _, trivial⟩ (forall_cons ⟨trivial, trivial, trivial⟩ forall_nil))))⟩
              · replace h := ifF h22 h
                obtain ⟨r25, h26, h⟩ := obind h
                replace h := Option.some.inj h
                subst h
                exact ⟨CTri.toFin prim_ok mixed Tryz.func88 (by kernel_rfl) 3000 [.no, .bit false, .bit false, .bit false, .bit false, .bit false, .bit false, .bit false, .no, .call [0, 1, 2, 3] [.cells [.mp 1 0, .mp 3 0, .sl (flat tmCells cx) (List.length cx) .no, .sl (flat intC ny) (List.length ny) .no, .sl (flat tmCells ty) (List.length ty) .no, .sl (flat entL yl) (List.length yl) .no], .cells [.sl (flat entL M.l) (List.length M.l) .no, .mp 2 0, .sl (flat intC M.args) (List.length M.args) .no, .sl (flat intC M.own) (List.length M.own) .no], .cells [.sl (flat entL M.rl) (List.length M.rl) .no, .sl (flat conL M.parts) (List.length M.parts) .no], .cells [ai r25.2.2.1, ai r25.2.2.2]] 0 (.tup [tmA r25.1, ai r25.2.1]) none, .no, .no, .no] [] [0, 1, 2, 3] [] false (by kernel_rfl) (ObsOk.cons (obBit h1) (ObsOk.cons (obBit h4) (ObsOk.cons (obBit h7) (ObsOk.cons (obBit h10) (ObsOk.cons (obBit h15) (ObsOk.cons (obBit h19) (ObsOk.cons (obBit h22) (ObsOk.cons (obCall (c157 h26)) (ObsOk.cons (obData (dT cx)) (ObsOk.cons (obData (dI ny)) (ObsOk.cons (obData (dT ty)) (ObsOk.cons (obData (dE yl)) (ObsOk.cons (obData (dE M.l)) (ObsOk.cons (obData (dI M.args)) (ObsOk.cons (obData (dI M.own)) (ObsOk.cons (obData (dE M.rl)) (ObsOk.cons (obData (dC M.parts)) (ObsOk.cons (obData (dT r25.1.sub)) ObsOk.nil)))))))))))))))))) (by decide), ⟨(show 0 < 4 by decide), ⟨trivial, trivial, ⟨trivial, dT _⟩, trivial⟩, trivial⟩, (forall_cons ⟨(show 1 < 4 by decide), (show 3 < 4 by decide), ⟨trivial, dT _⟩, ⟨trivial, dI _⟩, ⟨trivial, dT _⟩, ⟨trivial, dE _⟩, trivial⟩ (forall_cons ⟨⟨trivial, dE _⟩, (show 2 < 4 by decide), ⟨trivial, dI _⟩, ⟨trivial, dI _⟩, trivial⟩ (forall_cons ⟨⟨trivial, dE _⟩, ⟨trivial, dC _⟩, trivial⟩ (forall_cons ⟨trivial, trivial, trivial⟩ forall_nil)))), ⟨⟨trivial, trivial, dT _, trivial⟩, trivial, trivial⟩, (forall_cons ⟨(show 1 < 4 by decide), (show 3 < 4 by decide), dT _, dI _, dT _, dE _, trivial⟩ (forall_cons ⟨dE _, (show 2 < 4 by decide), dI _, dI _, trivial⟩ (forall_cons ⟨dE _, dC _, trivial⟩ (forall_cons ⟨trivial, trivial, trivial⟩ forall_nil))))⟩
theorem c89 {p1 : Tm} {M : Mach} {fl : Int} {fu : Int} {yl : List Ent} {cx : List Tm} {ny : List Int} {ty : List Tm} {r : Int × Int × Int × Int} (h : g89 p1 M fl fu yl cx ny ty = some r) : CT Tryz.prog 89 [.cells [.mp 1 0, .mp 3 0, .sl (flat tmCells cx) (List.length cx) .no, .sl (flat intC ny) (List.length ny) .no, .sl (flat tmCells ty) (List.length ty) .no, .sl (flat entL yl) (List.length yl) .no], .cells [.sl (flat entL M.l) (List.length M.l) .no, .mp 2 0, .sl (flat intC M.args) (List.length M.args) .no, .sl (flat intC M.own) (List.length M.own) .no], .cells [.sl (flat entL M.rl) (List.length M.rl) .no, .sl (flat conL M.parts) (List.length M.parts) .no], .cells [ai fl, ai fu]] [.mp 0 0, tmA p1] (.tup [ai r.1, ai r.2.1]) [.cells [.mp 1 0, .mp 3 0, .sl (flat tmCells cx) (List.length cx) .no, .sl (flat intC ny) (List.length ny) .no, .sl (flat tmCells ty) (List.length ty) .no, .sl (flat entL yl) (List.length yl) .no], .cells [.sl (flat entL M.l) (List.length M.l) .no, .mp 2 0, .sl (flat intC M.args) (List.length M.args) .no, .sl (flat intC M.own) (List.length M.own) .no], .cells [.sl (flat entL M.rl) (List.length M.rl) .no, .sl (flat conL M.parts) (List.length M.parts) .no], .cells [ai r.2.2.1, ai r.2.2.2]] 0 := by
  unfold g89 at h
  cases h
theorem c101 {p1 : Tm} {p2 : Tm} {M : Mach} {fl : Int} {fu : Int} {yl : List Ent} {cx : List Tm} {ny : List Int} {ty : List Tm} {r : Int × Int × Int} (h : g101 p1 p2 M fl fu yl cx ny ty = some r) : CT Tryz.prog 101 [.cells [.mp 1 0, .mp 3 0, .sl (flat tmCells cx) (List.length cx) .no, .sl (flat intC ny) (List.length ny) .no, .sl (flat tmCells ty) (List.length ty) .no, .sl (flat entL yl) (List.length yl) .no], .cells [.sl (flat entL M.l) (List.length M.l) .no, .mp 2 0, .sl (flat intC M.args) (List.length M.args) .no, .sl (flat intC M.own) (List.length M.own) .no], .cells [.sl (flat entL M.rl) (List.length M.rl) .no, .sl (flat conL M.parts) (List.length M.parts) .no], .cells [ai fl, ai fu]] [.mp 0 0, tmA p1, tmA p2] (ai r.1) [.cells [.mp 1 0, .mp 3 0, .sl (flat tmCells cx) (List.length cx) .no, .sl (flat intC ny) (List.length ny) .no, .sl (flat tmCells ty) (List.length ty) .no, .sl (flat entL yl) (List.length yl) .no], .cells [.sl (flat entL M.l) (List.length M.l) .no, .mp 2 0, .sl (flat intC M.args) (List.length M.args) .no, .sl (flat intC M.own) (List.length M.own) .no], .cells [.sl (flat entL M.rl) (List.length M.rl) .no, .sl (flat conL M.parts) (List.length M.parts) .no], .cells [ai r.2.1, ai r.2.2]] 0 := by
  unfold g101 at h
  cases h
theorem c159 {p1 : Tm} {p2 : Tm} {M : Mach} {fl : Int} {fu : Int} {yl : List Ent} {cx : List Tm} {ny : List Int} {ty : List Tm} {r : Int × Int × Int} (h : g159 p1 p2 M fl fu yl cx ny ty = some r) : CT Tryz.prog 159 [.cells [.mp 1 0, .mp 3 0, .sl (flat tmCells cx) (List.length cx) .no, .sl (flat intC ny) (List.length ny) .no, .sl (flat tmCells ty) (List.length ty) .no, .sl (flat entL yl) (List.length yl) .no], .cells [.sl (flat entL M.l) (List.length M.l) .no, .mp 2 0, .sl (flat intC M.args) (List.length M.args) .no, .sl (flat intC M.own) (List.length M.own) .no], .cells [.sl (flat entL M.rl) (List.length M.rl) .no, .sl (flat conL M.parts) (List.length M.parts) .no], .cells [ai fl, ai fu]] [.mp 0 0, tmA p1, tmA p2] (ai r.1) [.cells [.mp 1 0, .mp 3 0, .sl (flat tmCells cx) (List.length cx) .no, .sl (flat intC ny) (List.length ny) .no, .sl (flat tmCells ty) (List.length ty) .no, .sl (flat entL yl) (List.length yl) .no], .cells [.sl (flat entL M.l) (List.length M.l) .no, .mp 2 0, .sl (flat intC M.args) (List.length M.args) .no, .sl (flat intC M.own) (List.length M.own) .no], .cells [.sl (flat entL M.rl) (List.length M.rl) .no, .sl (flat conL M.parts) (List.length M.parts) .no], .cells [ai r.2.1, ai r.2.2]] 0 := by
  unfold g159 at h
  cases h

/- (*scholium/infer.typer).infer -/
/- (*scholium/infer.typer).universe -/
/- (*scholium/infer.typer).check -/
/- (*scholium/infer.typer).pi -/
/- (*scholium/infer.typer).lam -/
/- (*scholium/infer.typer).app -/
/- (*scholium/infer.typer).function -/
def g155vn (p1 : Tm) (M : Mach) (yl : List Ent) (cx : List Tm) (ny : List Int) (ty : List Tm) : Option (Tm × Int) :=
  none
def g156vn (p1 : Tm) (M : Mach) (yl : List Ent) (cx : List Tm) (ny : List Int) (ty : List Tm) : Option (Tm × Int) :=
  none
mutual
def g88vn (p1 : Tm) (M : Mach) (yl : List Ent) (cx : List Tm) (ny : List Int) (ty : List Tm) : Option (Tm × Int) :=
  if (p1.k == 1) = true then
    (g152vn p1.n M yl cx ny ty) >>= fun r2 =>
    some (r2.1, r2.2)
  else
    if (p1.k == 8) = true then
      (g153vn p1.n M yl cx ny ty) >>= fun r5 =>
      some (r5.1, r5.2)
    else
      if (p1.k == 6) = true then
        (gidx yl p1.n) >>= fun x8 =>
        some (x8.type, 0)
      else
        if (p1.k == 7) = true then
          (gidx p1.sub 0) >>= fun x11 =>
          (g103 yl p1.n x11.n) >>= fun r13 =>
          some (r13.1, r13.2)
        else
          if (p1.k == 2) = true then
            if decide (p1.n ≥ 7) = true then
              some ((Tm.mk 0 0 []), 7)
            else
              (g154 (w64 (p1.n + 1))) >>= fun r17 =>
              some (r17, 0)
          else
            if (p1.k == 3) = true then
              (g155vn p1 M yl cx ny ty) >>= fun r20 =>
              some (r20.1, r20.2)
            else
              if (p1.k == 4) = true then
                (g156vn p1 M yl cx ny ty) >>= fun r23 =>
                some (r23.1, r23.2)
              else
                (g157vn p1 M yl cx ny ty) >>= fun r25 =>
                some (r25.1, r25.2)
 partial_fixpoint
def g157vn (p1 : Tm) (M : Mach) (yl : List Ent) (cx : List Tm) (ny : List Int) (ty : List Tm) : Option (Tm × Int) :=
  (g141vn) >>= fun r1 =>
  if (r1 != 0) = true then
    some ((Tm.mk 0 0 []), r1)
  else
    (gidx p1.sub 0) >>= fun x4 =>
    (g88vn x4 M yl cx ny ty) >>= fun r6 =>
    if (r6.2 != 0) = true then
      some ((Tm.mk 0 0 []), r6.2)
    else
      none
 partial_fixpoint
end
def g89vn (p1 : Tm) (M : Mach) (yl : List Ent) (cx : List Tm) (ny : List Int) (ty : List Tm) : Option (Int × Int) :=
  none
def g101vn (p1 : Tm) (p2 : Tm) (M : Mach) (yl : List Ent) (cx : List Tm) (ny : List Int) (ty : List Tm) : Option (Int) :=
  none
def g159vn (p1 : Tm) (p2 : Tm) (M : Mach) (yl : List Ent) (cx : List Tm) (ny : List Int) (ty : List Tm) : Option (Int) :=
  none
theorem c155vn {p1 : Tm} {M : Mach} {yl : List Ent} {cx : List Tm} {ny : List Int} {ty : List Tm} {r : Tm × Int} (h : g155vn p1 M yl cx ny ty = some r) : CT Tryz.prog 155 [.cells [.mp 1 0, .val (.pointer none), .sl (flat tmCells cx) (List.length cx) .no, .sl (flat intC ny) (List.length ny) .no, .sl (flat tmCells ty) (List.length ty) .no, .sl (flat entL yl) (List.length yl) .no], .cells [.sl (flat entL M.l) (List.length M.l) .no, .mp 2 0, .sl (flat intC M.args) (List.length M.args) .no, .sl (flat intC M.own) (List.length M.own) .no], .cells [.sl (flat entL M.rl) (List.length M.rl) .no, .sl (flat conL M.parts) (List.length M.parts) .no]] [.mp 0 0, tmA p1] (.tup [tmA r.1, ai r.2]) [.cells [.mp 1 0, .val (.pointer none), .sl (flat tmCells cx) (List.length cx) .no, .sl (flat intC ny) (List.length ny) .no, .sl (flat tmCells ty) (List.length ty) .no, .sl (flat entL yl) (List.length yl) .no], .cells [.sl (flat entL M.l) (List.length M.l) .no, .mp 2 0, .sl (flat intC M.args) (List.length M.args) .no, .sl (flat intC M.own) (List.length M.own) .no], .cells [.sl (flat entL M.rl) (List.length M.rl) .no, .sl (flat conL M.parts) (List.length M.parts) .no]] 0 := by
  unfold g155vn at h
  cases h
theorem c156vn {p1 : Tm} {M : Mach} {yl : List Ent} {cx : List Tm} {ny : List Int} {ty : List Tm} {r : Tm × Int} (h : g156vn p1 M yl cx ny ty = some r) : CT Tryz.prog 156 [.cells [.mp 1 0, .val (.pointer none), .sl (flat tmCells cx) (List.length cx) .no, .sl (flat intC ny) (List.length ny) .no, .sl (flat tmCells ty) (List.length ty) .no, .sl (flat entL yl) (List.length yl) .no], .cells [.sl (flat entL M.l) (List.length M.l) .no, .mp 2 0, .sl (flat intC M.args) (List.length M.args) .no, .sl (flat intC M.own) (List.length M.own) .no], .cells [.sl (flat entL M.rl) (List.length M.rl) .no, .sl (flat conL M.parts) (List.length M.parts) .no]] [.mp 0 0, tmA p1] (.tup [tmA r.1, ai r.2]) [.cells [.mp 1 0, .val (.pointer none), .sl (flat tmCells cx) (List.length cx) .no, .sl (flat intC ny) (List.length ny) .no, .sl (flat tmCells ty) (List.length ty) .no, .sl (flat entL yl) (List.length yl) .no], .cells [.sl (flat entL M.l) (List.length M.l) .no, .mp 2 0, .sl (flat intC M.args) (List.length M.args) .no, .sl (flat intC M.own) (List.length M.own) .no], .cells [.sl (flat entL M.rl) (List.length M.rl) .no, .sl (flat conL M.parts) (List.length M.parts) .no]] 0 := by
  unfold g156vn at h
  cases h
theorem a88vn_157vn (M : Mach) (yl : List Ent) (cx : List Tm) (ny : List Int) (ty : List Tm) : (∀ (p1 : Tm) (r : Tm × Int), g88vn p1 M yl cx ny ty = some r → CT Tryz.prog 88 [.cells [.mp 1 0, .val (.pointer none), .sl (flat tmCells cx) (List.length cx) .no, .sl (flat intC ny) (List.length ny) .no, .sl (flat tmCells ty) (List.length ty) .no, .sl (flat entL yl) (List.length yl) .no], .cells [.sl (flat entL M.l) (List.length M.l) .no, .mp 2 0, .sl (flat intC M.args) (List.length M.args) .no, .sl (flat intC M.own) (List.length M.own) .no], .cells [.sl (flat entL M.rl) (List.length M.rl) .no, .sl (flat conL M.parts) (List.length M.parts) .no]] [.mp 0 0, tmA p1] (.tup [tmA r.1, ai r.2]) [.cells [.mp 1 0, .val (.pointer none), .sl (flat tmCells cx) (List.length cx) .no, .sl (flat intC ny) (List.length ny) .no, .sl (flat tmCells ty) (List.length ty) .no, .sl (flat entL yl) (List.length yl) .no], .cells [.sl (flat entL M.l) (List.length M.l) .no, .mp 2 0, .sl (flat intC M.args) (List.length M.args) .no, .sl (flat intC M.own) (List.length M.own) .no], .cells [.sl (flat entL M.rl) (List.length M.rl) .no, .sl (flat conL M.parts) (List.length M.parts) .no]] 0) ∧ (∀ (p1 : Tm) (r : Tm × Int), g157vn p1 M yl cx ny ty = some r → CT Tryz.prog 157 [.cells [.mp 1 0, .val (.pointer none), .sl (flat tmCells cx) (List.length cx) .no, .sl (flat intC ny) (List.length ny) .no, .sl (flat tmCells ty) (List.length ty) .no, .sl (flat entL yl) (List.length yl) .no], .cells [.sl (flat entL M.l) (List.length M.l) .no, .mp 2 0, .sl (flat intC M.args) (List.length M.args) .no, .sl (flat intC M.own) (List.length M.own) .no], .cells [.sl (flat entL M.rl) (List.length M.rl) .no, .sl (flat conL M.parts) (List.length M.parts) .no]] [.mp 0 0, tmA p1] (.tup [tmA r.1, ai r.2]) [.cells [.mp 1 0, .val (.pointer none), .sl (flat tmCells cx) (List.length cx) .no, .sl (flat intC ny) (List.length ny) .no, .sl (flat tmCells ty) (List.length ty) .no, .sl (flat entL yl) (List.length yl) .no], .cells [.sl (flat entL M.l) (List.length M.l) .no, .mp 2 0, .sl (flat intC M.args) (List.length M.args) .no, .sl (flat intC M.own) (List.length M.own) .no], .cells [.sl (flat entL M.rl) (List.length M.rl) .no, .sl (flat conL M.parts) (List.length M.parts) .no]] 0) := by
  refine g88vn.mutual_partial_correctness M yl cx ny ty (fun p1 r => CT Tryz.prog 88 [.cells [.mp 1 0, .val (.pointer none), .sl (flat tmCells cx) (List.length cx) .no, .sl (flat intC ny) (List.length ny) .no, .sl (flat tmCells ty) (List.length ty) .no, .sl (flat entL yl) (List.length yl) .no], .cells [.sl (flat entL M.l) (List.length M.l) .no, .mp 2 0, .sl (flat intC M.args) (List.length M.args) .no, .sl (flat intC M.own) (List.length M.own) .no], .cells [.sl (flat entL M.rl) (List.length M.rl) .no, .sl (flat conL M.parts) (List.length M.parts) .no]] [.mp 0 0, tmA p1] (.tup [tmA r.1, ai r.2]) [.cells [.mp 1 0, .val (.pointer none), .sl (flat tmCells cx) (List.length cx) .no, .sl (flat intC ny) (List.length ny) .no, .sl (flat tmCells ty) (List.length ty) .no, .sl (flat entL yl) (List.length yl) .no], .cells [.sl (flat entL M.l) (List.length M.l) .no, .mp 2 0, .sl (flat intC M.args) (List.length M.args) .no, .sl (flat intC M.own) (List.length M.own) .no], .cells [.sl (flat entL M.rl) (List.length M.rl) .no, .sl (flat conL M.parts) (List.length M.parts) .no]] 0) (fun p1 r => CT Tryz.prog 157 [.cells [.mp 1 0, .val (.pointer none), .sl (flat tmCells cx) (List.length cx) .no, .sl (flat intC ny) (List.length ny) .no, .sl (flat tmCells ty) (List.length ty) .no, .sl (flat entL yl) (List.length yl) .no], .cells [.sl (flat entL M.l) (List.length M.l) .no, .mp 2 0, .sl (flat intC M.args) (List.length M.args) .no, .sl (flat intC M.own) (List.length M.own) .no], .cells [.sl (flat entL M.rl) (List.length M.rl) .no, .sl (flat conL M.parts) (List.length M.parts) .no]] [.mp 0 0, tmA p1] (.tup [tmA r.1, ai r.2]) [.cells [.mp 1 0, .val (.pointer none), .sl (flat tmCells cx) (List.length cx) .no, .sl (flat intC ny) (List.length ny) .no, .sl (flat tmCells ty) (List.length ty) .no, .sl (flat entL yl) (List.length yl) .no], .cells [.sl (flat entL M.l) (List.length M.l) .no, .mp 2 0, .sl (flat intC M.args) (List.length M.args) .no, .sl (flat intC M.own) (List.length M.own) .no], .cells [.sl (flat entL M.rl) (List.length M.rl) .no, .sl (flat conL M.parts) (List.length M.parts) .no]] 0) ?_ ?_
  · intro g157vn ih157vn p1 r h
    rcases bcases (p1.k == 1) with h1 | h1
    · replace h := ifT h1 h
      obtain ⟨r2, h3, h⟩ := obind h
      replace h := Option.some.inj h
      subst h
      exact ⟨CTri.toFin prim_ok mixed Tryz.func88 (by kernel_rfl) 3000 [.no, .bit true, .no, .call [0, 1, 2] [.cells [.mp 1 0, .val (.pointer none), .sl (flat tmCells cx) (List.length cx) .no, .sl (flat intC ny) (List.length ny) .no, .sl (flat tmCells ty) (List.length ty) .no, .sl (flat entL yl) (List.length yl) .no], .cells [.sl (flat entL M.l) (List.length M.l) .no, .mp 2 0, .sl (flat intC M.args) (List.length M.args) .no, .sl (flat intC M.own) (List.length M.own) .no], .cells [.sl (flat entL M.rl) (List.length M.rl) .no, .sl (flat conL M.parts) (List.length M.parts) .no]] 0 (.tup [tmA r2.1, ai r2.2]) none, .no, .no, .no] [] [0, 1, 2] [] false (by kernel_rfl) (ObsOk.cons (obBit h1) (ObsOk.cons (obCall (c152vn h3)) (ObsOk.cons (obData (dT cx)) (ObsOk.cons (obData (dI ny)) (ObsOk.cons (obData (dT ty)) (ObsOk.cons (obData (dE yl)) (ObsOk.cons (obData (dE M.l)) (ObsOk.cons (obData (dI M.args)) (ObsOk.cons (obData (dI M.own)) (ObsOk.cons (obData (dE M.rl)) (ObsOk.cons (obData (dC M.parts)) (ObsOk.cons (obData (dT r2.1.sub)) ObsOk.nil)))))))))))) (by decide), ⟨(show 0 < 3 by decide), ⟨trivial, trivial, ⟨trivial, dT _⟩, trivial⟩, trivial⟩, (forall_cons ⟨(show 1 < 3 by decide), trivial, ⟨trivial, dT _⟩, ⟨trivial, dI _⟩, ⟨trivial, dT _⟩, ⟨trivial, dE _⟩, trivial⟩ (forall_cons ⟨⟨trivial, dE _⟩, (show 2 < 3 by decide), ⟨trivial, dI _⟩, ⟨trivial, dI _⟩, trivial⟩ (forall_cons ⟨⟨trivial, dE _⟩, ⟨trivial, dC _⟩, trivial⟩ forall_nil))), ⟨⟨trivial, trivial, dT _, trivial⟩, trivial, trivial⟩, (forall_cons ⟨(show 1 < 3 by decide), trivial, dT _, dI _, dT _, dE _, trivial⟩ (forall_cons ⟨dE _, (show 2 < 3 by decide), dI _, dI _, trivial⟩ (forall_cons ⟨dE _, dC _, trivial⟩ forall_nil)))⟩
    · replace h := ifF h1 h
      rcases bcases (p1.k == 8) with h4 | h4
      · replace h := ifT h4 h
        obtain ⟨r5, h6, h⟩ := obind h
        replace h := Option.some.inj h
        subst h
        exact ⟨CTri.toFin prim_ok mixed Tryz.func88 (by kernel_rfl) 3000 [.no, .bit false, .bit true, .no, .call [0, 1, 2] [.cells [.mp 1 0, .val (.pointer none), .sl (flat tmCells cx) (List.length cx) .no, .sl (flat intC ny) (List.length ny) .no, .sl (flat tmCells ty) (List.length ty) .no, .sl (flat entL yl) (List.length yl) .no], .cells [.sl (flat entL M.l) (List.length M.l) .no, .mp 2 0, .sl (flat intC M.args) (List.length M.args) .no, .sl (flat intC M.own) (List.length M.own) .no], .cells [.sl (flat entL M.rl) (List.length M.rl) .no, .sl (flat conL M.parts) (List.length M.parts) .no]] 0 (.tup [tmA r5.1, ai r5.2]) none, .no, .no, .no] [] [0, 1, 2] [] false (by kernel_rfl) (ObsOk.cons (obBit h1) (ObsOk.cons (obBit h4) (ObsOk.cons (obCall (c153vn h6)) (ObsOk.cons (obData (dT cx)) (ObsOk.cons (obData (dI ny)) (ObsOk.cons (obData (dT ty)) (ObsOk.cons (obData (dE yl)) (ObsOk.cons (obData (dE M.l)) (ObsOk.cons (obData (dI M.args)) (ObsOk.cons (obData (dI M.own)) (ObsOk.cons (obData (dE M.rl)) (ObsOk.cons (obData (dC M.parts)) (ObsOk.cons (obData (dT r5.1.sub)) ObsOk.nil))))))))))))) (by decide), ⟨(show 0 < 3 by decide), ⟨trivial, trivial, ⟨trivial, dT _⟩, trivial⟩, trivial⟩, (forall_cons ⟨(show 1 < 3 by decide), trivial, ⟨trivial, dT _⟩, ⟨trivial, dI _⟩, ⟨trivial, dT _⟩, ⟨trivial, dE _⟩, trivial⟩ (forall_cons ⟨⟨trivial, dE _⟩, (show 2 < 3 by decide), ⟨trivial, dI _⟩, ⟨trivial, dI _⟩, trivial⟩ (forall_cons ⟨⟨trivial, dE _⟩, ⟨trivial, dC _⟩, trivial⟩ forall_nil))), ⟨⟨trivial, trivial, dT _, trivial⟩, trivial, trivial⟩, (forall_cons ⟨(show 1 < 3 by decide), trivial, dT _, dI _, dT _, dE _, trivial⟩ (forall_cons ⟨dE _, (show 2 < 3 by decide), dI _, dI _, trivial⟩ (forall_cons ⟨dE _, dC _, trivial⟩ forall_nil)))⟩
      · replace h := ifF h4 h
        rcases bcases (p1.k == 6) with h7 | h7
        · replace h := ifT h7 h
          obtain ⟨x8, h9, h⟩ := obind h
          replace h := Option.some.inj h
          subst h
          exact ⟨CTri.toFin prim_ok mixed Tryz.func88 (by kernel_rfl) 3000 [.no, .bit false, .bit false, .bit true, .no, .no, .av (.ip (entL x8 ++ flat entL (List.drop (Int.toNat p1.n + 1) yl))), .no, .no] [] [0, 1, 2] [] false (by kernel_rfl) (ObsOk.cons (obBit h1) (ObsOk.cons (obBit h4) (ObsOk.cons (obBit h7) (ObsOk.cons (obAv (ix37 (o := .no) h9)) (ObsOk.cons (obData (dT cx)) (ObsOk.cons (obData (dI ny)) (ObsOk.cons (obData (dT ty)) (ObsOk.cons (obData (dE yl)) (ObsOk.cons (obData (dE M.l)) (ObsOk.cons (obData (dI M.args)) (ObsOk.cons (obData (dI M.own)) (ObsOk.cons (obData (dE M.rl)) (ObsOk.cons (obData (dC M.parts)) (ObsOk.cons (obData (dT x8.type.sub)) ObsOk.nil)))))))))))))) (by decide), ⟨(show 0 < 3 by decide), ⟨trivial, trivial, ⟨trivial, dT _⟩, trivial⟩, trivial⟩, (forall_cons ⟨(show 1 < 3 by decide), trivial, ⟨trivial, dT _⟩, ⟨trivial, dI _⟩, ⟨trivial, dT _⟩, ⟨trivial, dE _⟩, trivial⟩ (forall_cons ⟨⟨trivial, dE _⟩, (show 2 < 3 by decide), ⟨trivial, dI _⟩, ⟨trivial, dI _⟩, trivial⟩ (forall_cons ⟨⟨trivial, dE _⟩, ⟨trivial, dC _⟩, trivial⟩ forall_nil))), ⟨⟨trivial, trivial, dT _, trivial⟩, trivial, trivial⟩, (forall_cons ⟨(show 1 < 3 by decide), trivial, dT _, dI _, dT _, dE _, trivial⟩ (forall_cons ⟨dE _, (show 2 < 3 by decide), dI _, dI _, trivial⟩ (forall_cons ⟨dE _, dC _, trivial⟩ forall_nil)))⟩
        · replace h := ifF h7 h
          rcases bcases (p1.k == 7) with h10 | h10
          · replace h := ifT h10 h
            obtain ⟨x11, h12, h⟩ := obind h
            obtain ⟨r13, h14, h⟩ := obind h
            replace h := Option.some.inj h
            subst h
            exact ⟨CTri.toFin prim_ok mixed Tryz.func88 (by kernel_rfl) 3000 [.no, .bit false, .bit false, .bit false, .bit true, .no, .no, .no, .av (.ip (tmL x11 ++ flat tmCells (List.drop (Int.toNat 0 + 1) p1.sub))), .no, .call [] [] 0 (.tup [tmA r13.1, ai r13.2]) none, .no, .no, .no] [] [0, 1, 2] [] false (by kernel_rfl) (ObsOk.cons (obBit h1) (ObsOk.cons (obBit h4) (ObsOk.cons (obBit h7) (ObsOk.cons (obBit h10) (ObsOk.cons (obAv (ix22 (o := .no) h12)) (ObsOk.cons (obCall (c103 h14)) (ObsOk.cons (obData (dT cx)) (ObsOk.cons (obData (dI ny)) (ObsOk.cons (obData (dT ty)) (ObsOk.cons (obData (dE yl)) (ObsOk.cons (obData (dE M.l)) (ObsOk.cons (obData (dI M.args)) (ObsOk.cons (obData (dI M.own)) (ObsOk.cons (obData (dE M.rl)) (ObsOk.cons (obData (dC M.parts)) (ObsOk.cons (obData (dT r13.1.sub)) ObsOk.nil)))))))))))))))) (by decide), ⟨(show 0 < 3 by decide), ⟨trivial, trivial, ⟨trivial, dT _⟩, trivial⟩, trivial⟩, (forall_cons ⟨(show 1 < 3 by decide), trivial, ⟨trivial, dT _⟩, ⟨trivial, dI _⟩, ⟨trivial, dT _⟩, ⟨trivial, dE _⟩, trivial⟩ (forall_cons ⟨⟨trivial, dE _⟩, (show 2 < 3 by decide), ⟨trivial, dI _⟩, ⟨trivial, dI _⟩, trivial⟩ (forall_cons ⟨⟨trivial, dE _⟩, ⟨trivial, dC _⟩, trivial⟩ forall_nil))), ⟨⟨trivial, trivial, dT _, trivial⟩, trivial, trivial⟩, (forall_cons ⟨(show 1 < 3 by decide), trivial, dT _, dI _, dT _, dE _, trivial⟩ (forall_cons ⟨dE _, (show 2 < 3 by decide), dI _, dI _, trivial⟩ (forall_cons ⟨dE _, dC _, trivial⟩ forall_nil)))⟩
          · replace h := ifF h10 h
            rcases bcases (p1.k == 2) with h15 | h15
            · replace h := ifT h15 h
              rcases bcases (decide (p1.n ≥ 7)) with h16 | h16
              · replace h := ifT h16 h
                replace h := Option.some.inj h
                subst h
                exact ⟨CTri.toFin prim_ok mixed Tryz.func88 (by kernel_rfl) 3000 [.no, .bit false, .bit false, .bit false, .bit false, .bit true, .no, .bit true, .no] [] [0, 1, 2] [] false (by kernel_rfl) (ObsOk.cons (obBit h1) (ObsOk.cons (obBit h4) (ObsOk.cons (obBit h7) (ObsOk.cons (obBit h10) (ObsOk.cons (obBit h15) (ObsOk.cons (obBit h16) (ObsOk.cons (obData (dT cx)) (ObsOk.cons (obData (dI ny)) (ObsOk.cons (obData (dT ty)) (ObsOk.cons (obData (dE yl)) (ObsOk.cons (obData (dE M.l)) (ObsOk.cons (obData (dI M.args)) (ObsOk.cons (obData (dI M.own)) (ObsOk.cons (obData (dE M.rl)) (ObsOk.cons (obData (dC M.parts)) (ObsOk.cons (obData (dT ([] : List Tm))) ObsOk.nil)))))))))))))))) (by decide), ⟨(show 0 < 3 by decide), ⟨trivial, trivial, ⟨trivial, dT _⟩, trivial⟩, trivial⟩, (forall_cons ⟨(show 1 < 3 by decide), trivial, ⟨trivial, dT _⟩, ⟨trivial, dI _⟩, ⟨trivial, dT _⟩, ⟨trivial, dE _⟩, trivial⟩ (forall_cons ⟨⟨trivial, dE _⟩, (show 2 < 3 by decide), ⟨trivial, dI _⟩, ⟨trivial, dI _⟩, trivial⟩ (forall_cons ⟨⟨trivial, dE _⟩, ⟨trivial, dC _⟩, trivial⟩ forall_nil))), ⟨⟨trivial, trivial, dT _, trivial⟩, trivial, trivial⟩, (forall_cons ⟨(show 1 < 3 by decide), trivial, dT _, dI _, dT _, dE _, trivial⟩ (forall_cons ⟨dE _, (show 2 < 3 by decide), dI _, dI _, trivial⟩ (forall_cons ⟨dE _, dC _, trivial⟩ forall_nil)))⟩
              · replace h := ifF h16 h
                obtain ⟨r17, h18, h⟩ := obind h
                replace h := Option.some.inj h
                subst h
                exact ⟨CTri.toFin prim_ok mixed Tryz.func88 (by kernel_rfl) 3000 [.no, .bit false, .bit false, .bit false, .bit false, .bit true, .no, .bit false, .no, .no, .call [] [] 0 (tmA r17) none, .no] [] [0, 1, 2] [] false (by kernel_rfl) (ObsOk.cons (obBit h1) (ObsOk.cons (obBit h4) (ObsOk.cons (obBit h7) (ObsOk.cons (obBit h10) (ObsOk.cons (obBit h15) (ObsOk.cons (obBit h16) (ObsOk.cons (obCall (c154 h18)) (ObsOk.cons (obData (dT cx)) (ObsOk.cons (obData (dI ny)) (ObsOk.cons (obData (dT ty)) (ObsOk.cons (obData (dE yl)) (ObsOk.cons (obData (dE M.l)) (ObsOk.cons (obData (dI M.args)) (ObsOk.cons (obData (dI M.own)) (ObsOk.cons (obData (dE M.rl)) (ObsOk.cons (obData (dC M.parts)) (ObsOk.cons (obData (dT r17.sub)) ObsOk.nil))))))))))))))))) (by decide), ⟨(show 0 < 3 by decide), ⟨trivial, trivial, ⟨trivial, dT _⟩, trivial⟩, trivial⟩, (forall_cons ⟨(show 1 < 3 by decide), trivial, ⟨trivial, dT _⟩, ⟨trivial, dI _⟩, ⟨trivial, dT _⟩, ⟨trivial, dE _⟩, trivial⟩ (forall_cons ⟨⟨trivial, dE _⟩, (show 2 < 3 by decide), ⟨trivial, dI _⟩, ⟨trivial, dI _⟩, trivial⟩ (forall_cons ⟨⟨trivial, dE _⟩, ⟨trivial, dC _⟩, trivial⟩ forall_nil))), ⟨⟨trivial, trivial, dT _, trivial⟩, trivial, trivial⟩, (forall_cons ⟨(show 1 < 3 by decide), trivial, dT _, dI _, dT _, dE _, trivial⟩ (forall_cons ⟨dE _, (show 2 < 3 by decide), dI _, dI _, trivial⟩ (forall_cons ⟨dE _, dC _, trivial⟩ forall_nil)))⟩
            · replace h := ifF h15 h
              rcases bcases (p1.k == 3) with h19 | h19
              · replace h := ifT h19 h
                obtain ⟨r20, h21, h⟩ := obind h
                replace h := Option.some.inj h
                subst h
                exact ⟨CTri.toFin prim_ok mixed Tryz.func88 (by kernel_rfl) 3000 [.no, .bit false, .bit false, .bit false, .bit false, .bit false, .bit true, .no, .call [0, 1, 2] [.cells [.mp 1 0, .val (.pointer none), .sl (flat tmCells cx) (List.length cx) .no, .sl (flat intC ny) (List.length ny) .no, .sl (flat tmCells ty) (List.length ty) .no, .sl (flat entL yl) (List.length yl) .no], .cells [.sl (flat entL M.l) (List.length M.l) .no, .mp 2 0, .sl (flat intC M.args) (List.length M.args) .no, .sl (flat intC M.own) (List.length M.own) .no], .cells [.sl (flat entL M.rl) (List.length M.rl) .no, .sl (flat conL M.parts) (List.length M.parts) .no]] 0 (.tup [tmA r20.1, ai r20.2]) none, .no, .no, .no] [] [0, 1, 2] [] false (by kernel_rfl) (ObsOk.cons (obBit h1) (ObsOk.cons (obBit h4) (ObsOk.cons (obBit h7) (ObsOk.cons (obBit h10) (ObsOk.cons (obBit h15) (ObsOk.cons (obBit h19) (ObsOk.cons (obCall (c155vn h21)) (ObsOk.cons (obData (dT cx)) (ObsOk.cons (obData (dI ny)) (ObsOk.cons (obData (dT ty)) (ObsOk.cons (obData (dE yl)) (ObsOk.cons (obData (dE M.l)) (ObsOk.cons (obData (dI M.args)) (ObsOk.cons (obData (dI M.own)) (ObsOk.cons (obData (dE M.rl)) (ObsOk.cons (obData (dC M.parts)) (ObsOk.cons (obData (dT r20.1.sub)) ObsOk.nil))))))))))))))))) (by decide), ⟨(show 0 < 3 by decide), ⟨trivial, trivial, ⟨trivial, dT _⟩, trivial⟩, trivial⟩, (forall_cons ⟨(show 1 < 3 by decide), trivial, ⟨trivial, dT _⟩, ⟨trivial, dI _⟩, ⟨trivial, dT _⟩, ⟨trivial, dE _⟩, trivial⟩ (forall_cons ⟨⟨trivial, dE _⟩, (show 2 < 3 by decide), ⟨trivial, dI _⟩, ⟨trivial, dI _⟩, trivial⟩ (forall_cons ⟨⟨trivial, dE _⟩, ⟨trivial, dC _⟩, trivial⟩ forall_nil))), ⟨⟨trivial, trivial, dT _, trivial⟩, trivial, trivial⟩, (forall_cons ⟨(show 1 < 3 by decide), trivial, dT _, dI _, dT _, dE _, trivial⟩ (forall_cons ⟨dE _, (show 2 < 3 by decide), dI _, dI _, trivial⟩ (forall_cons ⟨dE _, dC _, trivial⟩ forall_nil)))⟩
              · replace h := ifF h19 h
                rcases bcases (p1.k == 4) with h22 | h22
                · replace h := ifT h22 h
                  obtain ⟨r23, h24, h⟩ := obind h
                  replace h := Option.some.inj h
                  subst h
                  exact ⟨CTri.toFin prim_ok mixed Tryz.func88 (by kernel_rfl) 3000 [.no, .bit false, .bit false, .bit false, .bit false, .bit false, .bit false, .bit true, .no, .call [0, 1, 2] [.cells [.mp 1 0, .val (.pointer none), .sl (flat tmCells cx) (List.length cx) .no, .sl (flat intC ny) (List.length ny) .no, .sl (flat tmCells ty) (List.length ty) .no, .sl (flat entL yl) (List.length yl) .no], .cells [.sl (flat entL M.l) (List.length M.l) .no, .mp 2 0, .sl (flat intC M.args) (List.length M.args) .no, .sl (flat intC M.own) (List.length M.own) .no], .cells [.sl (flat entL M.rl) (List.length M.rl) .no, .sl (flat conL M.parts) (List.length M.parts) .no]] 0 (.tup [tmA r23.1, ai r23.2]) none, .no, .no, .no] [] [0, 1, 2] [] false (by kernel_rfl) (ObsOk.cons (obBit h1) (ObsOk.cons (obBit h4) (ObsOk.cons (obBit h7) (ObsOk.cons (obBit h10) (ObsOk.cons (obBit h15) (ObsOk.cons (obBit h19) (ObsOk.cons (obBit h22) (ObsOk.cons (obCall (c156vn h24)) (ObsOk.cons (obData (dT cx)) (ObsOk.cons (obData (dI ny)) (ObsOk.cons (obData (dT ty)) (ObsOk.cons (obData (dE yl)) (ObsOk.cons (obData (dE M.l)) (ObsOk.cons (obData (dI M.args)) (ObsOk.cons (obData (dI M.own)) (ObsOk.cons (obData (dE M.rl)) (ObsOk.cons (obData (dC M.parts)) (ObsOk.cons (obData (dT r23.1.sub)) ObsOk.nil)))))))))))))))))) (by decide), ⟨(show 0 < 3 by decide), ⟨trivial, trivial, ⟨trivial, dT _⟩, trivial⟩, trivial⟩, (forall_cons ⟨(show 1 < 3 by decide), trivial, ⟨trivial, dT _⟩, ⟨trivial, dI _⟩, ⟨trivial, dT _⟩, ⟨trivial, dE _⟩, trivial⟩ (forall_cons ⟨⟨trivial, dE _⟩, (show 2 < 3 by decide), ⟨trivial, dI _⟩, ⟨trivial, dI _⟩, trivial⟩ (forall_cons ⟨⟨trivial, dE _⟩, ⟨trivial, dC _⟩, trivial⟩ forall_nil))), ⟨⟨trivial, trivial, dT _, trivial⟩, trivial, trivial⟩, (forall_cons ⟨(show 1 < 3 by decide), trivial, dT _, dI _, dT _, dE _, trivial⟩ (forall_cons ⟨dE _, (show 2 < 3 by decide), dI _, dI _, trivial⟩ (forall_cons ⟨dE _, dC _, trivial⟩ forall_nil)))⟩
                · replace h := ifF h22 h
                  obtain ⟨r25, h26, h⟩ := obind h
                  replace h := Option.some.inj h
                  subst h
                  exact ⟨CTri.toFin prim_ok mixed Tryz.func88 (by kernel_rfl) 3000 [.no, .bit false, .bit false, .bit false, .bit false, .bit false, .bit false, .bit false, .no, .call [0, 1, 2] [.cells [.mp 1 0, .val (.pointer none), .sl (flat tmCells cx) (List.length cx) .no, .sl (flat intC ny) (List.length ny) .no, .sl (flat tmCells ty) (List.length ty) .no, .sl (flat entL yl) (List.length yl) .no], .cells [.sl (flat entL M.l) (List.length M.l) .no, .mp 2 0, .sl (flat intC M.args) (List.length M.args) .no, .sl (flat intC M.own) (List.length M.own) .no], .cells [.sl (flat entL M.rl) (List.length M.rl) .no, .sl (flat conL M.parts) (List.length M.parts) .no]] 0 (.tup [tmA r25.1, ai r25.2]) none, .no, .no, .no] [] [0, 1, 2] [] false (by kernel_rfl) (ObsOk.cons (obBit h1) (ObsOk.cons (obBit h4) (ObsOk.cons (obBit h7) (ObsOk.cons (obBit h10) (ObsOk.cons (obBit h15) (ObsOk.cons (obBit h19) (ObsOk.cons (obBit h22) (ObsOk.cons (obCall (ih157vn _ _ h26)) (ObsOk.cons (obData (dT cx)) (ObsOk.cons (obData (dI ny)) (ObsOk.cons (obData (dT ty)) (ObsOk.cons (obData (dE yl)) (ObsOk.cons (obData (dE M.l)) (ObsOk.cons (obData (dI M.args)) (ObsOk.cons (obData (dI M.own)) (ObsOk.cons (obData (dE M.rl)) (ObsOk.cons (obData (dC M.parts)) (ObsOk.cons (obData (dT r25.1.sub)) ObsOk.nil)))))))))))))))))) (by decide), ⟨(show 0 < 3 by decide), ⟨trivial, trivial, ⟨trivial, dT _⟩, trivial⟩, trivial⟩, (forall_cons ⟨(show 1 < 3 by decide), trivial, ⟨trivial, dT _⟩, ⟨trivial, dI _⟩, ⟨trivial, dT _⟩, ⟨trivial, dE _⟩, trivial⟩ (forall_cons ⟨⟨trivial, dE _⟩, (show 2 < 3 by decide), ⟨trivial, dI _⟩, ⟨trivial, dI _⟩, trivial⟩ (forall_cons ⟨⟨trivial, dE _⟩, ⟨trivial, dC _⟩, trivial⟩ forall_nil))), ⟨⟨trivial, trivial, dT _, trivial⟩, trivial, trivial⟩, (forall_cons ⟨(show 1 < 3 by decide), trivial, dT _, dI _, dT _, dE _, trivial⟩ (forall_cons ⟨dE _, (show 2 < 3 by decide), dI _, dI _, trivial⟩ (forall_cons ⟨dE _, dC _, trivial⟩ forall_nil)))⟩
  · intro g88vn ih88vn p1 r h
    obtain ⟨r1, h2, h⟩ := obind h
    rcases bcases (r1 != 0) with h3 | h3
    · replace h := ifT h3 h
      replace h := Option.some.inj h
      subst h
      exact ⟨CTri.toFin prim_ok mixed Tryz.func157 (by kernel_rfl) 3000 [.no, .call [] [] 0 (ai r1) none, .bit true, .no] [] [0, 1, 2] [] false (by kernel_rfl) (ObsOk.cons (obCall (c141vn h2)) (ObsOk.cons (obBit h3) (ObsOk.cons (obData (dT cx)) (ObsOk.cons (obData (dI ny)) (ObsOk.cons (obData (dT ty)) (ObsOk.cons (obData (dE yl)) (ObsOk.cons (obData (dE M.l)) (ObsOk.cons (obData (dI M.args)) (ObsOk.cons (obData (dI M.own)) (ObsOk.cons (obData (dE M.rl)) (ObsOk.cons (obData (dC M.parts)) (ObsOk.cons (obData (dT ([] : List Tm))) ObsOk.nil)))))))))))) (by decide), ⟨(show 0 < 3 by decide), ⟨trivial, trivial, ⟨trivial, dT _⟩, trivial⟩, trivial⟩, (forall_cons ⟨(show 1 < 3 by decide), trivial, ⟨trivial, dT _⟩, ⟨trivial, dI _⟩, ⟨trivial, dT _⟩, ⟨trivial, dE _⟩, trivial⟩ (forall_cons ⟨⟨trivial, dE _⟩, (show 2 < 3 by decide), ⟨trivial, dI _⟩, ⟨trivial, dI _⟩, trivial⟩ (forall_cons ⟨⟨trivial, dE _⟩, ⟨trivial, dC _⟩, trivial⟩ forall_nil))), ⟨⟨trivial, trivial, dT _, trivial⟩, trivial, trivial⟩, (forall_cons ⟨(show 1 < 3 by decide), trivial, dT _, dI _, dT _, dE _, trivial⟩ (forall_cons ⟨dE _, (show 2 < 3 by decide), dI _, dI _, trivial⟩ (forall_cons ⟨dE _, dC _, trivial⟩ forall_nil)))⟩
    · replace h := ifF h3 h
      obtain ⟨x4, h5, h⟩ := obind h
      obtain ⟨r6, h7, h⟩ := obind h
      rcases bcases (r6.2 != 0) with h8 | h8
      · replace h := ifT h8 h
        replace h := Option.some.inj h
        subst h
        exact ⟨CTri.toFin prim_ok mixed Tryz.func157 (by kernel_rfl) 3000 [.no, .call [] [] 0 (ai r1) none, .bit false, .no, .av (.ip (tmL x4 ++ flat tmCells (List.drop (Int.toNat 0 + 1) p1.sub))), .no, .call [0, 1, 2] [.cells [.mp 1 0, .val (.pointer none), .sl (flat tmCells cx) (List.length cx) .no, .sl (flat intC ny) (List.length ny) .no, .sl (flat tmCells ty) (List.length ty) .no, .sl (flat entL yl) (List.length yl) .no], .cells [.sl (flat entL M.l) (List.length M.l) .no, .mp 2 0, .sl (flat intC M.args) (List.length M.args) .no, .sl (flat intC M.own) (List.length M.own) .no], .cells [.sl (flat entL M.rl) (List.length M.rl) .no, .sl (flat conL M.parts) (List.length M.parts) .no]] 0 (.tup [tmA r6.1, ai r6.2]) none, .no, .no, .no, .bit true, .no] [] [0, 1, 2] [] false (by kernel_rfl) (ObsOk.cons (obCall (c141vn h2)) (ObsOk.cons (obBit h3) (ObsOk.cons (obAv (ix22 (o := .no) h5)) (ObsOk.cons (obCall (ih88vn _ _ h7)) (ObsOk.cons (obBit h8) (ObsOk.cons (obData (dT cx)) (ObsOk.cons (obData (dI ny)) (ObsOk.cons (obData (dT ty)) (ObsOk.cons (obData (dE yl)) (ObsOk.cons (obData (dE M.l)) (ObsOk.cons (obData (dI M.args)) (ObsOk.cons (obData (dI M.own)) (ObsOk.cons (obData (dE M.rl)) (ObsOk.cons (obData (dC M.parts)) (ObsOk.cons (obData (dT ([] : List Tm))) ObsOk.nil))))))))))))))) (by decide), ⟨(show 0 < 3 by decide), ⟨trivial, trivial, ⟨trivial, dT _⟩, trivial⟩, trivial⟩, (forall_cons ⟨(show 1 < 3 by decide), trivial, ⟨trivial, dT _⟩, ⟨trivial, dI _⟩, ⟨trivial, dT _⟩, ⟨trivial, dE _⟩, trivial⟩ (forall_cons ⟨⟨trivial, dE _⟩, (show 2 < 3 by decide), ⟨trivial, dI _⟩, ⟨trivial, dI _⟩, trivial⟩ (forall_cons ⟨⟨trivial, dE _⟩, ⟨trivial, dC _⟩, trivial⟩ forall_nil))), ⟨⟨trivial, trivial, dT _, trivial⟩, trivial, trivial⟩, (forall_cons ⟨(show 1 < 3 by decide), trivial, dT _, dI _, dT _, dE _, trivial⟩ (forall_cons ⟨dE _, (show 2 < 3 by decide), dI _, dI _, trivial⟩ (forall_cons ⟨dE _, dC _, trivial⟩ forall_nil)))⟩
      · replace h := ifF h8 h
        cases h
theorem c88vn {p1 : Tm} {M : Mach} {yl : List Ent} {cx : List Tm} {ny : List Int} {ty : List Tm} {r : Tm × Int} (h : g88vn p1 M yl cx ny ty = some r) : CT Tryz.prog 88 [.cells [.mp 1 0, .val (.pointer none), .sl (flat tmCells cx) (List.length cx) .no, .sl (flat intC ny) (List.length ny) .no, .sl (flat tmCells ty) (List.length ty) .no, .sl (flat entL yl) (List.length yl) .no], .cells [.sl (flat entL M.l) (List.length M.l) .no, .mp 2 0, .sl (flat intC M.args) (List.length M.args) .no, .sl (flat intC M.own) (List.length M.own) .no], .cells [.sl (flat entL M.rl) (List.length M.rl) .no, .sl (flat conL M.parts) (List.length M.parts) .no]] [.mp 0 0, tmA p1] (.tup [tmA r.1, ai r.2]) [.cells [.mp 1 0, .val (.pointer none), .sl (flat tmCells cx) (List.length cx) .no, .sl (flat intC ny) (List.length ny) .no, .sl (flat tmCells ty) (List.length ty) .no, .sl (flat entL yl) (List.length yl) .no], .cells [.sl (flat entL M.l) (List.length M.l) .no, .mp 2 0, .sl (flat intC M.args) (List.length M.args) .no, .sl (flat intC M.own) (List.length M.own) .no], .cells [.sl (flat entL M.rl) (List.length M.rl) .no, .sl (flat conL M.parts) (List.length M.parts) .no]] 0 := (a88vn_157vn M yl cx ny ty).1 _ _ h
theorem c157vn {p1 : Tm} {M : Mach} {yl : List Ent} {cx : List Tm} {ny : List Int} {ty : List Tm} {r : Tm × Int} (h : g157vn p1 M yl cx ny ty = some r) : CT Tryz.prog 157 [.cells [.mp 1 0, .val (.pointer none), .sl (flat tmCells cx) (List.length cx) .no, .sl (flat intC ny) (List.length ny) .no, .sl (flat tmCells ty) (List.length ty) .no, .sl (flat entL yl) (List.length yl) .no], .cells [.sl (flat entL M.l) (List.length M.l) .no, .mp 2 0, .sl (flat intC M.args) (List.length M.args) .no, .sl (flat intC M.own) (List.length M.own) .no], .cells [.sl (flat entL M.rl) (List.length M.rl) .no, .sl (flat conL M.parts) (List.length M.parts) .no]] [.mp 0 0, tmA p1] (.tup [tmA r.1, ai r.2]) [.cells [.mp 1 0, .val (.pointer none), .sl (flat tmCells cx) (List.length cx) .no, .sl (flat intC ny) (List.length ny) .no, .sl (flat tmCells ty) (List.length ty) .no, .sl (flat entL yl) (List.length yl) .no], .cells [.sl (flat entL M.l) (List.length M.l) .no, .mp 2 0, .sl (flat intC M.args) (List.length M.args) .no, .sl (flat intC M.own) (List.length M.own) .no], .cells [.sl (flat entL M.rl) (List.length M.rl) .no, .sl (flat conL M.parts) (List.length M.parts) .no]] 0 := (a88vn_157vn M yl cx ny ty).2 _ _ h
theorem c89vn {p1 : Tm} {M : Mach} {yl : List Ent} {cx : List Tm} {ny : List Int} {ty : List Tm} {r : Int × Int} (h : g89vn p1 M yl cx ny ty = some r) : CT Tryz.prog 89 [.cells [.mp 1 0, .val (.pointer none), .sl (flat tmCells cx) (List.length cx) .no, .sl (flat intC ny) (List.length ny) .no, .sl (flat tmCells ty) (List.length ty) .no, .sl (flat entL yl) (List.length yl) .no], .cells [.sl (flat entL M.l) (List.length M.l) .no, .mp 2 0, .sl (flat intC M.args) (List.length M.args) .no, .sl (flat intC M.own) (List.length M.own) .no], .cells [.sl (flat entL M.rl) (List.length M.rl) .no, .sl (flat conL M.parts) (List.length M.parts) .no]] [.mp 0 0, tmA p1] (.tup [ai r.1, ai r.2]) [.cells [.mp 1 0, .val (.pointer none), .sl (flat tmCells cx) (List.length cx) .no, .sl (flat intC ny) (List.length ny) .no, .sl (flat tmCells ty) (List.length ty) .no, .sl (flat entL yl) (List.length yl) .no], .cells [.sl (flat entL M.l) (List.length M.l) .no, .mp 2 0, .sl (flat intC M.args) (List.length M.args) .no, .sl (flat intC M.own) (List.length M.own) .no], .cells [.sl (flat entL M.rl) (List.length M.rl) .no, .sl (flat conL M.parts) (List.length M.parts) .no]] 0 := by
  unfold g89vn at h
  cases h
theorem c101vn {p1 : Tm} {p2 : Tm} {M : Mach} {yl : List Ent} {cx : List Tm} {ny : List Int} {ty : List Tm} {r : Int} (h : g101vn p1 p2 M yl cx ny ty = some r) : CT Tryz.prog 101 [.cells [.mp 1 0, .val (.pointer none), .sl (flat tmCells cx) (List.length cx) .no, .sl (flat intC ny) (List.length ny) .no, .sl (flat tmCells ty) (List.length ty) .no, .sl (flat entL yl) (List.length yl) .no], .cells [.sl (flat entL M.l) (List.length M.l) .no, .mp 2 0, .sl (flat intC M.args) (List.length M.args) .no, .sl (flat intC M.own) (List.length M.own) .no], .cells [.sl (flat entL M.rl) (List.length M.rl) .no, .sl (flat conL M.parts) (List.length M.parts) .no]] [.mp 0 0, tmA p1, tmA p2] (ai r) [.cells [.mp 1 0, .val (.pointer none), .sl (flat tmCells cx) (List.length cx) .no, .sl (flat intC ny) (List.length ny) .no, .sl (flat tmCells ty) (List.length ty) .no, .sl (flat entL yl) (List.length yl) .no], .cells [.sl (flat entL M.l) (List.length M.l) .no, .mp 2 0, .sl (flat intC M.args) (List.length M.args) .no, .sl (flat intC M.own) (List.length M.own) .no], .cells [.sl (flat entL M.rl) (List.length M.rl) .no, .sl (flat conL M.parts) (List.length M.parts) .no]] 0 := by
  unfold g101vn at h
  cases h
theorem c159vn {p1 : Tm} {p2 : Tm} {M : Mach} {yl : List Ent} {cx : List Tm} {ny : List Int} {ty : List Tm} {r : Int} (h : g159vn p1 p2 M yl cx ny ty = some r) : CT Tryz.prog 159 [.cells [.mp 1 0, .val (.pointer none), .sl (flat tmCells cx) (List.length cx) .no, .sl (flat intC ny) (List.length ny) .no, .sl (flat tmCells ty) (List.length ty) .no, .sl (flat entL yl) (List.length yl) .no], .cells [.sl (flat entL M.l) (List.length M.l) .no, .mp 2 0, .sl (flat intC M.args) (List.length M.args) .no, .sl (flat intC M.own) (List.length M.own) .no], .cells [.sl (flat entL M.rl) (List.length M.rl) .no, .sl (flat conL M.parts) (List.length M.parts) .no]] [.mp 0 0, tmA p1, tmA p2] (ai r) [.cells [.mp 1 0, .val (.pointer none), .sl (flat tmCells cx) (List.length cx) .no, .sl (flat intC ny) (List.length ny) .no, .sl (flat tmCells ty) (List.length ty) .no, .sl (flat entL yl) (List.length yl) .no], .cells [.sl (flat entL M.l) (List.length M.l) .no, .mp 2 0, .sl (flat intC M.args) (List.length M.args) .no, .sl (flat intC M.own) (List.length M.own) .no], .cells [.sl (flat entL M.rl) (List.length M.rl) .no, .sl (flat conL M.parts) (List.length M.parts) .no]] 0 := by
  unfold g159vn at h
  cases h

/- scholium/infer.Infer -/
def g32v0 (p1 : Tm) (M : Mach) (fl : Int) (fu : Int) (cx : List Tm) (ny : List Int) (ty : List Tm) : Option (Tm × Int × Int × Int) :=
  (g87v0 [p1] M fl fu cx ny ty) >>= fun r1 =>
  match r1 with
  | Sum.inl y3 =>
    if (y3.1 != 0) = true then
      some ((Tm.mk 0 0 []), y3.1, fl, fu)
    else
      (g88 p1 M fl fu y3.2.2.2.2 y3.2.1 y3.2.2.1 y3.2.2.2.1) >>= fun r5 =>
      if (r5.2.1 != 0) = true then
        some ((Tm.mk 0 0 []), r5.2.1, r5.2.2.1, r5.2.2.2)
      else
        (g72 r5.1) >>= fun r8 =>
        some (r8, 0, r5.2.2.1, r5.2.2.2)
  | Sum.inr y10 =>
    if (y10 != 0) = true then
      some ((Tm.mk 0 0 []), y10, fl, fu)
    else
      none
theorem c32v0 {p1 : Tm} {M : Mach} {fl : Int} {fu : Int} {cx : List Tm} {ny : List Int} {ty : List Tm} {r : Tm × Int × Int × Int} (h : g32v0 p1 M fl fu cx ny ty = some r) : CT Tryz.prog 32 [.cells [.sl (flat entL M.l) (List.length M.l) .no, .mp 1 0, .sl (flat intC M.args) (List.length M.args) .no, .sl (flat intC M.own) (List.length M.own) .no], .cells [.sl (flat entL M.rl) (List.length M.rl) .no, .sl (flat conL M.parts) (List.length M.parts) .no], .cells [ai fl, ai fu]] [.agg [.mp 0 0, .mp 2 0, .sl (flat tmCells cx) (List.length cx) .no, .sl (flat intC ny) (List.length ny) .no, .sl (flat tmCells ty) (List.length ty) .no], tmA p1] (.tup [tmA r.1, ai r.2.1]) [.cells [.sl (flat entL M.l) (List.length M.l) .no, .mp 1 0, .sl (flat intC M.args) (List.length M.args) .no, .sl (flat intC M.own) (List.length M.own) .no], .cells [.sl (flat entL M.rl) (List.length M.rl) .no, .sl (flat conL M.parts) (List.length M.parts) .no], .cells [ai r.2.2.1, ai r.2.2.2]] 0 := by
  unfold g32v0 at h
  obtain ⟨r1, h2, h⟩ := obind h
  rcases r1 with y3 | y10
  · dsimp only at h
    rcases bcases (y3.1 != 0) with h4 | h4
    · replace h := ifT h4 h
      replace h := Option.some.inj h
      subst h
      exact ⟨CTri.toFin prim_ok mixed Tryz.func32 (by kernel_rfl) 3000 [.no, .no, .sl (flat tmCells [p1]) (List.length [p1]), .call [0, 1, 2] [.cells [.sl (flat entL M.l) (List.length M.l) .no, .mp 1 0, .sl (flat intC M.args) (List.length M.args) .no, .sl (flat intC M.own) (List.length M.own) .no], .cells [.sl (flat entL M.rl) (List.length M.rl) .no, .sl (flat conL M.parts) (List.length M.parts) .no], .cells [ai fl, ai fu], .cells [.mp 0 0, .mp 2 0, .sl (flat tmCells y3.2.1) (List.length y3.2.1) .no, .sl (flat intC y3.2.2.1) (List.length y3.2.2.1) .no, .sl (flat tmCells y3.2.2.2.1) (List.length y3.2.2.2.1) .no, .sl (flat entL y3.2.2.2.2) (List.length y3.2.2.2.2) .no]] 0 (.tup [.mp 3 0, ai y3.1]) none, .no, .no, .bit true, .no] [] [0, 1, 2] [] false (by kernel_rfl) (ObsOk.cons (obLit [p1]) (ObsOk.cons (obCall (c87v0 h2)) (ObsOk.cons (obBit h4) (ObsOk.cons (obData (dE M.l)) (ObsOk.cons (obData (dI M.args)) (ObsOk.cons (obData (dI M.own)) (ObsOk.cons (obData (dE M.rl)) (ObsOk.cons (obData (dC M.parts)) (ObsOk.cons (obData (dT ([] : List Tm))) ObsOk.nil))))))))) (by decide), ⟨⟨(show 0 < 3 by decide), (show 2 < 3 by decide), ⟨trivial, dT _⟩, ⟨trivial, dI _⟩, ⟨trivial, dT _⟩, trivial⟩, ⟨trivial, trivial, ⟨trivial, dT _⟩, trivial⟩, trivial⟩, (forall_cons ⟨⟨trivial, dE _⟩, (show 1 < 3 by decide), ⟨trivial, dI _⟩, ⟨trivial, dI _⟩, trivial⟩ (forall_cons ⟨⟨trivial, dE _⟩, ⟨trivial, dC _⟩, trivial⟩ (forall_cons ⟨trivial, trivial, trivial⟩ forall_nil))), ⟨⟨trivial, trivial, dT _, trivial⟩, trivial, trivial⟩, (forall_cons ⟨dE _, (show 1 < 3 by decide), dI _, dI _, trivial⟩ (forall_cons ⟨dE _, dC _, trivial⟩ (forall_cons ⟨trivial, trivial, trivial⟩ forall_nil)))⟩
    · replace h := ifF h4 h
      obtain ⟨r5, h6, h⟩ := obind h
      rcases bcases (r5.2.1 != 0) with h7 | h7
      · replace h := ifT h7 h
        replace h := Option.some.inj h
        subst h
        exact ⟨CTri.toFin prim_ok mixed Tryz.func32 (by kernel_rfl) 3000 [.no, .no, .sl (flat tmCells [p1]) (List.length [p1]), .call [0, 1, 2] [.cells [.sl (flat entL M.l) (List.length M.l) .no, .mp 1 0, .sl (flat intC M.args) (List.length M.args) .no, .sl (flat intC M.own) (List.length M.own) .no], .cells [.sl (flat entL M.rl) (List.length M.rl) .no, .sl (flat conL M.parts) (List.length M.parts) .no], .cells [ai fl, ai fu], .cells [.mp 0 0, .mp 2 0, .sl (flat tmCells y3.2.1) (List.length y3.2.1) .no, .sl (flat intC y3.2.2.1) (List.length y3.2.2.1) .no, .sl (flat tmCells y3.2.2.2.1) (List.length y3.2.2.2.1) .no, .sl (flat entL y3.2.2.2.2) (List.length y3.2.2.2.2) .no]] 0 (.tup [.mp 3 0, ai y3.1]) none, .no, .no, .bit false, .no, .call [6, 0, 1, 2] [.cells [.mp 1 0, .mp 3 0, .sl (flat tmCells y3.2.1) (List.length y3.2.1) .no, .sl (flat intC y3.2.2.1) (List.length y3.2.2.1) .no, .sl (flat tmCells y3.2.2.2.1) (List.length y3.2.2.2.1) .no, .sl (flat entL y3.2.2.2.2) (List.length y3.2.2.2.2) .no], .cells [.sl (flat entL M.l) (List.length M.l) .no, .mp 2 0, .sl (flat intC M.args) (List.length M.args) .no, .sl (flat intC M.own) (List.length M.own) .no], .cells [.sl (flat entL M.rl) (List.length M.rl) .no, .sl (flat conL M.parts) (List.length M.parts) .no], .cells [ai r5.2.2.1, ai r5.2.2.2]] 0 (.tup [tmA r5.1, ai r5.2.1]) none, .no, .no, .no, .bit true, .no] [] [0, 1, 2] [] false (by kernel_rfl) (ObsOk.cons (obLit [p1]) (ObsOk.cons (obCall (c87v0 h2)) (ObsOk.cons (obBit h4) (ObsOk.cons (obCall (c88 h6)) (ObsOk.cons (obBit h7) (ObsOk.cons (obData (dE M.l)) (ObsOk.cons (obData (dI M.args)) (ObsOk.cons (obData (dI M.own)) (ObsOk.cons (obData (dE M.rl)) (ObsOk.cons (obData (dC M.parts)) (ObsOk.cons (obData (dT ([] : List Tm))) ObsOk.nil))))))))))) (by decide), ⟨⟨(show 0 < 3 by decide), (show 2 < 3 by decide), ⟨trivial, dT _⟩, ⟨trivial, dI _⟩, ⟨trivial, dT _⟩, trivial⟩, ⟨trivial, trivial, ⟨trivial, dT _⟩, trivial⟩, trivial⟩, (forall_cons ⟨⟨trivial, dE _⟩, (show 1 < 3 by decide), ⟨trivial, dI _⟩, ⟨trivial, dI _⟩, trivial⟩ (forall_cons ⟨⟨trivial, dE _⟩, ⟨trivial, dC _⟩, trivial⟩ (forall_cons ⟨trivial, trivial, trivial⟩ forall_nil))), ⟨⟨trivial, trivial, dT _, trivial⟩, trivial, trivial⟩, (forall_cons ⟨dE _, (show 1 < 3 by decide), dI _, dI _, trivial⟩ (forall_cons ⟨dE _, dC _, trivial⟩ (forall_cons ⟨trivial, trivial, trivial⟩ forall_nil)))⟩
      · replace h := ifF h7 h
        obtain ⟨r8, h9, h⟩ := obind h
        replace h := Option.some.inj h
        subst h
        exact ⟨CTri.toFin prim_ok mixed Tryz.func32 (by kernel_rfl) 3000 [.no, .no, .sl (flat tmCells [p1]) (List.length [p1]), .call [0, 1, 2] [.cells [.sl (flat entL M.l) (List.length M.l) .no, .mp 1 0, .sl (flat intC M.args) (List.length M.args) .no, .sl (flat intC M.own) (List.length M.own) .no], .cells [.sl (flat entL M.rl) (List.length M.rl) .no, .sl (flat conL M.parts) (List.length M.parts) .no], .cells [ai fl, ai fu], .cells [.mp 0 0, .mp 2 0, .sl (flat tmCells y3.2.1) (List.length y3.2.1) .no, .sl (flat intC y3.2.2.1) (List.length y3.2.2.1) .no, .sl (flat tmCells y3.2.2.2.1) (List.length y3.2.2.2.1) .no, .sl (flat entL y3.2.2.2.2) (List.length y3.2.2.2.2) .no]] 0 (.tup [.mp 3 0, ai y3.1]) none, .no, .no, .bit false, .no, .call [6, 0, 1, 2] [.cells [.mp 1 0, .mp 3 0, .sl (flat tmCells y3.2.1) (List.length y3.2.1) .no, .sl (flat intC y3.2.2.1) (List.length y3.2.2.1) .no, .sl (flat tmCells y3.2.2.2.1) (List.length y3.2.2.2.1) .no, .sl (flat entL y3.2.2.2.2) (List.length y3.2.2.2.2) .no], .cells [.sl (flat entL M.l) (List.length M.l) .no, .mp 2 0, .sl (flat intC M.args) (List.length M.args) .no, .sl (flat intC M.own) (List.length M.own) .no], .cells [.sl (flat entL M.rl) (List.length M.rl) .no, .sl (flat conL M.parts) (List.length M.parts) .no], .cells [ai r5.2.2.1, ai r5.2.2.2]] 0 (.tup [tmA r5.1, ai r5.2.1]) none, .no, .no, .no, .bit false, .no, .call [] [] 0 (tmA r8) none, .no] [] [0, 1, 2] [] false (by kernel_rfl) (ObsOk.cons (obLit [p1]) (ObsOk.cons (obCall (c87v0 h2)) (ObsOk.cons (obBit h4) (ObsOk.cons (obCall (c88 h6)) (ObsOk.cons (obBit h7) (ObsOk.cons (obCall (c72 h9)) (ObsOk.cons (obData (dE M.l)) (ObsOk.cons (obData (dI M.args)) (ObsOk.cons (obData (dI M.own)) (ObsOk.cons (obData (dE M.rl)) (ObsOk.cons (obData (dC M.parts)) (ObsOk.cons (obData (dT r8.sub)) ObsOk.nil)))))))))))) (by decide), ⟨⟨(show 0 < 3 by decide), (show 2 < 3 by decide), ⟨trivial, dT _⟩, ⟨trivial, dI _⟩, ⟨trivial, dT _⟩, trivial⟩, ⟨trivial, trivial, ⟨trivial, dT _⟩, trivial⟩, trivial⟩, (forall_cons ⟨⟨trivial, dE _⟩, (show 1 < 3 by decide), ⟨trivial, dI _⟩, ⟨trivial, dI _⟩, trivial⟩ (forall_cons ⟨⟨trivial, dE _⟩, ⟨trivial, dC _⟩, trivial⟩ (forall_cons ⟨trivial, trivial, trivial⟩ forall_nil))), ⟨⟨trivial, trivial, dT _, trivial⟩, trivial, trivial⟩, (forall_cons ⟨dE _, (show 1 < 3 by decide), dI _, dI _, trivial⟩ (forall_cons ⟨dE _, dC _, trivial⟩ (forall_cons ⟨trivial, trivial, trivial⟩ forall_nil)))⟩
  · dsimp only at h
    rcases bcases (y10 != 0) with h11 | h11
    · replace h := ifT h11 h
      replace h := Option.some.inj h
      subst h
      exact ⟨CTri.toFin prim_ok mixed Tryz.func32 (by kernel_rfl) 3000 [.no, .no, .sl (flat tmCells [p1]) (List.length [p1]), .call [0, 1, 2] [.cells [.sl (flat entL M.l) (List.length M.l) .no, .mp 1 0, .sl (flat intC M.args) (List.length M.args) .no, .sl (flat intC M.own) (List.length M.own) .no], .cells [.sl (flat entL M.rl) (List.length M.rl) .no, .sl (flat conL M.parts) (List.length M.parts) .no], .cells [ai fl, ai fu]] 0 (.tup [.val (.pointer none), ai y10]) none, .no, .no, .bit true, .no] [] [0, 1, 2] [] false (by kernel_rfl) (ObsOk.cons (obLit [p1]) (ObsOk.cons (obCall (c87v0 h2)) (ObsOk.cons (obBit h11) (ObsOk.cons (obData (dE M.l)) (ObsOk.cons (obData (dI M.args)) (ObsOk.cons (obData (dI M.own)) (ObsOk.cons (obData (dE M.rl)) (ObsOk.cons (obData (dC M.parts)) (ObsOk.cons (obData (dT ([] : List Tm))) ObsOk.nil))))))))) (by decide), ⟨⟨(show 0 < 3 by decide), (show 2 < 3 by decide), ⟨trivial, dT _⟩, ⟨trivial, dI _⟩, ⟨trivial, dT _⟩, trivial⟩, ⟨trivial, trivial, ⟨trivial, dT _⟩, trivial⟩, trivial⟩, (forall_cons ⟨⟨trivial, dE _⟩, (show 1 < 3 by decide), ⟨trivial, dI _⟩, ⟨trivial, dI _⟩, trivial⟩ (forall_cons ⟨⟨trivial, dE _⟩, ⟨trivial, dC _⟩, trivial⟩ (forall_cons ⟨trivial, trivial, trivial⟩ forall_nil))), ⟨⟨trivial, trivial, dT _, trivial⟩, trivial, trivial⟩, (forall_cons ⟨dE _, (show 1 < 3 by decide), dI _, dI _, trivial⟩ (forall_cons ⟨dE _, dC _, trivial⟩ (forall_cons ⟨trivial, trivial, trivial⟩ forall_nil)))⟩
    · replace h := ifF h11 h
      cases h

/- scholium/infer.Infer -/
def g32vn (p1 : Tm) (M : Mach) (cx : List Tm) (ny : List Int) (ty : List Tm) : Option (Tm × Int) :=
  (g87vn [p1] M cx ny ty) >>= fun r1 =>
  match r1 with
  | Sum.inl y3 =>
    if (y3.1 != 0) = true then
      some ((Tm.mk 0 0 []), y3.1)
    else
      (g88vn p1 M y3.2.2.2.2 y3.2.1 y3.2.2.1 y3.2.2.2.1) >>= fun r5 =>
      if (r5.2 != 0) = true then
        some ((Tm.mk 0 0 []), r5.2)
      else
        (g72 r5.1) >>= fun r8 =>
        some (r8, 0)
  | Sum.inr y10 =>
    if (y10 != 0) = true then
      some ((Tm.mk 0 0 []), y10)
    else
      none
theorem c32vn {p1 : Tm} {M : Mach} {cx : List Tm} {ny : List Int} {ty : List Tm} {r : Tm × Int} (h : g32vn p1 M cx ny ty = some r) : CT Tryz.prog 32 [.cells [.sl (flat entL M.l) (List.length M.l) .no, .mp 1 0, .sl (flat intC M.args) (List.length M.args) .no, .sl (flat intC M.own) (List.length M.own) .no], .cells [.sl (flat entL M.rl) (List.length M.rl) .no, .sl (flat conL M.parts) (List.length M.parts) .no]] [.agg [.mp 0 0, .val (.pointer none), .sl (flat tmCells cx) (List.length cx) .no, .sl (flat intC ny) (List.length ny) .no, .sl (flat tmCells ty) (List.length ty) .no], tmA p1] (.tup [tmA r.1, ai r.2]) [.cells [.sl (flat entL M.l) (List.length M.l) .no, .mp 1 0, .sl (flat intC M.args) (List.length M.args) .no, .sl (flat intC M.own) (List.length M.own) .no], .cells [.sl (flat entL M.rl) (List.length M.rl) .no, .sl (flat conL M.parts) (List.length M.parts) .no]] 0 := by
  unfold g32vn at h
  obtain ⟨r1, h2, h⟩ := obind h
  rcases r1 with y3 | y10
  · dsimp only at h
    rcases bcases (y3.1 != 0) with h4 | h4
    · replace h := ifT h4 h
      replace h := Option.some.inj h
      subst h
      exact ⟨CTri.toFin prim_ok mixed Tryz.func32 (by kernel_rfl) 3000 [.no, .no, .sl (flat tmCells [p1]) (List.length [p1]), .call [0, 1] [.cells [.sl (flat entL M.l) (List.length M.l) .no, .mp 1 0, .sl (flat intC M.args) (List.length M.args) .no, .sl (flat intC M.own) (List.length M.own) .no], .cells [.sl (flat entL M.rl) (List.length M.rl) .no, .sl (flat conL M.parts) (List.length M.parts) .no], .cells [.mp 0 0, .val (.pointer none), .sl (flat tmCells y3.2.1) (List.length y3.2.1) .no, .sl (flat intC y3.2.2.1) (List.length y3.2.2.1) .no, .sl (flat tmCells y3.2.2.2.1) (List.length y3.2.2.2.1) .no, .sl (flat entL y3.2.2.2.2) (List.length y3.2.2.2.2) .no]] 0 (.tup [.mp 2 0, ai y3.1]) none, .no, .no, .bit true, .no] [] [0, 1] [] false (by kernel_rfl) (ObsOk.cons (obLit [p1]) (ObsOk.cons (obCall (c87vn h2)) (ObsOk.cons (obBit h4) (ObsOk.cons (obData (dE M.l)) (ObsOk.cons (obData (dI M.args)) (ObsOk.cons (obData (dI M.own)) (ObsOk.cons (obData (dE M.rl)) (ObsOk.cons (obData (dC M.parts)) (ObsOk.cons (obData (dT ([] : List Tm))) ObsOk.nil))))))))) (by decide), ⟨⟨(show 0 < 2 by decide), trivial, ⟨trivial, dT _⟩, ⟨trivial, dI _⟩, ⟨trivial, dT _⟩, trivial⟩, ⟨trivial, trivial, ⟨trivial, dT _⟩, trivial⟩, trivial⟩, (forall_cons ⟨⟨trivial, dE _⟩, (show 1 < 2 by decide), ⟨trivial, dI _⟩, ⟨trivial, dI _⟩, trivial⟩ (forall_cons ⟨⟨trivial, dE _⟩, ⟨trivial, dC _⟩, trivial⟩ forall_nil)), ⟨⟨trivial, trivial, dT _, trivial⟩, trivial, trivial⟩, (forall_cons ⟨dE _, (show 1 < 2 by decide), dI _, dI _, trivial⟩ (forall_cons ⟨dE _, dC _, trivial⟩ forall_nil))⟩
    · replace h := ifF h4 h
      obtain ⟨r5, h6, h⟩ := obind h
      rcases bcases (r5.2 != 0) with h7 | h7
      · replace h := ifT h7 h
        replace h := Option.some.inj h
        subst h
        exact ⟨CTri.toFin prim_ok mixed Tryz.func32 (by kernel_rfl) 3000 [.no, .no, .sl (flat tmCells [p1]) (List.length [p1]), .call [0, 1] [.cells [.sl (flat entL M.l) (List.length M.l) .no, .mp 1 0, .sl (flat intC M.args) (List.length M.args) .no, .sl (flat intC M.own) (List.length M.own) .no], .cells [.sl (flat entL M.rl) (List.length M.rl) .no, .sl (flat conL M.parts) (List.length M.parts) .no], .cells [.mp 0 0, .val (.pointer none), .sl (flat tmCells y3.2.1) (List.length y3.2.1) .no, .sl (flat intC y3.2.2.1) (List.length y3.2.2.1) .no, .sl (flat tmCells y3.2.2.2.1) (List.length y3.2.2.2.1) .no, .sl (flat entL y3.2.2.2.2) (List.length y3.2.2.2.2) .no]] 0 (.tup [.mp 2 0, ai y3.1]) none, .no, .no, .bit false, .no, .call [5, 0, 1] [.cells [.mp 1 0, .val (.pointer none), .sl (flat tmCells y3.2.1) (List.length y3.2.1) .no, .sl (flat intC y3.2.2.1) (List.length y3.2.2.1) .no, .sl (flat tmCells y3.2.2.2.1) (List.length y3.2.2.2.1) .no, .sl (flat entL y3.2.2.2.2) (List.length y3.2.2.2.2) .no], .cells [.sl (flat entL M.l) (List.length M.l) .no, .mp 2 0, .sl (flat intC M.args) (List.length M.args) .no, .sl (flat intC M.own) (List.length M.own) .no], .cells [.sl (flat entL M.rl) (List.length M.rl) .no, .sl (flat conL M.parts) (List.length M.parts) .no]] 0 (.tup [tmA r5.1, ai r5.2]) none, .no, .no, .no, .bit true, .no] [] [0, 1] [] false (by kernel_rfl) (ObsOk.cons (obLit [p1]) (ObsOk.cons (obCall (c87vn h2)) (ObsOk.cons (obBit h4) (ObsOk.cons (obCall (c88vn h6)) (ObsOk.cons (obBit h7) (ObsOk.cons (obData (dE M.l)) (ObsOk.cons (obData (dI M.args)) (ObsOk.cons (obData (dI M.own)) (ObsOk.cons (obData (dE M.rl)) (ObsOk.cons (obData (dC M.parts)) (ObsOk.cons (obData (dT ([] : List Tm))) ObsOk.nil))))))))))) (by decide), ⟨⟨(show 0 < 2 by decide), trivial, ⟨trivial, dT _⟩, ⟨trivial, dI _⟩, ⟨trivial, dT _⟩, trivial⟩, ⟨trivial, trivial, ⟨trivial, dT _⟩, trivial⟩, trivial⟩, (forall_cons ⟨⟨trivial, dE _⟩, (show 1 < 2 by decide), ⟨trivial, dI _⟩, ⟨trivial, dI _⟩, trivial⟩ (forall_cons ⟨⟨trivial, dE _⟩, ⟨trivial, dC _⟩, trivial⟩ forall_nil)), ⟨⟨trivial, trivial, dT _, trivial⟩, trivial, trivial⟩, (forall_cons ⟨dE _, (show 1 < 2 by decide), dI _, dI _, trivial⟩ (forall_cons ⟨dE _, dC _, trivial⟩ forall_nil))⟩
      · replace h := ifF h7 h
        obtain ⟨r8, h9, h⟩ := obind h
        replace h := Option.some.inj h
        subst h
        exact ⟨CTri.toFin prim_ok mixed Tryz.func32 (by kernel_rfl) 3000 [.no, .no, .sl (flat tmCells [p1]) (List.length [p1]), .call [0, 1] [.cells [.sl (flat entL M.l) (List.length M.l) .no, .mp 1 0, .sl (flat intC M.args) (List.length M.args) .no, .sl (flat intC M.own) (List.length M.own) .no], .cells [.sl (flat entL M.rl) (List.length M.rl) .no, .sl (flat conL M.parts) (List.length M.parts) .no], .cells [.mp 0 0, .val (.pointer none), .sl (flat tmCells y3.2.1) (List.length y3.2.1) .no, .sl (flat intC y3.2.2.1) (List.length y3.2.2.1) .no, .sl (flat tmCells y3.2.2.2.1) (List.length y3.2.2.2.1) .no, .sl (flat entL y3.2.2.2.2) (List.length y3.2.2.2.2) .no]] 0 (.tup [.mp 2 0, ai y3.1]) none, .no, .no, .bit false, .no, .call [5, 0, 1] [.cells [.mp 1 0, .val (.pointer none), .sl (flat tmCells y3.2.1) (List.length y3.2.1) .no, .sl (flat intC y3.2.2.1) (List.length y3.2.2.1) .no, .sl (flat tmCells y3.2.2.2.1) (List.length y3.2.2.2.1) .no, .sl (flat entL y3.2.2.2.2) (List.length y3.2.2.2.2) .no], .cells [.sl (flat entL M.l) (List.length M.l) .no, .mp 2 0, .sl (flat intC M.args) (List.length M.args) .no, .sl (flat intC M.own) (List.length M.own) .no], .cells [.sl (flat entL M.rl) (List.length M.rl) .no, .sl (flat conL M.parts) (List.length M.parts) .no]] 0 (.tup [tmA r5.1, ai r5.2]) none, .no, .no, .no, .bit false, .no, .call [] [] 0 (tmA r8) none, .no] [] [0, 1] [] false (by kernel_rfl) (ObsOk.cons (obLit [p1]) (ObsOk.cons (obCall (c87vn h2)) (ObsOk.cons (obBit h4) (ObsOk.cons (obCall (c88vn h6)) (ObsOk.cons (obBit h7) (ObsOk.cons (obCall (c72 h9)) (ObsOk.cons (obData (dE M.l)) (ObsOk.cons (obData (dI M.args)) (ObsOk.cons (obData (dI M.own)) (ObsOk.cons (obData (dE M.rl)) (ObsOk.cons (obData (dC M.parts)) (ObsOk.cons (obData (dT r8.sub)) ObsOk.nil)))))))))))) (by decide), ⟨⟨(show 0 < 2 by decide), trivial, ⟨trivial, dT _⟩, ⟨trivial, dI _⟩, ⟨trivial, dT _⟩, trivial⟩, ⟨trivial, trivial, ⟨trivial, dT _⟩, trivial⟩, trivial⟩, (forall_cons ⟨⟨trivial, dE _⟩, (show 1 < 2 by decide), ⟨trivial, dI _⟩, ⟨trivial, dI _⟩, trivial⟩ (forall_cons ⟨⟨trivial, dE _⟩, ⟨trivial, dC _⟩, trivial⟩ forall_nil)), ⟨⟨trivial, trivial, dT _, trivial⟩, trivial, trivial⟩, (forall_cons ⟨dE _, (show 1 < 2 by decide), dI _, dI _, trivial⟩ (forall_cons ⟨dE _, dC _, trivial⟩ forall_nil))⟩
  · dsimp only at h
    rcases bcases (y10 != 0) with h11 | h11
    · replace h := ifT h11 h
      replace h := Option.some.inj h
      subst h
      exact ⟨CTri.toFin prim_ok mixed Tryz.func32 (by kernel_rfl) 3000 [.no, .no, .sl (flat tmCells [p1]) (List.length [p1]), .call [0, 1] [.cells [.sl (flat entL M.l) (List.length M.l) .no, .mp 1 0, .sl (flat intC M.args) (List.length M.args) .no, .sl (flat intC M.own) (List.length M.own) .no], .cells [.sl (flat entL M.rl) (List.length M.rl) .no, .sl (flat conL M.parts) (List.length M.parts) .no]] 0 (.tup [.val (.pointer none), ai y10]) none, .no, .no, .bit true, .no] [] [0, 1] [] false (by kernel_rfl) (ObsOk.cons (obLit [p1]) (ObsOk.cons (obCall (c87vn h2)) (ObsOk.cons (obBit h11) (ObsOk.cons (obData (dE M.l)) (ObsOk.cons (obData (dI M.args)) (ObsOk.cons (obData (dI M.own)) (ObsOk.cons (obData (dE M.rl)) (ObsOk.cons (obData (dC M.parts)) (ObsOk.cons (obData (dT ([] : List Tm))) ObsOk.nil))))))))) (by decide), ⟨⟨(show 0 < 2 by decide), trivial, ⟨trivial, dT _⟩, ⟨trivial, dI _⟩, ⟨trivial, dT _⟩, trivial⟩, ⟨trivial, trivial, ⟨trivial, dT _⟩, trivial⟩, trivial⟩, (forall_cons ⟨⟨trivial, dE _⟩, (show 1 < 2 by decide), ⟨trivial, dI _⟩, ⟨trivial, dI _⟩, trivial⟩ (forall_cons ⟨⟨trivial, dE _⟩, ⟨trivial, dC _⟩, trivial⟩ forall_nil)), ⟨⟨trivial, trivial, dT _, trivial⟩, trivial, trivial⟩, (forall_cons ⟨dE _, (show 1 < 2 by decide), dI _, dI _, trivial⟩ (forall_cons ⟨dE _, dC _, trivial⟩ forall_nil))⟩
    · replace h := ifF h11 h
      cases h

/- scholium/infer.Infer -/
def g32vz (p1 : Tm) (cx : List Tm) (ny : List Int) (ty : List Tm) : Option (Tm × Int) :=
  (g87vz [p1] cx ny ty) >>= fun r1 =>
  if (r1 != 0) = true then
    some ((Tm.mk 0 0 []), r1)
  else
    none
theorem c32vz {p1 : Tm} {cx : List Tm} {ny : List Int} {ty : List Tm} {r : Tm × Int} (h : g32vz p1 cx ny ty = some r) : CT Tryz.prog 32 [] [.agg [.val (.pointer none), .val (.pointer none), .sl (flat tmCells cx) (List.length cx) .no, .sl (flat intC ny) (List.length ny) .no, .sl (flat tmCells ty) (List.length ty) .no], tmA p1] (.tup [tmA r.1, ai r.2]) [] 0 := by
  unfold g32vz at h
  obtain ⟨r1, h2, h⟩ := obind h
  rcases bcases (r1 != 0) with h3 | h3
  · replace h := ifT h3 h
    replace h := Option.some.inj h
    subst h
    exact ⟨CTri.toFin prim_ok mixed Tryz.func32 (by kernel_rfl) 3000 [.no, .no, .sl (flat tmCells [p1]) (List.length [p1]), .call [] [] 0 (.tup [.val (.pointer none), ai r1]) none, .no, .no, .bit true, .no] [] [] [] false (by kernel_rfl) (ObsOk.cons (obLit [p1]) (ObsOk.cons (obCall (c87vz h2)) (ObsOk.cons (obBit h3) (ObsOk.cons (obData (dT ([] : List Tm))) ObsOk.nil)))) (by decide), ⟨⟨trivial, trivial, ⟨trivial, dT _⟩, ⟨trivial, dI _⟩, ⟨trivial, dT _⟩, trivial⟩, ⟨trivial, trivial, ⟨trivial, dT _⟩, trivial⟩, trivial⟩, (fun _ h => nomatch h), ⟨⟨trivial, trivial, dT _, trivial⟩, trivial, trivial⟩, (fun _ h => nomatch h)⟩
  · replace h := ifF h3 h
    cases h

/- scholium/infer.Universe -/
def g33vz (p1 : Tm) (cx : List Tm) (ny : List Int) (ty : List Tm) : Option (Int × Int) :=
  (g87vz [p1] cx ny ty) >>= fun r1 =>
  if (r1 != 0) = true then
    some (0, r1)
  else
    none
theorem c33vz {p1 : Tm} {cx : List Tm} {ny : List Int} {ty : List Tm} {r : Int × Int} (h : g33vz p1 cx ny ty = some r) : CT Tryz.prog 33 [] [.agg [.val (.pointer none), .val (.pointer none), .sl (flat tmCells cx) (List.length cx) .no, .sl (flat intC ny) (List.length ny) .no, .sl (flat tmCells ty) (List.length ty) .no], tmA p1] (.tup [ai r.1, ai r.2]) [] 0 := by
  unfold g33vz at h
  obtain ⟨r1, h2, h⟩ := obind h
  rcases bcases (r1 != 0) with h3 | h3
  · replace h := ifT h3 h
    replace h := Option.some.inj h
    subst h
    exact ⟨CTri.toFin prim_ok mixed Tryz.func33 (by kernel_rfl) 3000 [.no, .no, .sl (flat tmCells [p1]) (List.length [p1]), .call [] [] 0 (.tup [.val (.pointer none), ai r1]) none, .no, .no, .bit true] [] [] [] false (by kernel_rfl) (ObsOk.cons (obLit [p1]) (ObsOk.cons (obCall (c87vz h2)) (ObsOk.cons (obBit h3) ObsOk.nil))) (by decide), ⟨⟨trivial, trivial, ⟨trivial, dT _⟩, ⟨trivial, dI _⟩, ⟨trivial, dT _⟩, trivial⟩, ⟨trivial, trivial, ⟨trivial, dT _⟩, trivial⟩, trivial⟩, (fun _ h => nomatch h), ⟨trivial, trivial, trivial⟩, (fun _ h => nomatch h)⟩
  · replace h := ifF h3 h
    cases h

/- scholium/infer.Tele -/
def g34vzL0 (p1 : List Tm) (v24 : Int) (v8 : Int) : Option (Int × Int) :=
  none
def g34vz (p1 : List Tm) (cx : List Tm) (ny : List Int) (ty : List Tm) : Option (Int × Int) :=
  (g87vz p1 cx ny ty) >>= fun r1 =>
  if (r1 != 0) = true then
    some (0, r1)
  else
    g34vzL0 p1 0 0
def g34vzL0E0 (j : Nat → Value) (p1 : List Tm) (v24 : Int) (v8 : Int) : List AV := [.val (j 0), .val (j 1), .val (j 2), .val (j 3), .val (j 4), .val (j 5), .val (.pointer none), .val (j 7), ai v8, .val (j 9), .val (j 10), .val (j 11), .val (j 12), .val (j 13), .val (j 14), .val (j 15), .val (j 16), .val (j 17), .val (j 18), .val (j 19), .val (j 20), .val (j 21), .sl (flat tmCells p1) (List.length p1) .no, ai (List.length p1 : Int), ai v24, .val (j 25), .val (j 26), .val (j 27), .val (j 28), .val (j 29), .val (j 30), .val (j 31), .val (j 32), .val (j 33), .val (j 34), .val (j 35), .val (j 36), .val (j 37), .val (j 38), .val (j 39), .val (j 40), .val (j 41), .val (j 42), .val (j 43), .val (j 44)]
def g34vzL0S0 (p1 : List Tm) (v24 : Int) (v8 : Int) : LSt := ⟨[], 0, [], 0, []⟩
theorem l34vzL0 {p1 : List Tm} {v24 : Int} {v8 : Int} {r : Int × Int} (h : g34vzL0 p1 v24 v8 = some r) : (∀ j, Dl Tryz.prog 0 (inn (inn (rgt (lft (rgt (rgt (rgt (rgt (bod Tryz.f34))))))))) (g34vzL0E0 j p1 v24 v8) (g34vzL0S0 p1 v24 v8) (frameQ Tryz.prog 0 (FinQ Tryz.prog 0 Tryz.f34 (.tup [ai r.1, ai r.2]) [] 0) [.blk 0, .seq (rgt (rgt (rgt (rgt (rgt (bod Tryz.f34))))))])) := by
  unfold g34vzL0 at h
  cases h
theorem c34vz {p1 : List Tm} {cx : List Tm} {ny : List Int} {ty : List Tm} {r : Int × Int} (h : g34vz p1 cx ny ty = some r) : CT Tryz.prog 34 [] [.agg [.val (.pointer none), .val (.pointer none), .sl (flat tmCells cx) (List.length cx) .no, .sl (flat intC ny) (List.length ny) .no, .sl (flat tmCells ty) (List.length ty) .no], .sl (flat tmCells p1) (List.length p1) .no] (.tup [ai r.1, ai r.2]) [] 0 := by
  unfold g34vz at h
  obtain ⟨r1, h2, h⟩ := obind h
  rcases bcases (r1 != 0) with h3 | h3
  · replace h := ifT h3 h
    replace h := Option.some.inj h
    subst h
    exact ⟨CTri.toFin prim_ok mixed Tryz.func34 (by kernel_rfl) 3000 [.no, .call [] [] 0 (.tup [.val (.pointer none), ai r1]) none, .no, .no, .bit true] [] [] [] false (by kernel_rfl) (ObsOk.cons (obCall (c87vz h2)) (ObsOk.cons (obBit h3) ObsOk.nil)) (by decide), ⟨⟨trivial, trivial, ⟨trivial, dT _⟩, ⟨trivial, dI _⟩, ⟨trivial, dT _⟩, trivial⟩, ⟨trivial, dT _⟩, trivial⟩, (fun _ h => nomatch h), ⟨trivial, trivial, trivial⟩, (fun _ h => nomatch h)⟩
  · replace h := ifF h3 h
    exact ⟨CTri.toHead prim_ok mixed Tryz.func34 (by kernel_rfl) 3000 [.no, .call [] [] 0 (.tup [.val (.pointer none), ai r1]) none, .no, .no, .bit false, .no] [] [] [] [6, 8, 22, 23, 24] (E := fun j => g34vzL0E0 j p1 0 0) (S := g34vzL0S0 p1 0 0) (fun j => by kernel_rfl) (ObsOk.cons (obCall (c87vz h2)) (ObsOk.cons (obBit h3) (ObsOk.cons (obData (dT p1)) ObsOk.nil))) (l34vzL0 h), ⟨⟨trivial, trivial, ⟨trivial, dT _⟩, ⟨trivial, dI _⟩, ⟨trivial, dT _⟩, trivial⟩, ⟨trivial, dT _⟩, trivial⟩, (fun _ h => nomatch h), ⟨trivial, trivial, trivial⟩, (fun _ h => nomatch h)⟩

/- (*sync/atomic.Int64).Store -/
def g69v0 (p1 : Int) (fl : Int) (fu : Int) : Option (Int) :=
  some p1
theorem c69v0 {p1 : Int} {fl : Int} {fu : Int} {r : Int} (h : g69v0 p1 fl fu = some r) : CT Tryz.prog 69 [.cells [ai fl, ai fu]] [.mp 0 0, ai p1] (.tup []) [.cells [ai r, ai fu]] 0 := by
  unfold g69v0 at h
  replace h := Option.some.inj h
  subst h
  exact ⟨CTri.toFin prim_ok mixed Tryz.func69 (by kernel_rfl) 3000 [.no] [] [0] [] false (by kernel_rfl) ObsOk.nil (by decide), ⟨(show 0 < 1 by decide), trivial, trivial⟩, (forall_cons ⟨trivial, trivial, trivial⟩ forall_nil), trivial, (forall_cons ⟨trivial, trivial, trivial⟩ forall_nil)⟩

/- scholium/meter.New -/
def g15 (p0 : Int) : Option ((Int) ⊕ (Int × Int × Int)) :=
  if decide (p0 < 0) = true then
    some (Sum.inl 5)
  else
    if decide (p0 > 1048576) = true then
      some (Sum.inl 5)
    else
      (g69v0 p0 0 0) >>= fun r3 =>
      some (Sum.inr (0, r3, 0))
theorem c15 {p0 : Int} {r : (Int) ⊕ (Int × Int × Int)} (h : g15 p0 = some r) : (match (generalizing := false) r with | Sum.inl x => CT Tryz.prog 15 [] [ai p0] (.tup [.val (.pointer none), ai x]) [] 0 | Sum.inr x => CT Tryz.prog 15 [] [ai p0] (.tup [.mp 0 0, ai x.1]) [.cells [ai x.2.1, ai x.2.2]] 0) := by
  unfold g15 at h
  rcases bcases (decide (p0 < 0)) with h1 | h1
  · replace h := ifT h1 h
    replace h := Option.some.inj h
    subst h
    exact ⟨CTri.toFin prim_ok mixed Tryz.func15 (by kernel_rfl) 3000 [.bit true] [] [] [] false (by kernel_rfl) (ObsOk.cons (obBit h1) ObsOk.nil) (by decide), ⟨trivial, trivial⟩, (fun _ h => nomatch h), ⟨trivial, trivial, trivial⟩, (fun _ h => nomatch h)⟩
  · replace h := ifF h1 h
    rcases bcases (decide (p0 > 1048576)) with h2 | h2
    · replace h := ifT h2 h
      replace h := Option.some.inj h
      subst h
      exact ⟨CTri.toFin prim_ok mixed Tryz.func15 (by kernel_rfl) 3000 [.bit false, .bit true] [] [] [] false (by kernel_rfl) (ObsOk.cons (obBit h1) (ObsOk.cons (obBit h2) ObsOk.nil)) (by decide), ⟨trivial, trivial⟩, (fun _ h => nomatch h), ⟨trivial, trivial, trivial⟩, (fun _ h => nomatch h)⟩
    · replace h := ifF h2 h
      obtain ⟨r3, h4, h⟩ := obind h
      replace h := Option.some.inj h
      subst h
      exact ⟨CTri.toFin prim_ok mixed Tryz.func15 (by kernel_rfl) 3000 [.bit false, .bit false, .call [0] [.cells [ai r3, ai 0]] 0 (.tup []) none] [] [0] [] false (by kernel_rfl) (ObsOk.cons (obBit h1) (ObsOk.cons (obBit h2) (ObsOk.cons (obCall (c69v0 h4)) ObsOk.nil))) (by decide), ⟨trivial, trivial⟩, (fun _ h => nomatch h), ⟨(show 0 < 1 by decide), trivial, trivial⟩, (forall_cons ⟨trivial, trivial, trivial⟩ forall_nil)⟩

/- scholium/infer.Of -/
def g35 (p0 : List Ent) (p1 : Tm) (p2 : Int) : Option (Tm × Int) :=
  (g21 p0) >>= fun r1 =>
  match r1 with
  | Sum.inl y15 =>
    if (y15 != 0) = true then
      some ((Tm.mk 0 0 []), y15)
    else
      (g15 p2) >>= fun r17 =>
      match r17 with
      | Sum.inl y21 =>
        if (y21 != 0) = true then
          some ((Tm.mk 0 0 []), y21)
        else
          (g32vz p1 [] [] []) >>= fun r23 =>
          some (r23.1, r23.2)
      | Sum.inr y19 =>
        if (y19.1 != 0) = true then
          some ((Tm.mk 0 0 []), y19.1)
        else
          none
  | Sum.inr y3 =>
    if (y3.1 != 0) = true then
      some ((Tm.mk 0 0 []), y3.1)
    else
      (g15 p2) >>= fun r5 =>
      match r5 with
      | Sum.inl y11 =>
        if (y11 != 0) = true then
          some ((Tm.mk 0 0 []), y11)
        else
          (g32vn p1 (Mach.mk y3.2.1 y3.2.2.2.2.1 y3.2.2.2.2.2 y3.2.2.1 y3.2.2.2.1) [] [] []) >>= fun r13 =>
          some (r13.1, r13.2)
      | Sum.inr y7 =>
        if (y7.1 != 0) = true then
          some ((Tm.mk 0 0 []), y7.1)
        else
          (g32v0 p1 (Mach.mk y3.2.1 y3.2.2.2.2.1 y3.2.2.2.2.2 y3.2.2.1 y3.2.2.2.1) y7.2.1 y7.2.2 [] [] []) >>= fun r9 =>
          some (r9.1, r9.2.1)
theorem c35 {p0 : List Ent} {p1 : Tm} {p2 : Int} {r : Tm × Int} (h : g35 p0 p1 p2 = some r) : CT Tryz.prog 35 [] [.sl (flat entL p0) (List.length p0) .no, tmA p1, ai p2] (.tup [tmA r.1, ai r.2]) [] 0 := by
  unfold g35 at h
  obtain ⟨r1, h2, h⟩ := obind h
  rcases r1 with y15 | y3
  · dsimp only at h
    rcases bcases (y15 != 0) with h16 | h16
    · replace h := ifT h16 h
      replace h := Option.some.inj h
      subst h
      exact ⟨CTri.toFin prim_ok mixed Tryz.func35 (by kernel_rfl) 3000 [.call [] [] 0 (.tup [.val (.pointer none), ai y15]) none, .no, .no, .bit true, .no] [] [] [] false (by kernel_rfl) (ObsOk.cons (obCall (c21 h2)) (ObsOk.cons (obBit h16) (ObsOk.cons (obData (dT ([] : List Tm))) ObsOk.nil))) (by decide), ⟨⟨trivial, dE _⟩, ⟨trivial, trivial, ⟨trivial, dT _⟩, trivial⟩, trivial, trivial⟩, (fun _ h => nomatch h), ⟨⟨trivial, trivial, dT _, trivial⟩, trivial, trivial⟩, (fun _ h => nomatch h)⟩
    · replace h := ifF h16 h
      obtain ⟨r17, h18, h⟩ := obind h
      rcases r17 with y21 | y19
      · dsimp only at h
        rcases bcases (y21 != 0) with h22 | h22
        · replace h := ifT h22 h
          replace h := Option.some.inj h
          subst h
          exact ⟨CTri.toFin prim_ok mixed Tryz.func35 (by kernel_rfl) 3000 [.call [] [] 0 (.tup [.val (.pointer none), ai y15]) none, .no, .no, .bit false, .call [] [] 0 (.tup [.val (.pointer none), ai y21]) none, .no, .no, .bit true, .no] [] [] [] false (by kernel_rfl) (ObsOk.cons (obCall (c21 h2)) (ObsOk.cons (obBit h16) (ObsOk.cons (obCall (c15 h18)) (ObsOk.cons (obBit h22) (ObsOk.cons (obData (dT ([] : List Tm))) ObsOk.nil))))) (by decide), ⟨⟨trivial, dE _⟩, ⟨trivial, trivial, ⟨trivial, dT _⟩, trivial⟩, trivial, trivial⟩, (fun _ h => nomatch h), ⟨⟨trivial, trivial, dT _, trivial⟩, trivial, trivial⟩, (fun _ h => nomatch h)⟩
        · replace h := ifF h22 h
          obtain ⟨r23, h24, h⟩ := obind h
          replace h := Option.some.inj h
          subst h
          exact ⟨CTri.toFin prim_ok mixed Tryz.func35 (by kernel_rfl) 3000 [.call [] [] 0 (.tup [.val (.pointer none), ai y15]) none, .no, .no, .bit false, .call [] [] 0 (.tup [.val (.pointer none), ai y21]) none, .no, .no, .bit false, .no, .call [] [] 0 (.tup [tmA r23.1, ai r23.2]) none, .no, .no, .no] [] [] [] false (by kernel_rfl) (ObsOk.cons (obCall (c21 h2)) (ObsOk.cons (obBit h16) (ObsOk.cons (obCall (c15 h18)) (ObsOk.cons (obBit h22) (ObsOk.cons (obCall (c32vz h24)) (ObsOk.cons (obData (dT r23.1.sub)) ObsOk.nil)))))) (by decide), ⟨⟨trivial, dE _⟩, ⟨trivial, trivial, ⟨trivial, dT _⟩, trivial⟩, trivial, trivial⟩, (fun _ h => nomatch h), ⟨⟨trivial, trivial, dT _, trivial⟩, trivial, trivial⟩, (fun _ h => nomatch h)⟩
      · dsimp only at h
        rcases bcases (y19.1 != 0) with h20 | h20
        · replace h := ifT h20 h
          replace h := Option.some.inj h
          subst h
          exact ⟨CTri.toFin prim_ok mixed Tryz.func35 (by kernel_rfl) 3000 [.call [] [] 0 (.tup [.val (.pointer none), ai y15]) none, .no, .no, .bit false, .call [] [.cells [ai y19.2.1, ai y19.2.2]] 0 (.tup [.mp 0 0, ai y19.1]) none, .no, .no, .bit true, .no] [] [] [] false (by kernel_rfl) (ObsOk.cons (obCall (c21 h2)) (ObsOk.cons (obBit h16) (ObsOk.cons (obCall (c15 h18)) (ObsOk.cons (obBit h20) (ObsOk.cons (obData (dT ([] : List Tm))) ObsOk.nil))))) (by decide), ⟨⟨trivial, dE _⟩, ⟨trivial, trivial, ⟨trivial, dT _⟩, trivial⟩, trivial, trivial⟩, (fun _ h => nomatch h), ⟨⟨trivial, trivial, dT _, trivial⟩, trivial, trivial⟩, (fun _ h => nomatch h)⟩
        · replace h := ifF h20 h
          cases h
  · dsimp only at h
    rcases bcases (y3.1 != 0) with h4 | h4
    · replace h := ifT h4 h
      replace h := Option.some.inj h
      subst h
      exact ⟨CTri.toFin prim_ok mixed Tryz.func35 (by kernel_rfl) 3000 [.call [] [.cells [.sl (flat entL y3.2.1) (List.length y3.2.1) .no, .mp 1 0, .sl (flat intC y3.2.2.1) (List.length y3.2.2.1) .no, .sl (flat intC y3.2.2.2.1) (List.length y3.2.2.2.1) .no], .cells [.sl (flat entL y3.2.2.2.2.1) (List.length y3.2.2.2.2.1) .no, .sl (flat conL y3.2.2.2.2.2) (List.length y3.2.2.2.2.2) .no]] 0 (.tup [.mp 0 0, ai y3.1]) none, .no, .no, .bit true, .no] [] [] [] false (by kernel_rfl) (ObsOk.cons (obCall (c21 h2)) (ObsOk.cons (obBit h4) (ObsOk.cons (obData (dT ([] : List Tm))) ObsOk.nil))) (by decide), ⟨⟨trivial, dE _⟩, ⟨trivial, trivial, ⟨trivial, dT _⟩, trivial⟩, trivial, trivial⟩, (fun _ h => nomatch h), ⟨⟨trivial, trivial, dT _, trivial⟩, trivial, trivial⟩, (fun _ h => nomatch h)⟩
    · replace h := ifF h4 h
      obtain ⟨r5, h6, h⟩ := obind h
      rcases r5 with y11 | y7
      · dsimp only at h
        rcases bcases (y11 != 0) with h12 | h12
        · replace h := ifT h12 h
          replace h := Option.some.inj h
          subst h
          exact ⟨CTri.toFin prim_ok mixed Tryz.func35 (by kernel_rfl) 3000 [.call [] [.cells [.sl (flat entL y3.2.1) (List.length y3.2.1) .no, .mp 1 0, .sl (flat intC y3.2.2.1) (List.length y3.2.2.1) .no, .sl (flat intC y3.2.2.2.1) (List.length y3.2.2.2.1) .no], .cells [.sl (flat entL y3.2.2.2.2.1) (List.length y3.2.2.2.2.1) .no, .sl (flat conL y3.2.2.2.2.2) (List.length y3.2.2.2.2.2) .no]] 0 (.tup [.mp 0 0, ai y3.1]) none, .no, .no, .bit false, .call [] [] 0 (.tup [.val (.pointer none), ai y11]) none, .no, .no, .bit true, .no] [] [] [] false (by kernel_rfl) (ObsOk.cons (obCall (c21 h2)) (ObsOk.cons (obBit h4) (ObsOk.cons (obCall (c15 h6)) (ObsOk.cons (obBit h12) (ObsOk.cons (obData (dT ([] : List Tm))) ObsOk.nil))))) (by decide), ⟨⟨trivial, dE _⟩, ⟨trivial, trivial, ⟨trivial, dT _⟩, trivial⟩, trivial, trivial⟩, (fun _ h => nomatch h), ⟨⟨trivial, trivial, dT _, trivial⟩, trivial, trivial⟩, (fun _ h => nomatch h)⟩
        · replace h := ifF h12 h
          obtain ⟨r13, h14, h⟩ := obind h
          replace h := Option.some.inj h
          subst h
          exact ⟨CTri.toFin prim_ok mixed Tryz.func35 (by kernel_rfl) 3000 [.call [] [.cells [.sl (flat entL y3.2.1) (List.length y3.2.1) .no, .mp 1 0, .sl (flat intC y3.2.2.1) (List.length y3.2.2.1) .no, .sl (flat intC y3.2.2.2.1) (List.length y3.2.2.2.1) .no], .cells [.sl (flat entL y3.2.2.2.2.1) (List.length y3.2.2.2.2.1) .no, .sl (flat conL y3.2.2.2.2.2) (List.length y3.2.2.2.2.2) .no]] 0 (.tup [.mp 0 0, ai y3.1]) none, .no, .no, .bit false, .call [] [] 0 (.tup [.val (.pointer none), ai y11]) none, .no, .no, .bit false, .no, .call [2, 3] [.cells [.sl (flat entL ((Mach.mk y3.2.1 y3.2.2.2.2.1 y3.2.2.2.2.2 y3.2.2.1 y3.2.2.2.1).l)) (List.length ((Mach.mk y3.2.1 y3.2.2.2.2.1 y3.2.2.2.2.2 y3.2.2.1 y3.2.2.2.1).l)) .no, .mp 1 0, .sl (flat intC ((Mach.mk y3.2.1 y3.2.2.2.2.1 y3.2.2.2.2.2 y3.2.2.1 y3.2.2.2.1).args)) (List.length ((Mach.mk y3.2.1 y3.2.2.2.2.1 y3.2.2.2.2.2 y3.2.2.1 y3.2.2.2.1).args)) .no, .sl (flat intC ((Mach.mk y3.2.1 y3.2.2.2.2.1 y3.2.2.2.2.2 y3.2.2.1 y3.2.2.2.1).own)) (List.length ((Mach.mk y3.2.1 y3.2.2.2.2.1 y3.2.2.2.2.2 y3.2.2.1 y3.2.2.2.1).own)) .no], .cells [.sl (flat entL ((Mach.mk y3.2.1 y3.2.2.2.2.1 y3.2.2.2.2.2 y3.2.2.1 y3.2.2.2.1).rl)) (List.length ((Mach.mk y3.2.1 y3.2.2.2.2.1 y3.2.2.2.2.2 y3.2.2.1 y3.2.2.2.1).rl)) .no, .sl (flat conL ((Mach.mk y3.2.1 y3.2.2.2.2.1 y3.2.2.2.2.2 y3.2.2.1 y3.2.2.2.1).parts)) (List.length ((Mach.mk y3.2.1 y3.2.2.2.2.1 y3.2.2.2.2.2 y3.2.2.1 y3.2.2.2.1).parts)) .no]] 0 (.tup [tmA r13.1, ai r13.2]) none, .no, .no, .no] [] [] [] false (by kernel_rfl) (ObsOk.cons (obCall (c21 h2)) (ObsOk.cons (obBit h4) (ObsOk.cons (obCall (c15 h6)) (ObsOk.cons (obBit h12) (ObsOk.cons (obCall (c32vn h14)) (ObsOk.cons (obData (dT r13.1.sub)) ObsOk.nil)))))) (by decide), ⟨⟨trivial, dE _⟩, ⟨trivial, trivial, ⟨trivial, dT _⟩, trivial⟩, trivial, trivial⟩, (fun _ h => nomatch h), ⟨⟨trivial, trivial, dT _, trivial⟩, trivial, trivial⟩, (fun _ h => nomatch h)⟩
      · dsimp only at h
        rcases bcases (y7.1 != 0) with h8 | h8
        · replace h := ifT h8 h
          replace h := Option.some.inj h
          subst h
          exact ⟨CTri.toFin prim_ok mixed Tryz.func35 (by kernel_rfl) 3000 [.call [] [.cells [.sl (flat entL y3.2.1) (List.length y3.2.1) .no, .mp 1 0, .sl (flat intC y3.2.2.1) (List.length y3.2.2.1) .no, .sl (flat intC y3.2.2.2.1) (List.length y3.2.2.2.1) .no], .cells [.sl (flat entL y3.2.2.2.2.1) (List.length y3.2.2.2.2.1) .no, .sl (flat conL y3.2.2.2.2.2) (List.length y3.2.2.2.2.2) .no]] 0 (.tup [.mp 0 0, ai y3.1]) none, .no, .no, .bit false, .call [] [.cells [ai y7.2.1, ai y7.2.2]] 0 (.tup [.mp 0 0, ai y7.1]) none, .no, .no, .bit true, .no] [] [] [] false (by kernel_rfl) (ObsOk.cons (obCall (c21 h2)) (ObsOk.cons (obBit h4) (ObsOk.cons (obCall (c15 h6)) (ObsOk.cons (obBit h8) (ObsOk.cons (obData (dT ([] : List Tm))) ObsOk.nil))))) (by decide), ⟨⟨trivial, dE _⟩, ⟨trivial, trivial, ⟨trivial, dT _⟩, trivial⟩, trivial, trivial⟩, (fun _ h => nomatch h), ⟨⟨trivial, trivial, dT _, trivial⟩, trivial, trivial⟩, (fun _ h => nomatch h)⟩
        · replace h := ifF h8 h
          obtain ⟨r9, h10, h⟩ := obind h
          replace h := Option.some.inj h
          subst h
          exact ⟨CTri.toFin prim_ok mixed Tryz.func35 (by kernel_rfl) 3000 [.call [] [.cells [.sl (flat entL y3.2.1) (List.length y3.2.1) .no, .mp 1 0, .sl (flat intC y3.2.2.1) (List.length y3.2.2.1) .no, .sl (flat intC y3.2.2.2.1) (List.length y3.2.2.2.1) .no], .cells [.sl (flat entL y3.2.2.2.2.1) (List.length y3.2.2.2.2.1) .no, .sl (flat conL y3.2.2.2.2.2) (List.length y3.2.2.2.2.2) .no]] 0 (.tup [.mp 0 0, ai y3.1]) none, .no, .no, .bit false, .call [] [.cells [ai y7.2.1, ai y7.2.2]] 0 (.tup [.mp 0 0, ai y7.1]) none, .no, .no, .bit false, .no, .call [2, 3, 4] [.cells [.sl (flat entL ((Mach.mk y3.2.1 y3.2.2.2.2.1 y3.2.2.2.2.2 y3.2.2.1 y3.2.2.2.1).l)) (List.length ((Mach.mk y3.2.1 y3.2.2.2.2.1 y3.2.2.2.2.2 y3.2.2.1 y3.2.2.2.1).l)) .no, .mp 1 0, .sl (flat intC ((Mach.mk y3.2.1 y3.2.2.2.2.1 y3.2.2.2.2.2 y3.2.2.1 y3.2.2.2.1).args)) (List.length ((Mach.mk y3.2.1 y3.2.2.2.2.1 y3.2.2.2.2.2 y3.2.2.1 y3.2.2.2.1).args)) .no, .sl (flat intC ((Mach.mk y3.2.1 y3.2.2.2.2.1 y3.2.2.2.2.2 y3.2.2.1 y3.2.2.2.1).own)) (List.length ((Mach.mk y3.2.1 y3.2.2.2.2.1 y3.2.2.2.2.2 y3.2.2.1 y3.2.2.2.1).own)) .no], .cells [.sl (flat entL ((Mach.mk y3.2.1 y3.2.2.2.2.1 y3.2.2.2.2.2 y3.2.2.1 y3.2.2.2.1).rl)) (List.length ((Mach.mk y3.2.1 y3.2.2.2.2.1 y3.2.2.2.2.2 y3.2.2.1 y3.2.2.2.1).rl)) .no, .sl (flat conL ((Mach.mk y3.2.1 y3.2.2.2.2.1 y3.2.2.2.2.2 y3.2.2.1 y3.2.2.2.1).parts)) (List.length ((Mach.mk y3.2.1 y3.2.2.2.2.1 y3.2.2.2.2.2 y3.2.2.1 y3.2.2.2.1).parts)) .no], .cells [ai r9.2.2.1, ai r9.2.2.2]] 0 (.tup [tmA r9.1, ai r9.2.1]) none, .no, .no, .no] [] [] [] false (by kernel_rfl) (ObsOk.cons (obCall (c21 h2)) (ObsOk.cons (obBit h4) (ObsOk.cons (obCall (c15 h6)) (ObsOk.cons (obBit h8) (ObsOk.cons (obCall (c32v0 h10)) (ObsOk.cons (obData (dT r9.1.sub)) ObsOk.nil)))))) (by decide), ⟨⟨trivial, dE _⟩, ⟨trivial, trivial, ⟨trivial, dT _⟩, trivial⟩, trivial, trivial⟩, (fun _ h => nomatch h), ⟨⟨trivial, trivial, dT _, trivial⟩, trivial, trivial⟩, (fun _ h => nomatch h)⟩

/- scholium/scholiumref07.Two -/
def g22 (p0 : Int) (p1 : Tm) (p2 : Tm) : Option (Tm) :=
  some (Tm.mk p0 0 [p1, p2])
theorem c22 {p0 : Int} {p1 : Tm} {p2 : Tm} {r : Tm} (h : g22 p0 p1 p2 = some r) : CT Tryz.prog 22 [] [ai p0, tmA p1, tmA p2] (tmA r) [] 0 := by
  unfold g22 at h
  replace h := Option.some.inj h
  subst h
  exact ⟨CTri.toFin prim_ok mixed Tryz.func22 (by kernel_rfl) 3000 [.no, .no, .sl (flat tmCells [p1, p2]) (List.length [p1, p2]), .no] [] [] [] false (by kernel_rfl) (ObsOk.cons (obLit [p1, p2]) (ObsOk.cons (obData (dT [p1, p2])) ObsOk.nil)) (by decide), ⟨trivial, ⟨trivial, trivial, ⟨trivial, dT _⟩, trivial⟩, ⟨trivial, trivial, ⟨trivial, dT _⟩, trivial⟩, trivial⟩, (fun _ h => nomatch h), ⟨trivial, trivial, dT _, trivial⟩, (fun _ h => nomatch h)⟩

/- scholium/scholiumref07.Apply -/
def g99L0 (p1 : List Tm) (v5 : Int) (vb0_0 : Int) (vb0_1 : Int) (vb0_2 : List Tm) : Option (Tm) :=
  if decide (v5 < (List.length p1 : Int)) = true then
    (gidx p1 v5) >>= fun x2 =>
    (g22 5 (Tm.mk vb0_0 vb0_1 vb0_2) x2) >>= fun r4 =>
    g99L0 p1 (w64 (v5 + 1)) r4.k r4.n r4.sub
  else
    some (Tm.mk vb0_0 vb0_1 vb0_2)
 partial_fixpoint
def g99 (p0 : Tm) (p1 : List Tm) : Option (Tm) :=
  g99L0 p1 0 p0.k p0.n p0.sub
def g99L0E0 (j : Nat → Value) (p1 : List Tm) (v5 : Int) (vb0_0 : Int) (vb0_1 : Int) (vb0_2 : List Tm) : List AV := [.val (j 0), .sl (flat tmCells p1) (List.length p1) .no, .mp 0 0, .val (j 3), .mp 1 0, ai v5, .val (j 6), .val (j 7), .val (j 8), .val (j 9), .val (j 10), .val (j 11), .val (j 12), .val (j 13), .val (j 14), .val (j 15), .val (j 16), .val (j 17), .val (j 18)]
def g99L0S0 (p1 : List Tm) (v5 : Int) (vb0_0 : Int) (vb0_1 : Int) (vb0_2 : List Tm) : LSt := ⟨[(0, .cells [ai vb0_0, ai vb0_1, .sl (flat tmCells vb0_2) (List.length vb0_2) .no]), (1, .cells [ai 0, ai 0, .sl (flat tmCells ([] : List Tm)) (List.length ([] : List Tm)) .nl])], 2, [], 0, []⟩
theorem l99L0 {p1 : List Tm} {v5 : Int} {vb0_0 : Int} {vb0_1 : Int} {vb0_2 : List Tm} {r : Tm} (h : g99L0 p1 v5 vb0_0 vb0_1 vb0_2 = some r) : (∀ j, Dl Tryz.prog 0 (inn (inn (rgt (lft (rgt (bod Tryz.f99)))))) (g99L0E0 j p1 v5 vb0_0 vb0_1 vb0_2) (g99L0S0 p1 v5 vb0_0 vb0_1 vb0_2) (frameQ Tryz.prog 0 (FinQ Tryz.prog 0 Tryz.f99 (tmA r) [] 0) [.blk 0, .seq (rgt (rgt (bod Tryz.f99)))])) := by
  refine g99L0.partial_correctness p1 (fun v5 vb0_0 vb0_1 vb0_2 r => (∀ j, Dl Tryz.prog 0 (inn (inn (rgt (lft (rgt (bod Tryz.f99)))))) (g99L0E0 j p1 v5 vb0_0 vb0_1 vb0_2) (g99L0S0 p1 v5 vb0_0 vb0_1 vb0_2) (frameQ Tryz.prog 0 (FinQ Tryz.prog 0 Tryz.f99 (tmA r) [] 0) [.blk 0, .seq (rgt (rgt (bod Tryz.f99)))]))) ?_ v5 vb0_0 vb0_1 vb0_2 _ h
  clear h
  intro g99L0 ihg99L0 v5 vb0_0 vb0_1 vb0_2 r h
  rcases bcases (decide (v5 < (List.length p1 : Int))) with h1 | h1
  · replace h := ifT h1 h
    obtain ⟨x2, h3, h⟩ := obind h
    obtain ⟨r4, h5, h⟩ := obind h
    exact fun j => Dl.toHead prim_ok mixed 3000 [.no, .bit true, .no, .av (.ip (tmL x2 ++ flat tmCells (List.drop (Int.toNat v5 + 1) p1))), .no, .call [] [] 0 (tmA r4) none, .no, .no] [] [0, 1] [] [1, 2, 4, 5] (E := fun j => g99L0E0 j p1 (w64 (v5 + 1)) r4.k r4.n r4.sub) (S := g99L0S0 p1 (w64 (v5 + 1)) r4.k r4.n r4.sub) (fun j => by kernel_rfl) (ObsOk.cons (obBit h1) (ObsOk.cons (obAv (ix22 (o := .no) h3)) (ObsOk.cons (obCall (c22 h5)) (ObsOk.cons (obData (dT r4.sub)) (ObsOk.cons (obData (dT ([] : List Tm))) (ObsOk.cons (obData (dT p1)) ObsOk.nil)))))) (ihg99L0 _ _ _ _ _ h)
  · replace h := ifF h1 h
    replace h := Option.some.inj h
    subst h
    exact fun j => Dl.toFin prim_ok mixed 3000 [.no, .bit false, .no, .no] [] [] [] false (by kernel_rfl) (ObsOk.cons (obBit h1) (ObsOk.cons (obData (dT vb0_2)) ObsOk.nil)) (by decide)
theorem c99 {p0 : Tm} {p1 : List Tm} {r : Tm} (h : g99 p0 p1 = some r) : CT Tryz.prog 99 [] [tmA p0, .sl (flat tmCells p1) (List.length p1) .no] (tmA r) [] 0 := by
  unfold g99 at h
  exact ⟨CTri.toHead prim_ok mixed Tryz.func99 (by kernel_rfl) 3000 [] [] [0, 1] [] [1, 2, 4, 5] (E := fun j => g99L0E0 j p1 0 p0.k p0.n p0.sub) (S := g99L0S0 p1 0 p0.k p0.n p0.sub) (fun j => by kernel_rfl) (ObsOk.cons (obData (dT p0.sub)) (ObsOk.cons (obData (dT ([] : List Tm))) (ObsOk.cons (obData (dT p1)) ObsOk.nil))) (l99L0 h), ⟨⟨trivial, trivial, ⟨trivial, dT _⟩, trivial⟩, ⟨trivial, dT _⟩, trivial⟩, (fun _ h => nomatch h), ⟨trivial, trivial, dT _, trivial⟩, (fun _ h => nomatch h)⟩

/- scholium/scholiumref12.A -/
def g37 (p0 : Tm) (p1 : List Tm) : Option (Tm) :=
  (g99 p0 p1) >>= fun r1 =>
  some r1
theorem c37 {p0 : Tm} {p1 : List Tm} {r : Tm} (h : g37 p0 p1 = some r) : CT Tryz.prog 37 [] [tmA p0, .sl (flat tmCells p1) (List.length p1) .no] (tmA r) [] 0 := by
  unfold g37 at h
  obtain ⟨r1, h2, h⟩ := obind h
  replace h := Option.some.inj h
  subst h
  exact ⟨CTri.toFin prim_ok mixed Tryz.func37 (by kernel_rfl) 3000 [.no, .call [] [] 0 (tmA r1) none, .no] [] [] [] false (by kernel_rfl) (ObsOk.cons (obCall (c99 h2)) (ObsOk.cons (obData (dT r1.sub)) ObsOk.nil)) (by decide), ⟨⟨trivial, trivial, ⟨trivial, dT _⟩, trivial⟩, ⟨trivial, dT _⟩, trivial⟩, (fun _ h => nomatch h), ⟨trivial, trivial, dT _, trivial⟩, (fun _ h => nomatch h)⟩

/- scholium/scholiumref07.Leaf -/
def g100 (p0 : Int) (p1 : Int) : Option (Tm) :=
  some (Tm.mk p0 p1 [])
theorem c100 {p0 : Int} {p1 : Int} {r : Tm} (h : g100 p0 p1 = some r) : CT Tryz.prog 100 [] [ai p0, ai p1] (tmA r) [] 0 := by
  unfold g100 at h
  replace h := Option.some.inj h
  subst h
  exact ⟨CTri.toFin prim_ok mixed Tryz.func100 (by kernel_rfl) 3000 [.no] [] [] [] false (by kernel_rfl) (ObsOk.cons (obData (dT ([] : List Tm))) ObsOk.nil) (by decide), ⟨trivial, trivial, trivial⟩, (fun _ h => nomatch h), ⟨trivial, trivial, dT _, trivial⟩, (fun _ h => nomatch h)⟩

/- scholium/scholiumref12.C -/
def g38 (p0 : Int) : Option (Tm) :=
  (g100 6 p0) >>= fun r1 =>
  some r1
theorem c38 {p0 : Int} {r : Tm} (h : g38 p0 = some r) : CT Tryz.prog 38 [] [ai p0] (tmA r) [] 0 := by
  unfold g38 at h
  obtain ⟨r1, h2, h⟩ := obind h
  replace h := Option.some.inj h
  subst h
  exact ⟨CTri.toFin prim_ok mixed Tryz.func38 (by kernel_rfl) 3000 [.call [] [] 0 (tmA r1) none, .no] [] [] [] false (by kernel_rfl) (ObsOk.cons (obCall (c100 h2)) (ObsOk.cons (obData (dT r1.sub)) ObsOk.nil)) (by decide), ⟨trivial, trivial⟩, (fun _ h => nomatch h), ⟨trivial, trivial, dT _, trivial⟩, (fun _ h => nomatch h)⟩

/- scholium/scholiumref12.data -/
def g91 (p0 : ByteArray) (p1 : Tm) (p2 : Int) (p3 : Int) (p4 : List Int) : Option (Ent) :=
  some (Ent.mk 1 p0 p1 (Tm.mk 0 0 []) 0 0 p2 p3 0 p4 [])
theorem c91 {p0 : ByteArray} {p1 : Tm} {p2 : Int} {p3 : Int} {p4 : List Int} {r : Ent} (h : g91 p0 p1 p2 p3 p4 = some r) : CT Tryz.prog 91 [] [at' p0, tmA p1, ai p2, ai p3, .sl (flat intC p4) (List.length p4) .no] (entA r) [] 0 := by
  unfold g91 at h
  replace h := Option.some.inj h
  subst h
  exact ⟨CTri.toFin prim_ok mixed Tryz.func91 (by kernel_rfl) 3000 [.no, .no] [] [] [] false (by kernel_rfl) (ObsOk.cons (obData (dT p1.sub)) (ObsOk.cons (obData (dT ([] : List Tm))) (ObsOk.cons (obData (dI p4)) (ObsOk.cons (obData (dI ([] : List Int))) ObsOk.nil)))) (by decide), ⟨trivial, ⟨trivial, trivial, ⟨trivial, dT _⟩, trivial⟩, trivial, trivial, ⟨trivial, dI _⟩, trivial⟩, (fun _ h => nomatch h), ⟨trivial, trivial, trivial, trivial, dT _, trivial, trivial, dT _, trivial, trivial, trivial, trivial, trivial, dI _, dI _, trivial⟩, (fun _ h => nomatch h)⟩

/- scholium/scholiumref12.P -/
def g92 (p0 : Tm) (p1 : Tm) : Option (Tm) :=
  (g22 3 p0 p1) >>= fun r1 =>
  some r1
theorem c92 {p0 : Tm} {p1 : Tm} {r : Tm} (h : g92 p0 p1 = some r) : CT Tryz.prog 92 [] [tmA p0, tmA p1] (tmA r) [] 0 := by
  unfold g92 at h
  obtain ⟨r1, h2, h⟩ := obind h
  replace h := Option.some.inj h
  subst h
  exact ⟨CTri.toFin prim_ok mixed Tryz.func92 (by kernel_rfl) 3000 [.no, .no, .call [] [] 0 (tmA r1) none, .no] [] [] [] false (by kernel_rfl) (ObsOk.cons (obCall (c22 h2)) (ObsOk.cons (obData (dT r1.sub)) ObsOk.nil)) (by decide), ⟨⟨trivial, trivial, ⟨trivial, dT _⟩, trivial⟩, ⟨trivial, trivial, ⟨trivial, dT _⟩, trivial⟩, trivial⟩, (fun _ h => nomatch h), ⟨trivial, trivial, dT _, trivial⟩, (fun _ h => nomatch h)⟩

/- scholium/scholiumref12.S -/
def g93 (p0 : Int) : Option (Tm) :=
  (g100 2 p0) >>= fun r1 =>
  some r1
theorem c93 {p0 : Int} {r : Tm} (h : g93 p0 = some r) : CT Tryz.prog 93 [] [ai p0] (tmA r) [] 0 := by
  unfold g93 at h
  obtain ⟨r1, h2, h⟩ := obind h
  replace h := Option.some.inj h
  subst h
  exact ⟨CTri.toFin prim_ok mixed Tryz.func93 (by kernel_rfl) 3000 [.call [] [] 0 (tmA r1) none, .no] [] [] [] false (by kernel_rfl) (ObsOk.cons (obCall (c100 h2)) (ObsOk.cons (obData (dT r1.sub)) ObsOk.nil)) (by decide), ⟨trivial, trivial⟩, (fun _ h => nomatch h), ⟨trivial, trivial, dT _, trivial⟩, (fun _ h => nomatch h)⟩

/- scholium/scholiumref12.V -/
def g94 (p0 : Int) : Option (Tm) :=
  (g100 1 p0) >>= fun r1 =>
  some r1
theorem c94 {p0 : Int} {r : Tm} (h : g94 p0 = some r) : CT Tryz.prog 94 [] [ai p0] (tmA r) [] 0 := by
  unfold g94 at h
  obtain ⟨r1, h2, h⟩ := obind h
  replace h := Option.some.inj h
  subst h
  exact ⟨CTri.toFin prim_ok mixed Tryz.func94 (by kernel_rfl) 3000 [.call [] [] 0 (tmA r1) none, .no] [] [] [] false (by kernel_rfl) (ObsOk.cons (obCall (c100 h2)) (ObsOk.cons (obData (dT r1.sub)) ObsOk.nil)) (by decide), ⟨trivial, trivial⟩, (fun _ h => nomatch h), ⟨trivial, trivial, dT _, trivial⟩, (fun _ h => nomatch h)⟩

/- scholium/scholiumref12.L -/
def g95 (p0 : Tm) (p1 : Tm) : Option (Tm) :=
  (g22 4 p0 p1) >>= fun r1 =>
  some r1
theorem c95 {p0 : Tm} {p1 : Tm} {r : Tm} (h : g95 p0 p1 = some r) : CT Tryz.prog 95 [] [tmA p0, tmA p1] (tmA r) [] 0 := by
  unfold g95 at h
  obtain ⟨r1, h2, h⟩ := obind h
  replace h := Option.some.inj h
  subst h
  exact ⟨CTri.toFin prim_ok mixed Tryz.func95 (by kernel_rfl) 3000 [.no, .no, .call [] [] 0 (tmA r1) none, .no] [] [] [] false (by kernel_rfl) (ObsOk.cons (obCall (c22 h2)) (ObsOk.cons (obData (dT r1.sub)) ObsOk.nil)) (by decide), ⟨⟨trivial, trivial, ⟨trivial, dT _⟩, trivial⟩, ⟨trivial, trivial, ⟨trivial, dT _⟩, trivial⟩, trivial⟩, (fun _ h => nomatch h), ⟨trivial, trivial, dT _, trivial⟩, (fun _ h => nomatch h)⟩

/- scholium/scholiumref07.Node -/
def g158 (p0 : Int) (p1 : Int) (p2 : List Tm) : Option (Tm) :=
  some (Tm.mk p0 p1 p2)
theorem c158 {p0 : Int} {p1 : Int} {p2 : List Tm} {r : Tm} (h : g158 p0 p1 p2 = some r) : CT Tryz.prog 158 [] [ai p0, ai p1, .sl (flat tmCells p2) (List.length p2) .no] (tmA r) [] 0 := by
  unfold g158 at h
  replace h := Option.some.inj h
  subst h
  exact ⟨CTri.toFin prim_ok mixed Tryz.func158 (by kernel_rfl) 3000 [.no] [] [] [] false (by kernel_rfl) (ObsOk.cons (obData (dT p2)) ObsOk.nil) (by decide), ⟨trivial, trivial, ⟨trivial, dT _⟩, trivial⟩, (fun _ h => nomatch h), ⟨trivial, trivial, dT _, trivial⟩, (fun _ h => nomatch h)⟩

/- scholium/scholiumref12.E -/
def g96 (p0 : Int) (p1 : Int) : Option (Tm) :=
  (g93 p1) >>= fun r1 =>
  (g158 7 p0 [r1]) >>= fun r3 =>
  some r3
theorem c96 {p0 : Int} {p1 : Int} {r : Tm} (h : g96 p0 p1 = some r) : CT Tryz.prog 96 [] [ai p0, ai p1] (tmA r) [] 0 := by
  unfold g96 at h
  obtain ⟨r1, h2, h⟩ := obind h
  obtain ⟨r3, h4, h⟩ := obind h
  replace h := Option.some.inj h
  subst h
  exact ⟨CTri.toFin prim_ok mixed Tryz.func96 (by kernel_rfl) 3000 [.call [] [] 0 (tmA r1) none, .sl (flat tmCells [r1]) (List.length [r1]), .call [] [] 0 (tmA r3) none, .no] [] [] [] false (by kernel_rfl) (ObsOk.cons (obCall (c93 h2)) (ObsOk.cons (obLit [r1]) (ObsOk.cons (obCall (c158 h4)) (ObsOk.cons (obData (dT r3.sub)) ObsOk.nil)))) (by decide), ⟨trivial, trivial, trivial⟩, (fun _ h => nomatch h), ⟨trivial, trivial, dT _, trivial⟩, (fun _ h => nomatch h)⟩

/- scholium/scholiumref12.con -/
def g97 (p0 : ByteArray) (p1 : Tm) (p2 : Int) (p3 : Int) (p4 : Int) : Option (Ent) :=
  some (Ent.mk 2 p0 p1 (Tm.mk 0 0 []) p2 p3 p4 0 0 [] [])
theorem c97 {p0 : ByteArray} {p1 : Tm} {p2 : Int} {p3 : Int} {p4 : Int} {r : Ent} (h : g97 p0 p1 p2 p3 p4 = some r) : CT Tryz.prog 97 [] [at' p0, tmA p1, ai p2, ai p3, ai p4] (entA r) [] 0 := by
  unfold g97 at h
  replace h := Option.some.inj h
  subst h
  exact ⟨CTri.toFin prim_ok mixed Tryz.func97 (by kernel_rfl) 3000 [.no, .no] [] [] [] false (by kernel_rfl) (ObsOk.cons (obData (dT p1.sub)) (ObsOk.cons (obData (dT ([] : List Tm))) (ObsOk.cons (obData (dI ([] : List Int))) (ObsOk.cons (obData (dI ([] : List Int))) ObsOk.nil)))) (by decide), ⟨trivial, ⟨trivial, trivial, ⟨trivial, dT _⟩, trivial⟩, trivial, trivial, trivial, trivial⟩, (fun _ h => nomatch h), ⟨trivial, trivial, trivial, trivial, dT _, trivial, trivial, dT _, trivial, trivial, trivial, trivial, trivial, dI _, dI _, trivial⟩, (fun _ h => nomatch h)⟩

/- scholium/scholiumref12.proj -/
def g98 (p0 : ByteArray) (p1 : Tm) (p2 : Int) : Option (Ent) :=
  some (Ent.mk 4 p0 p1 (Tm.mk 0 0 []) 14 p2 2 0 0 [] [])
theorem c98 {p0 : ByteArray} {p1 : Tm} {p2 : Int} {r : Ent} (h : g98 p0 p1 p2 = some r) : CT Tryz.prog 98 [] [at' p0, tmA p1, ai p2] (entA r) [] 0 := by
  unfold g98 at h
  replace h := Option.some.inj h
  subst h
  exact ⟨CTri.toFin prim_ok mixed Tryz.func98 (by kernel_rfl) 3000 [.no, .no] [] [] [] false (by kernel_rfl) (ObsOk.cons (obData (dT p1.sub)) (ObsOk.cons (obData (dT ([] : List Tm))) (ObsOk.cons (obData (dI ([] : List Int))) (ObsOk.cons (obData (dI ([] : List Int))) ObsOk.nil)))) (by decide), ⟨trivial, ⟨trivial, trivial, ⟨trivial, dT _⟩, trivial⟩, trivial, trivial⟩, (fun _ h => nomatch h), ⟨trivial, trivial, trivial, trivial, dT _, trivial, trivial, dT _, trivial, trivial, trivial, trivial, trivial, dI _, dI _, trivial⟩, (fun _ h => nomatch h)⟩

/- scholium/scholiumref12.Base -/
def g36  : Option (List Ent) :=
  (g38 0) >>= fun r1 =>
  (g93 0) >>= fun r3 =>
  (g92 r3 r3) >>= fun r5 =>
  (g92 r3 r5) >>= fun r7 =>
  (g91 (⟨#[80, 97, 105, 114]⟩ : ByteArray) r7 2 0 [15]) >>= fun r9 =>
  (g38 14) >>= fun r11 =>
  (g94 1) >>= fun r13 =>
  (g94 0) >>= fun r15 =>
  (g37 r11 [r13, r15]) >>= fun r17 =>
  (g96 0 0) >>= fun r19 =>
  (g95 r1 r1) >>= fun r21 =>
  (g38 2) >>= fun r23 =>
  (g37 r23 [r15]) >>= fun r25 =>
  (g95 r1 r25) >>= fun r27 =>
  (g95 r1 r27) >>= fun r29 =>
  (g37 r19 [r21, r15, r29, r13]) >>= fun r31 =>
  (g95 r1 r31) >>= fun r33 =>
  (g95 r1 r33) >>= fun r35 =>
  (g91 (⟨#[78, 97, 116]⟩ : ByteArray) r3 0 0 [1, 2]) >>= fun r37 =>
  (g97 (⟨#[122, 101, 114, 111]⟩ : ByteArray) r1 0 0 0) >>= fun r39 =>
  (g92 r1 r1) >>= fun r41 =>
  (g97 (⟨#[115, 117, 99]⟩ : ByteArray) r41 0 1 0) >>= fun r43 =>
  (g91 (⟨#[66, 111, 111, 108]⟩ : ByteArray) r3 0 0 [4, 5]) >>= fun r45 =>
  (g38 3) >>= fun r47 =>
  (g97 (⟨#[116, 114, 117, 101]⟩ : ByteArray) r47 3 0 0) >>= fun r49 =>
  (g97 (⟨#[102, 97, 108, 115, 101]⟩ : ByteArray) r47 3 1 0) >>= fun r51 =>
  (g91 (⟨#[76, 105, 115, 116]⟩ : ByteArray) r5 1 0 [7, 8]) >>= fun r53 =>
  (g38 6) >>= fun r55 =>
  (g37 r55 [r15]) >>= fun r57 =>
  (g92 r3 r57) >>= fun r59 =>
  (g97 (⟨#[110, 105, 108]⟩ : ByteArray) r59 6 0 1) >>= fun r61 =>
  (g37 r55 [r13]) >>= fun r63 =>
  (g94 2) >>= fun r65 =>
  (g37 r55 [r65]) >>= fun r67 =>
  (g92 r63 r67) >>= fun r69 =>
  (g92 r15 r69) >>= fun r71 =>
  (g92 r3 r71) >>= fun r73 =>
  (g97 (⟨#[99, 111, 110, 115]⟩ : ByteArray) r73 6 1 1) >>= fun r75 =>
  (g92 r1 r3) >>= fun r77 =>
  (g92 r3 r77) >>= fun r79 =>
  (g91 (⟨#[86, 101, 99]⟩ : ByteArray) r79 1 1 [10, 11]) >>= fun r81 =>
  (g38 9) >>= fun r83 =>
  (g38 1) >>= fun r85 =>
  (g37 r83 [r15, r85]) >>= fun r87 =>
  (g92 r3 r87) >>= fun r89 =>
  (g97 (⟨#[118, 110, 105, 108]⟩ : ByteArray) r89 9 0 1) >>= fun r91 =>
  (g37 r83 [r65, r13]) >>= fun r93 =>
  (g94 3) >>= fun r95 =>
  (g37 r23 [r65]) >>= fun r97 =>
  (g37 r83 [r95, r97]) >>= fun r99 =>
  (g92 r93 r99) >>= fun r101 =>
  (g92 r13 r101) >>= fun r103 =>
  (g92 r1 r103) >>= fun r105 =>
  (g92 r3 r105) >>= fun r107 =>
  (g97 (⟨#[118, 99, 111, 110, 115]⟩ : ByteArray) r107 9 1 1) >>= fun r109 =>
  (g92 r13 r3) >>= fun r111 =>
  (g92 r15 r111) >>= fun r113 =>
  (g92 r3 r113) >>= fun r115 =>
  (g91 (⟨#[69, 113]⟩ : ByteArray) r115 2 1 [13]) >>= fun r117 =>
  (g38 12) >>= fun r119 =>
  (g37 r119 [r13, r15, r15]) >>= fun r121 =>
  (g92 r15 r121) >>= fun r123 =>
  (g92 r3 r123) >>= fun r125 =>
  (g97 (⟨#[114, 101, 102, 108]⟩ : ByteArray) r125 12 0 2) >>= fun r127 =>
  (g37 r11 [r95, r65]) >>= fun r129 =>
  (g92 r13 r129) >>= fun r131 =>
  (g92 r13 r131) >>= fun r133 =>
  (g92 r3 r133) >>= fun r135 =>
  (g92 r3 r135) >>= fun r137 =>
  (g97 (⟨#[112, 97, 105, 114]⟩ : ByteArray) r137 14 0 2) >>= fun r139 =>
  (g92 r17 r65) >>= fun r141 =>
  (g92 r3 r141) >>= fun r143 =>
  (g92 r3 r143) >>= fun r145 =>
  (g98 (⟨#[102, 115, 116]⟩ : ByteArray) r145 0) >>= fun r147 =>
  (g92 r17 r13) >>= fun r149 =>
  (g92 r3 r149) >>= fun r151 =>
  (g92 r3 r151) >>= fun r153 =>
  (g98 (⟨#[115, 110, 100]⟩ : ByteArray) r153 1) >>= fun r155 =>
  (g91 (⟨#[84, 114, 101, 101]⟩ : ByteArray) r3 0 0 [19, 20]) >>= fun r157 =>
  (g38 18) >>= fun r159 =>
  (g97 (⟨#[108, 101, 97, 102]⟩ : ByteArray) r159 18 0 0) >>= fun r161 =>
  (g92 r1 r159) >>= fun r163 =>
  (g92 r163 r159) >>= fun r165 =>
  (g97 (⟨#[110, 111, 100, 101]⟩ : ByteArray) r165 18 1 0) >>= fun r167 =>
  (g92 r1 r41) >>= fun r169 =>
  (g92 r15 r13) >>= fun r171 =>
  (g92 r3 r171) >>= fun r173 =>
  (g95 r15 r15) >>= fun r175 =>
  (g95 r3 r175) >>= fun r177 =>
  some [r37, r39, r43, r45, r49, r51, r53, r61, r75, r81, r91, r109, r117, r127, (Ent.mk r9.kind r9.name r9.type r9.body r9.fam r9.place r9.pars r9.inds r9.level r9.cons [16, 17]), r139, r147, r155, r157, r161, r167, (Ent.mk 3 (⟨#[112, 108, 117, 115]⟩ : ByteArray) r169 r35 0 0 0 0 0 [] []), (Ent.mk 3 (⟨#[105, 100]⟩ : ByteArray) r173 r177 0 0 0 0 0 [] [])]
theorem c36  {r : List Ent} (h : g36  = some r) : CT Tryz.prog 36 [] [] (.sl (flat entL r) (List.length r) .no) [] 0 := by
  unfold g36 at h
  obtain ⟨r1, h2, h⟩ := obind h
  obtain ⟨r3, h4, h⟩ := obind h
  obtain ⟨r5, h6, h⟩ := obind h
  obtain ⟨r7, h8, h⟩ := obind h
  obtain ⟨r9, h10, h⟩ := obind h
  obtain ⟨r11, h12, h⟩ := obind h
  obtain ⟨r13, h14, h⟩ := obind h
  obtain ⟨r15, h16, h⟩ := obind h
  obtain ⟨r17, h18, h⟩ := obind h
  obtain ⟨r19, h20, h⟩ := obind h
  obtain ⟨r21, h22, h⟩ := obind h
  obtain ⟨r23, h24, h⟩ := obind h
  obtain ⟨r25, h26, h⟩ := obind h
  obtain ⟨r27, h28, h⟩ := obind h
  obtain ⟨r29, h30, h⟩ := obind h
  obtain ⟨r31, h32, h⟩ := obind h
  obtain ⟨r33, h34, h⟩ := obind h
  obtain ⟨r35, h36, h⟩ := obind h
  obtain ⟨r37, h38, h⟩ := obind h
  obtain ⟨r39, h40, h⟩ := obind h
  obtain ⟨r41, h42, h⟩ := obind h
  obtain ⟨r43, h44, h⟩ := obind h
  obtain ⟨r45, h46, h⟩ := obind h
  obtain ⟨r47, h48, h⟩ := obind h
  obtain ⟨r49, h50, h⟩ := obind h
  obtain ⟨r51, h52, h⟩ := obind h
  obtain ⟨r53, h54, h⟩ := obind h
  obtain ⟨r55, h56, h⟩ := obind h
  obtain ⟨r57, h58, h⟩ := obind h
  obtain ⟨r59, h60, h⟩ := obind h
  obtain ⟨r61, h62, h⟩ := obind h
  obtain ⟨r63, h64, h⟩ := obind h
  obtain ⟨r65, h66, h⟩ := obind h
  obtain ⟨r67, h68, h⟩ := obind h
  obtain ⟨r69, h70, h⟩ := obind h
  obtain ⟨r71, h72, h⟩ := obind h
  obtain ⟨r73, h74, h⟩ := obind h
  obtain ⟨r75, h76, h⟩ := obind h
  obtain ⟨r77, h78, h⟩ := obind h
  obtain ⟨r79, h80, h⟩ := obind h
  obtain ⟨r81, h82, h⟩ := obind h
  obtain ⟨r83, h84, h⟩ := obind h
  obtain ⟨r85, h86, h⟩ := obind h
  obtain ⟨r87, h88, h⟩ := obind h
  obtain ⟨r89, h90, h⟩ := obind h
  obtain ⟨r91, h92, h⟩ := obind h
  obtain ⟨r93, h94, h⟩ := obind h
  obtain ⟨r95, h96, h⟩ := obind h
  obtain ⟨r97, h98, h⟩ := obind h
  obtain ⟨r99, h100, h⟩ := obind h
  obtain ⟨r101, h102, h⟩ := obind h
  obtain ⟨r103, h104, h⟩ := obind h
  obtain ⟨r105, h106, h⟩ := obind h
  obtain ⟨r107, h108, h⟩ := obind h
  obtain ⟨r109, h110, h⟩ := obind h
  obtain ⟨r111, h112, h⟩ := obind h
  obtain ⟨r113, h114, h⟩ := obind h
  obtain ⟨r115, h116, h⟩ := obind h
  obtain ⟨r117, h118, h⟩ := obind h
  obtain ⟨r119, h120, h⟩ := obind h
  obtain ⟨r121, h122, h⟩ := obind h
  obtain ⟨r123, h124, h⟩ := obind h
  obtain ⟨r125, h126, h⟩ := obind h
  obtain ⟨r127, h128, h⟩ := obind h
  obtain ⟨r129, h130, h⟩ := obind h
  obtain ⟨r131, h132, h⟩ := obind h
  obtain ⟨r133, h134, h⟩ := obind h
  obtain ⟨r135, h136, h⟩ := obind h
  obtain ⟨r137, h138, h⟩ := obind h
  obtain ⟨r139, h140, h⟩ := obind h
  obtain ⟨r141, h142, h⟩ := obind h
  obtain ⟨r143, h144, h⟩ := obind h
  obtain ⟨r145, h146, h⟩ := obind h
  obtain ⟨r147, h148, h⟩ := obind h
  obtain ⟨r149, h150, h⟩ := obind h
  obtain ⟨r151, h152, h⟩ := obind h
  obtain ⟨r153, h154, h⟩ := obind h
  obtain ⟨r155, h156, h⟩ := obind h
  obtain ⟨r157, h158, h⟩ := obind h
  obtain ⟨r159, h160, h⟩ := obind h
  obtain ⟨r161, h162, h⟩ := obind h
  obtain ⟨r163, h164, h⟩ := obind h
  obtain ⟨r165, h166, h⟩ := obind h
  obtain ⟨r167, h168, h⟩ := obind h
  obtain ⟨r169, h170, h⟩ := obind h
  obtain ⟨r171, h172, h⟩ := obind h
  obtain ⟨r173, h174, h⟩ := obind h
  obtain ⟨r175, h176, h⟩ := obind h
  obtain ⟨r177, h178, h⟩ := obind h
  replace h := Option.some.inj h
  subst h
  exact ⟨CTri.toFin prim_ok mixed Tryz.func36 (by kernel_rfl) 3000 [.call [] [] 0 (tmA r1) none, .no, .call [] [] 0 (tmA r3) none, .call [] [] 0 (tmA r3) none, .call [] [] 0 (tmA r3) none, .call [] [] 0 (tmA r5) none, .call [] [] 0 (tmA r7) none, .no, .call [] [] 0 (entA r9) none, .no, .no, .no, .call [] [] 0 (tmA r11) none, .call [] [] 0 (tmA r13) none, .call [] [] 0 (tmA r15) none, .sl (flat tmCells [r13, r15]) (List.length [r13, r15]), .call [] [] 0 (tmA r17) none, .no, .no, .no, .call [] [] 0 (tmA r19) none, .no, .no, .call [] [] 0 (tmA r21) none, .call [] [] 0 (tmA r15) none, .no, .no, .call [] [] 0 (tmA r23) none, .call [] [] 0 (tmA r15) none, .sl (flat tmCells [r15]) (List.length [r15]), .call [] [] 0 (tmA r25) none, .call [] [] 0 (tmA r27) none, .call [] [] 0 (tmA r29) none, .call [] [] 0 (tmA r13) none, .sl (flat tmCells [r21, r15, r29, r13]) (List.length [r21, r15, r29, r13]), .call [] [] 0 (tmA r31) none, .call [] [] 0 (tmA r33) none, .call [] [] 0 (tmA r35) none, .no, .call [] [] 0 (tmA r3) none, .no, .call [] [] 0 (entA r37) none, .no, .call [] [] 0 (entA r39) none, .no, .no, .call [] [] 0 (tmA r41) none, .call [] [] 0 (entA r43) none, .call [] [] 0 (tmA r3) none, .no, .call [] [] 0 (entA r45) none, .call [] [] 0 (tmA r47) none, .call [] [] 0 (entA r49) none, .call [] [] 0 (tmA r47) none, .call [] [] 0 (entA r51) none, .call [] [] 0 (tmA r3) none, .call [] [] 0 (tmA r3) none, .call [] [] 0 (tmA r5) none, .no, .call [] [] 0 (entA r53) none, .call [] [] 0 (tmA r3) none, .call [] [] 0 (tmA r55) none, .call [] [] 0 (tmA r15) none, .sl (flat tmCells [r15]) (List.length [r15]), .call [] [] 0 (tmA r57) none, .call [] [] 0 (tmA r59) none, .call [] [] 0 (entA r61) none, .call [] [] 0 (tmA r3) none, .call [] [] 0 (tmA r15) none, .call [] [] 0 (tmA r55) none, .call [] [] 0 (tmA r13) none, .sl (flat tmCells [r13]) (List.length [r13]), .call [] [] 0 (tmA r63) none, .call [] [] 0 (tmA r55) none, .call [] [] 0 (tmA r65) none, .sl (flat tmCells [r65]) (List.length [r65]), .call [] [] 0 (tmA r67) none, .call [] [] 0 (tmA r69) none, .call [] [] 0 (tmA r71) none, .call [] [] 0 (tmA r73) none, .call [] [] 0 (entA r75) none, .call [] [] 0 (tmA r3) none, .no, .call [] [] 0 (tmA r3) none, .call [] [] 0 (tmA r77) none, .call [] [] 0 (tmA r79) none, .no, .call [] [] 0 (entA r81) none, .call [] [] 0 (tmA r3) none, .call [] [] 0 (tmA r83) none, .call [] [] 0 (tmA r15) none, .call [] [] 0 (tmA r85) none, .sl (flat tmCells [r15, r85]) (List.length [r15, r85]), .call [] [] 0 (tmA r87) none, .call [] [] 0 (tmA r89) none, .call [] [] 0 (entA r91) none, .call [] [] 0 (tmA r3) none, .no, .call [] [] 0 (tmA r13) none, .call [] [] 0 (tmA r83) none, .call [] [] 0 (tmA r65) none, .call [] [] 0 (tmA r13) none, .sl (flat tmCells [r65, r13]) (List.length [r65, r13]), .call [] [] 0 (tmA r93) none, .call [] [] 0 (tmA r83) none, .call [] [] 0 (tmA r95) none, .call [] [] 0 (tmA r23) none, .call [] [] 0 (tmA r65) none, .sl (flat tmCells [r65]) (List.length [r65]), .call [] [] 0 (tmA r97) none, .sl (flat tmCells [r95, r97]) (List.length [r95, r97]), .call [] [] 0 (tmA r99) none, .call [] [] 0 (tmA r101) none, .call [] [] 0 (tmA r103) none, .call [] [] 0 (tmA r105) none, .call [] [] 0 (tmA r107) none, .call [] [] 0 (entA r109) none, .call [] [] 0 (tmA r3) none, .call [] [] 0 (tmA r15) none, .call [] [] 0 (tmA r13) none, .call [] [] 0 (tmA r3) none, .call [] [] 0 (tmA r111) none, .call [] [] 0 (tmA r113) none, .call [] [] 0 (tmA r115) none, .no, .call [] [] 0 (entA r117) none, .call [] [] 0 (tmA r3) none, .call [] [] 0 (tmA r15) none, .call [] [] 0 (tmA r119) none, .call [] [] 0 (tmA r13) none, .call [] [] 0 (tmA r15) none, .call [] [] 0 (tmA r15) none, .sl (flat tmCells [r13, r15, r15]) (List.length [r13, r15, r15]), .call [] [] 0 (tmA r121) none, .call [] [] 0 (tmA r123) none, .call [] [] 0 (tmA r125) none, .call [] [] 0 (entA r127) none, .no, .call [] [] 0 (tmA r3) none, .call [] [] 0 (tmA r3) none, .call [] [] 0 (tmA r13) none, .call [] [] 0 (tmA r13) none, .call [] [] 0 (tmA r11) none, .call [] [] 0 (tmA r95) none, .call [] [] 0 (tmA r65) none, .sl (flat tmCells [r95, r65]) (List.length [r95, r65]), .call [] [] 0 (tmA r129) none, .call [] [] 0 (tmA r131) none, .call [] [] 0 (tmA r133) none, .call [] [] 0 (tmA r135) none, .call [] [] 0 (tmA r137) none, .call [] [] 0 (entA r139) none, .call [] [] 0 (tmA r3) none, .call [] [] 0 (tmA r3) none, .no, .call [] [] 0 (tmA r65) none, .call [] [] 0 (tmA r141) none, .call [] [] 0 (tmA r143) none, .call [] [] 0 (tmA r145) none, .call [] [] 0 (entA r147) none, .call [] [] 0 (tmA r3) none, .call [] [] 0 (tmA r3) none, .no, .call [] [] 0 (tmA r13) none, .call [] [] 0 (tmA r149) none, .call [] [] 0 (tmA r151) none, .call [] [] 0 (tmA r153) none, .call [] [] 0 (entA r155) none, .call [] [] 0 (tmA r3) none, .no, .call [] [] 0 (entA r157) none, .call [] [] 0 (tmA r159) none, .call [] [] 0 (entA r161) none, .no, .call [] [] 0 (tmA r159) none, .call [] [] 0 (tmA r163) none, .call [] [] 0 (tmA r159) none, .call [] [] 0 (tmA r165) none, .call [] [] 0 (entA r167) none, .no, .no, .no, .call [] [] 0 (tmA r41) none, .call [] [] 0 (tmA r169) none, .no, .call [] [] 0 (tmA r3) none, .call [] [] 0 (tmA r15) none, .call [] [] 0 (tmA r13) none, .call [] [] 0 (tmA r171) none, .call [] [] 0 (tmA r173) none, .call [] [] 0 (tmA r3) none, .call [] [] 0 (tmA r15) none, .call [] [] 0 (tmA r15) none, .call [] [] 0 (tmA r175) none, .call [] [] 0 (tmA r177) none, .no] [] [] [] false (by kernel_rfl) (ObsOk.cons (obCall (c38 h2)) (ObsOk.cons (obCall (c93 h4)) (ObsOk.cons (obCall (c93 h4)) (ObsOk.cons (obCall (c93 h4)) (ObsOk.cons (obCall (c92 h6)) (ObsOk.cons (obCall (c92 h8)) (ObsOk.cons (obCall (c91 h10)) (ObsOk.cons (obCall (c38 h12)) (ObsOk.cons (obCall (c94 h14)) (ObsOk.cons (obCall (c94 h16)) (ObsOk.cons (obLit [r13, r15]) (ObsOk.cons (obCall (c37 h18)) (ObsOk.cons (obCall (c96 h20)) (ObsOk.cons (obCall (c95 h22)) (ObsOk.cons (obCall (c94 h16)) (ObsOk.cons (obCall (c38 h24)) (ObsOk.cons (obCall (c94 h16)) (ObsOk.cons (obLit [r15]) (ObsOk.cons (obCall (c37 h26)) (ObsOk.cons (obCall (c95 h28)) (ObsOk.cons (obCall (c95 h30)) (ObsOk.cons (obCall (c94 h14)) (ObsOk.cons (obLit [r21, r15, r29, r13]) (ObsOk.cons (obCall (c37 h32)) (ObsOk.cons (obCall (c95 h34)) (ObsOk.cons (obCall (c95 h36)) (ObsOk.cons (obCall (c93 h4)) (ObsOk.cons (obCall (c91 h38)) (ObsOk.cons (obCall (c97 h40)) (ObsOk.cons (obCall (c92 h42)) (ObsOk.cons (obCall (c97 h44)) (ObsOk.cons (obCall (c93 h4)) (ObsOk.cons (obCall (c91 h46)) (ObsOk.cons (obCall (c38 h48)) (ObsOk.cons (obCall (c97 h50)) (ObsOk.cons (obCall (c38 h48)) (ObsOk.cons (obCall (c97 h52)) (ObsOk.cons (obCall (c93 h4)) (ObsOk.cons (obCall (c93 h4)) (ObsOk.cons (obCall (c92 h6)) (ObsOk.cons (obCall (c91 h54)) (ObsOk.cons (obCall (c93 h4)) (ObsOk.cons (obCall (c38 h56)) (ObsOk.cons (obCall (c94 h16)) (ObsOk.cons (obLit [r15]) (ObsOk.cons (obCall (c37 h58)) (ObsOk.cons (obCall (c92 h60)) (ObsOk.cons (obCall (c97 h62)) (ObsOk.cons (obCall (c93 h4)) (ObsOk.cons (obCall (c94 h16)) (ObsOk.cons (obCall (c38 h56)) (ObsOk.cons (obCall (c94 h14)) (ObsOk.cons (obLit [r13]) (ObsOk.cons (obCall (c37 h64)) (ObsOk.cons (obCall (c38 h56)) (ObsOk.cons (obCall (c94 h66)) (ObsOk.cons (obLit [r65]) (ObsOk.cons (obCall (c37 h68)) (ObsOk.cons (obCall (c92 h70)) (ObsOk.cons (obCall (c92 h72)) (ObsOk.cons (obCall (c92 h74)) (ObsOk.cons (obCall (c97 h76)) (ObsOk.cons (obCall (c93 h4)) (ObsOk.cons (obCall (c93 h4)) (ObsOk.cons (obCall (c92 h78)) (ObsOk.cons (obCall (c92 h80)) (ObsOk.cons (obCall (c91 h82)) (ObsOk.cons (obCall (c93 h4)) (ObsOk.cons (obCall (c38 h84)) (ObsOk.cons (obCall (c94 h16)) (ObsOk.cons (obCall (c38 h86)) (ObsOk.cons (obLit [r15, r85]) (ObsOk.cons (obCall (c37 h88)) (ObsOk.cons (obCall (c92 h90)) (ObsOk.cons (obCall (c97 h92)) (ObsOk.cons (obCall (c93 h4)) (ObsOk.cons (obCall (c94 h14)) (ObsOk.cons (obCall (c38 h84)) (ObsOk.cons (obCall (c94 h66)) (ObsOk.cons (obCall (c94 h14)) (ObsOk.cons (obLit [r65, r13]) (ObsOk.cons (obCall (c37 h94)) (ObsOk.cons (obCall (c38 h84)) (ObsOk.cons (obCall (c94 h96)) (ObsOk.cons (obCall (c38 h24)) (ObsOk.cons (obCall (c94 h66)) (ObsOk.cons (obLit [r65]) (ObsOk.cons (obCall (c37 h98)) (ObsOk.cons (obLit [r95, r97]) (ObsOk.cons (obCall (c37 h100)) (ObsOk.cons (obCall (c92 h102)) (ObsOk.cons (obCall (c92 h104)) (ObsOk.cons (obCall (c92 h106)) (ObsOk.cons (obCall (c92 h108)) (ObsOk.cons (obCall (c97 h110)) (ObsOk.cons (obCall (c93 h4)) (ObsOk.cons (obCall (c94 h16)) (ObsOk.cons (obCall (c94 h14)) (ObsOk.cons (obCall (c93 h4)) (ObsOk.cons (obCall (c92 h112)) (ObsOk.cons (obCall (c92 h114)) (ObsOk.cons (obCall (c92 h116)) (ObsOk.cons (obCall (c91 h118)) (ObsOk.cons (obCall (c93 h4)) (ObsOk.cons (obCall (c94 h16)) (ObsOk.cons (obCall (c38 h120)) (ObsOk.cons (obCall (c94 h14)) (ObsOk.cons (obCall (c94 h16)) (ObsOk.cons (obCall (c94 h16)) (ObsOk.cons (obLit [r13, r15, r15]) (ObsOk.cons (obCall (c37 h122)) (ObsOk.cons (obCall (c92 h124)) (ObsOk.cons (obCall (c92 h126)) (ObsOk.cons (obCall (c97 h128)) (ObsOk.cons (obCall (c93 h4)) (ObsOk.cons (obCall (c93 h4)) (ObsOk.cons (obCall (c94 h14)) (ObsOk.cons (obCall (c94 h14)) (ObsOk.cons (obCall (c38 h12)) (ObsOk.cons (obCall (c94 h96)) (ObsOk.cons (obCall (c94 h66)) (ObsOk.cons (obLit [r95, r65]) (ObsOk.cons (obCall (c37 h130)) (ObsOk.cons (obCall (c92 h132)) (ObsOk.cons (obCall (c92 h134)) (ObsOk.cons (obCall (c92 h136)) (ObsOk.cons (obCall (c92 h138)) (ObsOk.cons (obCall (c97 h140)) (ObsOk.cons (obCall (c93 h4)) (ObsOk.cons (obCall (c93 h4)) (ObsOk.cons (obCall (c94 h66)) (ObsOk.cons (obCall (c92 h142)) (ObsOk.cons (obCall (c92 h144)) (ObsOk.cons (obCall (c92 h146)) (ObsOk.cons (obCall (c98 h148)) (ObsOk.cons (obCall (c93 h4)) (ObsOk.cons (obCall (c93 h4)) (ObsOk.cons (obCall (c94 h14)) (ObsOk.cons (obCall (c92 h150)) (ObsOk.cons (obCall (c92 h152)) (ObsOk.cons (obCall (c92 h154)) (ObsOk.cons (obCall (c98 h156)) (ObsOk.cons (obCall (c93 h4)) (ObsOk.cons (obCall (c91 h158)) (ObsOk.cons (obCall (c38 h160)) (ObsOk.cons (obCall (c97 h162)) (ObsOk.cons (obCall (c38 h160)) (ObsOk.cons (obCall (c92 h164)) (ObsOk.cons (obCall (c38 h160)) (ObsOk.cons (obCall (c92 h166)) (ObsOk.cons (obCall (c97 h168)) (ObsOk.cons (obCall (c92 h42)) (ObsOk.cons (obCall (c92 h170)) (ObsOk.cons (obCall (c93 h4)) (ObsOk.cons (obCall (c94 h16)) (ObsOk.cons (obCall (c94 h14)) (ObsOk.cons (obCall (c92 h172)) (ObsOk.cons (obCall (c92 h174)) (ObsOk.cons (obCall (c93 h4)) (ObsOk.cons (obCall (c94 h16)) (ObsOk.cons (obCall (c94 h16)) (ObsOk.cons (obCall (c95 h176)) (ObsOk.cons (obCall (c95 h178)) (ObsOk.cons (obData (dE [r37, r39, r43, r45, r49, r51, r53, r61, r75, r81, r91, r109, r117, r127, (Ent.mk r9.kind r9.name r9.type r9.body r9.fam r9.place r9.pars r9.inds r9.level r9.cons [16, 17]), r139, r147, r155, r157, r161, r167, (Ent.mk 3 (⟨#[112, 108, 117, 115]⟩ : ByteArray) r169 r35 0 0 0 0 0 [] []), (Ent.mk 3 (⟨#[105, 100]⟩ : ByteArray) r173 r177 0 0 0 0 0 [] [])])) ObsOk.nil)))))))))))))))))))))))))))))))))))))))))))))))))))))))))))))))))))))))))))))))))))))))))))))))))))))))))))))))))))))))))))))))))))))))))))))))))))))))))))))))))))) (by decide), trivial, (fun _ h => nomatch h), dE _, (fun _ h => nomatch h)⟩

/- scholium/infer.Check -/
def g39vz (p1 : Tm) (p2 : Tm) (cx : List Tm) (ny : List Int) (ty : List Tm) : Option (Int) :=
  (g87vz [p1, p2] cx ny ty) >>= fun r1 =>
  if (r1 != 0) = true then
    some r1
  else
    none
theorem c39vz {p1 : Tm} {p2 : Tm} {cx : List Tm} {ny : List Int} {ty : List Tm} {r : Int} (h : g39vz p1 p2 cx ny ty = some r) : CT Tryz.prog 39 [] [.agg [.val (.pointer none), .val (.pointer none), .sl (flat tmCells cx) (List.length cx) .no, .sl (flat intC ny) (List.length ny) .no, .sl (flat tmCells ty) (List.length ty) .no], tmA p1, tmA p2] (ai r) [] 0 := by
  unfold g39vz at h
  obtain ⟨r1, h2, h⟩ := obind h
  rcases bcases (r1 != 0) with h3 | h3
  · replace h := ifT h3 h
    replace h := Option.some.inj h
    subst h
    exact ⟨CTri.toFin prim_ok mixed Tryz.func39 (by kernel_rfl) 3000 [.no, .no, .no, .sl (flat tmCells [p1, p2]) (List.length [p1, p2]), .call [] [] 0 (.tup [.val (.pointer none), ai r1]) none, .no, .no, .bit true] [] [] [] false (by kernel_rfl) (ObsOk.cons (obLit [p1, p2]) (ObsOk.cons (obCall (c87vz h2)) (ObsOk.cons (obBit h3) ObsOk.nil))) (by decide), ⟨⟨trivial, trivial, ⟨trivial, dT _⟩, ⟨trivial, dI _⟩, ⟨trivial, dT _⟩, trivial⟩, ⟨trivial, trivial, ⟨trivial, dT _⟩, trivial⟩, ⟨trivial, trivial, ⟨trivial, dT _⟩, trivial⟩, trivial⟩, (fun _ h => nomatch h), trivial, (fun _ h => nomatch h)⟩
  · replace h := ifF h3 h
    cases h

/- scholium/infer.Context -/
def g40vz (cx : List Tm) (ny : List Int) (ty : List Tm) : Option (Int) :=
  (g34vz cx [] ny ty) >>= fun r1 =>
  some r1.2
theorem c40vz {cx : List Tm} {ny : List Int} {ty : List Tm} {r : Int} (h : g40vz cx ny ty = some r) : CT Tryz.prog 40 [] [.agg [.val (.pointer none), .val (.pointer none), .sl (flat tmCells cx) (List.length cx) .no, .sl (flat intC ny) (List.length ny) .no, .sl (flat tmCells ty) (List.length ty) .no]] (ai r) [] 0 := by
  unfold g40vz at h
  obtain ⟨r1, h2, h⟩ := obind h
  replace h := Option.some.inj h
  subst h
  exact ⟨CTri.toFin prim_ok mixed Tryz.func40 (by kernel_rfl) 3000 [.no, .no, .no, .call [] [] 0 (.tup [ai r1.1, ai r1.2]) none, .no, .no] [] [] [] false (by kernel_rfl) (ObsOk.cons (obCall (c34vz h2)) ObsOk.nil) (by decide), ⟨⟨trivial, trivial, ⟨trivial, dT _⟩, ⟨trivial, dI _⟩, ⟨trivial, dT _⟩, trivial⟩, trivial⟩, (fun _ h => nomatch h), trivial, (fun _ h => nomatch h)⟩

/- scholium/scholiumlaw17.awake -/
def g41  : Option (Bool) :=
  (g35 [] (Tm.mk 2 2 []) 5) >>= fun r1 =>
  if (r1.2 == 0) = true then
    if (r1.1.k == 2) = true then
      some (r1.1.n == 3)
    else
      some false
  else
    some false
theorem c41  {r : Bool} (h : g41  = some r) : CT Tryz.prog 41 [] [] (ab r) [] 0 := by
  unfold g41 at h
  obtain ⟨r1, h2, h⟩ := obind h
  rcases bcases (r1.2 == 0) with h3 | h3
  · replace h := ifT h3 h
    rcases bcases (r1.1.k == 2) with h4 | h4
    · replace h := ifT h4 h
      replace h := Option.some.inj h
      subst h
      exact ⟨CTri.toFin prim_ok mixed Tryz.func41 (by kernel_rfl) 3000 [.call [] [] 0 (.tup [tmA r1.1, ai r1.2]) none, .no, .no, .no, .bit true, .no, .bit true, .no, .no] [] [] [] false (by kernel_rfl) (ObsOk.cons (obCall (c35 h2)) (ObsOk.cons (obBit h3) (ObsOk.cons (obBit h4) ObsOk.nil))) (by decide), trivial, (fun _ h => nomatch h), trivial, (fun _ h => nomatch h)⟩
    · replace h := ifF h4 h
      replace h := Option.some.inj h
      subst h
      exact ⟨CTri.toFin prim_ok mixed Tryz.func41 (by kernel_rfl) 3000 [.call [] [] 0 (.tup [tmA r1.1, ai r1.2]) none, .no, .no, .no, .bit true, .no, .bit false] [] [] [] false (by kernel_rfl) (ObsOk.cons (obCall (c35 h2)) (ObsOk.cons (obBit h3) (ObsOk.cons (obBit h4) ObsOk.nil))) (by decide), trivial, (fun _ h => nomatch h), trivial, (fun _ h => nomatch h)⟩
  · replace h := ifF h3 h
    replace h := Option.some.inj h
    subst h
    exact ⟨CTri.toFin prim_ok mixed Tryz.func41 (by kernel_rfl) 3000 [.call [] [] 0 (.tup [tmA r1.1, ai r1.2]) none, .no, .no, .no, .bit false] [] [] [] false (by kernel_rfl) (ObsOk.cons (obCall (c35 h2)) (ObsOk.cons (obBit h3) ObsOk.nil)) (by decide), trivial, (fun _ h => nomatch h), trivial, (fun _ h => nomatch h)⟩

/- scholium/scholiumlaw17.InferNil -/
def g6 (p0 : Tm) (p1 : Tm) : Option (Bool) :=
  (g32vz p0 [] [] []) >>= fun r1 =>
  (g33vz p0 [] [] []) >>= fun r3 =>
  (g34vz [p0] [] [] []) >>= fun r5 =>
  (g35 [(Ent.mk 0 (⟨#[]⟩ : ByteArray) (Tm.mk 0 0 []) (Tm.mk 0 0 []) 0 0 0 0 0 [] [])] p0 5) >>= fun r7 =>
  (g36) >>= fun r9 =>
  (g21 r9) >>= fun r11 =>
  match r11 with
  | Sum.inl y36 =>
    (g38 2) >>= fun r37 =>
    (g38 1) >>= fun r39 =>
    (g37 r37 [r39]) >>= fun r41 =>
    (g32vz r41 [] [] []) >>= fun r43 =>
    if (r1.2 == 5) = true then
      if (r3.2 == 5) = true then
        if (r5.2 == 5) = true then
          (g39vz p0 p1 [] [] []) >>= fun r48 =>
          if (r48 == 5) = true then
            (g40vz [] [] []) >>= fun r51 =>
            if (r51 == 5) = true then
              if (r7.2 == 5) = true then
                if (y36 == 0) = true then
                  if (r43.2 == 8) = true then
                    (g41) >>= fun r57 =>
                    some r57
                  else
                    some false
                else
                  some false
              else
                some false
            else
              some false
          else
            some false
        else
          some false
      else
        some false
    else
      some false
  | Sum.inr y13 =>
    (g38 2) >>= fun r14 =>
    (g38 1) >>= fun r16 =>
    (g37 r14 [r16]) >>= fun r18 =>
    (g32vn r18 (Mach.mk y13.2.1 y13.2.2.2.2.1 y13.2.2.2.2.2 y13.2.2.1 y13.2.2.2.1) [] [] []) >>= fun r20 =>
    if (r1.2 == 5) = true then
      if (r3.2 == 5) = true then
        if (r5.2 == 5) = true then
          (g39vz p0 p1 [] [] []) >>= fun r25 =>
          if (r25 == 5) = true then
            (g40vz [] [] []) >>= fun r28 =>
            if (r28 == 5) = true then
              if (r7.2 == 5) = true then
                if (y13.1 == 0) = true then
                  if (r20.2 == 8) = true then
                    (g41) >>= fun r34 =>
                    some r34
                  else
                    some false
                else
                  some false
              else
                some false
            else
              some false
          else
            some false
        else
          some false
      else
        some false
    else
      some false
theorem c6 {p0 : Tm} {p1 : Tm} {r : Bool} (h : g6 p0 p1 = some r) : CT Tryz.prog 6 [] [tmA p0, tmA p1] (ab r) [] 0 := by
  unfold g6 at h
  obtain ⟨r1, h2, h⟩ := obind h
  obtain ⟨r3, h4, h⟩ := obind h
  obtain ⟨r5, h6, h⟩ := obind h
  obtain ⟨r7, h8, h⟩ := obind h
  obtain ⟨r9, h10, h⟩ := obind h
  obtain ⟨r11, h12, h⟩ := obind h
  rcases r11 with y36 | y13
  · dsimp only at h
    obtain ⟨r37, h38, h⟩ := obind h
    obtain ⟨r39, h40, h⟩ := obind h
    obtain ⟨r41, h42, h⟩ := obind h
    obtain ⟨r43, h44, h⟩ := obind h
    rcases bcases (r1.2 == 5) with h45 | h45
    · replace h := ifT h45 h
      rcases bcases (r3.2 == 5) with h46 | h46
      · replace h := ifT h46 h
        rcases bcases (r5.2 == 5) with h47 | h47
        · replace h := ifT h47 h
          obtain ⟨r48, h49, h⟩ := obind h
          rcases bcases (r48 == 5) with h50 | h50
          · replace h := ifT h50 h
            obtain ⟨r51, h52, h⟩ := obind h
            rcases bcases (r51 == 5) with h53 | h53
            · replace h := ifT h53 h
              rcases bcases (r7.2 == 5) with h54 | h54
              · replace h := ifT h54 h
                rcases bcases (y36 == 0) with h55 | h55
                · replace h := ifT h55 h
                  rcases bcases (r43.2 == 8) with h56 | h56
                  · replace h := ifT h56 h
                    obtain ⟨r57, h58, h⟩ := obind h
                    replace h := Option.some.inj h
                    subst h
                    exact ⟨CTri.toFin prim_ok mixed Tryz.func6 (by kernel_rfl) 3000 [.no, .no, .no, .call [] [] 0 (.tup [tmA r1.1, ai r1.2]) none, .no, .no, .no, .no, .no, .call [] [] 0 (.tup [ai r3.1, ai r3.2]) none, .no, .no, .no, .no, .sl (flat tmCells [p0]) (List.length [p0]), .call [] [] 0 (.tup [ai r5.1, ai r5.2]) none, .no, .no, .no, .no, .call [] [] 0 (.tup [tmA r7.1, ai r7.2]) none, .no, .no, .no, .call [] [] 0 (.sl (flat entL r9) (List.length r9) .no) none, .call [] [] 0 (.tup [.val (.pointer none), ai y36]) none, .no, .no, .call [] [] 0 (tmA r37) none, .call [] [] 0 (tmA r39) none, .sl (flat tmCells [r39]) (List.length [r39]), .call [] [] 0 (tmA r41) none, .no, .no, .call [] [] 0 (.tup [tmA r43.1, ai r43.2]) none, .no, .no, .no, .bit true, .bit true, .bit true, .no, .no, .no, .call [] [] 0 (ai r48) none, .bit true, .no, .call [] [] 0 (ai r51) none, .bit true, .bit true, .bit true, .bit true, .call [] [] 0 (ab r57) none] [] [] [] false (by kernel_rfl) (ObsOk.cons (obCall (c32vz h2)) (ObsOk.cons (obCall (c33vz h4)) (ObsOk.cons (obLit [p0]) (ObsOk.cons (obCall (c34vz h6)) (ObsOk.cons (obCall (c35 h8)) (ObsOk.cons (obCall (c36 h10)) (ObsOk.cons (obCall (c21 h12)) (ObsOk.cons (obCall (c38 h38)) (ObsOk.cons (obCall (c38 h40)) (ObsOk.cons (obLit [r39]) (ObsOk.cons (obCall (c37 h42)) (ObsOk.cons (obCall (c32vz h44)) (ObsOk.cons (obBit h45) (ObsOk.cons (obBit h46) (ObsOk.cons (obBit h47) (ObsOk.cons (obCall (c39vz h49)) (ObsOk.cons (obBit h50) (ObsOk.cons (obCall (c40vz h52)) (ObsOk.cons (obBit h53) (ObsOk.cons (obBit h54) (ObsOk.cons (obBit h55) (ObsOk.cons (obBit h56) (ObsOk.cons (obCall (c41 h58)) ObsOk.nil))))))))))))))))))))))) (by decide), ⟨⟨trivial, trivial, ⟨trivial, dT _⟩, trivial⟩, ⟨trivial, trivial, ⟨trivial, dT _⟩, trivial⟩, trivial⟩, (fun _ h => nomatch h), trivial, (fun _ h => nomatch h)⟩
                  · replace h := ifF h56 h
                    replace h := Option.some.inj h
                    subst h
                    exact ⟨CTri.toFin prim_ok mixed Tryz.func6 (by kernel_rfl) 3000 [.no, .no, .no, .call [] [] 0 (.tup [tmA r1.1, ai r1.2]) none, .no, .no, .no, .no, .no, .call [] [] 0 (.tup [ai r3.1, ai r3.2]) none, .no, .no, .no, .no, .sl (flat tmCells [p0]) (List.length [p0]), .call [] [] 0 (.tup [ai r5.1, ai r5.2]) none, .no, .no, .no, .no, .call [] [] 0 (.tup [tmA r7.1, ai r7.2]) none, .no, .no, .no, .call [] [] 0 (.sl (flat entL r9) (List.length r9) .no) none, .call [] [] 0 (.tup [.val (.pointer none), ai y36]) none, .no, .no, .call [] [] 0 (tmA r37) none, .call [] [] 0 (tmA r39) none, .sl (flat tmCells [r39]) (List.length [r39]), .call [] [] 0 (tmA r41) none, .no, .no, .call [] [] 0 (.tup [tmA r43.1, ai r43.2]) none, .no, .no, .no, .bit true, .bit true, .bit true, .no, .no, .no, .call [] [] 0 (ai r48) none, .bit true, .no, .call [] [] 0 (ai r51) none, .bit true, .bit true, .bit true, .bit false] [] [] [] false (by kernel_rfl) (ObsOk.cons (obCall (c32vz h2)) (ObsOk.cons (obCall (c33vz h4)) (ObsOk.cons (obLit [p0]) (ObsOk.cons (obCall (c34vz h6)) (ObsOk.cons (obCall (c35 h8)) (ObsOk.cons (obCall (c36 h10)) (ObsOk.cons (obCall (c21 h12)) (ObsOk.cons (obCall (c38 h38)) (ObsOk.cons (obCall (c38 h40)) (ObsOk.cons (obLit [r39]) (ObsOk.cons (obCall (c37 h42)) (ObsOk.cons (obCall (c32vz h44)) (ObsOk.cons (obBit h45) (ObsOk.cons (obBit h46) (ObsOk.cons (obBit h47) (ObsOk.cons (obCall (c39vz h49)) (ObsOk.cons (obBit h50) (ObsOk.cons (obCall (c40vz h52)) (ObsOk.cons (obBit h53) (ObsOk.cons (obBit h54) (ObsOk.cons (obBit h55) (ObsOk.cons (obBit h56) ObsOk.nil)))))))))))))))))))))) (by decide), ⟨⟨trivial, trivial, ⟨trivial, dT _⟩, trivial⟩, ⟨trivial, trivial, ⟨trivial, dT _⟩, trivial⟩, trivial⟩, (fun _ h => nomatch h), trivial, (fun _ h => nomatch h)⟩
                · replace h := ifF h55 h
                  replace h := Option.some.inj h
                  subst h
                  exact ⟨CTri.toFin prim_ok mixed Tryz.func6 (by kernel_rfl) 3000 [.no, .no, .no, .call [] [] 0 (.tup [tmA r1.1, ai r1.2]) none, .no, .no, .no, .no, .no, .call [] [] 0 (.tup [ai r3.1, ai r3.2]) none, .no, .no, .no, .no, .sl (flat tmCells [p0]) (List.length [p0]), .call [] [] 0 (.tup [ai r5.1, ai r5.2]) none, .no, .no, .no, .no, .call [] [] 0 (.tup [tmA r7.1, ai r7.2]) none, .no, .no, .no, .call [] [] 0 (.sl (flat entL r9) (List.length r9) .no) none, .call [] [] 0 (.tup [.val (.pointer none), ai y36]) none, .no, .no, .call [] [] 0 (tmA r37) none, .call [] [] 0 (tmA r39) none, .sl (flat tmCells [r39]) (List.length [r39]), .call [] [] 0 (tmA r41) none, .no, .no, .call [] [] 0 (.tup [tmA r43.1, ai r43.2]) none, .no, .no, .no, .bit true, .bit true, .bit true, .no, .no, .no, .call [] [] 0 (ai r48) none, .bit true, .no, .call [] [] 0 (ai r51) none, .bit true, .bit true, .bit false] [] [] [] false (by kernel_rfl) (ObsOk.cons (obCall (c32vz h2)) (ObsOk.cons (obCall (c33vz h4)) (ObsOk.cons (obLit [p0]) (ObsOk.cons (obCall (c34vz h6)) (ObsOk.cons (obCall (c35 h8)) (ObsOk.cons (obCall (c36 h10)) (ObsOk.cons (obCall (c21 h12)) (ObsOk.cons (obCall (c38 h38)) (ObsOk.cons (obCall (c38 h40)) (ObsOk.cons (obLit [r39]) (ObsOk.cons (obCall (c37 h42)) (ObsOk.cons (obCall (c32vz h44)) (ObsOk.cons (obBit h45) (ObsOk.cons (obBit h46) (ObsOk.cons (obBit h47) (ObsOk.cons (obCall (c39vz h49)) (ObsOk.cons (obBit h50) (ObsOk.cons (obCall (c40vz h52)) (ObsOk.cons (obBit h53) (ObsOk.cons (obBit h54) (ObsOk.cons (obBit h55) ObsOk.nil))))))))))))))))))))) (by decide), ⟨⟨trivial, trivial, ⟨trivial, dT _⟩, trivial⟩, ⟨trivial, trivial, ⟨trivial, dT _⟩, trivial⟩, trivial⟩, (fun _ h => nomatch h), trivial, (fun _ h => nomatch h)⟩
              · replace h := ifF h54 h
                replace h := Option.some.inj h
                subst h
                exact ⟨CTri.toFin prim_ok mixed Tryz.func6 (by kernel_rfl) 3000 [.no, .no, .no, .call [] [] 0 (.tup [tmA r1.1, ai r1.2]) none, .no, .no, .no, .no, .no, .call [] [] 0 (.tup [ai r3.1, ai r3.2]) none, .no, .no, .no, .no, .sl (flat tmCells [p0]) (List.length [p0]), .call [] [] 0 (.tup [ai r5.1, ai r5.2]) none, .no, .no, .no, .no, .call [] [] 0 (.tup [tmA r7.1, ai r7.2]) none, .no, .no, .no, .call [] [] 0 (.sl (flat entL r9) (List.length r9) .no) none, .call [] [] 0 (.tup [.val (.pointer none), ai y36]) none, .no, .no, .call [] [] 0 (tmA r37) none, .call [] [] 0 (tmA r39) none, .sl (flat tmCells [r39]) (List.length [r39]), .call [] [] 0 (tmA r41) none, .no, .no, .call [] [] 0 (.tup [tmA r43.1, ai r43.2]) none, .no, .no, .no, .bit true, .bit true, .bit true, .no, .no, .no, .call [] [] 0 (ai r48) none, .bit true, .no, .call [] [] 0 (ai r51) none, .bit true, .bit false] [] [] [] false (by kernel_rfl) (ObsOk.cons (obCall (c32vz h2)) (ObsOk.cons (obCall (c33vz h4)) (ObsOk.cons (obLit [p0]) (ObsOk.cons (obCall (c34vz h6)) (ObsOk.cons (obCall (c35 h8)) (ObsOk.cons (obCall (c36 h10)) (ObsOk.cons (obCall (c21 h12)) (ObsOk.cons (obCall (c38 h38)) (ObsOk.cons (obCall (c38 h40)) (ObsOk.cons (obLit [r39]) (ObsOk.cons (obCall (c37 h42)) (ObsOk.cons (obCall (c32vz h44)) (ObsOk.cons (obBit h45) (ObsOk.cons (obBit h46) (ObsOk.cons (obBit h47) (ObsOk.cons (obCall (c39vz h49)) (ObsOk.cons (obBit h50) (ObsOk.cons (obCall (c40vz h52)) (ObsOk.cons (obBit h53) (ObsOk.cons (obBit h54) ObsOk.nil)))))))))))))))))))) (by decide), ⟨⟨trivial, trivial, ⟨trivial, dT _⟩, trivial⟩, ⟨trivial, trivial, ⟨trivial, dT _⟩, trivial⟩, trivial⟩, (fun _ h => nomatch h), trivial, (fun _ h => nomatch h)⟩
            · replace h := ifF h53 h
              replace h := Option.some.inj h
              subst h
              exact ⟨CTri.toFin prim_ok mixed Tryz.func6 (by kernel_rfl) 3000 [.no, .no, .no, .call [] [] 0 (.tup [tmA r1.1, ai r1.2]) none, .no, .no, .no, .no, .no, .call [] [] 0 (.tup [ai r3.1, ai r3.2]) none, .no, .no, .no, .no, .sl (flat tmCells [p0]) (List.length [p0]), .call [] [] 0 (.tup [ai r5.1, ai r5.2]) none, .no, .no, .no, .no, .call [] [] 0 (.tup [tmA r7.1, ai r7.2]) none, .no, .no, .no, .call [] [] 0 (.sl (flat entL r9) (List.length r9) .no) none, .call [] [] 0 (.tup [.val (.pointer none), ai y36]) none, .no, .no, .call [] [] 0 (tmA r37) none, .call [] [] 0 (tmA r39) none, .sl (flat tmCells [r39]) (List.length [r39]), .call [] [] 0 (tmA r41) none, .no, .no, .call [] [] 0 (.tup [tmA r43.1, ai r43.2]) none, .no, .no, .no, .bit true, .bit true, .bit true, .no, .no, .no, .call [] [] 0 (ai r48) none, .bit true, .no, .call [] [] 0 (ai r51) none, .bit false] [] [] [] false (by kernel_rfl) (ObsOk.cons (obCall (c32vz h2)) (ObsOk.cons (obCall (c33vz h4)) (ObsOk.cons (obLit [p0]) (ObsOk.cons (obCall (c34vz h6)) (ObsOk.cons (obCall (c35 h8)) (ObsOk.cons (obCall (c36 h10)) (ObsOk.cons (obCall (c21 h12)) (ObsOk.cons (obCall (c38 h38)) (ObsOk.cons (obCall (c38 h40)) (ObsOk.cons (obLit [r39]) (ObsOk.cons (obCall (c37 h42)) (ObsOk.cons (obCall (c32vz h44)) (ObsOk.cons (obBit h45) (ObsOk.cons (obBit h46) (ObsOk.cons (obBit h47) (ObsOk.cons (obCall (c39vz h49)) (ObsOk.cons (obBit h50) (ObsOk.cons (obCall (c40vz h52)) (ObsOk.cons (obBit h53) ObsOk.nil))))))))))))))))))) (by decide), ⟨⟨trivial, trivial, ⟨trivial, dT _⟩, trivial⟩, ⟨trivial, trivial, ⟨trivial, dT _⟩, trivial⟩, trivial⟩, (fun _ h => nomatch h), trivial, (fun _ h => nomatch h)⟩
          · replace h := ifF h50 h
            replace h := Option.some.inj h
            subst h
            exact ⟨CTri.toFin prim_ok mixed Tryz.func6 (by kernel_rfl) 3000 [.no, .no, .no, .call [] [] 0 (.tup [tmA r1.1, ai r1.2]) none, .no, .no, .no, .no, .no, .call [] [] 0 (.tup [ai r3.1, ai r3.2]) none, .no, .no, .no, .no, .sl (flat tmCells [p0]) (List.length [p0]), .call [] [] 0 (.tup [ai r5.1, ai r5.2]) none, .no, .no, .no, .no, .call [] [] 0 (.tup [tmA r7.1, ai r7.2]) none, .no, .no, .no, .call [] [] 0 (.sl (flat entL r9) (List.length r9) .no) none, .call [] [] 0 (.tup [.val (.pointer none), ai y36]) none, .no, .no, .call [] [] 0 (tmA r37) none, .call [] [] 0 (tmA r39) none, .sl (flat tmCells [r39]) (List.length [r39]), .call [] [] 0 (tmA r41) none, .no, .no, .call [] [] 0 (.tup [tmA r43.1, ai r43.2]) none, .no, .no, .no, .bit true, .bit true, .bit true, .no, .no, .no, .call [] [] 0 (ai r48) none, .bit false] [] [] [] false (by kernel_rfl) (ObsOk.cons (obCall (c32vz h2)) (ObsOk.cons (obCall (c33vz h4)) (ObsOk.cons (obLit [p0]) (ObsOk.cons (obCall (c34vz h6)) (ObsOk.cons (obCall (c35 h8)) (ObsOk.cons (obCall (c36 h10)) (ObsOk.cons (obCall (c21 h12)) (ObsOk.cons (obCall (c38 h38)) (ObsOk.cons (obCall (c38 h40)) (ObsOk.cons (obLit [r39]) (ObsOk.cons (obCall (c37 h42)) (ObsOk.cons (obCall (c32vz h44)) (ObsOk.cons (obBit h45) (ObsOk.cons (obBit h46) (ObsOk.cons (obBit h47) (ObsOk.cons (obCall (c39vz h49)) (ObsOk.cons (obBit h50) ObsOk.nil))))))))))))))))) (by decide), ⟨⟨trivial, trivial, ⟨trivial, dT _⟩, trivial⟩, ⟨trivial, trivial, ⟨trivial, dT _⟩, trivial⟩, trivial⟩, (fun _ h => nomatch h), trivial, (fun _ h => nomatch h)⟩
        · replace h := ifF h47 h
          replace h := Option.some.inj h
          subst h
          exact ⟨CTri.toFin prim_ok mixed Tryz.func6 (by kernel_rfl) 3000 [.no, .no, .no, .call [] [] 0 (.tup [tmA r1.1, ai r1.2]) none, .no, .no, .no, .no, .no, .call [] [] 0 (.tup [ai r3.1, ai r3.2]) none, .no, .no, .no, .no, .sl (flat tmCells [p0]) (List.length [p0]), .call [] [] 0 (.tup [ai r5.1, ai r5.2]) none, .no, .no, .no, .no, .call [] [] 0 (.tup [tmA r7.1, ai r7.2]) none, .no, .no, .no, .call [] [] 0 (.sl (flat entL r9) (List.length r9) .no) none, .call [] [] 0 (.tup [.val (.pointer none), ai y36]) none, .no, .no, .call [] [] 0 (tmA r37) none, .call [] [] 0 (tmA r39) none, .sl (flat tmCells [r39]) (List.length [r39]), .call [] [] 0 (tmA r41) none, .no, .no, .call [] [] 0 (.tup [tmA r43.1, ai r43.2]) none, .no, .no, .no, .bit true, .bit true, .bit false] [] [] [] false (by kernel_rfl) (ObsOk.cons (obCall (c32vz h2)) (ObsOk.cons (obCall (c33vz h4)) (ObsOk.cons (obLit [p0]) (ObsOk.cons (obCall (c34vz h6)) (ObsOk.cons (obCall (c35 h8)) (ObsOk.cons (obCall (c36 h10)) (ObsOk.cons (obCall (c21 h12)) (ObsOk.cons (obCall (c38 h38)) (ObsOk.cons (obCall (c38 h40)) (ObsOk.cons (obLit [r39]) (ObsOk.cons (obCall (c37 h42)) (ObsOk.cons (obCall (c32vz h44)) (ObsOk.cons (obBit h45) (ObsOk.cons (obBit h46) (ObsOk.cons (obBit h47) ObsOk.nil))))))))))))))) (by decide), ⟨⟨trivial, trivial, ⟨trivial, dT _⟩, trivial⟩, ⟨trivial, trivial, ⟨trivial, dT _⟩, trivial⟩, trivial⟩, (fun _ h => nomatch h), trivial, (fun _ h => nomatch h)⟩
      · replace h := ifF h46 h
        replace h := Option.some.inj h
        subst h
        exact ⟨CTri.toFin prim_ok mixed Tryz.func6 (by kernel_rfl) 3000 [.no, .no, .no, .call [] [] 0 (.tup [tmA r1.1, ai r1.2]) none, .no, .no, .no, .no, .no, .call [] [] 0 (.tup [ai r3.1, ai r3.2]) none, .no, .no, .no, .no, .sl (flat tmCells [p0]) (List.length [p0]), .call [] [] 0 (.tup [ai r5.1, ai r5.2]) none, .no, .no, .no, .no, .call [] [] 0 (.tup [tmA r7.1, ai r7.2]) none, .no, .no, .no, .call [] [] 0 (.sl (flat entL r9) (List.length r9) .no) none, .call [] [] 0 (.tup [.val (.pointer none), ai y36]) none, .no, .no, .call [] [] 0 (tmA r37) none, .call [] [] 0 (tmA r39) none, .sl (flat tmCells [r39]) (List.length [r39]), .call [] [] 0 (tmA r41) none, .no, .no, .call [] [] 0 (.tup [tmA r43.1, ai r43.2]) none, .no, .no, .no, .bit true, .bit false] [] [] [] false (by kernel_rfl) (ObsOk.cons (obCall (c32vz h2)) (ObsOk.cons (obCall (c33vz h4)) (ObsOk.cons (obLit [p0]) (ObsOk.cons (obCall (c34vz h6)) (ObsOk.cons (obCall (c35 h8)) (ObsOk.cons (obCall (c36 h10)) (ObsOk.cons (obCall (c21 h12)) (ObsOk.cons (obCall (c38 h38)) (ObsOk.cons (obCall (c38 h40)) (ObsOk.cons (obLit [r39]) (ObsOk.cons (obCall (c37 h42)) (ObsOk.cons (obCall (c32vz h44)) (ObsOk.cons (obBit h45) (ObsOk.cons (obBit h46) ObsOk.nil)))))))))))))) (by decide), ⟨⟨trivial, trivial, ⟨trivial, dT _⟩, trivial⟩, ⟨trivial, trivial, ⟨trivial, dT _⟩, trivial⟩, trivial⟩, (fun _ h => nomatch h), trivial, (fun _ h => nomatch h)⟩
    · replace h := ifF h45 h
      replace h := Option.some.inj h
      subst h
      exact ⟨CTri.toFin prim_ok mixed Tryz.func6 (by kernel_rfl) 3000 [.no, .no, .no, .call [] [] 0 (.tup [tmA r1.1, ai r1.2]) none, .no, .no, .no, .no, .no, .call [] [] 0 (.tup [ai r3.1, ai r3.2]) none, .no, .no, .no, .no, .sl (flat tmCells [p0]) (List.length [p0]), .call [] [] 0 (.tup [ai r5.1, ai r5.2]) none, .no, .no, .no, .no, .call [] [] 0 (.tup [tmA r7.1, ai r7.2]) none, .no, .no, .no, .call [] [] 0 (.sl (flat entL r9) (List.length r9) .no) none, .call [] [] 0 (.tup [.val (.pointer none), ai y36]) none, .no, .no, .call [] [] 0 (tmA r37) none, .call [] [] 0 (tmA r39) none, .sl (flat tmCells [r39]) (List.length [r39]), .call [] [] 0 (tmA r41) none, .no, .no, .call [] [] 0 (.tup [tmA r43.1, ai r43.2]) none, .no, .no, .no, .bit false] [] [] [] false (by kernel_rfl) (ObsOk.cons (obCall (c32vz h2)) (ObsOk.cons (obCall (c33vz h4)) (ObsOk.cons (obLit [p0]) (ObsOk.cons (obCall (c34vz h6)) (ObsOk.cons (obCall (c35 h8)) (ObsOk.cons (obCall (c36 h10)) (ObsOk.cons (obCall (c21 h12)) (ObsOk.cons (obCall (c38 h38)) (ObsOk.cons (obCall (c38 h40)) (ObsOk.cons (obLit [r39]) (ObsOk.cons (obCall (c37 h42)) (ObsOk.cons (obCall (c32vz h44)) (ObsOk.cons (obBit h45) ObsOk.nil))))))))))))) (by decide), ⟨⟨trivial, trivial, ⟨trivial, dT _⟩, trivial⟩, ⟨trivial, trivial, ⟨trivial, dT _⟩, trivial⟩, trivial⟩, (fun _ h => nomatch h), trivial, (fun _ h => nomatch h)⟩
  · dsimp only at h
    obtain ⟨r14, h15, h⟩ := obind h
    obtain ⟨r16, h17, h⟩ := obind h
    obtain ⟨r18, h19, h⟩ := obind h
    obtain ⟨r20, h21, h⟩ := obind h
    rcases bcases (r1.2 == 5) with h22 | h22
    · replace h := ifT h22 h
      rcases bcases (r3.2 == 5) with h23 | h23
      · replace h := ifT h23 h
        rcases bcases (r5.2 == 5) with h24 | h24
        · replace h := ifT h24 h
          obtain ⟨r25, h26, h⟩ := obind h
          rcases bcases (r25 == 5) with h27 | h27
          · replace h := ifT h27 h
            obtain ⟨r28, h29, h⟩ := obind h
            rcases bcases (r28 == 5) with h30 | h30
            · replace h := ifT h30 h
              rcases bcases (r7.2 == 5) with h31 | h31
              · replace h := ifT h31 h
                rcases bcases (y13.1 == 0) with h32 | h32
                · replace h := ifT h32 h
                  rcases bcases (r20.2 == 8) with h33 | h33
                  · replace h := ifT h33 h
                    obtain ⟨r34, h35, h⟩ := obind h
                    replace h := Option.some.inj h
                    subst h
                    exact ⟨CTri.toFin prim_ok mixed Tryz.func6 (by kernel_rfl) 3000 [.no, .no, .no, .call [] [] 0 (.tup [tmA r1.1, ai r1.2]) none, .no, .no, .no, .no, .no, .call [] [] 0 (.tup [ai r3.1, ai r3.2]) none, .no, .no, .no, .no, .sl (flat tmCells [p0]) (List.length [p0]), .call [] [] 0 (.tup [ai r5.1, ai r5.2]) none, .no, .no, .no, .no, .call [] [] 0 (.tup [tmA r7.1, ai r7.2]) none, .no, .no, .no, .call [] [] 0 (.sl (flat entL r9) (List.length r9) .no) none, .call [] [.cells [.sl (flat entL y13.2.1) (List.length y13.2.1) .no, .mp 1 0, .sl (flat intC y13.2.2.1) (List.length y13.2.2.1) .no, .sl (flat intC y13.2.2.2.1) (List.length y13.2.2.2.1) .no], .cells [.sl (flat entL y13.2.2.2.2.1) (List.length y13.2.2.2.2.1) .no, .sl (flat conL y13.2.2.2.2.2) (List.length y13.2.2.2.2.2) .no]] 0 (.tup [.mp 0 0, ai y13.1]) none, .no, .no, .call [] [] 0 (tmA r14) none, .call [] [] 0 (tmA r16) none, .sl (flat tmCells [r16]) (List.length [r16]), .call [] [] 0 (tmA r18) none, .no, .no, .call [5, 6] [.cells [.sl (flat entL ((Mach.mk y13.2.1 y13.2.2.2.2.1 y13.2.2.2.2.2 y13.2.2.1 y13.2.2.2.1).l)) (List.length ((Mach.mk y13.2.1 y13.2.2.2.2.1 y13.2.2.2.2.2 y13.2.2.1 y13.2.2.2.1).l)) .no, .mp 1 0, .sl (flat intC ((Mach.mk y13.2.1 y13.2.2.2.2.1 y13.2.2.2.2.2 y13.2.2.1 y13.2.2.2.1).args)) (List.length ((Mach.mk y13.2.1 y13.2.2.2.2.1 y13.2.2.2.2.2 y13.2.2.1 y13.2.2.2.1).args)) .no, .sl (flat intC ((Mach.mk y13.2.1 y13.2.2.2.2.1 y13.2.2.2.2.2 y13.2.2.1 y13.2.2.2.1).own)) (List.length ((Mach.mk y13.2.1 y13.2.2.2.2.1 y13.2.2.2.2.2 y13.2.2.1 y13.2.2.2.1).own)) .no], .cells [.sl (flat entL ((Mach.mk y13.2.1 y13.2.2.2.2.1 y13.2.2.2.2.2 y13.2.2.1 y13.2.2.2.1).rl)) (List.length ((Mach.mk y13.2.1 y13.2.2.2.2.1 y13.2.2.2.2.2 y13.2.2.1 y13.2.2.2.1).rl)) .no, .sl (flat conL ((Mach.mk y13.2.1 y13.2.2.2.2.1 y13.2.2.2.2.2 y13.2.2.1 y13.2.2.2.1).parts)) (List.length ((Mach.mk y13.2.1 y13.2.2.2.2.1 y13.2.2.2.2.2 y13.2.2.1 y13.2.2.2.1).parts)) .no]] 0 (.tup [tmA r20.1, ai r20.2]) none, .no, .no, .no, .bit true, .bit true, .bit true, .no, .no, .no, .call [] [] 0 (ai r25) none, .bit true, .no, .call [] [] 0 (ai r28) none, .bit true, .bit true, .bit true, .bit true, .call [] [] 0 (ab r34) none] [] [] [] false (by kernel_rfl) (ObsOk.cons (obCall (c32vz h2)) (ObsOk.cons (obCall (c33vz h4)) (ObsOk.cons (obLit [p0]) (ObsOk.cons (obCall (c34vz h6)) (ObsOk.cons (obCall (c35 h8)) (ObsOk.cons (obCall (c36 h10)) (ObsOk.cons (obCall (c21 h12)) (ObsOk.cons (obCall (c38 h15)) (ObsOk.cons (obCall (c38 h17)) (ObsOk.cons (obLit [r16]) (ObsOk.cons (obCall (c37 h19)) (ObsOk.cons (obCall (c32vn h21)) (ObsOk.cons (obBit h22) (ObsOk.cons (obBit h23) (ObsOk.cons (obBit h24) (ObsOk.cons (obCall (c39vz h26)) (ObsOk.cons (obBit h27) (ObsOk.cons (obCall (c40vz h29)) (ObsOk.cons (obBit h30) (ObsOk.cons (obBit h31) (ObsOk.cons (obBit h32) (ObsOk.cons (obBit h33) (ObsOk.cons (obCall (c41 h35)) ObsOk.nil))))))))))))))))))))))) (by decide), ⟨⟨trivial, trivial, ⟨trivial, dT _⟩, trivial⟩, ⟨trivial, trivial, ⟨trivial, dT _⟩, trivial⟩, trivial⟩, (fun _ h => nomatch h), trivial, (fun _ h => nomatch h)⟩
                  · replace h := ifF h33 h
                    replace h := Option.some.inj h
                    subst h
                    exact ⟨CTri.toFin prim_ok mixed Tryz.func6 (by kernel_rfl) 3000 [.no, .no, .no, .call [] [] 0 (.tup [tmA r1.1, ai r1.2]) none, .no, .no, .no, .no, .no, .call [] [] 0 (.tup [ai r3.1, ai r3.2]) none, .no, .no, .no, .no, .sl (flat tmCells [p0]) (List.length [p0]), .call [] [] 0 (.tup [ai r5.1, ai r5.2]) none, .no, .no, .no, .no, .call [] [] 0 (.tup [tmA r7.1, ai r7.2]) none, .no, .no, .no, .call [] [] 0 (.sl (flat entL r9) (List.length r9) .no) none, .call [] [.cells [.sl (flat entL y13.2.1) (List.length y13.2.1) .no, .mp 1 0, .sl (flat intC y13.2.2.1) (List.length y13.2.2.1) .no, .sl (flat intC y13.2.2.2.1) (List.length y13.2.2.2.1) .no], .cells [.sl (flat entL y13.2.2.2.2.1) (List.length y13.2.2.2.2.1) .no, .sl (flat conL y13.2.2.2.2.2) (List.length y13.2.2.2.2.2) .no]] 0 (.tup [.mp 0 0, ai y13.1]) none, .no, .no, .call [] [] 0 (tmA r14) none, .call [] [] 0 (tmA r16) none, .sl (flat tmCells [r16]) (List.length [r16]), .call [] [] 0 (tmA r18) none, .no, .no, .call [5, 6] [.cells [.sl (flat entL ((Mach.mk y13.2.1 y13.2.2.2.2.1 y13.2.2.2.2.2 y13.2.2.1 y13.2.2.2.1).l)) (List.length ((Mach.mk y13.2.1 y13.2.2.2.2.1 y13.2.2.2.2.2 y13.2.2.1 y13.2.2.2.1).l)) .no, .mp 1 0, .sl (flat intC ((Mach.mk y13.2.1 y13.2.2.2.2.1 y13.2.2.2.2.2 y13.2.2.1 y13.2.2.2.1).args)) (List.length ((Mach.mk y13.2.1 y13.2.2.2.2.1 y13.2.2.2.2.2 y13.2.2.1 y13.2.2.2.1).args)) .no, .sl (flat intC ((Mach.mk y13.2.1 y13.2.2.2.2.1 y13.2.2.2.2.2 y13.2.2.1 y13.2.2.2.1).own)) (List.length ((Mach.mk y13.2.1 y13.2.2.2.2.1 y13.2.2.2.2.2 y13.2.2.1 y13.2.2.2.1).own)) .no], .cells [.sl (flat entL ((Mach.mk y13.2.1 y13.2.2.2.2.1 y13.2.2.2.2.2 y13.2.2.1 y13.2.2.2.1).rl)) (List.length ((Mach.mk y13.2.1 y13.2.2.2.2.1 y13.2.2.2.2.2 y13.2.2.1 y13.2.2.2.1).rl)) .no, .sl (flat conL ((Mach.mk y13.2.1 y13.2.2.2.2.1 y13.2.2.2.2.2 y13.2.2.1 y13.2.2.2.1).parts)) (List.length ((Mach.mk y13.2.1 y13.2.2.2.2.1 y13.2.2.2.2.2 y13.2.2.1 y13.2.2.2.1).parts)) .no]] 0 (.tup [tmA r20.1, ai r20.2]) none, .no, .no, .no, .bit true, .bit true, .bit true, .no, .no, .no, .call [] [] 0 (ai r25) none, .bit true, .no, .call [] [] 0 (ai r28) none, .bit true, .bit true, .bit true, .bit false] [] [] [] false (by kernel_rfl) (ObsOk.cons (obCall (c32vz h2)) (ObsOk.cons (obCall (c33vz h4)) (ObsOk.cons (obLit [p0]) (ObsOk.cons (obCall (c34vz h6)) (ObsOk.cons (obCall (c35 h8)) (ObsOk.cons (obCall (c36 h10)) (ObsOk.cons (obCall (c21 h12)) (ObsOk.cons (obCall (c38 h15)) (ObsOk.cons (obCall (c38 h17)) (ObsOk.cons (obLit [r16]) (ObsOk.cons (obCall (c37 h19)) (ObsOk.cons (obCall (c32vn h21)) (ObsOk.cons (obBit h22) (ObsOk.cons (obBit h23) (ObsOk.cons (obBit h24) (ObsOk.cons (obCall (c39vz h26)) (ObsOk.cons (obBit h27) (ObsOk.cons (obCall (c40vz h29)) (ObsOk.cons (obBit h30) (ObsOk.cons (obBit h31) (ObsOk.cons (obBit h32) (ObsOk.cons (obBit h33) ObsOk.nil)))))))))))))))))))))) (by decide), ⟨⟨trivial, trivial, ⟨trivial, dT _⟩, trivial⟩, ⟨trivial, trivial, ⟨trivial, dT _⟩, trivial⟩, trivial⟩, (fun _ h => nomatch h), trivial, (fun _ h => nomatch h)⟩
                · replace h := ifF h32 h
                  replace h := Option.some.inj h
                  subst h
                  exact ⟨CTri.toFin prim_ok mixed Tryz.func6 (by kernel_rfl) 3000 [.no, .no, .no, .call [] [] 0 (.tup [tmA r1.1, ai r1.2]) none, .no, .no, .no, .no, .no, .call [] [] 0 (.tup [ai r3.1, ai r3.2]) none, .no, .no, .no, .no, .sl (flat tmCells [p0]) (List.length [p0]), .call [] [] 0 (.tup [ai r5.1, ai r5.2]) none, .no, .no, .no, .no, .call [] [] 0 (.tup [tmA r7.1, ai r7.2]) none, .no, .no, .no, .call [] [] 0 (.sl (flat entL r9) (List.length r9) .no) none, .call [] [.cells [.sl (flat entL y13.2.1) (List.length y13.2.1) .no, .mp 1 0, .sl (flat intC y13.2.2.1) (List.length y13.2.2.1) .no, .sl (flat intC y13.2.2.2.1) (List.length y13.2.2.2.1) .no], .cells [.sl (flat entL y13.2.2.2.2.1) (List.length y13.2.2.2.2.1) .no, .sl (flat conL y13.2.2.2.2.2) (List.length y13.2.2.2.2.2) .no]] 0 (.tup [.mp 0 0, ai y13.1]) none, .no, .no, .call [] [] 0 (tmA r14) none, .call [] [] 0 (tmA r16) none, .sl (flat tmCells [r16]) (List.length [r16]), .call [] [] 0 (tmA r18) none, .no, .no, .call [5, 6] [.cells [.sl (flat entL ((Mach.mk y13.2.1 y13.2.2.2.2.1 y13.2.2.2.2.2 y13.2.2.1 y13.2.2.2.1).l)) (List.length ((Mach.mk y13.2.1 y13.2.2.2.2.1 y13.2.2.2.2.2 y13.2.2.1 y13.2.2.2.1).l)) .no, .mp 1 0, .sl (flat intC ((Mach.mk y13.2.1 y13.2.2.2.2.1 y13.2.2.2.2.2 y13.2.2.1 y13.2.2.2.1).args)) (List.length ((Mach.mk y13.2.1 y13.2.2.2.2.1 y13.2.2.2.2.2 y13.2.2.1 y13.2.2.2.1).args)) .no, .sl (flat intC ((Mach.mk y13.2.1 y13.2.2.2.2.1 y13.2.2.2.2.2 y13.2.2.1 y13.2.2.2.1).own)) (List.length ((Mach.mk y13.2.1 y13.2.2.2.2.1 y13.2.2.2.2.2 y13.2.2.1 y13.2.2.2.1).own)) .no], .cells [.sl (flat entL ((Mach.mk y13.2.1 y13.2.2.2.2.1 y13.2.2.2.2.2 y13.2.2.1 y13.2.2.2.1).rl)) (List.length ((Mach.mk y13.2.1 y13.2.2.2.2.1 y13.2.2.2.2.2 y13.2.2.1 y13.2.2.2.1).rl)) .no, .sl (flat conL ((Mach.mk y13.2.1 y13.2.2.2.2.1 y13.2.2.2.2.2 y13.2.2.1 y13.2.2.2.1).parts)) (List.length ((Mach.mk y13.2.1 y13.2.2.2.2.1 y13.2.2.2.2.2 y13.2.2.1 y13.2.2.2.1).parts)) .no]] 0 (.tup [tmA r20.1, ai r20.2]) none, .no, .no, .no, .bit true, .bit true, .bit true, .no, .no, .no, .call [] [] 0 (ai r25) none, .bit true, .no, .call [] [] 0 (ai r28) none, .bit true, .bit true, .bit false] [] [] [] false (by kernel_rfl) (ObsOk.cons (obCall (c32vz h2)) (ObsOk.cons (obCall (c33vz h4)) (ObsOk.cons (obLit [p0]) (ObsOk.cons (obCall (c34vz h6)) (ObsOk.cons (obCall (c35 h8)) (ObsOk.cons (obCall (c36 h10)) (ObsOk.cons (obCall (c21 h12)) (ObsOk.cons (obCall (c38 h15)) (ObsOk.cons (obCall (c38 h17)) (ObsOk.cons (obLit [r16]) (ObsOk.cons (obCall (c37 h19)) (ObsOk.cons (obCall (c32vn h21)) (ObsOk.cons (obBit h22) (ObsOk.cons (obBit h23) (ObsOk.cons (obBit h24) (ObsOk.cons (obCall (c39vz h26)) (ObsOk.cons (obBit h27) (ObsOk.cons (obCall (c40vz h29)) (ObsOk.cons (obBit h30) (ObsOk.cons (obBit h31) (ObsOk.cons (obBit h32) ObsOk.nil))))))))))))))))))))) (by decide), ⟨⟨trivial, trivial, ⟨trivial, dT _⟩, trivial⟩, ⟨trivial, trivial, ⟨trivial, dT _⟩, trivial⟩, trivial⟩, (fun _ h => nomatch h), trivial, (fun _ h => nomatch h)⟩
              · replace h := ifF h31 h
                replace h := Option.some.inj h
                subst h
                exact ⟨CTri.toFin prim_ok mixed Tryz.func6 (by kernel_rfl) 3000 [.no, .no, .no, .call [] [] 0 (.tup [tmA r1.1, ai r1.2]) none, .no, .no, .no, .no, .no, .call [] [] 0 (.tup [ai r3.1, ai r3.2]) none, .no, .no, .no, .no, .sl (flat tmCells [p0]) (List.length [p0]), .call [] [] 0 (.tup [ai r5.1, ai r5.2]) none, .no, .no, .no, .no, .call [] [] 0 (.tup [tmA r7.1, ai r7.2]) none, .no, .no, .no, .call [] [] 0 (.sl (flat entL r9) (List.length r9) .no) none, .call [] [.cells [.sl (flat entL y13.2.1) (List.length y13.2.1) .no, .mp 1 0, .sl (flat intC y13.2.2.1) (List.length y13.2.2.1) .no, .sl (flat intC y13.2.2.2.1) (List.length y13.2.2.2.1) .no], .cells [.sl (flat entL y13.2.2.2.2.1) (List.length y13.2.2.2.2.1) .no, .sl (flat conL y13.2.2.2.2.2) (List.length y13.2.2.2.2.2) .no]] 0 (.tup [.mp 0 0, ai y13.1]) none, .no, .no, .call [] [] 0 (tmA r14) none, .call [] [] 0 (tmA r16) none, .sl (flat tmCells [r16]) (List.length [r16]), .call [] [] 0 (tmA r18) none, .no, .no, .call [5, 6] [.cells [.sl (flat entL ((Mach.mk y13.2.1 y13.2.2.2.2.1 y13.2.2.2.2.2 y13.2.2.1 y13.2.2.2.1).l)) (List.length ((Mach.mk y13.2.1 y13.2.2.2.2.1 y13.2.2.2.2.2 y13.2.2.1 y13.2.2.2.1).l)) .no, .mp 1 0, .sl (flat intC ((Mach.mk y13.2.1 y13.2.2.2.2.1 y13.2.2.2.2.2 y13.2.2.1 y13.2.2.2.1).args)) (List.length ((Mach.mk y13.2.1 y13.2.2.2.2.1 y13.2.2.2.2.2 y13.2.2.1 y13.2.2.2.1).args)) .no, .sl (flat intC ((Mach.mk y13.2.1 y13.2.2.2.2.1 y13.2.2.2.2.2 y13.2.2.1 y13.2.2.2.1).own)) (List.length ((Mach.mk y13.2.1 y13.2.2.2.2.1 y13.2.2.2.2.2 y13.2.2.1 y13.2.2.2.1).own)) .no], .cells [.sl (flat entL ((Mach.mk y13.2.1 y13.2.2.2.2.1 y13.2.2.2.2.2 y13.2.2.1 y13.2.2.2.1).rl)) (List.length ((Mach.mk y13.2.1 y13.2.2.2.2.1 y13.2.2.2.2.2 y13.2.2.1 y13.2.2.2.1).rl)) .no, .sl (flat conL ((Mach.mk y13.2.1 y13.2.2.2.2.1 y13.2.2.2.2.2 y13.2.2.1 y13.2.2.2.1).parts)) (List.length ((Mach.mk y13.2.1 y13.2.2.2.2.1 y13.2.2.2.2.2 y13.2.2.1 y13.2.2.2.1).parts)) .no]] 0 (.tup [tmA r20.1, ai r20.2]) none, .no, .no, .no, .bit true, .bit true, .bit true, .no, .no, .no, .call [] [] 0 (ai r25) none, .bit true, .no, .call [] [] 0 (ai r28) none, .bit true, .bit false] [] [] [] false (by kernel_rfl) (ObsOk.cons (obCall (c32vz h2)) (ObsOk.cons (obCall (c33vz h4)) (ObsOk.cons (obLit [p0]) (ObsOk.cons (obCall (c34vz h6)) (ObsOk.cons (obCall (c35 h8)) (ObsOk.cons (obCall (c36 h10)) (ObsOk.cons (obCall (c21 h12)) (ObsOk.cons (obCall (c38 h15)) (ObsOk.cons (obCall (c38 h17)) (ObsOk.cons (obLit [r16]) (ObsOk.cons (obCall (c37 h19)) (ObsOk.cons (obCall (c32vn h21)) (ObsOk.cons (obBit h22) (ObsOk.cons (obBit h23) (ObsOk.cons (obBit h24) (ObsOk.cons (obCall (c39vz h26)) (ObsOk.cons (obBit h27) (ObsOk.cons (obCall (c40vz h29)) (ObsOk.cons (obBit h30) (ObsOk.cons (obBit h31) ObsOk.nil)))))))))))))))))))) (by decide), ⟨⟨trivial, trivial, ⟨trivial, dT _⟩, trivial⟩, ⟨trivial, trivial, ⟨trivial, dT _⟩, trivial⟩, trivial⟩, (fun _ h => nomatch h), trivial, (fun _ h => nomatch h)⟩
            · replace h := ifF h30 h
              replace h := Option.some.inj h
              subst h
              exact ⟨CTri.toFin prim_ok mixed Tryz.func6 (by kernel_rfl) 3000 [.no, .no, .no, .call [] [] 0 (.tup [tmA r1.1, ai r1.2]) none, .no, .no, .no, .no, .no, .call [] [] 0 (.tup [ai r3.1, ai r3.2]) none, .no, .no, .no, .no, .sl (flat tmCells [p0]) (List.length [p0]), .call [] [] 0 (.tup [ai r5.1, ai r5.2]) none, .no, .no, .no, .no, .call [] [] 0 (.tup [tmA r7.1, ai r7.2]) none, .no, .no, .no, .call [] [] 0 (.sl (flat entL r9) (List.length r9) .no) none, .call [] [.cells [.sl (flat entL y13.2.1) (List.length y13.2.1) .no, .mp 1 0, .sl (flat intC y13.2.2.1) (List.length y13.2.2.1) .no, .sl (flat intC y13.2.2.2.1) (List.length y13.2.2.2.1) .no], .cells [.sl (flat entL y13.2.2.2.2.1) (List.length y13.2.2.2.2.1) .no, .sl (flat conL y13.2.2.2.2.2) (List.length y13.2.2.2.2.2) .no]] 0 (.tup [.mp 0 0, ai y13.1]) none, .no, .no, .call [] [] 0 (tmA r14) none, .call [] [] 0 (tmA r16) none, .sl (flat tmCells [r16]) (List.length [r16]), .call [] [] 0 (tmA r18) none, .no, .no, .call [5, 6] [.cells [.sl (flat entL ((Mach.mk y13.2.1 y13.2.2.2.2.1 y13.2.2.2.2.2 y13.2.2.1 y13.2.2.2.1).l)) (List.length ((Mach.mk y13.2.1 y13.2.2.2.2.1 y13.2.2.2.2.2 y13.2.2.1 y13.2.2.2.1).l)) .no, .mp 1 0, .sl (flat intC ((Mach.mk y13.2.1 y13.2.2.2.2.1 y13.2.2.2.2.2 y13.2.2.1 y13.2.2.2.1).args)) (List.length ((Mach.mk y13.2.1 y13.2.2.2.2.1 y13.2.2.2.2.2 y13.2.2.1 y13.2.2.2.1).args)) .no, .sl (flat intC ((Mach.mk y13.2.1 y13.2.2.2.2.1 y13.2.2.2.2.2 y13.2.2.1 y13.2.2.2.1).own)) (List.length ((Mach.mk y13.2.1 y13.2.2.2.2.1 y13.2.2.2.2.2 y13.2.2.1 y13.2.2.2.1).own)) .no], .cells [.sl (flat entL ((Mach.mk y13.2.1 y13.2.2.2.2.1 y13.2.2.2.2.2 y13.2.2.1 y13.2.2.2.1).rl)) (List.length ((Mach.mk y13.2.1 y13.2.2.2.2.1 y13.2.2.2.2.2 y13.2.2.1 y13.2.2.2.1).rl)) .no, .sl (flat conL ((Mach.mk y13.2.1 y13.2.2.2.2.1 y13.2.2.2.2.2 y13.2.2.1 y13.2.2.2.1).parts)) (List.length ((Mach.mk y13.2.1 y13.2.2.2.2.1 y13.2.2.2.2.2 y13.2.2.1 y13.2.2.2.1).parts)) .no]] 0 (.tup [tmA r20.1, ai r20.2]) none, .no, .no, .no, .bit true, .bit true, .bit true, .no, .no, .no, .call [] [] 0 (ai r25) none, .bit true, .no, .call [] [] 0 (ai r28) none, .bit false] [] [] [] false (by kernel_rfl) (ObsOk.cons (obCall (c32vz h2)) (ObsOk.cons (obCall (c33vz h4)) (ObsOk.cons (obLit [p0]) (ObsOk.cons (obCall (c34vz h6)) (ObsOk.cons (obCall (c35 h8)) (ObsOk.cons (obCall (c36 h10)) (ObsOk.cons (obCall (c21 h12)) (ObsOk.cons (obCall (c38 h15)) (ObsOk.cons (obCall (c38 h17)) (ObsOk.cons (obLit [r16]) (ObsOk.cons (obCall (c37 h19)) (ObsOk.cons (obCall (c32vn h21)) (ObsOk.cons (obBit h22) (ObsOk.cons (obBit h23) (ObsOk.cons (obBit h24) (ObsOk.cons (obCall (c39vz h26)) (ObsOk.cons (obBit h27) (ObsOk.cons (obCall (c40vz h29)) (ObsOk.cons (obBit h30) ObsOk.nil))))))))))))))))))) (by decide), ⟨⟨trivial, trivial, ⟨trivial, dT _⟩, trivial⟩, ⟨trivial, trivial, ⟨trivial, dT _⟩, trivial⟩, trivial⟩, (fun _ h => nomatch h), trivial, (fun _ h => nomatch h)⟩
          · replace h := ifF h27 h
            replace h := Option.some.inj h
            subst h
            exact ⟨CTri.toFin prim_ok mixed Tryz.func6 (by kernel_rfl) 3000 [.no, .no, .no, .call [] [] 0 (.tup [tmA r1.1, ai r1.2]) none, .no, .no, .no, .no, .no, .call [] [] 0 (.tup [ai r3.1, ai r3.2]) none, .no, .no, .no, .no, .sl (flat tmCells [p0]) (List.length [p0]), .call [] [] 0 (.tup [ai r5.1, ai r5.2]) none, .no, .no, .no, .no, .call [] [] 0 (.tup [tmA r7.1, ai r7.2]) none, .no, .no, .no, .call [] [] 0 (.sl (flat entL r9) (List.length r9) .no) none, .call [] [.cells [.sl (flat entL y13.2.1) (List.length y13.2.1) .no, .mp 1 0, .sl (flat intC y13.2.2.1) (List.length y13.2.2.1) .no, .sl (flat intC y13.2.2.2.1) (List.length y13.2.2.2.1) .no], .cells [.sl (flat entL y13.2.2.2.2.1) (List.length y13.2.2.2.2.1) .no, .sl (flat conL y13.2.2.2.2.2) (List.length y13.2.2.2.2.2) .no]] 0 (.tup [.mp 0 0, ai y13.1]) none, .no, .no, .call [] [] 0 (tmA r14) none, .call [] [] 0 (tmA r16) none, .sl (flat tmCells [r16]) (List.length [r16]), .call [] [] 0 (tmA r18) none, .no, .no, .call [5, 6] [.cells [.sl (flat entL ((Mach.mk y13.2.1 y13.2.2.2.2.1 y13.2.2.2.2.2 y13.2.2.1 y13.2.2.2.1).l)) (List.length ((Mach.mk y13.2.1 y13.2.2.2.2.1 y13.2.2.2.2.2 y13.2.2.1 y13.2.2.2.1).l)) .no, .mp 1 0, .sl (flat intC ((Mach.mk y13.2.1 y13.2.2.2.2.1 y13.2.2.2.2.2 y13.2.2.1 y13.2.2.2.1).args)) (List.length ((Mach.mk y13.2.1 y13.2.2.2.2.1 y13.2.2.2.2.2 y13.2.2.1 y13.2.2.2.1).args)) .no, .sl (flat intC ((Mach.mk y13.2.1 y13.2.2.2.2.1 y13.2.2.2.2.2 y13.2.2.1 y13.2.2.2.1).own)) (List.length ((Mach.mk y13.2.1 y13.2.2.2.2.1 y13.2.2.2.2.2 y13.2.2.1 y13.2.2.2.1).own)) .no], .cells [.sl (flat entL ((Mach.mk y13.2.1 y13.2.2.2.2.1 y13.2.2.2.2.2 y13.2.2.1 y13.2.2.2.1).rl)) (List.length ((Mach.mk y13.2.1 y13.2.2.2.2.1 y13.2.2.2.2.2 y13.2.2.1 y13.2.2.2.1).rl)) .no, .sl (flat conL ((Mach.mk y13.2.1 y13.2.2.2.2.1 y13.2.2.2.2.2 y13.2.2.1 y13.2.2.2.1).parts)) (List.length ((Mach.mk y13.2.1 y13.2.2.2.2.1 y13.2.2.2.2.2 y13.2.2.1 y13.2.2.2.1).parts)) .no]] 0 (.tup [tmA r20.1, ai r20.2]) none, .no, .no, .no, .bit true, .bit true, .bit true, .no, .no, .no, .call [] [] 0 (ai r25) none, .bit false] [] [] [] false (by kernel_rfl) (ObsOk.cons (obCall (c32vz h2)) (ObsOk.cons (obCall (c33vz h4)) (ObsOk.cons (obLit [p0]) (ObsOk.cons (obCall (c34vz h6)) (ObsOk.cons (obCall (c35 h8)) (ObsOk.cons (obCall (c36 h10)) (ObsOk.cons (obCall (c21 h12)) (ObsOk.cons (obCall (c38 h15)) (ObsOk.cons (obCall (c38 h17)) (ObsOk.cons (obLit [r16]) (ObsOk.cons (obCall (c37 h19)) (ObsOk.cons (obCall (c32vn h21)) (ObsOk.cons (obBit h22) (ObsOk.cons (obBit h23) (ObsOk.cons (obBit h24) (ObsOk.cons (obCall (c39vz h26)) (ObsOk.cons (obBit h27) ObsOk.nil))))))))))))))))) (by decide), ⟨⟨trivial, trivial, ⟨trivial, dT _⟩, trivial⟩, ⟨trivial, trivial, ⟨trivial, dT _⟩, trivial⟩, trivial⟩, (fun _ h => nomatch h), trivial, (fun _ h => nomatch h)⟩
        · replace h := ifF h24 h
          replace h := Option.some.inj h
          subst h
          exact ⟨CTri.toFin prim_ok mixed Tryz.func6 (by kernel_rfl) 3000 [.no, .no, .no, .call [] [] 0 (.tup [tmA r1.1, ai r1.2]) none, .no, .no, .no, .no, .no, .call [] [] 0 (.tup [ai r3.1, ai r3.2]) none, .no, .no, .no, .no, .sl (flat tmCells [p0]) (List.length [p0]), .call [] [] 0 (.tup [ai r5.1, ai r5.2]) none, .no, .no, .no, .no, .call [] [] 0 (.tup [tmA r7.1, ai r7.2]) none, .no, .no, .no, .call [] [] 0 (.sl (flat entL r9) (List.length r9) .no) none, .call [] [.cells [.sl (flat entL y13.2.1) (List.length y13.2.1) .no, .mp 1 0, .sl (flat intC y13.2.2.1) (List.length y13.2.2.1) .no, .sl (flat intC y13.2.2.2.1) (List.length y13.2.2.2.1) .no], .cells [.sl (flat entL y13.2.2.2.2.1) (List.length y13.2.2.2.2.1) .no, .sl (flat conL y13.2.2.2.2.2) (List.length y13.2.2.2.2.2) .no]] 0 (.tup [.mp 0 0, ai y13.1]) none, .no, .no, .call [] [] 0 (tmA r14) none, .call [] [] 0 (tmA r16) none, .sl (flat tmCells [r16]) (List.length [r16]), .call [] [] 0 (tmA r18) none, .no, .no, .call [5, 6] [.cells [.sl (flat entL ((Mach.mk y13.2.1 y13.2.2.2.2.1 y13.2.2.2.2.2 y13.2.2.1 y13.2.2.2.1).l)) (List.length ((Mach.mk y13.2.1 y13.2.2.2.2.1 y13.2.2.2.2.2 y13.2.2.1 y13.2.2.2.1).l)) .no, .mp 1 0, .sl (flat intC ((Mach.mk y13.2.1 y13.2.2.2.2.1 y13.2.2.2.2.2 y13.2.2.1 y13.2.2.2.1).args)) (List.length ((Mach.mk y13.2.1 y13.2.2.2.2.1 y13.2.2.2.2.2 y13.2.2.1 y13.2.2.2.1).args)) .no, .sl (flat intC ((Mach.mk y13.2.1 y13.2.2.2.2.1 y13.2.2.2.2.2 y13.2.2.1 y13.2.2.2.1).own)) (List.length ((Mach.mk y13.2.1 y13.2.2.2.2.1 y13.2.2.2.2.2 y13.2.2.1 y13.2.2.2.1).own)) .no], .cells [.sl (flat entL ((Mach.mk y13.2.1 y13.2.2.2.2.1 y13.2.2.2.2.2 y13.2.2.1 y13.2.2.2.1).rl)) (List.length ((Mach.mk y13.2.1 y13.2.2.2.2.1 y13.2.2.2.2.2 y13.2.2.1 y13.2.2.2.1).rl)) .no, .sl (flat conL ((Mach.mk y13.2.1 y13.2.2.2.2.1 y13.2.2.2.2.2 y13.2.2.1 y13.2.2.2.1).parts)) (List.length ((Mach.mk y13.2.1 y13.2.2.2.2.1 y13.2.2.2.2.2 y13.2.2.1 y13.2.2.2.1).parts)) .no]] 0 (.tup [tmA r20.1, ai r20.2]) none, .no, .no, .no, .bit true, .bit true, .bit false] [] [] [] false (by kernel_rfl) (ObsOk.cons (obCall (c32vz h2)) (ObsOk.cons (obCall (c33vz h4)) (ObsOk.cons (obLit [p0]) (ObsOk.cons (obCall (c34vz h6)) (ObsOk.cons (obCall (c35 h8)) (ObsOk.cons (obCall (c36 h10)) (ObsOk.cons (obCall (c21 h12)) (ObsOk.cons (obCall (c38 h15)) (ObsOk.cons (obCall (c38 h17)) (ObsOk.cons (obLit [r16]) (ObsOk.cons (obCall (c37 h19)) (ObsOk.cons (obCall (c32vn h21)) (ObsOk.cons (obBit h22) (ObsOk.cons (obBit h23) (ObsOk.cons (obBit h24) ObsOk.nil))))))))))))))) (by decide), ⟨⟨trivial, trivial, ⟨trivial, dT _⟩, trivial⟩, ⟨trivial, trivial, ⟨trivial, dT _⟩, trivial⟩, trivial⟩, (fun _ h => nomatch h), trivial, (fun _ h => nomatch h)⟩
      · replace h := ifF h23 h
        replace h := Option.some.inj h
        subst h
        exact ⟨CTri.toFin prim_ok mixed Tryz.func6 (by kernel_rfl) 3000 [.no, .no, .no, .call [] [] 0 (.tup [tmA r1.1, ai r1.2]) none, .no, .no, .no, .no, .no, .call [] [] 0 (.tup [ai r3.1, ai r3.2]) none, .no, .no, .no, .no, .sl (flat tmCells [p0]) (List.length [p0]), .call [] [] 0 (.tup [ai r5.1, ai r5.2]) none, .no, .no, .no, .no, .call [] [] 0 (.tup [tmA r7.1, ai r7.2]) none, .no, .no, .no, .call [] [] 0 (.sl (flat entL r9) (List.length r9) .no) none, .call [] [.cells [.sl (flat entL y13.2.1) (List.length y13.2.1) .no, .mp 1 0, .sl (flat intC y13.2.2.1) (List.length y13.2.2.1) .no, .sl (flat intC y13.2.2.2.1) (List.length y13.2.2.2.1) .no], .cells [.sl (flat entL y13.2.2.2.2.1) (List.length y13.2.2.2.2.1) .no, .sl (flat conL y13.2.2.2.2.2) (List.length y13.2.2.2.2.2) .no]] 0 (.tup [.mp 0 0, ai y13.1]) none, .no, .no, .call [] [] 0 (tmA r14) none, .call [] [] 0 (tmA r16) none, .sl (flat tmCells [r16]) (List.length [r16]), .call [] [] 0 (tmA r18) none, .no, .no, .call [5, 6] [.cells [.sl (flat entL ((Mach.mk y13.2.1 y13.2.2.2.2.1 y13.2.2.2.2.2 y13.2.2.1 y13.2.2.2.1).l)) (List.length ((Mach.mk y13.2.1 y13.2.2.2.2.1 y13.2.2.2.2.2 y13.2.2.1 y13.2.2.2.1).l)) .no, .mp 1 0, .sl (flat intC ((Mach.mk y13.2.1 y13.2.2.2.2.1 y13.2.2.2.2.2 y13.2.2.1 y13.2.2.2.1).args)) (List.length ((Mach.mk y13.2.1 y13.2.2.2.2.1 y13.2.2.2.2.2 y13.2.2.1 y13.2.2.2.1).args)) .no, .sl (flat intC ((Mach.mk y13.2.1 y13.2.2.2.2.1 y13.2.2.2.2.2 y13.2.2.1 y13.2.2.2.1).own)) (List.length ((Mach.mk y13.2.1 y13.2.2.2.2.1 y13.2.2.2.2.2 y13.2.2.1 y13.2.2.2.1).own)) .no], .cells [.sl (flat entL ((Mach.mk y13.2.1 y13.2.2.2.2.1 y13.2.2.2.2.2 y13.2.2.1 y13.2.2.2.1).rl)) (List.length ((Mach.mk y13.2.1 y13.2.2.2.2.1 y13.2.2.2.2.2 y13.2.2.1 y13.2.2.2.1).rl)) .no, .sl (flat conL ((Mach.mk y13.2.1 y13.2.2.2.2.1 y13.2.2.2.2.2 y13.2.2.1 y13.2.2.2.1).parts)) (List.length ((Mach.mk y13.2.1 y13.2.2.2.2.1 y13.2.2.2.2.2 y13.2.2.1 y13.2.2.2.1).parts)) .no]] 0 (.tup [tmA r20.1, ai r20.2]) none, .no, .no, .no, .bit true, .bit false] [] [] [] false (by kernel_rfl) (ObsOk.cons (obCall (c32vz h2)) (ObsOk.cons (obCall (c33vz h4)) (ObsOk.cons (obLit [p0]) (ObsOk.cons (obCall (c34vz h6)) (ObsOk.cons (obCall (c35 h8)) (ObsOk.cons (obCall (c36 h10)) (ObsOk.cons (obCall (c21 h12)) (ObsOk.cons (obCall (c38 h15)) (ObsOk.cons (obCall (c38 h17)) (ObsOk.cons (obLit [r16]) (ObsOk.cons (obCall (c37 h19)) (ObsOk.cons (obCall (c32vn h21)) (ObsOk.cons (obBit h22) (ObsOk.cons (obBit h23) ObsOk.nil)))))))))))))) (by decide), ⟨⟨trivial, trivial, ⟨trivial, dT _⟩, trivial⟩, ⟨trivial, trivial, ⟨trivial, dT _⟩, trivial⟩, trivial⟩, (fun _ h => nomatch h), trivial, (fun _ h => nomatch h)⟩
    · replace h := ifF h22 h
      replace h := Option.some.inj h
      subst h
      exact ⟨CTri.toFin prim_ok mixed Tryz.func6 (by kernel_rfl) 3000 [.no, .no, .no, .call [] [] 0 (.tup [tmA r1.1, ai r1.2]) none, .no, .no, .no, .no, .no, .call [] [] 0 (.tup [ai r3.1, ai r3.2]) none, .no, .no, .no, .no, .sl (flat tmCells [p0]) (List.length [p0]), .call [] [] 0 (.tup [ai r5.1, ai r5.2]) none, .no, .no, .no, .no, .call [] [] 0 (.tup [tmA r7.1, ai r7.2]) none, .no, .no, .no, .call [] [] 0 (.sl (flat entL r9) (List.length r9) .no) none, .call [] [.cells [.sl (flat entL y13.2.1) (List.length y13.2.1) .no, .mp 1 0, .sl (flat intC y13.2.2.1) (List.length y13.2.2.1) .no, .sl (flat intC y13.2.2.2.1) (List.length y13.2.2.2.1) .no], .cells [.sl (flat entL y13.2.2.2.2.1) (List.length y13.2.2.2.2.1) .no, .sl (flat conL y13.2.2.2.2.2) (List.length y13.2.2.2.2.2) .no]] 0 (.tup [.mp 0 0, ai y13.1]) none, .no, .no, .call [] [] 0 (tmA r14) none, .call [] [] 0 (tmA r16) none, .sl (flat tmCells [r16]) (List.length [r16]), .call [] [] 0 (tmA r18) none, .no, .no, .call [5, 6] [.cells [.sl (flat entL ((Mach.mk y13.2.1 y13.2.2.2.2.1 y13.2.2.2.2.2 y13.2.2.1 y13.2.2.2.1).l)) (List.length ((Mach.mk y13.2.1 y13.2.2.2.2.1 y13.2.2.2.2.2 y13.2.2.1 y13.2.2.2.1).l)) .no, .mp 1 0, .sl (flat intC ((Mach.mk y13.2.1 y13.2.2.2.2.1 y13.2.2.2.2.2 y13.2.2.1 y13.2.2.2.1).args)) (List.length ((Mach.mk y13.2.1 y13.2.2.2.2.1 y13.2.2.2.2.2 y13.2.2.1 y13.2.2.2.1).args)) .no, .sl (flat intC ((Mach.mk y13.2.1 y13.2.2.2.2.1 y13.2.2.2.2.2 y13.2.2.1 y13.2.2.2.1).own)) (List.length ((Mach.mk y13.2.1 y13.2.2.2.2.1 y13.2.2.2.2.2 y13.2.2.1 y13.2.2.2.1).own)) .no], .cells [.sl (flat entL ((Mach.mk y13.2.1 y13.2.2.2.2.1 y13.2.2.2.2.2 y13.2.2.1 y13.2.2.2.1).rl)) (List.length ((Mach.mk y13.2.1 y13.2.2.2.2.1 y13.2.2.2.2.2 y13.2.2.1 y13.2.2.2.1).rl)) .no, .sl (flat conL ((Mach.mk y13.2.1 y13.2.2.2.2.1 y13.2.2.2.2.2 y13.2.2.1 y13.2.2.2.1).parts)) (List.length ((Mach.mk y13.2.1 y13.2.2.2.2.1 y13.2.2.2.2.2 y13.2.2.1 y13.2.2.2.1).parts)) .no]] 0 (.tup [tmA r20.1, ai r20.2]) none, .no, .no, .no, .bit false] [] [] [] false (by kernel_rfl) (ObsOk.cons (obCall (c32vz h2)) (ObsOk.cons (obCall (c33vz h4)) (ObsOk.cons (obLit [p0]) (ObsOk.cons (obCall (c34vz h6)) (ObsOk.cons (obCall (c35 h8)) (ObsOk.cons (obCall (c36 h10)) (ObsOk.cons (obCall (c21 h12)) (ObsOk.cons (obCall (c38 h15)) (ObsOk.cons (obCall (c38 h17)) (ObsOk.cons (obLit [r16]) (ObsOk.cons (obCall (c37 h19)) (ObsOk.cons (obCall (c32vn h21)) (ObsOk.cons (obBit h22) ObsOk.nil))))))))))))) (by decide), ⟨⟨trivial, trivial, ⟨trivial, dT _⟩, trivial⟩, ⟨trivial, trivial, ⟨trivial, dT _⟩, trivial⟩, trivial⟩, (fun _ h => nomatch h), trivial, (fun _ h => nomatch h)⟩

end Go.Proofs.YtkeipljdhcbfoaaGreat
