/- FROM ONE LOOP's HEAD TO THE NEXT, OR TO THE END: a run in one go, with what stands behind it as a stack. -/
import Derived.Test.YtkeipljdhcbfoaaGreatAbRs
namespace Go.Ab
open Go Go.RowKit

inductive Fr where
  | seq (y : Code)
  | blk (i : Nat)
  | loop (c : Code)

def frameQ (P : Program) (na : Nb) (Q : AX → List AV → LSt → Prop) : List Fr → AX → List AV → LSt → Prop
  | [] => Q
  | .seq y :: fs => seqQ (fun e s => Dv P na y e s (frameQ P na Q fs)) (frameQ P na Q fs)
  | .blk i :: fs => blockQ i (frameQ P na Q fs)
  | .loop c :: fs => seqQ (fun e s => Dl P na c e s (frameQ P na Q fs)) (frameQ P na Q fs)

inductive Md where
  | run (c : Code)
  | ret (x : AX)

inductive KR where
  | fin (x : AX)
  | head (c : Code) (fs : List Fr)

def krun (P : Program) (pr : FuncId → List AV → LSt → Option LA) : Nat → Md → List Fr → List AV → LSt → List Orc → Option (KR × List AV × LSt × List Orc × List Ob)
  | 0, _, _, _, _, _ => none
  | n + 1, .run c, fs, env, s, os =>
    match c with
    | .skip => krun P pr n (.ret .normal) fs env s os
    | .label _ => krun P pr n (.ret .normal) fs env s os
    | .exit i => krun P pr n (.ret (.exit i)) fs env s os
    | .ret => krun P pr n (.ret .ret) fs env s os
    | .seq x y => krun P pr n (.run x) (.seq y :: fs) env s os
    | .cond c x y => match aev env c with
      | .val (.bool b) => krun P pr n (.run (bif b then x else y)) fs env s os
      | _ => none
    | .block i c => krun P pr n (.run c) (.blk i :: fs) env s os
    | .scope c => krun P pr n (.run c) fs env s os
    | .loop c => some (.head c fs, env, s, os, [])
    | .region _ ops draw => match xops P pr ops ops.toList 0 env s os with
      | some (l, env1, s1, os1, o1) => bif !draw || (edgesB ops && freeB ops (ancs ops.toList []) l) then
          match krun P pr n (.ret .normal) fs env1 s1 os1 with
          | some (k, env2, s2, os2, o2) => some (k, env2, s2, os2, o1 ++ o2)
          | none => none
        else none
      | none => none
    | _ => none
  | n + 1, .ret x, fs, env, s, os =>
    match fs with
    | [] => some (.fin x, env, s, os, [])
    | .seq y :: fs => match x with
      | .normal => krun P pr n (.run y) fs env s os
      | x => krun P pr n (.ret x) fs env s os
    | .blk i :: fs => match x with
      | .exit j => krun P pr n (.ret (bif Nat.beq j i then .normal else .exit j)) fs env s os
      | x => krun P pr n (.ret x) fs env s os
    | .loop c :: fs => match x with
      | .normal => some (.head c fs, env, s, os, [])
      | x => krun P pr n (.ret x) fs env s os

def KGoal (P : Program) (na : Nb) (Q : AX → List AV → LSt → Prop) (fs : List Fr) (env : List AV) (s : LSt) : Md → Prop
  | .run c => Dv P na c env s (frameQ P na Q fs)
  | .ret x => frameQ P na Q fs x env s

def KQ (P : Program) (na : Nb) (Q : AX → List AV → LSt → Prop) (env : List AV) (s : LSt) : KR → Prop
  | .fin x => Q x env s
  | .head c fs => Dl P na c env s (frameQ P na Q fs)

theorem krun_ok {P : Program} {pr : FuncId → List AV → LSt → Option LA} (hp : CallsOk P pr) (hm : P.follows .mixedOrders = true) {na : Nb} {Q : AX → List AV → LSt → Prop} : ∀ (n : Nat) (m : Md) (fs : List Fr) (env : List AV) (s : LSt) (os : List Orc) (k : KR) (env' : List AV) (s' : LSt) (os' : List Orc) (ob : List Ob),
    krun P pr n m fs env s os = some (k, env', s', os', ob) → ObsOk P ob → KQ P na Q env' s' k → KGoal P na Q fs env s m := by
  intro n
  induction n with
  | zero => intro m fs env s os k env' s' os' ob h; cases m <;> cases h
  | succ n ih =>
    intro m fs env s os k env' s' os' ob h hob hk
    cases m with
    | ret x =>
      cases fs with
      | nil =>
        simp only [krun, Option.some.injEq, Prod.mk.injEq] at h
        obtain ⟨rfl, rfl, rfl, rfl, rfl⟩ := h
        exact hk
      | cons f fs =>
        cases f with
        | seq y =>
          cases x with
          | normal => exact ih (.run y) fs env s os k env' s' os' ob h hob hk
          | exit i => exact ih (.ret (.exit i)) fs env s os k env' s' os' ob h hob hk
          | ret => exact ih (.ret .ret) fs env s os k env' s' os' ob h hob hk
        | blk i =>
          cases x with
          | normal => exact ih (.ret .normal) fs env s os k env' s' os' ob h hob hk
          | ret => exact ih (.ret .ret) fs env s os k env' s' os' ob h hob hk
          | exit j =>
            have := ih (.ret (bif Nat.beq j i then .normal else .exit j)) fs env s os k env' s' os' ob h hob hk
            simp only [KGoal, frameQ, blockQ] at this ⊢
            cases hb : Nat.beq j i with
            | true => rw [if_pos (Nat.eq_of_beq_eq_true hb)]; rw [hb] at this; exact this
            | false => rw [if_neg (fun e => by subst e; simp at hb)]; rw [hb] at this; exact this
        | loop c =>
          cases x with
          | normal =>
            simp only [krun, Option.some.injEq, Prod.mk.injEq] at h
            obtain ⟨rfl, rfl, rfl, rfl, rfl⟩ := h
            exact hk
          | exit i => exact ih (.ret (.exit i)) fs env s os k env' s' os' ob h hob hk
          | ret => exact ih (.ret .ret) fs env s os k env' s' os' ob h hob hk
    | run c =>
      cases c with
      | skip => exact Dv.ofEv (Ev.skip (ih (.ret .normal) fs env s os k env' s' os' ob h hob hk))
      | label l => exact Dv.ofEv (Ev.label (ih (.ret .normal) fs env s os k env' s' os' ob h hob hk))
      | exit i => exact Dv.ofEv (Ev.exit (ih (.ret (.exit i)) fs env s os k env' s' os' ob h hob hk))
      | ret => exact Dv.ofEv (Ev.ret (ih (.ret .ret) fs env s os k env' s' os' ob h hob hk))
      | seq y z => exact Dv.seq (ih (.run y) (.seq z :: fs) env s os k env' s' os' ob h hob hk)
      | cond o y z =>
        simp only [krun] at h
        split at h
        · rename_i t ht
          have h1 := ih (.run (bif t then y else z)) fs env s os k env' s' os' ob h hob hk
          exact Dv.cond ht (by cases t <;> exact h1)
        · cases h
      | block i y => exact Dv.block (ih (.run y) (.blk i :: fs) env s os k env' s' os' ob h hob hk)
      | loop y =>
        simp only [krun, Option.some.injEq, Prod.mk.injEq] at h
        obtain ⟨rfl, rfl, rfl, rfl, rfl⟩ := h
        exact Dv.loop hk
      | scope y => exact Dv.scope (ih (.run y) fs env s os k env' s' os' ob h hob hk)
      | region id ops draw =>
        simp only [krun] at h
        split at h
        · rename_i l env1 s1 os1 o1 hr
          cases hb : (!draw || (edgesB ops && freeB ops (ancs ops.toList []) l)) with
          | false => rw [hb] at h; cases h
          | true =>
            rw [hb] at h
            simp only [cond_true] at h
            split at h
            · rename_i k2 env2 s2 os2 o2 hr2
              cases h
              obtain ⟨q1, q2⟩ := ObsOk.append hob
              exact Dv.ofEv (xregion_any hp hm hr hb q1 (ih (.ret .normal) fs env1 s1 os1 _ _ _ _ _ hr2 q2 hk))
            · cases h
        · cases h
      | rangeFunc => cases h
      | goto => cases h
      | refuse => cases h

/- what is to be data -/
mutual
def AV.dobs (keep : List Nat) : AV → Option (List Ob)
  | .val _ => some []
  | .agg cs => AV.dobsL keep cs
  | .tup cs => AV.dobsL keep cs
  | .sl es _ _ => some [.data es]
  | .ip es => some [.data es]
  | .mp i _ => bif memB keep i then some [] else none
  | .ms i _ _ => bif memB keep i then some [] else none
  | .obj i => bif memB keep i then some [] else none
  | .clo _ fs cs => match AV.dobsL keep fs, AV.dobsL keep cs with
    | some a, some b => some (a ++ b)
    | _, _ => none
def AV.dobsL (keep : List Nat) : List AV → Option (List Ob)
  | [] => some []
  | a :: l => match AV.dobs keep a, AV.dobsL keep l with
    | some x, some y => some (x ++ y)
    | _, _ => none
end

mutual
theorem AV.dobs_ok {P : Program} {keep : List Nat} : ∀ (a : AV) (ob : List Ob), a.dobs keep = some ob → ObsOk P ob → a.fine (fun i => i ∈ keep)
  | .val _, _, _, _ => trivial
  | .agg cs, ob, h, hob => AV.dobsL_ok cs ob h hob
  | .tup cs, ob, h, hob => AV.dobsL_ok cs ob h hob
  | .sl es _ _, ob, h, hob => by
    simp only [AV.dobs, Option.some.injEq] at h
    subst h; exact hob.1
  | .ip es, ob, h, hob => by
    simp only [AV.dobs, Option.some.injEq] at h
    subst h; exact hob.1
  | .mp i _, ob, h, _ => by
    simp only [AV.dobs] at h
    cases hm : memB keep i with
    | false => rw [hm] at h; cases h
    | true => exact any_beq.1 hm
  | .ms i _ _, ob, h, _ => by
    simp only [AV.dobs] at h
    cases hm : memB keep i with
    | false => rw [hm] at h; cases h
    | true => exact any_beq.1 hm
  | .obj i, ob, h, _ => by
    simp only [AV.dobs] at h
    cases hm : memB keep i with
    | false => rw [hm] at h; cases h
    | true => exact any_beq.1 hm
  | .clo _ fs cs, ob, h, hob => by
    simp only [AV.dobs] at h
    split at h
    · rename_i a b h1 h2
      cases h
      obtain ⟨q1, q2⟩ := ObsOk.append hob
      exact ⟨AV.dobsL_ok fs a h1 q1, AV.dobsL_ok cs b h2 q2⟩
    · cases h
theorem AV.dobsL_ok {P : Program} {keep : List Nat} : ∀ (as : List AV) (ob : List Ob), AV.dobsL keep as = some ob → ObsOk P ob → AV.fineL (fun i => i ∈ keep) as
  | [], _, _, _ => trivial
  | a :: as, ob, h, hob => by
    simp only [AV.dobsL] at h
    split at h
    · rename_i x y h1 h2
      cases h
      obtain ⟨q1, q2⟩ := ObsOk.append hob
      exact ⟨AV.dobs_ok a x h1 q1, AV.dobsL_ok as y h2 q2⟩
    · cases h
end

def Blk.dobs (keep : List Nat) : Blk → Option (List Ob)
  | .cells cs => AV.dobsL keep cs
  | .obj _ => some []
  | .row cs => some [.data cs]

def blksObs (keep : List Nat) (s : LSt) : List Nat → Option (List Ob)
  | [] => some []
  | i :: l => match ((look s.H i).getD (.cells [])).dobs keep, blksObs keep s l with
    | some a, some b => some (a ++ b)
    | _, _ => none

theorem blksObs_ok {P : Program} {keep : List Nat} {s : LSt} : ∀ (l : List Nat) (ob : List Ob), blksObs keep s l = some ob → ObsOk P ob → fineBlks keep s l
  | [], _, _, _ => trivial
  | i :: l, ob, h, hob => by
    simp only [blksObs] at h
    split at h
    · rename_i a b h1 h2
      cases h
      obtain ⟨q1, q2⟩ := ObsOk.append hob
      refine ⟨?_, blksObs_ok l b h2 q2⟩
      cases hX : (look s.H i).getD (.cells []) with
      | cells cs => rw [hX] at h1; exact AV.dobsL_ok cs a h1 q1
      | obj o => trivial
      | row cs =>
        rw [hX] at h1
        simp only [Blk.dobs, Option.some.injEq] at h1
        subst h1
        exact q1.1
    · cases h

def envObs (keep live : List Nat) : List AV → Nat → Option (List Ob)
  | [], _ => some []
  | a :: l, t => match (bif memB live t then a.dobs keep else some []), envObs keep live l (t + 1) with
    | some x, some y => some (x ++ y)
    | _, _ => none

theorem envObs_ok {P : Program} {keep live : List Nat} : ∀ (env : List AV) (t : Nat) (ob : List Ob), envObs keep live env t = some ob → ObsOk P ob → fineEnv keep live env t
  | [], _, _, _, _ => trivial
  | a :: l, t, ob, h, hob => by
    simp only [envObs] at h
    split at h
    · rename_i x y h1 h2
      cases h
      obtain ⟨q1, q2⟩ := ObsOk.append hob
      refine ⟨?_, envObs_ok l (t + 1) y h2 q2⟩
      cases hm : memB live t with
      | true => rw [hm] at h1; exact AV.dobs_ok a x h1 q1
      | false => trivial
    · cases h

theorem Dl.restamps {P : Program} {na : Nb} {c : Code} {env env' : List AV} {s s' : LSt} {Q : AX → List AV → LSt → Prop} {rs : List (Option Nat × Nat × Nat)} (hr : Ab.restamps rs env s = some (env', s')) (h : Dl P na c env' s' Q) : Dl P na c env s Q := by
  intro G0 W h0 G a w hE ho hR
  obtain ⟨G', e, o, r⟩ := Rel.restamps rs hr ho hR
  exact h G0 W h0 G' a w (hE.trans e) o r

/-- a run to a loop's head, and the state counted anew there -/
def khead (P : Program) (pr : FuncId → List AV → LSt → Option LA) (na n : Nat) (m : Md) (fs : List Fr) (env : List AV) (s : LSt) (os : List Orc) (rs : List (Option Nat × Nat × Nat)) (keep ks live : List Nat) (j : Nat → Value) : Option (Code × List Fr × List AV × LSt × List Ob) :=
  match krun P pr n m fs env s os with
  | some (.head c fs', env1, s1, [], ob) =>
    match restamps rs env1 s1 with
    | none => none
    | some (env', s') =>
    bif reB na keep ks s' then
      match blksObs keep s' keep, envObs keep live env' 0 with
      | some o1, some o2 => some (c, fs', reEnv keep ks live j env' 0, reSt keep ks s', ob ++ (o1 ++ o2))
      | _, _ => none
    else none
  | _ => none

theorem khead_ok {P : Program} {pr : FuncId → List AV → LSt → Option LA} (hp : CallsOk P pr) (hm : P.follows .mixedOrders = true) {na : Nb} {Q : AX → List AV → LSt → Prop} {n : Nat} {m : Md} {fs fs' : List Fr} {env : List AV} {E : (Nat → Value) → List AV} {s S : LSt} {os : List Orc} {rs : List (Option Nat × Nat × Nat)} {keep ks live : List Nat} {c : Code} {ob : List Ob}
    (h : ∀ j, khead P pr na.n n m fs env s os rs keep ks live j = some (c, fs', E j, S, ob)) (hob : ObsOk P ob) (hk : ∀ j, Dl P na c (E j) S (frameQ P na Q fs')) : KGoal P na Q fs env s m := by
  have h0 := h fun _ => undef
  unfold khead at h0
  split at h0
  · rename_i c' fs1 env1 s1 ob' hr
    split at h0
    · cases h0
    rename_i env' s' hrs
    cases hb : reB na.n keep ks s' with
    | false => rw [hb] at h0; cases h0
    | true =>
      rw [hb] at h0
      simp only [cond_true] at h0
      split at h0
      · rename_i o1 o2 h1 h2
        simp only [Option.some.injEq, Prod.mk.injEq] at h0
        obtain ⟨rfl, rfl, _, rfl, rfl⟩ := h0
        obtain ⟨q1, q2⟩ := ObsOk.append hob
        obtain ⟨q3, q4⟩ := ObsOk.append q2
        refine krun_ok hp hm _ _ _ _ _ _ _ _ _ _ _ hr q1 ?_
        refine Dl.restamps hrs ?_
        refine Dl.re keep ks live hb (blksObs_ok _ _ h1 q3) (envObs_ok _ _ _ h2 q4) fun j => ?_
        have hj := h j
        unfold khead at hj
        rw [hr] at hj
        simp only [hrs, hb, cond_true, h1, h2, Option.some.injEq, Prod.mk.injEq] at hj
        rw [hj.2.2.1]
        exact hk j
      · cases h0
  · cases h0

def blkList (H : List (Nat × Blk)) (j : Nat) : Nat → List Blk
  | 0 => []
  | n + 1 => (look H j).getD (.cells []) :: blkList H (j + 1) n

theorem blkList_get {H : List (Nat × Blk)} : ∀ (n j i : Nat) (X : Blk), (blkList H j n)[i]? = some X → (∃ Y, look H (j + i) = some Y) → look H (j + i) = some X
  | 0, _, _, _, h, _ => by simp [blkList] at h
  | n + 1, j, i, X, h, ⟨Y, hY⟩ => by
    cases i with
    | zero =>
      simp only [blkList, List.getElem?_cons_zero, Option.some.injEq] at h
      simp only [Nat.add_zero] at hY ⊢
      rw [hY] at h ⊢
      simpa using h
    | succ i =>
      simp only [blkList, List.getElem?_cons_succ] at h
      rw [show j + (i + 1) = j + 1 + i by omega] at hY ⊢
      exact blkList_get n (j + 1) i X h ⟨Y, hY⟩

def Blk.frz : Blk → Blk
  | .cells cs => .cells (AV.frzL cs)
  | .obj o => .obj o
  | .row cs => .row cs

theorem BlkOk.frz {G : Gh} {w : World} {b : Nat} {X : Blk} (h : BlkOk G w b X) : BlkOk G w b X.frz := by
  cases X with
  | cells cs => obtain ⟨vs, T, h1, h2⟩ := h; exact ⟨vs, T, h1, h2.imp (VL.frz _)⟩
  | obj o => exact h
  | row cs => exact h

def frzBlks : List (Nat × Blk) → List (Nat × Blk)
  | [] => []
  | p :: l => (p.1, p.2.frz) :: frzBlks l

theorem look_frzBlks : ∀ (l : List (Nat × Blk)) (i : Nat), look (frzBlks l) i = (look l i).map Blk.frz
  | [], _ => rfl
  | p :: l, i => by
    simp only [frzBlks, look]
    cases Nat.beq i p.1 with
    | true => rfl
    | false => simp only [cond_false]; exact look_frzBlks l i

/-- the same state, its blocks told weaker -/
def frzSt (s : LSt) : LSt := { s with H := frzBlks s.H }

theorem RelS.frz {G : Gh} {s : LSt} {w : World} (h : RelS G (over (Emp 0) s) w) : RelS G (over (Emp 0) (frzSt s)) w := by
  have hH : ∀ i, (over (Emp 0) (frzSt s)).H i = ((over (Emp 0) s).H i).map Blk.frz := by
    intro i; rw [over_H, over_H]; exact look_frzBlks s.H i
  refine ⟨fun i => ?_, ?_, h.inj, fun i b X hi hX => ?_, h.live, h.τns, h.own, h.ownd, h.below, h.base⟩
  · rw [hH, h.dom i]; simp
  · obtain ⟨N, hN⟩ := h.fin
    exact ⟨N, fun i hi => by rw [hH, hN i hi]; rfl⟩
  · rw [hH] at hX
    cases hY : (over (Emp 0) s).H i with
    | none => rw [hY] at hX; cases hX
    | some Y =>
      rw [hY] at hX
      simp only [Option.map_some, Option.some.injEq] at hX
      subst hX
      obtain ⟨q1, q2⟩ := h.blk i b Y hi hY
      exact ⟨q1, q2.frz⟩

/-- a result that may keep a stamp at its top -/
def frz1 : AV → AV
  | .sl es n (.st k sz) => .sl es n (.st k sz)
  | a => a.frz
def frzT : AV → AV
  | .tup cs => .tup (cs.map frz1)
  | a => frz1 a
theorem V.frz1 {G : Gh} {w : World} {a : AV} {u : Value} (h : V G w a u) : V G w (Ab.frz1 a) u := by
  unfold Ab.frz1
  split
  · exact h
  · exact V.frz _ _ h
theorem VL.frz1 {G : Gh} {w : World} : ∀ (as : List AV) (us : List Value), VL G w as us → VL G w (as.map Ab.frz1) us
  | [], [], _ => by simp [VL]
  | a :: as, u :: us, h => by
    simp only [VL, List.map_cons] at h ⊢
    exact ⟨V.frz1 h.1, VL.frz1 as us h.2⟩
  | [], _ :: _, h => by simp only [VL] at h
  | _ :: _, [], h => by simp only [VL] at h
theorem V.frzT {G : Gh} {w : World} {a : AV} {u : Value} (h : V G w a u) : V G w (Ab.frzT a) u := by
  unfold Ab.frzT
  split
  · simp only [V] at h ⊢
    obtain ⟨vs, rfl, hl⟩ := h
    exact ⟨vs, rfl, VL.frz1 _ _ hl⟩
  · exact V.frz1 h

/-- a run to the function's end: its result, its blocks -/
def kfin (P : Program) (pr : FuncId → List AV → LSt → Option LA) (na : Nat) (fn : Func) (n : Nat) (m : Md) (fs : List Fr) (env : List AV) (s : LSt) (os : List Orc) (rs : List (Option Nat × Nat × Nat)) (keep ks : List Nat) (own : Bool) : Option (AV × List Blk × List Ob) :=
  match krun P pr n m fs env s os with
  | some (.fin x, env1, s1, [], ob) =>
    match x with
    | .exit _ => none
    | _ =>
      match restamps rs env1 s1 with
      | none => none
      | some (env', s') =>
      match ares P (look s'.H) env' fn.results.toList with
      | some r => bif reB na keep ks s' then
          match blksObs keep s' keep, r.dobs keep with
          | some o1, some o2 => some (bif own then frzT (r.ren (newId keep) (place ks)) else (r.ren (newId keep) (place ks)).frz, (blkList (reSt keep ks s').H 0 keep.length).map Blk.frz, ob ++ (o1 ++ o2))
          | _, _ => none
        else none
      | none => none
  | _ => none

/-- the post of a function -/
def FinQ (P : Program) (na : Nb) (fn : Func) (res : AV) (H1 : List Blk) (nst : Nat) : AX → List AV → LSt → Prop := fun x env0 s0 =>
  (x = .normal ∨ x = .ret) ∧ ∃ rs env s, restamps rs env0 s0 = some (env, s) ∧ ∃ r keep ks, ares P (look s.H) env fn.results.toList = some r ∧ reB na.n keep ks s = true ∧ fineBlks keep s keep ∧ r.fine (fun i => i ∈ keep) ∧
    (∀ G w u, V G w (r.ren (newId keep) (place ks)) u → V G w res u) ∧ H1 = (blkList (reSt keep ks s).H 0 keep.length).map Blk.frz ∧ nst ≤ ks.length

theorem kfin_ok {P : Program} {pr : FuncId → List AV → LSt → Option LA} (hp : CallsOk P pr) (hm : P.follows .mixedOrders = true) {na : Nb} {fn : Func} {n : Nat} {m : Md} {fs : List Fr} {env : List AV} {s : LSt} {os : List Orc} {rs : List (Option Nat × Nat × Nat)} {keep ks : List Nat} {own : Bool} {res : AV} {H1 : List Blk} {nst : Nat} {ob : List Ob}
    (h : kfin P pr na.n fn n m fs env s os rs keep ks own = some (res, H1, ob)) (hob : ObsOk P ob) (hn : nst ≤ ks.length) : KGoal P na (FinQ P na fn res H1 nst) fs env s m := by
  unfold kfin at h
  split at h
  · rename_i x env1 s1 ob' hr
    have key : (x = .normal ∨ x = .ret) ∧ ∃ env' s', restamps rs env1 s1 = some (env', s') ∧ ∃ r, ares P (look s'.H) env' fn.results.toList = some r ∧ (bif reB na.n keep ks s' then
          match blksObs keep s' keep, r.dobs keep with
          | some o1, some o2 => some (bif own then frzT (r.ren (newId keep) (place ks)) else (r.ren (newId keep) (place ks)).frz, (blkList (reSt keep ks s').H 0 keep.length).map Blk.frz, ob' ++ (o1 ++ o2))
          | _, _ => none
        else none) = some (res, H1, ob) := by
      cases x with
      | exit i => cases h
      | normal =>
        simp only at h
        split at h
        · cases h
        rename_i env' s' hrs
        split at h
        · rename_i r hr; exact ⟨.inl rfl, env', s', hrs, r, hr, h⟩
        · cases h
      | ret =>
        simp only at h
        split at h
        · cases h
        rename_i env' s' hrs
        split at h
        · rename_i r hr; exact ⟨.inr rfl, env', s', hrs, r, hr, h⟩
        · cases h
    obtain ⟨hx, env', s', hrs, r, hres, h⟩ := key
    cases hb : reB na.n keep ks s' with
    | false => rw [hb] at h; cases h
    | true =>
      rw [hb] at h
      simp only [cond_true] at h
      split at h
      · rename_i o1 o2 h1 h2
        simp only [Option.some.injEq, Prod.mk.injEq] at h
        obtain ⟨e1, rfl, rfl⟩ := h
        obtain ⟨q1, q2⟩ := ObsOk.append hob
        obtain ⟨q3, q4⟩ := ObsOk.append q2
        refine krun_ok hp hm _ _ _ _ _ _ _ _ _ _ _ hr q1 ⟨hx, rs, env', s', hrs, r, keep, ks, hres, hb, blksObs_ok _ _ h1 q3, AV.dobs_ok _ _ h2 q4, fun G w u hu => ?_, rfl, hn⟩
        subst e1
        cases own with
        | true => exact V.frzT hu
        | false => exact V.frz _ _ hu
      · cases h
  · cases h

theorem CTri.body {P : Program} {f : FuncId} {fn : Func} {H0 : List Blk} {args : List AV} {res : AV} {H1 : List Blk} {nst : Nat} (hf : P.funcs[f]? = some fn) (hb : fn.body.isNone = false)
    (h : Dv P H0.length (bod fn) (args ++ List.replicate (fn.ntmps - args.length) (.val undef)) (st0 H0) (FinQ P H0.length fn res H1 nst)) : CTri P f H0 args res H1 nst := by
  intro G0 W cargs hB hR hv
  cases hb' : fn.body with
  | none => rw [hb'] at hb; cases hb
  | some c =>
  have hbod : bod fn = c := by simp [bod, hb']
  rw [hbod] at h
  refine calls_of_wp hf hb' ?_
  have hlen := VL.length _ _ hv
  have hR0 : Rel G0 ⟨args ++ List.replicate (fn.ntmps - args.length) (.val undef), over (Emp 0) (st0 H0)⟩ { tmps := cargs ++ Array.replicate (fn.ntmps - cargs.size) undef, defers := [] } W := by
    refine ⟨hR, ?_, rfl⟩
    have : cargs.size = args.length := by rw [← hlen]; simp
    simp only [Array.toList_append, Array.toList_replicate, this]
    exact VL.append _ _ _ _ hv (VL.replicate _)
  have hok : (st0 H0).Ok := by
    refine ⟨fun i X hX => ?_, fun k hk => by simp [st0] at hk, (fun k h => by cases h), Nat.zero_le _⟩
    have hX' : look (idxBlks H0 0) i = some X := hX
    rw [look_idxBlks] at hX'
    simp only [Nat.zero_le, if_true, Nat.sub_zero] at hX'
    exact (List.getElem?_eq_some_iff.1 hX').1
  refine wp_mono (h G0 W hB G0 _ W (Ext.refl G0 W) hok hR0) ?_
  rintro e a' w' ⟨x, env1, s1, G₂, rfl, ⟨hx, rs, env', s', hrs, r, keep, ks, hres, hreB, hfb, hfr, hle, hH1, hnst⟩, hE2, hok2, hR2⟩
  obtain ⟨G₁, hE1, hok', hR'⟩ := Rel.restamps rs hrs hok2 hR2
  have hE := hE2.trans hE1
  have hres' : ares P (over (Emp 0) s').H env' fn.results.toList = some r := by
    refine ares_mono (fun i X hX => ?_) hres
    rw [over_H]; exact hX
  obtain ⟨u, hu, huv⟩ := ares_ok (fn := fn) hR' hres'
  obtain ⟨G', h1, h2, h3, h4⟩ := renumber hreB hfb hB.ρ hB.τ hE hR'.st
  have hV := hle _ _ _ (V.ren h4 r u hfr huv)
  have hend : a'.defers = [] ∧ ∃ v', (results fn a'.tmps).run P w' = .ok v' w' ∧ ∃ u G' s', Ending.returned v' = .returned u ∧ Ext G0 W G' w' ∧ RelS G' (over (Emp 0) s') w' ∧ V G' w' res u ∧
      (∀ i X, H1[i]? = some X → look s'.H i = some X) ∧ ∀ k, k < nst → s'.own.any (Nat.beq k) = true := by
    refine ⟨hR'.dfr, u, hu, u, G', frzSt (reSt keep ks s'), rfl, h1, h3.frz, hV, fun i X hX => ?_, fun k hk => ?_⟩
    · rw [hH1, List.getElem?_map] at hX
      cases hY : (blkList (reSt keep ks s').H 0 keep.length)[i]? with
      | none => rw [hY] at hX; cases hX
      | some Y =>
      rw [hY] at hX
      simp only [Option.map_some, Option.some.injEq] at hX
      subst hX
      show look (frzBlks (reSt keep ks s').H) i = _
      rw [look_frzBlks]
      have := blkList_get keep.length 0 i Y hY
      simp only [Nat.zero_add] at this
      rw [this]
      · rfl
      have hlt : i < keep.length := by
        have := (List.getElem?_eq_some_iff.1 hY).1
        have hl : ∀ n j, (blkList (reSt keep ks s').H j n).length = n := by
          intro n
          induction n with
          | zero => intro j; rfl
          | succ n ih => intro j; simp [blkList, ih]
        rwa [hl] at this
      show ∃ Y, look (reBlks s'.H keep ks keep 0) i = some Y
      rw [look_reBlks]
      simp only [Nat.zero_le, if_true, Nat.sub_zero, List.getElem?_eq_getElem hlt, Option.map_some]
      exact ⟨_, rfl⟩
    · show (range' 0 ks.length).any (Nat.beq k) = true
      rw [any_beq, mem_range']; omega
  rcases hx with rfl | rfl
  · exact hend
  · exact hend

end Go.Ab
