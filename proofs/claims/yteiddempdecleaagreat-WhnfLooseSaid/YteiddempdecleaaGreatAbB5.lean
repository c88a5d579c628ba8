/- Texts: AbQf AbRf AbF82 AbF32 AbF79 AbQg AbQh AbF77 AbRa AbF114va35861 AbF25 AbF26 AbF106va12063 AbF47 AbF52 AbF52va47633 AbF79va14437 AbF82va20783 AbF79va17286 AbF79va53055 AbF28 AbF78 AbF27 AbQi AbF81 AbF30 AbRb AbF80 AbRc AbF29 AbF5 AbQl AbQm -/
import Derived.Test.YteiddempdecleaaGreatAbB4
set_option linter.unusedVariables false
set_option linter.unusedSimpArgs false
namespace Go.Proofs.YteiddempdecleaaGreat
open Go Go.Ab
abbrev er4 (r : Tm × Int × Int × Int) : Int := r.2.1
abbrev er5 (r : Tm × Bool × Int × Int × Int) : Int := r.2.2.1
theorem machT_l (l : List Ent) : (machT l).l = l := rfl
theorem machT_rl (l : List Ent) : (machT l).rl = l := rfl
theorem machT_parts (l : List Ent) : (machT l).parts = evA l l.length 0 := rfl
noncomputable def fieldX (l : List Ent) (i : Int) (a : List Tm) : Tm × Int :=
  open Classical in if h : ∃ r, Evt (fun q => e24 q l (evA l l.length 0) i a) r then h.choose else (zT, 5)
theorem fieldX_spec {N : ByteArray → Bool} (l : List Ent) (i : Int) (a : List Tm) (hE : AllE N l) (ho : OkA a) (hl : a.length ≤ 1073741824) : Evt (fun q => e24 q l (evA l l.length 0) i a) (fieldX l i a) ∧ FieldOk l i a (fieldX l i a) := by
  obtain ⟨r, hr, hk⟩ := tot_Field l (evA l l.length 0) i a hE ho hl
  have hx : ∃ r, Evt (fun q => e24 q l (evA l l.length 0) i a) r := ⟨r, hr⟩
  have e : fieldX l i a = r := by
    unfold fieldX
    rw [dif_pos hx]
    exact hx.choose_spec.det hr
  rw [e]; exact ⟨hr, hk⟩
noncomputable def stepX (l : List Ent) (d lev c : Int) (args own : List Tm) : Tm × Int :=
  open Classical in if h : ∃ r, Evt (fun q => e226 q l (evA l l.length 0) d lev c args own) r then h.choose else (zT, 5)
theorem stepX_spec {N : ByteArray → Bool} (l : List Ent) (d lev c : Int) (args own : List Tm) (hE : AllE N l) (ho4 : OkA args) (ho5 : OkA own) (hl4 : args.length ≤ 65535) (hl5 : own.length ≤ 65535) : Evt (fun q => e226 q l (evA l l.length 0) d lev c args own) (stepX l d lev c args own) ∧ StepOk l d lev c args own (stepX l d lev c args own) := by
  obtain ⟨r, hr, hk⟩ := tot_Step l d lev c args own hE ho4 ho5 hl4 hl5
  have hx : ∃ r, Evt (fun q => e226 q l (evA l l.length 0) d lev c args own) r := ⟨r, hr⟩
  have e : stepX l d lev c args own = r := by
    unfold stepX
    rw [dif_pos hx]
    exact hx.choose_spec.det hr
  rw [e]; exact ⟨hr, hk⟩
inductive Act where
  | none
  | red (Y : Tm) (e : Int)
  | tgt (a : Tm)
noncomputable def actT (l : List Ent) (x : Tm) : Act :=
  if (hdT x).k = 4 ∧ 0 < (arT x).length then .red (apT (subT (nth (hdT x).sub 1) [nth (arT x) 0]).1 ((arT x).drop 1)) (subT (nth (hdT x).sub 1) [nth (arT x) 0]).2
  else if kindT l (hdT x) = 3 then .red (apT (ent l (hdT x).n).body (arT x)) 0
  else if kindT l (hdT x) = 4 then (if ((arT x).length : Int) ≤ (ent l (hdT x).n).pars then .none else .tgt (nth (arT x) (ent l (hdT x).n).pars))
  else if (hdT x).k = 7 then (if isT l (hdT x).n 1 = true ∧ argsT (ent l (hdT x).n) ≤ (arT x).length then .tgt (nth (arT x) (argsT (ent l (hdT x).n) - 1)) else .none)
  else .none
noncomputable def reactT (l : List Ent) (x y : Tm) : Option (Tm × Int) :=
  if kindT l (hdT x) = 4 then
    (if isCon l y ∧ (ent l (hdT y).n).fam = (ent l (hdT x).n).fam then
      some (apT (fieldX l (hdT x).n ((arT y).drop (ent l (hdT y).n).pars.toNat)).1 ((arT x).drop ((ent l (hdT x).n).pars + 1).toNat), (fieldX l (hdT x).n ((arT y).drop (ent l (hdT y).n).pars.toNat)).2)
    else none)
  else
    (if isCon l y ∧ (ent l (hdT y).n).fam = (hdT x).n then
      some (apT (stepX l (hdT x).n (nth (hdT x).sub 0).n (hdT y).n ((arT x).take ((ent l (hdT x).n).pars + 1 + (ent l (hdT x).n).cons.length).toNat) ((arT y).drop (ent l (hdT x).n).pars.toNat)).1 ((arT x).drop (argsT (ent l (hdT x).n)).toNat),
        (stepX l (hdT x).n (nth (hdT x).sub 0).n (hdT y).n ((arT x).take ((ent l (hdT x).n).pars + 1 + (ent l (hdT x).n).cons.length).toNat) ((arT y).drop (ent l (hdT x).n).pars.toNat)).2)
    else none)
inductive Br (l : List Ent) : Tm → Tm → Int → Int → Prop
  | stop {x : Tm} : actT l x = .none → Br l x x 0 0
  | redE {x Y : Tm} {e : Int} : actT l x = .red Y e → e ≠ 0 → Br l x zT e 0
  | redL {x Y : Tm} : actT l x = .red Y 0 → shapedT Y = false → Br l x zT 2 1
  | red {x Y y : Tm} {e k : Int} : actT l x = .red Y 0 → shapedT Y = true → Br l Y y e k → Br l x y e (1 + k)
  | tgtE {x a z : Tm} {e k : Int} : actT l x = .tgt a → Br l a z e k → e ≠ 0 → Br l x zT e k
  | tgtN {x a z : Tm} {k : Int} : actT l x = .tgt a → Br l a z 0 k → reactT l x z = none → Br l x x 0 k
  | tgtRE {x a z Y : Tm} {e k : Int} : actT l x = .tgt a → Br l a z 0 k → reactT l x z = some (Y, e) → e ≠ 0 → Br l x zT e k
  | tgtRL {x a z Y : Tm} {k : Int} : actT l x = .tgt a → Br l a z 0 k → reactT l x z = some (Y, 0) → shapedT Y = false → Br l x zT 2 (k + 1)
  | tgtR {x a z Y y : Tm} {e k k' : Int} : actT l x = .tgt a → Br l a z 0 k → reactT l x z = some (Y, 0) → shapedT Y = true → Br l Y y e k' → Br l x y e (k + 1 + k')
inductive On (l : List Ent) (x : Tm) : Tm → Bool → Int → Int → Prop
  | stop : actT l x = .none → On l x x false 0 0
  | redE {Y : Tm} {e : Int} : actT l x = .red Y e → e ≠ 0 → On l x x false e 0
  | redL {Y : Tm} : actT l x = .red Y 0 → shapedT Y = false → On l x zT true 2 1
  | red {Y : Tm} : actT l x = .red Y 0 → shapedT Y = true → On l x Y true 0 1
  | tgtE {a z : Tm} {e k : Int} : actT l x = .tgt a → Br l a z e k → e ≠ 0 → On l x x false e k
  | tgtN {a z : Tm} {k : Int} : actT l x = .tgt a → Br l a z 0 k → reactT l x z = none → On l x x false 0 k
  | tgtRE {a z Y : Tm} {e k : Int} : actT l x = .tgt a → Br l a z 0 k → reactT l x z = some (Y, e) → e ≠ 0 → On l x x false e k
  | tgtRL {a z Y : Tm} {k : Int} : actT l x = .tgt a → Br l a z 0 k → reactT l x z = some (Y, 0) → shapedT Y = false → On l x zT true 2 (k + 1)
  | tgtR {a z Y : Tm} {k : Int} : actT l x = .tgt a → Br l a z 0 k → reactT l x z = some (Y, 0) → shapedT Y = true → On l x Y true 0 (k + 1)
theorem Br.nn {l : List Ent} {x y : Tm} {e k : Int} (h : Br l x y e k) : 0 ≤ k := by
  induction h <;> omega
theorem On.still {l : List Ent} {x y : Tm} {k : Int} (h : On l x y false 0 k) : y = x ∧ Br l x x 0 k := by
  cases h with
  | stop h => exact ⟨rfl, .stop h⟩
  | redE _ h => exact absurd rfl h
  | tgtE _ _ h => exact absurd rfl h
  | tgtN a b c => exact ⟨rfl, .tgtN a b c⟩
  | tgtRE _ _ _ h => exact absurd rfl h
theorem On.err {l : List Ent} {x y : Tm} {d : Bool} {e k : Int} (h : On l x y d e k) (he : e ≠ 0) : Br l x zT e k := by
  cases h with
  | redE a b => exact .redE a b
  | redL a b => exact .redL a b
  | tgtE a b c => exact .tgtE a b c
  | tgtRE a b c d => exact .tgtRE a b c d
  | tgtRL a b c d => exact .tgtRL a b c d
  | _ => exact absurd rfl he
theorem On.step {l : List Ent} {x Y : Tm} {k : Int} (h : On l x Y true 0 k) : shapedT Y = true ∧ 1 ≤ k ∧ ∀ y e k', Br l Y y e k' → Br l x y e (k + k') := by
  cases h with
  | red a b => exact ⟨b, by omega, fun y e k' h => .red a b h⟩
  | tgtR a b c d => exact ⟨d, by have := b.nn; omega, fun y e k' h => .tgtR a b c d h⟩
def HB (l : List Ent) (x : Tm) (f : Int) : Prop := Ou (fun L U q => e157 q (machT l) x L U) er4 (fun R k => ∃ y e, Br l x y e k ∧ R = fun L U => (y, e, L, U)) (∀ y e k, Br l x y e k → f < k) f
def QO (l : List Ent) (x : Tm) (R : Int → Int → Tm × Bool × Int × Int × Int) (k : Int) : Prop := ∃ Y d e, On l x Y d e k ∧ R = fun L U => (Y, d, e, L, U)
def QF (l : List Ent) (x : Tm) (R : Int → Int → Tm × Bool × Int × Int × Int) (k : Int) : Prop :=
  (actT l x = .none ∧ k = 0 ∧ ∃ Y, R = fun L U => (Y, false, 0, L, U)) ∨
  ∃ a z e, actT l x = .tgt a ∧ Br l a z e k ∧ ((e ≠ 0 ∧ ∃ Y, R = fun L U => (Y, false, e, L, U)) ∨ (e = 0 ∧ ((reactT l x z = none ∧ ∃ Y, R = fun L U => (Y, false, 0, L, U)) ∨ ∃ Y e', Y.Ok ∧ reactT l x z = some (Y, e') ∧ R = fun L U => (Y, true, e', L, U))))
theorem nth_sub2 {t : Tm} (hg : goodT t = true) (h : t.k = 3 ∨ t.k = 4 ∨ t.k = 5) : ∃ a b, t.sub = [a, b] ∧ goodT a = true ∧ goodT b = true := by
  obtain ⟨k, n, l⟩ := t
  have hh := goodT_mk hg
  obtain ⟨a, b, rfl⟩ := sub2 ((head_spec hh.1).2.2.2.2.2.1 h).1
  have hc := goodL_cons hh.2
  exact ⟨a, b, rfl, hc.1, (goodL_cons hc.2).1⟩
theorem out_field {N : ByteArray → Bool} (l : List Ent) (hE : AllE N l) (x : Tm) (hs : shapedT x = true) (f : Int) (hf : 0 ≤ f) (h3 : (hdT x).k ≠ 4) (hk : kindT l (hdT x) = 4) (hb : ∀ a ∈ arT x, HB l a f) (hB : ∀ a y k, shapedT a = true → Br l a y 0 k → shapedT y = true) :
    Ou (fun L U q => e161 q (machT l) (hdT x) (arT x) L U) er5 (QF l x) (∃ a, actT l x = .tgt a ∧ ∀ z e k, Br l a z e k → f < k) f := by
  have hh := hd_shaped hs
  have h0 := good_n (shapedT_spec hh).2.2
  have hks := kindT_spec hk (by decide)
  have h1 := hks.2.1
  have ho : OkA (arT x) := fun y hy => shaped_ok (ar_shaped hs hy)
  have hl : (arT x).length ≤ 8192 := by
    have h := shapedT_spec hs
    have := ar_len _ h.2.2
    omega
  have hp := (entryT_spec (hE.2 _ h0 h1)).2.2.2.1 hks.2.2
  unfold projT at hp
  simp only [Bool.and_eq_true] at hp
  have hw := ownedT_spec hp.1
  have hfam := familyT_spec ((entryT_spec (hE.2 _ hw.1 (by omega))).2.1 hw.2.2.1)
  have hact : actT l x = if ((arT x).length : Int) ≤ (ent l (hdT x).n).pars then .none else .tgt (nth (arT x) (ent l (hdT x).n).pars) := by
    unfold actT
    rw [if_neg (fun h => h3 h.1), if_neg (by omega), if_pos hk]
  have hre : ∀ y, reactT l x y = if isCon l y ∧ (ent l (hdT y).n).fam = (ent l (hdT x).n).fam then
      some (apT (fieldX l (hdT x).n ((arT y).drop (ent l (hdT y).n).pars.toNat)).1 ((arT x).drop ((ent l (hdT x).n).pars + 1).toNat), (fieldX l (hdT x).n ((arT y).drop (ent l (hdT y).n).pars.toNat)).2)
    else none := fun y => by
    unfold reactT
    rw [if_pos hk]
  refine Ou.succ ?_
  simp only [e161, machT_l, machT_rl, machT_parts]
  refine Ou.pure (gidx_ent h0 h1) (Ou.ite (fun hn => Ou.ret hf (.inl ⟨by rw [hact, if_pos (of_decide_eq_true hn)], rfl, _, rfl⟩)) fun hn => ?_)
  have hn' := of_decide_eq_false hn
  rw [if_neg hn'] at hact
  have hlt : (ent l (hdT x).n).pars < (arT x).length := by omega
  have hp0 : 0 ≤ (ent l (hdT x).n).pars := by omega
  refine Ou.pure (gidx_nth hp0 hlt) (Ou.bind (hb _ (nth_mem hp0 hlt)) (fun h => ⟨_, hact, h⟩) (fun r hr => ⟨_, Evt.ifT (by show (r.2.1 != 0) = true; rw [show r.2.1 = 8 from hr]; decide) Evt.ret, hr⟩) ?_)
  rintro R k k0 k1 ⟨y, e, hbr, rfl⟩
  dsimp only
  refine Ou.ite (fun h => Ou.ret (by omega) (.inr ⟨_, y, e, hact, by rwa [Int.add_zero], .inl ⟨by simpa using h, _, rfl⟩⟩)) fun h => ?_
  have he : e = 0 := by simpa using h
  subst he
  have hy := hB _ _ _ (ar_shaped hs (nth_mem hp0 hlt)) hbr
  refine Ou.evt (ev_wcon l y hy) ?_
  unfold conX
  by_cases hc : isCon l y
  · rw [if_pos hc]
    have hcs := isCon_spec hy hc
    obtain ⟨A, z, a1, -, -, a4, a5, a6, a7, -⟩ := con_facts hE hcs.1 hcs.2.1 hcs.2.2.1
    refine Ou.ifT rfl (Ou.pure (gidx_ent hcs.1 hcs.2.1) (Ou.ite (fun hf' => Ou.ret (by omega) (.inr ⟨_, y, 0, hact, by rwa [Int.add_zero], .inr ⟨rfl, .inl ⟨?_, _, rfl⟩⟩⟩)) fun hf' => ?_))
    · rw [hre, if_neg (fun h => by simp [h.2] at hf')]
    · have hf2 : (ent l (hdT y).n).fam = (ent l (hdT x).n).fam := by simpa using hf'
      have hra : OkA (arT y) := fun x hx => shaped_ok (ar_shaped hy hx)
      have hrl : (arT y).length ≤ 8192 := by
        have h := shapedT_spec hy
        have := ar_len _ h.2.2
        omega
      have hlen := hcs.2.2.2
      have hX := fieldX_spec l (hdT x).n ((arT y).drop (ent l (hdT y).n).pars.toNat) hE (hra.drop _) (by rw [List.length_drop]; omega)
      refine Ou.pure (gsl_from a6 (by show (ent l (hdT y).n).pars ≤ ((arT y).length : Int); omega)) (Ou.evt hX.1 ?_)
      rw [w64_id (x := (ent l (hdT x).n).pars + 1) (by omega) (by omega)]
      refine Ou.pure (gsl_from (by omega) (by omega)) (Ou.evt (ev_Apply _ _ (by rw [List.length_drop]; omega)) (Ou.ret (by omega) (.inr ⟨_, y, 0, hact, by rwa [Int.add_zero], .inr ⟨rfl, .inr ⟨_, _, ?_, ?_, rfl⟩⟩⟩)))
      · exact apT_ok _ _ hX.2.1 (ho.drop _)
      · rw [hre, if_pos ⟨hc, hf2⟩]
  · rw [if_neg hc]
    refine Ou.ifF rfl (Ou.ret (by omega) (.inr ⟨_, y, 0, hact, by rwa [Int.add_zero], .inr ⟨rfl, .inl ⟨?_, _, rfl⟩⟩⟩))
    rw [hre, if_neg (fun h => hc h.1)]
theorem out_elim {N : ByteArray → Bool} (l : List Ent) (hE : AllE N l) (x : Tm) (hs : shapedT x = true) (f : Int) (hf : 0 ≤ f) (hk : (hdT x).k = 7) (hb : ∀ a ∈ arT x, HB l a f) (hB : ∀ a y k, shapedT a = true → Br l a y 0 k → shapedT y = true) :
    Ou (fun L U q => e162 q (machT l) (hdT x) (arT x) L U) er5 (QF l x) (∃ a, actT l x = .tgt a ∧ ∀ z e k, Br l a z e k → f < k) f := by
  have hh := hd_shaped hs
  have hg := (shapedT_spec hh).2.2
  have h0 := good_n hg
  have ho : OkA (arT x) := fun y hy => shaped_ok (ar_shaped hs hy)
  have hl : (arT x).length ≤ 8192 := by
    have h := shapedT_spec hs
    have := ar_len _ h.2.2
    omega
  have hkk : ∀ n : Int, n ≠ 0 → kindT l (hdT x) ≠ n := fun n hn e => by have := (kindT_spec e hn).1; omega
  have hact : actT l x = if isT l (hdT x).n 1 = true ∧ argsT (ent l (hdT x).n) ≤ (arT x).length then .tgt (nth (arT x) (argsT (ent l (hdT x).n) - 1)) else .none := by
    unfold actT
    rw [if_neg (fun h => by omega), if_neg (hkk 3 (by decide)), if_neg (hkk 4 (by decide)), if_pos hk]
  have hre : ∀ y, reactT l x y = if isCon l y ∧ (ent l (hdT y).n).fam = (hdT x).n then
      some (apT (stepX l (hdT x).n (nth (hdT x).sub 0).n (hdT y).n ((arT x).take ((ent l (hdT x).n).pars + 1 + (ent l (hdT x).n).cons.length).toNat) ((arT y).drop (ent l (hdT x).n).pars.toNat)).1 ((arT x).drop (argsT (ent l (hdT x).n)).toNat),
        (stepX l (hdT x).n (nth (hdT x).sub 0).n (hdT y).n ((arT x).take ((ent l (hdT x).n).pars + 1 + (ent l (hdT x).n).cons.length).toNat) ((arT y).drop (ent l (hdT x).n).pars.toNat)).2)
    else none := fun y => by
    unfold reactT
    rw [if_neg (hkk 4 (by decide))]
  refine Ou.succ ?_
  simp only [e162, machT_l, machT_rl, machT_parts]
  refine Ou.ite (fun hn => Ou.ret hf (.inl ⟨?_, rfl, _, rfl⟩)) fun hn => ?_
  · rw [hact, if_neg]
    intro h
    have := (isT_spec h.1).2.1
    have := of_decide_eq_true hn
    omega
  have h1 : (hdT x).n < l.length := by have := of_decide_eq_false hn; omega
  refine Ou.pure (gidx_ent h0 h1) (Ou.ite (fun hk1 => Ou.ret hf (.inl ⟨?_, rfl, _, rfl⟩)) fun hk1 => ?_)
  · rw [hact, if_neg]
    intro h
    have h2 := (isT_spec h.1).2.2
    rw [h2] at hk1
    simp at hk1
  have hk1' : (ent l (hdT x).n).kind = 1 := by simpa using hk1
  have hfam := familyT_spec ((entryT_spec (hE.2 _ h0 h1)).2.1 hk1')
  have hisT : isT l (hdT x).n 1 = true := by unfold isT; simp [h0, h1, hk1']
  have hargs : argsT (ent l (hdT x).n) = (ent l (hdT x).n).pars + 2 + (ent l (hdT x).n).cons.length + (ent l (hdT x).n).inds := by unfold argsT; rw [if_pos hk1']
  refine Ou.pure (args_idx h0 h1) (Ou.ite (fun hn => Ou.ret hf (.inl ⟨?_, rfl, _, rfl⟩)) fun hn => ?_)
  · rw [hact, if_neg]
    intro h
    have := of_decide_eq_true hn
    omega
  have hn' := of_decide_eq_false hn
  rw [if_pos ⟨hisT, by omega⟩] at hact
  rw [w64_id (x := argsT (ent l (hdT x).n) - 1) (by omega) (by omega)]
  have hp0 : 0 ≤ argsT (ent l (hdT x).n) - 1 := by omega
  have hlt : argsT (ent l (hdT x).n) - 1 < (arT x).length := by omega
  refine Ou.pure (gidx_nth hp0 hlt) (Ou.bind (hb _ (nth_mem hp0 hlt)) (fun h => ⟨_, hact, h⟩) (fun r hr => ⟨_, Evt.ifT (by show (r.2.1 != 0) = true; rw [show r.2.1 = 8 from hr]; decide) Evt.ret, hr⟩) ?_)
  rintro R k k0 k1 ⟨y, e, hbr, rfl⟩
  dsimp only
  refine Ou.ite (fun h => Ou.ret (by omega) (.inr ⟨_, y, e, hact, by rwa [Int.add_zero], .inl ⟨by simpa using h, _, rfl⟩⟩)) fun h => ?_
  have he : e = 0 := by simpa using h
  subst he
  have hy := hB _ _ _ (ar_shaped hs (nth_mem hp0 hlt)) hbr
  refine Ou.evt (ev_wcon l y hy) ?_
  unfold conX
  by_cases hc : isCon l y
  · rw [if_pos hc]
    have hcs := isCon_spec hy hc
    obtain ⟨A, z, a1, -, -, a4, a5, a6, a7, -, -, -, a8, -⟩ := con_facts hE hcs.1 hcs.2.1 hcs.2.2.1
    refine Ou.ifT rfl (Ou.pure (gidx_ent hcs.1 hcs.2.1) (Ou.ite (fun hf' => Ou.ret (by omega) (.inr ⟨_, y, 0, hact, by rwa [Int.add_zero], .inr ⟨rfl, .inl ⟨?_, _, rfl⟩⟩⟩)) fun hf' => ?_))
    · rw [hre, if_neg (fun h => by simp [h.2] at hf')]
    · have hf2 : (ent l (hdT y).n).fam = (hdT x).n := by simpa using hf'
      rw [hf2] at a8
      have hra : OkA (arT y) := fun x hx => shaped_ok (ar_shaped hy hx)
      have hrl : (arT y).length ≤ 8192 := by
        have h := shapedT_spec hy
        have := ar_len _ h.2.2
        omega
      have hlen := hcs.2.2.2
      have hsub : ∃ s, (hdT x).sub = [s] := by
        revert hg hk
        generalize hdT x = y
        intro hk hg
        obtain ⟨kk, nn, ss⟩ := y
        obtain ⟨s, hs, -⟩ := (head_spec (goodT_mk hg).1).2.2.2.2.2.2.1 hk
        exact ⟨s, hs⟩
      obtain ⟨s, hsb⟩ := hsub
      rw [w64_id (x := (ent l (hdT x).n).pars + 1) (by omega) (by omega), w64_id (x := (ent l (hdT x).n).pars + 1 + (ent l (hdT x).n).cons.length) (by omega) (by omega)]
      have hX := stepX_spec l (hdT x).n (nth (hdT x).sub 0).n (hdT y).n ((arT x).take ((ent l (hdT x).n).pars + 1 + (ent l (hdT x).n).cons.length).toNat) ((arT y).drop (ent l (hdT x).n).pars.toNat) hE (ho.take _) (hra.drop _) (by rw [List.length_take]; omega) (by rw [List.length_drop]; omega)
      refine Ou.pure (gidx_nth (by omega) (by rw [hsb]; simp)) (Ou.pure (a := (arT x).take ((ent l (hdT x).n).pars + 1 + (ent l (hdT x).n).cons.length).toNat) ?_ (Ou.pure (gsl_from (by omega) (by show _ ≤ ((arT y).length : Int); omega)) (Ou.evt hX.1 ?_)))
      · rw [gsl_mid (by omega) (by omega) (by omega)]; simp
      refine Ou.pure (gsl_from (by omega) (by omega)) (Ou.evt (ev_Apply _ _ (by rw [List.length_drop]; omega)) (Ou.ret (by omega) (.inr ⟨_, y, 0, hact, by rwa [Int.add_zero], .inr ⟨rfl, .inr ⟨_, _, ?_, ?_, rfl⟩⟩⟩)))
      · exact apT_ok _ _ hX.2.1 (ho.drop _)
      · rw [hre, if_pos ⟨hc, hf2⟩]
  · rw [if_neg hc]
    refine Ou.ifF rfl (Ou.ret (by omega) (.inr ⟨_, y, 0, hact, by rwa [Int.add_zero], .inr ⟨rfl, .inl ⟨?_, _, rfl⟩⟩⟩))
    rw [hre, if_neg (fun h => hc h.1)]
def Post (l : List Ent) (Y : Tm) (e0 k0 : Int) (y : Tm) (e k : Int) : Prop :=
  (e0 ≠ 0 ∧ y = zT ∧ e = e0 ∧ k = k0) ∨ (e0 = 0 ∧ shapedT Y = false ∧ y = zT ∧ e = 2 ∧ k = k0 + 1) ∨ (e0 = 0 ∧ shapedT Y = true ∧ ∃ k', Br l Y y e k' ∧ k = k0 + 1 + k')
section
variable {l : List Ent} {x y : Tm} {e k : Int}
theorem Br.inv_none (h : Br l x y e k) (ha : actT l x = .none) : y = x ∧ e = 0 ∧ k = 0 := by
  cases h with
  | stop _ => exact ⟨rfl, rfl, rfl⟩
  | redE a => rw [ha] at a; cases a
  | redL a => rw [ha] at a; cases a
  | red a => rw [ha] at a; cases a
  | tgtE a => rw [ha] at a; cases a
  | tgtN a => rw [ha] at a; cases a
  | tgtRE a => rw [ha] at a; cases a
  | tgtRL a => rw [ha] at a; cases a
  | tgtR a => rw [ha] at a; cases a
theorem Br.inv_red {Y : Tm} {e0 : Int} (h : Br l x y e k) (ha : actT l x = .red Y e0) : Post l Y e0 0 y e k := by
  cases h with
  | stop a => rw [ha] at a; cases a
  | redE a b => rw [ha] at a; cases a; exact .inl ⟨b, rfl, rfl, rfl⟩
  | redL a b => rw [ha] at a; cases a; exact .inr (.inl ⟨rfl, b, rfl, rfl, rfl⟩)
  | red a b c => rw [ha] at a; cases a; exact .inr (.inr ⟨rfl, b, _, c, by omega⟩)
  | tgtE a => rw [ha] at a; cases a
  | tgtN a => rw [ha] at a; cases a
  | tgtRE a => rw [ha] at a; cases a
  | tgtRL a => rw [ha] at a; cases a
  | tgtR a => rw [ha] at a; cases a
theorem Br.inv_tgt {a : Tm} (h : Br l x y e k) (ha : actT l x = .tgt a) : ∃ z ea ka, Br l a z ea ka ∧ ((ea ≠ 0 ∧ y = zT ∧ e = ea ∧ k = ka) ∨ (ea = 0 ∧ ((reactT l x z = none ∧ y = x ∧ e = 0 ∧ k = ka) ∨ ∃ Y e0, reactT l x z = some (Y, e0) ∧ Post l Y e0 ka y e k))) := by
  cases h with
  | stop a => rw [ha] at a; cases a
  | redE a b => rw [ha] at a; cases a
  | redL a b => rw [ha] at a; cases a
  | red a b c => rw [ha] at a; cases a
  | tgtE a b c => rw [ha] at a; cases a; exact ⟨_, _, _, b, .inl ⟨c, rfl, rfl, rfl⟩⟩
  | tgtN a b c => rw [ha] at a; cases a; exact ⟨_, _, _, b, .inr ⟨rfl, .inl ⟨c, rfl, rfl, rfl⟩⟩⟩
  | tgtRE a b c d => rw [ha] at a; cases a; exact ⟨_, _, _, b, .inr ⟨rfl, .inr ⟨_, _, c, .inl ⟨d, rfl, rfl, rfl⟩⟩⟩⟩
  | tgtRL a b c d => rw [ha] at a; cases a; exact ⟨_, _, _, b, .inr ⟨rfl, .inr ⟨_, _, c, .inr (.inl ⟨rfl, d, rfl, rfl, rfl⟩)⟩⟩⟩
  | tgtR a b c d f => rw [ha] at a; cases a; exact ⟨_, _, _, b, .inr ⟨rfl, .inr ⟨_, _, c, .inr (.inr ⟨rfl, d, _, f, rfl⟩)⟩⟩⟩
theorem Br.det (h : Br l x y e k) : ∀ {y' : Tm} {e' k' : Int}, Br l x y' e' k' → y' = y ∧ e' = e ∧ k' = k := by
  induction h with
  | stop a => intro y' e' k' h2; exact h2.inv_none a
  | redE a b =>
    intro y' e' k' h2
    rcases h2.inv_red a with ⟨c, d⟩ | ⟨c, d⟩ | ⟨c, d⟩
    · exact d
    · exact absurd c b
    · exact absurd c b
  | redL a b =>
    intro y' e' k' h2
    rcases h2.inv_red a with ⟨c, d⟩ | ⟨c, d, f⟩ | ⟨c, d, f⟩
    · exact absurd rfl c
    · exact f
    · rw [b] at d; cases d
  | red a b c ih =>
    intro y' e' k' h2
    rcases h2.inv_red a with ⟨c, d⟩ | ⟨c, d, f⟩ | ⟨c, d, n, f, g⟩
    · exact absurd rfl c
    · rw [b] at d; cases d
    · obtain ⟨rfl, rfl, rfl⟩ := ih f; exact ⟨rfl, rfl, by omega⟩
  | tgtE a b c ih =>
    intro y' e' k' h2
    obtain ⟨z', ea, ka, hb', h3⟩ := h2.inv_tgt a
    obtain ⟨rfl, rfl, rfl⟩ := ih hb'
    rcases h3 with ⟨_, d⟩ | ⟨d, _⟩
    · exact d
    · exact absurd d c
  | tgtN a b c ih =>
    intro y' e' k' h2
    obtain ⟨z', ea, ka, hb', h3⟩ := h2.inv_tgt a
    obtain ⟨rfl, rfl, rfl⟩ := ih hb'
    rcases h3 with ⟨d, _⟩ | ⟨_, ⟨_, d⟩ | ⟨Y, e0, d, _⟩⟩
    · exact absurd rfl d
    · exact d
    · rw [c] at d; cases d
  | tgtRE a b c d ih =>
    intro y' e' k' h2
    obtain ⟨z', ea, ka, hb', h3⟩ := h2.inv_tgt a
    obtain ⟨rfl, rfl, rfl⟩ := ih hb'
    rcases h3 with ⟨f, _⟩ | ⟨_, ⟨f, _⟩ | ⟨Y, e0, f, g⟩⟩
    · exact absurd rfl f
    · rw [c] at f; cases f
    · rw [c] at f; cases f
      rcases g with ⟨_, g⟩ | ⟨g, _⟩ | ⟨g, _⟩
      · exact g
      · exact absurd g d
      · exact absurd g d
  | tgtRL a b c d ih =>
    intro y' e' k' h2
    obtain ⟨z', ea, ka, hb', h3⟩ := h2.inv_tgt a
    obtain ⟨rfl, rfl, rfl⟩ := ih hb'
    rcases h3 with ⟨f, _⟩ | ⟨_, ⟨f, _⟩ | ⟨Y, e0, f, g⟩⟩
    · exact absurd rfl f
    · rw [c] at f; cases f
    · rw [c] at f; cases f
      rcases g with ⟨g, _⟩ | ⟨_, _, g⟩ | ⟨_, g, _⟩
      · exact absurd rfl g
      · exact g
      · rw [d] at g; cases g
  | tgtR a b c d f ih ih2 =>
    intro y' e' k' h2
    obtain ⟨z', ea, ka, hb', h3⟩ := h2.inv_tgt a
    obtain ⟨rfl, rfl, rfl⟩ := ih hb'
    rcases h3 with ⟨f, _⟩ | ⟨_, ⟨f, _⟩ | ⟨Y, e0, f, g⟩⟩
    · exact absurd rfl f
    · rw [c] at f; cases f
    · rw [c] at f; cases f
      rcases g with ⟨g, _⟩ | ⟨_, g, _⟩ | ⟨_, _, n, g, rfl⟩
      · exact absurd rfl g
      · rw [d] at g; cases g
      · obtain ⟨rfl, rfl, rfl⟩ := ih2 g; exact ⟨rfl, rfl, rfl⟩
theorem Br.last (h : Br l x y e k) : e = 0 → ∃ j, j ≤ k ∧ On l y y false 0 j := by
  induction h with
  | stop a => exact fun _ => ⟨0, by omega, .stop a⟩
  | redE _ h => exact fun he => absurd he h
  | redL _ _ => exact fun he => absurd he (by decide)
  | red _ _ _ ih => exact fun he => by obtain ⟨j, a, b⟩ := ih he; exact ⟨j, by omega, b⟩
  | tgtE _ _ h _ => exact fun he => absurd he h
  | tgtN a b c _ => exact fun _ => ⟨_, by omega, .tgtN a b c⟩
  | tgtRE _ _ _ h _ => exact fun he => absurd he h
  | tgtRL _ _ _ _ _ => exact fun he => absurd he (by decide)
  | tgtR _ b _ _ _ _ ih => exact fun he => by obtain ⟨j, a, c⟩ := ih he; exact ⟨j, by have := b.nn; omega, c⟩
theorem On.det {Y Y' : Tm} {d d' : Bool} {e e' k k' : Int} (h : On l x Y d e k) (h' : On l x Y' d' e' k') : Y' = Y ∧ d' = d ∧ e' = e ∧ k' = k := by
  cases h with
  | stop a =>
    cases h' with
    | stop _ => exact ⟨rfl, rfl, rfl, rfl⟩
    | redE b => rw [a] at b; cases b
    | redL b => rw [a] at b; cases b
    | red b => rw [a] at b; cases b
    | tgtE b => rw [a] at b; cases b
    | tgtN b => rw [a] at b; cases b
    | tgtRE b => rw [a] at b; cases b
    | tgtRL b => rw [a] at b; cases b
    | tgtR b => rw [a] at b; cases b
  | redE a c =>
    cases h' with
    | redE b => rw [a] at b; cases b; exact ⟨rfl, rfl, rfl, rfl⟩
    | redL b => rw [a] at b; cases b; exact absurd rfl c
    | red b => rw [a] at b; cases b; exact absurd rfl c
    | stop b => rw [a] at b; cases b
    | tgtE b => rw [a] at b; cases b
    | tgtN b => rw [a] at b; cases b
    | tgtRE b => rw [a] at b; cases b
    | tgtRL b => rw [a] at b; cases b
    | tgtR b => rw [a] at b; cases b
  | redL a c =>
    cases h' with
    | redE b d => rw [a] at b; cases b; exact absurd rfl d
    | redL b => exact ⟨rfl, rfl, rfl, rfl⟩
    | red b d => rw [a] at b; cases b; rw [c] at d; cases d
    | stop b => rw [a] at b; cases b
    | tgtE b => rw [a] at b; cases b
    | tgtN b => rw [a] at b; cases b
    | tgtRE b => rw [a] at b; cases b
    | tgtRL b => rw [a] at b; cases b
    | tgtR b => rw [a] at b; cases b
  | red a c =>
    cases h' with
    | redE b d => rw [a] at b; cases b; exact absurd rfl d
    | redL b d => rw [a] at b; cases b; rw [c] at d; cases d
    | red b d => rw [a] at b; cases b; exact ⟨rfl, rfl, rfl, rfl⟩
    | stop b => rw [a] at b; cases b
    | tgtE b => rw [a] at b; cases b
    | tgtN b => rw [a] at b; cases b
    | tgtRE b => rw [a] at b; cases b
    | tgtRL b => rw [a] at b; cases b
    | tgtR b => rw [a] at b; cases b
  | tgtE a c f =>
    cases h' with
    | stop b => rw [a] at b; cases b
    | redE b => rw [a] at b; cases b
    | redL b => rw [a] at b; cases b
    | red b => rw [a] at b; cases b
    | tgtE b g => rw [a] at b; cases b; obtain ⟨-, rfl, rfl⟩ := c.det g; exact ⟨rfl, rfl, rfl, rfl⟩
    | tgtN b g => rw [a] at b; cases b; exact absurd (c.det g).2.1.symm f
    | tgtRE b g => rw [a] at b; cases b; exact absurd (c.det g).2.1.symm f
    | tgtRL b g => rw [a] at b; cases b; exact absurd (c.det g).2.1.symm f
    | tgtR b g => rw [a] at b; cases b; exact absurd (c.det g).2.1.symm f
  | tgtN a c f =>
    cases h' with
    | stop b => rw [a] at b; cases b
    | redE b => rw [a] at b; cases b
    | redL b => rw [a] at b; cases b
    | red b => rw [a] at b; cases b
    | tgtE b g n => rw [a] at b; cases b; exact absurd (c.det g).2.1 n
    | tgtN b g => rw [a] at b; cases b; obtain ⟨-, -, rfl⟩ := c.det g; exact ⟨rfl, rfl, rfl, rfl⟩
    | tgtRE b g n => rw [a] at b; cases b; obtain ⟨rfl, -, -⟩ := c.det g; rw [f] at n; cases n
    | tgtRL b g n => rw [a] at b; cases b; obtain ⟨rfl, -, -⟩ := c.det g; rw [f] at n; cases n
    | tgtR b g n => rw [a] at b; cases b; obtain ⟨rfl, -, -⟩ := c.det g; rw [f] at n; cases n
  | tgtRE a c f n0 =>
    cases h' with
    | stop b => rw [a] at b; cases b
    | redE b => rw [a] at b; cases b
    | redL b => rw [a] at b; cases b
    | red b => rw [a] at b; cases b
    | tgtE b g n => rw [a] at b; cases b; exact absurd (c.det g).2.1 n
    | tgtN b g n => rw [a] at b; cases b; obtain ⟨rfl, -, -⟩ := c.det g; rw [f] at n; cases n
    | tgtRE b g n => rw [a] at b; cases b; obtain ⟨rfl, -, rfl⟩ := c.det g; rw [f] at n; cases n; exact ⟨rfl, rfl, rfl, rfl⟩
    | tgtRL b g n => rw [a] at b; cases b; obtain ⟨rfl, -, -⟩ := c.det g; rw [f] at n; cases n; exact absurd rfl n0
    | tgtR b g n => rw [a] at b; cases b; obtain ⟨rfl, -, -⟩ := c.det g; rw [f] at n; cases n; exact absurd rfl n0
  | tgtRL a c f n0 =>
    cases h' with
    | stop b => rw [a] at b; cases b
    | redE b => rw [a] at b; cases b
    | redL b => rw [a] at b; cases b
    | red b => rw [a] at b; cases b
    | tgtE b g n => rw [a] at b; cases b; exact absurd (c.det g).2.1 n
    | tgtN b g n => rw [a] at b; cases b; obtain ⟨rfl, -, -⟩ := c.det g; rw [f] at n; cases n
    | tgtRE b g n m => rw [a] at b; cases b; obtain ⟨rfl, -, -⟩ := c.det g; rw [f] at n; cases n; exact absurd rfl m
    | tgtRL b g n => rw [a] at b; cases b; obtain ⟨rfl, -, rfl⟩ := c.det g; exact ⟨rfl, rfl, rfl, rfl⟩
    | tgtR b g n m => rw [a] at b; cases b; obtain ⟨rfl, -, -⟩ := c.det g; rw [f] at n; cases n; rw [n0] at m; cases m
  | tgtR a c f n0 =>
    cases h' with
    | stop b => rw [a] at b; cases b
    | redE b => rw [a] at b; cases b
    | redL b => rw [a] at b; cases b
    | red b => rw [a] at b; cases b
    | tgtE b g n => rw [a] at b; cases b; exact absurd (c.det g).2.1 n
    | tgtN b g n => rw [a] at b; cases b; obtain ⟨rfl, -, -⟩ := c.det g; rw [f] at n; cases n
    | tgtRE b g n m => rw [a] at b; cases b; obtain ⟨rfl, -, -⟩ := c.det g; rw [f] at n; cases n; exact absurd rfl m
    | tgtRL b g n m => rw [a] at b; cases b; obtain ⟨rfl, -, -⟩ := c.det g; rw [f] at n; cases n; rw [n0] at m; cases m
    | tgtR b g n => rw [a] at b; cases b; obtain ⟨rfl, -, rfl⟩ := c.det g; rw [f] at n; cases n; exact ⟨rfl, rfl, rfl, rfl⟩
end
section
variable {l : List Ent} {x y : Tm} {e k : Int}
theorem On.tgt_lt {a Y : Tm} {d : Bool} {f : Int} (h : On l x Y d e k) (ha : actT l x = .tgt a) (hl : ∀ z e k, Br l a z e k → f < k) : f < k := by
  cases h with
  | stop b => rw [ha] at b; cases b
  | redE b => rw [ha] at b; cases b
  | redL b => rw [ha] at b; cases b
  | red b => rw [ha] at b; cases b
  | tgtE b g => rw [ha] at b; cases b; exact hl _ _ _ g
  | tgtN b g => rw [ha] at b; cases b; exact hl _ _ _ g
  | tgtRE b g => rw [ha] at b; cases b; exact hl _ _ _ g
  | tgtRL b g => rw [ha] at b; cases b; have := hl _ _ _ g; omega
  | tgtR b g => rw [ha] at b; cases b; have := hl _ _ _ g; omega
theorem On.red_lt {Y Z : Tm} {d : Bool} {e0 : Int} (h : On l x Y d e k) (ha : actT l x = .red Z e0) (h0 : e0 = 0) : k = 1 := by
  subst h0
  cases h with
  | stop b => rw [ha] at b; cases b
  | redE b c => rw [ha] at b; cases b; exact absurd rfl c
  | redL b => rfl
  | red b => rfl
  | tgtE b g => rw [ha] at b; cases b
  | tgtN b g => rw [ha] at b; cases b
  | tgtRE b g => rw [ha] at b; cases b
  | tgtRL b g => rw [ha] at b; cases b
  | tgtR b g => rw [ha] at b; cases b
theorem Br.first (h : Br l x y e k) : ∃ Y d e1 k1, On l x Y d e1 k1 ∧ k1 ≤ k := by
  cases h with
  | stop a => exact ⟨_, _, _, _, .stop a, by omega⟩
  | redE a b => exact ⟨_, _, _, _, .redE a b, by omega⟩
  | redL a b => exact ⟨_, _, _, _, .redL a b, by omega⟩
  | red a b c => exact ⟨_, _, _, _, .red a b, by have := c.nn; omega⟩
  | tgtE a b c => exact ⟨_, _, _, _, .tgtE a b c, by omega⟩
  | tgtN a b c => exact ⟨_, _, _, _, .tgtN a b c, by omega⟩
  | tgtRE a b c d => exact ⟨_, _, _, _, .tgtRE a b c d, by omega⟩
  | tgtRL a b c d => exact ⟨_, _, _, _, .tgtRL a b c d, by omega⟩
  | tgtR a b c d f => exact ⟨_, _, _, _, .tgtR a b c d, by have := f.nn; omega⟩
theorem Br.after {Y : Tm} {k1 : Int} (h : Br l x y e k) (hO : On l x Y true 0 k1) : ∃ k2, Br l Y y e k2 ∧ k = k1 + k2 := by
  cases hO with
  | red a b =>
    rcases h.inv_red a with ⟨c, -⟩ | ⟨-, c, -⟩ | ⟨-, -, n, f, g⟩
    · exact absurd rfl c
    · rw [b] at c; cases c
    · exact ⟨n, f, by omega⟩
  | tgtR a b c d =>
    obtain ⟨z', ea, ka, hb', h3⟩ := h.inv_tgt a
    obtain ⟨rfl, rfl, rfl⟩ := b.det hb'
    rcases h3 with ⟨f, _⟩ | ⟨_, ⟨f, _⟩ | ⟨Y, e0, f, g⟩⟩
    · exact absurd rfl f
    · rw [c] at f; cases f
    · rw [c] at f; cases f
      rcases g with ⟨g, _⟩ | ⟨_, g, _⟩ | ⟨_, _, n, g, rfl⟩
      · exact absurd rfl g
      · rw [d] at g; cases g
      · exact ⟨n, g, by omega⟩
end
def e82 (qq : Nat) (M : Mach) (p1 : Tm) : Option (Bool) :=
 e108 qq p1 1048577 (List.length M.l : Int) >>= fun r1 =>
 some r1
abbrev K82 (M : Mach) (p1 : Tm) (r : Bool) (C : Cf) : Prop := C 82 [.cells [.sl (flat entL M.l) (List.length M.l) .no, .mp 1 0, .sl (flat intC M.args) (List.length M.args) .no, .sl (flat intC M.own) (List.length M.own) .no], .cells [.sl (flat entL M.rl) (List.length M.rl) .no, .sl (flat conL M.parts) (List.length M.parts) .no]] [.mp 0 0, tmA p1] (ab r) [.cells [.sl (flat entL M.l) (List.length M.l) .no, .mp 1 0, .sl (flat intC M.args) (List.length M.args) .no, .sl (flat intC M.own) (List.length M.own) .no], .cells [.sl (flat entL M.rl) (List.length M.rl) .no, .sl (flat conL M.parts) (List.length M.parts) .no]] 0
theorem q82 : Qf 82 Tryz.f82 := ⟨Tryz.func82, by kernel_rfl⟩
theorem k82 {M p1 r} (h : K82 M p1 r Ci) : K82 M p1 r Ct := ⟨h, ⟨(lz rfl), ⟨tv, tv, ⟨tv, dT _⟩, tv⟩, tv⟩, (forall_cons ⟨⟨tv, dE _⟩, (lz rfl), ⟨tv, dI _⟩, ⟨tv, dI _⟩, tv⟩ (forall_cons ⟨⟨tv, dE _⟩, ⟨tv, dC _⟩, tv⟩ forall_nil)), tv, (forall_cons ⟨dE _, (lz rfl), dI _, dI _, tv⟩ (forall_cons ⟨dE _, dC _, tv⟩ forall_nil))⟩
theorem c82 {qq M p1 r} (h : e82 qq M p1 = some r) : K82 M p1 r Ct := by
 unfold e82 at h
 obtain ⟨r1, h2, h⟩ := obind h
 obtain rfl := sj h
 exact k82 (tF q82 0 [0, 1] (oD (dC M.parts) <| oD (dE M.rl) <| oD (dI M.own) <| oD (dI M.args) <| oD (dE M.l) <| oC 4 [] (c108 h2) o0))
def e79 (qq : Nat) (M : Mach) (p1 : Tm) (fl fu : Int) : Option (Tm × Int × Int × Int) :=
 e82 qq M p1 >>= fun r1 =>
 if r1 then
 e157 qq M p1 fl fu >>= fun r4 =>
 if r4.2.1 != 0 then
 some ((Tm.mk 0 0 []), r4.2.1, r4.2.2.1, r4.2.2.2)
 else
 e84 qq r4.1 >>= fun r7 =>
 some (r7, 0, r4.2.2.1, r4.2.2.2)
 else
 some ((Tm.mk 0 0 []), 5, fl, fu)
abbrev K79 (M : Mach) (p1 : Tm) (fl fu : Int) (r : Tm × Int × Int × Int) (C : Cf) : Prop := C 79 [.cells [.sl (flat entL M.l) (List.length M.l) .no, .mp 1 0, .sl (flat intC M.args) (List.length M.args) .no, .sl (flat intC M.own) (List.length M.own) .no], .cells [.sl (flat entL M.rl) (List.length M.rl) .no, .sl (flat conL M.parts) (List.length M.parts) .no], .cells [ai fl, ai fu]] [.mp 0 0, tmA p1, .mp 2 0] (.tup [tmA r.1, ai r.2.1]) [.cells [.sl (flat entL M.l) (List.length M.l) .no, .mp 1 0, .sl (flat intC M.args) (List.length M.args) .no, .sl (flat intC M.own) (List.length M.own) .no], .cells [.sl (flat entL M.rl) (List.length M.rl) .no, .sl (flat conL M.parts) (List.length M.parts) .no], .cells [ai r.2.2.1, ai r.2.2.2]] 0
theorem q79 : Qf 79 Tryz.f79 := ⟨Tryz.func79, by kernel_rfl⟩
theorem k79 {M p1 fl fu r} (h : K79 M p1 fl fu r Ci) : K79 M p1 fl fu r Ct := ⟨h, ⟨(lz rfl), ⟨tv, tv, ⟨tv, dT _⟩, tv⟩, (lz rfl), tv⟩, (forall_cons ⟨⟨tv, dE _⟩, (lz rfl), ⟨tv, dI _⟩, ⟨tv, dI _⟩, tv⟩ (forall_cons ⟨⟨tv, dE _⟩, ⟨tv, dC _⟩, tv⟩ (forall_cons ⟨tv, tv, tv⟩ forall_nil))), ⟨⟨tv, tv, dT _, tv⟩, tv, tv⟩, (forall_cons ⟨dE _, (lz rfl), dI _, dI _, tv⟩ (forall_cons ⟨dE _, dC _, tv⟩ (forall_cons ⟨tv, tv, tv⟩ forall_nil)))⟩
theorem c79 {qq M p1 fl fu r} (h : e79 qq M p1 fl fu = some r) : K79 M p1 fl fu r Ct := by
 unfold e79 at h
 obtain ⟨r1, h2, h⟩ := obind h
 rcases spl h with ⟨h3, h⟩ | ⟨h3, h⟩
 obtain ⟨r4, h5, h⟩ := obind h
 have k := oC 2 [0, 1, 2] (c157 h5) <| oK 1 [0, 1] h3 (c82 h2) o0
 rcases spl h with ⟨h6, h⟩ | ⟨h6, h⟩
 obtain rfl := sj h
 exact k79 (tF q79 1 [0, 1, 2] (oD (dT ([] : List Tm)) <| oD (dC M.parts) <| oD (dE M.rl) <| oD (dI M.own) <| oD (dI M.args) <| oD (dE M.l) <| oB 3 h6 k))
 obtain ⟨r7, h8, h⟩ := obind h
 obtain rfl := sj h
 exact k79 (tF q79 1 [0, 1, 2] (oD (dT r7.sub) <| oD (dC M.parts) <| oD (dE M.rl) <| oD (dI M.own) <| oD (dI M.args) <| oD (dE M.l) <| oC 1 [] (c84 h8) <| oB 3 h6 k))
 obtain rfl := sj h
 exact k79 (tF q79 2 [0, 1, 2] (oD (dT ([] : List Tm)) <| oD (dC M.parts) <| oD (dE M.rl) <| oD (dI M.own) <| oD (dI M.args) <| oD (dE M.l) <| oK 1 [0, 1] h3 (c82 h2) o0))
theorem Br.shaped {l : List Ent} {x y : Tm} {e k : Int} (h : Br l x y e k) : shapedT x = true → e = 0 → shapedT y = true := by
  induction h with
  | stop _ => exact fun hs _ => hs
  | redE _ h => exact fun _ he => absurd he h
  | redL _ _ => exact fun _ he => absurd he (by decide)
  | red _ hY _ ih => exact fun _ he => ih hY he
  | tgtE _ _ h _ => exact fun _ he => absurd he h
  | tgtN _ _ _ _ => exact fun hs _ => hs
  | tgtRE _ _ _ h _ => exact fun _ he => absurd he h
  | tgtRL _ _ _ _ _ => exact fun _ he => absurd he (by decide)
  | tgtR _ _ _ hY _ _ ih => exact fun _ he => ih hY he
theorem out_fin {Q : (Int → Int → Tm × Bool × Int × Int × Int) → Int → Prop} (p Y : Tm) (f : Int) (hf : 0 ≤ f) (ho : Y.Ok) (hL : shapedT Y = false → Q (fun L U => (zT, true, 2, L, U)) 1) (hS : shapedT Y = true → Q (fun L U => (Y, true, 0, L, U)) 1) {S : Prop} (hsh : f < 1 → S) :
    Ou (fun L U q => (e163 q L U) >>= fun r28 => if (r28.1 != 0) = true then some (p, false, r28.1, r28.2.1, r28.2.2) else (e164 q Y) >>= fun r31 => some (r31.1, true, r31.2, r28.2.1, r28.2.2)) er5 Q S f := by
  refine Ou.bind (ou_step f hf) hsh (fun r hr => ⟨_, Evt.ifT (by show (r.1 != 0) = true; rw [show r.1 = 8 from hr]; decide) Evt.ret, hr⟩) ?_
  rintro R k k0 k1 ⟨rfl, rfl⟩
  dsimp only
  refine Ou.ifF rfl (Ou.evt (ev_wshaped Y ho) ?_)
  unfold wshT
  cases h : shapedT Y with
  | true => exact Ou.ret (by omega) (hS h)
  | false => exact Ou.ret (by omega) (hL h)
theorem out_tail (l : List Ent) (p : Tm) (f : Int) (hf : 0 ≤ f) {g : Int → Int → Nat → Option (Tm × Bool × Int × Int × Int)} (h : Ou g er5 (QF l p) (∃ a, actT l p = .tgt a ∧ ∀ z e k, Br l a z e k → f < k) f) :
    Ou (fun L U q => g L U q >>= fun r36 => if r36.2.1 = true then (if (r36.2.2.1 != 0) = true then some (p, false, r36.2.2.1, r36.2.2.2.1, r36.2.2.2.2) else
      (e163 q r36.2.2.2.1 r36.2.2.2.2) >>= fun r40 => if (r40.1 != 0) = true then some (p, false, r40.1, r40.2.1, r40.2.2) else (e164 q r36.1) >>= fun r43 => some (r43.1, true, r43.2, r40.2.1, r40.2.2))
      else (if (r36.2.2.1 != 0) = true then some (p, false, r36.2.2.1, r36.2.2.2.1, r36.2.2.2.2) else some (p, false, r36.2.2.1, r36.2.2.2.1, r36.2.2.2.2))) er5 (QO l p) (∀ Y d e k, On l p Y d e k → f < k) f := by
  refine Ou.bind h (fun ⟨a, ha, h⟩ Y d e k hO => hO.tgt_lt ha h) (fun r hr => ?_) ?_
  · have hr' : (r.2.2.1 != 0) = true := by rw [show r.2.2.1 = 8 from hr]; decide
    cases hd : r.2.1 with
    | true => exact ⟨_, Evt.ifT rfl (Evt.ifT hr' Evt.ret), hr⟩
    | false => exact ⟨_, Evt.ifF rfl (Evt.ifT hr' Evt.ret), hr⟩
  · rintro R k k0 k1 (⟨ha, rfl, Y, rfl⟩ | ⟨a, z, e, ha, hb, ⟨he, Y, rfl⟩ | ⟨rfl, ⟨hr, Y, rfl⟩ | ⟨Y, e', hY, hr, rfl⟩⟩⟩)
    · exact Ou.ifF rfl (Ou.ifF rfl (Ou.ret (by omega) ⟨p, false, 0, On.stop ha, rfl⟩))
    · dsimp only
      exact Ou.ifF rfl (Ou.ifT (by simpa using he) (Ou.ret (by omega) ⟨p, false, e, by rw [Int.add_zero]; exact On.tgtE ha hb he, rfl⟩))
    · exact Ou.ifF rfl (Ou.ifF rfl (Ou.ret (by omega) ⟨p, false, 0, by rw [Int.add_zero]; exact On.tgtN ha hb hr, rfl⟩))
    · dsimp only
      refine Ou.ifT rfl (Ou.ite (fun h => ?_) fun h => ?_)
      · exact Ou.ret (by omega) ⟨p, false, e', by rw [Int.add_zero]; exact On.tgtRE ha hb hr (by simpa using h), rfl⟩
      · have he : e' = 0 := by simpa using h
        subst he
        refine out_fin p Y (f - k) (by omega) hY (fun hs => ⟨_, _, _, On.tgtRL ha hb hr hs, rfl⟩) (fun hs => ⟨_, _, _, On.tgtR ha hb hr hs, rfl⟩) (fun h Y' d' e' k' hO => ?_)
        cases hsY : shapedT Y with
        | true => have := (On.tgtR ha hb hr hsY).det hO; omega
        | false => have := (On.tgtRL ha hb hr hsY).det hO; omega
theorem out_once {N : ByteArray → Bool} (l : List Ent) (hE : AllE N l) (he : ∀ e ∈ l, EOk e) (x : Tm) (hs : shapedT x = true) (f : Int) (hf : 0 ≤ f) (hb : ∀ a ∈ arT x, HB l a f) : Ou (fun L U q => e83 q (machT l) x L U) er5 (QO l x) (∀ Y d e k, On l x Y d e k → f < k) f := by
  have hB : ∀ a y k, shapedT a = true → Br l a y 0 k → shapedT y = true := fun a y k h1 h2 => h2.shaped h1 rfl
  have hh := hd_shaped hs
  have hg := (shapedT_spec hh).2.2
  have hn := good_n hg
  have ho : OkA (arT x) := fun y hy => shaped_ok (ar_shaped hs hy)
  have hl : (arT x).length ≤ 8192 := by
    have h := shapedT_spec hs
    have := ar_len _ h.2.2
    omega
  refine Ou.succ ?_
  simp only [e83, machT_l, machT_rl, machT_parts]
  refine Ou.evt (ev_Spine x hs) (Ou.ite (fun h4 => ?_) fun h4 => ?_)
  · have h4' : (hdT x).k = 4 := by simpa using h4
    have hkk : ∀ k : Int, k ≠ 0 → kindT l (hdT x) ≠ k := fun k hk e => by have := (kindT_spec e hk).1; omega
    refine Ou.ite (fun hlen => ?_) fun hlen => ?_
    · have hlen' : ((arT x).length : Int) > 0 := of_decide_eq_true hlen
      obtain ⟨a, b, hab, -, hgb⟩ := nth_sub2 hg (.inr (.inl h4'))
      have hm : nth (arT x) 0 ∈ arT x := nth_mem (by omega) (by omega)
      have hbo : (nth (hdT x).sub 1).Ok := by rw [hab]; exact good_ok b hgb
      have hact : actT l x = .red (apT (subT (nth (hdT x).sub 1) [nth (arT x) 0]).1 ((arT x).drop 1)) (subT (nth (hdT x).sub 1) [nth (arT x) 0]).2 := by
        unfold actT
        rw [if_pos ⟨h4', by omega⟩]
      refine Ou.pure (gidx_nth (by omega) (by rw [hab]; simp)) (Ou.pure (gidx_nth (by omega) (by show (0 : Int) < ((arT x).length : Int); omega)) (Ou.evt (ev_One _ _ hbo (ho _ hm)) (Ou.pure (gsl_from (by omega) (by show (1 : Int) ≤ ((arT x).length : Int); omega)) (Ou.evt (ev_Apply _ _ (by show (List.drop _ (arT x)).length < _; rw [List.length_drop]; omega)) ?_))))
      refine Ou.ite (fun h => Ou.ret hf ⟨_, _, _, On.redE hact (by simpa using h), rfl⟩) fun h => ?_
      have he0 : (subT (nth (hdT x).sub 1) [nth (arT x) 0]).2 = 0 := by simpa using h
      rw [he0] at hact
      exact out_fin x _ f hf (apT_ok _ _ (subT_ok _ _ hbo (OkA.one (ho _ hm))) (ho.drop _)) (fun hs => ⟨_, _, _, On.redL hact hs, rfl⟩) (fun hs => ⟨_, _, _, On.red hact hs, rfl⟩) (fun h Y' d' e' k' hO => by have := hO.red_lt hact rfl; omega)
    · have hlen' : ¬ ((arT x).length : Int) > 0 := of_decide_eq_false hlen
      have hact : actT l x = .none := by
        unfold actT
        rw [if_neg (fun h => by omega), if_neg (hkk 3 (by decide)), if_neg (hkk 4 (by decide)), if_neg (by omega)]
      refine Ou.evt (ev_wkind l _ hn) (Ou.ifF (by simpa using hkk 3 (by decide)) ?_)
      refine Ou.evt (ev_wkind l _ hn) (Ou.ifF (by simpa using hkk 4 (by decide)) ?_)
      exact Ou.ifF (by show ((hdT x).k == 7) = false; rw [h4']; decide) (Ou.ret hf ⟨_, _, _, On.stop hact, rfl⟩)
  · have h4' : (hdT x).k ≠ 4 := by simpa using h4
    refine Ou.evt (ev_wkind l _ hn) (Ou.ite (fun h => ?_) fun h => ?_)
    · have h3 : kindT l (hdT x) = 3 := by simpa using h
      have hk := kindT_spec h3 (by decide)
      have hact : actT l x = .red (apT (ent l (hdT x).n).body (arT x)) 0 := by
        unfold actT
        rw [if_neg (fun h => h4' h.1), if_pos h3]
      refine Ou.pure (gidx_ent hn hk.2.1) (Ou.evt (ev_Apply _ _ (by show (arT x).length < _; omega)) ?_)
      exact out_fin x _ f hf (apT_ok _ _ (he _ (ent_mem hn hk.2.1)).2.1 ho) (fun hs => ⟨_, _, _, On.redL hact hs, rfl⟩) (fun hs => ⟨_, _, _, On.red hact hs, rfl⟩) (fun h Y' d' e' k' hO => by have := hO.red_lt hact rfl; omega)
    · have h3 : kindT l (hdT x) ≠ 3 := by simpa using h
      refine Ou.evt (ev_wkind l _ hn) (Ou.ite (fun h => ?_) fun h => ?_)
      · exact out_tail l x f hf (out_field l hE x hs f hf h4' (by simpa using h) hb hB)
      · have h4k : kindT l (hdT x) ≠ 4 := by simpa using h
        refine Ou.ite (fun h => out_tail l x f hf (out_elim l hE x hs f hf (by simpa using h) hb hB)) fun h => ?_
        have h7 : (hdT x).k ≠ 7 := by simpa using h
        have hact : actT l x = .none := by
          unfold actT
          rw [if_neg (fun h => h4' h.1), if_neg h3, if_neg h4k, if_neg h7]
        exact Ou.ret hf ⟨_, _, _, On.stop hact, rfl⟩
theorem out_bring {N : ByteArray → Bool} (l : List Ent) (hE : AllE N l) (he : ∀ e ∈ l, EOk e) : ∀ (F n : Nat) (x : Tm), shapedT x = true → x.nodes ≤ n → Ou (fun L U q => e157L60545 q (machT l) L U x.k x.n x.sub) er4 (fun R k => ∃ y e, Br l x y e k ∧ R = fun L U => (y, e, L, U)) (∀ y e k, Br l x y e k → (F : Int) < k) (F : Int) := by
  intro F
  induction F using Nat.strongRecOn with
  | ind F IH =>
    intro n
    induction n with
    | zero => intro x _ h; have := nodes_pos x; omega
    | succ n ih =>
      intro x hs hn
      have hg := (shapedT_spec hs).2.2
      have hb : ∀ a ∈ arT x, HB l a F := fun a ha => by
        have := ((hd_spec x hg).2.2.2.2 a ha).2.1
        refine Ou.succ ?_
        simp only [e157]
        exact ih a (ar_shaped hs ha) (by omega)
      refine Ou.succ ?_
      simp only [e157L60545, tm_eta]
      refine Ou.bind (out_once l hE he x hs F (by omega) hb) (fun h y e k hbr => by obtain ⟨Y, d, e1, k1, h1, h2⟩ := hbr.first; have := h _ _ _ _ h1; omega) (fun r hr => ?_) ?_
      · have hr' : (r.2.2.1 != 0) = true := by rw [show r.2.2.1 = 8 from hr]; decide
        cases hd : r.2.1 with
        | true => exact ⟨_, Evt.ifT rfl (Evt.ifT hr' Evt.ret), hr⟩
        | false => exact ⟨_, Evt.ifF rfl (Evt.ifT hr' Evt.ret), hr⟩
      · rintro R k k0 k1 ⟨Y, d, e, hO, rfl⟩
        dsimp only
        by_cases e0 : e = 0
        · subst e0
          cases d with
          | true =>
            obtain ⟨hY, hk1, hst⟩ := hO.step
            refine Ou.ifT rfl (Ou.ifF rfl ?_)
            have := IH ((F : Int) - k).toNat (by omega) Y.nodes Y hY (Nat.le_refl _)
            rw [show ((((F : Int) - k).toNat : Nat) : Int) = F - k by omega] at this
            refine this.mono ?_ fun h y e k' hbr => ?_
            · rintro R n _ _ ⟨y, e, hbr, rfl⟩
              exact ⟨y, e, hst y e n hbr, rfl⟩
            · obtain ⟨k2, h2, h3⟩ := hbr.after hO
              have := h _ _ _ h2
              omega
          | false =>
            obtain ⟨rfl, hbr⟩ := hO.still
            exact Ou.ifF rfl (Ou.ifF rfl (Ou.ret (by omega) ⟨Y, 0, by rwa [Int.add_zero], rfl⟩))
        · have hb := hO.err e0
          have hr' : (e != 0) = true := by simpa using e0
          cases d with
          | true => exact Ou.ifT rfl (Ou.ifT hr' (Ou.ret (by omega) ⟨zT, e, by rwa [Int.add_zero], rfl⟩))
          | false => exact Ou.ifF rfl (Ou.ifT hr' (Ou.ret (by omega) ⟨zT, e, by rwa [Int.add_zero], rfl⟩))
theorem hb_all {N : ByteArray → Bool} (l : List Ent) (hE : AllE N l) (he : ∀ e ∈ l, EOk e) (x : Tm) (hs : shapedT x = true) (f : Int) (hf : 0 ≤ f) : HB l x f := by
  refine Ou.succ ?_
  simp only [e157]
  have := out_bring l hE he f.toNat x.nodes x hs (Nat.le_refl _)
  rwa [show ((f.toNat : Nat) : Int) = f by omega] at this
def RightM (l : List Ent) (x : Tm) : Prop := rightT x 1048577 l.length = true
instance (l : List Ent) (x : Tm) : Decidable (RightM l x) := inferInstanceAs (Decidable (_ = true))
theorem RightM.shaped {l : List Ent} {x : Tm} (h : RightM l x) : shapedT x = true := by
  unfold RightM rightT at h
  simp only [Bool.and_eq_true] at h
  exact h.1.1
def QBR (l : List Ent) (x : Tm) (R : Int → Int → Tm × Int × Int × Int) (k : Int) : Prop :=
  (¬ RightM l x ∧ k = 0 ∧ R = fun L U => (zT, 5, L, U)) ∨ (RightM l x ∧ ∃ y e, Br l x y e k ∧ R = fun L U => (if e = 0 then y else zT, e, L, U))
theorem out_Bring {N : ByteArray → Bool} (l : List Ent) (hE : AllE N l) (he : ∀ e ∈ l, EOk e) (x : Tm) (ho : x.Ok) (f : Int) (hf : 0 ≤ f) : Ou (fun L U q => e79 q (machT l) x L U) er4 (QBR l x) (RightM l x ∧ ∀ y e k, Br l x y e k → f < k) f := by
  simp only [e79, e82, machT_l]
  refine Ou.evt (a := rightT x 1048577 l.length) ((ev_Right x _ _ ho).bind Evt.ret) (Ou.ite (fun h => ?_) fun h => ?_)
  · have hR : RightM l x := h
    refine Ou.bind (hb_all l hE he x hR.shaped f hf) (fun h => ⟨hR, h⟩) (fun r hr => ⟨_, Evt.ifT (by show (r.2.1 != 0) = true; rw [show r.2.1 = 8 from hr]; decide) Evt.ret, hr⟩) ?_
    rintro R k k0 k1 ⟨y, e, hbr, rfl⟩
    dsimp only
    by_cases e0 : e = 0
    · subst e0
      have hy := hbr.shaped hR.shaped rfl
      refine Ou.ifF rfl (Ou.evt (a := y) ((ev_Copy y (shaped_ok hy)).eq (by unfold copT; rw [if_pos hy])) (Ou.ret (by omega) (.inr ⟨hR, y, 0, by rwa [Int.add_zero], rfl⟩)))
    · refine Ou.ifT (by simpa using e0) (Ou.ret (by omega) (.inr ⟨hR, y, e, by rwa [Int.add_zero], ?_⟩))
      rw [if_neg e0]; rfl
  · exact Ou.ret hf (.inl ⟨by unfold RightM; rw [h]; simp, rfl, rfl⟩)
structure Inv (l : List Ent) (I : Tm → Prop) : Prop where
  spine : ∀ t, goodT t = true → I t → I (hdT t) ∧ ∀ a ∈ arT t, I a
  ap : ∀ f as0, I f → (∀ a ∈ as0, I a) → I (apT f as0)
  beta : ∀ (n : Int) (a b x : Tm), I (.mk 4 n [a, b]) → I x → I (siT [x] b 0)
  body : ∀ i : Int, 0 ≤ i → i < l.length → (ent l i).kind = 3 → I (ent l i).body
  step : ∀ (d : Int) (s : Tm) (lev c : Int) (args own : List Tm), I (.mk 7 d [s]) → isT l c 2 = true → (ent l c).fam = d → (args.length : Int) = (ent l d).pars + 1 + (ent l d).cons.length → own.length = (partsT l c).args.length → (∀ a ∈ args, I a) → (∀ a ∈ own, I a) → I (stepI l d lev c args own)
theorem act_inv {l : List Ent} {I : Tm → Prop} (hI : Inv l I) {x Y : Tm} (hs : shapedT x = true) (hx : I x) (h : actT l x = .red Y 0) : I Y := by
  have hsp := hI.spine x (shapedT_spec hs).2.2 hx
  have hg := (shapedT_spec (hd_shaped hs)).2.2
  unfold actT at h
  by_cases h1 : (hdT x).k = 4 ∧ 0 < (arT x).length
  · rw [if_pos h1] at h
    have hm : nth (arT x) 0 ∈ arT x := nth_mem (by omega) (by omega)
    obtain ⟨a, b, hab, -, -⟩ := nth_sub2 hg (.inr (.inl h1.1))
    have hhd : hdT x = .mk 4 (hdT x).n [a, b] := by rw [← h1.1, ← hab, tm_eta]
    injection h with hY he
    rw [(subT_id he).2.2.2] at hY
    rw [← hY]
    refine hI.ap _ _ ?_ fun y hy => hsp.2 y (List.mem_of_mem_drop hy)
    have hb : nth (hdT x).sub 1 = b := by rw [hab]; rfl
    rw [hb]
    exact hI.beta (hdT x).n a b _ (by rw [← hhd]; exact hsp.1) (hsp.2 _ hm)
  · rw [if_neg h1] at h
    by_cases h2 : kindT l (hdT x) = 3
    · rw [if_pos h2] at h
      injection h with hY he
      rw [← hY]
      have hk := kindT_spec h2 (by decide)
      exact hI.ap _ _ (hI.body _ (good_n hg) hk.2.1 hk.2.2) hsp.2
    · rw [if_neg h2] at h
      split at h
      · split at h <;> cases h
      · split at h
        · split at h <;> cases h
        · cases h
theorem act_tgt {N : ByteArray → Bool} {l : List Ent} (hE : AllE N l) {x a : Tm} (hs : shapedT x = true) (h : actT l x = .tgt a) : a ∈ arT x ∧ (kindT l (hdT x) = 4 ∨ ((hdT x).k = 7 ∧ isT l (hdT x).n 1 = true ∧ argsT (ent l (hdT x).n) ≤ (arT x).length)) := by
  have hn := good_n (shapedT_spec (hd_shaped hs)).2.2
  unfold actT at h
  by_cases h1 : (hdT x).k = 4 ∧ 0 < (arT x).length
  · rw [if_pos h1] at h; cases h
  · rw [if_neg h1] at h
    by_cases h2 : kindT l (hdT x) = 3
    · rw [if_pos h2] at h; cases h
    · rw [if_neg h2] at h
      by_cases h3 : kindT l (hdT x) = 4
      · rw [if_pos h3] at h
        split at h
        · cases h
        · injection h with h
          have hk := kindT_spec h3 (by decide)
          have hp := (entryT_spec (hE.2 _ hn hk.2.1)).2.2.2.1 hk.2.2
          unfold projT at hp
          simp only [Bool.and_eq_true] at hp
          have hw := ownedT_spec hp.1
          have hfam := familyT_spec ((entryT_spec (hE.2 _ hw.1 (by omega))).2.1 hw.2.2.1)
          rw [← h]
          exact ⟨nth_mem (by omega) (by omega), .inl h3⟩
      · rw [if_neg h3] at h
        by_cases h4 : (hdT x).k = 7
        · rw [if_pos h4] at h
          split at h
          · rename_i h5
            injection h with h
            have hi := isT_spec h5.1
            have hfam := familyT_spec ((entryT_spec (hE.2 _ hi.1 hi.2.1)).2.1 hi.2.2)
            have h6 := h5.2
            unfold argsT at h6 h
            rw [if_pos hi.2.2] at h6 h
            rw [← h]
            exact ⟨nth_mem (by omega) (by omega), .inr ⟨h4, h5⟩⟩
          · cases h
        · rw [if_neg h4] at h; cases h
theorem react_inv {N : ByteArray → Bool} {l : List Ent} {I : Tm → Prop} (hE : AllE N l) (hI : Inv l I) {x y Y a : Tm} (hs : shapedT x = true) (hsy : shapedT y = true) (hx : I x) (hy : I y) (ha : actT l x = .tgt a) (h : reactT l x y = some (Y, 0)) : I Y := by
  have hsp := hI.spine x (shapedT_spec hs).2.2 hx
  have hsy2 := hI.spine y (shapedT_spec hsy).2.2 hy
  have hg := (shapedT_spec (hd_shaped hs)).2.2
  have hox : OkA (arT x) := fun z hz => shaped_ok (ar_shaped hs hz)
  have hoy : OkA (arT y) := fun z hz => shaped_ok (ar_shaped hsy hz)
  have hlx : (arT x).length ≤ 8192 := by
    have h := shapedT_spec hs
    have := ar_len _ h.2.2
    omega
  have hly : (arT y).length ≤ 8192 := by
    have h := shapedT_spec hsy
    have := ar_len _ h.2.2
    omega
  have hca := (act_tgt hE hs ha).2
  unfold reactT at h
  by_cases h4 : kindT l (hdT x) = 4
  · rw [if_pos h4] at h
    split at h
    · simp only [Option.some.injEq, Prod.mk.injEq] at h
      have hX := (fieldX_spec l (hdT x).n ((arT y).drop (ent l (hdT y).n).pars.toNat) hE (hoy.drop _) (by rw [List.length_drop]; omega)).2.2.2 h.2
      rw [← h.1]
      refine hI.ap _ _ ?_ fun z hz => hsp.2 z (List.mem_of_mem_drop hz)
      rw [hX.2.2.2]
      exact hsy2.2 _ (List.mem_of_mem_drop (nth_mem hX.2.1 hX.2.2.1))
    · cases h
  · rw [if_neg h4] at h
    obtain ⟨h7, -, -⟩ := hca.resolve_left h4
    split at h
    · simp only [Option.some.injEq, Prod.mk.injEq] at h
      have hX := (stepX_spec l (hdT x).n (nth (hdT x).sub 0).n (hdT y).n ((arT x).take ((ent l (hdT x).n).pars + 1 + (ent l (hdT x).n).cons.length).toNat) ((arT y).drop (ent l (hdT x).n).pars.toNat) hE (hox.take _) (hoy.drop _) (by rw [List.length_take]; omega) (by rw [List.length_drop]; omega)).2.2.2 h.2
      rw [← h.1]
      refine hI.ap _ _ ?_ fun z hz => hsp.2 z (List.mem_of_mem_drop hz)
      obtain ⟨-, -, b1, b2, b3, b4, -, -, b5, -⟩ := hX
      rw [b5]
      obtain ⟨s, hsb⟩ : ∃ s, (hdT x).sub = [s] := by
        revert hg h7
        generalize hdT x = w
        intro hg h7
        obtain ⟨kk, nn, ss⟩ := w
        obtain ⟨s, hs, -⟩ := (head_spec (goodT_mk hg).1).2.2.2.2.2.2.1 h7
        exact ⟨s, hs⟩
      have hhd : hdT x = .mk 7 (hdT x).n [s] := by rw [← h7, ← hsb, tm_eta]
      exact hI.step _ s _ _ _ _ (by rw [← hhd]; exact hsp.1) b1 b2 b3 b4 (fun z hz => hsp.2 z (List.mem_of_mem_take hz)) (fun z hz => hsy2.2 z (List.mem_of_mem_drop hz))
    · cases h
theorem Br.inv {N : ByteArray → Bool} {l : List Ent} {I : Tm → Prop} (hE : AllE N l) (hI : Inv l I) {x y : Tm} {e k : Int} (h : Br l x y e k) : shapedT x = true → e = 0 → I x → I y := by
  induction h with
  | stop _ => exact fun _ _ hx => hx
  | redE _ h => exact fun _ he => absurd he h
  | redL _ _ => exact fun _ he => absurd he (by decide)
  | red a hY _ ih => exact fun hs he hx => ih hY he (act_inv hI hs hx a)
  | tgtE _ _ h _ => exact fun _ he => absurd he h
  | tgtN _ _ _ _ => exact fun _ _ hx => hx
  | tgtRE _ _ _ h _ => exact fun _ he => absurd he h
  | tgtRL _ _ _ _ _ => exact fun _ he => absurd he (by decide)
  | tgtR a b c hY _ ih ih2 =>
    intro hs he hx
    have hm := (act_tgt hE hs a).1
    have hsa := ar_shaped hs hm
    exact ih2 hY he (react_inv hE hI hs (b.shaped hsa rfl) hx (ih hsa rfl ((hI.spine _ (shapedT_spec hs).2.2 hx).2 _ hm)) a c)
theorem inv_nodes {N : ByteArray → Bool} {l : List Ent} (hE : AllE N l) {P : Int → Int → Prop} (hP : ∀ k n : Int, k ≠ 8 → (k = 6 ∨ k = 7 → n < l.length) → P k n) : Inv l (AllN P) where
  spine := fun t hg h => allN_spine t hg h
  ap := fun f as0 hf ha => allN_ap as0 f (hP 5 0 (by decide) (by omega)) hf ha
  beta := fun n a b x h hx => by
    rw [AllN, AllNL, AllNL, AllNL] at h
    exact allN_si [x] (fun y hy => by rw [List.mem_singleton.1 hy]; exact hx) b 0 h.2.2.1
  body := fun i h0 h1 hk => by
    have hd := (entryT_spec (hE.2 i h0 h1)).2.2.2.2.1 hk
    unfold defT at hd
    simp only [Bool.and_eq_true] at hd
    exact allN_mono (fun k n h => hP k n h.2 fun h' => by have := h.1 h'; omega) (closed_nodes hd.1)
  step := fun d s lev c args own h7 hc hf ha ho h1 h2 => by
    have hi := isT_spec hc
    obtain ⟨A, y, hw, -⟩ := con_facts hE hi.1 hi.2.1 hi.2.2
    rw [AllN] at h7
    refine allN_step (hP 4 0 (by decide) (by omega)) (hP 5 0 (by decide) (by omega)) (hP 0 0 (by decide) (by omega)) (hP 2 _ (by decide) (by omega)) (h7.1.resolve_left (by decide)) h1 h2 ?_
    exact allN_parts (by rw [hw]) (allN_mono (fun k n h => hP k n h.2 fun h' => by have := h.1 h'; omega) (closed_nodes (entryT_spec (hE.2 _ hi.1 hi.2.1)).1))
theorem inv_lv {N : ByteArray → Bool} {l : List Ent} (hE : AllE N l) (V : Int → Prop) : Inv l (fun t => ∀ j ∈ lvT t 0, V j) where
  spine := fun t hg h => ⟨fun j hj => h j ((lv_spine t hg 0 j).1 hj), fun a ha j hj => h j ((lv_spine t hg 0 j).2 a ha hj)⟩
  ap := fun f as0 hf ha j hj => by
    rcases (lv_ap as0 f 0 j).1 hj with h | ⟨a, h1, h2⟩
    · exact hf j h
    · exact ha a h1 j h2
  beta := fun n a b x h hx j hj => by
    obtain ⟨i, hi, h1 | ⟨h1, h2⟩⟩ := lv_si [x] b 0 j (Int.le_refl 0) hj
    · refine h j (lv_lam.2 (.inr ?_))
      simp only [List.length_cons, List.length_nil] at h1
      have := (lv_shift b 0 1 j (by omega)).2 ⟨by omega, by rwa [show j + 1 = i by omega]⟩
      exact this
    · simp only [List.length_cons, List.length_nil] at h1
      refine hx j ?_
      have e : i.toNat = 0 := by omega
      simpa [e] using h2
  body := fun i h0 h1 hk j hj => by
    have hd := (entryT_spec (hE.2 i h0 h1)).2.2.2.2.1 hk
    unfold defT at hd
    simp only [Bool.and_eq_true] at hd
    exact absurd hj (closed_lv hd.1 0 j (Int.le_refl 0))
  step := fun d s lev c args own h7 hc hf ha ho h1 h2 j hj => by
    rcases lv_step hE hc hf ha ho hj with ⟨a, h3, h4⟩ | ⟨a, h3, h4⟩
    · exact h1 a h3 j h4
    · exact h2 a h3 j h4
def e77L26398 : Nat → (List Tm) → Int → Option (Int)
 | 0, _, _ => none
 | qq + 1, v3, v4 =>
 if decide ((List.length v3 : Int) > 0) then
 if decide (v4 ≤ 8192) then
 gidx v3 (w64 ((List.length v3 : Int) - 1)) >>= fun x3 =>
 gsl v3 0 (w64 ((List.length v3 : Int) - 1)) >>= fun x5 =>
 gapp 40 ([] : List Tm) x5 >>= fun l7 =>
 gsl x3.sub 0 (imin (List.length x3.sub : Int) 8193) >>= fun x10 =>
 gapp 40 l7 x10 >>= fun l12 =>
 e77L26398 qq l12 (w64 (v4 + 1))
 else
 some v4
 else
 some v4
def e77 (qq : Nat) (p0 : Tm) : Option (Int) :=
 e77L26398 qq [p0] 0
def g77L26398E0 (j : Nat → Value) (v3 : List Tm) (v4 : Int) := sp j 39 0 [(3, .sl (flat tmCells v3) (List.length v3) .full), (4, ai v4)]
def g77L26398S0 (v3 : List Tm) (v4 : Int) : LSt := ⟨[], 0, [], 0, []⟩
def g77L26398E1 (j : Nat → Value) (v3 : List Tm) (v4 : Int) := sp j 39 0 [(3, .sl (flat tmCells v3) (List.length v3) (.st 0 3)), (4, ai v4)]
def g77L26398S1 (v3 : List Tm) (v4 : Int) : LSt := ⟨[], 0, [0], 1, []⟩
abbrev K77 (p0 : Tm) (r : Int) (C : Cf) : Prop := C 77 [] [tmA p0] (ai r) [] 0
theorem q77 : Qf 77 Tryz.f77 := ⟨Tryz.func77, by kernel_rfl⟩
theorem k77 {p0 r} (h : K77 p0 r Ci) : K77 p0 r Ct := ⟨h, ⟨⟨tv, tv, ⟨tv, dT _⟩, tv⟩, tv⟩, forall_nil, tv, forall_nil⟩
theorem l77L26398 : ∀ qq : Nat, (∀ v3 v4 r, e77L26398 qq v3 v4 = some r → (∀ j, Dl Tryz.prog 0 (inn (inn (lft (rgt (rgt (rgt (bod Tryz.f77))))))) (g77L26398E0 j v3 v4) (g77L26398S0 v3 v4) (frameQ Tryz.prog 0 (FinQ Tryz.prog 0 Tryz.f77 (ai r) [] 0) [.blk 0, .seq (rgt (rgt (rgt (rgt (bod Tryz.f77)))))])) ∧ (∀ j, Dl Tryz.prog 0 (inn (inn (lft (rgt (rgt (rgt (bod Tryz.f77))))))) (g77L26398E1 j v3 v4) (g77L26398S1 v3 v4) (frameQ Tryz.prog 0 (FinQ Tryz.prog 0 Tryz.f77 (ai r) [] 0) [.blk 0, .seq (rgt (rgt (rgt (rgt (bod Tryz.f77)))))]))) := by
 intro qq
 induction qq with
 | zero =>
  exact fun _ _ _ h => nn h
 | succ qq ih =>
  intro v3 v4 r h
  rw [e77L26398] at h
  refine ⟨?_, ?_⟩
  rcases spl h with ⟨h1, h⟩ | ⟨h1, h⟩
  have k := oB 1 h1 o0
  rcases spl h with ⟨h2, h⟩ | ⟨h2, h⟩
  obtain ⟨x3, h4, h⟩ := obind h
  obtain ⟨x5, h6, h⟩ := obind h
  obtain ⟨l7, h8, h⟩ := obind h
  have k := oF 5 (slToO23 (o := .full) h6) <| oA 2 (ix23 (o := .full) h4) <| oB 0 h2 k
  by_cases h9 : List.length x5 = 0
  obtain ⟨x10, h11, h⟩ := obind h
  obtain ⟨l12, h13, h⟩ := obind h
  have k := oA 4 (slTo23 h11) <| oP 0 (apN23 h8 h9) k
  by_cases h14 : List.length x10 = 0
  exact fun j => lH 1 [] [] [] [3, 4] (oD (dT l12) <| oP 0 (apN23 h13 h14) k) ((ih _ _ _ h).1)
  exact fun j => lH 1 [] [] [0] [3, 4] (oD (dT l12) <| oP 0 (apS23 h13 h14) k) ((ih _ _ _ h).2)
  obtain ⟨x10, h11, h⟩ := obind h
  obtain ⟨l12, h13, h⟩ := obind h
  have k := oA 4 (slTo23 h11) <| oP 0 (apS23 h8 h9) k
  by_cases h14 : List.length x10 = 0
  exact fun j => lH 1 [] [] [0] [3, 4] (oD (dT l12) <| oP 0 (apN23 h13 h14) k) ((ih _ _ _ h).2)
  exact fun j => lH 1 [] [] [1] [3, 4] (oD (dT l12) <| oP 0 (apS23 h13 h14) k) ((ih _ _ _ h).2)
  obtain rfl := sj h
  exact fun j => lF 0 [] (oB 0 h2 k)
  obtain rfl := sj h
  exact fun j => lF 0 [] (oB 1 h1 o0)
  rcases spl h with ⟨h1, h⟩ | ⟨h1, h⟩
  have k := oB 1 h1 o0
  rcases spl h with ⟨h2, h⟩ | ⟨h2, h⟩
  obtain ⟨x3, h4, h⟩ := obind h
  obtain ⟨x5, h6, h⟩ := obind h
  obtain ⟨l7, h8, h⟩ := obind h
  have k := oF 5 (slToO23 (o := (.st 0 3)) h6) <| oA 2 (ix23 (o := (.st 0 3)) h4) <| oB 0 h2 k
  by_cases h9 : List.length x5 = 0
  obtain ⟨x10, h11, h⟩ := obind h
  obtain ⟨l12, h13, h⟩ := obind h
  have k := oA 4 (slTo23 h11) <| oP 0 (apN23 h8 h9) k
  by_cases h14 : List.length x10 = 0
  exact fun j => lH 1 [] [] [] [3, 4] (oD (dT l12) <| oP 0 (apN23 h13 h14) k) ((ih _ _ _ h).1)
  exact fun j => lH 1 [] [] [1] [3, 4] (oD (dT l12) <| oP 0 (apS23 h13 h14) k) ((ih _ _ _ h).2)
  obtain ⟨x10, h11, h⟩ := obind h
  obtain ⟨l12, h13, h⟩ := obind h
  have k := oA 4 (slTo23 h11) <| oP 0 (apS23 h8 h9) k
  by_cases h14 : List.length x10 = 0
  exact fun j => lH 1 [] [] [1] [3, 4] (oD (dT l12) <| oP 0 (apN23 h13 h14) k) ((ih _ _ _ h).2)
  exact fun j => lH 1 [] [] [2] [3, 4] (oD (dT l12) <| oP 0 (apS23 h13 h14) k) ((ih _ _ _ h).2)
  obtain rfl := sj h
  exact fun j => lF 0 [] (oB 0 h2 k)
  obtain rfl := sj h
  exact fun j => lF 0 [] (oB 1 h1 o0)
theorem c77 {qq p0 r} (h : e77 qq p0 = some r) : K77 p0 r Ct := by
 unfold e77 at h
 exact k77 (tH q77 0 [] [] [] [3, 4] (oD (dT [p0]) <| oS 1 (obLitR tm_eq [p0]) o0) ((l77L26398 _ _ _ _ h).1))
theorem nodesL_app : ∀ a b : List Tm, nodesL (a ++ b) = nodesL a + nodesL b
  | [], b => by simp [nodesL]
  | t :: a, b => by simp only [List.cons_append, nodesL, nodesL_app a b]; omega
theorem nodesL_len : ∀ l : List Tm, l.length ≤ nodesL l
  | [] => by simp [nodesL]
  | t :: l => by rw [nodesL]; have := nodesL_len l; have := nodes_pos t; simp; omega
theorem nodes_sub (t : Tm) : t.nodes = 1 + nodesL t.sub := by cases t; rw [Tm.nodes, Tm.sub]
theorem gsl_ok {α : Type} {l : List α} {a b : Nat} (h1 : a ≤ b) (h2 : b ≤ l.length) : gsl l (a : Int) (b : Int) = some ((l.drop a).take (b - a)) := by
  unfold gsl
  rw [if_pos (by omega), show ((b : Int) - (a : Int)).toNat = b - a by omega, show (a : Int).toNat = a by omega]
theorem gidx_last {α : Type} (l : List α) (x : α) : gidx (l ++ [x]) (l.length : Int) = some x := by
  unfold gidx
  rw [if_pos (by omega)]; simp
theorem ev_rSizeL : ∀ (m h : Nat) (todo : List Tm), h + m = 8193 → todo.length ≤ 1 + h * 8193 → Evt (fun q => e77L26398 q todo (h : Int)) ((min (h + nodesL todo) 8193 : Nat) : Int) := by
  intro m
  induction m with
  | zero =>
    intro h todo hm hl
    refine Evt.succ ?_
    simp only [e77L26398]
    have : h = 8193 := by omega
    subst this
    rcases todo with _ | ⟨x, todo⟩
    · exact Evt.ifF (by simp) (Evt.ret.eq (by simp))
    · refine Evt.ifT (by simp <;> omega) (Evt.ifF (by simp) (Evt.ret.eq ?_))
      have : min (8193 + nodesL (x :: todo)) 8193 = 8193 := by omega
      rw [this]
  | succ m ih =>
    intro h todo hm hl
    refine Evt.succ ?_
    simp only [e77L26398]
    rcases List.eq_nil_or_concat todo with rfl | ⟨ini, x, rfl⟩
    · refine Evt.ifF (by simp) (Evt.ret.eq ?_)
      have : min (h + nodesL []) 8193 = h := by rw [nodesL]; omega
      rw [this]
    · simp only [List.concat_eq_append] at hl ⊢
      have hlen : (ini ++ [x]).length = ini.length + 1 := by simp
      have hb : h * 8193 ≤ 8192 * 8193 := Nat.mul_le_mul_right _ (by omega)
      have e1 : w64 (((ini ++ [x]).length : Int) - 1) = (ini.length : Int) := by rw [w64_id (by omega) (by omega), hlen]; omega
      refine Evt.ifT (by simp <;> omega) (Evt.ifT (by simp <;> omega) ?_)
      rw [e1]
      refine Evt.pure (gidx_last ini x) ?_
      have e2 : gsl (ini ++ [x]) 0 (ini.length : Int) = some ini := by
        have := gsl_ok (l := ini ++ [x]) (a := 0) (b := ini.length) (by omega) (by omega)
        simpa using this
      refine Evt.pure e2 (Evt.pure (gapp_ok (by simp <;> omega)) ?_)
      have e3 : imin (x.sub.length : Int) 8193 = ((min x.sub.length 8193 : Nat) : Int) := by unfold imin; split <;> omega
      rw [e3]
      have e4 := gsl_ok (l := x.sub) (a := 0) (b := min x.sub.length 8193) (by omega) (by omega)
      refine Evt.pure (by simpa using e4) (Evt.pure (gapp_ok (by simp <;> omega)) ?_)
      rw [w64_nat h (by omega)]
      refine (ih (h + 1) _ (by omega) (by simp <;> omega)).eq ?_
      have hn := nodes_sub x
      simp only [List.nil_append, nodesL_app, nodesL, Nat.add_zero]
      by_cases hs : x.sub.length ≤ 8193
      · rw [show min x.sub.length 8193 = x.sub.length by omega, List.take_length]
        omega
      · have h1 := nodesL_len (x.sub.take (min x.sub.length 8193))
        have h2 := nodesL_len x.sub
        simp only [List.length_take] at h1
        omega
theorem ev_rSize (t : Tm) : Evt (fun q => e77 q t) ((min t.nodes 8193 : Nat) : Int) := by
  simp only [e77]
  refine (ev_rSizeL 8193 0 [t] (by omega) (by simp)).eq ?_
  simp [nodesL]
def e114va35861 (qq : Nat) (q0 q1 : Int) : Option (Int) :=
 some q1
abbrev K114va35861 (q0 q1 r : Int) (C : Cf) : Prop := C 114 [.cells [ai q0, ai q1]] [.mp 0 1] (ai r) [.cells [ai q0, ai q1]] 0
theorem q114va35861 : Qf 114 Tryz.f114 := ⟨Tryz.func114, by kernel_rfl⟩
theorem k114va35861 {q0 q1 r} (h : K114va35861 q0 q1 r Ci) : K114va35861 q0 q1 r Ct := ⟨h, ⟨(lz rfl), tv⟩, (forall_cons ⟨tv, tv, tv⟩ forall_nil), tv, (forall_cons ⟨tv, tv, tv⟩ forall_nil)⟩
theorem c114va35861 {qq q0 q1 r} (h : e114va35861 qq q0 q1 = some r) : K114va35861 q0 q1 r Ct := by
 unfold e114va35861 at h
 obtain rfl := sj h
 exact k114va35861 (tF q114va35861 1 [0] (o0))
mutual
def e25 : Nat → Tm → Tm → Option (Bool)
 | 0, _, _ => none
 | qq + 1, p0, p1 =>
 if p0.k != p1.k then
 some false
 else
 if p0.n != p1.n then
 some false
 else
 if (List.length p0.sub : Int) != (List.length p1.sub : Int) then
 some false
 else
 e25L12 qq p0 p1 0
def e25L12 : Nat → Tm → Tm → Int → Option (Bool)
 | 0, _, _, _ => none
 | qq + 1, p0, p1, v5 =>
 if decide (v5 < (List.length p0.sub : Int)) then
 gidx p0.sub v5 >>= fun x5 =>
 gidx p1.sub v5 >>= fun x7 =>
 e25 qq x5 x7 >>= fun r9 =>
 if r9 then
 e25L12 qq p0 p1 (w64 (v5 + 1))
 else
 some false
 else
 some true
end
def g25L12E0 (j : Nat → Value) (p0 p1 : Tm) (v5 : Int) := sp j 46 0 [(2, .mp 0 0), (3, .mp 1 0), (5, ai v5)]
def g25L12S0 (p0 p1 : Tm) (v5 : Int) : LSt := ⟨[(0, .cells [ai p0.k, ai p0.n, .sl (flat tmCells p0.sub) (List.length p0.sub) .no]), (1, .cells [ai p1.k, ai p1.n, .sl (flat tmCells p1.sub) (List.length p1.sub) .no])], 2, [], 0, []⟩
abbrev K25 (p0 p1 : Tm) (r : Bool) (C : Cf) : Prop := C 25 [] [tmA p0, tmA p1] (ab r) [] 0
theorem q25 : Qf 25 Tryz.f25 := ⟨Tryz.func25, by kernel_rfl⟩
theorem k25 {p0 p1 r} (h : K25 p0 p1 r Ci) : K25 p0 p1 r Ct := ⟨h, ⟨⟨tv, tv, ⟨tv, dT _⟩, tv⟩, ⟨tv, tv, ⟨tv, dT _⟩, tv⟩, tv⟩, forall_nil, tv, forall_nil⟩
theorem a25_25L12 : ∀ qq : Nat, (∀ p0 p1 r, e25 qq p0 p1 = some r → K25 p0 p1 r Ct) ∧ (∀ p0 p1 v5 r, e25L12 qq p0 p1 v5 = some r → (∀ j, Dl Tryz.prog 0 (inn (inn (rgt (lft (rgt (rgt (bod Tryz.f25))))))) (g25L12E0 j p0 p1 v5) (g25L12S0 p0 p1 v5) (frameQ Tryz.prog 0 (FinQ Tryz.prog 0 Tryz.f25 (ab r) [] 0) [.blk 0, .seq (rgt (rgt (rgt (bod Tryz.f25))))]))) := by
 intro qq
 induction qq with
 | zero =>
  exact ⟨fun _ _ _ h => nn h, fun _ _ _ _ h => nn h⟩
 | succ qq ih =>
  obtain ⟨ih25, ih25L12⟩ := ih
  refine ⟨?_, ?_⟩
  intro p0 p1 r h
  rw [e25] at h
  rcases spl h with ⟨h1, h⟩ | ⟨h1, h⟩
  obtain rfl := sj h
  exact k25 (tF q25 0 [] (oB 2 h1 o0))
  have k := oB 2 h1 o0
  rcases spl h with ⟨h2, h⟩ | ⟨h2, h⟩
  obtain rfl := sj h
  exact k25 (tF q25 0 [] (oB 2 h2 k))
  have k := oB 2 h2 k
  rcases spl h with ⟨h3, h⟩ | ⟨h3, h⟩
  obtain rfl := sj h
  exact k25 (tF q25 0 [] (oB 4 h3 k))
  exact k25 (tH q25 0 [] [0, 1] [] [2, 3, 5] (oD (dT p1.sub) <| oD (dT p0.sub) <| oB 4 h3 k) (ih25L12 _ _ _ _ h))
  intro p0 p1 v5 r h
  rw [e25L12] at h
  rcases spl h with ⟨h4, h⟩ | ⟨h4, h⟩
  obtain ⟨x5, h6, h⟩ := obind h
  obtain ⟨x7, h8, h⟩ := obind h
  obtain ⟨r9, h10, h⟩ := obind h
  have k := oA 2 (ix23 (o := .no) h8) <| oA 1 (ix23 (o := .no) h6) <| oB 2 h4 o0
  rcases spl h with ⟨h11, h⟩ | ⟨h11, h⟩
  exact fun j => lH 2 [] [0, 1] [] [2, 3, 5] (oD (dT p1.sub) <| oD (dT p0.sub) <| oK 1 [] h11 (ih25 _ _ _ h10) k) (ih25L12 _ _ _ _ h)
  obtain rfl := sj h
  exact fun j => lF 1 [] (oK 1 [] h11 (ih25 _ _ _ h10) k)
  obtain rfl := sj h
  exact fun j => lF 0 [] (oB 2 h4 o0)
theorem c25 {qq p0 p1 r} (h : e25 qq p0 p1 = some r) : K25 p0 p1 r Ct := (a25_25L12 _).1 _ _ _ h
def e26 (qq : Nat) (p0 : List Ent) (p1 : Tm) (p2 : Int) : Option (Bool) :=
 if decide ((List.length p0 : Int) ≤ 60) then
 if decide (p2 ≤ 400) then
 e77 qq p1 >>= fun r3 =>
 some (decide (r3 ≤ 400))
 else
 some false
 else
 some false
abbrev K26 (p0 : List Ent) (p1 : Tm) (p2 : Int) (r : Bool) (C : Cf) : Prop := C 26 [] [.sl (flat entL p0) (List.length p0) .no, tmA p1, ai p2] (ab r) [] 0
theorem q26 : Qf 26 Tryz.f26 := ⟨Tryz.func26, by kernel_rfl⟩
theorem k26 {p0 p1 p2 r} (h : K26 p0 p1 p2 r Ci) : K26 p0 p1 p2 r Ct := ⟨h, ⟨⟨tv, dE _⟩, ⟨tv, tv, ⟨tv, dT _⟩, tv⟩, tv, tv⟩, forall_nil, tv, forall_nil⟩
theorem c26 {qq p0 p1 p2 r} (h : e26 qq p0 p1 p2 = some r) : K26 p0 p1 p2 r Ct := by
 unfold e26 at h
 rcases spl h with ⟨h1, h⟩ | ⟨h1, h⟩
 have k := oB 1 h1 o0
 rcases spl h with ⟨h2, h⟩ | ⟨h2, h⟩
 obtain ⟨r3, h4, h⟩ := obind h
 obtain rfl := sj h
 exact k26 (tF q26 1 [] (oC 1 [] (c77 h4) <| oB 0 h2 k))
 obtain rfl := sj h
 exact k26 (tF q26 0 [] (oB 0 h2 k))
 obtain rfl := sj h
 exact k26 (tF q26 0 [] (oB 1 h1 o0))
def e106va12063 (qq : Nat) (q0 q1 p1 : Int) : Option (Int) :=
 some p1
abbrev K106va12063 (q0 q1 p1 r : Int) (C : Cf) : Prop := C 106 [.cells [ai q0, ai q1]] [.mp 0 0, ai p1] (.tup []) [.cells [ai r, ai q1]] 0
theorem q106va12063 : Qf 106 Tryz.f106 := ⟨Tryz.func106, by kernel_rfl⟩
theorem k106va12063 {q0 q1 p1 r} (h : K106va12063 q0 q1 p1 r Ci) : K106va12063 q0 q1 p1 r Ct := ⟨h, ⟨(lz rfl), tv, tv⟩, (forall_cons ⟨tv, tv, tv⟩ forall_nil), tv, (forall_cons ⟨tv, tv, tv⟩ forall_nil)⟩
theorem c106va12063 {qq q0 q1 p1 r} (h : e106va12063 qq q0 q1 p1 = some r) : K106va12063 q0 q1 p1 r Ct := by
 unfold e106va12063 at h
 obtain rfl := sj h
 exact k106va12063 (tF q106va12063 1 [0] (o0))
def e47 (qq : Nat) (p0 : Int) : Option ((Int) ⊕ (Int × Int × Int)) :=
 if decide (p0 < 0) then
 some (Sum.inl 5)
 else
 if decide (p0 > 1048576) then
 some (Sum.inl 5)
 else
 e106va12063 qq 0 0 p0 >>= fun r3 =>
 some (Sum.inr (0, r3, 0))
abbrev K47s0 (p0 r : Int) (C : Cf) : Prop := C 47 [] [ai p0] (.tup [.val (.pointer none), ai r]) [] 0
abbrev K47s1 (p0 : Int) (r : Int × Int × Int) (C : Cf) : Prop := C 47 [] [ai p0] (.tup [.mp 0 0, ai r.1]) [.cells [ai r.2.1, ai r.2.2]] 0
theorem q47 : Qf 47 Tryz.f47 := ⟨Tryz.func47, by kernel_rfl⟩
theorem k47s0 {p0 r} (h : K47s0 p0 r Ci) : K47s0 p0 r Ct := ⟨h, ⟨tv, tv⟩, forall_nil, ⟨tv, tv, tv⟩, forall_nil⟩
theorem k47s1 {p0 r} (h : K47s1 p0 r Ci) : K47s1 p0 r Ct := ⟨h, ⟨tv, tv⟩, forall_nil, ⟨(lz rfl), tv, tv⟩, (forall_cons ⟨tv, tv, tv⟩ forall_nil)⟩
theorem c47 {qq p0 r} (h : e47 qq p0 = some r) : (match (generalizing := false) r with | Sum.inl x => K47s0 p0 x Ct | Sum.inr x => K47s1 p0 x Ct) := by
 unfold e47 at h
 rcases spl h with ⟨h1, h⟩ | ⟨h1, h⟩
 obtain rfl := sj h
 exact k47s0 (tF q47 0 [] (oB 0 h1 o0))
 have k := oB 0 h1 o0
 rcases spl h with ⟨h2, h⟩ | ⟨h2, h⟩
 obtain rfl := sj h
 exact k47s0 (tF q47 0 [] (oB 0 h2 k))
 obtain ⟨r3, h4, h⟩ := obind h
 obtain rfl := sj h
 exact k47s1 (tF q47 0 [0] (oC 0 [0] (c106va12063 h4) <| oB 0 h2 k))
def e52 (qq : Nat) (fl fu : Int) : Option (Int) :=
 e114va35861 qq fl fu >>= fun r1 =>
 some r1
abbrev K52 (fl fu r : Int) (C : Cf) : Prop := C 52 [.cells [ai fl, ai fu]] [.mp 0 0] (ai r) [.cells [ai fl, ai fu]] 0
theorem q52 : Qf 52 Tryz.f52 := ⟨Tryz.func52, by kernel_rfl⟩
theorem k52 {fl fu r} (h : K52 fl fu r Ci) : K52 fl fu r Ct := ⟨h, ⟨(lz rfl), tv⟩, (forall_cons ⟨tv, tv, tv⟩ forall_nil), tv, (forall_cons ⟨tv, tv, tv⟩ forall_nil)⟩
theorem c52 {qq fl fu r} (h : e52 qq fl fu = some r) : K52 fl fu r Ct := by
 unfold e52 at h
 obtain ⟨r1, h2, h⟩ := obind h
 obtain rfl := sj h
 exact k52 (tF q52 0 [0] (oC 1 [0] (c114va35861 h2) o0))
def e52va47633 (qq : Nat)  : Option (Int) :=
 some 0
abbrev K52va47633 (r : Int) (C : Cf) : Prop := C 52 [] [.val (.pointer none)] (ai r) [] 0
theorem q52va47633 : Qf 52 Tryz.f52 := ⟨Tryz.func52, by kernel_rfl⟩
theorem k52va47633 {r} (h : K52va47633 r Ci) : K52va47633 r Ct := ⟨h, ⟨tv, tv⟩, forall_nil, tv, forall_nil⟩
theorem c52va47633 {qq r} (h : e52va47633 qq  = some r) : K52va47633 r Ct := by
 unfold e52va47633 at h
 obtain rfl := sj h
 exact k52va47633 (tF q52va47633 1 [] (o0))
def e79va14437 (qq : Nat) (q0 q1 : List Ent) (q2 : List Con') (q3 q4 : List Int) (p1 : Tm) : Option (Tm × Int) :=
 none
abbrev K79va14437 (q0 q1 : List Ent) (q2 : List Con') (q3 q4 : List Int) (p1 : Tm) (r : Tm × Int) (C : Cf) : Prop := C 79 [.cells [.sl (flat entL q0) (List.length q0) .no, .mp 1 0, .sl (flat intC q3) (List.length q3) .no, .sl (flat intC q4) (List.length q4) .no], .cells [.sl (flat entL q1) (List.length q1) .no, .sl (flat conL q2) (List.length q2) .no]] [.mp 0 0, tmA p1, .val (.pointer none)] (.tup [tmA r.1, ai r.2]) [.cells [.sl (flat entL q0) (List.length q0) .no, .mp 1 0, .sl (flat intC q3) (List.length q3) .no, .sl (flat intC q4) (List.length q4) .no], .cells [.sl (flat entL q1) (List.length q1) .no, .sl (flat conL q2) (List.length q2) .no]] 0
theorem c79va14437 {qq q0 q1 q2 q3 q4 p1 r} (h : e79va14437 qq q0 q1 q2 q3 q4 p1 = some r) : K79va14437 q0 q1 q2 q3 q4 p1 r Ct := by
 unfold e79va14437 at h
 cases h
def e82va20783 (qq : Nat) (p1 : Tm) : Option (Bool) :=
 some false
abbrev K82va20783 (p1 : Tm) (r : Bool) (C : Cf) : Prop := C 82 [] [.val (.pointer none), tmA p1] (ab r) [] 0
theorem q82va20783 : Qf 82 Tryz.f82 := ⟨Tryz.func82, by kernel_rfl⟩
theorem k82va20783 {p1 r} (h : K82va20783 p1 r Ci) : K82va20783 p1 r Ct := ⟨h, ⟨tv, ⟨tv, tv, ⟨tv, dT _⟩, tv⟩, tv⟩, forall_nil, tv, forall_nil⟩
theorem c82va20783 {qq p1 r} (h : e82va20783 qq p1 = some r) : K82va20783 p1 r Ct := by
 unfold e82va20783 at h
 obtain rfl := sj h
 exact k82va20783 (tF q82va20783 1 [] (o0))
def e79va17286 (qq : Nat) (p1 : Tm) : Option (Tm × Int) :=
 e82va20783 qq p1 >>= fun r1 =>
 if r1 then
 none
 else
 some ((Tm.mk 0 0 []), 5)
abbrev K79va17286 (p1 : Tm) (r : Tm × Int) (C : Cf) : Prop := C 79 [] [.val (.pointer none), tmA p1, .val (.pointer none)] (.tup [tmA r.1, ai r.2]) [] 0
theorem q79va17286 : Qf 79 Tryz.f79 := ⟨Tryz.func79, by kernel_rfl⟩
theorem k79va17286 {p1 r} (h : K79va17286 p1 r Ci) : K79va17286 p1 r Ct := ⟨h, ⟨tv, ⟨tv, tv, ⟨tv, dT _⟩, tv⟩, tv, tv⟩, forall_nil, ⟨⟨tv, tv, dT _, tv⟩, tv, tv⟩, forall_nil⟩
theorem c79va17286 {qq p1 r} (h : e79va17286 qq p1 = some r) : K79va17286 p1 r Ct := by
 unfold e79va17286 at h
 obtain ⟨r1, h2, h⟩ := obind h
 obtain ⟨h3, h⟩ := splF h
 obtain rfl := sj h
 exact k79va17286 (tF q79va17286 2 [] (oD (dT ([] : List Tm)) <| oK 1 [] h3 (c82va20783 h2) o0))
def e79va53055 (qq : Nat) (p1 : Tm) (q1 q2 : Int) : Option (Tm × Int) :=
 e82va20783 qq p1 >>= fun r1 =>
 if r1 then
 none
 else
 some ((Tm.mk 0 0 []), 5)
abbrev K79va53055 (p1 : Tm) (q1 q2 : Int) (r : Tm × Int) (C : Cf) : Prop := C 79 [.cells [ai q1, ai q2]] [.val (.pointer none), tmA p1, .mp 0 0] (.tup [tmA r.1, ai r.2]) [.cells [ai q1, ai q2]] 0
theorem q79va53055 : Qf 79 Tryz.f79 := ⟨Tryz.func79, by kernel_rfl⟩
theorem k79va53055 {p1 q1 q2 r} (h : K79va53055 p1 q1 q2 r Ci) : K79va53055 p1 q1 q2 r Ct := ⟨h, ⟨tv, ⟨tv, tv, ⟨tv, dT _⟩, tv⟩, (lz rfl), tv⟩, (forall_cons ⟨tv, tv, tv⟩ forall_nil), ⟨⟨tv, tv, dT _, tv⟩, tv, tv⟩, (forall_cons ⟨tv, tv, tv⟩ forall_nil)⟩
theorem c79va53055 {qq p1 q1 q2 r} (h : e79va53055 qq p1 q1 q2 = some r) : K79va53055 p1 q1 q2 r Ct := by
 unfold e79va53055 at h
 obtain ⟨r1, h2, h⟩ := obind h
 obtain ⟨h3, h⟩ := splF h
 obtain rfl := sj h
 exact k79va53055 (tF q79va53055 2 [0] (oD (dT ([] : List Tm)) <| oK 1 [] h3 (c82va20783 h2) o0))
def e28 (qq : Nat) (p0 : List Ent) (p1 : Tm) (p2 : Int) : Option (Tm × Int × Int) :=
 e36 qq p0 >>= fun r1 =>
 match r1 with
 | Sum.inl y21 =>
  if y21 != 0 then
  some ((Tm.mk 0 0 []), 0, y21)
  else
  e47 qq p2 >>= fun r23 =>
  match r23 with
  | Sum.inl y32 =>
   if y32 != 0 then
   some ((Tm.mk 0 0 []), 0, y32)
   else
   e79va17286 qq p1 >>= fun r34 =>
   if r34.2 != 0 then
   some ((Tm.mk 0 0 []), 0, r34.2)
   else
   e52va47633 qq >>= fun r37 =>
   some (r34.1, r37, 0)
  | Sum.inr y25 =>
   if y25.1 != 0 then
   some ((Tm.mk 0 0 []), 0, y25.1)
   else
   e79va53055 qq p1 y25.2.1 y25.2.2 >>= fun r27 =>
   if r27.2 != 0 then
   some ((Tm.mk 0 0 []), 0, r27.2)
   else
   e52 qq y25.2.1 y25.2.2 >>= fun r30 =>
   some (r27.1, r30, 0)
 | Sum.inr y3 =>
  if y3.1 != 0 then
  some ((Tm.mk 0 0 []), 0, y3.1)
  else
  e47 qq p2 >>= fun r5 =>
  match r5 with
  | Sum.inl y14 =>
   if y14 != 0 then
   some ((Tm.mk 0 0 []), 0, y14)
   else
   e79va14437 qq y3.2.1 y3.2.2.2.2.1 y3.2.2.2.2.2 y3.2.2.1 y3.2.2.2.1 p1 >>= fun r16 =>
   if r16.2 != 0 then
   some ((Tm.mk 0 0 []), 0, r16.2)
   else
   e52va47633 qq >>= fun r19 =>
   some (r16.1, r19, 0)
  | Sum.inr y7 =>
   if y7.1 != 0 then
   some ((Tm.mk 0 0 []), 0, y7.1)
   else
   e79 qq (Mach.mk y3.2.1 y3.2.2.2.2.1 y3.2.2.2.2.2 y3.2.2.1 y3.2.2.2.1) p1 y7.2.1 y7.2.2 >>= fun r9 =>
   if r9.2.1 != 0 then
   some ((Tm.mk 0 0 []), 0, r9.2.1)
   else
   e52 qq r9.2.2.1 r9.2.2.2 >>= fun r12 =>
   some (r9.1, r12, 0)
abbrev K28 (p0 : List Ent) (p1 : Tm) (p2 : Int) (r : Tm × Int × Int) (C : Cf) : Prop := C 28 [] [.sl (flat entL p0) (List.length p0) .no, tmA p1, ai p2] (.tup [tmA r.1, ai r.2.1, ai r.2.2]) [] 0
theorem q28 : Qf 28 Tryz.f28 := ⟨Tryz.func28, by kernel_rfl⟩
theorem k28 {p0 p1 p2 r} (h : K28 p0 p1 p2 r Ci) : K28 p0 p1 p2 r Ct := ⟨h, ⟨⟨tv, dE _⟩, ⟨tv, tv, ⟨tv, dT _⟩, tv⟩, tv, tv⟩, forall_nil, ⟨⟨tv, tv, dT _, tv⟩, tv, tv, tv⟩, forall_nil⟩
theorem c28 {qq p0 p1 p2 r} (h : e28 qq p0 p1 p2 = some r) : K28 p0 p1 p2 r Ct := by
 unfold e28 at h
 obtain ⟨r1, h2, h⟩ := obind h
 rcases r1 with y21 | y3
 dsimp only at h
 have k := oC 0 [] (c36 h2) o0
 rcases spl h with ⟨h22, h⟩ | ⟨h22, h⟩
 obtain rfl := sj h
 exact k28 (tF q28 1 [] (oD (dT ([] : List Tm)) <| oB 2 h22 k))
 obtain ⟨r23, h24, h⟩ := obind h
 have k := oB 2 h22 k
 rcases r23 with y32 | y25
 dsimp only at h
 have k := oC 0 [] (c47 h24) k
 rcases spl h with ⟨h33, h⟩ | ⟨h33, h⟩
 obtain rfl := sj h
 exact k28 (tF q28 1 [] (oD (dT ([] : List Tm)) <| oB 2 h33 k))
 obtain ⟨r34, h35, h⟩ := obind h
 have k := oC 1 [] (c79va17286 h35) <| oB 2 h33 k
 rcases spl h with ⟨h36, h⟩ | ⟨h36, h⟩
 obtain rfl := sj h
 exact k28 (tF q28 1 [] (oD (dT ([] : List Tm)) <| oB 3 h36 k))
 obtain ⟨r37, h38, h⟩ := obind h
 obtain rfl := sj h
 exact k28 (tF q28 1 [] (oD (dT r34.1.sub) <| oC 1 [] (c52va47633 h38) <| oB 3 h36 k))
 dsimp only at h
 have k := oC 0 [] (c47 h24) k
 rcases spl h with ⟨h26, h⟩ | ⟨h26, h⟩
 obtain rfl := sj h
 exact k28 (tF q28 1 [] (oD (dT ([] : List Tm)) <| oB 2 h26 k))
 obtain ⟨r27, h28, h⟩ := obind h
 have k := oC 1 [2] (c79va53055 h28) <| oB 2 h26 k
 rcases spl h with ⟨h29, h⟩ | ⟨h29, h⟩
 obtain rfl := sj h
 exact k28 (tF q28 1 [] (oD (dT ([] : List Tm)) <| oB 3 h29 k))
 obtain ⟨r30, h31, h⟩ := obind h
 obtain rfl := sj h
 exact k28 (tF q28 1 [] (oD (dT r27.1.sub) <| oC 1 [2] (c52 h31) <| oB 3 h29 k))
 dsimp only at h
 have k := oC 0 [] (c36 h2) o0
 rcases spl h with ⟨h4, h⟩ | ⟨h4, h⟩
 obtain rfl := sj h
 exact k28 (tF q28 1 [] (oD (dT ([] : List Tm)) <| oB 2 h4 k))
 obtain ⟨r5, h6, h⟩ := obind h
 have k := oB 2 h4 k
 rcases r5 with y14 | y7
 dsimp only at h
 have k := oC 0 [] (c47 h6) k
 rcases spl h with ⟨h15, h⟩ | ⟨h15, h⟩
 obtain rfl := sj h
 exact k28 (tF q28 1 [] (oD (dT ([] : List Tm)) <| oB 2 h15 k))
 obtain ⟨r16, h17, h⟩ := obind h
 have k := oC 1 [2, 3] (c79va14437 h17) <| oB 2 h15 k
 rcases spl h with ⟨h18, h⟩ | ⟨h18, h⟩
 obtain rfl := sj h
 exact k28 (tF q28 1 [] (oD (dT ([] : List Tm)) <| oB 3 h18 k))
 obtain ⟨r19, h20, h⟩ := obind h
 obtain rfl := sj h
 exact k28 (tF q28 1 [] (oD (dT r16.1.sub) <| oC 1 [] (c52va47633 h20) <| oB 3 h18 k))
 dsimp only at h
 have k := oC 0 [] (c47 h6) k
 rcases spl h with ⟨h8, h⟩ | ⟨h8, h⟩
 obtain rfl := sj h
 exact k28 (tF q28 1 [] (oD (dT ([] : List Tm)) <| oB 2 h8 k))
 obtain ⟨r9, h10, h⟩ := obind h
 have k := oC 1 [2, 3, 4] (c79 h10) <| oB 2 h8 k
 rcases spl h with ⟨h11, h⟩ | ⟨h11, h⟩
 obtain rfl := sj h
 exact k28 (tF q28 1 [] (oD (dT ([] : List Tm)) <| oB 3 h11 k))
 obtain ⟨r12, h13, h⟩ := obind h
 obtain rfl := sj h
 exact k28 (tF q28 1 [] (oD (dT r9.1.sub) <| oC 1 [4] (c52 h13) <| oB 3 h11 k))
def e78 (qq : Nat) (p0 : Int) (p1 p2 : Tm) : Option (Tm) :=
 some (Tm.mk p0 0 [p1, p2])
abbrev K78 (p0 : Int) (p1 p2 r : Tm) (C : Cf) : Prop := C 78 [] [ai p0, tmA p1, tmA p2] (tmA r) [] 0
theorem q78 : Qf 78 Tryz.f78 := ⟨Tryz.func78, by kernel_rfl⟩
theorem k78 {p0 p1 p2 r} (h : K78 p0 p1 p2 r Ci) : K78 p0 p1 p2 r Ct := ⟨h, ⟨tv, ⟨tv, tv, ⟨tv, dT _⟩, tv⟩, ⟨tv, tv, ⟨tv, dT _⟩, tv⟩, tv⟩, forall_nil, ⟨tv, tv, dT _, tv⟩, forall_nil⟩
theorem c78 {qq p0 p1 p2 r} (h : e78 qq p0 p1 p2 = some r) : K78 p0 p1 p2 r Ct := by
 unfold e78 at h
 obtain rfl := sj h
 exact k78 (tF q78 1 [] (oD (dT [p1, p2]) <| oS 2 (obLitR tm_eq [p1, p2]) o0))
def e27 (qq : Nat)  : Option (Bool) :=
 e78 qq 4 (Tm.mk 2 2 []) (Tm.mk 1 0 []) >>= fun r1 =>
 e78 qq 5 r1 (Tm.mk 2 2 []) >>= fun r3 =>
 e28 qq [] r3 5 >>= fun r5 =>
 if r5.2.2 == 0 then
 if r5.2.1 == 1 then
 e25 qq r5.1 (Tm.mk 2 2 []) >>= fun r9 =>
 some r9
 else
 some false
 else
 some false
abbrev K27 (r : Bool) (C : Cf) : Prop := C 27 [] [] (ab r) [] 0
theorem q27 : Qf 27 Tryz.f27 := ⟨Tryz.func27, by kernel_rfl⟩
theorem k27 {r} (h : K27 r Ci) : K27 r Ct := ⟨h, tv, forall_nil, tv, forall_nil⟩
theorem c27 {qq r} (h : e27 qq  = some r) : K27 r Ct := by
 unfold e27 at h
 obtain ⟨r1, h2, h⟩ := obind h
 obtain ⟨r3, h4, h⟩ := obind h
 obtain ⟨r5, h6, h⟩ := obind h
 have k := oC 0 [] (c28 h6) <| oC 1 [] (c78 h4) <| oC 2 [] (c78 h2) o0
 rcases spl h with ⟨h7, h⟩ | ⟨h7, h⟩
 have k := oB 4 h7 k
 rcases spl h with ⟨h8, h⟩ | ⟨h8, h⟩
 obtain ⟨r9, h10, h⟩ := obind h
 obtain rfl := sj h
 exact k27 (tF q27 0 [] (oC 2 [] (c25 h10) <| oB 0 h8 k))
 obtain rfl := sj h
 exact k27 (tF q27 0 [] (oB 0 h8 k))
 obtain rfl := sj h
 exact k27 (tF q27 0 [] (oB 4 h7 k))
mutual
theorem ev_rEqual : ∀ (t : Tm), t.Ok → Evt (fun q => e25 q t t) true
  | .mk k n l, ho => by
    rw [Tm.Ok] at ho
    refine Evt.succ ?_
    simp only [e25]
    exact Evt.ifF (by simp) (Evt.ifF (by simp) (Evt.ifF (by simp) (ev_rEqualL l (.mk k n l) 0 rfl ho.1 ho.2)))
theorem ev_rEqualL : ∀ (l : List Tm) (p : Tm) (v : Nat), p.sub.drop v = l → p.sub.length < 9223372036854775808 → OkL l → Evt (fun q => e25L12 q p p (v : Int)) true
  | [], p, v, hd, hl, ho => by
    refine Evt.succ ?_
    simp only [e25L12]
    exact Evt.ifF (drop_nil hd) Evt.ret
  | t :: l, p, v, hd, hl, ho => by
    have hlt := drop_lt hd
    rw [OkL] at ho
    refine Evt.succ ?_
    simp only [e25L12]
    refine Evt.ifT (drop_dec hd) (Evt.pure (drop_idx hd) (Evt.pure (drop_idx hd) ((ev_rEqual t ho.1).bind (Evt.ifT rfl ?_))))
    rw [w64_nat v (by omega)]
    exact ev_rEqualL l p (v + 1) (drop_next hd) hl ho.2
end
theorem tot_light (l : List Ent) (t : Tm) (f : Int) : Tot (fun q => e26 q l t f) (fun b => b = true → l.length ≤ 60 ∧ f ≤ 400) := by
  simp only [e26]
  refine Tot.ite (fun h => Tot.ite (fun h2 => ?_) fun _ => Tot.ret (fun h => by cases h)) fun _ => Tot.ret (fun h => by cases h)
  have := of_decide_eq_true h
  have := of_decide_eq_true h2
  exact Tot.bind (P := fun _ => True) ((ev_rSize t).tot trivial) fun r _ => Tot.ret fun _ => ⟨by omega, by omega⟩
theorem ev_mNew (f : Int) (h0 : 0 ≤ f) (h1 : f ≤ 1048576) : Evt (fun q => e47 q f) (.inr (0, f, 0)) := by
  simp only [e47]
  exact Evt.ifF (decide_eq_false (by omega)) (Evt.ifF (decide_eq_false (by omega)) (Evt.bind (a := f) (Evt.mk fun _ => rfl) Evt.ret))
def BringIs (l : List Ent) (t : Tm) (f : Int) : Prop :=
  (∃ y e k, 0 ≤ k ∧ k ≤ f ∧ ((¬ RightM l t ∧ e = 5) ∨ (RightM l t ∧ Br l t y e k)) ∧ ∀ g, k ≤ g → g ≤ 1048576 → Evt (fun q => e28 q l t g) (if e = 0 then y else zT, if e = 0 then k else 0, e)) ∨ ∃ r, Evt (fun q => e28 q l t f) r ∧ r.2.2 = 8
theorem bring_is {N : ByteArray → Bool} (l : List Ent) (hn : Evt (fun q => e36 q l) (newT l true)) (hE : AllE N l) (he : ∀ e ∈ l, EOk e) (t : Tm) (ho : t.Ok) (f : Int) (h0 : 0 ≤ f) (h1 : f ≤ 1048576) : BringIs l t f := by
  have run : ∀ g r, 0 ≤ g → g ≤ 1048576 → Evt (fun q => e79 q (machT l) t g 0) r → Evt (fun q => e28 q l t g) (if r.2.1 ≠ 0 then (Tm.mk 0 0 [], 0, r.2.1) else (r.1, r.2.2.2, 0)) := fun g r g0 g1 h => by
    simp only [e28]
    refine hn.bind (Evt.ifF (by simp) ((ev_mNew g g0 g1).bind (Evt.ifF (by simp) (Evt.bind (a := r) h ?_))))
    by_cases e : r.2.1 ≠ 0
    · rw [if_pos e]; exact Evt.ifT (by simpa using e) Evt.ret
    · rw [if_neg e]
      refine Evt.ifF (by simpa using e) (Evt.bind (a := r.2.2.2) (Evt.mk fun q => ?_) Evt.ret)
      simp only [e52, e114va35861]; rfl
  rcases out_Bring l hE he t ho f h0 with ⟨R, k, k0, k1, hQ, h3, -⟩ | ⟨h, -⟩
  · left
    rcases hQ with ⟨hR, rfl, rfl⟩ | ⟨hR, y, e, hbr, rfl⟩
    · refine ⟨zT, 5, 0, k0, k1, .inl ⟨hR, rfl⟩, fun g a b => ?_⟩
      have := run g _ (by omega) b (h3 g 0 a (by omega) (by omega))
      refine this.eq ?_
      rw [if_pos (by show (5 : Int) ≠ 0; decide), if_neg (by decide), if_neg (by decide)]; rfl
    · refine ⟨y, e, k, k0, k1, .inr ⟨hR, hbr⟩, fun g a b => ?_⟩
      have := run g _ (by omega) b (h3 g 0 a (by omega) (by omega))
      refine this.eq ?_
      by_cases e0 : e = 0
      · subst e0
        rw [if_neg (by simp), if_pos rfl]
        simp
      · rw [if_pos (by show e ≠ 0; exact e0), if_neg e0, if_neg e0]; rfl
  · right
    obtain ⟨r, h5, h6⟩ := h 0 (by omega) (by omega)
    have h6' : r.2.1 = 8 := h6
    refine ⟨_, run f r h0 h1 h5, ?_⟩
    rw [if_pos (by omega)]; exact h6'
theorem bring_unf (l : List Ent) (hn : Evt (fun q => e36 q l) (newT l false)) (t : Tm) (f : Int) : Evt (fun q => e28 q l t f) (zT, 0, 5) := by
  simp only [e28]
  exact hn.bind (Evt.ifT (by decide) Evt.ret)
theorem sign_cases (l : List Ent) (hl : l.length ≤ 60) (he : ∀ e ∈ l, EOk e) (hc : ∀ e ∈ l, ECl e) : Evt (fun q => e36 q l) (newT l false) ∨ ∃ N, AllE N l ∧ Evt (fun q => e36 q l) (newT l true) := by
  obtain ⟨N, hN⟩ := names_by
  obtain ⟨b, -, hA, hn⟩ := ev_wNew N hN l (by omega) he hc
  cases b with
  | false => exact .inl hn
  | true => exact .inr ⟨N, hA rfl, hn⟩
mutual
theorem looT_le : ∀ (t : Tm) (b : Int), goodT t = true → 0 ≤ b → looT t b ≤ 1048577
  | .mk k n l, b, hg, hb => by
    have hh := goodT_mk hg
    have hn := head_n hh.1
    rw [looT]
    split
    · omega
    · exact looL_le l k 0 b hh.2 hb
theorem looL_le : ∀ (l : List Tm) (k : Int) (i : Nat) (b : Int), goodL l = true → 0 ≤ b → looL l k i b ≤ 1048577
  | [], k, i, b, _, _ => by rw [looL]; omega
  | t :: l, k, i, b, hg, hb => by
    have hc := goodL_cons hg
    have hu := undT_01 k i
    have h1 := looT_le t (b + undT k i) hc.1 (by omega)
    have h2 := looL_le l k (i + 1) b hc.2 hb
    rw [looL]; omega
end
theorem rightM_iff {l : List Ent} {t : Tm} : RightM l t ↔ shapedT t = true ∧ AllN (fun k n => k = 6 ∨ k = 7 → n < l.length) t := by
  unfold RightM rightT
  rw [← allN_col (Q := fun n => n < (l.length : Int)) (by decide) (by decide) t]
  simp only [Bool.and_eq_true, decide_eq_true_eq, List.all_eq_true]
  constructor
  · rintro ⟨⟨h1, -⟩, h2⟩; exact ⟨h1, h2⟩
  · rintro ⟨h1, h2⟩; exact ⟨⟨h1, looT_le t 0 (shapedT_spec h1).2.2 (by omega)⟩, h2⟩
def sT : Tm := .mk 2 2 []
def aT : Tm := .mk 5 0 [.mk 4 0 [sT, .mk 1 0 []], sT]
theorem ev_nNew : Evt (fun q => e36 q []) (newT [] true) := by
  obtain ⟨N, hN⟩ := names_by
  obtain ⟨b, hb, -, hn⟩ := ev_wNew N hN [] (by simp) (fun _ h => nomatch h) (fun _ h => nomatch h)
  have hF : Evt (fun q => e73 q []) true := by
    simp only [e73]
    refine Evt.ifF (by decide) ((ev_Names [] (by simp)).bind (Evt.bind (a := true) ?_ (Evt.ifT rfl ?_)))
    · simp only [e153]
      refine Evt.succ ?_
      simp only [e153L46510]
      exact Evt.ifF rfl Evt.ret
    · refine Evt.succ ?_
      simp only [e73L47399]
      exact Evt.ifF rfl Evt.ret
  rw [hb.det hF] at hn
  exact hn
theorem ev_on1 : Evt (fun q => e83 q (machT []) aT 5 0) (sT, true, 0, 4, 1) := by
  refine Evt.succ ?_
  simp only [e83, machT_l, machT_rl, machT_parts]
  have e1 : (hdT aT, arT aT) = (.mk 4 0 [sT, .mk 1 0 []], [sT]) := by kernel_rfl
  refine Evt.bind ((ev_Spine aT (by kernel_rfl)).eq e1) (Evt.ifT rfl (Evt.ifT rfl (Evt.pure (a := .mk 1 0 []) rfl (Evt.pure (a := sT) rfl ?_))))
  have e2 : subT (.mk 1 0 []) [sT] = (sT, 0) := by kernel_rfl
  refine Evt.bind ((ev_One _ _ (leaf_ok 1 0) (leaf_ok 2 2)).eq e2) (Evt.pure (a := []) rfl (Evt.bind (ev_Apply sT [] (by simp)) (Evt.ifF rfl ?_)))
  have e3 : wshT sT = (sT, 0) := by kernel_rfl
  exact Evt.bind ((ev_mStep 5 0 (by omega) (by omega) (by omega)).eq (if_pos (by omega))) (Evt.ifF rfl (((ev_wshaped sT (leaf_ok 2 2)).eq e3).bind Evt.ret))
theorem ev_on2 : Evt (fun q => e83 q (machT []) sT 4 1) (sT, false, 0, 4, 1) := by
  refine Evt.succ ?_
  simp only [e83, machT_l, machT_rl, machT_parts]
  have e1 : (hdT sT, arT sT) = (sT, []) := by kernel_rfl
  refine Evt.bind ((ev_Spine sT (by kernel_rfl)).eq e1) (Evt.ifF rfl ?_)
  have e2 : kindT [] sT = 0 := rfl
  exact Evt.bind ((ev_wkind [] sT (by decide)).eq e2) (Evt.ifF rfl (Evt.bind ((ev_wkind [] sT (by decide)).eq e2) (Evt.ifF rfl (Evt.ifF rfl Evt.ret))))
theorem ev_wawake : Evt (fun q => e27 q) true := by
  have hb : Evt (fun q => e157 q (machT []) aT 5 0) (sT, 0, 4, 1) := by
    refine Evt.succ ?_
    simp only [e157]
    refine Evt.succ ?_
    simp only [e157L60545, tm_eta]
    refine ev_on1.bind (Evt.ifT rfl (Evt.ifF rfl (Evt.succ ?_)))
    simp only [e157L60545, tm_eta]
    exact ev_on2.bind (Evt.ifF rfl (Evt.ifF rfl Evt.ret))
  have hB : Evt (fun q => e79 q (machT []) aT 5 0) (sT, 0, 4, 1) := by
    simp only [e79, e82, machT_l]
    have e1 : rightT aT 1048577 0 = true := by kernel_rfl
    have e2 : copT sT = sT := by kernel_rfl
    exact Evt.bind (a := true) (((ev_Right aT 1048577 0 (shaped_ok (by kernel_rfl))).eq e1).bind Evt.ret) (Evt.ifT rfl (hb.bind (Evt.ifF rfl (((ev_Copy sT (leaf_ok 2 2)).eq e2).bind Evt.ret))))
  have hW : Evt (fun q => e28 q [] aT 5) (sT, 1, 0) := by
    simp only [e28]
    refine ev_nNew.bind (Evt.ifF rfl ((ev_mNew 5 (by omega) (by omega)).bind (Evt.ifF rfl (Evt.bind (a := (sT, 0, 4, 1)) hB (Evt.ifF rfl ?_)))))
    refine Evt.bind (a := 1) (Evt.mk fun q => ?_) Evt.ret
    simp only [e52, e114va35861]; rfl
  simp only [e27]
  refine Evt.bind (a := .mk 4 0 [sT, .mk 1 0 []]) (Evt.mk fun _ => rfl) (Evt.bind (a := aT) (Evt.mk fun _ => rfl) (hW.bind (Evt.ifT rfl (Evt.ifT rfl ?_))))
  exact (ev_rEqual sT (leaf_ok 2 2)).bind Evt.ret
def e81L27409 : Nat → (List Int) → Int → (List Int) → Bool → Int → Option (List Int)
 | 0, _, _, _, _, _ => none
 | qq + 1, p0, p1, v5, v6, v7 =>
 if v6 then
 if decide (v7 < (List.length p0 : Int)) then
 gidx p0 v7 >>= fun x2 =>
 gapp 8 v5 [x2] >>= fun l4 =>
 e81L27409 qq p0 p1 l4 true (w64 (v7 + 1))
 else
 some v5
 else
 if decide (v7 < (List.length p0 : Int)) then
 gidx p0 v7 >>= fun x7 =>
 if decide (x7 ≥ p1) then
 if decide (x7 > p1) then
 gapp 8 v5 [p1] >>= fun l11 =>
 gapp 8 l11 [x7] >>= fun l13 =>
 e81L27409 qq p0 p1 l13 true (w64 (v7 + 1))
 else
 gapp 8 v5 [x7] >>= fun l15 =>
 e81L27409 qq p0 p1 l15 true (w64 (v7 + 1))
 else
 gapp 8 v5 [x7] >>= fun l17 =>
 e81L27409 qq p0 p1 l17 false (w64 (v7 + 1))
 else
 gapp 8 v5 [p1] >>= fun l19 =>
 some l19
def e81 (qq : Nat) (p0 : List Int) (p1 : Int) : Option (List Int) :=
 e81L27409 qq p0 p1 [] false 0
def g81L27409E0 (j : Nat → Value) (p0 : List Int) (p1 : Int) (v5 : List Int) (v6 : Bool) (v7 : Int) := sp j 49 0 [(0, .sl (flat intC p0) (List.length p0) .no), (1, ai p1), (5, .sl (flat intC v5) (List.length v5) (.st 0 1)), (6, ab v6), (7, ai v7)]
def g81L27409S0 (p0 : List Int) (p1 : Int) (v5 : List Int) (v6 : Bool) (v7 : Int) : LSt := ⟨[], 0, [0], 1, []⟩
abbrev K81 (p0 : List Int) (p1 : Int) (r : List Int) (C : Cf) : Prop := C 81 [] [.sl (flat intC p0) (List.length p0) .no, ai p1] (.sl (flat intC r) (List.length r) .no) [] 0
theorem q81 : Qf 81 Tryz.f81 := ⟨Tryz.func81, by kernel_rfl⟩
theorem k81 {p0 p1 r} (h : K81 p0 p1 r Ci) : K81 p0 p1 r Ct := ⟨h, ⟨⟨tv, dI _⟩, tv, tv⟩, forall_nil, dI _, forall_nil⟩
theorem l81L27409 : ∀ qq : Nat, (∀ p0 p1 v5 v6 v7 r, e81L27409 qq p0 p1 v5 v6 v7 = some r → (∀ j, Dl Tryz.prog 0 (inn (inn (rgt (lft (rgt (rgt (rgt (bod Tryz.f81)))))))) (g81L27409E0 j p0 p1 v5 v6 v7) (g81L27409S0 p0 p1 v5 v6 v7) (frameQ Tryz.prog 0 (FinQ Tryz.prog 0 Tryz.f81 (.sl (flat intC r) (List.length r) .no) [] 0) [.blk 0, .seq (rgt (rgt (rgt (rgt (bod Tryz.f81)))))]))) := by
 intro qq
 induction qq with
 | zero =>
  exact fun _ _ _ _ _ _ h => nn h
 | succ qq ih =>
  intro p0 p1 v5 v6 v7 r h
  rw [e81L27409] at h
  cases v6
  replace h := ifF rfl h
  rcases spl h with ⟨h6, h⟩ | ⟨h6, h⟩
  obtain ⟨x7, h8, h⟩ := obind h
  have k := oA 1 (ix34 (o := .no) h8) <| oB 1 h6 o0
  rcases spl h with ⟨h9, h⟩ | ⟨h9, h⟩
  have k := oA 0 (ix34 (o := .no) h8) <| oB 1 h9 k
  rcases spl h with ⟨h10, h⟩ | ⟨h10, h⟩
  obtain ⟨l11, h12, h⟩ := obind h
  obtain ⟨l13, h14, h⟩ := obind h
  exact fun j => lH 1 [] [] [2] [0, 1, 5, 6, 7] (oD (dI l13) <| oD (dI p0) <| oP 2 (apS34 h14 (by simp)) <| oA 0 (ix34 (o := .no) h8) <| oP 1 (apS34 h12 (by simp)) <| oB 1 h10 k) (ih _ _ _ _ _ _ h)
  obtain ⟨l15, h16, h⟩ := obind h
  exact fun j => lH 1 [] [] [1] [0, 1, 5, 6, 7] (oD (dI l15) <| oD (dI p0) <| oP 2 (apS34 h16 (by simp)) <| oA 0 (ix34 (o := .no) h8) <| oB 1 h10 k) (ih _ _ _ _ _ _ h)
  obtain ⟨l17, h18, h⟩ := obind h
  exact fun j => lH 1 [] [] [1] [0, 1, 5, 6, 7] (oD (dI l17) <| oD (dI p0) <| oP 2 (apS34 h18 (by simp)) <| oA 0 (ix34 (o := .no) h8) <| oB 1 h9 k) (ih _ _ _ _ _ _ h)
  obtain ⟨l19, h20, h⟩ := obind h
  obtain rfl := sj h
  exact fun j => lF 0 [] (oD (dI l19) <| oP 2 (apS34 h20 (by simp)) <| oB 1 h6 o0)
  replace h := ifT rfl h
  rcases spl h with ⟨h1, h⟩ | ⟨h1, h⟩
  obtain ⟨x2, h3, h⟩ := obind h
  obtain ⟨l4, h5, h⟩ := obind h
  exact fun j => lH 1 [] [] [1] [0, 1, 5, 6, 7] (oD (dI l4) <| oD (dI p0) <| oP 2 (apS34 h5 (by simp)) <| oA 1 (ix34 (o := .no) h3) <| oB 1 h1 o0) (ih _ _ _ _ _ _ h)
  obtain rfl := sj h
  exact fun j => lF 1 [] (oD (dI v5) <| oB 1 h1 o0)
theorem c81 {qq p0 p1 r} (h : e81 qq p0 p1 = some r) : K81 p0 p1 r Ct := by
 unfold e81 at h
 exact k81 (tH q81 1 [(none, 5, 1)] [] [0] [0, 1, 5, 6, 7] (oD (dI ([] : List Int)) <| oD (dI p0) o0) (l81L27409 _ _ _ _ _ _ _ h))
mutual
def e30 : Nat → Tm → Int → Int → Option (List Int)
 | 0, _, _, _ => none
 | qq + 1, p0, p1, p2 =>
 if p0.k == p1 then
 gapp 8 ([] : List Int) [p0.n] >>= fun l2 =>
 e30L49119 qq p0 p1 p2 l2 0
 else
 if p0.k == p2 then
 gapp 8 ([] : List Int) [p0.n] >>= fun l5 =>
 e30L49119 qq p0 p1 p2 l5 0
 else
 e30L49119 qq p0 p1 p2 [] 0
def e30L49119 : Nat → Tm → Int → Int → (List Int) → Int → Option (List Int)
 | 0, _, _, _, _, _ => none
 | qq + 1, p0, p1, p2, v7, v8 =>
 if decide (v8 < (List.length p0.sub : Int)) then
 gidx p0.sub v8 >>= fun x5 =>
 e30 qq x5 p1 p2 >>= fun r7 =>
 e30L62634 qq p0 p1 p2 v8 r7 0 v7
 else
 some v7
def e30L62634 : Nat → Tm → Int → Int → Int → (List Int) → Int → (List Int) → Option (List Int)
 | 0, _, _, _, _, _, _, _ => none
 | qq + 1, p0, p1, p2, v8, r7, v10, v7 =>
 if decide (v10 < (List.length r7 : Int)) then
 gidx r7 v10 >>= fun x10 =>
 e81 qq v7 x10 >>= fun r12 =>
 e30L62634 qq p0 p1 p2 v8 r7 (w64 (v10 + 1)) r12
 else
 e30L49119 qq p0 p1 p2 v7 (w64 (v8 + 1))
end
def g30L49119E0 (j : Nat → Value) (p0 : Tm) (p1 p2 : Int) (v7 : List Int) (v8 : Int) := sp j 55 0 [(1, ai p1), (2, ai p2), (3, .mp 0 0), (7, .sl (flat intC v7) (List.length v7) (.st 0 1)), (8, ai v8)]
def g30L49119S0 (p0 : Tm) (p1 p2 : Int) (v7 : List Int) (v8 : Int) : LSt := ⟨[(0, .cells [ai p0.k, ai p0.n, .sl (flat tmCells p0.sub) (List.length p0.sub) .no])], 1, [0], 1, []⟩
def g30L49119E1 (j : Nat → Value) (p0 : Tm) (p1 p2 : Int) (v7 : List Int) (v8 : Int) := sp j 55 0 [(1, ai p1), (2, ai p2), (3, .mp 0 0), (7, .sl (flat intC v7) (List.length v7) .no), (8, ai v8)]
def g30L49119S1 (p0 : Tm) (p1 p2 : Int) (v7 : List Int) (v8 : Int) : LSt := ⟨[(0, .cells [ai p0.k, ai p0.n, .sl (flat tmCells p0.sub) (List.length p0.sub) .no])], 1, [], 0, []⟩
def g30L49119E2 (j : Nat → Value) (p0 : Tm) (p1 p2 : Int) (v7 : List Int) (v8 : Int) := sp j 55 0 [(1, ai p1), (2, ai p2), (3, .mp 0 0), (7, .sl (flat intC v7) (List.length v7) .full), (8, ai v8)]
def g30L49119S2 (p0 : Tm) (p1 p2 : Int) (v7 : List Int) (v8 : Int) : LSt := ⟨[(0, .cells [ai p0.k, ai p0.n, .sl (flat tmCells p0.sub) (List.length p0.sub) .no])], 1, [], 0, []⟩
def g30L62634E0 (j : Nat → Value) (p0 : Tm) (p1 p2 v8 : Int) (r7 : List Int) (v10 : Int) (v7 : List Int) := sp j 55 0 [(1, ai p1), (2, ai p2), (3, .mp 0 0), (7, .sl (flat intC v7) (List.length v7) (.st 0 1)), (8, ai v8), (9, .sl (flat intC r7) (List.length r7) .no), (10, ai v10)]
def g30L62634S0 (p0 : Tm) (p1 p2 v8 : Int) (r7 : List Int) (v10 : Int) (v7 : List Int) : LSt := ⟨[(0, .cells [ai p0.k, ai p0.n, .sl (flat tmCells p0.sub) (List.length p0.sub) .no])], 1, [0], 1, []⟩
def g30L62634E1 (j : Nat → Value) (p0 : Tm) (p1 p2 v8 : Int) (r7 : List Int) (v10 : Int) (v7 : List Int) := sp j 55 0 [(1, ai p1), (2, ai p2), (3, .mp 0 0), (7, .sl (flat intC v7) (List.length v7) .no), (8, ai v8), (9, .sl (flat intC r7) (List.length r7) .no), (10, ai v10)]
def g30L62634S1 (p0 : Tm) (p1 p2 v8 : Int) (r7 : List Int) (v10 : Int) (v7 : List Int) : LSt := ⟨[(0, .cells [ai p0.k, ai p0.n, .sl (flat tmCells p0.sub) (List.length p0.sub) .no])], 1, [], 0, []⟩
def g30L62634E2 (j : Nat → Value) (p0 : Tm) (p1 p2 v8 : Int) (r7 : List Int) (v10 : Int) (v7 : List Int) := sp j 55 0 [(1, ai p1), (2, ai p2), (3, .mp 0 0), (7, .sl (flat intC v7) (List.length v7) .full), (8, ai v8), (9, .sl (flat intC r7) (List.length r7) .no), (10, ai v10)]
def g30L62634S2 (p0 : Tm) (p1 p2 v8 : Int) (r7 : List Int) (v10 : Int) (v7 : List Int) : LSt := ⟨[(0, .cells [ai p0.k, ai p0.n, .sl (flat tmCells p0.sub) (List.length p0.sub) .no])], 1, [], 0, []⟩
abbrev K30 (p0 : Tm) (p1 p2 : Int) (r : List Int) (C : Cf) : Prop := C 30 [] [tmA p0, ai p1, ai p2] (.sl (flat intC r) (List.length r) .no) [] 0
theorem q30 : Qf 30 Tryz.f30 := ⟨Tryz.func30, by kernel_rfl⟩
theorem k30 {p0 p1 p2 r} (h : K30 p0 p1 p2 r Ci) : K30 p0 p1 p2 r Ct := ⟨h, ⟨⟨tv, tv, ⟨tv, dT _⟩, tv⟩, tv, tv, tv⟩, forall_nil, dI _, forall_nil⟩
theorem a30_30L49119_30L62634 : ∀ qq : Nat, (∀ p0 p1 p2 r, e30 qq p0 p1 p2 = some r → K30 p0 p1 p2 r Ct) ∧ (∀ p0 p1 p2 v7 v8 r, e30L49119 qq p0 p1 p2 v7 v8 = some r → (∀ j, Dl Tryz.prog 0 (inn (inn (rgt (lft (rgt (rgt (rgt (bod Tryz.f30)))))))) (g30L49119E0 j p0 p1 p2 v7 v8) (g30L49119S0 p0 p1 p2 v7 v8) (frameQ Tryz.prog 0 (FinQ Tryz.prog 0 Tryz.f30 (.sl (flat intC r) (List.length r) .no) [] 0) [.blk 0, .seq (rgt (rgt (rgt (rgt (bod Tryz.f30)))))])) ∧ (∀ j, Dl Tryz.prog 0 (inn (inn (rgt (lft (rgt (rgt (rgt (bod Tryz.f30)))))))) (g30L49119E1 j p0 p1 p2 v7 v8) (g30L49119S1 p0 p1 p2 v7 v8) (frameQ Tryz.prog 0 (FinQ Tryz.prog 0 Tryz.f30 (.sl (flat intC r) (List.length r) .no) [] 0) [.blk 0, .seq (rgt (rgt (rgt (rgt (bod Tryz.f30)))))])) ∧ (∀ j, Dl Tryz.prog 0 (inn (inn (rgt (lft (rgt (rgt (rgt (bod Tryz.f30)))))))) (g30L49119E2 j p0 p1 p2 v7 v8) (g30L49119S2 p0 p1 p2 v7 v8) (frameQ Tryz.prog 0 (FinQ Tryz.prog 0 Tryz.f30 (.sl (flat intC r) (List.length r) .no) [] 0) [.blk 0, .seq (rgt (rgt (rgt (rgt (bod Tryz.f30)))))]))) ∧ (∀ p0 p1 p2 v8 r7 v10 v7 r, e30L62634 qq p0 p1 p2 v8 r7 v10 v7 = some r → (∀ j, Dl Tryz.prog 0 (inn (inn (rgt (rgt (inn (lft (rgt (inn (inn (rgt (lft (rgt (rgt (rgt (bod Tryz.f30))))))))))))))) (g30L62634E0 j p0 p1 p2 v8 r7 v10 v7) (g30L62634S0 p0 p1 p2 v8 r7 v10 v7) (frameQ Tryz.prog 0 (FinQ Tryz.prog 0 Tryz.f30 (.sl (flat intC r) (List.length r) .no) [] 0) [.blk 2, .blk 1, .seq (rgt (rgt (inn (inn (rgt (lft (rgt (rgt (rgt (bod Tryz.f30)))))))))), .loop (inn (inn (rgt (lft (rgt (rgt (rgt (bod Tryz.f30)))))))), .blk 0, .seq (rgt (rgt (rgt (rgt (bod Tryz.f30)))))])) ∧ (∀ j, Dl Tryz.prog 0 (inn (inn (rgt (rgt (inn (lft (rgt (inn (inn (rgt (lft (rgt (rgt (rgt (bod Tryz.f30))))))))))))))) (g30L62634E1 j p0 p1 p2 v8 r7 v10 v7) (g30L62634S1 p0 p1 p2 v8 r7 v10 v7) (frameQ Tryz.prog 0 (FinQ Tryz.prog 0 Tryz.f30 (.sl (flat intC r) (List.length r) .no) [] 0) [.blk 2, .blk 1, .seq (rgt (rgt (inn (inn (rgt (lft (rgt (rgt (rgt (bod Tryz.f30)))))))))), .loop (inn (inn (rgt (lft (rgt (rgt (rgt (bod Tryz.f30)))))))), .blk 0, .seq (rgt (rgt (rgt (rgt (bod Tryz.f30)))))])) ∧ (∀ j, Dl Tryz.prog 0 (inn (inn (rgt (rgt (inn (lft (rgt (inn (inn (rgt (lft (rgt (rgt (rgt (bod Tryz.f30))))))))))))))) (g30L62634E2 j p0 p1 p2 v8 r7 v10 v7) (g30L62634S2 p0 p1 p2 v8 r7 v10 v7) (frameQ Tryz.prog 0 (FinQ Tryz.prog 0 Tryz.f30 (.sl (flat intC r) (List.length r) .no) [] 0) [.blk 2, .blk 1, .seq (rgt (rgt (inn (inn (rgt (lft (rgt (rgt (rgt (bod Tryz.f30)))))))))), .loop (inn (inn (rgt (lft (rgt (rgt (rgt (bod Tryz.f30)))))))), .blk 0, .seq (rgt (rgt (rgt (rgt (bod Tryz.f30)))))]))) := by
 intro qq
 induction qq with
 | zero =>
  exact ⟨fun _ _ _ _ h => nn h, fun _ _ _ _ _ _ h => nn h, fun _ _ _ _ _ _ _ _ h => nn h⟩
 | succ qq ih =>
  obtain ⟨ih30, ih30L49119, ih30L62634⟩ := ih
  refine ⟨?_, ?_, ?_⟩
  intro p0 p1 p2 r h
  rw [e30] at h
  rcases spl h with ⟨h1, h⟩ | ⟨h1, h⟩
  obtain ⟨l2, h3, h⟩ := obind h
  exact k30 (tH q30 0 [] [0] [0] [1, 2, 3, 7, 8] (oD (dI l2) <| oD (dT p0.sub) <| oP 2 (apS34 h3 (by simp)) <| oB 2 h1 o0) ((ih30L49119 _ _ _ _ _ _ h).1))
  have k := oB 2 h1 o0
  rcases spl h with ⟨h4, h⟩ | ⟨h4, h⟩
  obtain ⟨l5, h6, h⟩ := obind h
  exact k30 (tH q30 0 [] [0] [0] [1, 2, 3, 7, 8] (oD (dI l5) <| oD (dT p0.sub) <| oP 2 (apS34 h6 (by simp)) <| oB 1 h4 k) ((ih30L49119 _ _ _ _ _ _ h).1))
  exact k30 (tH q30 0 [] [0] [] [1, 2, 3, 7, 8] (oD (dI ([] : List Int)) <| oD (dT p0.sub) <| oB 1 h4 k) ((ih30L49119 _ _ _ _ _ _ h).2.2))
  intro p0 p1 p2 v7 v8 r h
  rw [e30L49119] at h
  refine ⟨?_, ?_, ?_⟩
  rcases spl h with ⟨h4, h⟩ | ⟨h4, h⟩
  obtain ⟨x5, h6, h⟩ := obind h
  obtain ⟨r7, h8, h⟩ := obind h
  exact fun j => lH 0 [] [0] [0] [1, 2, 3, 7, 8, 9, 10] (oD (dI r7) <| oD (dI v7) <| oD (dT p0.sub) <| oC 1 [] (ih30 _ _ _ _ h8) <| oA 1 (ix23 (o := .no) h6) <| oB 2 h4 o0) ((ih30L62634 _ _ _ _ _ _ _ _ h).1)
  obtain rfl := sj h
  exact fun j => lF 0 [] (oD (dI v7) <| oB 2 h4 o0)
  rcases spl h with ⟨h4, h⟩ | ⟨h4, h⟩
  obtain ⟨x5, h6, h⟩ := obind h
  obtain ⟨r7, h8, h⟩ := obind h
  exact fun j => lH 0 [] [0] [] [1, 2, 3, 7, 8, 9, 10] (oD (dI r7) <| oD (dI v7) <| oD (dT p0.sub) <| oC 1 [] (ih30 _ _ _ _ h8) <| oA 1 (ix23 (o := .no) h6) <| oB 2 h4 o0) ((ih30L62634 _ _ _ _ _ _ _ _ h).2.1)
  obtain rfl := sj h
  exact fun j => lF 0 [] (oD (dI v7) <| oB 2 h4 o0)
  rcases spl h with ⟨h4, h⟩ | ⟨h4, h⟩
  obtain ⟨x5, h6, h⟩ := obind h
  obtain ⟨r7, h8, h⟩ := obind h
  exact fun j => lH 0 [] [0] [] [1, 2, 3, 7, 8, 9, 10] (oD (dI r7) <| oD (dI v7) <| oD (dT p0.sub) <| oC 1 [] (ih30 _ _ _ _ h8) <| oA 1 (ix23 (o := .no) h6) <| oB 2 h4 o0) ((ih30L62634 _ _ _ _ _ _ _ _ h).2.2)
  obtain rfl := sj h
  exact fun j => lF 0 [] (oD (dI v7) <| oB 2 h4 o0)
  intro p0 p1 p2 v8 r7 v10 v7 r h
  rw [e30L62634] at h
  refine ⟨?_, ?_, ?_⟩
  rcases spl h with ⟨h9, h⟩ | ⟨h9, h⟩
  obtain ⟨x10, h11, h⟩ := obind h
  obtain ⟨r12, h13, h⟩ := obind h
  exact fun j => lH 1 [] [0] [] [1, 2, 3, 7, 8, 9, 10] (oD (dI r7) <| oD (dI r12) <| oD (dT p0.sub) <| oC 1 [] (c81 h13) <| oA 0 (ix34 (o := .no) h11) <| oB 1 h9 o0) ((ih30L62634 _ _ _ _ _ _ _ _ h).2.1)
  exact fun j => lH 1 [] [0] [0] [1, 2, 3, 7, 8] (oD (dI v7) <| oD (dT p0.sub) <| oB 1 h9 o0) ((ih30L49119 _ _ _ _ _ _ h).1)
  rcases spl h with ⟨h9, h⟩ | ⟨h9, h⟩
  obtain ⟨x10, h11, h⟩ := obind h
  obtain ⟨r12, h13, h⟩ := obind h
  exact fun j => lH 1 [] [0] [] [1, 2, 3, 7, 8, 9, 10] (oD (dI r7) <| oD (dI r12) <| oD (dT p0.sub) <| oC 1 [] (c81 h13) <| oA 0 (ix34 (o := .no) h11) <| oB 1 h9 o0) ((ih30L62634 _ _ _ _ _ _ _ _ h).2.1)
  exact fun j => lH 1 [] [0] [] [1, 2, 3, 7, 8] (oD (dI v7) <| oD (dT p0.sub) <| oB 1 h9 o0) ((ih30L49119 _ _ _ _ _ _ h).2.1)
  rcases spl h with ⟨h9, h⟩ | ⟨h9, h⟩
  obtain ⟨x10, h11, h⟩ := obind h
  obtain ⟨r12, h13, h⟩ := obind h
  exact fun j => lH 1 [] [0] [] [1, 2, 3, 7, 8, 9, 10] (oD (dI r7) <| oD (dI r12) <| oD (dT p0.sub) <| oC 1 [] (c81 h13) <| oA 0 (ix34 (o := .no) h11) <| oB 1 h9 o0) ((ih30L62634 _ _ _ _ _ _ _ _ h).2.1)
  exact fun j => lH 1 [] [0] [] [1, 2, 3, 7, 8] (oD (dI v7) <| oD (dT p0.sub) <| oB 1 h9 o0) ((ih30L49119 _ _ _ _ _ _ h).2.2)
theorem c30 {qq p0 p1 p2 r} (h : e30 qq p0 p1 p2 = some r) : K30 p0 p1 p2 r Ct := (a30_30L49119_30L62634 _).1 _ _ _ _ h
theorem tot_put : ∀ (r l : List Int) (n : Int) (v : Nat) (acc : List Int) (done : Bool), l.drop v = r → l.length ≤ 8192 → acc.length ≤ v + 1 → (done = false → acc.length ≤ v) → v ≤ l.length →
    Tot (fun q => e81L27409 q l n acc done (v : Int)) fun o => o.length ≤ acc.length + r.length + 1 ∧ (done = true → o.length ≤ acc.length + r.length) ∧ ∀ x, x ∈ o ↔ x ∈ acc ∨ x ∈ r ∨ (done = false ∧ x = n)
  | [], l, n, v, acc, done, hd, hl, ha, hb, hv => by
    refine Tot.succ ?_
    simp only [e81L27409]
    cases done with
    | true =>
      refine Tot.ite (fun _ => Tot.ite (fun h => ?_) fun _ => Tot.ret ⟨(by simp <;> omega), fun _ => (by simp), fun x => by simp⟩) (fun h => by cases h)
      rw [drop_nil hd] at h; cases h
    | false =>
      refine Tot.ite (fun h => by cases h) (fun _ => Tot.ite (fun h => ?_) fun _ => Tot.pure (gapp_ok (by simp <;> omega)) (Tot.ret ⟨(by simp), fun h => (by cases h), fun x => by simp⟩))
      rw [drop_nil hd] at h; cases h
  | y :: r, l, n, v, acc, done, hd, hl, ha, hb, hv => by
    have hlt := drop_lt hd
    refine Tot.succ ?_
    simp only [e81L27409]
    cases done with
    | true =>
      refine Tot.ite (fun _ => Tot.ite (fun _ => Tot.pure (drop_idx hd) (Tot.pure (gapp_ok (by simp <;> omega)) ?_)) fun h => ?_) (fun h => by cases h)
      · rw [w64_nat v (by omega)]
        refine (tot_put r l n (v + 1) (acc ++ [y]) true (drop_next hd) hl (by simp <;> omega) (fun h => by cases h) (by omega)).mono fun o ho => ?_
        refine ⟨by have := ho.2.1 rfl; simp at this ⊢ <;> omega, fun _ => by have := ho.2.1 rfl; simp at this ⊢ <;> omega, fun x => ?_⟩
        rw [ho.2.2 x]; simp [or_assoc]
      · rw [drop_dec hd] at h; cases h
    | false =>
      have hb' := hb rfl
      refine Tot.ite (fun h => by cases h) (fun _ => Tot.ite (fun _ => Tot.pure (drop_idx hd) (Tot.ite (fun h1 => Tot.ite (fun h2 => Tot.pure (gapp_ok (by simp <;> omega)) (Tot.pure (gapp_ok (by simp <;> omega)) ?_)) fun h2 => Tot.pure (gapp_ok (by simp <;> omega)) ?_) fun h1 => Tot.pure (gapp_ok (by simp <;> omega)) ?_)) fun h => ?_)
      · rw [w64_nat v (by omega)]
        refine (tot_put r l n (v + 1) (acc ++ [n] ++ [y]) true (drop_next hd) hl (by simp <;> omega) (fun h => by cases h) (by omega)).mono fun o ho => ?_
        refine ⟨by have := ho.2.1 rfl; simp at this ⊢ <;> omega, fun h => (by cases h), fun x => ?_⟩
        rw [ho.2.2 x]; simp; grind
      · rw [w64_nat v (by omega)]
        refine (tot_put r l n (v + 1) (acc ++ [y]) true (drop_next hd) hl (by simp <;> omega) (fun h => by cases h) (by omega)).mono fun o ho => ?_
        have e : y = n := by simp at h1 h2; omega
        subst e
        refine ⟨by have := ho.2.1 rfl; simp at this ⊢ <;> omega, fun h => (by cases h), fun x => ?_⟩
        rw [ho.2.2 x]; simp; grind
      · rw [w64_nat v (by omega)]
        refine (tot_put r l n (v + 1) (acc ++ [y]) false (drop_next hd) hl (by simp <;> omega) (fun _ => by simp <;> omega) (by omega)).mono fun o ho => ?_
        refine ⟨by have := ho.1; simp at this ⊢; omega, fun h => (by cases h), fun x => ?_⟩
        rw [ho.2.2 x]; simp; grind
      · rw [drop_dec hd] at h; cases h
theorem tot_put0 (l : List Int) (n : Int) (hl : l.length ≤ 8192) : Tot (fun q => e81 q l n) fun o => o.length ≤ l.length + 1 ∧ ∀ x, x ∈ o ↔ x ∈ l ∨ x = n := by
  simp only [e81]
  refine (tot_put l l n 0 [] false rfl hl (by simp) (fun _ => by simp) (by omega)).mono fun o ho => ⟨by have := ho.1; simpa using this, fun x => by rw [ho.2.2 x]; simp⟩
theorem tot_NumIn {p : Tm} {a b : Int} {v : Nat} {r7 : List Int} {Q : List Int → Prop} {N : Nat} {S : Int → Prop} (hN : N ≤ 8192) (hr : r7.length ≤ 8192) (hv : v < 9223372036854775807)
    (K : ∀ acc : List Int, acc.length ≤ N → (∀ x, x ∈ acc ↔ S x) → Tot (fun q => e30L49119 q p a b acc ((v + 1 : Nat) : Int)) Q) :
    ∀ (m : List Int) (w : Nat) (acc : List Int), r7.drop w = m → acc.length + m.length ≤ N → (∀ x, (x ∈ acc ∨ x ∈ m) ↔ S x) → Tot (fun q => e30L62634 q p a b (v : Int) r7 (w : Int) acc) Q
  | [], w, acc, hd, hl, hm => by
    refine Tot.succ ?_
    simp only [e30L62634]
    refine Tot.ite (fun h => ?_) fun _ => ?_
    · rw [drop_nil hd] at h; cases h
    · rw [w64_nat v (by omega)]
      exact K acc (by simpa using hl) fun x => by simpa using hm x
  | y :: m, w, acc, hd, hl, hm => by
    have hlt := drop_lt hd
    refine Tot.succ ?_
    simp only [e30L62634]
    refine Tot.ite (fun _ => Tot.pure (drop_idx hd) ((tot_put0 acc y (by simp at hl; omega)).bind fun o ho => ?_)) fun h => ?_
    · rw [w64_nat w (by omega)]
      refine tot_NumIn hN hr hv K m (w + 1) o (drop_next hd) (by simp at hl; have := ho.1; omega) fun x => ?_
      rw [← hm x, ho.2 x]; simp [or_assoc]
    · rw [drop_dec hd] at h; cases h
def Same (r m : List Int) : Prop := ∀ x, x ∈ r ↔ x ∈ m
mutual
theorem tot_Numbers : ∀ (t : Tm) (a b : Int), t.Ok → t.nodes ≤ 8192 → Tot (fun q => e30 q t a b) fun o => o.length ≤ t.nodes ∧ Same o (colT t a b)
  | .mk k n l, a, b, ho, hn => by
    refine Tot.succ ?_
    simp only [e30, Tm.k, Tm.n]
    rw [Tm.nodes] at hn
    have key : ∀ acc : List Int, acc.length ≤ 1 → acc = (if k = a ∨ k = b then [n] else []) → Tot (fun q => e30L49119 q (.mk k n l) a b acc 0) fun o => o.length ≤ (Tm.mk k n l).nodes ∧ Same o (colT (.mk k n l) a b) := by
      intro acc h1 h2
      refine (tot_NumbersL l (.mk k n l) 0 a b acc rfl ho.1 ho.2 (by omega)).mono fun o ho => ⟨by rw [Tm.nodes]; have := ho.1; omega, fun x => ?_⟩
      rw [ho.2 x, colT, h2]; simp
    refine Tot.ite (fun h => Tot.pure (gapp_ok (by simp)) ?_) fun h => Tot.ite (fun h' => Tot.pure (gapp_ok (by simp)) ?_) fun h' => ?_
    · exact key _ (by simp) (by rw [if_pos (.inl (by simpa using h))]; rfl)
    · exact key _ (by simp) (by rw [if_pos (.inr (by simpa using h'))]; rfl)
    · exact key _ (by simp) (by rw [if_neg (by simp at h h'; simp [h, h'])])
theorem tot_NumbersL : ∀ (l : List Tm) (p : Tm) (v : Nat) (a b : Int) (acc : List Int), p.sub.drop v = l → p.sub.length < 9223372036854775808 → OkL l → acc.length + nodesL l ≤ 8192 →
    Tot (fun q => e30L49119 q p a b acc (v : Int)) fun o => o.length ≤ acc.length + nodesL l ∧ ∀ x, x ∈ o ↔ x ∈ acc ∨ x ∈ colL l a b
  | [], p, v, a, b, acc, hd, hl, ho, hn => by
    refine Tot.succ ?_
    simp only [e30L49119]
    refine Tot.ite (fun h => ?_) fun _ => Tot.ret ⟨by omega, fun x => by rw [colL]; simp⟩
    rw [drop_nil hd] at h; cases h
  | t :: l, p, v, a, b, acc, hd, hl, ho, hn => by
    have hlt := drop_lt hd
    rw [nodesL] at hn
    have IH := fun acc' h => tot_NumbersL l p (v + 1) a b acc' (drop_next hd) hl ho.2 h
    refine Tot.succ ?_
    simp only [e30L49119]
    refine Tot.ite (fun _ => Tot.pure (drop_idx hd) ((tot_Numbers t a b ho.1 (by omega)).bind fun r7 hr => ?_)) fun h => ?_
    · refine tot_NumIn (N := acc.length + t.nodes) (S := fun x => x ∈ acc ∨ x ∈ colT t a b) (by omega) (by have := hr.1; omega) (by omega) (fun acc' h1 h2 => ?_) r7 0 acc rfl (by have := hr.1; omega) fun x => by rw [hr.2 x]
      refine (IH acc' (by omega)).mono fun o ho => ⟨by rw [nodesL]; have := ho.1; omega, fun x => ?_⟩
      rw [ho.2 x, h2 x, colL]; simp [or_assoc]
    · rw [drop_dec hd] at h; cases h
end
def e80 (qq : Nat) (p0 : Tm) (p1 : Int) : Option (Int) :=
 if p1 == 1 then
 if p0.k != 5 then
 some 1
 else
 some 0
 else
 some 0
abbrev K80 (p0 : Tm) (p1 r : Int) (C : Cf) : Prop := C 80 [] [tmA p0, ai p1] (ai r) [] 0
theorem q80 : Qf 80 Tryz.f80 := ⟨Tryz.func80, by kernel_rfl⟩
theorem k80 {p0 p1 r} (h : K80 p0 p1 r Ci) : K80 p0 p1 r Ct := ⟨h, ⟨⟨tv, tv, ⟨tv, dT _⟩, tv⟩, tv, tv⟩, forall_nil, tv, forall_nil⟩
theorem c80 {qq p0 p1 r} (h : e80 qq p0 p1 = some r) : K80 p0 p1 r Ct := by
 unfold e80 at h
 rcases spl h with ⟨h1, h⟩ | ⟨h1, h⟩
 have k := oB 0 h1 o0
 rcases spl h with ⟨h2, h⟩ | ⟨h2, h⟩
 obtain rfl := sj h
 exact k80 (tF q80 0 [] (oB 1 h2 k))
 obtain rfl := sj h
 exact k80 (tF q80 0 [] (oB 1 h2 k))
 obtain rfl := sj h
 exact k80 (tF q80 0 [] (oB 0 h1 o0))
def undR (k : Int) (i : Nat) : Int := if i = 1 ∧ k ≠ 5 then 1 else 0
theorem ev_rBeneath (t : Tm) (i : Nat) : Evt (fun q => e80 q t (i : Int)) (undR t.k i) := by
  refine Evt.mk fun q => ?_
  simp only [e80, undR]
  by_cases h1 : i = 1
  · subst h1; by_cases h5 : t.k = 5 <;> simp [h5]
  · have : ¬ ((i : Int) = 1) := by omega
    simp [h1, this]
mutual
def e29 : Nat → Tm → Int → Option (Bool)
 | 0, _, _ => none
 | qq + 1, p0, p1 =>
 if p0.k == 1 then
 some (p0.n == p1)
 else
 e29L11867 qq p0 p1 0
def e29L11867 : Nat → Tm → Int → Int → Option (Bool)
 | 0, _, _, _ => none
 | qq + 1, p0, p1, v5 =>
 if decide (v5 < (List.length p0.sub : Int)) then
 gidx p0.sub v5 >>= fun x3 =>
 e80 qq p0 v5 >>= fun r5 =>
 e29 qq x3 (w64 (p1 + r5)) >>= fun r7 =>
 if r7 then
 some true
 else
 e29L11867 qq p0 p1 (w64 (v5 + 1))
 else
 some false
end
def g29L11867E0 (j : Nat → Value) (p0 : Tm) (p1 v5 : Int) := sp j 31 0 [(1, ai p1), (2, .mp 0 0), (5, ai v5)]
def g29L11867S0 (p0 : Tm) (p1 v5 : Int) : LSt := ⟨[(0, .cells [ai p0.k, ai p0.n, .sl (flat tmCells p0.sub) (List.length p0.sub) .no])], 1, [], 0, []⟩
abbrev K29 (p0 : Tm) (p1 : Int) (r : Bool) (C : Cf) : Prop := C 29 [] [tmA p0, ai p1] (ab r) [] 0
theorem q29 : Qf 29 Tryz.f29 := ⟨Tryz.func29, by kernel_rfl⟩
theorem k29 {p0 p1 r} (h : K29 p0 p1 r Ci) : K29 p0 p1 r Ct := ⟨h, ⟨⟨tv, tv, ⟨tv, dT _⟩, tv⟩, tv, tv⟩, forall_nil, tv, forall_nil⟩
theorem a29_29L11867 : ∀ qq : Nat, (∀ p0 p1 r, e29 qq p0 p1 = some r → K29 p0 p1 r Ct) ∧ (∀ p0 p1 v5 r, e29L11867 qq p0 p1 v5 = some r → (∀ j, Dl Tryz.prog 0 (inn (inn (rgt (lft (rgt (rgt (bod Tryz.f29))))))) (g29L11867E0 j p0 p1 v5) (g29L11867S0 p0 p1 v5) (frameQ Tryz.prog 0 (FinQ Tryz.prog 0 Tryz.f29 (ab r) [] 0) [.blk 0, .seq (rgt (rgt (rgt (bod Tryz.f29))))]))) := by
 intro qq
 induction qq with
 | zero =>
  exact ⟨fun _ _ _ h => nn h, fun _ _ _ _ h => nn h⟩
 | succ qq ih =>
  obtain ⟨ih29, ih29L11867⟩ := ih
  refine ⟨?_, ?_⟩
  intro p0 p1 r h
  rw [e29] at h
  rcases spl h with ⟨h1, h⟩ | ⟨h1, h⟩
  obtain rfl := sj h
  exact k29 (tF q29 2 [] (oB 1 h1 o0))
  exact k29 (tH q29 0 [] [0] [] [1, 2, 5] (oD (dT p0.sub) <| oB 1 h1 o0) (ih29L11867 _ _ _ _ h))
  intro p0 p1 v5 r h
  rw [e29L11867] at h
  rcases spl h with ⟨h2, h⟩ | ⟨h2, h⟩
  obtain ⟨x3, h4, h⟩ := obind h
  obtain ⟨r5, h6, h⟩ := obind h
  obtain ⟨r7, h8, h⟩ := obind h
  have k := oC 2 [] (c80 h6) <| oA 1 (ix23 (o := .no) h4) <| oB 2 h2 o0
  rcases spl h with ⟨h9, h⟩ | ⟨h9, h⟩
  obtain rfl := sj h
  exact fun j => lF 0 [] (oK 1 [] h9 (ih29 _ _ _ h8) k)
  exact fun j => lH 1 [] [0] [] [1, 2, 5] (oD (dT p0.sub) <| oK 1 [] h9 (ih29 _ _ _ h8) k) (ih29L11867 _ _ _ _ h)
  obtain rfl := sj h
  exact fun j => lF 0 [] (oB 2 h2 o0)
theorem c29 {qq p0 p1 r} (h : e29 qq p0 p1 = some r) : K29 p0 p1 r Ct := (a29_29L11867 _).1 _ _ _ h
mutual
def e5L38039 : Nat → (List Int) → (List Int) → Int → Option (Bool)
 | 0, _, _, _ => none
 | qq + 1, r16, r18, v13 =>
 if decide (v13 < (List.length r16 : Int)) then
 e5L34636 qq r16 r18 v13 false 0
 else
 e27 qq >>= fun r21 =>
 some r21
def e5L34636 : Nat → (List Int) → (List Int) → Int → Bool → Int → Option (Bool)
 | 0, _, _, _, _, _ => none
 | qq + 1, r16, r18, v13, v14, v15 =>
 if v14 then
 if decide (v15 < (List.length r18 : Int)) then
 e5L34636 qq r16 r18 v13 true (w64 (v15 + 1))
 else
 e5L38039 qq r16 r18 (w64 (v13 + 1))
 else
 if decide (v15 < (List.length r18 : Int)) then
 gidx r16 v13 >>= fun x23 =>
 gidx r18 v15 >>= fun x25 =>
 if x23 == x25 then
 e5L34636 qq r16 r18 v13 true (w64 (v15 + 1))
 else
 e5L34636 qq r16 r18 v13 false (w64 (v15 + 1))
 else
 some false
end
def e5L28837 : Nat → Tm → U8 → (Tm × Int × Int) → Int → Option (Bool)
 | 0, _, _, _, _ => none
 | qq + 1, p1, p2, r4, v10 =>
 if decide (v10 < 6) then
 e29 qq r4.1 (w64 (v10 + (w64 ((Int.tmod p2 4))))) >>= fun r10 =>
 if r10 then
 e29 qq p1 (w64 (v10 + (w64 ((Int.tmod p2 4))))) >>= fun r13 =>
 if r13 then
 e5L28837 qq p1 p2 r4 (w64 (v10 + 1))
 else
 some false
 else
 e5L28837 qq p1 p2 r4 (w64 (v10 + 1))
 else
 e30 qq r4.1 8 8 >>= fun r16 =>
 e30 qq p1 8 8 >>= fun r18 =>
 e5L38039 qq r16 r18 0
def e5 (qq : Nat) (p0 : List Ent) (p1 : Tm) (p2 : U8) : Option (Bool) :=
 e26 qq p0 p1 0 >>= fun r1 =>
 if r1 then
 e28 qq p0 p1 200 >>= fun r4 =>
 if r4.2.2 != 0 then
 e27 qq >>= fun r7 =>
 some r7
 else
 e5L28837 qq p1 p2 r4 0
 else
 e27 qq >>= fun r9 =>
 some r9
def g5L28837E0 (j : Nat → Value) (p1 : Tm) (p2 : U8) (r4 : Tm × Int × Int) (v10 : Int) := sp j 83 0 [(2, .val (.int .u8 p2)), (4, .mp 0 0), (7, .mp 1 0), (10, ai v10)]
def g5L28837S0 (p1 : Tm) (p2 : U8) (r4 : Tm × Int × Int) (v10 : Int) : LSt := ⟨[(0, .cells [ai p1.k, ai p1.n, .sl (flat tmCells p1.sub) (List.length p1.sub) .no]), (1, .cells [ai r4.1.k, ai r4.1.n, .sl (flat tmCells r4.1.sub) (List.length r4.1.sub) .no])], 2, [], 0, []⟩
def g5L38039E0 (j : Nat → Value) (r16 r18 : List Int) (v13 : Int) := sp j 83 0 [(11, .sl (flat intC r16) (List.length r16) .no), (12, .sl (flat intC r18) (List.length r18) .no), (13, ai v13)]
def g5L38039S0 (r16 r18 : List Int) (v13 : Int) : LSt := ⟨[], 0, [], 0, []⟩
def g5L34636E0 (j : Nat → Value) (r16 r18 : List Int) (v13 : Int) (v14 : Bool) (v15 : Int) := sp j 83 0 [(11, .sl (flat intC r16) (List.length r16) .no), (12, .sl (flat intC r18) (List.length r18) .no), (13, ai v13), (14, ab v14), (15, ai v15)]
def g5L34636S0 (r16 r18 : List Int) (v13 : Int) (v14 : Bool) (v15 : Int) : LSt := ⟨[], 0, [], 0, []⟩
abbrev K5 (p0 : List Ent) (p1 : Tm) (p2 : U8) (r : Bool) (C : Cf) : Prop := C 5 [] [.sl (flat entL p0) (List.length p0) .no, tmA p1, .val (.int .u8 p2)] (ab r) [] 0
theorem q5 : Qf 5 Tryz.f5 := ⟨Tryz.func5, by kernel_rfl⟩
theorem k5 {p0 p1 p2 r} (h : K5 p0 p1 p2 r Ci) : K5 p0 p1 p2 r Ct := ⟨h, ⟨⟨tv, dE _⟩, ⟨tv, tv, ⟨tv, dT _⟩, tv⟩, tv, tv⟩, forall_nil, tv, forall_nil⟩
theorem a5L38039_5L34636 : ∀ qq : Nat, (∀ r16 r18 v13 r, e5L38039 qq r16 r18 v13 = some r → (∀ j, Dl Tryz.prog 0 (inn (inn (rgt (lft (rgt (rgt (rgt (rgt (rgt (rgt (rgt (bod Tryz.f5)))))))))))) (g5L38039E0 j r16 r18 v13) (g5L38039S0 r16 r18 v13) (frameQ Tryz.prog 0 (FinQ Tryz.prog 0 Tryz.f5 (ab r) [] 0) [.blk 2, .seq (rgt (rgt (rgt (rgt (rgt (rgt (rgt (rgt (bod Tryz.f5)))))))))]))) ∧ (∀ r16 r18 v13 v14 v15 r, e5L34636 qq r16 r18 v13 v14 v15 = some r → (∀ j, Dl Tryz.prog 0 (inn (inn (rgt (lft (rgt (inn (lft (rgt (inn (inn (rgt (lft (rgt (rgt (rgt (rgt (rgt (rgt (rgt (bod Tryz.f5)))))))))))))))))))) (g5L34636E0 j r16 r18 v13 v14 v15) (g5L34636S0 r16 r18 v13 v14 v15) (frameQ Tryz.prog 0 (FinQ Tryz.prog 0 Tryz.f5 (ab r) [] 0) [.blk 4, .seq (rgt (rgt (inn (lft (rgt (inn (inn (rgt (lft (rgt (rgt (rgt (rgt (rgt (rgt (rgt (bod Tryz.f5))))))))))))))))), .blk 3, .seq (rgt (rgt (inn (inn (rgt (lft (rgt (rgt (rgt (rgt (rgt (rgt (rgt (bod Tryz.f5)))))))))))))), .loop (inn (inn (rgt (lft (rgt (rgt (rgt (rgt (rgt (rgt (rgt (bod Tryz.f5)))))))))))), .blk 2, .seq (rgt (rgt (rgt (rgt (rgt (rgt (rgt (rgt (bod Tryz.f5)))))))))]))) := by
 intro qq
 induction qq with
 | zero =>
  exact ⟨fun _ _ _ _ h => nn h, fun _ _ _ _ _ _ h => nn h⟩
 | succ qq ih =>
  obtain ⟨ih5L38039, ih5L34636⟩ := ih
  refine ⟨?_, ?_⟩
  intro r16 r18 v13 r h
  rw [e5L38039] at h
  rcases spl h with ⟨h20, h⟩ | ⟨h20, h⟩
  exact fun j => lH 0 [] [] [] [11, 12, 13, 14, 15] (oD (dI r18) <| oD (dI r16) <| oB 1 h20 o0) (ih5L34636 _ _ _ _ _ _ h)
  obtain ⟨r21, h22, h⟩ := obind h
  obtain rfl := sj h
  exact fun j => lF 0 [] (oC 0 [] (c27 h22) <| oB 1 h20 o0)
  intro r16 r18 v13 v14 v15 r h
  rw [e5L34636] at h
  cases v14
  replace h := ifF rfl h
  rcases spl h with ⟨h22, h⟩ | ⟨h22, h⟩
  obtain ⟨x23, h24, h⟩ := obind h
  obtain ⟨x25, h26, h⟩ := obind h
  have k := oA 1 (ix34 (o := .no) h26) <| oA 0 (ix34 (o := .no) h24) <| oB 1 h22 o0
  rcases spl h with ⟨h27, h⟩ | ⟨h27, h⟩
  exact fun j => lH 1 [] [] [] [11, 12, 13, 14, 15] (oD (dI r18) <| oD (dI r16) <| oB 1 h27 k) (ih5L34636 _ _ _ _ _ _ h)
  exact fun j => lH 1 [] [] [] [11, 12, 13, 14, 15] (oD (dI r18) <| oD (dI r16) <| oB 1 h27 k) (ih5L34636 _ _ _ _ _ _ h)
  obtain rfl := sj h
  exact fun j => lF 1 [] (oB 1 h22 o0)
  replace h := ifT rfl h
  rcases spl h with ⟨h21, h⟩ | ⟨h21, h⟩
  exact fun j => lH 1 [] [] [] [11, 12, 13, 14, 15] (oD (dI r18) <| oD (dI r16) <| oB 1 h21 o0) (ih5L34636 _ _ _ _ _ _ h)
  exact fun j => lH 2 [] [] [] [11, 12, 13] (oD (dI r18) <| oD (dI r16) <| oB 1 h21 o0) (ih5L38039 _ _ _ _ h)
theorem l5L28837 : ∀ qq : Nat, (∀ p1 p2 r4 v10 r, e5L28837 qq p1 p2 r4 v10 = some r → (∀ j, Dl Tryz.prog 0 (inn (inn (rgt (lft (rgt (rgt (rgt (rgt (bod Tryz.f5))))))))) (g5L28837E0 j p1 p2 r4 v10) (g5L28837S0 p1 p2 r4 v10) (frameQ Tryz.prog 0 (FinQ Tryz.prog 0 Tryz.f5 (ab r) [] 0) [.blk 0, .seq (rgt (rgt (rgt (rgt (rgt (bod Tryz.f5))))))]))) := by
 intro qq
 induction qq with
 | zero =>
  exact fun _ _ _ _ _ h => nn h
 | succ qq ih =>
  intro p1 p2 r4 v10 r h
  rw [e5L28837] at h
  rcases spl h with ⟨h9, h⟩ | ⟨h9, h⟩
  obtain ⟨r10, h11, h⟩ := obind h
  have k := oB 0 h9 o0
  rcases spl h with ⟨h12, h⟩ | ⟨h12, h⟩
  obtain ⟨r13, h14, h⟩ := obind h
  have k := oK 4 [] h12 (c29 h11) k
  rcases spl h with ⟨h15, h⟩ | ⟨h15, h⟩
  exact fun j => lH 2 [] [0, 1] [] [2, 4, 7, 10] (oD (dT r4.1.sub) <| oD (dT p1.sub) <| oK 4 [] h15 (c29 h14) k) (ih _ _ _ _ _ h)
  obtain rfl := sj h
  exact fun j => lF 1 [] (oK 4 [] h15 (c29 h14) k)
  exact fun j => lH 1 [] [0, 1] [] [2, 4, 7, 10] (oD (dT r4.1.sub) <| oD (dT p1.sub) <| oK 4 [] h12 (c29 h11) k) (ih _ _ _ _ _ h)
  obtain ⟨r16, h17, h⟩ := obind h
  obtain ⟨r18, h19, h⟩ := obind h
  exact fun j => lH 0 [] [] [] [11, 12, 13] (oD (dI r18) <| oD (dI r16) <| oC 1 [] (c30 h19) <| oC 1 [] (c30 h17) <| oB 0 h9 o0) (((a5L38039_5L34636 _).1) _ _ _ _ h)
theorem c5 {qq p0 p1 p2 r} (h : e5 qq p0 p1 p2 = some r) : K5 p0 p1 p2 r Ct := by
 unfold e5 at h
 obtain ⟨r1, h2, h⟩ := obind h
 rcases spl h with ⟨h3, h⟩ | ⟨h3, h⟩
 obtain ⟨r4, h5, h⟩ := obind h
 have k := oC 2 [] (c28 h5) <| oK 1 [] h3 (c26 h2) o0
 rcases spl h with ⟨h6, h⟩ | ⟨h6, h⟩
 obtain ⟨r7, h8, h⟩ := obind h
 obtain rfl := sj h
 exact k5 (tF q5 0 [] (oC 0 [] (c27 h8) <| oB 4 h6 k))
 exact k5 (tH q5 0 [] [0, 1] [] [2, 4, 7, 10] (oD (dT r4.1.sub) <| oD (dT p1.sub) <| oB 4 h6 k) (l5L28837 _ _ _ _ _ _ h))
 obtain ⟨r9, h10, h⟩ := obind h
 obtain rfl := sj h
 exact k5 (tF q5 0 [] (oC 1 [] (c27 h10) <| oK 1 [] h3 (c26 h2) o0))
theorem undR_eq (k : Int) (i : Nat) (b : Int) : undR' k i b = b + undR k i := by
  unfold undR' undR
  by_cases h : i = 1 ∧ k ≠ 5
  · rw [if_pos h, if_pos h]
  · rw [if_neg h, if_neg h]; omega
theorem undR_01 (k : Int) (i : Nat) : 0 ≤ undR k i ∧ undR k i ≤ 1 := by unfold undR; split <;> omega
mutual
theorem ev_rHas : ∀ (t : Tm) (b i : Int), goodT t = true → 0 ≤ b → 0 ≤ i → i + b + t.high ≤ 4611686018427387904 → Evt (fun q => e29 q t (i + b)) (decide (i ∈ lvT t b))
  | .mk k n l, b, i, hg, hb, hi, hs => by
    have hh := goodT_mk hg
    have hn := head_n hh.1
    rw [Tm.high] at hs
    refine Evt.succ ?_
    simp only [e29, Tm.k, Tm.n]
    by_cases hk : k = 1
    · subst hk
      refine Evt.ifT (by decide) (Evt.ret.eq ?_)
      rw [Bool.eq_iff_iff, beq_iff_eq, decide_eq_true_eq, lv_var]
      omega
    · refine Evt.ifF (by simpa using hk) ((ev_rHasL l (.mk k n l) 0 b i rfl (by have := hn.2.2.2.2; simp only [Tm.sub]; omega) hh.2 hb hi (by omega)).eq ?_)
      rw [Bool.eq_iff_iff, decide_eq_true_eq, decide_eq_true_eq, lv_node hk]; rfl
theorem ev_rHasL : ∀ (l : List Tm) (p : Tm) (v : Nat) (b i : Int), p.sub.drop v = l → p.sub.length < 9223372036854775808 → goodL l = true → 0 ≤ b → 0 ≤ i → i + b + 1 + highL l ≤ 4611686018427387904 → Evt (fun q => e29L11867 q p (i + b) (v : Int)) (decide (i ∈ lvL l p.k v b))
  | [], p, v, b, i, hd, hl, hg, hb, hi, hs => by
    refine Evt.succ ?_
    simp only [e29L11867]
    exact Evt.ifF (drop_nil hd) (Evt.ret.eq (decide_eq_false lvL_nil).symm)
  | t :: l, p, v, b, i, hd, hl, hg, hb, hi, hs => by
    have hlt := drop_lt hd
    have hc := goodL_cons hg
    have hu := undR_01 p.k v
    rw [highL] at hs
    refine Evt.succ ?_
    simp only [e29L11867]
    refine Evt.ifT (drop_dec hd) (Evt.pure (drop_idx hd) ((ev_rBeneath p v).bind ?_))
    rw [w64_id (x := i + b + undR p.k v) (by omega) (by omega), show i + b + undR p.k v = i + undR' p.k v b by rw [undR_eq]; omega]
    refine (ev_rHas t (undR' p.k v b) i hc.1 (by have := undR_ge p.k v b; omega) hi (by rw [undR_eq]; omega)).bind ?_
    by_cases h : i ∈ lvT t (undR' p.k v b)
    · exact Evt.ifT (decide_eq_true h) (Evt.ret.eq (decide_eq_true (lvL_cons.2 (.inl h))).symm)
    · refine Evt.ifF (decide_eq_false h) ?_
      rw [w64_nat v (by omega)]
      refine (ev_rHasL l p (v + 1) b i (drop_next hd) hl hc.2 hb hi (by omega)).eq ?_
      rw [Bool.eq_iff_iff, decide_eq_true_eq, decide_eq_true_eq, lvL_cons]
      exact ⟨.inr, fun h' => h'.resolve_left h⟩
end
theorem ev_found (a b : List Int) (ha : a.length ≤ 1073741824) (hb : b.length ≤ 1073741824) (v : Nat) (hv : v < a.length) (hk : Evt (fun q => e5L38039 q a b ((v + 1 : Nat) : Int)) true) :
    ∀ (m w : Nat) (f : Bool), w + m = b.length → (f = true ∨ a[v] ∈ b.drop w) → Evt (fun q => e5L34636 q a b (v : Int) f (w : Int)) true := by
  intro m
  induction m with
  | zero =>
    intro w f hm hf
    have e : b.drop w = [] := List.drop_eq_nil_of_le (by omega)
    rw [e] at hf
    have hf' : f = true := hf.resolve_right (fun h => nomatch h)
    subst hf'
    refine Evt.succ ?_
    simp only [e5L34636]
    refine Evt.ifF (decide_eq_false (by omega)) ?_
    rw [w64_nat v (by omega)]
    exact hk
  | succ m ih =>
    intro w f hm hf
    have hw : w < b.length := by omega
    refine Evt.succ ?_
    simp only [e5L34636]
    have e : b.drop w = b[w] :: b.drop (w + 1) := List.drop_eq_getElem_cons hw
    cases f with
    | true =>
      refine Evt.ifT rfl (Evt.ifT (decide_eq_true (by omega)) ?_)
      rw [w64_nat w (by omega)]
      exact ih (w + 1) true (by omega) (.inl rfl)
    | false =>
      have hf' : a[v] ∈ b.drop w := hf.resolve_left (by decide)
      rw [e] at hf'
      have ga : gidx a (v : Int) = some a[v] := by
        unfold gidx
        rw [if_pos (by omega), show (v : Int).toNat = v by omega, List.getElem?_eq_getElem hv]
      refine Evt.ifF (by decide) (Evt.ifT (decide_eq_true (by omega)) (Evt.pure ga (Evt.pure (drop_idx e) ?_)))
      rw [w64_nat w (by omega)]
      by_cases h : a[v] = b[w]
      · exact Evt.ifT (by simpa using h) (ih (w + 1) true (by omega) (.inl rfl))
      · refine Evt.ifF (by simpa using h) (ih (w + 1) false (by omega) (.inr ?_))
        rcases List.mem_cons.1 hf' with h' | h'
        · exact absurd h' h
        · exact h'
theorem ev_each (a b : List Int) (ha : a.length ≤ 1073741824) (hb : b.length ≤ 1073741824) (hs : ∀ x ∈ a, x ∈ b) : ∀ (m v : Nat), v + m = a.length → Evt (fun q => e5L38039 q a b (v : Int)) true := by
  intro m
  induction m with
  | zero =>
    intro v hm
    refine Evt.succ ?_
    simp only [e5L38039]
    exact Evt.ifF (decide_eq_false (by omega)) (ev_wawake.bind Evt.ret)
  | succ m ih =>
    intro v hm
    have hv : v < a.length := by omega
    refine Evt.succ ?_
    simp only [e5L38039]
    refine Evt.ifT (decide_eq_true (by omega)) ?_
    have := ev_found a b ha hb v hv (ih (v + 1) (by omega)) b.length 0 false (by omega) (.inr (by simpa using hs _ (List.getElem_mem hv)))
    exact this
theorem ev_looseAll (t y : Tm) (c k : Int) (n : Int) (ht : shapedT t = true) (hy : shapedT y = true) (hn : 0 ≤ n) (hl : ∀ j ∈ lvT y 0, j ∈ lvT t 0) (hf : ∀ x ∈ colT y 8 8, x ∈ colT t 8 8) : ∀ (m v : Nat), v + m = 6 → Evt (fun q => e5L28837 q t n (y, c, k) (v : Int)) true := by
  have hst := shapedT_spec ht
  have hsy := shapedT_spec hy
  have h0 : 0 ≤ Int.tmod n 4 := Int.tmod_nonneg 4 hn
  have h1 : Int.tmod n 4 < 4 := Int.tmod_lt_of_pos n (by decide)
  intro m
  induction m with
  | zero =>
    intro v hm
    refine Evt.succ ?_
    simp only [e5L28837]
    refine Evt.ifF (decide_eq_false (by omega)) ?_
    obtain ⟨a, ha, hal, has⟩ := tot_Numbers y 8 8 (shaped_ok hy) hsy.1
    obtain ⟨b, hb, hbl, hbs⟩ := tot_Numbers t 8 8 (shaped_ok ht) hst.1
    refine ha.bind (hb.bind ?_)
    have := ev_each a b (by omega) (by omega) (fun x hx => (hbs x).2 (hf x ((has x).1 hx))) a.length 0 (by omega)
    exact this
  | succ m ih =>
    intro v hm
    refine Evt.succ ?_
    simp only [e5L28837]
    refine Evt.ifT (decide_eq_true (by omega)) ?_
    rw [w64_id (x := Int.tmod n 4) (by omega) (by omega), w64_id (x := (v : Int) + Int.tmod n 4) (by omega) (by omega), w64_nat v (by omega)]
    have e1 := ev_rHas y 0 ((v : Int) + Int.tmod n 4) hsy.2.2 (by omega) (by omega) (by omega)
    have e2 := ev_rHas t 0 ((v : Int) + Int.tmod n 4) hst.2.2 (by omega) (by omega) (by omega)
    rw [Int.add_zero] at e1 e2
    refine e1.bind ?_
    by_cases h : (v : Int) + Int.tmod n 4 ∈ lvT y 0
    · exact Evt.ifT (decide_eq_true h) (e2.bind (Evt.ifT (decide_eq_true (hl _ h)) (ih (v + 1) (by omega))))
    · exact Evt.ifF (decide_eq_false h) (ih (v + 1) (by omega))
theorem ev_WhnfLoose (l : List Ent) (t : Tm) (n : Int) (he : ∀ e ∈ l, EOk e) (hc : ∀ e ∈ l, ECl e) (ho : t.Ok) (hn : 0 ≤ n ∧ n ≤ 255) : Evt (fun q => e5 q l t n) true := by
  simp only [e5]
  obtain ⟨b, hb, hb'⟩ := tot_light l t 0
  refine hb.bind ?_
  cases b with
  | false => exact Evt.ifF rfl (ev_wawake.bind Evt.ret)
  | true =>
    obtain ⟨hl, -⟩ := hb' rfl
    refine Evt.ifT rfl ?_
    rcases sign_cases l hl he hc with hn' | ⟨N, hE, hn'⟩
    · exact (bring_unf l hn' t 200).bind (Evt.ifT (by decide) (ev_wawake.bind Evt.ret))
    · rcases bring_is l hn' hE he t ho 200 (by omega) (by omega) with ⟨y, e, k, k0, k1, hx, hg⟩ | ⟨r, h1, h2⟩
      · refine (hg 200 k1 (by omega)).bind ?_
        by_cases e0 : e = 0
        · subst e0
          obtain ⟨hR, hbr⟩ : RightM l t ∧ Br l t y 0 k := by
            rcases hx with ⟨-, h⟩ | h
            · exact absurd h (by decide)
            · exact h
          rw [if_pos rfl, if_pos rfl]
          refine Evt.ifF (by simp) ?_
          have hs := hR.shaped
          have hsy := hbr.shaped hs rfl
          refine ev_looseAll t y k 0 n hs hsy hn.1 ?_ ?_ 6 0 rfl
          · exact hbr.inv hE (inv_lv hE fun j => j ∈ lvT t 0) hs rfl fun j hj => hj
          · have h8 := hbr.inv hE (inv_nodes hE (P := fun k x => k = 8 ∨ k = 8 → x ∈ colT t 8 8) fun k x h1 h2 h3 => by omega) hs rfl ((allN_col (Q := fun x => x ∈ colT t 8 8) (by decide) (by decide) t).1 fun x hx => hx)
            exact (allN_col (Q := fun x => x ∈ colT t 8 8) (by decide) (by decide) y).2 h8
        · exact Evt.ifT (by simpa using e0) (ev_wawake.bind Evt.ret)
      · exact h1.bind (Evt.ifT (by rw [h2]; decide) (ev_wawake.bind Evt.ret))
theorem u8_wf {x : Int} (h : (Lit.int .u8 x).wf = true) : 0 ≤ x ∧ x < 256 := by
  have e1 : IntKind.u8.min = 0 := rfl
  have e2 : IntKind.u8.max = 255 := rfl
  simp [Lit.wf] at h
  omega
theorem rdE_ok' {l : List Ent} (h : ∀ e ∈ l, RdE e) : ∀ e ∈ l, EOk e := fun e he => ⟨(h e he).1, (h e he).2.1, Nat.le_trans (h e he).2.2.1 (by decide), Nat.le_trans (h e he).2.2.2 (by decide)⟩
theorem rdE_cl' {l : List Ent} (h : ∀ e ∈ l, RdE e) : ∀ e ∈ l, ECl e := fun e he => ⟨(h e he).2.2.1, (h e he).2.2.2⟩
theorem whnfLoose_ct (l : List Ent) (t : Tm) (n : Int) (w0 : ∀ e ∈ l, RdE e) (w1 : t.Ok) (w2 : (Lit.int .u8 n).wf = true) : CT Tryz.prog 5 [] [.sl (flat entL l) l.length .no, tmA t, .val (.int .u8 n)] (ab true) [] 0 := by
  have hu := u8_wf w2
  obtain ⟨q, hq⟩ := (ev_WhnfLoose l t n (rdE_ok' w0) (rdE_cl' w0) w1 (by omega)).at
  exact c5 hq
end Go.Proofs.YteiddempdecleaaGreat
