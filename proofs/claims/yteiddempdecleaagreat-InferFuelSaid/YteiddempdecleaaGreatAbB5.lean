/- Texts: AbRa AbF114va35861 AbF25 AbF26 AbF106va12063 AbF47 AbF52 AbF52va47633 AbF79va14437 AbF82va20783 AbF79va17286 AbF79va53055 AbF28 AbF78 AbF27 AbQi AbRd AbF166_228 AbRe AbRi AbF143 AbF170 AbF350 AbF336 AbF349 AbF351 AbF352 AbF357 AbF335va22461_337va21834_353va27343_354va22461 AbF338 AbF337va44352_311va22461 AbRj AbRk AbRl AbF109 AbF183 AbF310va30903 AbF309va11048 AbF283 AbF334va30903 AbF309va3585 AbF308 AbRm AbF137 AbF208 AbF207va49556 AbF145 AbF125 AbF198 AbF199 AbF133 AbF68 AbF67 AbRn AbF189 AbF190 AbF248 AbF249 -/
import Derived.Test.YteiddempdecleaaGreatAbB4
set_option linter.unusedVariables false
set_option linter.unusedSimpArgs false
namespace Go.Proofs.YteiddempdecleaaGreat
open Go Go.Ab
theorem nodesL_app : ∀ a b : List Tm, nodesL (a ++ b) = nodesL a + nodesL b
  | [], b => by simp [nodesL]
  | t :: a, b => by simp only [List.cons_append, nodesL, nodesL_app a b]; omega
theorem nodesL_len : ∀ l : List Tm, l.length ≤ nodesL l
  | [] => by simp [nodesL]
  | t :: l => by rw [nodesL]; have := nodesL_len l; have := nodes_pos t; simp; omega
theorem nodes_sub (t : Tm) : t.nodes = 1 + nodesL t.sub := by cases t; rw [Tm.nodes, Tm.sub]
theorem gsl_ok {α : Type} {l : List α} {a b : Nat} (h1 : a ≤ b) (h2 : b ≤ l.length) : gsl l (a : Int) (b : Int) = some ((l.drop a).take (b - a)) := by
  unfold gsl
  rw [if_pos (by omega), show ((b : Int) - (a : Int)).toNat = b - a by omega, show (a : Int).toNat = a by omega]
theorem gidx_last {α : Type} (l : List α) (x : α) : gidx (l ++ [x]) (l.length : Int) = some x := by
  unfold gidx
  rw [if_pos (by omega)]; simp
theorem ev_rSizeL : ∀ (m h : Nat) (todo : List Tm), h + m = 8193 → todo.length ≤ 1 + h * 8193 → Evt (fun q => e77L26398 q todo (h : Int)) ((min (h + nodesL todo) 8193 : Nat) : Int) := by
  intro m
  induction m with
  | zero =>
    intro h todo hm hl
    refine Evt.succ ?_
    simp only [e77L26398]
    have : h = 8193 := by omega
    subst this
    rcases todo with _ | ⟨x, todo⟩
    · exact Evt.ifF (by simp) (Evt.ret.eq (by simp))
    · refine Evt.ifT (by simp <;> omega) (Evt.ifF (by simp) (Evt.ret.eq ?_))
      have : min (8193 + nodesL (x :: todo)) 8193 = 8193 := by omega
      rw [this]
  | succ m ih =>
    intro h todo hm hl
    refine Evt.succ ?_
    simp only [e77L26398]
    rcases List.eq_nil_or_concat todo with rfl | ⟨ini, x, rfl⟩
    · refine Evt.ifF (by simp) (Evt.ret.eq ?_)
      have : min (h + nodesL []) 8193 = h := by rw [nodesL]; omega
      rw [this]
    · simp only [List.concat_eq_append] at hl ⊢
      have hlen : (ini ++ [x]).length = ini.length + 1 := by simp
      have hb : h * 8193 ≤ 8192 * 8193 := Nat.mul_le_mul_right _ (by omega)
      have e1 : w64 (((ini ++ [x]).length : Int) - 1) = (ini.length : Int) := by rw [w64_id (by omega) (by omega), hlen]; omega
      refine Evt.ifT (by simp <;> omega) (Evt.ifT (by simp <;> omega) ?_)
      rw [e1]
      refine Evt.pure (gidx_last ini x) ?_
      have e2 : gsl (ini ++ [x]) 0 (ini.length : Int) = some ini := by
        have := gsl_ok (l := ini ++ [x]) (a := 0) (b := ini.length) (by omega) (by omega)
        simpa using this
      refine Evt.pure e2 (Evt.pure (gapp_ok (by simp <;> omega)) ?_)
      have e3 : imin (x.sub.length : Int) 8193 = ((min x.sub.length 8193 : Nat) : Int) := by unfold imin; split <;> omega
      rw [e3]
      have e4 := gsl_ok (l := x.sub) (a := 0) (b := min x.sub.length 8193) (by omega) (by omega)
      refine Evt.pure (by simpa using e4) (Evt.pure (gapp_ok (by simp <;> omega)) ?_)
      rw [w64_nat h (by omega)]
      refine (ih (h + 1) _ (by omega) (by simp <;> omega)).eq ?_
      have hn := nodes_sub x
      simp only [List.nil_append, nodesL_app, nodesL, Nat.add_zero]
      by_cases hs : x.sub.length ≤ 8193
      · rw [show min x.sub.length 8193 = x.sub.length by omega, List.take_length]
        omega
      · have h1 := nodesL_len (x.sub.take (min x.sub.length 8193))
        have h2 := nodesL_len x.sub
        simp only [List.length_take] at h1
        omega
theorem ev_rSize (t : Tm) : Evt (fun q => e77 q t) ((min t.nodes 8193 : Nat) : Int) := by
  simp only [e77]
  refine (ev_rSizeL 8193 0 [t] (by omega) (by simp)).eq ?_
  simp [nodesL]
mutual
def e25:Nat → Tm → Tm → Option (Bool)
 | 0,_,_ => none
 | qq + 1,p0,p1 =>
 if p0.k != p1.k then
 some false
 else
 if p0.n != p1.n then
 some false
 else
 if (List.length p0.sub:Int) != (List.length p1.sub:Int) then
 some false
 else
 e25L12 qq p0 p1 0
def e25L12:Nat → Tm → Tm → Int → Option (Bool)
 | 0,_,_,_ => none
 | qq + 1,p0,p1,v5 =>
 if decide (v5 < (List.length p0.sub:Int)) then
 gidx p0.sub v5 >>= fun x5 =>
 gidx p1.sub v5 >>= fun x7 =>
 e25 qq x5 x7 >>= fun r9 =>
 if r9 then
 e25L12 qq p0 p1 (w64 (v5 + 1))
 else
 some false
 else
 some true
end
def g25L12E0 (j:Nat → Value) (p0 p1:Tm) (v5:Int):=sp j 46 0 [(2,.mp 0 0),(3,.mp 1 0),(5,ai v5)]
def g25L12S0 (p0 p1:Tm) (v5:Int):LSt:=⟨[(0,.cells [ai p0.k,ai p0.n,slv tmCells p0.sub .no]),(1,.cells [ai p1.k,ai p1.n,slv tmCells p1.sub .no])],2,[],0,[]⟩
abbrev K25 (p0 p1:Tm) (r:Bool) (C:Cf):Prop:=C 25 [] [tmA p0,tmA p1] (ab r) [] 0
theorem q25:Qf 25 Tryz.f25:=⟨Tryz.func25,by kernel_rfl⟩
theorem k25 {p0 p1 r} (h:K25 p0 p1 r Ci):K25 p0 p1 r Ct:=⟨h,⟨⟨tv,tv,⟨tv,dT _⟩,tv⟩,⟨tv,tv,⟨tv,dT _⟩,tv⟩,tv⟩,forall_nil,tv,forall_nil⟩
theorem a25_25L12:∀ qq:Nat,(∀ p0 p1 r,e25 qq p0 p1 = some r → K25 p0 p1 r Ct) ∧ (∀ p0 p1 v5 r,e25L12 qq p0 p1 v5 = some r → (∀ j,Dl Tryz.prog 0 (inn (inn (rgt (lft (rgt (rgt (bod Tryz.f25))))))) (g25L12E0 j p0 p1 v5) (g25L12S0 p0 p1 v5) (frameQ Tryz.prog 0 (FinQ Tryz.prog 0 Tryz.f25 (ab r) [] 0) [.blk 0,.seq (rgt (rgt (rgt (bod Tryz.f25))))]))):=by
 intro qq
 induction qq with
 | zero =>
  exact ⟨fun _ _ _ h => nn h,fun _ _ _ _ h => nn h⟩
 | succ qq ih =>
  obtain ⟨ih25,ih25L12⟩:=ih
  refine ⟨?_,?_⟩
  intro p0 p1 r h
  rw [e25] at h
  rcases spl h with ⟨h1,h⟩ | ⟨h1,h⟩
  obtain rfl:=sj h
  exact k25 (tF q25 0 [] (oB 2 h1 o0))
  have k:=oB 2 h1 o0
  rcases spl h with ⟨h2,h⟩ | ⟨h2,h⟩
  obtain rfl:=sj h
  exact k25 (tF q25 0 [] (oB 2 h2 k))
  have k:=oB 2 h2 k
  rcases spl h with ⟨h3,h⟩ | ⟨h3,h⟩
  obtain rfl:=sj h
  exact k25 (tF q25 0 [] (oB 4 h3 k))
  exact k25 (tH q25 0 [] [0,1] [] [2,3,5] (oD (dT p1.sub) <| oD (dT p0.sub) <| oB 4 h3 k) (ih25L12 _ _ _ _ h))
  intro p0 p1 v5 r h
  rw [e25L12] at h
  rcases spl h with ⟨h4,h⟩ | ⟨h4,h⟩
  obtain ⟨x5,h6,h⟩:=obind h
  obtain ⟨x7,h8,h⟩:=obind h
  obtain ⟨r9,h10,h⟩:=obind h
  have k:=oA 2 (ix23 (o:=.no) h8) <| oA 1 (ix23 (o:=.no) h6) <| oB 2 h4 o0
  rcases spl h with ⟨h11,h⟩ | ⟨h11,h⟩
  exact fun j => lH 2 [] [0,1] [] [2,3,5] (oD (dT p1.sub) <| oD (dT p0.sub) <| oK 1 [] h11 (ih25 _ _ _ h10) k) (ih25L12 _ _ _ _ h)
  obtain rfl:=sj h
  exact fun j => lF 1 [] (oK 1 [] h11 (ih25 _ _ _ h10) k)
  obtain rfl:=sj h
  exact fun j => lF 0 [] (oB 2 h4 o0)
theorem c25 {qq p0 p1 r} (h:e25 qq p0 p1 = some r):K25 p0 p1 r Ct:=(a25_25L12 _).1 _ _ _ h
def e106va12063 (qq:Nat) (q0 q1 p1:Int):Option (Int) :=
 some p1
abbrev K106va12063 (q0 q1 p1 r:Int) (C:Cf):Prop:=C 106 [.cells [ai q0,ai q1]] [.mp 0 0,ai p1] (.tup []) [.cells [ai r,ai q1]] 0
theorem q106va12063:Qf 106 Tryz.f106:=⟨Tryz.func106,by kernel_rfl⟩
theorem k106va12063 {q0 q1 p1 r} (h:K106va12063 q0 q1 p1 r Ci):K106va12063 q0 q1 p1 r Ct:=⟨h,⟨(lz rfl),tv,tv⟩,(forall_cons ⟨tv,tv,tv⟩ forall_nil),tv,(forall_cons ⟨tv,tv,tv⟩ forall_nil)⟩
theorem c106va12063 {qq q0 q1 p1 r} (h:e106va12063 qq q0 q1 p1 = some r):K106va12063 q0 q1 p1 r Ct:=by
 unfold e106va12063 at h
 obtain rfl:=sj h
 exact k106va12063 (tF q106va12063 1 [0] (o0))
def e47 (qq:Nat) (p0:Int):Option ((Int) ⊕ (Int × Int × Int)) :=
 if decide (p0 < 0) then
 some (Sum.inl 5)
 else
 if decide (p0 > 1048576) then
 some (Sum.inl 5)
 else
 e106va12063 qq 0 0 p0 >>= fun r3 =>
 some (Sum.inr (0,r3,0))
abbrev K47s0 (p0 r:Int) (C:Cf):Prop:=C 47 [] [ai p0] (.tup [.val (.pointer none),ai r]) [] 0
abbrev K47s1 (p0:Int) (r:Int × Int × Int) (C:Cf):Prop:=C 47 [] [ai p0] (.tup [.mp 0 0,ai r.1]) [.cells [ai r.2.1,ai r.2.2]] 0
theorem q47:Qf 47 Tryz.f47:=⟨Tryz.func47,by kernel_rfl⟩
theorem k47s0 {p0 r} (h:K47s0 p0 r Ci):K47s0 p0 r Ct:=⟨h,⟨tv,tv⟩,forall_nil,⟨tv,tv,tv⟩,forall_nil⟩
theorem k47s1 {p0 r} (h:K47s1 p0 r Ci):K47s1 p0 r Ct:=⟨h,⟨tv,tv⟩,forall_nil,⟨(lz rfl),tv,tv⟩,(forall_cons ⟨tv,tv,tv⟩ forall_nil)⟩
theorem c47 {qq p0 r} (h:e47 qq p0 = some r):(match (generalizing:=false) r with | Sum.inl x => K47s0 p0 x Ct | Sum.inr x => K47s1 p0 x Ct):=by
 unfold e47 at h
 rcases spl h with ⟨h1,h⟩ | ⟨h1,h⟩
 obtain rfl:=sj h
 exact k47s0 (tF q47 0 [] (oB 0 h1 o0))
 have k:=oB 0 h1 o0
 rcases spl h with ⟨h2,h⟩ | ⟨h2,h⟩
 obtain rfl:=sj h
 exact k47s0 (tF q47 0 [] (oB 0 h2 k))
 obtain ⟨r3,h4,h⟩:=obind h
 obtain rfl:=sj h
 exact k47s1 (tF q47 0 [0] (oC 0 [0] (c106va12063 h4) <| oB 0 h2 k))
def e78 (qq:Nat) (p0:Int) (p1 p2:Tm):Option (Tm) :=
 some (Tm.mk p0 0 [p1,p2])
abbrev K78 (p0:Int) (p1 p2 r:Tm) (C:Cf):Prop:=C 78 [] [ai p0,tmA p1,tmA p2] (tmA r) [] 0
theorem q78:Qf 78 Tryz.f78:=⟨Tryz.func78,by kernel_rfl⟩
theorem k78 {p0 p1 p2 r} (h:K78 p0 p1 p2 r Ci):K78 p0 p1 p2 r Ct:=⟨h,⟨tv,⟨tv,tv,⟨tv,dT _⟩,tv⟩,⟨tv,tv,⟨tv,dT _⟩,tv⟩,tv⟩,forall_nil,⟨tv,tv,dT _,tv⟩,forall_nil⟩
theorem c78 {qq p0 p1 p2 r} (h:e78 qq p0 p1 p2 = some r):K78 p0 p1 p2 r Ct:=by
 unfold e78 at h
 obtain rfl:=sj h
 exact k78 (tF q78 1 [] (oD (dT [p1,p2]) <| oS 2 (obLitR tm_eq [p1,p2]) o0))
mutual
theorem ev_rEqual : ∀ (t : Tm), t.Ok → Evt (fun q => e25 q t t) true
  | .mk k n l, ho => by
    rw [Tm.Ok] at ho
    refine Evt.succ ?_
    simp only [e25]
    exact Evt.ifF (by simp) (Evt.ifF (by simp) (Evt.ifF (by simp) (ev_rEqualL l (.mk k n l) 0 rfl ho.1 ho.2)))
theorem ev_rEqualL : ∀ (l : List Tm) (p : Tm) (v : Nat), p.sub.drop v = l → p.sub.length < 9223372036854775808 → OkL l → Evt (fun q => e25L12 q p p (v : Int)) true
  | [], p, v, hd, hl, ho => by
    refine Evt.succ ?_
    simp only [e25L12]
    exact Evt.ifF (drop_nil hd) Evt.ret
  | t :: l, p, v, hd, hl, ho => by
    have hlt := drop_lt hd
    rw [OkL] at ho
    refine Evt.succ ?_
    simp only [e25L12]
    refine Evt.ifT (drop_dec hd) (Evt.pure (drop_idx hd) (Evt.pure (drop_idx hd) ((ev_rEqual t ho.1).bind (Evt.ifT rfl ?_))))
    rw [w64_nat v (by omega)]
    exact ev_rEqualL l p (v + 1) (drop_next hd) hl ho.2
end
theorem ev_mNew (f : Int) (h0 : 0 ≤ f) (h1 : f ≤ 1048576) : Evt (fun q => e47 q f) (.inr (0, f, 0)) := by
  simp only [e47]
  exact Evt.ifF (decide_eq_false (by omega)) (Evt.ifF (decide_eq_false (by omega)) (Evt.bind (a := f) (Evt.mk fun _ => rfl) Evt.ret))
mutual
theorem looT_le : ∀ (t : Tm) (b : Int), goodT t = true → 0 ≤ b → looT t b ≤ 1048577
  | .mk k n l, b, hg, hb => by
    have hh := goodT_mk hg
    have hn := head_n hh.1
    rw [looT]
    split
    · omega
    · exact looL_le l k 0 b hh.2 hb
theorem looL_le : ∀ (l : List Tm) (k : Int) (i : Nat) (b : Int), goodL l = true → 0 ≤ b → looL l k i b ≤ 1048577
  | [], k, i, b, _, _ => by rw [looL]; omega
  | t :: l, k, i, b, hg, hb => by
    have hc := goodL_cons hg
    have hu := undT_01 k i
    have h1 := looT_le t (b + undT k i) hc.1 (by omega)
    have h2 := looL_le l k (i + 1) b hc.2 hb
    rw [looL]; omega
end
theorem rightM_iff {l : List Ent} {t : Tm} : RightM l t ↔ shapedT t = true ∧ AllN (fun k n => k = 6 ∨ k = 7 → n < l.length) t := by
  unfold RightM rightT
  rw [← allN_col (Q := fun n => n < (l.length : Int)) (by decide) (by decide) t]
  simp only [Bool.and_eq_true, decide_eq_true_eq, List.all_eq_true]
  constructor
  · rintro ⟨⟨h1, -⟩, h2⟩; exact ⟨h1, h2⟩
  · rintro ⟨h1, h2⟩; exact ⟨⟨h1, looT_le t 0 (shapedT_spec h1).2.2 (by omega)⟩, h2⟩
def sT : Tm := .mk 2 2 []
theorem ev_nNew : Evt (fun q => e36 q []) (newT [] true) := by
  obtain ⟨N, hN⟩ := names_by
  obtain ⟨b, hb, -, hn⟩ := ev_wNew N hN [] (by simp) (fun _ h => nomatch h) (fun _ h => nomatch h)
  have hF : Evt (fun q => e73 q []) true := by
    simp only [e73]
    refine Evt.ifF (by decide) ((ev_Names [] (by simp)).bind (Evt.bind (a := true) ?_ (Evt.ifT rfl ?_)))
    · simp only [e153]
      refine Evt.succ ?_
      simp only [e153L46510]
      exact Evt.ifF rfl Evt.ret
    · refine Evt.succ ?_
      simp only [e73L47399]
      exact Evt.ifF rfl Evt.ret
  rw [hb.det hF] at hn
  exact hn
theorem sub_shaped {t x : Tm} (h : shapedT t = true) (hx : x ∈ t.sub) : shapedT x = true := by
  obtain ⟨k, n, l⟩ := t
  have hs := shapedT_spec h
  have hg := (goodT_mk hs.2.2).2
  rw [Tm.nodes, Tm.high] at hs
  have key : ∀ l : List Tm, goodL l = true → ∀ x ∈ l, goodT x = true ∧ x.nodes ≤ nodesL l ∧ x.high ≤ highL l := by
    intro l
    induction l with
    | nil => intro _ x hx; cases hx
    | cons a l ih =>
      intro hg x hx
      have hc := goodL_cons hg
      rw [nodesL, highL]
      rcases List.mem_cons.1 hx with rfl | hx
      · exact ⟨hc.1, by omega, by omega⟩
      · have := ih hc.2 x hx; exact ⟨this.1, by omega, by omega⟩
  have := key l hg x hx
  exact shapedT_of (by omega) (by omega) this.1
theorem Br.e8 {N : ByteArray → Bool} {l : List Ent} (hE : AllE N l) {x y : Tm} {e k : Int} (h : Br l x y e k) : shapedT x = true → e ≠ 8 := by
  induction h with
  | stop _ => exact fun _ => by decide
  | @redE x Y e a h =>
    intro hs
    unfold actT at a
    split at a
    · injection a with h1 h2
      rw [← h2]; exact subT_e8 _ _
    · split at a
      · injection a with h1 h2
        rw [← h2]; decide
      · split at a
        · split at a <;> cases a
        · split at a
          · split at a <;> cases a
          · cases a
  | redL _ _ => exact fun _ => by decide
  | red _ hY _ ih => exact fun _ => ih hY
  | tgtE a _ _ ih => exact fun hs => ih (ar_shaped hs (act_tgt hE hs a).1)
  | tgtN _ _ _ _ => exact fun _ => by decide
  | @tgtRE x a z Y e k ha hb hr he ih =>
    intro hs
    have hm := (act_tgt hE hs ha).1
    have hz := hb.shaped (ar_shaped hs hm) rfl
    have hox : OkA (arT x) := fun z hz => shaped_ok (ar_shaped hs hz)
    have hoy : OkA (arT z) := fun w hw => shaped_ok (ar_shaped hz hw)
    have hlx : (arT x).length ≤ 8192 := by
      have h := shapedT_spec hs
      have := ar_len _ h.2.2
      omega
    have hly : (arT z).length ≤ 8192 := by
      have h := shapedT_spec hz
      have := ar_len _ h.2.2
      omega
    unfold reactT at hr
    split at hr
    · split at hr
      · simp only [Option.some.injEq, Prod.mk.injEq] at hr
        rw [← hr.2]
        exact (fieldX_spec l (hdT x).n ((arT z).drop (ent l (hdT z).n).pars.toNat) hE (hoy.drop _) (by rw [List.length_drop]; omega)).2.2.1
      · cases hr
    · split at hr
      · simp only [Option.some.injEq, Prod.mk.injEq] at hr
        rw [← hr.2]
        exact (stepX_spec l (hdT x).n (nth (hdT x).sub 0).n (hdT z).n ((arT x).take ((ent l (hdT x).n).pars + 1 + (ent l (hdT x).n).cons.length).toNat) ((arT z).drop (ent l (hdT x).n).pars.toNat) hE (hox.take _) (hoy.drop _) (by rw [List.length_take]; omega) (by rw [List.length_drop]; omega)).2.2.1
      · cases hr
  | tgtRL _ _ _ _ _ => exact fun _ => by decide
  | tgtR a b c hY _ ih ih2 => exact fun _ => ih2 hY
theorem Br.zero {l : List Ent} {x y : Tm} {e k : Int} (h : Br l x y e k) : e = 0 → k ≤ 0 → y = x := by
  cases h with
  | stop _ => exact fun _ _ => rfl
  | redE _ h => exact fun he => absurd he h
  | redL _ _ => exact fun he => absurd he (by decide)
  | red _ _ h => exact fun _ hk => by have := h.nn; omega
  | tgtE _ _ h => exact fun he => absurd he h
  | tgtN _ _ _ => exact fun _ _ => rfl
  | tgtRE _ _ _ h => exact fun he => absurd he h
  | tgtRL _ _ _ _ => exact fun he => absurd he (by decide)
  | tgtR _ h1 _ _ h2 => exact fun _ hk => by have := h1.nn; have := h2.nn; omega
theorem Ou.evt0 {ρ : Type} {f : Int → Int → Nat → Option ρ} {er : ρ → Int} {Q : (Int → Int → ρ) → Int → Prop} {S : Prop} {l : Int} {R : Int → Int → ρ} (h : ∀ L U, Evt (f L U) (R L U)) (h0 : 0 ≤ l) (k : Q R 0) : Ou f er Q S l :=
  .inl ⟨R, 0, by omega, h0, k, fun L U _ _ _ => by rw [show L - 0 = L by omega, show U + 0 = U by omega]; exact h L U, fun L U _ _ => by omega⟩
abbrev PE := (Tm × Int) × (Tm × Int)
def opnT (t : Tm) : Tm × Int :=
  if t.k = 4 then (nth t.sub 1, 0) else
    (.mk 5 0 [(liftT t 1 0).1, .mk 1 0 []], if (liftT t 1 0).2 = 0 then (if shapedT (.mk 5 0 [(liftT t 1 0).1, .mk 1 0 []]) = true then 0 else 2) else (liftT t 1 0).2)
def fldsT (l : List Ent) (c : Int) : List Int := (ent l (ent l c).fam).fields
def isRec (l : List Ent) (t : Tm) : Prop := isCon l t ∧ fldsT l (hdT t).n ≠ []
instance (l : List Ent) (t : Tm) : Decidable (isRec l t) := inferInstanceAs (Decidable (_ ∧ _))
def partC (l : List Ent) (t : Tm) (c : Int) (i : Nat) (pars : List Tm) : Tm × Int :=
  if isRec l t ∧ (hdT t).n = c then (nth (arT t) ((pars.length + i : Nat) : Int), 0) else
    (.mk 5 0 [apT (.mk 6 (((fldsT l c)[i]?).getD (-1)) []) pars, t], if shapedT (.mk 5 0 [apT (.mk 6 (((fldsT l c)[i]?).getD (-1)) []) pars, t]) = true then 0 else 2)
def prsT (l : List Ent) (t : Tm) : List Tm := (arT t).take (ent l (hdT t).n).pars.toNat
def fldP (l : List Ent) (x y : Tm) (c : Int) (pars : List Tm) : Nat → Nat → List PE
  | 0, _ => []
  | m + 1, i => (partC l x c i pars, partC l y c i pars) :: fldP l x y c pars m (i + 1)
def argP : List Tm → List Tm → List PE
  | a :: l, b :: m => ((a, 0), (b, 0)) :: argP l m
  | _, _ => []
def spnP (x y : Tm) : List PE := (if (hdT x).k = 3 then [((nth (hdT x).sub 0, 0), (nth (hdT y).sub 0, 0)), ((nth (hdT x).sub 1, 0), (nth (hdT y).sub 1, 0))] else []) ++ argP (arT x) (arT y)
inductive Hd where
  | ans (b : Bool)
  | all (ps : List PE)
  | pi (a b c d : Tm)
def spnC (x y : Tm) : Hd :=
  if (hdT x).k ≠ (hdT y).k ∨ (hdT x).n ≠ (hdT y).n ∨ (arT x).length ≠ (arT y).length ∨ ((hdT x).k = 7 ∧ (nth (hdT x).sub 0).n ≠ (nth (hdT y).sub 0).n) then .ans false else .all (spnP x y)
def headC (l : List Ent) (m : Bool) (x y : Tm) : Hd :=
  if x.k = 4 ∨ y.k = 4 then .all [(opnT x, opnT y)]
  else if isRec l x then (if isRec l y ∧ (hdT x).n ≠ (hdT y).n then .ans false else .all (fldP l x y (hdT x).n (prsT l x) (fldsT l (hdT x).n).length 0))
  else if isRec l y then .all (fldP l x y (hdT y).n (prsT l y) (fldsT l (hdT y).n).length 0)
  else if x.k ≠ y.k then .ans false
  else if x.k = 3 then .pi (nth x.sub 0) (nth y.sub 0) (nth x.sub 1) (nth y.sub 1)
  else if x.k = 2 then .ans (if m = true then decide (x.n ≤ y.n) else x.n == y.n)
  else spnC x y
def AllC (C : Tm → Tm → Bool → Int → Prop) : List PE → Bool → Int → Prop
  | [], b, k => b = true ∧ k = 0
  | p :: r, b, k => p.1.2 = 0 ∧ p.2.2 = 0 ∧ ∃ b1 k1, C p.1.1 p.2.1 b1 k1 ∧ ((b1 = false ∧ b = false ∧ k = k1) ∨ (b1 = true ∧ ∃ k2, AllC C r b k2 ∧ k = k1 + k2))
def HdR (C : Bool → Tm → Tm → Bool → Int → Prop) (m : Bool) : Hd → Bool → Int → Prop
  | .ans b0, b, k => b = b0 ∧ k = 0
  | .all ps, b, k => AllC (C false) ps b k
  | .pi a a' c c', b, k => ∃ b1 k1, C false a a' b1 k1 ∧ ((b1 = false ∧ b = false ∧ k = k1) ∨ (b1 = true ∧ ∃ k2, C m c c' b k2 ∧ k = k1 + k2))
def CvN (l : List Ent) : Nat → Bool → Tm → Tm → Bool → Int → Prop
  | 0, _, _, _, _, _ => False
  | n + 1, m, x, y, b, k => RightM l x ∧ RightM l y ∧ ∃ x' k1 y' k2 k3, Br l x x' 0 k1 ∧ Br l y y' 0 k2 ∧ HdR (CvN l n) m (headC l m x' y') b k3 ∧ k = k1 + k2 + k3
def Cv (l : List Ent) (m : Bool) (x y : Tm) (b : Bool) (k : Int) : Prop := ∃ n, CvN l n m x y b k
section
variable {C C' : Tm → Tm → Bool → Int → Prop}
theorem AllC.mono (h : ∀ x y b k, C x y b k → C' x y b k) : ∀ {ps : List PE} {b : Bool} {k : Int}, AllC C ps b k → AllC C' ps b k
  | [], _, _, a => a
  | _ :: _, _, _, ⟨a, b, b1, k1, c, d⟩ => ⟨a, b, b1, k1, h _ _ _ _ c, d.imp id fun ⟨e, k2, f, g⟩ => ⟨e, k2, AllC.mono h f, g⟩⟩
theorem AllC.nn (h : ∀ x y b k, C x y b k → 0 ≤ k) : ∀ {ps : List PE} {b : Bool} {k : Int}, AllC C ps b k → 0 ≤ k
  | [], _, _, ⟨_, a⟩ => by omega
  | _ :: _, _, _, ⟨_, _, b1, k1, c, d⟩ => by
    have := h _ _ _ _ c
    rcases d with ⟨_, _, d⟩ | ⟨_, k2, d, e⟩
    · omega
    · have := AllC.nn h d; omega
theorem AllC.det (h : ∀ x y b k b' k', C x y b k → C' x y b' k' → b' = b ∧ k' = k) : ∀ {ps : List PE} {b b' : Bool} {k k' : Int}, AllC C ps b k → AllC C' ps b' k' → b' = b ∧ k' = k
  | [], _, _, _, _, ⟨a, b⟩, ⟨c, d⟩ => by subst a; subst c; exact ⟨rfl, by omega⟩
  | _ :: _, _, _, _, _, ⟨_, _, b1, k1, c, d⟩, ⟨_, _, b1', k1', c', d'⟩ => by
    obtain ⟨rfl, rfl⟩ := h _ _ _ _ _ _ c c'
    rcases d with ⟨d1, d2, d3⟩ | ⟨d1, k2, d2, d3⟩
    · rcases d' with ⟨_, e2, e3⟩ | ⟨e1, _⟩
      · subst d2; subst e2; exact ⟨rfl, by omega⟩
      · rw [d1] at e1; cases e1
    · rcases d' with ⟨e1, _⟩ | ⟨_, k2', e2, e3⟩
      · rw [d1] at e1; cases e1
      · obtain ⟨rfl, rfl⟩ := AllC.det h d2 e2; exact ⟨rfl, by omega⟩
end
section
variable {C C' : Bool → Tm → Tm → Bool → Int → Prop} {m : Bool}
theorem HdR.mono (h : ∀ m x y b k, C m x y b k → C' m x y b k) : ∀ {q : Hd} {b : Bool} {k : Int}, HdR C m q b k → HdR C' m q b k
  | .ans _, _, _, a => a
  | .all _, _, _, a => AllC.mono (h false) a
  | .pi _ _ _ _, _, _, ⟨b1, k1, c, d⟩ => ⟨b1, k1, h _ _ _ _ _ c, d.imp id fun ⟨e, k2, f, g⟩ => ⟨e, k2, h _ _ _ _ _ f, g⟩⟩
theorem HdR.nn (h : ∀ m x y b k, C m x y b k → 0 ≤ k) : ∀ {q : Hd} {b : Bool} {k : Int}, HdR C m q b k → 0 ≤ k
  | .ans _, _, _, ⟨_, a⟩ => by omega
  | .all _, _, _, a => AllC.nn (h false) a
  | .pi _ _ _ _, _, _, ⟨b1, k1, c, d⟩ => by
    have := h _ _ _ _ _ c
    rcases d with ⟨_, _, d⟩ | ⟨_, k2, d, e⟩
    · omega
    · have := h _ _ _ _ _ d; omega
theorem HdR.det (h : ∀ m x y b k b' k', C m x y b k → C' m x y b' k' → b' = b ∧ k' = k) : ∀ {q : Hd} {b b' : Bool} {k k' : Int}, HdR C m q b k → HdR C' m q b' k' → b' = b ∧ k' = k
  | .ans _, _, _, _, _, ⟨a, b⟩, ⟨c, d⟩ => by subst a; subst c; exact ⟨rfl, by omega⟩
  | .all _, _, _, _, _, a, b => AllC.det (h false) a b
  | .pi _ _ _ _, _, _, _, _, ⟨b1, k1, c, d⟩, ⟨b1', k1', c', d'⟩ => by
    obtain ⟨rfl, rfl⟩ := h _ _ _ _ _ _ _ c c'
    rcases d with ⟨d1, d2, d3⟩ | ⟨d1, k2, d2, d3⟩
    · rcases d' with ⟨_, e2, e3⟩ | ⟨e1, _⟩
      · subst d2; subst e2; exact ⟨rfl, by omega⟩
      · rw [d1] at e1; cases e1
    · rcases d' with ⟨e1, _⟩ | ⟨_, k2', e2, e3⟩
      · rw [d1] at e1; cases e1
      · obtain ⟨rfl, rfl⟩ := h _ _ _ _ _ _ _ d2 e2; exact ⟨rfl, by omega⟩
end
theorem CvN.mono {l : List Ent} : ∀ {n : Nat} {m : Bool} {x y : Tm} {b : Bool} {k : Int}, CvN l n m x y b k → CvN l (n + 1) m x y b k
  | 0, _, _, _, _, _, h => h.elim
  | n + 1, m, x, y, b, k, ⟨r1, r2, x', k1, y', k2, k3, h1, h2, h3, h4⟩ => ⟨r1, r2, x', k1, y', k2, k3, h1, h2, h3.mono (fun _ _ _ _ _ h => CvN.mono h), h4⟩
theorem CvN.le {l : List Ent} {n n' : Nat} {m : Bool} {x y : Tm} {b : Bool} {k : Int} (h : CvN l n m x y b k) (hm : n ≤ n') : CvN l n' m x y b k := by
  induction hm with
  | refl => exact h
  | step _ ih => exact ih.mono
theorem CvN.nn {l : List Ent} : ∀ {n : Nat} {m : Bool} {x y : Tm} {b : Bool} {k : Int}, CvN l n m x y b k → 0 ≤ k
  | 0, _, _, _, _, _, h => h.elim
  | n + 1, m, x, y, b, k, ⟨r1, r2, x', k1, y', k2, k3, h1, h2, h3, h4⟩ => by
    have := h1.nn
    have := h2.nn
    have := h3.nn (fun _ _ _ _ _ h => CvN.nn h)
    omega
theorem CvN.det {l : List Ent} : ∀ {n n' : Nat} {m : Bool} {x y : Tm} {b b' : Bool} {k k' : Int}, CvN l n m x y b k → CvN l n' m x y b' k' → b' = b ∧ k' = k
  | 0, _, _, _, _, _, _, _, _, h, _ => h.elim
  | _ + 1, 0, _, _, _, _, _, _, _, _, h => h.elim
  | n + 1, n' + 1, m, x, y, b, b', k, k', ⟨_, _, x', k1, y', k2, k3, h1, h2, h3, h4⟩, ⟨_, _, x1', j1, y1', j2, j3, g1, g2, g3, g4⟩ => by
    obtain ⟨rfl, -, rfl⟩ := h1.det g1
    obtain ⟨rfl, -, rfl⟩ := h2.det g2
    obtain ⟨rfl, rfl⟩ := HdR.det (C := CvN l n) (C' := CvN l n') (fun _ _ _ _ _ _ _ a b => CvN.det a b) h3 g3
    exact ⟨rfl, by omega⟩
theorem Cv.det {l : List Ent} {m : Bool} {x y : Tm} {b b' : Bool} {k k' : Int} : Cv l m x y b k → Cv l m x y b' k' → b' = b ∧ k' = k := fun ⟨_, a⟩ ⟨_, b⟩ => a.det b
theorem Cv.nn {l : List Ent} {m : Bool} {x y : Tm} {b : Bool} {k : Int} : Cv l m x y b k → 0 ≤ k := fun ⟨_, a⟩ => a.nn
theorem AllC.bound {l : List Ent} : ∀ {ps : List PE} {b : Bool} {k : Int}, AllC (Cv l false) ps b k → ∃ n, AllC (CvN l n false) ps b k
  | [], _, _, a => ⟨0, a⟩
  | _ :: _, _, _, ⟨a, b, b1, k1, ⟨n, c⟩, d⟩ => by
    rcases d with d | ⟨e, k2, f, g⟩
    · exact ⟨n, a, b, b1, k1, c, .inl d⟩
    · obtain ⟨n', f⟩ := AllC.bound f
      exact ⟨max n n', a, b, b1, k1, c.le (by omega), .inr ⟨e, k2, f.mono (fun _ _ _ _ h => h.le (by omega)), g⟩⟩
theorem HdR.bound {l : List Ent} {m : Bool} : ∀ {q : Hd} {b : Bool} {k : Int}, HdR (Cv l) m q b k → ∃ n, HdR (CvN l n) m q b k
  | .ans _, _, _, a => ⟨0, a⟩
  | .all _, _, _, a => AllC.bound a
  | .pi _ _ _ _, _, _, ⟨b1, k1, ⟨n, c⟩, d⟩ => by
    rcases d with d | ⟨e, k2, ⟨n', f⟩, g⟩
    · exact ⟨n, b1, k1, c, .inl d⟩
    · exact ⟨max n n', b1, k1, c.le (by omega), .inr ⟨e, k2, f.le (by omega), g⟩⟩
theorem Cv.mk {l : List Ent} {m : Bool} {x y x' y' : Tm} {b : Bool} {k1 k2 k3 : Int} (r1 : RightM l x) (r2 : RightM l y) (h1 : Br l x x' 0 k1) (h2 : Br l y y' 0 k2) (h3 : HdR (Cv l) m (headC l m x' y') b k3) : Cv l m x y b (k1 + k2 + k3) := by
  obtain ⟨n, h3⟩ := h3.bound
  exact ⟨n + 1, r1, r2, x', k1, y', k2, k3, h1, h2, h3, rfl⟩
theorem Cv.inv {l : List Ent} {m : Bool} {x y : Tm} {b : Bool} {k : Int} (h : Cv l m x y b k) : RightM l x ∧ RightM l y ∧ ∃ x' k1 y' k2 k3, Br l x x' 0 k1 ∧ Br l y y' 0 k2 ∧ HdR (Cv l) m (headC l m x' y') b k3 ∧ k = k1 + k2 + k3 := by
  obtain ⟨n, h⟩ := h
  cases n with
  | zero => exact h.elim
  | succ n =>
    obtain ⟨r1, r2, x', k1, y', k2, k3, h1, h2, h3, h4⟩ := h
    exact ⟨r1, r2, x', k1, y', k2, k3, h1, h2, h3.mono (fun _ _ _ _ _ h => ⟨n, h⟩), h4⟩
def nwT (l : List Ent) (k n : Int) : Nat := if k = 4 then 3 else if k = 6 ∧ (ent l n).kind = 2 then 2 else 1
mutual
def wtT (l : List Ent) : Tm → Nat
  | .mk k n s => nwT l k n + wtL l s
def wtL (l : List Ent) : List Tm → Nat
  | [] => 0
  | t :: s => wtT l t + wtL l s
end
theorem nw_pos (l : List Ent) (k n : Int) : 1 ≤ nwT l k n ∧ nwT l k n ≤ 3 := by unfold nwT; split <;> (try split) <;> omega
theorem wt_pos (l : List Ent) : ∀ t : Tm, 1 ≤ wtT l t
  | .mk k n s => by rw [wtT]; have := nw_pos l k n; omega
theorem wt_mem (l : List Ent) : ∀ {s : List Tm} {x : Tm}, x ∈ s → wtT l x ≤ wtL l s
  | a :: s, x, h => by
    rw [wtL]
    rcases List.mem_cons.1 h with rfl | h
    · omega
    · have := wt_mem l h; omega
theorem wtL_app (l : List Ent) : ∀ a b : List Tm, wtL l (a ++ b) = wtL l a + wtL l b
  | [], b => by simp [wtL]
  | t :: a, b => by simp only [List.cons_append, wtL, wtL_app l a b]; omega
mutual
theorem wt_lf (l : List Ent) : ∀ (t : Tm) (b c k : Int), wtT l (lfT t b c k) ≤ wtT l t
  | .mk kd n s, b, c, k => by
    rw [lfT]
    split
    · rename_i h
      rw [wtT, wtT, wtL]
      have e : ∀ m, nwT l 1 m = 1 := fun m => by unfold nwT; simp
      have := (nw_pos l kd n).1
      rw [e]; omega
    · rw [wtT, wtT]
      have := wtL_lf l s kd 0 b c k
      omega
theorem wtL_lf (l : List Ent) : ∀ (s : List Tm) (kd : Int) (i : Nat) (b c k : Int), wtL l (lfL s kd i b c k) ≤ wtL l s
  | [], _, _, _, _, _ => by rw [lfL]; omega
  | t :: s, kd, i, b, c, k => by
    rw [lfL, wtL, wtL]
    have := wt_lf l t (undR' kd i b) c k
    have := wtL_lf l s kd (i + 1) b c k
    omega
end
theorem wt_ap (l : List Ent) : ∀ (s : List Tm) (f : Tm), wtT l (apT f s) = wtT l f + wtL l s + s.length
  | [], f => by rw [apT, wtL]; simp
  | a :: s, f => by
    have e : nwT l 5 0 = 1 := by unfold nwT; simp
    rw [apT, wt_ap l s, wtT, wtL, wtL, wtL, wtL, e, List.length_cons]; omega
theorem wt_spine (l : List Ent) : ∀ t : Tm, goodT t = true → wtT l t = wtT l (hdT t) + wtL l (arT t) + (arT t).length := by
  refine app_ind ?_ ?_
  · intro t hg hk
    rw [hdT_not hk, arT_not hk, wtL]; simp
  · intro n a b hg ha hb ih
    have e : nwT l 5 n = 1 := by unfold nwT; simp
    rw [hdT_app, arT_app, wtT, wtL, wtL, wtL, e, wtL_app, wtL, wtL, List.length_append, ih]; simp; omega
theorem wt_sub (l : List Ent) (t : Tm) : wtT l t = nwT l t.k t.n + wtL l t.sub := by cases t; rw [wtT, Tm.k, Tm.n, Tm.sub]
def e143 (qq:Nat) (p0:Int):Option (Tm) :=
 e206 qq 6 p0 [] >>= fun r1 =>
 some r1
abbrev K143 (p0:Int) (r:Tm) (C:Cf):Prop:=C 143 [] [ai p0] (tmA r) [] 0
theorem q143:Qf 143 Tryz.f143:=⟨Tryz.func143,by kernel_rfl⟩
theorem k143 {p0 r} (h:K143 p0 r Ci):K143 p0 r Ct:=⟨h,⟨tv,tv⟩,forall_nil,⟨tv,tv,dT _,tv⟩,forall_nil⟩
theorem c143 {qq p0 r} (h:e143 qq p0 = some r):K143 p0 r Ct:=by
 unfold e143 at h
 obtain ⟨r1,h2,h⟩:=obind h
 obtain rfl:=sj h
 exact k143 (tF q143 1 [] (oD (dT r1.sub) <| oC 0 [] (c206 h2) o0))
def e170 (qq:Nat) (M:Mach) (p1:Tm):Option (Int × List Tm × Bool) :=
 e91 qq p1 >>= fun r1 =>
 if r1 then
 e84 qq p1 >>= fun r4 =>
 e225 qq M r4 >>= fun r6 =>
 some (r6.1,r6.2.1,r6.2.2)
 else
 some (0,[],false)
abbrev K170 (M:Mach) (p1:Tm) (r:Int × List Tm × Bool) (C:Cf):Prop:=C 170 [mB M 1,mR M] [.mp 0 0,tmA p1] (.tup [ai r.1,.sl (flat tmCells r.2.1) (List.length r.2.1) .no,ab r.2.2]) [mB M 1,mR M] 0
theorem q170:Qf 170 Tryz.f170:=⟨Tryz.func170,by kernel_rfl⟩
theorem k170 {M p1 r} (h:K170 M p1 r Ci):K170 M p1 r Ct:=⟨h,⟨(lz rfl),⟨tv,tv,⟨tv,dT _⟩,tv⟩,tv⟩,(forall_cons ⟨⟨tv,dE _⟩,(lz rfl),⟨tv,dI _⟩,⟨tv,dI _⟩,tv⟩ (forall_cons ⟨⟨tv,dE _⟩,⟨tv,dC _⟩,tv⟩ forall_nil)),⟨tv,dT _,tv,tv⟩,(forall_cons ⟨dE _,(lz rfl),dI _,dI _,tv⟩ (forall_cons ⟨dE _,dC _,tv⟩ forall_nil))⟩
theorem c170 {qq M p1 r} (h:e170 qq M p1 = some r):K170 M p1 r Ct:=by
 unfold e170 at h
 obtain ⟨r1,h2,h⟩:=obind h
 rcases spl h with ⟨h3,h⟩ | ⟨h3,h⟩
 obtain ⟨r4,h5,h⟩:=obind h
 obtain ⟨r6,h7,h⟩:=obind h
 obtain rfl:=sj h
 exact k170 (tF q170 3 [0,1] (oD (dT r6.2.1) <| oD (dC M.parts) <| oD (dE M.rl) <| oD (dI M.own) <| oD (dI M.args) <| oD (dE M.l) <| oC 0 [0,1] (c225 h7) <| oC 2 [] (c84 h5) <| oK 2 [] h3 (c91 h2) o0))
 obtain rfl:=sj h
 exact k170 (tF q170 1 [0,1] (oD (dT ([]:List Tm)) <| oD (dC M.parts) <| oD (dE M.rl) <| oD (dI M.own) <| oD (dI M.args) <| oD (dE M.l) <| oK 2 [] h3 (c91 h2) o0))
def e350 (qq:Nat) (M:Mach) (q0_l:List Ent) (fl fu q0_e:Int) (p1:Tm):Option (Tm × Int × Int × Int) :=
 e79 qq M p1 fl fu >>= fun r1 =>
 if q0_e == 0 then
 some (r1.1,r1.2.1,r1.2.2.1,r1.2.2.2)
 else
 some (r1.1,q0_e,r1.2.2.1,r1.2.2.2)
abbrev K350 (M:Mach) (q0_l:List Ent) (fl fu q0_e:Int) (p1:Tm) (r:Tm × Int × Int × Int) (C:Cf):Prop:=C 350 [.cells [.mp 1 0,slv entL q0_l .no,.mp 3 0,ai q0_e],mB M 2,mR M,.cells [ai fl,ai fu]] [.mp 0 0,tmA p1] (tmA r.1) [.cells [.mp 1 0,slv entL q0_l .no,.mp 3 0,ai r.2.1],mB M 2,mR M,.cells [ai r.2.2.1,ai r.2.2.2]] 0
theorem q350:Qf 350 Tryz.f350:=⟨Tryz.func350,by kernel_rfl⟩
theorem k350 {M q0_l fl fu q0_e p1 r} (h:K350 M q0_l fl fu q0_e p1 r Ci):K350 M q0_l fl fu q0_e p1 r Ct:=⟨h,⟨(lz rfl),⟨tv,tv,⟨tv,dT _⟩,tv⟩,tv⟩,(forall_cons ⟨(lz rfl),⟨tv,dE _⟩,(lz rfl),tv,tv⟩ (forall_cons ⟨⟨tv,dE _⟩,(lz rfl),⟨tv,dI _⟩,⟨tv,dI _⟩,tv⟩ (forall_cons ⟨⟨tv,dE _⟩,⟨tv,dC _⟩,tv⟩ (forall_cons ⟨tv,tv,tv⟩ forall_nil)))),⟨tv,tv,dT _,tv⟩,(forall_cons ⟨(lz rfl),dE _,(lz rfl),tv,tv⟩ (forall_cons ⟨dE _,(lz rfl),dI _,dI _,tv⟩ (forall_cons ⟨dE _,dC _,tv⟩ (forall_cons ⟨tv,tv,tv⟩ forall_nil))))⟩
theorem c350 {qq M q0_l fl fu q0_e p1 r} (h:e350 qq M q0_l fl fu q0_e p1 = some r):K350 M q0_l fl fu q0_e p1 r Ct:=by
 unfold e350 at h
 obtain ⟨r1,h2,h⟩:=obind h
 have k:=oC 3 [1,2,3] (c79 h2) o0
 rcases spl h with ⟨h3,h⟩ | ⟨h3,h⟩
 obtain rfl:=sj h
 exact k350 (tF q350 3 [0,1,2,3] (oD (dT r1.1.sub) <| oD (dC M.parts) <| oD (dE M.rl) <| oD (dI M.own) <| oD (dI M.args) <| oD (dE M.l) <| oD (dE q0_l) <| oB 4 h3 k))
 obtain rfl:=sj h
 exact k350 (tF q350 2 [0,1,2,3] (oD (dT r1.1.sub) <| oD (dC M.parts) <| oD (dE M.rl) <| oD (dI M.own) <| oD (dI M.args) <| oD (dE M.l) <| oD (dE q0_l) <| oB 4 h3 k))
def e336 (qq:Nat) (M:Mach) (q0_l:List Ent) (fl fu q0_e:Int) (p1 p2:Tm):Option (Tm × Tm × Bool × Int × Int × Int) :=
 if q0_e != 0 then
 some (p1,p2,false,q0_e,fl,fu)
 else
 e350 qq M q0_l fl fu q0_e p1 >>= fun r2 =>
 if r2.2.1 != 0 then
 some (r2.1,p2,false,r2.2.1,r2.2.2.1,r2.2.2.2)
 else
 e350 qq M q0_l r2.2.2.1 r2.2.2.2 r2.2.1 p2 >>= fun r5 =>
 some (r2.1,r5.1,(r5.2.1 == 0),r5.2.1,r5.2.2.1,r5.2.2.2)
abbrev K336 (M:Mach) (q0_l:List Ent) (fl fu q0_e:Int) (p1 p2:Tm) (r:Tm × Tm × Bool × Int × Int × Int) (C:Cf):Prop:=C 336 [.cells [.mp 1 0,slv entL q0_l .no,.mp 3 0,ai q0_e],mB M 2,mR M,.cells [ai fl,ai fu]] [.mp 0 0,tmA p1,tmA p2] (.tup [tmA r.1,tmA r.2.1,ab r.2.2.1]) [.cells [.mp 1 0,slv entL q0_l .no,.mp 3 0,ai r.2.2.2.1],mB M 2,mR M,.cells [ai r.2.2.2.2.1,ai r.2.2.2.2.2]] 0
theorem q336:Qf 336 Tryz.f336:=⟨Tryz.func336,by kernel_rfl⟩
theorem k336 {M q0_l fl fu q0_e p1 p2 r} (h:K336 M q0_l fl fu q0_e p1 p2 r Ci):K336 M q0_l fl fu q0_e p1 p2 r Ct:=⟨h,⟨(lz rfl),⟨tv,tv,⟨tv,dT _⟩,tv⟩,⟨tv,tv,⟨tv,dT _⟩,tv⟩,tv⟩,(forall_cons ⟨(lz rfl),⟨tv,dE _⟩,(lz rfl),tv,tv⟩ (forall_cons ⟨⟨tv,dE _⟩,(lz rfl),⟨tv,dI _⟩,⟨tv,dI _⟩,tv⟩ (forall_cons ⟨⟨tv,dE _⟩,⟨tv,dC _⟩,tv⟩ (forall_cons ⟨tv,tv,tv⟩ forall_nil)))),⟨⟨tv,tv,dT _,tv⟩,⟨tv,tv,dT _,tv⟩,tv,tv⟩,(forall_cons ⟨(lz rfl),dE _,(lz rfl),tv,tv⟩ (forall_cons ⟨dE _,(lz rfl),dI _,dI _,tv⟩ (forall_cons ⟨dE _,dC _,tv⟩ (forall_cons ⟨tv,tv,tv⟩ forall_nil))))⟩
theorem c336 {qq M q0_l fl fu q0_e p1 p2 r} (h:e336 qq M q0_l fl fu q0_e p1 p2 = some r):K336 M q0_l fl fu q0_e p1 p2 r Ct:=by
 unfold e336 at h
 rcases spl h with ⟨h1,h⟩ | ⟨h1,h⟩
 obtain rfl:=sj h
 exact k336 (tF q336 4 [0,1,2,3] (oD (dT p2.sub) <| oD (dT p1.sub) <| oD (dC M.parts) <| oD (dE M.rl) <| oD (dI M.own) <| oD (dI M.args) <| oD (dE M.l) <| oD (dE q0_l) <| oB 1 h1 o0))
 obtain ⟨r2,h3,h⟩:=obind h
 have k:=oC 1 [0,1,2,3] (c350 h3) <| oB 1 h1 o0
 rcases spl h with ⟨h4,h⟩ | ⟨h4,h⟩
 obtain rfl:=sj h
 exact k336 (tF q336 4 [0,1,2,3] (oD (dT p2.sub) <| oD (dT r2.1.sub) <| oD (dC M.parts) <| oD (dE M.rl) <| oD (dI M.own) <| oD (dI M.args) <| oD (dE M.l) <| oD (dE q0_l) <| oB 2 h4 k))
 obtain ⟨r5,h6,h⟩:=obind h
 obtain rfl:=sj h
 exact k336 (tF q336 7 [0,1,2,3] (oD (dT r5.1.sub) <| oD (dT r2.1.sub) <| oD (dC M.parts) <| oD (dE M.rl) <| oD (dI M.own) <| oD (dI M.args) <| oD (dE M.l) <| oD (dE q0_l) <| oC 1 [0,1,2,3] (c350 h6) <| oB 2 h4 k))
def e349 (qq:Nat) (p0 p1:Int):Option (Bool) :=
 some (p0 == p1)
abbrev K349 (p0 p1:Int) (r:Bool) (C:Cf):Prop:=C 349 [] [ai p0,ai p1] (ab r) [] 0
theorem q349:Qf 349 Tryz.f349:=⟨Tryz.func349,by kernel_rfl⟩
theorem k349 {p0 p1 r} (h:K349 p0 p1 r Ci):K349 p0 p1 r Ct:=⟨h,⟨tv,tv,tv⟩,forall_nil,tv,forall_nil⟩
theorem c349 {qq p0 p1 r} (h:e349 qq p0 p1 = some r):K349 p0 p1 r Ct:=by
 unfold e349 at h
 obtain rfl:=sj h
 exact k349 (tF q349 1 [] (o0))
def e351 (qq:Nat) (M:Mach) (q0_l:List Ent) (fl fu q0_e:Int) (p1:Tm):Option (Tm × Int) :=
 if p1.k == 4 then
 gidx p1.sub 1 >>= fun x2 =>
 some (x2,q0_e)
 else
 e246 qq p1 1 >>= fun r4 =>
 e140 qq 0 >>= fun r6 =>
 e146 qq r4.1 r6 >>= fun r8 =>
 if r4.2 == 0 then
 e91 qq r8 >>= fun r11 =>
 if r11 then
 if q0_e == 0 then
 some (r8,r4.2)
 else
 some (r8,q0_e)
 else
 if q0_e == 0 then
 some (r8,2)
 else
 some (r8,q0_e)
 else
 if q0_e == 0 then
 some (r8,r4.2)
 else
 some (r8,q0_e)
abbrev K351 (M:Mach) (q0_l:List Ent) (fl fu q0_e:Int) (p1:Tm) (r:Tm × Int) (C:Cf):Prop:=C 351 [.cells [.mp 1 0,slv entL q0_l .no,.mp 3 0,ai q0_e],mB M 2,mR M,.cells [ai fl,ai fu]] [.mp 0 0,tmA p1] (tmA r.1) [.cells [.mp 1 0,slv entL q0_l .no,.mp 3 0,ai r.2],mB M 2,mR M,.cells [ai fl,ai fu]] 0
theorem q351:Qf 351 Tryz.f351:=⟨Tryz.func351,by kernel_rfl⟩
theorem k351 {M q0_l fl fu q0_e p1 r} (h:K351 M q0_l fl fu q0_e p1 r Ci):K351 M q0_l fl fu q0_e p1 r Ct:=⟨h,⟨(lz rfl),⟨tv,tv,⟨tv,dT _⟩,tv⟩,tv⟩,(forall_cons ⟨(lz rfl),⟨tv,dE _⟩,(lz rfl),tv,tv⟩ (forall_cons ⟨⟨tv,dE _⟩,(lz rfl),⟨tv,dI _⟩,⟨tv,dI _⟩,tv⟩ (forall_cons ⟨⟨tv,dE _⟩,⟨tv,dC _⟩,tv⟩ (forall_cons ⟨tv,tv,tv⟩ forall_nil)))),⟨tv,tv,dT _,tv⟩,(forall_cons ⟨(lz rfl),dE _,(lz rfl),tv,tv⟩ (forall_cons ⟨dE _,(lz rfl),dI _,dI _,tv⟩ (forall_cons ⟨dE _,dC _,tv⟩ (forall_cons ⟨tv,tv,tv⟩ forall_nil))))⟩
theorem c351 {qq M q0_l fl fu q0_e p1 r} (h:e351 qq M q0_l fl fu q0_e p1 = some r):K351 M q0_l fl fu q0_e p1 r Ct:=by
 unfold e351 at h
 rcases spl h with ⟨h1,h⟩ | ⟨h1,h⟩
 obtain ⟨x2,h3,h⟩:=obind h
 obtain rfl:=sj h
 exact k351 (tF q351 2 [0,1,2,3] (oD (dT x2.sub) <| oD (dC M.parts) <| oD (dE M.rl) <| oD (dI M.own) <| oD (dI M.args) <| oD (dE M.l) <| oD (dE q0_l) <| oA 1 (ix23 (o:=.no) h3) <| oB 1 h1 o0))
 obtain ⟨r4,h5,h⟩:=obind h
 obtain ⟨r6,h7,h⟩:=obind h
 obtain ⟨r8,h9,h⟩:=obind h
 have k:=oC 0 [] (c146 h9) <| oC 4 [] (c140 h7) <| oC 1 [] (c246 h5) <| oB 1 h1 o0
 rcases spl h with ⟨h10,h⟩ | ⟨h10,h⟩
 obtain ⟨r11,h12,h⟩:=obind h
 have k:=oB 1 h10 k
 rcases spl h with ⟨h13,h⟩ | ⟨h13,h⟩
 have k:=oK 1 [] h13 (c91 h12) k
 rcases spl h with ⟨h14,h⟩ | ⟨h14,h⟩
 obtain rfl:=sj h
 exact k351 (tF q351 3 [0,1,2,3] (oD (dT r8.sub) <| oD (dC M.parts) <| oD (dE M.rl) <| oD (dI M.own) <| oD (dI M.args) <| oD (dE M.l) <| oD (dE q0_l) <| oB 2 h14 k))
 obtain rfl:=sj h
 exact k351 (tF q351 2 [0,1,2,3] (oD (dT r8.sub) <| oD (dC M.parts) <| oD (dE M.rl) <| oD (dI M.own) <| oD (dI M.args) <| oD (dE M.l) <| oD (dE q0_l) <| oB 2 h14 k))
 have k:=oK 1 [] h13 (c91 h12) k
 rcases spl h with ⟨h15,h⟩ | ⟨h15,h⟩
 obtain rfl:=sj h
 exact k351 (tF q351 3 [0,1,2,3] (oD (dT r8.sub) <| oD (dC M.parts) <| oD (dE M.rl) <| oD (dI M.own) <| oD (dI M.args) <| oD (dE M.l) <| oD (dE q0_l) <| oB 2 h15 k))
 obtain rfl:=sj h
 exact k351 (tF q351 2 [0,1,2,3] (oD (dT r8.sub) <| oD (dC M.parts) <| oD (dE M.rl) <| oD (dI M.own) <| oD (dI M.args) <| oD (dE M.l) <| oD (dE q0_l) <| oB 2 h15 k))
 have k:=oB 1 h10 k
 rcases spl h with ⟨h16,h⟩ | ⟨h16,h⟩
 obtain rfl:=sj h
 exact k351 (tF q351 3 [0,1,2,3] (oD (dT r8.sub) <| oD (dC M.parts) <| oD (dE M.rl) <| oD (dI M.own) <| oD (dI M.args) <| oD (dE M.l) <| oD (dE q0_l) <| oB 1 h16 k))
 obtain rfl:=sj h
 exact k351 (tF q351 2 [0,1,2,3] (oD (dT r8.sub) <| oD (dC M.parts) <| oD (dE M.rl) <| oD (dI M.own) <| oD (dI M.args) <| oD (dE M.l) <| oD (dE q0_l) <| oB 1 h16 k))
def e352 (qq:Nat) (M:Mach) (q0_l:List Ent) (fl fu q0_e:Int) (p1:Tm):Option (Int × List Tm × Bool) :=
 e170 qq M p1 >>= fun r1 =>
 if r1.2.2 then
 gidx q0_l r1.1 >>= fun x4 =>
 gidx q0_l x4.fam >>= fun x6 =>
 if (List.length x6.fields:Int) == 0 then
 some (0,[],false)
 else
 some (r1.1,r1.2.1,true)
 else
 some (0,[],false)
abbrev K352 (M:Mach) (q0_l:List Ent) (fl fu q0_e:Int) (p1:Tm) (r:Int × List Tm × Bool) (C:Cf):Prop:=C 352 [.cells [.mp 1 0,slv entL q0_l .no,.mp 3 0,ai q0_e],mB M 2,mR M,.cells [ai fl,ai fu]] [.mp 0 0,tmA p1] (.tup [ai r.1,.sl (flat tmCells r.2.1) (List.length r.2.1) .no,ab r.2.2]) [.cells [.mp 1 0,slv entL q0_l .no,.mp 3 0,ai q0_e],mB M 2,mR M,.cells [ai fl,ai fu]] 0
theorem q352:Qf 352 Tryz.f352:=⟨Tryz.func352,by kernel_rfl⟩
theorem k352 {M q0_l fl fu q0_e p1 r} (h:K352 M q0_l fl fu q0_e p1 r Ci):K352 M q0_l fl fu q0_e p1 r Ct:=⟨h,⟨(lz rfl),⟨tv,tv,⟨tv,dT _⟩,tv⟩,tv⟩,(forall_cons ⟨(lz rfl),⟨tv,dE _⟩,(lz rfl),tv,tv⟩ (forall_cons ⟨⟨tv,dE _⟩,(lz rfl),⟨tv,dI _⟩,⟨tv,dI _⟩,tv⟩ (forall_cons ⟨⟨tv,dE _⟩,⟨tv,dC _⟩,tv⟩ (forall_cons ⟨tv,tv,tv⟩ forall_nil)))),⟨tv,dT _,tv,tv⟩,(forall_cons ⟨(lz rfl),dE _,(lz rfl),tv,tv⟩ (forall_cons ⟨dE _,(lz rfl),dI _,dI _,tv⟩ (forall_cons ⟨dE _,dC _,tv⟩ (forall_cons ⟨tv,tv,tv⟩ forall_nil))))⟩
theorem c352 {qq M q0_l fl fu q0_e p1 r} (h:e352 qq M q0_l fl fu q0_e p1 = some r):K352 M q0_l fl fu q0_e p1 r Ct:=by
 unfold e352 at h
 obtain ⟨r1,h2,h⟩:=obind h
 have k:=oC 2 [1,2] (c170 h2) o0
 rcases spl h with ⟨h3,h⟩ | ⟨h3,h⟩
 obtain ⟨x4,h5,h⟩:=obind h
 obtain ⟨x6,h7,h⟩:=obind h
 have k:=oA 1 (ix22 (o:=.no) h7) <| oA 3 (ix22 (o:=.no) h5) <| oB 2 h3 k
 rcases spl h with ⟨h8,h⟩ | ⟨h8,h⟩
 obtain rfl:=sj h
 exact k352 (tF q352 0 [0,1,2,3] (oD (dT ([]:List Tm)) <| oD (dC M.parts) <| oD (dE M.rl) <| oD (dI M.own) <| oD (dI M.args) <| oD (dE M.l) <| oD (dE q0_l) <| oB 2 h8 k))
 obtain rfl:=sj h
 exact k352 (tF q352 0 [0,1,2,3] (oD (dT r1.2.1) <| oD (dC M.parts) <| oD (dE M.rl) <| oD (dI M.own) <| oD (dI M.args) <| oD (dE M.l) <| oD (dE q0_l) <| oB 2 h8 k))
 obtain rfl:=sj h
 exact k352 (tF q352 1 [0,1,2,3] (oD (dT ([]:List Tm)) <| oD (dC M.parts) <| oD (dE M.rl) <| oD (dI M.own) <| oD (dI M.args) <| oD (dE M.l) <| oD (dE q0_l) <| oB 2 h3 k))
def e357 (qq:Nat) (M:Mach) (q0_l:List Ent) (fl fu q0_e:Int) (p1:Tm) (p2 p3:Int) (p4:List Tm):Option (Tm × Int) :=
 e352 qq M q0_l fl fu q0_e p1 >>= fun r1 =>
 if r1.2.2 then
 if r1.1 == p2 then
 gidx r1.2.1 (w64 ((List.length p4:Int) + p3)) >>= fun x5 =>
 some (x5,q0_e)
 else
 gidx q0_l p2 >>= fun x7 =>
 gidx q0_l x7.fam >>= fun x9 =>
 gidx x9.fields p3 >>= fun x11 =>
 e143 qq x11 >>= fun r13 =>
 e142 qq r13 p4 >>= fun r15 =>
 e146 qq r15 p1 >>= fun r17 =>
 if q0_e == 0 then
 e91 qq r17 >>= fun r20 =>
 if r20 then
 some (r17,q0_e)
 else
 some (r17,2)
 else
 some (r17,q0_e)
 else
 gidx q0_l p2 >>= fun x23 =>
 gidx q0_l x23.fam >>= fun x25 =>
 gidx x25.fields p3 >>= fun x27 =>
 e143 qq x27 >>= fun r29 =>
 e142 qq r29 p4 >>= fun r31 =>
 e146 qq r31 p1 >>= fun r33 =>
 if q0_e == 0 then
 e91 qq r33 >>= fun r36 =>
 if r36 then
 some (r33,q0_e)
 else
 some (r33,2)
 else
 some (r33,q0_e)
abbrev K357 (M:Mach) (q0_l:List Ent) (fl fu q0_e:Int) (p1:Tm) (p2 p3:Int) (p4:List Tm) (r:Tm × Int) (C:Cf):Prop:=C 357 [.cells [.mp 1 0,slv entL q0_l .no,.mp 3 0,ai q0_e],mB M 2,mR M,.cells [ai fl,ai fu]] [.mp 0 0,tmA p1,ai p2,ai p3,slv tmCells p4 .no] (tmA r.1) [.cells [.mp 1 0,slv entL q0_l .no,.mp 3 0,ai r.2],mB M 2,mR M,.cells [ai fl,ai fu]] 0
theorem q357:Qf 357 Tryz.f357:=⟨Tryz.func357,by kernel_rfl⟩
theorem k357 {M q0_l fl fu q0_e p1 p2 p3 p4 r} (h:K357 M q0_l fl fu q0_e p1 p2 p3 p4 r Ci):K357 M q0_l fl fu q0_e p1 p2 p3 p4 r Ct:=⟨h,⟨(lz rfl),⟨tv,tv,⟨tv,dT _⟩,tv⟩,tv,tv,⟨tv,dT _⟩,tv⟩,(forall_cons ⟨(lz rfl),⟨tv,dE _⟩,(lz rfl),tv,tv⟩ (forall_cons ⟨⟨tv,dE _⟩,(lz rfl),⟨tv,dI _⟩,⟨tv,dI _⟩,tv⟩ (forall_cons ⟨⟨tv,dE _⟩,⟨tv,dC _⟩,tv⟩ (forall_cons ⟨tv,tv,tv⟩ forall_nil)))),⟨tv,tv,dT _,tv⟩,(forall_cons ⟨(lz rfl),dE _,(lz rfl),tv,tv⟩ (forall_cons ⟨dE _,(lz rfl),dI _,dI _,tv⟩ (forall_cons ⟨dE _,dC _,tv⟩ (forall_cons ⟨tv,tv,tv⟩ forall_nil))))⟩
theorem c357 {qq M q0_l fl fu q0_e p1 p2 p3 p4 r} (h:e357 qq M q0_l fl fu q0_e p1 p2 p3 p4 = some r):K357 M q0_l fl fu q0_e p1 p2 p3 p4 r Ct:=by
 unfold e357 at h
 obtain ⟨r1,h2,h⟩:=obind h
 have k:=oC 1 [0,1,2,3] (c352 h2) o0
 rcases spl h with ⟨h3,h⟩ | ⟨h3,h⟩
 have k:=oB 2 h3 k
 rcases spl h with ⟨h4,h⟩ | ⟨h4,h⟩
 obtain ⟨x5,h6,h⟩:=obind h
 obtain rfl:=sj h
 exact k357 (tF q357 2 [0,1,2,3] (oD (dT x5.sub) <| oD (dC M.parts) <| oD (dE M.rl) <| oD (dI M.own) <| oD (dI M.args) <| oD (dE M.l) <| oD (dE q0_l) <| oA 2 (ix23 (o:=.no) h6) <| oB 0 h4 k))
 obtain ⟨x7,h8,h⟩:=obind h
 obtain ⟨x9,h10,h⟩:=obind h
 obtain ⟨x11,h12,h⟩:=obind h
 obtain ⟨r13,h14,h⟩:=obind h
 obtain ⟨r15,h16,h⟩:=obind h
 obtain ⟨r17,h18,h⟩:=obind h
 have k:=oC 1 [] (c146 h18) <| oC 0 [] (c142 h16) <| oC 1 [] (c143 h14) <| oA 1 (ix34 (o:=.no) h12) <| oA 1 (ix22 (o:=.no) h10) <| oA 2 (ix22 (o:=.no) h8) <| oB 0 h4 k
 rcases spl h with ⟨h19,h⟩ | ⟨h19,h⟩
 obtain ⟨r20,h21,h⟩:=obind h
 have k:=oB 2 h19 k
 rcases spl h with ⟨h22,h⟩ | ⟨h22,h⟩
 obtain rfl:=sj h
 exact k357 (tF q357 3 [0,1,2,3] (oD (dT r17.sub) <| oD (dC M.parts) <| oD (dE M.rl) <| oD (dI M.own) <| oD (dI M.args) <| oD (dE M.l) <| oD (dE q0_l) <| oK 1 [] h22 (c91 h21) k))
 obtain rfl:=sj h
 exact k357 (tF q357 4 [0,1,2,3] (oD (dT r17.sub) <| oD (dC M.parts) <| oD (dE M.rl) <| oD (dI M.own) <| oD (dI M.args) <| oD (dE M.l) <| oD (dE q0_l) <| oK 1 [] h22 (c91 h21) k))
 obtain rfl:=sj h
 exact k357 (tF q357 2 [0,1,2,3] (oD (dT r17.sub) <| oD (dC M.parts) <| oD (dE M.rl) <| oD (dI M.own) <| oD (dI M.args) <| oD (dE M.l) <| oD (dE q0_l) <| oB 2 h19 k))
 obtain ⟨x23,h24,h⟩:=obind h
 obtain ⟨x25,h26,h⟩:=obind h
 obtain ⟨x27,h28,h⟩:=obind h
 obtain ⟨r29,h30,h⟩:=obind h
 obtain ⟨r31,h32,h⟩:=obind h
 obtain ⟨r33,h34,h⟩:=obind h
 have k:=oC 1 [] (c146 h34) <| oC 0 [] (c142 h32) <| oC 1 [] (c143 h30) <| oA 1 (ix34 (o:=.no) h28) <| oA 1 (ix22 (o:=.no) h26) <| oA 2 (ix22 (o:=.no) h24) <| oB 2 h3 k
 rcases spl h with ⟨h35,h⟩ | ⟨h35,h⟩
 obtain ⟨r36,h37,h⟩:=obind h
 have k:=oB 2 h35 k
 rcases spl h with ⟨h38,h⟩ | ⟨h38,h⟩
 obtain rfl:=sj h
 exact k357 (tF q357 3 [0,1,2,3] (oD (dT r33.sub) <| oD (dC M.parts) <| oD (dE M.rl) <| oD (dI M.own) <| oD (dI M.args) <| oD (dE M.l) <| oD (dE q0_l) <| oK 1 [] h38 (c91 h37) k))
 obtain rfl:=sj h
 exact k357 (tF q357 4 [0,1,2,3] (oD (dT r33.sub) <| oD (dC M.parts) <| oD (dE M.rl) <| oD (dI M.own) <| oD (dI M.args) <| oD (dE M.l) <| oD (dE q0_l) <| oK 1 [] h38 (c91 h37) k))
 obtain rfl:=sj h
 exact k357 (tF q357 2 [0,1,2,3] (oD (dT r33.sub) <| oD (dC M.parts) <| oD (dE M.rl) <| oD (dI M.own) <| oD (dI M.args) <| oD (dE M.l) <| oD (dE q0_l) <| oB 2 h35 k))
mutual
def e335va22461:Nat → (List Ent) → (List Ent) → (List Con') → (List Int) → (List Int) → (List Ent) → Int → Int → Int → Tm → Tm → Option (Bool × Int × Int × Int)
 | 0,_,_,_,_,_,_,_,_,_,_,_ => none
 | qq + 1,q0,q1,q2,q3,q4,q5,q6,q7,q8,p1,p2 =>
 e336 qq (Mach.mk q0 q1 q2 q3 q4) q5 q6 q7 q8 p1 p2 >>= fun r1 =>
 if r1.2.2.1 then
 e337va21834 qq q0 q1 q2 q3 q4 q5 r1.2.2.2.2.1 r1.2.2.2.2.2 r1.2.2.2.1 r1.1 r1.2.1 >>= fun r4 =>
 some (r4.1,r4.2.1,r4.2.2.1,r4.2.2.2)
 else
 some (false,r1.2.2.2.1,r1.2.2.2.2.1,r1.2.2.2.2.2)
def e337va21834:Nat → (List Ent) → (List Ent) → (List Con') → (List Int) → (List Int) → (List Ent) → Int → Int → Int → Tm → Tm → Option (Bool × Int × Int × Int)
 | 0,_,_,_,_,_,_,_,_,_,_,_ => none
 | qq + 1,q0,q1,q2,q3,q4,q5,q6,q7,q8,p1,p2 =>
 if p1.k == 4 then
 e351 qq (Mach.mk q0 q1 q2 q3 q4) q5 q6 q7 q8 p1 >>= fun r2 =>
 e351 qq (Mach.mk q0 q1 q2 q3 q4) q5 q6 q7 r2.2 p2 >>= fun r4 =>
 e335va22461 qq q0 q1 q2 q3 q4 q5 q6 q7 r4.2 r2.1 r4.1 >>= fun r6 =>
 some (r6.1,r6.2.1,r6.2.2.1,r6.2.2.2)
 else
 if p2.k == 4 then
 e351 qq (Mach.mk q0 q1 q2 q3 q4) q5 q6 q7 q8 p1 >>= fun r9 =>
 e351 qq (Mach.mk q0 q1 q2 q3 q4) q5 q6 q7 r9.2 p2 >>= fun r11 =>
 e335va22461 qq q0 q1 q2 q3 q4 q5 q6 q7 r11.2 r9.1 r11.1 >>= fun r13 =>
 some (r13.1,r13.2.1,r13.2.2.1,r13.2.2.2)
 else
 e352 qq (Mach.mk q0 q1 q2 q3 q4) q5 q6 q7 q8 p1 >>= fun r15 =>
 if r15.2.2 then
 e352 qq (Mach.mk q0 q1 q2 q3 q4) q5 q6 q7 q8 p2 >>= fun r18 =>
 if r18.2.2 then
 if r15.1 != r18.1 then
 some (false,q8,q6,q7)
 else
 gidx q5 r15.1 >>= fun x22 =>
 gsl r15.2.1 0 x22.pars >>= fun x24 =>
 e353va27343 qq q0 q1 q2 q3 q4 q5 q6 q7 q8 p1 p2 r15.1 x24 >>= fun r26 =>
 some (r26.1,r26.2.1,r26.2.2.1,r26.2.2.2)
 else
 gidx q5 r15.1 >>= fun x28 =>
 gsl r15.2.1 0 x28.pars >>= fun x30 =>
 e353va27343 qq q0 q1 q2 q3 q4 q5 q6 q7 q8 p1 p2 r15.1 x30 >>= fun r32 =>
 some (r32.1,r32.2.1,r32.2.2.1,r32.2.2.2)
 else
 e352 qq (Mach.mk q0 q1 q2 q3 q4) q5 q6 q7 q8 p2 >>= fun r34 =>
 if r34.2.2 then
 gidx q5 r34.1 >>= fun x37 =>
 gsl r34.2.1 0 x37.pars >>= fun x39 =>
 e353va27343 qq q0 q1 q2 q3 q4 q5 q6 q7 q8 p1 p2 r34.1 x39 >>= fun r41 =>
 some (r41.1,r41.2.1,r41.2.2.1,r41.2.2.2)
 else
 if p1.k != p2.k then
 some (false,q8,q6,q7)
 else
 if p1.k == 3 then
 gidx p1.sub 0 >>= fun x45 =>
 gidx p2.sub 0 >>= fun x47 =>
 e335va22461 qq q0 q1 q2 q3 q4 q5 q6 q7 q8 x45 x47 >>= fun r49 =>
 if r49.1 then
 gidx p1.sub 1 >>= fun x52 =>
 gidx p2.sub 1 >>= fun x54 =>
 e335va22461 qq q0 q1 q2 q3 q4 q5 r49.2.2.1 r49.2.2.2 r49.2.1 x52 x54 >>= fun r56 =>
 some (r56.1,r56.2.1,r56.2.2.1,r56.2.2.2)
 else
 some (false,r49.2.1,r49.2.2.1,r49.2.2.2)
 else
 if p1.k == 2 then
 e349 qq p1.n p2.n >>= fun r59 =>
 some (r59,q8,q6,q7)
 else
 e354va22461 qq q0 q1 q2 q3 q4 q5 q6 q7 q8 p1 p2 >>= fun r61 =>
 some (r61.1,r61.2.1,r61.2.2.1,r61.2.2.2)
def e353va27343:Nat → (List Ent) → (List Ent) → (List Con') → (List Int) → (List Int) → (List Ent) → Int → Int → Int → Tm → Tm → Int → (List Tm) → Option (Bool × Int × Int × Int)
 | 0,_,_,_,_,_,_,_,_,_,_,_,_,_ => none
 | qq + 1,q0,q1,q2,q3,q4,q5,q6,q7,q8,p1,p2,p3,p4 =>
 gidx q5 p3 >>= fun x1 =>
 gidx q5 x1.fam >>= fun x3 =>
 e353va27343L63412 qq q0 q1 q2 q3 q4 q5 p1 p2 p3 p4 x3 0 q8 q6 q7
def e353va27343L63412:Nat → (List Ent) → (List Ent) → (List Con') → (List Int) → (List Int) → (List Ent) → Tm → Tm → Int → (List Tm) → Ent → Int → Int → Int → Int → Option (Bool × Int × Int × Int)
 | 0,_,_,_,_,_,_,_,_,_,_,_,_,_,_,_ => none
 | qq + 1,q0,q1,q2,q3,q4,q5,p1,p2,p3,p4,x3,v28,vb0_3,vb3_0,vb3_1 =>
 if decide (v28 < (List.length x3.fields:Int)) then
 e357 qq (Mach.mk q0 q1 q2 q3 q4) q5 vb3_0 vb3_1 vb0_3 p1 p3 v28 p4 >>= fun r6 =>
 e357 qq (Mach.mk q0 q1 q2 q3 q4) q5 vb3_0 vb3_1 r6.2 p2 p3 v28 p4 >>= fun r8 =>
 e335va22461 qq q0 q1 q2 q3 q4 q5 vb3_0 vb3_1 r8.2 r6.1 r8.1 >>= fun r10 =>
 if r10.1 then
 e353va27343L63412 qq q0 q1 q2 q3 q4 q5 p1 p2 p3 p4 x3 (w64 (v28 + 1)) r10.2.1 r10.2.2.1 r10.2.2.2
 else
 some (false,r10.2.1,r10.2.2.1,r10.2.2.2)
 else
 some (true,vb0_3,vb3_0,vb3_1)
def e354va22461:Nat → (List Ent) → (List Ent) → (List Con') → (List Int) → (List Int) → (List Ent) → Int → Int → Int → Tm → Tm → Option (Bool × Int × Int × Int)
 | 0,_,_,_,_,_,_,_,_,_,_,_ => none
 | qq + 1,q0,q1,q2,q3,q4,q5,q6,q7,q8,p1,p2 =>
 e158 qq p1 >>= fun r1 =>
 e158 qq p2 >>= fun r3 =>
 if r1.1.k != r3.1.k then
 some (false,q8,q6,q7)
 else
 if r1.1.n != r3.1.n then
 some (false,q8,q6,q7)
 else
 if (List.length r1.2:Int) != (List.length r3.2:Int) then
 some (false,q8,q6,q7)
 else
 if r1.1.k == 7 then
 gidx r1.1.sub 0 >>= fun x9 =>
 gidx r3.1.sub 0 >>= fun x11 =>
 if x9.n != x11.n then
 some (false,q8,q6,q7)
 else
 if r1.1.k == 3 then
 e335va22461 qq q0 q1 q2 q3 q4 q5 q6 q7 q8 x9 x11 >>= fun r15 =>
 if r15.1 then
 gidx r1.1.sub 1 >>= fun x18 =>
 gidx r3.1.sub 1 >>= fun x20 =>
 e335va22461 qq q0 q1 q2 q3 q4 q5 r15.2.2.1 r15.2.2.2 r15.2.1 x18 x20 >>= fun r22 =>
 if r22.1 then
 e354va22461L16782 qq q0 q1 q2 q3 q4 q5 r1 r3 0 r22.2.1 r22.2.2.1 r22.2.2.2
 else
 some (false,r22.2.1,r22.2.2.1,r22.2.2.2)
 else
 some (false,r15.2.1,r15.2.2.1,r15.2.2.2)
 else
 e354va22461L16782 qq q0 q1 q2 q3 q4 q5 r1 r3 0 q8 q6 q7
 else
 if r1.1.k == 3 then
 gidx r1.1.sub 0 >>= fun x26 =>
 gidx r3.1.sub 0 >>= fun x28 =>
 e335va22461 qq q0 q1 q2 q3 q4 q5 q6 q7 q8 x26 x28 >>= fun r30 =>
 if r30.1 then
 gidx r1.1.sub 1 >>= fun x33 =>
 gidx r3.1.sub 1 >>= fun x35 =>
 e335va22461 qq q0 q1 q2 q3 q4 q5 r30.2.2.1 r30.2.2.2 r30.2.1 x33 x35 >>= fun r37 =>
 if r37.1 then
 e354va22461L16782 qq q0 q1 q2 q3 q4 q5 r1 r3 0 r37.2.1 r37.2.2.1 r37.2.2.2
 else
 some (false,r37.2.1,r37.2.2.1,r37.2.2.2)
 else
 some (false,r30.2.1,r30.2.2.1,r30.2.2.2)
 else
 e354va22461L16782 qq q0 q1 q2 q3 q4 q5 r1 r3 0 q8 q6 q7
def e354va22461L16782:Nat → (List Ent) → (List Ent) → (List Con') → (List Int) → (List Int) → (List Ent) → (Tm × List Tm) → (Tm × List Tm) → Int → Int → Int → Int → Option (Bool × Int × Int × Int)
 | 0,_,_,_,_,_,_,_,_,_,_,_,_ => none
 | qq + 1,q0,q1,q2,q3,q4,q5,r1,r3,v89,vb0_3,vb3_0,vb3_1 =>
 if decide (v89 < (List.length r1.2:Int)) then
 gidx r1.2 v89 >>= fun x26 =>
 gidx r3.2 v89 >>= fun x28 =>
 e335va22461 qq q0 q1 q2 q3 q4 q5 vb3_0 vb3_1 vb0_3 x26 x28 >>= fun r30 =>
 if r30.1 then
 e354va22461L16782 qq q0 q1 q2 q3 q4 q5 r1 r3 (w64 (v89 + 1)) r30.2.1 r30.2.2.1 r30.2.2.2
 else
 some (false,r30.2.1,r30.2.2.1,r30.2.2.2)
 else
 some (true,vb0_3,vb3_0,vb3_1)
end
def g353va27343L63412E0 (j:Nat → Value) (q0 q1:List Ent) (q2:List Con') (q3 q4:List Int) (q5:List Ent) (p1 p2:Tm) (p3:Int) (p4:List Tm) (x3:Ent) (v28 vb0_3 vb3_0 vb3_1:Int):=sp j 47 0 [(0,.mp 0 0),(3,ai p3),(4,slv tmCells p4 .no),(6,.mp 4 0),(7,.mp 5 0),(27,ai (List.length x3.fields:Int)),(28,ai v28)]
def g353va27343L63412S0 (q0 q1:List Ent) (q2:List Con') (q3 q4:List Int) (q5:List Ent) (p1 p2:Tm) (p3:Int) (p4:List Tm) (x3:Ent) (v28 vb0_3 vb3_0 vb3_1:Int):LSt:=⟨[(0,.cells [.mp 1 0,slv entL q5 .no,.mp 3 0,ai vb0_3]),(1,.cells [slv entL q0 .no,.mp 2 0,slv intC q3 .no,slv intC q4 .no]),(2,.cells [slv entL q1 .no,slv conL q2 .no]),(3,.cells [ai vb3_0,ai vb3_1]),(4,.cells [ai p1.k,ai p1.n,slv tmCells p1.sub .no]),(5,.cells [ai p2.k,ai p2.n,slv tmCells p2.sub .no])],6,[],0,[]⟩
def g354va22461L16782E0 (j:Nat → Value) (q0 q1:List Ent) (q2:List Con') (q3 q4:List Int) (q5:List Ent) (r1 r3:Tm × List Tm) (v89 vb0_3 vb3_0 vb3_1:Int):=sp j 104 0 [(0,.mp 0 0),(8,slv tmCells r1.2 .no),(10,slv tmCells r3.2 .no),(88,ai (List.length r1.2:Int)),(89,ai v89)]
def g354va22461L16782S0 (q0 q1:List Ent) (q2:List Con') (q3 q4:List Int) (q5:List Ent) (r1 r3:Tm × List Tm) (v89 vb0_3 vb3_0 vb3_1:Int):LSt:=⟨[(0,.cells [.mp 1 0,slv entL q5 .no,.mp 3 0,ai vb0_3]),(1,.cells [slv entL q0 .no,.mp 2 0,slv intC q3 .no,slv intC q4 .no]),(2,.cells [slv entL q1 .no,slv conL q2 .no]),(3,.cells [ai vb3_0,ai vb3_1])],4,[],0,[]⟩
abbrev K335va22461 (q0 q1:List Ent) (q2:List Con') (q3 q4:List Int) (q5:List Ent) (q6 q7 q8:Int) (p1 p2:Tm) (r:Bool × Int × Int × Int) (C:Cf):Prop:=C 335 [.cells [.mp 1 0,slv entL q5 .no,.mp 3 0,ai q8],.cells [slv entL q0 .no,.mp 2 0,slv intC q3 .no,slv intC q4 .no],.cells [slv entL q1 .no,slv conL q2 .no],.cells [ai q6,ai q7]] [.mp 0 0,tmA p1,tmA p2] (ab r.1) [.cells [.mp 1 0,slv entL q5 .no,.mp 3 0,ai r.2.1],.cells [slv entL q0 .no,.mp 2 0,slv intC q3 .no,slv intC q4 .no],.cells [slv entL q1 .no,slv conL q2 .no],.cells [ai r.2.2.1,ai r.2.2.2]] 0
abbrev K337va21834 (q0 q1:List Ent) (q2:List Con') (q3 q4:List Int) (q5:List Ent) (q6 q7 q8:Int) (p1 p2:Tm) (r:Bool × Int × Int × Int) (C:Cf):Prop:=C 337 [.cells [.mp 1 0,slv entL q5 .no,.mp 3 0,ai q8],.cells [slv entL q0 .no,.mp 2 0,slv intC q3 .no,slv intC q4 .no],.cells [slv entL q1 .no,slv conL q2 .no],.cells [ai q6,ai q7]] [.mp 0 0,tmA p1,tmA p2,.agg [.clo 349 [] [],.clo 335 [.mp 0 0] []]] (ab r.1) [.cells [.mp 1 0,slv entL q5 .no,.mp 3 0,ai r.2.1],.cells [slv entL q0 .no,.mp 2 0,slv intC q3 .no,slv intC q4 .no],.cells [slv entL q1 .no,slv conL q2 .no],.cells [ai r.2.2.1,ai r.2.2.2]] 0
abbrev K353va27343 (q0 q1:List Ent) (q2:List Con') (q3 q4:List Int) (q5:List Ent) (q6 q7 q8:Int) (p1 p2:Tm) (p3:Int) (p4:List Tm) (r:Bool × Int × Int × Int) (C:Cf):Prop:=C 353 [.cells [.mp 1 0,slv entL q5 .no,.mp 3 0,ai q8],.cells [slv entL q0 .no,.mp 2 0,slv intC q3 .no,slv intC q4 .no],.cells [slv entL q1 .no,slv conL q2 .no],.cells [ai q6,ai q7]] [.mp 0 0,tmA p1,tmA p2,ai p3,slv tmCells p4 .no] (ab r.1) [.cells [.mp 1 0,slv entL q5 .no,.mp 3 0,ai r.2.1],.cells [slv entL q0 .no,.mp 2 0,slv intC q3 .no,slv intC q4 .no],.cells [slv entL q1 .no,slv conL q2 .no],.cells [ai r.2.2.1,ai r.2.2.2]] 0
abbrev K354va22461 (q0 q1:List Ent) (q2:List Con') (q3 q4:List Int) (q5:List Ent) (q6 q7 q8:Int) (p1 p2:Tm) (r:Bool × Int × Int × Int) (C:Cf):Prop:=C 354 [.cells [.mp 1 0,slv entL q5 .no,.mp 3 0,ai q8],.cells [slv entL q0 .no,.mp 2 0,slv intC q3 .no,slv intC q4 .no],.cells [slv entL q1 .no,slv conL q2 .no],.cells [ai q6,ai q7]] [.mp 0 0,tmA p1,tmA p2] (ab r.1) [.cells [.mp 1 0,slv entL q5 .no,.mp 3 0,ai r.2.1],.cells [slv entL q0 .no,.mp 2 0,slv intC q3 .no,slv intC q4 .no],.cells [slv entL q1 .no,slv conL q2 .no],.cells [ai r.2.2.1,ai r.2.2.2]] 0
theorem q335va22461:Qf 335 Tryz.f335:=⟨Tryz.func335,by kernel_rfl⟩
theorem k335va22461 {q0 q1 q2 q3 q4 q5 q6 q7 q8 p1 p2 r} (h:K335va22461 q0 q1 q2 q3 q4 q5 q6 q7 q8 p1 p2 r Ci):K335va22461 q0 q1 q2 q3 q4 q5 q6 q7 q8 p1 p2 r Ct:=⟨h,⟨(lz rfl),⟨tv,tv,⟨tv,dT _⟩,tv⟩,⟨tv,tv,⟨tv,dT _⟩,tv⟩,tv⟩,(forall_cons ⟨(lz rfl),⟨tv,dE _⟩,(lz rfl),tv,tv⟩ (forall_cons ⟨⟨tv,dE _⟩,(lz rfl),⟨tv,dI _⟩,⟨tv,dI _⟩,tv⟩ (forall_cons ⟨⟨tv,dE _⟩,⟨tv,dC _⟩,tv⟩ (forall_cons ⟨tv,tv,tv⟩ forall_nil)))),tv,(forall_cons ⟨(lz rfl),dE _,(lz rfl),tv,tv⟩ (forall_cons ⟨dE _,(lz rfl),dI _,dI _,tv⟩ (forall_cons ⟨dE _,dC _,tv⟩ (forall_cons ⟨tv,tv,tv⟩ forall_nil))))⟩
theorem q337va21834:Qf 337 Tryz.f337:=⟨Tryz.func337,by kernel_rfl⟩
theorem k337va21834 {q0 q1 q2 q3 q4 q5 q6 q7 q8 p1 p2 r} (h:K337va21834 q0 q1 q2 q3 q4 q5 q6 q7 q8 p1 p2 r Ci):K337va21834 q0 q1 q2 q3 q4 q5 q6 q7 q8 p1 p2 r Ct:=⟨h,⟨(lz rfl),⟨tv,tv,⟨tv,dT _⟩,tv⟩,⟨tv,tv,⟨tv,dT _⟩,tv⟩,⟨⟨tv,tv⟩,⟨⟨(lz rfl),tv⟩,tv⟩,tv⟩,tv⟩,(forall_cons ⟨(lz rfl),⟨tv,dE _⟩,(lz rfl),tv,tv⟩ (forall_cons ⟨⟨tv,dE _⟩,(lz rfl),⟨tv,dI _⟩,⟨tv,dI _⟩,tv⟩ (forall_cons ⟨⟨tv,dE _⟩,⟨tv,dC _⟩,tv⟩ (forall_cons ⟨tv,tv,tv⟩ forall_nil)))),tv,(forall_cons ⟨(lz rfl),dE _,(lz rfl),tv,tv⟩ (forall_cons ⟨dE _,(lz rfl),dI _,dI _,tv⟩ (forall_cons ⟨dE _,dC _,tv⟩ (forall_cons ⟨tv,tv,tv⟩ forall_nil))))⟩
theorem q353va27343:Qf 353 Tryz.f353:=⟨Tryz.func353,by kernel_rfl⟩
theorem k353va27343 {q0 q1 q2 q3 q4 q5 q6 q7 q8 p1 p2 p3 p4 r} (h:K353va27343 q0 q1 q2 q3 q4 q5 q6 q7 q8 p1 p2 p3 p4 r Ci):K353va27343 q0 q1 q2 q3 q4 q5 q6 q7 q8 p1 p2 p3 p4 r Ct:=⟨h,⟨(lz rfl),⟨tv,tv,⟨tv,dT _⟩,tv⟩,⟨tv,tv,⟨tv,dT _⟩,tv⟩,tv,⟨tv,dT _⟩,tv⟩,(forall_cons ⟨(lz rfl),⟨tv,dE _⟩,(lz rfl),tv,tv⟩ (forall_cons ⟨⟨tv,dE _⟩,(lz rfl),⟨tv,dI _⟩,⟨tv,dI _⟩,tv⟩ (forall_cons ⟨⟨tv,dE _⟩,⟨tv,dC _⟩,tv⟩ (forall_cons ⟨tv,tv,tv⟩ forall_nil)))),tv,(forall_cons ⟨(lz rfl),dE _,(lz rfl),tv,tv⟩ (forall_cons ⟨dE _,(lz rfl),dI _,dI _,tv⟩ (forall_cons ⟨dE _,dC _,tv⟩ (forall_cons ⟨tv,tv,tv⟩ forall_nil))))⟩
theorem q354va22461:Qf 354 Tryz.f354:=⟨Tryz.func354,by kernel_rfl⟩
theorem k354va22461 {q0 q1 q2 q3 q4 q5 q6 q7 q8 p1 p2 r} (h:K354va22461 q0 q1 q2 q3 q4 q5 q6 q7 q8 p1 p2 r Ci):K354va22461 q0 q1 q2 q3 q4 q5 q6 q7 q8 p1 p2 r Ct:=⟨h,⟨(lz rfl),⟨tv,tv,⟨tv,dT _⟩,tv⟩,⟨tv,tv,⟨tv,dT _⟩,tv⟩,tv⟩,(forall_cons ⟨(lz rfl),⟨tv,dE _⟩,(lz rfl),tv,tv⟩ (forall_cons ⟨⟨tv,dE _⟩,(lz rfl),⟨tv,dI _⟩,⟨tv,dI _⟩,tv⟩ (forall_cons ⟨⟨tv,dE _⟩,⟨tv,dC _⟩,tv⟩ (forall_cons ⟨tv,tv,tv⟩ forall_nil)))),tv,(forall_cons ⟨(lz rfl),dE _,(lz rfl),tv,tv⟩ (forall_cons ⟨dE _,(lz rfl),dI _,dI _,tv⟩ (forall_cons ⟨dE _,dC _,tv⟩ (forall_cons ⟨tv,tv,tv⟩ forall_nil))))⟩
theorem a335va22461_337va21834_353va27343_353va27343L63412_354va22461_354va22461L16782:∀ qq:Nat,(∀ q0 q1 q2 q3 q4 q5 q6 q7 q8 p1 p2 r,e335va22461 qq q0 q1 q2 q3 q4 q5 q6 q7 q8 p1 p2 = some r → K335va22461 q0 q1 q2 q3 q4 q5 q6 q7 q8 p1 p2 r Ct) ∧ (∀ q0 q1 q2 q3 q4 q5 q6 q7 q8 p1 p2 r,e337va21834 qq q0 q1 q2 q3 q4 q5 q6 q7 q8 p1 p2 = some r → K337va21834 q0 q1 q2 q3 q4 q5 q6 q7 q8 p1 p2 r Ct) ∧ (∀ q0 q1 q2 q3 q4 q5 q6 q7 q8 p1 p2 p3 p4 r,e353va27343 qq q0 q1 q2 q3 q4 q5 q6 q7 q8 p1 p2 p3 p4 = some r → K353va27343 q0 q1 q2 q3 q4 q5 q6 q7 q8 p1 p2 p3 p4 r Ct) ∧ (∀ q0 q1 q2 q3 q4 q5 p1 p2 p3 p4 x3 v28 vb0_3 vb3_0 vb3_1 r,e353va27343L63412 qq q0 q1 q2 q3 q4 q5 p1 p2 p3 p4 x3 v28 vb0_3 vb3_0 vb3_1 = some r → (∀ j,Dl Tryz.prog 4 (inn (inn (rgt (lft (rgt (bod Tryz.f353)))))) (g353va27343L63412E0 j q0 q1 q2 q3 q4 q5 p1 p2 p3 p4 x3 v28 vb0_3 vb3_0 vb3_1) (g353va27343L63412S0 q0 q1 q2 q3 q4 q5 p1 p2 p3 p4 x3 v28 vb0_3 vb3_0 vb3_1) (frameQ Tryz.prog 4 (FinQ Tryz.prog 4 Tryz.f353 (ab r.1) [.cells [.mp 1 0,slv entL q5 .no,.mp 3 0,ai r.2.1],.cells [slv entL q0 .no,.mp 2 0,slv intC q3 .no,slv intC q4 .no],.cells [slv entL q1 .no,slv conL q2 .no],.cells [ai r.2.2.1,ai r.2.2.2]] 0) [.blk 0,.seq (rgt (rgt (bod Tryz.f353)))]))) ∧ (∀ q0 q1 q2 q3 q4 q5 q6 q7 q8 p1 p2 r,e354va22461 qq q0 q1 q2 q3 q4 q5 q6 q7 q8 p1 p2 = some r → K354va22461 q0 q1 q2 q3 q4 q5 q6 q7 q8 p1 p2 r Ct) ∧ (∀ q0 q1 q2 q3 q4 q5 r1 r3 v89 vb0_3 vb3_0 vb3_1 r,e354va22461L16782 qq q0 q1 q2 q3 q4 q5 r1 r3 v89 vb0_3 vb3_0 vb3_1 = some r → (∀ j,Dl Tryz.prog 4 (inn (inn (rgt (lft (rgt (rgt (rgt (rgt (rgt (bod Tryz.f354)))))))))) (g354va22461L16782E0 j q0 q1 q2 q3 q4 q5 r1 r3 v89 vb0_3 vb3_0 vb3_1) (g354va22461L16782S0 q0 q1 q2 q3 q4 q5 r1 r3 v89 vb0_3 vb3_0 vb3_1) (frameQ Tryz.prog 4 (FinQ Tryz.prog 4 Tryz.f354 (ab r.1) [.cells [.mp 1 0,slv entL q5 .no,.mp 3 0,ai r.2.1],.cells [slv entL q0 .no,.mp 2 0,slv intC q3 .no,slv intC q4 .no],.cells [slv entL q1 .no,slv conL q2 .no],.cells [ai r.2.2.1,ai r.2.2.2]] 0) [.blk 0,.seq (rgt (rgt (rgt (rgt (rgt (rgt (bod Tryz.f354)))))))]))):=by
 intro qq
 induction qq with
 | zero =>
  exact ⟨fun _ _ _ _ _ _ _ _ _ _ _ _ h => nn h,fun _ _ _ _ _ _ _ _ _ _ _ _ h => nn h,fun _ _ _ _ _ _ _ _ _ _ _ _ _ _ h => nn h,fun _ _ _ _ _ _ _ _ _ _ _ _ _ _ _ _ h => nn h,fun _ _ _ _ _ _ _ _ _ _ _ _ h => nn h,fun _ _ _ _ _ _ _ _ _ _ _ _ _ h => nn h⟩
 | succ qq ih =>
  obtain ⟨ih335va22461,ih337va21834,ih353va27343,ih353va27343L63412,ih354va22461,ih354va22461L16782⟩:=ih
  refine ⟨?_,?_,?_,?_,?_,?_⟩
  intro q0 q1 q2 q3 q4 q5 q6 q7 q8 p1 p2 r h
  rw [e335va22461] at h
  obtain ⟨r1,h2,h⟩:=obind h
  have k:=oC 2 [0,1,2,3] (c336 h2) o0
  rcases spl h with ⟨h3,h⟩ | ⟨h3,h⟩
  obtain ⟨r4,h5,h⟩:=obind h
  obtain rfl:=sj h
  exact k335va22461 (tF q335va22461 0 [0,1,2,3] (oD (dC q2) <| oD (dE q1) <| oD (dI q4) <| oD (dI q3) <| oD (dE q0) <| oD (dE q5) <| oC 4 [0,1,2,3] (ih337va21834 _ _ _ _ _ _ _ _ _ _ _ _ h5) <| oB 2 h3 k))
  obtain rfl:=sj h
  exact k335va22461 (tF q335va22461 2 [0,1,2,3] (oD (dC q2) <| oD (dE q1) <| oD (dI q4) <| oD (dI q3) <| oD (dE q0) <| oD (dE q5) <| oB 2 h3 k))
  intro q0 q1 q2 q3 q4 q5 q6 q7 q8 p1 p2 r h
  rw [e337va21834] at h
  rcases spl h with ⟨h1,h⟩ | ⟨h1,h⟩
  obtain ⟨r2,h3,h⟩:=obind h
  obtain ⟨r4,h5,h⟩:=obind h
  obtain ⟨r6,h7,h⟩:=obind h
  obtain rfl:=sj h
  exact k337va21834 (tF q337va21834 0 [0,1,2,3] (oD (dC q2) <| oD (dE q1) <| oD (dI q4) <| oD (dI q3) <| oD (dE q0) <| oD (dE q5) <| oC 0 [0,1,2,3] (ih335va22461 _ _ _ _ _ _ _ _ _ _ _ _ h7) <| oC 1 [0,1,2,3] (c351 h5) <| oC 1 [0,1,2,3] (c351 h3) <| oB 1 h1 o0))
  have k:=oB 1 h1 o0
  rcases spl h with ⟨h8,h⟩ | ⟨h8,h⟩
  obtain ⟨r9,h10,h⟩:=obind h
  obtain ⟨r11,h12,h⟩:=obind h
  obtain ⟨r13,h14,h⟩:=obind h
  obtain rfl:=sj h
  exact k337va21834 (tF q337va21834 0 [0,1,2,3] (oD (dC q2) <| oD (dE q1) <| oD (dI q4) <| oD (dI q3) <| oD (dE q0) <| oD (dE q5) <| oC 0 [0,1,2,3] (ih335va22461 _ _ _ _ _ _ _ _ _ _ _ _ h14) <| oC 1 [0,1,2,3] (c351 h12) <| oC 1 [0,1,2,3] (c351 h10) <| oB 1 h8 k))
  obtain ⟨r15,h16,h⟩:=obind h
  have k:=oC 1 [0,1,2,3] (c352 h16) <| oB 1 h8 k
  rcases spl h with ⟨h17,h⟩ | ⟨h17,h⟩
  obtain ⟨r18,h19,h⟩:=obind h
  have k:=oC 1 [0,1,2,3] (c352 h19) <| oB 2 h17 k
  rcases spl h with ⟨h20,h⟩ | ⟨h20,h⟩
  have k:=oB 2 h20 k
  rcases spl h with ⟨h21,h⟩ | ⟨h21,h⟩
  obtain rfl:=sj h
  exact k337va21834 (tF q337va21834 0 [0,1,2,3] (oD (dC q2) <| oD (dE q1) <| oD (dI q4) <| oD (dI q3) <| oD (dE q0) <| oD (dE q5) <| oB 0 h21 k))
  obtain ⟨x22,h23,h⟩:=obind h
  obtain ⟨x24,h25,h⟩:=obind h
  obtain ⟨r26,h27,h⟩:=obind h
  obtain rfl:=sj h
  exact k337va21834 (tF q337va21834 0 [0,1,2,3] (oD (dC q2) <| oD (dE q1) <| oD (dI q4) <| oD (dI q3) <| oD (dE q0) <| oD (dE q5) <| oC 0 [0,1,2,3] (ih353va27343 _ _ _ _ _ _ _ _ _ _ _ _ _ _ h27) <| oA 1 (slTo23 h25) <| oA 3 (ix22 (o:=.no) h23) <| oB 0 h21 k))
  obtain ⟨x28,h29,h⟩:=obind h
  obtain ⟨x30,h31,h⟩:=obind h
  obtain ⟨r32,h33,h⟩:=obind h
  obtain rfl:=sj h
  exact k337va21834 (tF q337va21834 0 [0,1,2,3] (oD (dC q2) <| oD (dE q1) <| oD (dI q4) <| oD (dI q3) <| oD (dE q0) <| oD (dE q5) <| oC 0 [0,1,2,3] (ih353va27343 _ _ _ _ _ _ _ _ _ _ _ _ _ _ h33) <| oA 1 (slTo23 h31) <| oA 3 (ix22 (o:=.no) h29) <| oB 2 h20 k))
  obtain ⟨r34,h35,h⟩:=obind h
  have k:=oC 1 [0,1,2,3] (c352 h35) <| oB 2 h17 k
  rcases spl h with ⟨h36,h⟩ | ⟨h36,h⟩
  obtain ⟨x37,h38,h⟩:=obind h
  obtain ⟨x39,h40,h⟩:=obind h
  obtain ⟨r41,h42,h⟩:=obind h
  obtain rfl:=sj h
  exact k337va21834 (tF q337va21834 0 [0,1,2,3] (oD (dC q2) <| oD (dE q1) <| oD (dI q4) <| oD (dI q3) <| oD (dE q0) <| oD (dE q5) <| oC 0 [0,1,2,3] (ih353va27343 _ _ _ _ _ _ _ _ _ _ _ _ _ _ h42) <| oA 1 (slTo23 h40) <| oA 3 (ix22 (o:=.no) h38) <| oB 2 h36 k))
  have k:=oB 2 h36 k
  rcases spl h with ⟨h43,h⟩ | ⟨h43,h⟩
  obtain rfl:=sj h
  exact k337va21834 (tF q337va21834 0 [0,1,2,3] (oD (dC q2) <| oD (dE q1) <| oD (dI q4) <| oD (dI q3) <| oD (dE q0) <| oD (dE q5) <| oB 2 h43 k))
  have k:=oB 2 h43 k
  rcases spl h with ⟨h44,h⟩ | ⟨h44,h⟩
  obtain ⟨x45,h46,h⟩:=obind h
  obtain ⟨x47,h48,h⟩:=obind h
  obtain ⟨r49,h50,h⟩:=obind h
  have k:=oA 2 (ix23 (o:=.no) h48) <| oA 1 (ix23 (o:=.no) h46) <| oB 1 h44 k
  rcases spl h with ⟨h51,h⟩ | ⟨h51,h⟩
  obtain ⟨x52,h53,h⟩:=obind h
  obtain ⟨x54,h55,h⟩:=obind h
  obtain ⟨r56,h57,h⟩:=obind h
  obtain rfl:=sj h
  exact k337va21834 (tF q337va21834 0 [0,1,2,3] (oD (dC q2) <| oD (dE q1) <| oD (dI q4) <| oD (dI q3) <| oD (dE q0) <| oD (dE q5) <| oC 1 [0,1,2,3] (ih335va22461 _ _ _ _ _ _ _ _ _ _ _ _ h57) <| oA 2 (ix23 (o:=.no) h55) <| oA 2 (ix23 (o:=.no) h53) <| oK 1 [0,1,2,3] h51 (ih335va22461 _ _ _ _ _ _ _ _ _ _ _ _ h50) k))
  obtain rfl:=sj h
  exact k337va21834 (tF q337va21834 0 [0,1,2,3] (oD (dC q2) <| oD (dE q1) <| oD (dI q4) <| oD (dI q3) <| oD (dE q0) <| oD (dE q5) <| oK 1 [0,1,2,3] h51 (ih335va22461 _ _ _ _ _ _ _ _ _ _ _ _ h50) k))
  have k:=oB 1 h44 k
  rcases spl h with ⟨h58,h⟩ | ⟨h58,h⟩
  obtain ⟨r59,h60,h⟩:=obind h
  obtain rfl:=sj h
  exact k337va21834 (tF q337va21834 0 [0,1,2,3] (oD (dC q2) <| oD (dE q1) <| oD (dI q4) <| oD (dI q3) <| oD (dE q0) <| oD (dE q5) <| oC 3 [] (c349 h60) <| oB 1 h58 k))
  obtain ⟨r61,h62,h⟩:=obind h
  obtain rfl:=sj h
  exact k337va21834 (tF q337va21834 0 [0,1,2,3] (oD (dC q2) <| oD (dE q1) <| oD (dI q4) <| oD (dI q3) <| oD (dE q0) <| oD (dE q5) <| oC 2 [0,1,2,3] (ih354va22461 _ _ _ _ _ _ _ _ _ _ _ _ h62) <| oB 1 h58 k))
  intro q0 q1 q2 q3 q4 q5 q6 q7 q8 p1 p2 p3 p4 r h
  rw [e353va27343] at h
  obtain ⟨x1,h2,h⟩:=obind h
  obtain ⟨x3,h4,h⟩:=obind h
  exact k353va27343 (tH q353va27343 2 [] [0,1,2,3,4,5] [] [0,3,4,6,7,27,28] (oD (dT p4) <| oD (dT p2.sub) <| oD (dT p1.sub) <| oD (dC q2) <| oD (dE q1) <| oD (dI q4) <| oD (dI q3) <| oD (dE q0) <| oD (dE q5) <| oA 1 (ix22 (o:=.no) h4) <| oA 2 (ix22 (o:=.no) h2) o0) (ih353va27343L63412 _ _ _ _ _ _ _ _ _ _ _ _ _ _ _ _ h))
  intro q0 q1 q2 q3 q4 q5 p1 p2 p3 p4 x3 v28 vb0_3 vb3_0 vb3_1 r h
  rw [e353va27343L63412] at h
  rcases spl h with ⟨h5,h⟩ | ⟨h5,h⟩
  obtain ⟨r6,h7,h⟩:=obind h
  obtain ⟨r8,h9,h⟩:=obind h
  obtain ⟨r10,h11,h⟩:=obind h
  have k:=oC 1 [0,1,2,3] (c357 h9) <| oC 1 [0,1,2,3] (c357 h7) <| oB 0 h5 o0
  rcases spl h with ⟨h12,h⟩ | ⟨h12,h⟩
  exact fun j => lH 2 [] [0,1,2,3,4,5] [] [0,3,4,6,7,27,28] (oD (dT p4) <| oD (dT p2.sub) <| oD (dT p1.sub) <| oD (dC q2) <| oD (dE q1) <| oD (dI q4) <| oD (dI q3) <| oD (dE q0) <| oD (dE q5) <| oK 0 [0,1,2,3] h12 (ih335va22461 _ _ _ _ _ _ _ _ _ _ _ _ h11) k) (ih353va27343L63412 _ _ _ _ _ _ _ _ _ _ _ _ _ _ _ _ h)
  obtain rfl:=sj h
  exact fun j => lF 1 [0,1,2,3] (oD (dC q2) <| oD (dE q1) <| oD (dI q4) <| oD (dI q3) <| oD (dE q0) <| oD (dE q5) <| oK 0 [0,1,2,3] h12 (ih335va22461 _ _ _ _ _ _ _ _ _ _ _ _ h11) k)
  obtain rfl:=sj h
  exact fun j => lF 0 [0,1,2,3] (oD (dC q2) <| oD (dE q1) <| oD (dI q4) <| oD (dI q3) <| oD (dE q0) <| oD (dE q5) <| oB 0 h5 o0)
  intro q0 q1 q2 q3 q4 q5 q6 q7 q8 p1 p2 r h
  rw [e354va22461] at h
  obtain ⟨r1,h2,h⟩:=obind h
  obtain ⟨r3,h4,h⟩:=obind h
  have k:=oC 4 [] (c158 h4) <| oC 1 [] (c158 h2) o0
  rcases spl h with ⟨h5,h⟩ | ⟨h5,h⟩
  obtain rfl:=sj h
  exact k354va22461 (tF q354va22461 0 [0,1,2,3] (oD (dC q2) <| oD (dE q1) <| oD (dI q4) <| oD (dI q3) <| oD (dE q0) <| oD (dE q5) <| oB 5 h5 k))
  have k:=oB 5 h5 k
  rcases spl h with ⟨h6,h⟩ | ⟨h6,h⟩
  obtain rfl:=sj h
  exact k354va22461 (tF q354va22461 0 [0,1,2,3] (oD (dC q2) <| oD (dE q1) <| oD (dI q4) <| oD (dI q3) <| oD (dE q0) <| oD (dE q5) <| oB 2 h6 k))
  have k:=oB 2 h6 k
  rcases spl h with ⟨h7,h⟩ | ⟨h7,h⟩
  obtain rfl:=sj h
  exact k354va22461 (tF q354va22461 0 [0,1,2,3] (oD (dC q2) <| oD (dE q1) <| oD (dI q4) <| oD (dI q3) <| oD (dE q0) <| oD (dE q5) <| oB 2 h7 k))
  have k:=oB 2 h7 k
  rcases spl h with ⟨h8,h⟩ | ⟨h8,h⟩
  obtain ⟨x9,h10,h⟩:=obind h
  obtain ⟨x11,h12,h⟩:=obind h
  have k:=oA 2 (ix23 (o:=.no) h12) <| oA 1 (ix23 (o:=.no) h10) <| oB 1 h8 k
  rcases spl h with ⟨h13,h⟩ | ⟨h13,h⟩
  obtain rfl:=sj h
  exact k354va22461 (tF q354va22461 0 [0,1,2,3] (oD (dC q2) <| oD (dE q1) <| oD (dI q4) <| oD (dI q3) <| oD (dE q0) <| oD (dE q5) <| oB 1 h13 k))
  have k:=oB 1 h13 k
  rcases spl h with ⟨h14,h⟩ | ⟨h14,h⟩
  obtain ⟨r15,h16,h⟩:=obind h
  have k:=oA 2 (ix23 (o:=.no) h12) <| oA 1 (ix23 (o:=.no) h10) <| oB 1 h14 k
  rcases spl h with ⟨h17,h⟩ | ⟨h17,h⟩
  obtain ⟨x18,h19,h⟩:=obind h
  obtain ⟨x20,h21,h⟩:=obind h
  obtain ⟨r22,h23,h⟩:=obind h
  have k:=oA 2 (ix23 (o:=.no) h21) <| oA 1 (ix23 (o:=.no) h19) <| oK 1 [0,1,2,3] h17 (ih335va22461 _ _ _ _ _ _ _ _ _ _ _ _ h16) k
  rcases spl h with ⟨h24,h⟩ | ⟨h24,h⟩
  exact k354va22461 (tH q354va22461 2 [] [0,1,2,3] [] [0,8,10,88,89] (oD (dT r3.2) <| oD (dT r1.2) <| oD (dC q2) <| oD (dE q1) <| oD (dI q4) <| oD (dI q3) <| oD (dE q0) <| oD (dE q5) <| oK 1 [0,1,2,3] h24 (ih335va22461 _ _ _ _ _ _ _ _ _ _ _ _ h23) k) (ih354va22461L16782 _ _ _ _ _ _ _ _ _ _ _ _ _ h))
  obtain rfl:=sj h
  exact k354va22461 (tF q354va22461 1 [0,1,2,3] (oD (dC q2) <| oD (dE q1) <| oD (dI q4) <| oD (dI q3) <| oD (dE q0) <| oD (dE q5) <| oK 1 [0,1,2,3] h24 (ih335va22461 _ _ _ _ _ _ _ _ _ _ _ _ h23) k))
  obtain rfl:=sj h
  exact k354va22461 (tF q354va22461 1 [0,1,2,3] (oD (dC q2) <| oD (dE q1) <| oD (dI q4) <| oD (dI q3) <| oD (dE q0) <| oD (dE q5) <| oK 1 [0,1,2,3] h17 (ih335va22461 _ _ _ _ _ _ _ _ _ _ _ _ h16) k))
  exact k354va22461 (tH q354va22461 1 [] [0,1,2,3] [] [0,8,10,88,89] (oD (dT r3.2) <| oD (dT r1.2) <| oD (dC q2) <| oD (dE q1) <| oD (dI q4) <| oD (dI q3) <| oD (dE q0) <| oD (dE q5) <| oB 1 h14 k) (ih354va22461L16782 _ _ _ _ _ _ _ _ _ _ _ _ _ h))
  have k:=oB 1 h8 k
  rcases spl h with ⟨h25,h⟩ | ⟨h25,h⟩
  obtain ⟨x26,h27,h⟩:=obind h
  obtain ⟨x28,h29,h⟩:=obind h
  obtain ⟨r30,h31,h⟩:=obind h
  have k:=oA 2 (ix23 (o:=.no) h29) <| oA 1 (ix23 (o:=.no) h27) <| oB 1 h25 k
  rcases spl h with ⟨h32,h⟩ | ⟨h32,h⟩
  obtain ⟨x33,h34,h⟩:=obind h
  obtain ⟨x35,h36,h⟩:=obind h
  obtain ⟨r37,h38,h⟩:=obind h
  have k:=oA 2 (ix23 (o:=.no) h36) <| oA 1 (ix23 (o:=.no) h34) <| oK 1 [0,1,2,3] h32 (ih335va22461 _ _ _ _ _ _ _ _ _ _ _ _ h31) k
  rcases spl h with ⟨h39,h⟩ | ⟨h39,h⟩
  exact k354va22461 (tH q354va22461 2 [] [0,1,2,3] [] [0,8,10,88,89] (oD (dT r3.2) <| oD (dT r1.2) <| oD (dC q2) <| oD (dE q1) <| oD (dI q4) <| oD (dI q3) <| oD (dE q0) <| oD (dE q5) <| oK 1 [0,1,2,3] h39 (ih335va22461 _ _ _ _ _ _ _ _ _ _ _ _ h38) k) (ih354va22461L16782 _ _ _ _ _ _ _ _ _ _ _ _ _ h))
  obtain rfl:=sj h
  exact k354va22461 (tF q354va22461 1 [0,1,2,3] (oD (dC q2) <| oD (dE q1) <| oD (dI q4) <| oD (dI q3) <| oD (dE q0) <| oD (dE q5) <| oK 1 [0,1,2,3] h39 (ih335va22461 _ _ _ _ _ _ _ _ _ _ _ _ h38) k))
  obtain rfl:=sj h
  exact k354va22461 (tF q354va22461 1 [0,1,2,3] (oD (dC q2) <| oD (dE q1) <| oD (dI q4) <| oD (dI q3) <| oD (dE q0) <| oD (dE q5) <| oK 1 [0,1,2,3] h32 (ih335va22461 _ _ _ _ _ _ _ _ _ _ _ _ h31) k))
  exact k354va22461 (tH q354va22461 1 [] [0,1,2,3] [] [0,8,10,88,89] (oD (dT r3.2) <| oD (dT r1.2) <| oD (dC q2) <| oD (dE q1) <| oD (dI q4) <| oD (dI q3) <| oD (dE q0) <| oD (dE q5) <| oB 1 h25 k) (ih354va22461L16782 _ _ _ _ _ _ _ _ _ _ _ _ _ h))
  intro q0 q1 q2 q3 q4 q5 r1 r3 v89 vb0_3 vb3_0 vb3_1 r h
  rw [e354va22461L16782] at h
  rcases spl h with ⟨h25,h⟩ | ⟨h25,h⟩
  obtain ⟨x26,h27,h⟩:=obind h
  obtain ⟨x28,h29,h⟩:=obind h
  obtain ⟨r30,h31,h⟩:=obind h
  have k:=oA 1 (ix23 (o:=.no) h29) <| oA 0 (ix23 (o:=.no) h27) <| oB 0 h25 o0
  rcases spl h with ⟨h32,h⟩ | ⟨h32,h⟩
  exact fun j => lH 2 [] [0,1,2,3] [] [0,8,10,88,89] (oD (dT r3.2) <| oD (dT r1.2) <| oD (dC q2) <| oD (dE q1) <| oD (dI q4) <| oD (dI q3) <| oD (dE q0) <| oD (dE q5) <| oK 1 [0,1,2,3] h32 (ih335va22461 _ _ _ _ _ _ _ _ _ _ _ _ h31) k) (ih354va22461L16782 _ _ _ _ _ _ _ _ _ _ _ _ _ h)
  obtain rfl:=sj h
  exact fun j => lF 1 [0,1,2,3] (oD (dC q2) <| oD (dE q1) <| oD (dI q4) <| oD (dI q3) <| oD (dE q0) <| oD (dE q5) <| oK 1 [0,1,2,3] h32 (ih335va22461 _ _ _ _ _ _ _ _ _ _ _ _ h31) k)
  obtain rfl:=sj h
  exact fun j => lF 0 [0,1,2,3] (oD (dC q2) <| oD (dE q1) <| oD (dI q4) <| oD (dI q3) <| oD (dE q0) <| oD (dE q5) <| oB 0 h25 o0)
theorem c335va22461 {qq q0 q1 q2 q3 q4 q5 q6 q7 q8 p1 p2 r} (h:e335va22461 qq q0 q1 q2 q3 q4 q5 q6 q7 q8 p1 p2 = some r):K335va22461 q0 q1 q2 q3 q4 q5 q6 q7 q8 p1 p2 r Ct:=(a335va22461_337va21834_353va27343_353va27343L63412_354va22461_354va22461L16782 _).1 _ _ _ _ _ _ _ _ _ _ _ _ h
theorem c353va27343 {qq q0 q1 q2 q3 q4 q5 q6 q7 q8 p1 p2 p3 p4 r} (h:e353va27343 qq q0 q1 q2 q3 q4 q5 q6 q7 q8 p1 p2 p3 p4 = some r):K353va27343 q0 q1 q2 q3 q4 q5 q6 q7 q8 p1 p2 p3 p4 r Ct:=(a335va22461_337va21834_353va27343_353va27343L63412_354va22461_354va22461L16782 _).2.2.1 _ _ _ _ _ _ _ _ _ _ _ _ _ _ h
theorem c354va22461 {qq q0 q1 q2 q3 q4 q5 q6 q7 q8 p1 p2 r} (h:e354va22461 qq q0 q1 q2 q3 q4 q5 q6 q7 q8 p1 p2 = some r):K354va22461 q0 q1 q2 q3 q4 q5 q6 q7 q8 p1 p2 r Ct:=(a335va22461_337va21834_353va27343_353va27343L63412_354va22461_354va22461L16782 _).2.2.2.2.1 _ _ _ _ _ _ _ _ _ _ _ _ h
def e338 (qq:Nat) (p0 p1:Int):Option (Bool) :=
 some (decide (p0 ≤ p1))
abbrev K338 (p0 p1:Int) (r:Bool) (C:Cf):Prop:=C 338 [] [ai p0,ai p1] (ab r) [] 0
theorem q338:Qf 338 Tryz.f338:=⟨Tryz.func338,by kernel_rfl⟩
theorem k338 {p0 p1 r} (h:K338 p0 p1 r Ci):K338 p0 p1 r Ct:=⟨h,⟨tv,tv,tv⟩,forall_nil,tv,forall_nil⟩
theorem c338 {qq p0 p1 r} (h:e338 qq p0 p1 = some r):K338 p0 p1 r Ct:=by
 unfold e338 at h
 obtain rfl:=sj h
 exact k338 (tF q338 1 [] (o0))
mutual
def e337va44352:Nat → (List Ent) → (List Ent) → (List Con') → (List Int) → (List Int) → (List Ent) → Int → Int → Int → Tm → Tm → Option (Bool × Int × Int × Int)
 | 0,_,_,_,_,_,_,_,_,_,_,_ => none
 | qq + 1,q0,q1,q2,q3,q4,q5,q6,q7,q8,p1,p2 =>
 if p1.k == 4 then
 e351 qq (Mach.mk q0 q1 q2 q3 q4) q5 q6 q7 q8 p1 >>= fun r2 =>
 e351 qq (Mach.mk q0 q1 q2 q3 q4) q5 q6 q7 r2.2 p2 >>= fun r4 =>
 e335va22461 qq q0 q1 q2 q3 q4 q5 q6 q7 r4.2 r2.1 r4.1 >>= fun r6 =>
 some (r6.1,r6.2.1,r6.2.2.1,r6.2.2.2)
 else
 if p2.k == 4 then
 e351 qq (Mach.mk q0 q1 q2 q3 q4) q5 q6 q7 q8 p1 >>= fun r9 =>
 e351 qq (Mach.mk q0 q1 q2 q3 q4) q5 q6 q7 r9.2 p2 >>= fun r11 =>
 e335va22461 qq q0 q1 q2 q3 q4 q5 q6 q7 r11.2 r9.1 r11.1 >>= fun r13 =>
 some (r13.1,r13.2.1,r13.2.2.1,r13.2.2.2)
 else
 e352 qq (Mach.mk q0 q1 q2 q3 q4) q5 q6 q7 q8 p1 >>= fun r15 =>
 if r15.2.2 then
 e352 qq (Mach.mk q0 q1 q2 q3 q4) q5 q6 q7 q8 p2 >>= fun r18 =>
 if r18.2.2 then
 if r15.1 != r18.1 then
 some (false,q8,q6,q7)
 else
 gidx q5 r15.1 >>= fun x22 =>
 gsl r15.2.1 0 x22.pars >>= fun x24 =>
 e353va27343 qq q0 q1 q2 q3 q4 q5 q6 q7 q8 p1 p2 r15.1 x24 >>= fun r26 =>
 some (r26.1,r26.2.1,r26.2.2.1,r26.2.2.2)
 else
 gidx q5 r15.1 >>= fun x28 =>
 gsl r15.2.1 0 x28.pars >>= fun x30 =>
 e353va27343 qq q0 q1 q2 q3 q4 q5 q6 q7 q8 p1 p2 r15.1 x30 >>= fun r32 =>
 some (r32.1,r32.2.1,r32.2.2.1,r32.2.2.2)
 else
 e352 qq (Mach.mk q0 q1 q2 q3 q4) q5 q6 q7 q8 p2 >>= fun r34 =>
 if r34.2.2 then
 gidx q5 r34.1 >>= fun x37 =>
 gsl r34.2.1 0 x37.pars >>= fun x39 =>
 e353va27343 qq q0 q1 q2 q3 q4 q5 q6 q7 q8 p1 p2 r34.1 x39 >>= fun r41 =>
 some (r41.1,r41.2.1,r41.2.2.1,r41.2.2.2)
 else
 if p1.k != p2.k then
 some (false,q8,q6,q7)
 else
 if p1.k == 3 then
 gidx p1.sub 0 >>= fun x45 =>
 gidx p2.sub 0 >>= fun x47 =>
 e335va22461 qq q0 q1 q2 q3 q4 q5 q6 q7 q8 x45 x47 >>= fun r49 =>
 if r49.1 then
 gidx p1.sub 1 >>= fun x52 =>
 gidx p2.sub 1 >>= fun x54 =>
 e311va22461 qq q0 q1 q2 q3 q4 q5 r49.2.2.1 r49.2.2.2 r49.2.1 x52 x54 >>= fun r56 =>
 some (r56.1,r56.2.1,r56.2.2.1,r56.2.2.2)
 else
 some (false,r49.2.1,r49.2.2.1,r49.2.2.2)
 else
 if p1.k == 2 then
 e338 qq p1.n p2.n >>= fun r59 =>
 some (r59,q8,q6,q7)
 else
 e354va22461 qq q0 q1 q2 q3 q4 q5 q6 q7 q8 p1 p2 >>= fun r61 =>
 some (r61.1,r61.2.1,r61.2.2.1,r61.2.2.2)
def e311va22461:Nat → (List Ent) → (List Ent) → (List Con') → (List Int) → (List Int) → (List Ent) → Int → Int → Int → Tm → Tm → Option (Bool × Int × Int × Int)
 | 0,_,_,_,_,_,_,_,_,_,_,_ => none
 | qq + 1,q0,q1,q2,q3,q4,q5,q6,q7,q8,p1,p2 =>
 e336 qq (Mach.mk q0 q1 q2 q3 q4) q5 q6 q7 q8 p1 p2 >>= fun r1 =>
 if r1.2.2.1 then
 e337va44352 qq q0 q1 q2 q3 q4 q5 r1.2.2.2.2.1 r1.2.2.2.2.2 r1.2.2.2.1 r1.1 r1.2.1 >>= fun r4 =>
 some (r4.1,r4.2.1,r4.2.2.1,r4.2.2.2)
 else
 some (false,r1.2.2.2.1,r1.2.2.2.2.1,r1.2.2.2.2.2)
end
abbrev K337va44352 (q0 q1:List Ent) (q2:List Con') (q3 q4:List Int) (q5:List Ent) (q6 q7 q8:Int) (p1 p2:Tm) (r:Bool × Int × Int × Int) (C:Cf):Prop:=C 337 [.cells [.mp 1 0,slv entL q5 .no,.mp 3 0,ai q8],.cells [slv entL q0 .no,.mp 2 0,slv intC q3 .no,slv intC q4 .no],.cells [slv entL q1 .no,slv conL q2 .no],.cells [ai q6,ai q7]] [.mp 0 0,tmA p1,tmA p2,.agg [.clo 338 [] [],.clo 311 [.mp 0 0] []]] (ab r.1) [.cells [.mp 1 0,slv entL q5 .no,.mp 3 0,ai r.2.1],.cells [slv entL q0 .no,.mp 2 0,slv intC q3 .no,slv intC q4 .no],.cells [slv entL q1 .no,slv conL q2 .no],.cells [ai r.2.2.1,ai r.2.2.2]] 0
abbrev K311va22461 (q0 q1:List Ent) (q2:List Con') (q3 q4:List Int) (q5:List Ent) (q6 q7 q8:Int) (p1 p2:Tm) (r:Bool × Int × Int × Int) (C:Cf):Prop:=C 311 [.cells [.mp 1 0,slv entL q5 .no,.mp 3 0,ai q8],.cells [slv entL q0 .no,.mp 2 0,slv intC q3 .no,slv intC q4 .no],.cells [slv entL q1 .no,slv conL q2 .no],.cells [ai q6,ai q7]] [.mp 0 0,tmA p1,tmA p2] (ab r.1) [.cells [.mp 1 0,slv entL q5 .no,.mp 3 0,ai r.2.1],.cells [slv entL q0 .no,.mp 2 0,slv intC q3 .no,slv intC q4 .no],.cells [slv entL q1 .no,slv conL q2 .no],.cells [ai r.2.2.1,ai r.2.2.2]] 0
theorem q337va44352:Qf 337 Tryz.f337:=⟨Tryz.func337,by kernel_rfl⟩
theorem k337va44352 {q0 q1 q2 q3 q4 q5 q6 q7 q8 p1 p2 r} (h:K337va44352 q0 q1 q2 q3 q4 q5 q6 q7 q8 p1 p2 r Ci):K337va44352 q0 q1 q2 q3 q4 q5 q6 q7 q8 p1 p2 r Ct:=⟨h,⟨(lz rfl),⟨tv,tv,⟨tv,dT _⟩,tv⟩,⟨tv,tv,⟨tv,dT _⟩,tv⟩,⟨⟨tv,tv⟩,⟨⟨(lz rfl),tv⟩,tv⟩,tv⟩,tv⟩,(forall_cons ⟨(lz rfl),⟨tv,dE _⟩,(lz rfl),tv,tv⟩ (forall_cons ⟨⟨tv,dE _⟩,(lz rfl),⟨tv,dI _⟩,⟨tv,dI _⟩,tv⟩ (forall_cons ⟨⟨tv,dE _⟩,⟨tv,dC _⟩,tv⟩ (forall_cons ⟨tv,tv,tv⟩ forall_nil)))),tv,(forall_cons ⟨(lz rfl),dE _,(lz rfl),tv,tv⟩ (forall_cons ⟨dE _,(lz rfl),dI _,dI _,tv⟩ (forall_cons ⟨dE _,dC _,tv⟩ (forall_cons ⟨tv,tv,tv⟩ forall_nil))))⟩
theorem q311va22461:Qf 311 Tryz.f311:=⟨Tryz.func311,by kernel_rfl⟩
theorem k311va22461 {q0 q1 q2 q3 q4 q5 q6 q7 q8 p1 p2 r} (h:K311va22461 q0 q1 q2 q3 q4 q5 q6 q7 q8 p1 p2 r Ci):K311va22461 q0 q1 q2 q3 q4 q5 q6 q7 q8 p1 p2 r Ct:=⟨h,⟨(lz rfl),⟨tv,tv,⟨tv,dT _⟩,tv⟩,⟨tv,tv,⟨tv,dT _⟩,tv⟩,tv⟩,(forall_cons ⟨(lz rfl),⟨tv,dE _⟩,(lz rfl),tv,tv⟩ (forall_cons ⟨⟨tv,dE _⟩,(lz rfl),⟨tv,dI _⟩,⟨tv,dI _⟩,tv⟩ (forall_cons ⟨⟨tv,dE _⟩,⟨tv,dC _⟩,tv⟩ (forall_cons ⟨tv,tv,tv⟩ forall_nil)))),tv,(forall_cons ⟨(lz rfl),dE _,(lz rfl),tv,tv⟩ (forall_cons ⟨dE _,(lz rfl),dI _,dI _,tv⟩ (forall_cons ⟨dE _,dC _,tv⟩ (forall_cons ⟨tv,tv,tv⟩ forall_nil))))⟩
theorem a337va44352_311va22461:∀ qq:Nat,(∀ q0 q1 q2 q3 q4 q5 q6 q7 q8 p1 p2 r,e337va44352 qq q0 q1 q2 q3 q4 q5 q6 q7 q8 p1 p2 = some r → K337va44352 q0 q1 q2 q3 q4 q5 q6 q7 q8 p1 p2 r Ct) ∧ (∀ q0 q1 q2 q3 q4 q5 q6 q7 q8 p1 p2 r,e311va22461 qq q0 q1 q2 q3 q4 q5 q6 q7 q8 p1 p2 = some r → K311va22461 q0 q1 q2 q3 q4 q5 q6 q7 q8 p1 p2 r Ct):=by
 intro qq
 induction qq with
 | zero =>
  exact ⟨fun _ _ _ _ _ _ _ _ _ _ _ _ h => nn h,fun _ _ _ _ _ _ _ _ _ _ _ _ h => nn h⟩
 | succ qq ih =>
  obtain ⟨ih337va44352,ih311va22461⟩:=ih
  refine ⟨?_,?_⟩
  intro q0 q1 q2 q3 q4 q5 q6 q7 q8 p1 p2 r h
  rw [e337va44352] at h
  rcases spl h with ⟨h1,h⟩ | ⟨h1,h⟩
  obtain ⟨r2,h3,h⟩:=obind h
  obtain ⟨r4,h5,h⟩:=obind h
  obtain ⟨r6,h7,h⟩:=obind h
  obtain rfl:=sj h
  exact k337va44352 (tF q337va44352 0 [0,1,2,3] (oD (dC q2) <| oD (dE q1) <| oD (dI q4) <| oD (dI q3) <| oD (dE q0) <| oD (dE q5) <| oC 0 [0,1,2,3] (c335va22461 h7) <| oC 1 [0,1,2,3] (c351 h5) <| oC 1 [0,1,2,3] (c351 h3) <| oB 1 h1 o0))
  have k:=oB 1 h1 o0
  rcases spl h with ⟨h8,h⟩ | ⟨h8,h⟩
  obtain ⟨r9,h10,h⟩:=obind h
  obtain ⟨r11,h12,h⟩:=obind h
  obtain ⟨r13,h14,h⟩:=obind h
  obtain rfl:=sj h
  exact k337va44352 (tF q337va44352 0 [0,1,2,3] (oD (dC q2) <| oD (dE q1) <| oD (dI q4) <| oD (dI q3) <| oD (dE q0) <| oD (dE q5) <| oC 0 [0,1,2,3] (c335va22461 h14) <| oC 1 [0,1,2,3] (c351 h12) <| oC 1 [0,1,2,3] (c351 h10) <| oB 1 h8 k))
  obtain ⟨r15,h16,h⟩:=obind h
  have k:=oC 1 [0,1,2,3] (c352 h16) <| oB 1 h8 k
  rcases spl h with ⟨h17,h⟩ | ⟨h17,h⟩
  obtain ⟨r18,h19,h⟩:=obind h
  have k:=oC 1 [0,1,2,3] (c352 h19) <| oB 2 h17 k
  rcases spl h with ⟨h20,h⟩ | ⟨h20,h⟩
  have k:=oB 2 h20 k
  rcases spl h with ⟨h21,h⟩ | ⟨h21,h⟩
  obtain rfl:=sj h
  exact k337va44352 (tF q337va44352 0 [0,1,2,3] (oD (dC q2) <| oD (dE q1) <| oD (dI q4) <| oD (dI q3) <| oD (dE q0) <| oD (dE q5) <| oB 0 h21 k))
  obtain ⟨x22,h23,h⟩:=obind h
  obtain ⟨x24,h25,h⟩:=obind h
  obtain ⟨r26,h27,h⟩:=obind h
  obtain rfl:=sj h
  exact k337va44352 (tF q337va44352 0 [0,1,2,3] (oD (dC q2) <| oD (dE q1) <| oD (dI q4) <| oD (dI q3) <| oD (dE q0) <| oD (dE q5) <| oC 0 [0,1,2,3] (c353va27343 h27) <| oA 1 (slTo23 h25) <| oA 3 (ix22 (o:=.no) h23) <| oB 0 h21 k))
  obtain ⟨x28,h29,h⟩:=obind h
  obtain ⟨x30,h31,h⟩:=obind h
  obtain ⟨r32,h33,h⟩:=obind h
  obtain rfl:=sj h
  exact k337va44352 (tF q337va44352 0 [0,1,2,3] (oD (dC q2) <| oD (dE q1) <| oD (dI q4) <| oD (dI q3) <| oD (dE q0) <| oD (dE q5) <| oC 0 [0,1,2,3] (c353va27343 h33) <| oA 1 (slTo23 h31) <| oA 3 (ix22 (o:=.no) h29) <| oB 2 h20 k))
  obtain ⟨r34,h35,h⟩:=obind h
  have k:=oC 1 [0,1,2,3] (c352 h35) <| oB 2 h17 k
  rcases spl h with ⟨h36,h⟩ | ⟨h36,h⟩
  obtain ⟨x37,h38,h⟩:=obind h
  obtain ⟨x39,h40,h⟩:=obind h
  obtain ⟨r41,h42,h⟩:=obind h
  obtain rfl:=sj h
  exact k337va44352 (tF q337va44352 0 [0,1,2,3] (oD (dC q2) <| oD (dE q1) <| oD (dI q4) <| oD (dI q3) <| oD (dE q0) <| oD (dE q5) <| oC 0 [0,1,2,3] (c353va27343 h42) <| oA 1 (slTo23 h40) <| oA 3 (ix22 (o:=.no) h38) <| oB 2 h36 k))
  have k:=oB 2 h36 k
  rcases spl h with ⟨h43,h⟩ | ⟨h43,h⟩
  obtain rfl:=sj h
  exact k337va44352 (tF q337va44352 0 [0,1,2,3] (oD (dC q2) <| oD (dE q1) <| oD (dI q4) <| oD (dI q3) <| oD (dE q0) <| oD (dE q5) <| oB 2 h43 k))
  have k:=oB 2 h43 k
  rcases spl h with ⟨h44,h⟩ | ⟨h44,h⟩
  obtain ⟨x45,h46,h⟩:=obind h
  obtain ⟨x47,h48,h⟩:=obind h
  obtain ⟨r49,h50,h⟩:=obind h
  have k:=oA 2 (ix23 (o:=.no) h48) <| oA 1 (ix23 (o:=.no) h46) <| oB 1 h44 k
  rcases spl h with ⟨h51,h⟩ | ⟨h51,h⟩
  obtain ⟨x52,h53,h⟩:=obind h
  obtain ⟨x54,h55,h⟩:=obind h
  obtain ⟨r56,h57,h⟩:=obind h
  obtain rfl:=sj h
  exact k337va44352 (tF q337va44352 0 [0,1,2,3] (oD (dC q2) <| oD (dE q1) <| oD (dI q4) <| oD (dI q3) <| oD (dE q0) <| oD (dE q5) <| oC 1 [0,1,2,3] (ih311va22461 _ _ _ _ _ _ _ _ _ _ _ _ h57) <| oA 2 (ix23 (o:=.no) h55) <| oA 2 (ix23 (o:=.no) h53) <| oK 1 [0,1,2,3] h51 (c335va22461 h50) k))
  obtain rfl:=sj h
  exact k337va44352 (tF q337va44352 0 [0,1,2,3] (oD (dC q2) <| oD (dE q1) <| oD (dI q4) <| oD (dI q3) <| oD (dE q0) <| oD (dE q5) <| oK 1 [0,1,2,3] h51 (c335va22461 h50) k))
  have k:=oB 1 h44 k
  rcases spl h with ⟨h58,h⟩ | ⟨h58,h⟩
  obtain ⟨r59,h60,h⟩:=obind h
  obtain rfl:=sj h
  exact k337va44352 (tF q337va44352 0 [0,1,2,3] (oD (dC q2) <| oD (dE q1) <| oD (dI q4) <| oD (dI q3) <| oD (dE q0) <| oD (dE q5) <| oC 3 [] (c338 h60) <| oB 1 h58 k))
  obtain ⟨r61,h62,h⟩:=obind h
  obtain rfl:=sj h
  exact k337va44352 (tF q337va44352 0 [0,1,2,3] (oD (dC q2) <| oD (dE q1) <| oD (dI q4) <| oD (dI q3) <| oD (dE q0) <| oD (dE q5) <| oC 2 [0,1,2,3] (c354va22461 h62) <| oB 1 h58 k))
  intro q0 q1 q2 q3 q4 q5 q6 q7 q8 p1 p2 r h
  rw [e311va22461] at h
  obtain ⟨r1,h2,h⟩:=obind h
  have k:=oC 2 [0,1,2,3] (c336 h2) o0
  rcases spl h with ⟨h3,h⟩ | ⟨h3,h⟩
  obtain ⟨r4,h5,h⟩:=obind h
  obtain rfl:=sj h
  exact k311va22461 (tF q311va22461 0 [0,1,2,3] (oD (dC q2) <| oD (dE q1) <| oD (dI q4) <| oD (dI q3) <| oD (dE q0) <| oD (dE q5) <| oC 4 [0,1,2,3] (ih337va44352 _ _ _ _ _ _ _ _ _ _ _ _ h5) <| oB 2 h3 k))
  obtain rfl:=sj h
  exact k311va22461 (tF q311va22461 2 [0,1,2,3] (oD (dC q2) <| oD (dE q1) <| oD (dI q4) <| oD (dI q3) <| oD (dE q0) <| oD (dE q5) <| oB 2 h3 k))
theorem c311va22461 {qq q0 q1 q2 q3 q4 q5 q6 q7 q8 p1 p2 r} (h:e311va22461 qq q0 q1 q2 q3 q4 q5 q6 q7 q8 p1 p2 = some r):K311va22461 q0 q1 q2 q3 q4 q5 q6 q7 q8 p1 p2 r Ct:=(a337va44352_311va22461 _).2 _ _ _ _ _ _ _ _ _ _ _ _ h
def er4b (r : Bool × Int × Int × Int) : Int := if r.1 = true then 9 else r.2.1
theorem er4b_8 {r : Bool × Int × Int × Int} (h : er4b r = 8) : r.1 = false ∧ r.2.1 = 8 := by
  unfold er4b at h
  split at h
  · omega
  · rename_i h1; exact ⟨by simpa using h1, h⟩
def runC (l : List Ent) (m : Bool) (L U e : Int) (q : Nat) (x y : Tm) : Option (Bool × Int × Int × Int) := match m with
  | false => e335va22461 q l l (evA l l.length 0) (l.map argsT) (l.map ownT) l L U e x y
  | true => e311va22461 q l l (evA l l.length 0) (l.map argsT) (l.map ownT) l L U e x y
def runH (l : List Ent) (m : Bool) (L U e : Int) (q : Nat) (x y : Tm) : Option (Bool × Int × Int × Int) := match m with
  | false => e337va21834 q l l (evA l l.length 0) (l.map argsT) (l.map ownT) l L U e x y
  | true => e337va44352 q l l (evA l l.length 0) (l.map argsT) (l.map ownT) l L U e x y
def QX (X : Bool → Int → Prop) (R : Int → Int → Bool × Int × Int × Int) (k : Int) : Prop := ∃ b e, e ≠ 8 ∧ (e = 0 → X b k) ∧ (e ≠ 0 → b = false ∧ ∀ b k, ¬ X b k) ∧ R = fun L U => (b, e, L, U)
def HX (g : Int → Int → Nat → Option (Bool × Int × Int × Int)) (X : Bool → Int → Prop) (f : Int) : Prop := Ou g er4b (QX X) (∀ b k, X b k → f < k) f
def HC (l : List Ent) (m : Bool) (x y : Tm) (f : Int) : Prop := HX (fun L U q => runC l m L U 0 q x y) (Cv l m x y) f
theorem qx_bad {X : Bool → Int → Prop} {e k : Int} (h8 : e ≠ 8) (h0 : e ≠ 0) (h : ∀ b k, ¬ X b k) : QX X (fun L U => (false, e, L, U)) k := ⟨false, e, h8, fun h => absurd h h0, fun _ => ⟨rfl, h⟩, rfl⟩
theorem qx_ok {X : Bool → Int → Prop} {b : Bool} {k : Int} (h : X b k) : QX X (fun L U => (b, 0, L, U)) k := ⟨b, 0, by decide, fun _ => h, fun h => absurd rfl h, rfl⟩
theorem ev_sameE (l : List Ent) (m : Bool) (x y : Tm) (e : Int) (he : e ≠ 0) (L U : Int) : Evt (fun q => runC l m L U e q x y) (false, e, L, U) := by
  have hp : Evt (fun q => e336 q (Mach.mk l l (evA l l.length 0) (l.map argsT) (l.map ownT)) l L U e x y) (x, y, false, e, L, U) := by
    simp only [e336]
    exact Evt.ifT (by simpa using he) Evt.ret
  cases m with
  | false =>
    refine Evt.succ ?_
    simp only [runC, e335va22461]
    exact hp.bind (Evt.ifF rfl Evt.ret)
  | true =>
    refine Evt.succ ?_
    simp only [runC, e311va22461]
    exact hp.bind (Evt.ifF rfl Evt.ret)
theorem AllC.one {C : Tm → Tm → Bool → Int → Prop} {p : PE} {b : Bool} {k : Int} : AllC C [p] b k ↔ p.1.2 = 0 ∧ p.2.2 = 0 ∧ C p.1.1 p.2.1 b k := by
  constructor
  · rintro ⟨h1, h2, b1, k1, h3, ⟨rfl, rfl, rfl⟩ | ⟨rfl, k2, ⟨rfl, rfl⟩, rfl⟩⟩
    · exact ⟨h1, h2, h3⟩
    · exact ⟨h1, h2, by rwa [Int.add_zero]⟩
  · rintro ⟨h1, h2, h3⟩
    refine ⟨h1, h2, b, k, h3, ?_⟩
    cases b with
    | false => exact .inl ⟨rfl, rfl, rfl⟩
    | true => exact .inr ⟨rfl, 0, ⟨rfl, rfl⟩, by omega⟩
theorem out_cons {l : List Ent} {p : PE} {r : List PE} {f : Int} {g : Int → Int → Nat → Option (Bool × Int × Int × Int)} {c : Int → Int → Int → Nat → Option (Bool × Int × Int × Int)}
    (h1 : HX g (AllC (Cv l false) [p]) f) (hc : ∀ k, 0 ≤ k → k ≤ f → HX (fun L U q => c 0 L U q) (AllC (Cv l false) r) (f - k)) :
    HX (fun L U q => g L U q >>= fun r30 => if r30.1 = true then c r30.2.1 r30.2.2.1 r30.2.2.2 q else some (false, r30.2.1, r30.2.2.1, r30.2.2.2)) (AllC (Cv l false) (p :: r)) f := by
  refine Ou.bind h1 (fun h b k ha => ?_) (fun r hr => ?_) ?_
  · obtain ⟨a1, a2, b1, k1, a3, a4⟩ := ha
    have := h b1 k1 (AllC.one.2 ⟨a1, a2, a3⟩)
    rcases a4 with ⟨-, -, a4⟩ | ⟨-, k2, a4, a5⟩
    · omega
    · have := AllC.nn (fun _ _ _ _ h => Cv.nn h) a4; omega
  · have := er4b_8 hr
    refine ⟨_, Evt.ifF this.1 Evt.ret, ?_⟩
    unfold er4b
    rw [if_neg (by simp)]; exact this.2
  · rintro R k k0 k1 ⟨b1, e1, h8, h0, hn, rfl⟩
    dsimp only
    by_cases e0 : e1 = 0
    · subst e0
      obtain ⟨a1, a2, a3⟩ := AllC.one.1 (h0 rfl)
      cases b1 with
      | false => exact Ou.ifF rfl (Ou.ret (by omega) (qx_ok ⟨a1, a2, false, k, a3, .inl ⟨rfl, rfl, by omega⟩⟩))
      | true =>
        refine Ou.ifT rfl ((hc k k0 k1).mono ?_ fun h b k' ha => ?_)
        · rintro R n _ _ ⟨b, e, g8, g0, gn, rfl⟩
          refine ⟨b, e, g8, fun he => ⟨a1, a2, true, k, a3, .inr ⟨rfl, n, g0 he, rfl⟩⟩, fun he => ⟨(gn he).1, fun b' k' ha => ?_⟩, rfl⟩
          obtain ⟨-, -, b1, k1, a4, a5⟩ := ha
          obtain ⟨rfl, rfl⟩ := a3.det a4
          rcases a5 with ⟨a5, -⟩ | ⟨-, k2, a5, -⟩
          · cases a5
          · exact (gn he).2 _ _ a5
        · obtain ⟨-, -, b1, k1, a4, a5⟩ := ha
          obtain ⟨rfl, rfl⟩ := a3.det a4
          rcases a5 with ⟨a5, -⟩ | ⟨-, k2, a5, a6⟩
          · cases a5
          · have := h _ _ a5; omega
    · obtain ⟨rfl, hno⟩ := hn e0
      refine Ou.ifF rfl (Ou.ret (by omega) (qx_bad h8 e0 fun b k ha => ?_))
      obtain ⟨a1, a2, b1, k1, a3, -⟩ := ha
      exact hno b1 k1 (AllC.one.2 ⟨a1, a2, a3⟩)
theorem out_one {l : List Ent} {p q : Tm × Int} {f : Int} (hf : 0 ≤ f) (h8 : p.2 ≠ 8 ∧ q.2 ≠ 8) (h : p.2 = 0 → q.2 = 0 → HC l false p.1 q.1 f) : HX (fun L U n => runC l false L U (if p.2 = 0 then q.2 else p.2) n p.1 q.1) (AllC (Cv l false) [(p, q)]) f := by
  by_cases h1 : p.2 = 0
  · rw [if_pos h1]
    by_cases h2 : q.2 = 0
    · rw [h2]
      refine (h h1 h2).mono ?_ fun hs b k ha => hs b k (AllC.one.1 ha).2.2
      rintro R n _ _ ⟨b, e, g8, g0, gn, rfl⟩
      exact ⟨b, e, g8, fun he => AllC.one.2 ⟨h1, h2, g0 he⟩, fun he => ⟨(gn he).1, fun b k ha => (gn he).2 b k (AllC.one.1 ha).2.2⟩, rfl⟩
    · exact Ou.evt0 (fun L U => ev_sameE l false p.1 q.1 q.2 h2 L U) hf (qx_bad h8.2 h2 fun b k ha => h2 (AllC.one.1 ha).2.1)
  · rw [if_neg h1]
    exact Ou.evt0 (fun L U => ev_sameE l false p.1 q.1 p.2 h1 L U) hf (qx_bad h8.1 h1 fun b k ha => h1 (AllC.one.1 ha).1)
theorem out_plain {l : List Ent} {a b : Tm} {f : Int} (h : HC l false a b f) : HX (fun L U n => runC l false L U 0 n a b) (AllC (Cv l false) [((a, 0), (b, 0))]) f := by
  refine h.mono ?_ fun hs b k ha => hs b k (AllC.one.1 ha).2.2
  rintro R n _ _ ⟨b, e, g8, g0, gn, rfl⟩
  exact ⟨b, e, g8, fun he => AllC.one.2 ⟨rfl, rfl, g0 he⟩, fun he => ⟨(gn he).1, fun b k ha => (gn he).2 b k (AllC.one.1 ha).2.2⟩, rfl⟩
theorem out_nil {l : List Ent} {f : Int} (hf : 0 ≤ f) : HX (fun L U _ => some (true, 0, L, U)) (AllC (Cv l false) []) f := Ou.ret hf (qx_ok ⟨rfl, rfl⟩)
theorem opnT_e8 (t : Tm) : (opnT t).2 ≠ 8 := by
  unfold opnT
  split
  · simp
  · dsimp only
    split
    · split <;> simp
    · exact liftT_e8 t 1 0
theorem opnT_ok {t : Tm} (hs : shapedT t = true) : (opnT t).1.Ok := by
  unfold opnT
  split
  · rename_i h
    obtain ⟨a, b, hab, -, hb⟩ := nth_sub2 (shapedT_spec hs).2.2 (.inr (.inl h))
    rw [hab]; exact good_ok b hb
  · exact ok_mk2 (liftT_ok t 1 0 (shaped_ok hs)) (leaf_ok _ _)
theorem opn4 {t : Tm} (h : t.k = 4) : opnT t = (nth t.sub 1, 0) := if_pos h
theorem opnN {t : Tm} (h : t.k ≠ 4) : opnT t = (.mk 5 0 [(liftT t 1 0).1, .mk 1 0 []], if (liftT t 1 0).2 = 0 then (if shapedT (.mk 5 0 [(liftT t 1 0).1, .mk 1 0 []]) = true then 0 else 2) else (liftT t 1 0).2) := if_neg h
theorem ev_opened (M : Mach) (l : List Ent) (t : Tm) (hs : shapedT t = true) (L U e : Int) : Evt (fun q => e351 q M l L U e t) ((opnT t).1, if e = 0 then (opnT t).2 else e) := by
  simp only [e351]
  by_cases h4 : t.k = 4
  · obtain ⟨a, b, hab, -, -⟩ := nth_sub2 (shapedT_spec hs).2.2 (.inr (.inl h4))
    refine Evt.ifT (by simp [h4]) (Evt.pure (gidx_nth (by omega) (by rw [hab]; simp)) (Evt.ret.eq ?_))
    rw [opn4 h4]
    by_cases he : e = 0
    · simp [he]
    · simp [he]
  · rw [opnN h4]
    refine Evt.ifF (by simp [h4]) ((ev_Up t 1 (shaped_ok hs)).bind ((ev_Var 0).bind ((ev_App _ _).bind ?_)))
    dsimp only
    by_cases h1 : (liftT t 1 0).2 = 0
    · refine Evt.ifT (by simp [h1]) ((ev_Shaped _ (ok_mk2 (liftT_ok t 1 0 (shaped_ok hs)) (leaf_ok _ _))).bind ?_)
      by_cases h2 : shapedT (.mk 5 0 [(liftT t 1 0).1, .mk 1 0 []]) = true
      · refine Evt.ifT h2 ?_
        by_cases he : e = 0
        · exact Evt.ifT (by simp [he]) (Evt.ret.eq (by simp [h1, h2, he]))
        · exact Evt.ifF (by simp [he]) (Evt.ret.eq (by simp [he]))
      · refine Evt.ifF (by simpa using h2) ?_
        by_cases he : e = 0
        · exact Evt.ifT (by simp [he]) (Evt.ret.eq (by simp [h1, h2, he]))
        · exact Evt.ifF (by simp [he]) (Evt.ret.eq (by simp [he]))
    · refine Evt.ifF (by simp [h1]) ?_
      by_cases he : e = 0
      · exact Evt.ifT (by simp [he]) (Evt.ret.eq (by simp [h1, he]))
      · exact Evt.ifF (by simp [he]) (Evt.ret.eq (by simp [he]))
def recX (l : List Ent) (t : Tm) : Int × List Tm × Bool := if isRec l t then ((hdT t).n, arT t, true) else (0, [], false)
theorem ev_Con (l : List Ent) (t : Tm) (hs : shapedT t = true) : Evt (fun q => e170 q (machT l) t) (conX l t) := by
  simp only [e170]
  refine (ev_Shaped t (shaped_ok hs)).bind (Evt.ifT hs (((ev_Copy t (shaped_ok hs)).eq (by unfold copT; rw [if_pos hs])).bind ((ev_wcon l t hs).bind Evt.ret)))
theorem ev_record {N : ByteArray → Bool} (l : List Ent) (hE : AllE N l) (t : Tm) (hs : shapedT t = true) (L U e : Int) : Evt (fun q => e352 q (machT l) l L U e t) (recX l t) := by
  simp only [e352]
  refine (ev_Con l t hs).bind ?_
  by_cases h : isCon l t
  · have hcs := isCon_spec hs h
    obtain ⟨A, z, a1, -, -, a4, a5, a6, a7, f0, f1, -⟩ := con_facts hE hcs.1 hcs.2.1 hcs.2.2.1
    have c : conX l t = ((hdT t).n, arT t, true) := if_pos h
    rw [c]
    refine Evt.ifT rfl (Evt.pure (gidx_ent hcs.1 hcs.2.1) (Evt.pure (gidx_ent f0 (show (ent l (hdT t).n).fam < _ by omega)) ?_))
    by_cases h2 : fldsT l (hdT t).n = []
    · have r : recX l t = (0, [], false) := if_neg (fun h => h.2 h2)
      rw [r]
      have h3 : (ent l (ent l (hdT t).n).fam).fields = [] := h2
      exact Evt.ifT (by rw [h3]; rfl) Evt.ret
    · have r : recX l t = ((hdT t).n, arT t, true) := if_pos ⟨h, h2⟩
      rw [r]
      have h3 : (ent l (ent l (hdT t).n).fam).fields ≠ [] := h2
      have := List.length_pos_iff.2 h3
      exact Evt.ifF (by simp; omega) Evt.ret
  · have c : conX l t = (0, [], false) := if_neg h
    have r : recX l t = (0, [], false) := if_neg (fun h' => h h'.1)
    rw [c, r]
    exact Evt.ifF rfl Evt.ret
theorem rec_facts {N : ByteArray → Bool} {l : List Ent} {c : Int} (hE : AllE N l) (h0 : 0 ≤ c) (h1 : c < l.length) (hk : (ent l c).kind = 2) (hf : fldsT l c ≠ []) :
    (pisT (ent l c).type : Int) = (ent l c).pars + (fldsT l c).length ∧ 0 ≤ (ent l c).pars ∧ 0 ≤ (ent l c).fam ∧ (ent l c).fam < l.length ∧ ∀ n ∈ fldsT l c, isT l n 4 = true := by
  obtain ⟨A, z, a1, -, -, a4, a5, a6, a7, f0, f1, fk, fp, fi, fs, -, q0, q1⟩ := con_facts hE h0 h1 hk
  have hft := (entryT_spec (hE.2 _ f0 (by omega))).2.1 fk
  have hcn := (entryT_spec (hE.2 c h0 h1)).2.2.1 hk
  unfold familyT at hft
  simp only [Bool.and_eq_true, Bool.or_eq_true, decide_eq_true_eq] at hft
  have hne : (ent l (ent l c).fam).fields.length ≠ 0 := fun h => hf (List.length_eq_zero_iff.1 h)
  have hD := hft.2.resolve_left hne
  have hC := hft.1.2
  unfold famD at hD
  unfold famC at hC
  simp only [Bool.and_eq_true, beq_iff_eq, decide_eq_true_eq] at hD hC
  obtain ⟨⟨⟨⟨⟨d1, d2⟩, d3⟩, d4⟩, d5⟩, d6⟩ := hD
  unfold conT ownedT ownB at hcn
  simp only [Bool.and_eq_true, decide_eq_true_eq, beq_iff_eq] at hcn
  have hown : ownL l (ent l c) = (ent l (ent l c).fam).cons := by unfold ownL; rw [if_neg (by omega)]
  have hpl := hcn.1.2
  rw [hown] at hpl
  obtain ⟨w, hw⟩ : ∃ w, (ent l (ent l c).fam).cons = [w] := by
    rcases hc : (ent l (ent l c).fam).cons with _ | ⟨w, _ | ⟨v, r⟩⟩ <;> rw [hc] at d2 <;> simp at d2
    exact ⟨w, rfl⟩
  rw [hw] at hC hpl
  have hwc : w = c := by
    have h3 := hpl.2
    have h4 : (ent l c).place.toNat = 0 := by have := hpl.1.2; simp at this; omega
    rw [h4] at h3
    simpa using h3
  have hrun := hC.1.2
  rw [runT] at hrun
  simp only [Bool.and_eq_true, beq_iff_eq] at hrun
  have hc1 : c = (ent l c).fam + 1 := by omega
  rw [← hc1, a1] at d6
  refine ⟨?_, a6, f0, by omega, ?_⟩
  · rw [← a4, fp]; exact d6
  · have key : ∀ (r : List Int) (k : Int), memT l (ent l c).fam 4 r k = true → ∀ n ∈ r, isT l n 4 = true := by
      intro r
      induction r with
      | nil => intro k _ n hn; cases hn
      | cons a r ih =>
        intro k h n hn
        rw [memT] at h
        simp only [Bool.and_eq_true] at h
        rcases List.mem_cons.1 hn with rfl | hn
        · exact h.1.1.1
        · exact ih _ h.2 n hn
    exact key _ 0 d4
theorem fld_get {l : List Ent} {c : Int} {i : Nat} (h : i < (fldsT l c).length) : gidx (ent l (ent l c).fam).fields (i : Int) = some (((fldsT l c)[i]?).getD (-1)) := by
  unfold gidx
  rw [if_pos (by omega), show (i : Int).toNat = i by omega]
  show (fldsT l c)[i]? = _
  rw [List.getElem?_eq_getElem h]; rfl
theorem partC_e8 (l : List Ent) (t : Tm) (c : Int) (i : Nat) (pars : List Tm) : (partC l t c i pars).2 ≠ 8 := by
  unfold partC
  split
  · simp
  · dsimp only; split <;> simp
theorem partC_ok {l : List Ent} {t : Tm} (hs : shapedT t = true) {c : Int} {i : Nat} {pars : List Tm} (hp : OkA pars) : (partC l t c i pars).1.Ok := by
  unfold partC
  split
  · exact nth_all (Q := Tm.Ok) (fun a ha => shaped_ok (ar_shaped hs ha)) zT_ok
  · exact ok_mk2 (apT_ok _ _ (leaf_ok _ _) hp) (shaped_ok hs)
theorem ev_part {N : ByteArray → Bool} (l : List Ent) (hE : AllE N l) (t : Tm) (hs : shapedT t = true) (L U e c : Int) (i : Nat) (pars : List Tm) (h0 : 0 ≤ c) (h1 : c < l.length) (hk : (ent l c).kind = 2) (hi : i < (fldsT l c).length) (hp : (pars.length : Int) = (ent l c).pars) (hop : OkA pars) :
    Evt (fun q => e357 q (machT l) l L U e t c (i : Int) pars) ((partC l t c i pars).1, if e = 0 then (partC l t c i pars).2 else e) := by
  have hf : fldsT l c ≠ [] := fun h => by rw [h] at hi; simp at hi
  obtain ⟨r1, r2, r3, r4, -⟩ := rec_facts hE h0 h1 hk hf
  have hpl : (ent l c).pars ≤ 24 ∧ pisT (ent l c).type ≤ 24 := by
    obtain ⟨A, z, a1, -, -, a4, a5, a6, a7, -⟩ := con_facts hE h0 h1 hk
    omega
  have tail : Evt (fun q => gidx l c >>= fun x7 => gidx l x7.fam >>= fun x9 => gidx x9.fields (i : Int) >>= fun x11 => e143 q x11 >>= fun r13 => e142 q r13 pars >>= fun r15 => e146 q r15 t >>= fun r17 => if (e == 0) = true then e91 q r17 >>= fun r20 => if r20 = true then some (r17, e) else some (r17, 2) else some (r17, e))
      (.mk 5 0 [apT (.mk 6 (((fldsT l c)[i]?).getD (-1)) []) pars, t], if e = 0 then (if shapedT (.mk 5 0 [apT (.mk 6 (((fldsT l c)[i]?).getD (-1)) []) pars, t]) = true then 0 else 2) else e) := by
    refine Evt.pure (gidx_ent h0 h1) (Evt.pure (gidx_ent r3 r4) (Evt.pure (fld_get hi) (Evt.bind (a := .mk 6 (((fldsT l c)[i]?).getD (-1)) []) (Evt.mk fun _ => rfl) ((ev_Apply _ pars (by omega)).bind ((ev_App _ t).bind ?_)))))
    by_cases he : e = 0
    · refine Evt.ifT (by simp [he]) ((ev_Shaped _ (ok_mk2 (apT_ok _ _ (leaf_ok _ _) hop) (shaped_ok hs))).bind ?_)
      by_cases h2 : shapedT (.mk 5 0 [apT (.mk 6 (((fldsT l c)[i]?).getD (-1)) []) pars, t]) = true
      · exact Evt.ifT h2 (Evt.ret.eq (by simp [h2, he]))
      · exact Evt.ifF (by simpa using h2) (Evt.ret.eq (by simp [h2, he]))
    · exact Evt.ifF (by simp [he]) (Evt.ret.eq (by simp [he]))
  simp only [e357]
  refine (ev_record l hE t hs L U e).bind ?_
  by_cases h : isRec l t
  · have r : recX l t = ((hdT t).n, arT t, true) := if_pos h
    rw [r]
    refine Evt.ifT rfl ?_
    by_cases h2 : (hdT t).n = c
    · have hpc : partC l t c i pars = (nth (arT t) ((pars.length + i : Nat) : Int), 0) := if_pos ⟨h, h2⟩
      rw [hpc]
      have hal : (arT t).length = pisT (ent l c).type := by rw [← h2]; exact h.1.2
      refine Evt.ifT (by simp [h2]) ?_
      rw [w64_id (x := (pars.length : Int) + i) (by omega) (by omega), show (pars.length : Int) + (i : Int) = ((pars.length + i : Nat) : Int) by omega]
      refine Evt.pure (gidx_nth (by omega) (by show _ < ((arT t).length : Int); omega)) (Evt.ret.eq ?_)
      by_cases he : e = 0
      · simp [he]
      · simp [he]
    · have hpc : partC l t c i pars = (.mk 5 0 [apT (.mk 6 (((fldsT l c)[i]?).getD (-1)) []) pars, t], if shapedT (.mk 5 0 [apT (.mk 6 (((fldsT l c)[i]?).getD (-1)) []) pars, t]) = true then 0 else 2) := if_neg (fun h' => h2 h'.2)
      rw [hpc]
      exact Evt.ifF (by simpa using h2) tail
  · have r : recX l t = (0, [], false) := if_neg h
    have hpc : partC l t c i pars = (.mk 5 0 [apT (.mk 6 (((fldsT l c)[i]?).getD (-1)) []) pars, t], if shapedT (.mk 5 0 [apT (.mk 6 (((fldsT l c)[i]?).getD (-1)) []) pars, t]) = true then 0 else 2) := if_neg (fun h' => h h'.1)
    rw [r, hpc]
    exact Evt.ifF rfl tail
def er6 (r : Tm × Tm × Bool × Int × Int × Int) : Int := if r.2.2.1 = true then 9 else r.2.2.2.1
theorem er6_8 {r : Tm × Tm × Bool × Int × Int × Int} (h : er6 r = 8) : r.2.2.1 = false ∧ r.2.2.2.1 = 8 := by
  unfold er6 at h
  split at h
  · omega
  · rename_i h1; exact ⟨by simpa using h1, h⟩
def QP (l : List Ent) (x y : Tm) (R : Int → Int → Tm × Tm × Bool × Int × Int × Int) (k : Int) : Prop :=
  (∃ x' k1 y' k2, RightM l x ∧ RightM l y ∧ Br l x x' 0 k1 ∧ Br l y y' 0 k2 ∧ k = k1 + k2 ∧ R = fun L U => (x', y', true, 0, L, U)) ∨
  (∃ a b e, e ≠ 0 ∧ e ≠ 8 ∧ (∀ m b k, ¬ Cv l m x y b k) ∧ R = fun L U => (a, b, false, e, L, U))
theorem out_cbring {N : ByteArray → Bool} (l : List Ent) (hE : AllE N l) (he : ∀ e ∈ l, EOk e) (x : Tm) (ho : x.Ok) (f : Int) (hf : 0 ≤ f) : Ou (fun L U q => e350 q (machT l) l L U 0 x) er4 (QBR l x) (RightM l x ∧ ∀ y e k, Br l x y e k → f < k) f := by
  simp only [e350]
  refine Ou.bind (out_Bring l hE he x ho f hf) id (fun r hr => ⟨_, Evt.ifT rfl Evt.ret, hr⟩) ?_
  rintro R k k0 k1 hQ
  have hQ' := hQ
  rcases hQ with ⟨hR, rfl, rfl⟩ | ⟨hR, y, e, hbr, rfl⟩
  · exact Ou.ifT rfl (Ou.ret (by omega) (by rw [Int.add_zero]; exact hQ'))
  · exact Ou.ifT rfl (Ou.ret (by omega) (by rw [Int.add_zero]; exact hQ'))
theorem out_pair {N : ByteArray → Bool} (l : List Ent) (hE : AllE N l) (he : ∀ e ∈ l, EOk e) (x y : Tm) (hx : x.Ok) (hy : y.Ok) (f : Int) (hf : 0 ≤ f) : Ou (fun L U q => e336 q (machT l) l L U 0 x y) er6 (QP l x y) (∀ m b k, Cv l m x y b k → f < k) f := by
  simp only [e336]
  refine Ou.ifF rfl (Ou.bind (out_cbring l hE he x hx f hf) (fun h m b k hc => ?_) (fun r hr => ?_) ?_)
  · obtain ⟨-, -, x', k1, y', k2, k3, h1, h2, h3, rfl⟩ := hc.inv
    have := h.2 _ _ _ h1
    have := h2.nn
    have := h3.nn (fun _ _ _ _ _ h => Cv.nn h)
    omega
  · refine ⟨_, Evt.ifT (by show (r.2.1 != 0) = true; rw [show r.2.1 = 8 from hr]; decide) Evt.ret, ?_⟩
    unfold er6
    rw [if_neg (by simp)]; exact hr
  · rintro R k k0 k1 (⟨hR, rfl, rfl⟩ | ⟨hR, x', e, hbr, rfl⟩)
    · exact Ou.ifT rfl (Ou.ret (by omega) (.inr ⟨_, _, 5, by decide, by decide, fun m b k hc => hR hc.inv.1, rfl⟩))
    · dsimp only
      by_cases e0 : e = 0
      · subst e0
        rw [if_pos rfl]
        refine Ou.ifF rfl (Ou.bind (out_cbring l hE he y hy (f - k) (by omega)) (fun h m b k' hc => ?_) (fun r hr => ⟨_, Evt.ret, ?_⟩) ?_)
        · obtain ⟨-, -, x1, k1, y', k2, k3, h1, h2, h3, rfl⟩ := hc.inv
          obtain ⟨-, -, rfl⟩ := hbr.det h1
          have := h.2 _ _ _ h2
          have := h3.nn (fun _ _ _ _ _ h => Cv.nn h)
          omega
        · have hr' : r.2.1 = 8 := hr
          unfold er6
          dsimp only
          rw [hr', if_neg (by decide)]
        · rintro R n n0 n1 (⟨hR2, rfl, rfl⟩ | ⟨hR2, y', e, hbr2, rfl⟩)
          · exact Ou.ret (by omega) (.inr ⟨x', zT, 5, by decide, by decide, fun m b k hc => hR2 hc.inv.2.1, rfl⟩)
          · by_cases e1 : e = 0
            · subst e1
              exact Ou.ret (by omega) (.inl ⟨x', k, y', n, hR, hR2, hbr, hbr2, by omega, by funext L U; simp⟩)
            · refine Ou.ret (by omega) (.inr ⟨x', zT, e, e1, hbr2.e8 hE hR2.shaped, fun m b k' hc => ?_, by simp [e1, show (e == 0) = false by simpa using e1]⟩)
              obtain ⟨-, -, x1, k1, y1, k2, k3, h1, h2, h3, -⟩ := hc.inv
              exact e1 (hbr2.det h2).2.1.symm
      · rw [if_neg e0]
        refine Ou.ifT (by simpa using e0) (Ou.ret (by omega) (.inr ⟨zT, y, e, e0, hbr.e8 hE hR.shaped, fun m b k' hc => ?_, rfl⟩))
        obtain ⟨-, -, x1, k1, y1, k2, k3, h1, -⟩ := hc.inv
        exact e0 (hbr.det h1).2.1.symm
def BC (l : List Ent) (f : Int) (W : Nat) : Prop := ∀ m p q, p.Ok → q.Ok → wtT l p + wtT l q < W → ∀ g, 0 ≤ g → g ≤ f → HC l m p q g
theorem BC.le {l : List Ent} {f g : Int} {W : Nat} (h : BC l f W) (hg : g ≤ f) : BC l g W := fun m p q a b c d e k => h m p q a b c d e (by omega)
theorem HX.imp {g g' : Int → Int → Nat → Option (Bool × Int × Int × Int)} {X : Bool → Int → Prop} {f : Int} (h : HX g X f) (k : ∀ L U r, Evt (g L U) r → Evt (g' L U) r) : HX g' X f := Ou.imp h k
theorem HX.same {g : Int → Int → Nat → Option (Bool × Int × Int × Int)} {X : Bool → Int → Prop} {f : Int} (h : HX g X f) : HX (fun L U q => g L U q >>= fun r => some (r.1, r.2.1, r.2.2.1, r.2.2.2)) X f := h.imp fun L U r h => h.bind Evt.ret
theorem out_spL (l : List Ent) (x y : Tm × List Tm) (W : Nat) (hl : x.2.length ≤ 8192) (hxy : y.2.length = x.2.length) (hox : OkA x.2) (hoy : OkA y.2) (hw : ∀ a ∈ x.2, ∀ b ∈ y.2, wtT l a + wtT l b < W) : ∀ (r s : List Tm) (v : Nat) (f : Int), x.2.drop v = r → y.2.drop v = s → 0 ≤ f → BC l f W →
    HX (fun L U q => e354va22461L16782 q l l (evA l l.length 0) (l.map argsT) (l.map ownT) l x y (v : Int) 0 L U) (AllC (Cv l false) (argP r s)) f
  | [], s, v, f, hd, hs, hf, hB => by
    refine Ou.succ ?_
    simp only [e354va22461L16782]
    have e : argP [] s = [] := by cases s <;> rfl
    rw [e]
    exact Ou.ifF (drop_nil hd) (out_nil hf)
  | a :: r, [], v, f, hd, hs, hf, hB => by
    have hlt := drop_lt hd
    have : y.2.length ≤ v := List.drop_eq_nil_iff.1 hs
    omega
  | a :: r, b :: s, v, f, hd, hs, hf, hB => by
    have hlt := drop_lt hd
    have hma : a ∈ x.2 := by
      have : a ∈ x.2.drop v := by rw [hd]; simp
      exact List.mem_of_mem_drop this
    have hmb : b ∈ y.2 := by
      have : b ∈ y.2.drop v := by rw [hs]; simp
      exact List.mem_of_mem_drop this
    refine Ou.succ ?_
    simp only [e354va22461L16782]
    refine Ou.ifT (drop_dec hd) (Ou.pure (drop_idx hd) (Ou.pure (drop_idx hs) ?_))
    rw [w64_nat v (by omega)]
    exact out_cons (c := fun e L U q => e354va22461L16782 q l l (evA l l.length 0) (l.map argsT) (l.map ownT) l x y ((v + 1 : Nat) : Int) e L U) (out_plain (hB false a b (hox a hma) (hoy b hmb) (hw a hma b hmb) f hf (Int.le_refl f)))
      fun k k0 k1 => out_spL l x y W hl hxy hox hoy hw r s (v + 1) (f - k) (drop_next hd) (drop_next hs) (by omega) (hB.le (by omega))
theorem ans_ret {l : List Ent} {m b : Bool} {f : Int} (hf : 0 ≤ f) : HX (fun L U _ => some (b, 0, L, U)) (HdR (Cv l) m (.ans b)) f := Ou.ret hf (qx_ok ⟨rfl, rfl⟩)
theorem out_spines (l : List Ent) (m : Bool) (x y : Tm) (hsx : shapedT x = true) (hsy : shapedT y = true) (f : Int) (hf : 0 ≤ f) (hB : BC l f (wtT l x + wtT l y)) : HX (fun L U q => e354va22461 q l l (evA l l.length 0) (l.map argsT) (l.map ownT) l L U 0 x y) (HdR (Cv l) m (spnC x y)) f := by
  have hgx := (shapedT_spec hsx).2.2
  have hgy := (shapedT_spec hsy).2.2
  have hgh := (shapedT_spec (hd_shaped hsx)).2.2
  have hgk := (shapedT_spec (hd_shaped hsy)).2.2
  have hox : OkA (arT x) := fun a ha => shaped_ok (ar_shaped hsx ha)
  have hoy : OkA (arT y) := fun a ha => shaped_ok (ar_shaped hsy ha)
  have hlx : (arT x).length ≤ 8192 := by
    have h := shapedT_spec hsx
    have := ar_len _ h.2.2
    omega
  have hwx := wt_spine l x hgx
  have hwy := wt_spine l y hgy
  have hph := wt_pos l (hdT x)
  have hpk := wt_pos l (hdT y)
  have hw : ∀ a ∈ arT x, ∀ b ∈ arT y, wtT l a + wtT l b < wtT l x + wtT l y := fun a ha b hb => by
    have := wt_mem l ha
    have := wt_mem l hb
    omega
  refine Ou.succ ?_
  simp only [e354va22461]
  refine Ou.evt (ev_Spine x hsx) (Ou.evt (ev_Spine y hsy) ?_)
  dsimp only
  by_cases c1 : (hdT x).k = (hdT y).k
  · refine Ou.ifF (by simp [c1]) ?_
    by_cases c2 : (hdT x).n = (hdT y).n
    · refine Ou.ifF (by simp [c2]) ?_
      by_cases c3 : (arT x).length = (arT y).length
      · refine Ou.ifF (by simp [c3]) ?_
        have loop : ∀ g, 0 ≤ g → g ≤ f → HX (fun L U q => e354va22461L16782 q l l (evA l l.length 0) (l.map argsT) (l.map ownT) l (hdT x, arT x) (hdT y, arT y) 0 0 L U) (AllC (Cv l false) (argP (arT x) (arT y))) g := fun g g0 g1 => out_spL l (hdT x, arT x) (hdT y, arT y) _ hlx c3.symm hox hoy hw (arT x) (arT y) 0 g rfl rfl g0 (hB.le g1)
        by_cases c4 : (hdT x).k = 7
        · obtain ⟨s, hs⟩ : ∃ s, (hdT x).sub = [s] := by
            revert hgh c4
            generalize hdT x = w
            intro hg h7
            obtain ⟨kk, nn, ss⟩ := w
            obtain ⟨s, hs, -⟩ := (head_spec (goodT_mk hg).1).2.2.2.2.2.2.1 h7
            exact ⟨s, hs⟩
          obtain ⟨s', hs'⟩ : ∃ s, (hdT y).sub = [s] := by
            have c4' : (hdT y).k = 7 := by omega
            revert hgk c4'
            generalize hdT y = w
            intro hg h7
            obtain ⟨kk, nn, ss⟩ := w
            obtain ⟨s, hs, -⟩ := (head_spec (goodT_mk hg).1).2.2.2.2.2.2.1 h7
            exact ⟨s, hs⟩
          refine Ou.ifT (by simp [c4]) (Ou.pure (gidx_nth (by omega) (by rw [hs]; simp)) (Ou.pure (gidx_nth (by omega) (by rw [hs']; simp)) ?_))
          by_cases c5 : (nth (hdT x).sub 0).n = (nth (hdT y).sub 0).n
          · refine Ou.ifF (by simp [c5]) (Ou.ifF (by simp [c4]) ?_)
            have e : spnC x y = .all (argP (arT x) (arT y)) := by
              unfold spnC spnP
              rw [if_neg (by omega), if_neg (by omega), List.nil_append]
            rw [e]
            exact loop f hf (Int.le_refl f)
          · refine Ou.ifT (by simpa using c5) ?_
            have e : spnC x y = .ans false := by unfold spnC; rw [if_pos (.inr (.inr (.inr ⟨c4, c5⟩)))]
            rw [e]; exact ans_ret hf
        · refine Ou.ifF (by simpa using c4) ?_
          by_cases c5 : (hdT x).k = 3
          · have c5' : (hdT y).k = 3 := by omega
            obtain ⟨a, b, hab, hga, hgb⟩ := nth_sub2 hgh (.inl c5)
            obtain ⟨a', b', hab', hga', hgb'⟩ := nth_sub2 hgk (.inl c5')
            have ea : nth (hdT x).sub 0 = a := by rw [hab]; rfl
            have eb : nth (hdT x).sub 1 = b := by rw [hab]; rfl
            have ea' : nth (hdT y).sub 0 = a' := by rw [hab']; rfl
            have eb' : nth (hdT y).sub 1 = b' := by rw [hab']; rfl
            have e : spnC x y = .all (((a, 0), (a', 0)) :: ((b, 0), (b', 0)) :: argP (arT x) (arT y)) := by
              unfold spnC spnP
              rw [if_neg (by omega), if_pos c5, ea, eb, ea', eb']; rfl
            have w1 := wt_sub l (hdT x)
            have w2 := wt_sub l (hdT y)
            rw [hab, wtL, wtL, wtL] at w1
            rw [hab', wtL, wtL, wtL] at w2
            have v1 := (nw_pos l (hdT x).k (hdT x).n).1
            have v2 := (nw_pos l (hdT y).k (hdT y).n).1
            rw [e]
            refine Ou.ifT (by simp [c5]) (Ou.pure (a := a) (by rw [hab]; rfl) (Ou.pure (a := a') (by rw [hab']; rfl) ?_))
            refine out_cons (c := fun e L U q => gidx (hdT x).sub 1 >>= fun x33 => gidx (hdT y).sub 1 >>= fun x35 => e335va22461 q l l (evA l l.length 0) (l.map argsT) (l.map ownT) l L U e x33 x35 >>= fun r37 => if r37.1 = true then e354va22461L16782 q l l (evA l l.length 0) (l.map argsT) (l.map ownT) l (hdT x, arT x) (hdT y, arT y) 0 r37.2.1 r37.2.2.1 r37.2.2.2 else some (false, r37.2.1, r37.2.2.1, r37.2.2.2)) (out_plain (hB false a a' (good_ok a hga) (good_ok a' hga') (by omega) f hf (Int.le_refl f))) fun k k0 k1 => ?_
            refine Ou.pure (a := b) (by rw [hab]; rfl) (Ou.pure (a := b') (by rw [hab']; rfl) ?_)
            exact out_cons (c := fun e L U q => e354va22461L16782 q l l (evA l l.length 0) (l.map argsT) (l.map ownT) l (hdT x, arT x) (hdT y, arT y) 0 e L U) (out_plain (hB false b b' (good_ok b hgb) (good_ok b' hgb') (by omega) (f - k) (by omega) (by omega))) fun k' k0' k1' => loop (f - k - k') (by omega) (by omega)
          · refine Ou.ifF (by simpa using c5) ?_
            have e : spnC x y = .all (argP (arT x) (arT y)) := by
              unfold spnC spnP
              rw [if_neg (by omega), if_neg c5, List.nil_append]
            rw [e]
            exact loop f hf (Int.le_refl f)
      · refine Ou.ifT (by simp; omega) ?_
        have e : spnC x y = .ans false := by unfold spnC; rw [if_pos (.inr (.inr (.inl c3)))]
        rw [e]; exact ans_ret hf
    · refine Ou.ifT (by simpa using c2) ?_
      have e : spnC x y = .ans false := by unfold spnC; rw [if_pos (.inr (.inl c2))]
      rw [e]; exact ans_ret hf
  · refine Ou.ifT (by simpa using c1) ?_
    have e : spnC x y = .ans false := by unfold spnC; rw [if_pos (.inl c1)]
    rw [e]; exact ans_ret hf
theorem out_fldL {N : ByteArray → Bool} (l : List Ent) (hE : AllE N l) (x y : Tm) (c : Int) (pars : List Tm) (W : Nat) (hsx : shapedT x = true) (hsy : shapedT y = true) (h0 : 0 ≤ c) (h1 : c < l.length) (hk : (ent l c).kind = 2) (hp : (pars.length : Int) = (ent l c).pars) (hop : OkA pars)
    (hw : ∀ i, i < (fldsT l c).length → wtT l (partC l x c i pars).1 + wtT l (partC l y c i pars).1 < W) : ∀ (m i : Nat) (f : Int), i + m = (fldsT l c).length → 0 ≤ f → BC l f W →
    HX (fun L U q => e353va27343L63412 q l l (evA l l.length 0) (l.map argsT) (l.map ownT) l x y c pars (ent l (ent l c).fam) (i : Int) 0 L U) (AllC (Cv l false) (fldP l x y c pars m i)) f
  | 0, i, f, hm, hf, hB => by
    refine Ou.succ ?_
    simp only [e353va27343L63412]
    have hm' : i = (ent l (ent l c).fam).fields.length := hm
    exact Ou.ifF (decide_eq_false (by omega)) (out_nil hf)
  | m + 1, i, f, hm, hf, hB => by
    have hi : i < (fldsT l c).length := by omega
    have hne : fldsT l c ≠ [] := fun h => by rw [h] at hi; simp at hi
    have hlen : (fldsT l c).length ≤ 24 := by
      have r := rec_facts hE h0 h1 hk hne
      obtain ⟨A, z, a1, -, -, a4, a5, a6, a7, -⟩ := con_facts hE h0 h1 hk
      omega
    refine Ou.succ ?_
    simp only [e353va27343L63412]
    refine Ou.ifT (decide_eq_true (by show (i : Int) < ((fldsT l c).length : Int); omega)) ?_
    have e1 := fun L U => ev_part l hE x hsx L U 0 c i pars h0 h1 hk hi hp hop
    have e2 := fun L U => ev_part l hE y hsy L U (partC l x c i pars).2 c i pars h0 h1 hk hi hp hop
    refine HX.imp (g := fun L U q => runC l false L U (if (partC l x c i pars).2 = 0 then (partC l y c i pars).2 else (partC l x c i pars).2) q (partC l x c i pars).1 (partC l y c i pars).1 >>= fun r10 => if r10.1 = true then e353va27343L63412 q l l (evA l l.length 0) (l.map argsT) (l.map ownT) l x y c pars (ent l (ent l c).fam) ((i + 1 : Nat) : Int) r10.2.1 r10.2.2.1 r10.2.2.2 else some (false, r10.2.1, r10.2.2.1, r10.2.2.2)) ?_ fun L U r h => ?_
    · exact out_cons (c := fun e L U q => e353va27343L63412 q l l (evA l l.length 0) (l.map argsT) (l.map ownT) l x y c pars (ent l (ent l c).fam) ((i + 1 : Nat) : Int) e L U)
        (out_one (p := partC l x c i pars) (q := partC l y c i pars) hf ⟨partC_e8 _ _ _ _ _, partC_e8 _ _ _ _ _⟩ fun _ _ => hB false _ _ (partC_ok hsx hop) (partC_ok hsy hop) (hw i hi) f hf (Int.le_refl f))
        fun k k0 k1 => out_fldL l hE x y c pars W hsx hsy h0 h1 hk hp hop hw m (i + 1) (f - k) (by omega) (by omega) (hB.le (by omega))
    · have a1 := e1 L U
      rw [if_pos rfl] at a1
      rw [w64_nat i (by omega)]
      exact a1.bind ((e2 L U).bind h)
theorem out_pi {l : List Ent} {m : Bool} {a a' c1 c1' : Tm} {f : Int} {g : Int → Int → Nat → Option (Bool × Int × Int × Int)} {c : Int → Int → Int → Nat → Option (Bool × Int × Int × Int)}
    (h1 : HX g (Cv l false a a') f) (hc : ∀ k, 0 ≤ k → k ≤ f → HX (fun L U q => c 0 L U q) (Cv l m c1 c1') (f - k)) :
    HX (fun L U q => g L U q >>= fun r30 => if r30.1 = true then c r30.2.1 r30.2.2.1 r30.2.2.2 q else some (false, r30.2.1, r30.2.2.1, r30.2.2.2)) (HdR (Cv l) m (.pi a a' c1 c1')) f := by
  refine Ou.bind h1 (fun h b k ha => ?_) (fun r hr => ?_) ?_
  · obtain ⟨b1, k1, a3, a4⟩ := ha
    have := h b1 k1 a3
    rcases a4 with ⟨-, -, a4⟩ | ⟨-, k2, a4, a5⟩
    · omega
    · have := a4.nn; omega
  · have := er4b_8 hr
    refine ⟨_, Evt.ifF this.1 Evt.ret, ?_⟩
    unfold er4b
    rw [if_neg (by simp)]; exact this.2
  · rintro R k k0 k1 ⟨b1, e1, h8, h0, hn, rfl⟩
    dsimp only
    by_cases e0 : e1 = 0
    · subst e0
      have a3 := h0 rfl
      cases b1 with
      | false => exact Ou.ifF rfl (Ou.ret (by omega) (qx_ok ⟨false, k, a3, .inl ⟨rfl, rfl, by omega⟩⟩))
      | true =>
        refine Ou.ifT rfl ((hc k k0 k1).mono ?_ fun h b k' ha => ?_)
        · rintro R n _ _ ⟨b, e, g8, g0, gn, rfl⟩
          refine ⟨b, e, g8, fun he => ⟨true, k, a3, .inr ⟨rfl, n, g0 he, rfl⟩⟩, fun he => ⟨(gn he).1, fun b' k' ha => ?_⟩, rfl⟩
          obtain ⟨b1, k1, a4, a5⟩ := ha
          obtain ⟨rfl, rfl⟩ := a3.det a4
          rcases a5 with ⟨a5, -⟩ | ⟨-, k2, a5, -⟩
          · cases a5
          · exact (gn he).2 _ _ a5
        · obtain ⟨b1, k1, a4, a5⟩ := ha
          obtain ⟨rfl, rfl⟩ := a3.det a4
          rcases a5 with ⟨a5, -⟩ | ⟨-, k2, a5, a6⟩
          · cases a5
          · have := h _ _ a5; omega
    · obtain ⟨rfl, hno⟩ := hn e0
      refine Ou.ifF rfl (Ou.ret (by omega) (qx_bad h8 e0 fun b k ha => ?_))
      obtain ⟨b1, k1, a3, -⟩ := ha
      exact hno b1 k1 a3
theorem opn_wt (l : List Ent) {x y : Tm} (hgx : goodT x = true) (hgy : goodT y = true) (hp : (opnT x).2 = 0) (hq : (opnT y).2 = 0) (h : x.k = 4 ∨ y.k = 4) : wtT l (opnT x).1 + wtT l (opnT y).1 < wtT l x + wtT l y := by
  have lam : ∀ t : Tm, goodT t = true → t.k = 4 → wtT l (opnT t).1 + 4 ≤ wtT l t := fun t hg h4 => by
    obtain ⟨a, b, hab, -, -⟩ := nth_sub2 hg (.inr (.inl h4))
    rw [opn4 h4, hab]
    have w := wt_sub l t
    rw [hab, wtL, wtL, wtL] at w
    have e : nwT l t.k t.n = 3 := by unfold nwT; rw [if_pos h4]
    have := wt_pos l a
    show wtT l b + 4 ≤ _
    omega
  have oth : ∀ t : Tm, (opnT t).2 = 0 → t.k ≠ 4 → wtT l (opnT t).1 ≤ wtT l t + 2 := fun t h0 h4 => by
    rw [opnN h4] at h0 ⊢
    have h1 : (liftT t 1 0).2 = 0 := by
      by_cases h1 : (liftT t 1 0).2 = 0
      · exact h1
      · rw [if_neg h1] at h0; exact h0
    rw [(liftT_id h1).2.2.2.2, wtT, wtL, wtL, wtL, wtT, wtL]
    have e1 : nwT l 5 0 = 1 := by unfold nwT; simp
    have e2 : nwT l 1 0 = 1 := by unfold nwT; simp
    have := wt_lf l t 0 0 1
    omega
  by_cases h1 : x.k = 4
  · have a := lam x hgx h1
    by_cases h2 : y.k = 4
    · have b := lam y hgy h2; omega
    · have b := oth y hq h2; omega
  · have a := oth x hp h1
    have b := lam y hgy (h.resolve_left h1)
    omega
theorem fld_wt {N : ByteArray → Bool} {l : List Ent} (hE : AllE N l) {x y : Tm} (hsx : shapedT x = true) (hsy : shapedT y = true) {c : Int} {pars : List Tm} (h0 : 0 ≤ c) (h1 : c < l.length) (hk : (ent l c).kind = 2) {i : Nat} (hi : i < (fldsT l c).length)
    (h : (isRec l x ∧ (hdT x).n = c ∧ pars = prsT l x ∧ (isRec l y → (hdT y).n = c)) ∨ (¬ isRec l x ∧ isRec l y ∧ (hdT y).n = c ∧ pars = prsT l y)) : wtT l (partC l x c i pars).1 + wtT l (partC l y c i pars).1 < wtT l x + wtT l y := by
  have hne : fldsT l c ≠ [] := fun h => by rw [h] at hi; simp at hi
  obtain ⟨r1, r2, r3, r4, r5⟩ := rec_facts hE h0 h1 hk hne
  have con : ∀ t : Tm, shapedT t = true → isRec l t → (hdT t).n = c → pars.length = (ent l c).pars.toNat → wtT l (partC l t c i pars).1 + wtL l (prsT l t) + (ent l c).pars.toNat + 3 ≤ wtT l t := fun t hs hr hn hl => by
    have e : partC l t c i pars = (nth (arT t) ((pars.length + i : Nat) : Int), 0) := if_pos ⟨hr, hn⟩
    rw [e]
    show wtT l (nth (arT t) ((pars.length + i : Nat) : Int)) + wtL l (prsT l t) + (ent l c).pars.toNat + 3 ≤ wtT l t
    have hlen : (arT t).length = pisT (ent l c).type := by rw [← hn]; exact hr.1.2
    have hk6 := (kindT_spec hr.1.1 (by decide)).1
    have hw := wt_spine l t (shapedT_spec hs).2.2
    have hh := wt_sub l (hdT t)
    have e2 : nwT l (hdT t).k (hdT t).n = 2 := by unfold nwT; rw [if_neg (by omega), if_pos ⟨hk6, by rw [hn]; exact hk⟩]
    have hsplit : arT t = (arT t).take (ent l c).pars.toNat ++ (arT t).drop (ent l c).pars.toNat := (List.take_append_drop _ _).symm
    have hwl : wtL l (arT t) = wtL l (prsT l t) + wtL l ((arT t).drop (ent l c).pars.toNat) := by
      have : prsT l t = (arT t).take (ent l c).pars.toNat := by unfold prsT; rw [hn]
      rw [this, ← wtL_app, List.take_append_drop]
    have hm : nth (arT t) ((pars.length + i : Nat) : Int) ∈ (arT t).drop (ent l c).pars.toNat := by
      unfold nth
      have hlt : pars.length + i < (arT t).length := by omega
      rw [show (((pars.length + i : Nat) : Int)).toNat = pars.length + i by omega, List.getElem?_eq_getElem hlt]
      show (arT t)[pars.length + i] ∈ _
      have : (arT t)[pars.length + i] = ((arT t).drop (ent l c).pars.toNat)[i]'(by simp; omega) := by
        rw [List.getElem_drop]
        congr 1
        omega
      rw [this]
      exact List.getElem_mem _
    have := wt_mem l hm
    have : (arT t).length ≥ (ent l c).pars.toNat + 1 := by omega
    have hnn : 0 ≤ wtL l (hdT t).sub := Nat.zero_le _
    omega
  have oth : ∀ t : Tm, ¬ (isRec l t ∧ (hdT t).n = c) → wtT l (partC l t c i pars).1 = 2 + wtL l pars + pars.length + wtT l t := fun t hr => by
    have e : partC l t c i pars = (.mk 5 0 [apT (.mk 6 (((fldsT l c)[i]?).getD (-1)) []) pars, t], if shapedT (.mk 5 0 [apT (.mk 6 (((fldsT l c)[i]?).getD (-1)) []) pars, t]) = true then 0 else 2) := if_neg hr
    rw [e]
    have hfk : (ent l (((fldsT l c)[i]?).getD (-1))).kind = 4 := by
      rw [List.getElem?_eq_getElem hi]
      exact (isT_spec (r5 _ (List.getElem_mem hi))).2.2
    have e1 : nwT l 5 0 = 1 := by unfold nwT; simp
    have e2 : nwT l 6 (((fldsT l c)[i]?).getD (-1)) = 1 := by unfold nwT; rw [if_neg (by decide), if_neg (by omega)]
    show wtT l (.mk 5 0 [apT (.mk 6 (((fldsT l c)[i]?).getD (-1)) []) pars, t]) = _
    rw [wtT, wtL, wtL, wtL, wt_ap, wtT, wtL, e1, e2]
    omega
  have plen : ∀ t : Tm, shapedT t = true → isRec l t → (hdT t).n = c → (prsT l t).length = (ent l c).pars.toNat := fun t hs hr hn => by
    have hlen : (arT t).length = pisT (ent l c).type := by rw [← hn]; exact hr.1.2
    unfold prsT
    rw [hn, List.length_take]
    omega
  rcases h with ⟨hx, hn, hp, hy⟩ | ⟨hx, hy, hn, hp⟩
  · have hl := plen x hsx hx hn
    rw [← hp] at hl
    have a := con x hsx hx hn hl
    rw [← hp] at a
    by_cases ry : isRec l y
    · have b := con y hsy ry (hy ry) hl
      omega
    · have b := oth y (fun h => ry h.1)
      omega
  · have hl := plen y hsy hy hn
    rw [← hp] at hl
    have a := con y hsy hy hn hl
    rw [← hp] at a
    have b := oth x (fun h => hx h.1)
    omega
theorem out_headsF {N : ByteArray → Bool} (l : List Ent) (hE : AllE N l) (x y : Tm) (hsx : shapedT x = true) (hsy : shapedT y = true) (f : Int) (hf : 0 ≤ f) (hB : BC l f (wtT l x + wtT l y)) : HX (fun L U q => runH l false L U 0 q x y) (HdR (Cv l) false (headC l false x y)) f := by
  have hgx := (shapedT_spec hsx).2.2
  have hgy := (shapedT_spec hsy).2.2
  refine Ou.succ ?_
  simp only [runH, e337va21834]
  have lamC : x.k = 4 ∨ y.k = 4 → HX (fun L U q => e351 q (Mach.mk l l (evA l l.length 0) (l.map argsT) (l.map ownT)) l L U 0 x >>= fun r2 => e351 q (Mach.mk l l (evA l l.length 0) (l.map argsT) (l.map ownT)) l L U r2.2 y >>= fun r4 => e335va22461 q l l (evA l l.length 0) (l.map argsT) (l.map ownT) l L U r4.2 r2.1 r4.1 >>= fun r6 => some (r6.1, r6.2.1, r6.2.2.1, r6.2.2.2)) (HdR (Cv l) false (headC l false x y)) f := fun h => by
    have e : headC l false x y = .all [(opnT x, opnT y)] := if_pos h
    rw [e]
    refine HX.imp (g := fun L U q => runC l false L U (if (opnT x).2 = 0 then (opnT y).2 else (opnT x).2) q (opnT x).1 (opnT y).1 >>= fun r6 => some (r6.1, r6.2.1, r6.2.2.1, r6.2.2.2)) ?_ fun L U r h => ?_
    · refine HX.same (out_one (p := opnT x) (q := opnT y) hf ⟨opnT_e8 x, opnT_e8 y⟩ fun hp hq => hB false _ _ (opnT_ok hsx) (opnT_ok hsy) ?_ f hf (Int.le_refl f))
      exact opn_wt l hgx hgy hp hq h
    · have a1 := ev_opened (machT l) l x hsx L U 0
      have a2 := ev_opened (machT l) l y hsy L U (opnT x).2
      rw [if_pos rfl] at a1
      exact a1.bind (a2.bind h)
  refine Ou.ite (fun h => lamC (.inl (by simpa using h))) fun h4 => Ou.ite (fun h => lamC (.inr (by simpa using h))) fun h4' => ?_
  have n4 : ¬ (x.k = 4 ∨ y.k = 4) := by
    have a : x.k ≠ 4 := by simpa using h4
    have b : y.k ≠ 4 := by simpa using h4'
    omega
  have flds : ∀ (c : Int) (pars : List Tm), (isRec l x ∧ (hdT x).n = c ∧ pars = prsT l x ∧ (isRec l y → (hdT y).n = c)) ∨ (¬ isRec l x ∧ isRec l y ∧ (hdT y).n = c ∧ pars = prsT l y) → ∀ cs : List Tm, gsl cs 0 (ent l c).pars = some pars →
      HX (fun L U q => gidx l c >>= fun x22 => gsl cs 0 x22.pars >>= fun x24 => e353va27343 q l l (evA l l.length 0) (l.map argsT) (l.map ownT) l L U 0 x y c x24 >>= fun r26 => some (r26.1, r26.2.1, r26.2.2.1, r26.2.2.2)) (AllC (Cv l false) (fldP l x y c pars (fldsT l c).length 0)) f := fun c pars h cs hcs => by
    have hc : ∃ t, (t = x ∨ t = y) ∧ shapedT t = true ∧ isRec l t ∧ (hdT t).n = c ∧ pars = prsT l t := by
      rcases h with h | h
      · exact ⟨x, .inl rfl, hsx, h.1, h.2.1, h.2.2.1⟩
      · exact ⟨y, .inr rfl, hsy, h.2.1, h.2.2.1, h.2.2.2⟩
    obtain ⟨t, -, hst, hrt, hnt, hpt⟩ := hc
    have hcs' := isCon_spec hst hrt.1
    rw [hnt] at hcs'
    have hf0 := hrt.2
    rw [hnt] at hf0
    have rf := rec_facts hE hcs'.1 hcs'.2.1 hcs'.2.2.1 hf0
    have hop : OkA pars := by rw [hpt]; exact OkA.take (fun a ha => shaped_ok (ar_shaped hst ha)) _
    have hpl : (pars.length : Int) = (ent l c).pars := by
      rw [hpt]; unfold prsT
      rw [hnt, List.length_take]
      omega
    refine Ou.pure (gidx_ent hcs'.1 hcs'.2.1) (Ou.pure hcs (HX.same (Ou.succ ?_)))
    simp only [e353va27343]
    refine Ou.pure (gidx_ent hcs'.1 hcs'.2.1) (Ou.pure (gidx_ent rf.2.2.1 rf.2.2.2.1) ?_)
    exact out_fldL l hE x y c pars _ hsx hsy hcs'.1 hcs'.2.1 hcs'.2.2.1 hpl hop (fun i hi => fld_wt hE hsx hsy hcs'.1 hcs'.2.1 hcs'.2.2.1 hi h) (fldsT l c).length 0 f (by omega) hf hB
  have par_sl : ∀ t, shapedT t = true → isRec l t → gsl (arT t) 0 (ent l (hdT t).n).pars = some (prsT l t) := fun t hst hrt => by
    have hcs' := isCon_spec hst hrt.1
    have rf := rec_facts hE hcs'.1 hcs'.2.1 hcs'.2.2.1 hrt.2
    rw [gsl_mid (by omega) rf.2.1 (by omega)]
    unfold prsT; simp
  refine Ou.evt (ev_record l hE x hsx 0 0 0) ?_
  by_cases rx : isRec l x
  · have ex : recX l x = ((hdT x).n, arT x, true) := if_pos rx
    rw [ex]
    refine Ou.ifT rfl (Ou.evt (ev_record l hE y hsy 0 0 0) ?_)
    by_cases ry : isRec l y
    · have ey : recX l y = ((hdT y).n, arT y, true) := if_pos ry
      rw [ey]
      refine Ou.ifT rfl ?_
      by_cases hn : (hdT x).n = (hdT y).n
      · have e : headC l false x y = .all (fldP l x y (hdT x).n (prsT l x) (fldsT l (hdT x).n).length 0) := by
          unfold headC; rw [if_neg n4, if_pos rx, if_neg (fun h => h.2 hn)]
        rw [e]
        exact Ou.ifF (by simp [hn]) (flds _ _ (.inl ⟨rx, rfl, rfl, fun _ => hn.symm⟩) (arT x) (par_sl x hsx rx))
      · have e : headC l false x y = .ans false := by
          unfold headC; rw [if_neg n4, if_pos rx, if_pos ⟨ry, hn⟩]
        rw [e]
        exact Ou.ifT (by simpa using hn) (ans_ret hf)
    · have ey : recX l y = (0, [], false) := if_neg ry
      have e : headC l false x y = .all (fldP l x y (hdT x).n (prsT l x) (fldsT l (hdT x).n).length 0) := by
        unfold headC; rw [if_neg n4, if_pos rx, if_neg (fun h => ry h.1)]
      rw [ey, e]
      exact Ou.ifF rfl (flds _ _ (.inl ⟨rx, rfl, rfl, fun h => absurd h ry⟩) (arT x) (par_sl x hsx rx))
  · have ex : recX l x = (0, [], false) := if_neg rx
    rw [ex]
    refine Ou.ifF rfl (Ou.evt (ev_record l hE y hsy 0 0 0) ?_)
    by_cases ry : isRec l y
    · have ey : recX l y = ((hdT y).n, arT y, true) := if_pos ry
      have e : headC l false x y = .all (fldP l x y (hdT y).n (prsT l y) (fldsT l (hdT y).n).length 0) := by
        unfold headC; rw [if_neg n4, if_neg rx, if_pos ry]
      rw [ey, e]
      exact Ou.ifT rfl (flds _ _ (.inr ⟨rx, ry, rfl, rfl⟩) (arT y) (par_sl y hsy ry))
    · have ey : recX l y = (0, [], false) := if_neg ry
      rw [ey]
      refine Ou.ifF rfl ?_
      by_cases hk : x.k = y.k
      · refine Ou.ifF (by simp [hk]) ?_
        by_cases k3 : x.k = 3
        · have e : headC l false x y = .pi (nth x.sub 0) (nth y.sub 0) (nth x.sub 1) (nth y.sub 1) := by
            unfold headC; rw [if_neg n4, if_neg rx, if_neg ry, if_neg (by simpa using hk), if_pos k3]
          obtain ⟨a, b, hab, hga, hgb⟩ := nth_sub2 hgx (.inl k3)
          obtain ⟨a', b', hab', hga', hgb'⟩ := nth_sub2 hgy (.inl (by omega))
          have ea : nth x.sub 0 = a := by rw [hab]; rfl
          have eb : nth x.sub 1 = b := by rw [hab]; rfl
          have ea' : nth y.sub 0 = a' := by rw [hab']; rfl
          have eb' : nth y.sub 1 = b' := by rw [hab']; rfl
          have w1 := wt_sub l x
          have w2 := wt_sub l y
          rw [hab, wtL, wtL, wtL] at w1
          rw [hab', wtL, wtL, wtL] at w2
          have v1 := (nw_pos l x.k x.n).1
          have v2 := (nw_pos l y.k y.n).1
          rw [e, ea, eb, ea', eb']
          refine Ou.ifT (by simp [k3]) (Ou.pure (a := a) (by rw [hab]; rfl) (Ou.pure (a := a') (by rw [hab']; rfl) ?_))
          refine out_pi (c := fun e L U q => gidx x.sub 1 >>= fun x52 => gidx y.sub 1 >>= fun x54 => e335va22461 q l l (evA l l.length 0) (l.map argsT) (l.map ownT) l L U e x52 x54 >>= fun r56 => some (r56.1, r56.2.1, r56.2.2.1, r56.2.2.2)) (hB false a a' (good_ok a hga) (good_ok a' hga') (by omega) f hf (Int.le_refl f)) fun k k0 k1 => ?_
          exact Ou.pure (a := b) (by rw [hab]; rfl) (Ou.pure (a := b') (by rw [hab']; rfl) (HX.same (hB false b b' (good_ok b hgb) (good_ok b' hgb') (by omega) (f - k) (by omega) (by omega))))
        · refine Ou.ifF (by simpa using k3) ?_
          by_cases k2 : x.k = 2
          · have e : headC l false x y = .ans (if false = true then decide (x.n ≤ y.n) else x.n == y.n) := by
              unfold headC; rw [if_neg n4, if_neg rx, if_neg ry, if_neg (by simpa using hk), if_neg k3, if_pos k2]
            rw [e]
            refine Ou.ifT (by simp [k2]) (Ou.evt (a := if false = true then decide (x.n ≤ y.n) else x.n == y.n) (Evt.mk fun q => ?_) (ans_ret hf))
            simp [e349]
          · have e : headC l false x y = spnC x y := by
              unfold headC; rw [if_neg n4, if_neg rx, if_neg ry, if_neg (by simpa using hk), if_neg k3, if_neg k2]
            rw [e]
            exact Ou.ifF (by simpa using k2) (HX.same (out_spines l false x y hsx hsy f hf hB))
      · have e : headC l false x y = .ans false := by
          unfold headC; rw [if_neg n4, if_neg rx, if_neg ry, if_pos hk]
        rw [e]
        exact Ou.ifT (by simpa using hk) (ans_ret hf)
theorem out_headsT {N : ByteArray → Bool} (l : List Ent) (hE : AllE N l) (x y : Tm) (hsx : shapedT x = true) (hsy : shapedT y = true) (f : Int) (hf : 0 ≤ f) (hB : BC l f (wtT l x + wtT l y)) : HX (fun L U q => runH l true L U 0 q x y) (HdR (Cv l) true (headC l true x y)) f := by
  have hgx := (shapedT_spec hsx).2.2
  have hgy := (shapedT_spec hsy).2.2
  refine Ou.succ ?_
  simp only [runH, e337va44352]
  have lamC : x.k = 4 ∨ y.k = 4 → HX (fun L U q => e351 q (Mach.mk l l (evA l l.length 0) (l.map argsT) (l.map ownT)) l L U 0 x >>= fun r2 => e351 q (Mach.mk l l (evA l l.length 0) (l.map argsT) (l.map ownT)) l L U r2.2 y >>= fun r4 => e335va22461 q l l (evA l l.length 0) (l.map argsT) (l.map ownT) l L U r4.2 r2.1 r4.1 >>= fun r6 => some (r6.1, r6.2.1, r6.2.2.1, r6.2.2.2)) (HdR (Cv l) true (headC l true x y)) f := fun h => by
    have e : headC l true x y = .all [(opnT x, opnT y)] := if_pos h
    rw [e]
    refine HX.imp (g := fun L U q => runC l false L U (if (opnT x).2 = 0 then (opnT y).2 else (opnT x).2) q (opnT x).1 (opnT y).1 >>= fun r6 => some (r6.1, r6.2.1, r6.2.2.1, r6.2.2.2)) ?_ fun L U r h => ?_
    · refine HX.same (out_one (p := opnT x) (q := opnT y) hf ⟨opnT_e8 x, opnT_e8 y⟩ fun hp hq => hB false _ _ (opnT_ok hsx) (opnT_ok hsy) ?_ f hf (Int.le_refl f))
      exact opn_wt l hgx hgy hp hq h
    · have a1 := ev_opened (machT l) l x hsx L U 0
      have a2 := ev_opened (machT l) l y hsy L U (opnT x).2
      rw [if_pos rfl] at a1
      exact a1.bind (a2.bind h)
  refine Ou.ite (fun h => lamC (.inl (by simpa using h))) fun h4 => Ou.ite (fun h => lamC (.inr (by simpa using h))) fun h4' => ?_
  have n4 : ¬ (x.k = 4 ∨ y.k = 4) := by
    have a : x.k ≠ 4 := by simpa using h4
    have b : y.k ≠ 4 := by simpa using h4'
    omega
  have flds : ∀ (c : Int) (pars : List Tm), (isRec l x ∧ (hdT x).n = c ∧ pars = prsT l x ∧ (isRec l y → (hdT y).n = c)) ∨ (¬ isRec l x ∧ isRec l y ∧ (hdT y).n = c ∧ pars = prsT l y) → ∀ cs : List Tm, gsl cs 0 (ent l c).pars = some pars →
      HX (fun L U q => gidx l c >>= fun x22 => gsl cs 0 x22.pars >>= fun x24 => e353va27343 q l l (evA l l.length 0) (l.map argsT) (l.map ownT) l L U 0 x y c x24 >>= fun r26 => some (r26.1, r26.2.1, r26.2.2.1, r26.2.2.2)) (AllC (Cv l false) (fldP l x y c pars (fldsT l c).length 0)) f := fun c pars h cs hcs => by
    have hc : ∃ t, (t = x ∨ t = y) ∧ shapedT t = true ∧ isRec l t ∧ (hdT t).n = c ∧ pars = prsT l t := by
      rcases h with h | h
      · exact ⟨x, .inl rfl, hsx, h.1, h.2.1, h.2.2.1⟩
      · exact ⟨y, .inr rfl, hsy, h.2.1, h.2.2.1, h.2.2.2⟩
    obtain ⟨t, -, hst, hrt, hnt, hpt⟩ := hc
    have hcs' := isCon_spec hst hrt.1
    rw [hnt] at hcs'
    have hf0 := hrt.2
    rw [hnt] at hf0
    have rf := rec_facts hE hcs'.1 hcs'.2.1 hcs'.2.2.1 hf0
    have hop : OkA pars := by rw [hpt]; exact OkA.take (fun a ha => shaped_ok (ar_shaped hst ha)) _
    have hpl : (pars.length : Int) = (ent l c).pars := by
      rw [hpt]; unfold prsT
      rw [hnt, List.length_take]
      omega
    refine Ou.pure (gidx_ent hcs'.1 hcs'.2.1) (Ou.pure hcs (HX.same (Ou.succ ?_)))
    simp only [e353va27343]
    refine Ou.pure (gidx_ent hcs'.1 hcs'.2.1) (Ou.pure (gidx_ent rf.2.2.1 rf.2.2.2.1) ?_)
    exact out_fldL l hE x y c pars _ hsx hsy hcs'.1 hcs'.2.1 hcs'.2.2.1 hpl hop (fun i hi => fld_wt hE hsx hsy hcs'.1 hcs'.2.1 hcs'.2.2.1 hi h) (fldsT l c).length 0 f (by omega) hf hB
  have par_sl : ∀ t, shapedT t = true → isRec l t → gsl (arT t) 0 (ent l (hdT t).n).pars = some (prsT l t) := fun t hst hrt => by
    have hcs' := isCon_spec hst hrt.1
    have rf := rec_facts hE hcs'.1 hcs'.2.1 hcs'.2.2.1 hrt.2
    rw [gsl_mid (by omega) rf.2.1 (by omega)]
    unfold prsT; simp
  refine Ou.evt (ev_record l hE x hsx 0 0 0) ?_
  by_cases rx : isRec l x
  · have ex : recX l x = ((hdT x).n, arT x, true) := if_pos rx
    rw [ex]
    refine Ou.ifT rfl (Ou.evt (ev_record l hE y hsy 0 0 0) ?_)
    by_cases ry : isRec l y
    · have ey : recX l y = ((hdT y).n, arT y, true) := if_pos ry
      rw [ey]
      refine Ou.ifT rfl ?_
      by_cases hn : (hdT x).n = (hdT y).n
      · have e : headC l true x y = .all (fldP l x y (hdT x).n (prsT l x) (fldsT l (hdT x).n).length 0) := by
          unfold headC; rw [if_neg n4, if_pos rx, if_neg (fun h => h.2 hn)]
        rw [e]
        exact Ou.ifF (by simp [hn]) (flds _ _ (.inl ⟨rx, rfl, rfl, fun _ => hn.symm⟩) (arT x) (par_sl x hsx rx))
      · have e : headC l true x y = .ans false := by
          unfold headC; rw [if_neg n4, if_pos rx, if_pos ⟨ry, hn⟩]
        rw [e]
        exact Ou.ifT (by simpa using hn) (ans_ret hf)
    · have ey : recX l y = (0, [], false) := if_neg ry
      have e : headC l true x y = .all (fldP l x y (hdT x).n (prsT l x) (fldsT l (hdT x).n).length 0) := by
        unfold headC; rw [if_neg n4, if_pos rx, if_neg (fun h => ry h.1)]
      rw [ey, e]
      exact Ou.ifF rfl (flds _ _ (.inl ⟨rx, rfl, rfl, fun h => absurd h ry⟩) (arT x) (par_sl x hsx rx))
  · have ex : recX l x = (0, [], false) := if_neg rx
    rw [ex]
    refine Ou.ifF rfl (Ou.evt (ev_record l hE y hsy 0 0 0) ?_)
    by_cases ry : isRec l y
    · have ey : recX l y = ((hdT y).n, arT y, true) := if_pos ry
      have e : headC l true x y = .all (fldP l x y (hdT y).n (prsT l y) (fldsT l (hdT y).n).length 0) := by
        unfold headC; rw [if_neg n4, if_neg rx, if_pos ry]
      rw [ey, e]
      exact Ou.ifT rfl (flds _ _ (.inr ⟨rx, ry, rfl, rfl⟩) (arT y) (par_sl y hsy ry))
    · have ey : recX l y = (0, [], false) := if_neg ry
      rw [ey]
      refine Ou.ifF rfl ?_
      by_cases hk : x.k = y.k
      · refine Ou.ifF (by simp [hk]) ?_
        by_cases k3 : x.k = 3
        · have e : headC l true x y = .pi (nth x.sub 0) (nth y.sub 0) (nth x.sub 1) (nth y.sub 1) := by
            unfold headC; rw [if_neg n4, if_neg rx, if_neg ry, if_neg (by simpa using hk), if_pos k3]
          obtain ⟨a, b, hab, hga, hgb⟩ := nth_sub2 hgx (.inl k3)
          obtain ⟨a', b', hab', hga', hgb'⟩ := nth_sub2 hgy (.inl (by omega))
          have ea : nth x.sub 0 = a := by rw [hab]; rfl
          have eb : nth x.sub 1 = b := by rw [hab]; rfl
          have ea' : nth y.sub 0 = a' := by rw [hab']; rfl
          have eb' : nth y.sub 1 = b' := by rw [hab']; rfl
          have w1 := wt_sub l x
          have w2 := wt_sub l y
          rw [hab, wtL, wtL, wtL] at w1
          rw [hab', wtL, wtL, wtL] at w2
          have v1 := (nw_pos l x.k x.n).1
          have v2 := (nw_pos l y.k y.n).1
          rw [e, ea, eb, ea', eb']
          refine Ou.ifT (by simp [k3]) (Ou.pure (a := a) (by rw [hab]; rfl) (Ou.pure (a := a') (by rw [hab']; rfl) ?_))
          refine out_pi (c := fun e L U q => gidx x.sub 1 >>= fun x52 => gidx y.sub 1 >>= fun x54 => e311va22461 q l l (evA l l.length 0) (l.map argsT) (l.map ownT) l L U e x52 x54 >>= fun r56 => some (r56.1, r56.2.1, r56.2.2.1, r56.2.2.2)) (hB false a a' (good_ok a hga) (good_ok a' hga') (by omega) f hf (Int.le_refl f)) fun k k0 k1 => ?_
          exact Ou.pure (a := b) (by rw [hab]; rfl) (Ou.pure (a := b') (by rw [hab']; rfl) (HX.same (hB true b b' (good_ok b hgb) (good_ok b' hgb') (by omega) (f - k) (by omega) (by omega))))
        · refine Ou.ifF (by simpa using k3) ?_
          by_cases k2 : x.k = 2
          · have e : headC l true x y = .ans (if true = true then decide (x.n ≤ y.n) else x.n == y.n) := by
              unfold headC; rw [if_neg n4, if_neg rx, if_neg ry, if_neg (by simpa using hk), if_neg k3, if_pos k2]
            rw [e]
            refine Ou.ifT (by simp [k2]) (Ou.evt (a := if true = true then decide (x.n ≤ y.n) else x.n == y.n) (Evt.mk fun q => ?_) (ans_ret hf))
            simp [e338]
          · have e : headC l true x y = spnC x y := by
              unfold headC; rw [if_neg n4, if_neg rx, if_neg ry, if_neg (by simpa using hk), if_neg k3, if_neg k2]
            rw [e]
            exact Ou.ifF (by simpa using k2) (HX.same (out_spines l true x y hsx hsy f hf hB))
      · have e : headC l true x y = .ans false := by
          unfold headC; rw [if_neg n4, if_neg rx, if_neg ry, if_pos hk]
        rw [e]
        exact Ou.ifT (by simpa using hk) (ans_ret hf)
theorem out_heads {N : ByteArray → Bool} (l : List Ent) (hE : AllE N l) (m : Bool) (x y : Tm) (hsx : shapedT x = true) (hsy : shapedT y = true) (f : Int) (hf : 0 ≤ f) (hB : BC l f (wtT l x + wtT l y)) : HX (fun L U q => runH l m L U 0 q x y) (HdR (Cv l) m (headC l m x y)) f := by
  cases m with
  | false => exact out_headsF l hE x y hsx hsy f hf hB
  | true => exact out_headsT l hE x y hsx hsy f hf hB
def e109 (qq:Nat) (M:Mach):Option (Int) :=
 some (List.length M.l:Int)
abbrev K109 (M:Mach) (r:Int) (C:Cf):Prop:=C 109 [mB M 1,mR M] [.mp 0 0] (ai r) [mB M 1,mR M] 0
theorem q109:Qf 109 Tryz.f109:=⟨Tryz.func109,by kernel_rfl⟩
theorem k109 {M r} (h:K109 M r Ci):K109 M r Ct:=⟨h,⟨(lz rfl),tv⟩,(forall_cons ⟨⟨tv,dE _⟩,(lz rfl),⟨tv,dI _⟩,⟨tv,dI _⟩,tv⟩ (forall_cons ⟨⟨tv,dE _⟩,⟨tv,dC _⟩,tv⟩ forall_nil)),tv,(forall_cons ⟨dE _,(lz rfl),dI _,dI _,tv⟩ (forall_cons ⟨dE _,dC _,tv⟩ forall_nil))⟩
theorem c109 {qq M r} (h:e109 qq M = some r):K109 M r Ct:=by
 unfold e109 at h
 obtain rfl:=sj h
 exact k109 (tF q109 3 [0,1] (oD (dC M.parts) <| oD (dE M.rl) <| oD (dI M.own) <| oD (dI M.args) <| oD (dE M.l) o0))
def e183 (qq:Nat) (M:Mach):Option (List Ent) :=
 e72 qq M.l >>= fun r1 =>
 some r1
abbrev K183 (M:Mach) (r:List Ent) (C:Cf):Prop:=C 183 [mB M 1,mR M] [.mp 0 0] (.sl (flat entL r) (List.length r) .no) [mB M 1,mR M] 0
theorem q183:Qf 183 Tryz.f183:=⟨Tryz.func183,by kernel_rfl⟩
theorem k183 {M r} (h:K183 M r Ci):K183 M r Ct:=⟨h,⟨(lz rfl),tv⟩,(forall_cons ⟨⟨tv,dE _⟩,(lz rfl),⟨tv,dI _⟩,⟨tv,dI _⟩,tv⟩ (forall_cons ⟨⟨tv,dE _⟩,⟨tv,dC _⟩,tv⟩ forall_nil)),dE _,(forall_cons ⟨dE _,(lz rfl),dI _,dI _,tv⟩ (forall_cons ⟨dE _,dC _,tv⟩ forall_nil))⟩
theorem c183 {qq M r} (h:e183 qq M = some r):K183 M r Ct:=by
 unfold e183 at h
 obtain ⟨r1,h2,h⟩:=obind h
 obtain rfl:=sj h
 exact k183 (tF q183 0 [0,1] (oD (dE r1) <| oD (dC M.parts) <| oD (dE M.rl) <| oD (dI M.own) <| oD (dI M.args) <| oD (dE M.l) <| oC 2 [] (c72 h2) o0))
def e310va30903 (qq:Nat) (q0 q1:List Ent) (q2:List Con') (q3 q4:List Int) (q5:List Ent) (q6 q7 q8 q9 q10:Int) (q11:List Tm) (q12 q13:Int) (q14:List Tm):Option (Bool × Int × Int × Int) :=
 e311va22461 qq q0 q1 q2 q3 q4 q5 q6 q7 q8 (Tm.mk q9 q10 q11) (Tm.mk q12 q13 q14) >>= fun r1 =>
 some (r1.1,r1.2.1,r1.2.2.1,r1.2.2.2)
abbrev K310va30903 (q0 q1:List Ent) (q2:List Con') (q3 q4:List Int) (q5:List Ent) (q6 q7 q8 q9 q10:Int) (q11:List Tm) (q12 q13:Int) (q14:List Tm) (r:Bool × Int × Int × Int) (C:Cf):Prop:=C 310 [.cells [.mp 1 0,slv entL q5 .no,.mp 3 0,ai q8],.cells [slv entL q0 .no,.mp 2 0,slv intC q3 .no,slv intC q4 .no],.cells [slv entL q1 .no,slv conL q2 .no],.cells [ai q6,ai q7],.cells [ai q9,ai q10,slv tmCells q11 .no],.cells [ai q12,ai q13,slv tmCells q14 .no]] [.mp 0 0,.mp 4 0,.mp 5 0] (ab r.1) [.cells [.mp 1 0,slv entL q5 .no,.mp 3 0,ai r.2.1],.cells [slv entL q0 .no,.mp 2 0,slv intC q3 .no,slv intC q4 .no],.cells [slv entL q1 .no,slv conL q2 .no],.cells [ai r.2.2.1,ai r.2.2.2],.cells [ai q9,ai q10,slv tmCells q11 .no],.cells [ai q12,ai q13,slv tmCells q14 .no]] 0
theorem q310va30903:Qf 310 Tryz.f310:=⟨Tryz.func310,by kernel_rfl⟩
theorem k310va30903 {q0 q1 q2 q3 q4 q5 q6 q7 q8 q9 q10 q11 q12 q13 q14 r} (h:K310va30903 q0 q1 q2 q3 q4 q5 q6 q7 q8 q9 q10 q11 q12 q13 q14 r Ci):K310va30903 q0 q1 q2 q3 q4 q5 q6 q7 q8 q9 q10 q11 q12 q13 q14 r Ct:=⟨h,⟨(lz rfl),(lz rfl),(lz rfl),tv⟩,(forall_cons ⟨(lz rfl),⟨tv,dE _⟩,(lz rfl),tv,tv⟩ (forall_cons ⟨⟨tv,dE _⟩,(lz rfl),⟨tv,dI _⟩,⟨tv,dI _⟩,tv⟩ (forall_cons ⟨⟨tv,dE _⟩,⟨tv,dC _⟩,tv⟩ (forall_cons ⟨tv,tv,tv⟩ (forall_cons ⟨tv,tv,⟨tv,dT _⟩,tv⟩ (forall_cons ⟨tv,tv,⟨tv,dT _⟩,tv⟩ forall_nil)))))),tv,(forall_cons ⟨(lz rfl),dE _,(lz rfl),tv,tv⟩ (forall_cons ⟨dE _,(lz rfl),dI _,dI _,tv⟩ (forall_cons ⟨dE _,dC _,tv⟩ (forall_cons ⟨tv,tv,tv⟩ (forall_cons ⟨tv,tv,dT _,tv⟩ (forall_cons ⟨tv,tv,dT _,tv⟩ forall_nil))))))⟩
theorem c310va30903 {qq q0 q1 q2 q3 q4 q5 q6 q7 q8 q9 q10 q11 q12 q13 q14 r} (h:e310va30903 qq q0 q1 q2 q3 q4 q5 q6 q7 q8 q9 q10 q11 q12 q13 q14 = some r):K310va30903 q0 q1 q2 q3 q4 q5 q6 q7 q8 q9 q10 q11 q12 q13 q14 r Ct:=by
 unfold e310va30903 at h
 obtain ⟨r1,h2,h⟩:=obind h
 obtain rfl:=sj h
 exact k310va30903 (tF q310va30903 0 [0,1,2,3,4,5] (oD (dT q14) <| oD (dT q11) <| oD (dC q2) <| oD (dE q1) <| oD (dI q4) <| oD (dI q3) <| oD (dE q0) <| oD (dE q5) <| oC 2 [0,1,2,3] (c311va22461 h2) o0))
def e309va11048 (qq:Nat) (q0 q1:List Ent) (q2:List Con') (q3 q4:List Int) (p1 p2:Tm) (q7 q8 q9 q10:Int) (q11:List Tm) (q12 q13:Int) (q14:List Tm):Option (Bool × Int × Int × Int) :=
 e109 qq (Mach.mk q0 q1 q2 q3 q4) >>= fun r1 =>
 e108 qq p1 1048577 r1 >>= fun r3 =>
 if r3 then
 e109 qq (Mach.mk q0 q1 q2 q3 q4) >>= fun r6 =>
 e108 qq p2 1048577 r6 >>= fun r8 =>
 if r8 then
 e183 qq (Mach.mk q0 q1 q2 q3 q4) >>= fun r11 =>
 e310va30903 qq q0 q1 q2 q3 q4 r11 q7 q8 0 q9 q10 q11 q12 q13 q14 >>= fun r13 =>
 if r13.1 then
 some ((r13.2.1 == 0),r13.2.1,r13.2.2.1,r13.2.2.2)
 else
 some (false,r13.2.1,r13.2.2.1,r13.2.2.2)
 else
 some (false,5,q7,q8)
 else
 some (false,5,q7,q8)
abbrev K309va11048 (q0 q1:List Ent) (q2:List Con') (q3 q4:List Int) (p1 p2:Tm) (q7 q8 q9 q10:Int) (q11:List Tm) (q12 q13:Int) (q14:List Tm) (r:Bool × Int × Int × Int) (C:Cf):Prop:=C 309 [.cells [slv entL q0 .no,.mp 1 0,slv intC q3 .no,slv intC q4 .no],.cells [slv entL q1 .no,slv conL q2 .no],.cells [ai q7,ai q8],.cells [ai q9,ai q10,slv tmCells q11 .no],.cells [ai q12,ai q13,slv tmCells q14 .no]] [.mp 0 0,tmA p1,tmA p2,.mp 2 0,.clo 310 [] [.mp 3 0,.mp 4 0]] (.tup [ab r.1,ai r.2.1]) [.cells [slv entL q0 .no,.mp 1 0,slv intC q3 .no,slv intC q4 .no],.cells [slv entL q1 .no,slv conL q2 .no],.cells [ai r.2.2.1,ai r.2.2.2],.cells [ai q9,ai q10,slv tmCells q11 .no],.cells [ai q12,ai q13,slv tmCells q14 .no]] 0
theorem q309va11048:Qf 309 Tryz.f309:=⟨Tryz.func309,by kernel_rfl⟩
theorem k309va11048 {q0 q1 q2 q3 q4 p1 p2 q7 q8 q9 q10 q11 q12 q13 q14 r} (h:K309va11048 q0 q1 q2 q3 q4 p1 p2 q7 q8 q9 q10 q11 q12 q13 q14 r Ci):K309va11048 q0 q1 q2 q3 q4 p1 p2 q7 q8 q9 q10 q11 q12 q13 q14 r Ct:=⟨h,⟨(lz rfl),⟨tv,tv,⟨tv,dT _⟩,tv⟩,⟨tv,tv,⟨tv,dT _⟩,tv⟩,(lz rfl),⟨tv,⟨(lz rfl),(lz rfl),tv⟩⟩,tv⟩,(forall_cons ⟨⟨tv,dE _⟩,(lz rfl),⟨tv,dI _⟩,⟨tv,dI _⟩,tv⟩ (forall_cons ⟨⟨tv,dE _⟩,⟨tv,dC _⟩,tv⟩ (forall_cons ⟨tv,tv,tv⟩ (forall_cons ⟨tv,tv,⟨tv,dT _⟩,tv⟩ (forall_cons ⟨tv,tv,⟨tv,dT _⟩,tv⟩ forall_nil))))),⟨tv,tv,tv⟩,(forall_cons ⟨dE _,(lz rfl),dI _,dI _,tv⟩ (forall_cons ⟨dE _,dC _,tv⟩ (forall_cons ⟨tv,tv,tv⟩ (forall_cons ⟨tv,tv,dT _,tv⟩ (forall_cons ⟨tv,tv,dT _,tv⟩ forall_nil)))))⟩
theorem c309va11048 {qq q0 q1 q2 q3 q4 p1 p2 q7 q8 q9 q10 q11 q12 q13 q14 r} (h:e309va11048 qq q0 q1 q2 q3 q4 p1 p2 q7 q8 q9 q10 q11 q12 q13 q14 = some r):K309va11048 q0 q1 q2 q3 q4 p1 p2 q7 q8 q9 q10 q11 q12 q13 q14 r Ct:=by
 unfold e309va11048 at h
 obtain ⟨r1,h2,h⟩:=obind h
 obtain ⟨r3,h4,h⟩:=obind h
 have k:=oC 2 [0,1] (c109 h2) o0
 rcases spl h with ⟨h5,h⟩ | ⟨h5,h⟩
 obtain ⟨r6,h7,h⟩:=obind h
 obtain ⟨r8,h9,h⟩:=obind h
 have k:=oC 2 [0,1] (c109 h7) <| oK 0 [] h5 (c108 h4) k
 rcases spl h with ⟨h10,h⟩ | ⟨h10,h⟩
 obtain ⟨r11,h12,h⟩:=obind h
 obtain ⟨r13,h14,h⟩:=obind h
 have k:=oC 1 [0,1] (c183 h12) <| oK 0 [] h10 (c108 h9) k
 rcases spl h with ⟨h15,h⟩ | ⟨h15,h⟩
 obtain rfl:=sj h
 exact k309va11048 (tF q309va11048 3 [0,1,2,3,4] (oD (dT q14) <| oD (dT q11) <| oD (dC q2) <| oD (dE q1) <| oD (dI q4) <| oD (dI q3) <| oD (dE q0) <| oK 0 [7,0,1,2,3,4] h15 (c310va30903 h14) k))
 obtain rfl:=sj h
 exact k309va11048 (tF q309va11048 1 [0,1,2,3,4] (oD (dT q14) <| oD (dT q11) <| oD (dC q2) <| oD (dE q1) <| oD (dI q4) <| oD (dI q3) <| oD (dE q0) <| oK 0 [7,0,1,2,3,4] h15 (c310va30903 h14) k))
 obtain rfl:=sj h
 exact k309va11048 (tF q309va11048 1 [0,1,2,3,4] (oD (dT q14) <| oD (dT q11) <| oD (dC q2) <| oD (dE q1) <| oD (dI q4) <| oD (dI q3) <| oD (dE q0) <| oK 0 [] h10 (c108 h9) k))
 obtain rfl:=sj h
 exact k309va11048 (tF q309va11048 1 [0,1,2,3,4] (oD (dT q14) <| oD (dT q11) <| oD (dC q2) <| oD (dE q1) <| oD (dI q4) <| oD (dI q3) <| oD (dE q0) <| oK 0 [] h5 (c108 h4) k))
def e283 (qq:Nat) (M:Mach) (p1 p2:Tm) (fl fu:Int):Option (Bool × Int × Int × Int) :=
 e309va11048 qq M.l M.rl M.parts M.args M.own p1 p2 fl fu p1.k p1.n p1.sub p2.k p2.n p2.sub >>= fun r1 =>
 some (r1.1,r1.2.1,r1.2.2.1,r1.2.2.2)
abbrev K283 (M:Mach) (p1 p2:Tm) (fl fu:Int) (r:Bool × Int × Int × Int) (C:Cf):Prop:=C 283 [mB M 1,mR M,.cells [ai fl,ai fu]] [.mp 0 0,tmA p1,tmA p2,.mp 2 0] (.tup [ab r.1,ai r.2.1]) [mB M 1,mR M,.cells [ai r.2.2.1,ai r.2.2.2]] 0
theorem q283:Qf 283 Tryz.f283:=⟨Tryz.func283,by kernel_rfl⟩
theorem k283 {M p1 p2 fl fu r} (h:K283 M p1 p2 fl fu r Ci):K283 M p1 p2 fl fu r Ct:=⟨h,⟨(lz rfl),⟨tv,tv,⟨tv,dT _⟩,tv⟩,⟨tv,tv,⟨tv,dT _⟩,tv⟩,(lz rfl),tv⟩,(forall_cons ⟨⟨tv,dE _⟩,(lz rfl),⟨tv,dI _⟩,⟨tv,dI _⟩,tv⟩ (forall_cons ⟨⟨tv,dE _⟩,⟨tv,dC _⟩,tv⟩ (forall_cons ⟨tv,tv,tv⟩ forall_nil))),⟨tv,tv,tv⟩,(forall_cons ⟨dE _,(lz rfl),dI _,dI _,tv⟩ (forall_cons ⟨dE _,dC _,tv⟩ (forall_cons ⟨tv,tv,tv⟩ forall_nil)))⟩
theorem c283 {qq M p1 p2 fl fu r} (h:e283 qq M p1 p2 fl fu = some r):K283 M p1 p2 fl fu r Ct:=by
 unfold e283 at h
 obtain ⟨r1,h2,h⟩:=obind h
 obtain rfl:=sj h
 exact k283 (tF q283 2 [0,1,2] (oD (dC M.parts) <| oD (dE M.rl) <| oD (dI M.own) <| oD (dI M.args) <| oD (dE M.l) <| oC 2 [0,1,2,3,4] (c309va11048 h2) o0))
def e334va30903 (qq:Nat) (q0 q1:List Ent) (q2:List Con') (q3 q4:List Int) (q5:List Ent) (q6 q7 q8 q9 q10:Int) (q11:List Tm) (q12 q13:Int) (q14:List Tm):Option (Bool × Int × Int × Int) :=
 e335va22461 qq q0 q1 q2 q3 q4 q5 q6 q7 q8 (Tm.mk q9 q10 q11) (Tm.mk q12 q13 q14) >>= fun r1 =>
 some (r1.1,r1.2.1,r1.2.2.1,r1.2.2.2)
abbrev K334va30903 (q0 q1:List Ent) (q2:List Con') (q3 q4:List Int) (q5:List Ent) (q6 q7 q8 q9 q10:Int) (q11:List Tm) (q12 q13:Int) (q14:List Tm) (r:Bool × Int × Int × Int) (C:Cf):Prop:=C 334 [.cells [.mp 1 0,slv entL q5 .no,.mp 3 0,ai q8],.cells [slv entL q0 .no,.mp 2 0,slv intC q3 .no,slv intC q4 .no],.cells [slv entL q1 .no,slv conL q2 .no],.cells [ai q6,ai q7],.cells [ai q9,ai q10,slv tmCells q11 .no],.cells [ai q12,ai q13,slv tmCells q14 .no]] [.mp 0 0,.mp 4 0,.mp 5 0] (ab r.1) [.cells [.mp 1 0,slv entL q5 .no,.mp 3 0,ai r.2.1],.cells [slv entL q0 .no,.mp 2 0,slv intC q3 .no,slv intC q4 .no],.cells [slv entL q1 .no,slv conL q2 .no],.cells [ai r.2.2.1,ai r.2.2.2],.cells [ai q9,ai q10,slv tmCells q11 .no],.cells [ai q12,ai q13,slv tmCells q14 .no]] 0
theorem q334va30903:Qf 334 Tryz.f334:=⟨Tryz.func334,by kernel_rfl⟩
theorem k334va30903 {q0 q1 q2 q3 q4 q5 q6 q7 q8 q9 q10 q11 q12 q13 q14 r} (h:K334va30903 q0 q1 q2 q3 q4 q5 q6 q7 q8 q9 q10 q11 q12 q13 q14 r Ci):K334va30903 q0 q1 q2 q3 q4 q5 q6 q7 q8 q9 q10 q11 q12 q13 q14 r Ct:=⟨h,⟨(lz rfl),(lz rfl),(lz rfl),tv⟩,(forall_cons ⟨(lz rfl),⟨tv,dE _⟩,(lz rfl),tv,tv⟩ (forall_cons ⟨⟨tv,dE _⟩,(lz rfl),⟨tv,dI _⟩,⟨tv,dI _⟩,tv⟩ (forall_cons ⟨⟨tv,dE _⟩,⟨tv,dC _⟩,tv⟩ (forall_cons ⟨tv,tv,tv⟩ (forall_cons ⟨tv,tv,⟨tv,dT _⟩,tv⟩ (forall_cons ⟨tv,tv,⟨tv,dT _⟩,tv⟩ forall_nil)))))),tv,(forall_cons ⟨(lz rfl),dE _,(lz rfl),tv,tv⟩ (forall_cons ⟨dE _,(lz rfl),dI _,dI _,tv⟩ (forall_cons ⟨dE _,dC _,tv⟩ (forall_cons ⟨tv,tv,tv⟩ (forall_cons ⟨tv,tv,dT _,tv⟩ (forall_cons ⟨tv,tv,dT _,tv⟩ forall_nil))))))⟩
theorem c334va30903 {qq q0 q1 q2 q3 q4 q5 q6 q7 q8 q9 q10 q11 q12 q13 q14 r} (h:e334va30903 qq q0 q1 q2 q3 q4 q5 q6 q7 q8 q9 q10 q11 q12 q13 q14 = some r):K334va30903 q0 q1 q2 q3 q4 q5 q6 q7 q8 q9 q10 q11 q12 q13 q14 r Ct:=by
 unfold e334va30903 at h
 obtain ⟨r1,h2,h⟩:=obind h
 obtain rfl:=sj h
 exact k334va30903 (tF q334va30903 0 [0,1,2,3,4,5] (oD (dT q14) <| oD (dT q11) <| oD (dC q2) <| oD (dE q1) <| oD (dI q4) <| oD (dI q3) <| oD (dE q0) <| oD (dE q5) <| oC 2 [0,1,2,3] (c335va22461 h2) o0))
def e309va3585 (qq:Nat) (q0 q1:List Ent) (q2:List Con') (q3 q4:List Int) (p1 p2:Tm) (q7 q8 q9 q10:Int) (q11:List Tm) (q12 q13:Int) (q14:List Tm):Option (Bool × Int × Int × Int) :=
 e109 qq (Mach.mk q0 q1 q2 q3 q4) >>= fun r1 =>
 e108 qq p1 1048577 r1 >>= fun r3 =>
 if r3 then
 e109 qq (Mach.mk q0 q1 q2 q3 q4) >>= fun r6 =>
 e108 qq p2 1048577 r6 >>= fun r8 =>
 if r8 then
 e183 qq (Mach.mk q0 q1 q2 q3 q4) >>= fun r11 =>
 e334va30903 qq q0 q1 q2 q3 q4 r11 q7 q8 0 q9 q10 q11 q12 q13 q14 >>= fun r13 =>
 if r13.1 then
 some ((r13.2.1 == 0),r13.2.1,r13.2.2.1,r13.2.2.2)
 else
 some (false,r13.2.1,r13.2.2.1,r13.2.2.2)
 else
 some (false,5,q7,q8)
 else
 some (false,5,q7,q8)
abbrev K309va3585 (q0 q1:List Ent) (q2:List Con') (q3 q4:List Int) (p1 p2:Tm) (q7 q8 q9 q10:Int) (q11:List Tm) (q12 q13:Int) (q14:List Tm) (r:Bool × Int × Int × Int) (C:Cf):Prop:=C 309 [.cells [slv entL q0 .no,.mp 1 0,slv intC q3 .no,slv intC q4 .no],.cells [slv entL q1 .no,slv conL q2 .no],.cells [ai q7,ai q8],.cells [ai q9,ai q10,slv tmCells q11 .no],.cells [ai q12,ai q13,slv tmCells q14 .no]] [.mp 0 0,tmA p1,tmA p2,.mp 2 0,.clo 334 [] [.mp 3 0,.mp 4 0]] (.tup [ab r.1,ai r.2.1]) [.cells [slv entL q0 .no,.mp 1 0,slv intC q3 .no,slv intC q4 .no],.cells [slv entL q1 .no,slv conL q2 .no],.cells [ai r.2.2.1,ai r.2.2.2],.cells [ai q9,ai q10,slv tmCells q11 .no],.cells [ai q12,ai q13,slv tmCells q14 .no]] 0
theorem q309va3585:Qf 309 Tryz.f309:=⟨Tryz.func309,by kernel_rfl⟩
theorem k309va3585 {q0 q1 q2 q3 q4 p1 p2 q7 q8 q9 q10 q11 q12 q13 q14 r} (h:K309va3585 q0 q1 q2 q3 q4 p1 p2 q7 q8 q9 q10 q11 q12 q13 q14 r Ci):K309va3585 q0 q1 q2 q3 q4 p1 p2 q7 q8 q9 q10 q11 q12 q13 q14 r Ct:=⟨h,⟨(lz rfl),⟨tv,tv,⟨tv,dT _⟩,tv⟩,⟨tv,tv,⟨tv,dT _⟩,tv⟩,(lz rfl),⟨tv,⟨(lz rfl),(lz rfl),tv⟩⟩,tv⟩,(forall_cons ⟨⟨tv,dE _⟩,(lz rfl),⟨tv,dI _⟩,⟨tv,dI _⟩,tv⟩ (forall_cons ⟨⟨tv,dE _⟩,⟨tv,dC _⟩,tv⟩ (forall_cons ⟨tv,tv,tv⟩ (forall_cons ⟨tv,tv,⟨tv,dT _⟩,tv⟩ (forall_cons ⟨tv,tv,⟨tv,dT _⟩,tv⟩ forall_nil))))),⟨tv,tv,tv⟩,(forall_cons ⟨dE _,(lz rfl),dI _,dI _,tv⟩ (forall_cons ⟨dE _,dC _,tv⟩ (forall_cons ⟨tv,tv,tv⟩ (forall_cons ⟨tv,tv,dT _,tv⟩ (forall_cons ⟨tv,tv,dT _,tv⟩ forall_nil)))))⟩
theorem c309va3585 {qq q0 q1 q2 q3 q4 p1 p2 q7 q8 q9 q10 q11 q12 q13 q14 r} (h:e309va3585 qq q0 q1 q2 q3 q4 p1 p2 q7 q8 q9 q10 q11 q12 q13 q14 = some r):K309va3585 q0 q1 q2 q3 q4 p1 p2 q7 q8 q9 q10 q11 q12 q13 q14 r Ct:=by
 unfold e309va3585 at h
 obtain ⟨r1,h2,h⟩:=obind h
 obtain ⟨r3,h4,h⟩:=obind h
 have k:=oC 2 [0,1] (c109 h2) o0
 rcases spl h with ⟨h5,h⟩ | ⟨h5,h⟩
 obtain ⟨r6,h7,h⟩:=obind h
 obtain ⟨r8,h9,h⟩:=obind h
 have k:=oC 2 [0,1] (c109 h7) <| oK 0 [] h5 (c108 h4) k
 rcases spl h with ⟨h10,h⟩ | ⟨h10,h⟩
 obtain ⟨r11,h12,h⟩:=obind h
 obtain ⟨r13,h14,h⟩:=obind h
 have k:=oC 1 [0,1] (c183 h12) <| oK 0 [] h10 (c108 h9) k
 rcases spl h with ⟨h15,h⟩ | ⟨h15,h⟩
 obtain rfl:=sj h
 exact k309va3585 (tF q309va3585 3 [0,1,2,3,4] (oD (dT q14) <| oD (dT q11) <| oD (dC q2) <| oD (dE q1) <| oD (dI q4) <| oD (dI q3) <| oD (dE q0) <| oK 0 [7,0,1,2,3,4] h15 (c334va30903 h14) k))
 obtain rfl:=sj h
 exact k309va3585 (tF q309va3585 1 [0,1,2,3,4] (oD (dT q14) <| oD (dT q11) <| oD (dC q2) <| oD (dE q1) <| oD (dI q4) <| oD (dI q3) <| oD (dE q0) <| oK 0 [7,0,1,2,3,4] h15 (c334va30903 h14) k))
 obtain rfl:=sj h
 exact k309va3585 (tF q309va3585 1 [0,1,2,3,4] (oD (dT q14) <| oD (dT q11) <| oD (dC q2) <| oD (dE q1) <| oD (dI q4) <| oD (dI q3) <| oD (dE q0) <| oK 0 [] h10 (c108 h9) k))
 obtain rfl:=sj h
 exact k309va3585 (tF q309va3585 1 [0,1,2,3,4] (oD (dT q14) <| oD (dT q11) <| oD (dC q2) <| oD (dE q1) <| oD (dI q4) <| oD (dI q3) <| oD (dE q0) <| oK 0 [] h5 (c108 h4) k))
def e308 (qq:Nat) (M:Mach) (p1 p2:Tm) (fl fu:Int):Option (Bool × Int × Int × Int) :=
 e309va3585 qq M.l M.rl M.parts M.args M.own p1 p2 fl fu p1.k p1.n p1.sub p2.k p2.n p2.sub >>= fun r1 =>
 some (r1.1,r1.2.1,r1.2.2.1,r1.2.2.2)
abbrev K308 (M:Mach) (p1 p2:Tm) (fl fu:Int) (r:Bool × Int × Int × Int) (C:Cf):Prop:=C 308 [mB M 1,mR M,.cells [ai fl,ai fu]] [.mp 0 0,tmA p1,tmA p2,.mp 2 0] (.tup [ab r.1,ai r.2.1]) [mB M 1,mR M,.cells [ai r.2.2.1,ai r.2.2.2]] 0
theorem q308:Qf 308 Tryz.f308:=⟨Tryz.func308,by kernel_rfl⟩
theorem k308 {M p1 p2 fl fu r} (h:K308 M p1 p2 fl fu r Ci):K308 M p1 p2 fl fu r Ct:=⟨h,⟨(lz rfl),⟨tv,tv,⟨tv,dT _⟩,tv⟩,⟨tv,tv,⟨tv,dT _⟩,tv⟩,(lz rfl),tv⟩,(forall_cons ⟨⟨tv,dE _⟩,(lz rfl),⟨tv,dI _⟩,⟨tv,dI _⟩,tv⟩ (forall_cons ⟨⟨tv,dE _⟩,⟨tv,dC _⟩,tv⟩ (forall_cons ⟨tv,tv,tv⟩ forall_nil))),⟨tv,tv,tv⟩,(forall_cons ⟨dE _,(lz rfl),dI _,dI _,tv⟩ (forall_cons ⟨dE _,dC _,tv⟩ (forall_cons ⟨tv,tv,tv⟩ forall_nil)))⟩
theorem c308 {qq M p1 p2 fl fu r} (h:e308 qq M p1 p2 fl fu = some r):K308 M p1 p2 fl fu r Ct:=by
 unfold e308 at h
 obtain ⟨r1,h2,h⟩:=obind h
 obtain rfl:=sj h
 exact k308 (tF q308 2 [0,1,2] (oD (dC M.parts) <| oD (dE M.rl) <| oD (dI M.own) <| oD (dI M.args) <| oD (dE M.l) <| oC 2 [0,1,2,3,4] (c309va3585 h2) o0))
theorem out_conv {N : ByteArray → Bool} (l : List Ent) (hE : AllE N l) (he : ∀ e ∈ l, EOk e) : ∀ (F n : Nat) (m : Bool) (x y : Tm), x.Ok → y.Ok → wtT l x + wtT l y ≤ n → HC l m x y (F : Int) := by
  intro F
  induction F using Nat.strongRecOn with
  | ind F IH =>
    intro n
    induction n with
    | zero => intro m x y _ _ h; have := wt_pos l x; omega
    | succ n ih =>
      intro m x y hx hy hn
      have fin : ∀ (m : Bool) (k : Int) (x' y' : Tm) (j1 j2 : Int), RightM l x → RightM l y → Br l x x' 0 j1 → Br l y y' 0 j2 → k = j1 + j2 → k ≤ F → Ou (fun L U q => runH l m L U 0 q x' y' >>= fun r4 => some (r4.1, r4.2.1, r4.2.2.1, r4.2.2.2)) er4b (fun R n => QX (Cv l m x y) R (k + n)) (∀ b k, Cv l m x y b k → (F : Int) < k) ((F : Int) - k) := fun m k x' y' j1 j2 hR1 hR2 hb1 hb2 hk k1 => by
        have n1 := hb1.nn
        have n2 := hb2.nn
        have hB : BC l ((F : Int) - k) (wtT l x' + wtT l y') := fun m p q hp hq hw g g0 g1 => by
          by_cases hk0 : k ≤ 0
          · have e1 := hb1.zero rfl (by omega)
            have e2 := hb2.zero rfl (by omega)
            subst e1; subst e2
            by_cases hg : g = F
            · subst hg
              exact ih m p q hp hq (by omega)
            · have := IH g.toNat (by omega) (wtT l p + wtT l q) m p q hp hq (Nat.le_refl _)
              rwa [show ((g.toNat : Nat) : Int) = g by omega] at this
          · have := IH g.toNat (by omega) (wtT l p + wtT l q) m p q hp hq (Nat.le_refl _)
            rwa [show ((g.toNat : Nat) : Int) = g by omega] at this
        have h := HX.same (out_heads l hE m x' y' (hb1.shaped hR1.shaped rfl) (hb2.shaped hR2.shaped rfl) ((F : Int) - k) (by omega) hB)
        refine Ou.mono h ?_ fun hs b k' hc => ?_
        · rintro R n _ _ ⟨b, e, h8, h0, hn', rfl⟩
          refine ⟨b, e, h8, fun he => ?_, fun he => ⟨(hn' he).1, fun b' k' hc => ?_⟩, rfl⟩
          · have := Cv.mk hR1 hR2 hb1 hb2 (h0 he)
            rwa [hk]
          · obtain ⟨-, -, x1, i1, y1, i2, i3, h1, h2, h3, -⟩ := hc.inv
            obtain ⟨rfl, -, -⟩ := hb1.det h1
            obtain ⟨rfl, -, -⟩ := hb2.det h2
            exact (hn' he).2 _ _ h3
        · obtain ⟨-, -, x1, i1, y1, i2, i3, h1, h2, h3, rfl⟩ := hc.inv
          obtain ⟨rfl, -, rfl⟩ := hb1.det h1
          obtain ⟨rfl, -, rfl⟩ := hb2.det h2
          have := hs _ _ h3
          omega
      cases m
      · refine Ou.succ ?_
        simp only [runC, e335va22461]
        refine Ou.bind (out_pair l hE he x y hx hy F (by omega)) (fun h b k hc => h _ _ _ hc) (fun r hr => ?_) ?_
        · have := er6_8 hr
          refine ⟨_, Evt.ifF this.1 Evt.ret, ?_⟩
          unfold er4b
          rw [if_neg (by simp)]; exact this.2
        · rintro R k k0 k1 (⟨x', j1, y', j2, hR1, hR2, hb1, hb2, rfl, rfl⟩ | ⟨a, b, e, e0, e8, hno, rfl⟩)
          · exact Ou.ifT rfl (fin false (j1 + j2) x' y' j1 j2 hR1 hR2 hb1 hb2 rfl k1)
          · exact Ou.ifF rfl (Ou.ret (by omega) (qx_bad e8 e0 fun b k => hno _ b k))
      · refine Ou.succ ?_
        simp only [runC, e311va22461]
        refine Ou.bind (out_pair l hE he x y hx hy F (by omega)) (fun h b k hc => h _ _ _ hc) (fun r hr => ?_) ?_
        · have := er6_8 hr
          refine ⟨_, Evt.ifF this.1 Evt.ret, ?_⟩
          unfold er4b
          rw [if_neg (by simp)]; exact this.2
        · rintro R k k0 k1 (⟨x', j1, y', j2, hR1, hR2, hb1, hb2, rfl, rfl⟩ | ⟨a, b, e, e0, e8, hno, rfl⟩)
          · exact Ou.ifT rfl (fin true (j1 + j2) x' y' j1 j2 hR1 hR2 hb1 hb2 rfl k1)
          · exact Ou.ifF rfl (Ou.ret (by omega) (qx_bad e8 e0 fun b k => hno _ b k))
def runS (l : List Ent) (m : Bool) (L U : Int) (q : Nat) (x y : Tm) : Option (Bool × Int × Int × Int) := match m with
  | false => e308 q (machT l) x y L U
  | true => e283 q (machT l) x y L U
theorem out_ask {N : ByteArray → Bool} (l : List Ent) (hE : AllE N l) (he : ∀ e ∈ l, EOk e) (hl : l.length ≤ 65535) (hc : ∀ e ∈ l, ECl e) (m : Bool) (x y : Tm) (hx : x.Ok) (hy : y.Ok) (f : Int) (hf : 0 ≤ f) : HX (fun L U q => runS l m L U q x y) (Cv l m x y) f := by
  have hC := out_conv l hE he f.toNat (wtT l x + wtT l y) m x y hx hy (Nat.le_refl _)
  rw [show ((f.toNat : Nat) : Int) = f by omega] at hC
  have hLen : Evt (fun q => e109 q (machT l)) (l.length : Int) := Evt.mk fun _ => rfl
  have hEnt : Evt (fun q => e183 q (machT l)) l := by
    simp only [e183]
    exact ((ev_sCopy l hl he hc).eq (copy_same hE)).bind Evt.ret
  have post : HX (fun L U q => (runC l m L U 0 q x y >>= fun r1 => some (r1.1, r1.2.1, r1.2.2.1, r1.2.2.2)) >>= fun r13 => if r13.1 = true then some ((r13.2.1 == 0), r13.2.1, r13.2.2.1, r13.2.2.2) else some (false, r13.2.1, r13.2.2.1, r13.2.2.2)) (Cv l m x y) f := by
    refine Ou.bind (HX.same hC) id (fun r hr => ?_) ?_
    · have := er4b_8 hr
      refine ⟨_, Evt.ifF this.1 Evt.ret, ?_⟩
      unfold er4b
      rw [if_neg (by simp)]; exact this.2
    · rintro R k k0 k1 ⟨b, e, h8, h0, hn, rfl⟩
      dsimp only
      by_cases e0 : e = 0
      · subst e0
        have hX := h0 rfl
        cases b with
        | true => exact Ou.ifT rfl (Ou.ret (by omega) (qx_ok (b := true) (by rwa [Int.add_zero])))
        | false => exact Ou.ifF rfl (Ou.ret (by omega) (qx_ok (by rwa [Int.add_zero])))
      · obtain ⟨rfl, hno⟩ := hn e0
        exact Ou.ifF rfl (Ou.ret (by omega) (qx_bad h8 e0 hno))
  have bad1 : ¬ RightM l x → ∀ b k, ¬ Cv l m x y b k := fun h b k hc => h hc.inv.1
  have bad2 : ¬ RightM l y → ∀ b k, ¬ Cv l m x y b k := fun h b k hc => h hc.inv.2.1
  cases m with
  | false =>
    simp only [runS, e308, e309va3585]
    refine HX.same ?_
    refine Ou.evt hLen (Ou.evt (ev_Right x 1048577 l.length hx) (Ou.ite (fun h1 => ?_) fun h1 => ?_))
    · refine Ou.evt hLen (Ou.evt (ev_Right y 1048577 l.length hy) (Ou.ite (fun h2 => ?_) fun h2 => ?_))
      · refine Ou.evt hEnt ?_
        simp only [e334va30903, tm_eta]
        exact post
      · exact Ou.ret hf (qx_bad (by decide) (by decide) (bad2 (by unfold RightM; rw [h2]; simp)))
    · exact Ou.ret hf (qx_bad (by decide) (by decide) (bad1 (by unfold RightM; rw [h1]; simp)))
  | true =>
    simp only [runS, e283, e309va11048]
    refine HX.same ?_
    refine Ou.evt hLen (Ou.evt (ev_Right x 1048577 l.length hx) (Ou.ite (fun h1 => ?_) fun h1 => ?_))
    · refine Ou.evt hLen (Ou.evt (ev_Right y 1048577 l.length hy) (Ou.ite (fun h2 => ?_) fun h2 => ?_))
      · refine Ou.evt hEnt ?_
        simp only [e310va30903, tm_eta]
        exact post
      · exact Ou.ret hf (qx_bad (by decide) (by decide) (bad2 (by unfold RightM; rw [h2]; simp)))
    · exact Ou.ret hf (qx_bad (by decide) (by decide) (bad1 (by unfold RightM; rw [h1]; simp)))
def e137 (qq:Nat) (p0:List Ent) (p1:Int):Option (List Tm × List Tm × Int) :=
 e73 qq p0 >>= fun r1 =>
 if r1 then
 e202 qq p0 p1 1 >>= fun r4 =>
 if r4 then
 gidx p0 p1 >>= fun x7 =>
 e203 qq x7.type (w64 (x7.pars + x7.inds)) >>= fun r9 =>
 gsl r9.1 0 x7.pars >>= fun x11 =>
 gsl r9.1 x7.pars (List.length r9.1:Int) >>= fun x13 =>
 some (x11,x13,0)
 else
 some ([],[],16)
 else
 some ([],[],5)
abbrev K137 (p0:List Ent) (p1:Int) (r:List Tm × List Tm × Int) (C:Cf):Prop:=C 137 [] [slv entL p0 .no,ai p1] (.tup [.sl (flat tmCells r.1) (List.length r.1) .no,.sl (flat tmCells r.2.1) (List.length r.2.1) .no,ai r.2.2]) [] 0
theorem q137:Qf 137 Tryz.f137:=⟨Tryz.func137,by kernel_rfl⟩
theorem k137 {p0 p1 r} (h:K137 p0 p1 r Ci):K137 p0 p1 r Ct:=⟨h,⟨⟨tv,dE _⟩,tv,tv⟩,forall_nil,⟨dT _,dT _,tv,tv⟩,forall_nil⟩
theorem c137 {qq p0 p1 r} (h:e137 qq p0 p1 = some r):K137 p0 p1 r Ct:=by
 unfold e137 at h
 obtain ⟨r1,h2,h⟩:=obind h
 rcases spl h with ⟨h3,h⟩ | ⟨h3,h⟩
 obtain ⟨r4,h5,h⟩:=obind h
 have k:=oK 0 [] h3 (c73 h2) o0
 rcases spl h with ⟨h6,h⟩ | ⟨h6,h⟩
 obtain ⟨x7,h8,h⟩:=obind h
 obtain ⟨r9,h10,h⟩:=obind h
 obtain ⟨x11,h12,h⟩:=obind h
 obtain ⟨x13,h14,h⟩:=obind h
 obtain rfl:=sj h
 exact k137 (tF q137 0 [] (oD (dT x13) <| oD (dT x11) <| oA 1 (slFrom23 h14) <| oA 0 (ix22 (o:=.no) h8) <| oA 1 (slTo3_23 (o:=.no) h12) <| oA 1 (ix22 (o:=.no) h8) <| oA 4 (ix22 (o:=.no) h8) <| oC 2 [] (c203 h10) <| oA 1 (ix22 (o:=.no) h8) <| oA 1 (ix22 (o:=.no) h8) <| oA 1 (ix22 (o:=.no) h8) <| oK 1 [] h6 (c202 h5) k))
 obtain rfl:=sj h
 exact k137 (tF q137 1 [] (oD (dT ([]:List Tm)) <| oD (dT ([]:List Tm)) <| oK 1 [] h6 (c202 h5) k))
 obtain rfl:=sj h
 exact k137 (tF q137 1 [] (oD (dT ([]:List Tm)) <| oD (dT ([]:List Tm)) <| oK 0 [] h3 (c73 h2) o0))
def e208 (qq:Nat) (p0 p1:Tm):Option (Tm) :=
 e206 qq 3 0 [p0,p1] >>= fun r1 =>
 some r1
abbrev K208 (p0 p1 r:Tm) (C:Cf):Prop:=C 208 [] [tmA p0,tmA p1] (tmA r) [] 0
theorem q208:Qf 208 Tryz.f208:=⟨Tryz.func208,by kernel_rfl⟩
theorem k208 {p0 p1 r} (h:K208 p0 p1 r Ci):K208 p0 p1 r Ct:=⟨h,⟨⟨tv,tv,⟨tv,dT _⟩,tv⟩,⟨tv,tv,⟨tv,dT _⟩,tv⟩,tv⟩,forall_nil,⟨tv,tv,dT _,tv⟩,forall_nil⟩
theorem c208 {qq p0 p1 r} (h:e208 qq p0 p1 = some r):K208 p0 p1 r Ct:=by
 unfold e208 at h
 obtain ⟨r1,h2,h⟩:=obind h
 obtain rfl:=sj h
 exact k208 (tF q208 1 [] (oD (dT r1.sub) <| oC 0 [] (c206 h2) <| oS 2 (obLitR tm_eq [p0,p1]) o0))
def e207va49556L52327:Nat → (List Tm) → Int → Int → Int → (List Tm) → Option (Tm × Int)
 | 0,_,_,_,_,_ => none
 | qq + 1,p0,v32,vb0_0,vb0_1,vb0_2 =>
 if decide (v32 < (List.length p0:Int)) then
 gidx p0 (w64 ((w64 ((List.length p0:Int) - 1)) - v32)) >>= fun x12 =>
 e208 qq x12 (Tm.mk vb0_0 vb0_1 vb0_2) >>= fun r14 =>
 e207va49556L52327 qq p0 (w64 (v32 + 1)) r14.k r14.n r14.sub
 else
 e91 qq (Tm.mk vb0_0 vb0_1 vb0_2) >>= fun r16 =>
 if r16 then
 e84 qq (Tm.mk vb0_0 vb0_1 vb0_2) >>= fun r19 =>
 some (r19,0)
 else
 some ((Tm.mk 0 0 []),2)
def e207va49556L9593:Nat → (List Tm) → Tm → Int → Option (Tm × Int)
 | 0,_,_,_ => none
 | qq + 1,p0,p1,v17 =>
 if decide (v17 < (List.length p0:Int)) then
 gidx p0 v17 >>= fun x3 =>
 e91 qq x3 >>= fun r5 =>
 if r5 then
 e207va49556L9593 qq p0 p1 (w64 (v17 + 1))
 else
 some ((Tm.mk 0 0 []),5)
 else
 e91 qq p1 >>= fun r8 =>
 if r8 then
 e207va49556L52327 qq p0 0 p1.k p1.n p1.sub
 else
 some ((Tm.mk 0 0 []),5)
def e207va49556 (qq:Nat) (p0:List Tm) (p1:Tm):Option (Tm × Int) :=
 if decide ((List.length p0:Int) > 24) then
 some ((Tm.mk 0 0 []),2)
 else
 e207va49556L9593 qq p0 p1 0
def g207va49556L9593E0 (j:Nat → Value) (p0:List Tm) (p1:Tm) (v17:Int):=sp j 53 0 [(0,slv tmCells p0 .no),(2,.clo 208 [] []),(4,.mp 0 0),(6,.mp 1 0),(15,slv tmCells p0 .no),(16,ai (List.length p0:Int)),(17,ai v17)]
def g207va49556L9593S0 (p0:List Tm) (p1:Tm) (v17:Int):LSt:=⟨[(0,.cells [ai p1.k,ai p1.n,slv tmCells p1.sub .no]),(1,.cells [ai 0,ai 0,slv tmCells ([]:List Tm) .nl])],2,[],0,[]⟩
def g207va49556L52327E0 (j:Nat → Value) (p0:List Tm) (v32 vb0_0 vb0_1:Int) (vb0_2:List Tm):=sp j 53 0 [(0,slv tmCells p0 .no),(2,.clo 208 [] []),(4,.mp 0 0),(6,.mp 1 0),(31,ai (List.length p0:Int)),(32,ai v32)]
def g207va49556L52327S0 (p0:List Tm) (v32 vb0_0 vb0_1:Int) (vb0_2:List Tm):LSt:=⟨[(0,.cells [ai vb0_0,ai vb0_1,slv tmCells vb0_2 .no]),(1,.cells [ai 0,ai 0,slv tmCells ([]:List Tm) .nl])],2,[],0,[]⟩
abbrev K207va49556 (p0:List Tm) (p1:Tm) (r:Tm × Int) (C:Cf):Prop:=C 207 [] [slv tmCells p0 .no,tmA p1,.clo 208 [] []] (.tup [tmA r.1,ai r.2]) [] 0
theorem q207va49556:Qf 207 Tryz.f207:=⟨Tryz.func207,by kernel_rfl⟩
theorem k207va49556 {p0 p1 r} (h:K207va49556 p0 p1 r Ci):K207va49556 p0 p1 r Ct:=⟨h,⟨⟨tv,dT _⟩,⟨tv,tv,⟨tv,dT _⟩,tv⟩,⟨tv,tv⟩,tv⟩,forall_nil,⟨⟨tv,tv,dT _,tv⟩,tv,tv⟩,forall_nil⟩
theorem l207va49556L52327:∀ qq:Nat,(∀ p0 v32 vb0_0 vb0_1 vb0_2 r,e207va49556L52327 qq p0 v32 vb0_0 vb0_1 vb0_2 = some r → (∀ j,Dl Tryz.prog 0 (inn (inn (rgt (lft (rgt (rgt (rgt (rgt (bod Tryz.f207))))))))) (g207va49556L52327E0 j p0 v32 vb0_0 vb0_1 vb0_2) (g207va49556L52327S0 p0 v32 vb0_0 vb0_1 vb0_2) (frameQ Tryz.prog 0 (FinQ Tryz.prog 0 Tryz.f207 (.tup [tmA r.1,ai r.2]) [] 0) [.blk 2,.seq (rgt (rgt (rgt (rgt (rgt (bod Tryz.f207))))))]))):=by
 intro qq
 induction qq with
 | zero =>
  exact fun _ _ _ _ _ _ h => nn h
 | succ qq ih =>
  intro p0 v32 vb0_0 vb0_1 vb0_2 r h
  rw [e207va49556L52327] at h
  rcases spl h with ⟨h11,h⟩ | ⟨h11,h⟩
  obtain ⟨x12,h13,h⟩:=obind h
  obtain ⟨r14,h15,h⟩:=obind h
  exact fun j => lH 2 [] [0,1] [] [0,2,4,6,31,32] (oD (dT p0) <| oD (dT ([]:List Tm)) <| oD (dT r14.sub) <| oC 2 [] (c208 h15) <| oA 3 (ix23 (o:=.no) h13) <| oB 0 h11 o0) (ih _ _ _ _ _ _ h)
  obtain ⟨r16,h17,h⟩:=obind h
  have k:=oB 0 h11 o0
  rcases spl h with ⟨h18,h⟩ | ⟨h18,h⟩
  obtain ⟨r19,h20,h⟩:=obind h
  obtain rfl:=sj h
  exact fun j => lF 1 [] (oD (dT r19.sub) <| oC 2 [] (c84 h20) <| oK 1 [] h18 (c91 h17) k)
  obtain rfl:=sj h
  exact fun j => lF 2 [] (oD (dT ([]:List Tm)) <| oK 1 [] h18 (c91 h17) k)
theorem l207va49556L9593:∀ qq:Nat,(∀ p0 p1 v17 r,e207va49556L9593 qq p0 p1 v17 = some r → (∀ j,Dl Tryz.prog 0 (inn (inn (rgt (lft (rgt (rgt (bod Tryz.f207))))))) (g207va49556L9593E0 j p0 p1 v17) (g207va49556L9593S0 p0 p1 v17) (frameQ Tryz.prog 0 (FinQ Tryz.prog 0 Tryz.f207 (.tup [tmA r.1,ai r.2]) [] 0) [.blk 0,.seq (rgt (rgt (rgt (bod Tryz.f207))))]))):=by
 intro qq
 induction qq with
 | zero =>
  exact fun _ _ _ _ h => nn h
 | succ qq ih =>
  intro p0 p1 v17 r h
  rw [e207va49556L9593] at h
  rcases spl h with ⟨h2,h⟩ | ⟨h2,h⟩
  obtain ⟨x3,h4,h⟩:=obind h
  obtain ⟨r5,h6,h⟩:=obind h
  have k:=oA 0 (ix23 (o:=.no) h4) <| oB 0 h2 o0
  rcases spl h with ⟨h7,h⟩ | ⟨h7,h⟩
  exact fun j => lH 2 [] [0,1] [] [0,2,4,6,15,16,17] (oD (dT p0) <| oD (dT p0) <| oD (dT ([]:List Tm)) <| oD (dT p1.sub) <| oK 3 [] h7 (c91 h6) k) (ih _ _ _ _ h)
  obtain rfl:=sj h
  exact fun j => lF 2 [] (oD (dT ([]:List Tm)) <| oK 3 [] h7 (c91 h6) k)
  obtain ⟨r8,h9,h⟩:=obind h
  have k:=oB 0 h2 o0
  rcases spl h with ⟨h10,h⟩ | ⟨h10,h⟩
  exact fun j => lH 2 [] [0,1] [] [0,2,4,6,31,32] (oD (dT p0) <| oD (dT ([]:List Tm)) <| oD (dT p1.sub) <| oK 1 [] h10 (c91 h9) k) (l207va49556L52327 _ _ _ _ _ _ _ h)
  obtain rfl:=sj h
  exact fun j => lF 2 [] (oD (dT ([]:List Tm)) <| oK 1 [] h10 (c91 h9) k)
theorem c207va49556 {qq p0 p1 r} (h:e207va49556 qq p0 p1 = some r):K207va49556 p0 p1 r Ct:=by
 unfold e207va49556 at h
 rcases spl h with ⟨h1,h⟩ | ⟨h1,h⟩
 obtain rfl:=sj h
 exact k207va49556 (tF q207va49556 1 [] (oD (dT ([]:List Tm)) <| oB 1 h1 o0))
 exact k207va49556 (tH q207va49556 1 [] [0,1] [] [0,2,4,6,15,16,17] (oD (dT p0) <| oD (dT p0) <| oD (dT ([]:List Tm)) <| oD (dT p1.sub) <| oB 1 h1 o0) (l207va49556L9593 _ _ _ _ _ h))
def e145 (qq:Nat) (p0:List Tm) (p1:Tm):Option (Tm × Int) :=
 e207va49556 qq p0 p1 >>= fun r1 =>
 some (r1.1,r1.2)
abbrev K145 (p0:List Tm) (p1:Tm) (r:Tm × Int) (C:Cf):Prop:=C 145 [] [slv tmCells p0 .no,tmA p1] (.tup [tmA r.1,ai r.2]) [] 0
theorem q145:Qf 145 Tryz.f145:=⟨Tryz.func145,by kernel_rfl⟩
theorem k145 {p0 p1 r} (h:K145 p0 p1 r Ci):K145 p0 p1 r Ct:=⟨h,⟨⟨tv,dT _⟩,⟨tv,tv,⟨tv,dT _⟩,tv⟩,tv⟩,forall_nil,⟨⟨tv,tv,dT _,tv⟩,tv,tv⟩,forall_nil⟩
theorem c145 {qq p0 p1 r} (h:e145 qq p0 p1 = some r):K145 p0 p1 r Ct:=by
 unfold e145 at h
 obtain ⟨r1,h2,h⟩:=obind h
 obtain rfl:=sj h
 exact k145 (tF q145 3 [] (oD (dT r1.1.sub) <| oC 1 [] (c207va49556 h2) o0))
def e125 (qq:Nat) (q0_e:Int) (p1:List Ent) (p2 p3:Int) (p4:List Tm):Option (Tm × Int) :=
 e137 qq p1 p2 >>= fun r1 =>
 e143 qq p2 >>= fun r3 =>
 e139 qq q0_e p4 (List.length r1.2.1:Int) >>= fun r5 =>
 e142 qq r3 r5.1 >>= fun r7 =>
 e138 qq (List.length r1.2.1:Int) >>= fun r9 =>
 e142 qq r7 r9 >>= fun r11 =>
 e141 qq r5.2 r1.2.1 p4 >>= fun r13 =>
 gapp 40 r13.1 [r11] >>= fun l15 =>
 e191 qq p3 >>= fun r17 =>
 e145 qq l15 r17 >>= fun r19 =>
 e144 qq r13.2 r19.1 r19.2 >>= fun r21 =>
 some (r21.1,r21.2)
abbrev K125 (q0_e:Int) (p1:List Ent) (p2 p3:Int) (p4:List Tm) (r:Tm × Int) (C:Cf):Prop:=C 125 [.cells [ai q0_e]] [.mp 0 0,slv entL p1 .no,ai p2,ai p3,slv tmCells p4 .no] (tmA r.1) [.cells [ai r.2]] 0
theorem q125:Qf 125 Tryz.f125:=⟨Tryz.func125,by kernel_rfl⟩
theorem k125 {q0_e p1 p2 p3 p4 r} (h:K125 q0_e p1 p2 p3 p4 r Ci):K125 q0_e p1 p2 p3 p4 r Ct:=⟨h,⟨(lz rfl),⟨tv,dE _⟩,tv,tv,⟨tv,dT _⟩,tv⟩,(forall_cons ⟨tv,tv⟩ forall_nil),⟨tv,tv,dT _,tv⟩,(forall_cons ⟨tv,tv⟩ forall_nil)⟩
theorem c125 {qq q0_e p1 p2 p3 p4 r} (h:e125 qq q0_e p1 p2 p3 p4 = some r):K125 q0_e p1 p2 p3 p4 r Ct:=by
 unfold e125 at h
 obtain ⟨r1,h2,h⟩:=obind h
 obtain ⟨r3,h4,h⟩:=obind h
 obtain ⟨r5,h6,h⟩:=obind h
 obtain ⟨r7,h8,h⟩:=obind h
 obtain ⟨r9,h10,h⟩:=obind h
 obtain ⟨r11,h12,h⟩:=obind h
 obtain ⟨r13,h14,h⟩:=obind h
 obtain ⟨l15,h16,h⟩:=obind h
 obtain ⟨r17,h18,h⟩:=obind h
 obtain ⟨r19,h20,h⟩:=obind h
 obtain ⟨r21,h22,h⟩:=obind h
 obtain rfl:=sj h
 exact k125 (tF q125 1 [0] (oD (dT r21.1.sub) <| oC 2 [0] (c144 h22) <| oC 0 [] (c145 h20) <| oC 0 [] (c191 h18) <| oP 0 (apS23 h16 (by simp)) <| oS 1 (obLitR tm_eq [r11]) <| oC 1 [0] (c141 h14) <| oC 0 [] (c142 h12) <| oC 0 [] (c138 h10) <| oC 0 [] (c142 h8) <| oC 0 [0] (c139 h6) <| oC 4 [] (c143 h4) <| oC 0 [] (c137 h2) o0))
def e198 (qq:Nat) (p0:List Ent) (p1:Int):Option (Con' × Int) :=
 e73 qq p0 >>= fun r1 =>
 if r1 then
 e202 qq p0 p1 2 >>= fun r4 =>
 if r4 then
 e156 qq p0 p1 >>= fun r7 =>
 some (r7,0)
 else
 some ((Con'.mk [] [] []),16)
 else
 some ((Con'.mk [] [] []),5)
abbrev K198 (p0:List Ent) (p1:Int) (r:Con' × Int) (C:Cf):Prop:=C 198 [] [slv entL p0 .no,ai p1] (.tup [conA r.1,ai r.2]) [] 0
theorem q198:Qf 198 Tryz.f198:=⟨Tryz.func198,by kernel_rfl⟩
theorem k198 {p0 p1 r} (h:K198 p0 p1 r Ci):K198 p0 p1 r Ct:=⟨h,⟨⟨tv,dE _⟩,tv,tv⟩,forall_nil,⟨⟨dT _,dT _,dR _,tv⟩,tv,tv⟩,forall_nil⟩
theorem c198 {qq p0 p1 r} (h:e198 qq p0 p1 = some r):K198 p0 p1 r Ct:=by
 unfold e198 at h
 obtain ⟨r1,h2,h⟩:=obind h
 rcases spl h with ⟨h3,h⟩ | ⟨h3,h⟩
 obtain ⟨r4,h5,h⟩:=obind h
 have k:=oK 0 [] h3 (c73 h2) o0
 rcases spl h with ⟨h6,h⟩ | ⟨h6,h⟩
 obtain ⟨r7,h8,h⟩:=obind h
 obtain rfl:=sj h
 exact k198 (tF q198 1 [] (oD (dR r7.recs) <| oD (dT r7.inds) <| oD (dT r7.args) <| oC 1 [] (c156 h8) <| oK 1 [] h6 (c202 h5) k))
 obtain rfl:=sj h
 exact k198 (tF q198 2 [] (oD (dR ([]:List Rec')) <| oD (dT ([]:List Tm)) <| oD (dT ([]:List Tm)) <| oK 1 [] h6 (c202 h5) k))
 obtain rfl:=sj h
 exact k198 (tF q198 2 [] (oD (dR ([]:List Rec')) <| oD (dT ([]:List Tm)) <| oD (dT ([]:List Tm)) <| oK 0 [] h3 (c73 h2) o0))
def e199L31904:Nat → Rec' → Int → Int → Int → (List Tm) → Int → Int → Int → Int → (List Tm) → Option (Tm × Int)
 | 0,_,_,_,_,_,_,_,_,_,_ => none
 | qq + 1,p3,p4,p5,p6,v17,v64,vb0_0,vb3_0,vb3_1,vb3_2 =>
 if decide (v64 < (List.length p3.at':Int)) then
 gidx p3.at' v64 >>= fun x14 =>
 e201 qq vb0_0 x14 (List.length p3.around:Int) v17 >>= fun r16 =>
 e146 qq (Tm.mk vb3_0 vb3_1 vb3_2) r16.1 >>= fun r18 =>
 e199L31904 qq p3 p4 p5 p6 v17 (w64 (v64 + 1)) r16.2 r18.k r18.n r18.sub
 else
 e140 qq (w64 ((w64 ((w64 ((w64 (p5 - p4)) + p6)) - 1)) + (List.length p3.around:Int))) >>= fun r20 =>
 e138 qq (List.length p3.around:Int) >>= fun r22 =>
 e142 qq r20 r22 >>= fun r24 =>
 e146 qq (Tm.mk vb3_0 vb3_1 vb3_2) r24 >>= fun r26 =>
 e141 qq vb0_0 p3.around v17 >>= fun r28 =>
 e145 qq r28.1 r26 >>= fun r30 =>
 e144 qq r28.2 r30.1 r30.2 >>= fun r32 =>
 some (r32.1,r32.2)
def e199L19567:Nat → Tm → Rec' → Int → Int → Int → (List Tm × Int) → (List Tm) → Int → Option (Tm × Int)
 | 0,_,_,_,_,_,_,_,_ => none
 | qq + 1,p2,p3,p4,p5,p6,r1,v17,v39 =>
 if decide (v39 < p4) then
 e140 qq (w64 ((w64 ((w64 (p5 - 1)) - v39)) + p6)) >>= fun r7 =>
 gapp 40 v17 [r7] >>= fun l9 =>
 e199L19567 qq p2 p3 p4 p5 p6 r1 l9 (w64 (v39 + 1))
 else
 e200 qq r1.2 p2 (w64 ((w64 (p5 + p6)) + (List.length p3.around:Int))) >>= fun r11 =>
 e199L31904 qq p3 p4 p5 p6 v17 0 r11.2 r11.1.k r11.1.n r11.1.sub
def e199 (qq:Nat) (q0_e:Int) (p1:List Tm) (p2:Tm) (p3:Rec') (p4 p5 p6:Int):Option (Tm × Int) :=
 e139 qq q0_e p1 (w64 (p5 + p6)) >>= fun r1 =>
 gapp 40 ([]:List Tm) r1.1 >>= fun l3 =>
 e199L19567 qq p2 p3 p4 p5 p6 r1 l3 0
def g199L19567E0 (j:Nat → Value) (p2:Tm) (p3:Rec') (p4 p5 p6:Int) (r1:List Tm × Int) (v17:List Tm) (v39:Int):=sp j 97 0 [(0,.mp 0 0),(5,ai p5),(6,ai p6),(9,.mp 1 0),(10,.mp 2 0),(14,.mp 3 0),(15,ai (w64 ((w64 (p5 - p4)) + p6))),(16,ai (List.length p3.around:Int)),(17,slv tmCells v17 .nl),(38,ai p4),(39,ai v39)]
def g199L19567S0 (p2:Tm) (p3:Rec') (p4 p5 p6:Int) (r1:List Tm × Int) (v17:List Tm) (v39:Int):LSt:=⟨[(0,.cells [ai r1.2]),(1,.cells [ai p2.k,ai p2.n,slv tmCells p2.sub .no]),(2,.cells [ab p3.is,slv tmCells p3.around .no,slv tmCells p3.at' .no]),(3,.cells [ai 0,ai 0,slv tmCells ([]:List Tm) .nl])],4,[],0,[]⟩
def g199L19567E1 (j:Nat → Value) (p2:Tm) (p3:Rec') (p4 p5 p6:Int) (r1:List Tm × Int) (v17:List Tm) (v39:Int):=sp j 97 0 [(0,.mp 0 0),(5,ai p5),(6,ai p6),(9,.mp 1 0),(10,.mp 2 0),(14,.mp 3 0),(15,ai (w64 ((w64 (p5 - p4)) + p6))),(16,ai (List.length p3.around:Int)),(17,slv tmCells v17 (.st 0 3)),(38,ai p4),(39,ai v39)]
def g199L19567S1 (p2:Tm) (p3:Rec') (p4 p5 p6:Int) (r1:List Tm × Int) (v17:List Tm) (v39:Int):LSt:=⟨[(0,.cells [ai r1.2]),(1,.cells [ai p2.k,ai p2.n,slv tmCells p2.sub .no]),(2,.cells [ab p3.is,slv tmCells p3.around .no,slv tmCells p3.at' .no]),(3,.cells [ai 0,ai 0,slv tmCells ([]:List Tm) .nl])],4,[0],1,[]⟩
def g199L31904E0 (j:Nat → Value) (p3:Rec') (p4 p5 p6:Int) (v17:List Tm) (v64 vb0_0 vb3_0 vb3_1:Int) (vb3_2:List Tm):=sp j 97 0 [(0,.mp 0 0),(10,.mp 1 0),(14,.mp 2 0),(15,ai (w64 ((w64 (p5 - p4)) + p6))),(16,ai (List.length p3.around:Int)),(17,slv tmCells v17 (.st 0 3)),(19,.mp 3 0),(62,slv tmCells p3.at' .no),(63,ai (List.length p3.at':Int)),(64,ai v64)]
def g199L31904S0 (p3:Rec') (p4 p5 p6:Int) (v17:List Tm) (v64 vb0_0 vb3_0 vb3_1:Int) (vb3_2:List Tm):LSt:=⟨[(0,.cells [ai vb0_0]),(1,.cells [ab p3.is,slv tmCells p3.around .no,slv tmCells p3.at' .no]),(2,.cells [ai 0,ai 0,slv tmCells ([]:List Tm) .nl]),(3,.cells [ai vb3_0,ai vb3_1,slv tmCells vb3_2 .no])],4,[0],1,[]⟩
def g199L31904E1 (j:Nat → Value) (p3:Rec') (p4 p5 p6:Int) (v17:List Tm) (v64 vb0_0 vb3_0 vb3_1:Int) (vb3_2:List Tm):=sp j 97 0 [(0,.mp 0 0),(10,.mp 1 0),(14,.mp 2 0),(15,ai (w64 ((w64 (p5 - p4)) + p6))),(16,ai (List.length p3.around:Int)),(17,slv tmCells v17 .nl),(19,.mp 3 0),(62,slv tmCells p3.at' .no),(63,ai (List.length p3.at':Int)),(64,ai v64)]
def g199L31904S1 (p3:Rec') (p4 p5 p6:Int) (v17:List Tm) (v64 vb0_0 vb3_0 vb3_1:Int) (vb3_2:List Tm):LSt:=⟨[(0,.cells [ai vb0_0]),(1,.cells [ab p3.is,slv tmCells p3.around .no,slv tmCells p3.at' .no]),(2,.cells [ai 0,ai 0,slv tmCells ([]:List Tm) .nl]),(3,.cells [ai vb3_0,ai vb3_1,slv tmCells vb3_2 .no])],4,[],0,[]⟩
abbrev K199 (q0_e:Int) (p1:List Tm) (p2:Tm) (p3:Rec') (p4 p5 p6:Int) (r:Tm × Int) (C:Cf):Prop:=C 199 [.cells [ai q0_e]] [.mp 0 0,slv tmCells p1 .no,tmA p2,recA p3,ai p4,ai p5,ai p6] (tmA r.1) [.cells [ai r.2]] 0
theorem q199:Qf 199 Tryz.f199:=⟨Tryz.func199,by kernel_rfl⟩
theorem k199 {q0_e p1 p2 p3 p4 p5 p6 r} (h:K199 q0_e p1 p2 p3 p4 p5 p6 r Ci):K199 q0_e p1 p2 p3 p4 p5 p6 r Ct:=⟨h,⟨(lz rfl),⟨tv,dT _⟩,⟨tv,tv,⟨tv,dT _⟩,tv⟩,⟨tv,⟨tv,dT _⟩,⟨tv,dT _⟩,tv⟩,tv,tv,tv,tv⟩,(forall_cons ⟨tv,tv⟩ forall_nil),⟨tv,tv,dT _,tv⟩,(forall_cons ⟨tv,tv⟩ forall_nil)⟩
theorem l199L31904:∀ qq:Nat,(∀ p3 p4 p5 p6 v17 v64 vb0_0 vb3_0 vb3_1 vb3_2 r,e199L31904 qq p3 p4 p5 p6 v17 v64 vb0_0 vb3_0 vb3_1 vb3_2 = some r → (∀ j,Dl Tryz.prog 1 (inn (inn (rgt (lft (rgt (rgt (rgt (rgt (rgt (rgt (rgt (bod Tryz.f199)))))))))))) (g199L31904E0 j p3 p4 p5 p6 v17 v64 vb0_0 vb3_0 vb3_1 vb3_2) (g199L31904S0 p3 p4 p5 p6 v17 v64 vb0_0 vb3_0 vb3_1 vb3_2) (frameQ Tryz.prog 1 (FinQ Tryz.prog 1 Tryz.f199 (tmA r.1) [.cells [ai r.2]] 0) [.blk 2,.seq (rgt (rgt (rgt (rgt (rgt (rgt (rgt (rgt (bod Tryz.f199)))))))))])) ∧ (∀ j,Dl Tryz.prog 1 (inn (inn (rgt (lft (rgt (rgt (rgt (rgt (rgt (rgt (rgt (bod Tryz.f199)))))))))))) (g199L31904E1 j p3 p4 p5 p6 v17 v64 vb0_0 vb3_0 vb3_1 vb3_2) (g199L31904S1 p3 p4 p5 p6 v17 v64 vb0_0 vb3_0 vb3_1 vb3_2) (frameQ Tryz.prog 1 (FinQ Tryz.prog 1 Tryz.f199 (tmA r.1) [.cells [ai r.2]] 0) [.blk 2,.seq (rgt (rgt (rgt (rgt (rgt (rgt (rgt (rgt (bod Tryz.f199)))))))))]))):=by
 intro qq
 induction qq with
 | zero =>
  exact fun _ _ _ _ _ _ _ _ _ _ _ h => nn h
 | succ qq ih =>
  intro p3 p4 p5 p6 v17 v64 vb0_0 vb3_0 vb3_1 vb3_2 r h
  rw [e199L31904] at h
  refine ⟨?_,?_⟩
  rcases spl h with ⟨h13,h⟩ | ⟨h13,h⟩
  obtain ⟨x14,h15,h⟩:=obind h
  obtain ⟨r16,h17,h⟩:=obind h
  obtain ⟨r18,h19,h⟩:=obind h
  exact fun j => lH 2 [] [0,1,2,3] [0] [0,10,14,15,16,17,19,62,63,64] (oD (dT p3.at') <| oD (dT v17) <| oD (dT r18.sub) <| oD (dT ([]:List Tm)) <| oD (dT p3.at') <| oD (dT p3.around) <| oC 0 [] (c146 h19) <| oC 4 [0] (c201 h17) <| oA 0 (ix23 (o:=.no) h15) <| oB 0 h13 o0) ((ih _ _ _ _ _ _ _ _ _ _ _ h).1)
  obtain ⟨r20,h21,h⟩:=obind h
  obtain ⟨r22,h23,h⟩:=obind h
  obtain ⟨r24,h25,h⟩:=obind h
  obtain ⟨r26,h27,h⟩:=obind h
  obtain ⟨r28,h29,h⟩:=obind h
  obtain ⟨r30,h31,h⟩:=obind h
  obtain ⟨r32,h33,h⟩:=obind h
  obtain rfl:=sj h
  exact fun j => lF 1 [0] (oD (dT r32.1.sub) <| oC 2 [0] (c144 h33) <| oC 1 [] (c145 h31) <| oC 2 [0] (c141 h29) <| oC 0 [] (c146 h27) <| oC 0 [] (c142 h25) <| oC 0 [] (c138 h23) <| oC 3 [] (c140 h21) <| oB 0 h13 o0)
  rcases spl h with ⟨h13,h⟩ | ⟨h13,h⟩
  obtain ⟨x14,h15,h⟩:=obind h
  obtain ⟨r16,h17,h⟩:=obind h
  obtain ⟨r18,h19,h⟩:=obind h
  exact fun j => lH 2 [] [0,1,2,3] [] [0,10,14,15,16,17,19,62,63,64] (oD (dT p3.at') <| oD (dT v17) <| oD (dT r18.sub) <| oD (dT ([]:List Tm)) <| oD (dT p3.at') <| oD (dT p3.around) <| oC 0 [] (c146 h19) <| oC 4 [0] (c201 h17) <| oA 0 (ix23 (o:=.no) h15) <| oB 0 h13 o0) ((ih _ _ _ _ _ _ _ _ _ _ _ h).2)
  obtain ⟨r20,h21,h⟩:=obind h
  obtain ⟨r22,h23,h⟩:=obind h
  obtain ⟨r24,h25,h⟩:=obind h
  obtain ⟨r26,h27,h⟩:=obind h
  obtain ⟨r28,h29,h⟩:=obind h
  obtain ⟨r30,h31,h⟩:=obind h
  obtain ⟨r32,h33,h⟩:=obind h
  obtain rfl:=sj h
  exact fun j => lF 1 [0] (oD (dT r32.1.sub) <| oC 2 [0] (c144 h33) <| oC 1 [] (c145 h31) <| oC 2 [0] (c141 h29) <| oC 0 [] (c146 h27) <| oC 0 [] (c142 h25) <| oC 0 [] (c138 h23) <| oC 3 [] (c140 h21) <| oB 0 h13 o0)
theorem l199L19567:∀ qq:Nat,(∀ p2 p3 p4 p5 p6 r1 v17 v39 r,e199L19567 qq p2 p3 p4 p5 p6 r1 v17 v39 = some r → (∀ j,Dl Tryz.prog 1 (inn (inn (rgt (lft (rgt (rgt (rgt (rgt (rgt (bod Tryz.f199)))))))))) (g199L19567E0 j p2 p3 p4 p5 p6 r1 v17 v39) (g199L19567S0 p2 p3 p4 p5 p6 r1 v17 v39) (frameQ Tryz.prog 1 (FinQ Tryz.prog 1 Tryz.f199 (tmA r.1) [.cells [ai r.2]] 0) [.blk 0,.seq (rgt (rgt (rgt (rgt (rgt (rgt (bod Tryz.f199)))))))])) ∧ (∀ j,Dl Tryz.prog 1 (inn (inn (rgt (lft (rgt (rgt (rgt (rgt (rgt (bod Tryz.f199)))))))))) (g199L19567E1 j p2 p3 p4 p5 p6 r1 v17 v39) (g199L19567S1 p2 p3 p4 p5 p6 r1 v17 v39) (frameQ Tryz.prog 1 (FinQ Tryz.prog 1 Tryz.f199 (tmA r.1) [.cells [ai r.2]] 0) [.blk 0,.seq (rgt (rgt (rgt (rgt (rgt (rgt (bod Tryz.f199)))))))]))):=by
 intro qq
 induction qq with
 | zero =>
  exact fun _ _ _ _ _ _ _ _ _ h => nn h
 | succ qq ih =>
  intro p2 p3 p4 p5 p6 r1 v17 v39 r h
  rw [e199L19567] at h
  refine ⟨?_,?_⟩
  rcases spl h with ⟨h6,h⟩ | ⟨h6,h⟩
  obtain ⟨r7,h8,h⟩:=obind h
  obtain ⟨l9,h10,h⟩:=obind h
  exact fun j => lH 1 [] [0,1,2,3] [0] [0,5,6,9,10,14,15,16,17,38,39] (oD (dT l9) <| oD (dT ([]:List Tm)) <| oD (dT p3.at') <| oD (dT p3.around) <| oD (dT p2.sub) <| oP 0 (apS23 h10 (by simp)) <| oS 0 (obLitR tm_eq [r7]) <| oC 3 [] (c140 h8) <| oB 0 h6 o0) ((ih _ _ _ _ _ _ _ _ _ h).2)
  obtain ⟨r11,h12,h⟩:=obind h
  exact fun j => lH 3 [] [0,2,3,4] [] [0,10,14,15,16,17,19,62,63,64] (oD (dT p3.at') <| oD (dT v17) <| oD (dT r11.1.sub) <| oD (dT ([]:List Tm)) <| oD (dT p3.at') <| oD (dT p3.around) <| oC 3 [0] (c200 h12) <| oB 0 h6 o0) ((l199L31904 _ _ _ _ _ _ _ _ _ _ _ _ h).2)
  rcases spl h with ⟨h6,h⟩ | ⟨h6,h⟩
  obtain ⟨r7,h8,h⟩:=obind h
  obtain ⟨l9,h10,h⟩:=obind h
  exact fun j => lH 1 [] [0,1,2,3] [1] [0,5,6,9,10,14,15,16,17,38,39] (oD (dT l9) <| oD (dT ([]:List Tm)) <| oD (dT p3.at') <| oD (dT p3.around) <| oD (dT p2.sub) <| oP 0 (apS23 h10 (by simp)) <| oS 0 (obLitR tm_eq [r7]) <| oC 3 [] (c140 h8) <| oB 0 h6 o0) ((ih _ _ _ _ _ _ _ _ _ h).2)
  obtain ⟨r11,h12,h⟩:=obind h
  exact fun j => lH 3 [] [0,2,3,4] [0] [0,10,14,15,16,17,19,62,63,64] (oD (dT p3.at') <| oD (dT v17) <| oD (dT r11.1.sub) <| oD (dT ([]:List Tm)) <| oD (dT p3.at') <| oD (dT p3.around) <| oC 3 [0] (c200 h12) <| oB 0 h6 o0) ((l199L31904 _ _ _ _ _ _ _ _ _ _ _ _ h).1)
theorem c199 {qq q0_e p1 p2 p3 p4 p5 p6 r} (h:e199 qq q0_e p1 p2 p3 p4 p5 p6 = some r):K199 q0_e p1 p2 p3 p4 p5 p6 r Ct:=by
 unfold e199 at h
 obtain ⟨r1,h2,h⟩:=obind h
 obtain ⟨l3,h4,h⟩:=obind h
 have k:=oC 5 [0] (c139 h2) o0
 by_cases h5:List.length r1.1 = 0
 exact k199 (tH q199 0 [] [0,1,2,3] [] [0,5,6,9,10,14,15,16,17,38,39] (oD (dT l3) <| oD (dT ([]:List Tm)) <| oD (dT p3.at') <| oD (dT p3.around) <| oD (dT p2.sub) <| oP 0 (apN23 h4 h5) k) ((l199L19567 _ _ _ _ _ _ _ _ _ _ h).1))
 exact k199 (tH q199 0 [] [0,1,2,3] [0] [0,5,6,9,10,14,15,16,17,38,39] (oD (dT l3) <| oD (dT ([]:List Tm)) <| oD (dT p3.at') <| oD (dT p3.around) <| oD (dT p2.sub) <| oP 0 (apS23 h4 h5) k) ((l199L19567 _ _ _ _ _ _ _ _ _ _ h).2))
def e133L34860:Nat → Int → (Con' × Int) → (List Tm) → (List Tm) → (List Tm × Int) → (List Tm) → Int → Int → Int → Int → (List Tm) → Option (Tm × Int)
 | 0,_,_,_,_,_,_,_,_,_,_,_ => none
 | qq + 1,p2,r1,v14,v18,r18,l23,v98,vb0_0,vb2_0,vb2_1,vb2_2 =>
 if decide (v98 < (List.length r1.1.inds:Int)) then
 gidx r1.1.inds v98 >>= fun x29 =>
 e201 qq vb0_0 x29 0 l23 >>= fun r31 =>
 e146 qq (Tm.mk vb2_0 vb2_1 vb2_2) r31.1 >>= fun r33 =>
 e133L34860 qq p2 r1 v14 v18 r18 l23 (w64 (v98 + 1)) r31.2 r33.k r33.n r33.sub
 else
 e143 qq p2 >>= fun r35 =>
 e142 qq r35 r18.1 >>= fun r37 =>
 e142 qq r37 v18 >>= fun r39 =>
 e146 qq (Tm.mk vb2_0 vb2_1 vb2_2) r39 >>= fun r41 =>
 e145 qq v14 r41 >>= fun r43 =>
 e144 qq vb0_0 r43.1 r43.2 >>= fun r45 =>
 some (r45.1,r45.2)
def e133L43296:Nat → Int → (List Tm) → Tm → (Con' × Int) → (List Tm) → Int → Int → (List Tm) → Int → Option (Tm × Int)
 | 0,_,_,_,_,_,_,_,_,_ => none
 | qq + 1,p2,p3,p4,r1,v14,v15,vb0_0,v18,v64 =>
 if decide (v64 < (List.length r1.1.args:Int)) then
 e140 qq (w64 ((w64 ((w64 ((List.length r1.1.args:Int) - 1)) - v64)) + v15)) >>= fun r14 =>
 gapp 40 v18 [r14] >>= fun l16 =>
 e133L43296 qq p2 p3 p4 r1 v14 v15 vb0_0 l16 (w64 (v64 + 1))
 else
 e139 qq vb0_0 p3 (w64 ((List.length r1.1.args:Int) + v15)) >>= fun r18 =>
 gapp 40 ([]:List Tm) r18.1 >>= fun l20 =>
 gapp 40 l20 v18 >>= fun l23 =>
 e200 qq r18.2 p4 (w64 ((List.length r1.1.args:Int) + v15)) >>= fun r26 =>
 e133L34860 qq p2 r1 v14 v18 r18 l23 0 r26.2 r26.1.k r26.1.n r26.1.sub
def e133L8004:Nat → Int → (List Tm) → Tm → (Con' × Int) → (List Tm) → Int → Int → Int → Option (Tm × Int)
 | 0,_,_,_,_,_,_,_,_ => none
 | qq + 1,p2,p3,p4,r1,v14,v15,v42,vb0_0 =>
 if decide (v42 < (List.length r1.1.recs:Int)) then
 gidx r1.1.recs v42 >>= fun x6 =>
 if x6.is then
 e199 qq vb0_0 p3 p4 x6 v42 (List.length r1.1.args:Int) v15 >>= fun r9 =>
 gapp 40 v14 [r9.1] >>= fun l11 =>
 e133L8004 qq p2 p3 p4 r1 l11 (w64 (v15 + 1)) (w64 (v42 + 1)) r9.2
 else
 e133L8004 qq p2 p3 p4 r1 v14 v15 (w64 (v42 + 1)) vb0_0
 else
 e133L43296 qq p2 p3 p4 r1 v14 v15 vb0_0 [] 0
def e133 (qq:Nat) (q0_e:Int) (p1:List Ent) (p2:Int) (p3:List Tm) (p4:Tm):Option (Tm × Int) :=
 e198 qq p1 p2 >>= fun r1 =>
 e141 qq q0_e r1.1.args p3 >>= fun r3 =>
 e133L8004 qq p2 p3 p4 r1 r3.1 0 0 r3.2
def g133L8004E0 (j:Nat → Value) (p2:Int) (p3:List Tm) (p4:Tm) (r1:Con' × Int) (v14:List Tm) (v15 v42 vb0_0:Int):=sp j 124 0 [(0,.mp 0 0),(2,ai p2),(3,slv tmCells p3 .no),(9,.mp 1 0),(10,.mp 2 0),(11,.mp 3 0),(13,ai (List.length r1.1.args:Int)),(14,slv tmCells v14 (.st 0 3)),(15,ai v15),(40,slv recL r1.1.recs .no),(41,ai (List.length r1.1.recs:Int)),(42,ai v42)]
def g133L8004S0 (p2:Int) (p3:List Tm) (p4:Tm) (r1:Con' × Int) (v14:List Tm) (v15 v42 vb0_0:Int):LSt:=⟨[(0,.cells [ai vb0_0]),(1,.cells [ai p4.k,ai p4.n,slv tmCells p4.sub .no]),(2,.cells [ai 0,ai 0,slv tmCells ([]:List Tm) .nl]),(3,.cells [slv tmCells r1.1.args .no,slv tmCells r1.1.inds .no,slv recL r1.1.recs .no])],4,[0],1,[]⟩
def g133L43296E0 (j:Nat → Value) (p2:Int) (p3:List Tm) (p4:Tm) (r1:Con' × Int) (v14:List Tm) (v15 vb0_0:Int) (v18:List Tm) (v64:Int):=sp j 124 0 [(0,.mp 0 0),(2,ai p2),(3,slv tmCells p3 .no),(9,.mp 1 0),(10,.mp 2 0),(11,.mp 3 0),(13,ai (List.length r1.1.args:Int)),(14,slv tmCells v14 (.st 0 3)),(15,ai v15),(18,slv tmCells v18 (.st 1 3)),(63,ai (List.length r1.1.args:Int)),(64,ai v64)]
def g133L43296S0 (p2:Int) (p3:List Tm) (p4:Tm) (r1:Con' × Int) (v14:List Tm) (v15 vb0_0:Int) (v18:List Tm) (v64:Int):LSt:=⟨[(0,.cells [ai vb0_0]),(1,.cells [ai p4.k,ai p4.n,slv tmCells p4.sub .no]),(2,.cells [ai 0,ai 0,slv tmCells ([]:List Tm) .nl]),(3,.cells [slv tmCells r1.1.args .no,slv tmCells r1.1.inds .no,slv recL r1.1.recs .no])],4,[0,1],2,[]⟩
def g133L34860E0 (j:Nat → Value) (p2:Int) (r1:Con' × Int) (v14 v18:List Tm) (r18:List Tm × Int) (l23:List Tm) (v98 vb0_0 vb2_0 vb2_1:Int) (vb2_2:List Tm):=sp j 124 0 [(0,.mp 0 0),(2,ai p2),(10,.mp 1 0),(14,slv tmCells v14 (.st 0 3)),(18,slv tmCells v18 (.st 1 3)),(20,slv tmCells r18.1 .no),(21,slv tmCells l23 .full),(22,.mp 2 0),(96,slv tmCells r1.1.inds .no),(97,ai (List.length r1.1.inds:Int)),(98,ai v98)]
def g133L34860S0 (p2:Int) (r1:Con' × Int) (v14 v18:List Tm) (r18:List Tm × Int) (l23:List Tm) (v98 vb0_0 vb2_0 vb2_1:Int) (vb2_2:List Tm):LSt:=⟨[(0,.cells [ai vb0_0]),(1,.cells [ai 0,ai 0,slv tmCells ([]:List Tm) .nl]),(2,.cells [ai vb2_0,ai vb2_1,slv tmCells vb2_2 .no])],3,[0,1],2,[]⟩
def g133L34860E1 (j:Nat → Value) (p2:Int) (r1:Con' × Int) (v14 v18:List Tm) (r18:List Tm × Int) (l23:List Tm) (v98 vb0_0 vb2_0 vb2_1:Int) (vb2_2:List Tm):=sp j 124 0 [(0,.mp 0 0),(2,ai p2),(10,.mp 1 0),(14,slv tmCells v14 (.st 0 3)),(18,slv tmCells v18 (.st 1 3)),(20,slv tmCells r18.1 .no),(21,slv tmCells l23 (.st 2 3)),(22,.mp 2 0),(96,slv tmCells r1.1.inds .no),(97,ai (List.length r1.1.inds:Int)),(98,ai v98)]
def g133L34860S1 (p2:Int) (r1:Con' × Int) (v14 v18:List Tm) (r18:List Tm × Int) (l23:List Tm) (v98 vb0_0 vb2_0 vb2_1:Int) (vb2_2:List Tm):LSt:=⟨[(0,.cells [ai vb0_0]),(1,.cells [ai 0,ai 0,slv tmCells ([]:List Tm) .nl]),(2,.cells [ai vb2_0,ai vb2_1,slv tmCells vb2_2 .no])],3,[0,1,2],3,[]⟩
abbrev K133 (q0_e:Int) (p1:List Ent) (p2:Int) (p3:List Tm) (p4:Tm) (r:Tm × Int) (C:Cf):Prop:=C 133 [.cells [ai q0_e]] [.mp 0 0,slv entL p1 .no,ai p2,slv tmCells p3 .no,tmA p4] (tmA r.1) [.cells [ai r.2]] 0
theorem q133:Qf 133 Tryz.f133:=⟨Tryz.func133,by kernel_rfl⟩
theorem k133 {q0_e p1 p2 p3 p4 r} (h:K133 q0_e p1 p2 p3 p4 r Ci):K133 q0_e p1 p2 p3 p4 r Ct:=⟨h,⟨(lz rfl),⟨tv,dE _⟩,tv,⟨tv,dT _⟩,⟨tv,tv,⟨tv,dT _⟩,tv⟩,tv⟩,(forall_cons ⟨tv,tv⟩ forall_nil),⟨tv,tv,dT _,tv⟩,(forall_cons ⟨tv,tv⟩ forall_nil)⟩
theorem l133L34860:∀ qq:Nat,(∀ p2 r1 v14 v18 r18 l23 v98 vb0_0 vb2_0 vb2_1 vb2_2 r,e133L34860 qq p2 r1 v14 v18 r18 l23 v98 vb0_0 vb2_0 vb2_1 vb2_2 = some r → (∀ j,Dl Tryz.prog 1 (inn (inn (rgt (lft (rgt (rgt (rgt (rgt (rgt (rgt (rgt (rgt (rgt (rgt (rgt (bod Tryz.f133)))))))))))))))) (g133L34860E0 j p2 r1 v14 v18 r18 l23 v98 vb0_0 vb2_0 vb2_1 vb2_2) (g133L34860S0 p2 r1 v14 v18 r18 l23 v98 vb0_0 vb2_0 vb2_1 vb2_2) (frameQ Tryz.prog 1 (FinQ Tryz.prog 1 Tryz.f133 (tmA r.1) [.cells [ai r.2]] 0) [.blk 4,.seq (rgt (rgt (rgt (rgt (rgt (rgt (rgt (rgt (rgt (rgt (rgt (rgt (bod Tryz.f133)))))))))))))])) ∧ (∀ j,Dl Tryz.prog 1 (inn (inn (rgt (lft (rgt (rgt (rgt (rgt (rgt (rgt (rgt (rgt (rgt (rgt (rgt (bod Tryz.f133)))))))))))))))) (g133L34860E1 j p2 r1 v14 v18 r18 l23 v98 vb0_0 vb2_0 vb2_1 vb2_2) (g133L34860S1 p2 r1 v14 v18 r18 l23 v98 vb0_0 vb2_0 vb2_1 vb2_2) (frameQ Tryz.prog 1 (FinQ Tryz.prog 1 Tryz.f133 (tmA r.1) [.cells [ai r.2]] 0) [.blk 4,.seq (rgt (rgt (rgt (rgt (rgt (rgt (rgt (rgt (rgt (rgt (rgt (rgt (bod Tryz.f133)))))))))))))]))):=by
 intro qq
 induction qq with
 | zero =>
  exact fun _ _ _ _ _ _ _ _ _ _ _ _ h => nn h
 | succ qq ih =>
  intro p2 r1 v14 v18 r18 l23 v98 vb0_0 vb2_0 vb2_1 vb2_2 r h
  rw [e133L34860] at h
  refine ⟨?_,?_⟩
  rcases spl h with ⟨h28,h⟩ | ⟨h28,h⟩
  obtain ⟨x29,h30,h⟩:=obind h
  obtain ⟨r31,h32,h⟩:=obind h
  obtain ⟨r33,h34,h⟩:=obind h
  exact fun j => lH 2 [] [0,1,2] [0,1] [0,2,10,14,18,20,21,22,96,97,98] (oD (dT r1.1.inds) <| oD (dT l23) <| oD (dT r18.1) <| oD (dT v18) <| oD (dT v14) <| oD (dT r33.sub) <| oD (dT ([]:List Tm)) <| oC 0 [] (c146 h34) <| oC 4 [0] (c201 h32) <| oA 0 (ix23 (o:=.no) h30) <| oB 0 h28 o0) ((ih _ _ _ _ _ _ _ _ _ _ _ _ h).1)
  obtain ⟨r35,h36,h⟩:=obind h
  obtain ⟨r37,h38,h⟩:=obind h
  obtain ⟨r39,h40,h⟩:=obind h
  obtain ⟨r41,h42,h⟩:=obind h
  obtain ⟨r43,h44,h⟩:=obind h
  obtain ⟨r45,h46,h⟩:=obind h
  obtain rfl:=sj h
  exact fun j => lF 1 [0] (oD (dT r45.1.sub) <| oC 2 [0] (c144 h46) <| oC 2 [] (c145 h44) <| oC 0 [] (c146 h42) <| oC 0 [] (c142 h40) <| oC 0 [] (c142 h38) <| oC 1 [] (c143 h36) <| oB 0 h28 o0)
  rcases spl h with ⟨h28,h⟩ | ⟨h28,h⟩
  obtain ⟨x29,h30,h⟩:=obind h
  obtain ⟨r31,h32,h⟩:=obind h
  obtain ⟨r33,h34,h⟩:=obind h
  exact fun j => lH 2 [] [0,1,2] [0,1,2] [0,2,10,14,18,20,21,22,96,97,98] (oD (dT r1.1.inds) <| oD (dT l23) <| oD (dT r18.1) <| oD (dT v18) <| oD (dT v14) <| oD (dT r33.sub) <| oD (dT ([]:List Tm)) <| oC 0 [] (c146 h34) <| oC 4 [0] (c201 h32) <| oA 0 (ix23 (o:=.no) h30) <| oB 0 h28 o0) ((ih _ _ _ _ _ _ _ _ _ _ _ _ h).2)
  obtain ⟨r35,h36,h⟩:=obind h
  obtain ⟨r37,h38,h⟩:=obind h
  obtain ⟨r39,h40,h⟩:=obind h
  obtain ⟨r41,h42,h⟩:=obind h
  obtain ⟨r43,h44,h⟩:=obind h
  obtain ⟨r45,h46,h⟩:=obind h
  obtain rfl:=sj h
  exact fun j => lF 1 [0] (oD (dT r45.1.sub) <| oC 2 [0] (c144 h46) <| oC 2 [] (c145 h44) <| oC 0 [] (c146 h42) <| oC 0 [] (c142 h40) <| oC 0 [] (c142 h38) <| oC 1 [] (c143 h36) <| oB 0 h28 o0)
theorem l133L43296:∀ qq:Nat,(∀ p2 p3 p4 r1 v14 v15 vb0_0 v18 v64 r,e133L43296 qq p2 p3 p4 r1 v14 v15 vb0_0 v18 v64 = some r → (∀ j,Dl Tryz.prog 1 (inn (inn (rgt (lft (rgt (rgt (rgt (rgt (rgt (rgt (rgt (bod Tryz.f133)))))))))))) (g133L43296E0 j p2 p3 p4 r1 v14 v15 vb0_0 v18 v64) (g133L43296S0 p2 p3 p4 r1 v14 v15 vb0_0 v18 v64) (frameQ Tryz.prog 1 (FinQ Tryz.prog 1 Tryz.f133 (tmA r.1) [.cells [ai r.2]] 0) [.blk 2,.seq (rgt (rgt (rgt (rgt (rgt (rgt (rgt (rgt (bod Tryz.f133)))))))))]))):=by
 intro qq
 induction qq with
 | zero =>
  exact fun _ _ _ _ _ _ _ _ _ _ h => nn h
 | succ qq ih =>
  intro p2 p3 p4 r1 v14 v15 vb0_0 v18 v64 r h
  rw [e133L43296] at h
  rcases spl h with ⟨h13,h⟩ | ⟨h13,h⟩
  obtain ⟨r14,h15,h⟩:=obind h
  obtain ⟨l16,h17,h⟩:=obind h
  exact fun j => lH 1 [] [0,1,2,3] [0,2] [0,2,3,9,10,11,13,14,15,18,63,64] (oD (dT l16) <| oD (dT v14) <| oD (dT p3) <| oD (dR r1.1.recs) <| oD (dT r1.1.inds) <| oD (dT r1.1.args) <| oD (dT ([]:List Tm)) <| oD (dT p4.sub) <| oP 0 (apS23 h17 (by simp)) <| oS 0 (obLitR tm_eq [r14]) <| oC 3 [] (c140 h15) <| oB 0 h13 o0) (ih _ _ _ _ _ _ _ _ _ _ h)
  obtain ⟨r18,h19,h⟩:=obind h
  obtain ⟨l20,h21,h⟩:=obind h
  have k:=oC 1 [0] (c139 h19) <| oB 0 h13 o0
  by_cases h22:List.length r18.1 = 0
  obtain ⟨l23,h24,h⟩:=obind h
  have k:=oP 1 (apN23 h21 h22) k
  by_cases h25:List.length v18 = 0
  obtain ⟨r26,h27,h⟩:=obind h
  exact fun j => lH 3 [] [0,2,4] [0,1] [0,2,10,14,18,20,21,22,96,97,98] (oD (dT r1.1.inds) <| oD (dT l23) <| oD (dT r18.1) <| oD (dT v18) <| oD (dT v14) <| oD (dT r26.1.sub) <| oD (dT ([]:List Tm)) <| oC 2 [0] (c200 h27) <| oP 0 (apN23 h24 h25) k) ((l133L34860 _ _ _ _ _ _ _ _ _ _ _ _ _ h).1)
  obtain ⟨r26,h27,h⟩:=obind h
  exact fun j => lH 3 [] [0,2,4] [0,1,2] [0,2,10,14,18,20,21,22,96,97,98] (oD (dT r1.1.inds) <| oD (dT l23) <| oD (dT r18.1) <| oD (dT v18) <| oD (dT v14) <| oD (dT r26.1.sub) <| oD (dT ([]:List Tm)) <| oC 2 [0] (c200 h27) <| oP 0 (apS23 h24 h25) k) ((l133L34860 _ _ _ _ _ _ _ _ _ _ _ _ _ h).2)
  obtain ⟨l23,h24,h⟩:=obind h
  have k:=oP 1 (apS23 h21 h22) k
  by_cases h25:List.length v18 = 0
  obtain ⟨r26,h27,h⟩:=obind h
  exact fun j => lH 3 [] [0,2,4] [0,1,2] [0,2,10,14,18,20,21,22,96,97,98] (oD (dT r1.1.inds) <| oD (dT l23) <| oD (dT r18.1) <| oD (dT v18) <| oD (dT v14) <| oD (dT r26.1.sub) <| oD (dT ([]:List Tm)) <| oC 2 [0] (c200 h27) <| oP 0 (apN23 h24 h25) k) ((l133L34860 _ _ _ _ _ _ _ _ _ _ _ _ _ h).2)
  obtain ⟨r26,h27,h⟩:=obind h
  exact fun j => lH 3 [] [0,2,4] [0,1,3] [0,2,10,14,18,20,21,22,96,97,98] (oD (dT r1.1.inds) <| oD (dT l23) <| oD (dT r18.1) <| oD (dT v18) <| oD (dT v14) <| oD (dT r26.1.sub) <| oD (dT ([]:List Tm)) <| oC 2 [0] (c200 h27) <| oP 0 (apS23 h24 h25) k) ((l133L34860 _ _ _ _ _ _ _ _ _ _ _ _ _ h).2)
theorem l133L8004:∀ qq:Nat,(∀ p2 p3 p4 r1 v14 v15 v42 vb0_0 r,e133L8004 qq p2 p3 p4 r1 v14 v15 v42 vb0_0 = some r → (∀ j,Dl Tryz.prog 1 (inn (inn (rgt (lft (rgt (rgt (rgt (rgt (rgt (bod Tryz.f133)))))))))) (g133L8004E0 j p2 p3 p4 r1 v14 v15 v42 vb0_0) (g133L8004S0 p2 p3 p4 r1 v14 v15 v42 vb0_0) (frameQ Tryz.prog 1 (FinQ Tryz.prog 1 Tryz.f133 (tmA r.1) [.cells [ai r.2]] 0) [.blk 0,.seq (rgt (rgt (rgt (rgt (rgt (rgt (bod Tryz.f133)))))))]))):=by
 intro qq
 induction qq with
 | zero =>
  exact fun _ _ _ _ _ _ _ _ _ h => nn h
 | succ qq ih =>
  intro p2 p3 p4 r1 v14 v15 v42 vb0_0 r h
  rw [e133L8004] at h
  rcases spl h with ⟨h5,h⟩ | ⟨h5,h⟩
  obtain ⟨x6,h7,h⟩:=obind h
  have k:=oA 0 (ix230 (o:=.no) h7) <| oB 0 h5 o0
  rcases spl h with ⟨h8,h⟩ | ⟨h8,h⟩
  obtain ⟨r9,h10,h⟩:=obind h
  obtain ⟨l11,h12,h⟩:=obind h
  exact fun j => lH 2 [] [0,1,2,3] [1] [0,2,3,9,10,11,13,14,15,40,41,42] (oD (dR r1.1.recs) <| oD (dT l11) <| oD (dT p3) <| oD (dR r1.1.recs) <| oD (dT r1.1.inds) <| oD (dT r1.1.args) <| oD (dT ([]:List Tm)) <| oD (dT p4.sub) <| oP 0 (apS23 h12 (by simp)) <| oS 0 (obLitR tm_eq [r9.1]) <| oC 2 [0] (c199 h10) <| oB 2 h8 k) (ih _ _ _ _ _ _ _ _ _ h)
  exact fun j => lH 1 [] [0,1,2,3] [0] [0,2,3,9,10,11,13,14,15,40,41,42] (oD (dR r1.1.recs) <| oD (dT v14) <| oD (dT p3) <| oD (dR r1.1.recs) <| oD (dT r1.1.inds) <| oD (dT r1.1.args) <| oD (dT ([]:List Tm)) <| oD (dT p4.sub) <| oB 2 h8 k) (ih _ _ _ _ _ _ _ _ _ h)
  exact fun j => lH 0 [(none,18,3)] [0,1,2,3] [0,1] [0,2,3,9,10,11,13,14,15,18,63,64] (oD (dT ([]:List Tm)) <| oD (dT v14) <| oD (dT p3) <| oD (dR r1.1.recs) <| oD (dT r1.1.inds) <| oD (dT r1.1.args) <| oD (dT ([]:List Tm)) <| oD (dT p4.sub) <| oB 0 h5 o0) (l133L43296 _ _ _ _ _ _ _ _ _ _ _ h)
theorem c133 {qq q0_e p1 p2 p3 p4 r} (h:e133 qq q0_e p1 p2 p3 p4 = some r):K133 q0_e p1 p2 p3 p4 r Ct:=by
 unfold e133 at h
 obtain ⟨r1,h2,h⟩:=obind h
 obtain ⟨r3,h4,h⟩:=obind h
 exact k133 (tH q133 2 [] [0,1,2,3] [0] [0,2,3,9,10,11,13,14,15,40,41,42] (oD (dR r1.1.recs) <| oD (dT r3.1) <| oD (dT p3) <| oD (dR r1.1.recs) <| oD (dT r1.1.inds) <| oD (dT r1.1.args) <| oD (dT ([]:List Tm)) <| oD (dT p4.sub) <| oC 6 [0] (c141 h4) <| oC 0 [] (c198 h2) o0) (l133L8004 _ _ _ _ _ _ _ _ _ _ h))
def e68 (qq:Nat) (p0:List Ent) (p1 p2:Int):Option (Int) :=
 e73 qq p0 >>= fun r1 =>
 if r1 then
 e75 qq p0 p1 1 >>= fun r4 =>
 if r4 then
 if decide (p2 < 0) then
 some 16
 else
 if decide (p2 > 7) then
 some 16
 else
 some 0
 else
 some 16
 else
 some 5
abbrev K68 (p0:List Ent) (p1 p2 r:Int) (C:Cf):Prop:=C 68 [] [slv entL p0 .no,ai p1,ai p2] (ai r) [] 0
theorem q68:Qf 68 Tryz.f68:=⟨Tryz.func68,by kernel_rfl⟩
theorem k68 {p0 p1 p2 r} (h:K68 p0 p1 p2 r Ci):K68 p0 p1 p2 r Ct:=⟨h,⟨⟨tv,dE _⟩,tv,tv,tv⟩,forall_nil,tv,forall_nil⟩
theorem c68 {qq p0 p1 p2 r} (h:e68 qq p0 p1 p2 = some r):K68 p0 p1 p2 r Ct:=by
 unfold e68 at h
 obtain ⟨r1,h2,h⟩:=obind h
 rcases spl h with ⟨h3,h⟩ | ⟨h3,h⟩
 obtain ⟨r4,h5,h⟩:=obind h
 have k:=oK 0 [] h3 (c73 h2) o0
 rcases spl h with ⟨h6,h⟩ | ⟨h6,h⟩
 have k:=oK 1 [] h6 (c75 h5) k
 rcases spl h with ⟨h7,h⟩ | ⟨h7,h⟩
 obtain rfl:=sj h
 exact k68 (tF q68 0 [] (oB 1 h7 k))
 have k:=oB 1 h7 k
 rcases spl h with ⟨h8,h⟩ | ⟨h8,h⟩
 obtain rfl:=sj h
 exact k68 (tF q68 0 [] (oB 0 h8 k))
 obtain rfl:=sj h
 exact k68 (tF q68 0 [] (oB 0 h8 k))
 obtain rfl:=sj h
 exact k68 (tF q68 1 [] (oK 1 [] h6 (c75 h5) k))
 obtain rfl:=sj h
 exact k68 (tF q68 1 [] (oK 0 [] h3 (c73 h2) o0))
def e67L36785:Nat → (List Ent) → Int → (List Tm × List Tm × Int) → Ent → (List Tm) → Int → Int → Option (Tm × Int)
 | 0,_,_,_,_,_,_,_ => none
 | qq + 1,p0,p1,r4,x15,v14,v59,vb1_0 =>
 if decide (v59 < (List.length x15.cons:Int)) then
 gidx x15.cons v59 >>= fun x18 =>
 e138 qq (List.length r4.1:Int) >>= fun r20 =>
 e139 qq vb1_0 r20 (w64 (v59 + 1)) >>= fun r22 =>
 e140 qq v59 >>= fun r24 =>
 e133 qq r22.2 p0 x18 r22.1 r24 >>= fun r26 =>
 gapp 40 v14 [r26.1] >>= fun l28 =>
 e67L36785 qq p0 p1 r4 x15 l28 (w64 (v59 + 1)) r26.2
 else
 gidx p0 p1 >>= fun x30 =>
 e138 qq (List.length r4.1:Int) >>= fun r32 =>
 e139 qq vb1_0 r32 (w64 ((List.length x30.cons:Int) + 1)) >>= fun r34 =>
 e141 qq r34.2 r4.2.1 r34.1 >>= fun r36 =>
 gapp 40 v14 r36.1 >>= fun l38 =>
 e143 qq p1 >>= fun r41 =>
 e139 qq r36.2 r32 (w64 ((w64 ((List.length x30.cons:Int) + 1)) + (List.length r4.2.1:Int))) >>= fun r43 =>
 e142 qq r41 r43.1 >>= fun r45 =>
 e138 qq (List.length r4.2.1:Int) >>= fun r47 =>
 e142 qq r45 r47 >>= fun r49 =>
 gapp 40 l38 [r49] >>= fun l51 =>
 e140 qq (w64 ((w64 ((List.length x30.cons:Int) + (List.length r4.2.1:Int))) + 1)) >>= fun r53 =>
 e139 qq r43.2 r47 1 >>= fun r55 =>
 e142 qq r53 r55.1 >>= fun r57 =>
 e140 qq 0 >>= fun r59 =>
 e146 qq r57 r59 >>= fun r61 =>
 e145 qq l51 r61 >>= fun r63 =>
 e144 qq r55.2 r63.1 r63.2 >>= fun r65 =>
 e124 qq r65.2 r65.1 >>= fun r67 =>
 some (r67.1,r67.2.1)
def e67 (qq:Nat) (p0:List Ent) (p1 p2:Int):Option (Tm × Int) :=
 e68 qq p0 p1 p2 >>= fun r1 =>
 if r1 != 0 then
 some ((Tm.mk 0 0 []),r1)
 else
 e137 qq p0 p1 >>= fun r4 =>
 gapp 40 ([]:List Tm) r4.1 >>= fun l6 =>
 e138 qq (List.length r4.1:Int) >>= fun r9 =>
 e125 qq 0 p0 p1 p2 r9 >>= fun r11 =>
 gapp 40 l6 [r11.1] >>= fun l13 =>
 gidx p0 p1 >>= fun x15 =>
 e67L36785 qq p0 p1 r4 x15 l13 0 r11.2
def g67L36785E0 (j:Nat → Value) (p0:List Ent) (p1:Int) (r4:List Tm × List Tm × Int) (x15:Ent) (v14:List Tm) (v59 vb1_0:Int):=sp j 140 0 [(0,slv entL p0 .no),(1,ai p1),(6,.mp 0 0),(9,.mp 1 0),(11,slv tmCells r4.2.1 .no),(13,ai (List.length r4.1:Int)),(14,slv tmCells v14 (.st 0 3)),(57,slv intC x15.cons .no),(58,ai (List.length x15.cons:Int)),(59,ai v59)]
def g67L36785S0 (p0:List Ent) (p1:Int) (r4:List Tm × List Tm × Int) (x15:Ent) (v14:List Tm) (v59 vb1_0:Int):LSt:=⟨[(0,.cells [ai 0,ai 0,slv tmCells ([]:List Tm) .nl]),(1,.cells [ai vb1_0])],2,[0],1,[]⟩
abbrev K67 (p0:List Ent) (p1 p2:Int) (r:Tm × Int) (C:Cf):Prop:=C 67 [] [slv entL p0 .no,ai p1,ai p2] (.tup [tmA r.1,ai r.2]) [] 0
theorem q67:Qf 67 Tryz.f67:=⟨Tryz.func67,by kernel_rfl⟩
theorem k67 {p0 p1 p2 r} (h:K67 p0 p1 p2 r Ci):K67 p0 p1 p2 r Ct:=⟨h,⟨⟨tv,dE _⟩,tv,tv,tv⟩,forall_nil,⟨⟨tv,tv,dT _,tv⟩,tv,tv⟩,forall_nil⟩
theorem l67L36785:∀ qq:Nat,(∀ p0 p1 r4 x15 v14 v59 vb1_0 r,e67L36785 qq p0 p1 r4 x15 v14 v59 vb1_0 = some r → (∀ j,Dl Tryz.prog 0 (inn (inn (rgt (lft (rgt (rgt (rgt (rgt (rgt (rgt (rgt (bod Tryz.f67)))))))))))) (g67L36785E0 j p0 p1 r4 x15 v14 v59 vb1_0) (g67L36785S0 p0 p1 r4 x15 v14 v59 vb1_0) (frameQ Tryz.prog 0 (FinQ Tryz.prog 0 Tryz.f67 (.tup [tmA r.1,ai r.2]) [] 0) [.blk 0,.seq (rgt (rgt (rgt (rgt (rgt (rgt (rgt (rgt (bod Tryz.f67)))))))))]))):=by
 intro qq
 induction qq with
 | zero =>
  exact fun _ _ _ _ _ _ _ _ h => nn h
 | succ qq ih =>
  intro p0 p1 r4 x15 v14 v59 vb1_0 r h
  rw [e67L36785] at h
  rcases spl h with ⟨h17,h⟩ | ⟨h17,h⟩
  obtain ⟨x18,h19,h⟩:=obind h
  obtain ⟨r20,h21,h⟩:=obind h
  obtain ⟨r22,h23,h⟩:=obind h
  obtain ⟨r24,h25,h⟩:=obind h
  obtain ⟨r26,h27,h⟩:=obind h
  obtain ⟨l28,h29,h⟩:=obind h
  exact fun j => lH 1 [] [0,1] [1] [0,1,6,9,11,13,14,57,58,59] (oD (dI x15.cons) <| oD (dT l28) <| oD (dT r4.2.1) <| oD (dE p0) <| oD (dT ([]:List Tm)) <| oP 0 (apS23 h29 (by simp)) <| oS 0 (obLitR tm_eq [r26.1]) <| oC 0 [1] (c133 h27) <| oC 0 [] (c140 h25) <| oC 1 [1] (c139 h23) <| oC 1 [] (c138 h21) <| oA 0 (ix34 (o:=.no) h19) <| oB 0 h17 o0) (ih _ _ _ _ _ _ _ _ h)
  obtain ⟨x30,h31,h⟩:=obind h
  obtain ⟨r32,h33,h⟩:=obind h
  obtain ⟨r34,h35,h⟩:=obind h
  obtain ⟨r36,h37,h⟩:=obind h
  obtain ⟨l38,h39,h⟩:=obind h
  have k:=oC 0 [1] (c141 h37) <| oC 1 [1] (c139 h35) <| oC 2 [] (c138 h33) <| oA 0 (ix22 (o:=.no) h31) <| oB 0 h17 o0
  by_cases h40:List.length r36.1 = 0
  obtain ⟨r41,h42,h⟩:=obind h
  obtain ⟨r43,h44,h⟩:=obind h
  obtain ⟨r45,h46,h⟩:=obind h
  obtain ⟨r47,h48,h⟩:=obind h
  obtain ⟨r49,h50,h⟩:=obind h
  obtain ⟨l51,h52,h⟩:=obind h
  obtain ⟨r53,h54,h⟩:=obind h
  obtain ⟨r55,h56,h⟩:=obind h
  obtain ⟨r57,h58,h⟩:=obind h
  obtain ⟨r59,h60,h⟩:=obind h
  obtain ⟨r61,h62,h⟩:=obind h
  obtain ⟨r63,h64,h⟩:=obind h
  obtain ⟨r65,h66,h⟩:=obind h
  obtain ⟨r67,h68,h⟩:=obind h
  obtain rfl:=sj h
  exact fun j => lF 3 [] (oD (dT r67.1.sub) <| oC 0 [1] (c124 h68) <| oC 2 [1] (c144 h66) <| oC 0 [] (c145 h64) <| oC 0 [] (c146 h62) <| oC 2 [] (c140 h60) <| oC 0 [] (c142 h58) <| oC 0 [1] (c139 h56) <| oC 0 [] (c138 h48) <| oC 2 [] (c140 h54) <| oP 0 (apS23 h52 (by simp)) <| oS 2 (obLitR tm_eq [r49]) <| oC 0 [] (c142 h50) <| oC 0 [] (c138 h48) <| oC 0 [] (c142 h46) <| oC 2 [1] (c139 h44) <| oC 0 [] (c138 h33) <| oC 1 [] (c143 h42) <| oP 0 (apN23 h39 h40) k)
  obtain ⟨r41,h42,h⟩:=obind h
  obtain ⟨r43,h44,h⟩:=obind h
  obtain ⟨r45,h46,h⟩:=obind h
  obtain ⟨r47,h48,h⟩:=obind h
  obtain ⟨r49,h50,h⟩:=obind h
  obtain ⟨l51,h52,h⟩:=obind h
  obtain ⟨r53,h54,h⟩:=obind h
  obtain ⟨r55,h56,h⟩:=obind h
  obtain ⟨r57,h58,h⟩:=obind h
  obtain ⟨r59,h60,h⟩:=obind h
  obtain ⟨r61,h62,h⟩:=obind h
  obtain ⟨r63,h64,h⟩:=obind h
  obtain ⟨r65,h66,h⟩:=obind h
  obtain ⟨r67,h68,h⟩:=obind h
  obtain rfl:=sj h
  exact fun j => lF 3 [] (oD (dT r67.1.sub) <| oC 0 [1] (c124 h68) <| oC 2 [1] (c144 h66) <| oC 0 [] (c145 h64) <| oC 0 [] (c146 h62) <| oC 2 [] (c140 h60) <| oC 0 [] (c142 h58) <| oC 0 [1] (c139 h56) <| oC 0 [] (c138 h48) <| oC 2 [] (c140 h54) <| oP 0 (apS23 h52 (by simp)) <| oS 2 (obLitR tm_eq [r49]) <| oC 0 [] (c142 h50) <| oC 0 [] (c138 h48) <| oC 0 [] (c142 h46) <| oC 2 [1] (c139 h44) <| oC 0 [] (c138 h33) <| oC 1 [] (c143 h42) <| oP 0 (apS23 h39 h40) k)
theorem c67 {qq p0 p1 p2 r} (h:e67 qq p0 p1 p2 = some r):K67 p0 p1 p2 r Ct:=by
 unfold e67 at h
 obtain ⟨r1,h2,h⟩:=obind h
 have k:=oC 0 [] (c68 h2) o0
 rcases spl h with ⟨h3,h⟩ | ⟨h3,h⟩
 obtain rfl:=sj h
 exact k67 (tF q67 1 [] (oD (dT ([]:List Tm)) <| oB 0 h3 k))
 obtain ⟨r4,h5,h⟩:=obind h
 obtain ⟨l6,h7,h⟩:=obind h
 have k:=oC 0 [] (c137 h5) <| oB 0 h3 k
 by_cases h8:List.length r4.1 = 0
 obtain ⟨r9,h10,h⟩:=obind h
 obtain ⟨r11,h12,h⟩:=obind h
 obtain ⟨l13,h14,h⟩:=obind h
 obtain ⟨x15,h16,h⟩:=obind h
 exact k67 (tH q67 2 [] [0,1] [0] [0,1,6,9,11,13,14,57,58,59] (oD (dI x15.cons) <| oD (dT l13) <| oD (dT r4.2.1) <| oD (dE p0) <| oD (dT ([]:List Tm)) <| oA 0 (ix22 (o:=.no) h16) <| oP 0 (apS23 h14 (by simp)) <| oS 0 (obLitR tm_eq [r11.1]) <| oC 0 [1] (c125 h12) <| oC 0 [] (c138 h10) <| oP 5 (apN23 h7 h8) k) (l67L36785 _ _ _ _ _ _ _ _ _ h))
 obtain ⟨r9,h10,h⟩:=obind h
 obtain ⟨r11,h12,h⟩:=obind h
 obtain ⟨l13,h14,h⟩:=obind h
 obtain ⟨x15,h16,h⟩:=obind h
 exact k67 (tH q67 2 [] [0,1] [1] [0,1,6,9,11,13,14,57,58,59] (oD (dI x15.cons) <| oD (dT l13) <| oD (dT r4.2.1) <| oD (dE p0) <| oD (dT ([]:List Tm)) <| oA 0 (ix22 (o:=.no) h16) <| oP 0 (apS23 h14 (by simp)) <| oS 0 (obLitR tm_eq [r11.1]) <| oC 0 [1] (c125 h12) <| oC 0 [] (c138 h10) <| oP 5 (apS23 h7 h8) k) (l67L36785 _ _ _ _ _ _ _ _ _ h))
def piI (l : List Tm) (t : Tm) : Tm := l.foldr (fun a x => .mk 3 0 [a, x]) t
theorem tot_piL (l : List Tm) (hl : l.length ≤ 24) (ho : OkA l) : ∀ (m v : Nat) (t : Tm), v + m = l.length → t.Ok → Tot (fun q => e207va49556L52327 q l (v : Int) t.k t.n t.sub) (MT 0 (piI (l.take m) t)) := by
  intro m
  induction m with
  | zero =>
    intro v t hm ht
    refine Tot.succ ?_
    simp only [e207va49556L52327, tm_eta]
    refine Tot.ite (fun h => ?_) fun _ => ?_
    · have := of_decide_eq_true h
      omega
    · refine Tot.bind (P := fun b => b = shapedT t) ((ev_Shaped t ht).tot rfl) fun r hr => Tot.ite (fun h => ?_) fun _ => Tot.ret ⟨leaf_ok 0 0, by simp, by simp⟩
      refine Tot.bind (P := fun x => x = copT t) ((ev_Copy t ht).tot rfl) fun x hx => Tot.ret ?_
      subst hx
      have e : copT t = t := by unfold copT; rw [if_pos (by rw [← hr]; exact h)]
      rw [e]
      exact ⟨ht, by simp, fun _ => ⟨rfl, by simp [piI]⟩⟩
  | succ m ih =>
    intro v t hm ht
    refine Tot.succ ?_
    simp only [e207va49556L52327, tm_eta]
    refine Tot.ite (fun _ => ?_) fun h => ?_
    · have hlt : m < l.length := by omega
      rw [w64_id (x := (l.length : Int) - 1) (by omega) (by omega), w64_id (x := (l.length : Int) - 1 - v) (by omega) (by omega)]
      have hx : gidx l ((l.length : Int) - 1 - v) = some l[m] := by
        unfold gidx
        rw [if_pos (by omega), show ((l.length : Int) - 1 - v).toNat = m by omega, List.getElem?_eq_getElem hlt]
      refine Tot.pure hx (Tot.bind (P := fun r => r = Tm.mk 3 0 [l[m], t]) (Evt.tot (Evt.mk fun _ => rfl) rfl) fun r hr => ?_)
      subst hr
      rw [w64_nat v (by omega)]
      refine (ih (v + 1) _ (by omega) (ok_mk2 (ho _ (List.getElem_mem hlt)) ht)).mono fun x hx => ?_
      have e : l.take (m + 1) = l.take m ++ [l[m]] := by rw [List.take_add_one, List.getElem?_eq_getElem hlt]; rfl
      rw [e]
      unfold piI at hx ⊢
      rw [List.foldr_append]
      exact hx
    · have := of_decide_eq_false h
      omega
theorem tot_arP (t : Tm) (ht : t.Ok) : ∀ (r l : List Tm) (v : Nat), l.drop v = r → l.length ≤ 24 → OkA l → Tot (fun q => e207va49556L9593 q l t (v : Int)) (MT 0 (piI l t))
  | [], l, v, hd, hl, ho => by
    refine Tot.succ ?_
    simp only [e207va49556L9593]
    refine Tot.ite (fun h => ?_) fun _ => ?_
    · rw [drop_nil hd] at h; cases h
    · refine Tot.bind (P := fun _ => True) ((ev_Shaped t ht).tot trivial) fun r _ => Tot.ite (fun _ => ?_) fun _ => Tot.ret ⟨leaf_ok 0 0, by simp, by simp⟩
      have := tot_piL l hl ho l.length 0 t (by omega) ht
      rwa [List.take_length] at this
  | x :: r, l, v, hd, hl, ho => by
    have hlt := drop_lt hd
    refine Tot.succ ?_
    simp only [e207va49556L9593]
    refine Tot.ite (fun _ => ?_) fun h => ?_
    · refine Tot.pure (drop_idx hd) (Tot.bind (P := fun _ => True) ((ev_Shaped x (ho.at hd)).tot trivial) fun _ _ => Tot.ite (fun _ => ?_) fun _ => Tot.ret ⟨leaf_ok 0 0, by simp, by simp⟩)
      rw [w64_nat v (by omega)]
      exact tot_arP t ht r l (v + 1) (drop_next hd) hl ho
    · rw [drop_dec hd] at h; cases h
theorem tot_Pis (l : List Tm) (t : Tm) (ho : OkA l) (ht : t.Ok) : Tot (fun q => e145 q l t) (MT 0 (piI l t)) := by
  simp only [e145]
  refine Tot.bind (P := MT 0 (piI l t)) ?_ fun x hx => Tot.ret hx
  simp only [e207va49556]
  refine Tot.ite (fun _ => Tot.ret ⟨leaf_ok 0 0, by simp, by simp⟩) fun h => ?_
  have := of_decide_eq_false h
  exact tot_arP t ht l l 0 rfl (by omega) ho
def MO (e : Int) (x : Tm × Int) : Prop := x.1.Ok ∧ (e ≠ 8 → x.2 ≠ 8)
theorem MT.mo {e : Int} {v : Tm} {x : Tm × Int} (h : MT e v x) : MO e x := ⟨h.1, h.2.1⟩
theorem tot_mgot (e : Int) (t : Tm) (p : Int) (ht : t.Ok) (hp : p ≠ 8) : Tot (fun q => e144 q e t p) (MO e) := by
  refine (tot_got e t p).mono fun x hx => ⟨by rw [hx.1]; exact ht, fun he => ?_⟩
  rw [hx.2]; split
  · exact hp
  · exact he
theorem tot_asmL (p3 : Rec') (p4 p5 p6 : Int) (h3 : RecOk p3) (outer : List Tm) (ho : OkA outer) (hl : outer.length ≤ 1073741824) : ∀ (r : List Tm) (v : Nat) (e : Int) (t : Tm), p3.at'.drop v = r → t.Ok → Tot (fun q => e199L31904 q p3 p4 p5 p6 outer (v : Int) e t.k t.n t.sub) (MO e)
  | [], v, e, t, hd, ht => by
    refine Tot.succ ?_
    simp only [e199L31904, tm_eta]
    refine Tot.ite (fun h => ?_) fun _ => ?_
    · rw [drop_nil hd] at h; cases h
    · have := h3.2.2.1
      refine Tot.bind (P := fun x => x.Ok) ((ev_Var _).tot (leaf_ok _ _)) fun r20 h20 => Tot.bind (P := fun x => x = visT p3.around.length) ((ev_Vars _ this).tot rfl) fun r22 h22 => ?_
      subst h22
      refine Tot.bind (P := fun x => x.Ok) ((ev_Apply r20 _ (by rw [visT_len]; omega)).tot (apT_ok _ _ h20 (visT_ok _))) fun r24 h24 => ?_
      refine Tot.bind (P := fun x => x.Ok) ((ev_App t r24).tot (ok_mk2 ht h24)) fun r26 h26 => ?_
      refine (tot_beneaths e p3.around outer ho hl (by omega) h3.1).bind fun r28 h28 => (tot_Pis r28.1 r26 h28.1.1 h26).bind fun r30 h30 => (tot_mgot r28.2 r30.1 r30.2 h30.1 (h30.2.1 (by decide))).bind fun r32 h32 => Tot.ret ⟨h32.1, fun he => h32.2 (h28.1.2.1 he)⟩
  | x :: r, v, e, t, hd, ht => by
    have hlt := drop_lt hd
    have := h3.2.2.1
    have := h3.2.2.2
    refine Tot.succ ?_
    simp only [e199L31904, tm_eta]
    refine Tot.ite (fun _ => ?_) fun h => ?_
    · refine Tot.pure (drop_idx hd) ((tot_beneath e x _ outer (h3.2.1.at hd) (by omega) ho hl).bind fun r16 h16 => ?_)
      refine Tot.bind (P := fun x => x = Tm.mk 5 0 [t, r16.1]) ((ev_App t r16.1).tot rfl) fun r18 h18 => ?_
      subst h18
      rw [w64_nat v (by omega)]
      exact (tot_asmL p3 p4 p5 p6 h3 outer ho hl r (v + 1) r16.2 (.mk 5 0 [t, r16.1]) (drop_next hd) (ok_mk2 ht h16.1)).mono fun y hy => ⟨hy.1, fun he => hy.2 (h16.2.1 he)⟩
    · rw [drop_dec hd] at h; cases h
theorem tot_asmV (p2 : Tm) (p3 : Rec') (p4 : Nat) (p5 p6 : Int) (h2 : p2.Ok) (h3 : RecOk p3) (r1 : List Tm × Int) (h4 : p4 ≤ 65535) : ∀ (m v : Nat) (acc : List Tm), v + m = p4 → acc.length ≤ 1048576 + v → OkA acc → Tot (fun q => e199L19567 q p2 p3 (p4 : Int) p5 p6 r1 acc (v : Int)) (MO r1.2) := by
  intro m
  induction m with
  | zero =>
    intro v acc hm ha ho
    refine Tot.succ ?_
    simp only [e199L19567]
    refine Tot.ite (fun h => ?_) fun _ => (tot_up r1.2 p2 _ h2).bind fun r11 h11 => ?_
    · have := of_decide_eq_true h
      omega
    · exact (tot_asmL p3 p4 p5 p6 h3 acc ho (by omega) p3.at' 0 r11.2 r11.1 rfl h11.1).mono fun y hy => ⟨hy.1, fun he => hy.2 (h11.2.1 he)⟩
  | succ m ih =>
    intro v acc hm ha ho
    refine Tot.succ ?_
    simp only [e199L19567]
    refine Tot.ite (fun _ => ?_) fun h => ?_
    · refine Tot.bind (P := fun x => x.Ok) ((ev_Var _).tot (leaf_ok _ _)) fun r7 h7 => Tot.pure (gapp_ok (by simp <;> omega)) ?_
      rw [w64_nat v (by omega)]
      exact ih (v + 1) _ (by omega) (by simp <;> omega) (ho.app (OkA.one h7))
    · have := of_decide_eq_false h
      omega
theorem tot_assumed (e : Int) (p1 : List Tm) (p2 : Tm) (p3 : Rec') (p4 : Nat) (p5 p6 : Int) (h1 : OkA p1) (hl1 : p1.length ≤ 1048576) (h2 : p2.Ok) (h3 : RecOk p3) (h4 : p4 ≤ 65535) : Tot (fun q => e199 q e p1 p2 p3 (p4 : Int) p5 p6) (MO e) := by
  simp only [e199]
  refine (tot_ups e p1 _ (by omega) h1).bind fun r1 hr1 => Tot.pure (gapp_ok (by simp; omega)) ?_
  rw [List.nil_append]
  exact (tot_asmV p2 p3 p4 p5 p6 h2 h3 r1 h4 p4 0 r1.1 (by omega) (by omega) hr1.1.1).mono fun y hy => ⟨hy.1, fun he => hy.2 (hr1.1.2.1 he)⟩
def PartOk (p : Con') : Prop := OkA p.args ∧ OkA p.inds ∧ p.args.length ≤ 24 ∧ p.inds.length ≤ 8192 ∧ p.recs.length ≤ 24 ∧ ∀ r ∈ p.recs, RecOk r
theorem tot_metI (p2 : Int) (r1 : Con' × Int) (hp : PartOk r1.1) (v14 v18 l23 : List Tm) (r18 : List Tm × Int) (h14 : OkA v14) (h18 : OkA v18) (hl18 : v18.length ≤ 65535) (h23 : OkA l23) (hl23 : l23.length ≤ 1073741824) (hr18 : OkA r18.1) (hlr : r18.1.length ≤ 1048576) : ∀ (r : List Tm) (v : Nat) (e : Int) (t : Tm), r1.1.inds.drop v = r → t.Ok → Tot (fun q => e133L34860 q p2 r1 v14 v18 r18 l23 (v : Int) e t.k t.n t.sub) (MO e)
  | [], v, e, t, hd, ht => by
    refine Tot.succ ?_
    simp only [e133L34860, tm_eta]
    refine Tot.ite (fun h => ?_) fun _ => ?_
    · rw [drop_nil hd] at h; cases h
    · refine Tot.bind (P := fun x => x = Tm.mk 6 p2 []) (Evt.tot (Evt.mk fun _ => rfl) rfl) fun r35 h35 => ?_
      subst h35
      refine Tot.bind (P := fun x => x.Ok) ((ev_Apply _ r18.1 (by omega)).tot (apT_ok _ _ (leaf_ok _ _) hr18)) fun r37 h37 => ?_
      refine Tot.bind (P := fun x => x.Ok) ((ev_Apply r37 v18 (by omega)).tot (apT_ok _ _ h37 h18)) fun r39 h39 => ?_
      refine Tot.bind (P := fun x => x.Ok) ((ev_App t r39).tot (ok_mk2 ht h39)) fun r41 h41 => ?_
      exact (tot_Pis v14 r41 h14 h41).bind fun r43 h43 => (tot_mgot e r43.1 r43.2 h43.1 (h43.2.1 (by decide))).bind fun r45 h45 => Tot.ret h45
  | x :: r, v, e, t, hd, ht => by
    have hlt := drop_lt hd
    have := hp.2.2.2.1
    refine Tot.succ ?_
    simp only [e133L34860, tm_eta]
    refine Tot.ite (fun _ => ?_) fun h => ?_
    · refine Tot.pure (drop_idx hd) ((tot_beneath e x 0 l23 (hp.2.1.at hd) (by omega) h23 hl23).bind fun r31 h31 => ?_)
      refine Tot.bind (P := fun x => x = Tm.mk 5 0 [t, r31.1]) ((ev_App t r31.1).tot rfl) fun r33 h33 => ?_
      subst h33
      rw [w64_nat v (by omega)]
      exact (tot_metI p2 r1 hp v14 v18 l23 r18 h14 h18 hl18 h23 hl23 hr18 hlr r (v + 1) r31.2 (.mk 5 0 [t, r31.1]) (drop_next hd) (ok_mk2 ht h31.1)).mono fun y hy => ⟨hy.1, fun he => hy.2 (h31.2.1 he)⟩
    · rw [drop_dec hd] at h; cases h
theorem tot_metV (p2 : Int) (p3 : List Tm) (p4 : Tm) (r1 : Con' × Int) (hp : PartOk r1.1) (h3 : OkA p3) (hl3 : p3.length ≤ 1048576) (h4 : p4.Ok) (v14 : List Tm) (v15 e : Int) (h14 : OkA v14) : ∀ (m v : Nat) (acc : List Tm), v + m = r1.1.args.length → acc.length ≤ v → OkA acc → Tot (fun q => e133L43296 q p2 p3 p4 r1 v14 v15 e acc (v : Int)) (MO e) := by
  intro m
  have := hp.2.2.1
  induction m with
  | zero =>
    intro v acc hm ha ho
    refine Tot.succ ?_
    simp only [e133L43296]
    refine Tot.ite (fun h => ?_) fun _ => (tot_ups e p3 _ (by omega) h3).bind fun r18 h18 => ?_
    · have := of_decide_eq_true h
      omega
    · refine Tot.pure (gapp_ok (by simp; omega)) (Tot.pure (gapp_ok (by simp; omega)) ?_)
      rw [List.nil_append]
      refine (tot_up r18.2 p4 _ h4).bind fun r26 h26 => ?_
      exact (tot_metI p2 r1 hp v14 acc (r18.1 ++ acc) r18 h14 ho (by omega) (h18.1.1.app ho) (by simp; omega) h18.1.1 (by omega) r1.1.inds 0 r26.2 r26.1 rfl h26.1).mono fun y hy => ⟨hy.1, fun he => hy.2 (h26.2.1 (h18.1.2.1 he))⟩
  | succ m ih =>
    intro v acc hm ha ho
    refine Tot.succ ?_
    simp only [e133L43296]
    refine Tot.ite (fun _ => ?_) fun h => ?_
    · refine Tot.bind (P := fun x => x.Ok) ((ev_Var _).tot (leaf_ok _ _)) fun r14 h14 => Tot.pure (gapp_ok (by simp <;> omega)) ?_
      rw [w64_nat v (by omega)]
      exact ih (v + 1) _ (by omega) (by simp <;> omega) (ho.app (OkA.one h14))
    · have := of_decide_eq_false h
      omega
theorem tot_metR (p2 : Int) (p3 : List Tm) (p4 : Tm) (r1 : Con' × Int) (hp : PartOk r1.1) (h3 : OkA p3) (hl3 : p3.length ≤ 1048576) (h4 : p4.Ok) : ∀ (r : List Rec') (v : Nat) (acc : List Tm) (seen e : Int), r1.1.recs.drop v = r → v ≤ 24 → acc.length ≤ 24 + v → OkA acc → Tot (fun q => e133L8004 q p2 p3 p4 r1 acc seen (v : Int) e) (MO e)
  | [], v, acc, seen, e, hd, hv, ha, ho => by
    refine Tot.succ ?_
    simp only [e133L8004]
    refine Tot.ite (fun h => ?_) fun _ => ?_
    · rw [drop_nil hd] at h; cases h
    · exact tot_metV p2 p3 p4 r1 hp h3 hl3 h4 acc seen e ho r1.1.args.length 0 [] (by omega) (by simp) OkA.nil
  | x :: r, v, acc, seen, e, hd, hv, ha, ho => by
    have hlt := drop_lt hd
    have h5 := hp.2.2.2.2.1
    have hx : x ∈ r1.1.recs := by
      have : x ∈ r1.1.recs.drop v := by rw [hd]; simp
      exact List.mem_of_mem_drop this
    refine Tot.succ ?_
    simp only [e133L8004]
    refine Tot.ite (fun _ => ?_) fun h => ?_
    · refine Tot.pure (drop_idx hd) (Tot.ite (fun _ => ?_) fun _ => ?_)
      · refine (tot_assumed e p3 p4 x v _ seen h3 hl3 h4 (hp.2.2.2.2.2 x hx) (by omega)).bind fun r9 h9 => Tot.pure (gapp_ok (by simp <;> omega)) ?_
        rw [w64_nat v (by omega)]
        exact (tot_metR p2 p3 p4 r1 hp h3 hl3 h4 r (v + 1) _ _ r9.2 (drop_next hd) (by omega) (by simp <;> omega) (ho.app (OkA.one h9.1))).mono fun y hy => ⟨hy.1, fun he => hy.2 (h9.2 he)⟩
      · rw [w64_nat v (by omega)]
        exact tot_metR p2 p3 p4 r1 hp h3 hl3 h4 r (v + 1) acc seen e (drop_next hd) (by omega) (by omega) ho
    · rw [drop_dec hd] at h; cases h
theorem parts_ok {N : ByteArray → Bool} {l : List Ent} {i : Int} (hE : AllE N l) (h0 : 0 ≤ i) (h1 : i < l.length) (hk : (ent l i).kind = 2) : PartOk (partsT l i) := by
  obtain ⟨A, y, hw, hy, hA, hAp, hA24, p0, p1, -⟩ := con_facts hE h0 h1 hk
  have hal := ar_len _ (shapedT_spec hy).2.2
  have hn := (shapedT_spec hy).1
  unfold partsT
  rw [hw]
  refine ⟨fun x hx => shaped_ok (hA x (List.mem_of_mem_drop hx)), fun x hx => shaped_ok (ar_shaped hy (List.mem_of_mem_drop hx)), ?_, ?_, ?_, recs_ok l _ _ _⟩
  · show (A.drop _).length ≤ 24
    rw [List.length_drop]; omega
  · show ((arT y).drop _).length ≤ 8192
    rw [List.length_drop]; omega
  · show (recsT l _ (A.drop _) _).length ≤ 24
    rw [recsT_len, List.length_drop]; omega
theorem ev_Parts {N : ByteArray → Bool} (l : List Ent) (i : Int) (hF : Evt (fun q => e73 q l) true) (hE : AllE N l) (he : ∀ e ∈ l, EOk e) (h : isT l i 2 = true) : Evt (fun q => e198 q l i) (partsT l i, 0) := by
  have hi := isT_spec h
  simp only [e198]
  exact hF.bind (Evt.ifT rfl (((ev_is l i 2).eq h).bind (Evt.ifT rfl ((ev_parts l i hE hi.1 hi.2.1 hi.2.2 he).bind Evt.ret))))
theorem tot_method {N : ByteArray → Bool} (l : List Ent) (c : Int) (hF : Evt (fun q => e73 q l) true) (hE : AllE N l) (he : ∀ e ∈ l, EOk e) (hc : isT l c 2 = true) (e : Int) (p3 : List Tm) (p4 : Tm) (h3 : OkA p3) (hl3 : p3.length ≤ 1048576) (h4 : p4.Ok) : Tot (fun q => e133 q e l c p3 p4) (MO e) := by
  have hi := isT_spec hc
  have hp := parts_ok hE hi.1 hi.2.1 hi.2.2
  simp only [e133]
  refine Tot.bind (P := fun r => r = (partsT l c, 0)) ((ev_Parts l c hF hE he hc).tot rfl) fun r1 hr1 => ?_
  subst hr1
  refine (tot_beneaths e (partsT l c).args p3 h3 (by omega) (by have := hp.2.2.1; omega) hp.1).bind fun r3 h3' => ?_
  have := hp.2.2.1
  exact (tot_metR c p3 p4 (partsT l c, 0) hp h3 hl3 h4 (partsT l c).recs 0 r3.1 0 r3.2 rfl (by omega) (by have := h3'.2; omega) h3'.1.1).mono fun y hy => ⟨hy.1, fun he => hy.2 (h3'.1.2.1 he)⟩
def parsT (l : List Ent) (d : Int) : List Tm × List Tm :=
  ((splitT (ent l d).type ((ent l d).pars + (ent l d).inds)).1.take (ent l d).pars.toNat, (splitT (ent l d).type ((ent l d).pars + (ent l d).inds)).1.drop (ent l d).pars.toNat)
theorem pars_facts {N : ByteArray → Bool} {l : List Ent} {d : Int} (hE : AllE N l) (h : isT l d 1 = true) : (splitT (ent l d).type ((ent l d).pars + (ent l d).inds)).2.2 = 0 ∧ ((splitT (ent l d).type ((ent l d).pars + (ent l d).inds)).1.length : Int) = (ent l d).pars + (ent l d).inds ∧ (∀ x ∈ (splitT (ent l d).type ((ent l d).pars + (ent l d).inds)).1, shapedT x = true) ∧ 0 ≤ (ent l d).pars ∧ 0 ≤ (ent l d).inds ∧ (ent l d).pars + (ent l d).inds ≤ 24 ∧ (ent l d).cons.length ≤ 16 ∧ ∀ c ∈ (ent l d).cons, isT l c 2 = true := by
  have hi := isT_spec h
  have hft := (entryT_spec (hE.2 d hi.1 hi.2.1)).2.1 hi.2.2
  have hs := familyT_spec hft
  unfold familyT famB famC at hft
  simp only [Bool.and_eq_true, beq_iff_eq] at hft
  have hb := hft.1.1.2.1.1
  have hsp := splitT_ok (t := (ent l d).type) (n := (ent l d).pars + (ent l d).inds) (l := (splitT (ent l d).type ((ent l d).pars + (ent l d).inds)).1) (y := (splitT (ent l d).type ((ent l d).pars + (ent l d).inds)).2.1) (by rw [← hb])
  have key : ∀ (r : List Int) (k : Int), memT l d 2 r k = true → ∀ n ∈ r, isT l n 2 = true := by
    intro r
    induction r with
    | nil => intro k _ n hn; cases hn
    | cons a r ih =>
      intro k h n hn
      rw [memT] at h
      simp only [Bool.and_eq_true] at h
      rcases List.mem_cons.1 hn with rfl | hn
      · exact h.1.1.1
      · exact ih _ h.2 n hn
  exact ⟨hb, hsp.2.2.2.1, hsp.2.2.2.2.2.2, hs.1, hs.2.1, hs.2.2.1, hs.2.2.2, key _ 0 hft.1.2.2⟩
theorem ev_Pars {N : ByteArray → Bool} (l : List Ent) (d : Int) (hF : Evt (fun q => e73 q l) true) (hE : AllE N l) (he : ∀ e ∈ l, EOk e) (h : isT l d 1 = true) : Evt (fun q => e137 q l d) ((parsT l d).1, (parsT l d).2, 0) := by
  have hi := isT_spec h
  obtain ⟨h0, h1, h2, h3, h4, h5, -, -⟩ := pars_facts hE h
  simp only [e137]
  refine hF.bind (Evt.ifT rfl (((ev_is l d 1).eq h).bind (Evt.ifT rfl (Evt.pure (gidx_ent hi.1 hi.2.1) ?_))))
  rw [w64_id (x := (ent l d).pars + (ent l d).inds) (by omega) (by omega)]
  refine (ev_Split _ _ (he _ (ent_mem hi.1 hi.2.1)).1).bind (Evt.pure (a := (parsT l d).1) ?_ (Evt.pure (gsl_from h3 (by omega)) Evt.ret))
  rw [gsl_mid (by omega) h3 (by omega)]
  unfold parsT; simp
theorem pars_ok {N : ByteArray → Bool} {l : List Ent} {d : Int} (hE : AllE N l) (h : isT l d 1 = true) : OkA (parsT l d).1 ∧ OkA (parsT l d).2 ∧ (parsT l d).1.length ≤ 24 ∧ (parsT l d).2.length ≤ 24 := by
  obtain ⟨h0, h1, h2, h3, h4, h5, -, -⟩ := pars_facts hE h
  refine ⟨fun x hx => shaped_ok (h2 x (List.mem_of_mem_take hx)), fun x hx => shaped_ok (h2 x (List.mem_of_mem_drop hx)), ?_, ?_⟩
  · unfold parsT; rw [List.length_take]; omega
  · unfold parsT; rw [List.length_drop]; omega
theorem tot_motive {N : ByteArray → Bool} (l : List Ent) (d lev : Int) (hF : Evt (fun q => e73 q l) true) (hE : AllE N l) (he : ∀ e ∈ l, EOk e) (h : isT l d 1 = true) (e : Int) (p4 : List Tm) (h4 : OkA p4) (hl4 : p4.length ≤ 1048576) : Tot (fun q => e125 q e l d lev p4) (MO e) := by
  obtain ⟨o1, o2, l1, l2⟩ := pars_ok hE h
  simp only [e125]
  refine Tot.bind (P := fun r => r = ((parsT l d).1, (parsT l d).2, 0)) ((ev_Pars l d hF hE he h).tot rfl) fun r1 hr1 => ?_
  subst hr1
  refine Tot.bind (P := fun x => x = Tm.mk 6 d []) (Evt.tot (Evt.mk fun _ => rfl) rfl) fun r3 h3 => ?_
  subst h3
  refine (tot_ups e p4 _ (by omega) h4).bind fun r5 h5 => ?_
  refine Tot.bind (P := fun x => x.Ok) ((ev_Apply _ r5.1 (by omega)).tot (apT_ok _ _ (leaf_ok _ _) h5.1.1)) fun r7 h7 => ?_
  refine Tot.bind (P := fun x => x = visT (parsT l d).2.length) ((ev_Vars (parsT l d).2.length (by omega)).tot rfl) fun r9 h9 => ?_
  subst h9
  refine Tot.bind (P := fun x => x.Ok) ((ev_Apply r7 _ (by rw [visT_len]; omega)).tot (apT_ok _ _ h7 (visT_ok _))) fun r11 h11 => ?_
  refine (tot_beneaths r5.2 (parsT l d).2 p4 h4 (by omega) (by omega) o2).bind fun r13 h13 => Tot.pure (gapp_ok (by simp; have := h13.2; omega)) ?_
  refine Tot.bind (P := fun x => x.Ok) ((ev_Sort lev).tot (leaf_ok _ _)) fun r17 h17 => ?_
  exact (tot_Pis (r13.1 ++ [r11]) r17 (h13.1.1.app (OkA.one h11)) h17).bind fun r19 h19 => (tot_mgot r13.2 r19.1 r19.2 h19.1 (h19.2.1 (by decide))).bind fun r21 h21 => Tot.ret ⟨h21.1, fun he => h21.2 (h13.1.2.1 (h5.1.2.1 he))⟩
theorem tot_typL {N : ByteArray → Bool} (l : List Ent) (d : Int) (hF : Evt (fun q => e73 q l) true) (hE : AllE N l) (he : ∀ e ∈ l, EOk e) (h : isT l d 1 = true) : ∀ (r : List Int) (v : Nat) (acc : List Tm) (e : Int), (ent l d).cons.drop v = r → v ≤ 16 → acc.length ≤ 32 + v → OkA acc → Tot (fun q => e67L36785 q l d ((parsT l d).1, (parsT l d).2, 0) (ent l d) acc (v : Int) e) (MO e)
  | [], v, acc, e, hd, hv, ha, ho => by
    have hi := isT_spec h
    obtain ⟨o1, o2, l1, l2⟩ := pars_ok hE h
    obtain ⟨-, -, -, -, -, -, hcl, -⟩ := pars_facts hE h
    refine Tot.succ ?_
    simp only [e67L36785]
    refine Tot.ite (fun h => ?_) fun _ => ?_
    · rw [drop_nil hd] at h; cases h
    · refine Tot.pure (gidx_ent hi.1 hi.2.1) (Tot.bind (P := fun x => x = visT (parsT l d).1.length) ((ev_Vars (parsT l d).1.length (by omega)).tot rfl) fun r32 h32 => ?_)
      subst h32
      refine (tot_ups e _ _ (by rw [visT_len]; omega) (visT_ok _)).bind fun r34 h34 => ?_
      have hl34 := h34.2
      rw [visT_len] at hl34
      refine (tot_beneaths r34.2 (parsT l d).2 r34.1 h34.1.1 (by omega) (by omega) o2).bind fun r36 h36 => Tot.pure (gapp_ok (by have := h36.2; omega)) ?_
      refine Tot.bind (P := fun x => x = Tm.mk 6 d []) (Evt.tot (Evt.mk fun _ => rfl) rfl) fun r41 h41 => ?_
      subst h41
      refine (tot_ups r36.2 _ _ (by rw [visT_len]; omega) (visT_ok _)).bind fun r43 h43 => ?_
      have hl43 := h43.2
      rw [visT_len] at hl43
      refine Tot.bind (P := fun x => x.Ok) ((ev_Apply _ r43.1 (by omega)).tot (apT_ok _ _ (leaf_ok _ _) h43.1.1)) fun r45 h45 => ?_
      refine Tot.bind (P := fun x => x = visT (parsT l d).2.length) ((ev_Vars (parsT l d).2.length (by omega)).tot rfl) fun r47 h47 => ?_
      subst h47
      refine Tot.bind (P := fun x => x.Ok) ((ev_Apply r45 _ (by rw [visT_len]; omega)).tot (apT_ok _ _ h45 (visT_ok _))) fun r49 h49 => ?_
      refine Tot.pure (gapp_ok (by simp; have := h36.2; omega)) ?_
      refine Tot.bind (P := fun x => x.Ok) ((ev_Var _).tot (leaf_ok _ _)) fun r53 h53 => ?_
      refine (tot_ups r43.2 _ _ (by rw [visT_len]; omega) (visT_ok _)).bind fun r55 h55 => ?_
      have hl55 := h55.2
      rw [visT_len] at hl55
      refine Tot.bind (P := fun x => x.Ok) ((ev_Apply r53 r55.1 (by omega)).tot (apT_ok _ _ h53 h55.1.1)) fun r57 h57 => ?_
      refine Tot.bind (P := fun x => x.Ok) ((ev_Var _).tot (leaf_ok _ _)) fun r59 h59 => ?_
      refine Tot.bind (P := fun x => x.Ok) ((ev_App r57 r59).tot (ok_mk2 h57 h59)) fun r61 h61 => ?_
      refine (tot_Pis _ r61 ((ho.app h36.1.1).app (OkA.one h49)) h61).bind fun r63 h63 => (tot_mgot r55.2 r63.1 r63.2 h63.1 (h63.2.1 (by decide))).bind fun r65 h65 => (tot_done r65.2 r65.1 h65.1).bind fun r67 h67 => Tot.ret ⟨h67.1, fun he => h67.2.1 (h65.2 (h55.1.2.1 (h43.1.2.1 (h36.1.2.1 (h34.1.2.1 he)))))⟩
  | c :: r, v, acc, e, hd, hv, ha, ho => by
    have hlt := drop_lt hd
    obtain ⟨o1, o2, l1, l2⟩ := pars_ok hE h
    obtain ⟨-, -, -, -, -, -, hcl, hcons⟩ := pars_facts hE h
    have hc : c ∈ (ent l d).cons := by
      have : c ∈ (ent l d).cons.drop v := by rw [hd]; simp
      exact List.mem_of_mem_drop this
    refine Tot.succ ?_
    simp only [e67L36785]
    refine Tot.ite (fun _ => ?_) fun h => ?_
    · refine Tot.pure (drop_idx hd) (Tot.bind (P := fun x => x = visT (parsT l d).1.length) ((ev_Vars (parsT l d).1.length (by omega)).tot rfl) fun r20 h20 => ?_)
      subst h20
      refine (tot_ups e _ _ (by rw [visT_len]; omega) (visT_ok _)).bind fun r22 h22 => ?_
      have hl22 := h22.2
      rw [visT_len] at hl22
      refine Tot.bind (P := fun x => x.Ok) ((ev_Var _).tot (leaf_ok _ _)) fun r24 h24 => ?_
      refine (tot_method l c hF hE he (hcons c hc) r22.2 r22.1 r24 h22.1.1 (by omega) h24).bind fun r26 h26 => Tot.pure (gapp_ok (by simp <;> omega)) ?_
      rw [w64_nat v (by omega)]
      exact (tot_typL l d hF hE he h r (v + 1) _ r26.2 (drop_next hd) (by omega) (by simp <;> omega) (ho.app (OkA.one h26.1))).mono fun y hy => ⟨hy.1, fun he => hy.2 (h26.2 (h22.1.2.1 he))⟩
    · rw [drop_dec hd] at h; cases h
theorem tot_iType {N : ByteArray → Bool} (l : List Ent) (d lev : Int) (hF : Evt (fun q => e73 q l) true) (hE : AllE N l) (he : ∀ e ∈ l, EOk e) : Tot (fun q => e67 q l d lev) (MO 0) := by
  have bad : ∀ e : Int, e ≠ 8 → MO 0 (.mk 0 0 [], e) := fun e h => ⟨leaf_ok 0 0, fun _ => h⟩
  simp only [e67, e68]
  refine Tot.bind (P := fun r => r ≠ 8 ∧ (r = 0 → isT l d 1 = true)) ?_ fun r1 hr1 => Tot.ite (fun _ => Tot.ret (bad _ hr1.1)) fun h => ?_
  · refine Tot.bind (P := fun b => b = true) (hF.tot rfl) fun b hb => Tot.ite (fun _ => ?_) fun h => by rw [hb] at h; cases h
    refine Tot.bind (P := fun b => b = isT l d 1) ((ev_iIs l d 1).tot rfl) fun b2 hb2 => Tot.ite (fun h2 => ?_) fun _ => Tot.ret ⟨by decide, fun h => by cases h⟩
    exact Tot.ite (fun _ => Tot.ret ⟨by decide, fun h => by cases h⟩) fun _ => Tot.ite (fun _ => Tot.ret ⟨by decide, fun h => by cases h⟩) fun _ => Tot.ret ⟨by decide, fun _ => by rw [← hb2]; exact h2⟩
  · have h0 : r1 = 0 := by simpa using h
    have hd := hr1.2 h0
    have hi := isT_spec hd
    obtain ⟨o1, o2, l1, l2⟩ := pars_ok hE hd
    refine Tot.bind (P := fun r => r = ((parsT l d).1, (parsT l d).2, 0)) ((ev_Pars l d hF hE he hd).tot rfl) fun r4 hr4 => ?_
    subst hr4
    refine Tot.pure (gapp_ok (by simp; omega)) (Tot.bind (P := fun x => x = visT (parsT l d).1.length) ((ev_Vars (parsT l d).1.length (by omega)).tot rfl) fun r9 h9 => ?_)
    subst h9
    refine (tot_motive l d lev hF hE he hd 0 _ (visT_ok _) (by rw [visT_len]; omega)).bind fun r11 h11 => Tot.pure (gapp_ok (by simp; omega)) (Tot.pure (gidx_ent hi.1 hi.2.1) ?_)
    exact (tot_typL l d hF hE he hd (ent l d).cons 0 _ r11.2 rfl (by omega) (by simp; omega) ((OkA.nil.app o1).app (OkA.one h11.1))).mono fun y hy => ⟨hy.1, fun he => hy.2 (h11.2 he)⟩
def e189 (qq:Nat) (M:Mach) (fl fu:Int) (q0_World_Context:List Tm) (q0_World_Names:List Int) (q0_World_Types:List Tm) (q0_l:List Ent) (p1:Int):Option (Tm × Int) :=
 if decide (p1 ≥ (List.length q0_World_Context:Int)) then
 some ((Tm.mk 0 0 []),3)
 else
 gidx q0_World_Context (w64 ((w64 ((List.length q0_World_Context:Int) - 1)) - p1)) >>= fun x2 =>
 e246 qq x2 (w64 (p1 + 1)) >>= fun r4 =>
 some (r4.1,r4.2)
abbrev K189 (M:Mach) (fl fu:Int) (q0_World_Context:List Tm) (q0_World_Names:List Int) (q0_World_Types:List Tm) (q0_l:List Ent) (p1:Int) (r:Tm × Int) (C:Cf):Prop:=C 189 [.cells [.mp 1 0,.mp 3 0,slv tmCells q0_World_Context .no,slv intC q0_World_Names .no,slv tmCells q0_World_Types .no,slv entL q0_l .no],mB M 2,mR M,.cells [ai fl,ai fu]] [.mp 0 0,ai p1] (.tup [tmA r.1,ai r.2]) [.cells [.mp 1 0,.mp 3 0,slv tmCells q0_World_Context .no,slv intC q0_World_Names .no,slv tmCells q0_World_Types .no,slv entL q0_l .no],mB M 2,mR M,.cells [ai fl,ai fu]] 0
theorem q189:Qf 189 Tryz.f189:=⟨Tryz.func189,by kernel_rfl⟩
theorem k189 {M fl fu q0_World_Context q0_World_Names q0_World_Types q0_l p1 r} (h:K189 M fl fu q0_World_Context q0_World_Names q0_World_Types q0_l p1 r Ci):K189 M fl fu q0_World_Context q0_World_Names q0_World_Types q0_l p1 r Ct:=⟨h,⟨(lz rfl),tv,tv⟩,(forall_cons ⟨(lz rfl),(lz rfl),⟨tv,dT _⟩,⟨tv,dI _⟩,⟨tv,dT _⟩,⟨tv,dE _⟩,tv⟩ (forall_cons ⟨⟨tv,dE _⟩,(lz rfl),⟨tv,dI _⟩,⟨tv,dI _⟩,tv⟩ (forall_cons ⟨⟨tv,dE _⟩,⟨tv,dC _⟩,tv⟩ (forall_cons ⟨tv,tv,tv⟩ forall_nil)))),⟨⟨tv,tv,dT _,tv⟩,tv,tv⟩,(forall_cons ⟨(lz rfl),(lz rfl),dT _,dI _,dT _,dE _,tv⟩ (forall_cons ⟨dE _,(lz rfl),dI _,dI _,tv⟩ (forall_cons ⟨dE _,dC _,tv⟩ (forall_cons ⟨tv,tv,tv⟩ forall_nil))))⟩
theorem c189 {qq M fl fu q0_World_Context q0_World_Names q0_World_Types q0_l p1 r} (h:e189 qq M fl fu q0_World_Context q0_World_Names q0_World_Types q0_l p1 = some r):K189 M fl fu q0_World_Context q0_World_Names q0_World_Types q0_l p1 r Ct:=by
 unfold e189 at h
 rcases spl h with ⟨h1,h⟩ | ⟨h1,h⟩
 obtain rfl:=sj h
 exact k189 (tF q189 1 [0,1,2,3] (oD (dT ([]:List Tm)) <| oD (dC M.parts) <| oD (dE M.rl) <| oD (dI M.own) <| oD (dI M.args) <| oD (dE M.l) <| oD (dE q0_l) <| oD (dT q0_World_Types) <| oD (dI q0_World_Names) <| oD (dT q0_World_Context) <| oB 2 h1 o0))
 obtain ⟨x2,h3,h⟩:=obind h
 obtain ⟨r4,h5,h⟩:=obind h
 obtain rfl:=sj h
 exact k189 (tF q189 3 [0,1,2,3] (oD (dT r4.1.sub) <| oD (dC M.parts) <| oD (dE M.rl) <| oD (dI M.own) <| oD (dI M.args) <| oD (dE M.l) <| oD (dE q0_l) <| oD (dT q0_World_Types) <| oD (dI q0_World_Names) <| oD (dT q0_World_Context) <| oC 2 [] (c246 h5) <| oA 5 (ix23 (o:=.no) h3) <| oB 2 h1 o0))
def e190L37628:Nat → Mach → Int → Int → (List Tm) → (List Int) → (List Tm) → (List Ent) → Int → Int → Option (Tm × Int)
 | 0,_,_,_,_,_,_,_,_,_ => none
 | qq + 1,M,fl,fu,q0_World_Context,q0_World_Names,q0_World_Types,q0_l,p1,v6 =>
 if decide (v6 ≥ 0) then
 gidx q0_World_Names v6 >>= fun x2 =>
 if x2 == p1 then
 gidx q0_World_Types v6 >>= fun x5 =>
 e246 qq x5 (List.length q0_World_Context:Int) >>= fun r7 =>
 some (r7.1,r7.2)
 else
 e190L37628 qq M fl fu q0_World_Context q0_World_Names q0_World_Types q0_l p1 (w64 (v6 - 1))
 else
 some ((Tm.mk 0 0 []),3)
def e190 (qq:Nat) (M:Mach) (fl fu:Int) (q0_World_Context:List Tm) (q0_World_Names:List Int) (q0_World_Types:List Tm) (q0_l:List Ent) (p1:Int):Option (Tm × Int) :=
 e190L37628 qq M fl fu q0_World_Context q0_World_Names q0_World_Types q0_l p1 (w64 ((List.length q0_World_Names:Int) - 1))
def g190L37628E0 (j:Nat → Value) (M:Mach) (fl fu:Int) (q0_World_Context:List Tm) (q0_World_Names:List Int) (q0_World_Types:List Tm) (q0_l:List Ent) (p1 v6:Int):=sp j 46 0 [(0,.mp 0 0),(1,ai p1),(4,.mp 4 0),(6,ai v6)]
def g190L37628S0 (M:Mach) (fl fu:Int) (q0_World_Context:List Tm) (q0_World_Names:List Int) (q0_World_Types:List Tm) (q0_l:List Ent) (p1 v6:Int):LSt:=⟨[(0,.cells [.mp 1 0,.mp 3 0,slv tmCells q0_World_Context .no,slv intC q0_World_Names .no,slv tmCells q0_World_Types .no,slv entL q0_l .no]),(1,mB M 2),(2,mR M),(3,.cells [ai fl,ai fu]),(4,.cells [ai 0,ai 0,slv tmCells ([]:List Tm) .nl])],5,[],0,[]⟩
abbrev K190 (M:Mach) (fl fu:Int) (q0_World_Context:List Tm) (q0_World_Names:List Int) (q0_World_Types:List Tm) (q0_l:List Ent) (p1:Int) (r:Tm × Int) (C:Cf):Prop:=C 190 [.cells [.mp 1 0,.mp 3 0,slv tmCells q0_World_Context .no,slv intC q0_World_Names .no,slv tmCells q0_World_Types .no,slv entL q0_l .no],mB M 2,mR M,.cells [ai fl,ai fu]] [.mp 0 0,ai p1] (.tup [tmA r.1,ai r.2]) [.cells [.mp 1 0,.mp 3 0,slv tmCells q0_World_Context .no,slv intC q0_World_Names .no,slv tmCells q0_World_Types .no,slv entL q0_l .no],mB M 2,mR M,.cells [ai fl,ai fu]] 0
theorem q190:Qf 190 Tryz.f190:=⟨Tryz.func190,by kernel_rfl⟩
theorem k190 {M fl fu q0_World_Context q0_World_Names q0_World_Types q0_l p1 r} (h:K190 M fl fu q0_World_Context q0_World_Names q0_World_Types q0_l p1 r Ci):K190 M fl fu q0_World_Context q0_World_Names q0_World_Types q0_l p1 r Ct:=⟨h,⟨(lz rfl),tv,tv⟩,(forall_cons ⟨(lz rfl),(lz rfl),⟨tv,dT _⟩,⟨tv,dI _⟩,⟨tv,dT _⟩,⟨tv,dE _⟩,tv⟩ (forall_cons ⟨⟨tv,dE _⟩,(lz rfl),⟨tv,dI _⟩,⟨tv,dI _⟩,tv⟩ (forall_cons ⟨⟨tv,dE _⟩,⟨tv,dC _⟩,tv⟩ (forall_cons ⟨tv,tv,tv⟩ forall_nil)))),⟨⟨tv,tv,dT _,tv⟩,tv,tv⟩,(forall_cons ⟨(lz rfl),(lz rfl),dT _,dI _,dT _,dE _,tv⟩ (forall_cons ⟨dE _,(lz rfl),dI _,dI _,tv⟩ (forall_cons ⟨dE _,dC _,tv⟩ (forall_cons ⟨tv,tv,tv⟩ forall_nil))))⟩
theorem l190L37628:∀ qq:Nat,(∀ M fl fu q0_World_Context q0_World_Names q0_World_Types q0_l p1 v6 r,e190L37628 qq M fl fu q0_World_Context q0_World_Names q0_World_Types q0_l p1 v6 = some r → (∀ j,Dl Tryz.prog 4 (inn (inn (rgt (lft (rgt (bod Tryz.f190)))))) (g190L37628E0 j M fl fu q0_World_Context q0_World_Names q0_World_Types q0_l p1 v6) (g190L37628S0 M fl fu q0_World_Context q0_World_Names q0_World_Types q0_l p1 v6) (frameQ Tryz.prog 4 (FinQ Tryz.prog 4 Tryz.f190 (.tup [tmA r.1,ai r.2]) [.cells [.mp 1 0,.mp 3 0,slv tmCells q0_World_Context .no,slv intC q0_World_Names .no,slv tmCells q0_World_Types .no,slv entL q0_l .no],mB M 2,mR M,.cells [ai fl,ai fu]] 0) [.blk 0,.seq (rgt (rgt (bod Tryz.f190)))]))):=by
 intro qq
 induction qq with
 | zero =>
  exact fun _ _ _ _ _ _ _ _ _ _ h => nn h
 | succ qq ih =>
  intro M fl fu q0_World_Context q0_World_Names q0_World_Types q0_l p1 v6 r h
  rw [e190L37628] at h
  rcases spl h with ⟨h1,h⟩ | ⟨h1,h⟩
  obtain ⟨x2,h3,h⟩:=obind h
  have k:=oA 1 (ix34 (o:=.no) h3) <| oB 0 h1 o0
  rcases spl h with ⟨h4,h⟩ | ⟨h4,h⟩
  obtain ⟨x5,h6,h⟩:=obind h
  obtain ⟨r7,h8,h⟩:=obind h
  obtain rfl:=sj h
  exact fun j => lF 3 [0,1,2,3] (oD (dT r7.1.sub) <| oD (dC M.parts) <| oD (dE M.rl) <| oD (dI M.own) <| oD (dI M.args) <| oD (dE M.l) <| oD (dE q0_l) <| oD (dT q0_World_Types) <| oD (dI q0_World_Names) <| oD (dT q0_World_Context) <| oC 3 [] (c246 h8) <| oA 1 (ix23 (o:=.no) h6) <| oB 1 h4 k)
  exact fun j => lH 1 [] [0,1,2,3,4] [] [0,1,4,6] (oD (dT ([]:List Tm)) <| oD (dC M.parts) <| oD (dE M.rl) <| oD (dI M.own) <| oD (dI M.args) <| oD (dE M.l) <| oD (dE q0_l) <| oD (dT q0_World_Types) <| oD (dI q0_World_Names) <| oD (dT q0_World_Context) <| oB 1 h4 k) (ih _ _ _ _ _ _ _ _ _ _ h)
  obtain rfl:=sj h
  exact fun j => lF 1 [0,1,2,3] (oD (dT ([]:List Tm)) <| oD (dC M.parts) <| oD (dE M.rl) <| oD (dI M.own) <| oD (dI M.args) <| oD (dE M.l) <| oD (dE q0_l) <| oD (dT q0_World_Types) <| oD (dI q0_World_Names) <| oD (dT q0_World_Context) <| oB 0 h1 o0)
theorem c190 {qq M fl fu q0_World_Context q0_World_Names q0_World_Types q0_l p1 r} (h:e190 qq M fl fu q0_World_Context q0_World_Names q0_World_Types q0_l p1 = some r):K190 M fl fu q0_World_Context q0_World_Names q0_World_Types q0_l p1 r Ct:=by
 unfold e190 at h
 exact k190 (tH q190 3 [] [0,1,2,3,4] [] [0,1,4,6] (oD (dT ([]:List Tm)) <| oD (dC M.parts) <| oD (dE M.rl) <| oD (dI M.own) <| oD (dI M.args) <| oD (dE M.l) <| oD (dE q0_l) <| oD (dT q0_World_Types) <| oD (dI q0_World_Names) <| oD (dT q0_World_Context) o0) (l190L37628 _ _ _ _ _ _ _ _ _ _ _ h))
def e248 (qq:Nat) (M:Mach) (fl fu:Int) (q0_World_Context:List Tm) (q0_World_Names:List Int) (q0_World_Types:List Tm) (q0_l:List Ent) (p1:Tm):Option (List Tm × List Int × List Tm × List Ent) :=
 gsl q0_World_Context 0 (List.length q0_World_Context:Int) >>= fun x1 =>
 gapp 40 x1 [p1] >>= fun l3 =>
 some (l3,q0_World_Names,q0_World_Types,q0_l)
abbrev K248 (M:Mach) (fl fu:Int) (q0_World_Context:List Tm) (q0_World_Names:List Int) (q0_World_Types:List Tm) (q0_l:List Ent) (p1:Tm) (r:List Tm × List Int × List Tm × List Ent) (C:Cf):Prop:=C 248 [.cells [.mp 1 0,.mp 3 0,slv tmCells q0_World_Context .no,slv intC q0_World_Names .no,slv tmCells q0_World_Types .no,slv entL q0_l .no],mB M 2,mR M,.cells [ai fl,ai fu]] [.mp 0 0,tmA p1] (.mp 4 0) [.cells [.mp 1 0,.mp 3 0,slv tmCells q0_World_Context .no,slv intC q0_World_Names .no,slv tmCells q0_World_Types .no,slv entL q0_l .no],mB M 2,mR M,.cells [ai fl,ai fu],.cells [.mp 1 0,.mp 3 0,slv tmCells r.1 .no,slv intC r.2.1 .no,slv tmCells r.2.2.1 .no,slv entL r.2.2.2 .no]] 0
theorem q248:Qf 248 Tryz.f248:=⟨Tryz.func248,by kernel_rfl⟩
theorem k248 {M fl fu q0_World_Context q0_World_Names q0_World_Types q0_l p1 r} (h:K248 M fl fu q0_World_Context q0_World_Names q0_World_Types q0_l p1 r Ci):K248 M fl fu q0_World_Context q0_World_Names q0_World_Types q0_l p1 r Ct:=⟨h,⟨(lz rfl),⟨tv,tv,⟨tv,dT _⟩,tv⟩,tv⟩,(forall_cons ⟨(lz rfl),(lz rfl),⟨tv,dT _⟩,⟨tv,dI _⟩,⟨tv,dT _⟩,⟨tv,dE _⟩,tv⟩ (forall_cons ⟨⟨tv,dE _⟩,(lz rfl),⟨tv,dI _⟩,⟨tv,dI _⟩,tv⟩ (forall_cons ⟨⟨tv,dE _⟩,⟨tv,dC _⟩,tv⟩ (forall_cons ⟨tv,tv,tv⟩ forall_nil)))),(lz rfl),(forall_cons ⟨(lz rfl),(lz rfl),dT _,dI _,dT _,dE _,tv⟩ (forall_cons ⟨dE _,(lz rfl),dI _,dI _,tv⟩ (forall_cons ⟨dE _,dC _,tv⟩ (forall_cons ⟨tv,tv,tv⟩ (forall_cons ⟨(lz rfl),(lz rfl),dT _,dI _,dT _,dE _,tv⟩ forall_nil)))))⟩
theorem c248 {qq M fl fu q0_World_Context q0_World_Names q0_World_Types q0_l p1 r} (h:e248 qq M fl fu q0_World_Context q0_World_Names q0_World_Types q0_l p1 = some r):K248 M fl fu q0_World_Context q0_World_Names q0_World_Types q0_l p1 r Ct:=by
 unfold e248 at h
 obtain ⟨x1,h2,h⟩:=obind h
 obtain ⟨l3,h4,h⟩:=obind h
 obtain rfl:=sj h
 exact k248 (tF q248 1 [0,1,2,3,5] (oD (dE q0_l) <| oD (dT q0_World_Types) <| oD (dI q0_World_Names) <| oD (dT l3) <| oD (dC M.parts) <| oD (dE M.rl) <| oD (dI M.own) <| oD (dI M.args) <| oD (dE M.l) <| oD (dE q0_l) <| oD (dT q0_World_Types) <| oD (dI q0_World_Names) <| oD (dT q0_World_Context) <| oP 0 (apS23 h4 (by simp)) <| oS 1 (obLitR tm_eq [p1]) <| oA 7 (slTo3_23 (o:=.no) h2) o0))
def e249 (qq:Nat) (p0:Tm):Option (Tm × Int) :=
 e91 qq p0 >>= fun r1 =>
 if r1 then
 some (p0,0)
 else
 some ((Tm.mk 0 0 []),2)
abbrev K249 (p0:Tm) (r:Tm × Int) (C:Cf):Prop:=C 249 [] [tmA p0] (.tup [tmA r.1,ai r.2]) [] 0
theorem q249:Qf 249 Tryz.f249:=⟨Tryz.func249,by kernel_rfl⟩
theorem k249 {p0 r} (h:K249 p0 r Ci):K249 p0 r Ct:=⟨h,⟨⟨tv,tv,⟨tv,dT _⟩,tv⟩,tv⟩,forall_nil,⟨⟨tv,tv,dT _,tv⟩,tv,tv⟩,forall_nil⟩
theorem c249 {qq p0 r} (h:e249 qq p0 = some r):K249 p0 r Ct:=by
 unfold e249 at h
 obtain ⟨r1,h2,h⟩:=obind h
 rcases spl h with ⟨h3,h⟩ | ⟨h3,h⟩
 obtain rfl:=sj h
 exact k249 (tF q249 3 [] (oD (dT p0.sub) <| oK 1 [] h3 (c91 h2) o0))
 obtain rfl:=sj h
 exact k249 (tF q249 2 [] (oD (dT ([]:List Tm)) <| oK 1 [] h3 (c91 h2) o0))
end Go.Proofs.YteiddempdecleaaGreat
