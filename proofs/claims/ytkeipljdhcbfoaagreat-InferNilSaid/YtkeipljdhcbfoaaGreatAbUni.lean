/- PURE CONTRACTS: shown from the empty state, they hold in every state. -/
import Derived.Test.YtkeipljdhcbfoaaGreatAbClosed
namespace Go.Ab
open Go Go.RowKit

mutual
/-- no block, no stamp: data alone -/
def AV.Data : AV → Prop
  | .val _ => True
  | .agg cs => AV.DataL cs
  | .tup cs => AV.DataL cs
  | .sl es _ o => o.plain ∧ AV.DataL es
  | .ip es => AV.DataL es
  | .mp _ _ => False
  | .ms _ _ _ => False
  | .obj _ => False
  | .clo _ fs cs => AV.DataL fs ∧ AV.DataL cs
def AV.DataL : List AV → Prop
  | [] => True
  | a :: l => AV.Data a ∧ AV.DataL l
end

mutual
theorem V.data {G G' : Gh} {w : World} (hL : ∀ b o, G.L b o → G'.L b o) : ∀ (a : AV) (u : Value), a.Data → V G w a u → V G' w a u
  | .val v, u, _, hv => by simpa only [V] using hv
  | .agg cs, u, hd, hv => by
    simp only [V, AV.Data] at hd hv ⊢
    obtain ⟨vs, rfl, hl⟩ := hv
    exact ⟨vs, rfl, VL.data hL cs vs hd hl⟩
  | .tup cs, u, hd, hv => by
    simp only [V, AV.Data] at hd hv ⊢
    obtain ⟨vs, rfl, hl⟩ := hv
    exact ⟨vs, rfl, VL.data hL cs vs hd hl⟩
  | .sl es n o, u, hd, hv => by
    simp only [V, AV.Data] at hd hv ⊢
    obtain ⟨cap, hc, hh⟩ := hv
    refine ⟨cap, hc, ?_⟩
    rcases hh with hh | ⟨b, off, hu, hcells, ho⟩
    · refine .inl ⟨hh.1, hh.2.1, hh.2.2.1, hh.2.2.2.1, ?_⟩
      cases o with
      | no => trivial
      | full => trivial
      | nl => exact hh.2.2.2.2
      | nn => exact hh.2.2.2.2
      | fr => exact hd.1.elim
      | st k sz => exact hd.1.elim
    · refine .inr ⟨b, off, hu, VC.data hL es b off hd.2 hcells, ?_⟩
      cases o with
      | no => trivial
      | full => exact ho
      | nl => exact ho
      | nn => trivial
      | fr => exact hd.1.elim
      | st k sz => exact hd.1.elim
  | .ip es, u, hd, hv => by
    simp only [V, AV.Data] at hd hv ⊢
    obtain ⟨b, off, hu, hcells⟩ := hv
    exact ⟨b, off, hu, VC.data hL es b off hd hcells⟩
  | .mp _ _, _, hd, _ => by simp only [AV.Data] at hd
  | .ms _ _ _, _, hd, _ => by simp only [AV.Data] at hd
  | .obj _, _, hd, _ => by simp only [AV.Data] at hd
  | .clo f fs cs, u, hd, hv => by
    simp only [V, AV.Data] at hd hv ⊢
    obtain ⟨l, r, hu, h1, h2⟩ := hv
    exact ⟨l, r, hu, VL.data hL fs l hd.1 h1, VL.data hL cs r hd.2 h2⟩
theorem VL.data {G G' : Gh} {w : World} (hL : ∀ b o, G.L b o → G'.L b o) : ∀ (as : List AV) (us : List Value), AV.DataL as → VL G w as us → VL G' w as us
  | [], [], _, _ => by simp only [VL]
  | a :: as, u :: us, hd, hv => by
    simp only [VL, AV.DataL] at hd hv ⊢
    exact ⟨V.data hL a u hd.1 hv.1, VL.data hL as us hd.2 hv.2⟩
  | [], _ :: _, _, hv => by simp only [VL] at hv
  | _ :: _, [], _, hv => by simp only [VL] at hv
theorem VC.data {G G' : Gh} {w : World} (hL : ∀ b o, G.L b o → G'.L b o) : ∀ (as : List AV) (b off : Nat), AV.DataL as → VC G w as b off → VC G' w as b off
  | [], _, _, _, _ => by simp only [VC]
  | a :: as, b, off, hd, hv => by
    simp only [VC, AV.DataL] at hd hv ⊢
    obtain ⟨h1, ⟨v, h2, h3⟩, h4⟩ := hv
    exact ⟨hL _ _ h1, ⟨v, h2, V.data hL a v hd.1 h3⟩, VC.data hL as b (off + 1) hd.2 h4⟩
end

theorem RelS.lift {G G₁ : Gh} {σ σ₁ : ASt} {w w₁ : World} (h : RelS G σ w) (hE : Ext (Go.Ab.base w G.L) w G₁ w₁) (h₁ : RelS G₁ σ₁ w₁) :
    Ext G w { G with L := fun b o => G.L b o ∨ G₁.L b o } w₁ ∧ RelS { G with L := fun b o => G.L b o ∨ G₁.L b o } σ w₁ := by
  have hb : Below w.heap.size w w₁ := by
    have := h₁.below
    rw [hE.w0, hE.F] at this
    exact ⟨this.os, this.tape, this.output, this.size, this.block⟩
  have hnew : ∀ b o, G₁.L b o → G.L b o ∨ w.heap.size ≤ b := fun b o h => (hE.newL b o h).imp id Nat.le_of_not_lt
  have hEx : Ext G w { G with L := fun b o => G.L b o ∨ G₁.L b o } w₁ :=
    ⟨fun _ _ e => e, fun _ _ e => e, fun _ _ e => .inl e, fun b o hL => hb.cell (p := ⟨b, o, none⟩) (h.L_lt hL), rfl, rfl,
     fun b o e => e.elim .inl fun q => (hnew b o q).elim .inl fun q => .inr (fun hF => Nat.lt_irrefl _ (Nat.lt_of_lt_of_le (h.base _ hF) q))⟩
  refine ⟨hEx, h.dom, h.fin, h.inj, fun i b X hi hX => ?_, fun b o hL => ?_, h.τns, fun k hk => ?_, h.ownd, h.below.trans (Keep.of_below hb h.base), fun k hk => Nat.lt_of_lt_of_le (h.base k hk) hb.size⟩
  · obtain ⟨q1, q3⟩ := h.blk i b X hi hX
    exact ⟨q1, BlkOk.mono hEx (hb.block b (h.ρ_lt hi)) q3⟩
  · rcases hL with hL | hL
    · obtain ⟨⟨v, hv⟩, q2⟩ := h.live b o hL
      exact ⟨⟨v, (hEx.cell b o hL).trans hv⟩, q2⟩
    · refine ⟨(h₁.live b o hL).1, fun i hi => ?_⟩
      rcases hnew b o hL with q | q
      · exact (h.live b o q).2 i hi
      · have hi' : G.ρ i = some b := hi
        have := h.ρ_lt hi'
        omega
  · obtain ⟨b, f, t, q1, q2 | ⟨q2, q3, q4, vs, T, q5, q6⟩⟩ := h.own k hk
    · exact ⟨b, f, t, q1, .inl q2⟩
    have hlt : b < w.heap.size := (Array.getElem?_eq_some_iff.1 q5).1
    refine ⟨b, f, t, q1, .inr ⟨q2, q3, fun o ho ht hL => ?_, vs, T, (hb.block b hlt).trans q5, q6⟩⟩
    rcases hL with hL | hL
    · exact q4 o ho ht hL
    · rcases hnew b o hL with q | q
      · exact q4 o ho ht q
      · omega

def pureLA (v : AV) : LA := { ev := fun _ => .val undef, v := v }

/-- what is known of a call from memory of which only its data is known -/
def PTri (P : Program) (f : FuncId) (args : List AV) (v : AV) : Prop :=
  ∀ (W : World) (L : Nat → Nat → Prop) (cargs : Array Value), (∀ b o, L b o → ∃ v, W.cell? ⟨b, o, none⟩ = some v) → VL (base W L) W args cargs.toList →
    Calls P f cargs W fun e W' => ∃ u G' σ', e = .returned u ∧ Ext (base W L) W G' W' ∧ RelS G' σ' W' ∧ V G' W' v u

theorem PTri.uni {P : Program} {f : FuncId} {args : List AV} {v : AV} (h : PTri P f args v) (ha : AV.DataL args) (hv : v.Data) : UTri P f args (pureLA v) := by
  intro G σ w cargs hR hargs _
  have hL : ∀ b o, G.L b o → ∃ v, w.cell? ⟨b, o, none⟩ = some v := fun b o hl => (hR.live b o hl).1
  refine (h w G.L cargs hL (VL.data (G := G) (G' := base w G.L) (fun _ _ e => e) _ _ ha hargs)).mono fun e w' he => ?_
  obtain ⟨u, G₁, σ₁, rfl, hE, hR₁, hu⟩ := he
  obtain ⟨q1, q2⟩ := hR.lift hE hR₁
  refine ⟨u, _, rfl, q1, ?_, V.data (G' := { G with L := fun b o => G.L b o ∨ G₁.L b o }) (fun _ _ e => .inr e) v u hv hu⟩
  show RelS _ ((ASt.mk σ.H σ.own σ.ns).stamps [] 0) w'
  rw [ASt.stamps_zero]
  exact q2

theorem UTri.pri {P : Program} {f : FuncId} {args : List AV} {la : LA} (h : UTri P f args la) (hfit : LSt.zero.fit la) : PTri P f args la.v := by
  intro W L cargs hL ha
  have hcan := LSt.can hfit (σ₀ := Emp 0) (b := 0) ⟨fun _ _ h => (nomatch h), fun _ h => (nomatch h), fun _ h => (nomatch h), Nat.le_refl _⟩ (fun _ _ _ => rfl)
  refine (h (base W L) (over (Emp 0) LSt.zero) W cargs (base_ok hL 0) ha hcan).mono fun e W' he => ?_
  obtain ⟨u, G', rfl, h1, h2, h3⟩ := he
  exact ⟨u, G', _, rfl, h1, h2, h3⟩

/-- a pure contract out of a body run from the empty state -/
theorem PTri.body {P : Program} {f : FuncId} {fn : Func} {c : Code} {args : List AV} {v : AV} (hf : P.funcs[f]? = some fn) (hb : fn.body = some c)
    (h : Cw P c ⟨args ++ List.replicate (fn.ntmps - args.length) (.val undef), Emp 0⟩ fun x S => (x = .normal ∨ x = .ret) ∧
      ∃ res, ares P S.σ.H S.env fn.results.toList = some res ∧ ∀ G w u, V G w res u → V G w v u) : PTri P f args v := by
  intro W L cargs hL hv
  refine calls_of_wp hf hb ?_
  have hlen := VL.length _ _ hv
  have hR0 : Rel (base W L) ⟨args ++ List.replicate (fn.ntmps - args.length) (.val undef), Emp 0⟩ { tmps := cargs ++ Array.replicate (fn.ntmps - cargs.size) undef, defers := [] } W := by
    refine ⟨base_ok hL 0, ?_, rfl⟩
    have : cargs.size = args.length := by rw [← hlen]; simp
    simp only [Array.toList_append, Array.toList_replicate, this]
    exact VL.append _ _ _ _ hv (VL.replicate _)
  refine wp_mono (h (base W L) _ W hR0) fun e a' w' hp => ?_
  obtain ⟨x, S', G₁, rfl, ⟨hx, res, hres, hv'⟩, hE, hR'⟩ := hp
  obtain ⟨u, hu, huv⟩ := ares_ok (fn := fn) hR' hres
  have hend : a'.defers = [] ∧ ∃ v', (results fn a'.tmps).run P w' = .ok v' w' ∧ ∃ u G' σ', Ending.returned v' = .returned u ∧ Ext (base W L) W G' w' ∧ RelS G' σ' w' ∧ V G' w' v u :=
    ⟨hR'.dfr, u, hu, u, G₁, _, rfl, hE, hR'.st, hv' _ _ _ huv⟩
  rcases hx with rfl | rfl
  · exact hend
  · exact hend

end Go.Ab
