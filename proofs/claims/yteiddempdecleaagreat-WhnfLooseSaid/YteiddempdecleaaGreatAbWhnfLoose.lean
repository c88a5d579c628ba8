/- WhnfLoose: for every input the law returns true; the arguments read as they did. No condition. -/
import Derived.SizedLaws
import Derived.Test.YteiddempdecleaaGreatAbB7
set_option linter.unusedVariables false
set_option linter.unusedSimpArgs false
namespace Go.Proofs.YteiddempdecleaaGreat
open Go.Ab Go.ChangeShapes Go.WideShapes Go.ChangeAt Go.RowKit
theorem whnfLoose_calls {v0 v1 v2 : Value} {x0 : List Ent} {x1 : Tm} {x2 : Int} (w0 : ∀ e ∈ x0, RdE e) (w1 : x1.Ok) (w2 : (Lit.int .u8 x2).wf = true) (W : World) (h0 : V (rdG W) W (.sl (flat entL x0) x0.length .no) v0) (h1 : V (rdG W) W (tmA x1) v1) (h2 : V (rdG W) W (.val (.int .u8 x2)) v2) :
    Calls Tryz.prog 5 #[v0, v1, v2] W fun e W' => e = .returned (.bool true) ∧ Below W.heap.size W W' := by
  refine ((whnfLoose_ct x0 x1 x2 w0 w1 w2).1 (rdG W) W #[v0, v1, v2] (rd_base W) (rd_rel W) (by simp only [VL, and_true]; exact ⟨h0, h1, h2⟩)).mono ?_
  rintro e W' ⟨u, G', s', rfl, hE, hR, hv, -⟩
  simp only [V] at hv
  subst hv
  have hb := hR.below
  rw [hE.F, hE.w0] at hb
  exact ⟨rfl, ⟨hb.os, hb.tape, hb.output, hb.size, hb.block⟩⟩
set_option maxRecDepth 100000 in
theorem whnfLoose_lifted (os : Os) (started : os.Started) (H : Type) (enc : TypeId × Value → H) :
    ReturnsInHanded {} Tryz.checked os 5 .any (Rows.whnfLooseSpec.pre6 enc Tryz.prog Tryz.f5 Rows.whnfLooseRow.domain false) (Rows.whnfLooseSpec.post enc Tryz.prog Tryz.f5 false true false false) := by
  refine returnsInHanded_of_change_sized (C := Tryz.checked) own started (by kernel_rfl) Tryz.func5
    (ChangeSpec.witness6 (enc := enc) (C := Tryz.checked) false ⟨#[], #[.slice none 0 0, .agg #[.int .i64 0, .int .i64 0, .slice none 0 0], .int .u8 0], []⟩ 8 (by kernel_rfl) (by kernel_rfl) (by kernel_rfl) (by kernel_rfl)) ?_
  intro W base args ds gs before hval0 hW hcnd hsz _
  have hval : ∀ (j : Nat) t v, Tryz.f5.params[j]? = some t → args[j]? = some v → Value.okWide Tryz.prog W .any base t v := hval0
  have hW' := hW
  obtain ⟨p, q, hA0, hV, rfl, hfz, hnd⟩ := hW
  have hA : DataW.TrodAll enc Tryz.prog W 0 (fun _ => true) true Tryz.f5.params.toList args.toList ds p := hA0
  rw [Tryz.params5] at hA hval hsz
  obtain ⟨v0, v1, v2, d0, d1, d2, p0, p1, p2, rfl, rfl, rfl, h0, h1, h2⟩ := trodAll_three hA
  obtain ⟨rfl, rfl⟩ := trodVars_none hV
  obtain ⟨x0, r0, w0⟩ := rd_ents (okWide_slice Tryz.underlying22 (hval 0 22 v0 rfl rfl)) h0 (fun w hw => of_decide_eq_true (List.all_eq_true.1 hsz w (wt_each _ _ 0 22 d0 rfl rfl w hw)))
  obtain ⟨x1, r1, w1⟩ := rd_tmA (open_term (hval 1 27 v1 rfl rfl)) h1
  obtain ⟨x2, rfl, -, -, w2⟩ := open_int Tryz.underlying5 (hval 2 5 _ rfl rfl) h2
  clear hA0 hval0
  simp only [List.append_nil] at hW'
  have hlt : ∀ y ∈ p0 ++ p1 ++ p2, y.block < W.heap.size := fun y hy => by simpa using hW'.lt y (by simpa using hy)
  refine (whnfLoose_calls w0 w1 w2 W r0 r1 (by simp only [V])).mono fun e W' ⟨he, hn⟩ => ?_
  subst he
  have k0 := Below.trod laidOut (by kernel_rfl) (of_decide_eq_true (by kernel_rfl)) h0 hn fun y hy => hlt y (by simp [hy])
  have k1 := Below.trod laidOut (by kernel_rfl) (of_decide_eq_true (by kernel_rfl)) h1 hn fun y hy => hlt y (by simp [hy])
  have k2 := Below.trod laidOut (by kernel_rfl) (of_decide_eq_true (by kernel_rfl)) h2 hn fun y hy => hlt y (by simp [hy])
  exact ⟨_, rfl, _, _, _, [], _, [], hW', trodAll_mk1 shut_true, trodAll_mk3 k0 k1 k2, rfl, hn.frame _, fun h => by cases h⟩
set_option maxRecDepth 100000 in
theorem whnfLoose_closed : joinedFacts Tryz.pinned.checked.prog 5 Tryz.f5 Rows.whnfLooseSpec Rows.whnfLooseRow = true := by
  unfold joinedFacts
  exact (both (both (both (both (both (both (both (both (both (both (both (both (both (both (both (both (both (both (both (both (both (both (both (both (both (both (both (both (both (both (both whnfLoose_fact0 fact1) fact2) whnfLoose_fact3) whnfLoose_fact4) whnfLoose_fact5) fact6) whnfLoose_fact7) fact8) whnfLoose_fact9) whnfLoose_fact10) whnfLoose_fact11) whnfLoose_fact12) whnfLoose_fact13) whnfLoose_fact14) whnfLoose_fact15) whnfLoose_fact16) whnfLoose_fact17) whnfLoose_fact18) whnfLoose_fact19) whnfLoose_fact20) whnfLoose_fact21) fact22) whnfLoose_fact23) fact24) fact25) fact26) fact27) whnfLoose_fact28) whnfLoose_fact29) whnfLoose_fact30) whnfLoose_fact31)
theorem whnfLoose_holds : Rows.WhnfLooseSaid :=
  OpenClaim.holds_of_wide 5 Tryz.f5 rfl rfl rfl rfl rfl rfl rfl ⟨rfl, rfl, rfl, rfl, rfl⟩ rfl rfl rfl rfl rfl (by kernel_rfl) Tryz.func5 whnfLoose_closed
    (of_decide_eq_true (by kernel_rfl)) (by unfold Func.isWrapper; first | (rw [if_pos (by decide +kernel)]; kernel_rfl) | (rw [if_neg (by decide +kernel)]; exact ⟨rfl, rfl⟩))
    (fun os started H enc _ => whnfLoose_lifted os started H enc)
#print axioms whnfLoose_holds
end Go.Proofs.YteiddempdecleaaGreat
