/- IotaFields: for every input the law returns true; the arguments read as they did. No condition. -/
import Derived.SizedLaws
import Derived.Test.YteiddempdecleaaGreatAbB7
set_option linter.unusedVariables false
set_option linter.unusedSimpArgs false
namespace Go.Proofs.YteiddempdecleaaGreat
open Go.Ab Go.ChangeShapes Go.WideShapes Go.ChangeAt Go.RowKit
theorem iotaFields_calls {v0 v1 v2 : Value} {x0 : List Ent} {x1 : Int} {x2 : List Tm} (w0 : ∀ e ∈ x0, RdE e) (w1 : (Lit.int .i64 x1).wf = true) (w2 : OkL x2 ∧ x2.length < 9223372036854775808) (W : World) (h0 : V (rdG W) W (.sl (flat entL x0) x0.length .no) v0) (h1 : V (rdG W) W (.val (.int .i64 x1)) v1) (h2 : V (rdG W) W (.sl (flat tmCells x2) x2.length .no) v2) :
    Calls Tryz.prog 3 #[v0, v1, v2] W fun e W' => e = .returned (.bool true) ∧ Below W.heap.size W W' := by
  refine ((iotaFields_ct x0 x1 x2 w0 w1 w2).1 (rdG W) W #[v0, v1, v2] (rd_base W) (rd_rel W) (by simp only [VL, and_true]; exact ⟨h0, h1, h2⟩)).mono ?_
  rintro e W' ⟨u, G', s', rfl, hE, hR, hv, -⟩
  simp only [V] at hv
  subst hv
  have hb := hR.below
  rw [hE.F, hE.w0] at hb
  exact ⟨rfl, ⟨hb.os, hb.tape, hb.output, hb.size, hb.block⟩⟩
set_option maxRecDepth 100000 in
theorem iotaFields_lifted (os : Os) (started : os.Started) (H : Type) (enc : TypeId × Value → H) :
    ReturnsInHanded {} Tryz.checked os 3 .any (Rows.iotaFieldsSpec.pre6 enc Tryz.prog Tryz.f3 Rows.iotaFieldsRow.domain false) (Rows.iotaFieldsSpec.post enc Tryz.prog Tryz.f3 false true false false) := by
  refine returnsInHanded_of_change_sized (C := Tryz.checked) own started (by kernel_rfl) Tryz.func3
    (ChangeSpec.witness6 (enc := enc) (C := Tryz.checked) false ⟨#[], #[.slice none 0 0, .int .i64 0, .slice none 0 0], []⟩ 8 (by kernel_rfl) (by kernel_rfl) (by kernel_rfl) (by kernel_rfl)) ?_
  intro W base args ds gs before hval0 hW hcnd hsz _
  have hval : ∀ (j : Nat) t v, Tryz.f3.params[j]? = some t → args[j]? = some v → Value.okWide Tryz.prog W .any base t v := hval0
  have hW' := hW
  obtain ⟨p, q, hA0, hV, rfl, hfz, hnd⟩ := hW
  have hA : DataW.TrodAll enc Tryz.prog W 0 (fun _ => true) true Tryz.f3.params.toList args.toList ds p := hA0
  rw [Tryz.params3] at hA hval hsz
  obtain ⟨v0, v1, v2, d0, d1, d2, p0, p1, p2, rfl, rfl, rfl, h0, h1, h2⟩ := trodAll_three hA
  obtain ⟨rfl, rfl⟩ := trodVars_none hV
  obtain ⟨x0, r0, w0⟩ := rd_ents (okWide_slice Tryz.underlying22 (hval 0 22 v0 rfl rfl)) h0 (fun w hw => of_decide_eq_true (List.all_eq_true.1 hsz w (wt_each _ _ 0 22 d0 rfl rfl w hw)))
  obtain ⟨x1, rfl, -, -, w1⟩ := open_int Tryz.underlying3 (hval 1 3 _ rfl rfl) h1
  obtain ⟨x2, r2, w2⟩ := rd_tms (okWide_slice Tryz.underlying23 (hval 2 23 v2 rfl rfl)) h2
  clear hA0 hval0
  simp only [List.append_nil] at hW'
  have hlt : ∀ y ∈ p0 ++ p1 ++ p2, y.block < W.heap.size := fun y hy => by simpa using hW'.lt y (by simpa using hy)
  refine (iotaFields_calls w0 w1 w2 W r0 (by simp only [V]) r2).mono fun e W' ⟨he, hn⟩ => ?_
  subst he
  have k0 := Below.trod laidOut (by kernel_rfl) (of_decide_eq_true (by kernel_rfl)) h0 hn fun y hy => hlt y (by simp [hy])
  have k1 := Below.trod laidOut (by kernel_rfl) (of_decide_eq_true (by kernel_rfl)) h1 hn fun y hy => hlt y (by simp [hy])
  have k2 := Below.trod laidOut (by kernel_rfl) (of_decide_eq_true (by kernel_rfl)) h2 hn fun y hy => hlt y (by simp [hy])
  exact ⟨_, rfl, _, _, _, [], _, [], hW', trodAll_mk1 shut_true, trodAll_mk3 k0 k1 k2, rfl, hn.frame _, fun h => by cases h⟩
set_option maxRecDepth 100000 in
theorem iotaFields_closed : joinedFacts Tryz.pinned.checked.prog 3 Tryz.f3 Rows.iotaFieldsSpec Rows.iotaFieldsRow = true := by
  unfold joinedFacts
  exact (both (both (both (both (both (both (both (both (both (both (both (both (both (both (both (both (both (both (both (both (both (both (both (both (both (both (both (both (both (both (both iotaFields_fact0 fact1) fact2) iotaFields_fact3) iotaFields_fact4) iotaFields_fact5) fact6) iotaFields_fact7) fact8) iotaFields_fact9) iotaFields_fact10) iotaFields_fact11) iotaFields_fact12) iotaFields_fact13) iotaFields_fact14) iotaFields_fact15) iotaFields_fact16) iotaFields_fact17) iotaFields_fact18) iotaFields_fact19) iotaFields_fact20) iotaFields_fact21) fact22) iotaFields_fact23) fact24) fact25) fact26) fact27) iotaFields_fact28) iotaFields_fact29) iotaFields_fact30) iotaFields_fact31)
theorem iotaFields_holds : Rows.IotaFieldsSaid :=
  OpenClaim.holds_of_wide 3 Tryz.f3 rfl rfl rfl rfl rfl rfl rfl ⟨rfl, rfl, rfl, rfl, rfl⟩ rfl rfl rfl rfl rfl (by kernel_rfl) Tryz.func3 iotaFields_closed
    (of_decide_eq_true (by kernel_rfl)) (by unfold Func.isWrapper; first | (rw [if_pos (by decide +kernel)]; kernel_rfl) | (rw [if_neg (by decide +kernel)]; exact ⟨rfl, rfl⟩))
    (fun os started H enc _ => iotaFields_lifted os started H enc)
#print axioms iotaFields_holds
end Go.Proofs.YteiddempdecleaaGreat
