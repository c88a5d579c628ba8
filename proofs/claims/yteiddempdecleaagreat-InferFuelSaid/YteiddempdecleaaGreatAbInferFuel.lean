/- InferFuel: for every input the law returns true; the arguments read as they did. No condition. -/
import Derived.SizedLaws
import Derived.Test.YteiddempdecleaaGreatAbB8
set_option linter.unusedVariables false
set_option linter.unusedSimpArgs false
namespace Go.Proofs.YteiddempdecleaaGreat
open Go.Ab Go.ChangeShapes Go.WideShapes Go.ChangeAt Go.RowKit
theorem inferFuel_calls {v0 v1 v2 : Value} {x0 : L17Case} {x1 : Tm} {x2 : Int} (w0 : RdL17Case x0) (w1 : x1.Ok) (w2 : (Lit.int .u8 x2).wf = true) (W : World) (h0 : V (rdG W) W (.agg (l17CaseL x0)) v0) (h1 : V (rdG W) W (tmA x1) v1) (h2 : V (rdG W) W (.val (.int .u8 x2)) v2) :
    Calls Tryz.prog 12 #[v0, v1, v2] W fun e W' => e = .returned (.bool true) ∧ Below W.heap.size W W' := by
  refine ((inferFuel_ct x0 x1 x2 w0 w1 w2).1 (rdG W) W #[v0, v1, v2] (rd_base W) (rd_rel W) (by simp only [VL, and_true]; exact ⟨h0, h1, h2⟩)).mono ?_
  rintro e W' ⟨u, G', s', rfl, hE, hR, hv, -⟩
  simp only [V] at hv
  subst hv
  have hb := hR.below
  rw [hE.F, hE.w0] at hb
  exact ⟨rfl, ⟨hb.os, hb.tape, hb.output, hb.size, hb.block⟩⟩
set_option maxRecDepth 100000 in
theorem inferFuel_lifted (os : Os) (started : os.Started) (H : Type) (enc : TypeId × Value → H) :
    ReturnsInHanded {} Tryz.checked os 12 .any (Rows.inferFuelSpec.pre6 enc Tryz.prog Tryz.f12 Rows.inferFuelRow.domain false) (Rows.inferFuelSpec.post enc Tryz.prog Tryz.f12 false true false false) := by
  refine returnsInHanded_of_change_sized (C := Tryz.checked) own started (by kernel_rfl) Tryz.func12
    (ChangeSpec.witness6 (enc := enc) (C := Tryz.checked) false ⟨#[], #[.agg #[.slice none 0 0, .slice none 0 0, .slice none 0 0, .slice none 0 0, .int .i64 0], .agg #[.int .i64 0, .int .i64 0, .slice none 0 0], .int .u8 0], []⟩ 8 (by kernel_rfl) (by kernel_rfl) (by kernel_rfl) (by kernel_rfl)) ?_
  intro W base args ds gs before hval0 hW hcnd hsz _
  have hval : ∀ (j : Nat) t v, Tryz.f12.params[j]? = some t → args[j]? = some v → Value.okWide Tryz.prog W .any base t v := hval0
  have hW' := hW
  obtain ⟨p, q, hA0, hV, rfl, hfz, hnd⟩ := hW
  have hA : DataW.TrodAll enc Tryz.prog W 0 (fun _ => true) true Tryz.f12.params.toList args.toList ds p := hA0
  rw [Tryz.params12] at hA hval hsz
  obtain ⟨v0, v1, v2, d0, d1, d2, p0, p1, p2, rfl, rfl, rfl, h0, h1, h2⟩ := trodAll_three hA
  obtain ⟨rfl, rfl⟩ := trodVars_none hV
  obtain ⟨x0, r0, w0⟩ := rd_L17CaseA h0 (fun w hw => of_decide_eq_true (List.all_eq_true.1 hsz w (wt_each _ _ 0 96 d0 rfl rfl w hw)))
  obtain ⟨x1, r1, w1⟩ := rd_tmA (open_term (hval 1 27 v1 rfl rfl)) h1
  obtain ⟨x2, rfl, -, -, w2⟩ := open_int Tryz.underlying5 (hval 2 5 _ rfl rfl) h2
  clear hA0 hval0
  simp only [List.append_nil] at hW'
  have hlt : ∀ y ∈ p0 ++ p1 ++ p2, y.block < W.heap.size := fun y hy => by simpa using hW'.lt y (by simpa using hy)
  refine (inferFuel_calls w0 w1 w2 W r0 r1 (by simp only [V])).mono fun e W' ⟨he, hn⟩ => ?_
  subst he
  have k0 := Below.trod laidOut (by kernel_rfl) (of_decide_eq_true (by kernel_rfl)) h0 hn fun y hy => hlt y (by simp [hy])
  have k1 := Below.trod laidOut (by kernel_rfl) (of_decide_eq_true (by kernel_rfl)) h1 hn fun y hy => hlt y (by simp [hy])
  have k2 := Below.trod laidOut (by kernel_rfl) (of_decide_eq_true (by kernel_rfl)) h2 hn fun y hy => hlt y (by simp [hy])
  exact ⟨_, rfl, _, _, _, [], _, [], hW', trodAll_mk1 shut_true, trodAll_mk3 k0 k1 k2, rfl, hn.frame _, fun h => by cases h⟩
set_option maxRecDepth 100000 in
theorem inferFuel_closed : joinedFacts Tryz.pinned.checked.prog 12 Tryz.f12 Rows.inferFuelSpec Rows.inferFuelRow = true := by
  unfold joinedFacts
  exact (both (both (both (both (both (both (both (both (both (both (both (both (both (both (both (both (both (both (both (both (both (both (both (both (both (both (both (both (both (both (both inferFuel_fact0 fact1) fact2) inferFuel_fact3) inferFuel_fact4) inferFuel_fact5) fact6) inferFuel_fact7) fact8) inferFuel_fact9) inferFuel_fact10) inferFuel_fact11) inferFuel_fact12) inferFuel_fact13) inferFuel_fact14) inferFuel_fact15) inferFuel_fact16) inferFuel_fact17) inferFuel_fact18) inferFuel_fact19) inferFuel_fact20) inferFuel_fact21) fact22) inferFuel_fact23) fact24) fact25) fact26) fact27) inferFuel_fact28) inferFuel_fact29) inferFuel_fact30) inferFuel_fact31)
theorem inferFuel_holds : Rows.InferFuelSaid :=
  OpenClaim.holds_of_wide 12 Tryz.f12 rfl rfl rfl rfl rfl rfl rfl ⟨rfl, rfl, rfl, rfl, rfl⟩ rfl rfl rfl rfl rfl (by kernel_rfl) Tryz.func12 inferFuel_closed
    (of_decide_eq_true (by kernel_rfl)) (by unfold Func.isWrapper; first | (rw [if_pos (by decide +kernel)]; kernel_rfl) | (rw [if_neg (by decide +kernel)]; exact ⟨rfl, rfl⟩))
    (fun os started H enc _ => inferFuel_lifted os started H enc)
#print axioms inferFuel_holds
end Go.Proofs.YteiddempdecleaaGreat
