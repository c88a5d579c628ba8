/- UnifyRefuses: for every input the law returns true; the arguments read as they did. No condition. -/
import Derived.Test.YtlbmblbeccafcaaGreatAbB8
set_option linter.unusedVariables false
set_option linter.unusedSimpArgs false

namespace Go.Proofs.YtlbmblbeccafcaaGreat
open Go.Ab Go.ChangeShapes Go.WideShapes Go.ChangeAt Go.RowKit

theorem unifyRefuses_calls {v0 v1 : Value} {x0 : Int} {x1 : Tm} (w0 : (Lit.int .u8 x0).wf = true) (W : World) (h0 : V (rdG W) W (.val (.int .u8 x0)) v0) (h1 : V (rdG W) W (tmA x1) v1) :
    Calls Tryz.prog 4 #[v0, v1] W fun e W' => e = .returned (.bool true) ∧ Below W.heap.size W W' := by
  refine ((ev4c x0 x1 w0).1 (rdG W) W #[v0, v1] (rd_base W) (rd_rel W) (by simp only [VL, and_true]; exact ⟨h0, h1⟩)).mono ?_
  rintro e W' ⟨u, G', s', rfl, hE, hR, hv, -⟩
  simp only [V] at hv
  subst hv
  have hb := hR.below
  rw [hE.F, hE.w0] at hb
  exact ⟨rfl, ⟨hb.os, hb.tape, hb.output, hb.size, hb.block⟩⟩

set_option maxRecDepth 100000 in
theorem unifyRefuses_lifted (os : Os) (started : os.Started) (H : Type) (enc : TypeId × Value → H) :
    ReturnsInHanded {} Tryz.checked os 4 .any (Rows.unifyRefusesSpec.pre6 enc Tryz.prog Tryz.f4 Rows.unifyRefusesRow.domain false) (Rows.unifyRefusesSpec.post enc Tryz.prog Tryz.f4 false true false false) := by
  refine returnsInHanded_of_change (C := Tryz.checked) own started (by kernel_rfl) Tryz.func4
    (ChangeSpec.witness6 (enc := enc) (C := Tryz.checked) false ⟨#[], #[.int .u8 0, .agg #[.int .i64 0, .int .i64 0, .slice none 0 0]], []⟩ 8 (by kernel_rfl) (by kernel_rfl) (by kernel_rfl) (by kernel_rfl)) ?_
  intro W base args ds gs before hval0 hW hcnd _
  have hval : ∀ (j : Nat) t v, Tryz.f4.params[j]? = some t → args[j]? = some v → Value.okWide Tryz.prog W .any base t v := hval0
  have hW' := hW
  obtain ⟨p, q, hA0, hV, rfl, hfz, hnd⟩ := hW
  have hA : DataW.TrodAll enc Tryz.prog W 0 (fun _ => true) true Tryz.f4.params.toList args.toList ds p := hA0
  rw [Tryz.params4] at hA hval
  obtain ⟨v0, v1, d0, d1, p0, p1, rfl, rfl, rfl, h0, h1⟩ := trodAll_two hA
  obtain ⟨rfl, rfl⟩ := trodVars_none hV
  obtain ⟨x0, rfl, -, -, w0⟩ := open_int Tryz.underlying5 (hval 0 5 _ rfl rfl) h0
  obtain ⟨x1, r1⟩ := rd_tmA (open_term (hval 1 29 v1 rfl rfl)) h1
  clear hA0 hval0
  simp only [List.append_nil] at hW'
  have hlt : ∀ y ∈ p0 ++ p1, y.block < W.heap.size := fun y hy => by simpa using hW'.lt y (by simpa using hy)
  refine (unifyRefuses_calls w0 W (by simp only [V]) r1).mono fun e W' ⟨he, hn⟩ => ?_
  subst he
  have k0 := Below.trod laidOut (by kernel_rfl) (of_decide_eq_true (by kernel_rfl)) h0 hn fun y hy => hlt y (by simp [hy])
  have k1 := Below.trod laidOut (by kernel_rfl) (of_decide_eq_true (by kernel_rfl)) h1 hn fun y hy => hlt y (by simp [hy])
  exact ⟨_, rfl, _, _, _, [], _, [], hW', trodAll_mk1 shut_true, trodAll_mk2 k0 k1, rfl, hn.frame _, fun h => by cases h⟩

set_option maxRecDepth 100000 in
theorem unifyRefuses_closed : joinedFacts Tryz.pinned.checked.prog 4 Tryz.f4 Rows.unifyRefusesSpec Rows.unifyRefusesRow = true := by
  unfold joinedFacts
  exact (both (both (both (both (both (both (both (both (both (both (both (both (both (both (both (both (both (both (both (both (both (both (both (both (both (both (both (both (both (both (both unifyRefuses_fact0 fact1) fact2) unifyRefuses_fact3) unifyRefuses_fact4) unifyRefuses_fact5) fact6) unifyRefuses_fact7) fact8) unifyRefuses_fact9) unifyRefuses_fact10) unifyRefuses_fact11) unifyRefuses_fact12) unifyRefuses_fact13) unifyRefuses_fact14) unifyRefuses_fact15) unifyRefuses_fact16) unifyRefuses_fact17) unifyRefuses_fact18) unifyRefuses_fact19) unifyRefuses_fact20) unifyRefuses_fact21) fact22) unifyRefuses_fact23) fact24) fact25) fact26) fact27) unifyRefuses_fact28) unifyRefuses_fact29) unifyRefuses_fact30) unifyRefuses_fact31)


theorem unifyRefuses_holds : Rows.UnifyRefusesSaid :=
  OpenClaim.holds_of_wide 4 Tryz.f4 rfl rfl rfl rfl rfl rfl rfl ⟨rfl, rfl, rfl, rfl, rfl⟩ rfl rfl rfl rfl rfl (by kernel_rfl) Tryz.func4 unifyRefuses_closed
    (of_decide_eq_true (by kernel_rfl)) (by unfold Func.isWrapper; first | (rw [if_pos (by decide +kernel)]; kernel_rfl) | (rw [if_neg (by decide +kernel)]; exact ⟨rfl, rfl⟩))
    (fun os started H enc _ => unifyRefuses_lifted os started H enc)

#print axioms unifyRefuses_holds
end Go.Proofs.YtlbmblbeccafcaaGreat
