/- InferNil: for every two Terms the law returns true; the arguments read as they did. No condition. -/
import Derived.Test.YtkeipljdhcbfoaaGreatAbQ5
import Derived.Test.YtkeipljdhcbfoaaGreatAbRead
import Derived.Test.YtkeipljdhcbfoaaGreatAbInferNilFacts
namespace Go.Proofs.YtkeipljdhcbfoaaGreat
open Go.Ab Go.ChangeShapes Go.WideShapes Go.ChangeAt Go.RowKit

theorem inferNil_calls {v0 v1 : Value} {t a : Tm} (W : World) (h0 : V (rdG W) W (tmA t) v0) (h1 : V (rdG W) W (tmA a) v1) :
    Calls Tryz.prog 6 #[v0, v1] W fun e W' => e = .returned (.bool true) ∧ Below W.heap.size W W' := by
  refine ((c6t t a).1 (rdG W) W #[v0, v1] (rd_base W) (rd_rel W) (by simp only [VL, and_true]; exact ⟨h0, h1⟩)).mono ?_
  rintro e W' ⟨u, G', s', rfl, hE, hR, hv, -⟩
  simp only [V] at hv
  subst hv
  have hb := hR.below
  rw [hE.F, hE.w0] at hb
  exact ⟨rfl, ⟨hb.os, hb.tape, hb.output, hb.size, hb.block⟩⟩

set_option maxRecDepth 100000 in
theorem inferNil_lifted (os : Os) (started : os.Started) (H : Type) (enc : TypeId × Value → H) :
    ReturnsInHanded {} Tryz.checked os 6 .any (Rows.inferNilSpec.pre6 enc Tryz.prog Tryz.f6 Rows.inferNilRow.domain false) (Rows.inferNilSpec.post enc Tryz.prog Tryz.f6 false true false false) := by
  refine returnsInHanded_of_change (C := Tryz.checked) own started (by kernel_rfl) Tryz.func6
    (ChangeSpec.witness6 (enc := enc) (C := Tryz.checked) false ⟨#[], #[.agg #[.int .i64 0, .int .i64 0, .slice none 0 0], .agg #[.int .i64 0, .int .i64 0, .slice none 0 0]], []⟩ 8 (by kernel_rfl) (by kernel_rfl) (by kernel_rfl) (by kernel_rfl)) ?_
  intro W base args ds gs before hval0 hW hcnd _
  have hval : ∀ (j : Nat) t v, Tryz.f6.params[j]? = some t → args[j]? = some v → Value.okWide Tryz.prog W .any base t v := hval0
  have hW' := hW
  obtain ⟨p, q, hA0, hV, rfl, hfz, hnd⟩ := hW
  have hA : DataW.TrodAll enc Tryz.prog W 0 (fun _ => true) true Tryz.f6.params.toList args.toList ds p := hA0
  rw [Tryz.params6] at hA hval
  obtain ⟨v0, v1, d0, d1, p0, p1, rfl, rfl, rfl, h0, h1⟩ := trodAll_two hA
  obtain ⟨rfl, rfl⟩ := trodVars_none hV
  obtain ⟨t, ht⟩ := rd_tmA (open_term (hval 0 24 v0 rfl rfl)) h0
  obtain ⟨a, ha⟩ := rd_tmA (open_term (hval 1 24 v1 rfl rfl)) h1
  clear hA0 hval0
  simp only [List.append_nil] at hW'
  have hlt : ∀ y ∈ p0 ++ p1, y.block < W.heap.size := fun y hy => by simpa using hW'.lt y (by simpa using hy)
  refine (inferNil_calls W ht ha).mono fun e W' ⟨he, hn⟩ => ?_
  subst he
  have k0 := Below.trod laidOut (by kernel_rfl) (of_decide_eq_true (by kernel_rfl)) h0 hn fun y hy => hlt y (by simp [hy])
  have k1 := Below.trod laidOut (by kernel_rfl) (of_decide_eq_true (by kernel_rfl)) h1 hn fun y hy => hlt y (by simp [hy])
  exact ⟨_, rfl, _, _, _, [], _, [], hW', trodAll_mk1 shut_true, trodAll_mk2 k0 k1, rfl, hn.frame _, fun h => by cases h⟩

set_option maxRecDepth 100000 in
theorem inferNil_closed : joinedFacts Tryz.pinned.checked.prog 6 Tryz.f6 Rows.inferNilSpec Rows.inferNilRow = true := by
  unfold joinedFacts
  exact (both (both (both (both (both (both (both (both (both (both (both (both (both (both (both (both (both (both (both (both (both (both (both (both (both (both (both (both (both (both (both inferNil_fact0 fact1) fact2) inferNil_fact3) inferNil_fact4) inferNil_fact5) fact6) inferNil_fact7) fact8) inferNil_fact9) inferNil_fact10) inferNil_fact11) inferNil_fact12) inferNil_fact13) inferNil_fact14) inferNil_fact15) inferNil_fact16) inferNil_fact17) inferNil_fact18) inferNil_fact19) inferNil_fact20) inferNil_fact21) fact22) inferNil_fact23) fact24) fact25) fact26) fact27) inferNil_fact28) inferNil_fact29) inferNil_fact30) inferNil_fact31)

theorem inferNil_holds : Rows.InferNilSaid :=
  OpenClaim.holds_of_wide 6 Tryz.f6 rfl rfl rfl rfl rfl rfl rfl ⟨rfl, rfl, rfl, rfl, rfl⟩ rfl rfl rfl rfl rfl (by kernel_rfl) Tryz.func6 inferNil_closed
    (of_decide_eq_true (by kernel_rfl)) (by unfold Func.isWrapper; first | (rw [if_pos (by decide +kernel)]; kernel_rfl) | (rw [if_neg (by decide +kernel)]; exact ⟨rfl, rfl⟩))
    (fun os started H enc _ => inferNil_lifted os started H enc)

#print axioms inferNil_holds
end Go.Proofs.YtkeipljdhcbfoaaGreat
