/- NormNil: for every Term the law returns true; the argument reads as it did. No condition. -/
import Derived.Test.YtkeipljdhcbfoaaGreatAbNormNilRun
import Derived.Test.YtkeipljdhcbfoaaGreatAbNormNilFacts
namespace Go.Proofs.YtkeipljdhcbfoaaGreat
open Go.Ab Go.ChangeShapes Go.WideShapes Go.ChangeAt Go.RowKit

theorem normNil_calls (k n : Int) (p : Option Addr) (m c : Nat) (W : World) : Calls Tryz.prog 4 #[.agg #[.int .i64 k, .int .i64 n, .slice p m c]] W fun e W' => e = .returned (.bool true) ∧ Below W.heap.size W W' :=
  acall_true mixed hng prim_ok (n := 60) rfl (normNil_run k n p m c) (L := fun _ _ => False) (fun _ _ h => h.elim)
    (by simp only [VL, termAV, V, and_true]; exact ⟨_, rfl, by simp [VL, V]⟩)

set_option maxRecDepth 100000 in
theorem normNil_lifted (os : Os) (started : os.Started) (H : Type) (enc : TypeId × Value → H) :
    ReturnsInHanded {} Tryz.checked os 4 .any (Rows.normNilSpec.pre6 enc Tryz.prog Tryz.f4 Rows.normNilRow.domain false) (Rows.normNilSpec.post enc Tryz.prog Tryz.f4 false true false false) := by
  refine returnsInHanded_of_change (C := Tryz.checked) own started (by kernel_rfl) Tryz.func4
    (ChangeSpec.witness6 (enc := enc) (C := Tryz.checked) false ⟨#[], #[.agg #[.int .i64 0, .int .i64 0, .slice none 0 0]], []⟩ 8 (by kernel_rfl) (by kernel_rfl) (by kernel_rfl) (by kernel_rfl)) ?_
  intro W base args ds gs before hval0 hW hcnd _
  have hval : ∀ (j : Nat) t v, Tryz.f4.params[j]? = some t → args[j]? = some v → Value.okWide Tryz.prog W .any base t v := hval0
  have hW' := hW
  obtain ⟨p, q, hA0, hV, rfl, hfz, hnd⟩ := hW
  have hA : DataW.TrodAll enc Tryz.prog W 0 (fun _ => true) true Tryz.f4.params.toList args.toList ds p := hA0
  rw [Tryz.params4] at hA hval
  obtain ⟨v0, d0, rfl, rfl, h0⟩ := trodAll_one hA
  obtain ⟨rfl, rfl⟩ := trodVars_none hV
  obtain ⟨k, n, pp, m, c, rfl⟩ := open_term (hval 0 24 v0 rfl rfl)
  clear hA0 hval0
  simp only [List.append_nil] at hW'
  have hlt : ∀ y ∈ p, y.block < W.heap.size := fun y hy => by simpa using hW'.lt y (by simp [hy])
  refine (normNil_calls k n pp m c W).mono fun e W' ⟨he, hn⟩ => ?_
  subst he
  exact ⟨_, rfl, _, _, _, [], _, [], hW', trodAll_mk1 shut_true, trodAll_mk1 (Below.trod laidOut (by kernel_rfl) (of_decide_eq_true (by kernel_rfl)) h0 hn hlt), rfl, hn.frame _, fun h => by cases h⟩

set_option maxRecDepth 100000 in
theorem normNil_closed : joinedFacts Tryz.pinned.checked.prog 4 Tryz.f4 Rows.normNilSpec Rows.normNilRow = true := by
  unfold joinedFacts
  exact (both (both (both (both (both (both (both (both (both (both (both (both (both (both (both (both (both (both (both (both (both (both (both (both (both (both (both (both (both (both (both normNil_fact0 fact1) fact2) normNil_fact3) normNil_fact4) normNil_fact5) fact6) normNil_fact7) fact8) normNil_fact9) normNil_fact10) normNil_fact11) normNil_fact12) normNil_fact13) normNil_fact14) normNil_fact15) normNil_fact16) normNil_fact17) normNil_fact18) normNil_fact19) normNil_fact20) normNil_fact21) fact22) normNil_fact23) fact24) fact25) fact26) fact27) normNil_fact28) normNil_fact29) normNil_fact30) normNil_fact31)


theorem normNil_holds : Rows.NormNilSaid :=
  OpenClaim.holds_of_wide 4 Tryz.f4 rfl rfl rfl rfl rfl rfl rfl ⟨rfl, rfl, rfl, rfl, rfl⟩ rfl rfl rfl rfl rfl (by kernel_rfl) Tryz.func4 normNil_closed
    (of_decide_eq_true (by kernel_rfl)) (by unfold Func.isWrapper; first | (rw [if_pos (by decide +kernel)]; kernel_rfl) | (rw [if_neg (by decide +kernel)]; exact ⟨rfl, rfl⟩))
    (fun os started H enc _ => normNil_lifted os started H enc)

#print axioms normNil_holds
end Go.Proofs.YtkeipljdhcbfoaaGreat
