/- WhnfNil: for every Term the law returns true; the argument reads as it did. No condition. -/
import Derived.Test.YtkeipljdhcbfoaaGreatAbWhnfNilRun
import Derived.Test.YtkeipljdhcbfoaaGreatAbWhnfNilFacts
namespace Go.Proofs.YtkeipljdhcbfoaaGreat
open Go.Ab Go.ChangeShapes Go.WideShapes Go.ChangeAt Go.RowKit

theorem whnfNil_calls (k n : Int) (p : Option Addr) (m c : Nat) (W : World) : Calls Tryz.prog 3 #[.agg #[.int .i64 k, .int .i64 n, .slice p m c]] W fun e W' => e = .returned (.bool true) ∧ Below W.heap.size W W' :=
  acall_true mixed hng prim_ok (n := 60) rfl (whnfNil_run k n p m c) (L := fun _ _ => False) (fun _ _ h => h.elim)
    (by simp only [VL, termAV, V, and_true]; exact ⟨_, rfl, by simp [VL, V]⟩)

set_option maxRecDepth 100000 in
theorem whnfNil_lifted (os : Os) (started : os.Started) (H : Type) (enc : TypeId × Value → H) :
    ReturnsInHanded {} Tryz.checked os 3 .any (Rows.whnfNilSpec.pre6 enc Tryz.prog Tryz.f3 Rows.whnfNilRow.domain false) (Rows.whnfNilSpec.post enc Tryz.prog Tryz.f3 false true false false) := by
  refine returnsInHanded_of_change (C := Tryz.checked) own started (by kernel_rfl) Tryz.func3
    (ChangeSpec.witness6 (enc := enc) (C := Tryz.checked) false ⟨#[], #[.agg #[.int .i64 0, .int .i64 0, .slice none 0 0]], []⟩ 8 (by kernel_rfl) (by kernel_rfl) (by kernel_rfl) (by kernel_rfl)) ?_
  intro W base args ds gs before hval0 hW hcnd _
  have hval : ∀ (j : Nat) t v, Tryz.f3.params[j]? = some t → args[j]? = some v → Value.okWide Tryz.prog W .any base t v := hval0
  have hW' := hW
  obtain ⟨p, q, hA0, hV, rfl, hfz, hnd⟩ := hW
  have hA : DataW.TrodAll enc Tryz.prog W 0 (fun _ => true) true Tryz.f3.params.toList args.toList ds p := hA0
  rw [Tryz.params3] at hA hval
  obtain ⟨v0, d0, rfl, rfl, h0⟩ := trodAll_one hA
  obtain ⟨rfl, rfl⟩ := trodVars_none hV
  obtain ⟨k, n, pp, m, c, rfl⟩ := open_term (hval 0 24 v0 rfl rfl)
  clear hA0 hval0
  simp only [List.append_nil] at hW'
  have hlt : ∀ y ∈ p, y.block < W.heap.size := fun y hy => by simpa using hW'.lt y (by simp [hy])
  refine (whnfNil_calls k n pp m c W).mono fun e W' ⟨he, hn⟩ => ?_
  subst he
  exact ⟨_, rfl, _, _, _, [], _, [], hW', trodAll_mk1 shut_true, trodAll_mk1 (Below.trod laidOut (by kernel_rfl) (of_decide_eq_true (by kernel_rfl)) h0 hn hlt), rfl, hn.frame _, fun h => by cases h⟩

set_option maxRecDepth 100000 in
theorem whnfNil_closed : joinedFacts Tryz.pinned.checked.prog 3 Tryz.f3 Rows.whnfNilSpec Rows.whnfNilRow = true := by
  unfold joinedFacts
  exact (both (both (both (both (both (both (both (both (both (both (both (both (both (both (both (both (both (both (both (both (both (both (both (both (both (both (both (both (both (both (both whnfNil_fact0 fact1) fact2) whnfNil_fact3) whnfNil_fact4) whnfNil_fact5) fact6) whnfNil_fact7) fact8) whnfNil_fact9) whnfNil_fact10) whnfNil_fact11) whnfNil_fact12) whnfNil_fact13) whnfNil_fact14) whnfNil_fact15) whnfNil_fact16) whnfNil_fact17) whnfNil_fact18) whnfNil_fact19) whnfNil_fact20) whnfNil_fact21) fact22) whnfNil_fact23) fact24) fact25) fact26) fact27) whnfNil_fact28) whnfNil_fact29) whnfNil_fact30) whnfNil_fact31)


theorem whnfNil_holds : Rows.WhnfNilSaid :=
  OpenClaim.holds_of_wide 3 Tryz.f3 rfl rfl rfl rfl rfl rfl rfl ⟨rfl, rfl, rfl, rfl, rfl⟩ rfl rfl rfl rfl rfl (by kernel_rfl) Tryz.func3 whnfNil_closed
    (of_decide_eq_true (by kernel_rfl)) (by unfold Func.isWrapper; first | (rw [if_pos (by decide +kernel)]; kernel_rfl) | (rw [if_neg (by decide +kernel)]; exact ⟨rfl, rfl⟩))
    (fun os started H enc _ => whnfNil_lifted os started H enc)

#print axioms whnfNil_holds
end Go.Proofs.YtkeipljdhcbfoaaGreat
