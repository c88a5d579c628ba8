/- ConvNil: for every two Terms the law returns true; the argument reads as it did. No condition. -/
import Derived.Test.YtkeipljdhcbfoaaGreatAbConvNilRun
import Derived.Test.YtkeipljdhcbfoaaGreatAbConvNilFacts
import Derived.Test.YtkeipljdhcbfoaaGreatAbSix
namespace Go.Proofs.YtkeipljdhcbfoaaGreat
open Go.Ab Go.ChangeShapes Go.WideShapes Go.ChangeAt Go.RowKit

theorem pairTypes : Tryz.prog.cellTypes Tryz.prog.depth 48 = some [3, 3, 22, 3, 3, 22] := by kernel_rfl
theorem pairCells : Tryz.prog.cellsOf 48 = 6 := by kernel_rfl

theorem open_pair {W : World} {base : Nat} {v : Value} : Value.okWide Tryz.prog W .any base 48 v →
    ∃ (k n : Int) (p : Option Addr) (m c : Nat) (k' n' : Int) (p' : Option Addr) (m' c' : Nat), v = .agg #[.int .i64 k, .int .i64 n, .slice p m c, .int .i64 k', .int .i64 n', .slice p' m' c'] :=
  open6 Tryz.underlying48 pairTypes pairCells Tryz.underlying3 Tryz.underlying22

theorem convNil_calls (k n : Int) (p : Option Addr) (m c : Nat) (k' n' : Int) (p' : Option Addr) (m' c' : Nat) (W : World) :
    Calls Tryz.prog 5 #[.agg #[.int .i64 k, .int .i64 n, .slice p m c, .int .i64 k', .int .i64 n', .slice p' m' c']] W fun e W' => e = .returned (.bool true) ∧ Below W.heap.size W W' :=
  acall_true mixed hng convPrim_ok (n := 60) rfl (convNil_run k n p m c k' n' p' m' c') (L := fun _ _ => False) (fun _ _ h => h.elim)
    (by simp only [VL, twoAV, V, and_true]; exact ⟨_, rfl, by simp [VL, V]⟩)

set_option maxRecDepth 100000 in
theorem convNil_lifted (os : Os) (started : os.Started) (H : Type) (enc : TypeId × Value → H) :
    ReturnsInHanded {} Tryz.checked os 5 .any (Rows.convNilSpec.pre6 enc Tryz.prog Tryz.f5 Rows.convNilRow.domain false) (Rows.convNilSpec.post enc Tryz.prog Tryz.f5 false true false false) := by
  refine returnsInHanded_of_change (C := Tryz.checked) own started (by kernel_rfl) Tryz.func5
    (ChangeSpec.witness6 (enc := enc) (C := Tryz.checked) false ⟨#[], #[.agg #[.int .i64 0, .int .i64 0, .slice none 0 0, .int .i64 0, .int .i64 0, .slice none 0 0]], []⟩ 8 (by kernel_rfl) (by kernel_rfl) (by kernel_rfl) (by kernel_rfl)) ?_
  intro W base args ds gs before hval0 hW hcnd _
  have hval : ∀ (j : Nat) t v, Tryz.f5.params[j]? = some t → args[j]? = some v → Value.okWide Tryz.prog W .any base t v := hval0
  have hW' := hW
  obtain ⟨p, q, hA0, hV, rfl, hfz, hnd⟩ := hW
  have hA : DataW.TrodAll enc Tryz.prog W 0 (fun _ => true) true Tryz.f5.params.toList args.toList ds p := hA0
  rw [Tryz.params5] at hA hval
  obtain ⟨v0, d0, rfl, rfl, h0⟩ := trodAll_one hA
  obtain ⟨rfl, rfl⟩ := trodVars_none hV
  obtain ⟨k, n, pp, m, c, k', n', pp', m', c', rfl⟩ := open_pair (hval 0 48 v0 rfl rfl)
  clear hA0 hval0
  simp only [List.append_nil] at hW'
  have hlt : ∀ y ∈ p, y.block < W.heap.size := fun y hy => by simpa using hW'.lt y (by simp [hy])
  refine (convNil_calls k n pp m c k' n' pp' m' c' W).mono fun e W' ⟨he, hn⟩ => ?_
  subst he
  exact ⟨_, rfl, _, _, _, [], _, [], hW', trodAll_mk1 shut_true, trodAll_mk1 (Below.trod laidOut (by kernel_rfl) (of_decide_eq_true (by kernel_rfl)) h0 hn hlt), rfl, hn.frame _, fun h => by cases h⟩

set_option maxRecDepth 100000 in
theorem convNil_closed : joinedFacts Tryz.pinned.checked.prog 5 Tryz.f5 Rows.convNilSpec Rows.convNilRow = true := by
  unfold joinedFacts
  exact (both (both (both (both (both (both (both (both (both (both (both (both (both (both (both (both (both (both (both (both (both (both (both (both (both (both (both (both (both (both (both convNil_fact0 fact1) fact2) convNil_fact3) convNil_fact4) convNil_fact5) fact6) convNil_fact7) fact8) convNil_fact9) convNil_fact10) convNil_fact11) convNil_fact12) convNil_fact13) convNil_fact14) convNil_fact15) convNil_fact16) convNil_fact17) convNil_fact18) convNil_fact19) convNil_fact20) convNil_fact21) fact22) convNil_fact23) fact24) fact25) fact26) fact27) convNil_fact28) convNil_fact29) convNil_fact30) convNil_fact31)


theorem convNil_holds : Rows.ConvNilSaid :=
  OpenClaim.holds_of_wide 5 Tryz.f5 rfl rfl rfl rfl rfl rfl rfl ⟨rfl, rfl, rfl, rfl, rfl⟩ rfl rfl rfl rfl rfl (by kernel_rfl) Tryz.func5 convNil_closed
    (of_decide_eq_true (by kernel_rfl)) (by unfold Func.isWrapper; first | (rw [if_pos (by decide +kernel)]; kernel_rfl) | (rw [if_neg (by decide +kernel)]; exact ⟨rfl, rfl⟩))
    (fun os started H enc _ => convNil_lifted os started H enc)

#print axioms convNil_holds
end Go.Proofs.YtkeipljdhcbfoaaGreat
