/- THE OPERATIONS THAT TOUCH NOTHING: what they come to. -/
import Derived.Test.YtkeipljdhcbfoaaGreatAbPure
namespace Go.Ab
open Go Go.RowKit

def abin (op : BinOp) (x y : AV) : Option AV :=
  match x, y with
  | .val (.int k a), .val (.int k' b) =>
    if k = k' then
      match op with
      | .add => some (.val (.int k (k.wrap (a + b))))
      | .sub => some (.val (.int k (k.wrap (a - b))))
      | .mul => some (.val (.int k (k.wrap (a * b))))
      | .eql => some (.val (.bool (a == b)))
      | .neq => some (.val (.bool (a != b)))
      | .lss => some (.val (.bool (a < b)))
      | .leq => some (.val (.bool (a ≤ b)))
      | .gtr => some (.val (.bool (a > b)))
      | .geq => some (.val (.bool (a ≥ b)))
      | .and => some (.val (.int k (k.wrap ((BitVec.ofInt k.bits a &&& BitVec.ofInt k.bits b).toNat : Nat))))
      | .or => some (.val (.int k (k.wrap ((BitVec.ofInt k.bits a ||| BitVec.ofInt k.bits b).toNat : Nat))))
      | .quo => if b = 0 then none else some (.val (.int k (k.wrap (a.tdiv b))))
      | .rem => if b = 0 then none else some (.val (.int k (a.tmod b)))
      | .shl => if b < 0 then none else some (.val (.int k (k.wrap (a * 2 ^ (min b.toNat k.bits)))))
      | .shr => if b < 0 then none else some (.val (.int k (a.fdiv (2 ^ (min b.toNat k.bits)))))
      | _ => none
    else match op with
      | .shl => if b < 0 then none else some (.val (.int k (k.wrap (a * 2 ^ (min b.toNat k.bits)))))
      | .shr => if b < 0 then none else some (.val (.int k (a.fdiv (2 ^ (min b.toNat k.bits)))))
      | _ => none
  | .val (.string a), .val (.string b) =>
    match op with
    | .add => if a.size + b.size ≤ 4294967296 then some (.val (.string (a ++ b))) else none
    | .eql => some (.val (.bool (a.toList == b.toList)))
    | .neq => some (.val (.bool (!(a.toList == b.toList))))
    | _ => none
  | _, _ => none

/-- comparisons with nil, of bools -/
def aeql (d : TypeDesc) (x y : AV) : Option Bool :=
  match d, x, y with
  | .bool, .val (.bool a), .val (.bool b) => some (a == b)
  | .pointer _, .mp _ _, .val (.pointer none) => some false
  | .pointer _, .ip _, .val (.pointer none) => some false
  | .pointer _, .val (.pointer none), .val (.pointer none) => some true
  | .slice _, .sl _ _ .nl, .sl _ _ .nl => some true
  | .slice _, .sl _ _ .nn, .sl _ _ .nl => some false
  | .func _ _ _, .clo _ _ _, .val .nilFunc => some false
  | .func _ _ _, .val .nilFunc, .val .nilFunc => some true
  | _, _, _ => none

def abinOp (P : Program) (op : BinOp) (t : TypeId) (x y : AV) : Option AV :=
  match abin op x y with
  | some v => some v
  | none =>
    match P.underlying t, op with
    | some d, .eql => (aeql d x y).map fun b => .val (.bool b)
    | some d, .neq => (aeql d x y).map fun b => .val (.bool (!b))
    | _, _ => none

theorem run_equal {P : Program} {t : TypeId} {w : World} {x y : Value} {b : Bool}
    (he : ∀ n, (Op.equalIn (n + 1) t x y).run P w = .ok b w) : (Op.equal t x y).run P w = .ok b w := he 9999

theorem ex_val {P : Program} {G : Gh} {w : World} {m : Sem Value} {X : Value} (h : m.run P w = .ok X w) : ∃ q, m.run P w = .ok q w ∧ V G w (.val X) q :=
  ⟨X, h, by simp only [V]⟩

theorem aeql_ok {P : Program} {t : TypeId} {d : TypeDesc} {G : Gh} {w : World} {x y : AV} {u v : Value} {b : Bool} (h : P.underlying t = some d) (hu : V G w x u) (hv : V G w y v)
    (he : aeql d x y = some b) : (Op.equal t u v).run P w = .ok b w ∧ (∀ op a c, eqGuard op t a c u v = pure ()) ∧ binOp .eql t u v = (do pure (.bool (← Op.equal t u v))) ∧ binOp .neq t u v = (do pure (.bool (!(← Op.equal t u v)))) := by
  unfold aeql at he
  split at he <;> simp only [Option.some.injEq, reduceCtorEq] at he <;> subst he <;> simp only [V] at hu hv
  · subst hu hv
    exact ⟨run_equal fun n => by simp [Op.equalIn, run_underlying h], fun op a c => eqGuard_at_bool op t a c _ _, rfl, rfl⟩
  · obtain ⟨q, _, rfl⟩ := hu; subst hv
    exact ⟨run_equal fun n => by simp [Op.equalIn, run_underlying h], fun op a c => eqGuard_at_pointer op t a c _ _, rfl, rfl⟩
  · obtain ⟨q, _, rfl, _⟩ := hu; subst hv
    exact ⟨run_equal fun n => by simp [Op.equalIn, run_underlying h], fun op a c => eqGuard_at_pointer op t a c _ _, rfl, rfl⟩
  · subst hu hv
    exact ⟨run_equal fun n => by simp [Op.equalIn, run_underlying h], fun op a c => eqGuard_at_pointer op t a c _ _, rfl, rfl⟩
  · obtain ⟨c1, _, ⟨_, _, _, e1, f1⟩ | ⟨_, _, _, _, hf⟩⟩ := hu
    · obtain ⟨c2, _, ⟨_, _, _, e2, f2⟩ | ⟨_, _, _, _, hf⟩⟩ := hv
      · simp only [Own.nil] at f1 f2
        rw [f1] at e1; rw [f2] at e2; subst e1 e2
        exact ⟨run_equal fun n => by simp [Op.equalIn, run_underlying h], fun op a c => eqGuard_at_slice op t a c _ _ _ _, rfl, rfl⟩
      · exact hf.elim
    · exact hf.elim
  · obtain ⟨c1, _, ⟨_, _, _, e1, a1, f1⟩ | ⟨_, _, rfl, _⟩⟩ := hu
    · rw [f1] at e1; subst e1
      obtain ⟨c2, _, ⟨_, _, _, e2, f2⟩ | ⟨_, _, _, _, hf⟩⟩ := hv
      · simp only [Own.nil] at f2
        rw [f2] at e2; subst e2
        exact ⟨run_equal fun n => by simp [Op.equalIn, run_underlying h], fun op a c => eqGuard_at_slice op t a c _ _ _ _, rfl, rfl⟩
      · exact hf.elim
    · obtain ⟨c2, _, ⟨_, _, _, e2, f2⟩ | ⟨_, _, _, _, hf⟩⟩ := hv
      · simp only [Own.nil] at f2
        rw [f2] at e2; subst e2
        exact ⟨run_equal fun n => by simp [Op.equalIn, run_underlying h], fun op a c => eqGuard_at_slice op t a c _ _ _ _, rfl, rfl⟩
      · exact hf.elim
  · obtain ⟨q, r, rfl, _⟩ := hu; subst hv
    exact ⟨run_equal fun n => by simp [Op.equalIn, run_underlying h], fun op a c => eqGuard_at_func op t a c _ _ _ _, rfl, rfl⟩
  · subst hu hv
    exact ⟨run_equal fun n => by simp [Op.equalIn, run_underlying h], fun op a c => eqGuard_at_nilFunc op t a c _, rfl, rfl⟩

theorem abinOp_ok {P : Program} {t : TypeId} {op : BinOp} {G : Gh} {w : World} {x y r : AV} {u v : Value} (hu : V G w x u) (hv : V G w y v) (a c : Operand)
    (h : abinOp P op t x y = some r) : ∃ q, (do eqGuard op t a c u v; binOp op t u v : Sem Value).run P w = .ok q w ∧ V G w r q := by
  unfold abinOp at h
  split at h
  · rename_i r' hr
    cases h
    unfold abin at hr
    split at hr
    · simp only [V] at hu hv; subst hu hv
      rename_i k a' k' b'
      split at hr
      · rename_i hk; subst hk
        split at hr <;> (try split at hr) <;> simp only [Option.some.injEq, reduceCtorEq] at hr <;> subst hr <;> (refine ex_val ?_; simp_all [eqGuard_at_int, binOp, Op.intArith, Op.intCmp, Op.intBits, Op.intDiv, Op.shift] <;> (try (intro hh; omega)))
      · split at hr <;> (try split at hr) <;> simp only [Option.some.injEq, reduceCtorEq] at hr <;> subst hr <;> (refine ex_val ?_; simp_all [eqGuard, binOp, Op.shift] <;> (try (intro hh; omega)))
    · simp only [V] at hu hv; subst hu hv
      rename_i a' b'
      split at hr
      · split at hr
        · rename_i hsz
          cases hr
          refine ex_val ?_
          have h63 : ¬ (((a'.size + b'.size : Nat) : Int) > IntKind.i64.max) := by simp; omega
          simp only [eqGuard_at_string, Sem.run_bind, Sem.run_pure, Result.andThen_ok, binOp, Op.stringOp]
          rw [if_neg h63]; rfl
        · cases hr
      · cases hr
        exact ex_val (by simp [eqGuard_at_string, binOp, Op.stringOp])
      · cases hr
        exact ex_val (by simp [eqGuard_at_string, binOp, Op.stringOp])
      · cases hr
    · cases hr
  · cases hd : P.underlying t with
    | none => simp [hd] at h
    | some d =>
      simp only [hd] at h
      split at h
      · rename_i heq _
        simp only [Option.some.injEq] at heq; subst heq
        simp only [Option.map_eq_some_iff] at h
        obtain ⟨b, hb, rfl⟩ := h
        obtain ⟨h1, h2, h3⟩ := aeql_ok hd hu hv hb
        refine ⟨.bool b, ?_, by simp only [V]⟩
        rw [h2, h3.1]
        simp [h1]
      · rename_i heq _
        simp only [Option.some.injEq] at heq; subst heq
        simp only [Option.map_eq_some_iff] at h
        obtain ⟨b, hb, rfl⟩ := h
        obtain ⟨h1, h2, h3⟩ := aeql_ok hd hu hv hb
        refine ⟨.bool (!b), ?_, by simp only [V]⟩
        rw [h2, h3.2]
        simp [h1]
      · cases h

end Go.Ab
