/- THE SEAT's TYPES: index, part, append at each slice type. -/
import Derived.Test.YtkeipljdhcbfoaaGreatAbSeat
import Derived.Test.YtkeipljdhcbfoaaGreatAbGo
import Derived.Test.YtkeipljdhcbfoaaGreatAbMp
namespace Go.Proofs.YtkeipljdhcbfoaaGreat
open Go Go.Ab

theorem bcases (b : Bool) : b = true ∨ b = false := by cases b <;> simp
theorem gapp_nil {α : Type} {B : Nat} {l m r : List α} (h : gapp B l m = some r) (hm : m.length = 0) : l = r := by
  obtain ⟨_, rfl⟩ := gapp_spec h
  rw [List.length_eq_zero_iff.1 hm, List.append_nil]
theorem forall_nil {α : Type} {p : α → Prop} : ∀ x ∈ ([] : List α), p x := fun _ h => nomatch h
theorem forall_cons {α : Type} {p : α → Prop} {a : α} {l : List α} (h : p a) (k : ∀ x ∈ l, p x) : ∀ x ∈ a :: l, p x := by
  intro x hx
  rcases List.mem_cons.1 hx with rfl | hx
  · exact h
  · exact k x hx

theorem info24 : Tryz.prog.info? 24 = some Tryz.t24 := by kernel_rfl
theorem ix22 {l : List Tm} {i : Int} {o : Own} {x : Tm} (h : gidx l i = some x) : aindexAddr Tryz.prog 22 (.sl (flat tmCells l) l.length o) (ai i) = some (.ip (tmL x ++ flat tmCells (l.drop (i.toNat + 1)))) := by
  have := ix_ok codecT (k := .i64) Tryz.underlying22 info24 rfl h (o := o)
  rw [tm_eq] at this
  exact this
theorem sl22 {l r : List Tm} {a b : Int} (h : gsl l a b = some r) : aslice Tryz.prog 22 (.sl (flat tmCells l) l.length .no) (some (ai a)) (some (ai b)) none = some (.sl (flat tmCells r) r.length .no) := slice_ok codecT Tryz.underlying22 info24 rfl h
theorem slFrom22 {l r : List Tm} {a : Int} (h : gsl l a l.length = some r) : aslice Tryz.prog 22 (.sl (flat tmCells l) l.length .no) (some (ai a)) none none = some (.sl (flat tmCells r) r.length .no) := sliceFrom_ok codecT Tryz.underlying22 info24 rfl h
theorem slTo22 {l r : List Tm} {b : Int} (h : gsl l 0 b = some r) : aslice Tryz.prog 22 (.sl (flat tmCells l) l.length .no) none (some (ai b)) none = some (.sl (flat tmCells r) r.length .no) := sliceTo_ok codecT Tryz.underlying22 info24 rfl h
theorem apS22 {l m r : List Tm} (h : gapp 40 l m = some r) (hm : m.length ≠ 0) : Ob.ok Tryz.prog (.app 22 22 (flat tmCells l) (flat tmCells m) (flat tmCells r) l.length m.length r.length 3 false) := app_some codecT Tryz.underlying22 info24 rfl rfl rfl (by decide) rfl (by decide) h hm
theorem apN22 {l m r : List Tm} (h : gapp 40 l m = some r) (hm : m.length = 0) : Ob.ok Tryz.prog (.app 22 22 (flat tmCells l) (flat tmCells m) (flat tmCells r) l.length m.length r.length 3 true) := app_none' codecT Tryz.underlying22 info24 rfl rfl rfl (by decide) rfl (by decide) h hm

theorem info61 : Tryz.prog.info? 61 = some Tryz.t61 := by kernel_rfl
theorem ix37 {l : List Ent} {i : Int} {o : Own} {x : Ent} (h : gidx l i = some x) : aindexAddr Tryz.prog 37 (.sl (flat entL l) l.length o) (ai i) = some (.ip (entL x ++ flat entL (l.drop (i.toNat + 1)))) := by
  have := ix_ok codecE (k := .i64) Tryz.underlying37 info61 rfl h (o := o)
  exact this
theorem sl37 {l r : List Ent} {a b : Int} (h : gsl l a b = some r) : aslice Tryz.prog 37 (.sl (flat entL l) l.length .no) (some (ai a)) (some (ai b)) none = some (.sl (flat entL r) r.length .no) := slice_ok codecE Tryz.underlying37 info61 rfl h
theorem slFrom37 {l r : List Ent} {a : Int} (h : gsl l a l.length = some r) : aslice Tryz.prog 37 (.sl (flat entL l) l.length .no) (some (ai a)) none none = some (.sl (flat entL r) r.length .no) := sliceFrom_ok codecE Tryz.underlying37 info61 rfl h
theorem slTo37 {l r : List Ent} {b : Int} (h : gsl l 0 b = some r) : aslice Tryz.prog 37 (.sl (flat entL l) l.length .no) none (some (ai b)) none = some (.sl (flat entL r) r.length .no) := sliceTo_ok codecE Tryz.underlying37 info61 rfl h
theorem apS37 {l m r : List Ent} (h : gapp 192 l m = some r) (hm : m.length ≠ 0) : Ob.ok Tryz.prog (.app 37 37 (flat entL l) (flat entL m) (flat entL r) l.length m.length r.length 15 false) := app_some codecE Tryz.underlying37 info61 rfl rfl rfl (by decide) rfl (by decide) h hm
theorem apN37 {l m r : List Ent} (h : gapp 192 l m = some r) (hm : m.length = 0) : Ob.ok Tryz.prog (.app 37 37 (flat entL l) (flat entL m) (flat entL r) l.length m.length r.length 15 true) := app_none' codecE Tryz.underlying37 info61 rfl rfl rfl (by decide) rfl (by decide) h hm

theorem info3 : Tryz.prog.info? 3 = some Tryz.t3 := by kernel_rfl
theorem ix52 {l : List Int} {i : Int} {o : Own} {x : Int} (h : gidx l i = some x) : aindexAddr Tryz.prog 52 (.sl (flat intC l) l.length o) (ai i) = some (.ip (intC x ++ flat intC (l.drop (i.toNat + 1)))) := by
  have := ix_ok codecI (k := .i64) Tryz.underlying52 info3 rfl h (o := o)
  exact this
theorem sl52 {l r : List Int} {a b : Int} (h : gsl l a b = some r) : aslice Tryz.prog 52 (.sl (flat intC l) l.length .no) (some (ai a)) (some (ai b)) none = some (.sl (flat intC r) r.length .no) := slice_ok codecI Tryz.underlying52 info3 rfl h
theorem slFrom52 {l r : List Int} {a : Int} (h : gsl l a l.length = some r) : aslice Tryz.prog 52 (.sl (flat intC l) l.length .no) (some (ai a)) none none = some (.sl (flat intC r) r.length .no) := sliceFrom_ok codecI Tryz.underlying52 info3 rfl h
theorem slTo52 {l r : List Int} {b : Int} (h : gsl l 0 b = some r) : aslice Tryz.prog 52 (.sl (flat intC l) l.length .no) none (some (ai b)) none = some (.sl (flat intC r) r.length .no) := sliceTo_ok codecI Tryz.underlying52 info3 rfl h
theorem apS52 {l m r : List Int} (h : gapp 8 l m = some r) (hm : m.length ≠ 0) : Ob.ok Tryz.prog (.app 52 52 (flat intC l) (flat intC m) (flat intC r) l.length m.length r.length 1 false) := app_some codecI Tryz.underlying52 info3 rfl rfl rfl (by decide) rfl (by decide) h hm
theorem apN52 {l m r : List Int} (h : gapp 8 l m = some r) (hm : m.length = 0) : Ob.ok Tryz.prog (.app 52 52 (flat intC l) (flat intC m) (flat intC r) l.length m.length r.length 1 true) := app_none' codecI Tryz.underlying52 info3 rfl rfl rfl (by decide) rfl (by decide) h hm

theorem info97 : Tryz.prog.info? 97 = some Tryz.t97 := by kernel_rfl
theorem ix92 {l : List Rec'} {i : Int} {o : Own} {x : Rec'} (h : gidx l i = some x) : aindexAddr Tryz.prog 92 (.sl (flat recL l) l.length o) (ai i) = some (.ip (recL x ++ flat recL (l.drop (i.toNat + 1)))) := by
  have := ix_ok codecR (k := .i64) Tryz.underlying92 info97 rfl h (o := o)
  exact this
theorem sl92 {l r : List Rec'} {a b : Int} (h : gsl l a b = some r) : aslice Tryz.prog 92 (.sl (flat recL l) l.length .no) (some (ai a)) (some (ai b)) none = some (.sl (flat recL r) r.length .no) := slice_ok codecR Tryz.underlying92 info97 rfl h
theorem slFrom92 {l r : List Rec'} {a : Int} (h : gsl l a l.length = some r) : aslice Tryz.prog 92 (.sl (flat recL l) l.length .no) (some (ai a)) none none = some (.sl (flat recL r) r.length .no) := sliceFrom_ok codecR Tryz.underlying92 info97 rfl h
theorem slTo92 {l r : List Rec'} {b : Int} (h : gsl l 0 b = some r) : aslice Tryz.prog 92 (.sl (flat recL l) l.length .no) none (some (ai b)) none = some (.sl (flat recL r) r.length .no) := sliceTo_ok codecR Tryz.underlying92 info97 rfl h
theorem apS92 {l m r : List Rec'} (h : gapp 56 l m = some r) (hm : m.length ≠ 0) : Ob.ok Tryz.prog (.app 92 92 (flat recL l) (flat recL m) (flat recL r) l.length m.length r.length 3 false) := app_some codecR Tryz.underlying92 info97 rfl rfl rfl (by decide) rfl (by decide) h hm
theorem apN92 {l m r : List Rec'} (h : gapp 56 l m = some r) (hm : m.length = 0) : Ob.ok Tryz.prog (.app 92 92 (flat recL l) (flat recL m) (flat recL r) l.length m.length r.length 3 true) := app_none' codecR Tryz.underlying92 info97 rfl rfl rfl (by decide) rfl (by decide) h hm

theorem info9 : Tryz.prog.info? 9 = some Tryz.t9 := by kernel_rfl
theorem ix155 {l : List ByteArray} {i : Int} {o : Own} {x : ByteArray} (h : gidx l i = some x) : aindexAddr Tryz.prog 155 (.sl (flat strC l) l.length o) (ai i) = some (.ip (strC x ++ flat strC (l.drop (i.toNat + 1)))) := by
  have := ix_ok codecS (k := .i64) Tryz.underlying155 info9 rfl h (o := o)
  exact this
theorem sl155 {l r : List ByteArray} {a b : Int} (h : gsl l a b = some r) : aslice Tryz.prog 155 (.sl (flat strC l) l.length .no) (some (ai a)) (some (ai b)) none = some (.sl (flat strC r) r.length .no) := slice_ok codecS Tryz.underlying155 info9 rfl h
theorem slFrom155 {l r : List ByteArray} {a : Int} (h : gsl l a l.length = some r) : aslice Tryz.prog 155 (.sl (flat strC l) l.length .no) (some (ai a)) none none = some (.sl (flat strC r) r.length .no) := sliceFrom_ok codecS Tryz.underlying155 info9 rfl h
theorem slTo155 {l r : List ByteArray} {b : Int} (h : gsl l 0 b = some r) : aslice Tryz.prog 155 (.sl (flat strC l) l.length .no) none (some (ai b)) none = some (.sl (flat strC r) r.length .no) := sliceTo_ok codecS Tryz.underlying155 info9 rfl h
theorem apS155 {l m r : List ByteArray} (h : gapp 16 l m = some r) (hm : m.length ≠ 0) : Ob.ok Tryz.prog (.app 155 155 (flat strC l) (flat strC m) (flat strC r) l.length m.length r.length 1 false) := app_some codecS Tryz.underlying155 info9 rfl rfl rfl (by decide) rfl (by decide) h hm
theorem apN155 {l m r : List ByteArray} (h : gapp 16 l m = some r) (hm : m.length = 0) : Ob.ok Tryz.prog (.app 155 155 (flat strC l) (flat strC m) (flat strC r) l.length m.length r.length 1 true) := app_none' codecS Tryz.underlying155 info9 rfl rfl rfl (by decide) rfl (by decide) h hm

theorem info206 : Tryz.prog.info? 206 = some Tryz.t206 := by kernel_rfl
theorem ix161 {l : List Con'} {i : Int} {o : Own} {x : Con'} (h : gidx l i = some x) : aindexAddr Tryz.prog 161 (.sl (flat conL l) l.length o) (ai i) = some (.ip (conL x ++ flat conL (l.drop (i.toNat + 1)))) := by
  have := ix_ok codecC (k := .i64) Tryz.underlying161 info206 rfl h (o := o)
  exact this
theorem sl161 {l r : List Con'} {a b : Int} (h : gsl l a b = some r) : aslice Tryz.prog 161 (.sl (flat conL l) l.length .no) (some (ai a)) (some (ai b)) none = some (.sl (flat conL r) r.length .no) := slice_ok codecC Tryz.underlying161 info206 rfl h
theorem slFrom161 {l r : List Con'} {a : Int} (h : gsl l a l.length = some r) : aslice Tryz.prog 161 (.sl (flat conL l) l.length .no) (some (ai a)) none none = some (.sl (flat conL r) r.length .no) := sliceFrom_ok codecC Tryz.underlying161 info206 rfl h
theorem slTo161 {l r : List Con'} {b : Int} (h : gsl l 0 b = some r) : aslice Tryz.prog 161 (.sl (flat conL l) l.length .no) none (some (ai b)) none = some (.sl (flat conL r) r.length .no) := sliceTo_ok codecC Tryz.underlying161 info206 rfl h
theorem apS161 {l m r : List Con'} (h : gapp 72 l m = some r) (hm : m.length ≠ 0) : Ob.ok Tryz.prog (.app 161 161 (flat conL l) (flat conL m) (flat conL r) l.length m.length r.length 3 false) := app_some codecC Tryz.underlying161 info206 rfl rfl rfl (by decide) rfl (by decide) h hm
theorem apN161 {l m r : List Con'} (h : gapp 72 l m = some r) (hm : m.length = 0) : Ob.ok Tryz.prog (.app 161 161 (flat conL l) (flat conL m) (flat conL r) l.length m.length r.length 3 true) := app_none' codecC Tryz.underlying161 info206 rfl rfl rfl (by decide) rfl (by decide) h hm

theorem info209 : Tryz.prog.info? 209 = some Tryz.t209 := by kernel_rfl
theorem ix204 {l : List Rec'} {i : Int} {o : Own} {x : Rec'} (h : gidx l i = some x) : aindexAddr Tryz.prog 204 (.sl (flat recL l) l.length o) (ai i) = some (.ip (recL x ++ flat recL (l.drop (i.toNat + 1)))) := by
  have := ix_ok codecR (k := .i64) Tryz.underlying204 info209 rfl h (o := o)
  exact this
theorem sl204 {l r : List Rec'} {a b : Int} (h : gsl l a b = some r) : aslice Tryz.prog 204 (.sl (flat recL l) l.length .no) (some (ai a)) (some (ai b)) none = some (.sl (flat recL r) r.length .no) := slice_ok codecR Tryz.underlying204 info209 rfl h
theorem slFrom204 {l r : List Rec'} {a : Int} (h : gsl l a l.length = some r) : aslice Tryz.prog 204 (.sl (flat recL l) l.length .no) (some (ai a)) none none = some (.sl (flat recL r) r.length .no) := sliceFrom_ok codecR Tryz.underlying204 info209 rfl h
theorem slTo204 {l r : List Rec'} {b : Int} (h : gsl l 0 b = some r) : aslice Tryz.prog 204 (.sl (flat recL l) l.length .no) none (some (ai b)) none = some (.sl (flat recL r) r.length .no) := sliceTo_ok codecR Tryz.underlying204 info209 rfl h
theorem apS204 {l m r : List Rec'} (h : gapp 56 l m = some r) (hm : m.length ≠ 0) : Ob.ok Tryz.prog (.app 204 204 (flat recL l) (flat recL m) (flat recL r) l.length m.length r.length 3 false) := app_some codecR Tryz.underlying204 info209 rfl rfl rfl (by decide) rfl (by decide) h hm
theorem apN204 {l m r : List Rec'} (h : gapp 56 l m = some r) (hm : m.length = 0) : Ob.ok Tryz.prog (.app 204 204 (flat recL l) (flat recL m) (flat recL r) l.length m.length r.length 3 true) := app_none' codecR Tryz.underlying204 info209 rfl rfl rfl (by decide) rfl (by decide) h hm

theorem info5 : Tryz.prog.info? 5 = some Tryz.t5 := by kernel_rfl
theorem ix282 {l : List U8} {i : Int} {o : Own} {x : U8} (h : gidx l i = some x) : aindexAddr Tryz.prog 282 (.sl (flat u8C l) l.length o) (ai i) = some (.ip (u8C x ++ flat u8C (l.drop (i.toNat + 1)))) := by
  have := ix_ok codecU (k := .i64) Tryz.underlying282 info5 rfl h (o := o)
  exact this
theorem sl282 {l r : List U8} {a b : Int} (h : gsl l a b = some r) : aslice Tryz.prog 282 (.sl (flat u8C l) l.length .no) (some (ai a)) (some (ai b)) none = some (.sl (flat u8C r) r.length .no) := slice_ok codecU Tryz.underlying282 info5 rfl h
theorem slFrom282 {l r : List U8} {a : Int} (h : gsl l a l.length = some r) : aslice Tryz.prog 282 (.sl (flat u8C l) l.length .no) (some (ai a)) none none = some (.sl (flat u8C r) r.length .no) := sliceFrom_ok codecU Tryz.underlying282 info5 rfl h
theorem slTo282 {l r : List U8} {b : Int} (h : gsl l 0 b = some r) : aslice Tryz.prog 282 (.sl (flat u8C l) l.length .no) none (some (ai b)) none = some (.sl (flat u8C r) r.length .no) := sliceTo_ok codecU Tryz.underlying282 info5 rfl h
theorem apS282 {l m r : List U8} (h : gapp 1 l m = some r) (hm : m.length ≠ 0) : Ob.ok Tryz.prog (.app 282 282 (flat u8C l) (flat u8C m) (flat u8C r) l.length m.length r.length 1 false) := app_some codecU Tryz.underlying282 info5 rfl rfl rfl (by decide) rfl (by decide) h hm
theorem apN282 {l m r : List U8} (h : gapp 1 l m = some r) (hm : m.length = 0) : Ob.ok Tryz.prog (.app 282 282 (flat u8C l) (flat u8C m) (flat u8C r) l.length m.length r.length 1 true) := app_none' codecU Tryz.underlying282 info5 rfl rfl rfl (by decide) rfl (by decide) h hm

theorem ixArr247 {l : List Int} {i x : Int} (h : gidx l i = some x) (hl : l.length = 9) : aindex Tryz.prog 247 (.agg (flat intC l)) (ai i) = some (ai x) := ixArr_ok (k := .i64) Tryz.underlying247 (q := (false, 1)) (by kernel_rfl) rfl hl h
theorem slO22 {l r : List Tm} {a b : Int} {o : Own} (h : gsl l a b = some r) : ∃ a0, aslice Tryz.prog 22 (.sl (flat tmCells l) l.length o) (some (ai a)) (some (ai b)) none = some a0 ∧ a0.frz = .sl (flat tmCells r) r.length .no := sliceO_ok codecT Tryz.underlying22 info24 rfl h
theorem slO37 {l r : List Ent} {a b : Int} {o : Own} (h : gsl l a b = some r) : ∃ a0, aslice Tryz.prog 37 (.sl (flat entL l) l.length o) (some (ai a)) (some (ai b)) none = some a0 ∧ a0.frz = .sl (flat entL r) r.length .no := sliceO_ok codecE Tryz.underlying37 info61 rfl h
theorem slO52 {l r : List Int} {a b : Int} {o : Own} (h : gsl l a b = some r) : ∃ a0, aslice Tryz.prog 52 (.sl (flat intC l) l.length o) (some (ai a)) (some (ai b)) none = some a0 ∧ a0.frz = .sl (flat intC r) r.length .no := sliceO_ok codecI Tryz.underlying52 info3 rfl h
theorem slO92 {l r : List Rec'} {a b : Int} {o : Own} (h : gsl l a b = some r) : ∃ a0, aslice Tryz.prog 92 (.sl (flat recL l) l.length o) (some (ai a)) (some (ai b)) none = some a0 ∧ a0.frz = .sl (flat recL r) r.length .no := sliceO_ok codecR Tryz.underlying92 info97 rfl h
theorem slO155 {l r : List ByteArray} {a b : Int} {o : Own} (h : gsl l a b = some r) : ∃ a0, aslice Tryz.prog 155 (.sl (flat strC l) l.length o) (some (ai a)) (some (ai b)) none = some a0 ∧ a0.frz = .sl (flat strC r) r.length .no := sliceO_ok codecS Tryz.underlying155 info9 rfl h
theorem slO161 {l r : List Con'} {a b : Int} {o : Own} (h : gsl l a b = some r) : ∃ a0, aslice Tryz.prog 161 (.sl (flat conL l) l.length o) (some (ai a)) (some (ai b)) none = some a0 ∧ a0.frz = .sl (flat conL r) r.length .no := sliceO_ok codecC Tryz.underlying161 info206 rfl h
theorem slO204 {l r : List Rec'} {a b : Int} {o : Own} (h : gsl l a b = some r) : ∃ a0, aslice Tryz.prog 204 (.sl (flat recL l) l.length o) (some (ai a)) (some (ai b)) none = some a0 ∧ a0.frz = .sl (flat recL r) r.length .no := sliceO_ok codecR Tryz.underlying204 info209 rfl h
theorem slO282 {l r : List U8} {a b : Int} {o : Own} (h : gsl l a b = some r) : ∃ a0, aslice Tryz.prog 282 (.sl (flat u8C l) l.length o) (some (ai a)) (some (ai b)) none = some a0 ∧ a0.frz = .sl (flat u8C r) r.length .no := sliceO_ok codecU Tryz.underlying282 info5 rfl h
theorem slFromO22 {l r : List Tm} {a : Int} {o : Own} (h : gsl l a l.length = some r) : ∃ a0, aslice Tryz.prog 22 (.sl (flat tmCells l) l.length o) (some (ai a)) none none = some a0 ∧ a0.frz = .sl (flat tmCells r) r.length .no := sliceFromO_ok codecT Tryz.underlying22 info24 rfl h
theorem slFromO37 {l r : List Ent} {a : Int} {o : Own} (h : gsl l a l.length = some r) : ∃ a0, aslice Tryz.prog 37 (.sl (flat entL l) l.length o) (some (ai a)) none none = some a0 ∧ a0.frz = .sl (flat entL r) r.length .no := sliceFromO_ok codecE Tryz.underlying37 info61 rfl h
theorem slFromO52 {l r : List Int} {a : Int} {o : Own} (h : gsl l a l.length = some r) : ∃ a0, aslice Tryz.prog 52 (.sl (flat intC l) l.length o) (some (ai a)) none none = some a0 ∧ a0.frz = .sl (flat intC r) r.length .no := sliceFromO_ok codecI Tryz.underlying52 info3 rfl h
theorem slFromO92 {l r : List Rec'} {a : Int} {o : Own} (h : gsl l a l.length = some r) : ∃ a0, aslice Tryz.prog 92 (.sl (flat recL l) l.length o) (some (ai a)) none none = some a0 ∧ a0.frz = .sl (flat recL r) r.length .no := sliceFromO_ok codecR Tryz.underlying92 info97 rfl h
theorem slFromO155 {l r : List ByteArray} {a : Int} {o : Own} (h : gsl l a l.length = some r) : ∃ a0, aslice Tryz.prog 155 (.sl (flat strC l) l.length o) (some (ai a)) none none = some a0 ∧ a0.frz = .sl (flat strC r) r.length .no := sliceFromO_ok codecS Tryz.underlying155 info9 rfl h
theorem slFromO161 {l r : List Con'} {a : Int} {o : Own} (h : gsl l a l.length = some r) : ∃ a0, aslice Tryz.prog 161 (.sl (flat conL l) l.length o) (some (ai a)) none none = some a0 ∧ a0.frz = .sl (flat conL r) r.length .no := sliceFromO_ok codecC Tryz.underlying161 info206 rfl h
theorem slFromO204 {l r : List Rec'} {a : Int} {o : Own} (h : gsl l a l.length = some r) : ∃ a0, aslice Tryz.prog 204 (.sl (flat recL l) l.length o) (some (ai a)) none none = some a0 ∧ a0.frz = .sl (flat recL r) r.length .no := sliceFromO_ok codecR Tryz.underlying204 info209 rfl h
theorem slFromO282 {l r : List U8} {a : Int} {o : Own} (h : gsl l a l.length = some r) : ∃ a0, aslice Tryz.prog 282 (.sl (flat u8C l) l.length o) (some (ai a)) none none = some a0 ∧ a0.frz = .sl (flat u8C r) r.length .no := sliceFromO_ok codecU Tryz.underlying282 info5 rfl h
theorem slToO22 {l r : List Tm} {b : Int} {o : Own} (h : gsl l 0 b = some r) : ∃ a0, aslice Tryz.prog 22 (.sl (flat tmCells l) l.length o) none (some (ai b)) none = some a0 ∧ a0.frz = .sl (flat tmCells r) r.length .no := sliceToO_ok codecT Tryz.underlying22 info24 rfl h
theorem slToO37 {l r : List Ent} {b : Int} {o : Own} (h : gsl l 0 b = some r) : ∃ a0, aslice Tryz.prog 37 (.sl (flat entL l) l.length o) none (some (ai b)) none = some a0 ∧ a0.frz = .sl (flat entL r) r.length .no := sliceToO_ok codecE Tryz.underlying37 info61 rfl h
theorem slToO52 {l r : List Int} {b : Int} {o : Own} (h : gsl l 0 b = some r) : ∃ a0, aslice Tryz.prog 52 (.sl (flat intC l) l.length o) none (some (ai b)) none = some a0 ∧ a0.frz = .sl (flat intC r) r.length .no := sliceToO_ok codecI Tryz.underlying52 info3 rfl h
theorem slToO92 {l r : List Rec'} {b : Int} {o : Own} (h : gsl l 0 b = some r) : ∃ a0, aslice Tryz.prog 92 (.sl (flat recL l) l.length o) none (some (ai b)) none = some a0 ∧ a0.frz = .sl (flat recL r) r.length .no := sliceToO_ok codecR Tryz.underlying92 info97 rfl h
theorem slToO155 {l r : List ByteArray} {b : Int} {o : Own} (h : gsl l 0 b = some r) : ∃ a0, aslice Tryz.prog 155 (.sl (flat strC l) l.length o) none (some (ai b)) none = some a0 ∧ a0.frz = .sl (flat strC r) r.length .no := sliceToO_ok codecS Tryz.underlying155 info9 rfl h
theorem slToO161 {l r : List Con'} {b : Int} {o : Own} (h : gsl l 0 b = some r) : ∃ a0, aslice Tryz.prog 161 (.sl (flat conL l) l.length o) none (some (ai b)) none = some a0 ∧ a0.frz = .sl (flat conL r) r.length .no := sliceToO_ok codecC Tryz.underlying161 info206 rfl h
theorem slToO204 {l r : List Rec'} {b : Int} {o : Own} (h : gsl l 0 b = some r) : ∃ a0, aslice Tryz.prog 204 (.sl (flat recL l) l.length o) none (some (ai b)) none = some a0 ∧ a0.frz = .sl (flat recL r) r.length .no := sliceToO_ok codecR Tryz.underlying204 info209 rfl h
theorem slToO282 {l r : List U8} {b : Int} {o : Own} (h : gsl l 0 b = some r) : ∃ a0, aslice Tryz.prog 282 (.sl (flat u8C l) l.length o) none (some (ai b)) none = some a0 ∧ a0.frz = .sl (flat u8C r) r.length .no := sliceToO_ok codecU Tryz.underlying282 info5 rfl h
theorem lk235 (m : List (ByteArray × Int)) (k : ByteArray) : Ob.ok Tryz.prog (.lk 235 (smap m) (at' k) false (ai (mget m k))) := lk_ok Tryz.underlying235 Tryz.underlying9 info3 rfl m k
theorem mu235 (m : List (ByteArray × Int)) (k : ByteArray) (v : Int) : Ob.ok Tryz.prog (.mu 235 (smap m) (at' k) (ai v) (smap (mset m k v))) := mu_ok Tryz.underlying235 Tryz.underlying9 m k v
theorem ixStr9 {s : ByteArray} {i x : Int} (h : gbyte s i = some x) : aindex Tryz.prog 9 (at' s) (ai i) = some (.val (.int .u8 x)) := ixStr_ok Tryz.underlying9 h

theorem info234 : Tryz.prog.info? 234 = some Tryz.t234 := by kernel_rfl
theorem ix266 {l : List Got9} {i : Int} {o : Own} {x : Got9} (h : gidx l i = some x) : aindexAddr Tryz.prog 266 (.sl (flat got9L l) l.length o) (ai i) = some (.ip (got9L x ++ flat got9L (l.drop (i.toNat + 1)))) := by
  have := ix_ok codecG9 (k := .i64) Tryz.underlying266 info234 rfl h (o := o)
  exact this
theorem sl266 {l r : List Got9} {a b : Int} (h : gsl l a b = some r) : aslice Tryz.prog 266 (.sl (flat got9L l) l.length .no) (some (ai a)) (some (ai b)) none = some (.sl (flat got9L r) r.length .no) := slice_ok codecG9 Tryz.underlying266 info234 rfl h
theorem slFrom266 {l r : List Got9} {a : Int} (h : gsl l a l.length = some r) : aslice Tryz.prog 266 (.sl (flat got9L l) l.length .no) (some (ai a)) none none = some (.sl (flat got9L r) r.length .no) := sliceFrom_ok codecG9 Tryz.underlying266 info234 rfl h
theorem slTo266 {l r : List Got9} {b : Int} (h : gsl l 0 b = some r) : aslice Tryz.prog 266 (.sl (flat got9L l) l.length .no) none (some (ai b)) none = some (.sl (flat got9L r) r.length .no) := sliceTo_ok codecG9 Tryz.underlying266 info234 rfl h
theorem apS266 {l m r : List Got9} (h : gapp 48 l m = some r) (hm : m.length ≠ 0) : Ob.ok Tryz.prog (.app 266 266 (flat got9L l) (flat got9L m) (flat got9L r) l.length m.length r.length 4 false) := app_some codecG9 Tryz.underlying266 info234 rfl rfl rfl (by decide) rfl (by decide) h hm
theorem apN266 {l m r : List Got9} (h : gapp 48 l m = some r) (hm : m.length = 0) : Ob.ok Tryz.prog (.app 266 266 (flat got9L l) (flat got9L m) (flat got9L r) l.length m.length r.length 4 true) := app_none' codecG9 Tryz.underlying266 info234 rfl rfl rfl (by decide) rfl (by decide) h hm
theorem slO266 {l r : List Got9} {a b : Int} {o : Own} (h : gsl l a b = some r) : ∃ a0, aslice Tryz.prog 266 (.sl (flat got9L l) l.length o) (some (ai a)) (some (ai b)) none = some a0 ∧ a0.frz = .sl (flat got9L r) r.length .no := sliceO_ok codecG9 Tryz.underlying266 info234 rfl h
theorem slFromO266 {l r : List Got9} {a : Int} {o : Own} (h : gsl l a l.length = some r) : ∃ a0, aslice Tryz.prog 266 (.sl (flat got9L l) l.length o) (some (ai a)) none none = some a0 ∧ a0.frz = .sl (flat got9L r) r.length .no := sliceFromO_ok codecG9 Tryz.underlying266 info234 rfl h
theorem slToO266 {l r : List Got9} {b : Int} {o : Own} (h : gsl l 0 b = some r) : ∃ a0, aslice Tryz.prog 266 (.sl (flat got9L l) l.length o) none (some (ai b)) none = some a0 ∧ a0.frz = .sl (flat got9L r) r.length .no := sliceToO_ok codecG9 Tryz.underlying266 info234 rfl h
theorem slStr9 {s r : ByteArray} {a b : Int} (h : gsub s a b = some r) : aslice Tryz.prog 9 (at' s) (some (ai a)) (some (ai b)) none = some (at' r) := slStr_ok Tryz.underlying9 h
theorem cv282_9 (l : List U8) {o : Own} : aconvert Tryz.prog 282 9 (.sl (flat u8C l) l.length o) = some (at' (gstr l)) := cvStr_ok Tryz.underlying282 Tryz.underlying9 Tryz.underlying5 l
end Go.Proofs.YtkeipljdhcbfoaaGreat
