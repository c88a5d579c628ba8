/- THE OPERATIONS THAT LOOK AT, CHANGE OR MAKE MEMORY. -/
import Derived.Test.YtkeipljdhcbfoaaGreatAbPop3
import Derived.IntWalk
import Derived.Laws.MakeOwn
namespace Go.Ab
open Go Go.RowKit

structure LSt where
  H : List (Nat × Blk)
  nx : Nat
  own : List Nat
  ns : Nat
  dirty : List Nat := []

def look : List (Nat × Blk) → Nat → Option Blk
  | [], _ => none
  | p :: l, i => bif Nat.beq i p.1 then some p.2 else look l i

/- LA's application, in its common forms -/
theorem app_none {la : LA} {σ : ASt} (h1 : la.wr = []) (h2 : la.al = []) (h3 : la.use = []) (h4 : la.new = 0) : la.app σ = σ := by
  unfold LA.app
  rw [h1, h2, h3, h4]
  show (ASt.mk σ.H σ.own σ.ns).stamps [] 0 = σ
  rw [ASt.stamps_zero]

theorem app_al {ev : Operand → AV} {rd : List (Nat × Blk)} {i : Nat} {X : Blk} {v : AV} {σ : ASt} :
    ({ ev := ev, rd := rd, al := [(i, X)], v := v } : LA).app σ = ⟨up σ.H i X, σ.own, σ.ns⟩ := by
  unfold LA.app
  show (ASt.mk (up σ.H i X) σ.own σ.ns).stamps [] 0 = _
  rw [ASt.stamps_zero]

theorem app_wr {ev : Operand → AV} {i : Nat} {X Y : Blk} {v : AV} {σ : ASt} :
    ({ ev := ev, wr := [(i, X, Y)], v := v } : LA).app σ = ⟨up σ.H i Y, σ.own, σ.ns⟩ := by
  unfold LA.app
  show (ASt.mk (up σ.H i Y) σ.own σ.ns).stamps [] 0 = _
  rw [ASt.stamps_zero]

theorem stamp_none (σ : ASt) : σ.stamps [] 1 = σ.stamp none true := by
  unfold ASt.stamps ASt.stamp
  congr 1
  funext j
  by_cases h : j = σ.ns
  · subst h; simp
  · have h' : ¬ (σ.ns ≤ j ∧ j < σ.ns + 1) := by omega
    simp only [if_neg h']
    simp [h]

theorem stamp_some (σ : ASt) (k : Nat) : σ.stamps [k] 1 = σ.stamp (some k) true := by
  unfold ASt.stamps ASt.stamp
  congr 1
  funext j
  by_cases h : j = σ.ns
  · subst h; simp
  · have h' : ¬ (σ.ns ≤ j ∧ j < σ.ns + 1) := by omega
    simp only [if_neg h']
    by_cases hj : j = k
    · subst hj; simp [h]
    · have hk : ¬ k = j := fun e => hj e.symm
      simp [h, hj, hk]

theorem app_new {ev : Operand → AV} {ns : Nat} {v : AV} {σ : ASt} : ({ ev := ev, ns := ns, new := 1, v := v } : LA).app σ = σ.stamp none true := stamp_none σ
theorem app_use {ev : Operand → AV} {ns k : Nat} {v : AV} {σ : ASt} : ({ ev := ev, use := [k], ns := ns, new := 1, v := v } : LA).app σ = σ.stamp (some k) true := stamp_some σ k

/- a load from a block of the state's own -/
theorem part1_mem {P : Program} {t : TypeId} {q : Bool × Nat} {G : Gh} {w : World} {cs : List AV} {vs : Array Value} {b off : Nat} {T : TypeId} {fr : Nat × Nat} {r : AV} (ht : tsz P t = some q)
    (hb : w.heap[b]? = some (.cells vs T fr)) (hvp : VLp G w cs vs.toList) (h : part1 q (cs.drop off) = some r) :
    ∃ u, (Instr.loadAt t (.pointer (some ⟨b, off, none⟩))).run P w = .ok u w ∧ V G w r u := by
  have hvd := hvp.drop off
  unfold tsz at ht
  cases hu : P.underlying t with
  | none => simp [hu] at ht
  | some d =>
    cases hi : P.info? t with
    | none => simp [hu, hi] at ht
    | some i =>
      simp only [hu, hi, Option.some.injEq] at ht
      subst ht
      unfold part1 at h
      have hcell : ∀ j v, (vs.toList.drop off)[j]? = some v → w.cell? ⟨b, off + j, none⟩ = some v := by
        intro j v hj
        rw [List.getElem?_drop] at hj
        simp [World.cell?, hb, ← hj]
      split at h
      · rename_i n heq
        simp only [Prod.mk.injEq] at heq
        obtain ⟨h1, rfl⟩ := heq
        cases hle : Nat.ble i.size (cs.drop off).length with
        | false => simp only [hle, cond_false, reduceCtorEq] at h
        | true =>
          simp only [hle, cond_true, Option.some.injEq] at h
          subst h
          have hle' : i.size ≤ (cs.drop off).length := Nat.le_of_ble_eq_true hle
          have hl := hvd.le
          have hrun := run_loadCells_list (P := P) w ⟨b, off, none⟩ ((vs.toList.drop off).take i.size) (fun j v hj => by
            rw [Addr.add_lit]
            apply hcell
            rw [List.getElem?_take] at hj
            split at hj
            · exact hj
            · cases hj)
          have hl2 : ((vs.toList.drop off).take i.size).length = i.size := by rw [List.length_take]; omega
          rw [hl2] at hrun
          refine ⟨.agg ((vs.toList.drop off).take i.size).toArray, ?_, by simp only [V]; exact ⟨_, rfl, hvd.take _ hle'⟩⟩
          simp only [Instr.loadAt, Instr.sureAddr, loadVar, Sem.run_bind, Sem.run_pure, Result.andThen_ok, run_isAgg hu, h1, run_sizeOf' hi, hrun, if_true]
      · rename_i n heq
        simp only [Prod.mk.injEq] at heq
        split at h
        · rename_i c cs' hcs
          cases h
          rw [hcs] at hvd
          obtain ⟨us, rest, hus, hvl⟩ := hvd
          cases us with
          | nil => simp only [VL] at hvl
          | cons v vs' =>
            simp only [VL] at hvl
            have := hcell 0 v (by rw [hus]; rfl)
            refine ⟨v, ?_, hvl.1⟩
            simp only [Nat.add_zero] at this
            simp [Instr.loadAt, Instr.sureAddr, loadVar, run_isAgg hu, heq.1, this]
        · cases h

def eop (P : Program) (o : Op) (ev : Operand → AV) (s : LSt) : Option LA :=
  match o with
  | .alloc t => match P.info? t with
    | some i => match i.zero with
      | some z => some { ev := ev, al := [(s.nx, .cells (z.cells.toList.map (ofV 8)))], v := .mp s.nx 0 }
      | none => none
    | none => none
  | .box _ x => bif (ev x).sound then some { ev := ev, al := [(s.nx, .cells (acells (ev x)))], v := .mp s.nx 0 } else none
  | .load t a => match tsz P t, ev a with
    | some q, .mp i off => match look s.H i with
      | some (.cells cs) => match part1 q (cs.drop off) with
        | some r => some { ev := ev, rd := [(i, .cells cs)], v := r }
        | none => none
      | _ => none
    | _, _ => none
  | .store t a x => match P.info? t, ev a with
    | some ti, .mp i off => match look s.H i with
      | some (.cells cs) =>
        bif (ev x).sound && Nat.beq (acells (ev x)).length ti.size && Nat.ble (off + ti.size) cs.length then
          some { ev := ev, wr := [(i, .cells cs, .cells (splice cs off (acells (ev x))))], v := .val undef }
        else none
      | _ => none
    | _, _ => none
  | .buildSlice t len parts => match P.underlying t with
    | some (.slice e) => match P.info? e with
      | some ie => match ie.zero with
        | some z =>
          bif Nat.beq z.cells.size ie.size && Nat.ble (len * ie.size) 16777216 && Nat.ble 1 ie.size then
            match afill (fun i => some (i * ie.size, ie.size)) ((List.range (len * ie.size)).map fun j => ofV 8 (z.cells.getD (j % z.cells.size) undef)) (apart_ ev parts) with
            | some cs => some { ev := ev, v := .sl cs len .full }
            | none => none
          else none
        | none => none
      | none => none
    | _ => none
  | .makeSlice t l c => match P.underlying t, ev l, ev c with
    | some (.slice e), .val (.int .i64 l), .val (.int .i64 c) => match P.info? e with
      | some ie => match ie.zero with
        | some z =>
          if l = c ∧ 0 ≤ l ∧ l * ie.bytes ≤ 140737488355328 ∧ l ≤ 9223372036854775807 ∧ z.cells.size = ie.size ∧ 1 ≤ ie.size then
            some { ev := ev, v := .sl ((List.range (l.toNat * ie.size)).map fun j => ofV 8 (z.cells.getD (j % z.cells.size) undef)) l.toNat .full }
          else none
        | none => none
      | none => none
    | _, _, _ => none
  | .makeMap _ none => some { ev := ev, al := [(s.nx, .obj (.map #[] 0))], v := .obj s.nx }
  | _ => none


def LSt.fits (s : LSt) (σ : ASt) : Prop := ∀ i X, look s.H i = some X → σ.H i = some X

theorem eop_ok {P : Program} {o : Oper} {ev : Operand → AV} {s : LSt} {la : LA} (h : eop P o.op ev s = some la) : OpOk P o la ∧ la.ev = ev := by
  obtain ⟨dst, op, type, pos, after, guard⟩ := o
  simp only [eop] at h
  split at h
  · rename_i t
    split at h
    · rename_i i hi
      split at h
      · rename_i z hz
        cases h
        refine ⟨OpOk.value fun G σ w a hR _ hc => ?_, rfl⟩
        have hn : σ.H s.nx = none := hc.al _ _ (List.mem_singleton.2 rfl)
        refine ⟨.pointer (some ⟨w.heap.size, 0, none⟩), w.alloc (.cells z.cells t), G.addρ s.nx w.heap.size, ?_, Ext.alloc hR _ hn, ?_, ?_⟩
        · simp [execOp, Instr.alloc, run_zeroValue' hi hz, newVar, newRow]
        · rw [app_al]
          have := hR.alloc_cells _ z.cells.toList t (VL.map_ofV (V.ofV 8) _) hn
          simpa using this
        · simp only [V]; exact ⟨_, up_same _ _ _, rfl⟩
      · cases h
    · cases h
  · rename_i t x
    cases hs : (ev x).sound with
    | false => simp [hs] at h
    | true =>
      simp only [hs, cond_true, Option.some.injEq] at h
      subst h
      refine ⟨OpOk.value fun G σ w a hR hx hc => ?_, rfl⟩
      have hn : σ.H s.nx = none := hc.al _ _ (List.mem_singleton.2 rfl)
      obtain ⟨hv, _⟩ := (hx x (by simp [Op.operands])).cells hs
      refine ⟨.pointer (some ⟨w.heap.size, 0, none⟩), w.alloc (.cells (a.eval x).cells t), G.addρ s.nx w.heap.size, ?_, Ext.alloc hR _ hn, ?_, ?_⟩
      · simp [execOp, Instr.box, newVar, newRow]
      · rw [app_al]
        have := hR.alloc_cells _ _ t hv hn
        simpa using this
      · simp only [V]; exact ⟨_, up_same _ _ _, rfl⟩
  · rename_i t x
    split at h
    · rename_i q i off hq he
      split at h
      · rename_i cs hcs
        split at h
        · rename_i r hr
          cases h
          refine ⟨OpOk.reads fun G σ w a hR hx hrd => ?_, rfl⟩
          have hX := hrd _ _ (List.mem_singleton.2 rfl)
          obtain ⟨b, hb, _, hblk⟩ := hR.look hX
          obtain ⟨vs, T, hh, hl⟩ := hblk
          have hxx := hx x (by simp [Op.operands])
          rw [he] at hxx
          simp only [V] at hxx
          obtain ⟨b', hb', hxe⟩ := hxx
          rw [hb] at hb'; cases hb'
          obtain ⟨u, hu, hv⟩ := part1_mem hq hh hl hr
          exact ⟨u, by simp [execOp, hxe, hu], hv⟩
        · cases h
      · cases h
    · cases h
  · rename_i t x y
    split at h
    · rename_i ti i off hi he
      split at h
      · rename_i cs hcs
        cases hcond : ((ev y).sound && Nat.beq (acells (ev y)).length ti.size && Nat.ble (off + ti.size) cs.length) with
        | false => simp only [hcond, cond_false, reduceCtorEq] at h
        | true =>
          simp only [hcond, cond_true, Option.some.injEq] at h
          subst h
          simp only [Bool.and_eq_true] at hcond
          obtain ⟨⟨c1, c2⟩, c3⟩ := hcond
          replace c2 := Nat.eq_of_beq_eq_true c2
          replace c3 := Nat.le_of_ble_eq_true c3
          refine ⟨OpOk.skip rfl fun G σ w a hR hx hc => ?_, rfl⟩
          have hX := hc.wr _ _ _ (List.mem_singleton.2 rfl)
          obtain ⟨b, hb, _, hblk⟩ := hR.look hX
          obtain ⟨vs, T, hh, hl⟩ := hblk
          have hxx : V G w (ev x) (a.eval x) := hx x (by simp [Op.operands])
          rw [he] at hxx
          simp only [V] at hxx
          obtain ⟨b', hb', hxe⟩ := hxx
          rw [hb] at hb'; cases hb'
          obtain ⟨hyv, hy1⟩ := (hx y (by simp [Op.operands])).cells c1
          have hyl := VL.length _ _ hyv
          have hvl := hl.le
          have hsz : (a.eval y).cells.size = ti.size := by rw [← c2, ← hyl]; simp
          have hst := run_storeCells_at P b off T (a.eval y).cells.toList 0 vs w hh (by simp only [Array.length_toList] at hvl ⊢; omega) hy1
          simp only [Nat.add_zero] at hst
          refine ⟨w.setRow b (vs.toList.take off ++ (a.eval y).cells.toList ++ vs.toList.drop (off + (a.eval y).cells.toList.length)).toArray, G, ?_, Ext.setRow hR hb _, ?_⟩
          · simp only [execOp, Sem.run_bind, hxe, Instr.storeAt, Instr.sureAddr, Sem.run_pure, Result.andThen_ok, storeVar, run_sizeOf' hi]
            rw [if_neg (by simp [hsz])]
            simp only [Result.andThen_ok, hst]
          · rw [app_wr]
            exact hR.setRow hb _ _ hh (VLp.splice hl hyv off (by show off + (acells (ev y)).length ≤ cs.length; omega))
      · cases h
    · cases h
  · rename_i t len parts
    split at h
    · rename_i e hut
      split at h
      · rename_i ie hie
        split at h
        · rename_i z hz
          cases hcond : (Nat.beq z.cells.size ie.size && Nat.ble (len * ie.size) 16777216 && Nat.ble 1 ie.size) with
          | false => simp only [hcond, cond_false, reduceCtorEq] at h
          | true =>
            simp only [hcond, cond_true] at h
            simp only [Bool.and_eq_true] at hcond
            obtain ⟨⟨c1, c2⟩, c3⟩ := hcond
            replace c1 := Nat.eq_of_beq_eq_true c1
            replace c2 := Nat.le_of_ble_eq_true c2
            replace c3 := Nat.le_of_ble_eq_true c3
            split at h
            · rename_i cs hcs
              cases h
              refine ⟨OpOk.value fun G σ w a hR hx _ => ?_, rfl⟩
              have hVP := VP.map (G := G) (w := w) (ev := ev) (a := a) parts.toList (fun p hp => hx p.2 (by simp [Op.operands]; exact ⟨p.1, by simpa using hp⟩))
              have hzl : ∀ m, VL G w ((List.range m).map fun j => ofV 8 (z.cells.getD (j % z.cells.size) undef)) ((List.range m).map fun j => z.cells.getD (j % z.cells.size) undef) := by
                intro m
                have := VL.map_ofV (G := G) (w := w) (f := ofV 8) (V.ofV 8) ((List.range m).map fun j => z.cells.getD (j % z.cells.size) undef)
                simpa [List.map_map, Function.comp_def] using this
              have hz' : ((Array.range (len * ie.size)).map (z.cells[· % z.cells.size]!)).toList = (List.range (len * ie.size)).map fun j => z.cells.getD (j % z.cells.size) undef := by
                rw [Array.toList_map, Array.toList_range]
                apply List.map_congr_left
                intro j _
                have hlt : j % z.cells.size < z.cells.size := Nat.mod_lt _ (by omega)
                simp [hlt]
              obtain ⟨r', hr', hv⟩ := afill_ok (G := G) (w := w) (apart_ ev parts) (parts.toList.map fun p => (p.1, a.eval p.2)) _ ((Array.range (len * ie.size)).map (z.cells[· % z.cells.size]!)) cs hVP (by rw [hz']; exact hzl _) hcs
              have hal := hR.alloc_full cs r'.toList e hv
              obtain ⟨hE, hR', hC⟩ := hal
              refine ⟨.slice (some ⟨w.heap.size, 0, none⟩) len len, w.alloc (.cells r'.toList.toArray e), _, ?_, hE, by rw [app_none rfl rfl rfl rfl]; exact hR', ?_⟩
              · have hq : ¬ len * ie.size > 2 ^ 24 := by omega
                simp only [execOp, Sem.run_bind, Instr.buildSlice, run_underlying hut, Sem.run_pure, Result.andThen_ok, run_sizeOf' hie]
                rw [if_neg hq]
                have e2 : (parts.map fun (i, x) => (i, a.eval x)).toList = parts.toList.map fun p => (p.1, a.eval p.2) := by rw [Array.toList_map]
                by_cases h0 : len * ie.size = 0
                · rw [if_pos h0]
                  have h00 : ∀ f : Nat → Value, Array.map f (Array.range 0) = #[] := fun f => by simp [Array.range_zero']
                  simp only [h0, h00] at hr'
                  simp only [Sem.run_bind, Sem.run_pure, Result.andThen_ok, h0, e2, h00, hr']
                  simp [newRow]
                · rw [if_neg h0]
                  simp only [Sem.run_bind, Sem.run_pure, Result.andThen_ok, run_zeroValue' hie hz, e2, hr']
                  simp [newRow]
              · simp only [V]
                exact ⟨len, Nat.le_refl _, .inr ⟨_, 0, rfl, hC, rfl⟩⟩
            · cases h
        · cases h
      · cases h
    · cases h
  · rename_i t l c
    split at h
    · rename_i e l' c' hut hl hc
      split at h
      · rename_i ie hie
        split at h
        · rename_i z hz
          split at h
          · rename_i hcond
            obtain ⟨rfl, h0, hb, h63, hzs, h1⟩ := hcond
            cases h
            refine ⟨OpOk.value fun G σ w a hR hx _ => ?_, rfl⟩
            have hlx : V G w (ev l) (a.eval l) := hx l (by simp [Op.operands])
            have hcx : V G w (ev c) (a.eval c) := hx c (by simp [Op.operands])
            rw [hl] at hlx; rw [hc] at hcx
            simp only [V] at hlx hcx
            have hzl : ∀ m, VL G w ((List.range m).map fun j => ofV 8 (z.cells.getD (j % z.cells.size) undef)) ((List.range m).map fun j => z.cells.getD (j % z.cells.size) undef) := by
              intro m
              have := VL.map_ofV (G := G) (w := w) (f := ofV 8) (V.ofV 8) ((List.range m).map fun j => z.cells.getD (j % z.cells.size) undef)
              simpa [List.map_map, Function.comp_def] using this
            have hal := hR.alloc_full _ _ e (hzl (l'.toNat * ie.size))
            obtain ⟨hE, hR', hC⟩ := hal
            refine ⟨.slice (some ⟨w.heap.size, 0, none⟩) l'.toNat l'.toNat, w.alloc (.cells ((List.range (l'.toNat * ie.size)).map fun j => z.cells.getD (j % z.cells.size) undef).toArray e), _, ?_, hE, by rw [app_none rfl rfl rfl rfl]; exact hR', ?_⟩
            · have hz' : madeCells z.cells (l'.toNat * ie.size) = ((List.range (l'.toNat * ie.size)).map fun j => z.cells.getD (j % z.cells.size) undef).toArray := by
                apply Array.ext'
                rw [madeCells, Array.toList_map, Array.toList_range]
                apply List.map_congr_left
                intro j _
                have hlt : j % z.cells.size < z.cells.size := Nat.mod_lt _ (by omega)
                simp [hlt]
              have hm := run_make (P := P) w t e ie z hut hie hz .i64 .i64 l' l' h0 (Int.le_refl _) (by rw [Int.mul_comm]; omega) h63
              rw [hz'] at hm
              simp [execOp, hlx, hcx, hm]
            · simp only [V]
              exact ⟨l'.toNat, Nat.le_refl _, .inr ⟨_, 0, rfl, hC, rfl⟩⟩
          · cases h
        · cases h
      · cases h
    · cases h
  · rename_i t
    cases h
    refine ⟨OpOk.value fun G σ w a hR _ hc => ?_, rfl⟩
    have hn : σ.H s.nx = none := hc.al _ _ (List.mem_singleton.2 rfl)
    refine ⟨.map (some w.heap.size), w.alloc (.map #[] 0), G.addρ s.nx w.heap.size, ?_, Ext.alloc hR _ hn, ?_, ?_⟩
    · simp [execOp, Instr.makeMap]
    · rw [app_al]; exact hR.alloc_obj (.map #[] 0) trivial hn
    · simp only [V]; exact ⟨_, up_same _ _ _, rfl⟩
  · cases h

end Go.Ab
