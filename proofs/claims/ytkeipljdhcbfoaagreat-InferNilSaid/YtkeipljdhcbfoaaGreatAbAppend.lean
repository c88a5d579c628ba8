/- append -/
import Derived.Test.YtkeipljdhcbfoaaGreatAbEop
namespace Go.Ab
open Go Go.RowKit

def aappend (P : Program) (t t2 : TypeId) (ev : Operand → AV) (a b : AV) (s : LSt) : Option LA :=
  match P.underlying t, a, b with
  | some (.slice e), .sl es n o, .sl es2 n2 _ =>
    match P.info? e with
    | some ie =>
      match ie.zero with
      | some z =>
        bif Nat.beq t t2 && Nat.beq es.length (n * ie.size) && Nat.beq es2.length (n2 * ie.size) && Nat.ble 1 ie.size && Nat.beq z.cells.size ie.size && Nat.ble ((n + n2) * ie.bytes) 140737488355328 && Nat.ble (n + n2) 4611686018427387904 && es2.all AV.one then
          bif Nat.beq n2 0 then some { ev := ev, v := .sl es n o }
          else
            match o with
            | .full => some { ev := ev, ns := s.ns, new := 1, v := .sl (es ++ es2) (n + n2) (.st s.ns ie.size) }
            | .st k sz => bif s.own.any (Nat.beq k) && Nat.beq sz ie.size then some { ev := ev, use := [k], ns := s.ns, new := 1, v := .sl (es ++ es2) (n + n2) (.st s.ns ie.size) } else none
            | .nl => some { ev := ev, ns := s.ns, new := 1, v := .sl (es ++ es2) (n + n2) (.st s.ns ie.size) }
            | _ => none
        else none
      | none => none
    | none => none
  | _, _, _ => none

theorem run_append_none {P : Program} {w : World} {t ty e : TypeId} {ie : TypeInfo} (ht : P.underlying t = some (.slice e)) (hi : P.info? e = some ie) (base b2 : Option Addr) (n cap c2 : Nat) (hcap : n ≤ cap)
    (h2 : b2 = none ∨ ∃ a, b2 = some a) :
    (Builtin.append_ #[t, t] ty #[.slice base n cap, .slice b2 0 c2]).run P w = .ok (.slice base n cap) w := by
  rcases h2 with rfl | ⟨a, rfl⟩ <;> cases base <;>
    simp [Builtin.append_, run_underlying ht, sizeOf, typeInfo, hi, Builtin.lenOf, Builtin.firstCells, hcap, loadCells, loadCellsFrom, storeCells]

theorem run_append_roomAt {P : Program} {w : World} {t ty e : TypeId} {i : TypeInfo} {T : TypeId} (ht : P.underlying t = some (.slice e)) (hi : P.info? e = some i)
    (g off sLen sCap : Nat) (cur : Array Value) (hg : w.heap[g]? = some (.cells cur T (0, 0)))
    (a : Addr) (m c : Nat) (news : List Value) (hl : news.length = m * i.size) (hnews : ∀ j u, news[j]? = some u → w.cell? (a.add j) = some u) (h1 : ∀ u ∈ news, u.oneCell' = true)
    (hroom : sLen + m ≤ sCap) (hfit : off + sLen * i.size + news.length ≤ cur.size) :
    (Builtin.append_ #[t, t] ty #[.slice (some ⟨g, off, none⟩) sLen sCap, .slice (some a) m c]).run P w =
      .ok (.slice (some ⟨g, off, none⟩) (sLen + m) sCap) (w.setRow g (cur.toList.take (off + sLen * i.size) ++ news ++ cur.toList.drop (off + sLen * i.size + news.length)).toArray) := by
  have hf := run_firstCells_some (P := P) w i.size m a m c news hl hnews
  have hst := run_storeCells_at P g (off + sLen * i.size) T news 0 cur w hg (by simpa using hfit) h1
  simp only [Nat.add_zero] at hst
  simp [Builtin.append_, run_underlying ht, sizeOf, typeInfo, hi, Builtin.lenOf, hroom, hf, Addr.add_lit, hst]

set_option maxHeartbeats 2000000 in
theorem aappend_ok {P : Program} {dst : Option Tmp} {type : TypeId} {pos : String} {after : Array Edge} {guard : Option (Nat × Bool)} {t t2 : TypeId} {x y : Operand} {ev : Operand → AV} {s : LSt} {la : LA}
    (h : aappend P t t2 ev (ev x) (ev y) s = some la) : OpOk P ⟨dst, .call { callee := .builtin .append, args := #[x, y], argTypes := #[t, t2] }, type, pos, after, guard⟩ la ∧ la.ev = ev := by
  unfold aappend at h
  split at h
  · rename_i e es n o es2 n2 o2 hut hex hey
    split at h
    · rename_i ie hie
      split at h
      · rename_i z hz
        generalize hc : (Nat.beq t t2 && Nat.beq es.length (n * ie.size) && Nat.beq es2.length (n2 * ie.size) && Nat.ble 1 ie.size && Nat.beq z.cells.size ie.size && Nat.ble ((n + n2) * ie.bytes) 140737488355328 && Nat.ble (n + n2) 4611686018427387904 && es2.all AV.one) = cond at h
        cases cond with
        | false => cases h
        | true =>
          simp only [cond_true] at h
          simp only [Bool.and_eq_true] at hc
          obtain ⟨⟨⟨⟨⟨⟨⟨c0, c1⟩, c2⟩, c3⟩, c4⟩, c5⟩, c6⟩, c7⟩ := hc
          replace c0 := Nat.eq_of_beq_eq_true c0
          replace c1 := Nat.eq_of_beq_eq_true c1
          replace c2 := Nat.eq_of_beq_eq_true c2
          replace c3 := Nat.le_of_ble_eq_true c3
          replace c4 := Nat.eq_of_beq_eq_true c4
          replace c5 := Nat.le_of_ble_eq_true c5
          replace c6 := Nat.le_of_ble_eq_true c6
          subst c0
          have exec : ∀ (a : Act) (w : World) (u : Value) (w' : World), (Builtin.append_ #[t, t] type #[a.eval x, a.eval y]).run P w = .ok u w' →
              (execOp a.eval ⟨dst, .call { callee := .builtin .append, args := #[x, y], argTypes := #[t, t] }, type, pos, after, guard⟩).run P w = .ok (.value u) w' := by
            intro a w u w' hr
            simp [execOp, resolve, invoke, builtin, hr]
          have opx : ∀ {Z : Op}, Z = .call { callee := .builtin .append, args := #[x, y], argTypes := #[t, t] } → x ∈ Z.operands ∧ y ∈ Z.operands := by
            rintro _ rfl; simp [Op.operands, Call.operands]
          cases hn2 : Nat.beq n2 0 with
          | true =>
            simp only [hn2, cond_true, Option.some.injEq] at h
            subst h
            replace hn2 := Nat.eq_of_beq_eq_true hn2
            subst hn2
            refine ⟨OpOk.pure fun G w a hx => ?_, rfl⟩
            have hxx := hx x (opx rfl).1
            have hyy := hx y (opx rfl).2
            rw [hey] at hyy
            have hxx' := hxx
            rw [hex] at hxx'
            simp only [V] at hxx' hyy
            obtain ⟨cap, hcap, h1⟩ := hxx'
            obtain ⟨cap2, _, h2⟩ := hyy
            have e2 : ∃ b2 c2, a.eval y = .slice b2 0 c2 := by
              rcases h2 with ⟨_, _, _, h2, _⟩ | ⟨b, off, h2, _⟩ <;> exact ⟨_, _, h2⟩
            have e1 : ∃ b1, a.eval x = .slice b1 n cap := by
              rcases h1 with ⟨_, rfl, rfl, h1, _⟩ | ⟨b, off, h1, _⟩ <;> exact ⟨_, h1⟩
            obtain ⟨b2, c2', e2⟩ := e2
            obtain ⟨b1, e1⟩ := e1
            refine ⟨a.eval x, exec a w _ _ ?_, hex ▸ hxx⟩
            rw [e1, e2]
            exact run_append_none hut hie b1 b2 n cap c2' hcap (by cases b2 <;> simp)
          | false =>
            simp only [hn2, cond_false] at h
            have hn2' : 0 < n2 := by
              rcases Nat.eq_zero_or_pos n2 with e | e
              · subst e; cases hn2
              · exact e
            -- the source
            have src : ∀ (G : Gh) (w : World) (a : Act), V G w (ev y) (a.eval y) → ∃ b off c, a.eval y = .slice (some ⟨b, off, none⟩) n2 c ∧ VC G w es2 b off := by
              intro G w a hyy
              rw [hey] at hyy
              simp only [V] at hyy
              obtain ⟨cap2, _, ⟨_, e, _⟩ | ⟨b, off, e, hC, _⟩⟩ := hyy
              · omega
              · exact ⟨b, off, cap2, e, hC⟩
            -- growth
            have grown : ∀ (G : Gh) (σ : ASt) (w : World) (vs1 vs2 : List Value) (old : Nat), RelS G σ w → VL G w es vs1 → VL G w es2 vs2 → old < n + n2 →
                ∃ G', Ext G w G' (w.drew.alloc (.cells (vs1.toArray ++ vs2.toArray ++ Builtin.zeroCells z.cells (grownCap w (n + n2) old e - (n + n2))) e)) ∧
                  RelS G' (σ.stamp none true) (w.drew.alloc (.cells (vs1.toArray ++ vs2.toArray ++ Builtin.zeroCells z.cells (grownCap w (n + n2) old e - (n + n2))) e)) ∧
                  V G' (w.drew.alloc (.cells (vs1.toArray ++ vs2.toArray ++ Builtin.zeroCells z.cells (grownCap w (n + n2) old e - (n + n2))) e)) (.sl (es ++ es2) (n + n2) (.st σ.ns ie.size))
                    (.slice (some ⟨w.heap.size, 0, none⟩) (n + n2) (grownCap w (n + n2) old e)) := by
              intro G σ w vs1 vs2 old hR hv1 hv2 ho
              have hge := grownCap_ge w (n + n2) old e
              have hl : (vs1 ++ vs2).length = (n + n2) * ie.size := by
                rw [List.length_append, VL.length _ _ hv1, VL.length _ _ hv2, c1, c2, Nat.add_mul]
              have hE := Ext.drew G w
              obtain ⟨q1, q2, q3⟩ := (RelS.drew hR).alloc_live (es ++ es2) (vs1 ++ vs2) (Builtin.zeroCells z.cells (grownCap w (n + n2) old e - (n + n2))).toList e (VL.append _ _ _ _ (VL.mono hE _ _ hv1) (VL.mono hE _ _ hv2))
              have harr : (vs1 ++ vs2 ++ (Builtin.zeroCells z.cells (grownCap w (n + n2) old e - (n + n2))).toList).toArray = vs1.toArray ++ vs2.toArray ++ Builtin.zeroCells z.cells (grownCap w (n + n2) old e - (n + n2)) := by
                apply Array.ext'; simp
              rw [harr] at q1 q2 q3
              refine ⟨_, hE.trans q1, q2, ?_⟩
              simp only [V]
              refine ⟨_, hge, .inr ⟨w.heap.size, 0, rfl, q3, ?_⟩⟩
              refine ⟨⟨_, up_same _ _ _⟩, .inr ⟨by rw [List.length_append, c1, c2, Nat.add_mul], hR.fnew, ?_⟩⟩
              show up _ σ.ns _ σ.ns = _
              rw [up_same]
              have hzl : (Builtin.zeroCells z.cells (grownCap w (n + n2) old e - (n + n2))).toList.length = (grownCap w (n + n2) old e - (n + n2)) * ie.size := by
                rw [Array.length_toList, size_zeroCells, c4]
              have hes : (es ++ es2).length = (vs1 ++ vs2).length := by rw [hl, List.length_append, c1, c2, Nat.add_mul]
              have htot : (vs1 ++ vs2).length + (Builtin.zeroCells z.cells (grownCap w (n + n2) old e - (n + n2))).toList.length = grownCap w (n + n2) old e * ie.size := by
                rw [hl, hzl, ← Nat.add_mul]; congr 1; omega
              rw [hes, htot]
              simp
            -- a run that grows
            have rung : ∀ (G : Gh) (w : World) (a : Act) (b off cap : Nat), a.eval x = .slice (some ⟨b, off, none⟩) n cap → VC G w es b off → cap < n + n2 → V G w (ev y) (a.eval y) →
                ∃ vs1 vs2, VL G w es vs1 ∧ VL G w es2 vs2 ∧ (Builtin.append_ #[t, t] type #[a.eval x, a.eval y]).run P w = .ok (.slice (some ⟨w.heap.size, 0, none⟩) (n + n2) (grownCap w (n + n2) cap e))
                  (w.drew.alloc (.cells (vs1.toArray ++ vs2.toArray ++ Builtin.zeroCells z.cells (grownCap w (n + n2) cap e - (n + n2))) e)) := by
              intro G w a b off cap hxe hC hcap hyy
              obtain ⟨b2, off2, cc, hye, hC2⟩ := src G w a hyy
              obtain ⟨vs1, hv1, hcell1⟩ := VC.cells _ _ _ hC
              obtain ⟨vs2, hv2, hcell2⟩ := VC.cells _ _ _ hC2
              refine ⟨vs1, vs2, hv1, hv2, ?_⟩
              rw [hxe, hye]
              refine run_append_grow (P := P) w t type e ie z hut hie hz ⟨b, off, none⟩ n cap vs1 (by rw [VL.length _ _ hv1, c1]) (fun j v hj => ?_) ⟨b2, off2, none⟩ n2 cc vs2 (by rw [VL.length _ _ hv2, c2]) (fun j v hj => ?_) hcap (by omega) (growslice_fits hcap c5)
              · obtain ⟨hj1, hj2⟩ := List.getElem?_eq_some_iff.1 hj
                rw [Addr.add_lit, hcell1 j hj1, hj2]
              · obtain ⟨hj1, hj2⟩ := List.getElem?_eq_some_iff.1 hj
                rw [Addr.add_lit, hcell2 j hj1, hj2]
            split at h
            · cases h
              refine ⟨OpOk.value fun G σ w a hR hx hcn => ?_, rfl⟩
              have hns : s.ns = σ.ns := hcn.ns (.inr (.inl (by simp)))
              have hxx : V G w (ev x) (a.eval x) := hx x (opx rfl).1
              have hyy : V G w (ev y) (a.eval y) := hx y (opx rfl).2
              rw [hex] at hxx
              simp only [V] at hxx
              obtain ⟨cap, hcap, ⟨rfl, rfl, rfl, hxe, _⟩ | ⟨b, off, hxe, hC, hfull⟩⟩ := hxx
              · obtain ⟨b2, off2, cc, hye, hC2⟩ := src G w a hyy
                obtain ⟨vs2, hv2, hcell2⟩ := VC.cells _ _ _ hC2
                obtain ⟨G', g1, g2, g3⟩ := grown G σ w [] vs2 0 hR (by simp [VL]) hv2 (by omega)
                have hr : (Builtin.append_ #[t, t] type #[.slice (spOf (a.eval x)) 0 0, .slice (some ⟨b2, off2, none⟩) n2 cc]).run P w = .ok (.slice (some ⟨w.heap.size, 0, none⟩) n2 (grownCap w n2 0 e)) (w.drew.alloc (.cells (vs2.toArray ++ Builtin.zeroCells z.cells (grownCap w n2 0 e - n2)) e)) := by
                  cases spOf (a.eval x) with
                  | none =>
                    exact run_append_nil (P := P) w t type e ie z hut hie hz ⟨b2, off2, none⟩ n2 cc vs2 (by rw [VL.length _ _ hv2, c2]) (fun j v hj => by
                      obtain ⟨hj1, hj2⟩ := List.getElem?_eq_some_iff.1 hj
                      rw [Addr.add_lit, hcell2 j hj1, hj2]) hn2' (by omega) (by simp only [Nat.zero_add] at c5; omega)
                  | some q =>
                    have := run_append_grow (P := P) w t type e ie z hut hie hz q 0 0 [] (by simp) (fun j v hj => by simp at hj) ⟨b2, off2, none⟩ n2 cc vs2 (by rw [VL.length _ _ hv2, c2]) (fun j v hj => by
                      obtain ⟨hj1, hj2⟩ := List.getElem?_eq_some_iff.1 hj
                      rw [Addr.add_lit, hcell2 j hj1, hj2]) (by omega) (by omega) (growslice_fits (by omega) c5)
                    simpa using this
                simp only [Nat.zero_add, Array.empty_append, List.nil_append] at g1 g2 g3
                refine ⟨_, _, G', exec a w _ _ (by rw [hxe, hye]; exact hr), g1, by rw [app_new]; exact g2, ?_⟩
                rw [hns]
                simpa using g3
              · simp only [OwnOk] at hfull
                subst hfull
                obtain ⟨vs1, vs2, hv1, hv2, hr⟩ := rung G w a b off cap hxe hC (by omega) hyy
                obtain ⟨G', g1, g2, g3⟩ := grown G σ w vs1 vs2 cap hR hv1 hv2 (by omega)
                exact ⟨_, _, G', exec a w _ _ hr, g1, by rw [app_new]; exact g2, by rw [hns]; exact g3⟩
            · rename_i k sz
              cases hk : (s.own.any (Nat.beq k) && Nat.beq sz ie.size) with
              | false => simp only [hk, cond_false, reduceCtorEq] at h
              | true =>
                simp only [hk, cond_true, Option.some.injEq] at h
                subst h
                simp only [Bool.and_eq_true] at hk
                have hsz2 := Nat.eq_of_beq_eq_true hk.2
                subst hsz2
                refine ⟨OpOk.value fun G σ w a hR hx hcn => ?_, rfl⟩
                have hns : s.ns = σ.ns := hcn.ns (.inr (.inl (by simp)))
                have hko : σ.own k = true := hcn.use k (List.mem_singleton.2 rfl)
                have hxx : V G w (ev x) (a.eval x) := hx x (opx rfl).1
                have hyy : V G w (ev y) (a.eval y) := hx y (opx rfl).2
                rw [hex] at hxx
                simp only [V] at hxx
                -- who grows gives the old stamp up
                have drop : ∀ {G' : Gh} {w' : World}, RelS G' (σ.stamp none true) w' → RelS G' (σ.stamp (some k) true) w' := by
                  intro G' w' g2
                  refine RelS.drop g2 (σ.stamp (some k) true).own (fun j hj => ?_)
                  simp only [ASt.stamp] at hj ⊢
                  split at hj
                  · rename_i q; rw [if_pos q]
                  · rename_i q
                    rw [if_neg q]
                    split at hj
                    · cases hj
                    · simpa using hj
                obtain ⟨cap, hcap, ⟨rfl, rfl, rfl, hxe, _⟩ | ⟨b, off, hxe, hC, ho⟩⟩ := hxx
                · obtain ⟨b2, off2, cc, hye, hC2⟩ := src G w a hyy
                  obtain ⟨vs2, hv2, hcell2⟩ := VC.cells _ _ _ hC2
                  obtain ⟨G', g1, g2, g3⟩ := grown G σ w [] vs2 0 hR (by simp [VL]) hv2 (by omega)
                  have hr : (Builtin.append_ #[t, t] type #[.slice (spOf (a.eval x)) 0 0, .slice (some ⟨b2, off2, none⟩) n2 cc]).run P w = .ok (.slice (some ⟨w.heap.size, 0, none⟩) n2 (grownCap w n2 0 e)) (w.drew.alloc (.cells (vs2.toArray ++ Builtin.zeroCells z.cells (grownCap w n2 0 e - n2)) e)) := by
                    cases spOf (a.eval x) with
                    | none =>
                      exact run_append_nil (P := P) w t type e ie z hut hie hz ⟨b2, off2, none⟩ n2 cc vs2 (by rw [VL.length _ _ hv2, c2]) (fun j v hj => by
                        obtain ⟨hj1, hj2⟩ := List.getElem?_eq_some_iff.1 hj
                        rw [Addr.add_lit, hcell2 j hj1, hj2]) hn2' (by omega) (by simp only [Nat.zero_add] at c5; omega)
                    | some q =>
                      have := run_append_grow (P := P) w t type e ie z hut hie hz q 0 0 [] (by simp) (fun j v hj => by simp at hj) ⟨b2, off2, none⟩ n2 cc vs2 (by rw [VL.length _ _ hv2, c2]) (fun j v hj => by
                        obtain ⟨hj1, hj2⟩ := List.getElem?_eq_some_iff.1 hj
                        rw [Addr.add_lit, hcell2 j hj1, hj2]) (by omega) (by omega) (growslice_fits (by omega) c5)
                      simpa using this
                  simp only [Nat.zero_add, Array.empty_append, List.nil_append] at g1 g2 g3
                  refine ⟨_, _, G', exec a w _ _ (by rw [hxe, hye]; exact hr), g1, by rw [app_use]; exact drop g2, ?_⟩
                  rw [hns]
                  simpa using g3
                · have grow : cap < n + n2 → ∃ u w' G', (execOp a.eval ⟨dst, .call { callee := .builtin .append, args := #[x, y], argTypes := #[t, t] }, type, pos, after, guard⟩).run P w = .ok (.value u) w' ∧ Ext G w G' w' ∧
                      RelS G' (({ ev := ev, use := [k], ns := s.ns, new := 1, v := .sl (es ++ es2) (n + n2) (.st s.ns ie.size) } : LA).app σ) w' ∧ V G' w' (.sl (es ++ es2) (n + n2) (.st s.ns ie.size)) u := by
                    intro hlt
                    obtain ⟨vs1, vs2, hv1, hv2, hr⟩ := rung G w a b off cap hxe hC hlt hyy
                    obtain ⟨G', g1, g2, g3⟩ := grown G σ w vs1 vs2 cap hR hv1 hv2 (by omega)
                    exact ⟨_, _, G', exec a w _ _ hr, g1, by rw [app_use]; exact drop g2, by rw [hns]; exact g3⟩
                  rcases ho with ⟨_, ⟨_, h0⟩ | ⟨ho1, hnF, ho2⟩⟩
                  · exact grow (by omega)
                  · by_cases hroom : n + n2 ≤ cap
                    · have hft : off + es.length < off + cap * ie.size := by
                        have : n * ie.size + 1 ≤ cap * ie.size := by
                          have h1 : (n + 1) * ie.size ≤ cap * ie.size := Nat.mul_le_mul_right _ (by omega)
                          rw [Nat.succ_mul] at h1; omega
                        omega
                      obtain ⟨b', f, tt, q1, q2 | ⟨hB, hρ, hL0, cur, T, hb, hsz⟩⟩ := hR.own k hko
                      · rw [ho2] at q1; cases q1; omega
                      rw [ho2] at q1; cases q1
                      obtain ⟨b2, off2, cc, hye, hC2⟩ := src G w a hyy
                      obtain ⟨vs2, hv2, hcell2⟩ := VC.cells _ _ _ hC2
                      have hl2 : vs2.length = n2 * ie.size := by rw [VL.length _ _ hv2, c2]
                      have hmul : (n + n2) * ie.size ≤ cap * ie.size := Nat.mul_le_mul_right _ hroom
                      rw [Nat.add_mul] at hmul
                      obtain ⟨q1, q2, q3⟩ := hR.appendIn es2 vs2 hv2 hko ho2 hft (by rw [hl2]; omega) hb
                      have hr := run_append_roomAt (P := P) (w := w) (ty := type) hut hie b off n cap cur hb ⟨b2, off2, none⟩ n2 cc vs2 hl2 (fun j v hj => by
                        obtain ⟨hj1, hj2⟩ := List.getElem?_eq_some_iff.1 hj
                        rw [Addr.add_lit, hcell2 j hj1, hj2]) (VL.all_one _ _ hv2 c7) hroom (by rw [hl2]; omega)
                      rw [← c1] at hr
                      refine ⟨_, _, _, exec a w _ _ (by rw [hxe, hye]; exact hr), q1, by rw [app_use]; exact q2, ?_⟩
                      simp only [V]
                      refine ⟨cap, hroom, .inr ⟨b, off, rfl, VC.append _ _ _ _ (VC.mono q1 _ _ _ hC) q3, ?_⟩⟩
                      refine ⟨⟨_, by rw [hns]; exact up_same _ _ _⟩, .inr ⟨by rw [List.length_append, c1, c2, Nat.add_mul], hnF, ?_⟩⟩
                      rw [hns]
                      show up _ σ.ns _ σ.ns = _
                      rw [up_same, List.length_append, hl2, c2, Nat.add_assoc]
                    · exact grow (by omega)
            · cases h
              refine ⟨OpOk.value fun G σ w a hR hx hcn => ?_, rfl⟩
              have hns : s.ns = σ.ns := hcn.ns (.inr (.inl (by simp)))
              have hxx : V G w (ev x) (a.eval x) := hx x (opx rfl).1
              have hyy : V G w (ev y) (a.eval y) := hx y (opx rfl).2
              rw [hex] at hxx
              simp only [V] at hxx
              obtain ⟨cap, hcap, ⟨rfl, rfl, rfl, hxe, hsp⟩ | ⟨b, off, hxe, hC, hfull⟩⟩ := hxx
              · rw [show spOf (a.eval x) = none from hsp] at hxe
                obtain ⟨b2, off2, cc, hye, hC2⟩ := src G w a hyy
                obtain ⟨vs2, hv2, hcell2⟩ := VC.cells _ _ _ hC2
                obtain ⟨G', g1, g2, g3⟩ := grown G σ w [] vs2 0 hR (by simp [VL]) hv2 (by omega)
                have hr := run_append_nil (P := P) w t type e ie z hut hie hz ⟨b2, off2, none⟩ n2 cc vs2 (by rw [VL.length _ _ hv2, c2]) (fun j v hj => by
                  obtain ⟨hj1, hj2⟩ := List.getElem?_eq_some_iff.1 hj
                  rw [Addr.add_lit, hcell2 j hj1, hj2]) hn2' (by omega) (by simp only [Nat.zero_add] at c5; omega)
                simp only [Nat.zero_add, Array.empty_append, List.nil_append] at g1 g2 g3
                refine ⟨_, _, G', exec a w _ _ (by rw [hxe, hye]; exact hr), g1, by rw [app_new]; exact g2, ?_⟩
                rw [hns]
                simpa using g3
              · exact hfull.elim
            · cases h
      · cases h
    · cases h
  · cases h

end Go.Ab
