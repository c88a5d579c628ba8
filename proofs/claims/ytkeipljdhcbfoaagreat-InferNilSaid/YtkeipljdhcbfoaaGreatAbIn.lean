/- term.rising: what it does to a slice in place. -/
import Derived.Test.YtkeipljdhcbfoaaGreatAbLay
import Derived.Test.YtkeipljdhcbfoaaGreatAbMut
import Derived.Test.YtkeipljdhcbfoaaGreatAbSt
import Derived.Test.YtkeipljdhcbfoaaGreatAbRise
namespace Go.Ab
open Go Go.RowKit Go.Sort

variable {P : Program}

theorem Calls.args {P : Program} {f : FuncId} {a b : Array Value} {w : World} {R : Ending → World → Prop} (h : a = b) (k : Calls P f b w R) : Calls P f a w R := h ▸ k
theorem wp_act {P : Program} {c : Code} {Q : Exit → Act → World → Prop} {a b : Act} {w : World} (h : a = b) (k : c.wp P Q b w) : c.wp P Q a w := h ▸ k

theorem heap_putRow_other {α : Type} [Inhabited α] (enc : α → Value) (w : World) (b off : Nat) (d : Array α) {k : Nat} (hk : k ≠ b) : (putRow enc w b off d).heap[k]? = w.heap[k]? := by
  simp only [putRow, mapBlock, Array.getElem?_modify]
  rw [if_neg (fun e => hk e.symm)]

theorem Keep.putRow {α : Type} [Inhabited α] (enc : α → Value) (w : World) (n b off : Nat) (d : Array α) : Keep (fun c => c < w.heap.size ∧ c ≠ b) w (putRow enc (Sort.ahead w n) b off d) :=
  ⟨rfl, rfl, rfl, by simp, fun k hk => by rw [heap_putRow_other _ _ _ _ _ hk.2]; rfl⟩

theorem Keep.grow (w : World) (os : Array Obj) (b : Nat) : Keep (fun c => c < w.heap.size ∧ c ≠ b) w (grow w os) :=
  ⟨rfl, rfl, rfl, by simp [Sort.grow], fun k hk => by
    show (w.heap ++ os)[k]? = _
    rw [Array.getElem?_append_left hk.1]⟩

end Go.Ab

namespace Go.Proofs.YtkeipljdhcbfoaaGreat
open Go Go.Ab Go.RowKit Go.Sort Go.Proofs

theorem sort_some {w : World} {b off cap : Nat} {zs : List Int} (hH : Holds (Value.int .i64) w b off zs.toArray) (hb : b < w.heap.size) (hsz : zs.length < 4611686018427387904) :
    Calls Tryz.prog 263 #[.slice (some ⟨b, off, none⟩) zs.length cap] w fun e w' => e = .returned (.tuple #[]) ∧ ∃ n os, w' = Sort.grow (putRow (Value.int .i64) (Sort.ahead w n) b off (zs.mergeSort fun x y => decide (x ≤ y)).toArray) os :=
  AnyM.slices_Sort_int Tryz.sortI b off cap zs w hH hb hsz

theorem compact_some {w : World} {b off cap : Nat} {zs : List Int} (hH : Holds (Value.int .i64) w b off zs.toArray) (hsz : zs.length < 4611686018427387904) (hcap : zs.length ≤ cap) :
    Calls Tryz.prog 264 #[.slice (some ⟨b, off, none⟩) zs.length cap] w fun e w' => e = .returned (.slice (some ⟨b, off, none⟩) (Go.Lib.compactUpTo zs.toArray zs.toArray.size).length cap) ∧ ∃ q, w' = putRow (Value.int .i64) (Sort.ahead w q) b off (Go.Lib.compactUpTo zs.toArray zs.toArray.size ++ List.replicate (zs.toArray.size - (Go.Lib.compactUpTo zs.toArray zs.toArray.size).length) 0).toArray := by
  have := AnyE.slices_Compact Tryz.cmpI (Value.int .i64) (fun _ => rfl) (EqlAt.intD _ _ .i64) (NeqAt.intD _ _ .i64) 0 Tryz.zeroValue3 b off cap zs.toArray w hH (by simp; omega) (by simpa using hcap)
  simpa [show Tryz.cmpI_ren.f 43 = 264 from rfl] using this

theorem rise_walk {w : World} {u : Value} {M : World → Prop} {N : World → Value → Prop} (hs : Calls Tryz.prog 263 #[u] w fun e w1 => e = .returned (.tuple #[]) ∧ M w1) (hc : ∀ w1, M w1 → Calls Tryz.prog 264 #[u] w1 fun e w2 => ∃ v, e = .returned v ∧ N w2 v) :
    Calls Tryz.prog 235 #[u] w fun e w' => ∃ v, e = .returned v ∧ N w' v := by
  refine calls_of_wp Tryz.func235 (c := bod Tryz.f235) (by kernel_rfl) ?_
  have k0 : knd (bod Tryz.f235) = 1 := by kernel_rfl
  have k1 : isReg (lft (bod Tryz.f235)) = true := by kernel_rfl
  have k2 : List.range (regOps (lft (bod Tryz.f235))).size = [0] := by kernel_rfl
  have k3 : mvOf (regOps (lft (bod Tryz.f235)))[0]? = some (some 2, .const (.slice none 0 0)) := by kernel_rfl
  have k4 : knd (rgt (bod Tryz.f235)) = 1 := by kernel_rfl
  have k5 : isReg (lft (rgt (bod Tryz.f235))) = true := by kernel_rfl
  have k6 : List.range (regOps (lft (rgt (bod Tryz.f235)))).size = [0, 1] := by kernel_rfl
  have k7 : mvOf (regOps (lft (rgt (bod Tryz.f235))))[0]? = some (some 3, .tmp 0) := by kernel_rfl
  have k8 : clOf (regOps (lft (rgt (bod Tryz.f235))))[1]? = some (some 4, 263, #[.tmp 3]) := by kernel_rfl
  have k9 : knd (rgt (rgt (bod Tryz.f235))) = 1 := by kernel_rfl
  have k10 : isReg (lft (rgt (rgt (bod Tryz.f235)))) = true := by kernel_rfl
  have k11 : List.range (regOps (lft (rgt (rgt (bod Tryz.f235))))).size = [0, 1, 2] := by kernel_rfl
  have k12 : mvOf (regOps (lft (rgt (rgt (bod Tryz.f235)))))[0]? = some (some 5, .tmp 0) := by kernel_rfl
  have k13 : clOf (regOps (lft (rgt (rgt (bod Tryz.f235)))))[1]? = some (some 6, 264, #[.tmp 5]) := by kernel_rfl
  have k14 : mvOf (regOps (lft (rgt (rgt (bod Tryz.f235)))))[2]? = some (some 2, .tmp 6) := by kernel_rfl
  have k15 : isRet (rgt (rgt (rgt (bod Tryz.f235)))) = true := by kernel_rfl
  have k16 : (Tryz.f263.name == "runtime.NumGoroutine") = false := by kernel_rfl
  have k17 : Tryz.f263.body.isNone = false := by kernel_rfl
  have k18 : (Tryz.f264.name == "runtime.NumGoroutine") = false := by kernel_rfl
  have k19 : Tryz.f264.body.isNone = false := by kernel_rfl
  have k20 : Tryz.f235.ntmps = 7 := by kernel_rfl
  have k21 : Tryz.f235.results = #[.tmp 2] := by kernel_rfl
  rw [k20]
  revert k0 k1 k2 k3 k4 k5 k6 k7 k8 k9 k10 k11 k12 k13 k14 k15
  generalize bod Tryz.f235 = B
  intro k0 k1 k2 k3 k4 k5 k6 k7 k8 k9 k10 k11 k12 k13 k14 k15
  refine wp_seqP k0 ?_
  refine wp_regionP k1 k2 ?_
  refine wpOps_mv k3 ?_
  unfold wpOps
  unfold Exit.then
  dsimp only
  refine wp_seqP k4 ?_
  refine wp_regionP k5 k6 ?_
  refine wpOps_mv k7 ?_
  refine wpOps_cl k8 Tryz.func263 k16 k17 ?_
  refine Calls.args (b := #[u]) (by simp [Act.eval, Act.put]) (Calls.mono hs ?_)
  rintro e w1 ⟨rfl, hM⟩
  refine ⟨_, rfl, ?_⟩
  unfold wpOps
  unfold Exit.then
  dsimp only
  refine wp_act (b := ⟨#[u, undef, .slice none 0 0, u, .tuple #[], undef, undef], []⟩) (by simp [Act.eval, Act.put, Array.replicate_succ]) ?_
  refine wp_seqP k9 ?_
  refine wp_regionP k10 k11 ?_
  refine wpOps_mv k12 ?_
  refine wpOps_cl k13 Tryz.func264 k18 k19 ?_
  refine Calls.args (b := #[u]) (by simp [Act.eval, Act.put]) (Calls.mono (hc w1 hM) ?_)
  rintro e w2 ⟨v, rfl, hN⟩
  refine ⟨_, rfl, ?_⟩
  refine wpOps_mv k14 ?_
  unfold wpOps
  unfold Exit.then
  dsimp only
  refine wp_act (b := ⟨#[u, undef, v, u, .tuple #[], u, v], []⟩) (by simp [Act.eval, Act.put]) ?_
  refine wp_retP k15 ?_
  exact ⟨rfl, v, by simp [results, k21], v, rfl, hN⟩

theorem rise_some {w : World} {b off cap : Nat} {zs : List Int} (hH : Holds (Value.int .i64) w b off zs.toArray) (hb : b < w.heap.size) (hsz : zs.length < 4611686018427387904) (hcap : zs.length ≤ cap) :
    Calls Tryz.prog 235 #[.slice (some ⟨b, off, none⟩) zs.length cap] w fun e w' => e = .returned (.slice (some ⟨b, off, none⟩) (rise zs).length cap) ∧ Keep (fun c => c < w.heap.size ∧ c ≠ b) w w' ∧
      ∀ i (h : i < (rise zs).length), w'.cell? ⟨b, off + i, none⟩ = some (.int .i64 (rise zs)[i]) := by
  have hl : (zs.mergeSort fun x y => decide (x ≤ y)).length = zs.length := List.length_mergeSort _
  refine (rise_walk (sort_some (cap := cap) hH hb hsz) (N := fun w' v => v = .slice (some ⟨b, off, none⟩) (rise zs).length cap ∧ Keep (fun c => c < w.heap.size ∧ c ≠ b) w w' ∧
      ∀ i (h : i < (rise zs).length), w'.cell? ⟨b, off + i, none⟩ = some (.int .i64 (rise zs)[i])) ?_).mono (fun e w' ⟨v, h1, h2, h3, h4⟩ => ⟨by rw [h1, h2], h3, h4⟩)
  rintro w1 ⟨n, os, rfl⟩
  have hH1 : Holds (Value.int .i64) (Sort.grow (putRow (Value.int .i64) (Sort.ahead w n) b off (zs.mergeSort fun x y => decide (x ≤ y)).toArray) os) b off (zs.mergeSort fun x y => decide (x ≤ y)).toArray :=
    holds_grow _ _ _ _ _ _ (by simpa using hb) (holds_putRow _ _ _ _ zs.toArray _ hH (by simp [hl]))
  have hc := compact_some (cap := cap) hH1 (by omega) (by omega)
  rw [hl] at hc
  refine Calls.mono hc ?_
  rintro e w2 ⟨rfl, q, rfl⟩
  refine ⟨_, rfl, ?_⟩
  rw [sort_rise]
  have hrl := rise_len zs
  refine ⟨rfl, (Keep.trans (Keep.trans (Keep.putRow _ w n b off _) ((Keep.grow _ os b).mono fun k hk => ⟨by simpa using hk.1, hk.2⟩)) ((Keep.putRow _ _ q b off _).mono fun k hk => ⟨?_, hk.2⟩)), fun i h => ?_⟩
  · show k < ((putRow _ _ _ _ _).heap ++ os).size
    simp; have := hk.1; omega
  · rw [cell?_putRow (Value.int .i64) _ b off (zs.mergeSort fun x y => decide (x ≤ y)).toArray _ (holds_ahead _ _ _ _ _ _ hH1) (by simp [hl]; omega) i (by simp; omega)]
    simp [List.getElem?_append_left h, h]

theorem c264e : CTri Tryz.prog 264 [] [.sl [] 0 .no] (.sl [] 0 .no) [] 0 :=
  CTri.toFin prim_ok mixed Tryz.func264 (by kernel_rfl) 3000 [.no, .no] [] [] [] false (by kernel_rfl) (ObsOk.cons (obData (es := []) trivial) ObsOk.nil) (by decide)

/-- nothing is known but what there is -/
def atW (w : World) : Gh := ⟨fun _ => none, fun _ => none, fun _ _ => False, w, fun c => c < w.heap.size⟩
theorem atW_rel (w : World) : RelS (atW w) (over (Emp 0) (st0 [])) w := by
  refine ⟨fun _ => ⟨fun _ => rfl, fun _ => rfl⟩, ⟨0, fun _ _ => rfl⟩, fun _ _ _ h => ?_, fun _ _ _ h => ?_, fun _ _ h => False.elim h, fun _ _ => rfl, fun _ h => ?_, fun _ _ _ _ _ _ _ h => ?_, Keep.refl _ _, fun _ h => h⟩
  · cases h
  · cases h
  · cases h
  · cases h
theorem atW_base (w : World) : Base (0 : Nat) (atW w) := ⟨fun _ _ => rfl, fun _ => rfl, fun _ _ h => False.elim h, trivial⟩

theorem V.none {G G' : Gh} {w w' : World} {v : Value} (h : V G w (.sl [] 0 .no) v) : V G' w' (.sl [] 0 .no) v := by
  simp only [V] at h ⊢
  obtain ⟨cap, h1, ⟨_, _, h2, h3, _⟩ | ⟨b, off, h2, _, _⟩⟩ := h
  · exact ⟨cap, h1, .inl ⟨trivial, trivial, h2, h3, trivial⟩⟩
  · exact ⟨cap, h1, .inr ⟨b, off, h2, by simp only [VC], trivial⟩⟩

theorem rise_none {w : World} {u : Value} {p : Option Addr} {cap : Nat} (hu : u = .slice p 0 cap) {G : Gh} (hV : V G w (.sl [] 0 .no) u) :
    Calls Tryz.prog 235 #[u] w fun e w' => ∃ v, e = .returned v ∧ (Keep (fun c => c < w.heap.size) w w' ∧ ∀ G', V G' w' (.sl [] 0 .no) v) := by
  refine rise_walk (M := fun w1 => w1 = w) (by subst hu; exact AnyM.slices_Sort_int_none Tryz.sortI p cap w) ?_
  rintro w1 rfl
  refine (c264e (atW w1) w1 #[u] (atW_base w1) (atW_rel w1) ?_).mono ?_
  · simp only [VL]; exact ⟨V.none hV, trivial⟩
  · rintro e w2 ⟨v, G', s', rfl, hE, hR, hv, _⟩
    refine ⟨v, rfl, ?_, fun G' => V.none hv⟩
    have := hR.below
    rw [hE.F, hE.w0] at this
    exact this

theorem VL.ints {G : Gh} {w : World} : ∀ l : List Int, VL G w (flat intC l) (l.map (Value.int .i64))
  | [] => by simp [flat, VL]
  | x :: l => by simp only [flat, List.flatMap_cons, List.map_cons]; simp only [intC, List.cons_append, List.nil_append, VL, V]; exact ⟨trivial, VL.ints l⟩
theorem VL.ints_eq {G : Gh} {w : World} : ∀ (l : List Int) (us : List Value), VL G w (flat intC l) us → us = l.map (Value.int .i64)
  | [], [], _ => rfl
  | [], _ :: _, h => by simp only [flat, List.flatMap_nil, VL] at h
  | x :: l, [], h => by simp only [flat, List.flatMap_cons, intC, List.cons_append, VL] at h
  | x :: l, u :: us, h => by
    simp only [flat, List.flatMap_cons, intC, List.cons_append, List.nil_append, VL, V] at h
    rw [h.1, VL.ints_eq l us h.2]; rfl

theorem rise_call {G : Gh} {w : World} {s : LSt} {k : Nat} {l : List Int} {u : Value} (hR : RelS G (over (Emp 0) s) w) (ho : s.own.any (Nat.beq k) = true) (hsz : l.length < 4611686018427387904) (hu : V G w (.sl (flat intC l) l.length (.st k 1)) u) :
    Calls Tryz.prog 235 #[u] w fun e w' => ∃ (v : Value) (b : Nat) (S : Nat → Nat → Prop), e = .returned v ∧ ¬ G.F b ∧ (∀ i, G.ρ i ≠ some b) ∧ Keep (fun c => c < w.heap.size ∧ c ≠ b) w w' ∧
      (∀ c o, S c o → c = b ∧ ∃ x, w'.cell? ⟨c, o, none⟩ = some x) ∧ ∀ G', (∀ c o, S c o → G'.L c o) → V G' w' (.sl (flat intC (rise l)) (rise l).length .no) v := by
  have hempty : l = [] → ∀ p cap, u = .slice p 0 cap → V G w (.sl [] 0 .no) u → Calls Tryz.prog 235 #[u] w fun e w' => ∃ (v : Value) (b : Nat) (S : Nat → Nat → Prop), e = .returned v ∧ ¬ G.F b ∧ (∀ i, G.ρ i ≠ some b) ∧ Keep (fun c => c < w.heap.size ∧ c ≠ b) w w' ∧
      (∀ c o, S c o → c = b ∧ ∃ x, w'.cell? ⟨c, o, none⟩ = some x) ∧ ∀ G', (∀ c o, S c o → G'.L c o) → V G' w' (.sl (flat intC (rise l)) (rise l).length .no) v := by
    rintro rfl p cap hp hV
    refine (rise_none hp hV).mono ?_
    rintro e w' ⟨v, rfl, hK, hv⟩
    exact ⟨v, w.heap.size, fun _ _ => False, rfl, fun h => Nat.lt_irrefl _ (hR.base _ h), fun i hi => Nat.lt_irrefl _ (hR.ρ_lt hi), hK.mono fun k hk => hk.1, fun _ _ h => h.elim, fun G' _ => hv G'⟩
  have hu0 := hu
  simp only [V] at hu
  obtain ⟨cap, hcap, ⟨he, hn, hc0, hu', _⟩ | ⟨b, off, rfl, hC, hq, hO⟩⟩ := hu
  · have hl : l = [] := List.length_eq_zero_iff.1 hn
    subst hl
    exact hempty rfl (spOf u) 0 hu' (by simp only [V]; exact ⟨0, Nat.le_refl _, .inl ⟨trivial, trivial, rfl, hu', trivial⟩⟩)
  · rcases hO with ⟨hn, _⟩ | ⟨hm, hF, hτ⟩
    · have hl : l = [] := List.length_eq_zero_iff.1 hn
      subst hl
      exact hempty rfl _ cap rfl (by simp only [V]; exact ⟨cap, Nat.zero_le _, .inr ⟨b, off, rfl, by simp only [VC], trivial⟩⟩)
    · obtain ⟨b', f, t, q1, q2⟩ := hR.own k (by rw [over_own]; exact ho)
      rw [hτ] at q1
      cases q1
      rcases q2 with q2 | ⟨_, q3, _, vs, T, q5, q6⟩
      · omega
      obtain ⟨us, h1, h2⟩ := VC.cells _ _ _ hC
      have hus := VL.ints_eq l us h1
      subst hus
      have hH : Holds (Value.int .i64) w b off l.toArray := by
        intro j hj
        have hj' : j < l.length := by simpa using hj
        refine ⟨?_, by simp [World.frozen?, q5]⟩
        rw [h2 j (by simpa using hj')]
        simp [hj']
      have hb : b < w.heap.size := (Array.getElem?_eq_some_iff.1 q5).1
      refine (rise_some hH hb hsz hcap).mono ?_
      rintro e w' ⟨rfl, hK, hcell⟩
      refine ⟨_, b, fun c o => c = b ∧ off ≤ o ∧ o < off + (rise l).length, rfl, hF, q3, hK, ?_, fun G' hS => ?_⟩
      · rintro c o ⟨rfl, h1, h2⟩
        exact ⟨rfl, .int .i64 ((rise l)[o - off]'(by omega)), by have := hcell (o - off) (by omega); rwa [show off + (o - off) = o by omega] at this⟩
      · simp only [V]
        refine ⟨cap, Nat.le_trans (rise_len l) hcap, .inr ⟨b, off, rfl, VC.of_cells _ _ b off (VL.ints (rise l)) (fun i hi => hS _ _ ⟨rfl, by omega, ?_⟩) (fun i hi => ?_), trivial⟩⟩
        · have : i < (rise l).length := by simpa using hi
          omega
        · rw [hcell i (by simpa using hi)]; simp

end Go.Proofs.YtkeipljdhcbfoaaGreat
