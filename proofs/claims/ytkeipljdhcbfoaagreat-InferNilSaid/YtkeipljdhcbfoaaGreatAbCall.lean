/- THE EVALUATOR: calls. -/
import Derived.Test.YtkeipljdhcbfoaaGreatAbEval3
namespace Go.Ab
open Go Go.RowKit

def fromMap (ns : Nat) (ks : List Nat) (k : Nat) : Option Nat := bif Nat.blt k ns then some k else (idx k ks 0).map (ns + ·)

def sDirty (s₁ : LSt) (R : List Nat) : List Nat := R.filter fun i => s₁.dirty.any (Nat.beq i)
def sBlk (s₁ : LSt) (i : Nat) : Blk := (look s₁.H i).getD (.cells [])
def sKept (s s₁ : LSt) (dirty : List Nat) (res : AV) : List Nat := (dedup (reach s₁.H 4096 (res.idl ++ dirty.flatMap fun i => (sBlk s₁ i).idl) [])).filter fun i => Nat.ble s.nx i
def sKs (s s₁ : LSt) (dirty kept : List Nat) (res : AV) : List Nat :=
  dedup ((res.stms ++ dirty.flatMap (fun i => (sBlk s₁ i).stms) ++ kept.flatMap fun i => (sBlk s₁ i).stms).filter fun k => Nat.ble s.ns k && s₁.own.any (Nat.beq k))

def sumLA (s s₁ : LSt) (R : List Nat) (H₀ : List (Nat × Blk)) (res : AV) (dirty kept ks : List Nat) : LA :=
  { ev := fun _ => .val undef
    rd := (R.filter fun i => !(s₁.dirty.any (Nat.beq i))).map fun i => (i, (look H₀ i).getD (.cells []))
    wr := dirty.map fun i => (i, (look H₀ i).getD (.cells []), (sBlk s₁ i).fix (fun i => i) (fromMap s.ns ks))
    al := kept.map fun i => (i, (sBlk s₁ i).fix (fun i => i) (fromMap s.ns ks))
    ns := s.ns
    new := ks.length
    lo := s.nx
    hi := s₁.nx
    st := true
    v := res.res (fun i => i) (fromMap s.ns ks) }

def sumOk (s s₁ : LSt) (R : List Nat) (H₀ : List (Nat × Blk)) (res : AV) (dirty kept : List Nat) : Bool :=
  res.ids (fun i => (R ++ kept).any (Nat.beq i)) && (dirty ++ kept).all (fun i => (look s₁.H i).isSome && (sBlk s₁ i).ids (fun i => (R ++ kept).any (Nat.beq i))) && R.all (fun i => (look H₀ i).isSome && Nat.blt i s.nx)

/-- what a call comes to, out of the state at its body's end -/
def summary (s s₁ : LSt) (R : List Nat) (H₀ : List (Nat × Blk)) (res : AV) : Option LA :=
  let dirty := sDirty s₁ R
  let kept := sKept s s₁ dirty res
  bif sumOk s s₁ R H₀ res dirty kept then some (sumLA s s₁ R H₀ res dirty kept (sKs s s₁ dirty kept res)) else none

def acall (P : Program) (prim : FuncId → List AV → LSt → Option LA) (fuel : Nat) : Nat → FuncId → List AV → LSt → Option LA
  | 0, _, _, _ => none
  | n + 1, f, args, s =>
    match prim f args s with
    | some la => some la
    | none =>
      match P.funcs[f]? with
      | none => none
      | some fn =>
        match fn.body with
        | none => none
        | some c =>
          let R := dedup (reach s.H 4096 (AV.idlL args) [])
          let H₀ := R.filterMap fun i => (look s.H i).map fun X => (i, X)
          match ecode P (acall P prim fuel n) fuel c (args ++ List.replicate (fn.ntmps - args.length) (.val undef)) ⟨H₀, s.nx, [], s.ns, []⟩ with
          | none => none
          | some (x, env', s₁) =>
            match x with
            | .exit _ => none
            | _ =>
              match ares P (look s₁.H) env' fn.results.toList with
              | some res => summary s s₁ R H₀ res
              | none => none

theorem look_filterMap {H : List (Nat × Blk)} : ∀ (R : List Nat) (i : Nat) (X : Blk), look (R.filterMap fun i => (look H i).map fun X => (i, X)) i = some X → look H i = some X
  | [], _, _, h => by cases h
  | j :: R, i, X, h => by
    simp only [List.filterMap_cons] at h
    cases hj : look H j with
    | none => rw [hj] at h; exact look_filterMap R i X h
    | some Y =>
      rw [hj] at h
      simp only [Option.map_some, look] at h
      cases hb : Nat.beq i j with
      | true =>
        rw [hb] at h
        have := Nat.eq_of_beq_eq_true hb
        subst this
        rw [hj]; simpa using h
      | false => rw [hb] at h; exact look_filterMap R i X h

theorem ups_map (g : Nat → Blk) {H : Nat → Option Blk} : ∀ (l : List Nat) {i : Nat}, i ∈ l → ups H (l.map fun i => (i, g i)) i = some (g i)
  | [], _, h => by cases h
  | j :: l, i, h => by
    simp only [List.map_cons, ups]
    by_cases e : i = j
    · subst e; exact up_same _ _ _
    · rw [up_ne _ _ e]
      rcases List.mem_cons.1 h with rfl | h
      · exact absurd rfl e
      · exact ups_map g l h

theorem summary_left {s s₁ : LSt} {R : List Nat} {H₀ : List (Nat × Blk)} {res : AV} {la : LA} (h : summary s s₁ R H₀ res = some la) (hsub : ∀ i X, look H₀ i = some X → look s.H i = some X)
    (hstill : ∀ i X, look H₀ i = some X → i < s.nx → i ∉ s₁.dirty → look s₁.H i = some X) (hold : ∀ i X, look s₁.H i = some X → s.nx ≤ i ∨ ∃ Y, look H₀ i = some Y) (hRH : ∀ i X, look H₀ i = some X → i ∈ R)
    (hnx : ∀ i X, look s₁.H i = some X → i < s₁.nx) :
    s.fit la ∧ ∀ σ : ASt, la.can σ → (s.ns = σ.ns ∧ (∀ i X, look H₀ i = some X → σ.H i = some X) ∧ ∀ j, s.nx ≤ j → j < s₁.nx → σ.H j = none) ∧ ∃ kf kb ks p g, Left σ (over σ s₁) la res kf kb ks p g := by
  have h' : (bif sumOk s s₁ R H₀ res (sDirty s₁ R) (sKept s s₁ (sDirty s₁ R) res) then some (sumLA s s₁ R H₀ res (sDirty s₁ R) (sKept s s₁ (sDirty s₁ R) res) (sKs s s₁ (sDirty s₁ R) (sKept s s₁ (sDirty s₁ R) res) res)) else none) = some la := h
  clear h
  generalize hd : sDirty s₁ R = dirty at h'
  generalize hkept : sKept s s₁ dirty res = kept at h'
  generalize hks : sKs s s₁ dirty kept res = ks at h'
  let blk := sBlk s₁
  let p : Nat → Bool := fun i => (R ++ kept).any (Nat.beq i)
  cases hc : sumOk s s₁ R H₀ res dirty kept with
  | false => rw [hc] at h'; cases h'
  | true =>
    rw [hc] at h'
    simp only [cond_true, Option.some.injEq] at h'
    simp only [sumOk, Bool.and_eq_true, List.all_eq_true] at hc
    obtain ⟨⟨c1, c2⟩, c3⟩ := hc
    have hkb : ∀ i, i ∈ kept → s.nx ≤ i := by
      intro i hi
      rw [← hkept, sKept, List.mem_filter] at hi
      exact Nat.le_of_ble_eq_true hi.2
    have hR0 : ∀ i, i ∈ R → ∃ X, look H₀ i = some X ∧ i < s.nx := by
      intro i hi
      have := c3 i hi
      obtain ⟨X, hX⟩ := Option.isSome_iff_exists.1 this.1
      exact ⟨X, hX, by simpa using this.2⟩
    have hdR : ∀ i, i ∈ dirty → i ∈ R ∧ i ∈ s₁.dirty := by
      intro i hi
      rw [← hd, sDirty, List.mem_filter] at hi
      exact ⟨hi.1, any_beq.1 hi.2⟩
    have hsome : ∀ i, i ∈ dirty ++ kept → look s₁.H i = some (blk i) ∧ (blk i).ids p = true := by
      intro i hi
      obtain ⟨q1, q2⟩ := c2 i hi
      obtain ⟨X, hX⟩ := Option.isSome_iff_exists.1 q1
      refine ⟨?_, q2⟩
      show look s₁.H i = some (sBlk s₁ i)
      simp only [sBlk, hX, Option.getD_some]
    have hksp : ∀ k, k ∈ ks → s.ns ≤ k ∧ k ∈ s₁.own := by
      intro k hk
      rw [← hks, sKs] at hk
      have := dedup_sub _ _ hk
      rw [List.mem_filter] at this
      simp only [Bool.and_eq_true] at this
      exact ⟨Nat.le_of_ble_eq_true this.2.1, any_beq.1 this.2.2⟩
    subst h'
    have hfit : s.fit (sumLA s s₁ R H₀ res dirty kept ks) := by
      refine ⟨fun i X hX => ?_, fun i X Y hX => ?_, fun i X hX => ?_, fun _ => Nat.le_refl _, fun k hk => by simp [sumLA] at hk, fun _ => rfl⟩
      · simp only [sumLA, List.mem_map, List.mem_filter, Prod.mk.injEq] at hX
        obtain ⟨j, ⟨hj, _⟩, rfl, rfl⟩ := hX
        obtain ⟨Z, hZ, _⟩ := hR0 j hj
        rw [hZ]; exact hsub j Z hZ
      · simp only [sumLA, List.mem_map, Prod.mk.injEq] at hX
        obtain ⟨j, hj, rfl, rfl, rfl⟩ := hX
        obtain ⟨Z, hZ, _⟩ := hR0 j (hdR j hj).1
        rw [hZ]; exact hsub j Z hZ
      · simp only [sumLA, List.mem_map, Prod.mk.injEq] at hX
        obtain ⟨j, hj, rfl, rfl⟩ := hX
        exact hkb j hj
    refine ⟨hfit, fun σ hcan => ?_⟩
    have hns : s.ns = σ.ns := hcan.ns (.inr (.inr rfl))
    have hws : ∀ i, i ∈ dirty.map (fun i => i) ↔ i ∈ dirty := by intro i; simp
    have hRσ : ∀ i, i ∈ R → ∃ X, look H₀ i = some X ∧ σ.H i = some X := by
      intro i hi
      obtain ⟨Z, hZ, _⟩ := hR0 i hi
      by_cases hdi : i ∈ dirty
      · have := hcan.wr i ((look H₀ i).getD (.cells [])) _ (List.mem_map.2 ⟨i, hdi, rfl⟩)
        rw [hZ] at this; exact ⟨Z, hZ, this⟩
      · have hnd : (!(s₁.dirty.any (Nat.beq i))) = true := by
          cases hq : s₁.dirty.any (Nat.beq i) with
          | false => rfl
          | true => exact absurd (by rw [← hd, sDirty, List.mem_filter]; exact ⟨hi, hq⟩) hdi
        have := hcan.rd i ((look H₀ i).getD (.cells [])) (List.mem_map.2 ⟨i, List.mem_filter.2 ⟨hi, hnd⟩, rfl⟩)
        rw [hZ] at this; exact ⟨Z, hZ, this⟩
    have hkσ : ∀ i, i ∈ kept → σ.H i = none := fun i hi => hcan.hole i (hkb i hi) (hnx i _ (hsome i (by simp [hi])).1)
    have hid : (fun i => (if i ∈ kept then some i else none : Option Nat).getD i) = fun i => i := by
      funext i; split <;> rfl
    refine ⟨⟨hns, fun i X hX => ?_, fun j h1 h2 => hcan.hole j h1 h2⟩, ?_⟩
    · obtain ⟨Z, hZ, hσ⟩ := hRσ i (hRH i X hX)
      rw [hX] at hZ; cases hZ; exact hσ
    refine ⟨fun i => if i ∈ kept then some i else none, fun i => if i ∈ kept then some i else none, ks, p, fromMap s.ns ks, ?_⟩
    have hf : (fun i => ((fun i => if i ∈ kept then some i else none : Nat → Option Nat) i).getD i) = fun i => i := hid
    refine ⟨fun i j => ?_, fun j => ?_, fun i j hij => ?_, fun i hpi => ?_, fun i X hX hni => ?_, fun i X hi hX => ?_, fun i j X hij hX => ?_, fun i j hij => ?_, by rw [hf]; rfl, c1, rfl, by rw [← hks]; exact dedup_nodup _, fun k hk => ?_, fun k hk _ => ?_, fun k k' hkk => ?_⟩
    · by_cases h1 : i ∈ kept <;> by_cases h2 : j ∈ kept <;> simp [h1, h2] <;> first | exact eq_comm | (rintro rfl; contradiction)
    · simp only [LA.as, sumLA, List.map_map, List.mem_map, Function.comp]
      constructor
      · rintro ⟨i, hi⟩
        by_cases hj : j ∈ kept
        · exact ⟨j, hj, rfl⟩
        · simp [hj] at hi
      · rintro ⟨i, hi, rfl⟩; exact ⟨i, by simp [hi]⟩
    · by_cases hi : i ∈ kept
      · exact hkσ i hi
      · simp [hi] at hij
    · have := any_beq.1 hpi
      rcases List.mem_append.1 this with h1 | h1
      · obtain ⟨X, _, hX⟩ := hRσ i h1; exact .inr ⟨X, hX⟩
      · exact .inl ⟨i, by simp [h1]⟩
    · show (match look s₁.H i with | some X => some X | none => σ.H i) = some X
      cases hl : look s₁.H i with
      | none => exact hX
      | some Y =>
        simp only [Option.some.injEq]
        rcases hold i Y hl with hge | ⟨Z, hZ⟩
        · have := hcan.hole i hge (hnx i Y hl)
          rw [hX] at this; cases this
        · have hiR := hRH i Z hZ
          obtain ⟨Z', hZ', hσ⟩ := hRσ i hiR
          rw [hX] at hσ; cases hσ
          rw [hZ] at hZ'; cases hZ'
          obtain ⟨_, _, hlt⟩ := hR0 i hiR
          have hnd : i ∉ s₁.dirty := by
            intro hdd
            apply hni
            simp only [LA.ws, sumLA, List.map_map, List.mem_map, Function.comp]
            exact ⟨i, by rw [← hd, sDirty, List.mem_filter]; exact ⟨hiR, any_beq.2 hdd⟩, rfl⟩
          have := hstill i X hZ hlt hnd
          rw [hl] at this; cases this; rfl
    · simp only [LA.ws, sumLA, List.map_map, List.mem_map, Function.comp] at hi
      obtain ⟨j, hj, rfl⟩ := hi
      obtain ⟨q1, q2⟩ := hsome j (by simp [hj])
      refine ⟨blk j, ?_, ?_, q2⟩
      · show (match look s₁.H j with | some X => some X | none => σ.H j) = some (blk j)
        rw [q1]
      · have hna : j ∉ kept := fun hk => by
          have := hkb j hk
          obtain ⟨_, _, hlt⟩ := hR0 j (hdR j hj).1
          omega
        have hX' : ups (ups σ.H ((dirty.map fun i => (i, (look H₀ i).getD (.cells []), (blk i).fix (fun i => i) (fromMap s.ns ks))).map fun p => (p.1, p.2.2))) (kept.map fun i => (i, (blk i).fix (fun i => i) (fromMap s.ns ks))) j = some X := hX
        rw [ups_not _ (by simpa [List.map_map, Function.comp] using hna), List.map_map] at hX'
        have := ups_map (H := σ.H) (fun i => (blk i).fix (fun i => i) (fromMap s.ns ks)) dirty hj
        rw [hf]
        have e : ups σ.H (dirty.map ((fun p : Nat × Blk × Blk => (p.1, p.2.2)) ∘ fun i => (i, (look H₀ i).getD (.cells []), (blk i).fix (fun i => i) (fromMap s.ns ks)))) j = some X := hX'
        have e2 : ups σ.H (dirty.map fun i => (i, (blk i).fix (fun i => i) (fromMap s.ns ks))) j = some X := e
        rw [this] at e2
        exact (Option.some.inj e2).symm
    · have hik : i ∈ kept := by
        by_cases hi : i ∈ kept
        · exact hi
        · simp [hi] at hij
      have hij' : i = j := by simpa [hik] using hij
      subst hij'
      obtain ⟨q1, q2⟩ := hsome i (by simp [hik])
      refine ⟨blk i, ?_, ?_, q2⟩
      · show (match look s₁.H i with | some X => some X | none => σ.H i) = some (blk i)
        rw [q1]
      · have hX' : ups (ups σ.H ((dirty.map fun i => (i, (look H₀ i).getD (.cells []), (blk i).fix (fun i => i) (fromMap s.ns ks))).map fun p => (p.1, p.2.2))) (kept.map fun i => (i, (blk i).fix (fun i => i) (fromMap s.ns ks))) i = some X := hX
        rw [ups_map (fun i => (blk i).fix (fun i => i) (fromMap s.ns ks)) kept hik] at hX'
        rw [hf]
        exact (Option.some.inj hX').symm
    · have hik : i ∈ kept := by
        by_cases hi : i ∈ kept
        · exact hi
        · simp [hi] at hij
      refine ⟨blk i, ?_⟩
      show (match look s₁.H i with | some X => some X | none => σ.H i) = some (blk i)
      rw [(hsome i (by simp [hik])).1]
    · obtain ⟨q1, q2⟩ := hksp k hk
      refine ⟨?_, by omega⟩
      show (s₁.own.any (Nat.beq k) || σ.own k) = true
      rw [any_beq.2 q2]; rfl
    · show (s₁.own.any (Nat.beq k) || σ.own k) = true
      rw [hk]; simp
    · unfold fromMap at hkk
      cases hb : Nat.blt k s.ns with
      | true =>
        rw [hb] at hkk
        simp only [cond_true, Option.some.injEq] at hkk
        refine .inl ⟨?_, hkk.symm⟩
        have : k < s.ns := by simpa using hb
        omega
      | false =>
        rw [hb] at hkk
        simp only [cond_false, Option.map_eq_some_iff] at hkk
        obtain ⟨t, ht, rfl⟩ := hkk
        obtain ⟨_, h2⟩ := idx_spec ks 0 t ht
        exact .inr ⟨t, by simpa using h2, by rw [hns]⟩

theorem look_filterMap_mem {H : List (Nat × Blk)} : ∀ (R : List Nat) (i : Nat) (X : Blk), look (R.filterMap fun i => (look H i).map fun X => (i, X)) i = some X → i ∈ R
  | [], _, _, h => by cases h
  | j :: R, i, X, h => by
    simp only [List.filterMap_cons] at h
    cases hj : look H j with
    | none => rw [hj] at h; exact List.mem_cons_of_mem _ (look_filterMap_mem R i X h)
    | some Y =>
      rw [hj] at h
      simp only [Option.map_some, look] at h
      cases hb : Nat.beq i j with
      | true =>
        have := Nat.eq_of_beq_eq_true hb
        subst this; simp
      | false => rw [hb] at h; exact List.mem_cons_of_mem _ (look_filterMap_mem R i X h)

theorem ares1_mono {P : Program} {H H' : Nat → Option Blk} (hH : ∀ i X, H i = some X → H' i = some X) {env : List AV} {r : ResultVar} {v : AV} (h : ares1 P H env r = some v) : ares1 P H' env r = some v := by
  cases r with
  | tmp t => exact h
  | cell b t =>
    simp only [ares1] at h ⊢
    split at h
    · rename_i q i off hq he
      split at h
      · rename_i cs hcs
        rw [hH _ _ hcs]; exact h
      · cases h
    · cases h

theorem aresL_mono {P : Program} {H H' : Nat → Option Blk} (hH : ∀ i X, H i = some X → H' i = some X) {env : List AV} : ∀ {rs : List ResultVar} {v : List AV}, aresL P H env rs = some v → aresL P H' env rs = some v
  | [], _, h => h
  | r :: rs, v, h => by
    simp only [aresL] at h ⊢
    split at h
    · rename_i v' vs h1 h2
      rw [ares1_mono hH h1, aresL_mono hH h2]; exact h
    · cases h

theorem ares_mono {P : Program} {H H' : Nat → Option Blk} (hH : ∀ i X, H i = some X → H' i = some X) {env : List AV} {rs : List ResultVar} {v : AV} (h : ares P H env rs = some v) : ares P H' env rs = some v := by
  unfold ares at h ⊢
  cases hr : aresL P H env rs with
  | none => rw [hr] at h; cases h
  | some vs => rw [hr] at h; rw [aresL_mono hH hr]; exact h

theorem UTri.ev {P : Program} {f : FuncId} {args : List AV} {la : LA} (h : UTri P f args la) (ev : Operand → AV) : UTri P f args { la with ev := ev } :=
  fun G σ w cargs hR hv hc => h G σ w cargs hR hv ⟨hc.rd, hc.wr, hc.al, hc.use, hc.ns, hc.hole⟩

theorem CallOk.of {P : Program} {f : FuncId} {args : List AV} {la : LA} {fn : Func} (hf : P.funcs[f]? = some fn) (hname : (fn.name == "runtime.NumGoroutine") = false) (hb : fn.body.isNone = false) (h : UTri P f args la) : CallOk P f args la := by
  intro dst type pos after guard g cargs argTypes first caps ev hg hargs
  subst hargs
  exact OpOk.call (la := { la with ev := ev }) hg hf hname hb (h.ev ev)

theorem acall_step {P : Program} (hm : P.follows .mixedOrders = true) (hng : ∀ (f : FuncId) (fn : Func), P.funcs[f]? = some fn → fn.body.isNone = false → (fn.name == "runtime.NumGoroutine") = false)
    {prim : FuncId → List AV → LSt → Option LA} {fuel n : Nat} (ih : CallsOk P (acall P prim fuel n)) {f : FuncId} {args : List AV} {s : LSt} {la : LA} (hpr : prim f args s = none) (h : acall P prim fuel (n + 1) f args s = some la) :
    s.fit la ∧ UTri P f args la ∧ CallOk P f args la := by
  simp only [acall, hpr] at h
  split at h
  · cases h
  · rename_i fn hfn
    split at h
    · cases h
    · rename_i c hc
      generalize hR : dedup (reach s.H 4096 (AV.idlL args) []) = R at h
      generalize hH0 : (R.filterMap fun i => (look s.H i).map fun X => (i, X)) = H₀ at h
      cases hec : ecode P (acall P prim fuel n) fuel c (args ++ List.replicate (fn.ntmps - args.length) (.val undef)) ⟨H₀, s.nx, [], s.ns, []⟩ with
      | none => rw [hec] at h; cases h
      | some r =>
        obtain ⟨x, env', s₁⟩ := r
        rw [hec] at h
        have hx : ∃ res, (x = .normal ∨ x = .ret) ∧ ares P (look s₁.H) env' fn.results.toList = some res ∧ summary s s₁ R H₀ res = some la := by
          cases x with
          | exit i => cases h
          | normal =>
            simp only at h
            split at h
            · rename_i res hres; exact ⟨res, .inl rfl, hres, h⟩
            · cases h
          | ret =>
            simp only at h
            split at h
            · rename_i res hres; exact ⟨res, .inr rfl, hres, h⟩
            · cases h
        obtain ⟨res, hx, hres, hsum⟩ := hx
        have hcode := ecode_ok hm ih _ _ _ _ _ _ _ hec
        have hsub : ∀ i X, look H₀ i = some X → look s.H i = some X := by subst hH0; exact fun i X => look_filterMap R i X
        have hRH : ∀ i X, look H₀ i = some X → i ∈ R := by subst hH0; exact fun i X => look_filterMap_mem R i X
        have hlt : ∀ i X, look H₀ i = some X → i < s.nx := by
          intro i X hX
          unfold summary at hsum
          simp only at hsum
          cases hq : sumOk s s₁ R H₀ res (sDirty s₁ R) (sKept s s₁ (sDirty s₁ R) res) with
          | false => rw [hq] at hsum; cases hsum
          | true =>
            simp only [sumOk, Bool.and_eq_true, List.all_eq_true] at hq
            have := (hq.2 i (hRH i X hX)).2
            simpa using this
        have hon : ∀ σ : ASt, s.ns = σ.ns → (∀ k, σ.own k = true → k < σ.ns) → LSt.On ⟨H₀, s.nx, [], s.ns, []⟩ σ σ.ns := by
          intro σ hns ho
          exact ⟨hlt, fun k hk => by simp at hk, ho, Nat.le_of_eq hns.symm⟩
        have hnx : ∀ i X, look s₁.H i = some X → i < s₁.nx := by
          have := (hcode.run ⟨fun _ => none, fun _ => false, s.ns⟩ s.ns (hon _ rfl (fun k hk => by simp at hk)) (fun _ _ _ => rfl)).1
          exact this.H
        obtain ⟨hfit, hleft⟩ := summary_left hsum hsub (fun i X hX hi hd => hcode.later.still i X hX hi hd) hcode.later.held hRH hnx
        have hu : UTri P f args la := ?_
        · exact ⟨hfit, hu, CallOk.of hfn (hng f fn hfn (by rw [hc]; rfl)) (by rw [hc]; rfl) hu⟩
        refine UTri.body hfn hc fun σ hcan hfin hown => ?_
        obtain ⟨⟨hns, hσ, hhole⟩, kf, kb, ks, p, g, hL⟩ := hleft σ hcan
        have hover : over σ ⟨H₀, s.nx, [], s.ns, []⟩ = σ := by
          have h1 : (over σ ⟨H₀, s.nx, [], s.ns, []⟩).H = σ.H := by
            funext i
            show (match look H₀ i with | some X => some X | none => σ.H i) = σ.H i
            cases hl : look H₀ i with
            | none => rfl
            | some X => exact (hσ i X hl).symm
          calc over σ ⟨H₀, s.nx, [], s.ns, []⟩ = ⟨(over σ ⟨H₀, s.nx, [], s.ns, []⟩).H, σ.own, s.ns⟩ := by simp [over]
            _ = σ := by rw [h1, hns]
        have hcw := (hcode.run σ σ.ns (hon σ hns hown) hhole).2.1
        rw [hover] at hcw
        refine hcw.mono ?_
        rintro _ _ ⟨rfl, rfl⟩
        refine ⟨hx, res, kf, kb, ks, p, g, ares_mono (fun i X hX => ?_) hres, hL⟩
        show (match look s₁.H i with | some X => some X | none => σ.H i) = some X
        rw [hX]


theorem acall_ok {P : Program} (hm : P.follows .mixedOrders = true) (hng : ∀ (f : FuncId) (fn : Func), P.funcs[f]? = some fn → fn.body.isNone = false → (fn.name == "runtime.NumGoroutine") = false)
    {prim : FuncId → List AV → LSt → Option LA} (hp : CallsOk P prim) (fuel : Nat) : ∀ n, CallsOk P (acall P prim fuel n)
  | 0 => fun f args s la h => by cases h
  | n + 1 => fun f args s la h => by
    cases hpr : prim f args s with
    | some la' =>
      simp only [acall, hpr, Option.some.injEq] at h
      subst h
      exact hp _ _ _ _ hpr
    | none =>
      obtain ⟨h1, _, h2⟩ := acall_step hm hng (acall_ok hm hng hp fuel n) hpr h
      exact ⟨h1, h2⟩

/-- the state that is empty -/
def Emp (k : Nat) : ASt := ⟨fun _ => none, fun _ => false, k⟩

def base (W : World) (L : Nat → Nat → Prop) : Gh := ⟨fun _ => none, fun _ => none, L, W, fun k => k < W.heap.size⟩

theorem base_ok {W : World} {L : Nat → Nat → Prop} (hL : ∀ b o, L b o → ∃ v, W.cell? ⟨b, o, none⟩ = some v) (k : Nat) : RelS (base W L) (Emp k) W :=
  ⟨fun _ => ⟨fun _ => rfl, fun _ => rfl⟩, ⟨0, fun _ _ => rfl⟩, fun _ _ _ h => (nomatch h), fun _ _ _ h => (nomatch h), fun b o h => ⟨hL b o h, fun _ h => (nomatch h)⟩, fun _ _ => rfl,
   fun _ h => (nomatch h), fun _ _ _ _ _ _ _ h => (nomatch h), Keep.refl _ _, fun _ h => h⟩

def LSt.zero : LSt := ⟨[], 0, [], 0, []⟩

/-- A contract that asks nothing of memory, at a world. -/
theorem UTri.top {P : Program} {f : FuncId} {args : List AV} {la : LA} {v : Value} (hfit : LSt.zero.fit la) (h : UTri P f args la) (hv : la.v = .val v) {W : World} {L : Nat → Nat → Prop} (hL : ∀ b o, L b o → ∃ v, W.cell? ⟨b, o, none⟩ = some v)
    {cargs : Array Value} (ha : VL (base W L) W args cargs.toList) : Calls P f cargs W fun e W' => e = .returned v ∧ Below W.heap.size W W' := by
  have hcan := LSt.can hfit (σ₀ := Emp 0) (b := 0) ⟨fun _ _ h => (nomatch h), fun _ h => (nomatch h), fun _ h => (nomatch h), Nat.le_refl _⟩ (fun _ _ _ => rfl)
  refine (h (base W L) (over (Emp 0) LSt.zero) W cargs (base_ok hL 0) ha hcan).mono fun e W' he => ?_
  obtain ⟨u, G', rfl, h1, h2, h3⟩ := he
  rw [hv] at h3
  simp only [V] at h3
  subst h3
  have := h2.below
  rw [h1.w0, h1.F] at this
  exact ⟨rfl, this.os, this.tape, this.output, this.size, this.block⟩

def isTrue : Option LA → Bool
  | some la => match la.v with | .val (.bool b) => b | _ => false
  | none => false

theorem isTrue_spec {r : Option LA} (h : isTrue r = true) : ∃ la, r = some la ∧ la.v = .val (.bool true) := by
  unfold isTrue at h
  split at h
  · rename_i la
    split at h
    · rename_i b hb; subst h; exact ⟨la, rfl, hb⟩
    · cases h
  · cases h

/-- A run on the empty state that comes to true: so does the call, and it turns nothing that was there. -/
theorem acall_true {P : Program} (hm : P.follows .mixedOrders = true) (hng : ∀ (f : FuncId) (fn : Func), P.funcs[f]? = some fn → fn.body.isNone = false → (fn.name == "runtime.NumGoroutine") = false)
    {prim : FuncId → List AV → LSt → Option LA} (hp : CallsOk P prim) {fuel n : Nat} {f : FuncId} {args : List AV} (hpr : prim f args LSt.zero = none) (h : isTrue (acall P prim fuel (n + 1) f args LSt.zero) = true)
    {W : World} {L : Nat → Nat → Prop} (hL : ∀ b o, L b o → ∃ v, W.cell? ⟨b, o, none⟩ = some v) {cargs : Array Value} (ha : VL (base W L) W args cargs.toList) :
    Calls P f cargs W fun e W' => e = .returned (.bool true) ∧ Below W.heap.size W W' := by
  obtain ⟨la, h1, h2⟩ := isTrue_spec h
  obtain ⟨q1, q2, _⟩ := acall_step hm hng (acall_ok hm hng hp fuel n) hpr h1
  exact UTri.top q1 q2 h2 hL ha

end Go.Ab
