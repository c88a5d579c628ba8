/- CONTRACTS WITH MEMORY: shown at numbers of their own, they hold at whatever numbers the caller has. -/
import Derived.Test.YtkeipljdhcbfoaaGreatAbDv
namespace Go.Ab
open Go Go.RowKit

def idxBlks : List Blk → Nat → List (Nat × Blk)
  | [], _ => []
  | X :: l, j => (j, X) :: idxBlks l (j + 1)

theorem look_idxBlks : ∀ (l : List Blk) (j t : Nat), look (idxBlks l j) t = if j ≤ t then l[t - j]? else none
  | [], j, t => by simp [idxBlks, look]
  | X :: l, j, t => by
    simp only [idxBlks, look]
    by_cases e : t = j
    · subst e; simp
    · have : Nat.beq t j = false := beq_ne e
      simp only [this, cond_false]
      rw [look_idxBlks l (j + 1) t]
      by_cases h : j + 1 ≤ t
      · rw [if_pos h, if_pos (by omega), show t - j = (t - (j + 1)) + 1 by omega]; simp
      · rw [if_neg h, if_neg (by omega)]

/-- the state in which a function begins: its arguments' blocks, and no other -/
def st0 (H0 : List Blk) : LSt := ⟨idxBlks H0 0, H0.length, [], 0, []⟩

theorem st0_H (H0 : List Blk) (i : Nat) : (over (Emp 0) (st0 H0)).H i = H0[i]? := by
  show (match look (idxBlks H0 0) i with | some X => some X | none => none) = _
  rw [look_idxBlks]
  simp only [Nat.zero_le, if_true, Nat.sub_zero]
  cases H0[i]? <;> rfl

theorem over_H (s : LSt) (i : Nat) : (over (Emp 0) s).H i = look s.H i := by
  show (match look s.H i with | some X => some X | none => none) = _
  cases look s.H i <;> rfl

theorem over_own (s : LSt) (k : Nat) : (over (Emp 0) s).own k = s.own.any (Nat.beq k) := by
  show (s.own.any (Nat.beq k) || false) = _
  simp

/-- What a call comes to: H0: the blocks that its arguments lead to, at the numbers 0, 1, ..; H1: these behind it, and the new ones; nst: how many stamps its result has. -/
def CTri (P : Program) (f : FuncId) (H0 : List Blk) (args : List AV) (res : AV) (H1 : List Blk) (nst : Nat) : Prop :=
  ∀ G0 W cargs, Base H0.length G0 → RelS G0 (over (Emp 0) (st0 H0)) W → VL G0 W args cargs.toList →
    Calls P f cargs W fun e W' => ∃ u G' s', e = .returned u ∧ Ext G0 W G' W' ∧ RelS G' (over (Emp 0) s') W' ∧ V G' W' res u ∧
      (∀ i X, H1[i]? = some X → look s'.H i = some X) ∧ ∀ k, k < nst → s'.own.any (Nat.beq k) = true

def cren (ι : List Nat) (nx i : Nat) : Nat := match ι[i]? with | some j => j | none => nx + (i - ι.length)
def cst (ns nst k : Nat) : Option Nat := bif Nat.blt k nst then some (ns + k) else none
def noSt (_ : Nat) : Option Nat := none

def wrs (r : Nat → Nat) (f : Nat → Option Nat) : List Nat → List Blk → List Blk → List (Nat × Blk × Blk)
  | i :: ι, X :: H0, Y :: H1 => (i, X.ren r noSt, Y.ren r f) :: wrs r f ι H0 H1
  | _, _, _ => []
def als (r : Nat → Nat) (f : Nat → Option Nat) : Nat → List Blk → List (Nat × Blk)
  | nx, Y :: H1 => (nx, Y.ren r f) :: als r f (nx + 1) H1
  | _, [] => []

def callLA (ι : List Nat) (nx ns : Nat) (H0 H1 : List Blk) (nst : Nat) (res : AV) : LA :=
  { ev := fun _ => .val undef
    wr := wrs (cren ι nx) (cst ns nst) ι H0 H1
    al := als (cren ι nx) (cst ns nst) nx (H1.drop ι.length)
    ns := ns
    new := nst
    v := res.ren (cren ι nx) (cst ns nst) }

theorem wrs_mem {r : Nat → Nat} {f : Nat → Option Nat} : ∀ (ι : List Nat) (H0 H1 : List Blk), ι.length = H0.length → H0.length ≤ H1.length → ∀ (i : Nat) (j : Nat) (X Y : Blk), ι[i]? = some j → H0[i]? = some X → H1[i]? = some Y → (j, X.ren r noSt, Y.ren r f) ∈ wrs r f ι H0 H1
  | [], _, _, _, _, i, j, X, Y, h, _, _ => by simp at h
  | _ :: _, [], _, h, _, _, _, _, _, _, _, _ => by simp at h
  | _ :: _, _ :: _, [], _, h, _, _, _, _, _, _, _ => by simp at h
  | a :: ι, b :: H0, c :: H1, h1, h2, i, j, X, Y, h3, h4, h5 => by
    simp only [wrs, List.mem_cons]
    cases i with
    | zero => simp at h3 h4 h5; subst h3 h4 h5; exact .inl rfl
    | succ i =>
      simp at h3 h4 h5
      exact .inr (wrs_mem ι H0 H1 (by simpa using h1) (by simpa using h2) i j X Y h3 h4 h5)

theorem wrs_of {r : Nat → Nat} {f : Nat → Option Nat} : ∀ (ι : List Nat) (H0 H1 : List Blk) (j : Nat) (X Y : Blk), (j, X, Y) ∈ wrs r f ι H0 H1 → j ∈ ι
  | [], _, _, _, _, _, h => by simp [wrs] at h
  | _ :: _, [], _, _, _, _, h => by simp [wrs] at h
  | _ :: _, _ :: _, [], _, _, _, h => by simp [wrs] at h
  | a :: ι, b :: H0, c :: H1, j, X, Y, h => by
    simp only [wrs, List.mem_cons, Prod.mk.injEq] at h
    rcases h with ⟨rfl, _⟩ | h
    · simp
    · exact List.mem_cons_of_mem _ (wrs_of ι H0 H1 j X Y h)

theorem look_wrs {r : Nat → Nat} {f : Nat → Option Nat} : ∀ (ι : List Nat) (H0 H1 : List Blk), ι.length = H0.length → H0.length ≤ H1.length → ι.Nodup → ∀ (i j : Nat) (Y : Blk), ι[i]? = some j → H1[i]? = some Y → look ((wrs r f ι H0 H1).map fun p => (p.1, p.2.2)) j = some (Y.ren r f)
  | [], _, _, _, _, _, i, j, Y, h, _ => by simp at h
  | _ :: _, [], _, h, _, _, _, _, _, _, _ => by simp at h
  | _ :: _, _ :: _, [], _, h, _, _, _, _, _, _ => by simp at h
  | a :: ι, b :: H0, c :: H1, h1, h2, hn, i, j, Y, h3, h5 => by
    rw [List.nodup_cons] at hn
    simp only [wrs, List.map_cons, look]
    cases i with
    | zero => simp at h3 h5; subst h3 h5; simp
    | succ i =>
      simp at h3 h5
      have hne : j ≠ a := by rintro rfl; exact hn.1 (List.mem_of_getElem? h3)
      rw [beq_ne hne]
      exact look_wrs ι H0 H1 (by simpa using h1) (by simpa using h2) hn.2 i j Y h3 h5

theorem look_wrs_none {r : Nat → Nat} {f : Nat → Option Nat} (ι : List Nat) (H0 H1 : List Blk) {j : Nat} (hj : j ∉ ι) : look ((wrs r f ι H0 H1).map fun p => (p.1, p.2.2)) j = none := by
  refine look_none _ _ fun X hX => ?_
  obtain ⟨q, hq, he⟩ := List.mem_map.1 hX
  simp only [Prod.mk.injEq] at he
  exact hj (he.1 ▸ wrs_of ι H0 H1 q.1 q.2.1 q.2.2 hq)

theorem look_als {r : Nat → Nat} {f : Nat → Option Nat} : ∀ (H1 : List Blk) (nx j : Nat), look (als r f nx H1) j = if nx ≤ j then (H1[j - nx]?).map fun Y => Y.ren r f else none
  | [], nx, j => by simp [als, look]
  | Y :: H1, nx, j => by
    simp only [als, look]
    by_cases e : j = nx
    · subst e; simp
    · rw [beq_ne e]
      simp only [cond_false]
      rw [look_als H1 (nx + 1) j]
      by_cases h : nx + 1 ≤ j
      · rw [if_pos h, if_pos (by omega), show j - nx = (j - (nx + 1)) + 1 by omega]; simp
      · rw [if_neg h, if_neg (by omega)]

theorem als_mem {r : Nat → Nat} {f : Nat → Option Nat} : ∀ (H1 : List Blk) (nx j : Nat) (X : Blk), (j, X) ∈ als r f nx H1 → nx ≤ j ∧ j < nx + H1.length
  | [], _, _, _, h => by simp [als] at h
  | Y :: H1, nx, j, X, h => by
    simp only [als, List.mem_cons, Prod.mk.injEq] at h
    rcases h with ⟨rfl, _⟩ | h
    · simp
    · have := als_mem H1 (nx + 1) j X h
      simp only [List.length_cons]; omega

theorem als_has {r : Nat → Nat} {f : Nat → Option Nat} : ∀ (H1 : List Blk) (nx j : Nat), nx ≤ j → j < nx + H1.length → ∃ X, (j, X) ∈ als r f nx H1
  | [], nx, j, h1, h2 => by simp at h2; omega
  | Y :: H1, nx, j, h1, h2 => by
    simp only [List.length_cons] at h2
    by_cases e : j = nx
    · subst e; exact ⟨_, List.mem_cons_self ..⟩
    · obtain ⟨X, hX⟩ := als_has H1 (nx + 1) j (by omega) (by omega)
      exact ⟨X, List.mem_cons_of_mem _ hX⟩

theorem CTri.uni {P : Program} {f : FuncId} {H0 : List Blk} {args : List AV} {res : AV} {H1 : List Blk} {nst : Nat} (h : CTri P f H0 args res H1 nst)
    (hargs : AV.argL (fun i => i < H0.length) args) (hH0 : ∀ X ∈ H0, X.arg (fun i => i < H0.length)) (hres : res.fine (fun i => i < H1.length)) (hH1 : ∀ X ∈ H1, X.fine (fun i => i < H1.length))
    (ι : List Nat) (hι : ι.length = H0.length) (hle : H0.length ≤ H1.length) (hn : ι.Nodup) (nx ns : Nat) :
    UTri P f (AV.renL (cren ι nx) noSt args) (callLA ι nx ns H0 H1 nst res) := by
  intro G σ w cargs hR hv hc
  -- the arguments' blocks, at the caller's numbers
  have hin : ∀ i, i < H0.length → ∃ j, ι[i]? = some j ∧ cren ι nx i = j := by
    intro i hi
    have hi' : i < ι.length := by omega
    exact ⟨ι[i], List.getElem?_eq_getElem hi', by simp [cren, List.getElem?_eq_getElem hi']⟩
  have hblk : ∀ (i : Nat) (X : Blk) (j : Nat), H0[i]? = some X → ι[i]? = some j → σ.H j = some (X.ren (cren ι nx) noSt) := by
    intro i X j hX hj
    have hlt : i < H1.length := by have := (List.getElem?_eq_some_iff.1 hX).1; omega
    exact hc.wr j _ _ (wrs_mem ι H0 H1 hι hle i j X _ hj hX (List.getElem?_eq_getElem hlt))
  have hnew : ∀ j, nx ≤ j → j < nx + (H1.length - H0.length) → σ.H j = none := by
    intro j h1 h2
    obtain ⟨X, hX⟩ := als_has (r := cren ι nx) (f := cst ns nst) (H1.drop ι.length) nx j h1 (by rw [List.length_drop, hι]; exact h2)
    exact hc.al j X hX
  let F0 : Nat → Prop := fun b => b < w.heap.size ∧ ∀ i ∈ ι, G.ρ i ≠ some b
  let G0 : Gh := ⟨fun i => (ι[i]?).bind G.ρ, fun _ => none, G.L, w, F0⟩
  have hρ0 : ∀ i j, ι[i]? = some j → G0.ρ i = G.ρ j := by intro i j e; show (ι[i]?).bind G.ρ = _; rw [e]; rfl
  have hρ0' : ∀ i b, G0.ρ i = some b → ∃ j, ι[i]? = some j ∧ G.ρ j = some b := by
    intro i b e
    have e' : (ι[i]?).bind G.ρ = some b := e
    cases hj : ι[i]? with
    | none => rw [hj] at e'; cases e'
    | some j => rw [hj] at e'; exact ⟨j, rfl, e'⟩
  have hB : Base H0.length G0 := ⟨fun i hi => by replace hi : H0.length ≤ i := hi; show (ι[i]?).bind G.ρ = none; rw [List.getElem?_eq_none (by omega)]; rfl, fun _ => rfl, fun b o e => ⟨hR.L_lt e, fun i _ => (hR.live b o e).2 i⟩, trivial⟩
  have hR0 : RelS G0 (over (Emp 0) (st0 H0)) w := by
    refine ⟨fun i => ?_, ⟨H0.length, fun i hi => ?_⟩, fun i i' b e1 e2 => ?_, fun i b X e1 e2 => ?_, fun b o e => ?_, fun _ _ => rfl, fun k hk => ?_, fun k k' b f t f' t' hk => ?_, Keep.refl _ _, fun k hk => hk.1⟩
    · rw [st0_H]
      constructor
      · intro e
        cases hX : H0[i]? with
        | none => rfl
        | some X =>
          obtain ⟨j, hj, _⟩ := hin i (List.getElem?_eq_some_iff.1 hX).1
          obtain ⟨b, hb, _⟩ := hR.look (hblk i X j hX hj)
          rw [hρ0 i j hj, hb] at e; cases e
      · intro e
        exact hB.ρ i (List.getElem?_eq_none_iff.1 e)
    · rw [st0_H]; exact List.getElem?_eq_none hi
    · obtain ⟨j, hj, e3⟩ := hρ0' i b e1
      obtain ⟨j', hj', e4⟩ := hρ0' i' b e2
      have := hR.inj j j' b e3 e4
      subst this
      exact (List.getElem?_inj (List.getElem?_eq_some_iff.1 hj).1 hn).1 (hj.trans hj'.symm)
    · rw [st0_H] at e2
      obtain ⟨j, hj, e3⟩ := hρ0' i b e1
      obtain ⟨q1, q2⟩ := hR.blk j b _ e3 (hblk i X j e2 hj)
      refine ⟨fun hF => hF.2 j (List.mem_of_getElem? hj) e3, BlkOk.unren (G := G) (G' := G0) (r := cren ι nx) (f := noSt) (fun i hi => ?_) (fun _ _ e => e) (hH0 X (List.mem_of_getElem? e2)) q2⟩
      obtain ⟨j', hj', e5⟩ := hin i hi
      rw [hρ0 i j' hj', e5]
    · obtain ⟨q1, q2⟩ := hR.live b o e
      refine ⟨q1, fun i hi => ?_⟩
      obtain ⟨j, _, e3⟩ := hρ0' i b hi
      exact q2 j e3
    · simp [over_own, st0] at hk
    · simp [over_own, st0] at hk
  have hv0 : VL G0 w args cargs.toList := VL.unren (G := G) (G' := G0) (r := cren ι nx) (f := noSt) (fun i hi => by
    obtain ⟨j, hj, e⟩ := hin i hi
    rw [hρ0 i j hj, e]) (fun _ _ e => e) _ _ hargs hv
  refine (h G0 w cargs hB hR0 hv0).mono fun e w' he => ?_
  obtain ⟨u, G₁, s₁, rfl, hE, hR₁, hu, hH1', hst⟩ := he
  have hkeep : Keep F0 w w' := by
    have := hR₁.below
    rw [hE.w0, hE.F] at this
    exact this
  let m := H1.length - H0.length
  let G' : Gh := ⟨fun i => if nx ≤ i ∧ i < nx + m then G₁.ρ (H0.length + (i - nx)) else G.ρ i, fun k => if k < σ.ns then G.τ k else if k < σ.ns + nst then G₁.τ (k - σ.ns) else none, G₁.L, G.w0, G.F⟩
  have ρnew : ∀ i, nx ≤ i → i < nx + m → G'.ρ i = G₁.ρ (H0.length + (i - nx)) := fun i a b => if_pos ⟨a, b⟩
  have ρold : ∀ i, σ.H i ≠ none → G'.ρ i = G.ρ i := by
    intro i hi
    refine if_neg fun e => hi (hnew i e.1 e.2)
  have ρarg : ∀ i j, ι[i]? = some j → G₁.ρ i = G.ρ j ∧ G'.ρ j = G.ρ j := by
    intro i j hj
    have hi : i < H0.length := by have := (List.getElem?_eq_some_iff.1 hj).1; omega
    have hX := hblk i _ j (List.getElem?_eq_getElem hi) hj
    obtain ⟨b, hb, _⟩ := hR.look hX
    exact ⟨by rw [hb]; exact hE.ρ i b (by rw [hρ0 i j hj]; exact hb), ρold j (by rw [hX]; simp)⟩
  -- where a block comes from
  have pre : ∀ i b, G'.ρ i = some b → (∃ i₁, G₁.ρ i₁ = some b ∧ cren ι nx i₁ = i ∧ i₁ < H1.length ∧ (i ∈ ι ∨ (nx ≤ i ∧ i < nx + m ∧ i₁ = H0.length + (i - nx)))) ∨ (G.ρ i = some b ∧ F0 b ∧ i ∉ ι ∧ ¬ (nx ≤ i ∧ i < nx + m)) := by
    intro i b e
    by_cases hi : nx ≤ i ∧ i < nx + m
    · rw [ρnew i hi.1 hi.2] at e
      refine .inl ⟨H0.length + (i - nx), e, ?_, by omega, .inr ⟨hi.1, hi.2, rfl⟩⟩
      unfold cren
      rw [List.getElem?_eq_none (by omega)]
      simp only; omega
    · have e' : G.ρ i = some b := by have : G'.ρ i = G.ρ i := if_neg hi; rw [← this]; exact e
      by_cases hm : i ∈ ι
      · obtain ⟨t, ht, rfl⟩ := List.getElem_of_mem hm
        have hj : ι[t]? = some ι[t] := List.getElem?_eq_getElem ht
        refine .inl ⟨t, by rw [(ρarg t _ hj).1]; exact e', by simp [cren, hj], by omega, .inl hm⟩
      · refine .inr ⟨e', ⟨hR.ρ_lt e', fun j hj e2 => ?_⟩, hm, hi⟩
        exact hm (hR.inj j i b e2 e' ▸ hj)
  have hF : ∀ b, ¬ F0 b → ¬ G.F b := by
    intro b hb hG
    apply hb
    refine ⟨hR.base b hG, fun i _ e => ?_⟩
    obtain ⟨X, hX⟩ := hR.has e
    exact (hR.blk i b X e hX).1 hG
  have hLsub : ∀ b o, G.L b o → G₁.L b o := hE.L
  have hnewL : ∀ b o, G₁.L b o → G.L b o ∨ ¬ F0 b := hE.newL
  have hcell : ∀ b o, G.L b o → w'.cell? ⟨b, o, none⟩ = w.cell? ⟨b, o, none⟩ := hE.cell
  have hExt : Ext G w G' w' := by
    refine ⟨fun i b e => ?_, fun k q e => ?_, hLsub, hcell, rfl, rfl, fun b o e => (hnewL b o e).imp id (hF b)⟩
    · obtain ⟨X, hX⟩ := hR.has e
      rw [ρold i (by rw [hX]; simp)]; exact e
    · have : k < σ.ns := by
        rcases Nat.lt_or_ge k σ.ns with e1 | e1
        · exact e1
        · rw [hR.τns k e1] at e; cases e
      show (if k < σ.ns then _ else _) = _
      rw [if_pos this]; exact e
  have hns : nst ≠ 0 → ns = σ.ns := fun e => hc.ns (.inr (.inl e))
  have hren : Ren G₁ G' (cren ι nx) (cst ns nst) (fun i => i < H1.length) := by
    refine ⟨fun b hb => hF b (by rw [hE.F] at hb; exact hb), fun i b hi e => ?_, fun k k' q hk hq => ?_, fun _ _ e => e⟩
    · by_cases hi' : i < H0.length
      · obtain ⟨j, hj, e1⟩ := hin i hi'
        rw [e1, (ρarg i j hj).2, ← (ρarg i j hj).1]; exact e
      · have e1 : cren ι nx i = nx + (i - ι.length) := by
          unfold cren
          rw [List.getElem?_eq_none (by omega)]
        rw [e1, ρnew _ (by omega) (by omega)]
        rw [show H0.length + (nx + (i - ι.length) - nx) = i by omega]; exact e
    · unfold cst at hk
      cases hb : Nat.blt k nst with
      | false => rw [hb] at hk; cases hk
      | true =>
        rw [hb] at hk
        simp only [cond_true, Option.some.injEq] at hk
        subst hk
        have hlt : k < nst := by simpa using hb
        have := hns (by omega)
        subst this
        show (if σ.ns + k < σ.ns then _ else if σ.ns + k < σ.ns + nst then G₁.τ (σ.ns + k - σ.ns) else none) = _
        rw [if_neg (by omega), if_pos (by omega), show σ.ns + k - σ.ns = k by omega]
        exact hq
  -- the blocks behind the call
  have happ : ∀ i, ((callLA ι nx ns H0 H1 nst res).app σ).H i = match look (als (cren ι nx) (cst ns nst) nx (H1.drop ι.length)) i with | some X => some X | none => (match look ((wrs (cren ι nx) (cst ns nst) ι H0 H1).map fun p => (p.1, p.2.2)) i with | some X => some X | none => σ.H i) := by
    intro i
    show ups (ups σ.H ((wrs (cren ι nx) (cst ns nst) ι H0 H1).map fun p => (p.1, p.2.2))) (als (cren ι nx) (cst ns nst) nx (H1.drop ι.length)) i = _
    rw [look_ups, look_ups]; rfl
  have happNew : ∀ i, nx ≤ i → i < nx + m → ∃ Y : Blk, H1[H0.length + (i - nx)]? = some Y ∧ ((callLA ι nx ns H0 H1 nst res).app σ).H i = some (Y.ren (cren ι nx) (cst ns nst)) := by
    intro i h1 h2
    have hlt : H0.length + (i - nx) < H1.length := by omega
    refine ⟨H1[H0.length + (i - nx)], List.getElem?_eq_getElem hlt, ?_⟩
    rw [happ, look_als, if_pos h1, List.getElem?_drop, hι, List.getElem?_eq_getElem hlt]
    rfl
  have hnotnew : ∀ i, ¬ (nx ≤ i ∧ i < nx + m) → look (als (cren ι nx) (cst ns nst) nx (H1.drop ι.length)) i = none := by
    intro i hi
    rw [look_als]
    split
    · rw [List.getElem?_eq_none (by rw [List.length_drop]; omega)]; rfl
    · rfl
  have happArg : ∀ (t j : Nat), ι[t]? = some j → ∃ Y : Blk, H1[t]? = some Y ∧ ((callLA ι nx ns H0 H1 nst res).app σ).H j = some (Y.ren (cren ι nx) (cst ns nst)) := by
    intro t j hj
    have ht : t < H0.length := by have := (List.getElem?_eq_some_iff.1 hj).1; omega
    have hlt : t < H1.length := by omega
    refine ⟨H1[t], List.getElem?_eq_getElem hlt, ?_⟩
    have hX := hblk t _ j (List.getElem?_eq_getElem ht) hj
    rw [happ, hnotnew j (fun e => by rw [hnew j e.1 e.2] at hX; cases hX), look_wrs ι H0 H1 hι hle hn t j _ hj (List.getElem?_eq_getElem hlt)]
  have happOld : ∀ i, i ∉ ι → ¬ (nx ≤ i ∧ i < nx + m) → ((callLA ι nx ns H0 H1 nst res).app σ).H i = σ.H i := by
    intro i h1 h2
    rw [happ, hnotnew i h2, look_wrs_none ι H0 H1 h1]
  have hown : ∀ k, ((callLA ι nx ns H0 H1 nst res).app σ).own k = true → (k < σ.ns ∧ σ.own k = true ∧ G'.τ k = G.τ k) ∨ (σ.ns ≤ k ∧ k < σ.ns + nst ∧ G'.τ k = G₁.τ (k - σ.ns) ∧ (over (Emp 0) s₁).own (k - σ.ns) = true) := by
    intro k hk
    have hk' : (if σ.ns ≤ k ∧ k < σ.ns + nst then true else if k ∈ ([] : List Nat) then false else σ.own k) = true := hk
    by_cases h1 : σ.ns ≤ k ∧ k < σ.ns + nst
    · refine .inr ⟨h1.1, h1.2, ?_, ?_⟩
      · show (if k < σ.ns then _ else _) = _
        rw [if_neg (by omega), if_pos h1.2]
      · rw [over_own]; exact hst _ (by omega)
    · rw [if_neg h1, if_neg (by simp)] at hk'
      have := hR.own_lt hk'
      refine .inl ⟨this, hk', ?_⟩
      show (if k < σ.ns then _ else _) = _
      rw [if_pos this]
  have hpreN : ∀ b, (∀ i, G₁.ρ i ≠ some b) → ¬ F0 b → ∀ i, G'.ρ i ≠ some b := by
    intro b h1 h2 i e
    rcases pre i b e with ⟨i₁, e1, _⟩ | ⟨_, e2, _⟩
    · exact h1 i₁ e1
    · exact h2 e2
  refine ⟨u, G', rfl, hExt, ⟨?_, ?_, ?_, ?_, ?_, ?_, ?_, ?_, ?_, ?_⟩, V.ren hren res u hres hu⟩
  · intro i
    constructor
    · intro e
      by_cases h1 : nx ≤ i ∧ i < nx + m
      · exfalso
        obtain ⟨Y, hY, _⟩ := happNew i h1.1 h1.2
        rw [ρnew i h1.1 h1.2] at e
        have := (hR₁.dom _).1 e
        rw [over_H, hH1' _ _ hY] at this; cases this
      · have e' : G.ρ i = none := by have : G'.ρ i = G.ρ i := if_neg h1; rw [← this]; exact e
        by_cases h2 : i ∈ ι
        · exfalso
          obtain ⟨t, ht, rfl⟩ := List.getElem_of_mem h2
          have hX := hblk t _ _ (List.getElem?_eq_getElem (by omega)) (List.getElem?_eq_getElem ht)
          rw [(hR.dom _).1 e'] at hX; cases hX
        · rw [happOld i h2 h1]; exact (hR.dom i).1 e'
    · intro e
      cases hb : G'.ρ i with
      | none => rfl
      | some b =>
        exfalso
        rcases pre i b hb with ⟨i₁, _, _, _, h2 | ⟨h2, h3, _⟩⟩ | ⟨e1, _, h2, h3⟩
        · obtain ⟨t, ht, rfl⟩ := List.getElem_of_mem h2
          obtain ⟨Y, _, hY⟩ := happArg t _ (List.getElem?_eq_getElem ht)
          rw [hY] at e; cases e
        · obtain ⟨Y, _, hY⟩ := happNew i h2 h3
          rw [hY] at e; cases e
        · rw [happOld i h2 h3] at e
          rw [(hR.dom i).2 e] at e1; cases e1
  · obtain ⟨N, hN⟩ := hR.fin
    refine ⟨N + nx + m + ι.foldr (fun i s => i + 1 + s) 0, fun i hi => ?_⟩
    have big : ∀ (l : List Nat) i, i ∈ l → i < l.foldr (fun i s => i + 1 + s) 0 := by
      intro l
      induction l with
      | nil => intro i hi; cases hi
      | cons x l ih =>
        intro i hi
        simp only [List.foldr_cons]
        rcases List.mem_cons.1 hi with rfl | hi
        · omega
        · have := ih i hi; omega
    rw [happOld i (fun hm => by have := big _ i hm; omega) (by omega)]
    exact hN i (by omega)
  · intro i i' b e1 e2
    rcases pre i b e1 with ⟨a, q1, q2, q3, _⟩ | ⟨q1, q2, q3, q4⟩ <;> rcases pre i' b e2 with ⟨a', p1, p2, p3, _⟩ | ⟨p1, p2, p3, p4⟩
    · have := hR₁.inj a a' b q1 p1
      subst this; rw [← q2, ← p2]
    · exfalso
      obtain ⟨X, hX⟩ := hR₁.has q1
      have := (hR₁.blk a b X q1 hX).1
      rw [hE.F] at this; exact this p2
    · exfalso
      obtain ⟨X, hX⟩ := hR₁.has p1
      have := (hR₁.blk a' b X p1 hX).1
      rw [hE.F] at this; exact this q2
    · exact hR.inj i i' b q1 p1
  · intro i b X hb hX
    rcases pre i b hb with ⟨i₁, e1, _, e3, hcase⟩ | ⟨e1, e2, e3, e4⟩
    · have hX' : ∃ Y : Blk, H1[i₁]? = some Y ∧ X = Y.ren (cren ι nx) (cst ns nst) := by
        rcases hcase with h2 | ⟨h2, h3, rfl⟩
        · obtain ⟨t, ht, rfl⟩ := List.getElem_of_mem h2
          have hj : ι[t]? = some ι[t] := List.getElem?_eq_getElem ht
          obtain ⟨Y, hY, hY'⟩ := happArg t _ hj
          rw [hX] at hY'; cases hY'
          have : i₁ = t := by
            have h4 := (ρarg t _ hj)
            exact hR₁.inj i₁ t b e1 (by rw [h4.1, ← h4.2]; exact hb)
          subst this; exact ⟨Y, hY, rfl⟩
        · obtain ⟨Y, hY, hY'⟩ := happNew i h2 h3
          rw [hX] at hY'; cases hY'
          exact ⟨Y, hY, rfl⟩
      obtain ⟨Y, hY, rfl⟩ := hX'
      obtain ⟨q1, q2⟩ := hR₁.blk i₁ b Y e1 (by rw [over_H]; exact hH1' _ _ hY)
      rw [hE.F] at q1
      exact ⟨hF b q1, q2.ren hren (hH1 Y (List.mem_of_getElem? hY))⟩
    · rw [happOld i e3 e4] at hX
      obtain ⟨q1, q2⟩ := hR.blk i b X e1 hX
      exact ⟨q1, q2.mono hExt (hkeep.block b e2)⟩
  · intro b o hL
    obtain ⟨q1, q2⟩ := hR₁.live b o hL
    refine ⟨q1, fun i e => ?_⟩
    rcases pre i b e with ⟨i₁, e1, _⟩ | ⟨e1, e2, _⟩
    · exact q2 i₁ e1
    · rcases hnewL b o hL with q | q
      · exact (hR.live b o q).2 i e1
      · exact q e2
  · intro k hk
    have hk' : σ.ns + nst ≤ k := hk
    show (if k < σ.ns then _ else if k < σ.ns + nst then _ else none) = none
    rw [if_neg (by omega), if_neg (by omega)]
  · intro k hk
    rcases hown k hk with ⟨_, h2, h3⟩ | ⟨_, _, h3, h4⟩
    · obtain ⟨b, f', t, q1, q2 | ⟨q2, q3, q4, vs, T, q5, q6⟩⟩ := hR.own k h2
      · exact ⟨b, f', t, h3.trans q1, .inl q2⟩
      have hb : b < w.heap.size := (Array.getElem?_eq_some_iff.1 q5).1
      have hFb : F0 b := ⟨hb, fun i _ => q3 i⟩
      refine ⟨b, f', t, h3.trans q1, .inr ⟨q2, fun i e => ?_, fun o ho ht hL => ?_, vs, T, (hkeep.block b hFb).trans q5, q6⟩⟩
      · rcases pre i b e with ⟨i₁, e1, _⟩ | ⟨e1, _⟩
        · obtain ⟨X, hX⟩ := hR₁.has e1
          have := (hR₁.blk i₁ b X e1 hX).1
          rw [hE.F] at this; exact this hFb
        · exact q3 i e1
      · rcases hnewL b o hL with q | q
        · exact q4 o ho ht q
        · exact q hFb
    · obtain ⟨b, f', t, q1, q2 | ⟨q2, q3, q4, q5⟩⟩ := hR₁.own _ h4
      · exact ⟨b, f', t, h3.trans q1, .inl q2⟩
      rw [hE.F] at q2
      exact ⟨b, f', t, h3.trans q1, .inr ⟨hF b q2, hpreN b q3 q2, q4, q5⟩⟩
  · intro k k' b f1 t1 f2 t2 hk hk' ht ht' l1 l2
    rcases hown k hk with ⟨a1, a2, a3⟩ | ⟨a1, a2, a3, a4⟩ <;> rcases hown k' hk' with ⟨c1, c2, c3⟩ | ⟨c1, c2, c3, c4⟩
    · rw [a3] at ht; rw [c3] at ht'; exact hR.ownd k k' b f1 t1 f2 t2 a2 c2 ht ht' l1 l2
    · exfalso
      rw [a3] at ht
      obtain ⟨b', f', t, q1, q2 | ⟨q2, q3, q4, vs, T, q5, q6⟩⟩ := hR.own k a2
      · rw [ht] at q1; cases q1; omega
      rw [ht] at q1; cases q1
      have hb : b < w.heap.size := (Array.getElem?_eq_some_iff.1 q5).1
      obtain ⟨b', f', t, p1, p2 | ⟨p2, _⟩⟩ := hR₁.own _ c4
      · rw [← c3, ht'] at p1; cases p1; omega
      rw [← c3, ht'] at p1; cases p1
      rw [hE.F] at p2
      exact p2 ⟨hb, fun i _ => q3 i⟩
    · exfalso
      rw [c3] at ht'
      obtain ⟨b', f', t, q1, q2 | ⟨q2, q3, q4, vs, T, q5, q6⟩⟩ := hR.own k' c2
      · rw [ht'] at q1; cases q1; omega
      rw [ht'] at q1; cases q1
      have hb : b < w.heap.size := (Array.getElem?_eq_some_iff.1 q5).1
      obtain ⟨b', f', t, p1, p2 | ⟨p2, _⟩⟩ := hR₁.own _ a4
      · rw [← a3, ht] at p1; cases p1; omega
      rw [← a3, ht] at p1; cases p1
      rw [hE.F] at p2
      exact p2 ⟨hb, fun i _ => q3 i⟩
    · rw [a3] at ht; rw [c3] at ht'
      have := hR₁.ownd _ _ b f1 t1 f2 t2 a4 c4 ht ht' l1 l2
      omega
  · have hb := hR.below
    refine hb.trans ⟨hkeep.os, hkeep.tape, hkeep.output, hkeep.size, fun k hk => hkeep.block k ⟨hR.base k hk, fun i _ e => ?_⟩⟩
    obtain ⟨X, hX⟩ := hR.has e
    exact (hR.blk i k X e hX).1 hk
  · intro k hk
    exact Nat.lt_of_lt_of_le (hR.base k hk) hkeep.size

end Go.Ab
