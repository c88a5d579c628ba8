/- A PROGRAM IS RUN ON THE ABSTRACT STATE; what comes of it holds of the model. -/
import Derived.Test.YtkeipljdhcbfoaaGreatAbCode
namespace Go.Ab
open Go Go.RowKit

def put : List (Nat × Blk) → Nat → Blk → List (Nat × Blk)
  | [], _, _ => []
  | p :: l, i, Y => bif Nat.beq i p.1 then (p.1, Y) :: l else p :: put l i Y

def puts (H : List (Nat × Blk)) : List (Nat × Blk × Blk) → List (Nat × Blk)
  | [] => H
  | p :: l => put (puts H l) p.1 p.2.2

theorem beq_ne {i j : Nat} (h : i ≠ j) : Nat.beq i j = false := by
  cases hb : Nat.beq i j with
  | false => rfl
  | true => exact absurd (Nat.eq_of_beq_eq_true hb) h

theorem look_put : ∀ (H : List (Nat × Blk)) (i j : Nat) (Y : Blk), look (put H i Y) j = if j = i ∧ (look H i).isSome = true then some Y else look H j
  | [], i, j, Y => by simp [put, look]
  | p :: H, i, j, Y => by
    simp only [put]
    cases hi : Nat.beq i p.1 with
    | true =>
      have := Nat.eq_of_beq_eq_true hi
      subst this
      simp only [cond_true, look, hi]
      by_cases hj : j = p.1
      · subst hj; simp
      · have : Nat.beq j p.1 = false := beq_ne hj
        simp [this, hj]
    | false =>
      have hne : i ≠ p.1 := by rintro rfl; simp at hi
      simp only [cond_false, look, hi]
      rw [look_put H i j Y]
      by_cases hj : j = p.1
      · subst hj
        have hb : Nat.beq p.1 p.1 = true := by simp
        simp only [hb, cond_true]
        rw [if_neg (fun e => hne e.1.symm)]
      · have hb : Nat.beq j p.1 = false := beq_ne hj
        simp only [hb, cond_false]

def over (σ₀ : ASt) (s : LSt) : ASt := ⟨fun i => match look s.H i with | some X => some X | none => σ₀.H i, fun k => s.own.any (Nat.beq k) || σ₀.own k, s.ns⟩

/-- the new stamps -/
def fresh (ns : Nat) : Nat → List Nat
  | 0 => []
  | n + 1 => (ns + n) :: fresh ns n

theorem mem_fresh {ns k : Nat} : ∀ n, k ∈ fresh ns n ↔ ns ≤ k ∧ k < ns + n
  | 0 => by simp [fresh]
  | n + 1 => by simp only [fresh, List.mem_cons, mem_fresh n]; omega

def LSt.app (s : LSt) (la : LA) : LSt :=
  ⟨la.al ++ puts s.H la.wr, max (max s.nx la.hi) (la.al.foldl (fun m p => max m (p.1 + 1)) 0), fresh s.ns la.new ++ s.own.filter (fun k => !(la.use.any (Nat.beq k))), s.ns + la.new, la.wr.map (·.1) ++ s.dirty⟩

/-- the abstract operation is one that the state can have -/
structure LSt.fit (s : LSt) (la : LA) : Prop where
  rd : ∀ i X, (i, X) ∈ la.rd → look s.H i = some X
  wr : ∀ i X Y, (i, X, Y) ∈ la.wr → look s.H i = some X
  al : ∀ i X, (i, X) ∈ la.al → s.nx ≤ i
  lo : la.lo < la.hi → s.nx ≤ la.lo
  use : ∀ k, k ∈ la.use → k ∈ s.own
  ns : la.use ≠ [] ∨ la.new ≠ 0 ∨ la.st = true → la.ns = s.ns

/-- a state that lies over a frame -/
structure LSt.On (s : LSt) (σ₀ : ASt) (b : Nat) : Prop where
  H : ∀ i X, look s.H i = some X → i < s.nx
  own : ∀ k, k ∈ s.own → b ≤ k ∧ k < s.ns
  fr : ∀ k, σ₀.own k = true → k < b
  b : b ≤ s.ns

theorem any_beq {l : List Nat} {k : Nat} : l.any (Nat.beq k) = true ↔ k ∈ l := by
  rw [List.any_eq_true]
  constructor
  · rintro ⟨x, hx, h⟩; have := Nat.eq_of_beq_eq_true h; subst this; exact hx
  · intro h; exact ⟨k, h, by simp⟩

theorem le_foldl_max : ∀ (l : List (Nat × Blk)) (m i : Nat) (X : Blk), m ≤ l.foldl (fun m p => max m (p.1 + 1)) m ∧ ((i, X) ∈ l → i < l.foldl (fun m p => max m (p.1 + 1)) m)
  | [], m, i, X => by simp
  | p :: l, m, i, X => by
    simp only [List.foldl_cons, List.mem_cons]
    obtain ⟨h1, h2⟩ := le_foldl_max l (max m (p.1 + 1)) i X
    refine ⟨by omega, ?_⟩
    rintro (rfl | h)
    · have h1' : max m (i + 1) ≤ List.foldl (fun m p => max m (p.fst + 1)) (max m (i + 1)) l := h1
      show i < List.foldl (fun m p => max m (p.fst + 1)) (max m (i + 1)) l
      omega
    · exact h2 h

theorem LSt.app_nx (s : LSt) (la : LA) : s.nx ≤ (s.app la).nx ∧ la.hi ≤ (s.app la).nx ∧ ∀ i X, (i, X) ∈ la.al → i < (s.app la).nx := by
  simp only [LSt.app]
  refine ⟨by omega, by omega, fun i X h => ?_⟩
  have := (le_foldl_max la.al 0 i X).2 h
  omega

theorem LSt.can {s : LSt} {la : LA} (h : s.fit la) {σ₀ : ASt} {b : Nat} (ho : s.On σ₀ b) (hfree : ∀ i, s.nx ≤ i → i < (s.app la).nx → σ₀.H i = none) : la.can (over σ₀ s) := by
  have hn : ∀ i, s.nx ≤ i → i < (s.app la).nx → (over σ₀ s).H i = none := by
    intro i h1 h2
    show (match look s.H i with | some X => some X | none => σ₀.H i) = none
    cases hl : look s.H i with
    | some X => have := ho.H i X hl; omega
    | none => exact hfree i h1 h2
  obtain ⟨n1, n2, n3⟩ := s.app_nx la
  refine ⟨fun i X hX => ?_, fun i X Y hX => ?_, fun i X hX => hn i (h.al i X hX) (n3 i X hX), fun k hk => ?_, h.ns, fun i h1 h2 => hn i (Nat.le_trans (h.lo (by omega)) h1) (by omega)⟩
  · show (match look s.H i with | some X => some X | none => σ₀.H i) = some X
    rw [h.rd i X hX]
  · show (match look s.H i with | some X => some X | none => σ₀.H i) = some X
    rw [h.wr i X Y hX]
  · show (s.own.any (Nat.beq k) || σ₀.own k) = true
    rw [any_beq.2 (h.use k hk)]; rfl

theorem look_puts {H : List (Nat × Blk)} : ∀ (l : List (Nat × Blk × Blk)) (i : Nat), (∀ p ∈ l, (look H p.1).isSome = true) → (∀ i, (look H i).isSome = (look (puts H l) i).isSome) ∧
    (match look (puts H l) i with | some X => some X | none => none) = (if (look H i).isSome = true then ups (look H) (l.map fun p => (p.1, p.2.2)) i else none)
  | [], i, _ => by
    refine ⟨fun _ => rfl, ?_⟩
    simp only [puts, List.map_nil, ups]
    cases look H i <;> rfl
  | p :: l, i, h => by
    have ih := fun i => look_puts l i (fun q hq => h q (by simp [hq]))
    have hp := h p (by simp)
    have hs : ∀ j, (look H j).isSome = (look (puts H (p :: l)) j).isSome := by
      intro j
      simp only [puts, look_put]
      have hj := (ih j).1 j
      by_cases e : j = p.1 ∧ (look (puts H l) p.1).isSome = true
      · rw [if_pos e, e.1, hp]; rfl
      · rw [if_neg e]; exact hj
    refine ⟨hs, ?_⟩
    simp only [puts, look_put, List.map_cons, ups]
    have hpl : (look (puts H l) p.1).isSome = true := by rw [← (ih p.1).1 p.1]; exact hp
    by_cases e : i = p.1
    · subst e
      rw [if_pos ⟨rfl, hpl⟩, if_pos hp, up_same]
    · rw [if_neg (fun q => e q.1), up_ne _ _ e]
      exact (ih i).2

theorem look_append : ∀ (l m : List (Nat × Blk)) (i : Nat), look (l ++ m) i = match look l i with | some X => some X | none => look m i
  | [], m, i => by simp [look]
  | p :: l, m, i => by
    simp only [List.cons_append, look]
    cases Nat.beq i p.1 with
    | true => rfl
    | false => simp only [cond_false]; exact look_append l m i

theorem look_ups : ∀ (l : List (Nat × Blk)) (H : Nat → Option Blk) (i : Nat), ups H l i = match look l i with | some X => some X | none => H i
  | [], H, i => by simp [look, ups]
  | p :: l, H, i => by
    simp only [look, ups]
    by_cases e : i = p.1
    · subst e; rw [up_same]; simp
    · rw [up_ne _ _ e]
      have : Nat.beq i p.1 = false := beq_ne e
      simp only [this, cond_false]
      exact look_ups l H i

theorem over_app {s : LSt} {la : LA} (h : s.fit la) {σ₀ : ASt} {b : Nat} (ho : s.On σ₀ b) : la.app (over σ₀ s) = over σ₀ (s.app la) := by
  have hH : (la.app (over σ₀ s)).H = (over σ₀ (s.app la)).H := by
    funext i
    show ups (ups (over σ₀ s).H (la.wr.map fun p => (p.1, p.2.2))) la.al i = match look (la.al ++ puts s.H la.wr) i with | some X => some X | none => σ₀.H i
    rw [look_ups, look_append]
    cases look la.al i with
    | some X => rfl
    | none =>
      simp only
      have hpw : ∀ p ∈ la.wr, (look s.H p.1).isSome = true := fun p hp => by rw [h.wr p.1 p.2.1 p.2.2 hp]; rfl
      obtain ⟨_, hp2⟩ := look_puts la.wr i hpw
      have hp1 := (look_puts la.wr i hpw).1 i
      have hu : ∀ (l : List (Nat × Blk × Blk)), (∀ p ∈ l, (look s.H p.1).isSome = true) → ups (over σ₀ s).H (l.map fun p => (p.1, p.2.2)) i = if (look s.H i).isSome = true then ups (look s.H) (l.map fun p => (p.1, p.2.2)) i else σ₀.H i := by
        intro l hl
        induction l with
        | nil =>
          simp only [List.map_nil, ups, over]
          cases look s.H i <;> rfl
        | cons p l ih =>
          simp only [List.map_cons, ups]
          by_cases e : i = p.1
          · subst e; rw [up_same, up_same, if_pos (hl p (by simp))]
          · rw [up_ne _ _ e, up_ne _ _ e]; exact ih (fun q hq => hl q (by simp [hq]))
      rw [hu la.wr hpw]
      cases hl : look s.H i with
      | none =>
        rw [hl] at hp1
        simp only [Option.isSome_none] at hp1
        have : look (puts s.H la.wr) i = none := by
          cases hq : look (puts s.H la.wr) i with
          | none => rfl
          | some X => rw [hq] at hp1; cases hp1
        rw [this]; rfl
      | some X =>
        rw [hl] at hp2 hp1
        simp only [Option.isSome_some, if_true] at hp2 hp1 ⊢
        rw [← hp2]
        cases hq : look (puts s.H la.wr) i with
        | none => rw [hq] at hp1; cases hp1
        | some Y => rfl
  have hO : (la.app (over σ₀ s)).own = (over σ₀ (s.app la)).own := by
    funext k
    show (if s.ns ≤ k ∧ k < s.ns + la.new then true else if k ∈ la.use then false else (s.own.any (Nat.beq k) || σ₀.own k)) = ((fresh s.ns la.new ++ s.own.filter (fun k => !(la.use.any (Nat.beq k)))).any (Nat.beq k) || σ₀.own k)
    rw [List.any_append]
    by_cases hk : s.ns ≤ k ∧ k < s.ns + la.new
    · rw [if_pos hk, any_beq.2 ((mem_fresh la.new).2 hk)]; rfl
    · rw [if_neg hk]
      have h1 : (fresh s.ns la.new).any (Nat.beq k) = false := by
        cases hf : (fresh s.ns la.new).any (Nat.beq k) with
        | false => rfl
        | true => exact absurd ((mem_fresh la.new).1 (any_beq.1 hf)) hk
      rw [h1, Bool.false_or]
      by_cases hu : k ∈ la.use
      · rw [if_pos hu]
        have h2 : (s.own.filter (fun k => !(la.use.any (Nat.beq k)))).any (Nat.beq k) = false := by
          cases hf : (s.own.filter (fun k => !(la.use.any (Nat.beq k)))).any (Nat.beq k) with
          | false => rfl
          | true =>
            have := any_beq.1 hf
            rw [List.mem_filter] at this
            rw [any_beq.2 hu] at this
            simp at this
        have h3 : σ₀.own k = false := by
          cases hf : σ₀.own k with
          | false => rfl
          | true =>
            have := ho.fr k hf
            have := (ho.own k (h.use k hu)).1
            omega
        rw [h2, h3]; rfl
      · rw [if_neg hu]
        congr 1
        rw [Bool.eq_iff_iff, any_beq, any_beq, List.mem_filter]
        constructor
        · intro hm
          refine ⟨hm, ?_⟩
          cases hf : la.use.any (Nat.beq k) with
          | false => rfl
          | true => exact absurd (any_beq.1 hf) hu
        · exact fun hm => hm.1
  calc la.app (over σ₀ s) = ⟨(la.app (over σ₀ s)).H, (la.app (over σ₀ s)).own, (la.app (over σ₀ s)).ns⟩ := rfl
    _ = ⟨(over σ₀ (s.app la)).H, (over σ₀ (s.app la)).own, (over σ₀ (s.app la)).ns⟩ := by rw [hH, hO]; rfl
    _ = over σ₀ (s.app la) := rfl

theorem On.app {s : LSt} {la : LA} (h : s.fit la) {σ₀ : ASt} {b : Nat} (ho : s.On σ₀ b) : (s.app la).On σ₀ b := by
  obtain ⟨n1, n2, n3⟩ := s.app_nx la
  refine ⟨fun i X hX => ?_, fun k hk => ?_, ho.fr, Nat.le_trans ho.b (Nat.le_add_right _ _)⟩
  · have hX' : look (la.al ++ puts s.H la.wr) i = some X := hX
    rw [look_append] at hX'
    cases hl : look la.al i with
    | some Y =>
      have mem : ∀ (l : List (Nat × Blk)) (i : Nat) (Y : Blk), look l i = some Y → (i, Y) ∈ l := by
        intro l
        induction l with
        | nil => intro i Y h; cases h
        | cons p l ih =>
          intro i Y h
          simp only [look] at h
          cases hb : Nat.beq i p.1 with
          | true =>
            rw [hb] at h
            have := Nat.eq_of_beq_eq_true hb
            subst this
            simp only [cond_true, Option.some.injEq] at h
            subst h
            simp
          | false => rw [hb] at h; exact List.mem_cons_of_mem _ (ih i Y h)
      exact n3 i Y (mem _ _ _ hl)
    | none =>
      rw [hl] at hX'
      simp only at hX'
      have hpw : ∀ p ∈ la.wr, (look s.H p.1).isSome = true := fun p hp => by rw [h.wr p.1 p.2.1 p.2.2 hp]; rfl
      have hp1 := (look_puts la.wr i hpw).1 i
      rw [hX'] at hp1
      cases hq : look s.H i with
      | none => rw [hq] at hp1; cases hp1
      | some Y => exact Nat.lt_of_lt_of_le (ho.H i Y hq) n1
  · have hk' : k ∈ fresh s.ns la.new ++ s.own.filter (fun k => !(la.use.any (Nat.beq k))) := hk
    have hns : (s.app la).ns = s.ns + la.new := rfl
    have := ho.b
    rcases List.mem_append.1 hk' with h1 | h1
    · have := (mem_fresh la.new).1 h1
      omega
    · have := ho.own k (List.mem_filter.1 h1).1
      omega

end Go.Ab
