/- What the functions come to, by measure: printed by wip/tools/gen.py. -/
import Derived.Test.YtkeipljdhcbfoaaGreatAbQ3
set_option linter.unusedVariables false
set_option linter.unusedSimpArgs false
namespace Go.Proofs.YtkeipljdhcbfoaaGreat
open Go Go.Ab

theorem obind_mk {α β : Type} {x : Option α} {f : α → Option β} {v : α} {r : Option β} (hx : x = some v) (h : f v = r) : (x >>= f) = r := by subst hx; exact h
theorem ifT' {α : Type} {b : Bool} {x y r : α} (hb : b = true) (h : x = r) : (if b = true then x else y) = r := by rw [if_pos hb]; exact h
theorem ifF' {α : Type} {b : Bool} {x y r : α} (hb : b = false) (h : y = r) : (if b = true then x else y) = r := by rw [hb, if_neg (by simp)]; exact h


def e145 (_n : Nat) (p0 : List Int) : Option (List Int) := g145 p0
theorem le145 (n : Nat) {p0 : List Int} {r : List Int} (h : e145 n p0 = some r) : g145 p0 = some r := h

mutual
def e243 : Nat → Tm → Int →  Option (Int)
  | 0, _, _ => none
  | qq + 1, p0, p1 =>
    e243L0 qq p0 (w64 (p1 + 1)) 0
def e243L0 : Nat → Tm → Int → Int →  Option (Int)
  | 0, _, _, _ => none
  | qq + 1, p0, v1, v12 =>
    if decide (v12 < (List.length p0.sub : Int)) = true then
      (gidx p0.sub v12) >>= fun x2 =>
      if decide (v1 > 8192) = true then
        some v1
      else
        (e243 qq x2 v1) >>= fun r5 =>
        e243L0 qq p0 r5 (w64 (v12 + 1))
    else
      some v1
end
theorem lea243_243L0 : ∀ qq : Nat, (∀ (p0 : Tm) (p1 : Int) (r : Int), e243 qq p0 p1 = some r → g243 p0 p1 = some r) ∧ (∀ (p0 : Tm) (v1 : Int) (v12 : Int) (r : Int), e243L0 qq p0 v1 v12 = some r → g243L0 p0 v1 v12 = some r) := by
  intro qq
  induction qq with
  | zero =>
    refine ⟨?_, ?_⟩
    · intro p0 p1 r h
      rw [e243] at h
      cases h
    · intro p0 v1 v12 r h
      rw [e243L0] at h
      cases h
  | succ qq ih =>
    obtain ⟨ihg243, ihg243L0⟩ := ih
    refine ⟨?_, ?_⟩
    · intro p0 p1 r h
      rw [e243] at h
      rw [g243]
      exact (ihg243L0 _ _ _ _ h)
    · intro p0 v1 v12 r h
      rw [e243L0] at h
      rw [g243L0]
      rcases bcases (decide (v12 < (List.length p0.sub : Int))) with h1 | h1
      · replace h := ifT h1 h
        refine ifT' h1 ?_
        obtain ⟨x2, h3, h⟩ := obind h
        refine obind_mk h3 ?_
        rcases bcases (decide (v1 > 8192)) with h4 | h4
        · replace h := ifT h4 h
          refine ifT' h4 ?_
          exact h
        · replace h := ifF h4 h
          refine ifF' h4 ?_
          obtain ⟨r5, h6, h⟩ := obind h
          refine obind_mk (ihg243 _ _ _ h6) ?_
          exact (ihg243L0 _ _ _ _ h)
      · replace h := ifF h1 h
        refine ifF' h1 ?_
        exact h
theorem le243 (qq : Nat) {p0 : Tm} {p1 : Int} {r : Int} (h : e243 qq p0 p1 = some r) : g243 p0 p1 = some r := (lea243_243L0 qq).1 _ _ _ h
theorem le243L0 (qq : Nat) {p0 : Tm} {v1 : Int} {v12 : Int} {r : Int} (h : e243L0 qq p0 v1 v12 = some r) : g243L0 p0 v1 v12 = some r := (lea243_243L0 qq).2 _ _ _ _ h

def e194 (qq : Nat) (p0 : Tm) : Option (Int) :=
  (e243 qq p0 0) >>= fun r1 =>
  some r1
theorem le194 (qq : Nat) {p0 : Tm} {r : Int} (h : e194 qq p0 = some r) : g194 p0 = some r := by
  unfold e194 at h
  unfold g194
  obtain ⟨r1, h2, h⟩ := obind h
  refine obind_mk (le243 qq h2) ?_
  exact h

mutual
def e195 : Nat → Tm → Int →  Option (Int)
  | 0, _, _ => none
  | qq + 1, p0, p1 =>
    if decide (p1 > 128) = true then
      some p1
    else
      e195L0 qq p0 p1 0 p1
def e195L0 : Nat → Tm → Int → Int → Int →  Option (Int)
  | 0, _, _, _, _ => none
  | qq + 1, p0, p1, v15, v5 =>
    if decide (v15 < (List.length p0.sub : Int)) = true then
      (gidx p0.sub v15) >>= fun x3 =>
      (e195 qq x3 (w64 (p1 + 1))) >>= fun r5 =>
      e195L0 qq p0 p1 (w64 (v15 + 1)) (imax v5 r5)
    else
      some v5
end
theorem lea195_195L0 : ∀ qq : Nat, (∀ (p0 : Tm) (p1 : Int) (r : Int), e195 qq p0 p1 = some r → g195 p0 p1 = some r) ∧ (∀ (p0 : Tm) (p1 : Int) (v15 : Int) (v5 : Int) (r : Int), e195L0 qq p0 p1 v15 v5 = some r → g195L0 p0 p1 v15 v5 = some r) := by
  intro qq
  induction qq with
  | zero =>
    refine ⟨?_, ?_⟩
    · intro p0 p1 r h
      rw [e195] at h
      cases h
    · intro p0 p1 v15 v5 r h
      rw [e195L0] at h
      cases h
  | succ qq ih =>
    obtain ⟨ihg195, ihg195L0⟩ := ih
    refine ⟨?_, ?_⟩
    · intro p0 p1 r h
      rw [e195] at h
      rw [g195]
      rcases bcases (decide (p1 > 128)) with h1 | h1
      · replace h := ifT h1 h
        refine ifT' h1 ?_
        exact h
      · replace h := ifF h1 h
        refine ifF' h1 ?_
        exact (ihg195L0 _ _ _ _ _ h)
    · intro p0 p1 v15 v5 r h
      rw [e195L0] at h
      rw [g195L0]
      rcases bcases (decide (v15 < (List.length p0.sub : Int))) with h2 | h2
      · replace h := ifT h2 h
        refine ifT' h2 ?_
        obtain ⟨x3, h4, h⟩ := obind h
        refine obind_mk h4 ?_
        obtain ⟨r5, h6, h⟩ := obind h
        refine obind_mk (ihg195 _ _ _ h6) ?_
        exact (ihg195L0 _ _ _ _ _ h)
      · replace h := ifF h2 h
        refine ifF' h2 ?_
        exact h
theorem le195 (qq : Nat) {p0 : Tm} {p1 : Int} {r : Int} (h : e195 qq p0 p1 = some r) : g195 p0 p1 = some r := (lea195_195L0 qq).1 _ _ _ h
theorem le195L0 (qq : Nat) {p0 : Tm} {p1 : Int} {v15 : Int} {v5 : Int} {r : Int} (h : e195L0 qq p0 p1 v15 v5 = some r) : g195L0 p0 p1 v15 v5 = some r := (lea195_195L0 qq).2 _ _ _ _ _ h

def e143 (qq : Nat) (p0 : Tm) : Option (Int) :=
  (e194 qq p0) >>= fun r1 =>
  if decide (r1 > 8192) = true then
    some 129
  else
    (e195 qq p0 1) >>= fun r4 =>
    some r4
theorem le143 (qq : Nat) {p0 : Tm} {r : Int} (h : e143 qq p0 = some r) : g143 p0 = some r := by
  unfold e143 at h
  unfold g143
  obtain ⟨r1, h2, h⟩ := obind h
  refine obind_mk (le194 qq h2) ?_
  rcases bcases (decide (r1 > 8192)) with h3 | h3
  · replace h := ifT h3 h
    refine ifT' h3 ?_
    exact h
  · replace h := ifF h3 h
    refine ifF' h3 ?_
    obtain ⟨r4, h5, h⟩ := obind h
    refine obind_mk (le195 qq h5) ?_
    exact h

def e196 (qq : Nat) (p0 : Tm) : Option (Bool) :=
  if decide (p0.k < 1) = true then
    some false
  else
    if decide (p0.k > 8) = true then
      some false
    else
      (gidx ([0, 0, 0, 2, 2, 2, 0, 1, 0] : List Int) p0.k) >>= fun x3 =>
      (gidx ([0, 1048576, 7, 0, 0, 0, 1048576, 1048576, 1048576] : List Int) p0.k) >>= fun x5 =>
      if ((List.length p0.sub : Int) == x3) = true then
        if decide (p0.n ≥ 0) = true then
          if decide (p0.n ≤ x5) = true then
            if (p0.k != 7) = true then
              some true
            else
              (gidx p0.sub 0) >>= fun x11 =>
              some (x11.k == 2)
          else
            some false
        else
          some false
      else
        some false
theorem le196 (qq : Nat) {p0 : Tm} {r : Bool} (h : e196 qq p0 = some r) : g196 p0 = some r := by
  unfold e196 at h
  unfold g196
  rcases bcases (decide (p0.k < 1)) with h1 | h1
  · replace h := ifT h1 h
    refine ifT' h1 ?_
    exact h
  · replace h := ifF h1 h
    refine ifF' h1 ?_
    rcases bcases (decide (p0.k > 8)) with h2 | h2
    · replace h := ifT h2 h
      refine ifT' h2 ?_
      exact h
    · replace h := ifF h2 h
      refine ifF' h2 ?_
      obtain ⟨x3, h4, h⟩ := obind h
      refine obind_mk h4 ?_
      obtain ⟨x5, h6, h⟩ := obind h
      refine obind_mk h6 ?_
      rcases bcases ((List.length p0.sub : Int) == x3) with h7 | h7
      · replace h := ifT h7 h
        refine ifT' h7 ?_
        rcases bcases (decide (p0.n ≥ 0)) with h8 | h8
        · replace h := ifT h8 h
          refine ifT' h8 ?_
          rcases bcases (decide (p0.n ≤ x5)) with h9 | h9
          · replace h := ifT h9 h
            refine ifT' h9 ?_
            rcases bcases (p0.k != 7) with h10 | h10
            · replace h := ifT h10 h
              refine ifT' h10 ?_
              exact h
            · replace h := ifF h10 h
              refine ifF' h10 ?_
              obtain ⟨x11, h12, h⟩ := obind h
              refine obind_mk h12 ?_
              exact h
          · replace h := ifF h9 h
            refine ifF' h9 ?_
            exact h
        · replace h := ifF h8 h
          refine ifF' h8 ?_
          exact h
      · replace h := ifF h7 h
        refine ifF' h7 ?_
        exact h

mutual
def e144 : Nat → Tm →  Option (Bool)
  | 0, _ => none
  | qq + 1, p0 =>
    (e196 qq p0) >>= fun r1 =>
    if r1 = true then
      e144L0 qq p0 0
    else
      some false
def e144L0 : Nat → Tm → Int →  Option (Bool)
  | 0, _, _ => none
  | qq + 1, p0, v11 =>
    if decide (v11 < (List.length p0.sub : Int)) = true then
      (gidx p0.sub v11) >>= fun x5 =>
      (e144 qq x5) >>= fun r7 =>
      if r7 = true then
        e144L0 qq p0 (w64 (v11 + 1))
      else
        some false
    else
      some true
end
theorem lea144_144L0 : ∀ qq : Nat, (∀ (p0 : Tm) (r : Bool), e144 qq p0 = some r → g144 p0 = some r) ∧ (∀ (p0 : Tm) (v11 : Int) (r : Bool), e144L0 qq p0 v11 = some r → g144L0 p0 v11 = some r) := by
  intro qq
  induction qq with
  | zero =>
    refine ⟨?_, ?_⟩
    · intro p0 r h
      rw [e144] at h
      cases h
    · intro p0 v11 r h
      rw [e144L0] at h
      cases h
  | succ qq ih =>
    obtain ⟨ihg144, ihg144L0⟩ := ih
    refine ⟨?_, ?_⟩
    · intro p0 r h
      rw [e144] at h
      rw [g144]
      obtain ⟨r1, h2, h⟩ := obind h
      refine obind_mk (le196 qq h2) ?_
      rcases bcases r1 with h3 | h3
      · replace h := ifT h3 h
        refine ifT' h3 ?_
        exact (ihg144L0 _ _ _ h)
      · replace h := ifF h3 h
        refine ifF' h3 ?_
        exact h
    · intro p0 v11 r h
      rw [e144L0] at h
      rw [g144L0]
      rcases bcases (decide (v11 < (List.length p0.sub : Int))) with h4 | h4
      · replace h := ifT h4 h
        refine ifT' h4 ?_
        obtain ⟨x5, h6, h⟩ := obind h
        refine obind_mk h6 ?_
        obtain ⟨r7, h8, h⟩ := obind h
        refine obind_mk (ihg144 _ _ h8) ?_
        rcases bcases r7 with h9 | h9
        · replace h := ifT h9 h
          refine ifT' h9 ?_
          exact (ihg144L0 _ _ _ h)
        · replace h := ifF h9 h
          refine ifF' h9 ?_
          exact h
      · replace h := ifF h4 h
        refine ifF' h4 ?_
        exact h
theorem le144 (qq : Nat) {p0 : Tm} {r : Bool} (h : e144 qq p0 = some r) : g144 p0 = some r := (lea144_144L0 qq).1 _ _ h
theorem le144L0 (qq : Nat) {p0 : Tm} {v11 : Int} {r : Bool} (h : e144L0 qq p0 v11 = some r) : g144L0 p0 v11 = some r := (lea144_144L0 qq).2 _ _ _ h

def e74 (qq : Nat) (p0 : Tm) : Option (Bool) :=
  (e143 qq p0) >>= fun r1 =>
  if decide (r1 ≤ 128) = true then
    (e144 qq p0) >>= fun r4 =>
    some r4
  else
    some false
theorem le74 (qq : Nat) {p0 : Tm} {r : Bool} (h : e74 qq p0 = some r) : g74 p0 = some r := by
  unfold e74 at h
  unfold g74
  obtain ⟨r1, h2, h⟩ := obind h
  refine obind_mk (le143 qq h2) ?_
  rcases bcases (decide (r1 ≤ 128)) with h3 | h3
  · replace h := ifT h3 h
    refine ifT' h3 ?_
    obtain ⟨r4, h5, h⟩ := obind h
    refine obind_mk (le144 qq h5) ?_
    exact h
  · replace h := ifF h3 h
    refine ifF' h3 ?_
    exact h

mutual
def e134 : Nat → Tm →  Option (Tm)
  | 0, _ => none
  | qq + 1, p0 =>
    e134L0 qq p0 0 []
def e134L0 : Nat → Tm → Int → (List Tm) →  Option (Tm)
  | 0, _, _, _ => none
  | qq + 1, p0, v14, vb1_2 =>
    if decide (v14 < (List.length p0.sub : Int)) = true then
      (gidx p0.sub v14) >>= fun x2 =>
      (e134 qq x2) >>= fun r4 =>
      (gapp 40 vb1_2 [r4]) >>= fun l6 =>
      e134L0 qq p0 (w64 (v14 + 1)) l6
    else
      some (Tm.mk p0.k p0.n vb1_2)
end
theorem lea134_134L0 : ∀ qq : Nat, (∀ (p0 : Tm) (r : Tm), e134 qq p0 = some r → g134 p0 = some r) ∧ (∀ (p0 : Tm) (v14 : Int) (vb1_2 : List Tm) (r : Tm), e134L0 qq p0 v14 vb1_2 = some r → g134L0 p0 v14 vb1_2 = some r) := by
  intro qq
  induction qq with
  | zero =>
    refine ⟨?_, ?_⟩
    · intro p0 r h
      rw [e134] at h
      cases h
    · intro p0 v14 vb1_2 r h
      rw [e134L0] at h
      cases h
  | succ qq ih =>
    obtain ⟨ihg134, ihg134L0⟩ := ih
    refine ⟨?_, ?_⟩
    · intro p0 r h
      rw [e134] at h
      rw [g134]
      exact (ihg134L0 _ _ _ _ h)
    · intro p0 v14 vb1_2 r h
      rw [e134L0] at h
      rw [g134L0]
      rcases bcases (decide (v14 < (List.length p0.sub : Int))) with h1 | h1
      · replace h := ifT h1 h
        refine ifT' h1 ?_
        obtain ⟨x2, h3, h⟩ := obind h
        refine obind_mk h3 ?_
        obtain ⟨r4, h5, h⟩ := obind h
        refine obind_mk (ihg134 _ _ h5) ?_
        obtain ⟨l6, h7, h⟩ := obind h
        refine obind_mk h7 ?_
        exact (ihg134L0 _ _ _ _ h)
      · replace h := ifF h1 h
        refine ifF' h1 ?_
        exact h
theorem le134 (qq : Nat) {p0 : Tm} {r : Tm} (h : e134 qq p0 = some r) : g134 p0 = some r := (lea134_134L0 qq).1 _ _ h
theorem le134L0 (qq : Nat) {p0 : Tm} {v14 : Int} {vb1_2 : List Tm} {r : Tm} (h : e134L0 qq p0 v14 vb1_2 = some r) : g134L0 p0 v14 vb1_2 = some r := (lea134_134L0 qq).2 _ _ _ _ h

def e72 (qq : Nat) (p0 : Tm) : Option (Tm) :=
  (e74 qq p0) >>= fun r1 =>
  if r1 = true then
    (e134 qq p0) >>= fun r4 =>
    some r4
  else
    some (Tm.mk 0 0 [])
theorem le72 (qq : Nat) {p0 : Tm} {r : Tm} (h : e72 qq p0 = some r) : g72 p0 = some r := by
  unfold e72 at h
  unfold g72
  obtain ⟨r1, h2, h⟩ := obind h
  refine obind_mk (le74 qq h2) ?_
  rcases bcases r1 with h3 | h3
  · replace h := ifT h3 h
    refine ifT' h3 ?_
    obtain ⟨r4, h5, h⟩ := obind h
    refine obind_mk (le134 qq h5) ?_
    exact h
  · replace h := ifF h3 h
    refine ifF' h3 ?_
    exact h

def e76L0 : Nat → (List Ent) → (List Ent) → Int →  Option (List Ent)
  | 0, _, _, _ => none
  | qq + 1, p0, v3, v8 =>
    if decide (v8 < (List.length p0 : Int)) = true then
      (gidx p0 v8) >>= fun x2 =>
      (e72 qq x2.type) >>= fun r4 =>
      (e72 qq x2.body) >>= fun r6 =>
      (e145 qq x2.cons) >>= fun r8 =>
      (e145 qq x2.fields) >>= fun r10 =>
      (gapp 192 v3 [(Ent.mk x2.kind x2.name r4 r6 x2.fam x2.place x2.pars x2.inds x2.level r8 r10)]) >>= fun l12 =>
      e76L0 qq p0 l12 (w64 (v8 + 1))
    else
      some v3
theorem lea76L0 : ∀ qq : Nat, (∀ (p0 : List Ent) (v3 : List Ent) (v8 : Int) (r : List Ent), e76L0 qq p0 v3 v8 = some r → g76L0 p0 v3 v8 = some r) := by
  intro qq
  induction qq with
  | zero =>
      intro p0 v3 v8 r h
      rw [e76L0] at h
      cases h
  | succ qq ihg76L0 =>
      intro p0 v3 v8 r h
      rw [e76L0] at h
      rw [g76L0]
      rcases bcases (decide (v8 < (List.length p0 : Int))) with h1 | h1
      · replace h := ifT h1 h
        refine ifT' h1 ?_
        obtain ⟨x2, h3, h⟩ := obind h
        refine obind_mk h3 ?_
        obtain ⟨r4, h5, h⟩ := obind h
        refine obind_mk (le72 qq h5) ?_
        obtain ⟨r6, h7, h⟩ := obind h
        refine obind_mk (le72 qq h7) ?_
        obtain ⟨r8, h9, h⟩ := obind h
        refine obind_mk (le145 qq h9) ?_
        obtain ⟨r10, h11, h⟩ := obind h
        refine obind_mk (le145 qq h11) ?_
        obtain ⟨l12, h13, h⟩ := obind h
        refine obind_mk h13 ?_
        exact (ihg76L0 _ _ _ _ h)
      · replace h := ifF h1 h
        refine ifF' h1 ?_
        exact h
theorem le76L0 (qq : Nat) {p0 : List Ent} {v3 : List Ent} {v8 : Int} {r : List Ent} (h : e76L0 qq p0 v3 v8 = some r) : g76L0 p0 v3 v8 = some r := (lea76L0 qq) _ _ _ _ h
def e76 (qq : Nat) (p0 : List Ent) : Option (List Ent) :=
  e76L0 qq p0 [] 0
theorem le76 (qq : Nat) {p0 : List Ent} {r : List Ent} (h : e76 qq p0 = some r) : g76 p0 = some r := by
  unfold e76 at h
  unfold g76
  exact (le76L0 qq h)

def e173L0 : Nat → (List Ent) → (List ByteArray) → Int →  Option (List ByteArray)
  | 0, _, _, _ => none
  | qq + 1, p0, v3, v8 =>
    if decide (v8 < (List.length p0 : Int)) = true then
      (gidx p0 v8) >>= fun x2 =>
      (gapp 16 v3 [x2.name]) >>= fun l4 =>
      e173L0 qq p0 l4 (w64 (v8 + 1))
    else
      some v3
theorem lea173L0 : ∀ qq : Nat, (∀ (p0 : List Ent) (v3 : List ByteArray) (v8 : Int) (r : List ByteArray), e173L0 qq p0 v3 v8 = some r → g173L0 p0 v3 v8 = some r) := by
  intro qq
  induction qq with
  | zero =>
      intro p0 v3 v8 r h
      rw [e173L0] at h
      cases h
  | succ qq ihg173L0 =>
      intro p0 v3 v8 r h
      rw [e173L0] at h
      rw [g173L0]
      rcases bcases (decide (v8 < (List.length p0 : Int))) with h1 | h1
      · replace h := ifT h1 h
        refine ifT' h1 ?_
        obtain ⟨x2, h3, h⟩ := obind h
        refine obind_mk h3 ?_
        obtain ⟨l4, h5, h⟩ := obind h
        refine obind_mk h5 ?_
        exact (ihg173L0 _ _ _ _ h)
      · replace h := ifF h1 h
        refine ifF' h1 ?_
        exact h
theorem le173L0 (qq : Nat) {p0 : List Ent} {v3 : List ByteArray} {v8 : Int} {r : List ByteArray} (h : e173L0 qq p0 v3 v8 = some r) : g173L0 p0 v3 v8 = some r := (lea173L0 qq) _ _ _ _ h
def e173 (qq : Nat) (p0 : List Ent) : Option (List ByteArray) :=
  e173L0 qq p0 [] 0
theorem le173 (qq : Nat) {p0 : List Ent} {r : List ByteArray} (h : e173 qq p0 = some r) : g173 p0 = some r := by
  unfold e173 at h
  unfold g173
  exact (le173L0 qq h)

def e273 (qq : Nat) (p0 : Int) : Option (Bool) :=
  if decide (p0 ≥ 0) = true then
    if decide (p0 ≤ 1114111) = true then
      if decide (p0 < 55296) = true then
        some true
      else
        some (decide (p0 > 57343))
    else
      some false
  else
    some false
theorem le273 (qq : Nat) {p0 : Int} {r : Bool} (h : e273 qq p0 = some r) : g273 p0 = some r := by
  unfold e273 at h
  unfold g273
  rcases bcases (decide (p0 ≥ 0)) with h1 | h1
  · replace h := ifT h1 h
    refine ifT' h1 ?_
    rcases bcases (decide (p0 ≤ 1114111)) with h2 | h2
    · replace h := ifT h2 h
      refine ifT' h2 ?_
      rcases bcases (decide (p0 < 55296)) with h3 | h3
      · replace h := ifT h3 h
        refine ifT' h3 ?_
        exact h
      · replace h := ifF h3 h
        refine ifF' h3 ?_
        exact h
    · replace h := ifF h2 h
      refine ifF' h2 ?_
      exact h
  · replace h := ifF h1 h
    refine ifF' h1 ?_
    exact h

def e274 (qq : Nat) (p0 : Int) : Option (Bool) :=
  none
theorem le274 (qq : Nat) {p0 : Int} {r : Bool} (h : e274 qq p0 = some r) : g274 p0 = some r := by
  unfold e274 at h
  unfold g274
  cases h

def e251 (qq : Nat) (p0 : Int) : Option (Bool) :=
  if decide (p0 < 128) = true then
    if decide (p0 ≥ 97) = true then
      if decide (p0 ≤ 122) = true then
        some true
      else
        if decide (p0 ≥ 65) = true then
          some (decide (p0 ≤ 90))
        else
          some false
    else
      if decide (p0 ≥ 65) = true then
        some (decide (p0 ≤ 90))
      else
        some false
  else
    (e273 qq p0) >>= fun r6 =>
    if r6 = true then
      (e274 qq p0) >>= fun r9 =>
      if r9 = true then
        some false
      else
        if (p0 != 160) = true then
          if decide (p0 < 8192) = true then
            some true
          else
            some (decide (p0 > 8303))
        else
          some false
    else
      some false
theorem le251 (qq : Nat) {p0 : Int} {r : Bool} (h : e251 qq p0 = some r) : g251 p0 = some r := by
  unfold e251 at h
  unfold g251
  rcases bcases (decide (p0 < 128)) with h1 | h1
  · replace h := ifT h1 h
    refine ifT' h1 ?_
    rcases bcases (decide (p0 ≥ 97)) with h2 | h2
    · replace h := ifT h2 h
      refine ifT' h2 ?_
      rcases bcases (decide (p0 ≤ 122)) with h3 | h3
      · replace h := ifT h3 h
        refine ifT' h3 ?_
        exact h
      · replace h := ifF h3 h
        refine ifF' h3 ?_
        rcases bcases (decide (p0 ≥ 65)) with h4 | h4
        · replace h := ifT h4 h
          refine ifT' h4 ?_
          exact h
        · replace h := ifF h4 h
          refine ifF' h4 ?_
          exact h
    · replace h := ifF h2 h
      refine ifF' h2 ?_
      rcases bcases (decide (p0 ≥ 65)) with h5 | h5
      · replace h := ifT h5 h
        refine ifT' h5 ?_
        exact h
      · replace h := ifF h5 h
        refine ifF' h5 ?_
        exact h
  · replace h := ifF h1 h
    refine ifF' h1 ?_
    obtain ⟨r6, h7, h⟩ := obind h
    refine obind_mk (le273 qq h7) ?_
    rcases bcases r6 with h8 | h8
    · replace h := ifT h8 h
      refine ifT' h8 ?_
      obtain ⟨r9, h10, h⟩ := obind h
      refine obind_mk (le274 qq h10) ?_
      rcases bcases r9 with h11 | h11
      · replace h := ifT h11 h
        refine ifT' h11 ?_
        exact h
      · replace h := ifF h11 h
        refine ifF' h11 ?_
        rcases bcases (p0 != 160) with h12 | h12
        · replace h := ifT h12 h
          refine ifT' h12 ?_
          rcases bcases (decide (p0 < 8192)) with h13 | h13
          · replace h := ifT h13 h
            refine ifT' h13 ?_
            exact h
          · replace h := ifF h13 h
            refine ifF' h13 ?_
            exact h
        · replace h := ifF h12 h
          refine ifF' h12 ?_
          exact h
    · replace h := ifF h8 h
      refine ifF' h8 ?_
      exact h

def e272 (qq : Nat) (p0 : Int) : Option (Bool) :=
  none
theorem le272 (qq : Nat) {p0 : Int} {r : Bool} (h : e272 qq p0 = some r) : g272 p0 = some r := by
  unfold e272 at h
  unfold g272
  cases h

def e250 (qq : Nat) (p0 : Int) : Option (Bool) :=
  (e251 qq p0) >>= fun r1 =>
  if r1 = true then
    some true
  else
    (e272 qq p0) >>= fun r4 =>
    if r4 = true then
      some true
    else
      if (p0 == 95) = true then
        some true
      else
        some (p0 == 39)
theorem le250 (qq : Nat) {p0 : Int} {r : Bool} (h : e250 qq p0 = some r) : g250 p0 = some r := by
  unfold e250 at h
  unfold g250
  obtain ⟨r1, h2, h⟩ := obind h
  refine obind_mk (le251 qq h2) ?_
  rcases bcases r1 with h3 | h3
  · replace h := ifT h3 h
    refine ifT' h3 ?_
    exact h
  · replace h := ifF h3 h
    refine ifF' h3 ?_
    obtain ⟨r4, h5, h⟩ := obind h
    refine obind_mk (le272 qq h5) ?_
    rcases bcases r4 with h6 | h6
    · replace h := ifT h6 h
      refine ifT' h6 ?_
      exact h
    · replace h := ifF h6 h
      refine ifF' h6 ?_
      rcases bcases (p0 == 95) with h7 | h7
      · replace h := ifT h7 h
        refine ifT' h7 ?_
        exact h
      · replace h := ifF h7 h
        refine ifF' h7 ?_
        exact h

def e281 (qq : Nat) (p0 : U8) : Option (Int × Int) :=
  if decide (p0 < 128) = true then
    some (1, (w64 (p0)))
  else
    if decide (p0 ≥ 192) = true then
      if decide (p0 < 224) = true then
        some (2, (w64 ((IntKind.u8.wrap ((BitVec.ofInt (IntKind.bits .u8) p0 &&& BitVec.ofInt (IntKind.bits .u8) 31).toNat : Nat)))))
      else
        if decide (p0 ≥ 224) = true then
          if decide (p0 < 240) = true then
            some (3, (w64 ((IntKind.u8.wrap ((BitVec.ofInt (IntKind.bits .u8) p0 &&& BitVec.ofInt (IntKind.bits .u8) 15).toNat : Nat)))))
          else
            if decide (p0 ≥ 240) = true then
              if decide (p0 < 248) = true then
                some (4, (w64 ((IntKind.u8.wrap ((BitVec.ofInt (IntKind.bits .u8) p0 &&& BitVec.ofInt (IntKind.bits .u8) 7).toNat : Nat)))))
              else
                some (0, 0)
            else
              some (0, 0)
        else
          if decide (p0 ≥ 240) = true then
            if decide (p0 < 248) = true then
              some (4, (w64 ((IntKind.u8.wrap ((BitVec.ofInt (IntKind.bits .u8) p0 &&& BitVec.ofInt (IntKind.bits .u8) 7).toNat : Nat)))))
            else
              some (0, 0)
          else
            some (0, 0)
    else
      if decide (p0 ≥ 224) = true then
        if decide (p0 < 240) = true then
          some (3, (w64 ((IntKind.u8.wrap ((BitVec.ofInt (IntKind.bits .u8) p0 &&& BitVec.ofInt (IntKind.bits .u8) 15).toNat : Nat)))))
        else
          if decide (p0 ≥ 240) = true then
            if decide (p0 < 248) = true then
              some (4, (w64 ((IntKind.u8.wrap ((BitVec.ofInt (IntKind.bits .u8) p0 &&& BitVec.ofInt (IntKind.bits .u8) 7).toNat : Nat)))))
            else
              some (0, 0)
          else
            some (0, 0)
      else
        if decide (p0 ≥ 240) = true then
          if decide (p0 < 248) = true then
            some (4, (w64 ((IntKind.u8.wrap ((BitVec.ofInt (IntKind.bits .u8) p0 &&& BitVec.ofInt (IntKind.bits .u8) 7).toNat : Nat)))))
          else
            some (0, 0)
        else
          some (0, 0)
theorem le281 (qq : Nat) {p0 : U8} {r : Int × Int} (h : e281 qq p0 = some r) : g281 p0 = some r := by
  unfold e281 at h
  unfold g281
  rcases bcases (decide (p0 < 128)) with h1 | h1
  · replace h := ifT h1 h
    refine ifT' h1 ?_
    exact h
  · replace h := ifF h1 h
    refine ifF' h1 ?_
    rcases bcases (decide (p0 ≥ 192)) with h2 | h2
    · replace h := ifT h2 h
      refine ifT' h2 ?_
      rcases bcases (decide (p0 < 224)) with h3 | h3
      · replace h := ifT h3 h
        refine ifT' h3 ?_
        exact h
      · replace h := ifF h3 h
        refine ifF' h3 ?_
        rcases bcases (decide (p0 ≥ 224)) with h4 | h4
        · replace h := ifT h4 h
          refine ifT' h4 ?_
          rcases bcases (decide (p0 < 240)) with h5 | h5
          · replace h := ifT h5 h
            refine ifT' h5 ?_
            exact h
          · replace h := ifF h5 h
            refine ifF' h5 ?_
            rcases bcases (decide (p0 ≥ 240)) with h6 | h6
            · replace h := ifT h6 h
              refine ifT' h6 ?_
              rcases bcases (decide (p0 < 248)) with h7 | h7
              · replace h := ifT h7 h
                refine ifT' h7 ?_
                exact h
              · replace h := ifF h7 h
                refine ifF' h7 ?_
                exact h
            · replace h := ifF h6 h
              refine ifF' h6 ?_
              exact h
        · replace h := ifF h4 h
          refine ifF' h4 ?_
          rcases bcases (decide (p0 ≥ 240)) with h8 | h8
          · replace h := ifT h8 h
            refine ifT' h8 ?_
            rcases bcases (decide (p0 < 248)) with h9 | h9
            · replace h := ifT h9 h
              refine ifT' h9 ?_
              exact h
            · replace h := ifF h9 h
              refine ifF' h9 ?_
              exact h
          · replace h := ifF h8 h
            refine ifF' h8 ?_
            exact h
    · replace h := ifF h2 h
      refine ifF' h2 ?_
      rcases bcases (decide (p0 ≥ 224)) with h10 | h10
      · replace h := ifT h10 h
        refine ifT' h10 ?_
        rcases bcases (decide (p0 < 240)) with h11 | h11
        · replace h := ifT h11 h
          refine ifT' h11 ?_
          exact h
        · replace h := ifF h11 h
          refine ifF' h11 ?_
          rcases bcases (decide (p0 ≥ 240)) with h12 | h12
          · replace h := ifT h12 h
            refine ifT' h12 ?_
            rcases bcases (decide (p0 < 248)) with h13 | h13
            · replace h := ifT h13 h
              refine ifT' h13 ?_
              exact h
            · replace h := ifF h13 h
              refine ifF' h13 ?_
              exact h
          · replace h := ifF h12 h
            refine ifF' h12 ?_
            exact h
      · replace h := ifF h10 h
        refine ifF' h10 ?_
        rcases bcases (decide (p0 ≥ 240)) with h14 | h14
        · replace h := ifT h14 h
          refine ifT' h14 ?_
          rcases bcases (decide (p0 < 248)) with h15 | h15
          · replace h := ifT h15 h
            refine ifT' h15 ?_
            exact h
          · replace h := ifF h15 h
            refine ifF' h15 ?_
            exact h
        · replace h := ifF h14 h
          refine ifF' h14 ?_
          exact h

def e282 (qq : Nat) (p0 : Int) : Option (Int) :=
  if decide (p0 ≥ 65536) = true then
    some (w64 ((w64 ((w64 (1 + 1)) + 1)) + 1))
  else
    if decide (p0 ≥ 2048) = true then
      some (w64 ((w64 (1 + 1)) + 1))
    else
      if decide (p0 ≥ 128) = true then
        some (w64 (1 + 1))
      else
        some 1
theorem le282 (qq : Nat) {p0 : Int} {r : Int} (h : e282 qq p0 = some r) : g282 p0 = some r := by
  unfold e282 at h
  unfold g282
  rcases bcases (decide (p0 ≥ 65536)) with h1 | h1
  · replace h := ifT h1 h
    refine ifT' h1 ?_
    exact h
  · replace h := ifF h1 h
    refine ifF' h1 ?_
    rcases bcases (decide (p0 ≥ 2048)) with h2 | h2
    · replace h := ifT h2 h
      refine ifT' h2 ?_
      exact h
    · replace h := ifF h2 h
      refine ifF' h2 ?_
      rcases bcases (decide (p0 ≥ 128)) with h3 | h3
      · replace h := ifT h3 h
        refine ifT' h3 ?_
        exact h
      · replace h := ifF h3 h
        refine ifF' h3 ?_
        exact h

def e271L0 : Nat → ByteArray → Int → (Int × Int) → Int → Int →  Option (Int × Int × Int)
  | 0, _, _, _, _, _ => none
  | qq + 1, p0, p1, r5, v8, v9 =>
    if decide (v9 < r5.1) = true then
      (gbyte p0 (w64 (p1 + v9))) >>= fun x10 =>
      if ((IntKind.u8.wrap ((BitVec.ofInt (IntKind.bits .u8) x10 &&& BitVec.ofInt (IntKind.bits .u8) 192).toNat : Nat)) != 128) = true then
        some (0, 0, 1)
      else
        e271L0 qq p0 p1 r5 (IntKind.i64.wrap ((BitVec.ofInt (IntKind.bits .i64) (w64 (v8 * 2 ^ (min (Int.toNat 6) (IntKind.bits .i64)))) ||| BitVec.ofInt (IntKind.bits .i64) (w64 ((IntKind.u8.wrap ((BitVec.ofInt (IntKind.bits .u8) x10 &&& BitVec.ofInt (IntKind.bits .u8) 63).toNat : Nat))))).toNat : Nat)) (w64 (v9 + 1))
    else
      (e273 qq v8) >>= fun r13 =>
      if r13 = true then
        (e282 qq v8) >>= fun r16 =>
        if (r16 != r5.1) = true then
          some (0, 0, 1)
        else
          some (v8, r5.1, 0)
      else
        some (0, 0, 1)
theorem lea271L0 : ∀ qq : Nat, (∀ (p0 : ByteArray) (p1 : Int) (r5 : Int × Int) (v8 : Int) (v9 : Int) (r : Int × Int × Int), e271L0 qq p0 p1 r5 v8 v9 = some r → g271L0 p0 p1 r5 v8 v9 = some r) := by
  intro qq
  induction qq with
  | zero =>
      intro p0 p1 r5 v8 v9 r h
      rw [e271L0] at h
      cases h
  | succ qq ihg271L0 =>
      intro p0 p1 r5 v8 v9 r h
      rw [e271L0] at h
      rw [g271L0]
      rcases bcases (decide (v9 < r5.1)) with h9 | h9
      · replace h := ifT h9 h
        refine ifT' h9 ?_
        obtain ⟨x10, h11, h⟩ := obind h
        refine obind_mk h11 ?_
        rcases bcases ((IntKind.u8.wrap ((BitVec.ofInt (IntKind.bits .u8) x10 &&& BitVec.ofInt (IntKind.bits .u8) 192).toNat : Nat)) != 128) with h12 | h12
        · replace h := ifT h12 h
          refine ifT' h12 ?_
          exact h
        · replace h := ifF h12 h
          refine ifF' h12 ?_
          exact (ihg271L0 _ _ _ _ _ _ h)
      · replace h := ifF h9 h
        refine ifF' h9 ?_
        obtain ⟨r13, h14, h⟩ := obind h
        refine obind_mk (le273 qq h14) ?_
        rcases bcases r13 with h15 | h15
        · replace h := ifT h15 h
          refine ifT' h15 ?_
          obtain ⟨r16, h17, h⟩ := obind h
          refine obind_mk (le282 qq h17) ?_
          rcases bcases (r16 != r5.1) with h18 | h18
          · replace h := ifT h18 h
            refine ifT' h18 ?_
            exact h
          · replace h := ifF h18 h
            refine ifF' h18 ?_
            exact h
        · replace h := ifF h15 h
          refine ifF' h15 ?_
          exact h
theorem le271L0 (qq : Nat) {p0 : ByteArray} {p1 : Int} {r5 : Int × Int} {v8 : Int} {v9 : Int} {r : Int × Int × Int} (h : e271L0 qq p0 p1 r5 v8 v9 = some r) : g271L0 p0 p1 r5 v8 v9 = some r := (lea271L0 qq) _ _ _ _ _ _ h
def e271 (qq : Nat) (p0 : ByteArray) (p1 : Int) : Option (Int × Int × Int) :=
  if decide (p1 < 0) = true then
    some (0, 0, 1)
  else
    if decide (p1 ≥ (p0.size : Int)) = true then
      some (0, 0, 1)
    else
      (gbyte p0 p1) >>= fun x3 =>
      (e281 qq x3) >>= fun r5 =>
      if (r5.1 == 0) = true then
        some (0, 0, 1)
      else
        if decide (r5.1 > (w64 ((p0.size : Int) - p1))) = true then
          some (0, 0, 1)
        else
          e271L0 qq p0 p1 r5 r5.2 1
theorem le271 (qq : Nat) {p0 : ByteArray} {p1 : Int} {r : Int × Int × Int} (h : e271 qq p0 p1 = some r) : g271 p0 p1 = some r := by
  unfold e271 at h
  unfold g271
  rcases bcases (decide (p1 < 0)) with h1 | h1
  · replace h := ifT h1 h
    refine ifT' h1 ?_
    exact h
  · replace h := ifF h1 h
    refine ifF' h1 ?_
    rcases bcases (decide (p1 ≥ (p0.size : Int))) with h2 | h2
    · replace h := ifT h2 h
      refine ifT' h2 ?_
      exact h
    · replace h := ifF h2 h
      refine ifF' h2 ?_
      obtain ⟨x3, h4, h⟩ := obind h
      refine obind_mk h4 ?_
      obtain ⟨r5, h6, h⟩ := obind h
      refine obind_mk (le281 qq h6) ?_
      rcases bcases (r5.1 == 0) with h7 | h7
      · replace h := ifT h7 h
        refine ifT' h7 ?_
        exact h
      · replace h := ifF h7 h
        refine ifF' h7 ?_
        rcases bcases (decide (r5.1 > (w64 ((p0.size : Int) - p1)))) with h8 | h8
        · replace h := ifT h8 h
          refine ifT' h8 ?_
          exact h
        · replace h := ifF h8 h
          refine ifF' h8 ?_
          exact (le271L0 qq h)

def e248L0 : Nat → ByteArray → (List Int) → Int →  Option (List Int × Int × Int)
  | 0, _, _, _ => none
  | qq + 1, p0, v5, v6 =>
    if decide (v6 < (p0.size : Int)) = true then
      (e271 qq p0 v6) >>= fun r3 =>
      if (r3.2.2 != 0) = true then
        some ([], v6, r3.2.2)
      else
        (gapp 8 v5 [r3.1]) >>= fun l6 =>
        e248L0 qq p0 l6 (w64 (v6 + r3.2.1))
    else
      some (v5, (p0.size : Int), 0)
theorem lea248L0 : ∀ qq : Nat, (∀ (p0 : ByteArray) (v5 : List Int) (v6 : Int) (r : List Int × Int × Int), e248L0 qq p0 v5 v6 = some r → g248L0 p0 v5 v6 = some r) := by
  intro qq
  induction qq with
  | zero =>
      intro p0 v5 v6 r h
      rw [e248L0] at h
      cases h
  | succ qq ihg248L0 =>
      intro p0 v5 v6 r h
      rw [e248L0] at h
      rw [g248L0]
      rcases bcases (decide (v6 < (p0.size : Int))) with h2 | h2
      · replace h := ifT h2 h
        refine ifT' h2 ?_
        obtain ⟨r3, h4, h⟩ := obind h
        refine obind_mk (le271 qq h4) ?_
        rcases bcases (r3.2.2 != 0) with h5 | h5
        · replace h := ifT h5 h
          refine ifT' h5 ?_
          exact h
        · replace h := ifF h5 h
          refine ifF' h5 ?_
          obtain ⟨l6, h7, h⟩ := obind h
          refine obind_mk h7 ?_
          exact (ihg248L0 _ _ _ _ h)
      · replace h := ifF h2 h
        refine ifF' h2 ?_
        exact h
theorem le248L0 (qq : Nat) {p0 : ByteArray} {v5 : List Int} {v6 : Int} {r : List Int × Int × Int} (h : e248L0 qq p0 v5 v6 = some r) : g248L0 p0 v5 v6 = some r := (lea248L0 qq) _ _ _ _ h
def e248 (qq : Nat) (p0 : ByteArray) : Option (List Int × Int × Int) :=
  if decide ((p0.size : Int) > 65535) = true then
    some ([], 0, 2)
  else
    e248L0 qq p0 [] 0
theorem le248 (qq : Nat) {p0 : ByteArray} {r : List Int × Int × Int} (h : e248 qq p0 = some r) : g248 p0 = some r := by
  unfold e248 at h
  unfold g248
  rcases bcases (decide ((p0.size : Int) > 65535)) with h1 | h1
  · replace h := ifT h1 h
    refine ifT' h1 ?_
    exact h
  · replace h := ifF h1 h
    refine ifF' h1 ?_
    exact (le248L0 qq h)

def e249 (qq : Nat) (p0 : ByteArray) : Option (Bool) :=
  if (p0.toList == (⟨#[100, 97, 116, 97]⟩ : ByteArray).toList) = true then
    some true
  else
    if (p0.toList == (⟨#[114, 101, 99, 111, 114, 100]⟩ : ByteArray).toList) = true then
      some true
    else
      if (p0.toList == (⟨#[100, 101, 102]⟩ : ByteArray).toList) = true then
        some true
      else
        if (p0.toList == (⟨#[83, 101, 116]⟩ : ByteArray).toList) = true then
          some true
        else
          some false
theorem le249 (qq : Nat) {p0 : ByteArray} {r : Bool} (h : e249 qq p0 = some r) : g249 p0 = some r := by
  unfold e249 at h
  unfold g249
  rcases bcases (p0.toList == (⟨#[100, 97, 116, 97]⟩ : ByteArray).toList) with h1 | h1
  · replace h := ifT h1 h
    refine ifT' h1 ?_
    exact h
  · replace h := ifF h1 h
    refine ifF' h1 ?_
    rcases bcases (p0.toList == (⟨#[114, 101, 99, 111, 114, 100]⟩ : ByteArray).toList) with h2 | h2
    · replace h := ifT h2 h
      refine ifT' h2 ?_
      exact h
    · replace h := ifF h2 h
      refine ifF' h2 ?_
      rcases bcases (p0.toList == (⟨#[100, 101, 102]⟩ : ByteArray).toList) with h3 | h3
      · replace h := ifT h3 h
        refine ifT' h3 ?_
        exact h
      · replace h := ifF h3 h
        refine ifF' h3 ?_
        rcases bcases (p0.toList == (⟨#[83, 101, 116]⟩ : ByteArray).toList) with h4 | h4
        · replace h := ifT h4 h
          refine ifT' h4 ?_
          exact h
        · replace h := ifF h4 h
          refine ifF' h4 ?_
          exact h

def e215L0 : Nat → (List Int × Int × Int) → Int →  Option (Bool)
  | 0, _, _ => none
  | qq + 1, r1, v32 =>
    if decide (v32 < (List.length r1.1 : Int)) = true then
      (gidx r1.1 v32) >>= fun x10 =>
      (e250 qq x10) >>= fun r12 =>
      if r12 = true then
        e215L0 qq r1 (w64 (v32 + 1))
      else
        some false
    else
      (gidx r1.1 0) >>= fun x15 =>
      (e251 qq x15) >>= fun r17 =>
      if r17 = true then
        some true
      else
        if (x15 == 95) = true then
          some (decide ((List.length r1.1 : Int) > 1))
        else
          some false
theorem lea215L0 : ∀ qq : Nat, (∀ (r1 : List Int × Int × Int) (v32 : Int) (r : Bool), e215L0 qq r1 v32 = some r → g215L0 r1 v32 = some r) := by
  intro qq
  induction qq with
  | zero =>
      intro r1 v32 r h
      rw [e215L0] at h
      cases h
  | succ qq ihg215L0 =>
      intro r1 v32 r h
      rw [e215L0] at h
      rw [g215L0]
      rcases bcases (decide (v32 < (List.length r1.1 : Int))) with h9 | h9
      · replace h := ifT h9 h
        refine ifT' h9 ?_
        obtain ⟨x10, h11, h⟩ := obind h
        refine obind_mk h11 ?_
        obtain ⟨r12, h13, h⟩ := obind h
        refine obind_mk (le250 qq h13) ?_
        rcases bcases r12 with h14 | h14
        · replace h := ifT h14 h
          refine ifT' h14 ?_
          exact (ihg215L0 _ _ _ h)
        · replace h := ifF h14 h
          refine ifF' h14 ?_
          exact h
      · replace h := ifF h9 h
        refine ifF' h9 ?_
        obtain ⟨x15, h16, h⟩ := obind h
        refine obind_mk h16 ?_
        obtain ⟨r17, h18, h⟩ := obind h
        refine obind_mk (le251 qq h18) ?_
        rcases bcases r17 with h19 | h19
        · replace h := ifT h19 h
          refine ifT' h19 ?_
          exact h
        · replace h := ifF h19 h
          refine ifF' h19 ?_
          rcases bcases (x15 == 95) with h20 | h20
          · replace h := ifT h20 h
            refine ifT' h20 ?_
            exact h
          · replace h := ifF h20 h
            refine ifF' h20 ?_
            exact h
theorem le215L0 (qq : Nat) {r1 : List Int × Int × Int} {v32 : Int} {r : Bool} (h : e215L0 qq r1 v32 = some r) : g215L0 r1 v32 = some r := (lea215L0 qq) _ _ _ h
def e215 (qq : Nat) (p0 : ByteArray) : Option (Bool) :=
  (e248 qq p0) >>= fun r1 =>
  if (r1.2.2 != 0) = true then
    some false
  else
    if ((List.length r1.1 : Int) == 0) = true then
      some false
    else
      if decide ((p0.size : Int) > 40) = true then
        some false
      else
        (e249 qq p0) >>= fun r6 =>
        if r6 = true then
          some false
        else
          e215L0 qq r1 0
theorem le215 (qq : Nat) {p0 : ByteArray} {r : Bool} (h : e215 qq p0 = some r) : g215 p0 = some r := by
  unfold e215 at h
  unfold g215
  obtain ⟨r1, h2, h⟩ := obind h
  refine obind_mk (le248 qq h2) ?_
  rcases bcases (r1.2.2 != 0) with h3 | h3
  · replace h := ifT h3 h
    refine ifT' h3 ?_
    exact h
  · replace h := ifF h3 h
    refine ifF' h3 ?_
    rcases bcases ((List.length r1.1 : Int) == 0) with h4 | h4
    · replace h := ifT h4 h
      refine ifT' h4 ?_
      exact h
    · replace h := ifF h4 h
      refine ifF' h4 ?_
      rcases bcases (decide ((p0.size : Int) > 40)) with h5 | h5
      · replace h := ifT h5 h
        refine ifT' h5 ?_
        exact h
      · replace h := ifF h5 h
        refine ifF' h5 ?_
        obtain ⟨r6, h7, h⟩ := obind h
        refine obind_mk (le249 qq h7) ?_
        rcases bcases r6 with h8 | h8
        · replace h := ifT h8 h
          refine ifT' h8 ?_
          exact h
        · replace h := ifF h8 h
          refine ifF' h8 ?_
          exact (le215L0 qq h)

def e135 (_n : Nat) (p0 : Tm) : Option (Tm × List Tm) := g135 p0
theorem le135 (n : Nat) {p0 : Tm} {r : Tm × List Tm} (h : e135 n p0 = some r) : g135 p0 = some r := h

def e257L0 : Nat → Int → Int → (Tm × List Tm) → Int →  Option (Bool)
  | 0, _, _, _, _ => none
  | qq + 1, p2, p4, r1, v37 =>
    if decide (v37 < p2) = true then
      (gidx r1.2 v37) >>= fun x7 =>
      if (x7.k != 1) = true then
        some false
      else
        if (x7.n != (w64 ((w64 (p4 - 1)) - v37))) = true then
          some false
        else
          e257L0 qq p2 p4 r1 (w64 (v37 + 1))
    else
      some true
theorem lea257L0 : ∀ qq : Nat, (∀ (p2 : Int) (p4 : Int) (r1 : Tm × List Tm) (v37 : Int) (r : Bool), e257L0 qq p2 p4 r1 v37 = some r → g257L0 p2 p4 r1 v37 = some r) := by
  intro qq
  induction qq with
  | zero =>
      intro p2 p4 r1 v37 r h
      rw [e257L0] at h
      cases h
  | succ qq ihg257L0 =>
      intro p2 p4 r1 v37 r h
      rw [e257L0] at h
      rw [g257L0]
      rcases bcases (decide (v37 < p2)) with h6 | h6
      · replace h := ifT h6 h
        refine ifT' h6 ?_
        obtain ⟨x7, h8, h⟩ := obind h
        refine obind_mk h8 ?_
        rcases bcases (x7.k != 1) with h9 | h9
        · replace h := ifT h9 h
          refine ifT' h9 ?_
          exact h
        · replace h := ifF h9 h
          refine ifF' h9 ?_
          rcases bcases (x7.n != (w64 ((w64 (p4 - 1)) - v37))) with h10 | h10
          · replace h := ifT h10 h
            refine ifT' h10 ?_
            exact h
          · replace h := ifF h10 h
            refine ifF' h10 ?_
            exact (ihg257L0 _ _ _ _ _ h)
      · replace h := ifF h6 h
        refine ifF' h6 ?_
        exact h
theorem le257L0 (qq : Nat) {p2 : Int} {p4 : Int} {r1 : Tm × List Tm} {v37 : Int} {r : Bool} (h : e257L0 qq p2 p4 r1 v37 = some r) : g257L0 p2 p4 r1 v37 = some r := (lea257L0 qq) _ _ _ _ _ h
def e257 (qq : Nat) (p0 : Tm) (p1 : Int) (p2 : Int) (p3 : Int) (p4 : Int) : Option (Bool) :=
  (e135 qq p0) >>= fun r1 =>
  if (r1.1.k != 6) = true then
    some false
  else
    if (r1.1.n != p1) = true then
      some false
    else
      if ((List.length r1.2 : Int) != (w64 (p2 + p3))) = true then
        some false
      else
        e257L0 qq p2 p4 r1 0
theorem le257 (qq : Nat) {p0 : Tm} {p1 : Int} {p2 : Int} {p3 : Int} {p4 : Int} {r : Bool} (h : e257 qq p0 p1 p2 p3 p4 = some r) : g257 p0 p1 p2 p3 p4 = some r := by
  unfold e257 at h
  unfold g257
  obtain ⟨r1, h2, h⟩ := obind h
  refine obind_mk (le135 qq h2) ?_
  rcases bcases (r1.1.k != 6) with h3 | h3
  · replace h := ifT h3 h
    refine ifT' h3 ?_
    exact h
  · replace h := ifF h3 h
    refine ifF' h3 ?_
    rcases bcases (r1.1.n != p1) with h4 | h4
    · replace h := ifT h4 h
      refine ifT' h4 ?_
      exact h
    · replace h := ifF h4 h
      refine ifF' h4 ?_
      rcases bcases ((List.length r1.2 : Int) != (w64 (p2 + p3))) with h5 | h5
      · replace h := ifT h5 h
        refine ifT' h5 ?_
        exact h
      · replace h := ifF h5 h
        refine ifF' h5 ?_
        exact (le257L0 qq h)

def e253 (qq : Nat) (p0 : Tm) : Option (Bool) :=
  if (p0.k == 0) = true then
    if (p0.n == 0) = true then
      some ((List.length p0.sub : Int) == 0)
    else
      some false
  else
    some false
theorem le253 (qq : Nat) {p0 : Tm} {r : Bool} (h : e253 qq p0 = some r) : g253 p0 = some r := by
  unfold e253 at h
  unfold g253
  rcases bcases (p0.k == 0) with h1 | h1
  · replace h := ifT h1 h
    refine ifT' h1 ?_
    rcases bcases (p0.n == 0) with h2 | h2
    · replace h := ifT h2 h
      refine ifT' h2 ?_
      exact h
    · replace h := ifF h2 h
      refine ifF' h2 ?_
      exact h
  · replace h := ifF h1 h
    refine ifF' h1 ?_
    exact h

def e206 (qq : Nat) (p0 : List Ent) (p1 : Int) (p2 : Int) : Option (Bool) :=
  if decide (p1 ≥ 0) = true then
    if decide (p1 < (List.length p0 : Int)) = true then
      (gidx p0 p1) >>= fun x3 =>
      some (x3.kind == p2)
    else
      some false
  else
    some false
theorem le206 (qq : Nat) {p0 : List Ent} {p1 : Int} {p2 : Int} {r : Bool} (h : e206 qq p0 p1 p2 = some r) : g206 p0 p1 p2 = some r := by
  unfold e206 at h
  unfold g206
  rcases bcases (decide (p1 ≥ 0)) with h1 | h1
  · replace h := ifT h1 h
    refine ifT' h1 ?_
    rcases bcases (decide (p1 < (List.length p0 : Int))) with h2 | h2
    · replace h := ifT h2 h
      refine ifT' h2 ?_
      obtain ⟨x3, h4, h⟩ := obind h
      refine obind_mk h4 ?_
      exact h
    · replace h := ifF h2 h
      refine ifF' h2 ?_
      exact h
  · replace h := ifF h1 h
    refine ifF' h1 ?_
    exact h

def e256 (qq : Nat) (p0 : List Ent) (p1 : Int) : Option (Bool) :=
  (gidx p0 p1) >>= fun x1 =>
  (e206 qq p0 x1.fam 1) >>= fun r3 =>
  if r3 = true then
    if decide (x1.fam ≥ p1) = true then
      some false
    else
      (gidx p0 x1.fam) >>= fun x7 =>
      if (x1.pars != x7.pars) = true then
        some false
      else
        (e253 qq x1.body) >>= fun r10 =>
        if r10 = true then
          if (x1.inds != 0) = true then
            some false
          else
            if (x1.level != 0) = true then
              some false
            else
              if decide ((w64 ((List.length x1.cons : Int) + (List.length x1.fields : Int))) > 0) = true then
                some false
              else
                if (x1.kind == 4) = true then
                  if decide (x1.place ≥ 0) = true then
                    if decide (x1.place < (List.length x7.fields : Int)) = true then
                      (gidx x7.fields x1.place) >>= fun x19 =>
                      some (x19 == p1)
                    else
                      some false
                  else
                    some false
                else
                  if decide (x1.place ≥ 0) = true then
                    if decide (x1.place < (List.length x7.cons : Int)) = true then
                      (gidx x7.cons x1.place) >>= fun x23 =>
                      some (x23 == p1)
                    else
                      some false
                  else
                    some false
        else
          some false
  else
    some false
theorem le256 (qq : Nat) {p0 : List Ent} {p1 : Int} {r : Bool} (h : e256 qq p0 p1 = some r) : g256 p0 p1 = some r := by
  unfold e256 at h
  unfold g256
  obtain ⟨x1, h2, h⟩ := obind h
  refine obind_mk h2 ?_
  obtain ⟨r3, h4, h⟩ := obind h
  refine obind_mk (le206 qq h4) ?_
  rcases bcases r3 with h5 | h5
  · replace h := ifT h5 h
    refine ifT' h5 ?_
    rcases bcases (decide (x1.fam ≥ p1)) with h6 | h6
    · replace h := ifT h6 h
      refine ifT' h6 ?_
      exact h
    · replace h := ifF h6 h
      refine ifF' h6 ?_
      obtain ⟨x7, h8, h⟩ := obind h
      refine obind_mk h8 ?_
      rcases bcases (x1.pars != x7.pars) with h9 | h9
      · replace h := ifT h9 h
        refine ifT' h9 ?_
        exact h
      · replace h := ifF h9 h
        refine ifF' h9 ?_
        obtain ⟨r10, h11, h⟩ := obind h
        refine obind_mk (le253 qq h11) ?_
        rcases bcases r10 with h12 | h12
        · replace h := ifT h12 h
          refine ifT' h12 ?_
          rcases bcases (x1.inds != 0) with h13 | h13
          · replace h := ifT h13 h
            refine ifT' h13 ?_
            exact h
          · replace h := ifF h13 h
            refine ifF' h13 ?_
            rcases bcases (x1.level != 0) with h14 | h14
            · replace h := ifT h14 h
              refine ifT' h14 ?_
              exact h
            · replace h := ifF h14 h
              refine ifF' h14 ?_
              rcases bcases (decide ((w64 ((List.length x1.cons : Int) + (List.length x1.fields : Int))) > 0)) with h15 | h15
              · replace h := ifT h15 h
                refine ifT' h15 ?_
                exact h
              · replace h := ifF h15 h
                refine ifF' h15 ?_
                rcases bcases (x1.kind == 4) with h16 | h16
                · replace h := ifT h16 h
                  refine ifT' h16 ?_
                  rcases bcases (decide (x1.place ≥ 0)) with h17 | h17
                  · replace h := ifT h17 h
                    refine ifT' h17 ?_
                    rcases bcases (decide (x1.place < (List.length x7.fields : Int))) with h18 | h18
                    · replace h := ifT h18 h
                      refine ifT' h18 ?_
                      obtain ⟨x19, h20, h⟩ := obind h
                      refine obind_mk h20 ?_
                      exact h
                    · replace h := ifF h18 h
                      refine ifF' h18 ?_
                      exact h
                  · replace h := ifF h17 h
                    refine ifF' h17 ?_
                    exact h
                · replace h := ifF h16 h
                  refine ifF' h16 ?_
                  rcases bcases (decide (x1.place ≥ 0)) with h21 | h21
                  · replace h := ifT h21 h
                    refine ifT' h21 ?_
                    rcases bcases (decide (x1.place < (List.length x7.cons : Int))) with h22 | h22
                    · replace h := ifT h22 h
                      refine ifT' h22 ?_
                      obtain ⟨x23, h24, h⟩ := obind h
                      refine obind_mk h24 ?_
                      exact h
                    · replace h := ifF h22 h
                      refine ifF' h22 ?_
                      exact h
                  · replace h := ifF h21 h
                    refine ifF' h21 ?_
                    exact h
        · replace h := ifF h12 h
          refine ifF' h12 ?_
          exact h
  · replace h := ifF h5 h
    refine ifF' h5 ?_
    exact h

def e207L0 : Nat → Int → Int → (List Tm) → Int → Int → (List Tm) →  Option (List Tm × Tm × Int)
  | 0, _, _, _, _, _, _ => none
  | qq + 1, p1, v25, v7, vb1_0, vb1_1, vb1_2 =>
    if decide (v25 < p1) = true then
      if (vb1_0 != 3) = true then
        some ([], (Tm.mk 0 0 []), 6)
      else
        (gidx vb1_2 0) >>= fun x10 =>
        (gapp 40 v7 [x10]) >>= fun l12 =>
        (gidx vb1_2 1) >>= fun x14 =>
        e207L0 qq p1 (w64 (v25 + 1)) l12 x14.k x14.n x14.sub
    else
      some (v7, (Tm.mk vb1_0 vb1_1 vb1_2), 0)
theorem lea207L0 : ∀ qq : Nat, (∀ (p1 : Int) (v25 : Int) (v7 : List Tm) (vb1_0 : Int) (vb1_1 : Int) (vb1_2 : List Tm) (r : List Tm × Tm × Int), e207L0 qq p1 v25 v7 vb1_0 vb1_1 vb1_2 = some r → g207L0 p1 v25 v7 vb1_0 vb1_1 vb1_2 = some r) := by
  intro qq
  induction qq with
  | zero =>
      intro p1 v25 v7 vb1_0 vb1_1 vb1_2 r h
      rw [e207L0] at h
      cases h
  | succ qq ihg207L0 =>
      intro p1 v25 v7 vb1_0 vb1_1 vb1_2 r h
      rw [e207L0] at h
      rw [g207L0]
      rcases bcases (decide (v25 < p1)) with h8 | h8
      · replace h := ifT h8 h
        refine ifT' h8 ?_
        rcases bcases (vb1_0 != 3) with h9 | h9
        · replace h := ifT h9 h
          refine ifT' h9 ?_
          exact h
        · replace h := ifF h9 h
          refine ifF' h9 ?_
          obtain ⟨x10, h11, h⟩ := obind h
          refine obind_mk h11 ?_
          obtain ⟨l12, h13, h⟩ := obind h
          refine obind_mk h13 ?_
          obtain ⟨x14, h15, h⟩ := obind h
          refine obind_mk h15 ?_
          exact (ihg207L0 _ _ _ _ _ _ _ h)
      · replace h := ifF h8 h
        refine ifF' h8 ?_
        exact h
theorem le207L0 (qq : Nat) {p1 : Int} {v25 : Int} {v7 : List Tm} {vb1_0 : Int} {vb1_1 : Int} {vb1_2 : List Tm} {r : List Tm × Tm × Int} (h : e207L0 qq p1 v25 v7 vb1_0 vb1_1 vb1_2 = some r) : g207L0 p1 v25 v7 vb1_0 vb1_1 vb1_2 = some r := (lea207L0 qq) _ _ _ _ _ _ _ h
def e207 (qq : Nat) (p0 : Tm) (p1 : Int) : Option (List Tm × Tm × Int) :=
  (e74 qq p0) >>= fun r1 =>
  if r1 = true then
    if decide (p1 < 0) = true then
      some ([], (Tm.mk 0 0 []), 5)
    else
      if decide (p1 > 24) = true then
        some ([], (Tm.mk 0 0 []), 2)
      else
        (e72 qq p0) >>= fun r6 =>
        e207L0 qq p1 0 [] r6.k r6.n r6.sub
  else
    some ([], (Tm.mk 0 0 []), 5)
theorem le207 (qq : Nat) {p0 : Tm} {p1 : Int} {r : List Tm × Tm × Int} (h : e207 qq p0 p1 = some r) : g207 p0 p1 = some r := by
  unfold e207 at h
  unfold g207
  obtain ⟨r1, h2, h⟩ := obind h
  refine obind_mk (le74 qq h2) ?_
  rcases bcases r1 with h3 | h3
  · replace h := ifT h3 h
    refine ifT' h3 ?_
    rcases bcases (decide (p1 < 0)) with h4 | h4
    · replace h := ifT h4 h
      refine ifT' h4 ?_
      exact h
    · replace h := ifF h4 h
      refine ifF' h4 ?_
      rcases bcases (decide (p1 > 24)) with h5 | h5
      · replace h := ifT h5 h
        refine ifT' h5 ?_
        exact h
      · replace h := ifF h5 h
        refine ifF' h5 ?_
        obtain ⟨r6, h7, h⟩ := obind h
        refine obind_mk (le72 qq h7) ?_
        exact (le207L0 qq h)
  · replace h := ifF h3 h
    refine ifF' h3 ?_
    exact h

def e219 (qq : Nat) (p0 : List Ent) (p1 : Int) : Option (Bool) :=
  (e256 qq p0 p1) >>= fun r1 =>
  if r1 = true then
    (gidx p0 p1) >>= fun x4 =>
    (e207 qq x4.type (w64 (x4.pars + 1))) >>= fun r6 =>
    if (r6.2.2 == 0) = true then
      (gidx r6.1 x4.pars) >>= fun x9 =>
      (e257 qq x9 x4.fam x4.pars 0 x4.pars) >>= fun r11 =>
      some r11
    else
      some false
  else
    some false
theorem le219 (qq : Nat) {p0 : List Ent} {p1 : Int} {r : Bool} (h : e219 qq p0 p1 = some r) : g219 p0 p1 = some r := by
  unfold e219 at h
  unfold g219
  obtain ⟨r1, h2, h⟩ := obind h
  refine obind_mk (le256 qq h2) ?_
  rcases bcases r1 with h3 | h3
  · replace h := ifT h3 h
    refine ifT' h3 ?_
    obtain ⟨x4, h5, h⟩ := obind h
    refine obind_mk h5 ?_
    obtain ⟨r6, h7, h⟩ := obind h
    refine obind_mk (le207 qq h7) ?_
    rcases bcases (r6.2.2 == 0) with h8 | h8
    · replace h := ifT h8 h
      refine ifT' h8 ?_
      obtain ⟨x9, h10, h⟩ := obind h
      refine obind_mk h10 ?_
      obtain ⟨r11, h12, h⟩ := obind h
      refine obind_mk (le257 qq h12) ?_
      exact h
    · replace h := ifF h8 h
      refine ifF' h8 ?_
      exact h
  · replace h := ifF h3 h
    refine ifF' h3 ?_
    exact h

def e234 (qq : Nat) (p0 : Tm) (p1 : Int) : Option (Int) :=
  if (p1 == 1) = true then
    if (p0.k == 3) = true then
      some 1
    else
      if (p0.k == 4) = true then
        some 1
      else
        some 0
  else
    some 0
theorem le234 (qq : Nat) {p0 : Tm} {p1 : Int} {r : Int} (h : e234 qq p0 p1 = some r) : g234 p0 p1 = some r := by
  unfold e234 at h
  unfold g234
  rcases bcases (p1 == 1) with h1 | h1
  · replace h := ifT h1 h
    refine ifT' h1 ?_
    rcases bcases (p0.k == 3) with h2 | h2
    · replace h := ifT h2 h
      refine ifT' h2 ?_
      exact h
    · replace h := ifF h2 h
      refine ifF' h2 ?_
      rcases bcases (p0.k == 4) with h3 | h3
      · replace h := ifT h3 h
        refine ifT' h3 ?_
        exact h
      · replace h := ifF h3 h
        refine ifF' h3 ?_
        exact h
  · replace h := ifF h1 h
    refine ifF' h1 ?_
    exact h

mutual
def e189 : Nat → Tm → Int →  Option (Int)
  | 0, _, _ => none
  | qq + 1, p0, p1 =>
    if (p0.k == 1) = true then
      some (imax 0 (w64 ((w64 (p0.n + 1)) - p1)))
    else
      e189L0 qq p0 p1 0 0
def e189L0 : Nat → Tm → Int → Int → Int →  Option (Int)
  | 0, _, _, _, _ => none
  | qq + 1, p0, p1, v20, v5 =>
    if decide (v20 < (List.length p0.sub : Int)) = true then
      (gidx p0.sub v20) >>= fun x3 =>
      (e234 qq p0 v20) >>= fun r5 =>
      (e189 qq x3 (w64 (p1 + r5))) >>= fun r7 =>
      e189L0 qq p0 p1 (w64 (v20 + 1)) (imax v5 r7)
    else
      some v5
end
theorem lea189_189L0 : ∀ qq : Nat, (∀ (p0 : Tm) (p1 : Int) (r : Int), e189 qq p0 p1 = some r → g189 p0 p1 = some r) ∧ (∀ (p0 : Tm) (p1 : Int) (v20 : Int) (v5 : Int) (r : Int), e189L0 qq p0 p1 v20 v5 = some r → g189L0 p0 p1 v20 v5 = some r) := by
  intro qq
  induction qq with
  | zero =>
    refine ⟨?_, ?_⟩
    · intro p0 p1 r h
      rw [e189] at h
      cases h
    · intro p0 p1 v20 v5 r h
      rw [e189L0] at h
      cases h
  | succ qq ih =>
    obtain ⟨ihg189, ihg189L0⟩ := ih
    refine ⟨?_, ?_⟩
    · intro p0 p1 r h
      rw [e189] at h
      rw [g189]
      rcases bcases (p0.k == 1) with h1 | h1
      · replace h := ifT h1 h
        refine ifT' h1 ?_
        exact h
      · replace h := ifF h1 h
        refine ifF' h1 ?_
        exact (ihg189L0 _ _ _ _ _ h)
    · intro p0 p1 v20 v5 r h
      rw [e189L0] at h
      rw [g189L0]
      rcases bcases (decide (v20 < (List.length p0.sub : Int))) with h2 | h2
      · replace h := ifT h2 h
        refine ifT' h2 ?_
        obtain ⟨x3, h4, h⟩ := obind h
        refine obind_mk h4 ?_
        obtain ⟨r5, h6, h⟩ := obind h
        refine obind_mk (le234 qq h6) ?_
        obtain ⟨r7, h8, h⟩ := obind h
        refine obind_mk (ihg189 _ _ _ h8) ?_
        exact (ihg189L0 _ _ _ _ _ h)
      · replace h := ifF h2 h
        refine ifF' h2 ?_
        exact h
theorem le189 (qq : Nat) {p0 : Tm} {p1 : Int} {r : Int} (h : e189 qq p0 p1 = some r) : g189 p0 p1 = some r := (lea189_189L0 qq).1 _ _ _ h
theorem le189L0 (qq : Nat) {p0 : Tm} {p1 : Int} {v20 : Int} {v5 : Int} {r : Int} (h : e189L0 qq p0 p1 v20 v5 = some r) : g189L0 p0 p1 v20 v5 = some r := (lea189_189L0 qq).2 _ _ _ _ _ h

mutual
def e236 : Nat → Tm → Int → Int →  Option (List Int)
  | 0, _, _, _ => none
  | qq + 1, p0, p1, p2 =>
    if (p0.k == p1) = true then
      (gapp 8 ([] : List Int) [p0.n]) >>= fun l2 =>
      e236L0 qq p0 p1 p2 0 l2
    else
      if (p0.k == p2) = true then
        (gapp 8 ([] : List Int) [p0.n]) >>= fun l5 =>
        e236L0 qq p0 p1 p2 0 l5
      else
        e236L0 qq p0 p1 p2 0 []
def e236L0 : Nat → Tm → Int → Int → Int → (List Int) →  Option (List Int)
  | 0, _, _, _, _, _ => none
  | qq + 1, p0, p1, p2, v28, v7 =>
    if decide (v28 < (List.length p0.sub : Int)) = true then
      (gidx p0.sub v28) >>= fun x5 =>
      (e236 qq x5 p1 p2) >>= fun r7 =>
      (gapp 8 v7 r7) >>= fun l9 =>
      e236L0 qq p0 p1 p2 (w64 (v28 + 1)) l9
    else
      some v7
end
theorem lea236_236L0 : ∀ qq : Nat, (∀ (p0 : Tm) (p1 : Int) (p2 : Int) (r : List Int), e236 qq p0 p1 p2 = some r → g236 p0 p1 p2 = some r) ∧ (∀ (p0 : Tm) (p1 : Int) (p2 : Int) (v28 : Int) (v7 : List Int) (r : List Int), e236L0 qq p0 p1 p2 v28 v7 = some r → g236L0 p0 p1 p2 v28 v7 = some r) := by
  intro qq
  induction qq with
  | zero =>
    refine ⟨?_, ?_⟩
    · intro p0 p1 p2 r h
      rw [e236] at h
      cases h
    · intro p0 p1 p2 v28 v7 r h
      rw [e236L0] at h
      cases h
  | succ qq ih =>
    obtain ⟨ihg236, ihg236L0⟩ := ih
    refine ⟨?_, ?_⟩
    · intro p0 p1 p2 r h
      rw [e236] at h
      rw [g236]
      rcases bcases (p0.k == p1) with h1 | h1
      · replace h := ifT h1 h
        refine ifT' h1 ?_
        obtain ⟨l2, h3, h⟩ := obind h
        refine obind_mk h3 ?_
        exact (ihg236L0 _ _ _ _ _ _ h)
      · replace h := ifF h1 h
        refine ifF' h1 ?_
        rcases bcases (p0.k == p2) with h4 | h4
        · replace h := ifT h4 h
          refine ifT' h4 ?_
          obtain ⟨l5, h6, h⟩ := obind h
          refine obind_mk h6 ?_
          exact (ihg236L0 _ _ _ _ _ _ h)
        · replace h := ifF h4 h
          refine ifF' h4 ?_
          exact (ihg236L0 _ _ _ _ _ _ h)
    · intro p0 p1 p2 v28 v7 r h
      rw [e236L0] at h
      rw [g236L0]
      rcases bcases (decide (v28 < (List.length p0.sub : Int))) with h4 | h4
      · replace h := ifT h4 h
        refine ifT' h4 ?_
        obtain ⟨x5, h6, h⟩ := obind h
        refine obind_mk h6 ?_
        obtain ⟨r7, h8, h⟩ := obind h
        refine obind_mk (ihg236 _ _ _ _ h8) ?_
        obtain ⟨l9, h10, h⟩ := obind h
        refine obind_mk h10 ?_
        exact (ihg236L0 _ _ _ _ _ _ h)
      · replace h := ifF h4 h
        refine ifF' h4 ?_
        exact h
theorem le236 (qq : Nat) {p0 : Tm} {p1 : Int} {p2 : Int} {r : List Int} (h : e236 qq p0 p1 p2 = some r) : g236 p0 p1 p2 = some r := (lea236_236L0 qq).1 _ _ _ _ h
theorem le236L0 (qq : Nat) {p0 : Tm} {p1 : Int} {p2 : Int} {v28 : Int} {v7 : List Int} {r : List Int} (h : e236L0 qq p0 p1 p2 v28 v7 = some r) : g236L0 p0 p1 p2 v28 v7 = some r := (lea236_236L0 qq).2 _ _ _ _ _ _ h

def e190 (n : Nat) (p0 : Tm) : Option (List Int) :=
  (e74 n p0) >>= fun r1 =>
  if r1 = true then
    (e236 n p0 6 7) >>= fun r4 =>
    if decide (List.length r4 < 4611686018427387904) = true then some (rise r4) else none
  else
    some []
theorem le190 (n : Nat) {p0 : Tm} {r : List Int} (h : e190 n p0 = some r) : g190 p0 = some r := by
  unfold e190 at h
  unfold g190
  obtain ⟨r1, h2, h⟩ := obind h
  refine obind_mk (le74 n h2) ?_
  rcases bcases r1 with h3 | h3
  · replace h := ifT h3 h
    refine ifT' h3 ?_
    obtain ⟨r4, h5, h⟩ := obind h
    exact obind_mk (le236 n h5) h
  · replace h := ifF h3 h
    exact ifF' h3 h

def e133 (qq : Nat) (p0 : Tm) (p1 : Int) (p2 : Int) : Option (Bool) :=
  (e74 qq p0) >>= fun r1 =>
  if r1 = true then
    (e189 qq p0 0) >>= fun r4 =>
    if decide (r4 > p1) = true then
      some false
    else
      (e190 qq p0) >>= fun r7 =>
      if ((List.length r7 : Int) == 0) = true then
        some true
      else
        (gidx r7 (w64 ((List.length r7 : Int) - 1))) >>= fun x10 =>
        some (decide (x10 < p2))
  else
    some false
theorem le133 (qq : Nat) {p0 : Tm} {p1 : Int} {p2 : Int} {r : Bool} (h : e133 qq p0 p1 p2 = some r) : g133 p0 p1 p2 = some r := by
  unfold e133 at h
  unfold g133
  obtain ⟨r1, h2, h⟩ := obind h
  refine obind_mk (le74 qq h2) ?_
  rcases bcases r1 with h3 | h3
  · replace h := ifT h3 h
    refine ifT' h3 ?_
    obtain ⟨r4, h5, h⟩ := obind h
    refine obind_mk (le189 qq h5) ?_
    rcases bcases (decide (r4 > p1)) with h6 | h6
    · replace h := ifT h6 h
      refine ifT' h6 ?_
      exact h
    · replace h := ifF h6 h
      refine ifF' h6 ?_
      obtain ⟨r7, h8, h⟩ := obind h
      refine obind_mk (le190 qq h8) ?_
      rcases bcases ((List.length r7 : Int) == 0) with h9 | h9
      · replace h := ifT h9 h
        refine ifT' h9 ?_
        exact h
      · replace h := ifF h9 h
        refine ifF' h9 ?_
        obtain ⟨x10, h11, h⟩ := obind h
        refine obind_mk h11 ?_
        exact h
  · replace h := ifF h3 h
    refine ifF' h3 ?_
    exact h

def e252 (n : Nat) (p0 : Tm) : Option (List Int) :=
  (e74 n p0) >>= fun r1 =>
  if r1 = true then
    (e236 n p0 8 8) >>= fun r4 =>
    if decide (List.length r4 < 4611686018427387904) = true then some (rise r4) else none
  else
    some []
theorem le252 (n : Nat) {p0 : Tm} {r : List Int} (h : e252 n p0 = some r) : g252 p0 = some r := by
  unfold e252 at h
  unfold g252
  obtain ⟨r1, h2, h⟩ := obind h
  refine obind_mk (le74 n h2) ?_
  rcases bcases r1 with h3 | h3
  · replace h := ifT h3 h
    refine ifT' h3 ?_
    obtain ⟨r4, h5, h⟩ := obind h
    exact obind_mk (le236 n h5) h
  · replace h := ifF h3 h
    exact ifF' h3 h

def e216 (qq : Nat) (p0 : Tm) (p1 : Int) : Option (Bool) :=
  (e133 qq p0 0 p1) >>= fun r1 =>
  if r1 = true then
    (e252 qq p0) >>= fun r4 =>
    some ((List.length r4 : Int) == 0)
  else
    some false
theorem le216 (qq : Nat) {p0 : Tm} {p1 : Int} {r : Bool} (h : e216 qq p0 p1 = some r) : g216 p0 p1 = some r := by
  unfold e216 at h
  unfold g216
  obtain ⟨r1, h2, h⟩ := obind h
  refine obind_mk (le133 qq h2) ?_
  rcases bcases r1 with h3 | h3
  · replace h := ifT h3 h
    refine ifT' h3 ?_
    obtain ⟨r4, h5, h⟩ := obind h
    refine obind_mk (le252 qq h5) ?_
    exact h
  · replace h := ifF h3 h
    refine ifF' h3 ?_
    exact h

def e229L0 : Nat → Tm → Int → Int → Int → (List Tm) →  Option (List Tm × Tm × Int)
  | 0, _, _, _, _, _ => none
  | qq + 1, p0, v5, vb2_0, vb2_1, vb2_2 =>
    if (vb2_0 == 3) = true then
      if ((List.length vb2_2 : Int) == 2) = true then
        if decide (v5 ≤ 24) = true then
          (gidx vb2_2 1) >>= fun x4 =>
          e229L0 qq p0 (w64 (v5 + 1)) x4.k x4.n x4.sub
        else
          (e207 qq p0 v5) >>= fun r6 =>
          some (r6.1, r6.2.1, r6.2.2)
      else
        (e207 qq p0 v5) >>= fun r8 =>
        some (r8.1, r8.2.1, r8.2.2)
    else
      (e207 qq p0 v5) >>= fun r10 =>
      some (r10.1, r10.2.1, r10.2.2)
theorem lea229L0 : ∀ qq : Nat, (∀ (p0 : Tm) (v5 : Int) (vb2_0 : Int) (vb2_1 : Int) (vb2_2 : List Tm) (r : List Tm × Tm × Int), e229L0 qq p0 v5 vb2_0 vb2_1 vb2_2 = some r → g229L0 p0 v5 vb2_0 vb2_1 vb2_2 = some r) := by
  intro qq
  induction qq with
  | zero =>
      intro p0 v5 vb2_0 vb2_1 vb2_2 r h
      rw [e229L0] at h
      cases h
  | succ qq ihg229L0 =>
      intro p0 v5 vb2_0 vb2_1 vb2_2 r h
      rw [e229L0] at h
      rw [g229L0]
      rcases bcases (vb2_0 == 3) with h1 | h1
      · replace h := ifT h1 h
        refine ifT' h1 ?_
        rcases bcases ((List.length vb2_2 : Int) == 2) with h2 | h2
        · replace h := ifT h2 h
          refine ifT' h2 ?_
          rcases bcases (decide (v5 ≤ 24)) with h3 | h3
          · replace h := ifT h3 h
            refine ifT' h3 ?_
            obtain ⟨x4, h5, h⟩ := obind h
            refine obind_mk h5 ?_
            exact (ihg229L0 _ _ _ _ _ _ h)
          · replace h := ifF h3 h
            refine ifF' h3 ?_
            obtain ⟨r6, h7, h⟩ := obind h
            refine obind_mk (le207 qq h7) ?_
            exact h
        · replace h := ifF h2 h
          refine ifF' h2 ?_
          obtain ⟨r8, h9, h⟩ := obind h
          refine obind_mk (le207 qq h9) ?_
          exact h
      · replace h := ifF h1 h
        refine ifF' h1 ?_
        obtain ⟨r10, h11, h⟩ := obind h
        refine obind_mk (le207 qq h11) ?_
        exact h
theorem le229L0 (qq : Nat) {p0 : Tm} {v5 : Int} {vb2_0 : Int} {vb2_1 : Int} {vb2_2 : List Tm} {r : List Tm × Tm × Int} (h : e229L0 qq p0 v5 vb2_0 vb2_1 vb2_2 = some r) : g229L0 p0 v5 vb2_0 vb2_1 vb2_2 = some r := (lea229L0 qq) _ _ _ _ _ _ h
def e229 (qq : Nat) (p0 : Tm) : Option (List Tm × Tm × Int) :=
  e229L0 qq p0 0 p0.k p0.n p0.sub
theorem le229 (qq : Nat) {p0 : Tm} {r : List Tm × Tm × Int} (h : e229 qq p0 = some r) : g229 p0 = some r := by
  unfold e229 at h
  unfold g229
  exact (le229L0 qq h)

def e255L0 : Nat → (List Ent) → Int → (List Int) → Int → Int →  Option (Bool)
  | 0, _, _, _, _, _ => none
  | qq + 1, p0, p1, p2, p3, v13 =>
    if decide (v13 < (List.length p2 : Int)) = true then
      (gidx p2 v13) >>= fun x2 =>
      (e206 qq p0 x2 p3) >>= fun r4 =>
      if r4 = true then
        (gidx p0 x2) >>= fun x7 =>
        if (x7.fam != p1) = true then
          some false
        else
          if (x7.place != v13) = true then
            some false
          else
            e255L0 qq p0 p1 p2 p3 (w64 (v13 + 1))
      else
        some false
    else
      some true
theorem lea255L0 : ∀ qq : Nat, (∀ (p0 : List Ent) (p1 : Int) (p2 : List Int) (p3 : Int) (v13 : Int) (r : Bool), e255L0 qq p0 p1 p2 p3 v13 = some r → g255L0 p0 p1 p2 p3 v13 = some r) := by
  intro qq
  induction qq with
  | zero =>
      intro p0 p1 p2 p3 v13 r h
      rw [e255L0] at h
      cases h
  | succ qq ihg255L0 =>
      intro p0 p1 p2 p3 v13 r h
      rw [e255L0] at h
      rw [g255L0]
      rcases bcases (decide (v13 < (List.length p2 : Int))) with h1 | h1
      · replace h := ifT h1 h
        refine ifT' h1 ?_
        obtain ⟨x2, h3, h⟩ := obind h
        refine obind_mk h3 ?_
        obtain ⟨r4, h5, h⟩ := obind h
        refine obind_mk (le206 qq h5) ?_
        rcases bcases r4 with h6 | h6
        · replace h := ifT h6 h
          refine ifT' h6 ?_
          obtain ⟨x7, h8, h⟩ := obind h
          refine obind_mk h8 ?_
          rcases bcases (x7.fam != p1) with h9 | h9
          · replace h := ifT h9 h
            refine ifT' h9 ?_
            exact h
          · replace h := ifF h9 h
            refine ifF' h9 ?_
            rcases bcases (x7.place != v13) with h10 | h10
            · replace h := ifT h10 h
              refine ifT' h10 ?_
              exact h
            · replace h := ifF h10 h
              refine ifF' h10 ?_
              exact (ihg255L0 _ _ _ _ _ _ h)
        · replace h := ifF h6 h
          refine ifF' h6 ?_
          exact h
      · replace h := ifF h1 h
        refine ifF' h1 ?_
        exact h
theorem le255L0 (qq : Nat) {p0 : List Ent} {p1 : Int} {p2 : List Int} {p3 : Int} {v13 : Int} {r : Bool} (h : e255L0 qq p0 p1 p2 p3 v13 = some r) : g255L0 p0 p1 p2 p3 v13 = some r := (lea255L0 qq) _ _ _ _ _ _ h
def e255 (qq : Nat) (p0 : List Ent) (p1 : Int) (p2 : List Int) (p3 : Int) : Option (Bool) :=
  e255L0 qq p0 p1 p2 p3 0
theorem le255 (qq : Nat) {p0 : List Ent} {p1 : Int} {p2 : List Int} {p3 : Int} {r : Bool} (h : e255 qq p0 p1 p2 p3 = some r) : g255 p0 p1 p2 p3 = some r := by
  unfold e255 at h
  unfold g255
  exact (le255L0 qq h)

def e254L0 : Nat → (List Int) → Int → Int →  Option (Bool)
  | 0, _, _, _ => none
  | qq + 1, p0, p1, v9 =>
    if decide (v9 < (List.length p0 : Int)) = true then
      (gidx p0 v9) >>= fun x2 =>
      if (x2 != (w64 (p1 + v9))) = true then
        some false
      else
        e254L0 qq p0 p1 (w64 (v9 + 1))
    else
      some true
theorem lea254L0 : ∀ qq : Nat, (∀ (p0 : List Int) (p1 : Int) (v9 : Int) (r : Bool), e254L0 qq p0 p1 v9 = some r → g254L0 p0 p1 v9 = some r) := by
  intro qq
  induction qq with
  | zero =>
      intro p0 p1 v9 r h
      rw [e254L0] at h
      cases h
  | succ qq ihg254L0 =>
      intro p0 p1 v9 r h
      rw [e254L0] at h
      rw [g254L0]
      rcases bcases (decide (v9 < (List.length p0 : Int))) with h1 | h1
      · replace h := ifT h1 h
        refine ifT' h1 ?_
        obtain ⟨x2, h3, h⟩ := obind h
        refine obind_mk h3 ?_
        rcases bcases (x2 != (w64 (p1 + v9))) with h4 | h4
        · replace h := ifT h4 h
          refine ifT' h4 ?_
          exact h
        · replace h := ifF h4 h
          refine ifF' h4 ?_
          exact (ihg254L0 _ _ _ _ h)
      · replace h := ifF h1 h
        refine ifF' h1 ?_
        exact h
theorem le254L0 (qq : Nat) {p0 : List Int} {p1 : Int} {v9 : Int} {r : Bool} (h : e254L0 qq p0 p1 v9 = some r) : g254L0 p0 p1 v9 = some r := (lea254L0 qq) _ _ _ _ h
def e254 (qq : Nat) (p0 : List Int) (p1 : Int) : Option (Bool) :=
  e254L0 qq p0 p1 0
theorem le254 (qq : Nat) {p0 : List Int} {p1 : Int} {r : Bool} (h : e254 qq p0 p1 = some r) : g254 p0 p1 = some r := by
  unfold e254 at h
  unfold g254
  exact (le254L0 qq h)

def e217 (qq : Nat) (p0 : List Ent) (p1 : Int) : Option (Bool) :=
  (gidx p0 p1) >>= fun x1 =>
  if decide (x1.pars < 0) = true then
    some false
  else
    if decide (x1.inds < 0) = true then
      some false
    else
      if decide (x1.pars > 24) = true then
        some false
      else
        if decide (x1.inds > (w64 (24 - x1.pars))) = true then
          some false
        else
          if (x1.fam != 0) = true then
            some false
          else
            if (x1.place != 0) = true then
              some false
            else
              (e253 qq x1.body) >>= fun r9 =>
              if r9 = true then
                (e207 qq x1.type (w64 (x1.pars + x1.inds))) >>= fun r12 =>
                if (r12.2.2 != 0) = true then
                  some false
                else
                  if (r12.2.1.k != 2) = true then
                    some false
                  else
                    if (r12.2.1.n != x1.level) = true then
                      some false
                    else
                      if decide ((List.length x1.cons : Int) > 16) = true then
                        some false
                      else
                        (e254 qq x1.cons (w64 (p1 + 1))) >>= fun r18 =>
                        if r18 = true then
                          (e255 qq p0 p1 x1.cons 2) >>= fun r21 =>
                          if r21 = true then
                            if ((List.length x1.fields : Int) == 0) = true then
                              some true
                            else
                              if (x1.inds != 0) = true then
                                some false
                              else
                                if ((List.length x1.cons : Int) != 1) = true then
                                  some false
                                else
                                  (e254 qq x1.fields (w64 (p1 + 2))) >>= fun r27 =>
                                  if r27 = true then
                                    (e255 qq p0 p1 x1.fields 4) >>= fun r30 =>
                                    if r30 = true then
                                      (gidx p0 (w64 (p1 + 1))) >>= fun x33 =>
                                      (e229 qq x33.type) >>= fun r35 =>
                                      if (r35.2.2 == 0) = true then
                                        some ((List.length r35.1 : Int) == (w64 (x1.pars + (List.length x1.fields : Int))))
                                      else
                                        some false
                                    else
                                      some false
                                  else
                                    some false
                          else
                            some false
                        else
                          some false
              else
                some false
theorem le217 (qq : Nat) {p0 : List Ent} {p1 : Int} {r : Bool} (h : e217 qq p0 p1 = some r) : g217 p0 p1 = some r := by
  unfold e217 at h
  unfold g217
  obtain ⟨x1, h2, h⟩ := obind h
  refine obind_mk h2 ?_
  rcases bcases (decide (x1.pars < 0)) with h3 | h3
  · replace h := ifT h3 h
    refine ifT' h3 ?_
    exact h
  · replace h := ifF h3 h
    refine ifF' h3 ?_
    rcases bcases (decide (x1.inds < 0)) with h4 | h4
    · replace h := ifT h4 h
      refine ifT' h4 ?_
      exact h
    · replace h := ifF h4 h
      refine ifF' h4 ?_
      rcases bcases (decide (x1.pars > 24)) with h5 | h5
      · replace h := ifT h5 h
        refine ifT' h5 ?_
        exact h
      · replace h := ifF h5 h
        refine ifF' h5 ?_
        rcases bcases (decide (x1.inds > (w64 (24 - x1.pars)))) with h6 | h6
        · replace h := ifT h6 h
          refine ifT' h6 ?_
          exact h
        · replace h := ifF h6 h
          refine ifF' h6 ?_
          rcases bcases (x1.fam != 0) with h7 | h7
          · replace h := ifT h7 h
            refine ifT' h7 ?_
            exact h
          · replace h := ifF h7 h
            refine ifF' h7 ?_
            rcases bcases (x1.place != 0) with h8 | h8
            · replace h := ifT h8 h
              refine ifT' h8 ?_
              exact h
            · replace h := ifF h8 h
              refine ifF' h8 ?_
              obtain ⟨r9, h10, h⟩ := obind h
              refine obind_mk (le253 qq h10) ?_
              rcases bcases r9 with h11 | h11
              · replace h := ifT h11 h
                refine ifT' h11 ?_
                obtain ⟨r12, h13, h⟩ := obind h
                refine obind_mk (le207 qq h13) ?_
                rcases bcases (r12.2.2 != 0) with h14 | h14
                · replace h := ifT h14 h
                  refine ifT' h14 ?_
                  exact h
                · replace h := ifF h14 h
                  refine ifF' h14 ?_
                  rcases bcases (r12.2.1.k != 2) with h15 | h15
                  · replace h := ifT h15 h
                    refine ifT' h15 ?_
                    exact h
                  · replace h := ifF h15 h
                    refine ifF' h15 ?_
                    rcases bcases (r12.2.1.n != x1.level) with h16 | h16
                    · replace h := ifT h16 h
                      refine ifT' h16 ?_
                      exact h
                    · replace h := ifF h16 h
                      refine ifF' h16 ?_
                      rcases bcases (decide ((List.length x1.cons : Int) > 16)) with h17 | h17
                      · replace h := ifT h17 h
                        refine ifT' h17 ?_
                        exact h
                      · replace h := ifF h17 h
                        refine ifF' h17 ?_
                        obtain ⟨r18, h19, h⟩ := obind h
                        refine obind_mk (le254 qq h19) ?_
                        rcases bcases r18 with h20 | h20
                        · replace h := ifT h20 h
                          refine ifT' h20 ?_
                          obtain ⟨r21, h22, h⟩ := obind h
                          refine obind_mk (le255 qq h22) ?_
                          rcases bcases r21 with h23 | h23
                          · replace h := ifT h23 h
                            refine ifT' h23 ?_
                            rcases bcases ((List.length x1.fields : Int) == 0) with h24 | h24
                            · replace h := ifT h24 h
                              refine ifT' h24 ?_
                              exact h
                            · replace h := ifF h24 h
                              refine ifF' h24 ?_
                              rcases bcases (x1.inds != 0) with h25 | h25
                              · replace h := ifT h25 h
                                refine ifT' h25 ?_
                                exact h
                              · replace h := ifF h25 h
                                refine ifF' h25 ?_
                                rcases bcases ((List.length x1.cons : Int) != 1) with h26 | h26
                                · replace h := ifT h26 h
                                  refine ifT' h26 ?_
                                  exact h
                                · replace h := ifF h26 h
                                  refine ifF' h26 ?_
                                  obtain ⟨r27, h28, h⟩ := obind h
                                  refine obind_mk (le254 qq h28) ?_
                                  rcases bcases r27 with h29 | h29
                                  · replace h := ifT h29 h
                                    refine ifT' h29 ?_
                                    obtain ⟨r30, h31, h⟩ := obind h
                                    refine obind_mk (le255 qq h31) ?_
                                    rcases bcases r30 with h32 | h32
                                    · replace h := ifT h32 h
                                      refine ifT' h32 ?_
                                      obtain ⟨x33, h34, h⟩ := obind h
                                      refine obind_mk h34 ?_
                                      obtain ⟨r35, h36, h⟩ := obind h
                                      refine obind_mk (le229 qq h36) ?_
                                      rcases bcases (r35.2.2 == 0) with h37 | h37
                                      · replace h := ifT h37 h
                                        refine ifT' h37 ?_
                                        exact h
                                      · replace h := ifF h37 h
                                        refine ifF' h37 ?_
                                        exact h
                                    · replace h := ifF h32 h
                                      refine ifF' h32 ?_
                                      exact h
                                  · replace h := ifF h29 h
                                    refine ifF' h29 ?_
                                    exact h
                          · replace h := ifF h23 h
                            refine ifF' h23 ?_
                            exact h
                        · replace h := ifF h20 h
                          refine ifF' h20 ?_
                          exact h
              · replace h := ifF h11 h
                refine ifF' h11 ?_
                exact h

def e220 (qq : Nat) (p0 : List Ent) (p1 : Int) : Option (Bool) :=
  (gidx p0 p1) >>= fun x1 =>
  (e216 qq x1.body p1) >>= fun r3 =>
  if r3 = true then
    if (x1.fam == 0) = true then
      if (x1.place == 0) = true then
        if (x1.pars == 0) = true then
          if (x1.inds == 0) = true then
            if (x1.level == 0) = true then
              some ((w64 ((List.length x1.cons : Int) + (List.length x1.fields : Int))) == 0)
            else
              some false
          else
            some false
        else
          some false
      else
        some false
    else
      some false
  else
    some false
theorem le220 (qq : Nat) {p0 : List Ent} {p1 : Int} {r : Bool} (h : e220 qq p0 p1 = some r) : g220 p0 p1 = some r := by
  unfold e220 at h
  unfold g220
  obtain ⟨x1, h2, h⟩ := obind h
  refine obind_mk h2 ?_
  obtain ⟨r3, h4, h⟩ := obind h
  refine obind_mk (le216 qq h4) ?_
  rcases bcases r3 with h5 | h5
  · replace h := ifT h5 h
    refine ifT' h5 ?_
    rcases bcases (x1.fam == 0) with h6 | h6
    · replace h := ifT h6 h
      refine ifT' h6 ?_
      rcases bcases (x1.place == 0) with h7 | h7
      · replace h := ifT h7 h
        refine ifT' h7 ?_
        rcases bcases (x1.pars == 0) with h8 | h8
        · replace h := ifT h8 h
          refine ifT' h8 ?_
          rcases bcases (x1.inds == 0) with h9 | h9
          · replace h := ifT h9 h
            refine ifT' h9 ?_
            rcases bcases (x1.level == 0) with h10 | h10
            · replace h := ifT h10 h
              refine ifT' h10 ?_
              exact h
            · replace h := ifF h10 h
              refine ifF' h10 ?_
              exact h
          · replace h := ifF h9 h
            refine ifF' h9 ?_
            exact h
        · replace h := ifF h8 h
          refine ifF' h8 ?_
          exact h
      · replace h := ifF h7 h
        refine ifF' h7 ?_
        exact h
    · replace h := ifF h6 h
      refine ifF' h6 ?_
      exact h
  · replace h := ifF h5 h
    refine ifF' h5 ?_
    exact h

def e218 (qq : Nat) (p0 : List Ent) (p1 : Int) : Option (Bool) :=
  (gidx p0 p1) >>= fun x1 =>
  (e229 qq x1.type) >>= fun r3 =>
  (e256 qq p0 p1) >>= fun r5 =>
  if r5 = true then
    if (r3.2.2 == 0) = true then
      if decide ((List.length r3.1 : Int) ≥ x1.pars) = true then
        (gidx p0 x1.fam) >>= fun x10 =>
        (e257 qq r3.2.1 x1.fam x1.pars x10.inds (List.length r3.1 : Int)) >>= fun r12 =>
        some r12
      else
        some false
    else
      some false
  else
    some false
theorem le218 (qq : Nat) {p0 : List Ent} {p1 : Int} {r : Bool} (h : e218 qq p0 p1 = some r) : g218 p0 p1 = some r := by
  unfold e218 at h
  unfold g218
  obtain ⟨x1, h2, h⟩ := obind h
  refine obind_mk h2 ?_
  obtain ⟨r3, h4, h⟩ := obind h
  refine obind_mk (le229 qq h4) ?_
  obtain ⟨r5, h6, h⟩ := obind h
  refine obind_mk (le256 qq h6) ?_
  rcases bcases r5 with h7 | h7
  · replace h := ifT h7 h
    refine ifT' h7 ?_
    rcases bcases (r3.2.2 == 0) with h8 | h8
    · replace h := ifT h8 h
      refine ifT' h8 ?_
      rcases bcases (decide ((List.length r3.1 : Int) ≥ x1.pars)) with h9 | h9
      · replace h := ifT h9 h
        refine ifT' h9 ?_
        obtain ⟨x10, h11, h⟩ := obind h
        refine obind_mk h11 ?_
        obtain ⟨r12, h13, h⟩ := obind h
        refine obind_mk (le257 qq h13) ?_
        exact h
      · replace h := ifF h9 h
        refine ifF' h9 ?_
        exact h
    · replace h := ifF h8 h
      refine ifF' h8 ?_
      exact h
  · replace h := ifF h7 h
    refine ifF' h7 ?_
    exact h

def e174 (qq : Nat) (p0 : List Ent) (p1 : Int) : Option (Bool) :=
  (gidx p0 p1) >>= fun x1 =>
  (e215 qq x1.name) >>= fun r3 =>
  if r3 = true then
    (e216 qq x1.type p1) >>= fun r6 =>
    if r6 = true then
      if (x1.kind == 1) = true then
        (e217 qq p0 p1) >>= fun r10 =>
        some r10
      else
        if (x1.kind == 2) = true then
          (e218 qq p0 p1) >>= fun r13 =>
          some r13
        else
          if (x1.kind == 4) = true then
            (e219 qq p0 p1) >>= fun r16 =>
            some r16
          else
            if (x1.kind == 3) = true then
              (e220 qq p0 p1) >>= fun r19 =>
              some r19
            else
              some false
    else
      some false
  else
    some false
theorem le174 (qq : Nat) {p0 : List Ent} {p1 : Int} {r : Bool} (h : e174 qq p0 p1 = some r) : g174 p0 p1 = some r := by
  unfold e174 at h
  unfold g174
  obtain ⟨x1, h2, h⟩ := obind h
  refine obind_mk h2 ?_
  obtain ⟨r3, h4, h⟩ := obind h
  refine obind_mk (le215 qq h4) ?_
  rcases bcases r3 with h5 | h5
  · replace h := ifT h5 h
    refine ifT' h5 ?_
    obtain ⟨r6, h7, h⟩ := obind h
    refine obind_mk (le216 qq h7) ?_
    rcases bcases r6 with h8 | h8
    · replace h := ifT h8 h
      refine ifT' h8 ?_
      rcases bcases (x1.kind == 1) with h9 | h9
      · replace h := ifT h9 h
        refine ifT' h9 ?_
        obtain ⟨r10, h11, h⟩ := obind h
        refine obind_mk (le217 qq h11) ?_
        exact h
      · replace h := ifF h9 h
        refine ifF' h9 ?_
        rcases bcases (x1.kind == 2) with h12 | h12
        · replace h := ifT h12 h
          refine ifT' h12 ?_
          obtain ⟨r13, h14, h⟩ := obind h
          refine obind_mk (le218 qq h14) ?_
          exact h
        · replace h := ifF h12 h
          refine ifF' h12 ?_
          rcases bcases (x1.kind == 4) with h15 | h15
          · replace h := ifT h15 h
            refine ifT' h15 ?_
            obtain ⟨r16, h17, h⟩ := obind h
            refine obind_mk (le219 qq h17) ?_
            exact h
          · replace h := ifF h15 h
            refine ifF' h15 ?_
            rcases bcases (x1.kind == 3) with h18 | h18
            · replace h := ifT h18 h
              refine ifT' h18 ?_
              obtain ⟨r19, h20, h⟩ := obind h
              refine obind_mk (le220 qq h20) ?_
              exact h
            · replace h := ifF h18 h
              refine ifF' h18 ?_
              exact h
    · replace h := ifF h8 h
      refine ifF' h8 ?_
      exact h
  · replace h := ifF h5 h
    refine ifF' h5 ?_
    exact h

def e172L0 : Nat → (List ByteArray) → Int → (List (ByteArray × Int)) →  Option (Bool)
  | 0, _, _, _ => none
  | qq + 1, p0, v9, vb0_0 =>
    if decide (v9 < (List.length p0 : Int)) = true then
      (gidx p0 v9) >>= fun x2 =>
      if decide ((mget vb0_0 x2) > 0) = true then
        some false
      else
        e172L0 qq p0 (w64 (v9 + 1)) (mset vb0_0 x2 (w64 ((mget vb0_0 x2) + 1)))
    else
      some true
theorem lea172L0 : ∀ qq : Nat, (∀ (p0 : List ByteArray) (v9 : Int) (vb0_0 : List (ByteArray × Int)) (r : Bool), e172L0 qq p0 v9 vb0_0 = some r → g172L0 p0 v9 vb0_0 = some r) := by
  intro qq
  induction qq with
  | zero =>
      intro p0 v9 vb0_0 r h
      rw [e172L0] at h
      cases h
  | succ qq ihg172L0 =>
      intro p0 v9 vb0_0 r h
      rw [e172L0] at h
      rw [g172L0]
      rcases bcases (decide (v9 < (List.length p0 : Int))) with h1 | h1
      · replace h := ifT h1 h
        refine ifT' h1 ?_
        obtain ⟨x2, h3, h⟩ := obind h
        refine obind_mk h3 ?_
        rcases bcases (decide ((mget vb0_0 x2) > 0)) with h4 | h4
        · replace h := ifT h4 h
          refine ifT' h4 ?_
          exact h
        · replace h := ifF h4 h
          refine ifF' h4 ?_
          exact (ihg172L0 _ _ _ _ h)
      · replace h := ifF h1 h
        refine ifF' h1 ?_
        exact h
theorem le172L0 (qq : Nat) {p0 : List ByteArray} {v9 : Int} {vb0_0 : List (ByteArray × Int)} {r : Bool} (h : e172L0 qq p0 v9 vb0_0 = some r) : g172L0 p0 v9 vb0_0 = some r := (lea172L0 qq) _ _ _ _ h
def e172 (qq : Nat) (p0 : List ByteArray) : Option (Bool) :=
  e172L0 qq p0 0 ([] : List (ByteArray × Int))
theorem le172 (qq : Nat) {p0 : List ByteArray} {r : Bool} (h : e172 qq p0 = some r) : g172 p0 = some r := by
  unfold e172 at h
  unfold g172
  exact (le172L0 qq h)

def e113L0 : Nat → (List Ent) → Int →  Option (Bool)
  | 0, _, _ => none
  | qq + 1, p0, v15 =>
    if decide (v15 < (List.length p0 : Int)) = true then
      (e174 qq p0 v15) >>= fun r8 =>
      if r8 = true then
        e113L0 qq p0 (w64 (v15 + 1))
      else
        some false
    else
      some true
theorem lea113L0 : ∀ qq : Nat, (∀ (p0 : List Ent) (v15 : Int) (r : Bool), e113L0 qq p0 v15 = some r → g113L0 p0 v15 = some r) := by
  intro qq
  induction qq with
  | zero =>
      intro p0 v15 r h
      rw [e113L0] at h
      cases h
  | succ qq ihg113L0 =>
      intro p0 v15 r h
      rw [e113L0] at h
      rw [g113L0]
      rcases bcases (decide (v15 < (List.length p0 : Int))) with h7 | h7
      · replace h := ifT h7 h
        refine ifT' h7 ?_
        obtain ⟨r8, h9, h⟩ := obind h
        refine obind_mk (le174 qq h9) ?_
        rcases bcases r8 with h10 | h10
        · replace h := ifT h10 h
          refine ifT' h10 ?_
          exact (ihg113L0 _ _ _ h)
        · replace h := ifF h10 h
          refine ifF' h10 ?_
          exact h
      · replace h := ifF h7 h
        refine ifF' h7 ?_
        exact h
theorem le113L0 (qq : Nat) {p0 : List Ent} {v15 : Int} {r : Bool} (h : e113L0 qq p0 v15 = some r) : g113L0 p0 v15 = some r := (lea113L0 qq) _ _ _ h
def e113 (qq : Nat) (p0 : List Ent) : Option (Bool) :=
  if decide ((List.length p0 : Int) > 256) = true then
    some false
  else
    (e173 qq p0) >>= fun r2 =>
    (e172 qq r2) >>= fun r4 =>
    if r4 = true then
      e113L0 qq p0 0
    else
      some false
theorem le113 (qq : Nat) {p0 : List Ent} {r : Bool} (h : e113 qq p0 = some r) : g113 p0 = some r := by
  unfold e113 at h
  unfold g113
  rcases bcases (decide ((List.length p0 : Int) > 256)) with h1 | h1
  · replace h := ifT h1 h
    refine ifT' h1 ?_
    exact h
  · replace h := ifF h1 h
    refine ifF' h1 ?_
    obtain ⟨r2, h3, h⟩ := obind h
    refine obind_mk (le173 qq h3) ?_
    obtain ⟨r4, h5, h⟩ := obind h
    refine obind_mk (le172 qq h5) ?_
    rcases bcases r4 with h6 | h6
    · replace h := ifT h6 h
      refine ifT' h6 ?_
      exact (le113L0 qq h)
    · replace h := ifF h6 h
      refine ifF' h6 ?_
      exact h

def e230 (_n : Nat) (p0 : List Tm) : Option (List Tm) := g230 p0
theorem le230 (n : Nat) {p0 : List Tm} {r : List Tm} (h : e230 n p0 = some r) : g230 p0 = some r := h

def e231 (qq : Nat) (p0 : List Ent) (p1 : Tm) (p2 : Int) (p3 : Int) : Option (Rec') :=
  (e229 qq p1) >>= fun r1 =>
  (e135 qq r1.2.1) >>= fun r3 =>
  if (r1.2.2 != 0) = true then
    some (Rec'.mk false [] [])
  else
    if (r3.1.k != 6) = true then
      some (Rec'.mk false [] [])
    else
      if (r3.1.n != p2) = true then
        some (Rec'.mk false [] [])
      else
        (gidx p0 p2) >>= fun x8 =>
        (e257 qq r1.2.1 p2 x8.pars x8.inds (w64 (p3 + (List.length r1.1 : Int)))) >>= fun r10 =>
        if r10 = true then
          (gsl r3.2 x8.pars (List.length r3.2 : Int)) >>= fun x13 =>
          (e230 qq x13) >>= fun r15 =>
          some (Rec'.mk true r1.1 r15)
        else
          some (Rec'.mk false [] [])
theorem le231 (qq : Nat) {p0 : List Ent} {p1 : Tm} {p2 : Int} {p3 : Int} {r : Rec'} (h : e231 qq p0 p1 p2 p3 = some r) : g231 p0 p1 p2 p3 = some r := by
  unfold e231 at h
  unfold g231
  obtain ⟨r1, h2, h⟩ := obind h
  refine obind_mk (le229 qq h2) ?_
  obtain ⟨r3, h4, h⟩ := obind h
  refine obind_mk (le135 qq h4) ?_
  rcases bcases (r1.2.2 != 0) with h5 | h5
  · replace h := ifT h5 h
    refine ifT' h5 ?_
    exact h
  · replace h := ifF h5 h
    refine ifF' h5 ?_
    rcases bcases (r3.1.k != 6) with h6 | h6
    · replace h := ifT h6 h
      refine ifT' h6 ?_
      exact h
    · replace h := ifF h6 h
      refine ifF' h6 ?_
      rcases bcases (r3.1.n != p2) with h7 | h7
      · replace h := ifT h7 h
        refine ifT' h7 ?_
        exact h
      · replace h := ifF h7 h
        refine ifF' h7 ?_
        obtain ⟨x8, h9, h⟩ := obind h
        refine obind_mk h9 ?_
        obtain ⟨r10, h11, h⟩ := obind h
        refine obind_mk (le257 qq h11) ?_
        rcases bcases r10 with h12 | h12
        · replace h := ifT h12 h
          refine ifT' h12 ?_
          obtain ⟨x13, h14, h⟩ := obind h
          refine obind_mk h14 ?_
          obtain ⟨r15, h16, h⟩ := obind h
          refine obind_mk (le230 qq h16) ?_
          exact h
        · replace h := ifF h12 h
          refine ifF' h12 ?_
          exact h

def e184L0 : Nat → (List Ent) → Ent → (List Tm) → (List Tm) → Int → (List Rec') →  Option (Con')
  | 0, _, _, _, _, _, _ => none
  | qq + 1, p0, x1, x7, r11, v43, vb2_2 =>
    if decide (v43 < (List.length x7 : Int)) = true then
      (gidx x7 v43) >>= fun x14 =>
      (e231 qq p0 x14 x1.fam (w64 (x1.pars + v43))) >>= fun r16 =>
      (gapp 56 vb2_2 [r16]) >>= fun l18 =>
      e184L0 qq p0 x1 x7 r11 (w64 (v43 + 1)) l18
    else
      some (Con'.mk x7 r11 vb2_2)
theorem lea184L0 : ∀ qq : Nat, (∀ (p0 : List Ent) (x1 : Ent) (x7 : List Tm) (r11 : List Tm) (v43 : Int) (vb2_2 : List Rec') (r : Con'), e184L0 qq p0 x1 x7 r11 v43 vb2_2 = some r → g184L0 p0 x1 x7 r11 v43 vb2_2 = some r) := by
  intro qq
  induction qq with
  | zero =>
      intro p0 x1 x7 r11 v43 vb2_2 r h
      rw [e184L0] at h
      cases h
  | succ qq ihg184L0 =>
      intro p0 x1 x7 r11 v43 vb2_2 r h
      rw [e184L0] at h
      rw [g184L0]
      rcases bcases (decide (v43 < (List.length x7 : Int))) with h13 | h13
      · replace h := ifT h13 h
        refine ifT' h13 ?_
        obtain ⟨x14, h15, h⟩ := obind h
        refine obind_mk h15 ?_
        obtain ⟨r16, h17, h⟩ := obind h
        refine obind_mk (le231 qq h17) ?_
        obtain ⟨l18, h19, h⟩ := obind h
        refine obind_mk h19 ?_
        exact (ihg184L0 _ _ _ _ _ _ _ h)
      · replace h := ifF h13 h
        refine ifF' h13 ?_
        exact h
theorem le184L0 (qq : Nat) {p0 : List Ent} {x1 : Ent} {x7 : List Tm} {r11 : List Tm} {v43 : Int} {vb2_2 : List Rec'} {r : Con'} (h : e184L0 qq p0 x1 x7 r11 v43 vb2_2 = some r) : g184L0 p0 x1 x7 r11 v43 vb2_2 = some r := (lea184L0 qq) _ _ _ _ _ _ _ h
def e184 (qq : Nat) (p0 : List Ent) (p1 : Int) : Option (Con') :=
  (gidx p0 p1) >>= fun x1 =>
  (e229 qq x1.type) >>= fun r3 =>
  (e135 qq r3.2.1) >>= fun r5 =>
  (gsl r3.1 x1.pars (List.length r3.1 : Int)) >>= fun x7 =>
  (gsl r5.2 x1.pars (List.length r5.2 : Int)) >>= fun x9 =>
  (e230 qq x9) >>= fun r11 =>
  e184L0 qq p0 x1 x7 r11 0 []
theorem le184 (qq : Nat) {p0 : List Ent} {p1 : Int} {r : Con'} (h : e184 qq p0 p1 = some r) : g184 p0 p1 = some r := by
  unfold e184 at h
  unfold g184
  obtain ⟨x1, h2, h⟩ := obind h
  refine obind_mk h2 ?_
  obtain ⟨r3, h4, h⟩ := obind h
  refine obind_mk (le229 qq h4) ?_
  obtain ⟨r5, h6, h⟩ := obind h
  refine obind_mk (le135 qq h6) ?_
  obtain ⟨x7, h8, h⟩ := obind h
  refine obind_mk h8 ?_
  obtain ⟨x9, h10, h⟩ := obind h
  refine obind_mk h10 ?_
  obtain ⟨r11, h12, h⟩ := obind h
  refine obind_mk (le230 qq h12) ?_
  exact (le184L0 qq h)

def e123L0 : Nat → (List Ent) → (List Con') → Int → (List Con') →  Option ((List Con' × Int) ⊕ (List Con' × Int))
  | 0, _, _, _, _ => none
  | qq + 1, p0, x4, v14, vb0_0 =>
    if decide (v14 < (List.length p0 : Int)) = true then
      (gidx p0 v14) >>= fun x7 =>
      if (x7.kind == 2) = true then
        (e184 qq p0 v14) >>= fun r10 =>
        (gchk (List.length x4) v14) >>= fun x12 =>
        (gset vb0_0 x12 r10) >>= fun x14 =>
        e123L0 qq p0 x4 (w64 (v14 + 1)) x14
      else
        e123L0 qq p0 x4 (w64 (v14 + 1)) vb0_0
    else
      (gfz (List.length x4) vb0_0) >>= fun l16 =>
      some (Sum.inr (l16, 0))
theorem lea123L0 : ∀ qq : Nat, (∀ (p0 : List Ent) (x4 : List Con') (v14 : Int) (vb0_0 : List Con') (r : (List Con' × Int) ⊕ (List Con' × Int)), e123L0 qq p0 x4 v14 vb0_0 = some r → g123L0 p0 x4 v14 vb0_0 = some r) := by
  intro qq
  induction qq with
  | zero =>
      intro p0 x4 v14 vb0_0 r h
      rw [e123L0] at h
      cases h
  | succ qq ihg123L0 =>
      intro p0 x4 v14 vb0_0 r h
      rw [e123L0] at h
      rw [g123L0]
      rcases bcases (decide (v14 < (List.length p0 : Int))) with h6 | h6
      · replace h := ifT h6 h
        refine ifT' h6 ?_
        obtain ⟨x7, h8, h⟩ := obind h
        refine obind_mk h8 ?_
        rcases bcases (x7.kind == 2) with h9 | h9
        · replace h := ifT h9 h
          refine ifT' h9 ?_
          obtain ⟨r10, h11, h⟩ := obind h
          refine obind_mk (le184 qq h11) ?_
          obtain ⟨x12, h13, h⟩ := obind h
          refine obind_mk h13 ?_
          obtain ⟨x14, h15, h⟩ := obind h
          refine obind_mk h15 ?_
          exact (ihg123L0 _ _ _ _ _ h)
        · replace h := ifF h9 h
          refine ifF' h9 ?_
          exact (ihg123L0 _ _ _ _ _ h)
      · replace h := ifF h6 h
        refine ifF' h6 ?_
        obtain ⟨l16, h17, h⟩ := obind h
        refine obind_mk h17 ?_
        exact h
theorem le123L0 (qq : Nat) {p0 : List Ent} {x4 : List Con'} {v14 : Int} {vb0_0 : List Con'} {r : (List Con' × Int) ⊕ (List Con' × Int)} (h : e123L0 qq p0 x4 v14 vb0_0 = some r) : g123L0 p0 x4 v14 vb0_0 = some r := (lea123L0 qq) _ _ _ _ _ h
def e123 (qq : Nat) (p0 : List Ent) : Option ((List Con' × Int) ⊕ (List Con' × Int)) :=
  (e113 qq p0) >>= fun r1 =>
  if r1 = true then
    (gmk 72 (default : Con') (List.length p0 : Int)) >>= fun x4 =>
    e123L0 qq p0 x4 0 x4
  else
    some (Sum.inl ([], 5))
theorem le123 (qq : Nat) {p0 : List Ent} {r : (List Con' × Int) ⊕ (List Con' × Int)} (h : e123 qq p0 = some r) : g123 p0 = some r := by
  unfold e123 at h
  unfold g123
  obtain ⟨r1, h2, h⟩ := obind h
  refine obind_mk (le113 qq h2) ?_
  rcases bcases r1 with h3 | h3
  · replace h := ifT h3 h
    refine ifT' h3 ?_
    obtain ⟨x4, h5, h⟩ := obind h
    refine obind_mk h5 ?_
    exact (le123L0 qq h)
  · replace h := ifF h3 h
    refine ifF' h3 ?_
    exact h

def e56 (qq : Nat) (p0 : List Ent) : Option ((Int) ⊕ (Int × List Ent × List Con')) :=
  (e76 qq p0) >>= fun r1 =>
  (e113 qq p0) >>= fun r3 =>
  if r3 = true then
    (e123 qq r1) >>= fun r6 =>
    match r6 with
    | Sum.inl y8 =>
      if (y8.2 != 0) = true then
        some (Sum.inl y8.2)
      else
        some (Sum.inr (0, r1, y8.1))
    | Sum.inr y10 =>
      if (y10.2 != 0) = true then
        some (Sum.inl y10.2)
      else
        some (Sum.inr (0, r1, y10.1))
  else
    some (Sum.inl 5)
theorem le56 (qq : Nat) {p0 : List Ent} {r : (Int) ⊕ (Int × List Ent × List Con')} (h : e56 qq p0 = some r) : g56 p0 = some r := by
  unfold e56 at h
  unfold g56
  obtain ⟨r1, h2, h⟩ := obind h
  refine obind_mk (le76 qq h2) ?_
  obtain ⟨r3, h4, h⟩ := obind h
  refine obind_mk (le113 qq h4) ?_
  rcases bcases r3 with h5 | h5
  · replace h := ifT h5 h
    refine ifT' h5 ?_
    obtain ⟨r6, h7, h⟩ := obind h
    refine obind_mk (le123 qq h7) ?_
    rcases r6 with y8 | y10
    · dsimp only at h ⊢
      rcases bcases (y8.2 != 0) with h9 | h9
      · replace h := ifT h9 h
        refine ifT' h9 ?_
        exact h
      · replace h := ifF h9 h
        refine ifF' h9 ?_
        exact h
    · dsimp only at h ⊢
      rcases bcases (y10.2 != 0) with h11 | h11
      · replace h := ifT h11 h
        refine ifT' h11 ?_
        exact h
      · replace h := ifF h11 h
        refine ifF' h11 ?_
        exact h
  · replace h := ifF h5 h
    refine ifF' h5 ?_
    exact h

mutual
def e21L0 : Nat → (List Ent) → (Int × List Ent × List Con') → Int → (List Ent) → (List Int) → (List Int) →  Option ((Int) ⊕ (Int × List Ent × List Int × List Int × List Ent × List Con'))
  | 0, _, _, _, _, _, _ => none
  | qq + 1, p0, y3, v27, vb0_0, vb0_2, vb0_3 =>
    if decide (v27 < (List.length p0 : Int)) = true then
      (gidx p0 v27) >>= fun x8 =>
      if (x8.kind == 1) = true then
        (gapp 8 vb0_2 [(w64 ((w64 ((w64 (x8.pars + 2)) + (List.length x8.cons : Int))) + x8.inds))]) >>= fun l11 =>
        (gapp 8 vb0_3 [0]) >>= fun l13 =>
        e21L0 qq p0 y3 (w64 (v27 + 1)) vb0_0 l11 l13
      else
        if (x8.kind == 2) = true then
          e21L1 qq p0 y3 vb0_0 v27 vb0_2 vb0_3 0 x8.type.k x8.type.n x8.type.sub
        else
          (gapp 8 vb0_2 [0]) >>= fun l16 =>
          (gapp 8 vb0_3 [0]) >>= fun l18 =>
          e21L0 qq p0 y3 (w64 (v27 + 1)) vb0_0 l16 l18
    else
      some (Sum.inr (0, vb0_0, vb0_2, vb0_3, y3.2.1, y3.2.2))
def e21L1 : Nat → (List Ent) → (Int × List Ent × List Con') → (List Ent) → Int → (List Int) → (List Int) → Int → Int → Int → (List Tm) →  Option ((Int) ⊕ (Int × List Ent × List Int × List Int × List Ent × List Con'))
  | 0, _, _, _, _, _, _, _, _, _, _ => none
  | qq + 1, p0, y3, vb0_0, v27, vb0_2, vb0_3, v10, vb1_0, vb1_1, vb1_2 =>
    if (vb1_0 == 3) = true then
      (gidx vb1_2 1) >>= fun x17 =>
      e21L1 qq p0 y3 vb0_0 v27 vb0_2 vb0_3 (w64 (v10 + 1)) x17.k x17.n x17.sub
    else
      (gapp 8 vb0_2 [0]) >>= fun l19 =>
      (gapp 8 vb0_3 [v10]) >>= fun l21 =>
      e21L0 qq p0 y3 (w64 (v27 + 1)) vb0_0 l19 l21
end
theorem lea21L0_21L1 : ∀ qq : Nat, (∀ (p0 : List Ent) (y3 : Int × List Ent × List Con') (v27 : Int) (vb0_0 : List Ent) (vb0_2 : List Int) (vb0_3 : List Int) (r : (Int) ⊕ (Int × List Ent × List Int × List Int × List Ent × List Con')), e21L0 qq p0 y3 v27 vb0_0 vb0_2 vb0_3 = some r → g21L0 p0 y3 v27 vb0_0 vb0_2 vb0_3 = some r) ∧ (∀ (p0 : List Ent) (y3 : Int × List Ent × List Con') (vb0_0 : List Ent) (v27 : Int) (vb0_2 : List Int) (vb0_3 : List Int) (v10 : Int) (vb1_0 : Int) (vb1_1 : Int) (vb1_2 : List Tm) (r : (Int) ⊕ (Int × List Ent × List Int × List Int × List Ent × List Con')), e21L1 qq p0 y3 vb0_0 v27 vb0_2 vb0_3 v10 vb1_0 vb1_1 vb1_2 = some r → g21L1 p0 y3 vb0_0 v27 vb0_2 vb0_3 v10 vb1_0 vb1_1 vb1_2 = some r) := by
  intro qq
  induction qq with
  | zero =>
    refine ⟨?_, ?_⟩
    · intro p0 y3 v27 vb0_0 vb0_2 vb0_3 r h
      rw [e21L0] at h
      cases h
    · intro p0 y3 vb0_0 v27 vb0_2 vb0_3 v10 vb1_0 vb1_1 vb1_2 r h
      rw [e21L1] at h
      cases h
  | succ qq ih =>
    obtain ⟨ihg21L0, ihg21L1⟩ := ih
    refine ⟨?_, ?_⟩
    · intro p0 y3 v27 vb0_0 vb0_2 vb0_3 r h
      rw [e21L0] at h
      rw [g21L0]
      rcases bcases (decide (v27 < (List.length p0 : Int))) with h7 | h7
      · replace h := ifT h7 h
        refine ifT' h7 ?_
        obtain ⟨x8, h9, h⟩ := obind h
        refine obind_mk h9 ?_
        rcases bcases (x8.kind == 1) with h10 | h10
        · replace h := ifT h10 h
          refine ifT' h10 ?_
          obtain ⟨l11, h12, h⟩ := obind h
          refine obind_mk h12 ?_
          obtain ⟨l13, h14, h⟩ := obind h
          refine obind_mk h14 ?_
          exact (ihg21L0 _ _ _ _ _ _ _ h)
        · replace h := ifF h10 h
          refine ifF' h10 ?_
          rcases bcases (x8.kind == 2) with h15 | h15
          · replace h := ifT h15 h
            refine ifT' h15 ?_
            exact (ihg21L1 _ _ _ _ _ _ _ _ _ _ _ h)
          · replace h := ifF h15 h
            refine ifF' h15 ?_
            obtain ⟨l16, h17, h⟩ := obind h
            refine obind_mk h17 ?_
            obtain ⟨l18, h19, h⟩ := obind h
            refine obind_mk h19 ?_
            exact (ihg21L0 _ _ _ _ _ _ _ h)
      · replace h := ifF h7 h
        refine ifF' h7 ?_
        exact h
    · intro p0 y3 vb0_0 v27 vb0_2 vb0_3 v10 vb1_0 vb1_1 vb1_2 r h
      rw [e21L1] at h
      rw [g21L1]
      rcases bcases (vb1_0 == 3) with h16 | h16
      · replace h := ifT h16 h
        refine ifT' h16 ?_
        obtain ⟨x17, h18, h⟩ := obind h
        refine obind_mk h18 ?_
        exact (ihg21L1 _ _ _ _ _ _ _ _ _ _ _ h)
      · replace h := ifF h16 h
        refine ifF' h16 ?_
        obtain ⟨l19, h20, h⟩ := obind h
        refine obind_mk h20 ?_
        obtain ⟨l21, h22, h⟩ := obind h
        refine obind_mk h22 ?_
        exact (ihg21L0 _ _ _ _ _ _ _ h)
theorem le21L0 (qq : Nat) {p0 : List Ent} {y3 : Int × List Ent × List Con'} {v27 : Int} {vb0_0 : List Ent} {vb0_2 : List Int} {vb0_3 : List Int} {r : (Int) ⊕ (Int × List Ent × List Int × List Int × List Ent × List Con')} (h : e21L0 qq p0 y3 v27 vb0_0 vb0_2 vb0_3 = some r) : g21L0 p0 y3 v27 vb0_0 vb0_2 vb0_3 = some r := (lea21L0_21L1 qq).1 _ _ _ _ _ _ _ h
theorem le21L1 (qq : Nat) {p0 : List Ent} {y3 : Int × List Ent × List Con'} {vb0_0 : List Ent} {v27 : Int} {vb0_2 : List Int} {vb0_3 : List Int} {v10 : Int} {vb1_0 : Int} {vb1_1 : Int} {vb1_2 : List Tm} {r : (Int) ⊕ (Int × List Ent × List Int × List Int × List Ent × List Con')} (h : e21L1 qq p0 y3 vb0_0 v27 vb0_2 vb0_3 v10 vb1_0 vb1_1 vb1_2 = some r) : g21L1 p0 y3 vb0_0 v27 vb0_2 vb0_3 v10 vb1_0 vb1_1 vb1_2 = some r := (lea21L0_21L1 qq).2 _ _ _ _ _ _ _ _ _ _ _ h
def e21 (qq : Nat) (p0 : List Ent) : Option ((Int) ⊕ (Int × List Ent × List Int × List Int × List Ent × List Con')) :=
  (e56 qq p0) >>= fun r1 =>
  match r1 with
  | Sum.inl y7 =>
    if (y7 != 0) = true then
      some (Sum.inl y7)
    else
      none
  | Sum.inr y3 =>
    if (y3.1 != 0) = true then
      some (Sum.inl y3.1)
    else
      (e76 qq p0) >>= fun r5 =>
      e21L0 qq p0 y3 0 r5 [] []
theorem le21 (qq : Nat) {p0 : List Ent} {r : (Int) ⊕ (Int × List Ent × List Int × List Int × List Ent × List Con')} (h : e21 qq p0 = some r) : g21 p0 = some r := by
  unfold e21 at h
  unfold g21
  obtain ⟨r1, h2, h⟩ := obind h
  refine obind_mk (le56 qq h2) ?_
  rcases r1 with y7 | y3
  · dsimp only at h ⊢
    rcases bcases (y7 != 0) with h8 | h8
    · replace h := ifT h8 h
      refine ifT' h8 ?_
      exact h
    · replace h := ifF h8 h
      refine ifF' h8 ?_
      cases h
  · dsimp only at h ⊢
    rcases bcases (y3.1 != 0) with h4 | h4
    · replace h := ifT h4 h
      refine ifT' h4 ?_
      exact h
    · replace h := ifF h4 h
      refine ifF' h4 ?_
      obtain ⟨r5, h6, h⟩ := obind h
      refine obind_mk (le76 qq h6) ?_
      exact (le21L0 qq h)

def e69v0 (qq : Nat) (p1 : Int) (fl : Int) (fu : Int) : Option (Int) :=
  some p1
theorem le69v0 (qq : Nat) {p1 : Int} {fl : Int} {fu : Int} {r : Int} (h : e69v0 qq p1 fl fu = some r) : g69v0 p1 fl fu = some r := by
  unfold e69v0 at h
  unfold g69v0
  exact h

def e15 (qq : Nat) (p0 : Int) : Option ((Int) ⊕ (Int × Int × Int)) :=
  if decide (p0 < 0) = true then
    some (Sum.inl 5)
  else
    if decide (p0 > 1048576) = true then
      some (Sum.inl 5)
    else
      (e69v0 qq p0 0 0) >>= fun r3 =>
      some (Sum.inr (0, r3, 0))
theorem le15 (qq : Nat) {p0 : Int} {r : (Int) ⊕ (Int × Int × Int)} (h : e15 qq p0 = some r) : g15 p0 = some r := by
  unfold e15 at h
  unfold g15
  rcases bcases (decide (p0 < 0)) with h1 | h1
  · replace h := ifT h1 h
    refine ifT' h1 ?_
    exact h
  · replace h := ifF h1 h
    refine ifF' h1 ?_
    rcases bcases (decide (p0 > 1048576)) with h2 | h2
    · replace h := ifT h2 h
      refine ifT' h2 ?_
      exact h
    · replace h := ifF h2 h
      refine ifF' h2 ?_
      obtain ⟨r3, h4, h⟩ := obind h
      refine obind_mk (le69v0 qq h4) ?_
      exact h

def e151vz (qq : Nat) (p1 : List Tm) (cx : List Tm) (ny : List Int) (ty : List Tm) : Option (Bool) :=
  some false
theorem le151vz (qq : Nat) {p1 : List Tm} {cx : List Tm} {ny : List Int} {ty : List Tm} {r : Bool} (h : e151vz qq p1 cx ny ty = some r) : g151vz p1 cx ny ty = some r := by
  unfold e151vz at h
  unfold g151vz
  exact h

def e87vz (qq : Nat) (p1 : List Tm) (cx : List Tm) (ny : List Int) (ty : List Tm) : Option (Int) :=
  (e151vz qq p1 cx ny ty) >>= fun r1 =>
  if r1 = true then
    (e151vz qq cx cx ny ty) >>= fun r4 =>
    if r4 = true then
      (e151vz qq ty cx ny ty) >>= fun r7 =>
      if r7 = true then
        none
      else
        some 5
    else
      some 5
  else
    some 5
theorem le87vz (qq : Nat) {p1 : List Tm} {cx : List Tm} {ny : List Int} {ty : List Tm} {r : Int} (h : e87vz qq p1 cx ny ty = some r) : g87vz p1 cx ny ty = some r := by
  unfold e87vz at h
  unfold g87vz
  obtain ⟨r1, h2, h⟩ := obind h
  refine obind_mk (le151vz qq h2) ?_
  rcases bcases r1 with h3 | h3
  · replace h := ifT h3 h
    refine ifT' h3 ?_
    obtain ⟨r4, h5, h⟩ := obind h
    refine obind_mk (le151vz qq h5) ?_
    rcases bcases r4 with h6 | h6
    · replace h := ifT h6 h
      refine ifT' h6 ?_
      obtain ⟨r7, h8, h⟩ := obind h
      refine obind_mk (le151vz qq h8) ?_
      rcases bcases r7 with h9 | h9
      · replace h := ifT h9 h
        refine ifT' h9 ?_
        cases h
      · replace h := ifF h9 h
        refine ifF' h9 ?_
        exact h
    · replace h := ifF h6 h
      refine ifF' h6 ?_
      exact h
  · replace h := ifF h3 h
    refine ifF' h3 ?_
    exact h

def e32vz (qq : Nat) (p1 : Tm) (cx : List Tm) (ny : List Int) (ty : List Tm) : Option (Tm × Int) :=
  (e87vz qq [p1] cx ny ty) >>= fun r1 =>
  if (r1 != 0) = true then
    some ((Tm.mk 0 0 []), r1)
  else
    none
theorem le32vz (qq : Nat) {p1 : Tm} {cx : List Tm} {ny : List Int} {ty : List Tm} {r : Tm × Int} (h : e32vz qq p1 cx ny ty = some r) : g32vz p1 cx ny ty = some r := by
  unfold e32vz at h
  unfold g32vz
  obtain ⟨r1, h2, h⟩ := obind h
  refine obind_mk (le87vz qq h2) ?_
  rcases bcases (r1 != 0) with h3 | h3
  · replace h := ifT h3 h
    refine ifT' h3 ?_
    exact h
  · replace h := ifF h3 h
    refine ifF' h3 ?_
    cases h

def e20 (qq : Nat) (M : Mach) : Option (List Ent) :=
  (e76 qq M.l) >>= fun r1 =>
  some r1
theorem le20 (qq : Nat) {M : Mach} {r : List Ent} (h : e20 qq M = some r) : g20 M = some r := by
  unfold e20 at h
  unfold g20
  obtain ⟨r1, h2, h⟩ := obind h
  refine obind_mk (le76 qq h2) ?_
  exact h

def e19 (qq : Nat) (M : Mach) : Option (Int) :=
  some (List.length M.l : Int)
theorem le19 (qq : Nat) {M : Mach} {r : Int} (h : e19 qq M = some r) : g19 M = some r := by
  unfold e19 at h
  unfold g19
  exact h

def e151vnL0 : Nat → (List Tm) → Mach → (List Tm) → (List Int) → (List Tm) → Int →  Option (Bool)
  | 0, _, _, _, _, _, _ => none
  | qq + 1, p1, M, cx, ny, ty, v21 =>
    if decide (v21 < (List.length p1 : Int)) = true then
      (gidx p1 v21) >>= fun x3 =>
      (e19 qq M) >>= fun r5 =>
      (e133 qq x3 1048577 r5) >>= fun r7 =>
      if r7 = true then
        e151vnL0 qq p1 M cx ny ty (w64 (v21 + 1))
      else
        some false
    else
      some true
theorem lea151vnL0 : ∀ qq : Nat, (∀ (p1 : List Tm) (M : Mach) (cx : List Tm) (ny : List Int) (ty : List Tm) (v21 : Int) (r : Bool), e151vnL0 qq p1 M cx ny ty v21 = some r → g151vnL0 p1 M cx ny ty v21 = some r) := by
  intro qq
  induction qq with
  | zero =>
      intro p1 M cx ny ty v21 r h
      rw [e151vnL0] at h
      cases h
  | succ qq ihg151vnL0 =>
      intro p1 M cx ny ty v21 r h
      rw [e151vnL0] at h
      rw [g151vnL0]
      rcases bcases (decide (v21 < (List.length p1 : Int))) with h2 | h2
      · replace h := ifT h2 h
        refine ifT' h2 ?_
        obtain ⟨x3, h4, h⟩ := obind h
        refine obind_mk h4 ?_
        obtain ⟨r5, h6, h⟩ := obind h
        refine obind_mk (le19 qq h6) ?_
        obtain ⟨r7, h8, h⟩ := obind h
        refine obind_mk (le133 qq h8) ?_
        rcases bcases r7 with h9 | h9
        · replace h := ifT h9 h
          refine ifT' h9 ?_
          exact (ihg151vnL0 _ _ _ _ _ _ _ h)
        · replace h := ifF h9 h
          refine ifF' h9 ?_
          exact h
      · replace h := ifF h2 h
        refine ifF' h2 ?_
        exact h
theorem le151vnL0 (qq : Nat) {p1 : List Tm} {M : Mach} {cx : List Tm} {ny : List Int} {ty : List Tm} {v21 : Int} {r : Bool} (h : e151vnL0 qq p1 M cx ny ty v21 = some r) : g151vnL0 p1 M cx ny ty v21 = some r := (lea151vnL0 qq) _ _ _ _ _ _ _ h
def e151vn (qq : Nat) (p1 : List Tm) (M : Mach) (cx : List Tm) (ny : List Int) (ty : List Tm) : Option (Bool) :=
  if ((List.length ny : Int) != (List.length ty : Int)) = true then
    some false
  else
    e151vnL0 qq p1 M cx ny ty 0
theorem le151vn (qq : Nat) {p1 : List Tm} {M : Mach} {cx : List Tm} {ny : List Int} {ty : List Tm} {r : Bool} (h : e151vn qq p1 M cx ny ty = some r) : g151vn p1 M cx ny ty = some r := by
  unfold e151vn at h
  unfold g151vn
  rcases bcases ((List.length ny : Int) != (List.length ty : Int)) with h1 | h1
  · replace h := ifT h1 h
    refine ifT' h1 ?_
    exact h
  · replace h := ifF h1 h
    refine ifF' h1 ?_
    exact (le151vnL0 qq h)

def e87vn (qq : Nat) (p1 : List Tm) (M : Mach) (cx : List Tm) (ny : List Int) (ty : List Tm) : Option ((Int × List Tm × List Int × List Tm × List Ent) ⊕ (Int)) :=
  (e151vn qq p1 M cx ny ty) >>= fun r1 =>
  if r1 = true then
    (e151vn qq cx M cx ny ty) >>= fun r4 =>
    if r4 = true then
      (e151vn qq ty M cx ny ty) >>= fun r7 =>
      if r7 = true then
        (e20 qq M) >>= fun r10 =>
        some (Sum.inl (0, cx, ny, ty, r10))
      else
        some (Sum.inr 5)
    else
      some (Sum.inr 5)
  else
    some (Sum.inr 5)
theorem le87vn (qq : Nat) {p1 : List Tm} {M : Mach} {cx : List Tm} {ny : List Int} {ty : List Tm} {r : (Int × List Tm × List Int × List Tm × List Ent) ⊕ (Int)} (h : e87vn qq p1 M cx ny ty = some r) : g87vn p1 M cx ny ty = some r := by
  unfold e87vn at h
  unfold g87vn
  obtain ⟨r1, h2, h⟩ := obind h
  refine obind_mk (le151vn qq h2) ?_
  rcases bcases r1 with h3 | h3
  · replace h := ifT h3 h
    refine ifT' h3 ?_
    obtain ⟨r4, h5, h⟩ := obind h
    refine obind_mk (le151vn qq h5) ?_
    rcases bcases r4 with h6 | h6
    · replace h := ifT h6 h
      refine ifT' h6 ?_
      obtain ⟨r7, h8, h⟩ := obind h
      refine obind_mk (le151vn qq h8) ?_
      rcases bcases r7 with h9 | h9
      · replace h := ifT h9 h
        refine ifT' h9 ?_
        obtain ⟨r10, h11, h⟩ := obind h
        refine obind_mk (le20 qq h11) ?_
        exact h
      · replace h := ifF h9 h
        refine ifF' h9 ?_
        exact h
    · replace h := ifF h6 h
      refine ifF' h6 ?_
      exact h
  · replace h := ifF h3 h
    refine ifF' h3 ?_
    exact h

def e152vn (qq : Nat) (p1 : Int) (M : Mach) (yl : List Ent) (cx : List Tm) (ny : List Int) (ty : List Tm) : Option (Tm × Int) :=
  none
theorem le152vn (qq : Nat) {p1 : Int} {M : Mach} {yl : List Ent} {cx : List Tm} {ny : List Int} {ty : List Tm} {r : Tm × Int} (h : e152vn qq p1 M yl cx ny ty = some r) : g152vn p1 M yl cx ny ty = some r := by
  unfold e152vn at h
  unfold g152vn
  cases h

def e203 (qq : Nat) (p0 : Int) (p1 : Int) (p2 : List Tm) : Option (Tm) :=
  some (Tm.mk p0 p1 p2)
theorem le203 (qq : Nat) {p0 : Int} {p1 : Int} {p2 : List Tm} {r : Tm} (h : e203 qq p0 p1 p2 = some r) : g203 p0 p1 p2 = some r := by
  unfold e203 at h
  unfold g203
  exact h

def e154 (qq : Nat) (p0 : Int) : Option (Tm) :=
  (e203 qq 2 p0 []) >>= fun r1 =>
  some r1
theorem le154 (qq : Nat) {p0 : Int} {r : Tm} (h : e154 qq p0 = some r) : g154 p0 = some r := by
  unfold e154 at h
  unfold g154
  obtain ⟨r1, h2, h⟩ := obind h
  refine obind_mk (le203 qq h2) ?_
  exact h

def e153vn (qq : Nat) (p1 : Int) (M : Mach) (yl : List Ent) (cx : List Tm) (ny : List Int) (ty : List Tm) : Option (Tm × Int) :=
  none
theorem le153vn (qq : Nat) {p1 : Int} {M : Mach} {yl : List Ent} {cx : List Tm} {ny : List Int} {ty : List Tm} {r : Tm × Int} (h : e153vn qq p1 M yl cx ny ty = some r) : g153vn p1 M yl cx ny ty = some r := by
  unfold e153vn at h
  unfold g153vn
  cases h

def e103 (qq : Nat) (p0 : List Ent) (p1 : Int) (p2 : Int) : Option (Tm × Int) :=
  none
theorem le103 (qq : Nat) {p0 : List Ent} {p1 : Int} {p2 : Int} {r : Tm × Int} (h : e103 qq p0 p1 p2 = some r) : g103 p0 p1 p2 = some r := by
  unfold e103 at h
  unfold g103
  cases h

def e193vn (qq : Nat) (p1 : Int) : Option (Int) :=
  some 8
theorem le193vn (qq : Nat) {p1 : Int} {r : Int} (h : e193vn qq p1 = some r) : g193vn p1 = some r := by
  unfold e193vn at h
  unfold g193vn
  exact h

def e141vn (qq : Nat)  : Option (Int) :=
  (e193vn qq 1) >>= fun r1 =>
  some r1
theorem le141vn (qq : Nat)  {r : Int} (h : e141vn qq  = some r) : g141vn  = some r := by
  unfold e141vn at h
  unfold g141vn
  obtain ⟨r1, h2, h⟩ := obind h
  refine obind_mk (le193vn qq h2) ?_
  exact h

def e155vn (qq : Nat) (p1 : Tm) (M : Mach) (yl : List Ent) (cx : List Tm) (ny : List Int) (ty : List Tm) : Option (Tm × Int) :=
  none
theorem le155vn (qq : Nat) {p1 : Tm} {M : Mach} {yl : List Ent} {cx : List Tm} {ny : List Int} {ty : List Tm} {r : Tm × Int} (h : e155vn qq p1 M yl cx ny ty = some r) : g155vn p1 M yl cx ny ty = some r := by
  unfold e155vn at h
  unfold g155vn
  cases h
def e156vn (qq : Nat) (p1 : Tm) (M : Mach) (yl : List Ent) (cx : List Tm) (ny : List Int) (ty : List Tm) : Option (Tm × Int) :=
  none
theorem le156vn (qq : Nat) {p1 : Tm} {M : Mach} {yl : List Ent} {cx : List Tm} {ny : List Int} {ty : List Tm} {r : Tm × Int} (h : e156vn qq p1 M yl cx ny ty = some r) : g156vn p1 M yl cx ny ty = some r := by
  unfold e156vn at h
  unfold g156vn
  cases h
mutual
def e88vn : Nat → Tm → Mach → (List Ent) → (List Tm) → (List Int) → (List Tm) →  Option (Tm × Int)
  | 0, _, _, _, _, _, _ => none
  | qq + 1, p1, M, yl, cx, ny, ty =>
    if (p1.k == 1) = true then
      (e152vn qq p1.n M yl cx ny ty) >>= fun r2 =>
      some (r2.1, r2.2)
    else
      if (p1.k == 8) = true then
        (e153vn qq p1.n M yl cx ny ty) >>= fun r5 =>
        some (r5.1, r5.2)
      else
        if (p1.k == 6) = true then
          (gidx yl p1.n) >>= fun x8 =>
          some (x8.type, 0)
        else
          if (p1.k == 7) = true then
            (gidx p1.sub 0) >>= fun x11 =>
            (e103 qq yl p1.n x11.n) >>= fun r13 =>
            some (r13.1, r13.2)
          else
            if (p1.k == 2) = true then
              if decide (p1.n ≥ 7) = true then
                some ((Tm.mk 0 0 []), 7)
              else
                (e154 qq (w64 (p1.n + 1))) >>= fun r17 =>
                some (r17, 0)
            else
              if (p1.k == 3) = true then
                (e155vn qq p1 M yl cx ny ty) >>= fun r20 =>
                some (r20.1, r20.2)
              else
                if (p1.k == 4) = true then
                  (e156vn qq p1 M yl cx ny ty) >>= fun r23 =>
                  some (r23.1, r23.2)
                else
                  (e157vn qq p1 M yl cx ny ty) >>= fun r25 =>
                  some (r25.1, r25.2)
def e157vn : Nat → Tm → Mach → (List Ent) → (List Tm) → (List Int) → (List Tm) →  Option (Tm × Int)
  | 0, _, _, _, _, _, _ => none
  | qq + 1, p1, M, yl, cx, ny, ty =>
    (e141vn qq) >>= fun r1 =>
    if (r1 != 0) = true then
      some ((Tm.mk 0 0 []), r1)
    else
      (gidx p1.sub 0) >>= fun x4 =>
      (e88vn qq x4 M yl cx ny ty) >>= fun r6 =>
      if (r6.2 != 0) = true then
        some ((Tm.mk 0 0 []), r6.2)
      else
        none
end
theorem lea88vn_157vn : ∀ qq : Nat, (∀ (p1 : Tm) (M : Mach) (yl : List Ent) (cx : List Tm) (ny : List Int) (ty : List Tm) (r : Tm × Int), e88vn qq p1 M yl cx ny ty = some r → g88vn p1 M yl cx ny ty = some r) ∧ (∀ (p1 : Tm) (M : Mach) (yl : List Ent) (cx : List Tm) (ny : List Int) (ty : List Tm) (r : Tm × Int), e157vn qq p1 M yl cx ny ty = some r → g157vn p1 M yl cx ny ty = some r) := by
  intro qq
  induction qq with
  | zero =>
    refine ⟨?_, ?_⟩
    · intro p1 M yl cx ny ty r h
      rw [e88vn] at h
      cases h
    · intro p1 M yl cx ny ty r h
      rw [e157vn] at h
      cases h
  | succ qq ih =>
    obtain ⟨ihg88vn, ihg157vn⟩ := ih
    refine ⟨?_, ?_⟩
    · intro p1 M yl cx ny ty r h
      rw [e88vn] at h
      rw [g88vn]
      rcases bcases (p1.k == 1) with h1 | h1
      · replace h := ifT h1 h
        refine ifT' h1 ?_
        obtain ⟨r2, h3, h⟩ := obind h
        refine obind_mk (le152vn qq h3) ?_
        exact h
      · replace h := ifF h1 h
        refine ifF' h1 ?_
        rcases bcases (p1.k == 8) with h4 | h4
        · replace h := ifT h4 h
          refine ifT' h4 ?_
          obtain ⟨r5, h6, h⟩ := obind h
          refine obind_mk (le153vn qq h6) ?_
          exact h
        · replace h := ifF h4 h
          refine ifF' h4 ?_
          rcases bcases (p1.k == 6) with h7 | h7
          · replace h := ifT h7 h
            refine ifT' h7 ?_
            obtain ⟨x8, h9, h⟩ := obind h
            refine obind_mk h9 ?_
            exact h
          · replace h := ifF h7 h
            refine ifF' h7 ?_
            rcases bcases (p1.k == 7) with h10 | h10
            · replace h := ifT h10 h
              refine ifT' h10 ?_
              obtain ⟨x11, h12, h⟩ := obind h
              refine obind_mk h12 ?_
              obtain ⟨r13, h14, h⟩ := obind h
              refine obind_mk (le103 qq h14) ?_
              exact h
            · replace h := ifF h10 h
              refine ifF' h10 ?_
              rcases bcases (p1.k == 2) with h15 | h15
              · replace h := ifT h15 h
                refine ifT' h15 ?_
                rcases bcases (decide (p1.n ≥ 7)) with h16 | h16
                · replace h := ifT h16 h
                  refine ifT' h16 ?_
                  exact h
                · replace h := ifF h16 h
                  refine ifF' h16 ?_
                  obtain ⟨r17, h18, h⟩ := obind h
                  refine obind_mk (le154 qq h18) ?_
                  exact h
              · replace h := ifF h15 h
                refine ifF' h15 ?_
                rcases bcases (p1.k == 3) with h19 | h19
                · replace h := ifT h19 h
                  refine ifT' h19 ?_
                  obtain ⟨r20, h21, h⟩ := obind h
                  refine obind_mk (le155vn qq h21) ?_
                  exact h
                · replace h := ifF h19 h
                  refine ifF' h19 ?_
                  rcases bcases (p1.k == 4) with h22 | h22
                  · replace h := ifT h22 h
                    refine ifT' h22 ?_
                    obtain ⟨r23, h24, h⟩ := obind h
                    refine obind_mk (le156vn qq h24) ?_
                    exact h
                  · replace h := ifF h22 h
                    refine ifF' h22 ?_
                    obtain ⟨r25, h26, h⟩ := obind h
                    refine obind_mk (ihg157vn _ _ _ _ _ _ _ h26) ?_
                    exact h
    · intro p1 M yl cx ny ty r h
      rw [e157vn] at h
      rw [g157vn]
      obtain ⟨r1, h2, h⟩ := obind h
      refine obind_mk (le141vn qq h2) ?_
      rcases bcases (r1 != 0) with h3 | h3
      · replace h := ifT h3 h
        refine ifT' h3 ?_
        exact h
      · replace h := ifF h3 h
        refine ifF' h3 ?_
        obtain ⟨x4, h5, h⟩ := obind h
        refine obind_mk h5 ?_
        obtain ⟨r6, h7, h⟩ := obind h
        refine obind_mk (ihg88vn _ _ _ _ _ _ _ h7) ?_
        rcases bcases (r6.2 != 0) with h8 | h8
        · replace h := ifT h8 h
          refine ifT' h8 ?_
          exact h
        · replace h := ifF h8 h
          refine ifF' h8 ?_
          cases h
theorem le88vn (qq : Nat) {p1 : Tm} {M : Mach} {yl : List Ent} {cx : List Tm} {ny : List Int} {ty : List Tm} {r : Tm × Int} (h : e88vn qq p1 M yl cx ny ty = some r) : g88vn p1 M yl cx ny ty = some r := (lea88vn_157vn qq).1 _ _ _ _ _ _ _ h
theorem le157vn (qq : Nat) {p1 : Tm} {M : Mach} {yl : List Ent} {cx : List Tm} {ny : List Int} {ty : List Tm} {r : Tm × Int} (h : e157vn qq p1 M yl cx ny ty = some r) : g157vn p1 M yl cx ny ty = some r := (lea88vn_157vn qq).2 _ _ _ _ _ _ _ h
def e89vn (qq : Nat) (p1 : Tm) (M : Mach) (yl : List Ent) (cx : List Tm) (ny : List Int) (ty : List Tm) : Option (Int × Int) :=
  none
theorem le89vn (qq : Nat) {p1 : Tm} {M : Mach} {yl : List Ent} {cx : List Tm} {ny : List Int} {ty : List Tm} {r : Int × Int} (h : e89vn qq p1 M yl cx ny ty = some r) : g89vn p1 M yl cx ny ty = some r := by
  unfold e89vn at h
  unfold g89vn
  cases h
def e101vn (qq : Nat) (p1 : Tm) (p2 : Tm) (M : Mach) (yl : List Ent) (cx : List Tm) (ny : List Int) (ty : List Tm) : Option (Int) :=
  none
theorem le101vn (qq : Nat) {p1 : Tm} {p2 : Tm} {M : Mach} {yl : List Ent} {cx : List Tm} {ny : List Int} {ty : List Tm} {r : Int} (h : e101vn qq p1 p2 M yl cx ny ty = some r) : g101vn p1 p2 M yl cx ny ty = some r := by
  unfold e101vn at h
  unfold g101vn
  cases h
def e159vn (qq : Nat) (p1 : Tm) (p2 : Tm) (M : Mach) (yl : List Ent) (cx : List Tm) (ny : List Int) (ty : List Tm) : Option (Int) :=
  none
theorem le159vn (qq : Nat) {p1 : Tm} {p2 : Tm} {M : Mach} {yl : List Ent} {cx : List Tm} {ny : List Int} {ty : List Tm} {r : Int} (h : e159vn qq p1 p2 M yl cx ny ty = some r) : g159vn p1 p2 M yl cx ny ty = some r := by
  unfold e159vn at h
  unfold g159vn
  cases h

def e32vn (qq : Nat) (p1 : Tm) (M : Mach) (cx : List Tm) (ny : List Int) (ty : List Tm) : Option (Tm × Int) :=
  (e87vn qq [p1] M cx ny ty) >>= fun r1 =>
  match r1 with
  | Sum.inl y3 =>
    if (y3.1 != 0) = true then
      some ((Tm.mk 0 0 []), y3.1)
    else
      (e88vn qq p1 M y3.2.2.2.2 y3.2.1 y3.2.2.1 y3.2.2.2.1) >>= fun r5 =>
      if (r5.2 != 0) = true then
        some ((Tm.mk 0 0 []), r5.2)
      else
        (e72 qq r5.1) >>= fun r8 =>
        some (r8, 0)
  | Sum.inr y10 =>
    if (y10 != 0) = true then
      some ((Tm.mk 0 0 []), y10)
    else
      none
theorem le32vn (qq : Nat) {p1 : Tm} {M : Mach} {cx : List Tm} {ny : List Int} {ty : List Tm} {r : Tm × Int} (h : e32vn qq p1 M cx ny ty = some r) : g32vn p1 M cx ny ty = some r := by
  unfold e32vn at h
  unfold g32vn
  obtain ⟨r1, h2, h⟩ := obind h
  refine obind_mk (le87vn qq h2) ?_
  rcases r1 with y3 | y10
  · dsimp only at h ⊢
    rcases bcases (y3.1 != 0) with h4 | h4
    · replace h := ifT h4 h
      refine ifT' h4 ?_
      exact h
    · replace h := ifF h4 h
      refine ifF' h4 ?_
      obtain ⟨r5, h6, h⟩ := obind h
      refine obind_mk (le88vn qq h6) ?_
      rcases bcases (r5.2 != 0) with h7 | h7
      · replace h := ifT h7 h
        refine ifT' h7 ?_
        exact h
      · replace h := ifF h7 h
        refine ifF' h7 ?_
        obtain ⟨r8, h9, h⟩ := obind h
        refine obind_mk (le72 qq h9) ?_
        exact h
  · dsimp only at h ⊢
    rcases bcases (y10 != 0) with h11 | h11
    · replace h := ifT h11 h
      refine ifT' h11 ?_
      exact h
    · replace h := ifF h11 h
      refine ifF' h11 ?_
      cases h

def e151v0L0 : Nat → (List Tm) → Mach → Int → Int → (List Tm) → (List Int) → (List Tm) → Int →  Option (Bool)
  | 0, _, _, _, _, _, _, _, _ => none
  | qq + 1, p1, M, fl, fu, cx, ny, ty, v21 =>
    if decide (v21 < (List.length p1 : Int)) = true then
      (gidx p1 v21) >>= fun x3 =>
      (e19 qq M) >>= fun r5 =>
      (e133 qq x3 1048577 r5) >>= fun r7 =>
      if r7 = true then
        e151v0L0 qq p1 M fl fu cx ny ty (w64 (v21 + 1))
      else
        some false
    else
      some true
theorem lea151v0L0 : ∀ qq : Nat, (∀ (p1 : List Tm) (M : Mach) (fl : Int) (fu : Int) (cx : List Tm) (ny : List Int) (ty : List Tm) (v21 : Int) (r : Bool), e151v0L0 qq p1 M fl fu cx ny ty v21 = some r → g151v0L0 p1 M fl fu cx ny ty v21 = some r) := by
  intro qq
  induction qq with
  | zero =>
      intro p1 M fl fu cx ny ty v21 r h
      rw [e151v0L0] at h
      cases h
  | succ qq ihg151v0L0 =>
      intro p1 M fl fu cx ny ty v21 r h
      rw [e151v0L0] at h
      rw [g151v0L0]
      rcases bcases (decide (v21 < (List.length p1 : Int))) with h2 | h2
      · replace h := ifT h2 h
        refine ifT' h2 ?_
        obtain ⟨x3, h4, h⟩ := obind h
        refine obind_mk h4 ?_
        obtain ⟨r5, h6, h⟩ := obind h
        refine obind_mk (le19 qq h6) ?_
        obtain ⟨r7, h8, h⟩ := obind h
        refine obind_mk (le133 qq h8) ?_
        rcases bcases r7 with h9 | h9
        · replace h := ifT h9 h
          refine ifT' h9 ?_
          exact (ihg151v0L0 _ _ _ _ _ _ _ _ _ h)
        · replace h := ifF h9 h
          refine ifF' h9 ?_
          exact h
      · replace h := ifF h2 h
        refine ifF' h2 ?_
        exact h
theorem le151v0L0 (qq : Nat) {p1 : List Tm} {M : Mach} {fl : Int} {fu : Int} {cx : List Tm} {ny : List Int} {ty : List Tm} {v21 : Int} {r : Bool} (h : e151v0L0 qq p1 M fl fu cx ny ty v21 = some r) : g151v0L0 p1 M fl fu cx ny ty v21 = some r := (lea151v0L0 qq) _ _ _ _ _ _ _ _ _ h
def e151v0 (qq : Nat) (p1 : List Tm) (M : Mach) (fl : Int) (fu : Int) (cx : List Tm) (ny : List Int) (ty : List Tm) : Option (Bool) :=
  if ((List.length ny : Int) != (List.length ty : Int)) = true then
    some false
  else
    e151v0L0 qq p1 M fl fu cx ny ty 0
theorem le151v0 (qq : Nat) {p1 : List Tm} {M : Mach} {fl : Int} {fu : Int} {cx : List Tm} {ny : List Int} {ty : List Tm} {r : Bool} (h : e151v0 qq p1 M fl fu cx ny ty = some r) : g151v0 p1 M fl fu cx ny ty = some r := by
  unfold e151v0 at h
  unfold g151v0
  rcases bcases ((List.length ny : Int) != (List.length ty : Int)) with h1 | h1
  · replace h := ifT h1 h
    refine ifT' h1 ?_
    exact h
  · replace h := ifF h1 h
    refine ifF' h1 ?_
    exact (le151v0L0 qq h)

def e87v0 (qq : Nat) (p1 : List Tm) (M : Mach) (fl : Int) (fu : Int) (cx : List Tm) (ny : List Int) (ty : List Tm) : Option ((Int × List Tm × List Int × List Tm × List Ent) ⊕ (Int)) :=
  (e151v0 qq p1 M fl fu cx ny ty) >>= fun r1 =>
  if r1 = true then
    (e151v0 qq cx M fl fu cx ny ty) >>= fun r4 =>
    if r4 = true then
      (e151v0 qq ty M fl fu cx ny ty) >>= fun r7 =>
      if r7 = true then
        (e20 qq M) >>= fun r10 =>
        some (Sum.inl (0, cx, ny, ty, r10))
      else
        some (Sum.inr 5)
    else
      some (Sum.inr 5)
  else
    some (Sum.inr 5)
theorem le87v0 (qq : Nat) {p1 : List Tm} {M : Mach} {fl : Int} {fu : Int} {cx : List Tm} {ny : List Int} {ty : List Tm} {r : (Int × List Tm × List Int × List Tm × List Ent) ⊕ (Int)} (h : e87v0 qq p1 M fl fu cx ny ty = some r) : g87v0 p1 M fl fu cx ny ty = some r := by
  unfold e87v0 at h
  unfold g87v0
  obtain ⟨r1, h2, h⟩ := obind h
  refine obind_mk (le151v0 qq h2) ?_
  rcases bcases r1 with h3 | h3
  · replace h := ifT h3 h
    refine ifT' h3 ?_
    obtain ⟨r4, h5, h⟩ := obind h
    refine obind_mk (le151v0 qq h5) ?_
    rcases bcases r4 with h6 | h6
    · replace h := ifT h6 h
      refine ifT' h6 ?_
      obtain ⟨r7, h8, h⟩ := obind h
      refine obind_mk (le151v0 qq h8) ?_
      rcases bcases r7 with h9 | h9
      · replace h := ifT h9 h
        refine ifT' h9 ?_
        obtain ⟨r10, h11, h⟩ := obind h
        refine obind_mk (le20 qq h11) ?_
        exact h
      · replace h := ifF h9 h
        refine ifF' h9 ?_
        exact h
    · replace h := ifF h6 h
      refine ifF' h6 ?_
      exact h
  · replace h := ifF h3 h
    refine ifF' h3 ?_
    exact h

def e153v0 (qq : Nat) (p1 : Int) (M : Mach) (fl : Int) (fu : Int) (yl : List Ent) (cx : List Tm) (ny : List Int) (ty : List Tm) : Option (Tm × Int) :=
  none
theorem le153v0 (qq : Nat) {p1 : Int} {M : Mach} {fl : Int} {fu : Int} {yl : List Ent} {cx : List Tm} {ny : List Int} {ty : List Tm} {r : Tm × Int} (h : e153v0 qq p1 M fl fu yl cx ny ty = some r) : g153v0 p1 M fl fu yl cx ny ty = some r := by
  unfold e153v0 at h
  unfold g153v0
  cases h

def e152v0 (qq : Nat) (p1 : Int) (M : Mach) (fl : Int) (fu : Int) (yl : List Ent) (cx : List Tm) (ny : List Int) (ty : List Tm) : Option (Tm × Int) :=
  none
theorem le152v0 (qq : Nat) {p1 : Int} {M : Mach} {fl : Int} {fu : Int} {yl : List Ent} {cx : List Tm} {ny : List Int} {ty : List Tm} {r : Tm × Int} (h : e152v0 qq p1 M fl fu yl cx ny ty = some r) : g152v0 p1 M fl fu yl cx ny ty = some r := by
  unfold e152v0 at h
  unfold g152v0
  cases h

def e155 (qq : Nat) (p1 : Tm) (M : Mach) (fl : Int) (fu : Int) (yl : List Ent) (cx : List Tm) (ny : List Int) (ty : List Tm) : Option (Tm × Int × Int × Int) :=
  none
theorem le155 (qq : Nat) {p1 : Tm} {M : Mach} {fl : Int} {fu : Int} {yl : List Ent} {cx : List Tm} {ny : List Int} {ty : List Tm} {r : Tm × Int × Int × Int} (h : e155 qq p1 M fl fu yl cx ny ty = some r) : g155 p1 M fl fu yl cx ny ty = some r := by
  unfold e155 at h
  unfold g155
  cases h
def e156 (qq : Nat) (p1 : Tm) (M : Mach) (fl : Int) (fu : Int) (yl : List Ent) (cx : List Tm) (ny : List Int) (ty : List Tm) : Option (Tm × Int × Int × Int) :=
  none
theorem le156 (qq : Nat) {p1 : Tm} {M : Mach} {fl : Int} {fu : Int} {yl : List Ent} {cx : List Tm} {ny : List Int} {ty : List Tm} {r : Tm × Int × Int × Int} (h : e156 qq p1 M fl fu yl cx ny ty = some r) : g156 p1 M fl fu yl cx ny ty = some r := by
  unfold e156 at h
  unfold g156
  cases h
def e157 (qq : Nat) (p1 : Tm) (M : Mach) (fl : Int) (fu : Int) (yl : List Ent) (cx : List Tm) (ny : List Int) (ty : List Tm) : Option (Tm × Int × Int × Int) :=
  none
theorem le157 (qq : Nat) {p1 : Tm} {M : Mach} {fl : Int} {fu : Int} {yl : List Ent} {cx : List Tm} {ny : List Int} {ty : List Tm} {r : Tm × Int × Int × Int} (h : e157 qq p1 M fl fu yl cx ny ty = some r) : g157 p1 M fl fu yl cx ny ty = some r := by
  unfold e157 at h
  unfold g157
  cases h
def e88 (qq : Nat) (p1 : Tm) (M : Mach) (fl : Int) (fu : Int) (yl : List Ent) (cx : List Tm) (ny : List Int) (ty : List Tm) : Option (Tm × Int × Int × Int) :=
  if (p1.k == 1) = true then
    (e152v0 qq p1.n M fl fu yl cx ny ty) >>= fun r2 =>
    some (r2.1, r2.2, fl, fu)
  else
    if (p1.k == 8) = true then
      (e153v0 qq p1.n M fl fu yl cx ny ty) >>= fun r5 =>
      some (r5.1, r5.2, fl, fu)
    else
      if (p1.k == 6) = true then
        (gidx yl p1.n) >>= fun x8 =>
        some (x8.type, 0, fl, fu)
      else
        if (p1.k == 7) = true then
          (gidx p1.sub 0) >>= fun x11 =>
          (e103 qq yl p1.n x11.n) >>= fun r13 =>
          some (r13.1, r13.2, fl, fu)
        else
          if (p1.k == 2) = true then
            if decide (p1.n ≥ 7) = true then
              some ((Tm.mk 0 0 []), 7, fl, fu)
            else
              (e154 qq (w64 (p1.n + 1))) >>= fun r17 =>
              some (r17, 0, fl, fu)
          else
            if (p1.k == 3) = true then
              (e155 qq p1 M fl fu yl cx ny ty) >>= fun r20 =>
              some (r20.1, r20.2.1, r20.2.2.1, r20.2.2.2)
            else
              if (p1.k == 4) = true then
                (e156 qq p1 M fl fu yl cx ny ty) >>= fun r23 =>
                some (r23.1, r23.2.1, r23.2.2.1, r23.2.2.2)
              else
                (e157 qq p1 M fl fu yl cx ny ty) >>= fun r25 =>
                some (r25.1, r25.2.1, r25.2.2.1, r25.2.2.2)
theorem le88 (qq : Nat) {p1 : Tm} {M : Mach} {fl : Int} {fu : Int} {yl : List Ent} {cx : List Tm} {ny : List Int} {ty : List Tm} {r : Tm × Int × Int × Int} (h : e88 qq p1 M fl fu yl cx ny ty = some r) : g88 p1 M fl fu yl cx ny ty = some r := by
  unfold e88 at h
  unfold g88
  rcases bcases (p1.k == 1) with h1 | h1
  · replace h := ifT h1 h
    refine ifT' h1 ?_
    obtain ⟨r2, h3, h⟩ := obind h
    refine obind_mk (le152v0 qq h3) ?_
    exact h
  · replace h := ifF h1 h
    refine ifF' h1 ?_
    rcases bcases (p1.k == 8) with h4 | h4
    · replace h := ifT h4 h
      refine ifT' h4 ?_
      obtain ⟨r5, h6, h⟩ := obind h
      refine obind_mk (le153v0 qq h6) ?_
      exact h
    · replace h := ifF h4 h
      refine ifF' h4 ?_
      rcases bcases (p1.k == 6) with h7 | h7
      · replace h := ifT h7 h
        refine ifT' h7 ?_
        obtain ⟨x8, h9, h⟩ := obind h
        refine obind_mk h9 ?_
        exact h
      · replace h := ifF h7 h
        refine ifF' h7 ?_
        rcases bcases (p1.k == 7) with h10 | h10
        · replace h := ifT h10 h
          refine ifT' h10 ?_
          obtain ⟨x11, h12, h⟩ := obind h
          refine obind_mk h12 ?_
          obtain ⟨r13, h14, h⟩ := obind h
          refine obind_mk (le103 qq h14) ?_
          exact h
        · replace h := ifF h10 h
          refine ifF' h10 ?_
          rcases bcases (p1.k == 2) with h15 | h15
          · replace h := ifT h15 h
            refine ifT' h15 ?_
            rcases bcases (decide (p1.n ≥ 7)) with h16 | h16
            · replace h := ifT h16 h
              refine ifT' h16 ?_
              exact h
            · replace h := ifF h16 h
              refine ifF' h16 ?_
              obtain ⟨r17, h18, h⟩ := obind h
              refine obind_mk (le154 qq h18) ?_
              exact h
          · replace h := ifF h15 h
            refine ifF' h15 ?_
            rcases bcases (p1.k == 3) with h19 | h19
            · replace h := ifT h19 h
              refine ifT' h19 ?_
              obtain ⟨r20, h21, h⟩ := obind h
              refine obind_mk (le155 qq h21) ?_
              exact h
            · replace h := ifF h19 h
              refine ifF' h19 ?_
              rcases bcases (p1.k == 4) with h22 | h22
              · replace h := ifT h22 h
                refine ifT' h22 ?_
                obtain ⟨r23, h24, h⟩ := obind h
                refine obind_mk (le156 qq h24) ?_
                exact h
              · replace h := ifF h22 h
                refine ifF' h22 ?_
                obtain ⟨r25, h26, h⟩ := obind h
                refine obind_mk (le157 qq h26) ?_
                exact h
def e89 (qq : Nat) (p1 : Tm) (M : Mach) (fl : Int) (fu : Int) (yl : List Ent) (cx : List Tm) (ny : List Int) (ty : List Tm) : Option (Int × Int × Int × Int) :=
  none
theorem le89 (qq : Nat) {p1 : Tm} {M : Mach} {fl : Int} {fu : Int} {yl : List Ent} {cx : List Tm} {ny : List Int} {ty : List Tm} {r : Int × Int × Int × Int} (h : e89 qq p1 M fl fu yl cx ny ty = some r) : g89 p1 M fl fu yl cx ny ty = some r := by
  unfold e89 at h
  unfold g89
  cases h
def e101 (qq : Nat) (p1 : Tm) (p2 : Tm) (M : Mach) (fl : Int) (fu : Int) (yl : List Ent) (cx : List Tm) (ny : List Int) (ty : List Tm) : Option (Int × Int × Int) :=
  none
theorem le101 (qq : Nat) {p1 : Tm} {p2 : Tm} {M : Mach} {fl : Int} {fu : Int} {yl : List Ent} {cx : List Tm} {ny : List Int} {ty : List Tm} {r : Int × Int × Int} (h : e101 qq p1 p2 M fl fu yl cx ny ty = some r) : g101 p1 p2 M fl fu yl cx ny ty = some r := by
  unfold e101 at h
  unfold g101
  cases h
def e159 (qq : Nat) (p1 : Tm) (p2 : Tm) (M : Mach) (fl : Int) (fu : Int) (yl : List Ent) (cx : List Tm) (ny : List Int) (ty : List Tm) : Option (Int × Int × Int) :=
  none
theorem le159 (qq : Nat) {p1 : Tm} {p2 : Tm} {M : Mach} {fl : Int} {fu : Int} {yl : List Ent} {cx : List Tm} {ny : List Int} {ty : List Tm} {r : Int × Int × Int} (h : e159 qq p1 p2 M fl fu yl cx ny ty = some r) : g159 p1 p2 M fl fu yl cx ny ty = some r := by
  unfold e159 at h
  unfold g159
  cases h

def e32v0 (qq : Nat) (p1 : Tm) (M : Mach) (fl : Int) (fu : Int) (cx : List Tm) (ny : List Int) (ty : List Tm) : Option (Tm × Int × Int × Int) :=
  (e87v0 qq [p1] M fl fu cx ny ty) >>= fun r1 =>
  match r1 with
  | Sum.inl y3 =>
    if (y3.1 != 0) = true then
      some ((Tm.mk 0 0 []), y3.1, fl, fu)
    else
      (e88 qq p1 M fl fu y3.2.2.2.2 y3.2.1 y3.2.2.1 y3.2.2.2.1) >>= fun r5 =>
      if (r5.2.1 != 0) = true then
        some ((Tm.mk 0 0 []), r5.2.1, r5.2.2.1, r5.2.2.2)
      else
        (e72 qq r5.1) >>= fun r8 =>
        some (r8, 0, r5.2.2.1, r5.2.2.2)
  | Sum.inr y10 =>
    if (y10 != 0) = true then
      some ((Tm.mk 0 0 []), y10, fl, fu)
    else
      none
theorem le32v0 (qq : Nat) {p1 : Tm} {M : Mach} {fl : Int} {fu : Int} {cx : List Tm} {ny : List Int} {ty : List Tm} {r : Tm × Int × Int × Int} (h : e32v0 qq p1 M fl fu cx ny ty = some r) : g32v0 p1 M fl fu cx ny ty = some r := by
  unfold e32v0 at h
  unfold g32v0
  obtain ⟨r1, h2, h⟩ := obind h
  refine obind_mk (le87v0 qq h2) ?_
  rcases r1 with y3 | y10
  · dsimp only at h ⊢
    rcases bcases (y3.1 != 0) with h4 | h4
    · replace h := ifT h4 h
      refine ifT' h4 ?_
      exact h
    · replace h := ifF h4 h
      refine ifF' h4 ?_
      obtain ⟨r5, h6, h⟩ := obind h
      refine obind_mk (le88 qq h6) ?_
      rcases bcases (r5.2.1 != 0) with h7 | h7
      · replace h := ifT h7 h
        refine ifT' h7 ?_
        exact h
      · replace h := ifF h7 h
        refine ifF' h7 ?_
        obtain ⟨r8, h9, h⟩ := obind h
        refine obind_mk (le72 qq h9) ?_
        exact h
  · dsimp only at h ⊢
    rcases bcases (y10 != 0) with h11 | h11
    · replace h := ifT h11 h
      refine ifT' h11 ?_
      exact h
    · replace h := ifF h11 h
      refine ifF' h11 ?_
      cases h

def e35 (qq : Nat) (p0 : List Ent) (p1 : Tm) (p2 : Int) : Option (Tm × Int) :=
  (e21 qq p0) >>= fun r1 =>
  match r1 with
  | Sum.inl y15 =>
    if (y15 != 0) = true then
      some ((Tm.mk 0 0 []), y15)
    else
      (e15 qq p2) >>= fun r17 =>
      match r17 with
      | Sum.inl y21 =>
        if (y21 != 0) = true then
          some ((Tm.mk 0 0 []), y21)
        else
          (e32vz qq p1 [] [] []) >>= fun r23 =>
          some (r23.1, r23.2)
      | Sum.inr y19 =>
        if (y19.1 != 0) = true then
          some ((Tm.mk 0 0 []), y19.1)
        else
          none
  | Sum.inr y3 =>
    if (y3.1 != 0) = true then
      some ((Tm.mk 0 0 []), y3.1)
    else
      (e15 qq p2) >>= fun r5 =>
      match r5 with
      | Sum.inl y11 =>
        if (y11 != 0) = true then
          some ((Tm.mk 0 0 []), y11)
        else
          (e32vn qq p1 (Mach.mk y3.2.1 y3.2.2.2.2.1 y3.2.2.2.2.2 y3.2.2.1 y3.2.2.2.1) [] [] []) >>= fun r13 =>
          some (r13.1, r13.2)
      | Sum.inr y7 =>
        if (y7.1 != 0) = true then
          some ((Tm.mk 0 0 []), y7.1)
        else
          (e32v0 qq p1 (Mach.mk y3.2.1 y3.2.2.2.2.1 y3.2.2.2.2.2 y3.2.2.1 y3.2.2.2.1) y7.2.1 y7.2.2 [] [] []) >>= fun r9 =>
          some (r9.1, r9.2.1)
theorem le35 (qq : Nat) {p0 : List Ent} {p1 : Tm} {p2 : Int} {r : Tm × Int} (h : e35 qq p0 p1 p2 = some r) : g35 p0 p1 p2 = some r := by
  unfold e35 at h
  unfold g35
  obtain ⟨r1, h2, h⟩ := obind h
  refine obind_mk (le21 qq h2) ?_
  rcases r1 with y15 | y3
  · dsimp only at h ⊢
    rcases bcases (y15 != 0) with h16 | h16
    · replace h := ifT h16 h
      refine ifT' h16 ?_
      exact h
    · replace h := ifF h16 h
      refine ifF' h16 ?_
      obtain ⟨r17, h18, h⟩ := obind h
      refine obind_mk (le15 qq h18) ?_
      rcases r17 with y21 | y19
      · dsimp only at h ⊢
        rcases bcases (y21 != 0) with h22 | h22
        · replace h := ifT h22 h
          refine ifT' h22 ?_
          exact h
        · replace h := ifF h22 h
          refine ifF' h22 ?_
          obtain ⟨r23, h24, h⟩ := obind h
          refine obind_mk (le32vz qq h24) ?_
          exact h
      · dsimp only at h ⊢
        rcases bcases (y19.1 != 0) with h20 | h20
        · replace h := ifT h20 h
          refine ifT' h20 ?_
          exact h
        · replace h := ifF h20 h
          refine ifF' h20 ?_
          cases h
  · dsimp only at h ⊢
    rcases bcases (y3.1 != 0) with h4 | h4
    · replace h := ifT h4 h
      refine ifT' h4 ?_
      exact h
    · replace h := ifF h4 h
      refine ifF' h4 ?_
      obtain ⟨r5, h6, h⟩ := obind h
      refine obind_mk (le15 qq h6) ?_
      rcases r5 with y11 | y7
      · dsimp only at h ⊢
        rcases bcases (y11 != 0) with h12 | h12
        · replace h := ifT h12 h
          refine ifT' h12 ?_
          exact h
        · replace h := ifF h12 h
          refine ifF' h12 ?_
          obtain ⟨r13, h14, h⟩ := obind h
          refine obind_mk (le32vn qq h14) ?_
          exact h
      · dsimp only at h ⊢
        rcases bcases (y7.1 != 0) with h8 | h8
        · replace h := ifT h8 h
          refine ifT' h8 ?_
          exact h
        · replace h := ifF h8 h
          refine ifF' h8 ?_
          obtain ⟨r9, h10, h⟩ := obind h
          refine obind_mk (le32v0 qq h10) ?_
          exact h

def e22 (qq : Nat) (p0 : Int) (p1 : Tm) (p2 : Tm) : Option (Tm) :=
  some (Tm.mk p0 0 [p1, p2])
theorem le22 (qq : Nat) {p0 : Int} {p1 : Tm} {p2 : Tm} {r : Tm} (h : e22 qq p0 p1 p2 = some r) : g22 p0 p1 p2 = some r := by
  unfold e22 at h
  unfold g22
  exact h

def e99L0 : Nat → (List Tm) → Int → Int → Int → (List Tm) →  Option (Tm)
  | 0, _, _, _, _, _ => none
  | qq + 1, p1, v5, vb0_0, vb0_1, vb0_2 =>
    if decide (v5 < (List.length p1 : Int)) = true then
      (gidx p1 v5) >>= fun x2 =>
      (e22 qq 5 (Tm.mk vb0_0 vb0_1 vb0_2) x2) >>= fun r4 =>
      e99L0 qq p1 (w64 (v5 + 1)) r4.k r4.n r4.sub
    else
      some (Tm.mk vb0_0 vb0_1 vb0_2)
theorem lea99L0 : ∀ qq : Nat, (∀ (p1 : List Tm) (v5 : Int) (vb0_0 : Int) (vb0_1 : Int) (vb0_2 : List Tm) (r : Tm), e99L0 qq p1 v5 vb0_0 vb0_1 vb0_2 = some r → g99L0 p1 v5 vb0_0 vb0_1 vb0_2 = some r) := by
  intro qq
  induction qq with
  | zero =>
      intro p1 v5 vb0_0 vb0_1 vb0_2 r h
      rw [e99L0] at h
      cases h
  | succ qq ihg99L0 =>
      intro p1 v5 vb0_0 vb0_1 vb0_2 r h
      rw [e99L0] at h
      rw [g99L0]
      rcases bcases (decide (v5 < (List.length p1 : Int))) with h1 | h1
      · replace h := ifT h1 h
        refine ifT' h1 ?_
        obtain ⟨x2, h3, h⟩ := obind h
        refine obind_mk h3 ?_
        obtain ⟨r4, h5, h⟩ := obind h
        refine obind_mk (le22 qq h5) ?_
        exact (ihg99L0 _ _ _ _ _ _ h)
      · replace h := ifF h1 h
        refine ifF' h1 ?_
        exact h
theorem le99L0 (qq : Nat) {p1 : List Tm} {v5 : Int} {vb0_0 : Int} {vb0_1 : Int} {vb0_2 : List Tm} {r : Tm} (h : e99L0 qq p1 v5 vb0_0 vb0_1 vb0_2 = some r) : g99L0 p1 v5 vb0_0 vb0_1 vb0_2 = some r := (lea99L0 qq) _ _ _ _ _ _ h
def e99 (qq : Nat) (p0 : Tm) (p1 : List Tm) : Option (Tm) :=
  e99L0 qq p1 0 p0.k p0.n p0.sub
theorem le99 (qq : Nat) {p0 : Tm} {p1 : List Tm} {r : Tm} (h : e99 qq p0 p1 = some r) : g99 p0 p1 = some r := by
  unfold e99 at h
  unfold g99
  exact (le99L0 qq h)

def e37 (qq : Nat) (p0 : Tm) (p1 : List Tm) : Option (Tm) :=
  (e99 qq p0 p1) >>= fun r1 =>
  some r1
theorem le37 (qq : Nat) {p0 : Tm} {p1 : List Tm} {r : Tm} (h : e37 qq p0 p1 = some r) : g37 p0 p1 = some r := by
  unfold e37 at h
  unfold g37
  obtain ⟨r1, h2, h⟩ := obind h
  refine obind_mk (le99 qq h2) ?_
  exact h

def e100 (qq : Nat) (p0 : Int) (p1 : Int) : Option (Tm) :=
  some (Tm.mk p0 p1 [])
theorem le100 (qq : Nat) {p0 : Int} {p1 : Int} {r : Tm} (h : e100 qq p0 p1 = some r) : g100 p0 p1 = some r := by
  unfold e100 at h
  unfold g100
  exact h

def e38 (qq : Nat) (p0 : Int) : Option (Tm) :=
  (e100 qq 6 p0) >>= fun r1 =>
  some r1
theorem le38 (qq : Nat) {p0 : Int} {r : Tm} (h : e38 qq p0 = some r) : g38 p0 = some r := by
  unfold e38 at h
  unfold g38
  obtain ⟨r1, h2, h⟩ := obind h
  refine obind_mk (le100 qq h2) ?_
  exact h

def e33vz (qq : Nat) (p1 : Tm) (cx : List Tm) (ny : List Int) (ty : List Tm) : Option (Int × Int) :=
  (e87vz qq [p1] cx ny ty) >>= fun r1 =>
  if (r1 != 0) = true then
    some (0, r1)
  else
    none
theorem le33vz (qq : Nat) {p1 : Tm} {cx : List Tm} {ny : List Int} {ty : List Tm} {r : Int × Int} (h : e33vz qq p1 cx ny ty = some r) : g33vz p1 cx ny ty = some r := by
  unfold e33vz at h
  unfold g33vz
  obtain ⟨r1, h2, h⟩ := obind h
  refine obind_mk (le87vz qq h2) ?_
  rcases bcases (r1 != 0) with h3 | h3
  · replace h := ifT h3 h
    refine ifT' h3 ?_
    exact h
  · replace h := ifF h3 h
    refine ifF' h3 ?_
    cases h

def e41 (qq : Nat)  : Option (Bool) :=
  (e35 qq [] (Tm.mk 2 2 []) 5) >>= fun r1 =>
  if (r1.2 == 0) = true then
    if (r1.1.k == 2) = true then
      some (r1.1.n == 3)
    else
      some false
  else
    some false
theorem le41 (qq : Nat)  {r : Bool} (h : e41 qq  = some r) : g41  = some r := by
  unfold e41 at h
  unfold g41
  obtain ⟨r1, h2, h⟩ := obind h
  refine obind_mk (le35 qq h2) ?_
  rcases bcases (r1.2 == 0) with h3 | h3
  · replace h := ifT h3 h
    refine ifT' h3 ?_
    rcases bcases (r1.1.k == 2) with h4 | h4
    · replace h := ifT h4 h
      refine ifT' h4 ?_
      exact h
    · replace h := ifF h4 h
      refine ifF' h4 ?_
      exact h
  · replace h := ifF h3 h
    refine ifF' h3 ?_
    exact h

def e34vzL0 (qq : Nat) (p1 : List Tm) (v24 : Int) (v8 : Int) : Option (Int × Int) :=
  none
theorem le34vzL0 (qq : Nat) {p1 : List Tm} {v24 : Int} {v8 : Int} {r : Int × Int} (h : e34vzL0 qq p1 v24 v8 = some r) : g34vzL0 p1 v24 v8 = some r := by
  unfold e34vzL0 at h
  unfold g34vzL0
  cases h
def e34vz (qq : Nat) (p1 : List Tm) (cx : List Tm) (ny : List Int) (ty : List Tm) : Option (Int × Int) :=
  (e87vz qq p1 cx ny ty) >>= fun r1 =>
  if (r1 != 0) = true then
    some (0, r1)
  else
    e34vzL0 qq p1 0 0
theorem le34vz (qq : Nat) {p1 : List Tm} {cx : List Tm} {ny : List Int} {ty : List Tm} {r : Int × Int} (h : e34vz qq p1 cx ny ty = some r) : g34vz p1 cx ny ty = some r := by
  unfold e34vz at h
  unfold g34vz
  obtain ⟨r1, h2, h⟩ := obind h
  refine obind_mk (le87vz qq h2) ?_
  rcases bcases (r1 != 0) with h3 | h3
  · replace h := ifT h3 h
    refine ifT' h3 ?_
    exact h
  · replace h := ifF h3 h
    refine ifF' h3 ?_
    exact (le34vzL0 qq h)

def e40vz (qq : Nat) (cx : List Tm) (ny : List Int) (ty : List Tm) : Option (Int) :=
  (e34vz qq cx [] ny ty) >>= fun r1 =>
  some r1.2
theorem le40vz (qq : Nat) {cx : List Tm} {ny : List Int} {ty : List Tm} {r : Int} (h : e40vz qq cx ny ty = some r) : g40vz cx ny ty = some r := by
  unfold e40vz at h
  unfold g40vz
  obtain ⟨r1, h2, h⟩ := obind h
  refine obind_mk (le34vz qq h2) ?_
  exact h

def e39vz (qq : Nat) (p1 : Tm) (p2 : Tm) (cx : List Tm) (ny : List Int) (ty : List Tm) : Option (Int) :=
  (e87vz qq [p1, p2] cx ny ty) >>= fun r1 =>
  if (r1 != 0) = true then
    some r1
  else
    none
theorem le39vz (qq : Nat) {p1 : Tm} {p2 : Tm} {cx : List Tm} {ny : List Int} {ty : List Tm} {r : Int} (h : e39vz qq p1 p2 cx ny ty = some r) : g39vz p1 p2 cx ny ty = some r := by
  unfold e39vz at h
  unfold g39vz
  obtain ⟨r1, h2, h⟩ := obind h
  refine obind_mk (le87vz qq h2) ?_
  rcases bcases (r1 != 0) with h3 | h3
  · replace h := ifT h3 h
    refine ifT' h3 ?_
    exact h
  · replace h := ifF h3 h
    refine ifF' h3 ?_
    cases h

def e91 (qq : Nat) (p0 : ByteArray) (p1 : Tm) (p2 : Int) (p3 : Int) (p4 : List Int) : Option (Ent) :=
  some (Ent.mk 1 p0 p1 (Tm.mk 0 0 []) 0 0 p2 p3 0 p4 [])
theorem le91 (qq : Nat) {p0 : ByteArray} {p1 : Tm} {p2 : Int} {p3 : Int} {p4 : List Int} {r : Ent} (h : e91 qq p0 p1 p2 p3 p4 = some r) : g91 p0 p1 p2 p3 p4 = some r := by
  unfold e91 at h
  unfold g91
  exact h

def e93 (qq : Nat) (p0 : Int) : Option (Tm) :=
  (e100 qq 2 p0) >>= fun r1 =>
  some r1
theorem le93 (qq : Nat) {p0 : Int} {r : Tm} (h : e93 qq p0 = some r) : g93 p0 = some r := by
  unfold e93 at h
  unfold g93
  obtain ⟨r1, h2, h⟩ := obind h
  refine obind_mk (le100 qq h2) ?_
  exact h

def e98 (qq : Nat) (p0 : ByteArray) (p1 : Tm) (p2 : Int) : Option (Ent) :=
  some (Ent.mk 4 p0 p1 (Tm.mk 0 0 []) 14 p2 2 0 0 [] [])
theorem le98 (qq : Nat) {p0 : ByteArray} {p1 : Tm} {p2 : Int} {r : Ent} (h : e98 qq p0 p1 p2 = some r) : g98 p0 p1 p2 = some r := by
  unfold e98 at h
  unfold g98
  exact h

def e92 (qq : Nat) (p0 : Tm) (p1 : Tm) : Option (Tm) :=
  (e22 qq 3 p0 p1) >>= fun r1 =>
  some r1
theorem le92 (qq : Nat) {p0 : Tm} {p1 : Tm} {r : Tm} (h : e92 qq p0 p1 = some r) : g92 p0 p1 = some r := by
  unfold e92 at h
  unfold g92
  obtain ⟨r1, h2, h⟩ := obind h
  refine obind_mk (le22 qq h2) ?_
  exact h

def e94 (qq : Nat) (p0 : Int) : Option (Tm) :=
  (e100 qq 1 p0) >>= fun r1 =>
  some r1
theorem le94 (qq : Nat) {p0 : Int} {r : Tm} (h : e94 qq p0 = some r) : g94 p0 = some r := by
  unfold e94 at h
  unfold g94
  obtain ⟨r1, h2, h⟩ := obind h
  refine obind_mk (le100 qq h2) ?_
  exact h

def e95 (qq : Nat) (p0 : Tm) (p1 : Tm) : Option (Tm) :=
  (e22 qq 4 p0 p1) >>= fun r1 =>
  some r1
theorem le95 (qq : Nat) {p0 : Tm} {p1 : Tm} {r : Tm} (h : e95 qq p0 p1 = some r) : g95 p0 p1 = some r := by
  unfold e95 at h
  unfold g95
  obtain ⟨r1, h2, h⟩ := obind h
  refine obind_mk (le22 qq h2) ?_
  exact h

def e97 (qq : Nat) (p0 : ByteArray) (p1 : Tm) (p2 : Int) (p3 : Int) (p4 : Int) : Option (Ent) :=
  some (Ent.mk 2 p0 p1 (Tm.mk 0 0 []) p2 p3 p4 0 0 [] [])
theorem le97 (qq : Nat) {p0 : ByteArray} {p1 : Tm} {p2 : Int} {p3 : Int} {p4 : Int} {r : Ent} (h : e97 qq p0 p1 p2 p3 p4 = some r) : g97 p0 p1 p2 p3 p4 = some r := by
  unfold e97 at h
  unfold g97
  exact h

def e158 (qq : Nat) (p0 : Int) (p1 : Int) (p2 : List Tm) : Option (Tm) :=
  some (Tm.mk p0 p1 p2)
theorem le158 (qq : Nat) {p0 : Int} {p1 : Int} {p2 : List Tm} {r : Tm} (h : e158 qq p0 p1 p2 = some r) : g158 p0 p1 p2 = some r := by
  unfold e158 at h
  unfold g158
  exact h

def e96 (qq : Nat) (p0 : Int) (p1 : Int) : Option (Tm) :=
  (e93 qq p1) >>= fun r1 =>
  (e158 qq 7 p0 [r1]) >>= fun r3 =>
  some r3
theorem le96 (qq : Nat) {p0 : Int} {p1 : Int} {r : Tm} (h : e96 qq p0 p1 = some r) : g96 p0 p1 = some r := by
  unfold e96 at h
  unfold g96
  obtain ⟨r1, h2, h⟩ := obind h
  refine obind_mk (le93 qq h2) ?_
  obtain ⟨r3, h4, h⟩ := obind h
  refine obind_mk (le158 qq h4) ?_
  exact h

def e36 (qq : Nat)  : Option (List Ent) :=
  (e38 qq 0) >>= fun r1 =>
  (e93 qq 0) >>= fun r3 =>
  (e92 qq r3 r3) >>= fun r5 =>
  (e92 qq r3 r5) >>= fun r7 =>
  (e91 qq (⟨#[80, 97, 105, 114]⟩ : ByteArray) r7 2 0 [15]) >>= fun r9 =>
  (e38 qq 14) >>= fun r11 =>
  (e94 qq 1) >>= fun r13 =>
  (e94 qq 0) >>= fun r15 =>
  (e37 qq r11 [r13, r15]) >>= fun r17 =>
  (e96 qq 0 0) >>= fun r19 =>
  (e95 qq r1 r1) >>= fun r21 =>
  (e38 qq 2) >>= fun r23 =>
  (e37 qq r23 [r15]) >>= fun r25 =>
  (e95 qq r1 r25) >>= fun r27 =>
  (e95 qq r1 r27) >>= fun r29 =>
  (e37 qq r19 [r21, r15, r29, r13]) >>= fun r31 =>
  (e95 qq r1 r31) >>= fun r33 =>
  (e95 qq r1 r33) >>= fun r35 =>
  (e91 qq (⟨#[78, 97, 116]⟩ : ByteArray) r3 0 0 [1, 2]) >>= fun r37 =>
  (e97 qq (⟨#[122, 101, 114, 111]⟩ : ByteArray) r1 0 0 0) >>= fun r39 =>
  (e92 qq r1 r1) >>= fun r41 =>
  (e97 qq (⟨#[115, 117, 99]⟩ : ByteArray) r41 0 1 0) >>= fun r43 =>
  (e91 qq (⟨#[66, 111, 111, 108]⟩ : ByteArray) r3 0 0 [4, 5]) >>= fun r45 =>
  (e38 qq 3) >>= fun r47 =>
  (e97 qq (⟨#[116, 114, 117, 101]⟩ : ByteArray) r47 3 0 0) >>= fun r49 =>
  (e97 qq (⟨#[102, 97, 108, 115, 101]⟩ : ByteArray) r47 3 1 0) >>= fun r51 =>
  (e91 qq (⟨#[76, 105, 115, 116]⟩ : ByteArray) r5 1 0 [7, 8]) >>= fun r53 =>
  (e38 qq 6) >>= fun r55 =>
  (e37 qq r55 [r15]) >>= fun r57 =>
  (e92 qq r3 r57) >>= fun r59 =>
  (e97 qq (⟨#[110, 105, 108]⟩ : ByteArray) r59 6 0 1) >>= fun r61 =>
  (e37 qq r55 [r13]) >>= fun r63 =>
  (e94 qq 2) >>= fun r65 =>
  (e37 qq r55 [r65]) >>= fun r67 =>
  (e92 qq r63 r67) >>= fun r69 =>
  (e92 qq r15 r69) >>= fun r71 =>
  (e92 qq r3 r71) >>= fun r73 =>
  (e97 qq (⟨#[99, 111, 110, 115]⟩ : ByteArray) r73 6 1 1) >>= fun r75 =>
  (e92 qq r1 r3) >>= fun r77 =>
  (e92 qq r3 r77) >>= fun r79 =>
  (e91 qq (⟨#[86, 101, 99]⟩ : ByteArray) r79 1 1 [10, 11]) >>= fun r81 =>
  (e38 qq 9) >>= fun r83 =>
  (e38 qq 1) >>= fun r85 =>
  (e37 qq r83 [r15, r85]) >>= fun r87 =>
  (e92 qq r3 r87) >>= fun r89 =>
  (e97 qq (⟨#[118, 110, 105, 108]⟩ : ByteArray) r89 9 0 1) >>= fun r91 =>
  (e37 qq r83 [r65, r13]) >>= fun r93 =>
  (e94 qq 3) >>= fun r95 =>
  (e37 qq r23 [r65]) >>= fun r97 =>
  (e37 qq r83 [r95, r97]) >>= fun r99 =>
  (e92 qq r93 r99) >>= fun r101 =>
  (e92 qq r13 r101) >>= fun r103 =>
  (e92 qq r1 r103) >>= fun r105 =>
  (e92 qq r3 r105) >>= fun r107 =>
  (e97 qq (⟨#[118, 99, 111, 110, 115]⟩ : ByteArray) r107 9 1 1) >>= fun r109 =>
  (e92 qq r13 r3) >>= fun r111 =>
  (e92 qq r15 r111) >>= fun r113 =>
  (e92 qq r3 r113) >>= fun r115 =>
  (e91 qq (⟨#[69, 113]⟩ : ByteArray) r115 2 1 [13]) >>= fun r117 =>
  (e38 qq 12) >>= fun r119 =>
  (e37 qq r119 [r13, r15, r15]) >>= fun r121 =>
  (e92 qq r15 r121) >>= fun r123 =>
  (e92 qq r3 r123) >>= fun r125 =>
  (e97 qq (⟨#[114, 101, 102, 108]⟩ : ByteArray) r125 12 0 2) >>= fun r127 =>
  (e37 qq r11 [r95, r65]) >>= fun r129 =>
  (e92 qq r13 r129) >>= fun r131 =>
  (e92 qq r13 r131) >>= fun r133 =>
  (e92 qq r3 r133) >>= fun r135 =>
  (e92 qq r3 r135) >>= fun r137 =>
  (e97 qq (⟨#[112, 97, 105, 114]⟩ : ByteArray) r137 14 0 2) >>= fun r139 =>
  (e92 qq r17 r65) >>= fun r141 =>
  (e92 qq r3 r141) >>= fun r143 =>
  (e92 qq r3 r143) >>= fun r145 =>
  (e98 qq (⟨#[102, 115, 116]⟩ : ByteArray) r145 0) >>= fun r147 =>
  (e92 qq r17 r13) >>= fun r149 =>
  (e92 qq r3 r149) >>= fun r151 =>
  (e92 qq r3 r151) >>= fun r153 =>
  (e98 qq (⟨#[115, 110, 100]⟩ : ByteArray) r153 1) >>= fun r155 =>
  (e91 qq (⟨#[84, 114, 101, 101]⟩ : ByteArray) r3 0 0 [19, 20]) >>= fun r157 =>
  (e38 qq 18) >>= fun r159 =>
  (e97 qq (⟨#[108, 101, 97, 102]⟩ : ByteArray) r159 18 0 0) >>= fun r161 =>
  (e92 qq r1 r159) >>= fun r163 =>
  (e92 qq r163 r159) >>= fun r165 =>
  (e97 qq (⟨#[110, 111, 100, 101]⟩ : ByteArray) r165 18 1 0) >>= fun r167 =>
  (e92 qq r1 r41) >>= fun r169 =>
  (e92 qq r15 r13) >>= fun r171 =>
  (e92 qq r3 r171) >>= fun r173 =>
  (e95 qq r15 r15) >>= fun r175 =>
  (e95 qq r3 r175) >>= fun r177 =>
  some [r37, r39, r43, r45, r49, r51, r53, r61, r75, r81, r91, r109, r117, r127, (Ent.mk r9.kind r9.name r9.type r9.body r9.fam r9.place r9.pars r9.inds r9.level r9.cons [16, 17]), r139, r147, r155, r157, r161, r167, (Ent.mk 3 (⟨#[112, 108, 117, 115]⟩ : ByteArray) r169 r35 0 0 0 0 0 [] []), (Ent.mk 3 (⟨#[105, 100]⟩ : ByteArray) r173 r177 0 0 0 0 0 [] [])]
theorem le36 (qq : Nat)  {r : List Ent} (h : e36 qq  = some r) : g36  = some r := by
  unfold e36 at h
  unfold g36
  obtain ⟨r1, h2, h⟩ := obind h
  refine obind_mk (le38 qq h2) ?_
  obtain ⟨r3, h4, h⟩ := obind h
  refine obind_mk (le93 qq h4) ?_
  obtain ⟨r5, h6, h⟩ := obind h
  refine obind_mk (le92 qq h6) ?_
  obtain ⟨r7, h8, h⟩ := obind h
  refine obind_mk (le92 qq h8) ?_
  obtain ⟨r9, h10, h⟩ := obind h
  refine obind_mk (le91 qq h10) ?_
  obtain ⟨r11, h12, h⟩ := obind h
  refine obind_mk (le38 qq h12) ?_
  obtain ⟨r13, h14, h⟩ := obind h
  refine obind_mk (le94 qq h14) ?_
  obtain ⟨r15, h16, h⟩ := obind h
  refine obind_mk (le94 qq h16) ?_
  obtain ⟨r17, h18, h⟩ := obind h
  refine obind_mk (le37 qq h18) ?_
  obtain ⟨r19, h20, h⟩ := obind h
  refine obind_mk (le96 qq h20) ?_
  obtain ⟨r21, h22, h⟩ := obind h
  refine obind_mk (le95 qq h22) ?_
  obtain ⟨r23, h24, h⟩ := obind h
  refine obind_mk (le38 qq h24) ?_
  obtain ⟨r25, h26, h⟩ := obind h
  refine obind_mk (le37 qq h26) ?_
  obtain ⟨r27, h28, h⟩ := obind h
  refine obind_mk (le95 qq h28) ?_
  obtain ⟨r29, h30, h⟩ := obind h
  refine obind_mk (le95 qq h30) ?_
  obtain ⟨r31, h32, h⟩ := obind h
  refine obind_mk (le37 qq h32) ?_
  obtain ⟨r33, h34, h⟩ := obind h
  refine obind_mk (le95 qq h34) ?_
  obtain ⟨r35, h36, h⟩ := obind h
  refine obind_mk (le95 qq h36) ?_
  obtain ⟨r37, h38, h⟩ := obind h
  refine obind_mk (le91 qq h38) ?_
  obtain ⟨r39, h40, h⟩ := obind h
  refine obind_mk (le97 qq h40) ?_
  obtain ⟨r41, h42, h⟩ := obind h
  refine obind_mk (le92 qq h42) ?_
  obtain ⟨r43, h44, h⟩ := obind h
  refine obind_mk (le97 qq h44) ?_
  obtain ⟨r45, h46, h⟩ := obind h
  refine obind_mk (le91 qq h46) ?_
  obtain ⟨r47, h48, h⟩ := obind h
  refine obind_mk (le38 qq h48) ?_
  obtain ⟨r49, h50, h⟩ := obind h
  refine obind_mk (le97 qq h50) ?_
  obtain ⟨r51, h52, h⟩ := obind h
  refine obind_mk (le97 qq h52) ?_
  obtain ⟨r53, h54, h⟩ := obind h
  refine obind_mk (le91 qq h54) ?_
  obtain ⟨r55, h56, h⟩ := obind h
  refine obind_mk (le38 qq h56) ?_
  obtain ⟨r57, h58, h⟩ := obind h
  refine obind_mk (le37 qq h58) ?_
  obtain ⟨r59, h60, h⟩ := obind h
  refine obind_mk (le92 qq h60) ?_
  obtain ⟨r61, h62, h⟩ := obind h
  refine obind_mk (le97 qq h62) ?_
  obtain ⟨r63, h64, h⟩ := obind h
  refine obind_mk (le37 qq h64) ?_
  obtain ⟨r65, h66, h⟩ := obind h
  refine obind_mk (le94 qq h66) ?_
  obtain ⟨r67, h68, h⟩ := obind h
  refine obind_mk (le37 qq h68) ?_
  obtain ⟨r69, h70, h⟩ := obind h
  refine obind_mk (le92 qq h70) ?_
  obtain ⟨r71, h72, h⟩ := obind h
  refine obind_mk (le92 qq h72) ?_
  obtain ⟨r73, h74, h⟩ := obind h
  refine obind_mk (le92 qq h74) ?_
  obtain ⟨r75, h76, h⟩ := obind h
  refine obind_mk (le97 qq h76) ?_
  obtain ⟨r77, h78, h⟩ := obind h
  refine obind_mk (le92 qq h78) ?_
  obtain ⟨r79, h80, h⟩ := obind h
  refine obind_mk (le92 qq h80) ?_
  obtain ⟨r81, h82, h⟩ := obind h
  refine obind_mk (le91 qq h82) ?_
  obtain ⟨r83, h84, h⟩ := obind h
  refine obind_mk (le38 qq h84) ?_
  obtain ⟨r85, h86, h⟩ := obind h
  refine obind_mk (le38 qq h86) ?_
  obtain ⟨r87, h88, h⟩ := obind h
  refine obind_mk (le37 qq h88) ?_
  obtain ⟨r89, h90, h⟩ := obind h
  refine obind_mk (le92 qq h90) ?_
  obtain ⟨r91, h92, h⟩ := obind h
  refine obind_mk (le97 qq h92) ?_
  obtain ⟨r93, h94, h⟩ := obind h
  refine obind_mk (le37 qq h94) ?_
  obtain ⟨r95, h96, h⟩ := obind h
  refine obind_mk (le94 qq h96) ?_
  obtain ⟨r97, h98, h⟩ := obind h
  refine obind_mk (le37 qq h98) ?_
  obtain ⟨r99, h100, h⟩ := obind h
  refine obind_mk (le37 qq h100) ?_
  obtain ⟨r101, h102, h⟩ := obind h
  refine obind_mk (le92 qq h102) ?_
  obtain ⟨r103, h104, h⟩ := obind h
  refine obind_mk (le92 qq h104) ?_
  obtain ⟨r105, h106, h⟩ := obind h
  refine obind_mk (le92 qq h106) ?_
  obtain ⟨r107, h108, h⟩ := obind h
  refine obind_mk (le92 qq h108) ?_
  obtain ⟨r109, h110, h⟩ := obind h
  refine obind_mk (le97 qq h110) ?_
  obtain ⟨r111, h112, h⟩ := obind h
  refine obind_mk (le92 qq h112) ?_
  obtain ⟨r113, h114, h⟩ := obind h
  refine obind_mk (le92 qq h114) ?_
  obtain ⟨r115, h116, h⟩ := obind h
  refine obind_mk (le92 qq h116) ?_
  obtain ⟨r117, h118, h⟩ := obind h
  refine obind_mk (le91 qq h118) ?_
  obtain ⟨r119, h120, h⟩ := obind h
  refine obind_mk (le38 qq h120) ?_
  obtain ⟨r121, h122, h⟩ := obind h
  refine obind_mk (le37 qq h122) ?_
  obtain ⟨r123, h124, h⟩ := obind h
  refine obind_mk (le92 qq h124) ?_
  obtain ⟨r125, h126, h⟩ := obind h
  refine obind_mk (le92 qq h126) ?_
  obtain ⟨r127, h128, h⟩ := obind h
  refine obind_mk (le97 qq h128) ?_
  obtain ⟨r129, h130, h⟩ := obind h
  refine obind_mk (le37 qq h130) ?_
  obtain ⟨r131, h132, h⟩ := obind h
  refine obind_mk (le92 qq h132) ?_
  obtain ⟨r133, h134, h⟩ := obind h
  refine obind_mk (le92 qq h134) ?_
  obtain ⟨r135, h136, h⟩ := obind h
  refine obind_mk (le92 qq h136) ?_
  obtain ⟨r137, h138, h⟩ := obind h
  refine obind_mk (le92 qq h138) ?_
  obtain ⟨r139, h140, h⟩ := obind h
  refine obind_mk (le97 qq h140) ?_
  obtain ⟨r141, h142, h⟩ := obind h
  refine obind_mk (le92 qq h142) ?_
  obtain ⟨r143, h144, h⟩ := obind h
  refine obind_mk (le92 qq h144) ?_
  obtain ⟨r145, h146, h⟩ := obind h
  refine obind_mk (le92 qq h146) ?_
  obtain ⟨r147, h148, h⟩ := obind h
  refine obind_mk (le98 qq h148) ?_
  obtain ⟨r149, h150, h⟩ := obind h
  refine obind_mk (le92 qq h150) ?_
  obtain ⟨r151, h152, h⟩ := obind h
  refine obind_mk (le92 qq h152) ?_
  obtain ⟨r153, h154, h⟩ := obind h
  refine obind_mk (le92 qq h154) ?_
  obtain ⟨r155, h156, h⟩ := obind h
  refine obind_mk (le98 qq h156) ?_
  obtain ⟨r157, h158, h⟩ := obind h
  refine obind_mk (le91 qq h158) ?_
  obtain ⟨r159, h160, h⟩ := obind h
  refine obind_mk (le38 qq h160) ?_
  obtain ⟨r161, h162, h⟩ := obind h
  refine obind_mk (le97 qq h162) ?_
  obtain ⟨r163, h164, h⟩ := obind h
  refine obind_mk (le92 qq h164) ?_
  obtain ⟨r165, h166, h⟩ := obind h
  refine obind_mk (le92 qq h166) ?_
  obtain ⟨r167, h168, h⟩ := obind h
  refine obind_mk (le97 qq h168) ?_
  obtain ⟨r169, h170, h⟩ := obind h
  refine obind_mk (le92 qq h170) ?_
  obtain ⟨r171, h172, h⟩ := obind h
  refine obind_mk (le92 qq h172) ?_
  obtain ⟨r173, h174, h⟩ := obind h
  refine obind_mk (le92 qq h174) ?_
  obtain ⟨r175, h176, h⟩ := obind h
  refine obind_mk (le95 qq h176) ?_
  obtain ⟨r177, h178, h⟩ := obind h
  refine obind_mk (le95 qq h178) ?_
  exact h

def e6 (qq : Nat) (p0 : Tm) (p1 : Tm) : Option (Bool) :=
  (e32vz qq p0 [] [] []) >>= fun r1 =>
  (e33vz qq p0 [] [] []) >>= fun r3 =>
  (e34vz qq [p0] [] [] []) >>= fun r5 =>
  (e35 qq [(Ent.mk 0 (⟨#[]⟩ : ByteArray) (Tm.mk 0 0 []) (Tm.mk 0 0 []) 0 0 0 0 0 [] [])] p0 5) >>= fun r7 =>
  (e36 qq) >>= fun r9 =>
  (e21 qq r9) >>= fun r11 =>
  match r11 with
  | Sum.inl y36 =>
    (e38 qq 2) >>= fun r37 =>
    (e38 qq 1) >>= fun r39 =>
    (e37 qq r37 [r39]) >>= fun r41 =>
    (e32vz qq r41 [] [] []) >>= fun r43 =>
    if (r1.2 == 5) = true then
      if (r3.2 == 5) = true then
        if (r5.2 == 5) = true then
          (e39vz qq p0 p1 [] [] []) >>= fun r48 =>
          if (r48 == 5) = true then
            (e40vz qq [] [] []) >>= fun r51 =>
            if (r51 == 5) = true then
              if (r7.2 == 5) = true then
                if (y36 == 0) = true then
                  if (r43.2 == 8) = true then
                    (e41 qq) >>= fun r57 =>
                    some r57
                  else
                    some false
                else
                  some false
              else
                some false
            else
              some false
          else
            some false
        else
          some false
      else
        some false
    else
      some false
  | Sum.inr y13 =>
    (e38 qq 2) >>= fun r14 =>
    (e38 qq 1) >>= fun r16 =>
    (e37 qq r14 [r16]) >>= fun r18 =>
    (e32vn qq r18 (Mach.mk y13.2.1 y13.2.2.2.2.1 y13.2.2.2.2.2 y13.2.2.1 y13.2.2.2.1) [] [] []) >>= fun r20 =>
    if (r1.2 == 5) = true then
      if (r3.2 == 5) = true then
        if (r5.2 == 5) = true then
          (e39vz qq p0 p1 [] [] []) >>= fun r25 =>
          if (r25 == 5) = true then
            (e40vz qq [] [] []) >>= fun r28 =>
            if (r28 == 5) = true then
              if (r7.2 == 5) = true then
                if (y13.1 == 0) = true then
                  if (r20.2 == 8) = true then
                    (e41 qq) >>= fun r34 =>
                    some r34
                  else
                    some false
                else
                  some false
              else
                some false
            else
              some false
          else
            some false
        else
          some false
      else
        some false
    else
      some false
theorem le6 (qq : Nat) {p0 : Tm} {p1 : Tm} {r : Bool} (h : e6 qq p0 p1 = some r) : g6 p0 p1 = some r := by
  unfold e6 at h
  unfold g6
  obtain ⟨r1, h2, h⟩ := obind h
  refine obind_mk (le32vz qq h2) ?_
  obtain ⟨r3, h4, h⟩ := obind h
  refine obind_mk (le33vz qq h4) ?_
  obtain ⟨r5, h6, h⟩ := obind h
  refine obind_mk (le34vz qq h6) ?_
  obtain ⟨r7, h8, h⟩ := obind h
  refine obind_mk (le35 qq h8) ?_
  obtain ⟨r9, h10, h⟩ := obind h
  refine obind_mk (le36 qq h10) ?_
  obtain ⟨r11, h12, h⟩ := obind h
  refine obind_mk (le21 qq h12) ?_
  rcases r11 with y36 | y13
  · dsimp only at h ⊢
    obtain ⟨r37, h38, h⟩ := obind h
    refine obind_mk (le38 qq h38) ?_
    obtain ⟨r39, h40, h⟩ := obind h
    refine obind_mk (le38 qq h40) ?_
    obtain ⟨r41, h42, h⟩ := obind h
    refine obind_mk (le37 qq h42) ?_
    obtain ⟨r43, h44, h⟩ := obind h
    refine obind_mk (le32vz qq h44) ?_
    rcases bcases (r1.2 == 5) with h45 | h45
    · replace h := ifT h45 h
      refine ifT' h45 ?_
      rcases bcases (r3.2 == 5) with h46 | h46
      · replace h := ifT h46 h
        refine ifT' h46 ?_
        rcases bcases (r5.2 == 5) with h47 | h47
        · replace h := ifT h47 h
          refine ifT' h47 ?_
          obtain ⟨r48, h49, h⟩ := obind h
          refine obind_mk (le39vz qq h49) ?_
          rcases bcases (r48 == 5) with h50 | h50
          · replace h := ifT h50 h
            refine ifT' h50 ?_
            obtain ⟨r51, h52, h⟩ := obind h
            refine obind_mk (le40vz qq h52) ?_
            rcases bcases (r51 == 5) with h53 | h53
            · replace h := ifT h53 h
              refine ifT' h53 ?_
              rcases bcases (r7.2 == 5) with h54 | h54
              · replace h := ifT h54 h
                refine ifT' h54 ?_
                rcases bcases (y36 == 0) with h55 | h55
                · replace h := ifT h55 h
                  refine ifT' h55 ?_
                  rcases bcases (r43.2 == 8) with h56 | h56
                  · replace h := ifT h56 h
                    refine ifT' h56 ?_
                    obtain ⟨r57, h58, h⟩ := obind h
                    refine obind_mk (le41 qq h58) ?_
                    exact h
                  · replace h := ifF h56 h
                    refine ifF' h56 ?_
                    exact h
                · replace h := ifF h55 h
                  refine ifF' h55 ?_
                  exact h
              · replace h := ifF h54 h
                refine ifF' h54 ?_
                exact h
            · replace h := ifF h53 h
              refine ifF' h53 ?_
              exact h
          · replace h := ifF h50 h
            refine ifF' h50 ?_
            exact h
        · replace h := ifF h47 h
          refine ifF' h47 ?_
          exact h
      · replace h := ifF h46 h
        refine ifF' h46 ?_
        exact h
    · replace h := ifF h45 h
      refine ifF' h45 ?_
      exact h
  · dsimp only at h ⊢
    obtain ⟨r14, h15, h⟩ := obind h
    refine obind_mk (le38 qq h15) ?_
    obtain ⟨r16, h17, h⟩ := obind h
    refine obind_mk (le38 qq h17) ?_
    obtain ⟨r18, h19, h⟩ := obind h
    refine obind_mk (le37 qq h19) ?_
    obtain ⟨r20, h21, h⟩ := obind h
    refine obind_mk (le32vn qq h21) ?_
    rcases bcases (r1.2 == 5) with h22 | h22
    · replace h := ifT h22 h
      refine ifT' h22 ?_
      rcases bcases (r3.2 == 5) with h23 | h23
      · replace h := ifT h23 h
        refine ifT' h23 ?_
        rcases bcases (r5.2 == 5) with h24 | h24
        · replace h := ifT h24 h
          refine ifT' h24 ?_
          obtain ⟨r25, h26, h⟩ := obind h
          refine obind_mk (le39vz qq h26) ?_
          rcases bcases (r25 == 5) with h27 | h27
          · replace h := ifT h27 h
            refine ifT' h27 ?_
            obtain ⟨r28, h29, h⟩ := obind h
            refine obind_mk (le40vz qq h29) ?_
            rcases bcases (r28 == 5) with h30 | h30
            · replace h := ifT h30 h
              refine ifT' h30 ?_
              rcases bcases (r7.2 == 5) with h31 | h31
              · replace h := ifT h31 h
                refine ifT' h31 ?_
                rcases bcases (y13.1 == 0) with h32 | h32
                · replace h := ifT h32 h
                  refine ifT' h32 ?_
                  rcases bcases (r20.2 == 8) with h33 | h33
                  · replace h := ifT h33 h
                    refine ifT' h33 ?_
                    obtain ⟨r34, h35, h⟩ := obind h
                    refine obind_mk (le41 qq h35) ?_
                    exact h
                  · replace h := ifF h33 h
                    refine ifF' h33 ?_
                    exact h
                · replace h := ifF h32 h
                  refine ifF' h32 ?_
                  exact h
              · replace h := ifF h31 h
                refine ifF' h31 ?_
                exact h
            · replace h := ifF h30 h
              refine ifF' h30 ?_
              exact h
          · replace h := ifF h27 h
            refine ifF' h27 ?_
            exact h
        · replace h := ifF h24 h
          refine ifF' h24 ?_
          exact h
      · replace h := ifF h23 h
        refine ifF' h23 ?_
        exact h
    · replace h := ifF h22 h
      refine ifF' h22 ?_
      exact h

end Go.Proofs.YtkeipljdhcbfoaaGreat
