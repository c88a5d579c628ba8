/- Texts: AbRf AbF82 AbF32 AbF79 AbQg AbQh AbF77 AbRa AbF114va35861 AbF25 AbF26 AbF106va12063 AbF47 AbF52 AbF52va47633 AbF79va14437 AbF82va20783 AbF79va17286 AbF79va53055 AbF28 AbF78 AbF27 AbQi AbRd AbF166_228 AbRe AbF85 AbF85va14437 AbF166va39915_228va7488 AbF85va17286 AbF166va20868_228va60136 AbF85va53055 AbF35 AbF86 AbRg AbF33 AbF34 AbF37 AbF86va20783 AbF37va20783 AbF7 AbRh -/
import Derived.Test.YteiddempdecleaaGreatAbB4
set_option linter.unusedVariables false
set_option linter.unusedSimpArgs false
namespace Go.Proofs.YteiddempdecleaaGreat
open Go Go.Ab
def Post (l : List Ent) (Y : Tm) (e0 k0 : Int) (y : Tm) (e k : Int) : Prop :=
  (e0 ≠ 0 ∧ y = zT ∧ e = e0 ∧ k = k0) ∨ (e0 = 0 ∧ shapedT Y = false ∧ y = zT ∧ e = 2 ∧ k = k0 + 1) ∨ (e0 = 0 ∧ shapedT Y = true ∧ ∃ k', Br l Y y e k' ∧ k = k0 + 1 + k')
section
variable {l : List Ent} {x y : Tm} {e k : Int}
theorem Br.inv_none (h : Br l x y e k) (ha : actT l x = .none) : y = x ∧ e = 0 ∧ k = 0 := by
  cases h with
  | stop _ => exact ⟨rfl, rfl, rfl⟩
  | redE a => rw [ha] at a; cases a
  | redL a => rw [ha] at a; cases a
  | red a => rw [ha] at a; cases a
  | tgtE a => rw [ha] at a; cases a
  | tgtN a => rw [ha] at a; cases a
  | tgtRE a => rw [ha] at a; cases a
  | tgtRL a => rw [ha] at a; cases a
  | tgtR a => rw [ha] at a; cases a
theorem Br.inv_red {Y : Tm} {e0 : Int} (h : Br l x y e k) (ha : actT l x = .red Y e0) : Post l Y e0 0 y e k := by
  cases h with
  | stop a => rw [ha] at a; cases a
  | redE a b => rw [ha] at a; cases a; exact .inl ⟨b, rfl, rfl, rfl⟩
  | redL a b => rw [ha] at a; cases a; exact .inr (.inl ⟨rfl, b, rfl, rfl, rfl⟩)
  | red a b c => rw [ha] at a; cases a; exact .inr (.inr ⟨rfl, b, _, c, by omega⟩)
  | tgtE a => rw [ha] at a; cases a
  | tgtN a => rw [ha] at a; cases a
  | tgtRE a => rw [ha] at a; cases a
  | tgtRL a => rw [ha] at a; cases a
  | tgtR a => rw [ha] at a; cases a
theorem Br.inv_tgt {a : Tm} (h : Br l x y e k) (ha : actT l x = .tgt a) : ∃ z ea ka, Br l a z ea ka ∧ ((ea ≠ 0 ∧ y = zT ∧ e = ea ∧ k = ka) ∨ (ea = 0 ∧ ((reactT l x z = none ∧ y = x ∧ e = 0 ∧ k = ka) ∨ ∃ Y e0, reactT l x z = some (Y, e0) ∧ Post l Y e0 ka y e k))) := by
  cases h with
  | stop a => rw [ha] at a; cases a
  | redE a b => rw [ha] at a; cases a
  | redL a b => rw [ha] at a; cases a
  | red a b c => rw [ha] at a; cases a
  | tgtE a b c => rw [ha] at a; cases a; exact ⟨_, _, _, b, .inl ⟨c, rfl, rfl, rfl⟩⟩
  | tgtN a b c => rw [ha] at a; cases a; exact ⟨_, _, _, b, .inr ⟨rfl, .inl ⟨c, rfl, rfl, rfl⟩⟩⟩
  | tgtRE a b c d => rw [ha] at a; cases a; exact ⟨_, _, _, b, .inr ⟨rfl, .inr ⟨_, _, c, .inl ⟨d, rfl, rfl, rfl⟩⟩⟩⟩
  | tgtRL a b c d => rw [ha] at a; cases a; exact ⟨_, _, _, b, .inr ⟨rfl, .inr ⟨_, _, c, .inr (.inl ⟨rfl, d, rfl, rfl, rfl⟩)⟩⟩⟩
  | tgtR a b c d f => rw [ha] at a; cases a; exact ⟨_, _, _, b, .inr ⟨rfl, .inr ⟨_, _, c, .inr (.inr ⟨rfl, d, _, f, rfl⟩)⟩⟩⟩
theorem Br.det (h : Br l x y e k) : ∀ {y' : Tm} {e' k' : Int}, Br l x y' e' k' → y' = y ∧ e' = e ∧ k' = k := by
  induction h with
  | stop a => intro y' e' k' h2; exact h2.inv_none a
  | redE a b =>
    intro y' e' k' h2
    rcases h2.inv_red a with ⟨c, d⟩ | ⟨c, d⟩ | ⟨c, d⟩
    · exact d
    · exact absurd c b
    · exact absurd c b
  | redL a b =>
    intro y' e' k' h2
    rcases h2.inv_red a with ⟨c, d⟩ | ⟨c, d, f⟩ | ⟨c, d, f⟩
    · exact absurd rfl c
    · exact f
    · rw [b] at d; cases d
  | red a b c ih =>
    intro y' e' k' h2
    rcases h2.inv_red a with ⟨c, d⟩ | ⟨c, d, f⟩ | ⟨c, d, n, f, g⟩
    · exact absurd rfl c
    · rw [b] at d; cases d
    · obtain ⟨rfl, rfl, rfl⟩ := ih f; exact ⟨rfl, rfl, by omega⟩
  | tgtE a b c ih =>
    intro y' e' k' h2
    obtain ⟨z', ea, ka, hb', h3⟩ := h2.inv_tgt a
    obtain ⟨rfl, rfl, rfl⟩ := ih hb'
    rcases h3 with ⟨_, d⟩ | ⟨d, _⟩
    · exact d
    · exact absurd d c
  | tgtN a b c ih =>
    intro y' e' k' h2
    obtain ⟨z', ea, ka, hb', h3⟩ := h2.inv_tgt a
    obtain ⟨rfl, rfl, rfl⟩ := ih hb'
    rcases h3 with ⟨d, _⟩ | ⟨_, ⟨_, d⟩ | ⟨Y, e0, d, _⟩⟩
    · exact absurd rfl d
    · exact d
    · rw [c] at d; cases d
  | tgtRE a b c d ih =>
    intro y' e' k' h2
    obtain ⟨z', ea, ka, hb', h3⟩ := h2.inv_tgt a
    obtain ⟨rfl, rfl, rfl⟩ := ih hb'
    rcases h3 with ⟨f, _⟩ | ⟨_, ⟨f, _⟩ | ⟨Y, e0, f, g⟩⟩
    · exact absurd rfl f
    · rw [c] at f; cases f
    · rw [c] at f; cases f
      rcases g with ⟨_, g⟩ | ⟨g, _⟩ | ⟨g, _⟩
      · exact g
      · exact absurd g d
      · exact absurd g d
  | tgtRL a b c d ih =>
    intro y' e' k' h2
    obtain ⟨z', ea, ka, hb', h3⟩ := h2.inv_tgt a
    obtain ⟨rfl, rfl, rfl⟩ := ih hb'
    rcases h3 with ⟨f, _⟩ | ⟨_, ⟨f, _⟩ | ⟨Y, e0, f, g⟩⟩
    · exact absurd rfl f
    · rw [c] at f; cases f
    · rw [c] at f; cases f
      rcases g with ⟨g, _⟩ | ⟨_, _, g⟩ | ⟨_, g, _⟩
      · exact absurd rfl g
      · exact g
      · rw [d] at g; cases g
  | tgtR a b c d f ih ih2 =>
    intro y' e' k' h2
    obtain ⟨z', ea, ka, hb', h3⟩ := h2.inv_tgt a
    obtain ⟨rfl, rfl, rfl⟩ := ih hb'
    rcases h3 with ⟨f, _⟩ | ⟨_, ⟨f, _⟩ | ⟨Y, e0, f, g⟩⟩
    · exact absurd rfl f
    · rw [c] at f; cases f
    · rw [c] at f; cases f
      rcases g with ⟨g, _⟩ | ⟨_, g, _⟩ | ⟨_, _, n, g, rfl⟩
      · exact absurd rfl g
      · rw [d] at g; cases g
      · obtain ⟨rfl, rfl, rfl⟩ := ih2 g; exact ⟨rfl, rfl, rfl⟩
theorem Br.last (h : Br l x y e k) : e = 0 → ∃ j, j ≤ k ∧ On l y y false 0 j := by
  induction h with
  | stop a => exact fun _ => ⟨0, by omega, .stop a⟩
  | redE _ h => exact fun he => absurd he h
  | redL _ _ => exact fun he => absurd he (by decide)
  | red _ _ _ ih => exact fun he => by obtain ⟨j, a, b⟩ := ih he; exact ⟨j, by omega, b⟩
  | tgtE _ _ h _ => exact fun he => absurd he h
  | tgtN a b c _ => exact fun _ => ⟨_, by omega, .tgtN a b c⟩
  | tgtRE _ _ _ h _ => exact fun he => absurd he h
  | tgtRL _ _ _ _ _ => exact fun he => absurd he (by decide)
  | tgtR _ b _ _ _ _ ih => exact fun he => by obtain ⟨j, a, c⟩ := ih he; exact ⟨j, by have := b.nn; omega, c⟩
theorem On.det {Y Y' : Tm} {d d' : Bool} {e e' k k' : Int} (h : On l x Y d e k) (h' : On l x Y' d' e' k') : Y' = Y ∧ d' = d ∧ e' = e ∧ k' = k := by
  cases h with
  | stop a =>
    cases h' with
    | stop _ => exact ⟨rfl, rfl, rfl, rfl⟩
    | redE b => rw [a] at b; cases b
    | redL b => rw [a] at b; cases b
    | red b => rw [a] at b; cases b
    | tgtE b => rw [a] at b; cases b
    | tgtN b => rw [a] at b; cases b
    | tgtRE b => rw [a] at b; cases b
    | tgtRL b => rw [a] at b; cases b
    | tgtR b => rw [a] at b; cases b
  | redE a c =>
    cases h' with
    | redE b => rw [a] at b; cases b; exact ⟨rfl, rfl, rfl, rfl⟩
    | redL b => rw [a] at b; cases b; exact absurd rfl c
    | red b => rw [a] at b; cases b; exact absurd rfl c
    | stop b => rw [a] at b; cases b
    | tgtE b => rw [a] at b; cases b
    | tgtN b => rw [a] at b; cases b
    | tgtRE b => rw [a] at b; cases b
    | tgtRL b => rw [a] at b; cases b
    | tgtR b => rw [a] at b; cases b
  | redL a c =>
    cases h' with
    | redE b d => rw [a] at b; cases b; exact absurd rfl d
    | redL b => exact ⟨rfl, rfl, rfl, rfl⟩
    | red b d => rw [a] at b; cases b; rw [c] at d; cases d
    | stop b => rw [a] at b; cases b
    | tgtE b => rw [a] at b; cases b
    | tgtN b => rw [a] at b; cases b
    | tgtRE b => rw [a] at b; cases b
    | tgtRL b => rw [a] at b; cases b
    | tgtR b => rw [a] at b; cases b
  | red a c =>
    cases h' with
    | redE b d => rw [a] at b; cases b; exact absurd rfl d
    | redL b d => rw [a] at b; cases b; rw [c] at d; cases d
    | red b d => rw [a] at b; cases b; exact ⟨rfl, rfl, rfl, rfl⟩
    | stop b => rw [a] at b; cases b
    | tgtE b => rw [a] at b; cases b
    | tgtN b => rw [a] at b; cases b
    | tgtRE b => rw [a] at b; cases b
    | tgtRL b => rw [a] at b; cases b
    | tgtR b => rw [a] at b; cases b
  | tgtE a c f =>
    cases h' with
    | stop b => rw [a] at b; cases b
    | redE b => rw [a] at b; cases b
    | redL b => rw [a] at b; cases b
    | red b => rw [a] at b; cases b
    | tgtE b g => rw [a] at b; cases b; obtain ⟨-, rfl, rfl⟩ := c.det g; exact ⟨rfl, rfl, rfl, rfl⟩
    | tgtN b g => rw [a] at b; cases b; exact absurd (c.det g).2.1.symm f
    | tgtRE b g => rw [a] at b; cases b; exact absurd (c.det g).2.1.symm f
    | tgtRL b g => rw [a] at b; cases b; exact absurd (c.det g).2.1.symm f
    | tgtR b g => rw [a] at b; cases b; exact absurd (c.det g).2.1.symm f
  | tgtN a c f =>
    cases h' with
    | stop b => rw [a] at b; cases b
    | redE b => rw [a] at b; cases b
    | redL b => rw [a] at b; cases b
    | red b => rw [a] at b; cases b
    | tgtE b g n => rw [a] at b; cases b; exact absurd (c.det g).2.1 n
    | tgtN b g => rw [a] at b; cases b; obtain ⟨-, -, rfl⟩ := c.det g; exact ⟨rfl, rfl, rfl, rfl⟩
    | tgtRE b g n => rw [a] at b; cases b; obtain ⟨rfl, -, -⟩ := c.det g; rw [f] at n; cases n
    | tgtRL b g n => rw [a] at b; cases b; obtain ⟨rfl, -, -⟩ := c.det g; rw [f] at n; cases n
    | tgtR b g n => rw [a] at b; cases b; obtain ⟨rfl, -, -⟩ := c.det g; rw [f] at n; cases n
  | tgtRE a c f n0 =>
    cases h' with
    | stop b => rw [a] at b; cases b
    | redE b => rw [a] at b; cases b
    | redL b => rw [a] at b; cases b
    | red b => rw [a] at b; cases b
    | tgtE b g n => rw [a] at b; cases b; exact absurd (c.det g).2.1 n
    | tgtN b g n => rw [a] at b; cases b; obtain ⟨rfl, -, -⟩ := c.det g; rw [f] at n; cases n
    | tgtRE b g n => rw [a] at b; cases b; obtain ⟨rfl, -, rfl⟩ := c.det g; rw [f] at n; cases n; exact ⟨rfl, rfl, rfl, rfl⟩
    | tgtRL b g n => rw [a] at b; cases b; obtain ⟨rfl, -, -⟩ := c.det g; rw [f] at n; cases n; exact absurd rfl n0
    | tgtR b g n => rw [a] at b; cases b; obtain ⟨rfl, -, -⟩ := c.det g; rw [f] at n; cases n; exact absurd rfl n0
  | tgtRL a c f n0 =>
    cases h' with
    | stop b => rw [a] at b; cases b
    | redE b => rw [a] at b; cases b
    | redL b => rw [a] at b; cases b
    | red b => rw [a] at b; cases b
    | tgtE b g n => rw [a] at b; cases b; exact absurd (c.det g).2.1 n
    | tgtN b g n => rw [a] at b; cases b; obtain ⟨rfl, -, -⟩ := c.det g; rw [f] at n; cases n
    | tgtRE b g n m => rw [a] at b; cases b; obtain ⟨rfl, -, -⟩ := c.det g; rw [f] at n; cases n; exact absurd rfl m
    | tgtRL b g n => rw [a] at b; cases b; obtain ⟨rfl, -, rfl⟩ := c.det g; exact ⟨rfl, rfl, rfl, rfl⟩
    | tgtR b g n m => rw [a] at b; cases b; obtain ⟨rfl, -, -⟩ := c.det g; rw [f] at n; cases n; rw [n0] at m; cases m
  | tgtR a c f n0 =>
    cases h' with
    | stop b => rw [a] at b; cases b
    | redE b => rw [a] at b; cases b
    | redL b => rw [a] at b; cases b
    | red b => rw [a] at b; cases b
    | tgtE b g n => rw [a] at b; cases b; exact absurd (c.det g).2.1 n
    | tgtN b g n => rw [a] at b; cases b; obtain ⟨rfl, -, -⟩ := c.det g; rw [f] at n; cases n
    | tgtRE b g n m => rw [a] at b; cases b; obtain ⟨rfl, -, -⟩ := c.det g; rw [f] at n; cases n; exact absurd rfl m
    | tgtRL b g n m => rw [a] at b; cases b; obtain ⟨rfl, -, -⟩ := c.det g; rw [f] at n; cases n; rw [n0] at m; cases m
    | tgtR b g n => rw [a] at b; cases b; obtain ⟨rfl, -, rfl⟩ := c.det g; rw [f] at n; cases n; exact ⟨rfl, rfl, rfl, rfl⟩
end
section
variable {l : List Ent} {x y : Tm} {e k : Int}
theorem On.tgt_lt {a Y : Tm} {d : Bool} {f : Int} (h : On l x Y d e k) (ha : actT l x = .tgt a) (hl : ∀ z e k, Br l a z e k → f < k) : f < k := by
  cases h with
  | stop b => rw [ha] at b; cases b
  | redE b => rw [ha] at b; cases b
  | redL b => rw [ha] at b; cases b
  | red b => rw [ha] at b; cases b
  | tgtE b g => rw [ha] at b; cases b; exact hl _ _ _ g
  | tgtN b g => rw [ha] at b; cases b; exact hl _ _ _ g
  | tgtRE b g => rw [ha] at b; cases b; exact hl _ _ _ g
  | tgtRL b g => rw [ha] at b; cases b; have := hl _ _ _ g; omega
  | tgtR b g => rw [ha] at b; cases b; have := hl _ _ _ g; omega
theorem On.red_lt {Y Z : Tm} {d : Bool} {e0 : Int} (h : On l x Y d e k) (ha : actT l x = .red Z e0) (h0 : e0 = 0) : k = 1 := by
  subst h0
  cases h with
  | stop b => rw [ha] at b; cases b
  | redE b c => rw [ha] at b; cases b; exact absurd rfl c
  | redL b => rfl
  | red b => rfl
  | tgtE b g => rw [ha] at b; cases b
  | tgtN b g => rw [ha] at b; cases b
  | tgtRE b g => rw [ha] at b; cases b
  | tgtRL b g => rw [ha] at b; cases b
  | tgtR b g => rw [ha] at b; cases b
theorem Br.first (h : Br l x y e k) : ∃ Y d e1 k1, On l x Y d e1 k1 ∧ k1 ≤ k := by
  cases h with
  | stop a => exact ⟨_, _, _, _, .stop a, by omega⟩
  | redE a b => exact ⟨_, _, _, _, .redE a b, by omega⟩
  | redL a b => exact ⟨_, _, _, _, .redL a b, by omega⟩
  | red a b c => exact ⟨_, _, _, _, .red a b, by have := c.nn; omega⟩
  | tgtE a b c => exact ⟨_, _, _, _, .tgtE a b c, by omega⟩
  | tgtN a b c => exact ⟨_, _, _, _, .tgtN a b c, by omega⟩
  | tgtRE a b c d => exact ⟨_, _, _, _, .tgtRE a b c d, by omega⟩
  | tgtRL a b c d => exact ⟨_, _, _, _, .tgtRL a b c d, by omega⟩
  | tgtR a b c d f => exact ⟨_, _, _, _, .tgtR a b c d, by have := f.nn; omega⟩
theorem Br.after {Y : Tm} {k1 : Int} (h : Br l x y e k) (hO : On l x Y true 0 k1) : ∃ k2, Br l Y y e k2 ∧ k = k1 + k2 := by
  cases hO with
  | red a b =>
    rcases h.inv_red a with ⟨c, -⟩ | ⟨-, c, -⟩ | ⟨-, -, n, f, g⟩
    · exact absurd rfl c
    · rw [b] at c; cases c
    · exact ⟨n, f, by omega⟩
  | tgtR a b c d =>
    obtain ⟨z', ea, ka, hb', h3⟩ := h.inv_tgt a
    obtain ⟨rfl, rfl, rfl⟩ := b.det hb'
    rcases h3 with ⟨f, _⟩ | ⟨_, ⟨f, _⟩ | ⟨Y, e0, f, g⟩⟩
    · exact absurd rfl f
    · rw [c] at f; cases f
    · rw [c] at f; cases f
      rcases g with ⟨g, _⟩ | ⟨_, g, _⟩ | ⟨_, _, n, g, rfl⟩
      · exact absurd rfl g
      · rw [d] at g; cases g
      · exact ⟨n, g, by omega⟩
end
def e82 (qq : Nat) (M : Mach) (p1 : Tm) : Option (Bool) :=
 e108 qq p1 1048577 (List.length M.l : Int) >>= fun r1 =>
 some r1
abbrev K82 (M : Mach) (p1 : Tm) (r : Bool) (C : Cf) : Prop := C 82 [.cells [.sl (flat entL M.l) (List.length M.l) .no, .mp 1 0, .sl (flat intC M.args) (List.length M.args) .no, .sl (flat intC M.own) (List.length M.own) .no], .cells [.sl (flat entL M.rl) (List.length M.rl) .no, .sl (flat conL M.parts) (List.length M.parts) .no]] [.mp 0 0, tmA p1] (ab r) [.cells [.sl (flat entL M.l) (List.length M.l) .no, .mp 1 0, .sl (flat intC M.args) (List.length M.args) .no, .sl (flat intC M.own) (List.length M.own) .no], .cells [.sl (flat entL M.rl) (List.length M.rl) .no, .sl (flat conL M.parts) (List.length M.parts) .no]] 0
theorem q82 : Qf 82 Tryz.f82 := ⟨Tryz.func82, by kernel_rfl⟩
theorem k82 {M p1 r} (h : K82 M p1 r Ci) : K82 M p1 r Ct := ⟨h, ⟨(lz rfl), ⟨tv, tv, ⟨tv, dT _⟩, tv⟩, tv⟩, (forall_cons ⟨⟨tv, dE _⟩, (lz rfl), ⟨tv, dI _⟩, ⟨tv, dI _⟩, tv⟩ (forall_cons ⟨⟨tv, dE _⟩, ⟨tv, dC _⟩, tv⟩ forall_nil)), tv, (forall_cons ⟨dE _, (lz rfl), dI _, dI _, tv⟩ (forall_cons ⟨dE _, dC _, tv⟩ forall_nil))⟩
theorem c82 {qq M p1 r} (h : e82 qq M p1 = some r) : K82 M p1 r Ct := by
 unfold e82 at h
 obtain ⟨r1, h2, h⟩ := obind h
 obtain rfl := sj h
 exact k82 (tF q82 0 [0, 1] (oD (dC M.parts) <| oD (dE M.rl) <| oD (dI M.own) <| oD (dI M.args) <| oD (dE M.l) <| oC 4 [] (c108 h2) o0))
def e79 (qq : Nat) (M : Mach) (p1 : Tm) (fl fu : Int) : Option (Tm × Int × Int × Int) :=
 e82 qq M p1 >>= fun r1 =>
 if r1 then
 e157 qq M p1 fl fu >>= fun r4 =>
 if r4.2.1 != 0 then
 some ((Tm.mk 0 0 []), r4.2.1, r4.2.2.1, r4.2.2.2)
 else
 e84 qq r4.1 >>= fun r7 =>
 some (r7, 0, r4.2.2.1, r4.2.2.2)
 else
 some ((Tm.mk 0 0 []), 5, fl, fu)
abbrev K79 (M : Mach) (p1 : Tm) (fl fu : Int) (r : Tm × Int × Int × Int) (C : Cf) : Prop := C 79 [.cells [.sl (flat entL M.l) (List.length M.l) .no, .mp 1 0, .sl (flat intC M.args) (List.length M.args) .no, .sl (flat intC M.own) (List.length M.own) .no], .cells [.sl (flat entL M.rl) (List.length M.rl) .no, .sl (flat conL M.parts) (List.length M.parts) .no], .cells [ai fl, ai fu]] [.mp 0 0, tmA p1, .mp 2 0] (.tup [tmA r.1, ai r.2.1]) [.cells [.sl (flat entL M.l) (List.length M.l) .no, .mp 1 0, .sl (flat intC M.args) (List.length M.args) .no, .sl (flat intC M.own) (List.length M.own) .no], .cells [.sl (flat entL M.rl) (List.length M.rl) .no, .sl (flat conL M.parts) (List.length M.parts) .no], .cells [ai r.2.2.1, ai r.2.2.2]] 0
theorem q79 : Qf 79 Tryz.f79 := ⟨Tryz.func79, by kernel_rfl⟩
theorem k79 {M p1 fl fu r} (h : K79 M p1 fl fu r Ci) : K79 M p1 fl fu r Ct := ⟨h, ⟨(lz rfl), ⟨tv, tv, ⟨tv, dT _⟩, tv⟩, (lz rfl), tv⟩, (forall_cons ⟨⟨tv, dE _⟩, (lz rfl), ⟨tv, dI _⟩, ⟨tv, dI _⟩, tv⟩ (forall_cons ⟨⟨tv, dE _⟩, ⟨tv, dC _⟩, tv⟩ (forall_cons ⟨tv, tv, tv⟩ forall_nil))), ⟨⟨tv, tv, dT _, tv⟩, tv, tv⟩, (forall_cons ⟨dE _, (lz rfl), dI _, dI _, tv⟩ (forall_cons ⟨dE _, dC _, tv⟩ (forall_cons ⟨tv, tv, tv⟩ forall_nil)))⟩
theorem c79 {qq M p1 fl fu r} (h : e79 qq M p1 fl fu = some r) : K79 M p1 fl fu r Ct := by
 unfold e79 at h
 obtain ⟨r1, h2, h⟩ := obind h
 rcases spl h with ⟨h3, h⟩ | ⟨h3, h⟩
 obtain ⟨r4, h5, h⟩ := obind h
 have k := oC 2 [0, 1, 2] (c157 h5) <| oK 1 [0, 1] h3 (c82 h2) o0
 rcases spl h with ⟨h6, h⟩ | ⟨h6, h⟩
 obtain rfl := sj h
 exact k79 (tF q79 1 [0, 1, 2] (oD (dT ([] : List Tm)) <| oD (dC M.parts) <| oD (dE M.rl) <| oD (dI M.own) <| oD (dI M.args) <| oD (dE M.l) <| oB 3 h6 k))
 obtain ⟨r7, h8, h⟩ := obind h
 obtain rfl := sj h
 exact k79 (tF q79 1 [0, 1, 2] (oD (dT r7.sub) <| oD (dC M.parts) <| oD (dE M.rl) <| oD (dI M.own) <| oD (dI M.args) <| oD (dE M.l) <| oC 1 [] (c84 h8) <| oB 3 h6 k))
 obtain rfl := sj h
 exact k79 (tF q79 2 [0, 1, 2] (oD (dT ([] : List Tm)) <| oD (dC M.parts) <| oD (dE M.rl) <| oD (dI M.own) <| oD (dI M.args) <| oD (dE M.l) <| oK 1 [0, 1] h3 (c82 h2) o0))
theorem Br.shaped {l : List Ent} {x y : Tm} {e k : Int} (h : Br l x y e k) : shapedT x = true → e = 0 → shapedT y = true := by
  induction h with
  | stop _ => exact fun hs _ => hs
  | redE _ h => exact fun _ he => absurd he h
  | redL _ _ => exact fun _ he => absurd he (by decide)
  | red _ hY _ ih => exact fun _ he => ih hY he
  | tgtE _ _ h _ => exact fun _ he => absurd he h
  | tgtN _ _ _ _ => exact fun hs _ => hs
  | tgtRE _ _ _ h _ => exact fun _ he => absurd he h
  | tgtRL _ _ _ _ _ => exact fun _ he => absurd he (by decide)
  | tgtR _ _ _ hY _ _ ih => exact fun _ he => ih hY he
theorem out_fin {Q : (Int → Int → Tm × Bool × Int × Int × Int) → Int → Prop} (p Y : Tm) (f : Int) (hf : 0 ≤ f) (ho : Y.Ok) (hL : shapedT Y = false → Q (fun L U => (zT, true, 2, L, U)) 1) (hS : shapedT Y = true → Q (fun L U => (Y, true, 0, L, U)) 1) {S : Prop} (hsh : f < 1 → S) :
    Ou (fun L U q => (e163 q L U) >>= fun r28 => if (r28.1 != 0) = true then some (p, false, r28.1, r28.2.1, r28.2.2) else (e164 q Y) >>= fun r31 => some (r31.1, true, r31.2, r28.2.1, r28.2.2)) er5 Q S f := by
  refine Ou.bind (ou_step f hf) hsh (fun r hr => ⟨_, Evt.ifT (by show (r.1 != 0) = true; rw [show r.1 = 8 from hr]; decide) Evt.ret, hr⟩) ?_
  rintro R k k0 k1 ⟨rfl, rfl⟩
  dsimp only
  refine Ou.ifF rfl (Ou.evt (ev_wshaped Y ho) ?_)
  unfold wshT
  cases h : shapedT Y with
  | true => exact Ou.ret (by omega) (hS h)
  | false => exact Ou.ret (by omega) (hL h)
theorem out_tail (l : List Ent) (p : Tm) (f : Int) (hf : 0 ≤ f) {g : Int → Int → Nat → Option (Tm × Bool × Int × Int × Int)} (h : Ou g er5 (QF l p) (∃ a, actT l p = .tgt a ∧ ∀ z e k, Br l a z e k → f < k) f) :
    Ou (fun L U q => g L U q >>= fun r36 => if r36.2.1 = true then (if (r36.2.2.1 != 0) = true then some (p, false, r36.2.2.1, r36.2.2.2.1, r36.2.2.2.2) else
      (e163 q r36.2.2.2.1 r36.2.2.2.2) >>= fun r40 => if (r40.1 != 0) = true then some (p, false, r40.1, r40.2.1, r40.2.2) else (e164 q r36.1) >>= fun r43 => some (r43.1, true, r43.2, r40.2.1, r40.2.2))
      else (if (r36.2.2.1 != 0) = true then some (p, false, r36.2.2.1, r36.2.2.2.1, r36.2.2.2.2) else some (p, false, r36.2.2.1, r36.2.2.2.1, r36.2.2.2.2))) er5 (QO l p) (∀ Y d e k, On l p Y d e k → f < k) f := by
  refine Ou.bind h (fun ⟨a, ha, h⟩ Y d e k hO => hO.tgt_lt ha h) (fun r hr => ?_) ?_
  · have hr' : (r.2.2.1 != 0) = true := by rw [show r.2.2.1 = 8 from hr]; decide
    cases hd : r.2.1 with
    | true => exact ⟨_, Evt.ifT rfl (Evt.ifT hr' Evt.ret), hr⟩
    | false => exact ⟨_, Evt.ifF rfl (Evt.ifT hr' Evt.ret), hr⟩
  · rintro R k k0 k1 (⟨ha, rfl, Y, rfl⟩ | ⟨a, z, e, ha, hb, ⟨he, Y, rfl⟩ | ⟨rfl, ⟨hr, Y, rfl⟩ | ⟨Y, e', hY, hr, rfl⟩⟩⟩)
    · exact Ou.ifF rfl (Ou.ifF rfl (Ou.ret (by omega) ⟨p, false, 0, On.stop ha, rfl⟩))
    · dsimp only
      exact Ou.ifF rfl (Ou.ifT (by simpa using he) (Ou.ret (by omega) ⟨p, false, e, by rw [Int.add_zero]; exact On.tgtE ha hb he, rfl⟩))
    · exact Ou.ifF rfl (Ou.ifF rfl (Ou.ret (by omega) ⟨p, false, 0, by rw [Int.add_zero]; exact On.tgtN ha hb hr, rfl⟩))
    · dsimp only
      refine Ou.ifT rfl (Ou.ite (fun h => ?_) fun h => ?_)
      · exact Ou.ret (by omega) ⟨p, false, e', by rw [Int.add_zero]; exact On.tgtRE ha hb hr (by simpa using h), rfl⟩
      · have he : e' = 0 := by simpa using h
        subst he
        refine out_fin p Y (f - k) (by omega) hY (fun hs => ⟨_, _, _, On.tgtRL ha hb hr hs, rfl⟩) (fun hs => ⟨_, _, _, On.tgtR ha hb hr hs, rfl⟩) (fun h Y' d' e' k' hO => ?_)
        cases hsY : shapedT Y with
        | true => have := (On.tgtR ha hb hr hsY).det hO; omega
        | false => have := (On.tgtRL ha hb hr hsY).det hO; omega
theorem out_once {N : ByteArray → Bool} (l : List Ent) (hE : AllE N l) (he : ∀ e ∈ l, EOk e) (x : Tm) (hs : shapedT x = true) (f : Int) (hf : 0 ≤ f) (hb : ∀ a ∈ arT x, HB l a f) : Ou (fun L U q => e83 q (machT l) x L U) er5 (QO l x) (∀ Y d e k, On l x Y d e k → f < k) f := by
  have hB : ∀ a y k, shapedT a = true → Br l a y 0 k → shapedT y = true := fun a y k h1 h2 => h2.shaped h1 rfl
  have hh := hd_shaped hs
  have hg := (shapedT_spec hh).2.2
  have hn := good_n hg
  have ho : OkA (arT x) := fun y hy => shaped_ok (ar_shaped hs hy)
  have hl : (arT x).length ≤ 8192 := by
    have h := shapedT_spec hs
    have := ar_len _ h.2.2
    omega
  refine Ou.succ ?_
  simp only [e83, machT_l, machT_rl, machT_parts]
  refine Ou.evt (ev_Spine x hs) (Ou.ite (fun h4 => ?_) fun h4 => ?_)
  · have h4' : (hdT x).k = 4 := by simpa using h4
    have hkk : ∀ k : Int, k ≠ 0 → kindT l (hdT x) ≠ k := fun k hk e => by have := (kindT_spec e hk).1; omega
    refine Ou.ite (fun hlen => ?_) fun hlen => ?_
    · have hlen' : ((arT x).length : Int) > 0 := of_decide_eq_true hlen
      obtain ⟨a, b, hab, -, hgb⟩ := nth_sub2 hg (.inr (.inl h4'))
      have hm : nth (arT x) 0 ∈ arT x := nth_mem (by omega) (by omega)
      have hbo : (nth (hdT x).sub 1).Ok := by rw [hab]; exact good_ok b hgb
      have hact : actT l x = .red (apT (subT (nth (hdT x).sub 1) [nth (arT x) 0]).1 ((arT x).drop 1)) (subT (nth (hdT x).sub 1) [nth (arT x) 0]).2 := by
        unfold actT
        rw [if_pos ⟨h4', by omega⟩]
      refine Ou.pure (gidx_nth (by omega) (by rw [hab]; simp)) (Ou.pure (gidx_nth (by omega) (by show (0 : Int) < ((arT x).length : Int); omega)) (Ou.evt (ev_One _ _ hbo (ho _ hm)) (Ou.pure (gsl_from (by omega) (by show (1 : Int) ≤ ((arT x).length : Int); omega)) (Ou.evt (ev_Apply _ _ (by show (List.drop _ (arT x)).length < _; rw [List.length_drop]; omega)) ?_))))
      refine Ou.ite (fun h => Ou.ret hf ⟨_, _, _, On.redE hact (by simpa using h), rfl⟩) fun h => ?_
      have he0 : (subT (nth (hdT x).sub 1) [nth (arT x) 0]).2 = 0 := by simpa using h
      rw [he0] at hact
      exact out_fin x _ f hf (apT_ok _ _ (subT_ok _ _ hbo (OkA.one (ho _ hm))) (ho.drop _)) (fun hs => ⟨_, _, _, On.redL hact hs, rfl⟩) (fun hs => ⟨_, _, _, On.red hact hs, rfl⟩) (fun h Y' d' e' k' hO => by have := hO.red_lt hact rfl; omega)
    · have hlen' : ¬ ((arT x).length : Int) > 0 := of_decide_eq_false hlen
      have hact : actT l x = .none := by
        unfold actT
        rw [if_neg (fun h => by omega), if_neg (hkk 3 (by decide)), if_neg (hkk 4 (by decide)), if_neg (by omega)]
      refine Ou.evt (ev_wkind l _ hn) (Ou.ifF (by simpa using hkk 3 (by decide)) ?_)
      refine Ou.evt (ev_wkind l _ hn) (Ou.ifF (by simpa using hkk 4 (by decide)) ?_)
      exact Ou.ifF (by show ((hdT x).k == 7) = false; rw [h4']; decide) (Ou.ret hf ⟨_, _, _, On.stop hact, rfl⟩)
  · have h4' : (hdT x).k ≠ 4 := by simpa using h4
    refine Ou.evt (ev_wkind l _ hn) (Ou.ite (fun h => ?_) fun h => ?_)
    · have h3 : kindT l (hdT x) = 3 := by simpa using h
      have hk := kindT_spec h3 (by decide)
      have hact : actT l x = .red (apT (ent l (hdT x).n).body (arT x)) 0 := by
        unfold actT
        rw [if_neg (fun h => h4' h.1), if_pos h3]
      refine Ou.pure (gidx_ent hn hk.2.1) (Ou.evt (ev_Apply _ _ (by show (arT x).length < _; omega)) ?_)
      exact out_fin x _ f hf (apT_ok _ _ (he _ (ent_mem hn hk.2.1)).2.1 ho) (fun hs => ⟨_, _, _, On.redL hact hs, rfl⟩) (fun hs => ⟨_, _, _, On.red hact hs, rfl⟩) (fun h Y' d' e' k' hO => by have := hO.red_lt hact rfl; omega)
    · have h3 : kindT l (hdT x) ≠ 3 := by simpa using h
      refine Ou.evt (ev_wkind l _ hn) (Ou.ite (fun h => ?_) fun h => ?_)
      · exact out_tail l x f hf (out_field l hE x hs f hf h4' (by simpa using h) hb hB)
      · have h4k : kindT l (hdT x) ≠ 4 := by simpa using h
        refine Ou.ite (fun h => out_tail l x f hf (out_elim l hE x hs f hf (by simpa using h) hb hB)) fun h => ?_
        have h7 : (hdT x).k ≠ 7 := by simpa using h
        have hact : actT l x = .none := by
          unfold actT
          rw [if_neg (fun h => h4' h.1), if_neg h3, if_neg h4k, if_neg h7]
        exact Ou.ret hf ⟨_, _, _, On.stop hact, rfl⟩
theorem out_bring {N : ByteArray → Bool} (l : List Ent) (hE : AllE N l) (he : ∀ e ∈ l, EOk e) : ∀ (F n : Nat) (x : Tm), shapedT x = true → x.nodes ≤ n → Ou (fun L U q => e157L60545 q (machT l) L U x.k x.n x.sub) er4 (fun R k => ∃ y e, Br l x y e k ∧ R = fun L U => (y, e, L, U)) (∀ y e k, Br l x y e k → (F : Int) < k) (F : Int) := by
  intro F
  induction F using Nat.strongRecOn with
  | ind F IH =>
    intro n
    induction n with
    | zero => intro x _ h; have := nodes_pos x; omega
    | succ n ih =>
      intro x hs hn
      have hg := (shapedT_spec hs).2.2
      have hb : ∀ a ∈ arT x, HB l a F := fun a ha => by
        have := ((hd_spec x hg).2.2.2.2 a ha).2.1
        refine Ou.succ ?_
        simp only [e157]
        exact ih a (ar_shaped hs ha) (by omega)
      refine Ou.succ ?_
      simp only [e157L60545, tm_eta]
      refine Ou.bind (out_once l hE he x hs F (by omega) hb) (fun h y e k hbr => by obtain ⟨Y, d, e1, k1, h1, h2⟩ := hbr.first; have := h _ _ _ _ h1; omega) (fun r hr => ?_) ?_
      · have hr' : (r.2.2.1 != 0) = true := by rw [show r.2.2.1 = 8 from hr]; decide
        cases hd : r.2.1 with
        | true => exact ⟨_, Evt.ifT rfl (Evt.ifT hr' Evt.ret), hr⟩
        | false => exact ⟨_, Evt.ifF rfl (Evt.ifT hr' Evt.ret), hr⟩
      · rintro R k k0 k1 ⟨Y, d, e, hO, rfl⟩
        dsimp only
        by_cases e0 : e = 0
        · subst e0
          cases d with
          | true =>
            obtain ⟨hY, hk1, hst⟩ := hO.step
            refine Ou.ifT rfl (Ou.ifF rfl ?_)
            have := IH ((F : Int) - k).toNat (by omega) Y.nodes Y hY (Nat.le_refl _)
            rw [show ((((F : Int) - k).toNat : Nat) : Int) = F - k by omega] at this
            refine this.mono ?_ fun h y e k' hbr => ?_
            · rintro R n _ _ ⟨y, e, hbr, rfl⟩
              exact ⟨y, e, hst y e n hbr, rfl⟩
            · obtain ⟨k2, h2, h3⟩ := hbr.after hO
              have := h _ _ _ h2
              omega
          | false =>
            obtain ⟨rfl, hbr⟩ := hO.still
            exact Ou.ifF rfl (Ou.ifF rfl (Ou.ret (by omega) ⟨Y, 0, by rwa [Int.add_zero], rfl⟩))
        · have hb := hO.err e0
          have hr' : (e != 0) = true := by simpa using e0
          cases d with
          | true => exact Ou.ifT rfl (Ou.ifT hr' (Ou.ret (by omega) ⟨zT, e, by rwa [Int.add_zero], rfl⟩))
          | false => exact Ou.ifF rfl (Ou.ifT hr' (Ou.ret (by omega) ⟨zT, e, by rwa [Int.add_zero], rfl⟩))
theorem hb_all {N : ByteArray → Bool} (l : List Ent) (hE : AllE N l) (he : ∀ e ∈ l, EOk e) (x : Tm) (hs : shapedT x = true) (f : Int) (hf : 0 ≤ f) : HB l x f := by
  refine Ou.succ ?_
  simp only [e157]
  have := out_bring l hE he f.toNat x.nodes x hs (Nat.le_refl _)
  rwa [show ((f.toNat : Nat) : Int) = f by omega] at this
def RightM (l : List Ent) (x : Tm) : Prop := rightT x 1048577 l.length = true
instance (l : List Ent) (x : Tm) : Decidable (RightM l x) := inferInstanceAs (Decidable (_ = true))
theorem RightM.shaped {l : List Ent} {x : Tm} (h : RightM l x) : shapedT x = true := by
  unfold RightM rightT at h
  simp only [Bool.and_eq_true] at h
  exact h.1.1
def QBR (l : List Ent) (x : Tm) (R : Int → Int → Tm × Int × Int × Int) (k : Int) : Prop :=
  (¬ RightM l x ∧ k = 0 ∧ R = fun L U => (zT, 5, L, U)) ∨ (RightM l x ∧ ∃ y e, Br l x y e k ∧ R = fun L U => (if e = 0 then y else zT, e, L, U))
theorem out_Bring {N : ByteArray → Bool} (l : List Ent) (hE : AllE N l) (he : ∀ e ∈ l, EOk e) (x : Tm) (ho : x.Ok) (f : Int) (hf : 0 ≤ f) : Ou (fun L U q => e79 q (machT l) x L U) er4 (QBR l x) (RightM l x ∧ ∀ y e k, Br l x y e k → f < k) f := by
  simp only [e79, e82, machT_l]
  refine Ou.evt (a := rightT x 1048577 l.length) ((ev_Right x _ _ ho).bind Evt.ret) (Ou.ite (fun h => ?_) fun h => ?_)
  · have hR : RightM l x := h
    refine Ou.bind (hb_all l hE he x hR.shaped f hf) (fun h => ⟨hR, h⟩) (fun r hr => ⟨_, Evt.ifT (by show (r.2.1 != 0) = true; rw [show r.2.1 = 8 from hr]; decide) Evt.ret, hr⟩) ?_
    rintro R k k0 k1 ⟨y, e, hbr, rfl⟩
    dsimp only
    by_cases e0 : e = 0
    · subst e0
      have hy := hbr.shaped hR.shaped rfl
      refine Ou.ifF rfl (Ou.evt (a := y) ((ev_Copy y (shaped_ok hy)).eq (by unfold copT; rw [if_pos hy])) (Ou.ret (by omega) (.inr ⟨hR, y, 0, by rwa [Int.add_zero], rfl⟩)))
    · refine Ou.ifT (by simpa using e0) (Ou.ret (by omega) (.inr ⟨hR, y, e, by rwa [Int.add_zero], ?_⟩))
      rw [if_neg e0]; rfl
  · exact Ou.ret hf (.inl ⟨by unfold RightM; rw [h]; simp, rfl, rfl⟩)
structure Inv (l : List Ent) (I : Tm → Prop) : Prop where
  spine : ∀ t, goodT t = true → I t → I (hdT t) ∧ ∀ a ∈ arT t, I a
  ap : ∀ f as0, I f → (∀ a ∈ as0, I a) → I (apT f as0)
  beta : ∀ (n : Int) (a b x : Tm), I (.mk 4 n [a, b]) → I x → I (siT [x] b 0)
  body : ∀ i : Int, 0 ≤ i → i < l.length → (ent l i).kind = 3 → I (ent l i).body
  step : ∀ (d : Int) (s : Tm) (lev c : Int) (args own : List Tm), I (.mk 7 d [s]) → isT l c 2 = true → (ent l c).fam = d → (args.length : Int) = (ent l d).pars + 1 + (ent l d).cons.length → own.length = (partsT l c).args.length → (∀ a ∈ args, I a) → (∀ a ∈ own, I a) → I (stepI l d lev c args own)
theorem act_inv {l : List Ent} {I : Tm → Prop} (hI : Inv l I) {x Y : Tm} (hs : shapedT x = true) (hx : I x) (h : actT l x = .red Y 0) : I Y := by
  have hsp := hI.spine x (shapedT_spec hs).2.2 hx
  have hg := (shapedT_spec (hd_shaped hs)).2.2
  unfold actT at h
  by_cases h1 : (hdT x).k = 4 ∧ 0 < (arT x).length
  · rw [if_pos h1] at h
    have hm : nth (arT x) 0 ∈ arT x := nth_mem (by omega) (by omega)
    obtain ⟨a, b, hab, -, -⟩ := nth_sub2 hg (.inr (.inl h1.1))
    have hhd : hdT x = .mk 4 (hdT x).n [a, b] := by rw [← h1.1, ← hab, tm_eta]
    injection h with hY he
    rw [(subT_id he).2.2.2] at hY
    rw [← hY]
    refine hI.ap _ _ ?_ fun y hy => hsp.2 y (List.mem_of_mem_drop hy)
    have hb : nth (hdT x).sub 1 = b := by rw [hab]; rfl
    rw [hb]
    exact hI.beta (hdT x).n a b _ (by rw [← hhd]; exact hsp.1) (hsp.2 _ hm)
  · rw [if_neg h1] at h
    by_cases h2 : kindT l (hdT x) = 3
    · rw [if_pos h2] at h
      injection h with hY he
      rw [← hY]
      have hk := kindT_spec h2 (by decide)
      exact hI.ap _ _ (hI.body _ (good_n hg) hk.2.1 hk.2.2) hsp.2
    · rw [if_neg h2] at h
      split at h
      · split at h <;> cases h
      · split at h
        · split at h <;> cases h
        · cases h
theorem act_tgt {N : ByteArray → Bool} {l : List Ent} (hE : AllE N l) {x a : Tm} (hs : shapedT x = true) (h : actT l x = .tgt a) : a ∈ arT x ∧ (kindT l (hdT x) = 4 ∨ ((hdT x).k = 7 ∧ isT l (hdT x).n 1 = true ∧ argsT (ent l (hdT x).n) ≤ (arT x).length)) := by
  have hn := good_n (shapedT_spec (hd_shaped hs)).2.2
  unfold actT at h
  by_cases h1 : (hdT x).k = 4 ∧ 0 < (arT x).length
  · rw [if_pos h1] at h; cases h
  · rw [if_neg h1] at h
    by_cases h2 : kindT l (hdT x) = 3
    · rw [if_pos h2] at h; cases h
    · rw [if_neg h2] at h
      by_cases h3 : kindT l (hdT x) = 4
      · rw [if_pos h3] at h
        split at h
        · cases h
        · injection h with h
          have hk := kindT_spec h3 (by decide)
          have hp := (entryT_spec (hE.2 _ hn hk.2.1)).2.2.2.1 hk.2.2
          unfold projT at hp
          simp only [Bool.and_eq_true] at hp
          have hw := ownedT_spec hp.1
          have hfam := familyT_spec ((entryT_spec (hE.2 _ hw.1 (by omega))).2.1 hw.2.2.1)
          rw [← h]
          exact ⟨nth_mem (by omega) (by omega), .inl h3⟩
      · rw [if_neg h3] at h
        by_cases h4 : (hdT x).k = 7
        · rw [if_pos h4] at h
          split at h
          · rename_i h5
            injection h with h
            have hi := isT_spec h5.1
            have hfam := familyT_spec ((entryT_spec (hE.2 _ hi.1 hi.2.1)).2.1 hi.2.2)
            have h6 := h5.2
            unfold argsT at h6 h
            rw [if_pos hi.2.2] at h6 h
            rw [← h]
            exact ⟨nth_mem (by omega) (by omega), .inr ⟨h4, h5⟩⟩
          · cases h
        · rw [if_neg h4] at h; cases h
theorem react_inv {N : ByteArray → Bool} {l : List Ent} {I : Tm → Prop} (hE : AllE N l) (hI : Inv l I) {x y Y a : Tm} (hs : shapedT x = true) (hsy : shapedT y = true) (hx : I x) (hy : I y) (ha : actT l x = .tgt a) (h : reactT l x y = some (Y, 0)) : I Y := by
  have hsp := hI.spine x (shapedT_spec hs).2.2 hx
  have hsy2 := hI.spine y (shapedT_spec hsy).2.2 hy
  have hg := (shapedT_spec (hd_shaped hs)).2.2
  have hox : OkA (arT x) := fun z hz => shaped_ok (ar_shaped hs hz)
  have hoy : OkA (arT y) := fun z hz => shaped_ok (ar_shaped hsy hz)
  have hlx : (arT x).length ≤ 8192 := by
    have h := shapedT_spec hs
    have := ar_len _ h.2.2
    omega
  have hly : (arT y).length ≤ 8192 := by
    have h := shapedT_spec hsy
    have := ar_len _ h.2.2
    omega
  have hca := (act_tgt hE hs ha).2
  unfold reactT at h
  by_cases h4 : kindT l (hdT x) = 4
  · rw [if_pos h4] at h
    split at h
    · simp only [Option.some.injEq, Prod.mk.injEq] at h
      have hX := (fieldX_spec l (hdT x).n ((arT y).drop (ent l (hdT y).n).pars.toNat) hE (hoy.drop _) (by rw [List.length_drop]; omega)).2.2.2 h.2
      rw [← h.1]
      refine hI.ap _ _ ?_ fun z hz => hsp.2 z (List.mem_of_mem_drop hz)
      rw [hX.2.2.2]
      exact hsy2.2 _ (List.mem_of_mem_drop (nth_mem hX.2.1 hX.2.2.1))
    · cases h
  · rw [if_neg h4] at h
    obtain ⟨h7, -, -⟩ := hca.resolve_left h4
    split at h
    · simp only [Option.some.injEq, Prod.mk.injEq] at h
      have hX := (stepX_spec l (hdT x).n (nth (hdT x).sub 0).n (hdT y).n ((arT x).take ((ent l (hdT x).n).pars + 1 + (ent l (hdT x).n).cons.length).toNat) ((arT y).drop (ent l (hdT x).n).pars.toNat) hE (hox.take _) (hoy.drop _) (by rw [List.length_take]; omega) (by rw [List.length_drop]; omega)).2.2.2 h.2
      rw [← h.1]
      refine hI.ap _ _ ?_ fun z hz => hsp.2 z (List.mem_of_mem_drop hz)
      obtain ⟨-, -, b1, b2, b3, b4, -, -, b5, -⟩ := hX
      rw [b5]
      obtain ⟨s, hsb⟩ : ∃ s, (hdT x).sub = [s] := by
        revert hg h7
        generalize hdT x = w
        intro hg h7
        obtain ⟨kk, nn, ss⟩ := w
        obtain ⟨s, hs, -⟩ := (head_spec (goodT_mk hg).1).2.2.2.2.2.2.1 h7
        exact ⟨s, hs⟩
      have hhd : hdT x = .mk 7 (hdT x).n [s] := by rw [← h7, ← hsb, tm_eta]
      exact hI.step _ s _ _ _ _ (by rw [← hhd]; exact hsp.1) b1 b2 b3 b4 (fun z hz => hsp.2 z (List.mem_of_mem_take hz)) (fun z hz => hsy2.2 z (List.mem_of_mem_drop hz))
    · cases h
theorem Br.inv {N : ByteArray → Bool} {l : List Ent} {I : Tm → Prop} (hE : AllE N l) (hI : Inv l I) {x y : Tm} {e k : Int} (h : Br l x y e k) : shapedT x = true → e = 0 → I x → I y := by
  induction h with
  | stop _ => exact fun _ _ hx => hx
  | redE _ h => exact fun _ he => absurd he h
  | redL _ _ => exact fun _ he => absurd he (by decide)
  | red a hY _ ih => exact fun hs he hx => ih hY he (act_inv hI hs hx a)
  | tgtE _ _ h _ => exact fun _ he => absurd he h
  | tgtN _ _ _ _ => exact fun _ _ hx => hx
  | tgtRE _ _ _ h _ => exact fun _ he => absurd he h
  | tgtRL _ _ _ _ _ => exact fun _ he => absurd he (by decide)
  | tgtR a b c hY _ ih ih2 =>
    intro hs he hx
    have hm := (act_tgt hE hs a).1
    have hsa := ar_shaped hs hm
    exact ih2 hY he (react_inv hE hI hs (b.shaped hsa rfl) hx (ih hsa rfl ((hI.spine _ (shapedT_spec hs).2.2 hx).2 _ hm)) a c)
theorem inv_nodes {N : ByteArray → Bool} {l : List Ent} (hE : AllE N l) {P : Int → Int → Prop} (hP : ∀ k n : Int, k ≠ 8 → (k = 6 ∨ k = 7 → n < l.length) → P k n) : Inv l (AllN P) where
  spine := fun t hg h => allN_spine t hg h
  ap := fun f as0 hf ha => allN_ap as0 f (hP 5 0 (by decide) (by omega)) hf ha
  beta := fun n a b x h hx => by
    rw [AllN, AllNL, AllNL, AllNL] at h
    exact allN_si [x] (fun y hy => by rw [List.mem_singleton.1 hy]; exact hx) b 0 h.2.2.1
  body := fun i h0 h1 hk => by
    have hd := (entryT_spec (hE.2 i h0 h1)).2.2.2.2.1 hk
    unfold defT at hd
    simp only [Bool.and_eq_true] at hd
    exact allN_mono (fun k n h => hP k n h.2 fun h' => by have := h.1 h'; omega) (closed_nodes hd.1)
  step := fun d s lev c args own h7 hc hf ha ho h1 h2 => by
    have hi := isT_spec hc
    obtain ⟨A, y, hw, -⟩ := con_facts hE hi.1 hi.2.1 hi.2.2
    rw [AllN] at h7
    refine allN_step (hP 4 0 (by decide) (by omega)) (hP 5 0 (by decide) (by omega)) (hP 0 0 (by decide) (by omega)) (hP 2 _ (by decide) (by omega)) (h7.1.resolve_left (by decide)) h1 h2 ?_
    exact allN_parts (by rw [hw]) (allN_mono (fun k n h => hP k n h.2 fun h' => by have := h.1 h'; omega) (closed_nodes (entryT_spec (hE.2 _ hi.1 hi.2.1)).1))
def e77L26398 : Nat → (List Tm) → Int → Option (Int)
 | 0, _, _ => none
 | qq + 1, v3, v4 =>
 if decide ((List.length v3 : Int) > 0) then
 if decide (v4 ≤ 8192) then
 gidx v3 (w64 ((List.length v3 : Int) - 1)) >>= fun x3 =>
 gsl v3 0 (w64 ((List.length v3 : Int) - 1)) >>= fun x5 =>
 gapp 40 ([] : List Tm) x5 >>= fun l7 =>
 gsl x3.sub 0 (imin (List.length x3.sub : Int) 8193) >>= fun x10 =>
 gapp 40 l7 x10 >>= fun l12 =>
 e77L26398 qq l12 (w64 (v4 + 1))
 else
 some v4
 else
 some v4
def e77 (qq : Nat) (p0 : Tm) : Option (Int) :=
 e77L26398 qq [p0] 0
def g77L26398E0 (j : Nat → Value) (v3 : List Tm) (v4 : Int) := sp j 39 0 [(3, .sl (flat tmCells v3) (List.length v3) .full), (4, ai v4)]
def g77L26398S0 (v3 : List Tm) (v4 : Int) : LSt := ⟨[], 0, [], 0, []⟩
def g77L26398E1 (j : Nat → Value) (v3 : List Tm) (v4 : Int) := sp j 39 0 [(3, .sl (flat tmCells v3) (List.length v3) (.st 0 3)), (4, ai v4)]
def g77L26398S1 (v3 : List Tm) (v4 : Int) : LSt := ⟨[], 0, [0], 1, []⟩
abbrev K77 (p0 : Tm) (r : Int) (C : Cf) : Prop := C 77 [] [tmA p0] (ai r) [] 0
theorem q77 : Qf 77 Tryz.f77 := ⟨Tryz.func77, by kernel_rfl⟩
theorem k77 {p0 r} (h : K77 p0 r Ci) : K77 p0 r Ct := ⟨h, ⟨⟨tv, tv, ⟨tv, dT _⟩, tv⟩, tv⟩, forall_nil, tv, forall_nil⟩
theorem l77L26398 : ∀ qq : Nat, (∀ v3 v4 r, e77L26398 qq v3 v4 = some r → (∀ j, Dl Tryz.prog 0 (inn (inn (lft (rgt (rgt (rgt (bod Tryz.f77))))))) (g77L26398E0 j v3 v4) (g77L26398S0 v3 v4) (frameQ Tryz.prog 0 (FinQ Tryz.prog 0 Tryz.f77 (ai r) [] 0) [.blk 0, .seq (rgt (rgt (rgt (rgt (bod Tryz.f77)))))])) ∧ (∀ j, Dl Tryz.prog 0 (inn (inn (lft (rgt (rgt (rgt (bod Tryz.f77))))))) (g77L26398E1 j v3 v4) (g77L26398S1 v3 v4) (frameQ Tryz.prog 0 (FinQ Tryz.prog 0 Tryz.f77 (ai r) [] 0) [.blk 0, .seq (rgt (rgt (rgt (rgt (bod Tryz.f77)))))]))) := by
 intro qq
 induction qq with
 | zero =>
  exact fun _ _ _ h => nn h
 | succ qq ih =>
  intro v3 v4 r h
  rw [e77L26398] at h
  refine ⟨?_, ?_⟩
  rcases spl h with ⟨h1, h⟩ | ⟨h1, h⟩
  have k := oB 1 h1 o0
  rcases spl h with ⟨h2, h⟩ | ⟨h2, h⟩
  obtain ⟨x3, h4, h⟩ := obind h
  obtain ⟨x5, h6, h⟩ := obind h
  obtain ⟨l7, h8, h⟩ := obind h
  have k := oF 5 (slToO23 (o := .full) h6) <| oA 2 (ix23 (o := .full) h4) <| oB 0 h2 k
  by_cases h9 : List.length x5 = 0
  obtain ⟨x10, h11, h⟩ := obind h
  obtain ⟨l12, h13, h⟩ := obind h
  have k := oA 4 (slTo23 h11) <| oP 0 (apN23 h8 h9) k
  by_cases h14 : List.length x10 = 0
  exact fun j => lH 1 [] [] [] [3, 4] (oD (dT l12) <| oP 0 (apN23 h13 h14) k) ((ih _ _ _ h).1)
  exact fun j => lH 1 [] [] [0] [3, 4] (oD (dT l12) <| oP 0 (apS23 h13 h14) k) ((ih _ _ _ h).2)
  obtain ⟨x10, h11, h⟩ := obind h
  obtain ⟨l12, h13, h⟩ := obind h
  have k := oA 4 (slTo23 h11) <| oP 0 (apS23 h8 h9) k
  by_cases h14 : List.length x10 = 0
  exact fun j => lH 1 [] [] [0] [3, 4] (oD (dT l12) <| oP 0 (apN23 h13 h14) k) ((ih _ _ _ h).2)
  exact fun j => lH 1 [] [] [1] [3, 4] (oD (dT l12) <| oP 0 (apS23 h13 h14) k) ((ih _ _ _ h).2)
  obtain rfl := sj h
  exact fun j => lF 0 [] (oB 0 h2 k)
  obtain rfl := sj h
  exact fun j => lF 0 [] (oB 1 h1 o0)
  rcases spl h with ⟨h1, h⟩ | ⟨h1, h⟩
  have k := oB 1 h1 o0
  rcases spl h with ⟨h2, h⟩ | ⟨h2, h⟩
  obtain ⟨x3, h4, h⟩ := obind h
  obtain ⟨x5, h6, h⟩ := obind h
  obtain ⟨l7, h8, h⟩ := obind h
  have k := oF 5 (slToO23 (o := (.st 0 3)) h6) <| oA 2 (ix23 (o := (.st 0 3)) h4) <| oB 0 h2 k
  by_cases h9 : List.length x5 = 0
  obtain ⟨x10, h11, h⟩ := obind h
  obtain ⟨l12, h13, h⟩ := obind h
  have k := oA 4 (slTo23 h11) <| oP 0 (apN23 h8 h9) k
  by_cases h14 : List.length x10 = 0
  exact fun j => lH 1 [] [] [] [3, 4] (oD (dT l12) <| oP 0 (apN23 h13 h14) k) ((ih _ _ _ h).1)
  exact fun j => lH 1 [] [] [1] [3, 4] (oD (dT l12) <| oP 0 (apS23 h13 h14) k) ((ih _ _ _ h).2)
  obtain ⟨x10, h11, h⟩ := obind h
  obtain ⟨l12, h13, h⟩ := obind h
  have k := oA 4 (slTo23 h11) <| oP 0 (apS23 h8 h9) k
  by_cases h14 : List.length x10 = 0
  exact fun j => lH 1 [] [] [1] [3, 4] (oD (dT l12) <| oP 0 (apN23 h13 h14) k) ((ih _ _ _ h).2)
  exact fun j => lH 1 [] [] [2] [3, 4] (oD (dT l12) <| oP 0 (apS23 h13 h14) k) ((ih _ _ _ h).2)
  obtain rfl := sj h
  exact fun j => lF 0 [] (oB 0 h2 k)
  obtain rfl := sj h
  exact fun j => lF 0 [] (oB 1 h1 o0)
theorem c77 {qq p0 r} (h : e77 qq p0 = some r) : K77 p0 r Ct := by
 unfold e77 at h
 exact k77 (tH q77 0 [] [] [] [3, 4] (oD (dT [p0]) <| oS 1 (obLitR tm_eq [p0]) o0) ((l77L26398 _ _ _ _ h).1))
theorem nodesL_app : ∀ a b : List Tm, nodesL (a ++ b) = nodesL a + nodesL b
  | [], b => by simp [nodesL]
  | t :: a, b => by simp only [List.cons_append, nodesL, nodesL_app a b]; omega
theorem nodesL_len : ∀ l : List Tm, l.length ≤ nodesL l
  | [] => by simp [nodesL]
  | t :: l => by rw [nodesL]; have := nodesL_len l; have := nodes_pos t; simp; omega
theorem nodes_sub (t : Tm) : t.nodes = 1 + nodesL t.sub := by cases t; rw [Tm.nodes, Tm.sub]
theorem gsl_ok {α : Type} {l : List α} {a b : Nat} (h1 : a ≤ b) (h2 : b ≤ l.length) : gsl l (a : Int) (b : Int) = some ((l.drop a).take (b - a)) := by
  unfold gsl
  rw [if_pos (by omega), show ((b : Int) - (a : Int)).toNat = b - a by omega, show (a : Int).toNat = a by omega]
theorem gidx_last {α : Type} (l : List α) (x : α) : gidx (l ++ [x]) (l.length : Int) = some x := by
  unfold gidx
  rw [if_pos (by omega)]; simp
theorem ev_rSizeL : ∀ (m h : Nat) (todo : List Tm), h + m = 8193 → todo.length ≤ 1 + h * 8193 → Evt (fun q => e77L26398 q todo (h : Int)) ((min (h + nodesL todo) 8193 : Nat) : Int) := by
  intro m
  induction m with
  | zero =>
    intro h todo hm hl
    refine Evt.succ ?_
    simp only [e77L26398]
    have : h = 8193 := by omega
    subst this
    rcases todo with _ | ⟨x, todo⟩
    · exact Evt.ifF (by simp) (Evt.ret.eq (by simp))
    · refine Evt.ifT (by simp <;> omega) (Evt.ifF (by simp) (Evt.ret.eq ?_))
      have : min (8193 + nodesL (x :: todo)) 8193 = 8193 := by omega
      rw [this]
  | succ m ih =>
    intro h todo hm hl
    refine Evt.succ ?_
    simp only [e77L26398]
    rcases List.eq_nil_or_concat todo with rfl | ⟨ini, x, rfl⟩
    · refine Evt.ifF (by simp) (Evt.ret.eq ?_)
      have : min (h + nodesL []) 8193 = h := by rw [nodesL]; omega
      rw [this]
    · simp only [List.concat_eq_append] at hl ⊢
      have hlen : (ini ++ [x]).length = ini.length + 1 := by simp
      have hb : h * 8193 ≤ 8192 * 8193 := Nat.mul_le_mul_right _ (by omega)
      have e1 : w64 (((ini ++ [x]).length : Int) - 1) = (ini.length : Int) := by rw [w64_id (by omega) (by omega), hlen]; omega
      refine Evt.ifT (by simp <;> omega) (Evt.ifT (by simp <;> omega) ?_)
      rw [e1]
      refine Evt.pure (gidx_last ini x) ?_
      have e2 : gsl (ini ++ [x]) 0 (ini.length : Int) = some ini := by
        have := gsl_ok (l := ini ++ [x]) (a := 0) (b := ini.length) (by omega) (by omega)
        simpa using this
      refine Evt.pure e2 (Evt.pure (gapp_ok (by simp <;> omega)) ?_)
      have e3 : imin (x.sub.length : Int) 8193 = ((min x.sub.length 8193 : Nat) : Int) := by unfold imin; split <;> omega
      rw [e3]
      have e4 := gsl_ok (l := x.sub) (a := 0) (b := min x.sub.length 8193) (by omega) (by omega)
      refine Evt.pure (by simpa using e4) (Evt.pure (gapp_ok (by simp <;> omega)) ?_)
      rw [w64_nat h (by omega)]
      refine (ih (h + 1) _ (by omega) (by simp <;> omega)).eq ?_
      have hn := nodes_sub x
      simp only [List.nil_append, nodesL_app, nodesL, Nat.add_zero]
      by_cases hs : x.sub.length ≤ 8193
      · rw [show min x.sub.length 8193 = x.sub.length by omega, List.take_length]
        omega
      · have h1 := nodesL_len (x.sub.take (min x.sub.length 8193))
        have h2 := nodesL_len x.sub
        simp only [List.length_take] at h1
        omega
theorem ev_rSize (t : Tm) : Evt (fun q => e77 q t) ((min t.nodes 8193 : Nat) : Int) := by
  simp only [e77]
  refine (ev_rSizeL 8193 0 [t] (by omega) (by simp)).eq ?_
  simp [nodesL]
def e114va35861 (qq : Nat) (q0 q1 : Int) : Option (Int) :=
 some q1
abbrev K114va35861 (q0 q1 r : Int) (C : Cf) : Prop := C 114 [.cells [ai q0, ai q1]] [.mp 0 1] (ai r) [.cells [ai q0, ai q1]] 0
theorem q114va35861 : Qf 114 Tryz.f114 := ⟨Tryz.func114, by kernel_rfl⟩
theorem k114va35861 {q0 q1 r} (h : K114va35861 q0 q1 r Ci) : K114va35861 q0 q1 r Ct := ⟨h, ⟨(lz rfl), tv⟩, (forall_cons ⟨tv, tv, tv⟩ forall_nil), tv, (forall_cons ⟨tv, tv, tv⟩ forall_nil)⟩
theorem c114va35861 {qq q0 q1 r} (h : e114va35861 qq q0 q1 = some r) : K114va35861 q0 q1 r Ct := by
 unfold e114va35861 at h
 obtain rfl := sj h
 exact k114va35861 (tF q114va35861 1 [0] (o0))
mutual
def e25 : Nat → Tm → Tm → Option (Bool)
 | 0, _, _ => none
 | qq + 1, p0, p1 =>
 if p0.k != p1.k then
 some false
 else
 if p0.n != p1.n then
 some false
 else
 if (List.length p0.sub : Int) != (List.length p1.sub : Int) then
 some false
 else
 e25L12 qq p0 p1 0
def e25L12 : Nat → Tm → Tm → Int → Option (Bool)
 | 0, _, _, _ => none
 | qq + 1, p0, p1, v5 =>
 if decide (v5 < (List.length p0.sub : Int)) then
 gidx p0.sub v5 >>= fun x5 =>
 gidx p1.sub v5 >>= fun x7 =>
 e25 qq x5 x7 >>= fun r9 =>
 if r9 then
 e25L12 qq p0 p1 (w64 (v5 + 1))
 else
 some false
 else
 some true
end
def g25L12E0 (j : Nat → Value) (p0 p1 : Tm) (v5 : Int) := sp j 46 0 [(2, .mp 0 0), (3, .mp 1 0), (5, ai v5)]
def g25L12S0 (p0 p1 : Tm) (v5 : Int) : LSt := ⟨[(0, .cells [ai p0.k, ai p0.n, .sl (flat tmCells p0.sub) (List.length p0.sub) .no]), (1, .cells [ai p1.k, ai p1.n, .sl (flat tmCells p1.sub) (List.length p1.sub) .no])], 2, [], 0, []⟩
abbrev K25 (p0 p1 : Tm) (r : Bool) (C : Cf) : Prop := C 25 [] [tmA p0, tmA p1] (ab r) [] 0
theorem q25 : Qf 25 Tryz.f25 := ⟨Tryz.func25, by kernel_rfl⟩
theorem k25 {p0 p1 r} (h : K25 p0 p1 r Ci) : K25 p0 p1 r Ct := ⟨h, ⟨⟨tv, tv, ⟨tv, dT _⟩, tv⟩, ⟨tv, tv, ⟨tv, dT _⟩, tv⟩, tv⟩, forall_nil, tv, forall_nil⟩
theorem a25_25L12 : ∀ qq : Nat, (∀ p0 p1 r, e25 qq p0 p1 = some r → K25 p0 p1 r Ct) ∧ (∀ p0 p1 v5 r, e25L12 qq p0 p1 v5 = some r → (∀ j, Dl Tryz.prog 0 (inn (inn (rgt (lft (rgt (rgt (bod Tryz.f25))))))) (g25L12E0 j p0 p1 v5) (g25L12S0 p0 p1 v5) (frameQ Tryz.prog 0 (FinQ Tryz.prog 0 Tryz.f25 (ab r) [] 0) [.blk 0, .seq (rgt (rgt (rgt (bod Tryz.f25))))]))) := by
 intro qq
 induction qq with
 | zero =>
  exact ⟨fun _ _ _ h => nn h, fun _ _ _ _ h => nn h⟩
 | succ qq ih =>
  obtain ⟨ih25, ih25L12⟩ := ih
  refine ⟨?_, ?_⟩
  intro p0 p1 r h
  rw [e25] at h
  rcases spl h with ⟨h1, h⟩ | ⟨h1, h⟩
  obtain rfl := sj h
  exact k25 (tF q25 0 [] (oB 2 h1 o0))
  have k := oB 2 h1 o0
  rcases spl h with ⟨h2, h⟩ | ⟨h2, h⟩
  obtain rfl := sj h
  exact k25 (tF q25 0 [] (oB 2 h2 k))
  have k := oB 2 h2 k
  rcases spl h with ⟨h3, h⟩ | ⟨h3, h⟩
  obtain rfl := sj h
  exact k25 (tF q25 0 [] (oB 4 h3 k))
  exact k25 (tH q25 0 [] [0, 1] [] [2, 3, 5] (oD (dT p1.sub) <| oD (dT p0.sub) <| oB 4 h3 k) (ih25L12 _ _ _ _ h))
  intro p0 p1 v5 r h
  rw [e25L12] at h
  rcases spl h with ⟨h4, h⟩ | ⟨h4, h⟩
  obtain ⟨x5, h6, h⟩ := obind h
  obtain ⟨x7, h8, h⟩ := obind h
  obtain ⟨r9, h10, h⟩ := obind h
  have k := oA 2 (ix23 (o := .no) h8) <| oA 1 (ix23 (o := .no) h6) <| oB 2 h4 o0
  rcases spl h with ⟨h11, h⟩ | ⟨h11, h⟩
  exact fun j => lH 2 [] [0, 1] [] [2, 3, 5] (oD (dT p1.sub) <| oD (dT p0.sub) <| oK 1 [] h11 (ih25 _ _ _ h10) k) (ih25L12 _ _ _ _ h)
  obtain rfl := sj h
  exact fun j => lF 1 [] (oK 1 [] h11 (ih25 _ _ _ h10) k)
  obtain rfl := sj h
  exact fun j => lF 0 [] (oB 2 h4 o0)
theorem c25 {qq p0 p1 r} (h : e25 qq p0 p1 = some r) : K25 p0 p1 r Ct := (a25_25L12 _).1 _ _ _ h
def e106va12063 (qq : Nat) (q0 q1 p1 : Int) : Option (Int) :=
 some p1
abbrev K106va12063 (q0 q1 p1 r : Int) (C : Cf) : Prop := C 106 [.cells [ai q0, ai q1]] [.mp 0 0, ai p1] (.tup []) [.cells [ai r, ai q1]] 0
theorem q106va12063 : Qf 106 Tryz.f106 := ⟨Tryz.func106, by kernel_rfl⟩
theorem k106va12063 {q0 q1 p1 r} (h : K106va12063 q0 q1 p1 r Ci) : K106va12063 q0 q1 p1 r Ct := ⟨h, ⟨(lz rfl), tv, tv⟩, (forall_cons ⟨tv, tv, tv⟩ forall_nil), tv, (forall_cons ⟨tv, tv, tv⟩ forall_nil)⟩
theorem c106va12063 {qq q0 q1 p1 r} (h : e106va12063 qq q0 q1 p1 = some r) : K106va12063 q0 q1 p1 r Ct := by
 unfold e106va12063 at h
 obtain rfl := sj h
 exact k106va12063 (tF q106va12063 1 [0] (o0))
def e47 (qq : Nat) (p0 : Int) : Option ((Int) ⊕ (Int × Int × Int)) :=
 if decide (p0 < 0) then
 some (Sum.inl 5)
 else
 if decide (p0 > 1048576) then
 some (Sum.inl 5)
 else
 e106va12063 qq 0 0 p0 >>= fun r3 =>
 some (Sum.inr (0, r3, 0))
abbrev K47s0 (p0 r : Int) (C : Cf) : Prop := C 47 [] [ai p0] (.tup [.val (.pointer none), ai r]) [] 0
abbrev K47s1 (p0 : Int) (r : Int × Int × Int) (C : Cf) : Prop := C 47 [] [ai p0] (.tup [.mp 0 0, ai r.1]) [.cells [ai r.2.1, ai r.2.2]] 0
theorem q47 : Qf 47 Tryz.f47 := ⟨Tryz.func47, by kernel_rfl⟩
theorem k47s0 {p0 r} (h : K47s0 p0 r Ci) : K47s0 p0 r Ct := ⟨h, ⟨tv, tv⟩, forall_nil, ⟨tv, tv, tv⟩, forall_nil⟩
theorem k47s1 {p0 r} (h : K47s1 p0 r Ci) : K47s1 p0 r Ct := ⟨h, ⟨tv, tv⟩, forall_nil, ⟨(lz rfl), tv, tv⟩, (forall_cons ⟨tv, tv, tv⟩ forall_nil)⟩
theorem c47 {qq p0 r} (h : e47 qq p0 = some r) : (match (generalizing := false) r with | Sum.inl x => K47s0 p0 x Ct | Sum.inr x => K47s1 p0 x Ct) := by
 unfold e47 at h
 rcases spl h with ⟨h1, h⟩ | ⟨h1, h⟩
 obtain rfl := sj h
 exact k47s0 (tF q47 0 [] (oB 0 h1 o0))
 have k := oB 0 h1 o0
 rcases spl h with ⟨h2, h⟩ | ⟨h2, h⟩
 obtain rfl := sj h
 exact k47s0 (tF q47 0 [] (oB 0 h2 k))
 obtain ⟨r3, h4, h⟩ := obind h
 obtain rfl := sj h
 exact k47s1 (tF q47 0 [0] (oC 0 [0] (c106va12063 h4) <| oB 0 h2 k))
def e52 (qq : Nat) (fl fu : Int) : Option (Int) :=
 e114va35861 qq fl fu >>= fun r1 =>
 some r1
abbrev K52 (fl fu r : Int) (C : Cf) : Prop := C 52 [.cells [ai fl, ai fu]] [.mp 0 0] (ai r) [.cells [ai fl, ai fu]] 0
theorem q52 : Qf 52 Tryz.f52 := ⟨Tryz.func52, by kernel_rfl⟩
theorem k52 {fl fu r} (h : K52 fl fu r Ci) : K52 fl fu r Ct := ⟨h, ⟨(lz rfl), tv⟩, (forall_cons ⟨tv, tv, tv⟩ forall_nil), tv, (forall_cons ⟨tv, tv, tv⟩ forall_nil)⟩
theorem c52 {qq fl fu r} (h : e52 qq fl fu = some r) : K52 fl fu r Ct := by
 unfold e52 at h
 obtain ⟨r1, h2, h⟩ := obind h
 obtain rfl := sj h
 exact k52 (tF q52 0 [0] (oC 1 [0] (c114va35861 h2) o0))
def e52va47633 (qq : Nat)  : Option (Int) :=
 some 0
abbrev K52va47633 (r : Int) (C : Cf) : Prop := C 52 [] [.val (.pointer none)] (ai r) [] 0
theorem q52va47633 : Qf 52 Tryz.f52 := ⟨Tryz.func52, by kernel_rfl⟩
theorem k52va47633 {r} (h : K52va47633 r Ci) : K52va47633 r Ct := ⟨h, ⟨tv, tv⟩, forall_nil, tv, forall_nil⟩
theorem c52va47633 {qq r} (h : e52va47633 qq  = some r) : K52va47633 r Ct := by
 unfold e52va47633 at h
 obtain rfl := sj h
 exact k52va47633 (tF q52va47633 1 [] (o0))
def e79va14437 (qq : Nat) (q0 q1 : List Ent) (q2 : List Con') (q3 q4 : List Int) (p1 : Tm) : Option (Tm × Int) :=
 none
abbrev K79va14437 (q0 q1 : List Ent) (q2 : List Con') (q3 q4 : List Int) (p1 : Tm) (r : Tm × Int) (C : Cf) : Prop := C 79 [.cells [.sl (flat entL q0) (List.length q0) .no, .mp 1 0, .sl (flat intC q3) (List.length q3) .no, .sl (flat intC q4) (List.length q4) .no], .cells [.sl (flat entL q1) (List.length q1) .no, .sl (flat conL q2) (List.length q2) .no]] [.mp 0 0, tmA p1, .val (.pointer none)] (.tup [tmA r.1, ai r.2]) [.cells [.sl (flat entL q0) (List.length q0) .no, .mp 1 0, .sl (flat intC q3) (List.length q3) .no, .sl (flat intC q4) (List.length q4) .no], .cells [.sl (flat entL q1) (List.length q1) .no, .sl (flat conL q2) (List.length q2) .no]] 0
theorem c79va14437 {qq q0 q1 q2 q3 q4 p1 r} (h : e79va14437 qq q0 q1 q2 q3 q4 p1 = some r) : K79va14437 q0 q1 q2 q3 q4 p1 r Ct := by
 unfold e79va14437 at h
 cases h
def e82va20783 (qq : Nat) (p1 : Tm) : Option (Bool) :=
 some false
abbrev K82va20783 (p1 : Tm) (r : Bool) (C : Cf) : Prop := C 82 [] [.val (.pointer none), tmA p1] (ab r) [] 0
theorem q82va20783 : Qf 82 Tryz.f82 := ⟨Tryz.func82, by kernel_rfl⟩
theorem k82va20783 {p1 r} (h : K82va20783 p1 r Ci) : K82va20783 p1 r Ct := ⟨h, ⟨tv, ⟨tv, tv, ⟨tv, dT _⟩, tv⟩, tv⟩, forall_nil, tv, forall_nil⟩
theorem c82va20783 {qq p1 r} (h : e82va20783 qq p1 = some r) : K82va20783 p1 r Ct := by
 unfold e82va20783 at h
 obtain rfl := sj h
 exact k82va20783 (tF q82va20783 1 [] (o0))
def e79va17286 (qq : Nat) (p1 : Tm) : Option (Tm × Int) :=
 e82va20783 qq p1 >>= fun r1 =>
 if r1 then
 none
 else
 some ((Tm.mk 0 0 []), 5)
abbrev K79va17286 (p1 : Tm) (r : Tm × Int) (C : Cf) : Prop := C 79 [] [.val (.pointer none), tmA p1, .val (.pointer none)] (.tup [tmA r.1, ai r.2]) [] 0
theorem q79va17286 : Qf 79 Tryz.f79 := ⟨Tryz.func79, by kernel_rfl⟩
theorem k79va17286 {p1 r} (h : K79va17286 p1 r Ci) : K79va17286 p1 r Ct := ⟨h, ⟨tv, ⟨tv, tv, ⟨tv, dT _⟩, tv⟩, tv, tv⟩, forall_nil, ⟨⟨tv, tv, dT _, tv⟩, tv, tv⟩, forall_nil⟩
theorem c79va17286 {qq p1 r} (h : e79va17286 qq p1 = some r) : K79va17286 p1 r Ct := by
 unfold e79va17286 at h
 obtain ⟨r1, h2, h⟩ := obind h
 obtain ⟨h3, h⟩ := splF h
 obtain rfl := sj h
 exact k79va17286 (tF q79va17286 2 [] (oD (dT ([] : List Tm)) <| oK 1 [] h3 (c82va20783 h2) o0))
def e79va53055 (qq : Nat) (p1 : Tm) (q1 q2 : Int) : Option (Tm × Int) :=
 e82va20783 qq p1 >>= fun r1 =>
 if r1 then
 none
 else
 some ((Tm.mk 0 0 []), 5)
abbrev K79va53055 (p1 : Tm) (q1 q2 : Int) (r : Tm × Int) (C : Cf) : Prop := C 79 [.cells [ai q1, ai q2]] [.val (.pointer none), tmA p1, .mp 0 0] (.tup [tmA r.1, ai r.2]) [.cells [ai q1, ai q2]] 0
theorem q79va53055 : Qf 79 Tryz.f79 := ⟨Tryz.func79, by kernel_rfl⟩
theorem k79va53055 {p1 q1 q2 r} (h : K79va53055 p1 q1 q2 r Ci) : K79va53055 p1 q1 q2 r Ct := ⟨h, ⟨tv, ⟨tv, tv, ⟨tv, dT _⟩, tv⟩, (lz rfl), tv⟩, (forall_cons ⟨tv, tv, tv⟩ forall_nil), ⟨⟨tv, tv, dT _, tv⟩, tv, tv⟩, (forall_cons ⟨tv, tv, tv⟩ forall_nil)⟩
theorem c79va53055 {qq p1 q1 q2 r} (h : e79va53055 qq p1 q1 q2 = some r) : K79va53055 p1 q1 q2 r Ct := by
 unfold e79va53055 at h
 obtain ⟨r1, h2, h⟩ := obind h
 obtain ⟨h3, h⟩ := splF h
 obtain rfl := sj h
 exact k79va53055 (tF q79va53055 2 [0] (oD (dT ([] : List Tm)) <| oK 1 [] h3 (c82va20783 h2) o0))
def e78 (qq : Nat) (p0 : Int) (p1 p2 : Tm) : Option (Tm) :=
 some (Tm.mk p0 0 [p1, p2])
abbrev K78 (p0 : Int) (p1 p2 r : Tm) (C : Cf) : Prop := C 78 [] [ai p0, tmA p1, tmA p2] (tmA r) [] 0
theorem q78 : Qf 78 Tryz.f78 := ⟨Tryz.func78, by kernel_rfl⟩
theorem k78 {p0 p1 p2 r} (h : K78 p0 p1 p2 r Ci) : K78 p0 p1 p2 r Ct := ⟨h, ⟨tv, ⟨tv, tv, ⟨tv, dT _⟩, tv⟩, ⟨tv, tv, ⟨tv, dT _⟩, tv⟩, tv⟩, forall_nil, ⟨tv, tv, dT _, tv⟩, forall_nil⟩
theorem c78 {qq p0 p1 p2 r} (h : e78 qq p0 p1 p2 = some r) : K78 p0 p1 p2 r Ct := by
 unfold e78 at h
 obtain rfl := sj h
 exact k78 (tF q78 1 [] (oD (dT [p1, p2]) <| oS 2 (obLitR tm_eq [p1, p2]) o0))
mutual
theorem ev_rEqual : ∀ (t : Tm), t.Ok → Evt (fun q => e25 q t t) true
  | .mk k n l, ho => by
    rw [Tm.Ok] at ho
    refine Evt.succ ?_
    simp only [e25]
    exact Evt.ifF (by simp) (Evt.ifF (by simp) (Evt.ifF (by simp) (ev_rEqualL l (.mk k n l) 0 rfl ho.1 ho.2)))
theorem ev_rEqualL : ∀ (l : List Tm) (p : Tm) (v : Nat), p.sub.drop v = l → p.sub.length < 9223372036854775808 → OkL l → Evt (fun q => e25L12 q p p (v : Int)) true
  | [], p, v, hd, hl, ho => by
    refine Evt.succ ?_
    simp only [e25L12]
    exact Evt.ifF (drop_nil hd) Evt.ret
  | t :: l, p, v, hd, hl, ho => by
    have hlt := drop_lt hd
    rw [OkL] at ho
    refine Evt.succ ?_
    simp only [e25L12]
    refine Evt.ifT (drop_dec hd) (Evt.pure (drop_idx hd) (Evt.pure (drop_idx hd) ((ev_rEqual t ho.1).bind (Evt.ifT rfl ?_))))
    rw [w64_nat v (by omega)]
    exact ev_rEqualL l p (v + 1) (drop_next hd) hl ho.2
end
theorem ev_mNew (f : Int) (h0 : 0 ≤ f) (h1 : f ≤ 1048576) : Evt (fun q => e47 q f) (.inr (0, f, 0)) := by
  simp only [e47]
  exact Evt.ifF (decide_eq_false (by omega)) (Evt.ifF (decide_eq_false (by omega)) (Evt.bind (a := f) (Evt.mk fun _ => rfl) Evt.ret))
theorem sign_cases (l : List Ent) (hl : l.length ≤ 60) (he : ∀ e ∈ l, EOk e) (hc : ∀ e ∈ l, ECl e) : Evt (fun q => e36 q l) (newT l false) ∨ ∃ N, AllE N l ∧ Evt (fun q => e36 q l) (newT l true) := by
  obtain ⟨N, hN⟩ := names_by
  obtain ⟨b, -, hA, hn⟩ := ev_wNew N hN l (by omega) he hc
  cases b with
  | false => exact .inl hn
  | true => exact .inr ⟨N, hA rfl, hn⟩
mutual
theorem looT_le : ∀ (t : Tm) (b : Int), goodT t = true → 0 ≤ b → looT t b ≤ 1048577
  | .mk k n l, b, hg, hb => by
    have hh := goodT_mk hg
    have hn := head_n hh.1
    rw [looT]
    split
    · omega
    · exact looL_le l k 0 b hh.2 hb
theorem looL_le : ∀ (l : List Tm) (k : Int) (i : Nat) (b : Int), goodL l = true → 0 ≤ b → looL l k i b ≤ 1048577
  | [], k, i, b, _, _ => by rw [looL]; omega
  | t :: l, k, i, b, hg, hb => by
    have hc := goodL_cons hg
    have hu := undT_01 k i
    have h1 := looT_le t (b + undT k i) hc.1 (by omega)
    have h2 := looL_le l k (i + 1) b hc.2 hb
    rw [looL]; omega
end
theorem rightM_iff {l : List Ent} {t : Tm} : RightM l t ↔ shapedT t = true ∧ AllN (fun k n => k = 6 ∨ k = 7 → n < l.length) t := by
  unfold RightM rightT
  rw [← allN_col (Q := fun n => n < (l.length : Int)) (by decide) (by decide) t]
  simp only [Bool.and_eq_true, decide_eq_true_eq, List.all_eq_true]
  constructor
  · rintro ⟨⟨h1, -⟩, h2⟩; exact ⟨h1, h2⟩
  · rintro ⟨h1, h2⟩; exact ⟨⟨h1, looT_le t 0 (shapedT_spec h1).2.2 (by omega)⟩, h2⟩
theorem Br.right {N : ByteArray → Bool} {l : List Ent} (hE : AllE N l) {x y : Tm} {k : Int} (h : Br l x y 0 k) (hR : RightM l x) : RightM l y := by
  have hr := rightM_iff.1 hR
  exact rightM_iff.2 ⟨h.shaped hr.1 rfl, h.inv hE (inv_nodes hE fun k n _ h => h) hr.1 rfl hr.2⟩
def sT : Tm := .mk 2 2 []
theorem ev_nNew : Evt (fun q => e36 q []) (newT [] true) := by
  obtain ⟨N, hN⟩ := names_by
  obtain ⟨b, hb, -, hn⟩ := ev_wNew N hN [] (by simp) (fun _ h => nomatch h) (fun _ h => nomatch h)
  have hF : Evt (fun q => e73 q []) true := by
    simp only [e73]
    refine Evt.ifF (by decide) ((ev_Names [] (by simp)).bind (Evt.bind (a := true) ?_ (Evt.ifT rfl ?_)))
    · simp only [e153]
      refine Evt.succ ?_
      simp only [e153L46510]
      exact Evt.ifF rfl Evt.ret
    · refine Evt.succ ?_
      simp only [e73L47399]
      exact Evt.ifF rfl Evt.ret
  rw [hb.det hF] at hn
  exact hn
def partsN (y : Tm) : List Tm := if y.k = 3 ∨ y.k = 4 then y.sub else if y.k = 5 then arT y else []
def reN (y : Tm) (ps : List Tm) : Tm := if y.k = 3 ∨ y.k = 4 then .mk y.k 0 ps else if y.k = 5 then apT (hdT y) ps else y
def AllP (P : Tm → Tm → Int → Prop) : List Tm → List Tm → Int → Prop
  | [], xs, k => xs = [] ∧ k = 0
  | t :: ts, xs, k => ∃ x xs' k1 k2, xs = x :: xs' ∧ P t x k1 ∧ AllP P ts xs' k2 ∧ k = k1 + k2
def NmN (l : List Ent) : Nat → Tm → Tm → Int → Prop
  | 0, _, _, _ => False
  | n + 1, t, x, k => RightM l t ∧ ∃ y k1 ps k2, Br l t y 0 k1 ∧ AllP (NmN l n) (partsN y) ps k2 ∧ x = reN y ps ∧ k = k1 + k2
def Nm (l : List Ent) (t x : Tm) (k : Int) : Prop := ∃ n, NmN l n t x k
def NmL (l : List Ent) (ts xs : List Tm) (k : Int) : Prop := ∃ n, AllP (NmN l n) ts xs k
section
variable {P P' : Tm → Tm → Int → Prop}
theorem AllP.mono (h : ∀ t x k, P t x k → P' t x k) : ∀ {ts xs : List Tm} {k : Int}, AllP P ts xs k → AllP P' ts xs k
  | [], _, _, a => a
  | _ :: _, _, _, ⟨x, xs', k1, k2, a, b, c, d⟩ => ⟨x, xs', k1, k2, a, h _ _ _ b, AllP.mono h c, d⟩
theorem AllP.len : ∀ {ts xs : List Tm} {k : Int}, AllP P ts xs k → xs.length = ts.length
  | [], _, _, ⟨a, _⟩ => by rw [a]
  | _ :: _, _, _, ⟨x, xs', k1, k2, a, _, c, _⟩ => by rw [a, List.length_cons, List.length_cons, AllP.len c]
theorem AllP.nn (h : ∀ t x k, P t x k → 0 ≤ k) : ∀ {ts xs : List Tm} {k : Int}, AllP P ts xs k → 0 ≤ k
  | [], _, _, ⟨_, a⟩ => by omega
  | _ :: _, _, _, ⟨x, xs', k1, k2, _, b, c, d⟩ => by have := h _ _ _ b; have := AllP.nn h c; omega
theorem AllP.at : ∀ {ts xs : List Tm} {k : Int}, AllP P ts xs k → ∀ (i : Nat) (h : i < ts.length) (h' : i < xs.length), ∃ k1, P ts[i] xs[i] k1
  | [], _, _, _, i, h, _ => by simp at h
  | _ :: _, _, _, ⟨x, xs', k1, k2, a, b, _, _⟩, 0, _, _ => by subst a; exact ⟨k1, b⟩
  | _ :: _, _, _, ⟨x, xs', k1, k2, a, _, c, _⟩, i + 1, h, h' => by
    subst a
    exact AllP.at c i (by simpa using h) (by simpa using h')
theorem AllP.self : ∀ {ts : List Tm}, (∀ t ∈ ts, P t t 0) → AllP P ts ts 0
  | [], _ => ⟨rfl, rfl⟩
  | t :: ts, h => ⟨t, ts, 0, 0, rfl, h t (by simp), AllP.self fun x hx => h x (by simp [hx]), rfl⟩
theorem AllP.mem : ∀ {ts xs : List Tm} {k : Int}, AllP P ts xs k → ∀ x ∈ xs, ∃ t ∈ ts, ∃ k1, P t x k1
  | [], _, _, ⟨a, _⟩, x, hx => by rw [a] at hx; cases hx
  | t :: _, _, _, ⟨y, xs', k1, k2, a, b, c, _⟩, x, hx => by
    subst a
    rcases List.mem_cons.1 hx with rfl | hx
    · exact ⟨t, by simp, k1, b⟩
    · obtain ⟨t', h1, h2⟩ := AllP.mem c x hx
      exact ⟨t', by simp [h1], h2⟩
theorem AllP.det (h : ∀ t x k x' k', P t x k → P' t x' k' → x' = x ∧ k' = k) : ∀ {ts xs xs' : List Tm} {k k' : Int}, AllP P ts xs k → AllP P' ts xs' k' → xs' = xs ∧ k' = k
  | [], _, _, _, _, ⟨a, b⟩, ⟨c, d⟩ => by subst a; subst c; exact ⟨rfl, by omega⟩
  | _ :: _, _, _, _, _, ⟨x, xs1, k1, k2, a, b, c, d⟩, ⟨x', xs1', k1', k2', a', b', c', d'⟩ => by
    obtain ⟨h1, h2⟩ := h _ _ _ _ _ b b'
    obtain ⟨h3, h4⟩ := AllP.det h c c'
    subst a; subst a'; subst h1; subst h3
    exact ⟨rfl, by omega⟩
end
theorem NmN.mono {l : List Ent} : ∀ {n : Nat} {t x : Tm} {k : Int}, NmN l n t x k → NmN l (n + 1) t x k
  | 0, _, _, _, h => h.elim
  | n + 1, t, x, k, ⟨hR, y, k1, ps, k2, a, b, c, d⟩ => ⟨hR, y, k1, ps, k2, a, AllP.mono (fun _ _ _ h => NmN.mono h) b, c, d⟩
theorem NmN.le {l : List Ent} {n m : Nat} {t x : Tm} {k : Int} (h : NmN l n t x k) (hm : n ≤ m) : NmN l m t x k := by
  induction hm with
  | refl => exact h
  | step _ ih => exact ih.mono
theorem NmN.nn {l : List Ent} : ∀ {n : Nat} {t x : Tm} {k : Int}, NmN l n t x k → 0 ≤ k
  | 0, _, _, _, h => h.elim
  | n + 1, t, x, k, ⟨_, y, k1, ps, k2, a, b, _, d⟩ => by
    have := a.nn
    have := AllP.nn (fun _ _ _ h => NmN.nn h) b
    omega
theorem NmN.det {l : List Ent} : ∀ {n m : Nat} {t x x' : Tm} {k k' : Int}, NmN l n t x k → NmN l m t x' k' → x' = x ∧ k' = k
  | 0, _, _, _, _, _, _, h, _ => h.elim
  | _ + 1, 0, _, _, _, _, _, _, h => h.elim
  | n + 1, m + 1, t, x, x', k, k', ⟨_, y, k1, ps, k2, a, b, c, d⟩, ⟨_, y', k1', ps', k2', a', b', c', d'⟩ => by
    obtain ⟨rfl, -, rfl⟩ := a.det a'
    obtain ⟨rfl, rfl⟩ := AllP.det (P := NmN l n) (P' := NmN l m) (fun _ _ _ _ _ h1 h2 => NmN.det h1 h2) b b'
    subst c; subst c'; subst d; subst d'
    exact ⟨rfl, rfl⟩
theorem Nm.det {l : List Ent} {t x x' : Tm} {k k' : Int} : Nm l t x k → Nm l t x' k' → x' = x ∧ k' = k := fun ⟨_, a⟩ ⟨_, b⟩ => a.det b
theorem NmL.nn {l : List Ent} {t x : List Tm} {k : Int} : NmL l t x k → 0 ≤ k := fun ⟨_, a⟩ => AllP.nn (fun _ _ _ h => NmN.nn h) a
theorem Nm.right {l : List Ent} {t x : Tm} {k : Int} : Nm l t x k → RightM l t
  | ⟨0, h⟩ => h.elim
  | ⟨_ + 1, h⟩ => h.1
theorem NmL.nil {l : List Ent} : NmL l [] [] 0 := ⟨0, rfl, rfl⟩
theorem NmL.cons {l : List Ent} {t x : Tm} {ts xs : List Tm} {k k' : Int} : Nm l t x k → NmL l ts xs k' → NmL l (t :: ts) (x :: xs) (k + k') := fun ⟨n, a⟩ ⟨m, b⟩ =>
  ⟨max n m, x, xs, k, k', rfl, a.le (by omega), AllP.mono (fun _ _ _ h => h.le (by omega)) b, rfl⟩
theorem NmL.cons_inv {l : List Ent} {t : Tm} {ts xs : List Tm} {k : Int} (h : NmL l (t :: ts) xs k) : ∃ x xs' k1 k2, xs = x :: xs' ∧ Nm l t x k1 ∧ NmL l ts xs' k2 ∧ k = k1 + k2 := by
  obtain ⟨n, x, xs', k1, k2, a, b, c, d⟩ := h
  exact ⟨x, xs', k1, k2, a, ⟨n, b⟩, ⟨n, c⟩, d⟩
theorem Nm.mk {l : List Ent} {t y : Tm} {ps : List Tm} {k1 k2 : Int} (hR : RightM l t) (h : Br l t y 0 k1) (hp : NmL l (partsN y) ps k2) : Nm l t (reN y ps) (k1 + k2) := by
  obtain ⟨n, hp⟩ := hp
  exact ⟨n + 1, hR, y, k1, ps, k2, h, hp, rfl, rfl⟩
theorem Nm.inv {l : List Ent} {t x : Tm} {k : Int} (h : Nm l t x k) : ∃ y k1 ps k2, RightM l t ∧ Br l t y 0 k1 ∧ NmL l (partsN y) ps k2 ∧ x = reN y ps ∧ k = k1 + k2 := by
  obtain ⟨n, h⟩ := h
  cases n with
  | zero => exact h.elim
  | succ n =>
    obtain ⟨hR, y, k1, ps, k2, a, b, c, d⟩ := h
    exact ⟨y, k1, ps, k2, hR, a, ⟨n, b⟩, c, d⟩
theorem hdT_ap : ∀ (l : List Tm) (f : Tm), hdT (apT f l) = hdT f
  | [], f => by rw [apT]
  | a :: l, f => by rw [apT, hdT_ap l, hdT_app]
theorem arT_ap : ∀ (l : List Tm) (f : Tm), arT (apT f l) = arT f ++ l
  | [], f => by rw [apT, List.append_nil]
  | a :: l, f => by rw [apT, arT_ap l, arT_app]; simp
theorem apT_k : ∀ (l : List Tm) (f : Tm), l ≠ [] → (apT f l).k = 5
  | [], _, h => absurd rfl h
  | [a], f, _ => by rw [apT, apT, Tm.k]
  | a :: b :: l, f, _ => by rw [apT]; exact apT_k (b :: l) _ (by simp)
theorem ar_k {y : Tm} (hg : goodT y = true) (h : y.k = 5) : arT y ≠ [] := by
  obtain ⟨a, b, hs, -, -⟩ := nth_sub2 hg (.inr (.inr h))
  obtain ⟨k, n, l⟩ := y
  have h' : k = 5 := h
  have hs' : l = [a, b] := hs
  subst h'; subst hs'
  rw [arT_app]; simp
theorem reN_parts {y : Tm} {ps : List Tm} (hs : shapedT y = true) (hl : ps.length = (partsN y).length) : partsN (reN y ps) = ps ∧ reN (reN y ps) ps = reN y ps ∧ (hdT (reN y ps) = hdT y ∧ (arT (reN y ps)).length = (arT y).length ∨ (y.k = 3 ∨ y.k = 4)) := by
  have hg := (shapedT_spec hs).2.2
  unfold partsN at hl
  by_cases h1 : y.k = 3 ∨ y.k = 4
  · have e : reN y ps = .mk y.k 0 ps := by unfold reN; rw [if_pos h1]
    rw [e]
    refine ⟨?_, ?_, .inr h1⟩
    · unfold partsN; rw [if_pos (by simpa [Tm.k] using h1)]; rfl
    · unfold reN; rw [if_pos (by simpa [Tm.k] using h1)]; rfl
  · rw [if_neg h1] at hl
    by_cases h2 : y.k = 5
    · rw [if_pos h2] at hl
      have e : reN y ps = apT (hdT y) ps := by unfold reN; rw [if_neg h1, if_pos h2]
      have hne : ps ≠ [] := fun h => by
        have := ar_k hg h2
        rw [h] at hl
        exact this (List.length_eq_zero_iff.1 hl.symm)
      have hk := apT_k ps (hdT y) hne
      have hd5 := (hd_spec y hg).2.1
      have hh : hdT (apT (hdT y) ps) = hdT y := by rw [hdT_ap, hdT_not hd5]
      have ha : arT (apT (hdT y) ps) = ps := by rw [arT_ap, arT_not hd5, List.nil_append]
      rw [e]
      refine ⟨?_, ?_, .inl ⟨hh, by rw [ha, hl]⟩⟩
      · unfold partsN; rw [if_neg (by omega), if_pos hk, ha]
      · unfold reN; rw [if_neg (by omega), if_pos hk, hh]
    · rw [if_neg h2] at hl
      have hp : ps = [] := List.length_eq_zero_iff.1 (by simpa using hl)
      have e : reN y ps = y := by unfold reN; rw [if_neg h1, if_neg h2]
      rw [e, hp]
      refine ⟨?_, ?_, .inl ⟨rfl, rfl⟩⟩
      · unfold partsN; rw [if_neg h1, if_neg h2]
      · unfold reN; rw [if_neg h1, if_neg h2]
theorem not_con {l : List Ent} {y : Tm} (h : y.k = 3 ∨ y.k = 4) : ¬ isCon l y := fun hc => by
  have := (kindT_spec hc.1 (by decide)).1
  rw [hdT_not (by omega)] at this
  omega
theorem reN_con {l : List Ent} {y : Tm} {ps : List Tm} (hs : shapedT y = true) (hl : ps.length = (partsN y).length) (h : isCon l (reN y ps)) : isCon l y ∧ hdT (reN y ps) = hdT y := by
  rcases (reN_parts hs hl).2.2 with ⟨h1, h2⟩ | h3
  · unfold isCon at h ⊢
    rw [h1, h2] at h
    exact ⟨h, h1⟩
  · have e : reN y ps = .mk y.k 0 ps := by unfold reN; rw [if_pos h3]
    rw [e] at h
    exact absurd h (not_con (by simpa [Tm.k] using h3))
theorem react_none {l : List Ent} {x y : Tm} : reactT l x y = none ↔ ¬ (isCon l y ∧ (ent l (hdT y).n).fam = if kindT l (hdT x) = 4 then (ent l (hdT x).n).fam else (hdT x).n) := by
  unfold reactT
  by_cases h : kindT l (hdT x) = 4
  · rw [if_pos h, if_pos h]
    by_cases h2 : isCon l y ∧ (ent l (hdT y).n).fam = (ent l (hdT x).n).fam
    · rw [if_pos h2]; simp [h2]
    · rw [if_neg h2]; simp only [true_iff]; exact h2
  · rw [if_neg h, if_neg h]
    by_cases h2 : isCon l y ∧ (ent l (hdT y).n).fam = (hdT x).n
    · rw [if_pos h2]; simp [h2]
    · rw [if_neg h2]; simp only [true_iff]; exact h2
theorem act_same {N : ByteArray → Bool} {l : List Ent} (hE : AllE N l) {x y : Tm} (hs : shapedT y = true) (hh : hdT x = hdT y) (ha : (arT x).length = (arT y).length) : (actT l y = .none → actT l x = .none) ∧ ∀ a, actT l y = .tgt a → ∃ i : Int, 0 ≤ i ∧ i < (arT y).length ∧ a = nth (arT y) i ∧ actT l x = .tgt (nth (arT x) i) := by
  have hn := good_n (shapedT_spec (hd_shaped hs)).2.2
  unfold actT
  rw [hh, ha]
  by_cases h1 : (hdT y).k = 4 ∧ 0 < (arT y).length
  · rw [if_pos h1, if_pos h1]; exact ⟨fun h => (by cases h), fun a h => (by cases h)⟩
  · rw [if_neg h1, if_neg h1]
    by_cases h2 : kindT l (hdT y) = 3
    · rw [if_pos h2, if_pos h2]; exact ⟨fun h => (by cases h), fun a h => (by cases h)⟩
    · rw [if_neg h2, if_neg h2]
      by_cases h3 : kindT l (hdT y) = 4
      · rw [if_pos h3, if_pos h3]
        by_cases h4 : ((arT y).length : Int) ≤ (ent l (hdT y).n).pars
        · rw [if_pos h4, if_pos h4]; exact ⟨id, fun a h => (by cases h)⟩
        · rw [if_neg h4, if_neg h4]
          have hk := kindT_spec h3 (by decide)
          have hp := (entryT_spec (hE.2 _ hn hk.2.1)).2.2.2.1 hk.2.2
          unfold projT at hp
          simp only [Bool.and_eq_true] at hp
          have hw := ownedT_spec hp.1
          have hfam := familyT_spec ((entryT_spec (hE.2 _ hw.1 (by omega))).2.1 hw.2.2.1)
          exact ⟨fun h => (by cases h), fun a h => by injection h with h; exact ⟨_, by omega, by omega, h.symm, rfl⟩⟩
      · rw [if_neg h3, if_neg h3]
        by_cases h4 : (hdT y).k = 7
        · rw [if_pos h4, if_pos h4]
          by_cases h5 : isT l (hdT y).n 1 = true ∧ argsT (ent l (hdT y).n) ≤ (arT y).length
          · rw [if_pos h5, if_pos h5]
            have hi := isT_spec h5.1
            have hfam := familyT_spec ((entryT_spec (hE.2 _ hi.1 hi.2.1)).2.1 hi.2.2)
            have h6 : argsT (ent l (hdT y).n) = (ent l (hdT y).n).pars + 2 + (ent l (hdT y).n).cons.length + (ent l (hdT y).n).inds := by unfold argsT; rw [if_pos hi.2.2]
            exact ⟨fun h => (by cases h), fun a h => by injection h with h; exact ⟨_, by omega, by omega, h.symm, rfl⟩⟩
          · rw [if_neg h5, if_neg h5]; exact ⟨id, fun a h => (by cases h)⟩
        · rw [if_neg h4, if_neg h4]; exact ⟨id, fun a h => (by cases h)⟩
theorem On.still_inv {l : List Ent} {y : Tm} {j : Int} (h : On l y y false 0 j) : actT l y = .none ∨ ∃ a z j', actT l y = .tgt a ∧ Br l a z 0 j' ∧ reactT l y z = none := by
  cases h with
  | stop a => exact .inl a
  | redE _ b => exact absurd rfl b
  | tgtE _ _ c => exact absurd rfl c
  | tgtN a b c => exact .inr ⟨_, _, _, a, b, c⟩
  | tgtRE _ _ _ d => exact absurd rfl d
theorem sub_shaped {t x : Tm} (h : shapedT t = true) (hx : x ∈ t.sub) : shapedT x = true := by
  obtain ⟨k, n, l⟩ := t
  have hs := shapedT_spec h
  have hg := (goodT_mk hs.2.2).2
  rw [Tm.nodes, Tm.high] at hs
  have key : ∀ l : List Tm, goodL l = true → ∀ x ∈ l, goodT x = true ∧ x.nodes ≤ nodesL l ∧ x.high ≤ highL l := by
    intro l
    induction l with
    | nil => intro _ x hx; cases hx
    | cons a l ih =>
      intro hg x hx
      have hc := goodL_cons hg
      rw [nodesL, highL]
      rcases List.mem_cons.1 hx with rfl | hx
      · exact ⟨hc.1, by omega, by omega⟩
      · have := ih hc.2 x hx; exact ⟨this.1, by omega, by omega⟩
  have := key l hg x hx
  exact shapedT_of (by omega) (by omega) this.1
theorem partsN_shaped {y x : Tm} (h : shapedT y = true) (hx : x ∈ partsN y) : shapedT x = true := by
  unfold partsN at hx
  split at hx
  · exact sub_shaped h hx
  · split at hx
    · exact ar_shaped h hx
    · cases hx
theorem NmN.again {N : ByteArray → Bool} {l : List Ent} (hE : AllE N l) : ∀ {n : Nat} {t x : Tm} {k : Int}, NmN l n t x k → shapedT x = true → NmN l n x x 0
  | 0, _, _, _, h, _ => h.elim
  | n + 1, t, x, k, ⟨hR, y, k1, ps, k2, a, b, c, d⟩, hs => by
    have hRy := a.right hE hR
    have hsy := hRy.shaped
    have hlen := b.len
    obtain ⟨e1, e2, e3⟩ := reN_parts hsy hlen
    rw [← c] at e1 e2 e3
    have hps : ∀ p ∈ ps, NmN l n p p 0 := fun p hp => by
      obtain ⟨q, hq, kq, hn⟩ := b.mem p hp
      exact NmN.again hE hn (partsN_shaped hs (by rw [e1]; exact hp))
    have hn0 : ∀ {p : Tm}, NmN l n p p 0 → RightM l p ∧ Br l p p 0 0 := fun {p} h => by
      cases n with
      | zero => exact h.elim
      | succ n =>
        obtain ⟨hR, y, k1, ps, k2, a, b, c, d⟩ := h
        have h1 := a.nn
        have h2 := AllP.nn (fun _ _ _ h => NmN.nn h) b
        have hz : k1 = 0 := by omega
        subst hz
        refine ⟨hR, ?_⟩
        have hy : y = p := by
          have key : ∀ {x y : Tm} {e k : Int}, Br l x y e k → e = 0 → k ≤ 0 → y = x := fun h => by
            cases h with
            | stop _ => exact fun _ _ => rfl
            | redE _ h => exact fun he => absurd he h
            | redL _ _ => exact fun he => absurd he (by decide)
            | red _ _ h => exact fun _ hk => by have := h.nn; omega
            | tgtE _ _ h => exact fun he => absurd he h
            | tgtN _ _ _ => exact fun _ _ => rfl
            | tgtRE _ _ _ h => exact fun he => absurd he h
            | tgtRL _ _ _ _ => exact fun he => absurd he (by decide)
            | tgtR _ h1 _ _ h2 => exact fun _ hk => by have := h1.nn; have := h2.nn; omega
          exact key a rfl (Int.le_refl 0)
        rw [hy] at a; exact a
    have hP5 : (fun (k n : Int) => k = 6 ∨ k = 7 → n < (l.length : Int)) 5 0 := fun h => by omega
    have hyN := (rightM_iff.1 hRy).2
    have hRx : RightM l x := by
      refine rightM_iff.2 ⟨hs, ?_⟩
      have hpsN : ∀ p ∈ ps, AllN (fun k n => k = 6 ∨ k = 7 → n < l.length) p := fun p hp => (rightM_iff.1 (hn0 (hps p hp)).1).2
      rw [c]
      unfold reN
      by_cases h1 : y.k = 3 ∨ y.k = 4
      · rw [if_pos h1, AllN, allNL_iff]
        exact ⟨.inr fun h => by omega, hpsN⟩
      · rw [if_neg h1]
        by_cases h2 : y.k = 5
        · rw [if_pos h2]
          exact allN_ap ps _ hP5 (allN_spine y (shapedT_spec hsy).2.2 hyN).1 hpsN
        · rw [if_neg h2]; exact hyN
    have hbr : Br l x x 0 0 := by
      rcases e3 with ⟨hh, ha⟩ | h34
      · obtain ⟨j, -, hon⟩ := a.last rfl
        have hact := act_same hE hsy hh ha
        rcases hon.still_inv with h | ⟨a', z, j', h1, h2, h3⟩
        · exact .stop (hact.1 h)
        · obtain ⟨i, i0, i1, i2, i3⟩ := hact.2 a' h1
          have hy5 : y.k = 5 := by
            by_cases h5 : y.k = 5
            · exact h5
            · rw [arT_not h5] at i1; simp at i1; omega
          have hpy : partsN y = arT y := by unfold partsN; rw [if_neg (by omega), if_pos hy5]
          have hpx : arT x = ps := by
            have e : x = apT (hdT y) ps := by rw [c]; unfold reN; rw [if_neg (by omega), if_pos hy5]
            rw [e, arT_ap, arT_not (hd_spec y (shapedT_spec hsy).2.2).2.1, List.nil_append]
          rw [hpy] at hlen b
          have hi1 : i.toNat < (arT y).length := by omega
          have hi2 : i.toNat < ps.length := by omega
          obtain ⟨ki, hki⟩ := b.at i.toNat hi1 hi2
          have ea : a' = (arT y)[i.toNat] := by rw [i2]; unfold nth; rw [List.getElem?_eq_getElem hi1]; rfl
          have eb : nth (arT x) i = ps[i.toNat] := by rw [hpx]; unfold nth; rw [List.getElem?_eq_getElem hi2]; rfl
          rw [← ea] at hki
          have hself := hps _ (List.getElem_mem hi2)
          refine .tgtN (i3.trans (by rw [eb])) (hn0 hself).2 ?_
          cases n with
          | zero => exact hki.elim
          | succ n =>
            obtain ⟨hRa, w, w1, qs, w2, u1, u2, u3, u4⟩ := hki
            obtain ⟨rfl, -, -⟩ := h2.det u1
            have hsw := u1.shaped hRa.shaped rfl
            rw [react_none] at h3 ⊢
            rw [hh]
            rintro ⟨c1, c2⟩
            rw [u3] at c1 c2
            obtain ⟨d1, d2⟩ := reN_con hsw u2.len c1
            rw [d2] at c2
            exact h3 ⟨d1, c2⟩
      · have hx34 : x.k = 3 ∨ x.k = 4 := by rw [c]; unfold reN; rw [if_pos h34]; simpa [Tm.k] using h34
        refine .stop ?_
        unfold actT
        rw [hdT_not (by omega), arT_not (by omega)]
        have hk : ∀ m : Int, m ≠ 0 → kindT l x ≠ m := fun m hm e => by have := (kindT_spec e hm).1; omega
        rw [if_neg (by simp), if_neg (hk 3 (by decide)), if_neg (hk 4 (by decide)), if_neg (by omega)]
    exact ⟨hRx, x, 0, ps, 0, hbr, by rw [e1]; exact AllP.self hps, e2.symm, rfl⟩
mutual
def e166 : Nat → Mach → Int → Int → Int → Tm → Option (Tm × Int × Int × Int)
 | 0, _, _, _, _, _ => none
 | qq + 1, M, fl, fu, q0_e, p1 =>
 e79 qq M p1 fl fu >>= fun r1 =>
 if r1.2.1 != 0 then
 some ((Tm.mk 0 0 []), r1.2.1, r1.2.2.1, r1.2.2.2)
 else
 if r1.1.k == 4 then
 e228 qq M r1.2.2.1 r1.2.2.2 q0_e r1.1.sub >>= fun r5 =>
 some ((Tm.mk r1.1.k 0 r5.1), r5.2.1, r5.2.2.1, r5.2.2.2)
 else
 if r1.1.k == 3 then
 e228 qq M r1.2.2.1 r1.2.2.2 q0_e r1.1.sub >>= fun r8 =>
 some ((Tm.mk r1.1.k 0 r8.1), r8.2.1, r8.2.2.1, r8.2.2.2)
 else
 if r1.1.k == 5 then
 e158 qq r1.1 >>= fun r11 =>
 e228 qq M r1.2.2.1 r1.2.2.2 q0_e r11.2 >>= fun r13 =>
 e142 qq r11.1 r13.1 >>= fun r15 =>
 some (r15, r13.2.1, r13.2.2.1, r13.2.2.2)
 else
 some (r1.1, q0_e, r1.2.2.1, r1.2.2.2)
def e228 : Nat → Mach → Int → Int → Int → (List Tm) → Option (List Tm × Int × Int × Int)
 | 0, _, _, _, _, _ => none
 | qq + 1, M, fl, fu, q0_e, p1 =>
 e228L13984 qq M p1 0 [] q0_e fl fu
def e228L13984 : Nat → Mach → (List Tm) → Int → (List Tm) → Int → Int → Int → Option (List Tm × Int × Int × Int)
 | 0, _, _, _, _, _, _, _ => none
 | qq + 1, M, p1, v10, v5, vb0_2, vb3_0, vb3_1 =>
 if decide (v10 < (List.length p1 : Int)) then
 gidx p1 v10 >>= fun x2 =>
 if vb0_2 != 0 then
 some ([], vb0_2, vb3_0, vb3_1)
 else
 e166 qq M vb3_0 vb3_1 vb0_2 x2 >>= fun r5 =>
 gapp 40 v5 [r5.1] >>= fun l7 =>
 e228L13984 qq M p1 (w64 (v10 + 1)) l7 r5.2.1 r5.2.2.1 r5.2.2.2
 else
 some (v5, vb0_2, vb3_0, vb3_1)
end
def g228L13984E0 (j : Nat → Value) (M : Mach) (p1 : List Tm) (v10 : Int) (v5 : List Tm) (vb0_2 vb3_0 vb3_1 : Int) := sp j 27 0 [(0, .mp 0 0), (5, .sl (flat tmCells v5) (List.length v5) (.st 0 3)), (8, .sl (flat tmCells p1) (List.length p1) .no), (9, ai (List.length p1 : Int)), (10, ai v10)]
def g228L13984S0 (M : Mach) (p1 : List Tm) (v10 : Int) (v5 : List Tm) (vb0_2 vb3_0 vb3_1 : Int) : LSt := ⟨[(0, .cells [.mp 1 0, .mp 3 0, ai vb0_2]), (1, .cells [.sl (flat entL M.l) (List.length M.l) .no, .mp 2 0, .sl (flat intC M.args) (List.length M.args) .no, .sl (flat intC M.own) (List.length M.own) .no]), (2, .cells [.sl (flat entL M.rl) (List.length M.rl) .no, .sl (flat conL M.parts) (List.length M.parts) .no]), (3, .cells [ai vb3_0, ai vb3_1])], 4, [0], 1, []⟩
abbrev K166 (M : Mach) (fl fu q0_e : Int) (p1 : Tm) (r : Tm × Int × Int × Int) (C : Cf) : Prop := C 166 [.cells [.mp 1 0, .mp 3 0, ai q0_e], .cells [.sl (flat entL M.l) (List.length M.l) .no, .mp 2 0, .sl (flat intC M.args) (List.length M.args) .no, .sl (flat intC M.own) (List.length M.own) .no], .cells [.sl (flat entL M.rl) (List.length M.rl) .no, .sl (flat conL M.parts) (List.length M.parts) .no], .cells [ai fl, ai fu]] [.mp 0 0, tmA p1] (tmA r.1) [.cells [.mp 1 0, .mp 3 0, ai r.2.1], .cells [.sl (flat entL M.l) (List.length M.l) .no, .mp 2 0, .sl (flat intC M.args) (List.length M.args) .no, .sl (flat intC M.own) (List.length M.own) .no], .cells [.sl (flat entL M.rl) (List.length M.rl) .no, .sl (flat conL M.parts) (List.length M.parts) .no], .cells [ai r.2.2.1, ai r.2.2.2]] 0
abbrev K228 (M : Mach) (fl fu q0_e : Int) (p1 : List Tm) (r : List Tm × Int × Int × Int) (C : Cf) : Prop := C 228 [.cells [.mp 1 0, .mp 3 0, ai q0_e], .cells [.sl (flat entL M.l) (List.length M.l) .no, .mp 2 0, .sl (flat intC M.args) (List.length M.args) .no, .sl (flat intC M.own) (List.length M.own) .no], .cells [.sl (flat entL M.rl) (List.length M.rl) .no, .sl (flat conL M.parts) (List.length M.parts) .no], .cells [ai fl, ai fu]] [.mp 0 0, .sl (flat tmCells p1) (List.length p1) .no] (.sl (flat tmCells r.1) (List.length r.1) .no) [.cells [.mp 1 0, .mp 3 0, ai r.2.1], .cells [.sl (flat entL M.l) (List.length M.l) .no, .mp 2 0, .sl (flat intC M.args) (List.length M.args) .no, .sl (flat intC M.own) (List.length M.own) .no], .cells [.sl (flat entL M.rl) (List.length M.rl) .no, .sl (flat conL M.parts) (List.length M.parts) .no], .cells [ai r.2.2.1, ai r.2.2.2]] 0
theorem q166 : Qf 166 Tryz.f166 := ⟨Tryz.func166, by kernel_rfl⟩
theorem k166 {M fl fu q0_e p1 r} (h : K166 M fl fu q0_e p1 r Ci) : K166 M fl fu q0_e p1 r Ct := ⟨h, ⟨(lz rfl), ⟨tv, tv, ⟨tv, dT _⟩, tv⟩, tv⟩, (forall_cons ⟨(lz rfl), (lz rfl), tv, tv⟩ (forall_cons ⟨⟨tv, dE _⟩, (lz rfl), ⟨tv, dI _⟩, ⟨tv, dI _⟩, tv⟩ (forall_cons ⟨⟨tv, dE _⟩, ⟨tv, dC _⟩, tv⟩ (forall_cons ⟨tv, tv, tv⟩ forall_nil)))), ⟨tv, tv, dT _, tv⟩, (forall_cons ⟨(lz rfl), (lz rfl), tv, tv⟩ (forall_cons ⟨dE _, (lz rfl), dI _, dI _, tv⟩ (forall_cons ⟨dE _, dC _, tv⟩ (forall_cons ⟨tv, tv, tv⟩ forall_nil))))⟩
theorem q228 : Qf 228 Tryz.f228 := ⟨Tryz.func228, by kernel_rfl⟩
theorem k228 {M fl fu q0_e p1 r} (h : K228 M fl fu q0_e p1 r Ci) : K228 M fl fu q0_e p1 r Ct := ⟨h, ⟨(lz rfl), ⟨tv, dT _⟩, tv⟩, (forall_cons ⟨(lz rfl), (lz rfl), tv, tv⟩ (forall_cons ⟨⟨tv, dE _⟩, (lz rfl), ⟨tv, dI _⟩, ⟨tv, dI _⟩, tv⟩ (forall_cons ⟨⟨tv, dE _⟩, ⟨tv, dC _⟩, tv⟩ (forall_cons ⟨tv, tv, tv⟩ forall_nil)))), dT _, (forall_cons ⟨(lz rfl), (lz rfl), tv, tv⟩ (forall_cons ⟨dE _, (lz rfl), dI _, dI _, tv⟩ (forall_cons ⟨dE _, dC _, tv⟩ (forall_cons ⟨tv, tv, tv⟩ forall_nil))))⟩
theorem a166_228_228L13984 : ∀ qq : Nat, (∀ M fl fu q0_e p1 r, e166 qq M fl fu q0_e p1 = some r → K166 M fl fu q0_e p1 r Ct) ∧ (∀ M fl fu q0_e p1 r, e228 qq M fl fu q0_e p1 = some r → K228 M fl fu q0_e p1 r Ct) ∧ (∀ M p1 v10 v5 vb0_2 vb3_0 vb3_1 r, e228L13984 qq M p1 v10 v5 vb0_2 vb3_0 vb3_1 = some r → (∀ j, Dl Tryz.prog 4 (inn (inn (rgt (lft (rgt (rgt (bod Tryz.f228))))))) (g228L13984E0 j M p1 v10 v5 vb0_2 vb3_0 vb3_1) (g228L13984S0 M p1 v10 v5 vb0_2 vb3_0 vb3_1) (frameQ Tryz.prog 4 (FinQ Tryz.prog 4 Tryz.f228 (.sl (flat tmCells r.1) (List.length r.1) .no) [.cells [.mp 1 0, .mp 3 0, ai r.2.1], .cells [.sl (flat entL M.l) (List.length M.l) .no, .mp 2 0, .sl (flat intC M.args) (List.length M.args) .no, .sl (flat intC M.own) (List.length M.own) .no], .cells [.sl (flat entL M.rl) (List.length M.rl) .no, .sl (flat conL M.parts) (List.length M.parts) .no], .cells [ai r.2.2.1, ai r.2.2.2]] 0) [.blk 0, .seq (rgt (rgt (rgt (bod Tryz.f228))))]))) := by
 intro qq
 induction qq with
 | zero =>
  exact ⟨fun _ _ _ _ _ _ h => nn h, fun _ _ _ _ _ _ h => nn h, fun _ _ _ _ _ _ _ _ h => nn h⟩
 | succ qq ih =>
  obtain ⟨ih166, ih228, ih228L13984⟩ := ih
  refine ⟨?_, ?_, ?_⟩
  intro M fl fu q0_e p1 r h
  rw [e166] at h
  obtain ⟨r1, h2, h⟩ := obind h
  have k := oC 3 [1, 2, 3] (c79 h2) o0
  rcases spl h with ⟨h3, h⟩ | ⟨h3, h⟩
  obtain rfl := sj h
  exact k166 (tF q166 2 [0, 1, 2, 3] (oD (dT ([] : List Tm)) <| oD (dC M.parts) <| oD (dE M.rl) <| oD (dI M.own) <| oD (dI M.args) <| oD (dE M.l) <| oB 3 h3 k))
  have k := oB 3 h3 k
  rcases spl h with ⟨h4, h⟩ | ⟨h4, h⟩
  obtain ⟨r5, h6, h⟩ := obind h
  obtain rfl := sj h
  exact k166 (tF q166 1 [0, 1, 2, 3] (oD (dT r5.1) <| oD (dC M.parts) <| oD (dE M.rl) <| oD (dI M.own) <| oD (dI M.args) <| oD (dE M.l) <| oC 2 [0, 1, 2, 3] (ih228 _ _ _ _ _ _ h6) <| oB 1 h4 k))
  have k := oB 1 h4 k
  rcases spl h with ⟨h7, h⟩ | ⟨h7, h⟩
  obtain ⟨r8, h9, h⟩ := obind h
  obtain rfl := sj h
  exact k166 (tF q166 1 [0, 1, 2, 3] (oD (dT r8.1) <| oD (dC M.parts) <| oD (dE M.rl) <| oD (dI M.own) <| oD (dI M.args) <| oD (dE M.l) <| oC 2 [0, 1, 2, 3] (ih228 _ _ _ _ _ _ h9) <| oB 0 h7 k))
  have k := oB 0 h7 k
  rcases spl h with ⟨h10, h⟩ | ⟨h10, h⟩
  obtain ⟨r11, h12, h⟩ := obind h
  obtain ⟨r13, h14, h⟩ := obind h
  obtain ⟨r15, h16, h⟩ := obind h
  obtain rfl := sj h
  exact k166 (tF q166 1 [0, 1, 2, 3] (oD (dT r15.sub) <| oD (dC M.parts) <| oD (dE M.rl) <| oD (dI M.own) <| oD (dI M.args) <| oD (dE M.l) <| oC 0 [] (c142 h16) <| oC 4 [0, 1, 2, 3] (ih228 _ _ _ _ _ _ h14) <| oC 1 [] (c158 h12) <| oB 0 h10 k))
  obtain rfl := sj h
  exact k166 (tF q166 2 [0, 1, 2, 3] (oD (dT r1.1.sub) <| oD (dC M.parts) <| oD (dE M.rl) <| oD (dI M.own) <| oD (dI M.args) <| oD (dE M.l) <| oB 0 h10 k))
  intro M fl fu q0_e p1 r h
  rw [e228] at h
  exact k228 (tH q228 1 [(none, 5, 3)] [0, 1, 2, 3] [0] [0, 5, 8, 9, 10] (oD (dT p1) <| oD (dT ([] : List Tm)) <| oD (dC M.parts) <| oD (dE M.rl) <| oD (dI M.own) <| oD (dI M.args) <| oD (dE M.l) o0) (ih228L13984 _ _ _ _ _ _ _ _ h))
  intro M p1 v10 v5 vb0_2 vb3_0 vb3_1 r h
  rw [e228L13984] at h
  rcases spl h with ⟨h1, h⟩ | ⟨h1, h⟩
  obtain ⟨x2, h3, h⟩ := obind h
  have k := oA 0 (ix23 (o := .no) h3) <| oB 0 h1 o0
  rcases spl h with ⟨h4, h⟩ | ⟨h4, h⟩
  obtain rfl := sj h
  exact fun j => lF 0 [0, 1, 2, 3] (oD (dT ([] : List Tm)) <| oD (dC M.parts) <| oD (dE M.rl) <| oD (dI M.own) <| oD (dI M.args) <| oD (dE M.l) <| oB 3 h4 k)
  obtain ⟨r5, h6, h⟩ := obind h
  obtain ⟨l7, h8, h⟩ := obind h
  exact fun j => lH 1 [] [0, 1, 2, 3] [1] [0, 5, 8, 9, 10] (oD (dT p1) <| oD (dT l7) <| oD (dC M.parts) <| oD (dE M.rl) <| oD (dI M.own) <| oD (dI M.args) <| oD (dE M.l) <| oP 0 (apS23 h8 (by simp)) <| oS 0 (obLitR tm_eq [r5.1]) <| oC 1 [0, 1, 2, 3] (ih166 _ _ _ _ _ _ h6) <| oB 3 h4 k) (ih228L13984 _ _ _ _ _ _ _ _ h)
  obtain rfl := sj h
  exact fun j => lF 0 [0, 1, 2, 3] (oD (dT v5) <| oD (dC M.parts) <| oD (dE M.rl) <| oD (dI M.own) <| oD (dI M.args) <| oD (dE M.l) <| oB 0 h1 o0)
theorem c166 {qq M fl fu q0_e p1 r} (h : e166 qq M fl fu q0_e p1 = some r) : K166 M fl fu q0_e p1 r Ct := (a166_228_228L13984 _).1 _ _ _ _ _ _ h
def er4l (r : List Tm × Int × Int × Int) : Int := if r.1.length ≤ 8192 then r.2.1 else 9
theorem er4l_8 {r : List Tm × Int × Int × Int} (h : er4l r = 8) : r.1.length ≤ 8192 ∧ r.2.1 = 8 := by
  unfold er4l at h
  split at h
  · exact ⟨by assumption, h⟩
  · omega
def QN (l : List Ent) (t : Tm) (R : Int → Int → Tm × Int × Int × Int) (k : Int) : Prop := ∃ x e, x.Ok ∧ e ≠ 8 ∧ (e = 0 → Nm l t x k) ∧ (e ≠ 0 → ∀ x k, ¬ Nm l t x k) ∧ R = fun L U => (x, e, L, U)
def HN (l : List Ent) (t : Tm) (f : Int) : Prop := Ou (fun L U q => e166 q (machT l) L U 0 t) er4 (QN l t) (∀ x k, Nm l t x k → f < k) f
def QNL (l : List Ent) (ts : List Tm) (R : Int → Int → List Tm × Int × Int × Int) (k : Int) : Prop := ∃ xs e, OkA xs ∧ xs.length ≤ ts.length ∧ e ≠ 8 ∧ (e = 0 → NmL l ts xs k) ∧ (e ≠ 0 → ∀ xs k, ¬ NmL l ts xs k) ∧ R = fun L U => (xs, e, L, U)
theorem Br.e8 {N : ByteArray → Bool} {l : List Ent} (hE : AllE N l) {x y : Tm} {e k : Int} (h : Br l x y e k) : shapedT x = true → e ≠ 8 := by
  induction h with
  | stop _ => exact fun _ => by decide
  | @redE x Y e a h =>
    intro hs
    unfold actT at a
    split at a
    · injection a with h1 h2
      rw [← h2]; exact subT_e8 _ _
    · split at a
      · injection a with h1 h2
        rw [← h2]; decide
      · split at a
        · split at a <;> cases a
        · split at a
          · split at a <;> cases a
          · cases a
  | redL _ _ => exact fun _ => by decide
  | red _ hY _ ih => exact fun _ => ih hY
  | tgtE a _ _ ih => exact fun hs => ih (ar_shaped hs (act_tgt hE hs a).1)
  | tgtN _ _ _ _ => exact fun _ => by decide
  | @tgtRE x a z Y e k ha hb hr he ih =>
    intro hs
    have hm := (act_tgt hE hs ha).1
    have hz := hb.shaped (ar_shaped hs hm) rfl
    have hox : OkA (arT x) := fun z hz => shaped_ok (ar_shaped hs hz)
    have hoy : OkA (arT z) := fun w hw => shaped_ok (ar_shaped hz hw)
    have hlx : (arT x).length ≤ 8192 := by
      have h := shapedT_spec hs
      have := ar_len _ h.2.2
      omega
    have hly : (arT z).length ≤ 8192 := by
      have h := shapedT_spec hz
      have := ar_len _ h.2.2
      omega
    unfold reactT at hr
    split at hr
    · split at hr
      · simp only [Option.some.injEq, Prod.mk.injEq] at hr
        rw [← hr.2]
        exact (fieldX_spec l (hdT x).n ((arT z).drop (ent l (hdT z).n).pars.toNat) hE (hoy.drop _) (by rw [List.length_drop]; omega)).2.2.1
      · cases hr
    · split at hr
      · simp only [Option.some.injEq, Prod.mk.injEq] at hr
        rw [← hr.2]
        exact (stepX_spec l (hdT x).n (nth (hdT x).sub 0).n (hdT z).n ((arT x).take ((ent l (hdT x).n).pars + 1 + (ent l (hdT x).n).cons.length).toNat) ((arT z).drop (ent l (hdT x).n).pars.toNat) hE (hox.take _) (hoy.drop _) (by rw [List.length_take]; omega) (by rw [List.length_drop]; omega)).2.2.1
      · cases hr
  | tgtRL _ _ _ _ _ => exact fun _ => by decide
  | tgtR a b c hY _ ih ih2 => exact fun _ => ih2 hY
theorem Br.zero {l : List Ent} {x y : Tm} {e k : Int} (h : Br l x y e k) : e = 0 → k ≤ 0 → y = x := by
  cases h with
  | stop _ => exact fun _ _ => rfl
  | redE _ h => exact fun he => absurd he h
  | redL _ _ => exact fun he => absurd he (by decide)
  | red _ _ h => exact fun _ hk => by have := h.nn; omega
  | tgtE _ _ h => exact fun he => absurd he h
  | tgtN _ _ _ => exact fun _ _ => rfl
  | tgtRE _ _ _ h => exact fun he => absurd he h
  | tgtRL _ _ _ _ => exact fun he => absurd he (by decide)
  | tgtR _ h1 _ _ h2 => exact fun _ hk => by have := h1.nn; have := h2.nn; omega
theorem Ou.evt0 {ρ : Type} {f : Int → Int → Nat → Option ρ} {er : ρ → Int} {Q : (Int → Int → ρ) → Int → Prop} {S : Prop} {l : Int} {R : Int → Int → ρ} (h : ∀ L U, Evt (f L U) (R L U)) (h0 : 0 ≤ l) (k : Q R 0) : Ou f er Q S l :=
  .inl ⟨R, 0, by omega, h0, k, fun L U _ _ _ => by rw [show L - 0 = L by omega, show U + 0 = U by omega]; exact h L U, fun L U _ _ => by omega⟩
theorem ev_allE (l : List Ent) (ts acc : List Tm) (v : Nat) (e : Int) (he : e ≠ 0) : ∃ xs, (xs = [] ∨ xs = acc) ∧ ∀ L U, Evt (fun q => e228L13984 q (machT l) ts (v : Int) acc e L U) (xs, e, L, U) := by
  cases hd : ts.drop v with
  | nil =>
    refine ⟨acc, .inr rfl, fun L U => Evt.succ ?_⟩
    simp only [e228L13984]
    exact Evt.ifF (drop_nil hd) Evt.ret
  | cons t r =>
    refine ⟨[], .inl rfl, fun L U => Evt.succ ?_⟩
    simp only [e228L13984]
    exact Evt.ifT (drop_dec hd) (Evt.pure (drop_idx hd) (Evt.ifT (by simpa using he) Evt.ret))
theorem out_allL (l : List Ent) : ∀ (r ts acc : List Tm) (v : Nat) (f : Int), ts.drop v = r → v ≤ ts.length → ts.length ≤ 8192 → acc.length = v → OkA acc → (∀ t ∈ r, ∀ g, 0 ≤ g → g ≤ f → HN l t g) → 0 ≤ f →
    Ou (fun L U q => e228L13984 q (machT l) ts (v : Int) acc 0 L U) er4l (fun R k => ∃ xs e, OkA xs ∧ xs.length ≤ ts.length ∧ e ≠ 8 ∧ (e = 0 → ∃ ys, xs = acc ++ ys ∧ NmL l r ys k) ∧ (e ≠ 0 → ∀ xs k, ¬ NmL l r xs k) ∧ R = fun L U => (xs, e, L, U)) (∀ xs k, NmL l r xs k → f < k) f
  | [], ts, acc, v, f, hd, hv, hl, ha, ho, hb, hf => by
    refine Ou.succ ?_
    simp only [e228L13984]
    exact Ou.ifF (drop_nil hd) (Ou.ret hf ⟨acc, 0, ho, by omega, by decide, fun _ => ⟨[], by simp, NmL.nil⟩, fun h => absurd rfl h, rfl⟩)
  | t :: r, ts, acc, v, f, hd, hv, hl, ha, ho, hb, hf => by
    have hlt := drop_lt hd
    refine Ou.succ ?_
    simp only [e228L13984]
    refine Ou.ifT (drop_dec hd) (Ou.pure (drop_idx hd) (Ou.ifF rfl (Ou.bind (hb t (by simp) f hf (Int.le_refl f)) (fun h xs k hn => ?_) (fun r5 hr => ?_) ?_)))
    · obtain ⟨x, xs', k1, k2, -, h1, h2, rfl⟩ := hn.cons_inv
      have := h _ _ h1
      have := h2.nn
      omega
    · have hr' : r5.2.1 = 8 := hr
      obtain ⟨xs, hxs, hx⟩ := ev_allE l ts (acc ++ [r5.1]) (v + 1) 8 (by decide)
      refine ⟨(xs, 8, r5.2.2.1, r5.2.2.2), Evt.pure (gapp_ok (by simp; omega)) ?_, ?_⟩
      · rw [w64_nat v (by omega), hr']
        exact hx _ _
      · unfold er4l
        rw [if_pos]
        show xs.length ≤ 8192
        rcases hxs with rfl | rfl
        · simp
        · simp; omega
    · rintro R k k0 k1 ⟨x, e, hx, h8, h0, hn, rfl⟩
      dsimp only
      refine Ou.pure (gapp_ok (by simp; omega)) ?_
      rw [w64_nat v (by omega)]
      by_cases e0 : e = 0
      · subst e0
        have hN := h0 rfl
        refine (out_allL l r ts (acc ++ [x]) (v + 1) (f - k) (drop_next hd) (by omega) hl (by simp; omega) (ho.app (OkA.one hx)) (fun t ht g g0 g1 => hb t (by simp [ht]) g g0 (by omega)) (by omega)).mono ?_ fun hs xs n hn => ?_
        · rintro R n _ _ ⟨xs, e, h1, h2, h3, h4, h5, rfl⟩
          refine ⟨xs, e, h1, h2, h3, fun he => ?_, fun he xs k hn => ?_, rfl⟩
          · obtain ⟨ys, h6, h7⟩ := h4 he
            exact ⟨x :: ys, by rw [h6]; simp, NmL.cons hN h7⟩
          · obtain ⟨x', xs', k1, k2, -, h6, h7, -⟩ := hn.cons_inv
            exact h5 he _ _ h7
        · obtain ⟨x', xs', k1, k2, -, h6, h7, rfl⟩ := hn.cons_inv
          obtain ⟨-, rfl⟩ := hN.det h6
          have := hs _ _ h7
          omega
      · obtain ⟨xs, hxs, hev⟩ := ev_allE l ts (acc ++ [x]) (v + 1) e e0
        refine Ou.evt0 hev (by omega) ⟨xs, e, ?_, ?_, h8, fun h => absurd h e0, fun _ xs k hn' => ?_, rfl⟩
        · rcases hxs with rfl | rfl
          · exact OkA.nil
          · exact ho.app (OkA.one hx)
        · rcases hxs with rfl | rfl
          · simp
          · simp; omega
        · obtain ⟨x', xs', k1, k2, -, h6, -, -⟩ := hn'.cons_inv
          exact hn e0 _ _ h6
theorem out_all (l : List Ent) (ts : List Tm) (f : Int) (hl : ts.length ≤ 8192) (hb : ∀ t ∈ ts, ∀ g, 0 ≤ g → g ≤ f → HN l t g) (hf : 0 ≤ f) : Ou (fun L U q => e228 q (machT l) L U 0 ts) er4l (QNL l ts) (∀ xs k, NmL l ts xs k → f < k) f := by
  refine Ou.succ ?_
  simp only [e228]
  refine (out_allL l ts ts [] 0 f rfl (by omega) hl rfl OkA.nil hb hf).mono ?_ id
  rintro R n _ _ ⟨xs, e, h1, h2, h3, h4, h5, rfl⟩
  exact ⟨xs, e, h1, h2, h3, fun he => by obtain ⟨ys, h6, h7⟩ := h4 he; rw [h6]; simpa using h7, h5, rfl⟩
theorem out_norm {N : ByteArray → Bool} (l : List Ent) (hE : AllE N l) (he : ∀ e ∈ l, EOk e) : ∀ (F n : Nat) (t : Tm), t.Ok → t.nodes ≤ n → HN l t (F : Int) := by
  intro F
  induction F using Nat.strongRecOn with
  | ind F IH =>
    intro n
    induction n with
    | zero => intro t _ h; have := nodes_pos t; omega
    | succ n ih =>
      intro t ht hn
      refine Ou.succ ?_
      simp only [e166]
      refine Ou.bind (out_Bring l hE he t ht F (by omega)) (fun h x k hN => ?_) (fun r hr => ⟨_, Evt.ifT (by show (r.2.1 != 0) = true; rw [show r.2.1 = 8 from hr]; decide) Evt.ret, hr⟩) ?_
      · obtain ⟨y, k1, ps, k2, -, h1, h2, -, rfl⟩ := hN.inv
        have := h.2 _ _ _ h1
        have := h2.nn
        omega
      · rintro R k k0 k1 (⟨hR, rfl, rfl⟩ | ⟨hR, y, e, hbr, rfl⟩)
        · exact Ou.ifT rfl (Ou.ret (by omega) ⟨zT, 5, zT_ok, by decide, fun h => absurd h (by decide), fun _ x k hN => hR hN.right, rfl⟩)
        · dsimp only
          by_cases e0 : e = 0
          · subst e0
            have hRy := hbr.right hE hR
            have hsy := hRy.shaped
            have hgy := (shapedT_spec hsy).2.2
            rw [if_pos rfl]
            have hpb : ∀ p ∈ partsN y, ∀ g, 0 ≤ g → g ≤ (F : Int) - k → HN l p g := fun p hp g g0 g1 => by
              have hp' := partsN_shaped hsy hp
              have hnp : p.nodes < y.nodes := by
                unfold partsN at hp
                split at hp
                · have key : ∀ l : List Tm, ∀ x ∈ l, x.nodes ≤ nodesL l := by
                    intro l
                    induction l with
                    | nil => intro x hx; cases hx
                    | cons a l ih =>
                      intro x hx
                      rw [nodesL]
                      rcases List.mem_cons.1 hx with rfl | hx
                      · omega
                      · have := ih x hx; omega
                  have := key _ p hp
                  have := nodes_sub y
                  omega
                · split at hp
                  · exact ((hd_spec y hgy).2.2.2.2 p hp).2.1
                  · cases hp
              by_cases hk : k ≤ 0
              · have := hbr.zero rfl hk
                subst this
                by_cases hg : g = F
                · subst hg
                  exact ih p (shaped_ok hp') (by omega)
                · have := IH g.toNat (by omega) p.nodes p (shaped_ok hp') (Nat.le_refl _)
                  rwa [show ((g.toNat : Nat) : Int) = g by omega] at this
              · have := IH g.toNat (by omega) p.nodes p (shaped_ok hp') (Nat.le_refl _)
                rwa [show ((g.toNat : Nat) : Int) = g by omega] at this
            have hlen : (partsN y).length ≤ 8192 := by
              unfold partsN
              split
              · rename_i h
                obtain ⟨a, b, hab, -, -⟩ := nth_sub2 hgy (by omega)
                rw [hab]; simp
              · split
                · have := ar_len y hgy; have := (shapedT_spec hsy).1; omega
                · simp
            have hall := out_all l (partsN y) ((F : Int) - k) hlen hpb (by omega)
            have fin : ∀ (xs : List Tm) (k' : Int), NmL l (partsN y) xs k' → Nm l t (reN y xs) (k + k') := fun xs k' h => Nm.mk hR hbr h
            have sh : (∀ xs k', NmL l (partsN y) xs k' → (F : Int) - k < k') → ∀ x k, Nm l t x k → (F : Int) < k := fun h x k' hN => by
              obtain ⟨y', k1', ps, k2, -, h1, h2, -, rfl⟩ := hN.inv
              obtain ⟨rfl, -, rfl⟩ := hbr.det h1
              have := h _ _ h2
              omega
            have no : ∀ e : Int, e ≠ 0 → (∀ xs k', ¬ NmL l (partsN y) xs k') → ∀ x k, ¬ Nm l t x k := fun e _ h x k' hN => by
              obtain ⟨y', k1', ps, k2, -, h1, h2, -, -⟩ := hN.inv
              obtain ⟨rfl, -, rfl⟩ := hbr.det h1
              exact h _ _ h2
            refine Ou.ifF rfl ?_
            have two : y.k = 4 ∨ y.k = 3 → Ou (fun L U q => e228 q (machT l) L U 0 y.sub >>= fun r5 => some ((Tm.mk y.k 0 r5.1), r5.2.1, r5.2.2.1, r5.2.2.2)) er4 (fun R n => QN l t R (k + n)) (∀ x k, Nm l t x k → (F : Int) < k) ((F : Int) - k) := fun h34 => by
              have hp : partsN y = y.sub := by unfold partsN; rw [if_pos (by omega)]
              rw [hp] at hall fin sh no
              refine Ou.bind hall sh (fun r hr => ⟨_, Evt.ret, (er4l_8 hr).2⟩) ?_
              rintro R n n0 n1 ⟨xs, e, h1, h2, h3, h4, h5, rfl⟩
              refine Ou.ret (by omega) ⟨.mk y.k 0 xs, e, ?_, h3, fun he => ?_, fun he => no e he (h5 he), rfl⟩
              · obtain ⟨a, b, hab, -, -⟩ := nth_sub2 hgy (by omega)
                rw [hab] at h2
                rw [Tm.Ok]
                refine ⟨by simp at h2; omega, ?_⟩
                have key : ∀ l : List Tm, OkA l → OkL l := by
                  intro l
                  induction l with
                  | nil => intro _; rw [OkL]; trivial
                  | cons a l ih => intro h; rw [OkL]; exact ⟨h a (by simp), ih fun x hx => h x (by simp [hx])⟩
                exact key xs h1
              · have := fin xs n (h4 he)
                unfold reN at this
                rw [if_pos (by omega)] at this
                rwa [Int.add_zero]
            refine Ou.ite (fun h => two (.inl (by simpa using h))) fun h4 => Ou.ite (fun h => two (.inr (by simpa using h))) fun h3 => ?_
            have h4' : y.k ≠ 4 := by simpa using h4
            have h3' : y.k ≠ 3 := by simpa using h3
            refine Ou.ite (fun h5 => ?_) fun h5 => ?_
            · have h5' : y.k = 5 := by simpa using h5
              have hp : partsN y = arT y := by unfold partsN; rw [if_neg (by omega), if_pos h5']
              rw [hp] at hall fin sh no
              refine Ou.evt (ev_Spine y hsy) (Ou.bind hall sh (fun r hr => ?_) ?_)
              · have := er4l_8 hr
                exact ⟨_, Evt.bind (a := apT (hdT y) r.1) (ev_Apply (hdT y) r.1 (by omega)) Evt.ret, this.2⟩
              · rintro R n n0 n1 ⟨xs, e, h1, h2, h3, h4, h5, rfl⟩
                dsimp only
                have hal := ar_len y hgy
                have hny := (shapedT_spec hsy).1
                refine Ou.evt (ev_Apply (hdT y) xs (by omega)) (Ou.ret (by omega) ⟨apT (hdT y) xs, e, apT_ok _ _ (shaped_ok (hd_shaped hsy)) h1, h3, fun he => ?_, fun he => no e he (h5 he), rfl⟩)
                have := fin xs n (h4 he)
                unfold reN at this
                rw [if_neg (by omega), if_pos h5'] at this
                rwa [Int.add_zero]
            · have h5' : y.k ≠ 5 := by simpa using h5
              have hp : partsN y = [] := by unfold partsN; rw [if_neg (by omega), if_neg h5']
              refine Ou.ret (by omega) ⟨y, 0, shaped_ok hsy, by decide, fun _ => ?_, fun h => absurd rfl h, rfl⟩
              have := fin [] 0 (by rw [hp]; exact NmL.nil)
              unfold reN at this
              rwa [if_neg (by omega), if_neg h5'] at this
          · rw [if_neg e0]
            refine Ou.ifT (by simpa using e0) (Ou.ret (by omega) ⟨zT, e, zT_ok, hbr.e8 hE hR.shaped, fun h => absurd h e0, fun _ x k hN => ?_, rfl⟩)
            obtain ⟨y', k1', ps, k2, -, h1, -, -, -⟩ := hN.inv
            exact e0 (hbr.det h1).2.1.symm
def e85 (qq : Nat) (M : Mach) (p1 : Tm) (fl fu : Int) : Option (Tm × Int × Int × Int) :=
 e166 qq M fl fu 0 p1 >>= fun r1 =>
 if r1.2.1 != 0 then
 some ((Tm.mk 0 0 []), r1.2.1, r1.2.2.1, r1.2.2.2)
 else
 e91 qq r1.1 >>= fun r4 =>
 if r4 then
 some (r1.1, 0, r1.2.2.1, r1.2.2.2)
 else
 some ((Tm.mk 0 0 []), 2, r1.2.2.1, r1.2.2.2)
abbrev K85 (M : Mach) (p1 : Tm) (fl fu : Int) (r : Tm × Int × Int × Int) (C : Cf) : Prop := C 85 [.cells [.sl (flat entL M.l) (List.length M.l) .no, .mp 1 0, .sl (flat intC M.args) (List.length M.args) .no, .sl (flat intC M.own) (List.length M.own) .no], .cells [.sl (flat entL M.rl) (List.length M.rl) .no, .sl (flat conL M.parts) (List.length M.parts) .no], .cells [ai fl, ai fu]] [.mp 0 0, tmA p1, .mp 2 0] (.tup [tmA r.1, ai r.2.1]) [.cells [.sl (flat entL M.l) (List.length M.l) .no, .mp 1 0, .sl (flat intC M.args) (List.length M.args) .no, .sl (flat intC M.own) (List.length M.own) .no], .cells [.sl (flat entL M.rl) (List.length M.rl) .no, .sl (flat conL M.parts) (List.length M.parts) .no], .cells [ai r.2.2.1, ai r.2.2.2]] 0
theorem q85 : Qf 85 Tryz.f85 := ⟨Tryz.func85, by kernel_rfl⟩
theorem k85 {M p1 fl fu r} (h : K85 M p1 fl fu r Ci) : K85 M p1 fl fu r Ct := ⟨h, ⟨(lz rfl), ⟨tv, tv, ⟨tv, dT _⟩, tv⟩, (lz rfl), tv⟩, (forall_cons ⟨⟨tv, dE _⟩, (lz rfl), ⟨tv, dI _⟩, ⟨tv, dI _⟩, tv⟩ (forall_cons ⟨⟨tv, dE _⟩, ⟨tv, dC _⟩, tv⟩ (forall_cons ⟨tv, tv, tv⟩ forall_nil))), ⟨⟨tv, tv, dT _, tv⟩, tv, tv⟩, (forall_cons ⟨dE _, (lz rfl), dI _, dI _, tv⟩ (forall_cons ⟨dE _, dC _, tv⟩ (forall_cons ⟨tv, tv, tv⟩ forall_nil)))⟩
theorem c85 {qq M p1 fl fu r} (h : e85 qq M p1 fl fu = some r) : K85 M p1 fl fu r Ct := by
 unfold e85 at h
 obtain ⟨r1, h2, h⟩ := obind h
 have k := oC 1 [5, 0, 1, 2] (c166 h2) o0
 rcases spl h with ⟨h3, h⟩ | ⟨h3, h⟩
 obtain rfl := sj h
 exact k85 (tF q85 2 [0, 1, 2] (oD (dT ([] : List Tm)) <| oD (dC M.parts) <| oD (dE M.rl) <| oD (dI M.own) <| oD (dI M.args) <| oD (dE M.l) <| oB 2 h3 k))
 obtain ⟨r4, h5, h⟩ := obind h
 have k := oB 2 h3 k
 rcases spl h with ⟨h6, h⟩ | ⟨h6, h⟩
 obtain rfl := sj h
 exact k85 (tF q85 3 [0, 1, 2] (oD (dT r1.1.sub) <| oD (dC M.parts) <| oD (dE M.rl) <| oD (dI M.own) <| oD (dI M.args) <| oD (dE M.l) <| oK 1 [] h6 (c91 h5) k))
 obtain rfl := sj h
 exact k85 (tF q85 2 [0, 1, 2] (oD (dT ([] : List Tm)) <| oD (dC M.parts) <| oD (dE M.rl) <| oD (dI M.own) <| oD (dI M.args) <| oD (dE M.l) <| oK 1 [] h6 (c91 h5) k))
def e85va14437 (qq : Nat) (q0 q1 : List Ent) (q2 : List Con') (q3 q4 : List Int) (p1 : Tm) : Option (Tm × Int) :=
 none
abbrev K85va14437 (q0 q1 : List Ent) (q2 : List Con') (q3 q4 : List Int) (p1 : Tm) (r : Tm × Int) (C : Cf) : Prop := C 85 [.cells [.sl (flat entL q0) (List.length q0) .no, .mp 1 0, .sl (flat intC q3) (List.length q3) .no, .sl (flat intC q4) (List.length q4) .no], .cells [.sl (flat entL q1) (List.length q1) .no, .sl (flat conL q2) (List.length q2) .no]] [.mp 0 0, tmA p1, .val (.pointer none)] (.tup [tmA r.1, ai r.2]) [.cells [.sl (flat entL q0) (List.length q0) .no, .mp 1 0, .sl (flat intC q3) (List.length q3) .no, .sl (flat intC q4) (List.length q4) .no], .cells [.sl (flat entL q1) (List.length q1) .no, .sl (flat conL q2) (List.length q2) .no]] 0
theorem c85va14437 {qq q0 q1 q2 q3 q4 p1 r} (h : e85va14437 qq q0 q1 q2 q3 q4 p1 = some r) : K85va14437 q0 q1 q2 q3 q4 p1 r Ct := by
 unfold e85va14437 at h
 cases h
mutual
def e166va39915 : Nat → Int → Tm → Option (Tm × Int)
 | 0, _, _ => none
 | qq + 1, q0, p1 =>
 e79va17286 qq p1 >>= fun r1 =>
 if r1.2 != 0 then
 some ((Tm.mk 0 0 []), r1.2)
 else
 if r1.1.k == 4 then
 e228va7488 qq q0 r1.1.sub >>= fun r5 =>
 some ((Tm.mk r1.1.k 0 r5.1), r5.2)
 else
 if r1.1.k == 3 then
 e228va7488 qq q0 r1.1.sub >>= fun r8 =>
 some ((Tm.mk r1.1.k 0 r8.1), r8.2)
 else
 if r1.1.k == 5 then
 e158 qq r1.1 >>= fun r11 =>
 e228va7488 qq q0 r11.2 >>= fun r13 =>
 e142 qq r11.1 r13.1 >>= fun r15 =>
 some (r15, r13.2)
 else
 some (r1.1, q0)
def e228va7488 : Nat → Int → (List Tm) → Option (List Tm × Int)
 | 0, _, _ => none
 | qq + 1, q0, p1 =>
 e228va7488L13984 qq p1 0 [] q0
def e228va7488L13984 : Nat → (List Tm) → Int → (List Tm) → Int → Option (List Tm × Int)
 | 0, _, _, _, _ => none
 | qq + 1, p1, v10, v5, vb0_2 =>
 if decide (v10 < (List.length p1 : Int)) then
 gidx p1 v10 >>= fun x2 =>
 if vb0_2 != 0 then
 some ([], vb0_2)
 else
 e166va39915 qq vb0_2 x2 >>= fun r5 =>
 gapp 40 v5 [r5.1] >>= fun l7 =>
 e228va7488L13984 qq p1 (w64 (v10 + 1)) l7 r5.2
 else
 some (v5, vb0_2)
end
def g228va7488L13984E0 (j : Nat → Value) (p1 : List Tm) (v10 : Int) (v5 : List Tm) (vb0_2 : Int) := sp j 27 0 [(0, .mp 0 0), (5, .sl (flat tmCells v5) (List.length v5) (.st 0 3)), (8, .sl (flat tmCells p1) (List.length p1) .no), (9, ai (List.length p1 : Int)), (10, ai v10)]
def g228va7488L13984S0 (p1 : List Tm) (v10 : Int) (v5 : List Tm) (vb0_2 : Int) : LSt := ⟨[(0, .cells [.val (.pointer none), .val (.pointer none), ai vb0_2])], 1, [0], 1, []⟩
abbrev K166va39915 (q0 : Int) (p1 : Tm) (r : Tm × Int) (C : Cf) : Prop := C 166 [.cells [.val (.pointer none), .val (.pointer none), ai q0]] [.mp 0 0, tmA p1] (tmA r.1) [.cells [.val (.pointer none), .val (.pointer none), ai r.2]] 0
abbrev K228va7488 (q0 : Int) (p1 : List Tm) (r : List Tm × Int) (C : Cf) : Prop := C 228 [.cells [.val (.pointer none), .val (.pointer none), ai q0]] [.mp 0 0, .sl (flat tmCells p1) (List.length p1) .no] (.sl (flat tmCells r.1) (List.length r.1) .no) [.cells [.val (.pointer none), .val (.pointer none), ai r.2]] 0
theorem q166va39915 : Qf 166 Tryz.f166 := ⟨Tryz.func166, by kernel_rfl⟩
theorem k166va39915 {q0 p1 r} (h : K166va39915 q0 p1 r Ci) : K166va39915 q0 p1 r Ct := ⟨h, ⟨(lz rfl), ⟨tv, tv, ⟨tv, dT _⟩, tv⟩, tv⟩, (forall_cons ⟨tv, tv, tv, tv⟩ forall_nil), ⟨tv, tv, dT _, tv⟩, (forall_cons ⟨tv, tv, tv, tv⟩ forall_nil)⟩
theorem q228va7488 : Qf 228 Tryz.f228 := ⟨Tryz.func228, by kernel_rfl⟩
theorem k228va7488 {q0 p1 r} (h : K228va7488 q0 p1 r Ci) : K228va7488 q0 p1 r Ct := ⟨h, ⟨(lz rfl), ⟨tv, dT _⟩, tv⟩, (forall_cons ⟨tv, tv, tv, tv⟩ forall_nil), dT _, (forall_cons ⟨tv, tv, tv, tv⟩ forall_nil)⟩
theorem a166va39915_228va7488_228va7488L13984 : ∀ qq : Nat, (∀ q0 p1 r, e166va39915 qq q0 p1 = some r → K166va39915 q0 p1 r Ct) ∧ (∀ q0 p1 r, e228va7488 qq q0 p1 = some r → K228va7488 q0 p1 r Ct) ∧ (∀ p1 v10 v5 vb0_2 r, e228va7488L13984 qq p1 v10 v5 vb0_2 = some r → (∀ j, Dl Tryz.prog 1 (inn (inn (rgt (lft (rgt (rgt (bod Tryz.f228))))))) (g228va7488L13984E0 j p1 v10 v5 vb0_2) (g228va7488L13984S0 p1 v10 v5 vb0_2) (frameQ Tryz.prog 1 (FinQ Tryz.prog 1 Tryz.f228 (.sl (flat tmCells r.1) (List.length r.1) .no) [.cells [.val (.pointer none), .val (.pointer none), ai r.2]] 0) [.blk 0, .seq (rgt (rgt (rgt (bod Tryz.f228))))]))) := by
 intro qq
 induction qq with
 | zero =>
  exact ⟨fun _ _ _ h => nn h, fun _ _ _ h => nn h, fun _ _ _ _ _ h => nn h⟩
 | succ qq ih =>
  obtain ⟨ih166va39915, ih228va7488, ih228va7488L13984⟩ := ih
  refine ⟨?_, ?_, ?_⟩
  intro q0 p1 r h
  rw [e166va39915] at h
  obtain ⟨r1, h2, h⟩ := obind h
  have k := oC 3 [] (c79va17286 h2) o0
  rcases spl h with ⟨h3, h⟩ | ⟨h3, h⟩
  obtain rfl := sj h
  exact k166va39915 (tF q166va39915 2 [0] (oD (dT ([] : List Tm)) <| oB 3 h3 k))
  have k := oB 3 h3 k
  rcases spl h with ⟨h4, h⟩ | ⟨h4, h⟩
  obtain ⟨r5, h6, h⟩ := obind h
  obtain rfl := sj h
  exact k166va39915 (tF q166va39915 1 [0] (oD (dT r5.1) <| oC 2 [0] (ih228va7488 _ _ _ h6) <| oB 1 h4 k))
  have k := oB 1 h4 k
  rcases spl h with ⟨h7, h⟩ | ⟨h7, h⟩
  obtain ⟨r8, h9, h⟩ := obind h
  obtain rfl := sj h
  exact k166va39915 (tF q166va39915 1 [0] (oD (dT r8.1) <| oC 2 [0] (ih228va7488 _ _ _ h9) <| oB 0 h7 k))
  have k := oB 0 h7 k
  rcases spl h with ⟨h10, h⟩ | ⟨h10, h⟩
  obtain ⟨r11, h12, h⟩ := obind h
  obtain ⟨r13, h14, h⟩ := obind h
  obtain ⟨r15, h16, h⟩ := obind h
  obtain rfl := sj h
  exact k166va39915 (tF q166va39915 1 [0] (oD (dT r15.sub) <| oC 0 [] (c142 h16) <| oC 4 [0] (ih228va7488 _ _ _ h14) <| oC 1 [] (c158 h12) <| oB 0 h10 k))
  obtain rfl := sj h
  exact k166va39915 (tF q166va39915 2 [0] (oD (dT r1.1.sub) <| oB 0 h10 k))
  intro q0 p1 r h
  rw [e228va7488] at h
  exact k228va7488 (tH q228va7488 1 [(none, 5, 3)] [0] [0] [0, 5, 8, 9, 10] (oD (dT p1) <| oD (dT ([] : List Tm)) o0) (ih228va7488L13984 _ _ _ _ _ h))
  intro p1 v10 v5 vb0_2 r h
  rw [e228va7488L13984] at h
  rcases spl h with ⟨h1, h⟩ | ⟨h1, h⟩
  obtain ⟨x2, h3, h⟩ := obind h
  have k := oA 0 (ix23 (o := .no) h3) <| oB 0 h1 o0
  rcases spl h with ⟨h4, h⟩ | ⟨h4, h⟩
  obtain rfl := sj h
  exact fun j => lF 0 [0] (oD (dT ([] : List Tm)) <| oB 3 h4 k)
  obtain ⟨r5, h6, h⟩ := obind h
  obtain ⟨l7, h8, h⟩ := obind h
  exact fun j => lH 1 [] [0] [1] [0, 5, 8, 9, 10] (oD (dT p1) <| oD (dT l7) <| oP 0 (apS23 h8 (by simp)) <| oS 0 (obLitR tm_eq [r5.1]) <| oC 1 [0] (ih166va39915 _ _ _ h6) <| oB 3 h4 k) (ih228va7488L13984 _ _ _ _ _ h)
  obtain rfl := sj h
  exact fun j => lF 0 [0] (oD (dT v5) <| oB 0 h1 o0)
theorem c166va39915 {qq q0 p1 r} (h : e166va39915 qq q0 p1 = some r) : K166va39915 q0 p1 r Ct := (a166va39915_228va7488_228va7488L13984 _).1 _ _ _ h
def e85va17286 (qq : Nat) (p1 : Tm) : Option (Tm × Int) :=
 e166va39915 qq 0 p1 >>= fun r1 =>
 if r1.2 != 0 then
 some ((Tm.mk 0 0 []), r1.2)
 else
 e91 qq r1.1 >>= fun r4 =>
 if r4 then
 some (r1.1, 0)
 else
 some ((Tm.mk 0 0 []), 2)
abbrev K85va17286 (p1 : Tm) (r : Tm × Int) (C : Cf) : Prop := C 85 [] [.val (.pointer none), tmA p1, .val (.pointer none)] (.tup [tmA r.1, ai r.2]) [] 0
theorem q85va17286 : Qf 85 Tryz.f85 := ⟨Tryz.func85, by kernel_rfl⟩
theorem k85va17286 {p1 r} (h : K85va17286 p1 r Ci) : K85va17286 p1 r Ct := ⟨h, ⟨tv, ⟨tv, tv, ⟨tv, dT _⟩, tv⟩, tv, tv⟩, forall_nil, ⟨⟨tv, tv, dT _, tv⟩, tv, tv⟩, forall_nil⟩
theorem c85va17286 {qq p1 r} (h : e85va17286 qq p1 = some r) : K85va17286 p1 r Ct := by
 unfold e85va17286 at h
 obtain ⟨r1, h2, h⟩ := obind h
 have k := oC 1 [2] (c166va39915 h2) o0
 rcases spl h with ⟨h3, h⟩ | ⟨h3, h⟩
 obtain rfl := sj h
 exact k85va17286 (tF q85va17286 2 [] (oD (dT ([] : List Tm)) <| oB 2 h3 k))
 obtain ⟨r4, h5, h⟩ := obind h
 have k := oB 2 h3 k
 rcases spl h with ⟨h6, h⟩ | ⟨h6, h⟩
 obtain rfl := sj h
 exact k85va17286 (tF q85va17286 3 [] (oD (dT r1.1.sub) <| oK 1 [] h6 (c91 h5) k))
 obtain rfl := sj h
 exact k85va17286 (tF q85va17286 2 [] (oD (dT ([] : List Tm)) <| oK 1 [] h6 (c91 h5) k))
mutual
def e166va20868 : Nat → Int → Int → Int → Tm → Option (Tm × Int)
 | 0, _, _, _, _ => none
 | qq + 1, q0, q1, q2, p1 =>
 e79va53055 qq p1 q0 q1 >>= fun r1 =>
 if r1.2 != 0 then
 some ((Tm.mk 0 0 []), r1.2)
 else
 if r1.1.k == 4 then
 e228va60136 qq q0 q1 q2 r1.1.sub >>= fun r5 =>
 some ((Tm.mk r1.1.k 0 r5.1), r5.2)
 else
 if r1.1.k == 3 then
 e228va60136 qq q0 q1 q2 r1.1.sub >>= fun r8 =>
 some ((Tm.mk r1.1.k 0 r8.1), r8.2)
 else
 if r1.1.k == 5 then
 e158 qq r1.1 >>= fun r11 =>
 e228va60136 qq q0 q1 q2 r11.2 >>= fun r13 =>
 e142 qq r11.1 r13.1 >>= fun r15 =>
 some (r15, r13.2)
 else
 some (r1.1, q2)
def e228va60136 : Nat → Int → Int → Int → (List Tm) → Option (List Tm × Int)
 | 0, _, _, _, _ => none
 | qq + 1, q0, q1, q2, p1 =>
 e228va60136L13984 qq q0 q1 p1 0 [] q2
def e228va60136L13984 : Nat → Int → Int → (List Tm) → Int → (List Tm) → Int → Option (List Tm × Int)
 | 0, _, _, _, _, _, _ => none
 | qq + 1, q0, q1, p1, v10, v5, vb0_2 =>
 if decide (v10 < (List.length p1 : Int)) then
 gidx p1 v10 >>= fun x2 =>
 if vb0_2 != 0 then
 some ([], vb0_2)
 else
 e166va20868 qq q0 q1 vb0_2 x2 >>= fun r5 =>
 gapp 40 v5 [r5.1] >>= fun l7 =>
 e228va60136L13984 qq q0 q1 p1 (w64 (v10 + 1)) l7 r5.2
 else
 some (v5, vb0_2)
end
def g228va60136L13984E0 (j : Nat → Value) (q0 q1 : Int) (p1 : List Tm) (v10 : Int) (v5 : List Tm) (vb0_2 : Int) := sp j 27 0 [(0, .mp 0 0), (5, .sl (flat tmCells v5) (List.length v5) (.st 0 3)), (8, .sl (flat tmCells p1) (List.length p1) .no), (9, ai (List.length p1 : Int)), (10, ai v10)]
def g228va60136L13984S0 (q0 q1 : Int) (p1 : List Tm) (v10 : Int) (v5 : List Tm) (vb0_2 : Int) : LSt := ⟨[(0, .cells [.val (.pointer none), .mp 1 0, ai vb0_2]), (1, .cells [ai q0, ai q1])], 2, [0], 1, []⟩
abbrev K166va20868 (q0 q1 q2 : Int) (p1 : Tm) (r : Tm × Int) (C : Cf) : Prop := C 166 [.cells [.val (.pointer none), .mp 1 0, ai q2], .cells [ai q0, ai q1]] [.mp 0 0, tmA p1] (tmA r.1) [.cells [.val (.pointer none), .mp 1 0, ai r.2], .cells [ai q0, ai q1]] 0
abbrev K228va60136 (q0 q1 q2 : Int) (p1 : List Tm) (r : List Tm × Int) (C : Cf) : Prop := C 228 [.cells [.val (.pointer none), .mp 1 0, ai q2], .cells [ai q0, ai q1]] [.mp 0 0, .sl (flat tmCells p1) (List.length p1) .no] (.sl (flat tmCells r.1) (List.length r.1) .no) [.cells [.val (.pointer none), .mp 1 0, ai r.2], .cells [ai q0, ai q1]] 0
theorem q166va20868 : Qf 166 Tryz.f166 := ⟨Tryz.func166, by kernel_rfl⟩
theorem k166va20868 {q0 q1 q2 p1 r} (h : K166va20868 q0 q1 q2 p1 r Ci) : K166va20868 q0 q1 q2 p1 r Ct := ⟨h, ⟨(lz rfl), ⟨tv, tv, ⟨tv, dT _⟩, tv⟩, tv⟩, (forall_cons ⟨tv, (lz rfl), tv, tv⟩ (forall_cons ⟨tv, tv, tv⟩ forall_nil)), ⟨tv, tv, dT _, tv⟩, (forall_cons ⟨tv, (lz rfl), tv, tv⟩ (forall_cons ⟨tv, tv, tv⟩ forall_nil))⟩
theorem q228va60136 : Qf 228 Tryz.f228 := ⟨Tryz.func228, by kernel_rfl⟩
theorem k228va60136 {q0 q1 q2 p1 r} (h : K228va60136 q0 q1 q2 p1 r Ci) : K228va60136 q0 q1 q2 p1 r Ct := ⟨h, ⟨(lz rfl), ⟨tv, dT _⟩, tv⟩, (forall_cons ⟨tv, (lz rfl), tv, tv⟩ (forall_cons ⟨tv, tv, tv⟩ forall_nil)), dT _, (forall_cons ⟨tv, (lz rfl), tv, tv⟩ (forall_cons ⟨tv, tv, tv⟩ forall_nil))⟩
theorem a166va20868_228va60136_228va60136L13984 : ∀ qq : Nat, (∀ q0 q1 q2 p1 r, e166va20868 qq q0 q1 q2 p1 = some r → K166va20868 q0 q1 q2 p1 r Ct) ∧ (∀ q0 q1 q2 p1 r, e228va60136 qq q0 q1 q2 p1 = some r → K228va60136 q0 q1 q2 p1 r Ct) ∧ (∀ q0 q1 p1 v10 v5 vb0_2 r, e228va60136L13984 qq q0 q1 p1 v10 v5 vb0_2 = some r → (∀ j, Dl Tryz.prog 2 (inn (inn (rgt (lft (rgt (rgt (bod Tryz.f228))))))) (g228va60136L13984E0 j q0 q1 p1 v10 v5 vb0_2) (g228va60136L13984S0 q0 q1 p1 v10 v5 vb0_2) (frameQ Tryz.prog 2 (FinQ Tryz.prog 2 Tryz.f228 (.sl (flat tmCells r.1) (List.length r.1) .no) [.cells [.val (.pointer none), .mp 1 0, ai r.2], .cells [ai q0, ai q1]] 0) [.blk 0, .seq (rgt (rgt (rgt (bod Tryz.f228))))]))) := by
 intro qq
 induction qq with
 | zero =>
  exact ⟨fun _ _ _ _ _ h => nn h, fun _ _ _ _ _ h => nn h, fun _ _ _ _ _ _ _ h => nn h⟩
 | succ qq ih =>
  obtain ⟨ih166va20868, ih228va60136, ih228va60136L13984⟩ := ih
  refine ⟨?_, ?_, ?_⟩
  intro q0 q1 q2 p1 r h
  rw [e166va20868] at h
  obtain ⟨r1, h2, h⟩ := obind h
  have k := oC 3 [1] (c79va53055 h2) o0
  rcases spl h with ⟨h3, h⟩ | ⟨h3, h⟩
  obtain rfl := sj h
  exact k166va20868 (tF q166va20868 2 [0, 1] (oD (dT ([] : List Tm)) <| oB 3 h3 k))
  have k := oB 3 h3 k
  rcases spl h with ⟨h4, h⟩ | ⟨h4, h⟩
  obtain ⟨r5, h6, h⟩ := obind h
  obtain rfl := sj h
  exact k166va20868 (tF q166va20868 1 [0, 1] (oD (dT r5.1) <| oC 2 [0, 1] (ih228va60136 _ _ _ _ _ h6) <| oB 1 h4 k))
  have k := oB 1 h4 k
  rcases spl h with ⟨h7, h⟩ | ⟨h7, h⟩
  obtain ⟨r8, h9, h⟩ := obind h
  obtain rfl := sj h
  exact k166va20868 (tF q166va20868 1 [0, 1] (oD (dT r8.1) <| oC 2 [0, 1] (ih228va60136 _ _ _ _ _ h9) <| oB 0 h7 k))
  have k := oB 0 h7 k
  rcases spl h with ⟨h10, h⟩ | ⟨h10, h⟩
  obtain ⟨r11, h12, h⟩ := obind h
  obtain ⟨r13, h14, h⟩ := obind h
  obtain ⟨r15, h16, h⟩ := obind h
  obtain rfl := sj h
  exact k166va20868 (tF q166va20868 1 [0, 1] (oD (dT r15.sub) <| oC 0 [] (c142 h16) <| oC 4 [0, 1] (ih228va60136 _ _ _ _ _ h14) <| oC 1 [] (c158 h12) <| oB 0 h10 k))
  obtain rfl := sj h
  exact k166va20868 (tF q166va20868 2 [0, 1] (oD (dT r1.1.sub) <| oB 0 h10 k))
  intro q0 q1 q2 p1 r h
  rw [e228va60136] at h
  exact k228va60136 (tH q228va60136 1 [(none, 5, 3)] [0, 1] [0] [0, 5, 8, 9, 10] (oD (dT p1) <| oD (dT ([] : List Tm)) o0) (ih228va60136L13984 _ _ _ _ _ _ _ h))
  intro q0 q1 p1 v10 v5 vb0_2 r h
  rw [e228va60136L13984] at h
  rcases spl h with ⟨h1, h⟩ | ⟨h1, h⟩
  obtain ⟨x2, h3, h⟩ := obind h
  have k := oA 0 (ix23 (o := .no) h3) <| oB 0 h1 o0
  rcases spl h with ⟨h4, h⟩ | ⟨h4, h⟩
  obtain rfl := sj h
  exact fun j => lF 0 [0, 1] (oD (dT ([] : List Tm)) <| oB 3 h4 k)
  obtain ⟨r5, h6, h⟩ := obind h
  obtain ⟨l7, h8, h⟩ := obind h
  exact fun j => lH 1 [] [0, 1] [1] [0, 5, 8, 9, 10] (oD (dT p1) <| oD (dT l7) <| oP 0 (apS23 h8 (by simp)) <| oS 0 (obLitR tm_eq [r5.1]) <| oC 1 [0, 1] (ih166va20868 _ _ _ _ _ h6) <| oB 3 h4 k) (ih228va60136L13984 _ _ _ _ _ _ _ h)
  obtain rfl := sj h
  exact fun j => lF 0 [0, 1] (oD (dT v5) <| oB 0 h1 o0)
theorem c166va20868 {qq q0 q1 q2 p1 r} (h : e166va20868 qq q0 q1 q2 p1 = some r) : K166va20868 q0 q1 q2 p1 r Ct := (a166va20868_228va60136_228va60136L13984 _).1 _ _ _ _ _ h
def e85va53055 (qq : Nat) (p1 : Tm) (q1 q2 : Int) : Option (Tm × Int) :=
 e166va20868 qq q1 q2 0 p1 >>= fun r1 =>
 if r1.2 != 0 then
 some ((Tm.mk 0 0 []), r1.2)
 else
 e91 qq r1.1 >>= fun r4 =>
 if r4 then
 some (r1.1, 0)
 else
 some ((Tm.mk 0 0 []), 2)
abbrev K85va53055 (p1 : Tm) (q1 q2 : Int) (r : Tm × Int) (C : Cf) : Prop := C 85 [.cells [ai q1, ai q2]] [.val (.pointer none), tmA p1, .mp 0 0] (.tup [tmA r.1, ai r.2]) [.cells [ai q1, ai q2]] 0
theorem q85va53055 : Qf 85 Tryz.f85 := ⟨Tryz.func85, by kernel_rfl⟩
theorem k85va53055 {p1 q1 q2 r} (h : K85va53055 p1 q1 q2 r Ci) : K85va53055 p1 q1 q2 r Ct := ⟨h, ⟨tv, ⟨tv, tv, ⟨tv, dT _⟩, tv⟩, (lz rfl), tv⟩, (forall_cons ⟨tv, tv, tv⟩ forall_nil), ⟨⟨tv, tv, dT _, tv⟩, tv, tv⟩, (forall_cons ⟨tv, tv, tv⟩ forall_nil)⟩
theorem c85va53055 {qq p1 q1 q2 r} (h : e85va53055 qq p1 q1 q2 = some r) : K85va53055 p1 q1 q2 r Ct := by
 unfold e85va53055 at h
 obtain ⟨r1, h2, h⟩ := obind h
 have k := oC 1 [3, 0] (c166va20868 h2) o0
 rcases spl h with ⟨h3, h⟩ | ⟨h3, h⟩
 obtain rfl := sj h
 exact k85va53055 (tF q85va53055 2 [0] (oD (dT ([] : List Tm)) <| oB 2 h3 k))
 obtain ⟨r4, h5, h⟩ := obind h
 have k := oB 2 h3 k
 rcases spl h with ⟨h6, h⟩ | ⟨h6, h⟩
 obtain rfl := sj h
 exact k85va53055 (tF q85va53055 3 [0] (oD (dT r1.1.sub) <| oK 1 [] h6 (c91 h5) k))
 obtain rfl := sj h
 exact k85va53055 (tF q85va53055 2 [0] (oD (dT ([] : List Tm)) <| oK 1 [] h6 (c91 h5) k))
def e35 (qq : Nat) (p0 : List Ent) (p1 : Tm) (p2 : Int) : Option (Tm × Int × Int) :=
 e36 qq p0 >>= fun r1 =>
 match r1 with
 | Sum.inl y21 =>
  if y21 != 0 then
  some ((Tm.mk 0 0 []), 0, y21)
  else
  e47 qq p2 >>= fun r23 =>
  match r23 with
  | Sum.inl y32 =>
   if y32 != 0 then
   some ((Tm.mk 0 0 []), 0, y32)
   else
   e85va17286 qq p1 >>= fun r34 =>
   if r34.2 != 0 then
   some ((Tm.mk 0 0 []), 0, r34.2)
   else
   e52va47633 qq >>= fun r37 =>
   some (r34.1, r37, 0)
  | Sum.inr y25 =>
   if y25.1 != 0 then
   some ((Tm.mk 0 0 []), 0, y25.1)
   else
   e85va53055 qq p1 y25.2.1 y25.2.2 >>= fun r27 =>
   if r27.2 != 0 then
   some ((Tm.mk 0 0 []), 0, r27.2)
   else
   e52 qq y25.2.1 y25.2.2 >>= fun r30 =>
   some (r27.1, r30, 0)
 | Sum.inr y3 =>
  if y3.1 != 0 then
  some ((Tm.mk 0 0 []), 0, y3.1)
  else
  e47 qq p2 >>= fun r5 =>
  match r5 with
  | Sum.inl y14 =>
   if y14 != 0 then
   some ((Tm.mk 0 0 []), 0, y14)
   else
   e85va14437 qq y3.2.1 y3.2.2.2.2.1 y3.2.2.2.2.2 y3.2.2.1 y3.2.2.2.1 p1 >>= fun r16 =>
   if r16.2 != 0 then
   some ((Tm.mk 0 0 []), 0, r16.2)
   else
   e52va47633 qq >>= fun r19 =>
   some (r16.1, r19, 0)
  | Sum.inr y7 =>
   if y7.1 != 0 then
   some ((Tm.mk 0 0 []), 0, y7.1)
   else
   e85 qq (Mach.mk y3.2.1 y3.2.2.2.2.1 y3.2.2.2.2.2 y3.2.2.1 y3.2.2.2.1) p1 y7.2.1 y7.2.2 >>= fun r9 =>
   if r9.2.1 != 0 then
   some ((Tm.mk 0 0 []), 0, r9.2.1)
   else
   e52 qq r9.2.2.1 r9.2.2.2 >>= fun r12 =>
   some (r9.1, r12, 0)
abbrev K35 (p0 : List Ent) (p1 : Tm) (p2 : Int) (r : Tm × Int × Int) (C : Cf) : Prop := C 35 [] [.sl (flat entL p0) (List.length p0) .no, tmA p1, ai p2] (.tup [tmA r.1, ai r.2.1, ai r.2.2]) [] 0
theorem q35 : Qf 35 Tryz.f35 := ⟨Tryz.func35, by kernel_rfl⟩
theorem k35 {p0 p1 p2 r} (h : K35 p0 p1 p2 r Ci) : K35 p0 p1 p2 r Ct := ⟨h, ⟨⟨tv, dE _⟩, ⟨tv, tv, ⟨tv, dT _⟩, tv⟩, tv, tv⟩, forall_nil, ⟨⟨tv, tv, dT _, tv⟩, tv, tv, tv⟩, forall_nil⟩
theorem c35 {qq p0 p1 p2 r} (h : e35 qq p0 p1 p2 = some r) : K35 p0 p1 p2 r Ct := by
 unfold e35 at h
 obtain ⟨r1, h2, h⟩ := obind h
 rcases r1 with y21 | y3
 dsimp only at h
 have k := oC 0 [] (c36 h2) o0
 rcases spl h with ⟨h22, h⟩ | ⟨h22, h⟩
 obtain rfl := sj h
 exact k35 (tF q35 1 [] (oD (dT ([] : List Tm)) <| oB 2 h22 k))
 obtain ⟨r23, h24, h⟩ := obind h
 have k := oB 2 h22 k
 rcases r23 with y32 | y25
 dsimp only at h
 have k := oC 0 [] (c47 h24) k
 rcases spl h with ⟨h33, h⟩ | ⟨h33, h⟩
 obtain rfl := sj h
 exact k35 (tF q35 1 [] (oD (dT ([] : List Tm)) <| oB 2 h33 k))
 obtain ⟨r34, h35, h⟩ := obind h
 have k := oC 1 [] (c85va17286 h35) <| oB 2 h33 k
 rcases spl h with ⟨h36, h⟩ | ⟨h36, h⟩
 obtain rfl := sj h
 exact k35 (tF q35 1 [] (oD (dT ([] : List Tm)) <| oB 3 h36 k))
 obtain ⟨r37, h38, h⟩ := obind h
 obtain rfl := sj h
 exact k35 (tF q35 1 [] (oD (dT r34.1.sub) <| oC 1 [] (c52va47633 h38) <| oB 3 h36 k))
 dsimp only at h
 have k := oC 0 [] (c47 h24) k
 rcases spl h with ⟨h26, h⟩ | ⟨h26, h⟩
 obtain rfl := sj h
 exact k35 (tF q35 1 [] (oD (dT ([] : List Tm)) <| oB 2 h26 k))
 obtain ⟨r27, h28, h⟩ := obind h
 have k := oC 1 [2] (c85va53055 h28) <| oB 2 h26 k
 rcases spl h with ⟨h29, h⟩ | ⟨h29, h⟩
 obtain rfl := sj h
 exact k35 (tF q35 1 [] (oD (dT ([] : List Tm)) <| oB 3 h29 k))
 obtain ⟨r30, h31, h⟩ := obind h
 obtain rfl := sj h
 exact k35 (tF q35 1 [] (oD (dT r27.1.sub) <| oC 1 [2] (c52 h31) <| oB 3 h29 k))
 dsimp only at h
 have k := oC 0 [] (c36 h2) o0
 rcases spl h with ⟨h4, h⟩ | ⟨h4, h⟩
 obtain rfl := sj h
 exact k35 (tF q35 1 [] (oD (dT ([] : List Tm)) <| oB 2 h4 k))
 obtain ⟨r5, h6, h⟩ := obind h
 have k := oB 2 h4 k
 rcases r5 with y14 | y7
 dsimp only at h
 have k := oC 0 [] (c47 h6) k
 rcases spl h with ⟨h15, h⟩ | ⟨h15, h⟩
 obtain rfl := sj h
 exact k35 (tF q35 1 [] (oD (dT ([] : List Tm)) <| oB 2 h15 k))
 obtain ⟨r16, h17, h⟩ := obind h
 have k := oC 1 [2, 3] (c85va14437 h17) <| oB 2 h15 k
 rcases spl h with ⟨h18, h⟩ | ⟨h18, h⟩
 obtain rfl := sj h
 exact k35 (tF q35 1 [] (oD (dT ([] : List Tm)) <| oB 3 h18 k))
 obtain ⟨r19, h20, h⟩ := obind h
 obtain rfl := sj h
 exact k35 (tF q35 1 [] (oD (dT r16.1.sub) <| oC 1 [] (c52va47633 h20) <| oB 3 h18 k))
 dsimp only at h
 have k := oC 0 [] (c47 h6) k
 rcases spl h with ⟨h8, h⟩ | ⟨h8, h⟩
 obtain rfl := sj h
 exact k35 (tF q35 1 [] (oD (dT ([] : List Tm)) <| oB 2 h8 k))
 obtain ⟨r9, h10, h⟩ := obind h
 have k := oC 1 [2, 3, 4] (c85 h10) <| oB 2 h8 k
 rcases spl h with ⟨h11, h⟩ | ⟨h11, h⟩
 obtain rfl := sj h
 exact k35 (tF q35 1 [] (oD (dT ([] : List Tm)) <| oB 3 h11 k))
 obtain ⟨r12, h13, h⟩ := obind h
 obtain rfl := sj h
 exact k35 (tF q35 1 [] (oD (dT r9.1.sub) <| oC 1 [4] (c52 h13) <| oB 3 h11 k))
mutual
def e86 : Nat → Mach → Tm → Option (Bool)
 | 0, _, _ => none
 | qq + 1, M, p1 =>
 e47 qq 0 >>= fun r1 =>
 match r1 with
 | Sum.inl y11 =>
  e79va14437 qq M.l M.rl M.parts M.args M.own p1 >>= fun r12 =>
  if r12.2 != 0 then
  some false
  else
  if p1.k == 5 then
  e158 qq p1 >>= fun r16 =>
  e86L17342 qq M r16.2 (List.length r16.2 : Int) 0
  else
  if p1.k == 7 then
  some true
  else
  e86L17342 qq M p1.sub (List.length p1.sub : Int) 0
 | Sum.inr y3 =>
  e79 qq M p1 y3.2.1 y3.2.2 >>= fun r4 =>
  if r4.2.1 != 0 then
  some false
  else
  if p1.k == 5 then
  e158 qq p1 >>= fun r8 =>
  e86L17342 qq M r8.2 (List.length r8.2 : Int) 0
  else
  if p1.k == 7 then
  some true
  else
  e86L17342 qq M p1.sub (List.length p1.sub : Int) 0
def e86L17342 : Nat → Mach → (List Tm) → Int → Int → Option (Bool)
 | 0, _, _, _, _ => none
 | qq + 1, M, v38, v39, v40 =>
 if decide (v40 < v39) then
 gidx v38 v40 >>= fun x11 =>
 e86 qq M x11 >>= fun r13 =>
 if r13 then
 e86L17342 qq M v38 v39 (w64 (v40 + 1))
 else
 some false
 else
 some true
end
def g86L17342E0 (j : Nat → Value) (M : Mach) (v38 : List Tm) (v39 v40 : Int) := sp j 49 0 [(0, .mp 0 0), (38, .sl (flat tmCells v38) (List.length v38) .no), (39, ai v39), (40, ai v40)]
def g86L17342S0 (M : Mach) (v38 : List Tm) (v39 v40 : Int) : LSt := ⟨[(0, .cells [.sl (flat entL M.l) (List.length M.l) .no, .mp 1 0, .sl (flat intC M.args) (List.length M.args) .no, .sl (flat intC M.own) (List.length M.own) .no]), (1, .cells [.sl (flat entL M.rl) (List.length M.rl) .no, .sl (flat conL M.parts) (List.length M.parts) .no])], 2, [], 0, []⟩
abbrev K86 (M : Mach) (p1 : Tm) (r : Bool) (C : Cf) : Prop := C 86 [.cells [.sl (flat entL M.l) (List.length M.l) .no, .mp 1 0, .sl (flat intC M.args) (List.length M.args) .no, .sl (flat intC M.own) (List.length M.own) .no], .cells [.sl (flat entL M.rl) (List.length M.rl) .no, .sl (flat conL M.parts) (List.length M.parts) .no]] [.mp 0 0, tmA p1] (ab r) [.cells [.sl (flat entL M.l) (List.length M.l) .no, .mp 1 0, .sl (flat intC M.args) (List.length M.args) .no, .sl (flat intC M.own) (List.length M.own) .no], .cells [.sl (flat entL M.rl) (List.length M.rl) .no, .sl (flat conL M.parts) (List.length M.parts) .no]] 0
theorem q86 : Qf 86 Tryz.f86 := ⟨Tryz.func86, by kernel_rfl⟩
theorem k86 {M p1 r} (h : K86 M p1 r Ci) : K86 M p1 r Ct := ⟨h, ⟨(lz rfl), ⟨tv, tv, ⟨tv, dT _⟩, tv⟩, tv⟩, (forall_cons ⟨⟨tv, dE _⟩, (lz rfl), ⟨tv, dI _⟩, ⟨tv, dI _⟩, tv⟩ (forall_cons ⟨⟨tv, dE _⟩, ⟨tv, dC _⟩, tv⟩ forall_nil)), tv, (forall_cons ⟨dE _, (lz rfl), dI _, dI _, tv⟩ (forall_cons ⟨dE _, dC _, tv⟩ forall_nil))⟩
theorem a86_86L17342 : ∀ qq : Nat, (∀ M p1 r, e86 qq M p1 = some r → K86 M p1 r Ct) ∧ (∀ M v38 v39 v40 r, e86L17342 qq M v38 v39 v40 = some r → (∀ j, Dl Tryz.prog 2 (inn (inn (rgt (lft (rgt (rgt (rgt (rgt (rgt (bod Tryz.f86)))))))))) (g86L17342E0 j M v38 v39 v40) (g86L17342S0 M v38 v39 v40) (frameQ Tryz.prog 2 (FinQ Tryz.prog 2 Tryz.f86 (ab r) [.cells [.sl (flat entL M.l) (List.length M.l) .no, .mp 1 0, .sl (flat intC M.args) (List.length M.args) .no, .sl (flat intC M.own) (List.length M.own) .no], .cells [.sl (flat entL M.rl) (List.length M.rl) .no, .sl (flat conL M.parts) (List.length M.parts) .no]] 0) [.blk 1, .seq (rgt (rgt (rgt (rgt (rgt (rgt (bod Tryz.f86)))))))]))) := by
 intro qq
 induction qq with
 | zero =>
  exact ⟨fun _ _ _ h => nn h, fun _ _ _ _ _ h => nn h⟩
 | succ qq ih =>
  obtain ⟨ih86, ih86L17342⟩ := ih
  refine ⟨?_, ?_⟩
  intro M p1 r h
  rw [e86] at h
  obtain ⟨r1, h2, h⟩ := obind h
  rcases r1 with y11 | y3
  dsimp only at h
  obtain ⟨r12, h13, h⟩ := obind h
  have k := oC 3 [0, 1] (c79va14437 h13) <| oC 0 [] (c47 h2) o0
  rcases spl h with ⟨h14, h⟩ | ⟨h14, h⟩
  obtain rfl := sj h
  exact k86 (tF q86 0 [0, 1] (oD (dC M.parts) <| oD (dE M.rl) <| oD (dI M.own) <| oD (dI M.args) <| oD (dE M.l) <| oB 3 h14 k))
  have k := oB 3 h14 k
  rcases spl h with ⟨h15, h⟩ | ⟨h15, h⟩
  obtain ⟨r16, h17, h⟩ := obind h
  exact k86 (tH q86 3 [] [0, 1] [] [0, 38, 39, 40] (oD (dT r16.2) <| oD (dC M.parts) <| oD (dE M.rl) <| oD (dI M.own) <| oD (dI M.args) <| oD (dE M.l) <| oC 1 [] (c158 h17) <| oB 2 h15 k) (ih86L17342 _ _ _ _ _ h))
  have k := oB 2 h15 k
  rcases spl h with ⟨h18, h⟩ | ⟨h18, h⟩
  obtain rfl := sj h
  exact k86 (tF q86 0 [0, 1] (oD (dC M.parts) <| oD (dE M.rl) <| oD (dI M.own) <| oD (dI M.args) <| oD (dE M.l) <| oB 0 h18 k))
  exact k86 (tH q86 1 [] [0, 1] [] [0, 38, 39, 40] (oD (dT p1.sub) <| oD (dC M.parts) <| oD (dE M.rl) <| oD (dI M.own) <| oD (dI M.args) <| oD (dE M.l) <| oB 0 h18 k) (ih86L17342 _ _ _ _ _ h))
  dsimp only at h
  obtain ⟨r4, h5, h⟩ := obind h
  have k := oC 3 [0, 1, 3] (c79 h5) <| oC 0 [] (c47 h2) o0
  rcases spl h with ⟨h6, h⟩ | ⟨h6, h⟩
  obtain rfl := sj h
  exact k86 (tF q86 0 [0, 1] (oD (dC M.parts) <| oD (dE M.rl) <| oD (dI M.own) <| oD (dI M.args) <| oD (dE M.l) <| oB 3 h6 k))
  have k := oB 3 h6 k
  rcases spl h with ⟨h7, h⟩ | ⟨h7, h⟩
  obtain ⟨r8, h9, h⟩ := obind h
  exact k86 (tH q86 3 [] [0, 1] [] [0, 38, 39, 40] (oD (dT r8.2) <| oD (dC M.parts) <| oD (dE M.rl) <| oD (dI M.own) <| oD (dI M.args) <| oD (dE M.l) <| oC 1 [] (c158 h9) <| oB 2 h7 k) (ih86L17342 _ _ _ _ _ h))
  have k := oB 2 h7 k
  rcases spl h with ⟨h10, h⟩ | ⟨h10, h⟩
  obtain rfl := sj h
  exact k86 (tF q86 0 [0, 1] (oD (dC M.parts) <| oD (dE M.rl) <| oD (dI M.own) <| oD (dI M.args) <| oD (dE M.l) <| oB 0 h10 k))
  exact k86 (tH q86 1 [] [0, 1] [] [0, 38, 39, 40] (oD (dT p1.sub) <| oD (dC M.parts) <| oD (dE M.rl) <| oD (dI M.own) <| oD (dI M.args) <| oD (dE M.l) <| oB 0 h10 k) (ih86L17342 _ _ _ _ _ h))
  intro M v38 v39 v40 r h
  rw [e86L17342] at h
  rcases spl h with ⟨h10, h⟩ | ⟨h10, h⟩
  obtain ⟨x11, h12, h⟩ := obind h
  obtain ⟨r13, h14, h⟩ := obind h
  have k := oA 0 (ix23 (o := .no) h12) <| oB 0 h10 o0
  rcases spl h with ⟨h15, h⟩ | ⟨h15, h⟩
  exact fun j => lH 2 [] [0, 1] [] [0, 38, 39, 40] (oD (dT v38) <| oD (dC M.parts) <| oD (dE M.rl) <| oD (dI M.own) <| oD (dI M.args) <| oD (dE M.l) <| oK 3 [0, 1] h15 (ih86 _ _ _ h14) k) (ih86L17342 _ _ _ _ _ h)
  obtain rfl := sj h
  exact fun j => lF 1 [0, 1] (oD (dC M.parts) <| oD (dE M.rl) <| oD (dI M.own) <| oD (dI M.args) <| oD (dE M.l) <| oK 3 [0, 1] h15 (ih86 _ _ _ h14) k)
  obtain rfl := sj h
  exact fun j => lF 0 [0, 1] (oD (dC M.parts) <| oD (dE M.rl) <| oD (dI M.own) <| oD (dI M.args) <| oD (dE M.l) <| oB 0 h10 o0)
theorem c86 {qq M p1 r} (h : e86 qq M p1 = some r) : K86 M p1 r Ct := (a86_86L17342 _).1 _ _ _ h
def QNm (l : List Ent) (t : Tm) (R : Int → Int → Tm × Int × Int × Int) (k : Int) : Prop :=
  (∃ x, Nm l t x k ∧ shapedT x = true ∧ R = fun L U => (x, 0, L, U)) ∨ (∃ e, e ≠ 0 ∧ e ≠ 8 ∧ (∀ x k, Nm l t x k → shapedT x = false) ∧ R = fun L U => (zT, e, L, U))
theorem out_Norm {N : ByteArray → Bool} (l : List Ent) (hE : AllE N l) (he : ∀ e ∈ l, EOk e) (t : Tm) (ht : t.Ok) (f : Int) (hf : 0 ≤ f) : Ou (fun L U q => e85 q (machT l) t L U) er4 (QNm l t) (∀ x k, Nm l t x k → f < k) f := by
  simp only [e85]
  have hN := out_norm l hE he f.toNat t.nodes t ht (Nat.le_refl _)
  rw [show ((f.toNat : Nat) : Int) = f by omega] at hN
  refine Ou.bind hN id (fun r hr => ⟨_, Evt.ifT (by show (r.2.1 != 0) = true; rw [show r.2.1 = 8 from hr]; decide) Evt.ret, hr⟩) ?_
  rintro R k k0 k1 ⟨x, e, hx, h8, h0, hn, rfl⟩
  dsimp only
  by_cases e0 : e = 0
  · subst e0
    have hN := h0 rfl
    refine Ou.ifF rfl (Ou.evt (ev_Shaped x hx) ?_)
    by_cases hs : shapedT x = true
    · exact Ou.ifT hs (Ou.ret (by omega) (.inl ⟨x, by rwa [Int.add_zero], hs, rfl⟩))
    · exact Ou.ifF (by simpa using hs) (Ou.ret (by omega) (.inr ⟨2, by decide, by decide, fun x' k' h' => by rw [(hN.det h').1]; simpa using hs, rfl⟩))
  · exact Ou.ifT (by simpa using e0) (Ou.ret (by omega) (.inr ⟨e, e0, h8, fun x k h => absurd h (hn e0 x k), rfl⟩))
theorem of_is {N : ByteArray → Bool} (l : List Ent) (hn : Evt (fun q => e36 q l) (newT l true)) (hE : AllE N l) (he : ∀ e ∈ l, EOk e) (t : Tm) (ho : t.Ok) (f : Int) (h0 : 0 ≤ f) (h1 : f ≤ 1048576) :
    (∃ x k, Nm l t x k ∧ shapedT x = true ∧ 0 ≤ k ∧ k ≤ f ∧ Evt (fun q => e35 q l t f) (x, k, 0)) ∨ (∃ r, Evt (fun q => e35 q l t f) r ∧ r.2.2 ≠ 0 ∧ ∀ x k, Nm l t x k → shapedT x = true → f < k) := by
  have run : ∀ r, Evt (fun q => e85 q (machT l) t f 0) r → Evt (fun q => e35 q l t f) (if r.2.1 ≠ 0 then (Tm.mk 0 0 [], 0, r.2.1) else (r.1, r.2.2.2, 0)) := fun r h => by
    simp only [e35]
    refine hn.bind (Evt.ifF (by simp) ((ev_mNew f h0 h1).bind (Evt.ifF (by simp) (Evt.bind (a := r) h ?_))))
    by_cases e : r.2.1 ≠ 0
    · rw [if_pos e]; exact Evt.ifT (by simpa using e) Evt.ret
    · rw [if_neg e]
      refine Evt.ifF (by simpa using e) (Evt.bind (a := r.2.2.2) (Evt.mk fun q => ?_) Evt.ret)
      simp only [e52, e114va35861]; rfl
  rcases out_Norm l hE he t ho f h0 with ⟨R, k, k0, k1, ⟨x, hN, hs, rfl⟩ | ⟨e, e0, -, hno, rfl⟩, h3, -⟩ | ⟨h, hS⟩
  · left
    have := run _ (h3 f 0 k1 (by omega) (by omega))
    refine ⟨x, k, hN, hs, k0, k1, this.eq ?_⟩
    rw [if_neg (by simp)]
    show (x, 0 + k, 0) = _
    rw [Int.zero_add]
  · right
    refine ⟨_, run _ (h3 f 0 k1 (by omega) (by omega)), ?_, fun x k h hs => ?_⟩
    · rw [if_pos (by show e ≠ 0; exact e0)]; exact e0
    · rw [hno x k h] at hs; cases hs
  · right
    obtain ⟨r, h5, h6⟩ := h 0 (by omega) (by omega)
    have h6' : r.2.1 = 8 := h6
    refine ⟨_, run r h5, ?_, fun x k h _ => hS x k h⟩
    rw [if_pos (by omega)]; show r.2.1 ≠ 0; omega
theorem of_unf (l : List Ent) (hn : Evt (fun q => e36 q l) (newT l false)) (t : Tm) (f : Int) : Evt (fun q => e35 q l t f) (zT, 0, 5) := by
  simp only [e35]
  exact hn.bind (Evt.ifT (by decide) Evt.ret)
theorem ev_stillL (l : List Ent) (ts : List Tm) (hl : ts.length ≤ 1073741824) : ∀ (r : List Tm) (v : Nat), ts.drop v = r → (∀ p ∈ r, Evt (fun q => e86 q (machT l) p) true) → Evt (fun q => e86L17342 q (machT l) ts (ts.length : Int) (v : Int)) true
  | [], v, hd, hp => by
    refine Evt.succ ?_
    simp only [e86L17342]
    exact Evt.ifF (drop_nil hd) Evt.ret
  | t :: r, v, hd, hp => by
    have hlt := drop_lt hd
    refine Evt.succ ?_
    simp only [e86L17342]
    refine Evt.ifT (drop_dec hd) (Evt.pure (drop_idx hd) ((hp t (by simp)).bind (Evt.ifT rfl ?_)))
    rw [w64_nat v (by omega)]
    exact ev_stillL l ts hl r (v + 1) (drop_next hd) fun p h => hp p (by simp [h])
theorem ev_still {N : ByteArray → Bool} (l : List Ent) (hE : AllE N l) (he : ∀ e ∈ l, EOk e) : ∀ (n : Nat) (t : Tm), NmN l n t t 0 → Evt (fun q => e86 q (machT l) t) true
  | 0, t, h => h.elim
  | n + 1, t, ⟨hR, y, k1, ps, k2, a, b, c, d⟩ => by
    have hs := hR.shaped
    have hg := (shapedT_spec hs).2.2
    have n1 := a.nn
    have n2 := AllP.nn (fun _ _ _ h => NmN.nn h) b
    have hz : k1 = 0 := by omega
    subst hz
    have hy := a.zero rfl (Int.le_refl 0)
    subst hy
    obtain ⟨e1, -, -⟩ := reN_parts hs b.len
    rw [← c] at e1
    have hp : ∀ p ∈ partsN y, Evt (fun q => e86 q (machT l) p) true := fun p hp => by
      obtain ⟨i, hi, rfl⟩ := List.getElem_of_mem hp
      obtain ⟨ki, hki⟩ := b.at i hi (by rw [b.len]; exact hi)
      have e2 : ps[i]'(by rw [b.len]; exact hi) = (partsN y)[i] := by simp only [e1]
      rw [e2] at hki
      exact ev_still l hE he n _ (NmN.again hE hki (partsN_shaped hs hp))
    refine Evt.succ ?_
    simp only [e86]
    refine (ev_mNew 0 (by omega) (by omega)).bind ?_
    obtain ⟨R, k, k0, k1, hQ, h3, -⟩ := (out_Bring l hE he y (shaped_ok hs) 0 (by omega)).good (fun h => by have := h.2 _ _ _ a; omega)
    have hB : Evt (fun q => e79 q (machT l) y 0 0) (y, 0, 0 - k, 0 + k) := by
      have := h3 0 0 k1 (by omega) (by omega)
      rcases hQ with ⟨hR', -, -⟩ | ⟨-, z, e, hbr, rfl⟩
      · exact absurd hR hR'
      · obtain ⟨rfl, rfl, -⟩ := a.det hbr
        rwa [if_pos rfl] at this
    refine Evt.bind hB (Evt.ifF rfl (Evt.iff (fun h5 => ?_) fun h5 => Evt.iff (fun _ => Evt.ret) fun h7 => ?_))
    · have h5' : y.k = 5 := by simpa using h5
      have hpy : partsN y = arT y := by unfold partsN; rw [if_neg (by omega), if_pos h5']
      have := ar_len y hg
      have := (shapedT_spec hs).1
      rw [hpy] at hp
      exact (ev_Spine y hs).bind (ev_stillL l (arT y) (by omega) (arT y) 0 rfl hp)
    · have h5' : y.k ≠ 5 := by simpa using h5
      have h7' : y.k ≠ 7 := by simpa using h7
      have hsub : y.sub = partsN y := by
        unfold partsN
        by_cases h34 : y.k = 3 ∨ y.k = 4
        · rw [if_pos h34]
        · rw [if_neg h34, if_neg h5']
          have key : ∀ z : Tm, goodT z = true → ¬ (z.k = 3 ∨ z.k = 4) → z.k ≠ 5 → z.k ≠ 7 → z.sub = [] := fun z hz g1 g2 g3 => by
            obtain ⟨k, n, ls⟩ := z
            have hh := head_spec (goodT_mk hz).1
            exact hh.2.2.2.2.2.2.2.1 (by have := hh.1; have := hh.2.1; clear hh; omega)
          exact key y hg h34 h5' h7'
      have hl2 : y.sub.length ≤ 1073741824 := by
        obtain ⟨k, n, ls⟩ := y
        have := (head_n (goodT_mk hg).1).2.2.2.2
        show ls.length ≤ _
        omega
      exact ev_stillL l y.sub hl2 y.sub 0 rfl (by rw [hsub]; exact hp)
def e33 (qq : Nat) (p0 : List Ent) (p1 : Tm) (p2 : Int) : Option (Bool) :=
 if decide ((List.length p0 : Int) ≤ 60) then
 if decide (p2 ≤ 400) then
 e77 qq p1 >>= fun r3 =>
 some (decide (r3 ≤ 400))
 else
 some false
 else
 some false
abbrev K33 (p0 : List Ent) (p1 : Tm) (p2 : Int) (r : Bool) (C : Cf) : Prop := C 33 [] [.sl (flat entL p0) (List.length p0) .no, tmA p1, ai p2] (ab r) [] 0
theorem q33 : Qf 33 Tryz.f33 := ⟨Tryz.func33, by kernel_rfl⟩
theorem k33 {p0 p1 p2 r} (h : K33 p0 p1 p2 r Ci) : K33 p0 p1 p2 r Ct := ⟨h, ⟨⟨tv, dE _⟩, ⟨tv, tv, ⟨tv, dT _⟩, tv⟩, tv, tv⟩, forall_nil, tv, forall_nil⟩
theorem c33 {qq p0 p1 p2 r} (h : e33 qq p0 p1 p2 = some r) : K33 p0 p1 p2 r Ct := by
 unfold e33 at h
 rcases spl h with ⟨h1, h⟩ | ⟨h1, h⟩
 have k := oB 1 h1 o0
 rcases spl h with ⟨h2, h⟩ | ⟨h2, h⟩
 obtain ⟨r3, h4, h⟩ := obind h
 obtain rfl := sj h
 exact k33 (tF q33 1 [] (oC 1 [] (c77 h4) <| oB 0 h2 k))
 obtain rfl := sj h
 exact k33 (tF q33 0 [] (oB 0 h2 k))
 obtain rfl := sj h
 exact k33 (tF q33 0 [] (oB 1 h1 o0))
def e34 (qq : Nat)  : Option (Bool) :=
 e78 qq 4 (Tm.mk 2 2 []) (Tm.mk 1 0 []) >>= fun r1 =>
 e78 qq 5 r1 (Tm.mk 2 2 []) >>= fun r3 =>
 e78 qq 4 (Tm.mk 2 2 []) r3 >>= fun r5 =>
 e35 qq [] r5 5 >>= fun r7 =>
 if r7.2.2 == 0 then
 if r7.2.1 == 1 then
 e78 qq 4 (Tm.mk 2 2 []) (Tm.mk 2 2 []) >>= fun r11 =>
 e25 qq r7.1 r11 >>= fun r13 =>
 some r13
 else
 some false
 else
 some false
abbrev K34 (r : Bool) (C : Cf) : Prop := C 34 [] [] (ab r) [] 0
theorem q34 : Qf 34 Tryz.f34 := ⟨Tryz.func34, by kernel_rfl⟩
theorem k34 {r} (h : K34 r Ci) : K34 r Ct := ⟨h, tv, forall_nil, tv, forall_nil⟩
theorem c34 {qq r} (h : e34 qq  = some r) : K34 r Ct := by
 unfold e34 at h
 obtain ⟨r1, h2, h⟩ := obind h
 obtain ⟨r3, h4, h⟩ := obind h
 obtain ⟨r5, h6, h⟩ := obind h
 obtain ⟨r7, h8, h⟩ := obind h
 have k := oC 0 [] (c35 h8) <| oC 0 [] (c78 h6) <| oC 1 [] (c78 h4) <| oC 3 [] (c78 h2) o0
 rcases spl h with ⟨h9, h⟩ | ⟨h9, h⟩
 have k := oB 4 h9 k
 rcases spl h with ⟨h10, h⟩ | ⟨h10, h⟩
 obtain ⟨r11, h12, h⟩ := obind h
 obtain ⟨r13, h14, h⟩ := obind h
 obtain rfl := sj h
 exact k34 (tF q34 0 [] (oC 0 [] (c25 h14) <| oC 3 [] (c78 h12) <| oB 0 h10 k))
 obtain rfl := sj h
 exact k34 (tF q34 0 [] (oB 0 h10 k))
 obtain rfl := sj h
 exact k34 (tF q34 0 [] (oB 4 h9 k))
def e37 (qq : Nat) (M : Mach) (p1 : Tm) : Option (Bool) :=
 e86 qq M p1 >>= fun r1 =>
 some r1
abbrev K37 (M : Mach) (p1 : Tm) (r : Bool) (C : Cf) : Prop := C 37 [.cells [.sl (flat entL M.l) (List.length M.l) .no, .mp 1 0, .sl (flat intC M.args) (List.length M.args) .no, .sl (flat intC M.own) (List.length M.own) .no], .cells [.sl (flat entL M.rl) (List.length M.rl) .no, .sl (flat conL M.parts) (List.length M.parts) .no]] [.mp 0 0, tmA p1] (ab r) [.cells [.sl (flat entL M.l) (List.length M.l) .no, .mp 1 0, .sl (flat intC M.args) (List.length M.args) .no, .sl (flat intC M.own) (List.length M.own) .no], .cells [.sl (flat entL M.rl) (List.length M.rl) .no, .sl (flat conL M.parts) (List.length M.parts) .no]] 0
theorem q37 : Qf 37 Tryz.f37 := ⟨Tryz.func37, by kernel_rfl⟩
theorem k37 {M p1 r} (h : K37 M p1 r Ci) : K37 M p1 r Ct := ⟨h, ⟨(lz rfl), ⟨tv, tv, ⟨tv, dT _⟩, tv⟩, tv⟩, (forall_cons ⟨⟨tv, dE _⟩, (lz rfl), ⟨tv, dI _⟩, ⟨tv, dI _⟩, tv⟩ (forall_cons ⟨⟨tv, dE _⟩, ⟨tv, dC _⟩, tv⟩ forall_nil)), tv, (forall_cons ⟨dE _, (lz rfl), dI _, dI _, tv⟩ (forall_cons ⟨dE _, dC _, tv⟩ forall_nil))⟩
theorem c37 {qq M p1 r} (h : e37 qq M p1 = some r) : K37 M p1 r Ct := by
 unfold e37 at h
 obtain ⟨r1, h2, h⟩ := obind h
 obtain rfl := sj h
 exact k37 (tF q37 0 [0, 1] (oD (dC M.parts) <| oD (dE M.rl) <| oD (dI M.own) <| oD (dI M.args) <| oD (dE M.l) <| oC 1 [0, 1] (c86 h2) o0))
mutual
def e86va20783 : Nat → Tm → Option (Bool)
 | 0, _ => none
 | qq + 1, p1 =>
 e47 qq 0 >>= fun r1 =>
 match r1 with
 | Sum.inl y11 =>
  e79va17286 qq p1 >>= fun r12 =>
  if r12.2 != 0 then
  some false
  else
  if p1.k == 5 then
  e158 qq p1 >>= fun r16 =>
  e86va20783L17342 qq r16.2 (List.length r16.2 : Int) 0
  else
  if p1.k == 7 then
  some true
  else
  e86va20783L17342 qq p1.sub (List.length p1.sub : Int) 0
 | Sum.inr y3 =>
  e79va53055 qq p1 y3.2.1 y3.2.2 >>= fun r4 =>
  if r4.2 != 0 then
  some false
  else
  if p1.k == 5 then
  e158 qq p1 >>= fun r8 =>
  e86va20783L17342 qq r8.2 (List.length r8.2 : Int) 0
  else
  if p1.k == 7 then
  some true
  else
  e86va20783L17342 qq p1.sub (List.length p1.sub : Int) 0
def e86va20783L17342 : Nat → (List Tm) → Int → Int → Option (Bool)
 | 0, _, _, _ => none
 | qq + 1, v38, v39, v40 =>
 if decide (v40 < v39) then
 gidx v38 v40 >>= fun x11 =>
 e86va20783 qq x11 >>= fun r13 =>
 if r13 then
 e86va20783L17342 qq v38 v39 (w64 (v40 + 1))
 else
 some false
 else
 some true
end
def g86va20783L17342E0 (j : Nat → Value) (v38 : List Tm) (v39 v40 : Int) := sp j 49 0 [(0, .val (.pointer none)), (38, .sl (flat tmCells v38) (List.length v38) .no), (39, ai v39), (40, ai v40)]
def g86va20783L17342S0 (v38 : List Tm) (v39 v40 : Int) : LSt := ⟨[], 0, [], 0, []⟩
abbrev K86va20783 (p1 : Tm) (r : Bool) (C : Cf) : Prop := C 86 [] [.val (.pointer none), tmA p1] (ab r) [] 0
theorem q86va20783 : Qf 86 Tryz.f86 := ⟨Tryz.func86, by kernel_rfl⟩
theorem k86va20783 {p1 r} (h : K86va20783 p1 r Ci) : K86va20783 p1 r Ct := ⟨h, ⟨tv, ⟨tv, tv, ⟨tv, dT _⟩, tv⟩, tv⟩, forall_nil, tv, forall_nil⟩
theorem a86va20783_86va20783L17342 : ∀ qq : Nat, (∀ p1 r, e86va20783 qq p1 = some r → K86va20783 p1 r Ct) ∧ (∀ v38 v39 v40 r, e86va20783L17342 qq v38 v39 v40 = some r → (∀ j, Dl Tryz.prog 0 (inn (inn (rgt (lft (rgt (rgt (rgt (rgt (rgt (bod Tryz.f86)))))))))) (g86va20783L17342E0 j v38 v39 v40) (g86va20783L17342S0 v38 v39 v40) (frameQ Tryz.prog 0 (FinQ Tryz.prog 0 Tryz.f86 (ab r) [] 0) [.blk 1, .seq (rgt (rgt (rgt (rgt (rgt (rgt (bod Tryz.f86)))))))]))) := by
 intro qq
 induction qq with
 | zero =>
  exact ⟨fun _ _ h => nn h, fun _ _ _ _ h => nn h⟩
 | succ qq ih =>
  obtain ⟨ih86va20783, ih86va20783L17342⟩ := ih
  refine ⟨?_, ?_⟩
  intro p1 r h
  rw [e86va20783] at h
  obtain ⟨r1, h2, h⟩ := obind h
  rcases r1 with y11 | y3
  dsimp only at h
  obtain ⟨r12, h13, h⟩ := obind h
  have k := oC 3 [] (c79va17286 h13) <| oC 0 [] (c47 h2) o0
  rcases spl h with ⟨h14, h⟩ | ⟨h14, h⟩
  obtain rfl := sj h
  exact k86va20783 (tF q86va20783 0 [] (oB 3 h14 k))
  have k := oB 3 h14 k
  rcases spl h with ⟨h15, h⟩ | ⟨h15, h⟩
  obtain ⟨r16, h17, h⟩ := obind h
  exact k86va20783 (tH q86va20783 3 [] [] [] [0, 38, 39, 40] (oD (dT r16.2) <| oC 1 [] (c158 h17) <| oB 2 h15 k) (ih86va20783L17342 _ _ _ _ h))
  have k := oB 2 h15 k
  rcases spl h with ⟨h18, h⟩ | ⟨h18, h⟩
  obtain rfl := sj h
  exact k86va20783 (tF q86va20783 0 [] (oB 0 h18 k))
  exact k86va20783 (tH q86va20783 1 [] [] [] [0, 38, 39, 40] (oD (dT p1.sub) <| oB 0 h18 k) (ih86va20783L17342 _ _ _ _ h))
  dsimp only at h
  obtain ⟨r4, h5, h⟩ := obind h
  have k := oC 3 [1] (c79va53055 h5) <| oC 0 [] (c47 h2) o0
  rcases spl h with ⟨h6, h⟩ | ⟨h6, h⟩
  obtain rfl := sj h
  exact k86va20783 (tF q86va20783 0 [] (oB 3 h6 k))
  have k := oB 3 h6 k
  rcases spl h with ⟨h7, h⟩ | ⟨h7, h⟩
  obtain ⟨r8, h9, h⟩ := obind h
  exact k86va20783 (tH q86va20783 3 [] [] [] [0, 38, 39, 40] (oD (dT r8.2) <| oC 1 [] (c158 h9) <| oB 2 h7 k) (ih86va20783L17342 _ _ _ _ h))
  have k := oB 2 h7 k
  rcases spl h with ⟨h10, h⟩ | ⟨h10, h⟩
  obtain rfl := sj h
  exact k86va20783 (tF q86va20783 0 [] (oB 0 h10 k))
  exact k86va20783 (tH q86va20783 1 [] [] [] [0, 38, 39, 40] (oD (dT p1.sub) <| oB 0 h10 k) (ih86va20783L17342 _ _ _ _ h))
  intro v38 v39 v40 r h
  rw [e86va20783L17342] at h
  rcases spl h with ⟨h10, h⟩ | ⟨h10, h⟩
  obtain ⟨x11, h12, h⟩ := obind h
  obtain ⟨r13, h14, h⟩ := obind h
  have k := oA 0 (ix23 (o := .no) h12) <| oB 0 h10 o0
  rcases spl h with ⟨h15, h⟩ | ⟨h15, h⟩
  exact fun j => lH 2 [] [] [] [0, 38, 39, 40] (oD (dT v38) <| oK 3 [] h15 (ih86va20783 _ _ h14) k) (ih86va20783L17342 _ _ _ _ h)
  obtain rfl := sj h
  exact fun j => lF 1 [] (oK 3 [] h15 (ih86va20783 _ _ h14) k)
  obtain rfl := sj h
  exact fun j => lF 0 [] (oB 0 h10 o0)
theorem c86va20783 {qq p1 r} (h : e86va20783 qq p1 = some r) : K86va20783 p1 r Ct := (a86va20783_86va20783L17342 _).1 _ _ h
def e37va20783 (qq : Nat) (p1 : Tm) : Option (Bool) :=
 e86va20783 qq p1 >>= fun r1 =>
 some r1
abbrev K37va20783 (p1 : Tm) (r : Bool) (C : Cf) : Prop := C 37 [] [.val (.pointer none), tmA p1] (ab r) [] 0
theorem q37va20783 : Qf 37 Tryz.f37 := ⟨Tryz.func37, by kernel_rfl⟩
theorem k37va20783 {p1 r} (h : K37va20783 p1 r Ci) : K37va20783 p1 r Ct := ⟨h, ⟨tv, ⟨tv, tv, ⟨tv, dT _⟩, tv⟩, tv⟩, forall_nil, tv, forall_nil⟩
theorem c37va20783 {qq p1 r} (h : e37va20783 qq p1 = some r) : K37va20783 p1 r Ct := by
 unfold e37va20783 at h
 obtain ⟨r1, h2, h⟩ := obind h
 obtain rfl := sj h
 exact k37va20783 (tF q37va20783 0 [] (oC 1 [] (c86va20783 h2) o0))
def e7 (qq : Nat) (p0 : List Ent) (p1 : Tm) : Option (Bool) :=
 e33 qq p0 p1 0 >>= fun r1 =>
 if r1 then
 e35 qq p0 p1 300 >>= fun r4 =>
 if r4.2.2 != 0 then
 e34 qq >>= fun r7 =>
 some r7
 else
 e36 qq p0 >>= fun r9 =>
 match r9 with
 | Sum.inl y25 =>
  e35 qq p0 r4.1 0 >>= fun r26 =>
  if y25 == 0 then
  if r26.2.2 == 0 then
  if r26.2.1 == 0 then
  e25 qq r4.1 r26.1 >>= fun r31 =>
  if r31 then
  e37va20783 qq r4.1 >>= fun r34 =>
  if r34 then
  e34 qq >>= fun r37 =>
  some r37
  else
  some false
  else
  some false
  else
  some false
  else
  some false
  else
  some false
 | Sum.inr y11 =>
  e35 qq p0 r4.1 0 >>= fun r12 =>
  if y11.1 == 0 then
  if r12.2.2 == 0 then
  if r12.2.1 == 0 then
  e25 qq r4.1 r12.1 >>= fun r17 =>
  if r17 then
  e37 qq (Mach.mk y11.2.1 y11.2.2.2.2.1 y11.2.2.2.2.2 y11.2.2.1 y11.2.2.2.1) r4.1 >>= fun r20 =>
  if r20 then
  e34 qq >>= fun r23 =>
  some r23
  else
  some false
  else
  some false
  else
  some false
  else
  some false
  else
  some false
 else
 e34 qq >>= fun r39 =>
 some r39
abbrev K7 (p0 : List Ent) (p1 : Tm) (r : Bool) (C : Cf) : Prop := C 7 [] [.sl (flat entL p0) (List.length p0) .no, tmA p1] (ab r) [] 0
theorem q7 : Qf 7 Tryz.f7 := ⟨Tryz.func7, by kernel_rfl⟩
theorem k7 {p0 p1 r} (h : K7 p0 p1 r Ci) : K7 p0 p1 r Ct := ⟨h, ⟨⟨tv, dE _⟩, ⟨tv, tv, ⟨tv, dT _⟩, tv⟩, tv⟩, forall_nil, tv, forall_nil⟩
theorem c7 {qq p0 p1 r} (h : e7 qq p0 p1 = some r) : K7 p0 p1 r Ct := by
 unfold e7 at h
 obtain ⟨r1, h2, h⟩ := obind h
 rcases spl h with ⟨h3, h⟩ | ⟨h3, h⟩
 obtain ⟨r4, h5, h⟩ := obind h
 have k := oC 2 [] (c35 h5) <| oK 1 [] h3 (c33 h2) o0
 rcases spl h with ⟨h6, h⟩ | ⟨h6, h⟩
 obtain ⟨r7, h8, h⟩ := obind h
 obtain rfl := sj h
 exact k7 (tF q7 0 [] (oC 0 [] (c34 h8) <| oB 4 h6 k))
 obtain ⟨r9, h10, h⟩ := obind h
 have k := oB 4 h6 k
 rcases r9 with y25 | y11
 dsimp only at h
 obtain ⟨r26, h27, h⟩ := obind h
 have k := oC 3 [] (c35 h27) <| oC 0 [] (c36 h10) k
 rcases spl h with ⟨h28, h⟩ | ⟨h28, h⟩
 have k := oB 4 h28 k
 rcases spl h with ⟨h29, h⟩ | ⟨h29, h⟩
 have k := oB 0 h29 k
 rcases spl h with ⟨h30, h⟩ | ⟨h30, h⟩
 obtain ⟨r31, h32, h⟩ := obind h
 have k := oB 0 h30 k
 rcases spl h with ⟨h33, h⟩ | ⟨h33, h⟩
 obtain ⟨r34, h35, h⟩ := obind h
 have k := oK 2 [] h33 (c25 h32) k
 rcases spl h with ⟨h36, h⟩ | ⟨h36, h⟩
 obtain ⟨r37, h38, h⟩ := obind h
 obtain rfl := sj h
 exact k7 (tF q7 0 [] (oC 0 [] (c34 h38) <| oK 1 [] h36 (c37va20783 h35) k))
 obtain rfl := sj h
 exact k7 (tF q7 0 [] (oK 1 [] h36 (c37va20783 h35) k))
 obtain rfl := sj h
 exact k7 (tF q7 0 [] (oK 2 [] h33 (c25 h32) k))
 obtain rfl := sj h
 exact k7 (tF q7 0 [] (oB 0 h30 k))
 obtain rfl := sj h
 exact k7 (tF q7 0 [] (oB 0 h29 k))
 obtain rfl := sj h
 exact k7 (tF q7 0 [] (oB 4 h28 k))
 dsimp only at h
 obtain ⟨r12, h13, h⟩ := obind h
 have k := oC 3 [] (c35 h13) <| oC 0 [] (c36 h10) k
 rcases spl h with ⟨h14, h⟩ | ⟨h14, h⟩
 have k := oB 4 h14 k
 rcases spl h with ⟨h15, h⟩ | ⟨h15, h⟩
 have k := oB 0 h15 k
 rcases spl h with ⟨h16, h⟩ | ⟨h16, h⟩
 obtain ⟨r17, h18, h⟩ := obind h
 have k := oB 0 h16 k
 rcases spl h with ⟨h19, h⟩ | ⟨h19, h⟩
 obtain ⟨r20, h21, h⟩ := obind h
 have k := oK 2 [] h19 (c25 h18) k
 rcases spl h with ⟨h22, h⟩ | ⟨h22, h⟩
 obtain ⟨r23, h24, h⟩ := obind h
 obtain rfl := sj h
 exact k7 (tF q7 0 [] (oC 0 [] (c34 h24) <| oK 1 [2, 3] h22 (c37 h21) k))
 obtain rfl := sj h
 exact k7 (tF q7 0 [] (oK 1 [2, 3] h22 (c37 h21) k))
 obtain rfl := sj h
 exact k7 (tF q7 0 [] (oK 2 [] h19 (c25 h18) k))
 obtain rfl := sj h
 exact k7 (tF q7 0 [] (oB 0 h16 k))
 obtain rfl := sj h
 exact k7 (tF q7 0 [] (oB 0 h15 k))
 obtain rfl := sj h
 exact k7 (tF q7 0 [] (oB 4 h14 k))
 obtain ⟨r39, h40, h⟩ := obind h
 obtain rfl := sj h
 exact k7 (tF q7 0 [] (oC 1 [] (c34 h40) <| oK 1 [] h3 (c33 h2) o0))
theorem tot_nlight (l : List Ent) (t : Tm) (f : Int) : Tot (fun q => e33 q l t f) (fun b => b = true → l.length ≤ 60 ∧ f ≤ 400) := by
  simp only [e33]
  refine Tot.ite (fun h => Tot.ite (fun h2 => ?_) fun _ => Tot.ret (fun h => by cases h)) fun _ => Tot.ret (fun h => by cases h)
  have := of_decide_eq_true h
  have := of_decide_eq_true h2
  exact Tot.bind (P := fun _ => True) ((ev_rSize t).tot trivial) fun r _ => Tot.ret fun _ => ⟨by omega, by omega⟩
def nT : Tm := .mk 4 0 [sT, .mk 5 0 [.mk 4 0 [sT, .mk 1 0 []], sT]]
def nX : Tm := .mk 4 0 [sT, sT]
theorem nm_s : Nm [] sT sT 0 := by
  have := Nm.mk (l := []) (t := sT) (y := sT) (ps := []) (k1 := 0) (k2 := 0) (show rightT sT 1048577 0 = true by kernel_rfl) (.stop (by kernel_rfl)) NmL.nil
  exact this
theorem nm_n : Nm [] nT nX 1 := by
  have h1 : Nm [] (.mk 5 0 [.mk 4 0 [sT, .mk 1 0 []], sT]) sT (1 + 0 + 0) := Nm.mk (y := sT) (ps := []) (show rightT (.mk 5 0 [.mk 4 0 [sT, .mk 1 0 []], sT]) 1048577 0 = true by kernel_rfl) (Br.red (Y := sT) (by kernel_rfl) (by kernel_rfl) (Br.stop (by kernel_rfl))) NmL.nil
  have := Nm.mk (l := []) (t := nT) (y := nT) (ps := [sT, sT]) (show rightT nT 1048577 0 = true by kernel_rfl) (.stop (by kernel_rfl)) (NmL.cons nm_s (NmL.cons h1 NmL.nil))
  exact this
theorem allE_nil (N : ByteArray → Bool) : AllE N [] := ⟨by simp, fun i h0 h1 => by simp at h1; omega⟩
theorem ev_nawake : Evt (fun q => e34 q) true := by
  have hof : Evt (fun q => e35 q [] nT 5) (nX, 1, 0) := by
    rcases of_is [] ev_nNew (allE_nil fun _ => true) (fun _ h => nomatch h) nT (shaped_ok (by kernel_rfl)) 5 (by omega) (by omega) with ⟨x, k, h1, -, -, -, h2⟩ | ⟨r, -, -, h⟩
    · obtain ⟨rfl, rfl⟩ := nm_n.det h1; exact h2
    · have := h nX 1 nm_n (by kernel_rfl); omega
  simp only [e34]
  refine Evt.bind (a := .mk 4 0 [sT, .mk 1 0 []]) (Evt.mk fun _ => rfl) (Evt.bind (a := .mk 5 0 [.mk 4 0 [sT, .mk 1 0 []], sT]) (Evt.mk fun _ => rfl) (Evt.bind (a := nT) (Evt.mk fun _ => rfl) (hof.bind (Evt.ifT rfl (Evt.ifT rfl ?_)))))
  exact Evt.bind (a := nX) (Evt.mk fun _ => rfl) ((ev_rEqual nX (shaped_ok (by kernel_rfl))).bind Evt.ret)
theorem ev_NormAgain (l : List Ent) (t : Tm) (he : ∀ e ∈ l, EOk e) (hc : ∀ e ∈ l, ECl e) (ho : t.Ok) : Evt (fun q => e7 q l t) true := by
  simp only [e7]
  obtain ⟨b, hb, hb'⟩ := tot_nlight l t 0
  refine hb.bind ?_
  cases b with
  | false => exact Evt.ifF rfl (ev_nawake.bind Evt.ret)
  | true =>
    obtain ⟨hl, -⟩ := hb' rfl
    refine Evt.ifT rfl ?_
    rcases sign_cases l hl he hc with hn | ⟨N, hE, hn⟩
    · exact (of_unf l hn t 300).bind (Evt.ifT (by decide) (ev_nawake.bind Evt.ret))
    · rcases of_is l hn hE he t ho 300 (by omega) (by omega) with ⟨x, k, hN, hs, k0, k1, hev⟩ | ⟨r, h1, h2, -⟩
      · obtain ⟨n, hN⟩ := hN
        have hx := NmN.again hE hN hs
        refine hev.bind (Evt.ifF rfl (hn.bind ?_))
        rcases of_is l hn hE he x (shaped_ok hs) 0 (by omega) (by omega) with ⟨x', k', h3, -, -, -, h4⟩ | ⟨r, -, -, h⟩
        · obtain ⟨rfl, rfl⟩ := Nm.det ⟨n, hx⟩ h3
          refine h4.bind (Evt.ifT rfl (Evt.ifT rfl (Evt.ifT rfl ((ev_rEqual _ (shaped_ok hs)).bind (Evt.ifT rfl ?_)))))
          simp only [e37]
          exact Evt.bind (a := true) ((ev_still l hE he n _ hx).bind Evt.ret) (Evt.ifT rfl (ev_nawake.bind Evt.ret))
        · have := h x 0 ⟨n, hx⟩ hs; omega
      · exact h1.bind (Evt.ifT (by simpa using h2) (ev_nawake.bind Evt.ret))
theorem rdE_ok {l : List Ent} (h : ∀ e ∈ l, RdE e) : ∀ e ∈ l, EOk e := fun e he => ⟨(h e he).1, (h e he).2.1, Nat.le_trans (h e he).2.2.1 (by decide), Nat.le_trans (h e he).2.2.2 (by decide)⟩
theorem rdE_cl {l : List Ent} (h : ∀ e ∈ l, RdE e) : ∀ e ∈ l, ECl e := fun e he => ⟨(h e he).2.2.1, (h e he).2.2.2⟩
theorem normAgain_ct (l : List Ent) (t : Tm) (w0 : ∀ e ∈ l, RdE e) (w1 : t.Ok) : CT Tryz.prog 7 [] [.sl (flat entL l) l.length .no, tmA t] (ab true) [] 0 := by
  obtain ⟨q, hq⟩ := (ev_NormAgain l t (rdE_ok w0) (rdE_cl w0) w1).at
  exact c7 hq
end Go.Proofs.YteiddempdecleaaGreat
