/- A SLICE THAT WAS WRITTEN, AND WILL BE WRITTEN NO MORE: as a result it is a slice like others. -/
import Derived.Test.YtkeipljdhcbfoaaGreatAbXc
namespace Go.Ab
open Go Go.RowKit

/-- less is numbered, more lives -/
structure Sub (G G' : Gh) (p : Nat → Prop) : Prop where
  F : G'.F = G.F
  ρ : ∀ i b, p i → G.ρ i = some b → G'.ρ i = some b
  τ : ∀ k q, G.τ k = some q → G'.τ k = some q
  L : ∀ b o, G.L b o → G'.L b o

mutual
theorem V.less {G G' : Gh} {w : World} {p : Nat → Prop} (h : Sub G G' p) : ∀ (a : AV) (u : Value), a.fine p → V G w a u → V G' w a u
  | .val v, u, _, hv => by simpa only [V] using hv
  | .agg cs, u, hi, hv => by
    simp only [V, AV.fine] at hi hv ⊢
    obtain ⟨vs, rfl, hl⟩ := hv
    exact ⟨vs, rfl, VL.less h cs vs hi hl⟩
  | .tup cs, u, hi, hv => by
    simp only [V, AV.fine] at hi hv ⊢
    obtain ⟨vs, rfl, hl⟩ := hv
    exact ⟨vs, rfl, VL.less h cs vs hi hl⟩
  | .sl es n o, u, hi, hv => by
    simp only [V, AV.fine] at hi hv ⊢
    obtain ⟨cap, hc, hh⟩ := hv
    refine ⟨cap, hc, ?_⟩
    rcases hh with ⟨rfl, h2, h3, h4, h5⟩ | ⟨b, off, hu, hcells, ho⟩
    · exact .inl ⟨rfl, h2, h3, h4, h5.mono h.τ⟩
    · exact .inr ⟨b, off, hu, VC.data h.L es b off hi hcells, ho.mono h.F h.τ⟩
  | .ip es, u, hi, hv => by
    simp only [V, AV.fine] at hi hv ⊢
    obtain ⟨b, off, hu, hcells⟩ := hv
    exact ⟨b, off, hu, VC.data h.L es b off hi hcells⟩
  | .mp i off, u, hi, hv => by
    simp only [V, AV.fine] at hi hv ⊢
    obtain ⟨b, hb, hu⟩ := hv
    exact ⟨b, h.ρ _ _ hi hb, hu⟩
  | .ms i off n, u, hi, hv => by
    simp only [V, AV.fine] at hi hv ⊢
    obtain ⟨b, cap, hb, hu⟩ := hv
    exact ⟨b, cap, h.ρ _ _ hi hb, hu⟩
  | .obj i, u, hi, hv => by
    simp only [V, AV.fine] at hi hv ⊢
    obtain ⟨b, hb, hu⟩ := hv
    exact ⟨b, h.ρ _ _ hi hb, hu⟩
  | .clo g fs cs, u, hi, hv => by
    simp only [V, AV.fine] at hi hv ⊢
    obtain ⟨l, r', hu, h1, h2⟩ := hv
    exact ⟨l, r', hu, VL.less h fs l hi.1 h1, VL.less h cs r' hi.2 h2⟩
theorem VL.less {G G' : Gh} {w : World} {p : Nat → Prop} (h : Sub G G' p) : ∀ (as : List AV) (us : List Value), AV.fineL p as → VL G w as us → VL G' w as us
  | [], [], _, _ => by simp only [VL]
  | a :: as, u :: us, hi, hv => by
    simp only [VL, AV.fineL] at hi hv ⊢
    exact ⟨V.less h a u hi.1 hv.1, VL.less h as us hi.2 hv.2⟩
  | [], _ :: _, _, hv => by simp only [VL] at hv
  | _ :: _, [], _, hv => by simp only [VL] at hv
end

mutual
/-- a value in which a block's slices are told by what the block holds -/
def AV.fz (m : Nat) (cs : List AV) : AV → AV
  | .val v => .val v
  | .agg l => .agg (AV.fzL m cs l)
  | .tup l => .tup (AV.fzL m cs l)
  | .sl es n o => .sl es n o
  | .ip es => .ip es
  | .mp i off => .mp i off
  | .ms i off n => bif Nat.beq i m then .sl (cs.drop off) n .no else .ms i off n
  | .obj i => .obj i
  | .clo g a b => .clo g a b
def AV.fzL (m : Nat) (cs : List AV) : List AV → List AV
  | [] => []
  | a :: l => AV.fz m cs a :: AV.fzL m cs l
end

mutual
def AV.fzOk (m : Nat) : AV → Prop
  | .val _ => True
  | .agg l => AV.fzOkL m l
  | .tup l => AV.fzOkL m l
  | .sl es _ _ => AV.DataL es
  | .ip es => AV.DataL es
  | .mp i _ => i < m
  | .ms i _ _ => i = m ∨ i < m
  | .obj i => i < m
  | .clo _ a b => AV.fineL (fun i => i < m) a ∧ AV.fineL (fun i => i < m) b
def AV.fzOkL (m : Nat) : List AV → Prop
  | [] => True
  | a :: l => AV.fzOk m a ∧ AV.fzOkL m l
end

theorem DataL_drop : ∀ (l : List AV) (n : Nat), AV.DataL l → AV.DataL (l.drop n)
  | l, 0, h => by simpa using h
  | [], _ + 1, _ => trivial
  | _ :: l, n + 1, h => by simpa using DataL_drop l n h.2

mutual
theorem AV.fz_fine {m : Nat} {cs : List AV} (hc : AV.DataL cs) : ∀ a : AV, a.fzOk m → (a.fz m cs).fine (fun i => i < m)
  | .val _, _ => trivial
  | .agg l, h => AV.fzL_fine hc l h
  | .tup l, h => AV.fzL_fine hc l h
  | .sl _ _ _, h => h
  | .ip _, h => h
  | .mp _ _, h => h
  | .ms i off n, h => by
    simp only [AV.fz]
    cases hb : Nat.beq i m with
    | true => exact DataL_drop _ _ hc
    | false =>
      rcases h with rfl | h
      · simp at hb
      · exact h
  | .obj _, h => h
  | .clo _ _ _, h => h
theorem AV.fzL_fine {m : Nat} {cs : List AV} (hc : AV.DataL cs) : ∀ l : List AV, AV.fzOkL m l → AV.fineL (fun i => i < m) (AV.fzL m cs l)
  | [], _ => trivial
  | a :: l, h => ⟨AV.fz_fine hc a h.1, AV.fzL_fine hc l h.2⟩
end

mutual
theorem V.fz {G G' : Gh} {w : World} {m b : Nat} {cs : List AV} (h : Sub G G' (fun i => i < m)) (hm : G.ρ m = some b) (hc : VC G' w cs b 0) : ∀ (a : AV) (u : Value), a.fzOk m → V G w a u → V G' w (a.fz m cs) u
  | .val v, u, _, hv => by simpa only [AV.fz, V] using hv
  | .agg l, u, hi, hv => by
    simp only [V, AV.fzOk, AV.fz] at hi hv ⊢
    obtain ⟨vs, rfl, hl⟩ := hv
    exact ⟨vs, rfl, VL.fz h hm hc l vs hi hl⟩
  | .tup l, u, hi, hv => by
    simp only [V, AV.fzOk, AV.fz] at hi hv ⊢
    obtain ⟨vs, rfl, hl⟩ := hv
    exact ⟨vs, rfl, VL.fz h hm hc l vs hi hl⟩
  | .sl es n o, u, hi, hv => V.less h (.sl es n o) u hi hv
  | .ip es, u, hi, hv => V.less h (.ip es) u hi hv
  | .mp i off, u, hi, hv => V.less h (.mp i off) u hi hv
  | .ms i off n, u, hi, hv => by
    simp only [AV.fz]
    cases hb : Nat.beq i m with
    | false =>
      rcases hi with rfl | hi
      · simp at hb
      · exact V.less h (.ms i off n) u hi hv
    | true =>
      have := Nat.eq_of_beq_eq_true hb
      subst this
      simp only [V, cond_true] at hv ⊢
      obtain ⟨b', cap, hb', hn, rfl⟩ := hv
      rw [hm] at hb'; cases hb'
      refine ⟨cap, hn, .inr ⟨b, off, rfl, ?_, trivial⟩⟩
      have := VC.drop _ _ _ off hc
      rwa [Nat.zero_add] at this
  | .obj i, u, hi, hv => V.less h (.obj i) u hi hv
  | .clo g a b, u, hi, hv => V.less h (.clo g a b) u hi hv
theorem VL.fz {G G' : Gh} {w : World} {m b : Nat} {cs : List AV} (h : Sub G G' (fun i => i < m)) (hm : G.ρ m = some b) (hc : VC G' w cs b 0) : ∀ (as : List AV) (us : List Value), AV.fzOkL m as → VL G w as us → VL G' w (AV.fzL m cs as) us
  | [], [], _, _ => by simp only [AV.fzL, VL]
  | a :: as, u :: us, hi, hv => by
    simp only [VL, AV.fzOkL, AV.fzL] at hi hv ⊢
    exact ⟨V.fz h hm hc a u hi.1 hv.1, VL.fz h hm hc as us hi.2 hv.2⟩
  | [], _ :: _, _, hv => by simp only [VL] at hv
  | _ :: _, [], _, hv => by simp only [VL] at hv
end

/-- the blocks below a number -/
def cutH (m : Nat) : List (Nat × Blk) → List (Nat × Blk)
  | [] => []
  | p :: l => bif Nat.blt p.1 m then p :: cutH m l else cutH m l

theorem look_cutH {m : Nat} : ∀ (l : List (Nat × Blk)) (i : Nat), look (cutH m l) i = if i < m then look l i else none
  | [], i => by simp [cutH, look]
  | p :: l, i => by
    simp only [cutH]
    cases hb : Nat.blt p.1 m with
    | true =>
      have hb' : p.1 < m := Nat.le_of_ble_eq_true hb
      simp only [cond_true, look, look_cutH l i]
      cases he : Nat.beq i p.1 with
      | true => have := Nat.eq_of_beq_eq_true he; simp only [cond_true]; rw [if_pos (by omega)]
      | false => simp only [cond_false]
    | false =>
      have hb' : ¬ p.1 < m := by intro h; rw [Nat.blt, Nat.ble_eq_true_of_le h] at hb; cases hb
      simp only [cond_false, look, look_cutH l i]
      cases he : Nat.beq i p.1 with
      | true => have := Nat.eq_of_beq_eq_true he; rw [if_neg (by omega), if_neg (by omega)]
      | false => simp only [cond_false]

theorem CTri.freeze {P : Program} {f : FuncId} {H0 H1 : List Blk} {args cs : List AV} {res : AV} {nst : Nat} (h : CTri P f H0 args res (H1 ++ [.row cs]) nst) (hle : H0.length ≤ H1.length) (hH1 : ∀ X ∈ H1, X.fine (fun i => i < H1.length)) (hcs : AV.DataL cs) (hr : res.fzOk H1.length) :
    CTri P f H0 args (res.fz H1.length cs) H1 nst := by
  intro G0 W cargs hB hR hv
  refine (h G0 W cargs hB hR hv).mono ?_
  rintro e W' ⟨u, G', s', rfl, hE, hR', hu, hb, ho⟩
  have hm : look s'.H H1.length = some (.row cs) := hb H1.length _ (by simp)
  obtain ⟨b, hρ, hF, vs, T, hh, us, rest, hus, hvl⟩ := hR'.look (i := H1.length) (X := .row cs) (by rw [over_H]; exact hm)
  have hlen := VL.length _ _ hvl
  let G'' : Gh := { G' with ρ := fun i => if i < H1.length then G'.ρ i else none, L := fun c o => G'.L c o ∨ (c = b ∧ o < cs.length) }
  have hS : Sub G' G'' (fun i => i < H1.length) := ⟨rfl, fun i b hi e => by show (if i < H1.length then G'.ρ i else none) = _; rw [if_pos hi]; exact e, fun _ _ e => e, fun _ _ e => .inl e⟩
  have hcell : ∀ i (hi : i < us.length), W'.cell? ⟨b, 0 + i, none⟩ = some us[i] := by
    intro i hi
    have : vs[i]? = some us[i] := by
      have h1 : vs.toList[i]? = some us[i] := by rw [hus, List.getElem?_append_left hi, List.getElem?_eq_getElem hi]
      simpa using h1
    rw [Nat.zero_add]
    simp [World.cell?, hh, this]
  have hC : VC G'' W' cs b 0 := VC.of_cells cs us b 0 (VL.data hS.L cs us hcs hvl) (fun i hi => .inr ⟨rfl, by omega⟩) hcell
  have hσ : ∀ i, (over (Emp 0) { s' with H := cutH H1.length s'.H }).H i = if i < H1.length then look s'.H i else none := fun i => by rw [over_H]; exact look_cutH _ _
  have hσ' : ∀ i, (over (Emp 0) s').H i = look s'.H i := fun i => over_H _ _
  refine ⟨u, G'', { s' with H := cutH H1.length s'.H }, rfl, ⟨fun i c hc => ?_, hE.τ, fun c o e => .inl (hE.L c o e), hE.cell, hE.w0, hE.F, fun c o e => ?_⟩, ⟨fun i => ?_, ⟨H1.length, fun i hi => ?_⟩, fun i j c hi hj => ?_, fun i c X hi hX => ?_, fun c o hL => ?_, hR'.τns, fun k hk => ?_, hR'.ownd, hR'.below, hR'.base⟩, V.fz hS hρ hC _ _ hr hu, fun i X hX => ?_, ho⟩
  · have hi : i < H0.length := Nat.lt_of_not_le fun hge => by rw [hB.ρ i hge] at hc; cases hc
    show (if i < H1.length then G'.ρ i else none) = _
    rw [if_pos (by omega)]; exact hE.ρ i c hc
  · rcases e with e | ⟨rfl, _⟩
    · exact hE.newL c o e
    · exact .inr (by rw [← hE.F]; exact hF)
  · rw [hσ]
    show (if i < H1.length then G'.ρ i else none) = none ↔ _
    split
    · rw [hR'.dom i, hσ']
    · simp
  · rw [hσ, if_neg (by omega)]
  · have hi' : (if i < H1.length then G'.ρ i else none) = some c := hi
    have hj' : (if j < H1.length then G'.ρ j else none) = some c := hj
    split at hi'
    · split at hj'
      · exact hR'.inj i j c hi' hj'
      · cases hj'
    · cases hi'
  · have hi' : (if i < H1.length then G'.ρ i else none) = some c := hi
    split at hi'
    · rename_i hlt
      rw [hσ, if_pos hlt] at hX
      obtain ⟨q1, q2⟩ := hR'.blk i c X hi' (by rw [hσ']; exact hX)
      refine ⟨q1, ?_⟩
      have hget : (H1 ++ [.row cs])[i]? = some H1[i] := by rw [List.getElem?_append_left hlt, List.getElem?_eq_getElem hlt]
      have := hb i _ hget
      rw [this] at hX; cases hX
      have hf := hH1 _ (List.getElem_mem hlt)
      cases hY : H1[i] with
      | cells ds =>
        rw [hY] at q2 hf
        obtain ⟨vs', T', q3, q4⟩ := q2
        exact ⟨vs', T', q3, q4.imp fun us => VL.less hS _ us hf⟩
      | obj o => rw [hY] at q2; exact q2
      | row ds =>
        rw [hY] at q2 hf
        obtain ⟨vs', T', q3, q4⟩ := q2
        exact ⟨vs', T', q3, q4.imp fun us => VL.data hS.L _ us hf⟩
    · cases hi'
  · rcases hL with hL | ⟨rfl, hlt⟩
    · obtain ⟨q1, q2⟩ := hR'.live c o hL
      refine ⟨q1, fun i hi => ?_⟩
      have hi' : (if i < H1.length then G'.ρ i else none) = some c := hi
      split at hi'
      · exact q2 i hi'
      · cases hi'
    · refine ⟨⟨us[o]'(by omega), ?_⟩, fun i hi => ?_⟩
      · have := hcell o (by omega)
        rwa [Nat.zero_add] at this
      · have hi' : (if i < H1.length then G'.ρ i else none) = some c := hi
        split at hi'
        · rename_i hlt'
          have := hR'.inj i H1.length c hi' hρ
          omega
        · cases hi'
  · obtain ⟨c, f1, t, q1, q2 | ⟨q2, q3, q4, q5⟩⟩ := hR'.own k hk
    · exact ⟨c, f1, t, q1, .inl q2⟩
    · refine ⟨c, f1, t, q1, .inr ⟨q2, fun i hi => ?_, fun o h1 h2 hL => ?_, q5⟩⟩
      · have hi' : (if i < H1.length then G'.ρ i else none) = some c := hi
        split at hi'
        · exact q3 i hi'
        · cases hi'
      · rcases hL with hL | ⟨rfl, _⟩
        · exact q4 o h1 h2 hL
        · exact q3 _ hρ
  · have hlt := (List.getElem?_eq_some_iff.1 hX).1
    show look (cutH H1.length s'.H) i = some X
    rw [look_cutH, if_pos hlt]
    exact hb i X (by rw [List.getElem?_append_left hlt]; exact hX)

theorem CT.freeze {P : Program} {f : FuncId} {H0 H1 : List Blk} {args cs : List AV} {res res' : AV} {nst : Nat} (h : CT P f H0 args res (H1 ++ [.row cs]) nst) (hle : H0.length ≤ H1.length) (hH1 : ∀ X ∈ H1, X.fine (fun i => i < H1.length)) (hcs : AV.DataL cs) (hr : res.fzOk H1.length) (e : res.fz H1.length cs = res') :
    CT P f H0 args res' H1 nst := by
  subst e
  exact ⟨h.tri.freeze hle hH1 hcs hr, h.args, h.H0, AV.fz_fine hcs _ hr, hH1⟩

end Go.Ab
