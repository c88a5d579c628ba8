/- Texts: AbSf AbF149 AbF150 AbSg AbF70 AbF71 AbF20 AbSh AbF15 AbF75 AbF68 AbF18 AbF66 AbF124 AbF137 AbF138 AbF204 AbF205 AbF139 AbF144 AbF201 AbF141 AbF143 AbF208 AbF207va49556 AbF145 AbF125 AbF198 AbF200 AbF199 AbF133 AbF67 AbF16 AbF76 AbF24 AbF24va47776 AbF17 AbF19 AbF22 AbF25 AbF3 AbSi AbSj -/
import Derived.Test.YteiddempdecleaaGreatAbB4
set_option linter.unusedVariables false
set_option linter.unusedSimpArgs false
namespace Go.Proofs.YteiddempdecleaaGreat
open Go Go.Ab
def Dc (f : Nat → Option Bool) (P : Prop) : Prop := ∃ b, Evt f b ∧ (b = true ↔ P)
section
variable {f g : Nat → Option Bool} {P Q : Prop} {α : Type}
theorem Dc.ret {b : Bool} (h : b = true ↔ P) : Dc (fun _ => some b) P := ⟨b, Evt.ret, h⟩
theorem Dc.yes (h : P) : Dc (fun _ => some true) P := ⟨true, Evt.ret, ⟨fun _ => h, fun _ => rfl⟩⟩
theorem Dc.no (h : ¬ P) : Dc (fun _ => some false) P := ⟨false, Evt.ret, ⟨fun e => (by cases e), fun e => absurd e h⟩⟩
theorem Dc.ite {c : Bool} (h : c = true → Dc f P) (k : c = false → Dc g P) : Dc (fun q => if c = true then f q else g q) P := by
  cases c with
  | true => obtain ⟨b, h1, h2⟩ := h rfl; exact ⟨b, Evt.ifT rfl h1, h2⟩
  | false => obtain ⟨b, h1, h2⟩ := k rfl; exact ⟨b, Evt.ifF rfl h1, h2⟩
theorem Dc.evt {x : Nat → Option α} {a : α} {c : Nat → α → Option Bool} (h : Evt x a) (k : Dc (fun q => c q a) P) : Dc (fun q => x q >>= c q) P := by
  obtain ⟨b, h1, h2⟩ := k; exact ⟨b, h.bind h1, h2⟩
theorem Dc.pure {x : Option α} {a : α} {c : Nat → α → Option Bool} (h : x = some a) (k : Dc (fun q => c q a) P) : Dc (fun q => x >>= c q) P := by
  obtain ⟨b, h1, h2⟩ := k; exact ⟨b, Evt.pure h h1, h2⟩
theorem Dc.bind {x : Nat → Option Bool} {c : Nat → Bool → Option Bool} (h : Dc x Q) (k : Q → Dc (fun q => c q true) P) (k' : ¬ Q → Dc (fun q => c q false) P) : Dc (fun q => x q >>= c q) P := by
  obtain ⟨b, h1, h2⟩ := h
  cases b with
  | true => exact Dc.evt h1 (k (h2.1 rfl))
  | false => exact Dc.evt h1 (k' fun e => by have := h2.2 e; cases this)
theorem Dc.succ (h : Dc (fun q => f (q + 1)) P) : Dc f P := by obtain ⟨b, h1, h2⟩ := h; exact ⟨b, h1.succ, h2⟩
theorem Dc.iff (h : Dc f P) (k : P ↔ Q) : Dc f Q := by obtain ⟨b, h1, h2⟩ := h; exact ⟨b, h1, h2.trans k⟩
theorem Dc.of {b : Bool} (h : Evt f b) : Dc f (b = true) := ⟨b, h, Iff.rfl⟩
end
theorem tel_spec {t : Tm} (hg : goodT t = true) : ∃ l y, splT (pisT t) t = some (l, y) ∧ l.length = pisT t ∧ y.k ≠ 3 ∧ goodT y = true ∧ y.nodes ≤ t.nodes ∧ y.high ≤ t.high ∧ ∀ x ∈ l, goodT x = true ∧ x.nodes ≤ t.nodes ∧ x.high ≤ t.high := by
  obtain ⟨r, hr⟩ := splT_all t hg _ (Nat.le_refl _)
  obtain ⟨h1, h2, h3, h4⟩ := splT_spec _ t r hg hr
  refine ⟨r.1, r.2, hr, h1, fun h => ?_, h3.1, h3.2.1, h3.2.2, h4⟩
  obtain ⟨a, b, hx, -, -⟩ := pi_form h3.1 h
  rw [hx, pisT_pi] at h2
  omega
theorem ev_TeleL : ∀ (n : Nat) (t : Tm) (l : List Tm) (y : Tm) (acc : List Tm), goodT t = true → splT n t = some (l, y) → y.k ≠ 3 → acc.length + n ≤ 100000 → Evt (fun q => e126L24125 q acc t.k t.n t.sub) (acc ++ l)
  | 0, t, l, y, acc, _, h, hk, _ => by
    rw [splT] at h; cases h
    refine Evt.succ ?_
    simp only [e126L24125]
    exact Evt.ifF (by simpa using hk) (Evt.ret.eq (by simp))
  | n + 1, t, l, y, acc, hg, h, hk, hl => by
    by_cases h3 : t.k = 3
    · obtain ⟨a, b, hx, hga, hgb⟩ := pi_form hg h3
      rw [hx, splT_pi] at h
      obtain ⟨r', h1, h2⟩ := Option.map_eq_some_iff.1 h
      cases h2
      refine Evt.succ ?_
      simp only [e126L24125]
      have hs : t.sub = [a, b] := by rw [hx]; rfl
      rw [hs]
      refine Evt.ifT (by simp [h3]) (Evt.pure (a := a) rfl (Evt.pure (gapp_ok (by simp; omega)) (Evt.pure (a := b) rfl ?_)))
      exact (ev_TeleL n b r'.1 r'.2 (acc ++ [a]) hgb h1 hk (by simp; omega)).eq (by simp)
    · rw [splT_not h3] at h; cases h
theorem pis_le : ∀ (n : Nat) (t : Tm), t.nodes ≤ n → pisT t ≤ n
  | 0, t, h => by have := nodes_pos t; omega
  | n + 1, t, h => by
    unfold pisT
    split
    · rename_i k m a b
      rw [Tm.nodes, nodesL, nodesL, nodesL] at h
      have := nodes_pos a
      split
      · have := pis_le n b (by omega); omega
      · omega
    · omega
theorem ev_Tele {t : Tm} (hg : goodT t = true) (hn : t.nodes ≤ 8192) {l : List Tm} {y : Tm} (h : splT (pisT t) t = some (l, y)) (hk : y.k ≠ 3) : Evt (fun q => e126 q t) l := by
  simp only [e126]
  have := pis_le t.nodes t (Nat.le_refl _)
  exact (ev_TeleL (pisT t) t l y [] hg h hk (by simp; omega)).eq (by simp)
theorem ev_Bene : ∀ (n : Nat) (t : Tm) (l : List Tm) (y : Tm), goodT t = true → splT n t = some (l, y) → y.k ≠ 3 → Evt (fun q => e152L23350 q t.k t.n t.sub) y
  | 0, t, l, y, _, h, hk => by
    rw [splT] at h; cases h
    refine Evt.succ ?_
    simp only [e152L23350]
    exact Evt.ifF (by simpa using hk) (Evt.ret.eq (tm_eta _))
  | n + 1, t, l, y, hg, h, hk => by
    by_cases h3 : t.k = 3
    · obtain ⟨a, b, hx, hga, hgb⟩ := pi_form hg h3
      rw [hx, splT_pi] at h
      obtain ⟨r', h1, h2⟩ := Option.map_eq_some_iff.1 h
      cases h2
      refine Evt.succ ?_
      simp only [e152L23350]
      have hs : t.sub = [a, b] := by rw [hx]; rfl
      rw [hs]
      exact Evt.ifT (by simp [h3]) (Evt.pure (a := b) rfl (ev_Bene n b r'.1 r'.2 hgb h1 hk))
    · rw [splT_not h3] at h; cases h
theorem app_form {t : Tm} (hg : goodT t = true) (h : t.k = 5) : ∃ a b, t = .mk 5 t.n [a, b] ∧ goodT a = true ∧ goodT b = true := by
  obtain ⟨k, n, l⟩ := t
  have hh := goodT_mk hg
  replace h : k = 5 := h
  subst h
  obtain ⟨a, b, rfl⟩ := sub2 ((head_spec hh.1).2.2.2.2.2.1 (.inr (.inr rfl))).1
  have hc := goodL_cons hh.2
  exact ⟨a, b, rfl, hc.1, (goodL_cons hc.2).1⟩
theorem ar_le : ∀ (n : Nat) (t : Tm), goodT t = true → t.nodes ≤ n → (arT t).length ≤ n
  | 0, t, _, h => by have := nodes_pos t; omega
  | n + 1, t, hg, h => by
    by_cases h5 : t.k = 5
    · obtain ⟨a, b, hx, hga, -⟩ := app_form hg h5
      rw [hx] at h ⊢
      rw [Tm.nodes, nodesL, nodesL, nodesL] at h
      rw [arT_app, List.length_append]
      have := ar_le n a hga (by omega)
      have := nodes_pos b
      simp; omega
    · rw [arT_not h5]; simp
theorem ev_rArgs : ∀ (n : Nat) (t : Tm), goodT t = true → t.nodes ≤ n → n ≤ 8192 → Evt (fun q => e90 q t) (arT t)
  | 0, t, _, h, _ => by have := nodes_pos t; omega
  | n + 1, t, hg, h, hn => by
    refine Evt.succ ?_
    simp only [e90]
    by_cases h5 : t.k = 5
    · obtain ⟨a, b, hx, hga, -⟩ := app_form hg h5
      have hs : t.sub = [a, b] := by rw [hx]; rfl
      have hnn := nodes_sub t
      rw [hs, nodesL, nodesL, nodesL] at hnn
      have := nodes_pos b
      rw [hs]
      have hle := ar_le n a hga (by omega)
      refine Evt.ifF (by simp [h5]) (Evt.pure (a := a) rfl ((ev_rArgs n a hga (by omega) (by omega)).bind (Evt.pure (a := b) rfl (Evt.pure (gapp_ok (by simp; omega)) (Evt.ret.eq ?_)))))
      rw [hx, arT_app]
    · exact Evt.ifT (by simpa using h5) (Evt.ret.eq (arT_not h5).symm)
theorem ev_rHeadL : ∀ (n : Nat) (t : Tm), goodT t = true → t.nodes ≤ n → Evt (fun q => e167L20205 q t.k t.n t.sub) (hdT t)
  | 0, t, _, h => by have := nodes_pos t; omega
  | n + 1, t, hg, h => by
    refine Evt.succ ?_
    simp only [e167L20205]
    by_cases h5 : t.k = 5
    · obtain ⟨a, b, hx, hga, -⟩ := app_form hg h5
      have hs : t.sub = [a, b] := by rw [hx]; rfl
      have hnn := nodes_sub t
      rw [hs, nodesL, nodesL, nodesL] at hnn
      rw [hs]
      refine Evt.ifT (by simp [h5]) (Evt.pure (a := a) rfl ((ev_rHeadL n a hga (by omega)).eq ?_))
      rw [hx, hdT_app]
    · exact Evt.ifF (by simpa using h5) (Evt.ret.eq (by rw [hdT_not h5, tm_eta]))
theorem dc_appliedL (P : Nat) (binders : Int) (args : List Tm) (hP : P ≤ args.length) (hP2 : P ≤ 24) (hb : -1048576 ≤ binders ∧ binders ≤ 1048576) : ∀ (m v : Nat), v + m = P → Dc (fun q => e151L62269 q (P : Int) binders args (v : Int)) (varsD ((args.take P).drop v) (binders - 1 - v) = true)
  | 0, v, hm => by
    refine Dc.succ ?_
    simp only [e151L62269]
    refine Dc.ite (fun h => absurd (of_decide_eq_true h) (by omega)) fun _ => Dc.yes ?_
    rw [List.drop_eq_nil_of_le (by rw [List.length_take]; omega)]; rfl
  | m + 1, v, hm => by
    have hlt : v < args.length := by omega
    have hd : (args.take P).drop v = args[v] :: (args.take P).drop (v + 1) := by
      have h2 : v < (args.take P).length := by rw [List.length_take]; omega
      rw [List.drop_eq_getElem_cons h2]; simp
    refine Dc.succ ?_
    simp only [e151L62269]
    have hg : gidx args (v : Int) = some args[v] := by unfold gidx; rw [if_pos (by omega), Int.toNat_natCast]; exact List.getElem?_eq_getElem hlt
    rw [hd]
    refine Dc.ite (fun _ => Dc.pure hg (Dc.ite (fun h => Dc.no ?_) fun h => ?_)) fun h => absurd (of_decide_eq_false h) (by omega)
    · rw [varsD]; simp only [bne_iff_ne, ne_eq] at h; simp [h]
    · have hk : args[v].k = 1 := by simpa using h
      rw [w64_id (x := binders - 1) (by omega) (by omega), w64_id (x := binders - 1 - v) (by omega) (by omega)]
      refine Dc.ite (fun h => Dc.no ?_) fun h => ?_
      · rw [varsD]; simp only [bne_iff_ne, ne_eq] at h; simp [h]
      · have hn : args[v].n = binders - 1 - v := by simpa using h
        rw [w64_nat v (by omega)]
        refine (dc_appliedL P binders args hP hP2 hb m (v + 1) (by omega)).iff ?_
        rw [varsD, hk, hn]
        simp only [beq_self_eq_true, Bool.true_and]
        rw [show binders - 1 - ((v + 1 : Nat) : Int) = binders - 1 - v - 1 by omega]
theorem dc_applied (t : Tm) (of pars more binders : Int) (hg : goodT t = true) (hn : t.nodes ≤ 8192) (h0 : 0 ≤ pars ∧ pars ≤ 24) (h1 : 0 ≤ more ∧ more ≤ 24) (hb : -1048576 ≤ binders ∧ binders ≤ 1048576) : Dc (fun q => e151 q t of pars more binders) (appliedT t of pars more binders = true) := by
  have hH : Evt (fun q => e167 q t) (hdT t) := by simp only [e167]; exact ev_rHeadL t.nodes t hg (Nat.le_refl _)
  simp only [e151]
  unfold appliedT
  refine Dc.evt (ev_rArgs t.nodes t hg (Nat.le_refl _) hn) (Dc.evt hH (Dc.ite (fun h => Dc.no ?_) fun h => Dc.ite (fun k => Dc.no ?_) fun k => ?_))
  · simp only [bne_iff_ne, ne_eq] at h; simp [h]
  · simp only [bne_iff_ne, ne_eq] at k; simp [k]
  · rw [w64_id (by omega) (by omega)]
    refine Dc.ite (fun j => Dc.no ?_) fun j => ?_
    · simp only [bne_iff_ne, ne_eq] at j; simp [j]
    · have h' : (hdT t).k = 6 := by simpa using h
      have k' : (hdT t).n = of := by simpa using k
      have j' : ((arT t).length : Int) = pars + more := by simpa using j
      have := dc_appliedL pars.toNat binders (arT t) (by omega) (by omega) hb pars.toNat 0 (by omega)
      rw [show ((pars.toNat : Nat) : Int) = pars by omega] at this
      refine this.iff ?_
      simp [h', k', j']
def RFam (l : List Ent) (i : Int) : Prop := famA (ent l i) = true ∧ famB (ent l i) = true ∧ famC l i (ent l i) = true ∧ ((ent l i).fields.length = 0 ∨ ((ent l i).inds = 0 ∧ (ent l i).cons.length = 1 ∧ runT (ent l i).fields (i + 2) = true ∧ memT l i 4 (ent l i).fields 0 = true ∧ shapedT (ent l (i + 1)).type = true ∧ (pisT (ent l (i + 1)).type : Int) = (ent l i).pars + (ent l i).fields.length))
def REnt (N : ByteArray → Bool) (l : List Ent) (i : Int) : Prop := N (ent l i).name = true ∧ closedT' (ent l i).type i = true ∧ (((ent l i).kind = 1 ∧ RFam l i) ∨ ((ent l i).kind = 2 ∧ conT l i = true) ∨ ((ent l i).kind = 4 ∧ projT l i = true) ∨ ((ent l i).kind = 3 ∧ defT l i = true))
theorem ev_rIs (l : List Ent) (n kind : Int) : Evt (fun q => e21 q l n kind) (isT l n kind) := by
  simp only [e21]
  unfold isT
  by_cases h0 : 0 ≤ n
  · refine Evt.ifT (decide_eq_true h0) ?_
    by_cases h1 : n < l.length
    · exact Evt.ifT (decide_eq_true h1) (Evt.pure (gidx_ent h0 h1) (Evt.ret.eq (by simp [h0, h1])))
    · exact Evt.ifF (decide_eq_false h1) (Evt.ret.eq (by simp [h1]))
  · exact Evt.ifF (decide_eq_false h0) (Evt.ret.eq (by simp [h0]))
theorem ev_rzero (t : Tm) : Evt (fun q => e213 q t) (noneT t) := by
  simp only [e213]
  unfold noneT
  by_cases h0 : t.k = 0
  · refine Evt.ifT (by simp [h0]) ?_
    by_cases h1 : t.n = 0
    · exact Evt.ifT (by simp [h1]) (Evt.ret.eq (by simp [h0, h1]))
    · exact Evt.ifF (by simp [h1]) (Evt.ret.eq (by simp [h1]))
  · exact Evt.ifF (by simp [h0]) (Evt.ret.eq (by simp [h0]))
theorem dc_row (l : List Ent) (p : List Int) (f of kind : Int) (hf : 0 ≤ f ∧ f ≤ 1048576) (hl : l.length ≤ 65535) (hp : p.length ≤ 1152921504606846976) : ∀ (r : List Int) (v : Nat), p.drop v = r → Dc (fun q => e215L22970 q l p f of kind (v : Int)) (runT r (f + v) = true ∧ memT l of kind r v = true)
  | [], v, hd => by
    refine Dc.succ ?_
    simp only [e215L22970]
    refine Dc.ite (fun h => ?_) fun _ => Dc.yes ⟨rfl, rfl⟩
    rw [drop_nil hd] at h; cases h
  | n :: r, v, hd => by
    have hlt := drop_lt hd
    refine Dc.succ ?_
    simp only [e215L22970]
    rw [w64_id (x := f + v) (by omega) (by omega)]
    refine Dc.ite (fun _ => Dc.pure (drop_idx hd) (Dc.ite (fun h => Dc.no fun ⟨a, _⟩ => ?_) fun h => ?_)) fun h => ?_
    · rw [runT] at a; simp only [Bool.and_eq_true, beq_iff_eq] at a; simp [a.1] at h
    · have hn : n = f + v := by simpa using h
      refine Dc.bind (Dc.of (ev_rIs l n kind)) (fun hi => ?_) fun hi => Dc.ite (fun h => (by cases h)) fun _ => Dc.no fun ⟨_, a⟩ => ?_
      · have hs := isT_spec hi
        refine Dc.ite (fun _ => Dc.pure (gidx_ent hs.1 hs.2.1) (Dc.ite (fun h => Dc.no fun ⟨_, a⟩ => ?_) fun h => Dc.ite (fun h => Dc.no fun ⟨_, a⟩ => ?_) fun h2 => ?_)) fun h => (by cases h)
        · rw [memT] at a; simp only [Bool.and_eq_true, beq_iff_eq] at a; simp [a.1.1.2] at h
        · rw [memT] at a; simp only [Bool.and_eq_true, beq_iff_eq] at a; simp [a.1.2] at h
        · rw [w64_nat v (by omega)]
          refine (dc_row l p f of kind hf hl hp r (v + 1) (drop_next hd)).iff ?_
          have h3 : (ent l n).fam = of := by simpa using h
          have h4 : (ent l n).place = v := by simpa using h2
          rw [runT, memT, hi, h3, h4]
          simp only [beq_self_eq_true, Bool.true_and, Bool.and_eq_true, beq_iff_eq]
          rw [show f + ((v + 1 : Nat) : Int) = f + v + 1 by omega, show ((v + 1 : Nat) : Int) = (v : Int) + 1 by omega]
          exact ⟨fun ⟨a, b⟩ => ⟨⟨hn, a⟩, b⟩, fun ⟨⟨_, a⟩, b⟩ => ⟨a, b⟩⟩
      · rw [memT] at a; simp only [Bool.and_eq_true] at a; exact hi a.1.1.1
    · rw [drop_dec hd] at h; cases h
theorem ev_rSplitL (N : Nat) (hN : N ≤ 24) : ∀ (m v : Nat) (acc : List Tm) (x : Tm), v + m = N → goodT x = true → acc.length ≤ v → Evt (fun q => e214L63111 q (N : Int) acc (v : Int) x.k x.n x.sub) (splR acc (splT m x)) := by
  intro m
  induction m with
  | zero =>
    intro v acc x hm hg ha
    refine Evt.succ ?_
    simp only [e214L63111]
    refine Evt.ifF (decide_eq_false (by omega)) (Evt.ret.eq ?_)
    rw [splT, splR, tm_eta]; simp
  | succ m ih =>
    intro v acc x hm hg ha
    refine Evt.succ ?_
    simp only [e214L63111]
    refine Evt.ifT (decide_eq_true (by omega)) ?_
    by_cases h : x.k = 3
    · obtain ⟨a, b, hx, hga, hgb⟩ := pi_form hg h
      refine Evt.ifF (by simp [h]) ?_
      have hs : x.sub = [a, b] := by rw [hx]; rfl
      rw [hs]
      refine Evt.pure (a := a) rfl (Evt.pure (gapp_ok (by simp <;> omega)) (Evt.pure (a := b) rfl ?_))
      rw [w64_nat v (by omega)]
      refine (ih (v + 1) (acc ++ [a]) b (by omega) hgb (by simp <;> omega)).eq ?_
      rw [hx, splT_pi]
      cases splT m b <;> simp [splR]
    · rw [splT_not h, splR]
      exact Evt.ifT (by simp [h]) Evt.ret
theorem ev_rSplit (t : Tm) (n : Int) (ho : t.Ok) : Evt (fun q => e214 q t n) (splitT t n) := by
  simp only [e214]
  unfold splitT
  refine (ev_rShaped t ho).bind ?_
  by_cases hs : shapedT t = true
  · refine Evt.ifT hs ?_
    rw [if_pos hs]
    by_cases h0 : n < 0
    · rw [if_pos h0]; exact Evt.ifT (decide_eq_true h0) Evt.ret
    · rw [if_neg h0]
      refine Evt.ifF (decide_eq_false h0) ?_
      by_cases h1 : n > 24
      · rw [if_pos h1]; exact Evt.ifT (decide_eq_true h1) Evt.ret
      · rw [if_neg h1]
        refine Evt.ifF (decide_eq_false h1) ?_
        have := ev_rSplitL n.toNat (by omega) n.toNat 0 [] t (by omega) (shapedT_spec hs).2.2 (by simp)
        rwa [show ((n.toNat : Nat) : Int) = n by omega] at this
  · rw [if_neg hs]; exact Evt.ifF (by simpa using hs) Evt.ret
def e149 (qq:Nat) (p0:List Ent) (p1:Int):Option (Bool) :=
 gidx p0 p1 >>= fun x1 =>
 if decide (x1.pars < 0) then
 some false
 else
 if decide (x1.inds < 0) then
 some false
 else
 if decide (x1.pars > 24) then
 some false
 else
 if decide (x1.inds > 24) then
 some false
 else
 if decide ((w64 (x1.pars + x1.inds)) > 24) then
 some false
 else
 if x1.fam != 0 then
 some false
 else
 if x1.place != 0 then
 some false
 else
 e213 qq x1.body >>= fun r10 =>
 if r10 then
 e214 qq x1.type (w64 (x1.pars + x1.inds)) >>= fun r13 =>
 if r13.2.2 != 0 then
 some false
 else
 if r13.2.1.k != 2 then
 some false
 else
 if r13.2.1.n != x1.level then
 some false
 else
 if decide ((List.length x1.cons:Int) > 16) then
 some false
 else
 e215 qq p0 x1.cons (w64 (p1 + 1)) p1 2 >>= fun r19 =>
 if r19 then
 if (List.length x1.fields:Int) == 0 then
 some true
 else
 if x1.inds == 0 then
 if (List.length x1.cons:Int) == 1 then
 e215 qq p0 x1.fields (w64 (p1 + 2)) p1 4 >>= fun r25 =>
 if r25 then
 gidx p0 (w64 (p1 + 1)) >>= fun x28 =>
 e39 qq x28.type >>= fun r30 =>
 if r30 then
 e126 qq x28.type >>= fun r33 =>
 some ((List.length r33:Int) == (w64 (x1.pars + (List.length x1.fields:Int))))
 else
 some false
 else
 some false
 else
 some false
 else
 some false
 else
 some false
 else
 some false
abbrev K149 (p0:List Ent) (p1:Int) (r:Bool) (C:Cf):Prop:=C 149 [] [slv entL p0 .no,ai p1] (ab r) [] 0
theorem q149:Qf 149 Tryz.f149:=⟨Tryz.func149,by kernel_rfl⟩
theorem k149 {p0 p1 r} (h:K149 p0 p1 r Ci):K149 p0 p1 r Ct:=⟨h,⟨⟨tv,dE _⟩,tv,tv⟩,forall_nil,tv,forall_nil⟩
theorem c149 {qq p0 p1 r} (h:e149 qq p0 p1 = some r):K149 p0 p1 r Ct:=by
 unfold e149 at h
 obtain ⟨x1,h2,h⟩:=obind h
 have k:=oA 0 (ix22 (o:=.no) h2) o0
 rcases spl h with ⟨h3,h⟩ | ⟨h3,h⟩
 obtain rfl:=sj h
 exact k149 (tF q149 0 [] (oB 3 h3 k))
 have k:=oB 3 h3 k
 rcases spl h with ⟨h4,h⟩ | ⟨h4,h⟩
 obtain rfl:=sj h
 exact k149 (tF q149 0 [] (oB 1 h4 k))
 have k:=oB 1 h4 k
 rcases spl h with ⟨h5,h⟩ | ⟨h5,h⟩
 obtain rfl:=sj h
 exact k149 (tF q149 0 [] (oB 1 h5 k))
 have k:=oB 1 h5 k
 rcases spl h with ⟨h6,h⟩ | ⟨h6,h⟩
 obtain rfl:=sj h
 exact k149 (tF q149 0 [] (oB 1 h6 k))
 have k:=oB 1 h6 k
 rcases spl h with ⟨h7,h⟩ | ⟨h7,h⟩
 obtain rfl:=sj h
 exact k149 (tF q149 0 [] (oB 3 h7 k))
 have k:=oB 3 h7 k
 rcases spl h with ⟨h8,h⟩ | ⟨h8,h⟩
 obtain rfl:=sj h
 exact k149 (tF q149 0 [] (oB 1 h8 k))
 have k:=oB 1 h8 k
 rcases spl h with ⟨h9,h⟩ | ⟨h9,h⟩
 obtain rfl:=sj h
 exact k149 (tF q149 0 [] (oB 1 h9 k))
 obtain ⟨r10,h11,h⟩:=obind h
 have k:=oB 1 h9 k
 rcases spl h with ⟨h12,h⟩ | ⟨h12,h⟩
 obtain ⟨r13,h14,h⟩:=obind h
 have k:=oC 5 [] (c214 h14) <| oK 1 [] h12 (c213 h11) k
 rcases spl h with ⟨h15,h⟩ | ⟨h15,h⟩
 obtain rfl:=sj h
 exact k149 (tF q149 0 [] (oB 4 h15 k))
 have k:=oB 4 h15 k
 rcases spl h with ⟨h16,h⟩ | ⟨h16,h⟩
 obtain rfl:=sj h
 exact k149 (tF q149 0 [] (oB 1 h16 k))
 have k:=oB 1 h16 k
 rcases spl h with ⟨h17,h⟩ | ⟨h17,h⟩
 obtain rfl:=sj h
 exact k149 (tF q149 0 [] (oB 2 h17 k))
 have k:=oB 2 h17 k
 rcases spl h with ⟨h18,h⟩ | ⟨h18,h⟩
 obtain rfl:=sj h
 exact k149 (tF q149 0 [] (oB 2 h18 k))
 obtain ⟨r19,h20,h⟩:=obind h
 have k:=oB 2 h18 k
 rcases spl h with ⟨h21,h⟩ | ⟨h21,h⟩
 have k:=oK 2 [] h21 (c215 h20) k
 rcases spl h with ⟨h22,h⟩ | ⟨h22,h⟩
 obtain rfl:=sj h
 exact k149 (tF q149 0 [] (oB 3 h22 k))
 have k:=oB 3 h22 k
 rcases spl h with ⟨h23,h⟩ | ⟨h23,h⟩
 have k:=oB 1 h23 k
 rcases spl h with ⟨h24,h⟩ | ⟨h24,h⟩
 obtain ⟨r25,h26,h⟩:=obind h
 have k:=oB 2 h24 k
 rcases spl h with ⟨h27,h⟩ | ⟨h27,h⟩
 obtain ⟨x28,h29,h⟩:=obind h
 obtain ⟨r30,h31,h⟩:=obind h
 have k:=oA 1 (ix22 (o:=.no) h29) <| oK 2 [] h27 (c215 h26) k
 rcases spl h with ⟨h32,h⟩ | ⟨h32,h⟩
 obtain ⟨r33,h34,h⟩:=obind h
 obtain rfl:=sj h
 exact k149 (tF q149 6 [] (oC 1 [] (c126 h34) <| oA 1 (ix22 (o:=.no) h29) <| oK 1 [] h32 (c39 h31) k))
 obtain rfl:=sj h
 exact k149 (tF q149 0 [] (oK 1 [] h32 (c39 h31) k))
 obtain rfl:=sj h
 exact k149 (tF q149 0 [] (oK 2 [] h27 (c215 h26) k))
 obtain rfl:=sj h
 exact k149 (tF q149 0 [] (oB 2 h24 k))
 obtain rfl:=sj h
 exact k149 (tF q149 0 [] (oB 1 h23 k))
 obtain rfl:=sj h
 exact k149 (tF q149 1 [] (oK 2 [] h21 (c215 h20) k))
 obtain rfl:=sj h
 exact k149 (tF q149 1 [] (oK 1 [] h12 (c213 h11) k))
def e150L24288:Nat → Int → Ent → (List Int) → Int → Option (Bool)
 | 0,_,_,_,_ => none
 | qq + 1,p1,x1,v6,v7 =>
 if decide (v7 < (List.length v6:Int)) then
 gidx v6 v7 >>= fun x19 =>
 if x19 == p1 then
 if x1.place == v7 then
 some true
 else
 e150L24288 qq p1 x1 v6 (w64 (v7 + 1))
 else
 e150L24288 qq p1 x1 v6 (w64 (v7 + 1))
 else
 some false
def e150 (qq:Nat) (p0:List Ent) (p1:Int):Option (Bool) :=
 gidx p0 p1 >>= fun x1 =>
 e21 qq p0 x1.fam 1 >>= fun r3 =>
 if r3 then
 if decide (x1.fam ≥ p1) then
 some false
 else
 e213 qq x1.body >>= fun r7 =>
 if r7 then
 if x1.inds != 0 then
 some false
 else
 if x1.level != 0 then
 some false
 else
 if (List.length x1.cons:Int) != 0 then
 some false
 else
 if (List.length x1.fields:Int) != 0 then
 some false
 else
 gidx p0 x1.fam >>= fun x14 =>
 if x1.pars != x14.pars then
 some false
 else
 if x1.kind == 4 then
 e150L24288 qq p1 x1 x14.fields 0
 else
 e150L24288 qq p1 x1 x14.cons 0
 else
 some false
 else
 some false
def g150L24288E0 (j:Nat → Value) (p1:Int) (x1:Ent) (v6:List Int) (v7:Int):=sp j 95 0 [(1,ai p1),(5,.mp 0 0),(6,slv intC v6 .no),(7,ai v7)]
def g150L24288S0 (p1:Int) (x1:Ent) (v6:List Int) (v7:Int):LSt:=⟨[(0,.cells [ai x1.kind,at' x1.name,ai x1.type.k,ai x1.type.n,slv tmCells x1.type.sub .no,ai x1.body.k,ai x1.body.n,slv tmCells x1.body.sub .no,ai x1.fam,ai x1.place,ai x1.pars,ai x1.inds,ai x1.level,slv intC x1.cons .no,slv intC x1.fields .no])],1,[],0,[]⟩
abbrev K150 (p0:List Ent) (p1:Int) (r:Bool) (C:Cf):Prop:=C 150 [] [slv entL p0 .no,ai p1] (ab r) [] 0
theorem q150:Qf 150 Tryz.f150:=⟨Tryz.func150,by kernel_rfl⟩
theorem k150 {p0 p1 r} (h:K150 p0 p1 r Ci):K150 p0 p1 r Ct:=⟨h,⟨⟨tv,dE _⟩,tv,tv⟩,forall_nil,tv,forall_nil⟩
theorem l150L24288:∀ qq:Nat,(∀ p1 x1 v6 v7 r,e150L24288 qq p1 x1 v6 v7 = some r → (∀ j,Dl Tryz.prog 0 (inn (inn (rgt (lft (rgt (rgt (rgt (rgt (rgt (bod Tryz.f150)))))))))) (g150L24288E0 j p1 x1 v6 v7) (g150L24288S0 p1 x1 v6 v7) (frameQ Tryz.prog 0 (FinQ Tryz.prog 0 Tryz.f150 (ab r) [] 0) [.blk 0,.seq (rgt (rgt (rgt (rgt (rgt (rgt (bod Tryz.f150)))))))]))):=by
 intro qq
 induction qq with
 | zero =>
  exact fun _ _ _ _ _ h => nn h
 | succ qq ih =>
  intro p1 x1 v6 v7 r h
  rw [e150L24288] at h
  rcases spl h with ⟨h18,h⟩ | ⟨h18,h⟩
  obtain ⟨x19,h20,h⟩:=obind h
  have k:=oA 0 (ix34 (o:=.no) h20) <| oB 1 h18 o0
  rcases spl h with ⟨h21,h⟩ | ⟨h21,h⟩
  have k:=oB 1 h21 k
  rcases spl h with ⟨h22,h⟩ | ⟨h22,h⟩
  obtain rfl:=sj h
  exact fun j => lF 0 [] (oB 1 h22 k)
  exact fun j => lH 1 [] [0] [] [1,5,6,7] (oD (dI v6) <| oD (dI x1.fields) <| oD (dI x1.cons) <| oD (dT x1.body.sub) <| oD (dT x1.type.sub) <| oB 1 h22 k) (ih _ _ _ _ _ h)
  exact fun j => lH 1 [] [0] [] [1,5,6,7] (oD (dI v6) <| oD (dI x1.fields) <| oD (dI x1.cons) <| oD (dT x1.body.sub) <| oD (dT x1.type.sub) <| oB 1 h21 k) (ih _ _ _ _ _ h)
  obtain rfl:=sj h
  exact fun j => lF 0 [] (oB 1 h18 o0)
theorem c150 {qq p0 p1 r} (h:e150 qq p0 p1 = some r):K150 p0 p1 r Ct:=by
 unfold e150 at h
 obtain ⟨x1,h2,h⟩:=obind h
 obtain ⟨r3,h4,h⟩:=obind h
 have k:=oA 0 (ix22 (o:=.no) h2) o0
 rcases spl h with ⟨h5,h⟩ | ⟨h5,h⟩
 have k:=oK 3 [] h5 (c21 h4) k
 rcases spl h with ⟨h6,h⟩ | ⟨h6,h⟩
 obtain rfl:=sj h
 exact k150 (tF q150 0 [] (oB 2 h6 k))
 obtain ⟨r7,h8,h⟩:=obind h
 have k:=oB 2 h6 k
 rcases spl h with ⟨h9,h⟩ | ⟨h9,h⟩
 have k:=oK 1 [] h9 (c213 h8) k
 rcases spl h with ⟨h10,h⟩ | ⟨h10,h⟩
 obtain rfl:=sj h
 exact k150 (tF q150 0 [] (oB 2 h10 k))
 have k:=oB 2 h10 k
 rcases spl h with ⟨h11,h⟩ | ⟨h11,h⟩
 obtain rfl:=sj h
 exact k150 (tF q150 0 [] (oB 1 h11 k))
 have k:=oB 1 h11 k
 rcases spl h with ⟨h12,h⟩ | ⟨h12,h⟩
 obtain rfl:=sj h
 exact k150 (tF q150 0 [] (oB 2 h12 k))
 have k:=oB 2 h12 k
 rcases spl h with ⟨h13,h⟩ | ⟨h13,h⟩
 obtain rfl:=sj h
 exact k150 (tF q150 0 [] (oB 2 h13 k))
 obtain ⟨x14,h15,h⟩:=obind h
 have k:=oA 2 (ix22 (o:=.no) h15) <| oB 2 h13 k
 rcases spl h with ⟨h16,h⟩ | ⟨h16,h⟩
 obtain rfl:=sj h
 exact k150 (tF q150 0 [] (oB 1 h16 k))
 have k:=oA 1 (ix22 (o:=.no) h15) <| oB 1 h16 k
 rcases spl h with ⟨h17,h⟩ | ⟨h17,h⟩
 exact k150 (tH q150 1 [] [0] [] [1,5,6,7] (oD (dI x14.fields) <| oD (dI x1.fields) <| oD (dI x1.cons) <| oD (dT x1.body.sub) <| oD (dT x1.type.sub) <| oA 1 (ix22 (o:=.no) h15) <| oB 2 h17 k) (l150L24288 _ _ _ _ _ _ h))
 exact k150 (tH q150 0 [] [0] [] [1,5,6,7] (oD (dI x14.cons) <| oD (dI x1.fields) <| oD (dI x1.cons) <| oD (dT x1.body.sub) <| oD (dT x1.type.sub) <| oB 2 h17 k) (l150L24288 _ _ _ _ _ _ h))
 obtain rfl:=sj h
 exact k150 (tF q150 1 [] (oK 1 [] h9 (c213 h8) k))
 obtain rfl:=sj h
 exact k150 (tF q150 1 [] (oK 3 [] h5 (c21 h4) k))
theorem rfam_spec {l : List Ent} {i : Int} (h : RFam l i) : 0 ≤ (ent l i).pars ∧ 0 ≤ (ent l i).inds ∧ (ent l i).pars + (ent l i).inds ≤ 24 := by
  have h1 := h.1
  unfold famA at h1
  simp only [Bool.and_eq_true, decide_eq_true_eq] at h1
  exact ⟨by omega, by omega, by omega⟩
theorem dc_rfamily (l : List Ent) (i : Int) (h0 : 0 ≤ i) (h1 : i < l.length) (hl : l.length ≤ 65535) (he : ∀ e ∈ l, EOk e) : Dc (fun q => e149 q l i) (RFam l i) := by
  have hx := he _ (ent_mem h0 h1)
  simp only [e149]
  refine Dc.pure (gidx_ent h0 h1) ?_
  have no : (famA (ent l i) = false ∨ famB (ent l i) = false ∨ famC l i (ent l i) = false) → ¬ RFam l i := fun h k => by
    rcases h with h | h | h
    · rw [k.1] at h; cases h
    · rw [k.2.1] at h; cases h
    · rw [k.2.2.1] at h; cases h
  refine Dc.ite (fun a => Dc.no (no (.inl ?_))) fun a1 => Dc.ite (fun a => Dc.no (no (.inl ?_))) fun a2 => Dc.ite (fun a => Dc.no (no (.inl ?_))) fun a3 => Dc.ite (fun a => Dc.no (no (.inl ?_))) fun a4 => ?_
  · have := of_decide_eq_true a; unfold famA; rw [decide_eq_false (by omega)]; simp
  · have := of_decide_eq_true a; unfold famA; rw [decide_eq_false (p := 0 ≤ (ent l i).inds) (by omega)]; simp
  · have := of_decide_eq_true a; unfold famA; rw [decide_eq_false (p := (ent l i).pars ≤ 24) (by omega)]; simp
  · have := of_decide_eq_true a; have := of_decide_eq_false a1; unfold famA; rw [decide_eq_false (p := (ent l i).inds ≤ 24 - (ent l i).pars) (by omega)]; simp
  have a1 := of_decide_eq_false a1
  have a2 := of_decide_eq_false a2
  have a3 := of_decide_eq_false a3
  have a4 := of_decide_eq_false a4
  rw [w64_id (x := (ent l i).pars + (ent l i).inds) (by omega) (by omega)]
  refine Dc.ite (fun a => Dc.no (no (.inl ?_))) fun a5 => Dc.ite (fun a => Dc.no (no (.inl ?_))) fun a6 => Dc.ite (fun a => Dc.no (no (.inl ?_))) fun a7 => ?_
  · have := of_decide_eq_true a; unfold famA; rw [decide_eq_false (p := (ent l i).inds ≤ 24 - (ent l i).pars) (by omega)]; simp
  · have : (ent l i).fam ≠ 0 := by simpa using a
    unfold famA; rw [beq_eq_false_iff_ne.2 this]; simp
  · have : (ent l i).place ≠ 0 := by simpa using a
    unfold famA; rw [beq_eq_false_iff_ne.2 this]; simp
  have a5 := of_decide_eq_false a5
  refine Dc.bind (Dc.of (ev_rzero _)) (fun a8 => ?_) fun a8 => Dc.ite (fun h => (by cases h)) fun _ => Dc.no (no (.inl ?_))
  case refine_2 => unfold famA; rw [show noneT (ent l i).body = false by simpa using a8]; simp
  have hA : famA (ent l i) = true := by
    unfold famA
    have b6 : (ent l i).fam = 0 := by simpa using a6
    have b7 : (ent l i).place = 0 := by simpa using a7
    simp only [Bool.and_eq_true, decide_eq_true_eq, beq_iff_eq]
    exact ⟨⟨⟨⟨⟨⟨by omega, by omega⟩, by omega⟩, by omega⟩, b6⟩, b7⟩, a8⟩
  refine Dc.ite (fun _ => ?_) fun h => (by cases h)
  refine Dc.evt (ev_rSplit _ _ hx.1) (Dc.ite (fun a => Dc.no (no (.inr (.inl ?_)))) fun b1 => Dc.ite (fun a => Dc.no (no (.inr (.inl ?_)))) fun b2 => Dc.ite (fun a => Dc.no (no (.inr (.inl ?_)))) fun b3 => Dc.ite (fun a => Dc.no (no (.inr (.inr ?_)))) fun b4 => ?_)
  · unfold famB; rw [show ((splitT (ent l i).type ((ent l i).pars + (ent l i).inds)).2.2 == 0) = false by rw [beq_eq_false_iff_ne]; simpa using a]; simp
  · unfold famB; rw [show ((splitT (ent l i).type ((ent l i).pars + (ent l i).inds)).2.1.k == 2) = false by rw [beq_eq_false_iff_ne]; simpa using a]; simp
  · unfold famB; rw [show ((splitT (ent l i).type ((ent l i).pars + (ent l i).inds)).2.1.n == (ent l i).level) = false by rw [beq_eq_false_iff_ne]; simpa using a]; simp
  · have := of_decide_eq_true a; unfold famC; rw [decide_eq_false (by omega)]; simp
  have hB : famB (ent l i) = true := by
    unfold famB
    simp only [Bool.and_eq_true, beq_iff_eq]
    exact ⟨⟨by simpa using b1, by simpa using b2⟩, by simpa using b3⟩
  have b4 := of_decide_eq_false b4
  rw [w64_id (x := i + 1) (by omega) (by omega)]
  have hrow := dc_row l (ent l i).cons (i + 1) i 2 (by omega) hl hx.2.2.1 (ent l i).cons 0 rfl
  refine Dc.bind (Q := runT (ent l i).cons (i + 1) = true ∧ memT l i 2 (ent l i).cons 0 = true) (by simp only [e215]; exact hrow.iff (by simp)) (fun b5 => ?_) fun b5 => Dc.ite (fun h => (by cases h)) fun _ => Dc.no (no (.inr (.inr ?_)))
  case refine_2 =>
    unfold famC
    cases r1 : runT (ent l i).cons (i + 1) with
    | false => simp
    | true => rw [show memT l i 2 (ent l i).cons 0 = false by cases r2 : memT l i 2 (ent l i).cons 0 with | false => rfl | true => exact absurd ⟨r1, r2⟩ b5]; simp
  have hC : famC l i (ent l i) = true := by
    unfold famC
    simp only [Bool.and_eq_true, decide_eq_true_eq]
    exact ⟨⟨by omega, b5.1⟩, b5.2⟩
  refine Dc.ite (fun _ => ?_) fun h => (by cases h)
  refine Dc.ite (fun c1 => Dc.yes ⟨hA, hB, hC, .inl ?_⟩) fun c1 => ?_
  · have : ((ent l i).fields.length : Int) = 0 := by simpa using c1
    omega
  have c1' : ¬ (ent l i).fields.length = 0 := fun h => by rw [h] at c1; simp at c1
  have no2 : ∀ {P : Prop}, (P → False) → (RFam l i → P) → ¬ RFam l i := fun h k m => h (k m)
  have rest : RFam l i → (ent l i).inds = 0 ∧ (ent l i).cons.length = 1 ∧ runT (ent l i).fields (i + 2) = true ∧ memT l i 4 (ent l i).fields 0 = true ∧ shapedT (ent l (i + 1)).type = true ∧ (pisT (ent l (i + 1)).type : Int) = (ent l i).pars + (ent l i).fields.length := fun h => h.2.2.2.resolve_left c1'
  refine Dc.ite (fun c2 => ?_) fun c2 => Dc.no fun h => ?_
  case refine_2 => have := (rest h).1; rw [this] at c2; simp at c2
  have c2' : (ent l i).inds = 0 := by simpa using c2
  refine Dc.ite (fun c3 => ?_) fun c3 => Dc.no fun h => ?_
  case refine_2 => have := (rest h).2.1; rw [this] at c3; simp at c3
  have c3' : (ent l i).cons.length = 1 := by have : ((ent l i).cons.length : Int) = 1 := by simpa using c3
                                             omega
  rw [w64_id (x := i + 2) (by omega) (by omega)]
  have hrow2 := dc_row l (ent l i).fields (i + 2) i 4 (by omega) hl hx.2.2.2 (ent l i).fields 0 rfl
  refine Dc.bind (Q := runT (ent l i).fields (i + 2) = true ∧ memT l i 4 (ent l i).fields 0 = true) (by simp only [e215]; exact hrow2.iff (by simp)) (fun c4 => ?_) fun c4 => Dc.ite (fun h => (by cases h)) fun _ => Dc.no fun h => c4 ⟨(rest h).2.2.1, (rest h).2.2.2.1⟩
  refine Dc.ite (fun _ => ?_) fun h => (by cases h)
  have hnext : i + 1 < l.length := by
    have h5 := b5
    obtain ⟨n, hn⟩ : ∃ n, (ent l i).cons = [n] := by
      rcases hc : (ent l i).cons with _ | ⟨n, _ | ⟨m, r⟩⟩
      · rw [hc] at c3'; simp at c3'
      · exact ⟨n, rfl⟩
      · rw [hc] at c3'; simp at c3'
    rw [hn, runT, memT] at h5
    simp only [Bool.and_eq_true, beq_iff_eq] at h5
    have := isT_spec h5.2.1.1.1
    omega
  have hx1 := he _ (ent_mem (l := l) (n := i + 1) (by omega) hnext)
  refine Dc.pure (gidx_ent (by omega) hnext) (Dc.bind (Dc.of (ev_rShaped _ hx1.1)) (fun c5 => ?_) fun c5 => Dc.ite (fun h => (by cases h)) fun _ => Dc.no fun h => c5 (rest h).2.2.2.2.1)
  refine Dc.ite (fun _ => ?_) fun h => (by cases h)
  have hsp := shapedT_spec c5
  obtain ⟨L, y, hs, hL, hk, -⟩ := tel_spec hsp.2.2
  refine Dc.evt (ev_Tele hsp.2.2 hsp.1 hs hk) (Dc.ret ?_)
  have hw : w64 ((ent l i).pars + ((ent l i).fields.length : Int)) = (ent l i).pars + (ent l i).fields.length := w64_id (by have := hx.2.2.2; omega) (by have := hx.2.2.2; omega)
  rw [hw, beq_iff_eq, hL]
  exact ⟨fun h => ⟨hA, hB, hC, .inr ⟨c2', c3', c4.1, c4.2, c5, h⟩⟩, fun h => (rest h).2.2.2.2.2⟩
theorem dc_ownedL (i p : Int) (L : List Int) (x : Ent) (hp : x.place = p) (hl : L.length ≤ 1152921504606846976) : ∀ (r : List Int) (v : Nat), L.drop v = r → Dc (fun q => e150L24288 q i x L (v : Int)) (∃ k : Nat, v ≤ k ∧ ∃ h : k < L.length, L[k] = i ∧ p = k)
  | [], v, hd => by
    refine Dc.succ ?_
    simp only [e150L24288]
    refine Dc.ite (fun h => ?_) fun _ => Dc.no fun ⟨k, h1, h2, _⟩ => ?_
    · rw [drop_nil hd] at h; cases h
    · have := List.drop_eq_nil_iff.1 hd; omega
  | n :: r, v, hd => by
    have hlt := drop_lt hd
    have hx : L[v] = n := by
      have := drop_idx hd
      unfold gidx at this
      rw [if_pos (by omega), Int.toNat_natCast, List.getElem?_eq_getElem hlt] at this
      exact Option.some.inj this
    have next := dc_ownedL i p L x hp hl r (v + 1) (drop_next hd)
    have go : ¬ (n = i ∧ p = v) → ((∃ k : Nat, v + 1 ≤ k ∧ ∃ h : k < L.length, L[k] = i ∧ p = k) ↔ ∃ k : Nat, v ≤ k ∧ ∃ h : k < L.length, L[k] = i ∧ p = k) := fun hn => ⟨fun ⟨k, a, b, c⟩ => ⟨k, by omega, b, c⟩, fun ⟨k, a, b, c, d⟩ => by
      by_cases e : k = v
      · subst e; exact absurd ⟨by rw [← hx]; exact c, d⟩ hn
      · exact ⟨k, by omega, b, c, d⟩⟩
    refine Dc.succ ?_
    simp only [e150L24288]
    rw [w64_nat v (by omega)]
    refine Dc.ite (fun _ => Dc.pure (drop_idx hd) (Dc.ite (fun h => Dc.ite (fun k => Dc.yes ?_) fun k => next.iff (go fun e => ?_)) fun h => next.iff (go fun e => ?_))) fun h => ?_
    · have h' : n = i := by simpa using h
      have k' : x.place = v := by simpa using k
      exact ⟨v, Nat.le_refl _, hlt, by rw [hx, h'], by omega⟩
    · have : x.place = v := by omega
      rw [this] at k; simp at k
    · rw [e.1] at h; simp at h
    · rw [drop_dec hd] at h; cases h
theorem dc_rowned (l : List Ent) (i : Int) (h0 : 0 ≤ i) (h1 : i < l.length) (he : ∀ e ∈ l, EOk e) (hk : (ent l i).kind = 2 ∨ (ent l i).kind = 4) : Dc (fun q => e150 q l i) (ownedT l i = true) := by
  have hx := he _ (ent_mem h0 h1)
  simp only [e150]
  refine Dc.pure (gidx_ent h0 h1) ?_
  have need : ownedT l i = true → isT l (ent l i).fam 1 = true ∧ (ent l i).fam < i ∧ (ent l i).pars = (ent l (ent l i).fam).pars ∧ noneT (ent l i).body = true ∧ (ent l i).inds = 0 ∧ (ent l i).level = 0 ∧ (ent l i).cons.length = 0 ∧ (ent l i).fields.length = 0 := fun h => by
    unfold ownedT ownA at h
    simp only [Bool.and_eq_true, decide_eq_true_eq, beq_iff_eq] at h
    exact ⟨h.1.1.1.1.1.1.1.1, h.1.1.1.1.1.1.1.2, h.1.1.1.1.1.1.2, h.1.1.1.1.1.2, h.1.1.1.1.2, h.1.1.1.2, h.1.1.2, h.1.2⟩
  refine Dc.bind (Dc.of (ev_rIs l _ 1)) (fun a1 => ?_) fun a1 => Dc.ite (fun h => (by cases h)) fun _ => Dc.no fun h => a1 (need h).1
  have hi := isT_spec a1
  refine Dc.ite (fun _ => ?_) fun h => (by cases h)
  refine Dc.ite (fun a => Dc.no fun h => ?_) fun a2 => ?_
  · have := of_decide_eq_true a; have := (need h).2.1; omega
  refine Dc.bind (Dc.of (ev_rzero _)) (fun a3 => ?_) fun a3 => Dc.ite (fun h => (by cases h)) fun _ => Dc.no fun h => a3 (need h).2.2.2.1
  refine Dc.ite (fun _ => ?_) fun h => (by cases h)
  refine Dc.ite (fun a => Dc.no fun h => ?_) fun a4 => Dc.ite (fun a => Dc.no fun h => ?_) fun a5 => Dc.ite (fun a => Dc.no fun h => ?_) fun a6 => Dc.ite (fun a => Dc.no fun h => ?_) fun a7 => Dc.pure (gidx_ent hi.1 hi.2.1) (Dc.ite (fun a => Dc.no fun h => ?_) fun a8 => ?_)
  · rw [(need h).2.2.2.2.1] at a; simp at a
  · rw [(need h).2.2.2.2.2.1] at a; simp at a
  · rw [(need h).2.2.2.2.2.2.1] at a; simp at a
  · rw [(need h).2.2.2.2.2.2.2] at a; simp at a
  · rw [(need h).2.2.1] at a; simp at a
  have hA : ownA l i (ent l i) = true := by
    unfold ownA
    have b6 : ((ent l i).cons.length : Int) = 0 := by simpa using a6
    have b7 : ((ent l i).fields.length : Int) = 0 := by simpa using a7
    simp only [Bool.and_eq_true, decide_eq_true_eq, beq_iff_eq]
    exact ⟨⟨⟨⟨⟨⟨⟨a1, by have := of_decide_eq_false a2; omega⟩, by simpa using a8⟩, a3⟩, by simpa using a4⟩, by simpa using a5⟩, by omega⟩, by omega⟩
  have hf := he _ (ent_mem hi.1 hi.2.1)
  have hB : ∀ L : List Int, L = ownL l (ent l i) → L.length ≤ 1152921504606846976 → Dc (fun q => e150L24288 q i (ent l i) L 0) (ownedT l i = true) := fun L hL hl => by
    refine (dc_ownedL i (ent l i).place L (ent l i) rfl hl L 0 rfl).iff ?_
    unfold ownedT ownB
    rw [hA, ← hL]
    simp only [Bool.true_and, Bool.and_eq_true, decide_eq_true_eq, beq_iff_eq]
    constructor
    · rintro ⟨k, -, hk, h1, h2⟩
      rw [h2]
      refine ⟨⟨by omega, by omega⟩, ?_⟩
      rw [Int.toNat_natCast, List.getElem?_eq_getElem hk]; exact h1
    · rintro ⟨⟨g0, g1⟩, g2⟩
      have hk : (ent l i).place.toNat < L.length := by omega
      refine ⟨(ent l i).place.toNat, Nat.zero_le _, hk, ?_, by omega⟩
      rw [List.getElem?_eq_getElem hk] at g2; exact g2
  refine Dc.ite (fun k => ?_) fun k => ?_
  · have k' : (ent l i).kind = 4 := by simpa using k
    exact hB _ (by unfold ownL; rw [if_pos k']) hf.2.2.2
  · have k' : (ent l i).kind ≠ 4 := by simpa using k
    exact hB _ (by unfold ownL; rw [if_neg k']) hf.2.2.1
def e70L50168:Nat → (List Ent) → (List ByteArray) → Int → Option (List ByteArray)
 | 0,_,_,_ => none
 | qq + 1,p0,v3,v4 =>
 if decide (v4 < (List.length p0:Int)) then
 gidx p0 v4 >>= fun x2 =>
 gapp 16 v3 [x2.name] >>= fun l4 =>
 e70L50168 qq p0 l4 (w64 (v4 + 1))
 else
 some v3
def e70 (qq:Nat) (p0:List Ent):Option (List ByteArray) :=
 e70L50168 qq p0 [] 0
def g70L50168E0 (j:Nat → Value) (p0:List Ent) (v3:List ByteArray) (v4:Int):=sp j 21 0 [(0,slv entL p0 .no),(3,slv strC v3 (.st 0 1)),(4,ai v4)]
def g70L50168S0 (p0:List Ent) (v3:List ByteArray) (v4:Int):LSt:=⟨[],0,[0],1,[]⟩
abbrev K70 (p0:List Ent) (r:List ByteArray) (C:Cf):Prop:=C 70 [] [slv entL p0 .no] (.sl (flat strC r) (List.length r) .no) [] 0
theorem q70:Qf 70 Tryz.f70:=⟨Tryz.func70,by kernel_rfl⟩
theorem k70 {p0 r} (h:K70 p0 r Ci):K70 p0 r Ct:=⟨h,⟨⟨tv,dE _⟩,tv⟩,forall_nil,dS _,forall_nil⟩
theorem l70L50168:∀ qq:Nat,(∀ p0 v3 v4 r,e70L50168 qq p0 v3 v4 = some r → (∀ j,Dl Tryz.prog 0 (inn (inn (rgt (lft (rgt (rgt (bod Tryz.f70))))))) (g70L50168E0 j p0 v3 v4) (g70L50168S0 p0 v3 v4) (frameQ Tryz.prog 0 (FinQ Tryz.prog 0 Tryz.f70 (.sl (flat strC r) (List.length r) .no) [] 0) [.blk 0,.seq (rgt (rgt (rgt (bod Tryz.f70))))]))):=by
 intro qq
 induction qq with
 | zero =>
  exact fun _ _ _ _ h => nn h
 | succ qq ih =>
  intro p0 v3 v4 r h
  rw [e70L50168] at h
  rcases spl h with ⟨h1,h⟩ | ⟨h1,h⟩
  obtain ⟨x2,h3,h⟩:=obind h
  obtain ⟨l4,h5,h⟩:=obind h
  exact fun j => lH 1 [] [] [1] [0,3,4] (oD (dS l4) <| oD (dE p0) <| oP 2 (apS116 h5 (by simp)) <| oA 0 (ix22 (o:=.no) h3) <| oB 1 h1 o0) (ih _ _ _ _ h)
  obtain rfl:=sj h
  exact fun j => lF 0 [] (oD (dS v3) <| oB 1 h1 o0)
theorem c70 {qq p0 r} (h:e70 qq p0 = some r):K70 p0 r Ct:=by
 unfold e70 at h
 exact k70 (tH q70 1 [(none,3,1)] [] [0] [0,3,4] (oD (dS ([]:List ByteArray)) <| oD (dE p0) o0) (l70L50168 _ _ _ _ _ h))
def e71 (qq:Nat) (p0:List Ent) (p1:Int):Option (Bool) :=
 gidx p0 p1 >>= fun x1 =>
 e148 qq x1.name >>= fun r3 =>
 if r3 then
 e46 qq x1.type p1 >>= fun r6 =>
 if r6 then
 e126 qq x1.type >>= fun r9 =>
 if x1.kind == 1 then
 e149 qq p0 p1 >>= fun r12 =>
 some r12
 else
 if x1.kind == 3 then
 e46 qq x1.body p1 >>= fun r15 =>
 if r15 then
 if x1.fam == 0 then
 if x1.place == 0 then
 if x1.pars == 0 then
 if x1.inds == 0 then
 if x1.level == 0 then
 if (List.length x1.cons:Int) == 0 then
 some ((List.length x1.fields:Int) == 0)
 else
 some false
 else
 some false
 else
 some false
 else
 some false
 else
 some false
 else
 some false
 else
 some false
 else
 if x1.kind != 2 then
 if x1.kind != 4 then
 some false
 else
 e150 qq p0 p1 >>= fun r26 =>
 if r26 then
 if x1.kind == 2 then
 if decide ((List.length r9:Int) ≤ 24) then
 if decide ((List.length r9:Int) ≥ x1.pars) then
 e152 qq x1.type >>= fun r32 =>
 gidx p0 x1.fam >>= fun x34 =>
 e151 qq r32 x1.fam x1.pars x34.inds (List.length r9:Int) >>= fun r36 =>
 some r36
 else
 some false
 else
 some false
 else
 if decide ((w64 (x1.pars + 1)) ≤ 24) then
 if decide ((List.length r9:Int) ≥ (w64 (x1.pars + 1))) then
 gidx r9 x1.pars >>= fun x40 =>
 e151 qq x40 x1.fam x1.pars 0 x1.pars >>= fun r42 =>
 some r42
 else
 some false
 else
 some false
 else
 some false
 else
 e150 qq p0 p1 >>= fun r44 =>
 if r44 then
 if x1.kind == 2 then
 if decide ((List.length r9:Int) ≤ 24) then
 if decide ((List.length r9:Int) ≥ x1.pars) then
 e152 qq x1.type >>= fun r50 =>
 gidx p0 x1.fam >>= fun x52 =>
 e151 qq r50 x1.fam x1.pars x52.inds (List.length r9:Int) >>= fun r54 =>
 some r54
 else
 some false
 else
 some false
 else
 if decide ((w64 (x1.pars + 1)) ≤ 24) then
 if decide ((List.length r9:Int) ≥ (w64 (x1.pars + 1))) then
 gidx r9 x1.pars >>= fun x58 =>
 e151 qq x58 x1.fam x1.pars 0 x1.pars >>= fun r60 =>
 some r60
 else
 some false
 else
 some false
 else
 some false
 else
 some false
 else
 some false
abbrev K71 (p0:List Ent) (p1:Int) (r:Bool) (C:Cf):Prop:=C 71 [] [slv entL p0 .no,ai p1] (ab r) [] 0
theorem q71:Qf 71 Tryz.f71:=⟨Tryz.func71,by kernel_rfl⟩
theorem k71 {p0 p1 r} (h:K71 p0 p1 r Ci):K71 p0 p1 r Ct:=⟨h,⟨⟨tv,dE _⟩,tv,tv⟩,forall_nil,tv,forall_nil⟩
theorem c71 {qq p0 p1 r} (h:e71 qq p0 p1 = some r):K71 p0 p1 r Ct:=by
 unfold e71 at h
 obtain ⟨x1,h2,h⟩:=obind h
 obtain ⟨r3,h4,h⟩:=obind h
 have k:=oA 0 (ix22 (o:=.no) h2) o0
 rcases spl h with ⟨h5,h⟩ | ⟨h5,h⟩
 obtain ⟨r6,h7,h⟩:=obind h
 have k:=oK 3 [] h5 (c148 h4) k
 rcases spl h with ⟨h8,h⟩ | ⟨h8,h⟩
 obtain ⟨r9,h10,h⟩:=obind h
 have k:=oC 2 [] (c126 h10) <| oK 2 [] h8 (c46 h7) k
 rcases spl h with ⟨h11,h⟩ | ⟨h11,h⟩
 obtain ⟨r12,h13,h⟩:=obind h
 obtain rfl:=sj h
 exact k71 (tF q71 0 [] (oC 0 [] (c149 h13) <| oB 2 h11 k))
 have k:=oB 2 h11 k
 rcases spl h with ⟨h14,h⟩ | ⟨h14,h⟩
 obtain ⟨r15,h16,h⟩:=obind h
 have k:=oB 1 h14 k
 rcases spl h with ⟨h17,h⟩ | ⟨h17,h⟩
 have k:=oK 1 [] h17 (c46 h16) k
 rcases spl h with ⟨h18,h⟩ | ⟨h18,h⟩
 have k:=oB 1 h18 k
 rcases spl h with ⟨h19,h⟩ | ⟨h19,h⟩
 have k:=oB 1 h19 k
 rcases spl h with ⟨h20,h⟩ | ⟨h20,h⟩
 have k:=oB 1 h20 k
 rcases spl h with ⟨h21,h⟩ | ⟨h21,h⟩
 have k:=oB 1 h21 k
 rcases spl h with ⟨h22,h⟩ | ⟨h22,h⟩
 have k:=oB 1 h22 k
 rcases spl h with ⟨h23,h⟩ | ⟨h23,h⟩
 obtain rfl:=sj h
 exact k71 (tF q71 3 [] (oB 2 h23 k))
 obtain rfl:=sj h
 exact k71 (tF q71 0 [] (oB 2 h23 k))
 obtain rfl:=sj h
 exact k71 (tF q71 0 [] (oB 1 h22 k))
 obtain rfl:=sj h
 exact k71 (tF q71 0 [] (oB 1 h21 k))
 obtain rfl:=sj h
 exact k71 (tF q71 0 [] (oB 1 h20 k))
 obtain rfl:=sj h
 exact k71 (tF q71 0 [] (oB 1 h19 k))
 obtain rfl:=sj h
 exact k71 (tF q71 0 [] (oB 1 h18 k))
 obtain rfl:=sj h
 exact k71 (tF q71 0 [] (oK 1 [] h17 (c46 h16) k))
 have k:=oB 1 h14 k
 rcases spl h with ⟨h24,h⟩ | ⟨h24,h⟩
 have k:=oB 1 h24 k
 rcases spl h with ⟨h25,h⟩ | ⟨h25,h⟩
 obtain rfl:=sj h
 exact k71 (tF q71 0 [] (oB 1 h25 k))
 obtain ⟨r26,h27,h⟩:=obind h
 have k:=oB 1 h25 k
 rcases spl h with ⟨h28,h⟩ | ⟨h28,h⟩
 have k:=oK 0 [] h28 (c150 h27) k
 rcases spl h with ⟨h29,h⟩ | ⟨h29,h⟩
 have k:=oB 2 h29 k
 rcases spl h with ⟨h30,h⟩ | ⟨h30,h⟩
 have k:=oB 0 h30 k
 rcases spl h with ⟨h31,h⟩ | ⟨h31,h⟩
 obtain ⟨r32,h33,h⟩:=obind h
 obtain ⟨x34,h35,h⟩:=obind h
 obtain ⟨r36,h37,h⟩:=obind h
 obtain rfl:=sj h
 exact k71 (tF q71 0 [] (oC 1 [] (c151 h37) <| oA 3 (ix22 (o:=.no) h35) <| oC 1 [] (c152 h33) <| oB 1 h31 k))
 obtain rfl:=sj h
 exact k71 (tF q71 0 [] (oB 1 h31 k))
 obtain rfl:=sj h
 exact k71 (tF q71 0 [] (oB 0 h30 k))
 have k:=oB 2 h29 k
 rcases spl h with ⟨h38,h⟩ | ⟨h38,h⟩
 have k:=oB 2 h38 k
 rcases spl h with ⟨h39,h⟩ | ⟨h39,h⟩
 obtain ⟨x40,h41,h⟩:=obind h
 obtain ⟨r42,h43,h⟩:=obind h
 obtain rfl:=sj h
 exact k71 (tF q71 0 [] (oC 4 [] (c151 h43) <| oA 1 (ix23 (o:=.no) h41) <| oC 1 [] (c126 h10) <| oB 2 h39 k))
 obtain rfl:=sj h
 exact k71 (tF q71 0 [] (oB 2 h39 k))
 obtain rfl:=sj h
 exact k71 (tF q71 0 [] (oB 2 h38 k))
 obtain rfl:=sj h
 exact k71 (tF q71 1 [] (oK 0 [] h28 (c150 h27) k))
 obtain ⟨r44,h45,h⟩:=obind h
 have k:=oB 1 h24 k
 rcases spl h with ⟨h46,h⟩ | ⟨h46,h⟩
 have k:=oK 0 [] h46 (c150 h45) k
 rcases spl h with ⟨h47,h⟩ | ⟨h47,h⟩
 have k:=oB 2 h47 k
 rcases spl h with ⟨h48,h⟩ | ⟨h48,h⟩
 have k:=oB 0 h48 k
 rcases spl h with ⟨h49,h⟩ | ⟨h49,h⟩
 obtain ⟨r50,h51,h⟩:=obind h
 obtain ⟨x52,h53,h⟩:=obind h
 obtain ⟨r54,h55,h⟩:=obind h
 obtain rfl:=sj h
 exact k71 (tF q71 0 [] (oC 1 [] (c151 h55) <| oA 3 (ix22 (o:=.no) h53) <| oC 1 [] (c152 h51) <| oB 1 h49 k))
 obtain rfl:=sj h
 exact k71 (tF q71 0 [] (oB 1 h49 k))
 obtain rfl:=sj h
 exact k71 (tF q71 0 [] (oB 0 h48 k))
 have k:=oB 2 h47 k
 rcases spl h with ⟨h56,h⟩ | ⟨h56,h⟩
 have k:=oB 2 h56 k
 rcases spl h with ⟨h57,h⟩ | ⟨h57,h⟩
 obtain ⟨x58,h59,h⟩:=obind h
 obtain ⟨r60,h61,h⟩:=obind h
 obtain rfl:=sj h
 exact k71 (tF q71 0 [] (oC 4 [] (c151 h61) <| oA 1 (ix23 (o:=.no) h59) <| oC 1 [] (c126 h10) <| oB 2 h57 k))
 obtain rfl:=sj h
 exact k71 (tF q71 0 [] (oB 2 h57 k))
 obtain rfl:=sj h
 exact k71 (tF q71 0 [] (oB 2 h56 k))
 obtain rfl:=sj h
 exact k71 (tF q71 1 [] (oK 0 [] h46 (c150 h45) k))
 obtain rfl:=sj h
 exact k71 (tF q71 1 [] (oK 2 [] h8 (c46 h7) k))
 obtain rfl:=sj h
 exact k71 (tF q71 1 [] (oK 3 [] h5 (c148 h4) k))
def e20L23989:Nat → (List Ent) → Int → Option (Bool)
 | 0,_,_ => none
 | qq + 1,p0,v3 =>
 if decide (v3 < (List.length p0:Int)) then
 e71 qq p0 v3 >>= fun r8 =>
 if r8 then
 e20L23989 qq p0 (w64 (v3 + 1))
 else
 some false
 else
 some true
def e20 (qq:Nat) (p0:List Ent):Option (Bool) :=
 if decide ((List.length p0:Int) > 256) then
 some false
 else
 e70 qq p0 >>= fun r2 =>
 e69 qq r2 >>= fun r4 =>
 if r4 then
 e20L23989 qq p0 0
 else
 some false
def g20L23989E0 (j:Nat → Value) (p0:List Ent) (v3:Int):=sp j 23 0 [(0,slv entL p0 .no),(3,ai v3)]
def g20L23989S0 (p0:List Ent) (v3:Int):LSt:=⟨[],0,[],0,[]⟩
abbrev K20 (p0:List Ent) (r:Bool) (C:Cf):Prop:=C 20 [] [slv entL p0 .no] (ab r) [] 0
theorem q20:Qf 20 Tryz.f20:=⟨Tryz.func20,by kernel_rfl⟩
theorem k20 {p0 r} (h:K20 p0 r Ci):K20 p0 r Ct:=⟨h,⟨⟨tv,dE _⟩,tv⟩,forall_nil,tv,forall_nil⟩
theorem l20L23989:∀ qq:Nat,(∀ p0 v3 r,e20L23989 qq p0 v3 = some r → (∀ j,Dl Tryz.prog 0 (inn (inn (rgt (lft (rgt (rgt (bod Tryz.f20))))))) (g20L23989E0 j p0 v3) (g20L23989S0 p0 v3) (frameQ Tryz.prog 0 (FinQ Tryz.prog 0 Tryz.f20 (ab r) [] 0) [.blk 0,.seq (rgt (rgt (rgt (bod Tryz.f20))))]))):=by
 intro qq
 induction qq with
 | zero =>
  exact fun _ _ _ h => nn h
 | succ qq ih =>
  intro p0 v3 r h
  rw [e20L23989] at h
  rcases spl h with ⟨h7,h⟩ | ⟨h7,h⟩
  obtain ⟨r8,h9,h⟩:=obind h
  have k:=oB 1 h7 o0
  rcases spl h with ⟨h10,h⟩ | ⟨h10,h⟩
  exact fun j => lH 2 [] [] [] [0,3] (oD (dE p0) <| oK 0 [] h10 (c71 h9) k) (ih _ _ _ h)
  obtain rfl:=sj h
  exact fun j => lF 1 [] (oK 0 [] h10 (c71 h9) k)
  obtain rfl:=sj h
  exact fun j => lF 0 [] (oB 1 h7 o0)
theorem c20 {qq p0 r} (h:e20 qq p0 = some r):K20 p0 r Ct:=by
 unfold e20 at h
 rcases spl h with ⟨h1,h⟩ | ⟨h1,h⟩
 obtain rfl:=sj h
 exact k20 (tF q20 0 [] (oB 1 h1 o0))
 obtain ⟨r2,h3,h⟩:=obind h
 obtain ⟨r4,h5,h⟩:=obind h
 have k:=oC 0 [] (c70 h3) <| oB 1 h1 o0
 rcases spl h with ⟨h6,h⟩ | ⟨h6,h⟩
 exact k20 (tH q20 1 [] [] [] [0,3] (oD (dE p0) <| oK 0 [] h6 (c69 h5) k) (l20L23989 _ _ _ _ h))
 obtain rfl:=sj h
 exact k20 (tF q20 1 [] (oK 0 [] h6 (c69 h5) k))
def FamsR (l : List Ent) (i : Int) : Prop := ∀ j, 0 ≤ j → j < i → (ent l j).kind = 1 → RFam l j
theorem closed_sh {t : Tm} {n : Int} (h : closedT' t n = true) : shapedT t = true := by
  unfold closedT' rightT at h
  simp only [Bool.and_eq_true] at h
  exact h.1.1.1
theorem split_tel {t : Tm} (hs : shapedT t = true) {L : List Tm} {y : Tm} (h : splT (pisT t) t = some (L, y)) (hp : pisT t ≤ 24) : wholeT t = (L, y, 0) := by
  unfold wholeT splitT
  rw [if_pos hs, if_neg (by omega), if_neg (by omega), show (((min (pisT t) 25 : Nat) : Int)).toNat = pisT t by omega, h]
  rfl
theorem whole_long {t : Tm} (hp : ¬ pisT t ≤ 24) : (wholeT t).2.2 ≠ 0 := by
  unfold wholeT splitT
  rw [show ((min (pisT t) 25 : Nat) : Int) = 25 by omega]
  split
  · rw [if_neg (by omega), if_pos (by omega)]; decide
  · decide
theorem splT_take : ∀ (n m : Nat) (t : Tm) (L : List Tm) (y : Tm), goodT t = true → splT n t = some (L, y) → m ≤ n → ∃ z, splT m t = some (L.take m, z)
  | _, 0, t, L, y, _, h, _ => ⟨t, by rw [splT]; simp⟩
  | 0, m + 1, _, _, _, _, _, hm => by omega
  | n + 1, m + 1, t, L, y, hg, h, hm => by
    by_cases h3 : t.k = 3
    · obtain ⟨a, b, hx, hga, hgb⟩ := pi_form hg h3
      rw [hx, splT_pi] at h
      obtain ⟨r', h1, h2⟩ := Option.map_eq_some_iff.1 h
      cases h2
      obtain ⟨z, hz⟩ := splT_take n m b r'.1 r'.2 hgb h1 (by omega)
      exact ⟨z, by rw [hx, splT_pi, hz]; rfl⟩
    · rw [splT_not h3] at h; cases h
theorem split_pos {t : Tm} (hs : shapedT t = true) {L : List Tm} {y : Tm} (h : splT (pisT t) t = some (L, y)) {n : Nat} (hn : n ≤ 24) : ((splitT t n).2.2 = 0 ↔ n ≤ pisT t) ∧ (n ≤ pisT t → (splitT t n).1 = L.take n) := by
  have hg := (shapedT_spec hs).2.2
  have e : splitT t (n : Int) = splR [] (splT n t) := by
    unfold splitT
    rw [if_pos hs, if_neg (by omega), if_neg (by omega), Int.toNat_natCast]
  rw [e]
  by_cases hp : n ≤ pisT t
  · obtain ⟨z, hz⟩ := splT_take (pisT t) n t L y hg h hp
    rw [hz]
    exact ⟨⟨fun _ => hp, fun _ => rfl⟩, fun _ => by simp [splR]⟩
  · have hno : splT n t = none := by
      cases hx : splT n t with
      | none => rfl
      | some r => have := (splT_spec n t r hg hx).2.1; omega
    rw [hno]
    exact ⟨⟨fun h => (by simp [splR] at h), fun h => absurd h hp⟩, fun h => absurd h hp⟩
theorem dc_rentry {N : ByteArray → Bool} (hN : NamesBy N) (l : List Ent) (i : Int) (h0 : 0 ≤ i) (h1 : i < l.length) (hl : l.length ≤ 65535) (he : ∀ e ∈ l, EOk e) (hF : FamsR l i) : Dc (fun q => e71 q l i) (REnt N l i) := by
  have hx := he _ (ent_mem h0 h1)
  simp only [e71]
  refine Dc.pure (gidx_ent h0 h1) (Dc.bind (Dc.of (ev_refName hN _)) (fun a1 => ?_) fun a1 => Dc.ite (fun h => (by cases h)) fun _ => Dc.no fun h => a1 h.1)
  refine Dc.ite (fun _ => ?_) fun h => (by cases h)
  refine Dc.bind (Q := closedT' (ent l i).type i = true) (Dc.of (ev_rClosed _ i hx.1)) (fun a2 => ?_) fun a2 => Dc.ite (fun h => (by cases h)) fun _ => Dc.no fun h => a2 h.2.1
  refine Dc.ite (fun _ => ?_) fun h => (by cases h)
  have hs := closed_sh a2
  have hsp := shapedT_spec hs
  obtain ⟨L, y, hL, hlen, hyk, hyg, hyn, -, hLg⟩ := tel_spec hsp.2.2
  have hpis := pis_le (ent l i).type.nodes (ent l i).type (Nat.le_refl _)
  have hBene : Evt (fun q => e152 q (ent l i).type) y := by simp only [e152]; exact ev_Bene _ _ L y hsp.2.2 hL hyk
  refine Dc.evt (ev_Tele hsp.2.2 hsp.1 hL hyk) ?_
  have only : ∀ {P : Prop} (n : Int), (ent l i).kind = n → (n = 1 → (RFam l i ↔ P)) → (n = 2 → (conT l i = true ↔ P)) → (n = 4 → (projT l i = true ↔ P)) → (n = 3 → (defT l i = true ↔ P)) → (¬ (n = 1 ∨ n = 2 ∨ n = 3 ∨ n = 4) → (False ↔ P)) → (P ↔ REnt N l i) := fun {P} n hn k1 k2 k4 k3 k0 => by
    unfold REnt
    rw [hn]
    by_cases e1 : n = 1
    · rw [← k1 e1]; exact ⟨fun h => ⟨a1, a2, .inl ⟨e1, h⟩⟩, fun h => by rcases h.2.2 with h | h | h | h <;> first | exact h.2 | (have := h.1; omega)⟩
    · by_cases e2 : n = 2
      · rw [← k2 e2]; exact ⟨fun h => ⟨a1, a2, .inr (.inl ⟨e2, h⟩)⟩, fun h => by rcases h.2.2 with h | h | h | h <;> first | exact h.2 | (have := h.1; omega)⟩
      · by_cases e4 : n = 4
        · rw [← k4 e4]; exact ⟨fun h => ⟨a1, a2, .inr (.inr (.inl ⟨e4, h⟩))⟩, fun h => by rcases h.2.2 with h | h | h | h <;> first | exact h.2 | (have := h.1; omega)⟩
        · by_cases e3 : n = 3
          · rw [← k3 e3]; exact ⟨fun h => ⟨a1, a2, .inr (.inr (.inr ⟨e3, h⟩))⟩, fun h => by rcases h.2.2 with h | h | h | h <;> first | exact h.2 | (have := h.1; omega)⟩
          · rw [← k0 (by omega)]; exact ⟨False.elim, fun h => by rcases h.2.2 with h | h | h | h <;> (have := h.1; omega)⟩
  refine Dc.ite (fun k1 => ?_) fun k1 => ?_
  · have k1' : (ent l i).kind = 1 := by simpa using k1
    have : Dc (fun q => e149 q l i >>= fun r12 => some r12) (RFam l i) := by
      obtain ⟨b, hb, hb'⟩ := dc_rfamily l i h0 h1 hl he
      exact ⟨b, hb.bind Evt.ret, hb'⟩
    exact this.iff (only 1 k1' (fun _ => Iff.rfl) (fun h => by omega) (fun h => by omega) (fun h => by omega) (fun h => absurd (.inl rfl) h))
  have k1' : (ent l i).kind ≠ 1 := by simpa using k1
  refine Dc.ite (fun k3 => ?_) fun k3 => ?_
  · have k3' : (ent l i).kind = 3 := by simpa using k3
    have dfn : ∀ {P : Prop}, (P ↔ defT l i = true) → (P ↔ REnt N l i) := fun hP => hP.trans (only 3 k3' (fun h => by omega) (fun h => by omega) (fun h => by omega) (fun _ => Iff.rfl) (fun h => absurd (.inr (.inr (.inl rfl))) h))
    have need : defT l i = true → closedT' (ent l i).body i = true ∧ (ent l i).fam = 0 ∧ (ent l i).place = 0 ∧ (ent l i).pars = 0 ∧ (ent l i).inds = 0 ∧ (ent l i).level = 0 ∧ (ent l i).cons.length = 0 ∧ (ent l i).fields.length = 0 := fun h => by
      unfold defT at h
      simp only [Bool.and_eq_true, decide_eq_true_eq, beq_iff_eq] at h
      exact h
    refine Dc.iff (P := defT l i = true) ?_ (dfn Iff.rfl)
    refine Dc.bind (Q := closedT' (ent l i).body i = true) (Dc.of (ev_rClosed _ i hx.2.1)) (fun b1 => ?_) fun b1 => Dc.ite (fun h => (by cases h)) fun _ => Dc.no fun h => b1 (need h).1
    refine Dc.ite (fun _ => ?_) fun h => (by cases h)
    refine Dc.ite (fun b2 => Dc.ite (fun b3 => Dc.ite (fun b4 => Dc.ite (fun b5 => Dc.ite (fun b6 => Dc.ite (fun b7 => Dc.ret ?_) fun h => Dc.no fun k => ?_) fun h => Dc.no fun k => ?_) fun h => Dc.no fun k => ?_) fun h => Dc.no fun k => ?_) fun h => Dc.no fun k => ?_) fun h => Dc.no fun k => ?_
    · rw [beq_iff_eq]
      unfold defT
      simp only [beq_iff_eq] at b2 b3 b4 b5 b6 b7
      simp only [Bool.and_eq_true, decide_eq_true_eq, beq_iff_eq]
      exact ⟨fun h => ⟨b1, b2, b3, b4, b5, b6, by omega, by omega⟩, fun h => by have := h.2.2.2.2.2.2.2; omega⟩
    · rw [(need k).2.2.2.2.2.2.1] at h; simp at h
    · rw [(need k).2.2.2.2.2.1] at h; simp at h
    · rw [(need k).2.2.2.2.1] at h; simp at h
    · rw [(need k).2.2.2.1] at h; simp at h
    · rw [(need k).2.2.1] at h; simp at h
    · rw [(need k).2.1] at h; simp at h
  have k3' : (ent l i).kind ≠ 3 := by simpa using k3
  have tail : ((ent l i).kind = 2 ∨ (ent l i).kind = 4) → Dc (fun q => e150 q l i >>= fun r44 => if r44 = true then (if ((ent l i).kind == 2) = true then (if decide ((List.length L : Int) ≤ 24) = true then (if decide ((List.length L : Int) ≥ (ent l i).pars) = true then (e152 q (ent l i).type >>= fun r50 => gidx l (ent l i).fam >>= fun x52 => e151 q r50 (ent l i).fam (ent l i).pars x52.inds (List.length L : Int) >>= fun r54 => some r54) else some false) else some false)
      else (if decide ((w64 ((ent l i).pars + 1)) ≤ 24) = true then (if decide ((List.length L : Int) ≥ (w64 ((ent l i).pars + 1))) = true then (gidx L (ent l i).pars >>= fun x58 => e151 q x58 (ent l i).fam (ent l i).pars 0 (ent l i).pars >>= fun r60 => some r60) else some false) else some false)) else some false) (REnt N l i) := fun h24 => by
    have hown : REnt N l i → ownedT l i = true := fun h => by
      rcases h.2.2 with h | h | h | h
      · exact absurd h.1 k1'
      · have := h.2; unfold conT at this; simp only [Bool.and_eq_true] at this; exact this.1
      · have := h.2; unfold projT at this; simp only [Bool.and_eq_true] at this; exact this.1
      · exact absurd h.1 k3'
    refine Dc.bind (dc_rowned l i h0 h1 he h24) (fun ho => ?_) fun ho => Dc.ite (fun h => (by cases h)) fun _ => Dc.no fun h => ho (hown h)
    refine Dc.ite (fun _ => ?_) fun h => (by cases h)
    have how := ownedT_spec ho
    have hfam := rfam_spec (hF _ how.1 how.2.1 how.2.2.1)
    refine Dc.ite (fun e2 => ?_) fun e2 => ?_
    · have e2' : (ent l i).kind = 2 := by simpa using e2
      refine Dc.iff (P := conT l i = true) ?_ (only 2 e2' (fun h => by omega) (fun _ => Iff.rfl) (fun h => by omega) (fun h => by omega) (fun h => absurd (.inr (.inl rfl)) h))
      refine Dc.ite (fun c1 => ?_) fun c1 => Dc.no fun h => ?_
      case refine_2 =>
        have := of_decide_eq_false c1
        have hw := whole_long (t := (ent l i).type) (by omega)
        unfold conT at h
        simp only [Bool.and_eq_true, beq_iff_eq] at h
        exact hw h.2.1
      have c1' := of_decide_eq_true c1
      have hw := split_tel hs hL (by omega)
      have hcon : conT l i = true ↔ (ent l i).pars ≤ L.length ∧ appliedT y (ent l i).fam (ent l i).pars (ent l (ent l i).fam).inds L.length = true := by
        unfold conT
        rw [hw, ho]
        simp
      refine Dc.iff ?_ hcon.symm
      refine Dc.ite (fun c2 => ?_) fun c2 => Dc.no fun h => ?_
      case refine_2 => have := of_decide_eq_false c2; have := h.1; omega
      have c2' := of_decide_eq_true c2
      refine Dc.evt hBene (Dc.pure (gidx_ent how.1 (by omega)) ?_)
      obtain ⟨b, hb, hb'⟩ := dc_applied y (ent l i).fam (ent l i).pars (ent l (ent l i).fam).inds L.length hyg (by omega) (by omega) (by omega) (by omega)
      exact ⟨b, hb.bind Evt.ret, hb'.trans ⟨fun h => ⟨c2', h⟩, fun h => h.2⟩⟩
    · have e4' : (ent l i).kind = 4 := by have : (ent l i).kind ≠ 2 := by simpa using e2
                                          omega
      refine Dc.iff (P := projT l i = true) ?_ (only 4 e4' (fun h => by omega) (fun h => by omega) (fun _ => Iff.rfl) (fun h => by omega) (fun h => absurd (.inr (.inr (.inr rfl))) h))
      rw [w64_id (x := (ent l i).pars + 1) (by omega) (by omega)]
      obtain ⟨p, hp⟩ := Int.eq_ofNat_of_zero_le (a := (ent l i).pars) (by omega)
      have long : ¬ (ent l i).pars + 1 ≤ 24 → (splitT (ent l i).type ((ent l i).pars + 1)).2.2 ≠ 0 := fun h => by
        unfold splitT
        rw [if_pos hs, if_neg (by omega), if_pos (by omega)]; decide
      have need : projT l i = true → (splitT (ent l i).type ((ent l i).pars + 1)).2.2 = 0 ∧ appliedT (nth (splitT (ent l i).type ((ent l i).pars + 1)).1 (ent l i).pars) (ent l i).fam (ent l i).pars 0 (ent l i).pars = true := fun h => by
        unfold projT at h
        simp only [Bool.and_eq_true, beq_iff_eq] at h
        exact h.2
      refine Dc.ite (fun c1 => ?_) fun c1 => Dc.no fun h => long (by simpa using of_decide_eq_false c1) (need h).1
      have c1' := of_decide_eq_true c1
      have hsp2 := split_pos hs hL (n := p + 1) (by omega)
      rw [show ((p + 1 : Nat) : Int) = (ent l i).pars + 1 by omega] at hsp2
      refine Dc.ite (fun c2 => ?_) fun c2 => Dc.no fun h => ?_
      case refine_2 => have := of_decide_eq_false c2; have := hsp2.1.1 (need h).1; omega
      have c2' := of_decide_eq_true c2
      have hpl : p < L.length := by omega
      have hgx : gidx L (ent l i).pars = some L[p] := by unfold gidx; rw [if_pos (by omega), hp, Int.toNat_natCast]; exact List.getElem?_eq_getElem hpl
      have hnth : nth (splitT (ent l i).type ((ent l i).pars + 1)).1 (ent l i).pars = L[p] := by
        rw [hsp2.2 (by omega)]
        unfold nth
        rw [hp, Int.toNat_natCast, List.getElem?_take, if_pos (by omega), List.getElem?_eq_getElem hpl]; rfl
      have hxg := hLg L[p] (List.getElem_mem hpl)
      refine Dc.pure hgx ?_
      obtain ⟨b, hb, hb'⟩ := dc_applied L[p] (ent l i).fam (ent l i).pars 0 (ent l i).pars hxg.1 (by omega) (by omega) (by omega) (by omega)
      refine ⟨b, hb.bind Evt.ret, hb'.trans ?_⟩
      unfold projT
      rw [hnth, ho, hsp2.1.2 (by omega)]
      simp
  refine Dc.ite (fun k2 => ?_) fun k2 => ?_
  · have k2' : (ent l i).kind ≠ 2 := by simpa using k2
    refine Dc.ite (fun k4 => Dc.no fun h => ?_) fun k4 => tail (.inr (by simpa using k4))
    have k4' : (ent l i).kind ≠ 4 := by simpa using k4
    rcases h.2.2 with h | h | h | h <;> (have := h.1; omega)
  · exact tail (.inl (by simpa using k2))
theorem dc_rFormedL {N : ByteArray → Bool} (hN : NamesBy N) (l : List Ent) (hl : l.length ≤ 65535) (he : ∀ e ∈ l, EOk e) : ∀ (m v : Nat), v + m = l.length → FamsR l v → Dc (fun q => e20L23989 q l (v : Int)) (∀ j : Int, v ≤ j → j < l.length → REnt N l j)
  | 0, v, hm, _ => by
    refine Dc.succ ?_
    simp only [e20L23989]
    exact Dc.ite (fun h => absurd (of_decide_eq_true h) (by omega)) fun _ => Dc.yes fun j h0 h1 => by omega
  | m + 1, v, hm, hF => by
    refine Dc.succ ?_
    simp only [e20L23989]
    refine Dc.ite (fun _ => Dc.bind (dc_rentry hN l v (by omega) (by omega) hl he hF) (fun hr => ?_) fun hr => Dc.ite (fun h => (by cases h)) fun _ => Dc.no fun h => hr (h v (Int.le_refl _) (by omega))) fun h => absurd (of_decide_eq_false h) (by omega)
    refine Dc.ite (fun _ => ?_) fun h => (by cases h)
    rw [w64_nat v (by omega)]
    refine (dc_rFormedL hN l hl he m (v + 1) (by omega) fun j h0 h1 hk => ?_).iff ⟨fun h j h0 h1 => ?_, fun h j h0 h1 => h j (by omega) h1⟩
    · by_cases e : j = v
      · subst e
        rcases hr.2.2 with h | h | h | h
        · exact h.2
        · have := h.1; omega
        · have := h.1; omega
        · have := h.1; omega
      · exact hF j h0 (by omega) hk
    · by_cases e : j = v
      · subst e; exact hr
      · exact h j (by omega) h1
theorem ev_rNamesL : ∀ (r l : List Ent) (v : Nat) (acc : List ByteArray), l.drop v = r → l.length ≤ 65535 → acc.length ≤ v → Evt (fun q => e70L50168 q l acc (v : Int)) (acc ++ r.map Ent.name)
  | [], l, v, acc, hd, hl, ha => by
    refine Evt.succ ?_
    simp only [e70L50168]
    exact Evt.ifF (drop_nil hd) (Evt.ret.eq (by simp))
  | e :: r, l, v, acc, hd, hl, ha => by
    have hlt := drop_lt hd
    refine Evt.succ ?_
    simp only [e70L50168]
    refine Evt.ifT (drop_dec hd) (Evt.pure (drop_idx hd) (Evt.pure (gapp_ok (by simp <;> omega)) ?_))
    rw [w64_nat v (by omega)]
    exact (ev_rNamesL r l (v + 1) _ (drop_next hd) hl (by simp <;> omega)).eq (by simp)
theorem all_ent {N : ByteArray → Bool} {l : List Ent} (he : ∀ e ∈ l, EOk e) : (∀ j : Int, 0 ≤ j → j < l.length → REnt N l j) ↔ ∀ j : Int, 0 ≤ j → j < l.length → entryT N l j = true := by
  have ofP : ∀ j, 0 ≤ j → j < (l.length : Int) → entryT N l j = true → REnt N l j := fun j h0 h1 h => by
    have hs := entryT_spec h
    have hn : N (ent l j).name = true := by unfold entryT at h; simp only [Bool.and_eq_true] at h; exact h.1
    refine ⟨hn, hs.1, ?_⟩
    rcases hs.2.2.2.2.2 with k | k | k | k
    · refine .inl ⟨k, ?_⟩
      have hf := hs.2.1 k
      unfold familyT at hf
      simp only [Bool.and_eq_true, Bool.or_eq_true, decide_eq_true_eq] at hf
      refine ⟨hf.1.1.1, hf.1.1.2, hf.1.2, hf.2.imp id fun hd => ?_⟩
      unfold famD at hd
      simp only [Bool.and_eq_true, decide_eq_true_eq, beq_iff_eq] at hd
      obtain ⟨⟨⟨⟨⟨d1, d2⟩, d3⟩, d4⟩, d5⟩, d6⟩ := hd
      have hw : wholeT (ent l (j + 1)).type = ((wholeT (ent l (j + 1)).type).1, (wholeT (ent l (j + 1)).type).2.1, 0) := by rw [← d5]
      have hwo := wholeT_ok hw
      exact ⟨d1, d2, d3, d4, hwo.1, by rw [← hwo.2.1]; exact d6⟩
    · exact .inr (.inl ⟨k, hs.2.2.1 k⟩)
    · exact .inr (.inr (.inr ⟨k, hs.2.2.2.2.1 k⟩))
    · exact .inr (.inr (.inl ⟨k, hs.2.2.2.1 k⟩))
  refine ⟨fun h j h0 h1 => ?_, fun h j h0 h1 => ofP j h0 h1 (h j h0 h1)⟩
  obtain ⟨r1, r2, r3⟩ := h j h0 h1
  unfold entryT
  rw [r1, r2]
  rcases r3 with ⟨k, hf⟩ | ⟨k, hf⟩ | ⟨k, hf⟩ | ⟨k, hf⟩
  · rw [if_pos k]
    obtain ⟨f1, f2, f3, f4⟩ := hf
    unfold familyT
    rw [f1, f2, f3]
    rcases f4 with f4 | ⟨d1, d2, d3, d4, d5, d6⟩
    · simp [f4]
    · -- the constructor has at most 24 arguments
      have hnext : j + 1 < l.length ∧ (ent l (j + 1)).kind = 2 := by
        have h5 := f3
        unfold famC at h5
        obtain ⟨n, hn⟩ : ∃ n, (ent l j).cons = [n] := by
          rcases hc : (ent l j).cons with _ | ⟨n, _ | ⟨m, r⟩⟩
          · rw [hc] at d2; simp at d2
          · exact ⟨n, rfl⟩
          · rw [hc] at d2; simp at d2
        rw [hn, runT, memT] at h5
        simp only [Bool.and_eq_true, beq_iff_eq] at h5
        have := isT_spec h5.2.1.1.1
        have e : n = j + 1 := h5.1.2.1
        rw [e] at this
        exact ⟨this.2.1, this.2.2⟩
      have hc : conT l (j + 1) = true := by
        rcases (h (j + 1) (by omega) hnext.1).2.2 with h | h | h | h
        · have := h.1; omega
        · exact h.2
        · have := h.1; omega
        · have := h.1; omega
      unfold conT at hc
      simp only [Bool.and_eq_true, beq_iff_eq] at hc
      have hw0 := hc.2.1
      have hw : wholeT (ent l (j + 1)).type = ((wholeT (ent l (j + 1)).type).1, (wholeT (ent l (j + 1)).type).2.1, 0) := by rw [← hw0]
      have hwo := wholeT_ok hw
      have hD : famD l j (ent l j) = true := by
        unfold famD
        simp only [Bool.and_eq_true, decide_eq_true_eq, beq_iff_eq]
        exact ⟨⟨⟨⟨⟨d1, d2⟩, d3⟩, d4⟩, hw0⟩, by rw [hwo.2.1]; exact d6⟩
      rw [hD]; simp
  · rw [if_neg (by omega), if_pos k, hf]; rfl
  · rw [if_neg (by omega), if_neg (by omega), if_pos k, hf]; rfl
  · rw [if_neg (by omega), if_neg (by omega), if_neg (by omega), if_pos k, hf]; rfl
theorem ev_refFormed (l : List Ent) (hl : l.length ≤ 65535) (he : ∀ e ∈ l, EOk e) {b : Bool} (h : Evt (fun q => e73 q l) b) : Evt (fun q => e20 q l) b := by
  obtain ⟨N, hN⟩ := names_by
  obtain ⟨d, hd, hf⟩ := ev_Formed N hN l hl he
  have hb := hf.det h
  have hRd := ev_refDist (by simpa using hl) hd
  have key : Dc (fun q => e20 q l) (formedT N d l = true) := by
    simp only [e20]
    have hNames : Evt (fun q => e70 q l) (l.map Ent.name) := by simp only [e70]; exact (ev_rNamesL l l 0 [] rfl hl (by simp)).eq (by simp)
    have hall : (∀ j : Int, ((0 : Nat) : Int) ≤ j → j < l.length → REnt N l j) ↔ allE N l l.length 0 = true := by
      refine (show _ ↔ _ from ⟨fun h j h0 h1 => h j (by omega) h1, fun h j h0 h1 => h j (by omega) h1⟩ : (∀ j : Int, ((0 : Nat) : Int) ≤ j → j < l.length → REnt N l j) ↔ ∀ j : Int, 0 ≤ j → j < l.length → REnt N l j).trans ((all_ent he).trans ?_)
      have back : ∀ (m v : Nat), v + m = l.length → ((∀ j : Int, v ≤ j → j < l.length → entryT N l j = true) ↔ allE N l m v = true) := by
        intro m
        induction m with
        | zero => intro v hv; exact ⟨fun _ => rfl, fun _ j h0 h1 => by omega⟩
        | succ m ih =>
          intro v hv
          rw [allE]
          simp only [Bool.and_eq_true]
          rw [← ih (v + 1) (by omega)]
          refine ⟨fun h => ⟨h v (Int.le_refl _) (by omega), fun j h0 h1 => h j (by omega) h1⟩, fun h j h0 h1 => ?_⟩
          by_cases e : j = v
          · subst e; exact h.1
          · exact h.2 j (by omega) h1
      exact (show _ ↔ _ from ⟨fun h j h0 h1 => h j (by omega) h1, fun h j h0 h1 => h j (by omega) h1⟩ : (∀ j : Int, 0 ≤ j → j < l.length → entryT N l j = true) ↔ ∀ j : Int, ((0 : Nat) : Int) ≤ j → j < l.length → entryT N l j = true).trans (back l.length 0 (by omega))
    unfold formedT
    refine Dc.ite (fun h => Dc.no ?_) fun h => Dc.evt hNames (Dc.evt hRd ?_)
    · have := of_decide_eq_true h; rw [decide_eq_false (by omega)]; simp
    · have := of_decide_eq_false h
      rw [decide_eq_true (by omega)]
      cases d with
      | false => exact Dc.ite (fun h => (by cases h)) fun _ => Dc.no (by simp)
      | true =>
        refine Dc.ite (fun _ => ?_) fun h => (by cases h)
        exact (dc_rFormedL hN l hl he l.length 0 (by omega) fun j h0 h1 => by omega).iff (hall.trans (by simp))
  obtain ⟨b', h1, h2⟩ := key
  refine h1.eq ?_
  rw [← hb]
  rw [Bool.eq_iff_iff]; exact h2
def e15 (qq:Nat) (p0:List Ent) (p1 p2:List Tm):Option (Bool) :=
 if decide ((List.length p0:Int) ≤ 300) then
 if decide ((List.length p1:Int) ≤ 40) then
 some (decide ((List.length p2:Int) ≤ 40))
 else
 some false
 else
 some false
abbrev K15 (p0:List Ent) (p1 p2:List Tm) (r:Bool) (C:Cf):Prop:=C 15 [] [slv entL p0 .no,slv tmCells p1 .no,slv tmCells p2 .no] (ab r) [] 0
theorem q15:Qf 15 Tryz.f15:=⟨Tryz.func15,by kernel_rfl⟩
theorem k15 {p0 p1 p2 r} (h:K15 p0 p1 p2 r Ci):K15 p0 p1 p2 r Ct:=⟨h,⟨⟨tv,dE _⟩,⟨tv,dT _⟩,⟨tv,dT _⟩,tv⟩,forall_nil,tv,forall_nil⟩
theorem c15 {qq p0 p1 p2 r} (h:e15 qq p0 p1 p2 = some r):K15 p0 p1 p2 r Ct:=by
 unfold e15 at h
 rcases spl h with ⟨h1,h⟩ | ⟨h1,h⟩
 have k:=oB 1 h1 o0
 rcases spl h with ⟨h2,h⟩ | ⟨h2,h⟩
 obtain rfl:=sj h
 exact k15 (tF q15 2 [] (oB 1 h2 k))
 obtain rfl:=sj h
 exact k15 (tF q15 0 [] (oB 1 h2 k))
 obtain rfl:=sj h
 exact k15 (tF q15 0 [] (oB 1 h1 o0))
def e75 (qq:Nat) (p0:List Ent) (p1 p2:Int):Option (Bool) :=
 if decide (p1 ≥ 0) then
 if decide (p1 < (List.length p0:Int)) then
 gidx p0 p1 >>= fun x3 =>
 some (x3.kind == p2)
 else
 some false
 else
 some false
abbrev K75 (p0:List Ent) (p1 p2:Int) (r:Bool) (C:Cf):Prop:=C 75 [] [slv entL p0 .no,ai p1,ai p2] (ab r) [] 0
theorem q75:Qf 75 Tryz.f75:=⟨Tryz.func75,by kernel_rfl⟩
theorem k75 {p0 p1 p2 r} (h:K75 p0 p1 p2 r Ci):K75 p0 p1 p2 r Ct:=⟨h,⟨⟨tv,dE _⟩,tv,tv,tv⟩,forall_nil,tv,forall_nil⟩
theorem c75 {qq p0 p1 p2 r} (h:e75 qq p0 p1 p2 = some r):K75 p0 p1 p2 r Ct:=by
 unfold e75 at h
 rcases spl h with ⟨h1,h⟩ | ⟨h1,h⟩
 have k:=oB 0 h1 o0
 rcases spl h with ⟨h2,h⟩ | ⟨h2,h⟩
 obtain ⟨x3,h4,h⟩:=obind h
 obtain rfl:=sj h
 exact k75 (tF q75 2 [] (oA 0 (ix22 (o:=.no) h4) <| oB 1 h2 k))
 obtain rfl:=sj h
 exact k75 (tF q75 0 [] (oB 1 h2 k))
 obtain rfl:=sj h
 exact k75 (tF q75 0 [] (oB 0 h1 o0))
def e68 (qq:Nat) (p0:List Ent) (p1 p2:Int):Option (Int) :=
 e73 qq p0 >>= fun r1 =>
 if r1 then
 e75 qq p0 p1 1 >>= fun r4 =>
 if r4 then
 if decide (p2 < 0) then
 some 16
 else
 if decide (p2 > 7) then
 some 16
 else
 some 0
 else
 some 16
 else
 some 5
abbrev K68 (p0:List Ent) (p1 p2 r:Int) (C:Cf):Prop:=C 68 [] [slv entL p0 .no,ai p1,ai p2] (ai r) [] 0
theorem q68:Qf 68 Tryz.f68:=⟨Tryz.func68,by kernel_rfl⟩
theorem k68 {p0 p1 p2 r} (h:K68 p0 p1 p2 r Ci):K68 p0 p1 p2 r Ct:=⟨h,⟨⟨tv,dE _⟩,tv,tv,tv⟩,forall_nil,tv,forall_nil⟩
theorem c68 {qq p0 p1 p2 r} (h:e68 qq p0 p1 p2 = some r):K68 p0 p1 p2 r Ct:=by
 unfold e68 at h
 obtain ⟨r1,h2,h⟩:=obind h
 rcases spl h with ⟨h3,h⟩ | ⟨h3,h⟩
 obtain ⟨r4,h5,h⟩:=obind h
 have k:=oK 0 [] h3 (c73 h2) o0
 rcases spl h with ⟨h6,h⟩ | ⟨h6,h⟩
 have k:=oK 1 [] h6 (c75 h5) k
 rcases spl h with ⟨h7,h⟩ | ⟨h7,h⟩
 obtain rfl:=sj h
 exact k68 (tF q68 0 [] (oB 1 h7 k))
 have k:=oB 1 h7 k
 rcases spl h with ⟨h8,h⟩ | ⟨h8,h⟩
 obtain rfl:=sj h
 exact k68 (tF q68 0 [] (oB 0 h8 k))
 obtain rfl:=sj h
 exact k68 (tF q68 0 [] (oB 0 h8 k))
 obtain rfl:=sj h
 exact k68 (tF q68 1 [] (oK 1 [] h6 (c75 h5) k))
 obtain rfl:=sj h
 exact k68 (tF q68 1 [] (oK 0 [] h3 (c73 h2) o0))
def e18 (qq:Nat) (p0:List Ent) (p1:Int):Option (Int × Int) :=
 e68 qq p0 p1 0 >>= fun r1 =>
 if r1 != 0 then
 some (0,r1)
 else
 gidx p0 p1 >>= fun x4 =>
 some ((w64 ((w64 ((w64 ((w64 (x4.pars + 1)) + (List.length x4.cons:Int))) + x4.inds)) + 1)),0)
abbrev K18 (p0:List Ent) (p1:Int) (r:Int × Int) (C:Cf):Prop:=C 18 [] [slv entL p0 .no,ai p1] (.tup [ai r.1,ai r.2]) [] 0
theorem q18:Qf 18 Tryz.f18:=⟨Tryz.func18,by kernel_rfl⟩
theorem k18 {p0 p1 r} (h:K18 p0 p1 r Ci):K18 p0 p1 r Ct:=⟨h,⟨⟨tv,dE _⟩,tv,tv⟩,forall_nil,⟨tv,tv,tv⟩,forall_nil⟩
theorem c18 {qq p0 p1 r} (h:e18 qq p0 p1 = some r):K18 p0 p1 r Ct:=by
 unfold e18 at h
 obtain ⟨r1,h2,h⟩:=obind h
 have k:=oC 0 [] (c68 h2) o0
 rcases spl h with ⟨h3,h⟩ | ⟨h3,h⟩
 obtain rfl:=sj h
 exact k18 (tF q18 0 [] (oB 0 h3 k))
 obtain ⟨x4,h5,h⟩:=obind h
 obtain rfl:=sj h
 exact k18 (tF q18 3 [] (oA 3 (ix22 (o:=.no) h5) <| oA 2 (ix22 (o:=.no) h5) <| oA 0 (ix22 (o:=.no) h5) <| oB 0 h3 k))
def e66 (qq:Nat)  : Option (List Ent) :=
 some [(Ent.mk 1 (⟨#[78,97,116]⟩:ByteArray) (Tm.mk 2 0 []) (Tm.mk 0 0 []) 0 0 0 0 0 [1,2] []),(Ent.mk 2 (⟨#[122,101,114,111]⟩:ByteArray) (Tm.mk 6 0 []) (Tm.mk 0 0 []) 0 0 0 0 0 [] []),(Ent.mk 2 (⟨#[115,117,99]⟩:ByteArray) (Tm.mk 3 0 [(Tm.mk 6 0 []),(Tm.mk 6 0 [])]) (Tm.mk 0 0 []) 0 1 0 0 0 [] [])]
abbrev K66 (r:List Ent) (C:Cf):Prop:=C 66 [] [] (.sl (flat entL r) (List.length r) .no) [] 0
theorem q66:Qf 66 Tryz.f66:=⟨Tryz.func66,by kernel_rfl⟩
theorem k66 {r} (h:K66 r Ci):K66 r Ct:=⟨h,tv,forall_nil,dE _,forall_nil⟩
theorem c66 {qq r} (h:e66 qq  = some r):K66 r Ct:=by
 unfold e66 at h
 obtain rfl:=sj h
 exact k66 (tF q66 1 [] (oD (dE [(Ent.mk 1 (⟨#[78,97,116]⟩:ByteArray) (Tm.mk 2 0 []) (Tm.mk 0 0 []) 0 0 0 0 0 [1,2] []),(Ent.mk 2 (⟨#[122,101,114,111]⟩:ByteArray) (Tm.mk 6 0 []) (Tm.mk 0 0 []) 0 0 0 0 0 [] []),(Ent.mk 2 (⟨#[115,117,99]⟩:ByteArray) (Tm.mk 3 0 [(Tm.mk 6 0 []),(Tm.mk 6 0 [])]) (Tm.mk 0 0 []) 0 1 0 0 0 [] [])]) <| oS 5 (obLitR tm_eq [(Tm.mk 6 0 []),(Tm.mk 6 0 [])]) o0))
def e124 (qq:Nat) (q0_e:Int) (p1:Tm):Option (Tm × Int × Int) :=
 if q0_e == 0 then
 e91 qq p1 >>= fun r2 =>
 if r2 then
 if q0_e != 0 then
 some ((Tm.mk 0 0 []),q0_e,q0_e)
 else
 some (p1,0,q0_e)
 else
 some ((Tm.mk 0 0 []),2,2)
 else
 if q0_e != 0 then
 some ((Tm.mk 0 0 []),q0_e,q0_e)
 else
 some (p1,0,q0_e)
abbrev K124 (q0_e:Int) (p1:Tm) (r:Tm × Int × Int) (C:Cf):Prop:=C 124 [.cells [ai q0_e]] [.mp 0 0,tmA p1] (.tup [tmA r.1,ai r.2.1]) [.cells [ai r.2.2]] 0
theorem q124:Qf 124 Tryz.f124:=⟨Tryz.func124,by kernel_rfl⟩
theorem k124 {q0_e p1 r} (h:K124 q0_e p1 r Ci):K124 q0_e p1 r Ct:=⟨h,⟨(lz rfl),⟨tv,tv,⟨tv,dT _⟩,tv⟩,tv⟩,(forall_cons ⟨tv,tv⟩ forall_nil),⟨⟨tv,tv,dT _,tv⟩,tv,tv⟩,(forall_cons ⟨tv,tv⟩ forall_nil)⟩
theorem c124 {qq q0_e p1 r} (h:e124 qq q0_e p1 = some r):K124 q0_e p1 r Ct:=by
 unfold e124 at h
 rcases spl h with ⟨h1,h⟩ | ⟨h1,h⟩
 obtain ⟨r2,h3,h⟩:=obind h
 have k:=oB 1 h1 o0
 rcases spl h with ⟨h4,h⟩ | ⟨h4,h⟩
 have k:=oK 1 [] h4 (c91 h3) k
 rcases spl h with ⟨h5,h⟩ | ⟨h5,h⟩
 obtain rfl:=sj h
 exact k124 (tF q124 2 [0] (oD (dT ([]:List Tm)) <| oB 2 h5 k))
 obtain rfl:=sj h
 exact k124 (tF q124 2 [0] (oD (dT p1.sub) <| oB 2 h5 k))
 obtain rfl:=sj h
 exact k124 (tF q124 6 [0] (oD (dT ([]:List Tm)) <| oK 1 [] h4 (c91 h3) k))
 have k:=oB 1 h1 o0
 rcases spl h with ⟨h6,h⟩ | ⟨h6,h⟩
 obtain rfl:=sj h
 exact k124 (tF q124 2 [0] (oD (dT ([]:List Tm)) <| oB 1 h6 k))
 obtain rfl:=sj h
 exact k124 (tF q124 2 [0] (oD (dT p1.sub) <| oB 1 h6 k))
def e137 (qq:Nat) (p0:List Ent) (p1:Int):Option (List Tm × List Tm × Int) :=
 e73 qq p0 >>= fun r1 =>
 if r1 then
 e202 qq p0 p1 1 >>= fun r4 =>
 if r4 then
 gidx p0 p1 >>= fun x7 =>
 e203 qq x7.type (w64 (x7.pars + x7.inds)) >>= fun r9 =>
 gsl r9.1 0 x7.pars >>= fun x11 =>
 gsl r9.1 x7.pars (List.length r9.1:Int) >>= fun x13 =>
 some (x11,x13,0)
 else
 some ([],[],16)
 else
 some ([],[],5)
abbrev K137 (p0:List Ent) (p1:Int) (r:List Tm × List Tm × Int) (C:Cf):Prop:=C 137 [] [slv entL p0 .no,ai p1] (.tup [.sl (flat tmCells r.1) (List.length r.1) .no,.sl (flat tmCells r.2.1) (List.length r.2.1) .no,ai r.2.2]) [] 0
theorem q137:Qf 137 Tryz.f137:=⟨Tryz.func137,by kernel_rfl⟩
theorem k137 {p0 p1 r} (h:K137 p0 p1 r Ci):K137 p0 p1 r Ct:=⟨h,⟨⟨tv,dE _⟩,tv,tv⟩,forall_nil,⟨dT _,dT _,tv,tv⟩,forall_nil⟩
theorem c137 {qq p0 p1 r} (h:e137 qq p0 p1 = some r):K137 p0 p1 r Ct:=by
 unfold e137 at h
 obtain ⟨r1,h2,h⟩:=obind h
 rcases spl h with ⟨h3,h⟩ | ⟨h3,h⟩
 obtain ⟨r4,h5,h⟩:=obind h
 have k:=oK 0 [] h3 (c73 h2) o0
 rcases spl h with ⟨h6,h⟩ | ⟨h6,h⟩
 obtain ⟨x7,h8,h⟩:=obind h
 obtain ⟨r9,h10,h⟩:=obind h
 obtain ⟨x11,h12,h⟩:=obind h
 obtain ⟨x13,h14,h⟩:=obind h
 obtain rfl:=sj h
 exact k137 (tF q137 0 [] (oD (dT x13) <| oD (dT x11) <| oA 1 (slFrom23 h14) <| oA 0 (ix22 (o:=.no) h8) <| oA 1 (slTo3_23 (o:=.no) h12) <| oA 1 (ix22 (o:=.no) h8) <| oA 4 (ix22 (o:=.no) h8) <| oC 2 [] (c203 h10) <| oA 1 (ix22 (o:=.no) h8) <| oA 1 (ix22 (o:=.no) h8) <| oA 1 (ix22 (o:=.no) h8) <| oK 1 [] h6 (c202 h5) k))
 obtain rfl:=sj h
 exact k137 (tF q137 1 [] (oD (dT ([]:List Tm)) <| oD (dT ([]:List Tm)) <| oK 1 [] h6 (c202 h5) k))
 obtain rfl:=sj h
 exact k137 (tF q137 1 [] (oD (dT ([]:List Tm)) <| oD (dT ([]:List Tm)) <| oK 0 [] h3 (c73 h2) o0))
def e138L48355:Nat → (List Tm) → Int → Option (List Tm)
 | 0,_,_ => none
 | qq + 1,v3,v4 =>
 if decide (v4 ≥ 0) then
 e140 qq v4 >>= fun r4 =>
 gapp 40 v3 [r4] >>= fun l6 =>
 e138L48355 qq l6 (w64 (v4 - 1))
 else
 some v3
def e138 (qq:Nat) (p0:Int):Option (List Tm) :=
 if decide (p0 < 0) then
 some []
 else
 if decide (p0 > 1048576) then
 some []
 else
 e138L48355 qq [] (w64 (p0 - 1))
def g138L48355E0 (j:Nat → Value) (v3:List Tm) (v4:Int):=sp j 23 0 [(3,slv tmCells v3 (.st 0 3)),(4,ai v4)]
def g138L48355S0 (v3:List Tm) (v4:Int):LSt:=⟨[],0,[0],1,[]⟩
abbrev K138 (p0:Int) (r:List Tm) (C:Cf):Prop:=C 138 [] [ai p0] (.sl (flat tmCells r) (List.length r) .no) [] 0
theorem q138:Qf 138 Tryz.f138:=⟨Tryz.func138,by kernel_rfl⟩
theorem k138 {p0 r} (h:K138 p0 r Ci):K138 p0 r Ct:=⟨h,⟨tv,tv⟩,forall_nil,dT _,forall_nil⟩
theorem l138L48355:∀ qq:Nat,(∀ v3 v4 r,e138L48355 qq v3 v4 = some r → (∀ j,Dl Tryz.prog 0 (inn (inn (rgt (lft (rgt (rgt (rgt (bod Tryz.f138)))))))) (g138L48355E0 j v3 v4) (g138L48355S0 v3 v4) (frameQ Tryz.prog 0 (FinQ Tryz.prog 0 Tryz.f138 (.sl (flat tmCells r) (List.length r) .no) [] 0) [.blk 0,.seq (rgt (rgt (rgt (rgt (bod Tryz.f138)))))]))):=by
 intro qq
 induction qq with
 | zero =>
  exact fun _ _ _ h => nn h
 | succ qq ih =>
  intro v3 v4 r h
  rw [e138L48355] at h
  rcases spl h with ⟨h3,h⟩ | ⟨h3,h⟩
  obtain ⟨r4,h5,h⟩:=obind h
  obtain ⟨l6,h7,h⟩:=obind h
  exact fun j => lH 1 [] [] [1] [3,4] (oD (dT l6) <| oP 0 (apS23 h7 (by simp)) <| oS 0 (obLitR tm_eq [r4]) <| oC 0 [] (c140 h5) <| oB 0 h3 o0) (ih _ _ _ h)
  obtain rfl:=sj h
  exact fun j => lF 0 [] (oD (dT v3) <| oB 0 h3 o0)
theorem c138 {qq p0 r} (h:e138 qq p0 = some r):K138 p0 r Ct:=by
 unfold e138 at h
 rcases spl h with ⟨h1,h⟩ | ⟨h1,h⟩
 obtain rfl:=sj h
 exact k138 (tF q138 0 [] (oD (dT ([]:List Tm)) <| oB 0 h1 o0))
 have k:=oB 0 h1 o0
 rcases spl h with ⟨h2,h⟩ | ⟨h2,h⟩
 obtain rfl:=sj h
 exact k138 (tF q138 0 [] (oD (dT ([]:List Tm)) <| oB 0 h2 k))
 exact k138 (tH q138 1 [(none,3,3)] [] [0] [3,4] (oD (dT ([]:List Tm)) <| oB 0 h2 k) (l138L48355 _ _ _ _ h))
def e204 (qq:Nat) (q0_e:Int) (p1:List Tm) (p2:Int):Option (List Tm × Int) :=
 if q0_e == 0 then
 some (p1,p2)
 else
 some (p1,q0_e)
abbrev K204 (q0_e:Int) (p1:List Tm) (p2:Int) (r:List Tm × Int) (C:Cf):Prop:=C 204 [.cells [ai q0_e]] [.mp 0 0,slv tmCells p1 .no,ai p2] (.sl (flat tmCells r.1) (List.length r.1) .no) [.cells [ai r.2]] 0
theorem q204:Qf 204 Tryz.f204:=⟨Tryz.func204,by kernel_rfl⟩
theorem k204 {q0_e p1 p2 r} (h:K204 q0_e p1 p2 r Ci):K204 q0_e p1 p2 r Ct:=⟨h,⟨(lz rfl),⟨tv,dT _⟩,tv,tv⟩,(forall_cons ⟨tv,tv⟩ forall_nil),dT _,(forall_cons ⟨tv,tv⟩ forall_nil)⟩
theorem c204 {qq q0_e p1 p2 r} (h:e204 qq q0_e p1 p2 = some r):K204 q0_e p1 p2 r Ct:=by
 unfold e204 at h
 rcases spl h with ⟨h1,h⟩ | ⟨h1,h⟩
 obtain rfl:=sj h
 exact k204 (tF q204 1 [0] (oD (dT p1) <| oB 1 h1 o0))
 obtain rfl:=sj h
 exact k204 (tF q204 0 [0] (oD (dT p1) <| oB 1 h1 o0))
def e205L22346:Nat → (List Tm) → Int → Int → Int → (List Tm) → Option (List Tm × Int)
 | 0,_,_,_,_,_ => none
 | qq + 1,p0,p1,p2,v15,v8 =>
 if decide (v15 < (List.length p0:Int)) then
 gidx p0 v15 >>= fun x2 =>
 e255 qq x2 p1 p2 >>= fun r4 =>
 if r4.2 != 0 then
 some ([],r4.2)
 else
 gapp 40 v8 [r4.1] >>= fun l7 =>
 e205L22346 qq p0 p1 p2 (w64 (v15 + 1)) l7
 else
 some (v8,0)
def e205 (qq:Nat) (p0:List Tm) (p1 p2:Int):Option (List Tm × Int) :=
 e205L22346 qq p0 p1 p2 0 []
def g205L22346E0 (j:Nat → Value) (p0:List Tm) (p1 p2 v15:Int) (v8:List Tm):=sp j 35 0 [(1,ai p1),(2,ai p2),(8,slv tmCells v8 (.st 0 3)),(13,slv tmCells p0 .no),(14,ai (List.length p0:Int)),(15,ai v15)]
def g205L22346S0 (p0:List Tm) (p1 p2 v15:Int) (v8:List Tm):LSt:=⟨[],0,[0],1,[]⟩
abbrev K205 (p0:List Tm) (p1 p2:Int) (r:List Tm × Int) (C:Cf):Prop:=C 205 [] [slv tmCells p0 .no,ai p1,ai p2] (.tup [.sl (flat tmCells r.1) (List.length r.1) .no,ai r.2]) [] 0
theorem q205:Qf 205 Tryz.f205:=⟨Tryz.func205,by kernel_rfl⟩
theorem k205 {p0 p1 p2 r} (h:K205 p0 p1 p2 r Ci):K205 p0 p1 p2 r Ct:=⟨h,⟨⟨tv,dT _⟩,tv,tv,tv⟩,forall_nil,⟨dT _,tv,tv⟩,forall_nil⟩
theorem l205L22346:∀ qq:Nat,(∀ p0 p1 p2 v15 v8 r,e205L22346 qq p0 p1 p2 v15 v8 = some r → (∀ j,Dl Tryz.prog 0 (inn (inn (rgt (lft (rgt (rgt (bod Tryz.f205))))))) (g205L22346E0 j p0 p1 p2 v15 v8) (g205L22346S0 p0 p1 p2 v15 v8) (frameQ Tryz.prog 0 (FinQ Tryz.prog 0 Tryz.f205 (.tup [.sl (flat tmCells r.1) (List.length r.1) .no,ai r.2]) [] 0) [.blk 0,.seq (rgt (rgt (rgt (bod Tryz.f205))))]))):=by
 intro qq
 induction qq with
 | zero =>
  exact fun _ _ _ _ _ _ h => nn h
 | succ qq ih =>
  intro p0 p1 p2 v15 v8 r h
  rw [e205L22346] at h
  rcases spl h with ⟨h1,h⟩ | ⟨h1,h⟩
  obtain ⟨x2,h3,h⟩:=obind h
  obtain ⟨r4,h5,h⟩:=obind h
  have k:=oC 3 [] (c255 h5) <| oA 0 (ix23 (o:=.no) h3) <| oB 0 h1 o0
  rcases spl h with ⟨h6,h⟩ | ⟨h6,h⟩
  obtain rfl:=sj h
  exact fun j => lF 0 [] (oD (dT ([]:List Tm)) <| oB 3 h6 k)
  obtain ⟨l7,h8,h⟩:=obind h
  exact fun j => lH 1 [] [] [1] [1,2,8,13,14,15] (oD (dT p0) <| oD (dT l7) <| oP 0 (apS23 h8 (by simp)) <| oS 1 (obLitR tm_eq [r4.1]) <| oB 3 h6 k) (ih _ _ _ _ _ _ h)
  obtain rfl:=sj h
  exact fun j => lF 0 [] (oD (dT v8) <| oB 0 h1 o0)
theorem c205 {qq p0 p1 p2 r} (h:e205 qq p0 p1 p2 = some r):K205 p0 p1 p2 r Ct:=by
 unfold e205 at h
 exact k205 (tH q205 1 [(none,8,3)] [] [0] [1,2,8,13,14,15] (oD (dT p0) <| oD (dT ([]:List Tm)) o0) (l205L22346 _ _ _ _ _ _ _ h))
def e139 (qq:Nat) (q0_e:Int) (p1:List Tm) (p2:Int):Option (List Tm × Int) :=
 e205 qq p1 p2 0 >>= fun r1 =>
 e204 qq q0_e r1.1 r1.2 >>= fun r3 =>
 some (r3.1,r3.2)
abbrev K139 (q0_e:Int) (p1:List Tm) (p2:Int) (r:List Tm × Int) (C:Cf):Prop:=C 139 [.cells [ai q0_e]] [.mp 0 0,slv tmCells p1 .no,ai p2] (.sl (flat tmCells r.1) (List.length r.1) .no) [.cells [ai r.2]] 0
theorem q139:Qf 139 Tryz.f139:=⟨Tryz.func139,by kernel_rfl⟩
theorem k139 {q0_e p1 p2 r} (h:K139 q0_e p1 p2 r Ci):K139 q0_e p1 p2 r Ct:=⟨h,⟨(lz rfl),⟨tv,dT _⟩,tv,tv⟩,(forall_cons ⟨tv,tv⟩ forall_nil),dT _,(forall_cons ⟨tv,tv⟩ forall_nil)⟩
theorem c139 {qq q0_e p1 p2 r} (h:e139 qq q0_e p1 p2 = some r):K139 q0_e p1 p2 r Ct:=by
 unfold e139 at h
 obtain ⟨r1,h2,h⟩:=obind h
 obtain ⟨r3,h4,h⟩:=obind h
 obtain rfl:=sj h
 exact k139 (tF q139 0 [0] (oD (dT r3.1) <| oC 2 [0] (c204 h4) <| oC 0 [] (c205 h2) o0))
def e144 (qq:Nat) (q0_e:Int) (p1:Tm) (p2:Int):Option (Tm × Int) :=
 if q0_e == 0 then
 some (p1,p2)
 else
 some (p1,q0_e)
abbrev K144 (q0_e:Int) (p1:Tm) (p2:Int) (r:Tm × Int) (C:Cf):Prop:=C 144 [.cells [ai q0_e]] [.mp 0 0,tmA p1,ai p2] (tmA r.1) [.cells [ai r.2]] 0
theorem q144:Qf 144 Tryz.f144:=⟨Tryz.func144,by kernel_rfl⟩
theorem k144 {q0_e p1 p2 r} (h:K144 q0_e p1 p2 r Ci):K144 q0_e p1 p2 r Ct:=⟨h,⟨(lz rfl),⟨tv,tv,⟨tv,dT _⟩,tv⟩,tv,tv⟩,(forall_cons ⟨tv,tv⟩ forall_nil),⟨tv,tv,dT _,tv⟩,(forall_cons ⟨tv,tv⟩ forall_nil)⟩
theorem c144 {qq q0_e p1 p2 r} (h:e144 qq q0_e p1 p2 = some r):K144 q0_e p1 p2 r Ct:=by
 unfold e144 at h
 rcases spl h with ⟨h1,h⟩ | ⟨h1,h⟩
 obtain rfl:=sj h
 exact k144 (tF q144 3 [0] (oD (dT p1.sub) <| oB 1 h1 o0))
 obtain rfl:=sj h
 exact k144 (tF q144 2 [0] (oD (dT p1.sub) <| oB 1 h1 o0))
def e201L60275:Nat → Tm → (List Tm × Int) → Int → (List Tm) → Option (Tm × Int)
 | 0,_,_,_,_ => none
 | qq + 1,p1,r6,v12,v9 =>
 if decide (v12 ≥ 0) then
 gidx r6.1 v12 >>= fun x9 =>
 gapp 40 v9 [x9] >>= fun l11 =>
 e201L60275 qq p1 r6 (w64 (v12 - 1)) l11
 else
 e186 qq p1 v9 >>= fun r13 =>
 e144 qq r6.2 r13.1 r13.2 >>= fun r15 =>
 some (r15.1,r15.2)
def e201L7793:Nat → Int → Tm → Int → (List Tm) → Int → (List Tm) → Option (Tm × Int)
 | 0,_,_,_,_,_,_ => none
 | qq + 1,q0_e,p1,p2,p3,v14,v9 =>
 if decide (v14 < p2) then
 e140 qq v14 >>= fun r2 =>
 gapp 40 v9 [r2] >>= fun l4 =>
 e201L7793 qq q0_e p1 p2 p3 (w64 (v14 + 1)) l4
 else
 e139 qq q0_e p3 p2 >>= fun r6 =>
 e201L60275 qq p1 r6 (w64 ((List.length r6.1:Int) - 1)) v9
def e201 (qq:Nat) (q0_e:Int) (p1:Tm) (p2:Int) (p3:List Tm):Option (Tm × Int) :=
 e201L7793 qq q0_e p1 p2 p3 0 []
def g201L7793E0 (j:Nat → Value) (q0_e:Int) (p1:Tm) (p2:Int) (p3:List Tm) (v14:Int) (v9:List Tm):=sp j 48 0 [(0,.mp 0 0),(2,ai p2),(3,slv tmCells p3 .no),(5,.mp 1 0),(8,.mp 2 0),(9,slv tmCells v9 (.st 0 3)),(13,ai p2),(14,ai v14)]
def g201L7793S0 (q0_e:Int) (p1:Tm) (p2:Int) (p3:List Tm) (v14:Int) (v9:List Tm):LSt:=⟨[(0,.cells [ai q0_e]),(1,.cells [ai p1.k,ai p1.n,slv tmCells p1.sub .no]),(2,.cells [ai 0,ai 0,slv tmCells ([]:List Tm) .nl])],3,[0],1,[]⟩
def g201L60275E0 (j:Nat → Value) (p1:Tm) (r6:List Tm × Int) (v12:Int) (v9:List Tm):=sp j 48 0 [(0,.mp 0 0),(5,.mp 1 0),(8,.mp 2 0),(9,slv tmCells v9 (.st 0 3)),(11,slv tmCells r6.1 .no),(12,ai v12)]
def g201L60275S0 (p1:Tm) (r6:List Tm × Int) (v12:Int) (v9:List Tm):LSt:=⟨[(0,.cells [ai r6.2]),(1,.cells [ai p1.k,ai p1.n,slv tmCells p1.sub .no]),(2,.cells [ai 0,ai 0,slv tmCells ([]:List Tm) .nl])],3,[0],1,[]⟩
abbrev K201 (q0_e:Int) (p1:Tm) (p2:Int) (p3:List Tm) (r:Tm × Int) (C:Cf):Prop:=C 201 [.cells [ai q0_e]] [.mp 0 0,tmA p1,ai p2,slv tmCells p3 .no] (tmA r.1) [.cells [ai r.2]] 0
theorem q201:Qf 201 Tryz.f201:=⟨Tryz.func201,by kernel_rfl⟩
theorem k201 {q0_e p1 p2 p3 r} (h:K201 q0_e p1 p2 p3 r Ci):K201 q0_e p1 p2 p3 r Ct:=⟨h,⟨(lz rfl),⟨tv,tv,⟨tv,dT _⟩,tv⟩,tv,⟨tv,dT _⟩,tv⟩,(forall_cons ⟨tv,tv⟩ forall_nil),⟨tv,tv,dT _,tv⟩,(forall_cons ⟨tv,tv⟩ forall_nil)⟩
theorem l201L60275:∀ qq:Nat,(∀ p1 r6 v12 v9 r,e201L60275 qq p1 r6 v12 v9 = some r → (∀ j,Dl Tryz.prog 1 (inn (inn (rgt (lft (rgt (rgt (rgt (rgt (bod Tryz.f201))))))))) (g201L60275E0 j p1 r6 v12 v9) (g201L60275S0 p1 r6 v12 v9) (frameQ Tryz.prog 1 (FinQ Tryz.prog 1 Tryz.f201 (tmA r.1) [.cells [ai r.2]] 0) [.blk 2,.seq (rgt (rgt (rgt (rgt (rgt (bod Tryz.f201))))))]))):=by
 intro qq
 induction qq with
 | zero =>
  exact fun _ _ _ _ _ h => nn h
 | succ qq ih =>
  intro p1 r6 v12 v9 r h
  rw [e201L60275] at h
  rcases spl h with ⟨h8,h⟩ | ⟨h8,h⟩
  obtain ⟨x9,h10,h⟩:=obind h
  obtain ⟨l11,h12,h⟩:=obind h
  exact fun j => lH 1 [] [0,1,2] [1] [0,5,8,9,11,12] (oD (dT r6.1) <| oD (dT l11) <| oD (dT ([]:List Tm)) <| oD (dT p1.sub) <| oP 0 (apS23 h12 (by simp)) <| oS 1 (obLitR tm_eq [x9]) <| oA 0 (ix23 (o:=.no) h10) <| oB 0 h8 o0) (ih _ _ _ _ _ h)
  obtain ⟨r13,h14,h⟩:=obind h
  obtain ⟨r15,h16,h⟩:=obind h
  obtain rfl:=sj h
  exact fun j => lF 1 [0] (oD (dT r15.1.sub) <| oC 2 [0] (c144 h16) <| oC 1 [] (c186 h14) <| oB 0 h8 o0)
theorem l201L7793:∀ qq:Nat,(∀ q0_e p1 p2 p3 v14 v9 r,e201L7793 qq q0_e p1 p2 p3 v14 v9 = some r → (∀ j,Dl Tryz.prog 1 (inn (inn (rgt (lft (rgt (rgt (bod Tryz.f201))))))) (g201L7793E0 j q0_e p1 p2 p3 v14 v9) (g201L7793S0 q0_e p1 p2 p3 v14 v9) (frameQ Tryz.prog 1 (FinQ Tryz.prog 1 Tryz.f201 (tmA r.1) [.cells [ai r.2]] 0) [.blk 0,.seq (rgt (rgt (rgt (bod Tryz.f201))))]))):=by
 intro qq
 induction qq with
 | zero =>
  exact fun _ _ _ _ _ _ _ h => nn h
 | succ qq ih =>
  intro q0_e p1 p2 p3 v14 v9 r h
  rw [e201L7793] at h
  rcases spl h with ⟨h1,h⟩ | ⟨h1,h⟩
  obtain ⟨r2,h3,h⟩:=obind h
  obtain ⟨l4,h5,h⟩:=obind h
  exact fun j => lH 1 [] [0,1,2] [1] [0,2,3,5,8,9,13,14] (oD (dT l4) <| oD (dT p3) <| oD (dT ([]:List Tm)) <| oD (dT p1.sub) <| oP 0 (apS23 h5 (by simp)) <| oS 0 (obLitR tm_eq [r2]) <| oC 0 [] (c140 h3) <| oB 0 h1 o0) (ih _ _ _ _ _ _ _ h)
  obtain ⟨r6,h7,h⟩:=obind h
  exact fun j => lH 2 [] [0,1,2] [0] [0,5,8,9,11,12] (oD (dT r6.1) <| oD (dT v9) <| oD (dT ([]:List Tm)) <| oD (dT p1.sub) <| oC 0 [0] (c139 h7) <| oB 0 h1 o0) (l201L60275 _ _ _ _ _ _ h)
theorem c201 {qq q0_e p1 p2 p3 r} (h:e201 qq q0_e p1 p2 p3 = some r):K201 q0_e p1 p2 p3 r Ct:=by
 unfold e201 at h
 exact k201 (tH q201 0 [(none,9,3)] [0,1,2] [0] [0,2,3,5,8,9,13,14] (oD (dT ([]:List Tm)) <| oD (dT p3) <| oD (dT ([]:List Tm)) <| oD (dT p1.sub) o0) (l201L7793 _ _ _ _ _ _ _ _ h))
def e141L28628:Nat → (List Tm) → (List Tm) → Int → (List Tm) → Int → Option (List Tm × Int)
 | 0,_,_,_,_,_ => none
 | qq + 1,p1,p2,v12,v7,vb0_0 =>
 if decide (v12 < (List.length p1:Int)) then
 gidx p1 v12 >>= fun x2 =>
 e201 qq vb0_0 x2 v12 p2 >>= fun r4 =>
 gapp 40 v7 [r4.1] >>= fun l6 =>
 e141L28628 qq p1 p2 (w64 (v12 + 1)) l6 r4.2
 else
 some (v7,vb0_0)
def e141 (qq:Nat) (q0_e:Int) (p1 p2:List Tm):Option (List Tm × Int) :=
 e141L28628 qq p1 p2 0 [] q0_e
def g141L28628E0 (j:Nat → Value) (p1 p2:List Tm) (v12:Int) (v7:List Tm) (vb0_0:Int):=sp j 27 0 [(0,.mp 0 0),(2,slv tmCells p2 .no),(7,slv tmCells v7 (.st 0 3)),(10,slv tmCells p1 .no),(11,ai (List.length p1:Int)),(12,ai v12)]
def g141L28628S0 (p1 p2:List Tm) (v12:Int) (v7:List Tm) (vb0_0:Int):LSt:=⟨[(0,.cells [ai vb0_0])],1,[0],1,[]⟩
abbrev K141 (q0_e:Int) (p1 p2:List Tm) (r:List Tm × Int) (C:Cf):Prop:=C 141 [.cells [ai q0_e]] [.mp 0 0,slv tmCells p1 .no,slv tmCells p2 .no] (slv tmCells r.1 (.st 0 3)) [.cells [ai r.2]] 1
theorem q141:Qf 141 Tryz.f141:=⟨Tryz.func141,by kernel_rfl⟩
theorem k141 {q0_e p1 p2 r} (h:K141 q0_e p1 p2 r Ci):K141 q0_e p1 p2 r Ct:=⟨h,⟨(lz rfl),⟨tv,dT _⟩,⟨tv,dT _⟩,tv⟩,(forall_cons ⟨tv,tv⟩ forall_nil),dT _,(forall_cons ⟨tv,tv⟩ forall_nil)⟩
theorem l141L28628:∀ qq:Nat,(∀ p1 p2 v12 v7 vb0_0 r,e141L28628 qq p1 p2 v12 v7 vb0_0 = some r → (∀ j,Dl Tryz.prog 1 (inn (inn (rgt (lft (rgt (rgt (bod Tryz.f141))))))) (g141L28628E0 j p1 p2 v12 v7 vb0_0) (g141L28628S0 p1 p2 v12 v7 vb0_0) (frameQ Tryz.prog 1 (FinQ Tryz.prog 1 Tryz.f141 (slv tmCells r.1 (.st 0 3)) [.cells [ai r.2]] 1) [.blk 0,.seq (rgt (rgt (rgt (bod Tryz.f141))))]))):=by
 intro qq
 induction qq with
 | zero =>
  exact fun _ _ _ _ _ _ h => nn h
 | succ qq ih =>
  intro p1 p2 v12 v7 vb0_0 r h
  rw [e141L28628] at h
  rcases spl h with ⟨h1,h⟩ | ⟨h1,h⟩
  obtain ⟨x2,h3,h⟩:=obind h
  obtain ⟨r4,h5,h⟩:=obind h
  obtain ⟨l6,h7,h⟩:=obind h
  exact fun j => lH 1 [] [0] [1] [0,2,7,10,11,12] (oD (dT p1) <| oD (dT l6) <| oD (dT p2) <| oP 0 (apS23 h7 (by simp)) <| oS 0 (obLitR tm_eq [r4.1]) <| oC 3 [0] (c201 h5) <| oA 0 (ix23 (o:=.no) h3) <| oB 0 h1 o0) (ih _ _ _ _ _ _ h)
  obtain rfl:=sj h
  exact fun j => lG 0 [] [0] [0] true (oD (dT v7) <| oB 0 h1 o0)
theorem c141 {qq q0_e p1 p2 r} (h:e141 qq q0_e p1 p2 = some r):K141 q0_e p1 p2 r Ct:=by
 unfold e141 at h
 exact k141 (tH q141 1 [(none,7,3)] [0] [0] [0,2,7,10,11,12] (oD (dT p1) <| oD (dT ([]:List Tm)) <| oD (dT p2) o0) (l141L28628 _ _ _ _ _ _ _ h))
def e143 (qq:Nat) (p0:Int):Option (Tm) :=
 e206 qq 6 p0 [] >>= fun r1 =>
 some r1
abbrev K143 (p0:Int) (r:Tm) (C:Cf):Prop:=C 143 [] [ai p0] (tmA r) [] 0
theorem q143:Qf 143 Tryz.f143:=⟨Tryz.func143,by kernel_rfl⟩
theorem k143 {p0 r} (h:K143 p0 r Ci):K143 p0 r Ct:=⟨h,⟨tv,tv⟩,forall_nil,⟨tv,tv,dT _,tv⟩,forall_nil⟩
theorem c143 {qq p0 r} (h:e143 qq p0 = some r):K143 p0 r Ct:=by
 unfold e143 at h
 obtain ⟨r1,h2,h⟩:=obind h
 obtain rfl:=sj h
 exact k143 (tF q143 1 [] (oD (dT r1.sub) <| oC 0 [] (c206 h2) o0))
def e208 (qq:Nat) (p0 p1:Tm):Option (Tm) :=
 e206 qq 3 0 [p0,p1] >>= fun r1 =>
 some r1
abbrev K208 (p0 p1 r:Tm) (C:Cf):Prop:=C 208 [] [tmA p0,tmA p1] (tmA r) [] 0
theorem q208:Qf 208 Tryz.f208:=⟨Tryz.func208,by kernel_rfl⟩
theorem k208 {p0 p1 r} (h:K208 p0 p1 r Ci):K208 p0 p1 r Ct:=⟨h,⟨⟨tv,tv,⟨tv,dT _⟩,tv⟩,⟨tv,tv,⟨tv,dT _⟩,tv⟩,tv⟩,forall_nil,⟨tv,tv,dT _,tv⟩,forall_nil⟩
theorem c208 {qq p0 p1 r} (h:e208 qq p0 p1 = some r):K208 p0 p1 r Ct:=by
 unfold e208 at h
 obtain ⟨r1,h2,h⟩:=obind h
 obtain rfl:=sj h
 exact k208 (tF q208 1 [] (oD (dT r1.sub) <| oC 0 [] (c206 h2) <| oS 2 (obLitR tm_eq [p0,p1]) o0))
def e207va49556L52327:Nat → (List Tm) → Int → Int → Int → (List Tm) → Option (Tm × Int)
 | 0,_,_,_,_,_ => none
 | qq + 1,p0,v32,vb0_0,vb0_1,vb0_2 =>
 if decide (v32 < (List.length p0:Int)) then
 gidx p0 (w64 ((w64 ((List.length p0:Int) - 1)) - v32)) >>= fun x12 =>
 e208 qq x12 (Tm.mk vb0_0 vb0_1 vb0_2) >>= fun r14 =>
 e207va49556L52327 qq p0 (w64 (v32 + 1)) r14.k r14.n r14.sub
 else
 e91 qq (Tm.mk vb0_0 vb0_1 vb0_2) >>= fun r16 =>
 if r16 then
 e84 qq (Tm.mk vb0_0 vb0_1 vb0_2) >>= fun r19 =>
 some (r19,0)
 else
 some ((Tm.mk 0 0 []),2)
def e207va49556L9593:Nat → (List Tm) → Tm → Int → Option (Tm × Int)
 | 0,_,_,_ => none
 | qq + 1,p0,p1,v17 =>
 if decide (v17 < (List.length p0:Int)) then
 gidx p0 v17 >>= fun x3 =>
 e91 qq x3 >>= fun r5 =>
 if r5 then
 e207va49556L9593 qq p0 p1 (w64 (v17 + 1))
 else
 some ((Tm.mk 0 0 []),5)
 else
 e91 qq p1 >>= fun r8 =>
 if r8 then
 e207va49556L52327 qq p0 0 p1.k p1.n p1.sub
 else
 some ((Tm.mk 0 0 []),5)
def e207va49556 (qq:Nat) (p0:List Tm) (p1:Tm):Option (Tm × Int) :=
 if decide ((List.length p0:Int) > 24) then
 some ((Tm.mk 0 0 []),2)
 else
 e207va49556L9593 qq p0 p1 0
def g207va49556L9593E0 (j:Nat → Value) (p0:List Tm) (p1:Tm) (v17:Int):=sp j 53 0 [(0,slv tmCells p0 .no),(2,.clo 208 [] []),(4,.mp 0 0),(6,.mp 1 0),(15,slv tmCells p0 .no),(16,ai (List.length p0:Int)),(17,ai v17)]
def g207va49556L9593S0 (p0:List Tm) (p1:Tm) (v17:Int):LSt:=⟨[(0,.cells [ai p1.k,ai p1.n,slv tmCells p1.sub .no]),(1,.cells [ai 0,ai 0,slv tmCells ([]:List Tm) .nl])],2,[],0,[]⟩
def g207va49556L52327E0 (j:Nat → Value) (p0:List Tm) (v32 vb0_0 vb0_1:Int) (vb0_2:List Tm):=sp j 53 0 [(0,slv tmCells p0 .no),(2,.clo 208 [] []),(4,.mp 0 0),(6,.mp 1 0),(31,ai (List.length p0:Int)),(32,ai v32)]
def g207va49556L52327S0 (p0:List Tm) (v32 vb0_0 vb0_1:Int) (vb0_2:List Tm):LSt:=⟨[(0,.cells [ai vb0_0,ai vb0_1,slv tmCells vb0_2 .no]),(1,.cells [ai 0,ai 0,slv tmCells ([]:List Tm) .nl])],2,[],0,[]⟩
abbrev K207va49556 (p0:List Tm) (p1:Tm) (r:Tm × Int) (C:Cf):Prop:=C 207 [] [slv tmCells p0 .no,tmA p1,.clo 208 [] []] (.tup [tmA r.1,ai r.2]) [] 0
theorem q207va49556:Qf 207 Tryz.f207:=⟨Tryz.func207,by kernel_rfl⟩
theorem k207va49556 {p0 p1 r} (h:K207va49556 p0 p1 r Ci):K207va49556 p0 p1 r Ct:=⟨h,⟨⟨tv,dT _⟩,⟨tv,tv,⟨tv,dT _⟩,tv⟩,⟨tv,tv⟩,tv⟩,forall_nil,⟨⟨tv,tv,dT _,tv⟩,tv,tv⟩,forall_nil⟩
theorem l207va49556L52327:∀ qq:Nat,(∀ p0 v32 vb0_0 vb0_1 vb0_2 r,e207va49556L52327 qq p0 v32 vb0_0 vb0_1 vb0_2 = some r → (∀ j,Dl Tryz.prog 0 (inn (inn (rgt (lft (rgt (rgt (rgt (rgt (bod Tryz.f207))))))))) (g207va49556L52327E0 j p0 v32 vb0_0 vb0_1 vb0_2) (g207va49556L52327S0 p0 v32 vb0_0 vb0_1 vb0_2) (frameQ Tryz.prog 0 (FinQ Tryz.prog 0 Tryz.f207 (.tup [tmA r.1,ai r.2]) [] 0) [.blk 2,.seq (rgt (rgt (rgt (rgt (rgt (bod Tryz.f207))))))]))):=by
 intro qq
 induction qq with
 | zero =>
  exact fun _ _ _ _ _ _ h => nn h
 | succ qq ih =>
  intro p0 v32 vb0_0 vb0_1 vb0_2 r h
  rw [e207va49556L52327] at h
  rcases spl h with ⟨h11,h⟩ | ⟨h11,h⟩
  obtain ⟨x12,h13,h⟩:=obind h
  obtain ⟨r14,h15,h⟩:=obind h
  exact fun j => lH 2 [] [0,1] [] [0,2,4,6,31,32] (oD (dT p0) <| oD (dT ([]:List Tm)) <| oD (dT r14.sub) <| oC 2 [] (c208 h15) <| oA 3 (ix23 (o:=.no) h13) <| oB 0 h11 o0) (ih _ _ _ _ _ _ h)
  obtain ⟨r16,h17,h⟩:=obind h
  have k:=oB 0 h11 o0
  rcases spl h with ⟨h18,h⟩ | ⟨h18,h⟩
  obtain ⟨r19,h20,h⟩:=obind h
  obtain rfl:=sj h
  exact fun j => lF 1 [] (oD (dT r19.sub) <| oC 2 [] (c84 h20) <| oK 1 [] h18 (c91 h17) k)
  obtain rfl:=sj h
  exact fun j => lF 2 [] (oD (dT ([]:List Tm)) <| oK 1 [] h18 (c91 h17) k)
theorem l207va49556L9593:∀ qq:Nat,(∀ p0 p1 v17 r,e207va49556L9593 qq p0 p1 v17 = some r → (∀ j,Dl Tryz.prog 0 (inn (inn (rgt (lft (rgt (rgt (bod Tryz.f207))))))) (g207va49556L9593E0 j p0 p1 v17) (g207va49556L9593S0 p0 p1 v17) (frameQ Tryz.prog 0 (FinQ Tryz.prog 0 Tryz.f207 (.tup [tmA r.1,ai r.2]) [] 0) [.blk 0,.seq (rgt (rgt (rgt (bod Tryz.f207))))]))):=by
 intro qq
 induction qq with
 | zero =>
  exact fun _ _ _ _ h => nn h
 | succ qq ih =>
  intro p0 p1 v17 r h
  rw [e207va49556L9593] at h
  rcases spl h with ⟨h2,h⟩ | ⟨h2,h⟩
  obtain ⟨x3,h4,h⟩:=obind h
  obtain ⟨r5,h6,h⟩:=obind h
  have k:=oA 0 (ix23 (o:=.no) h4) <| oB 0 h2 o0
  rcases spl h with ⟨h7,h⟩ | ⟨h7,h⟩
  exact fun j => lH 2 [] [0,1] [] [0,2,4,6,15,16,17] (oD (dT p0) <| oD (dT p0) <| oD (dT ([]:List Tm)) <| oD (dT p1.sub) <| oK 3 [] h7 (c91 h6) k) (ih _ _ _ _ h)
  obtain rfl:=sj h
  exact fun j => lF 2 [] (oD (dT ([]:List Tm)) <| oK 3 [] h7 (c91 h6) k)
  obtain ⟨r8,h9,h⟩:=obind h
  have k:=oB 0 h2 o0
  rcases spl h with ⟨h10,h⟩ | ⟨h10,h⟩
  exact fun j => lH 2 [] [0,1] [] [0,2,4,6,31,32] (oD (dT p0) <| oD (dT ([]:List Tm)) <| oD (dT p1.sub) <| oK 1 [] h10 (c91 h9) k) (l207va49556L52327 _ _ _ _ _ _ _ h)
  obtain rfl:=sj h
  exact fun j => lF 2 [] (oD (dT ([]:List Tm)) <| oK 1 [] h10 (c91 h9) k)
theorem c207va49556 {qq p0 p1 r} (h:e207va49556 qq p0 p1 = some r):K207va49556 p0 p1 r Ct:=by
 unfold e207va49556 at h
 rcases spl h with ⟨h1,h⟩ | ⟨h1,h⟩
 obtain rfl:=sj h
 exact k207va49556 (tF q207va49556 1 [] (oD (dT ([]:List Tm)) <| oB 1 h1 o0))
 exact k207va49556 (tH q207va49556 1 [] [0,1] [] [0,2,4,6,15,16,17] (oD (dT p0) <| oD (dT p0) <| oD (dT ([]:List Tm)) <| oD (dT p1.sub) <| oB 1 h1 o0) (l207va49556L9593 _ _ _ _ _ h))
def e145 (qq:Nat) (p0:List Tm) (p1:Tm):Option (Tm × Int) :=
 e207va49556 qq p0 p1 >>= fun r1 =>
 some (r1.1,r1.2)
abbrev K145 (p0:List Tm) (p1:Tm) (r:Tm × Int) (C:Cf):Prop:=C 145 [] [slv tmCells p0 .no,tmA p1] (.tup [tmA r.1,ai r.2]) [] 0
theorem q145:Qf 145 Tryz.f145:=⟨Tryz.func145,by kernel_rfl⟩
theorem k145 {p0 p1 r} (h:K145 p0 p1 r Ci):K145 p0 p1 r Ct:=⟨h,⟨⟨tv,dT _⟩,⟨tv,tv,⟨tv,dT _⟩,tv⟩,tv⟩,forall_nil,⟨⟨tv,tv,dT _,tv⟩,tv,tv⟩,forall_nil⟩
theorem c145 {qq p0 p1 r} (h:e145 qq p0 p1 = some r):K145 p0 p1 r Ct:=by
 unfold e145 at h
 obtain ⟨r1,h2,h⟩:=obind h
 obtain rfl:=sj h
 exact k145 (tF q145 3 [] (oD (dT r1.1.sub) <| oC 1 [] (c207va49556 h2) o0))
def e125 (qq:Nat) (q0_e:Int) (p1:List Ent) (p2 p3:Int) (p4:List Tm):Option (Tm × Int) :=
 e137 qq p1 p2 >>= fun r1 =>
 e143 qq p2 >>= fun r3 =>
 e139 qq q0_e p4 (List.length r1.2.1:Int) >>= fun r5 =>
 e142 qq r3 r5.1 >>= fun r7 =>
 e138 qq (List.length r1.2.1:Int) >>= fun r9 =>
 e142 qq r7 r9 >>= fun r11 =>
 e141 qq r5.2 r1.2.1 p4 >>= fun r13 =>
 gapp 40 r13.1 [r11] >>= fun l15 =>
 e191 qq p3 >>= fun r17 =>
 e145 qq l15 r17 >>= fun r19 =>
 e144 qq r13.2 r19.1 r19.2 >>= fun r21 =>
 some (r21.1,r21.2)
abbrev K125 (q0_e:Int) (p1:List Ent) (p2 p3:Int) (p4:List Tm) (r:Tm × Int) (C:Cf):Prop:=C 125 [.cells [ai q0_e]] [.mp 0 0,slv entL p1 .no,ai p2,ai p3,slv tmCells p4 .no] (tmA r.1) [.cells [ai r.2]] 0
theorem q125:Qf 125 Tryz.f125:=⟨Tryz.func125,by kernel_rfl⟩
theorem k125 {q0_e p1 p2 p3 p4 r} (h:K125 q0_e p1 p2 p3 p4 r Ci):K125 q0_e p1 p2 p3 p4 r Ct:=⟨h,⟨(lz rfl),⟨tv,dE _⟩,tv,tv,⟨tv,dT _⟩,tv⟩,(forall_cons ⟨tv,tv⟩ forall_nil),⟨tv,tv,dT _,tv⟩,(forall_cons ⟨tv,tv⟩ forall_nil)⟩
theorem c125 {qq q0_e p1 p2 p3 p4 r} (h:e125 qq q0_e p1 p2 p3 p4 = some r):K125 q0_e p1 p2 p3 p4 r Ct:=by
 unfold e125 at h
 obtain ⟨r1,h2,h⟩:=obind h
 obtain ⟨r3,h4,h⟩:=obind h
 obtain ⟨r5,h6,h⟩:=obind h
 obtain ⟨r7,h8,h⟩:=obind h
 obtain ⟨r9,h10,h⟩:=obind h
 obtain ⟨r11,h12,h⟩:=obind h
 obtain ⟨r13,h14,h⟩:=obind h
 obtain ⟨l15,h16,h⟩:=obind h
 obtain ⟨r17,h18,h⟩:=obind h
 obtain ⟨r19,h20,h⟩:=obind h
 obtain ⟨r21,h22,h⟩:=obind h
 obtain rfl:=sj h
 exact k125 (tF q125 1 [0] (oD (dT r21.1.sub) <| oC 2 [0] (c144 h22) <| oC 0 [] (c145 h20) <| oC 0 [] (c191 h18) <| oP 0 (apS23 h16 (by simp)) <| oS 1 (obLitR tm_eq [r11]) <| oC 1 [0] (c141 h14) <| oC 0 [] (c142 h12) <| oC 0 [] (c138 h10) <| oC 0 [] (c142 h8) <| oC 0 [0] (c139 h6) <| oC 4 [] (c143 h4) <| oC 0 [] (c137 h2) o0))
def e198 (qq:Nat) (p0:List Ent) (p1:Int):Option (Con' × Int) :=
 e73 qq p0 >>= fun r1 =>
 if r1 then
 e202 qq p0 p1 2 >>= fun r4 =>
 if r4 then
 e156 qq p0 p1 >>= fun r7 =>
 some (r7,0)
 else
 some ((Con'.mk [] [] []),16)
 else
 some ((Con'.mk [] [] []),5)
abbrev K198 (p0:List Ent) (p1:Int) (r:Con' × Int) (C:Cf):Prop:=C 198 [] [slv entL p0 .no,ai p1] (.tup [conA r.1,ai r.2]) [] 0
theorem q198:Qf 198 Tryz.f198:=⟨Tryz.func198,by kernel_rfl⟩
theorem k198 {p0 p1 r} (h:K198 p0 p1 r Ci):K198 p0 p1 r Ct:=⟨h,⟨⟨tv,dE _⟩,tv,tv⟩,forall_nil,⟨⟨dT _,dT _,dR _,tv⟩,tv,tv⟩,forall_nil⟩
theorem c198 {qq p0 p1 r} (h:e198 qq p0 p1 = some r):K198 p0 p1 r Ct:=by
 unfold e198 at h
 obtain ⟨r1,h2,h⟩:=obind h
 rcases spl h with ⟨h3,h⟩ | ⟨h3,h⟩
 obtain ⟨r4,h5,h⟩:=obind h
 have k:=oK 0 [] h3 (c73 h2) o0
 rcases spl h with ⟨h6,h⟩ | ⟨h6,h⟩
 obtain ⟨r7,h8,h⟩:=obind h
 obtain rfl:=sj h
 exact k198 (tF q198 1 [] (oD (dR r7.recs) <| oD (dT r7.inds) <| oD (dT r7.args) <| oC 1 [] (c156 h8) <| oK 1 [] h6 (c202 h5) k))
 obtain rfl:=sj h
 exact k198 (tF q198 2 [] (oD (dR ([]:List Rec')) <| oD (dT ([]:List Tm)) <| oD (dT ([]:List Tm)) <| oK 1 [] h6 (c202 h5) k))
 obtain rfl:=sj h
 exact k198 (tF q198 2 [] (oD (dR ([]:List Rec')) <| oD (dT ([]:List Tm)) <| oD (dT ([]:List Tm)) <| oK 0 [] h3 (c73 h2) o0))
def e200 (qq:Nat) (q0_e:Int) (p1:Tm) (p2:Int):Option (Tm × Int) :=
 e246 qq p1 p2 >>= fun r1 =>
 e144 qq q0_e r1.1 r1.2 >>= fun r3 =>
 some (r3.1,r3.2)
abbrev K200 (q0_e:Int) (p1:Tm) (p2:Int) (r:Tm × Int) (C:Cf):Prop:=C 200 [.cells [ai q0_e]] [.mp 0 0,tmA p1,ai p2] (tmA r.1) [.cells [ai r.2]] 0
theorem q200:Qf 200 Tryz.f200:=⟨Tryz.func200,by kernel_rfl⟩
theorem k200 {q0_e p1 p2 r} (h:K200 q0_e p1 p2 r Ci):K200 q0_e p1 p2 r Ct:=⟨h,⟨(lz rfl),⟨tv,tv,⟨tv,dT _⟩,tv⟩,tv,tv⟩,(forall_cons ⟨tv,tv⟩ forall_nil),⟨tv,tv,dT _,tv⟩,(forall_cons ⟨tv,tv⟩ forall_nil)⟩
theorem c200 {qq q0_e p1 p2 r} (h:e200 qq q0_e p1 p2 = some r):K200 q0_e p1 p2 r Ct:=by
 unfold e200 at h
 obtain ⟨r1,h2,h⟩:=obind h
 obtain ⟨r3,h4,h⟩:=obind h
 obtain rfl:=sj h
 exact k200 (tF q200 1 [0] (oD (dT r3.1.sub) <| oC 2 [0] (c144 h4) <| oC 1 [] (c246 h2) o0))
def e199L31904:Nat → Rec' → Int → Int → Int → (List Tm) → Int → Int → Int → Int → (List Tm) → Option (Tm × Int)
 | 0,_,_,_,_,_,_,_,_,_,_ => none
 | qq + 1,p3,p4,p5,p6,v17,v64,vb0_0,vb3_0,vb3_1,vb3_2 =>
 if decide (v64 < (List.length p3.at':Int)) then
 gidx p3.at' v64 >>= fun x14 =>
 e201 qq vb0_0 x14 (List.length p3.around:Int) v17 >>= fun r16 =>
 e146 qq (Tm.mk vb3_0 vb3_1 vb3_2) r16.1 >>= fun r18 =>
 e199L31904 qq p3 p4 p5 p6 v17 (w64 (v64 + 1)) r16.2 r18.k r18.n r18.sub
 else
 e140 qq (w64 ((w64 ((w64 ((w64 (p5 - p4)) + p6)) - 1)) + (List.length p3.around:Int))) >>= fun r20 =>
 e138 qq (List.length p3.around:Int) >>= fun r22 =>
 e142 qq r20 r22 >>= fun r24 =>
 e146 qq (Tm.mk vb3_0 vb3_1 vb3_2) r24 >>= fun r26 =>
 e141 qq vb0_0 p3.around v17 >>= fun r28 =>
 e145 qq r28.1 r26 >>= fun r30 =>
 e144 qq r28.2 r30.1 r30.2 >>= fun r32 =>
 some (r32.1,r32.2)
def e199L19567:Nat → Tm → Rec' → Int → Int → Int → (List Tm × Int) → (List Tm) → Int → Option (Tm × Int)
 | 0,_,_,_,_,_,_,_,_ => none
 | qq + 1,p2,p3,p4,p5,p6,r1,v17,v39 =>
 if decide (v39 < p4) then
 e140 qq (w64 ((w64 ((w64 (p5 - 1)) - v39)) + p6)) >>= fun r7 =>
 gapp 40 v17 [r7] >>= fun l9 =>
 e199L19567 qq p2 p3 p4 p5 p6 r1 l9 (w64 (v39 + 1))
 else
 e200 qq r1.2 p2 (w64 ((w64 (p5 + p6)) + (List.length p3.around:Int))) >>= fun r11 =>
 e199L31904 qq p3 p4 p5 p6 v17 0 r11.2 r11.1.k r11.1.n r11.1.sub
def e199 (qq:Nat) (q0_e:Int) (p1:List Tm) (p2:Tm) (p3:Rec') (p4 p5 p6:Int):Option (Tm × Int) :=
 e139 qq q0_e p1 (w64 (p5 + p6)) >>= fun r1 =>
 gapp 40 ([]:List Tm) r1.1 >>= fun l3 =>
 e199L19567 qq p2 p3 p4 p5 p6 r1 l3 0
def g199L19567E0 (j:Nat → Value) (p2:Tm) (p3:Rec') (p4 p5 p6:Int) (r1:List Tm × Int) (v17:List Tm) (v39:Int):=sp j 97 0 [(0,.mp 0 0),(5,ai p5),(6,ai p6),(9,.mp 1 0),(10,.mp 2 0),(14,.mp 3 0),(15,ai (w64 ((w64 (p5 - p4)) + p6))),(16,ai (List.length p3.around:Int)),(17,slv tmCells v17 .nl),(38,ai p4),(39,ai v39)]
def g199L19567S0 (p2:Tm) (p3:Rec') (p4 p5 p6:Int) (r1:List Tm × Int) (v17:List Tm) (v39:Int):LSt:=⟨[(0,.cells [ai r1.2]),(1,.cells [ai p2.k,ai p2.n,slv tmCells p2.sub .no]),(2,.cells [ab p3.is,slv tmCells p3.around .no,slv tmCells p3.at' .no]),(3,.cells [ai 0,ai 0,slv tmCells ([]:List Tm) .nl])],4,[],0,[]⟩
def g199L19567E1 (j:Nat → Value) (p2:Tm) (p3:Rec') (p4 p5 p6:Int) (r1:List Tm × Int) (v17:List Tm) (v39:Int):=sp j 97 0 [(0,.mp 0 0),(5,ai p5),(6,ai p6),(9,.mp 1 0),(10,.mp 2 0),(14,.mp 3 0),(15,ai (w64 ((w64 (p5 - p4)) + p6))),(16,ai (List.length p3.around:Int)),(17,slv tmCells v17 (.st 0 3)),(38,ai p4),(39,ai v39)]
def g199L19567S1 (p2:Tm) (p3:Rec') (p4 p5 p6:Int) (r1:List Tm × Int) (v17:List Tm) (v39:Int):LSt:=⟨[(0,.cells [ai r1.2]),(1,.cells [ai p2.k,ai p2.n,slv tmCells p2.sub .no]),(2,.cells [ab p3.is,slv tmCells p3.around .no,slv tmCells p3.at' .no]),(3,.cells [ai 0,ai 0,slv tmCells ([]:List Tm) .nl])],4,[0],1,[]⟩
def g199L31904E0 (j:Nat → Value) (p3:Rec') (p4 p5 p6:Int) (v17:List Tm) (v64 vb0_0 vb3_0 vb3_1:Int) (vb3_2:List Tm):=sp j 97 0 [(0,.mp 0 0),(10,.mp 1 0),(14,.mp 2 0),(15,ai (w64 ((w64 (p5 - p4)) + p6))),(16,ai (List.length p3.around:Int)),(17,slv tmCells v17 (.st 0 3)),(19,.mp 3 0),(62,slv tmCells p3.at' .no),(63,ai (List.length p3.at':Int)),(64,ai v64)]
def g199L31904S0 (p3:Rec') (p4 p5 p6:Int) (v17:List Tm) (v64 vb0_0 vb3_0 vb3_1:Int) (vb3_2:List Tm):LSt:=⟨[(0,.cells [ai vb0_0]),(1,.cells [ab p3.is,slv tmCells p3.around .no,slv tmCells p3.at' .no]),(2,.cells [ai 0,ai 0,slv tmCells ([]:List Tm) .nl]),(3,.cells [ai vb3_0,ai vb3_1,slv tmCells vb3_2 .no])],4,[0],1,[]⟩
def g199L31904E1 (j:Nat → Value) (p3:Rec') (p4 p5 p6:Int) (v17:List Tm) (v64 vb0_0 vb3_0 vb3_1:Int) (vb3_2:List Tm):=sp j 97 0 [(0,.mp 0 0),(10,.mp 1 0),(14,.mp 2 0),(15,ai (w64 ((w64 (p5 - p4)) + p6))),(16,ai (List.length p3.around:Int)),(17,slv tmCells v17 .nl),(19,.mp 3 0),(62,slv tmCells p3.at' .no),(63,ai (List.length p3.at':Int)),(64,ai v64)]
def g199L31904S1 (p3:Rec') (p4 p5 p6:Int) (v17:List Tm) (v64 vb0_0 vb3_0 vb3_1:Int) (vb3_2:List Tm):LSt:=⟨[(0,.cells [ai vb0_0]),(1,.cells [ab p3.is,slv tmCells p3.around .no,slv tmCells p3.at' .no]),(2,.cells [ai 0,ai 0,slv tmCells ([]:List Tm) .nl]),(3,.cells [ai vb3_0,ai vb3_1,slv tmCells vb3_2 .no])],4,[],0,[]⟩
abbrev K199 (q0_e:Int) (p1:List Tm) (p2:Tm) (p3:Rec') (p4 p5 p6:Int) (r:Tm × Int) (C:Cf):Prop:=C 199 [.cells [ai q0_e]] [.mp 0 0,slv tmCells p1 .no,tmA p2,recA p3,ai p4,ai p5,ai p6] (tmA r.1) [.cells [ai r.2]] 0
theorem q199:Qf 199 Tryz.f199:=⟨Tryz.func199,by kernel_rfl⟩
theorem k199 {q0_e p1 p2 p3 p4 p5 p6 r} (h:K199 q0_e p1 p2 p3 p4 p5 p6 r Ci):K199 q0_e p1 p2 p3 p4 p5 p6 r Ct:=⟨h,⟨(lz rfl),⟨tv,dT _⟩,⟨tv,tv,⟨tv,dT _⟩,tv⟩,⟨tv,⟨tv,dT _⟩,⟨tv,dT _⟩,tv⟩,tv,tv,tv,tv⟩,(forall_cons ⟨tv,tv⟩ forall_nil),⟨tv,tv,dT _,tv⟩,(forall_cons ⟨tv,tv⟩ forall_nil)⟩
theorem l199L31904:∀ qq:Nat,(∀ p3 p4 p5 p6 v17 v64 vb0_0 vb3_0 vb3_1 vb3_2 r,e199L31904 qq p3 p4 p5 p6 v17 v64 vb0_0 vb3_0 vb3_1 vb3_2 = some r → (∀ j,Dl Tryz.prog 1 (inn (inn (rgt (lft (rgt (rgt (rgt (rgt (rgt (rgt (rgt (bod Tryz.f199)))))))))))) (g199L31904E0 j p3 p4 p5 p6 v17 v64 vb0_0 vb3_0 vb3_1 vb3_2) (g199L31904S0 p3 p4 p5 p6 v17 v64 vb0_0 vb3_0 vb3_1 vb3_2) (frameQ Tryz.prog 1 (FinQ Tryz.prog 1 Tryz.f199 (tmA r.1) [.cells [ai r.2]] 0) [.blk 2,.seq (rgt (rgt (rgt (rgt (rgt (rgt (rgt (rgt (bod Tryz.f199)))))))))])) ∧ (∀ j,Dl Tryz.prog 1 (inn (inn (rgt (lft (rgt (rgt (rgt (rgt (rgt (rgt (rgt (bod Tryz.f199)))))))))))) (g199L31904E1 j p3 p4 p5 p6 v17 v64 vb0_0 vb3_0 vb3_1 vb3_2) (g199L31904S1 p3 p4 p5 p6 v17 v64 vb0_0 vb3_0 vb3_1 vb3_2) (frameQ Tryz.prog 1 (FinQ Tryz.prog 1 Tryz.f199 (tmA r.1) [.cells [ai r.2]] 0) [.blk 2,.seq (rgt (rgt (rgt (rgt (rgt (rgt (rgt (rgt (bod Tryz.f199)))))))))]))):=by
 intro qq
 induction qq with
 | zero =>
  exact fun _ _ _ _ _ _ _ _ _ _ _ h => nn h
 | succ qq ih =>
  intro p3 p4 p5 p6 v17 v64 vb0_0 vb3_0 vb3_1 vb3_2 r h
  rw [e199L31904] at h
  refine ⟨?_,?_⟩
  rcases spl h with ⟨h13,h⟩ | ⟨h13,h⟩
  obtain ⟨x14,h15,h⟩:=obind h
  obtain ⟨r16,h17,h⟩:=obind h
  obtain ⟨r18,h19,h⟩:=obind h
  exact fun j => lH 2 [] [0,1,2,3] [0] [0,10,14,15,16,17,19,62,63,64] (oD (dT p3.at') <| oD (dT v17) <| oD (dT r18.sub) <| oD (dT ([]:List Tm)) <| oD (dT p3.at') <| oD (dT p3.around) <| oC 0 [] (c146 h19) <| oC 4 [0] (c201 h17) <| oA 0 (ix23 (o:=.no) h15) <| oB 0 h13 o0) ((ih _ _ _ _ _ _ _ _ _ _ _ h).1)
  obtain ⟨r20,h21,h⟩:=obind h
  obtain ⟨r22,h23,h⟩:=obind h
  obtain ⟨r24,h25,h⟩:=obind h
  obtain ⟨r26,h27,h⟩:=obind h
  obtain ⟨r28,h29,h⟩:=obind h
  obtain ⟨r30,h31,h⟩:=obind h
  obtain ⟨r32,h33,h⟩:=obind h
  obtain rfl:=sj h
  exact fun j => lF 1 [0] (oD (dT r32.1.sub) <| oC 2 [0] (c144 h33) <| oC 1 [] (c145 h31) <| oC 2 [0] (c141 h29) <| oC 0 [] (c146 h27) <| oC 0 [] (c142 h25) <| oC 0 [] (c138 h23) <| oC 3 [] (c140 h21) <| oB 0 h13 o0)
  rcases spl h with ⟨h13,h⟩ | ⟨h13,h⟩
  obtain ⟨x14,h15,h⟩:=obind h
  obtain ⟨r16,h17,h⟩:=obind h
  obtain ⟨r18,h19,h⟩:=obind h
  exact fun j => lH 2 [] [0,1,2,3] [] [0,10,14,15,16,17,19,62,63,64] (oD (dT p3.at') <| oD (dT v17) <| oD (dT r18.sub) <| oD (dT ([]:List Tm)) <| oD (dT p3.at') <| oD (dT p3.around) <| oC 0 [] (c146 h19) <| oC 4 [0] (c201 h17) <| oA 0 (ix23 (o:=.no) h15) <| oB 0 h13 o0) ((ih _ _ _ _ _ _ _ _ _ _ _ h).2)
  obtain ⟨r20,h21,h⟩:=obind h
  obtain ⟨r22,h23,h⟩:=obind h
  obtain ⟨r24,h25,h⟩:=obind h
  obtain ⟨r26,h27,h⟩:=obind h
  obtain ⟨r28,h29,h⟩:=obind h
  obtain ⟨r30,h31,h⟩:=obind h
  obtain ⟨r32,h33,h⟩:=obind h
  obtain rfl:=sj h
  exact fun j => lF 1 [0] (oD (dT r32.1.sub) <| oC 2 [0] (c144 h33) <| oC 1 [] (c145 h31) <| oC 2 [0] (c141 h29) <| oC 0 [] (c146 h27) <| oC 0 [] (c142 h25) <| oC 0 [] (c138 h23) <| oC 3 [] (c140 h21) <| oB 0 h13 o0)
theorem l199L19567:∀ qq:Nat,(∀ p2 p3 p4 p5 p6 r1 v17 v39 r,e199L19567 qq p2 p3 p4 p5 p6 r1 v17 v39 = some r → (∀ j,Dl Tryz.prog 1 (inn (inn (rgt (lft (rgt (rgt (rgt (rgt (rgt (bod Tryz.f199)))))))))) (g199L19567E0 j p2 p3 p4 p5 p6 r1 v17 v39) (g199L19567S0 p2 p3 p4 p5 p6 r1 v17 v39) (frameQ Tryz.prog 1 (FinQ Tryz.prog 1 Tryz.f199 (tmA r.1) [.cells [ai r.2]] 0) [.blk 0,.seq (rgt (rgt (rgt (rgt (rgt (rgt (bod Tryz.f199)))))))])) ∧ (∀ j,Dl Tryz.prog 1 (inn (inn (rgt (lft (rgt (rgt (rgt (rgt (rgt (bod Tryz.f199)))))))))) (g199L19567E1 j p2 p3 p4 p5 p6 r1 v17 v39) (g199L19567S1 p2 p3 p4 p5 p6 r1 v17 v39) (frameQ Tryz.prog 1 (FinQ Tryz.prog 1 Tryz.f199 (tmA r.1) [.cells [ai r.2]] 0) [.blk 0,.seq (rgt (rgt (rgt (rgt (rgt (rgt (bod Tryz.f199)))))))]))):=by
 intro qq
 induction qq with
 | zero =>
  exact fun _ _ _ _ _ _ _ _ _ h => nn h
 | succ qq ih =>
  intro p2 p3 p4 p5 p6 r1 v17 v39 r h
  rw [e199L19567] at h
  refine ⟨?_,?_⟩
  rcases spl h with ⟨h6,h⟩ | ⟨h6,h⟩
  obtain ⟨r7,h8,h⟩:=obind h
  obtain ⟨l9,h10,h⟩:=obind h
  exact fun j => lH 1 [] [0,1,2,3] [0] [0,5,6,9,10,14,15,16,17,38,39] (oD (dT l9) <| oD (dT ([]:List Tm)) <| oD (dT p3.at') <| oD (dT p3.around) <| oD (dT p2.sub) <| oP 0 (apS23 h10 (by simp)) <| oS 0 (obLitR tm_eq [r7]) <| oC 3 [] (c140 h8) <| oB 0 h6 o0) ((ih _ _ _ _ _ _ _ _ _ h).2)
  obtain ⟨r11,h12,h⟩:=obind h
  exact fun j => lH 3 [] [0,2,3,4] [] [0,10,14,15,16,17,19,62,63,64] (oD (dT p3.at') <| oD (dT v17) <| oD (dT r11.1.sub) <| oD (dT ([]:List Tm)) <| oD (dT p3.at') <| oD (dT p3.around) <| oC 3 [0] (c200 h12) <| oB 0 h6 o0) ((l199L31904 _ _ _ _ _ _ _ _ _ _ _ _ h).2)
  rcases spl h with ⟨h6,h⟩ | ⟨h6,h⟩
  obtain ⟨r7,h8,h⟩:=obind h
  obtain ⟨l9,h10,h⟩:=obind h
  exact fun j => lH 1 [] [0,1,2,3] [1] [0,5,6,9,10,14,15,16,17,38,39] (oD (dT l9) <| oD (dT ([]:List Tm)) <| oD (dT p3.at') <| oD (dT p3.around) <| oD (dT p2.sub) <| oP 0 (apS23 h10 (by simp)) <| oS 0 (obLitR tm_eq [r7]) <| oC 3 [] (c140 h8) <| oB 0 h6 o0) ((ih _ _ _ _ _ _ _ _ _ h).2)
  obtain ⟨r11,h12,h⟩:=obind h
  exact fun j => lH 3 [] [0,2,3,4] [0] [0,10,14,15,16,17,19,62,63,64] (oD (dT p3.at') <| oD (dT v17) <| oD (dT r11.1.sub) <| oD (dT ([]:List Tm)) <| oD (dT p3.at') <| oD (dT p3.around) <| oC 3 [0] (c200 h12) <| oB 0 h6 o0) ((l199L31904 _ _ _ _ _ _ _ _ _ _ _ _ h).1)
theorem c199 {qq q0_e p1 p2 p3 p4 p5 p6 r} (h:e199 qq q0_e p1 p2 p3 p4 p5 p6 = some r):K199 q0_e p1 p2 p3 p4 p5 p6 r Ct:=by
 unfold e199 at h
 obtain ⟨r1,h2,h⟩:=obind h
 obtain ⟨l3,h4,h⟩:=obind h
 have k:=oC 5 [0] (c139 h2) o0
 by_cases h5:List.length r1.1 = 0
 exact k199 (tH q199 0 [] [0,1,2,3] [] [0,5,6,9,10,14,15,16,17,38,39] (oD (dT l3) <| oD (dT ([]:List Tm)) <| oD (dT p3.at') <| oD (dT p3.around) <| oD (dT p2.sub) <| oP 0 (apN23 h4 h5) k) ((l199L19567 _ _ _ _ _ _ _ _ _ _ h).1))
 exact k199 (tH q199 0 [] [0,1,2,3] [0] [0,5,6,9,10,14,15,16,17,38,39] (oD (dT l3) <| oD (dT ([]:List Tm)) <| oD (dT p3.at') <| oD (dT p3.around) <| oD (dT p2.sub) <| oP 0 (apS23 h4 h5) k) ((l199L19567 _ _ _ _ _ _ _ _ _ _ h).2))
def e133L34860:Nat → Int → (Con' × Int) → (List Tm) → (List Tm) → (List Tm × Int) → (List Tm) → Int → Int → Int → Int → (List Tm) → Option (Tm × Int)
 | 0,_,_,_,_,_,_,_,_,_,_,_ => none
 | qq + 1,p2,r1,v14,v18,r18,l23,v98,vb0_0,vb2_0,vb2_1,vb2_2 =>
 if decide (v98 < (List.length r1.1.inds:Int)) then
 gidx r1.1.inds v98 >>= fun x29 =>
 e201 qq vb0_0 x29 0 l23 >>= fun r31 =>
 e146 qq (Tm.mk vb2_0 vb2_1 vb2_2) r31.1 >>= fun r33 =>
 e133L34860 qq p2 r1 v14 v18 r18 l23 (w64 (v98 + 1)) r31.2 r33.k r33.n r33.sub
 else
 e143 qq p2 >>= fun r35 =>
 e142 qq r35 r18.1 >>= fun r37 =>
 e142 qq r37 v18 >>= fun r39 =>
 e146 qq (Tm.mk vb2_0 vb2_1 vb2_2) r39 >>= fun r41 =>
 e145 qq v14 r41 >>= fun r43 =>
 e144 qq vb0_0 r43.1 r43.2 >>= fun r45 =>
 some (r45.1,r45.2)
def e133L43296:Nat → Int → (List Tm) → Tm → (Con' × Int) → (List Tm) → Int → Int → (List Tm) → Int → Option (Tm × Int)
 | 0,_,_,_,_,_,_,_,_,_ => none
 | qq + 1,p2,p3,p4,r1,v14,v15,vb0_0,v18,v64 =>
 if decide (v64 < (List.length r1.1.args:Int)) then
 e140 qq (w64 ((w64 ((w64 ((List.length r1.1.args:Int) - 1)) - v64)) + v15)) >>= fun r14 =>
 gapp 40 v18 [r14] >>= fun l16 =>
 e133L43296 qq p2 p3 p4 r1 v14 v15 vb0_0 l16 (w64 (v64 + 1))
 else
 e139 qq vb0_0 p3 (w64 ((List.length r1.1.args:Int) + v15)) >>= fun r18 =>
 gapp 40 ([]:List Tm) r18.1 >>= fun l20 =>
 gapp 40 l20 v18 >>= fun l23 =>
 e200 qq r18.2 p4 (w64 ((List.length r1.1.args:Int) + v15)) >>= fun r26 =>
 e133L34860 qq p2 r1 v14 v18 r18 l23 0 r26.2 r26.1.k r26.1.n r26.1.sub
def e133L8004:Nat → Int → (List Tm) → Tm → (Con' × Int) → (List Tm) → Int → Int → Int → Option (Tm × Int)
 | 0,_,_,_,_,_,_,_,_ => none
 | qq + 1,p2,p3,p4,r1,v14,v15,v42,vb0_0 =>
 if decide (v42 < (List.length r1.1.recs:Int)) then
 gidx r1.1.recs v42 >>= fun x6 =>
 if x6.is then
 e199 qq vb0_0 p3 p4 x6 v42 (List.length r1.1.args:Int) v15 >>= fun r9 =>
 gapp 40 v14 [r9.1] >>= fun l11 =>
 e133L8004 qq p2 p3 p4 r1 l11 (w64 (v15 + 1)) (w64 (v42 + 1)) r9.2
 else
 e133L8004 qq p2 p3 p4 r1 v14 v15 (w64 (v42 + 1)) vb0_0
 else
 e133L43296 qq p2 p3 p4 r1 v14 v15 vb0_0 [] 0
def e133 (qq:Nat) (q0_e:Int) (p1:List Ent) (p2:Int) (p3:List Tm) (p4:Tm):Option (Tm × Int) :=
 e198 qq p1 p2 >>= fun r1 =>
 e141 qq q0_e r1.1.args p3 >>= fun r3 =>
 e133L8004 qq p2 p3 p4 r1 r3.1 0 0 r3.2
def g133L8004E0 (j:Nat → Value) (p2:Int) (p3:List Tm) (p4:Tm) (r1:Con' × Int) (v14:List Tm) (v15 v42 vb0_0:Int):=sp j 124 0 [(0,.mp 0 0),(2,ai p2),(3,slv tmCells p3 .no),(9,.mp 1 0),(10,.mp 2 0),(11,.mp 3 0),(13,ai (List.length r1.1.args:Int)),(14,slv tmCells v14 (.st 0 3)),(15,ai v15),(40,slv recL r1.1.recs .no),(41,ai (List.length r1.1.recs:Int)),(42,ai v42)]
def g133L8004S0 (p2:Int) (p3:List Tm) (p4:Tm) (r1:Con' × Int) (v14:List Tm) (v15 v42 vb0_0:Int):LSt:=⟨[(0,.cells [ai vb0_0]),(1,.cells [ai p4.k,ai p4.n,slv tmCells p4.sub .no]),(2,.cells [ai 0,ai 0,slv tmCells ([]:List Tm) .nl]),(3,.cells [slv tmCells r1.1.args .no,slv tmCells r1.1.inds .no,slv recL r1.1.recs .no])],4,[0],1,[]⟩
def g133L43296E0 (j:Nat → Value) (p2:Int) (p3:List Tm) (p4:Tm) (r1:Con' × Int) (v14:List Tm) (v15 vb0_0:Int) (v18:List Tm) (v64:Int):=sp j 124 0 [(0,.mp 0 0),(2,ai p2),(3,slv tmCells p3 .no),(9,.mp 1 0),(10,.mp 2 0),(11,.mp 3 0),(13,ai (List.length r1.1.args:Int)),(14,slv tmCells v14 (.st 0 3)),(15,ai v15),(18,slv tmCells v18 (.st 1 3)),(63,ai (List.length r1.1.args:Int)),(64,ai v64)]
def g133L43296S0 (p2:Int) (p3:List Tm) (p4:Tm) (r1:Con' × Int) (v14:List Tm) (v15 vb0_0:Int) (v18:List Tm) (v64:Int):LSt:=⟨[(0,.cells [ai vb0_0]),(1,.cells [ai p4.k,ai p4.n,slv tmCells p4.sub .no]),(2,.cells [ai 0,ai 0,slv tmCells ([]:List Tm) .nl]),(3,.cells [slv tmCells r1.1.args .no,slv tmCells r1.1.inds .no,slv recL r1.1.recs .no])],4,[0,1],2,[]⟩
def g133L34860E0 (j:Nat → Value) (p2:Int) (r1:Con' × Int) (v14 v18:List Tm) (r18:List Tm × Int) (l23:List Tm) (v98 vb0_0 vb2_0 vb2_1:Int) (vb2_2:List Tm):=sp j 124 0 [(0,.mp 0 0),(2,ai p2),(10,.mp 1 0),(14,slv tmCells v14 (.st 0 3)),(18,slv tmCells v18 (.st 1 3)),(20,slv tmCells r18.1 .no),(21,slv tmCells l23 .full),(22,.mp 2 0),(96,slv tmCells r1.1.inds .no),(97,ai (List.length r1.1.inds:Int)),(98,ai v98)]
def g133L34860S0 (p2:Int) (r1:Con' × Int) (v14 v18:List Tm) (r18:List Tm × Int) (l23:List Tm) (v98 vb0_0 vb2_0 vb2_1:Int) (vb2_2:List Tm):LSt:=⟨[(0,.cells [ai vb0_0]),(1,.cells [ai 0,ai 0,slv tmCells ([]:List Tm) .nl]),(2,.cells [ai vb2_0,ai vb2_1,slv tmCells vb2_2 .no])],3,[0,1],2,[]⟩
def g133L34860E1 (j:Nat → Value) (p2:Int) (r1:Con' × Int) (v14 v18:List Tm) (r18:List Tm × Int) (l23:List Tm) (v98 vb0_0 vb2_0 vb2_1:Int) (vb2_2:List Tm):=sp j 124 0 [(0,.mp 0 0),(2,ai p2),(10,.mp 1 0),(14,slv tmCells v14 (.st 0 3)),(18,slv tmCells v18 (.st 1 3)),(20,slv tmCells r18.1 .no),(21,slv tmCells l23 (.st 2 3)),(22,.mp 2 0),(96,slv tmCells r1.1.inds .no),(97,ai (List.length r1.1.inds:Int)),(98,ai v98)]
def g133L34860S1 (p2:Int) (r1:Con' × Int) (v14 v18:List Tm) (r18:List Tm × Int) (l23:List Tm) (v98 vb0_0 vb2_0 vb2_1:Int) (vb2_2:List Tm):LSt:=⟨[(0,.cells [ai vb0_0]),(1,.cells [ai 0,ai 0,slv tmCells ([]:List Tm) .nl]),(2,.cells [ai vb2_0,ai vb2_1,slv tmCells vb2_2 .no])],3,[0,1,2],3,[]⟩
abbrev K133 (q0_e:Int) (p1:List Ent) (p2:Int) (p3:List Tm) (p4:Tm) (r:Tm × Int) (C:Cf):Prop:=C 133 [.cells [ai q0_e]] [.mp 0 0,slv entL p1 .no,ai p2,slv tmCells p3 .no,tmA p4] (tmA r.1) [.cells [ai r.2]] 0
theorem q133:Qf 133 Tryz.f133:=⟨Tryz.func133,by kernel_rfl⟩
theorem k133 {q0_e p1 p2 p3 p4 r} (h:K133 q0_e p1 p2 p3 p4 r Ci):K133 q0_e p1 p2 p3 p4 r Ct:=⟨h,⟨(lz rfl),⟨tv,dE _⟩,tv,⟨tv,dT _⟩,⟨tv,tv,⟨tv,dT _⟩,tv⟩,tv⟩,(forall_cons ⟨tv,tv⟩ forall_nil),⟨tv,tv,dT _,tv⟩,(forall_cons ⟨tv,tv⟩ forall_nil)⟩
theorem l133L34860:∀ qq:Nat,(∀ p2 r1 v14 v18 r18 l23 v98 vb0_0 vb2_0 vb2_1 vb2_2 r,e133L34860 qq p2 r1 v14 v18 r18 l23 v98 vb0_0 vb2_0 vb2_1 vb2_2 = some r → (∀ j,Dl Tryz.prog 1 (inn (inn (rgt (lft (rgt (rgt (rgt (rgt (rgt (rgt (rgt (rgt (rgt (rgt (rgt (bod Tryz.f133)))))))))))))))) (g133L34860E0 j p2 r1 v14 v18 r18 l23 v98 vb0_0 vb2_0 vb2_1 vb2_2) (g133L34860S0 p2 r1 v14 v18 r18 l23 v98 vb0_0 vb2_0 vb2_1 vb2_2) (frameQ Tryz.prog 1 (FinQ Tryz.prog 1 Tryz.f133 (tmA r.1) [.cells [ai r.2]] 0) [.blk 4,.seq (rgt (rgt (rgt (rgt (rgt (rgt (rgt (rgt (rgt (rgt (rgt (rgt (bod Tryz.f133)))))))))))))])) ∧ (∀ j,Dl Tryz.prog 1 (inn (inn (rgt (lft (rgt (rgt (rgt (rgt (rgt (rgt (rgt (rgt (rgt (rgt (rgt (bod Tryz.f133)))))))))))))))) (g133L34860E1 j p2 r1 v14 v18 r18 l23 v98 vb0_0 vb2_0 vb2_1 vb2_2) (g133L34860S1 p2 r1 v14 v18 r18 l23 v98 vb0_0 vb2_0 vb2_1 vb2_2) (frameQ Tryz.prog 1 (FinQ Tryz.prog 1 Tryz.f133 (tmA r.1) [.cells [ai r.2]] 0) [.blk 4,.seq (rgt (rgt (rgt (rgt (rgt (rgt (rgt (rgt (rgt (rgt (rgt (rgt (bod Tryz.f133)))))))))))))]))):=by
 intro qq
 induction qq with
 | zero =>
  exact fun _ _ _ _ _ _ _ _ _ _ _ _ h => nn h
 | succ qq ih =>
  intro p2 r1 v14 v18 r18 l23 v98 vb0_0 vb2_0 vb2_1 vb2_2 r h
  rw [e133L34860] at h
  refine ⟨?_,?_⟩
  rcases spl h with ⟨h28,h⟩ | ⟨h28,h⟩
  obtain ⟨x29,h30,h⟩:=obind h
  obtain ⟨r31,h32,h⟩:=obind h
  obtain ⟨r33,h34,h⟩:=obind h
  exact fun j => lH 2 [] [0,1,2] [0,1] [0,2,10,14,18,20,21,22,96,97,98] (oD (dT r1.1.inds) <| oD (dT l23) <| oD (dT r18.1) <| oD (dT v18) <| oD (dT v14) <| oD (dT r33.sub) <| oD (dT ([]:List Tm)) <| oC 0 [] (c146 h34) <| oC 4 [0] (c201 h32) <| oA 0 (ix23 (o:=.no) h30) <| oB 0 h28 o0) ((ih _ _ _ _ _ _ _ _ _ _ _ _ h).1)
  obtain ⟨r35,h36,h⟩:=obind h
  obtain ⟨r37,h38,h⟩:=obind h
  obtain ⟨r39,h40,h⟩:=obind h
  obtain ⟨r41,h42,h⟩:=obind h
  obtain ⟨r43,h44,h⟩:=obind h
  obtain ⟨r45,h46,h⟩:=obind h
  obtain rfl:=sj h
  exact fun j => lF 1 [0] (oD (dT r45.1.sub) <| oC 2 [0] (c144 h46) <| oC 2 [] (c145 h44) <| oC 0 [] (c146 h42) <| oC 0 [] (c142 h40) <| oC 0 [] (c142 h38) <| oC 1 [] (c143 h36) <| oB 0 h28 o0)
  rcases spl h with ⟨h28,h⟩ | ⟨h28,h⟩
  obtain ⟨x29,h30,h⟩:=obind h
  obtain ⟨r31,h32,h⟩:=obind h
  obtain ⟨r33,h34,h⟩:=obind h
  exact fun j => lH 2 [] [0,1,2] [0,1,2] [0,2,10,14,18,20,21,22,96,97,98] (oD (dT r1.1.inds) <| oD (dT l23) <| oD (dT r18.1) <| oD (dT v18) <| oD (dT v14) <| oD (dT r33.sub) <| oD (dT ([]:List Tm)) <| oC 0 [] (c146 h34) <| oC 4 [0] (c201 h32) <| oA 0 (ix23 (o:=.no) h30) <| oB 0 h28 o0) ((ih _ _ _ _ _ _ _ _ _ _ _ _ h).2)
  obtain ⟨r35,h36,h⟩:=obind h
  obtain ⟨r37,h38,h⟩:=obind h
  obtain ⟨r39,h40,h⟩:=obind h
  obtain ⟨r41,h42,h⟩:=obind h
  obtain ⟨r43,h44,h⟩:=obind h
  obtain ⟨r45,h46,h⟩:=obind h
  obtain rfl:=sj h
  exact fun j => lF 1 [0] (oD (dT r45.1.sub) <| oC 2 [0] (c144 h46) <| oC 2 [] (c145 h44) <| oC 0 [] (c146 h42) <| oC 0 [] (c142 h40) <| oC 0 [] (c142 h38) <| oC 1 [] (c143 h36) <| oB 0 h28 o0)
theorem l133L43296:∀ qq:Nat,(∀ p2 p3 p4 r1 v14 v15 vb0_0 v18 v64 r,e133L43296 qq p2 p3 p4 r1 v14 v15 vb0_0 v18 v64 = some r → (∀ j,Dl Tryz.prog 1 (inn (inn (rgt (lft (rgt (rgt (rgt (rgt (rgt (rgt (rgt (bod Tryz.f133)))))))))))) (g133L43296E0 j p2 p3 p4 r1 v14 v15 vb0_0 v18 v64) (g133L43296S0 p2 p3 p4 r1 v14 v15 vb0_0 v18 v64) (frameQ Tryz.prog 1 (FinQ Tryz.prog 1 Tryz.f133 (tmA r.1) [.cells [ai r.2]] 0) [.blk 2,.seq (rgt (rgt (rgt (rgt (rgt (rgt (rgt (rgt (bod Tryz.f133)))))))))]))):=by
 intro qq
 induction qq with
 | zero =>
  exact fun _ _ _ _ _ _ _ _ _ _ h => nn h
 | succ qq ih =>
  intro p2 p3 p4 r1 v14 v15 vb0_0 v18 v64 r h
  rw [e133L43296] at h
  rcases spl h with ⟨h13,h⟩ | ⟨h13,h⟩
  obtain ⟨r14,h15,h⟩:=obind h
  obtain ⟨l16,h17,h⟩:=obind h
  exact fun j => lH 1 [] [0,1,2,3] [0,2] [0,2,3,9,10,11,13,14,15,18,63,64] (oD (dT l16) <| oD (dT v14) <| oD (dT p3) <| oD (dR r1.1.recs) <| oD (dT r1.1.inds) <| oD (dT r1.1.args) <| oD (dT ([]:List Tm)) <| oD (dT p4.sub) <| oP 0 (apS23 h17 (by simp)) <| oS 0 (obLitR tm_eq [r14]) <| oC 3 [] (c140 h15) <| oB 0 h13 o0) (ih _ _ _ _ _ _ _ _ _ _ h)
  obtain ⟨r18,h19,h⟩:=obind h
  obtain ⟨l20,h21,h⟩:=obind h
  have k:=oC 1 [0] (c139 h19) <| oB 0 h13 o0
  by_cases h22:List.length r18.1 = 0
  obtain ⟨l23,h24,h⟩:=obind h
  have k:=oP 1 (apN23 h21 h22) k
  by_cases h25:List.length v18 = 0
  obtain ⟨r26,h27,h⟩:=obind h
  exact fun j => lH 3 [] [0,2,4] [0,1] [0,2,10,14,18,20,21,22,96,97,98] (oD (dT r1.1.inds) <| oD (dT l23) <| oD (dT r18.1) <| oD (dT v18) <| oD (dT v14) <| oD (dT r26.1.sub) <| oD (dT ([]:List Tm)) <| oC 2 [0] (c200 h27) <| oP 0 (apN23 h24 h25) k) ((l133L34860 _ _ _ _ _ _ _ _ _ _ _ _ _ h).1)
  obtain ⟨r26,h27,h⟩:=obind h
  exact fun j => lH 3 [] [0,2,4] [0,1,2] [0,2,10,14,18,20,21,22,96,97,98] (oD (dT r1.1.inds) <| oD (dT l23) <| oD (dT r18.1) <| oD (dT v18) <| oD (dT v14) <| oD (dT r26.1.sub) <| oD (dT ([]:List Tm)) <| oC 2 [0] (c200 h27) <| oP 0 (apS23 h24 h25) k) ((l133L34860 _ _ _ _ _ _ _ _ _ _ _ _ _ h).2)
  obtain ⟨l23,h24,h⟩:=obind h
  have k:=oP 1 (apS23 h21 h22) k
  by_cases h25:List.length v18 = 0
  obtain ⟨r26,h27,h⟩:=obind h
  exact fun j => lH 3 [] [0,2,4] [0,1,2] [0,2,10,14,18,20,21,22,96,97,98] (oD (dT r1.1.inds) <| oD (dT l23) <| oD (dT r18.1) <| oD (dT v18) <| oD (dT v14) <| oD (dT r26.1.sub) <| oD (dT ([]:List Tm)) <| oC 2 [0] (c200 h27) <| oP 0 (apN23 h24 h25) k) ((l133L34860 _ _ _ _ _ _ _ _ _ _ _ _ _ h).2)
  obtain ⟨r26,h27,h⟩:=obind h
  exact fun j => lH 3 [] [0,2,4] [0,1,3] [0,2,10,14,18,20,21,22,96,97,98] (oD (dT r1.1.inds) <| oD (dT l23) <| oD (dT r18.1) <| oD (dT v18) <| oD (dT v14) <| oD (dT r26.1.sub) <| oD (dT ([]:List Tm)) <| oC 2 [0] (c200 h27) <| oP 0 (apS23 h24 h25) k) ((l133L34860 _ _ _ _ _ _ _ _ _ _ _ _ _ h).2)
theorem l133L8004:∀ qq:Nat,(∀ p2 p3 p4 r1 v14 v15 v42 vb0_0 r,e133L8004 qq p2 p3 p4 r1 v14 v15 v42 vb0_0 = some r → (∀ j,Dl Tryz.prog 1 (inn (inn (rgt (lft (rgt (rgt (rgt (rgt (rgt (bod Tryz.f133)))))))))) (g133L8004E0 j p2 p3 p4 r1 v14 v15 v42 vb0_0) (g133L8004S0 p2 p3 p4 r1 v14 v15 v42 vb0_0) (frameQ Tryz.prog 1 (FinQ Tryz.prog 1 Tryz.f133 (tmA r.1) [.cells [ai r.2]] 0) [.blk 0,.seq (rgt (rgt (rgt (rgt (rgt (rgt (bod Tryz.f133)))))))]))):=by
 intro qq
 induction qq with
 | zero =>
  exact fun _ _ _ _ _ _ _ _ _ h => nn h
 | succ qq ih =>
  intro p2 p3 p4 r1 v14 v15 v42 vb0_0 r h
  rw [e133L8004] at h
  rcases spl h with ⟨h5,h⟩ | ⟨h5,h⟩
  obtain ⟨x6,h7,h⟩:=obind h
  have k:=oA 0 (ix230 (o:=.no) h7) <| oB 0 h5 o0
  rcases spl h with ⟨h8,h⟩ | ⟨h8,h⟩
  obtain ⟨r9,h10,h⟩:=obind h
  obtain ⟨l11,h12,h⟩:=obind h
  exact fun j => lH 2 [] [0,1,2,3] [1] [0,2,3,9,10,11,13,14,15,40,41,42] (oD (dR r1.1.recs) <| oD (dT l11) <| oD (dT p3) <| oD (dR r1.1.recs) <| oD (dT r1.1.inds) <| oD (dT r1.1.args) <| oD (dT ([]:List Tm)) <| oD (dT p4.sub) <| oP 0 (apS23 h12 (by simp)) <| oS 0 (obLitR tm_eq [r9.1]) <| oC 2 [0] (c199 h10) <| oB 2 h8 k) (ih _ _ _ _ _ _ _ _ _ h)
  exact fun j => lH 1 [] [0,1,2,3] [0] [0,2,3,9,10,11,13,14,15,40,41,42] (oD (dR r1.1.recs) <| oD (dT v14) <| oD (dT p3) <| oD (dR r1.1.recs) <| oD (dT r1.1.inds) <| oD (dT r1.1.args) <| oD (dT ([]:List Tm)) <| oD (dT p4.sub) <| oB 2 h8 k) (ih _ _ _ _ _ _ _ _ _ h)
  exact fun j => lH 0 [(none,18,3)] [0,1,2,3] [0,1] [0,2,3,9,10,11,13,14,15,18,63,64] (oD (dT ([]:List Tm)) <| oD (dT v14) <| oD (dT p3) <| oD (dR r1.1.recs) <| oD (dT r1.1.inds) <| oD (dT r1.1.args) <| oD (dT ([]:List Tm)) <| oD (dT p4.sub) <| oB 0 h5 o0) (l133L43296 _ _ _ _ _ _ _ _ _ _ _ h)
theorem c133 {qq q0_e p1 p2 p3 p4 r} (h:e133 qq q0_e p1 p2 p3 p4 = some r):K133 q0_e p1 p2 p3 p4 r Ct:=by
 unfold e133 at h
 obtain ⟨r1,h2,h⟩:=obind h
 obtain ⟨r3,h4,h⟩:=obind h
 exact k133 (tH q133 2 [] [0,1,2,3] [0] [0,2,3,9,10,11,13,14,15,40,41,42] (oD (dR r1.1.recs) <| oD (dT r3.1) <| oD (dT p3) <| oD (dR r1.1.recs) <| oD (dT r1.1.inds) <| oD (dT r1.1.args) <| oD (dT ([]:List Tm)) <| oD (dT p4.sub) <| oC 6 [0] (c141 h4) <| oC 0 [] (c198 h2) o0) (l133L8004 _ _ _ _ _ _ _ _ _ _ h))
def e67L36785:Nat → (List Ent) → Int → (List Tm × List Tm × Int) → Ent → (List Tm) → Int → Int → Option (Tm × Int)
 | 0,_,_,_,_,_,_,_ => none
 | qq + 1,p0,p1,r4,x15,v14,v59,vb1_0 =>
 if decide (v59 < (List.length x15.cons:Int)) then
 gidx x15.cons v59 >>= fun x18 =>
 e138 qq (List.length r4.1:Int) >>= fun r20 =>
 e139 qq vb1_0 r20 (w64 (v59 + 1)) >>= fun r22 =>
 e140 qq v59 >>= fun r24 =>
 e133 qq r22.2 p0 x18 r22.1 r24 >>= fun r26 =>
 gapp 40 v14 [r26.1] >>= fun l28 =>
 e67L36785 qq p0 p1 r4 x15 l28 (w64 (v59 + 1)) r26.2
 else
 gidx p0 p1 >>= fun x30 =>
 e138 qq (List.length r4.1:Int) >>= fun r32 =>
 e139 qq vb1_0 r32 (w64 ((List.length x30.cons:Int) + 1)) >>= fun r34 =>
 e141 qq r34.2 r4.2.1 r34.1 >>= fun r36 =>
 gapp 40 v14 r36.1 >>= fun l38 =>
 e143 qq p1 >>= fun r41 =>
 e139 qq r36.2 r32 (w64 ((w64 ((List.length x30.cons:Int) + 1)) + (List.length r4.2.1:Int))) >>= fun r43 =>
 e142 qq r41 r43.1 >>= fun r45 =>
 e138 qq (List.length r4.2.1:Int) >>= fun r47 =>
 e142 qq r45 r47 >>= fun r49 =>
 gapp 40 l38 [r49] >>= fun l51 =>
 e140 qq (w64 ((w64 ((List.length x30.cons:Int) + (List.length r4.2.1:Int))) + 1)) >>= fun r53 =>
 e139 qq r43.2 r47 1 >>= fun r55 =>
 e142 qq r53 r55.1 >>= fun r57 =>
 e140 qq 0 >>= fun r59 =>
 e146 qq r57 r59 >>= fun r61 =>
 e145 qq l51 r61 >>= fun r63 =>
 e144 qq r55.2 r63.1 r63.2 >>= fun r65 =>
 e124 qq r65.2 r65.1 >>= fun r67 =>
 some (r67.1,r67.2.1)
def e67 (qq:Nat) (p0:List Ent) (p1 p2:Int):Option (Tm × Int) :=
 e68 qq p0 p1 p2 >>= fun r1 =>
 if r1 != 0 then
 some ((Tm.mk 0 0 []),r1)
 else
 e137 qq p0 p1 >>= fun r4 =>
 gapp 40 ([]:List Tm) r4.1 >>= fun l6 =>
 e138 qq (List.length r4.1:Int) >>= fun r9 =>
 e125 qq 0 p0 p1 p2 r9 >>= fun r11 =>
 gapp 40 l6 [r11.1] >>= fun l13 =>
 gidx p0 p1 >>= fun x15 =>
 e67L36785 qq p0 p1 r4 x15 l13 0 r11.2
def g67L36785E0 (j:Nat → Value) (p0:List Ent) (p1:Int) (r4:List Tm × List Tm × Int) (x15:Ent) (v14:List Tm) (v59 vb1_0:Int):=sp j 140 0 [(0,slv entL p0 .no),(1,ai p1),(6,.mp 0 0),(9,.mp 1 0),(11,slv tmCells r4.2.1 .no),(13,ai (List.length r4.1:Int)),(14,slv tmCells v14 (.st 0 3)),(57,slv intC x15.cons .no),(58,ai (List.length x15.cons:Int)),(59,ai v59)]
def g67L36785S0 (p0:List Ent) (p1:Int) (r4:List Tm × List Tm × Int) (x15:Ent) (v14:List Tm) (v59 vb1_0:Int):LSt:=⟨[(0,.cells [ai 0,ai 0,slv tmCells ([]:List Tm) .nl]),(1,.cells [ai vb1_0])],2,[0],1,[]⟩
abbrev K67 (p0:List Ent) (p1 p2:Int) (r:Tm × Int) (C:Cf):Prop:=C 67 [] [slv entL p0 .no,ai p1,ai p2] (.tup [tmA r.1,ai r.2]) [] 0
theorem q67:Qf 67 Tryz.f67:=⟨Tryz.func67,by kernel_rfl⟩
theorem k67 {p0 p1 p2 r} (h:K67 p0 p1 p2 r Ci):K67 p0 p1 p2 r Ct:=⟨h,⟨⟨tv,dE _⟩,tv,tv,tv⟩,forall_nil,⟨⟨tv,tv,dT _,tv⟩,tv,tv⟩,forall_nil⟩
theorem l67L36785:∀ qq:Nat,(∀ p0 p1 r4 x15 v14 v59 vb1_0 r,e67L36785 qq p0 p1 r4 x15 v14 v59 vb1_0 = some r → (∀ j,Dl Tryz.prog 0 (inn (inn (rgt (lft (rgt (rgt (rgt (rgt (rgt (rgt (rgt (bod Tryz.f67)))))))))))) (g67L36785E0 j p0 p1 r4 x15 v14 v59 vb1_0) (g67L36785S0 p0 p1 r4 x15 v14 v59 vb1_0) (frameQ Tryz.prog 0 (FinQ Tryz.prog 0 Tryz.f67 (.tup [tmA r.1,ai r.2]) [] 0) [.blk 0,.seq (rgt (rgt (rgt (rgt (rgt (rgt (rgt (rgt (bod Tryz.f67)))))))))]))):=by
 intro qq
 induction qq with
 | zero =>
  exact fun _ _ _ _ _ _ _ _ h => nn h
 | succ qq ih =>
  intro p0 p1 r4 x15 v14 v59 vb1_0 r h
  rw [e67L36785] at h
  rcases spl h with ⟨h17,h⟩ | ⟨h17,h⟩
  obtain ⟨x18,h19,h⟩:=obind h
  obtain ⟨r20,h21,h⟩:=obind h
  obtain ⟨r22,h23,h⟩:=obind h
  obtain ⟨r24,h25,h⟩:=obind h
  obtain ⟨r26,h27,h⟩:=obind h
  obtain ⟨l28,h29,h⟩:=obind h
  exact fun j => lH 1 [] [0,1] [1] [0,1,6,9,11,13,14,57,58,59] (oD (dI x15.cons) <| oD (dT l28) <| oD (dT r4.2.1) <| oD (dE p0) <| oD (dT ([]:List Tm)) <| oP 0 (apS23 h29 (by simp)) <| oS 0 (obLitR tm_eq [r26.1]) <| oC 0 [1] (c133 h27) <| oC 0 [] (c140 h25) <| oC 1 [1] (c139 h23) <| oC 1 [] (c138 h21) <| oA 0 (ix34 (o:=.no) h19) <| oB 0 h17 o0) (ih _ _ _ _ _ _ _ _ h)
  obtain ⟨x30,h31,h⟩:=obind h
  obtain ⟨r32,h33,h⟩:=obind h
  obtain ⟨r34,h35,h⟩:=obind h
  obtain ⟨r36,h37,h⟩:=obind h
  obtain ⟨l38,h39,h⟩:=obind h
  have k:=oC 0 [1] (c141 h37) <| oC 1 [1] (c139 h35) <| oC 2 [] (c138 h33) <| oA 0 (ix22 (o:=.no) h31) <| oB 0 h17 o0
  by_cases h40:List.length r36.1 = 0
  obtain ⟨r41,h42,h⟩:=obind h
  obtain ⟨r43,h44,h⟩:=obind h
  obtain ⟨r45,h46,h⟩:=obind h
  obtain ⟨r47,h48,h⟩:=obind h
  obtain ⟨r49,h50,h⟩:=obind h
  obtain ⟨l51,h52,h⟩:=obind h
  obtain ⟨r53,h54,h⟩:=obind h
  obtain ⟨r55,h56,h⟩:=obind h
  obtain ⟨r57,h58,h⟩:=obind h
  obtain ⟨r59,h60,h⟩:=obind h
  obtain ⟨r61,h62,h⟩:=obind h
  obtain ⟨r63,h64,h⟩:=obind h
  obtain ⟨r65,h66,h⟩:=obind h
  obtain ⟨r67,h68,h⟩:=obind h
  obtain rfl:=sj h
  exact fun j => lF 3 [] (oD (dT r67.1.sub) <| oC 0 [1] (c124 h68) <| oC 2 [1] (c144 h66) <| oC 0 [] (c145 h64) <| oC 0 [] (c146 h62) <| oC 2 [] (c140 h60) <| oC 0 [] (c142 h58) <| oC 0 [1] (c139 h56) <| oC 0 [] (c138 h48) <| oC 2 [] (c140 h54) <| oP 0 (apS23 h52 (by simp)) <| oS 2 (obLitR tm_eq [r49]) <| oC 0 [] (c142 h50) <| oC 0 [] (c138 h48) <| oC 0 [] (c142 h46) <| oC 2 [1] (c139 h44) <| oC 0 [] (c138 h33) <| oC 1 [] (c143 h42) <| oP 0 (apN23 h39 h40) k)
  obtain ⟨r41,h42,h⟩:=obind h
  obtain ⟨r43,h44,h⟩:=obind h
  obtain ⟨r45,h46,h⟩:=obind h
  obtain ⟨r47,h48,h⟩:=obind h
  obtain ⟨r49,h50,h⟩:=obind h
  obtain ⟨l51,h52,h⟩:=obind h
  obtain ⟨r53,h54,h⟩:=obind h
  obtain ⟨r55,h56,h⟩:=obind h
  obtain ⟨r57,h58,h⟩:=obind h
  obtain ⟨r59,h60,h⟩:=obind h
  obtain ⟨r61,h62,h⟩:=obind h
  obtain ⟨r63,h64,h⟩:=obind h
  obtain ⟨r65,h66,h⟩:=obind h
  obtain ⟨r67,h68,h⟩:=obind h
  obtain rfl:=sj h
  exact fun j => lF 3 [] (oD (dT r67.1.sub) <| oC 0 [1] (c124 h68) <| oC 2 [1] (c144 h66) <| oC 0 [] (c145 h64) <| oC 0 [] (c146 h62) <| oC 2 [] (c140 h60) <| oC 0 [] (c142 h58) <| oC 0 [1] (c139 h56) <| oC 0 [] (c138 h48) <| oC 2 [] (c140 h54) <| oP 0 (apS23 h52 (by simp)) <| oS 2 (obLitR tm_eq [r49]) <| oC 0 [] (c142 h50) <| oC 0 [] (c138 h48) <| oC 0 [] (c142 h46) <| oC 2 [1] (c139 h44) <| oC 0 [] (c138 h33) <| oC 1 [] (c143 h42) <| oP 0 (apS23 h39 h40) k)
theorem c67 {qq p0 p1 p2 r} (h:e67 qq p0 p1 p2 = some r):K67 p0 p1 p2 r Ct:=by
 unfold e67 at h
 obtain ⟨r1,h2,h⟩:=obind h
 have k:=oC 0 [] (c68 h2) o0
 rcases spl h with ⟨h3,h⟩ | ⟨h3,h⟩
 obtain rfl:=sj h
 exact k67 (tF q67 1 [] (oD (dT ([]:List Tm)) <| oB 0 h3 k))
 obtain ⟨r4,h5,h⟩:=obind h
 obtain ⟨l6,h7,h⟩:=obind h
 have k:=oC 0 [] (c137 h5) <| oB 0 h3 k
 by_cases h8:List.length r4.1 = 0
 obtain ⟨r9,h10,h⟩:=obind h
 obtain ⟨r11,h12,h⟩:=obind h
 obtain ⟨l13,h14,h⟩:=obind h
 obtain ⟨x15,h16,h⟩:=obind h
 exact k67 (tH q67 2 [] [0,1] [0] [0,1,6,9,11,13,14,57,58,59] (oD (dI x15.cons) <| oD (dT l13) <| oD (dT r4.2.1) <| oD (dE p0) <| oD (dT ([]:List Tm)) <| oA 0 (ix22 (o:=.no) h16) <| oP 0 (apS23 h14 (by simp)) <| oS 0 (obLitR tm_eq [r11.1]) <| oC 0 [1] (c125 h12) <| oC 0 [] (c138 h10) <| oP 5 (apN23 h7 h8) k) (l67L36785 _ _ _ _ _ _ _ _ _ h))
 obtain ⟨r9,h10,h⟩:=obind h
 obtain ⟨r11,h12,h⟩:=obind h
 obtain ⟨l13,h14,h⟩:=obind h
 obtain ⟨x15,h16,h⟩:=obind h
 exact k67 (tH q67 2 [] [0,1] [1] [0,1,6,9,11,13,14,57,58,59] (oD (dI x15.cons) <| oD (dT l13) <| oD (dT r4.2.1) <| oD (dE p0) <| oD (dT ([]:List Tm)) <| oA 0 (ix22 (o:=.no) h16) <| oP 0 (apS23 h14 (by simp)) <| oS 0 (obLitR tm_eq [r11.1]) <| oC 0 [1] (c125 h12) <| oC 0 [] (c138 h10) <| oP 5 (apS23 h7 h8) k) (l67L36785 _ _ _ _ _ _ _ _ _ h))
def e16 (qq:Nat)  : Option (Bool) :=
 e66 qq >>= fun r1 =>
 e18 qq r1 0 >>= fun r3 =>
 e67 qq r1 0 0 >>= fun r5 =>
 if r3.1 == 4 then
 if r3.2 == 0 then
 if r5.2 == 0 then
 some (r5.1.k == 3)
 else
 some false
 else
 some false
 else
 some false
abbrev K16 (r:Bool) (C:Cf):Prop:=C 16 [] [] (ab r) [] 0
theorem q16:Qf 16 Tryz.f16:=⟨Tryz.func16,by kernel_rfl⟩
theorem k16 {r} (h:K16 r Ci):K16 r Ct:=⟨h,tv,forall_nil,tv,forall_nil⟩
theorem c16 {qq r} (h:e16 qq  = some r):K16 r Ct:=by
 unfold e16 at h
 obtain ⟨r1,h2,h⟩:=obind h
 obtain ⟨r3,h4,h⟩:=obind h
 obtain ⟨r5,h6,h⟩:=obind h
 have k:=oC 0 [] (c67 h6) <| oC 2 [] (c66 h2) <| oC 0 [] (c18 h4) <| oC 0 [] (c66 h2) o0
 rcases spl h with ⟨h7,h⟩ | ⟨h7,h⟩
 have k:=oB 3 h7 k
 rcases spl h with ⟨h8,h⟩ | ⟨h8,h⟩
 have k:=oB 0 h8 k
 rcases spl h with ⟨h9,h⟩ | ⟨h9,h⟩
 obtain rfl:=sj h
 exact k16 (tF q16 2 [] (oB 0 h9 k))
 obtain rfl:=sj h
 exact k16 (tF q16 0 [] (oB 0 h9 k))
 obtain rfl:=sj h
 exact k16 (tF q16 0 [] (oB 0 h8 k))
 obtain rfl:=sj h
 exact k16 (tF q16 0 [] (oB 3 h7 k))
def e76L18873:Nat → (List Tm) → Int → Option (Bool)
 | 0,_,_ => none
 | qq + 1,p0,v7 =>
 if decide (v7 < (List.length p0:Int)) then
 gidx p0 v7 >>= fun x2 =>
 e91 qq x2 >>= fun r4 =>
 if r4 then
 e76L18873 qq p0 (w64 (v7 + 1))
 else
 some false
 else
 some true
def e76 (qq:Nat) (p0:List Tm):Option (Bool) :=
 e76L18873 qq p0 0
def g76L18873E0 (j:Nat → Value) (p0:List Tm) (v7:Int):=sp j 15 0 [(5,slv tmCells p0 .no),(6,ai (List.length p0:Int)),(7,ai v7)]
def g76L18873S0 (p0:List Tm) (v7:Int):LSt:=⟨[],0,[],0,[]⟩
abbrev K76 (p0:List Tm) (r:Bool) (C:Cf):Prop:=C 76 [] [slv tmCells p0 .no] (ab r) [] 0
theorem q76:Qf 76 Tryz.f76:=⟨Tryz.func76,by kernel_rfl⟩
theorem k76 {p0 r} (h:K76 p0 r Ci):K76 p0 r Ct:=⟨h,⟨⟨tv,dT _⟩,tv⟩,forall_nil,tv,forall_nil⟩
theorem l76L18873:∀ qq:Nat,(∀ p0 v7 r,e76L18873 qq p0 v7 = some r → (∀ j,Dl Tryz.prog 0 (inn (inn (rgt (lft (rgt (bod Tryz.f76)))))) (g76L18873E0 j p0 v7) (g76L18873S0 p0 v7) (frameQ Tryz.prog 0 (FinQ Tryz.prog 0 Tryz.f76 (ab r) [] 0) [.blk 0,.seq (rgt (rgt (bod Tryz.f76)))]))):=by
 intro qq
 induction qq with
 | zero =>
  exact fun _ _ _ h => nn h
 | succ qq ih =>
  intro p0 v7 r h
  rw [e76L18873] at h
  rcases spl h with ⟨h1,h⟩ | ⟨h1,h⟩
  obtain ⟨x2,h3,h⟩:=obind h
  obtain ⟨r4,h5,h⟩:=obind h
  have k:=oA 0 (ix23 (o:=.no) h3) <| oB 0 h1 o0
  rcases spl h with ⟨h6,h⟩ | ⟨h6,h⟩
  exact fun j => lH 2 [] [] [] [5,6,7] (oD (dT p0) <| oK 3 [] h6 (c91 h5) k) (ih _ _ _ h)
  obtain rfl:=sj h
  exact fun j => lF 1 [] (oK 3 [] h6 (c91 h5) k)
  obtain rfl:=sj h
  exact fun j => lF 0 [] (oB 0 h1 o0)
theorem c76 {qq p0 r} (h:e76 qq p0 = some r):K76 p0 r Ct:=by
 unfold e76 at h
 exact k76 (tH q76 1 [] [] [] [5,6,7] (oD (dT p0) o0) (l76L18873 _ _ _ _ h))
def e24 (qq:Nat) (rl:List Ent) (parts:List Con') (p1:Int) (p2:List Tm):Option (Tm × Int) :=
 e75 qq rl p1 4 >>= fun r1 =>
 if r1 then
 gidx rl p1 >>= fun x4 =>
 gidx rl x4.fam >>= fun x6 =>
 if (List.length p2:Int) != (List.length x6.fields:Int) then
 some ((Tm.mk 0 0 []),5)
 else
 e76 qq p2 >>= fun r9 =>
 if r9 then
 gidx p2 x4.place >>= fun x12 =>
 some (x12,0)
 else
 some ((Tm.mk 0 0 []),5)
 else
 some ((Tm.mk 0 0 []),16)
abbrev K24 (rl:List Ent) (parts:List Con') (p1:Int) (p2:List Tm) (r:Tm × Int) (C:Cf):Prop:=C 24 [.cells [slv entL rl .no,slv conL parts .no]] [.mp 0 0,ai p1,slv tmCells p2 .no] (.tup [tmA r.1,ai r.2]) [.cells [slv entL rl .no,slv conL parts .no]] 0
theorem q24:Qf 24 Tryz.f24:=⟨Tryz.func24,by kernel_rfl⟩
theorem k24 {rl parts p1 p2 r} (h:K24 rl parts p1 p2 r Ci):K24 rl parts p1 p2 r Ct:=⟨h,⟨(lz rfl),tv,⟨tv,dT _⟩,tv⟩,(forall_cons ⟨⟨tv,dE _⟩,⟨tv,dC _⟩,tv⟩ forall_nil),⟨⟨tv,tv,dT _,tv⟩,tv,tv⟩,(forall_cons ⟨dE _,dC _,tv⟩ forall_nil)⟩
theorem c24 {qq rl parts p1 p2 r} (h:e24 qq rl parts p1 p2 = some r):K24 rl parts p1 p2 r Ct:=by
 unfold e24 at h
 obtain ⟨r1,h2,h⟩:=obind h
 rcases spl h with ⟨h3,h⟩ | ⟨h3,h⟩
 obtain ⟨x4,h5,h⟩:=obind h
 obtain ⟨x6,h7,h⟩:=obind h
 have k:=oA 1 (ix22 (o:=.no) h7) <| oA 2 (ix22 (o:=.no) h5) <| oK 2 [] h3 (c75 h2) o0
 rcases spl h with ⟨h8,h⟩ | ⟨h8,h⟩
 obtain rfl:=sj h
 exact k24 (tF q24 1 [0] (oD (dT ([]:List Tm)) <| oD (dC parts) <| oD (dE rl) <| oB 2 h8 k))
 obtain ⟨r9,h10,h⟩:=obind h
 have k:=oB 2 h8 k
 rcases spl h with ⟨h11,h⟩ | ⟨h11,h⟩
 obtain ⟨x12,h13,h⟩:=obind h
 obtain rfl:=sj h
 exact k24 (tF q24 2 [0] (oD (dT x12.sub) <| oD (dC parts) <| oD (dE rl) <| oA 1 (ix23 (o:=.no) h13) <| oA 1 (ix22 (o:=.no) h5) <| oK 0 [] h11 (c76 h10) k))
 obtain rfl:=sj h
 exact k24 (tF q24 2 [0] (oD (dT ([]:List Tm)) <| oD (dC parts) <| oD (dE rl) <| oK 0 [] h11 (c76 h10) k))
 obtain rfl:=sj h
 exact k24 (tF q24 2 [0] (oD (dT ([]:List Tm)) <| oD (dC parts) <| oD (dE rl) <| oK 2 [] h3 (c75 h2) o0))
def e24va47776 (qq:Nat) (p1:Int) (p2:List Tm):Option (Tm × Int) :=
 some ((Tm.mk 0 0 []),5)
abbrev K24va47776 (p1:Int) (p2:List Tm) (r:Tm × Int) (C:Cf):Prop:=C 24 [] [.val (.pointer none),ai p1,slv tmCells p2 .no] (.tup [tmA r.1,ai r.2]) [] 0
theorem q24va47776:Qf 24 Tryz.f24:=⟨Tryz.func24,by kernel_rfl⟩
theorem k24va47776 {p1 p2 r} (h:K24va47776 p1 p2 r Ci):K24va47776 p1 p2 r Ct:=⟨h,⟨tv,tv,⟨tv,dT _⟩,tv⟩,forall_nil,⟨⟨tv,tv,dT _,tv⟩,tv,tv⟩,forall_nil⟩
theorem c24va47776 {qq p1 p2 r} (h:e24va47776 qq p1 p2 = some r):K24va47776 p1 p2 r Ct:=by
 unfold e24va47776 at h
 obtain rfl:=sj h
 exact k24va47776 (tF q24va47776 2 [] (oD (dT ([]:List Tm)) o0))
def e17 (qq:Nat) (p0:List Ent) (p1:Int) (p2:List Tm):Option (Tm × Int) :=
 e23 qq p0 >>= fun r1 =>
 match r1 with
 | Sum.inl y7 =>
  if y7 != 0 then
  some ((Tm.mk 0 0 []),y7)
  else
  e24va47776 qq p1 p2 >>= fun r9 =>
  some (r9.1,r9.2)
 | Sum.inr y3 =>
  if y3.1 != 0 then
  some ((Tm.mk 0 0 []),y3.1)
  else
  e24 qq y3.2.1 y3.2.2 p1 p2 >>= fun r5 =>
  some (r5.1,r5.2)
abbrev K17 (p0:List Ent) (p1:Int) (p2:List Tm) (r:Tm × Int) (C:Cf):Prop:=C 17 [] [slv entL p0 .no,ai p1,slv tmCells p2 .no] (.tup [tmA r.1,ai r.2]) [] 0
theorem q17:Qf 17 Tryz.f17:=⟨Tryz.func17,by kernel_rfl⟩
theorem k17 {p0 p1 p2 r} (h:K17 p0 p1 p2 r Ci):K17 p0 p1 p2 r Ct:=⟨h,⟨⟨tv,dE _⟩,tv,⟨tv,dT _⟩,tv⟩,forall_nil,⟨⟨tv,tv,dT _,tv⟩,tv,tv⟩,forall_nil⟩
theorem c17 {qq p0 p1 p2 r} (h:e17 qq p0 p1 p2 = some r):K17 p0 p1 p2 r Ct:=by
 unfold e17 at h
 obtain ⟨r1,h2,h⟩:=obind h
 rcases r1 with y7 | y3
 dsimp only at h
 have k:=oC 0 [] (c23 h2) o0
 rcases spl h with ⟨h8,h⟩ | ⟨h8,h⟩
 obtain rfl:=sj h
 exact k17 (tF q17 1 [] (oD (dT ([]:List Tm)) <| oB 2 h8 k))
 obtain ⟨r9,h10,h⟩:=obind h
 obtain rfl:=sj h
 exact k17 (tF q17 3 [] (oD (dT r9.1.sub) <| oC 0 [] (c24va47776 h10) <| oB 2 h8 k))
 dsimp only at h
 have k:=oC 0 [] (c23 h2) o0
 rcases spl h with ⟨h4,h⟩ | ⟨h4,h⟩
 obtain rfl:=sj h
 exact k17 (tF q17 1 [] (oD (dT ([]:List Tm)) <| oB 2 h4 k))
 obtain ⟨r5,h6,h⟩:=obind h
 obtain rfl:=sj h
 exact k17 (tF q17 3 [] (oD (dT r5.1.sub) <| oC 0 [1] (c24 h6) <| oB 2 h4 k))
def e19 (qq:Nat) (p0:List Ent) (p1 p2:Int):Option (Int) :=
 e20 qq p0 >>= fun r1 =>
 if r1 then
 e21 qq p0 p1 1 >>= fun r4 =>
 if r4 then
 if decide (p2 < 0) then
 some 16
 else
 if decide (p2 > 7) then
 some 16
 else
 some 0
 else
 some 16
 else
 some 5
abbrev K19 (p0:List Ent) (p1 p2 r:Int) (C:Cf):Prop:=C 19 [] [slv entL p0 .no,ai p1,ai p2] (ai r) [] 0
theorem q19:Qf 19 Tryz.f19:=⟨Tryz.func19,by kernel_rfl⟩
theorem k19 {p0 p1 p2 r} (h:K19 p0 p1 p2 r Ci):K19 p0 p1 p2 r Ct:=⟨h,⟨⟨tv,dE _⟩,tv,tv,tv⟩,forall_nil,tv,forall_nil⟩
theorem c19 {qq p0 p1 p2 r} (h:e19 qq p0 p1 p2 = some r):K19 p0 p1 p2 r Ct:=by
 unfold e19 at h
 obtain ⟨r1,h2,h⟩:=obind h
 rcases spl h with ⟨h3,h⟩ | ⟨h3,h⟩
 obtain ⟨r4,h5,h⟩:=obind h
 have k:=oK 0 [] h3 (c20 h2) o0
 rcases spl h with ⟨h6,h⟩ | ⟨h6,h⟩
 have k:=oK 1 [] h6 (c21 h5) k
 rcases spl h with ⟨h7,h⟩ | ⟨h7,h⟩
 obtain rfl:=sj h
 exact k19 (tF q19 0 [] (oB 1 h7 k))
 have k:=oB 1 h7 k
 rcases spl h with ⟨h8,h⟩ | ⟨h8,h⟩
 obtain rfl:=sj h
 exact k19 (tF q19 0 [] (oB 0 h8 k))
 obtain rfl:=sj h
 exact k19 (tF q19 0 [] (oB 0 h8 k))
 obtain rfl:=sj h
 exact k19 (tF q19 1 [] (oK 1 [] h6 (c21 h5) k))
 obtain rfl:=sj h
 exact k19 (tF q19 1 [] (oK 0 [] h3 (c20 h2) o0))
def e22L20299:Nat → (List Tm) → Int → Option (Bool)
 | 0,_,_ => none
 | qq + 1,p0,v3 =>
 if decide (v3 < (List.length p0:Int)) then
 gidx p0 v3 >>= fun x2 =>
 e39 qq x2 >>= fun r4 =>
 if r4 then
 e22L20299 qq p0 (w64 (v3 + 1))
 else
 some false
 else
 some true
def e22 (qq:Nat) (p0:List Tm):Option (Bool) :=
 e22L20299 qq p0 0
def g22L20299E0 (j:Nat → Value) (p0:List Tm) (v3:Int):=sp j 16 0 [(0,slv tmCells p0 .no),(3,ai v3)]
def g22L20299S0 (p0:List Tm) (v3:Int):LSt:=⟨[],0,[],0,[]⟩
abbrev K22 (p0:List Tm) (r:Bool) (C:Cf):Prop:=C 22 [] [slv tmCells p0 .no] (ab r) [] 0
theorem q22:Qf 22 Tryz.f22:=⟨Tryz.func22,by kernel_rfl⟩
theorem k22 {p0 r} (h:K22 p0 r Ci):K22 p0 r Ct:=⟨h,⟨⟨tv,dT _⟩,tv⟩,forall_nil,tv,forall_nil⟩
theorem l22L20299:∀ qq:Nat,(∀ p0 v3 r,e22L20299 qq p0 v3 = some r → (∀ j,Dl Tryz.prog 0 (inn (inn (rgt (lft (rgt (bod Tryz.f22)))))) (g22L20299E0 j p0 v3) (g22L20299S0 p0 v3) (frameQ Tryz.prog 0 (FinQ Tryz.prog 0 Tryz.f22 (ab r) [] 0) [.blk 0,.seq (rgt (rgt (bod Tryz.f22)))]))):=by
 intro qq
 induction qq with
 | zero =>
  exact fun _ _ _ h => nn h
 | succ qq ih =>
  intro p0 v3 r h
  rw [e22L20299] at h
  rcases spl h with ⟨h1,h⟩ | ⟨h1,h⟩
  obtain ⟨x2,h3,h⟩:=obind h
  obtain ⟨r4,h5,h⟩:=obind h
  have k:=oA 0 (ix23 (o:=.no) h3) <| oB 1 h1 o0
  rcases spl h with ⟨h6,h⟩ | ⟨h6,h⟩
  exact fun j => lH 2 [] [] [] [0,3] (oD (dT p0) <| oK 1 [] h6 (c39 h5) k) (ih _ _ _ h)
  obtain rfl:=sj h
  exact fun j => lF 1 [] (oK 1 [] h6 (c39 h5) k)
  obtain rfl:=sj h
  exact fun j => lF 0 [] (oB 1 h1 o0)
theorem c22 {qq p0 r} (h:e22 qq p0 = some r):K22 p0 r Ct:=by
 unfold e22 at h
 exact k22 (tH q22 0 [] [] [] [0,3] (oD (dT p0) o0) (l22L20299 _ _ _ _ h))
mutual
def e25:Nat → Tm → Tm → Option (Bool)
 | 0,_,_ => none
 | qq + 1,p0,p1 =>
 if p0.k != p1.k then
 some false
 else
 if p0.n != p1.n then
 some false
 else
 if (List.length p0.sub:Int) != (List.length p1.sub:Int) then
 some false
 else
 e25L12 qq p0 p1 0
def e25L12:Nat → Tm → Tm → Int → Option (Bool)
 | 0,_,_,_ => none
 | qq + 1,p0,p1,v5 =>
 if decide (v5 < (List.length p0.sub:Int)) then
 gidx p0.sub v5 >>= fun x5 =>
 gidx p1.sub v5 >>= fun x7 =>
 e25 qq x5 x7 >>= fun r9 =>
 if r9 then
 e25L12 qq p0 p1 (w64 (v5 + 1))
 else
 some false
 else
 some true
end
def g25L12E0 (j:Nat → Value) (p0 p1:Tm) (v5:Int):=sp j 46 0 [(2,.mp 0 0),(3,.mp 1 0),(5,ai v5)]
def g25L12S0 (p0 p1:Tm) (v5:Int):LSt:=⟨[(0,.cells [ai p0.k,ai p0.n,slv tmCells p0.sub .no]),(1,.cells [ai p1.k,ai p1.n,slv tmCells p1.sub .no])],2,[],0,[]⟩
abbrev K25 (p0 p1:Tm) (r:Bool) (C:Cf):Prop:=C 25 [] [tmA p0,tmA p1] (ab r) [] 0
theorem q25:Qf 25 Tryz.f25:=⟨Tryz.func25,by kernel_rfl⟩
theorem k25 {p0 p1 r} (h:K25 p0 p1 r Ci):K25 p0 p1 r Ct:=⟨h,⟨⟨tv,tv,⟨tv,dT _⟩,tv⟩,⟨tv,tv,⟨tv,dT _⟩,tv⟩,tv⟩,forall_nil,tv,forall_nil⟩
theorem a25_25L12:∀ qq:Nat,(∀ p0 p1 r,e25 qq p0 p1 = some r → K25 p0 p1 r Ct) ∧ (∀ p0 p1 v5 r,e25L12 qq p0 p1 v5 = some r → (∀ j,Dl Tryz.prog 0 (inn (inn (rgt (lft (rgt (rgt (bod Tryz.f25))))))) (g25L12E0 j p0 p1 v5) (g25L12S0 p0 p1 v5) (frameQ Tryz.prog 0 (FinQ Tryz.prog 0 Tryz.f25 (ab r) [] 0) [.blk 0,.seq (rgt (rgt (rgt (bod Tryz.f25))))]))):=by
 intro qq
 induction qq with
 | zero =>
  exact ⟨fun _ _ _ h => nn h,fun _ _ _ _ h => nn h⟩
 | succ qq ih =>
  obtain ⟨ih25,ih25L12⟩:=ih
  refine ⟨?_,?_⟩
  intro p0 p1 r h
  rw [e25] at h
  rcases spl h with ⟨h1,h⟩ | ⟨h1,h⟩
  obtain rfl:=sj h
  exact k25 (tF q25 0 [] (oB 2 h1 o0))
  have k:=oB 2 h1 o0
  rcases spl h with ⟨h2,h⟩ | ⟨h2,h⟩
  obtain rfl:=sj h
  exact k25 (tF q25 0 [] (oB 2 h2 k))
  have k:=oB 2 h2 k
  rcases spl h with ⟨h3,h⟩ | ⟨h3,h⟩
  obtain rfl:=sj h
  exact k25 (tF q25 0 [] (oB 4 h3 k))
  exact k25 (tH q25 0 [] [0,1] [] [2,3,5] (oD (dT p1.sub) <| oD (dT p0.sub) <| oB 4 h3 k) (ih25L12 _ _ _ _ h))
  intro p0 p1 v5 r h
  rw [e25L12] at h
  rcases spl h with ⟨h4,h⟩ | ⟨h4,h⟩
  obtain ⟨x5,h6,h⟩:=obind h
  obtain ⟨x7,h8,h⟩:=obind h
  obtain ⟨r9,h10,h⟩:=obind h
  have k:=oA 2 (ix23 (o:=.no) h8) <| oA 1 (ix23 (o:=.no) h6) <| oB 2 h4 o0
  rcases spl h with ⟨h11,h⟩ | ⟨h11,h⟩
  exact fun j => lH 2 [] [0,1] [] [2,3,5] (oD (dT p1.sub) <| oD (dT p0.sub) <| oK 1 [] h11 (ih25 _ _ _ h10) k) (ih25L12 _ _ _ _ h)
  obtain rfl:=sj h
  exact fun j => lF 1 [] (oK 1 [] h11 (ih25 _ _ _ h10) k)
  obtain rfl:=sj h
  exact fun j => lF 0 [] (oB 2 h4 o0)
theorem c25 {qq p0 p1 r} (h:e25 qq p0 p1 = some r):K25 p0 p1 r Ct:=(a25_25L12 _).1 _ _ _ h
def e3 (qq:Nat) (p0:List Ent) (p1:Int) (p2:List Tm):Option (Bool) :=
 e15 qq p0 p2 [] >>= fun r1 =>
 if r1 then
 e17 qq p0 p1 p2 >>= fun r4 =>
 e18 qq p0 p1 >>= fun r6 =>
 e19 qq p0 p1 0 >>= fun r8 =>
 if r6.2 != r8 then
 some false
 else
 if r8 != 0 then
 if r6.1 != 0 then
 some false
 else
 if r8 == 0 then
 gidx p0 p1 >>= fun x14 =>
 if r6.1 != (w64 ((w64 ((w64 (x14.pars + 2)) + (List.length x14.cons:Int))) + x14.inds)) then
 some false
 else
 e20 qq p0 >>= fun r17 =>
 if r17 then
 e21 qq p0 p1 4 >>= fun r20 =>
 if r20 then
 gidx p0 x14.fam >>= fun x23 =>
 if (List.length p2:Int) != (List.length x23.fields:Int) then
 if r4.2 == 5 then
 e16 qq >>= fun r27 =>
 some r27
 else
 some false
 else
 e22 qq p2 >>= fun r29 =>
 if r29 then
 e23 qq p0 >>= fun r32 =>
 match r32 with
 | Sum.inl y53 =>
  e24va47776 qq p1 p2 >>= fun r54 =>
  if r4.2 == 0 then
  gidx p2 x14.place >>= fun x57 =>
  e25 qq r4.1 x57 >>= fun r59 =>
  if r59 then
  if y53 == 0 then
  if r54.2 == 0 then
  e25 qq r54.1 r4.1 >>= fun r64 =>
  if r64 then
  if r54.2 == 5 then
  e16 qq >>= fun r68 =>
  some r68
  else
  some false
  else
  some false
  else
  some false
  else
  some false
  else
  some false
  else
  some false
 | Sum.inr y34 =>
  e24 qq y34.2.1 y34.2.2 p1 p2 >>= fun r35 =>
  e24va47776 qq p1 p2 >>= fun r37 =>
  if r4.2 == 0 then
  gidx p2 x14.place >>= fun x40 =>
  e25 qq r4.1 x40 >>= fun r42 =>
  if r42 then
  if y34.1 == 0 then
  if r35.2 == 0 then
  e25 qq r35.1 r4.1 >>= fun r47 =>
  if r47 then
  if r37.2 == 5 then
  e16 qq >>= fun r51 =>
  some r51
  else
  some false
  else
  some false
  else
  some false
  else
  some false
  else
  some false
  else
  some false
 else
 if r4.2 == 5 then
 e16 qq >>= fun r71 =>
 some r71
 else
 some false
 else
 if r4.2 == 16 then
 e16 qq >>= fun r74 =>
 some r74
 else
 some false
 else
 if r4.2 == 5 then
 e16 qq >>= fun r77 =>
 some r77
 else
 some false
 else
 e20 qq p0 >>= fun r79 =>
 if r79 then
 e21 qq p0 p1 4 >>= fun r82 =>
 if r82 then
 gidx p0 p1 >>= fun x85 =>
 gidx p0 x85.fam >>= fun x87 =>
 if (List.length p2:Int) != (List.length x87.fields:Int) then
 if r4.2 == 5 then
 e16 qq >>= fun r91 =>
 some r91
 else
 some false
 else
 e22 qq p2 >>= fun r93 =>
 if r93 then
 e23 qq p0 >>= fun r96 =>
 match r96 with
 | Sum.inl y117 =>
  e24va47776 qq p1 p2 >>= fun r118 =>
  if r4.2 == 0 then
  gidx p2 x85.place >>= fun x121 =>
  e25 qq r4.1 x121 >>= fun r123 =>
  if r123 then
  if y117 == 0 then
  if r118.2 == 0 then
  e25 qq r118.1 r4.1 >>= fun r128 =>
  if r128 then
  if r118.2 == 5 then
  e16 qq >>= fun r132 =>
  some r132
  else
  some false
  else
  some false
  else
  some false
  else
  some false
  else
  some false
  else
  some false
 | Sum.inr y98 =>
  e24 qq y98.2.1 y98.2.2 p1 p2 >>= fun r99 =>
  e24va47776 qq p1 p2 >>= fun r101 =>
  if r4.2 == 0 then
  gidx p2 x85.place >>= fun x104 =>
  e25 qq r4.1 x104 >>= fun r106 =>
  if r106 then
  if y98.1 == 0 then
  if r99.2 == 0 then
  e25 qq r99.1 r4.1 >>= fun r111 =>
  if r111 then
  if r101.2 == 5 then
  e16 qq >>= fun r115 =>
  some r115
  else
  some false
  else
  some false
  else
  some false
  else
  some false
  else
  some false
  else
  some false
 else
 if r4.2 == 5 then
 e16 qq >>= fun r135 =>
 some r135
 else
 some false
 else
 if r4.2 == 16 then
 e16 qq >>= fun r138 =>
 some r138
 else
 some false
 else
 if r4.2 == 5 then
 e16 qq >>= fun r141 =>
 some r141
 else
 some false
 else
 if r8 == 0 then
 gidx p0 p1 >>= fun x144 =>
 if r6.1 != (w64 ((w64 ((w64 (x144.pars + 2)) + (List.length x144.cons:Int))) + x144.inds)) then
 some false
 else
 e20 qq p0 >>= fun r147 =>
 if r147 then
 e21 qq p0 p1 4 >>= fun r150 =>
 if r150 then
 gidx p0 x144.fam >>= fun x153 =>
 if (List.length p2:Int) != (List.length x153.fields:Int) then
 if r4.2 == 5 then
 e16 qq >>= fun r157 =>
 some r157
 else
 some false
 else
 e22 qq p2 >>= fun r159 =>
 if r159 then
 e23 qq p0 >>= fun r162 =>
 match r162 with
 | Sum.inl y183 =>
  e24va47776 qq p1 p2 >>= fun r184 =>
  if r4.2 == 0 then
  gidx p2 x144.place >>= fun x187 =>
  e25 qq r4.1 x187 >>= fun r189 =>
  if r189 then
  if y183 == 0 then
  if r184.2 == 0 then
  e25 qq r184.1 r4.1 >>= fun r194 =>
  if r194 then
  if r184.2 == 5 then
  e16 qq >>= fun r198 =>
  some r198
  else
  some false
  else
  some false
  else
  some false
  else
  some false
  else
  some false
  else
  some false
 | Sum.inr y164 =>
  e24 qq y164.2.1 y164.2.2 p1 p2 >>= fun r165 =>
  e24va47776 qq p1 p2 >>= fun r167 =>
  if r4.2 == 0 then
  gidx p2 x144.place >>= fun x170 =>
  e25 qq r4.1 x170 >>= fun r172 =>
  if r172 then
  if y164.1 == 0 then
  if r165.2 == 0 then
  e25 qq r165.1 r4.1 >>= fun r177 =>
  if r177 then
  if r167.2 == 5 then
  e16 qq >>= fun r181 =>
  some r181
  else
  some false
  else
  some false
  else
  some false
  else
  some false
  else
  some false
  else
  some false
 else
 if r4.2 == 5 then
 e16 qq >>= fun r201 =>
 some r201
 else
 some false
 else
 if r4.2 == 16 then
 e16 qq >>= fun r204 =>
 some r204
 else
 some false
 else
 if r4.2 == 5 then
 e16 qq >>= fun r207 =>
 some r207
 else
 some false
 else
 e20 qq p0 >>= fun r209 =>
 if r209 then
 e21 qq p0 p1 4 >>= fun r212 =>
 if r212 then
 gidx p0 p1 >>= fun x215 =>
 gidx p0 x215.fam >>= fun x217 =>
 if (List.length p2:Int) != (List.length x217.fields:Int) then
 if r4.2 == 5 then
 e16 qq >>= fun r221 =>
 some r221
 else
 some false
 else
 e22 qq p2 >>= fun r223 =>
 if r223 then
 e23 qq p0 >>= fun r226 =>
 match r226 with
 | Sum.inl y247 =>
  e24va47776 qq p1 p2 >>= fun r248 =>
  if r4.2 == 0 then
  gidx p2 x215.place >>= fun x251 =>
  e25 qq r4.1 x251 >>= fun r253 =>
  if r253 then
  if y247 == 0 then
  if r248.2 == 0 then
  e25 qq r248.1 r4.1 >>= fun r258 =>
  if r258 then
  if r248.2 == 5 then
  e16 qq >>= fun r262 =>
  some r262
  else
  some false
  else
  some false
  else
  some false
  else
  some false
  else
  some false
  else
  some false
 | Sum.inr y228 =>
  e24 qq y228.2.1 y228.2.2 p1 p2 >>= fun r229 =>
  e24va47776 qq p1 p2 >>= fun r231 =>
  if r4.2 == 0 then
  gidx p2 x215.place >>= fun x234 =>
  e25 qq r4.1 x234 >>= fun r236 =>
  if r236 then
  if y228.1 == 0 then
  if r229.2 == 0 then
  e25 qq r229.1 r4.1 >>= fun r241 =>
  if r241 then
  if r231.2 == 5 then
  e16 qq >>= fun r245 =>
  some r245
  else
  some false
  else
  some false
  else
  some false
  else
  some false
  else
  some false
  else
  some false
 else
 if r4.2 == 5 then
 e16 qq >>= fun r265 =>
 some r265
 else
 some false
 else
 if r4.2 == 16 then
 e16 qq >>= fun r268 =>
 some r268
 else
 some false
 else
 if r4.2 == 5 then
 e16 qq >>= fun r271 =>
 some r271
 else
 some false
 else
 e16 qq >>= fun r273 =>
 some r273
abbrev K3 (p0:List Ent) (p1:Int) (p2:List Tm) (r:Bool) (C:Cf):Prop:=C 3 [] [slv entL p0 .no,ai p1,slv tmCells p2 .no] (ab r) [] 0
theorem q3:Qf 3 Tryz.f3:=⟨Tryz.func3,by kernel_rfl⟩
theorem k3 {p0 p1 p2 r} (h:K3 p0 p1 p2 r Ci):K3 p0 p1 p2 r Ct:=⟨h,⟨⟨tv,dE _⟩,tv,⟨tv,dT _⟩,tv⟩,forall_nil,tv,forall_nil⟩
theorem c3 {qq p0 p1 p2 r} (h:e3 qq p0 p1 p2 = some r):K3 p0 p1 p2 r Ct:=by
 unfold e3 at h
 obtain ⟨r1,h2,h⟩:=obind h
 rcases spl h with ⟨h3,h⟩ | ⟨h3,h⟩
 obtain ⟨r4,h5,h⟩:=obind h
 obtain ⟨r6,h7,h⟩:=obind h
 obtain ⟨r8,h9,h⟩:=obind h
 have k:=oC 2 [] (c19 h9) <| oC 3 [] (c18 h7) <| oC 1 [] (c17 h5) <| oK 0 [] h3 (c15 h2) o0
 rcases spl h with ⟨h10,h⟩ | ⟨h10,h⟩
 obtain rfl:=sj h
 exact k3 (tF q3 0 [] (oB 0 h10 k))
 have k:=oB 0 h10 k
 rcases spl h with ⟨h11,h⟩ | ⟨h11,h⟩
 have k:=oB 0 h11 k
 rcases spl h with ⟨h12,h⟩ | ⟨h12,h⟩
 obtain rfl:=sj h
 exact k3 (tF q3 0 [] (oB 0 h12 k))
 have k:=oB 0 h12 k
 rcases spl h with ⟨h13,h⟩ | ⟨h13,h⟩
 obtain ⟨x14,h15,h⟩:=obind h
 have k:=oA 3 (ix22 (o:=.no) h15) <| oA 2 (ix22 (o:=.no) h15) <| oA 0 (ix22 (o:=.no) h15) <| oB 0 h13 k
 rcases spl h with ⟨h16,h⟩ | ⟨h16,h⟩
 obtain rfl:=sj h
 exact k3 (tF q3 0 [] (oB 2 h16 k))
 obtain ⟨r17,h18,h⟩:=obind h
 have k:=oB 2 h16 k
 rcases spl h with ⟨h19,h⟩ | ⟨h19,h⟩
 obtain ⟨r20,h21,h⟩:=obind h
 have k:=oK 0 [] h19 (c20 h18) k
 rcases spl h with ⟨h22,h⟩ | ⟨h22,h⟩
 obtain ⟨x23,h24,h⟩:=obind h
 have k:=oA 1 (ix22 (o:=.no) h24) <| oA 2 (ix22 (o:=.no) h15) <| oK 1 [] h22 (c21 h21) k
 rcases spl h with ⟨h25,h⟩ | ⟨h25,h⟩
 have k:=oB 2 h25 k
 rcases spl h with ⟨h26,h⟩ | ⟨h26,h⟩
 obtain ⟨r27,h28,h⟩:=obind h
 obtain rfl:=sj h
 exact k3 (tF q3 0 [] (oC 0 [] (c16 h28) <| oB 0 h26 k))
 obtain rfl:=sj h
 exact k3 (tF q3 0 [] (oB 0 h26 k))
 obtain ⟨r29,h30,h⟩:=obind h
 have k:=oB 2 h25 k
 rcases spl h with ⟨h31,h⟩ | ⟨h31,h⟩
 obtain ⟨r32,h33,h⟩:=obind h
 have k:=oK 0 [] h31 (c22 h30) k
 rcases r32 with y53 | y34
 dsimp only at h
 obtain ⟨r54,h55,h⟩:=obind h
 have k:=oC 3 [] (c24va47776 h55) <| oC 2 [] (c24va47776 h55) <| oC 1 [] (c23 h33) k
 rcases spl h with ⟨h56,h⟩ | ⟨h56,h⟩
 obtain ⟨x57,h58,h⟩:=obind h
 obtain ⟨r59,h60,h⟩:=obind h
 have k:=oA 1 (ix23 (o:=.no) h58) <| oA 1 (ix22 (o:=.no) h15) <| oB 3 h56 k
 rcases spl h with ⟨h61,h⟩ | ⟨h61,h⟩
 have k:=oK 1 [] h61 (c25 h60) k
 rcases spl h with ⟨h62,h⟩ | ⟨h62,h⟩
 have k:=oB 0 h62 k
 rcases spl h with ⟨h63,h⟩ | ⟨h63,h⟩
 obtain ⟨r64,h65,h⟩:=obind h
 have k:=oB 0 h63 k
 rcases spl h with ⟨h66,h⟩ | ⟨h66,h⟩
 have k:=oK 2 [] h66 (c25 h65) k
 rcases spl h with ⟨h67,h⟩ | ⟨h67,h⟩
 obtain ⟨r68,h69,h⟩:=obind h
 obtain rfl:=sj h
 exact k3 (tF q3 0 [] (oC 0 [] (c16 h69) <| oB 0 h67 k))
 obtain rfl:=sj h
 exact k3 (tF q3 0 [] (oB 0 h67 k))
 obtain rfl:=sj h
 exact k3 (tF q3 0 [] (oK 2 [] h66 (c25 h65) k))
 obtain rfl:=sj h
 exact k3 (tF q3 0 [] (oB 0 h63 k))
 obtain rfl:=sj h
 exact k3 (tF q3 0 [] (oB 0 h62 k))
 obtain rfl:=sj h
 exact k3 (tF q3 0 [] (oK 1 [] h61 (c25 h60) k))
 obtain rfl:=sj h
 exact k3 (tF q3 0 [] (oB 3 h56 k))
 dsimp only at h
 obtain ⟨r35,h36,h⟩:=obind h
 obtain ⟨r37,h38,h⟩:=obind h
 have k:=oC 3 [] (c24va47776 h38) <| oC 2 [1] (c24 h36) <| oC 1 [] (c23 h33) k
 rcases spl h with ⟨h39,h⟩ | ⟨h39,h⟩
 obtain ⟨x40,h41,h⟩:=obind h
 obtain ⟨r42,h43,h⟩:=obind h
 have k:=oA 1 (ix23 (o:=.no) h41) <| oA 1 (ix22 (o:=.no) h15) <| oB 3 h39 k
 rcases spl h with ⟨h44,h⟩ | ⟨h44,h⟩
 have k:=oK 1 [] h44 (c25 h43) k
 rcases spl h with ⟨h45,h⟩ | ⟨h45,h⟩
 have k:=oB 0 h45 k
 rcases spl h with ⟨h46,h⟩ | ⟨h46,h⟩
 obtain ⟨r47,h48,h⟩:=obind h
 have k:=oB 0 h46 k
 rcases spl h with ⟨h49,h⟩ | ⟨h49,h⟩
 have k:=oK 2 [] h49 (c25 h48) k
 rcases spl h with ⟨h50,h⟩ | ⟨h50,h⟩
 obtain ⟨r51,h52,h⟩:=obind h
 obtain rfl:=sj h
 exact k3 (tF q3 0 [] (oC 0 [] (c16 h52) <| oB 0 h50 k))
 obtain rfl:=sj h
 exact k3 (tF q3 0 [] (oB 0 h50 k))
 obtain rfl:=sj h
 exact k3 (tF q3 0 [] (oK 2 [] h49 (c25 h48) k))
 obtain rfl:=sj h
 exact k3 (tF q3 0 [] (oB 0 h46 k))
 obtain rfl:=sj h
 exact k3 (tF q3 0 [] (oB 0 h45 k))
 obtain rfl:=sj h
 exact k3 (tF q3 0 [] (oK 1 [] h44 (c25 h43) k))
 obtain rfl:=sj h
 exact k3 (tF q3 0 [] (oB 3 h39 k))
 have k:=oK 0 [] h31 (c22 h30) k
 rcases spl h with ⟨h70,h⟩ | ⟨h70,h⟩
 obtain ⟨r71,h72,h⟩:=obind h
 obtain rfl:=sj h
 exact k3 (tF q3 0 [] (oC 0 [] (c16 h72) <| oB 1 h70 k))
 obtain rfl:=sj h
 exact k3 (tF q3 0 [] (oB 1 h70 k))
 have k:=oK 1 [] h22 (c21 h21) k
 rcases spl h with ⟨h73,h⟩ | ⟨h73,h⟩
 obtain ⟨r74,h75,h⟩:=obind h
 obtain rfl:=sj h
 exact k3 (tF q3 0 [] (oC 0 [] (c16 h75) <| oB 1 h73 k))
 obtain rfl:=sj h
 exact k3 (tF q3 0 [] (oB 1 h73 k))
 have k:=oK 0 [] h19 (c20 h18) k
 rcases spl h with ⟨h76,h⟩ | ⟨h76,h⟩
 obtain ⟨r77,h78,h⟩:=obind h
 obtain rfl:=sj h
 exact k3 (tF q3 0 [] (oC 0 [] (c16 h78) <| oB 1 h76 k))
 obtain rfl:=sj h
 exact k3 (tF q3 0 [] (oB 1 h76 k))
 obtain ⟨r79,h80,h⟩:=obind h
 have k:=oB 0 h13 k
 rcases spl h with ⟨h81,h⟩ | ⟨h81,h⟩
 obtain ⟨r82,h83,h⟩:=obind h
 have k:=oK 0 [] h81 (c20 h80) k
 rcases spl h with ⟨h84,h⟩ | ⟨h84,h⟩
 obtain ⟨x85,h86,h⟩:=obind h
 obtain ⟨x87,h88,h⟩:=obind h
 have k:=oA 1 (ix22 (o:=.no) h88) <| oA 2 (ix22 (o:=.no) h86) <| oK 1 [] h84 (c21 h83) k
 rcases spl h with ⟨h89,h⟩ | ⟨h89,h⟩
 have k:=oB 2 h89 k
 rcases spl h with ⟨h90,h⟩ | ⟨h90,h⟩
 obtain ⟨r91,h92,h⟩:=obind h
 obtain rfl:=sj h
 exact k3 (tF q3 0 [] (oC 0 [] (c16 h92) <| oB 0 h90 k))
 obtain rfl:=sj h
 exact k3 (tF q3 0 [] (oB 0 h90 k))
 obtain ⟨r93,h94,h⟩:=obind h
 have k:=oB 2 h89 k
 rcases spl h with ⟨h95,h⟩ | ⟨h95,h⟩
 obtain ⟨r96,h97,h⟩:=obind h
 have k:=oK 0 [] h95 (c22 h94) k
 rcases r96 with y117 | y98
 dsimp only at h
 obtain ⟨r118,h119,h⟩:=obind h
 have k:=oC 3 [] (c24va47776 h119) <| oC 2 [] (c24va47776 h119) <| oC 1 [] (c23 h97) k
 rcases spl h with ⟨h120,h⟩ | ⟨h120,h⟩
 obtain ⟨x121,h122,h⟩:=obind h
 obtain ⟨r123,h124,h⟩:=obind h
 have k:=oA 1 (ix23 (o:=.no) h122) <| oA 1 (ix22 (o:=.no) h86) <| oB 3 h120 k
 rcases spl h with ⟨h125,h⟩ | ⟨h125,h⟩
 have k:=oK 1 [] h125 (c25 h124) k
 rcases spl h with ⟨h126,h⟩ | ⟨h126,h⟩
 have k:=oB 0 h126 k
 rcases spl h with ⟨h127,h⟩ | ⟨h127,h⟩
 obtain ⟨r128,h129,h⟩:=obind h
 have k:=oB 0 h127 k
 rcases spl h with ⟨h130,h⟩ | ⟨h130,h⟩
 have k:=oK 2 [] h130 (c25 h129) k
 rcases spl h with ⟨h131,h⟩ | ⟨h131,h⟩
 obtain ⟨r132,h133,h⟩:=obind h
 obtain rfl:=sj h
 exact k3 (tF q3 0 [] (oC 0 [] (c16 h133) <| oB 0 h131 k))
 obtain rfl:=sj h
 exact k3 (tF q3 0 [] (oB 0 h131 k))
 obtain rfl:=sj h
 exact k3 (tF q3 0 [] (oK 2 [] h130 (c25 h129) k))
 obtain rfl:=sj h
 exact k3 (tF q3 0 [] (oB 0 h127 k))
 obtain rfl:=sj h
 exact k3 (tF q3 0 [] (oB 0 h126 k))
 obtain rfl:=sj h
 exact k3 (tF q3 0 [] (oK 1 [] h125 (c25 h124) k))
 obtain rfl:=sj h
 exact k3 (tF q3 0 [] (oB 3 h120 k))
 dsimp only at h
 obtain ⟨r99,h100,h⟩:=obind h
 obtain ⟨r101,h102,h⟩:=obind h
 have k:=oC 3 [] (c24va47776 h102) <| oC 2 [1] (c24 h100) <| oC 1 [] (c23 h97) k
 rcases spl h with ⟨h103,h⟩ | ⟨h103,h⟩
 obtain ⟨x104,h105,h⟩:=obind h
 obtain ⟨r106,h107,h⟩:=obind h
 have k:=oA 1 (ix23 (o:=.no) h105) <| oA 1 (ix22 (o:=.no) h86) <| oB 3 h103 k
 rcases spl h with ⟨h108,h⟩ | ⟨h108,h⟩
 have k:=oK 1 [] h108 (c25 h107) k
 rcases spl h with ⟨h109,h⟩ | ⟨h109,h⟩
 have k:=oB 0 h109 k
 rcases spl h with ⟨h110,h⟩ | ⟨h110,h⟩
 obtain ⟨r111,h112,h⟩:=obind h
 have k:=oB 0 h110 k
 rcases spl h with ⟨h113,h⟩ | ⟨h113,h⟩
 have k:=oK 2 [] h113 (c25 h112) k
 rcases spl h with ⟨h114,h⟩ | ⟨h114,h⟩
 obtain ⟨r115,h116,h⟩:=obind h
 obtain rfl:=sj h
 exact k3 (tF q3 0 [] (oC 0 [] (c16 h116) <| oB 0 h114 k))
 obtain rfl:=sj h
 exact k3 (tF q3 0 [] (oB 0 h114 k))
 obtain rfl:=sj h
 exact k3 (tF q3 0 [] (oK 2 [] h113 (c25 h112) k))
 obtain rfl:=sj h
 exact k3 (tF q3 0 [] (oB 0 h110 k))
 obtain rfl:=sj h
 exact k3 (tF q3 0 [] (oB 0 h109 k))
 obtain rfl:=sj h
 exact k3 (tF q3 0 [] (oK 1 [] h108 (c25 h107) k))
 obtain rfl:=sj h
 exact k3 (tF q3 0 [] (oB 3 h103 k))
 have k:=oK 0 [] h95 (c22 h94) k
 rcases spl h with ⟨h134,h⟩ | ⟨h134,h⟩
 obtain ⟨r135,h136,h⟩:=obind h
 obtain rfl:=sj h
 exact k3 (tF q3 0 [] (oC 0 [] (c16 h136) <| oB 1 h134 k))
 obtain rfl:=sj h
 exact k3 (tF q3 0 [] (oB 1 h134 k))
 have k:=oK 1 [] h84 (c21 h83) k
 rcases spl h with ⟨h137,h⟩ | ⟨h137,h⟩
 obtain ⟨r138,h139,h⟩:=obind h
 obtain rfl:=sj h
 exact k3 (tF q3 0 [] (oC 0 [] (c16 h139) <| oB 1 h137 k))
 obtain rfl:=sj h
 exact k3 (tF q3 0 [] (oB 1 h137 k))
 have k:=oK 0 [] h81 (c20 h80) k
 rcases spl h with ⟨h140,h⟩ | ⟨h140,h⟩
 obtain ⟨r141,h142,h⟩:=obind h
 obtain rfl:=sj h
 exact k3 (tF q3 0 [] (oC 0 [] (c16 h142) <| oB 1 h140 k))
 obtain rfl:=sj h
 exact k3 (tF q3 0 [] (oB 1 h140 k))
 have k:=oB 0 h11 k
 rcases spl h with ⟨h143,h⟩ | ⟨h143,h⟩
 obtain ⟨x144,h145,h⟩:=obind h
 have k:=oA 3 (ix22 (o:=.no) h145) <| oA 2 (ix22 (o:=.no) h145) <| oA 0 (ix22 (o:=.no) h145) <| oB 0 h143 k
 rcases spl h with ⟨h146,h⟩ | ⟨h146,h⟩
 obtain rfl:=sj h
 exact k3 (tF q3 0 [] (oB 2 h146 k))
 obtain ⟨r147,h148,h⟩:=obind h
 have k:=oB 2 h146 k
 rcases spl h with ⟨h149,h⟩ | ⟨h149,h⟩
 obtain ⟨r150,h151,h⟩:=obind h
 have k:=oK 0 [] h149 (c20 h148) k
 rcases spl h with ⟨h152,h⟩ | ⟨h152,h⟩
 obtain ⟨x153,h154,h⟩:=obind h
 have k:=oA 1 (ix22 (o:=.no) h154) <| oA 2 (ix22 (o:=.no) h145) <| oK 1 [] h152 (c21 h151) k
 rcases spl h with ⟨h155,h⟩ | ⟨h155,h⟩
 have k:=oB 2 h155 k
 rcases spl h with ⟨h156,h⟩ | ⟨h156,h⟩
 obtain ⟨r157,h158,h⟩:=obind h
 obtain rfl:=sj h
 exact k3 (tF q3 0 [] (oC 0 [] (c16 h158) <| oB 0 h156 k))
 obtain rfl:=sj h
 exact k3 (tF q3 0 [] (oB 0 h156 k))
 obtain ⟨r159,h160,h⟩:=obind h
 have k:=oB 2 h155 k
 rcases spl h with ⟨h161,h⟩ | ⟨h161,h⟩
 obtain ⟨r162,h163,h⟩:=obind h
 have k:=oK 0 [] h161 (c22 h160) k
 rcases r162 with y183 | y164
 dsimp only at h
 obtain ⟨r184,h185,h⟩:=obind h
 have k:=oC 3 [] (c24va47776 h185) <| oC 2 [] (c24va47776 h185) <| oC 1 [] (c23 h163) k
 rcases spl h with ⟨h186,h⟩ | ⟨h186,h⟩
 obtain ⟨x187,h188,h⟩:=obind h
 obtain ⟨r189,h190,h⟩:=obind h
 have k:=oA 1 (ix23 (o:=.no) h188) <| oA 1 (ix22 (o:=.no) h145) <| oB 3 h186 k
 rcases spl h with ⟨h191,h⟩ | ⟨h191,h⟩
 have k:=oK 1 [] h191 (c25 h190) k
 rcases spl h with ⟨h192,h⟩ | ⟨h192,h⟩
 have k:=oB 0 h192 k
 rcases spl h with ⟨h193,h⟩ | ⟨h193,h⟩
 obtain ⟨r194,h195,h⟩:=obind h
 have k:=oB 0 h193 k
 rcases spl h with ⟨h196,h⟩ | ⟨h196,h⟩
 have k:=oK 2 [] h196 (c25 h195) k
 rcases spl h with ⟨h197,h⟩ | ⟨h197,h⟩
 obtain ⟨r198,h199,h⟩:=obind h
 obtain rfl:=sj h
 exact k3 (tF q3 0 [] (oC 0 [] (c16 h199) <| oB 0 h197 k))
 obtain rfl:=sj h
 exact k3 (tF q3 0 [] (oB 0 h197 k))
 obtain rfl:=sj h
 exact k3 (tF q3 0 [] (oK 2 [] h196 (c25 h195) k))
 obtain rfl:=sj h
 exact k3 (tF q3 0 [] (oB 0 h193 k))
 obtain rfl:=sj h
 exact k3 (tF q3 0 [] (oB 0 h192 k))
 obtain rfl:=sj h
 exact k3 (tF q3 0 [] (oK 1 [] h191 (c25 h190) k))
 obtain rfl:=sj h
 exact k3 (tF q3 0 [] (oB 3 h186 k))
 dsimp only at h
 obtain ⟨r165,h166,h⟩:=obind h
 obtain ⟨r167,h168,h⟩:=obind h
 have k:=oC 3 [] (c24va47776 h168) <| oC 2 [1] (c24 h166) <| oC 1 [] (c23 h163) k
 rcases spl h with ⟨h169,h⟩ | ⟨h169,h⟩
 obtain ⟨x170,h171,h⟩:=obind h
 obtain ⟨r172,h173,h⟩:=obind h
 have k:=oA 1 (ix23 (o:=.no) h171) <| oA 1 (ix22 (o:=.no) h145) <| oB 3 h169 k
 rcases spl h with ⟨h174,h⟩ | ⟨h174,h⟩
 have k:=oK 1 [] h174 (c25 h173) k
 rcases spl h with ⟨h175,h⟩ | ⟨h175,h⟩
 have k:=oB 0 h175 k
 rcases spl h with ⟨h176,h⟩ | ⟨h176,h⟩
 obtain ⟨r177,h178,h⟩:=obind h
 have k:=oB 0 h176 k
 rcases spl h with ⟨h179,h⟩ | ⟨h179,h⟩
 have k:=oK 2 [] h179 (c25 h178) k
 rcases spl h with ⟨h180,h⟩ | ⟨h180,h⟩
 obtain ⟨r181,h182,h⟩:=obind h
 obtain rfl:=sj h
 exact k3 (tF q3 0 [] (oC 0 [] (c16 h182) <| oB 0 h180 k))
 obtain rfl:=sj h
 exact k3 (tF q3 0 [] (oB 0 h180 k))
 obtain rfl:=sj h
 exact k3 (tF q3 0 [] (oK 2 [] h179 (c25 h178) k))
 obtain rfl:=sj h
 exact k3 (tF q3 0 [] (oB 0 h176 k))
 obtain rfl:=sj h
 exact k3 (tF q3 0 [] (oB 0 h175 k))
 obtain rfl:=sj h
 exact k3 (tF q3 0 [] (oK 1 [] h174 (c25 h173) k))
 obtain rfl:=sj h
 exact k3 (tF q3 0 [] (oB 3 h169 k))
 have k:=oK 0 [] h161 (c22 h160) k
 rcases spl h with ⟨h200,h⟩ | ⟨h200,h⟩
 obtain ⟨r201,h202,h⟩:=obind h
 obtain rfl:=sj h
 exact k3 (tF q3 0 [] (oC 0 [] (c16 h202) <| oB 1 h200 k))
 obtain rfl:=sj h
 exact k3 (tF q3 0 [] (oB 1 h200 k))
 have k:=oK 1 [] h152 (c21 h151) k
 rcases spl h with ⟨h203,h⟩ | ⟨h203,h⟩
 obtain ⟨r204,h205,h⟩:=obind h
 obtain rfl:=sj h
 exact k3 (tF q3 0 [] (oC 0 [] (c16 h205) <| oB 1 h203 k))
 obtain rfl:=sj h
 exact k3 (tF q3 0 [] (oB 1 h203 k))
 have k:=oK 0 [] h149 (c20 h148) k
 rcases spl h with ⟨h206,h⟩ | ⟨h206,h⟩
 obtain ⟨r207,h208,h⟩:=obind h
 obtain rfl:=sj h
 exact k3 (tF q3 0 [] (oC 0 [] (c16 h208) <| oB 1 h206 k))
 obtain rfl:=sj h
 exact k3 (tF q3 0 [] (oB 1 h206 k))
 obtain ⟨r209,h210,h⟩:=obind h
 have k:=oB 0 h143 k
 rcases spl h with ⟨h211,h⟩ | ⟨h211,h⟩
 obtain ⟨r212,h213,h⟩:=obind h
 have k:=oK 0 [] h211 (c20 h210) k
 rcases spl h with ⟨h214,h⟩ | ⟨h214,h⟩
 obtain ⟨x215,h216,h⟩:=obind h
 obtain ⟨x217,h218,h⟩:=obind h
 have k:=oA 1 (ix22 (o:=.no) h218) <| oA 2 (ix22 (o:=.no) h216) <| oK 1 [] h214 (c21 h213) k
 rcases spl h with ⟨h219,h⟩ | ⟨h219,h⟩
 have k:=oB 2 h219 k
 rcases spl h with ⟨h220,h⟩ | ⟨h220,h⟩
 obtain ⟨r221,h222,h⟩:=obind h
 obtain rfl:=sj h
 exact k3 (tF q3 0 [] (oC 0 [] (c16 h222) <| oB 0 h220 k))
 obtain rfl:=sj h
 exact k3 (tF q3 0 [] (oB 0 h220 k))
 obtain ⟨r223,h224,h⟩:=obind h
 have k:=oB 2 h219 k
 rcases spl h with ⟨h225,h⟩ | ⟨h225,h⟩
 obtain ⟨r226,h227,h⟩:=obind h
 have k:=oK 0 [] h225 (c22 h224) k
 rcases r226 with y247 | y228
 dsimp only at h
 obtain ⟨r248,h249,h⟩:=obind h
 have k:=oC 3 [] (c24va47776 h249) <| oC 2 [] (c24va47776 h249) <| oC 1 [] (c23 h227) k
 rcases spl h with ⟨h250,h⟩ | ⟨h250,h⟩
 obtain ⟨x251,h252,h⟩:=obind h
 obtain ⟨r253,h254,h⟩:=obind h
 have k:=oA 1 (ix23 (o:=.no) h252) <| oA 1 (ix22 (o:=.no) h216) <| oB 3 h250 k
 rcases spl h with ⟨h255,h⟩ | ⟨h255,h⟩
 have k:=oK 1 [] h255 (c25 h254) k
 rcases spl h with ⟨h256,h⟩ | ⟨h256,h⟩
 have k:=oB 0 h256 k
 rcases spl h with ⟨h257,h⟩ | ⟨h257,h⟩
 obtain ⟨r258,h259,h⟩:=obind h
 have k:=oB 0 h257 k
 rcases spl h with ⟨h260,h⟩ | ⟨h260,h⟩
 have k:=oK 2 [] h260 (c25 h259) k
 rcases spl h with ⟨h261,h⟩ | ⟨h261,h⟩
 obtain ⟨r262,h263,h⟩:=obind h
 obtain rfl:=sj h
 exact k3 (tF q3 0 [] (oC 0 [] (c16 h263) <| oB 0 h261 k))
 obtain rfl:=sj h
 exact k3 (tF q3 0 [] (oB 0 h261 k))
 obtain rfl:=sj h
 exact k3 (tF q3 0 [] (oK 2 [] h260 (c25 h259) k))
 obtain rfl:=sj h
 exact k3 (tF q3 0 [] (oB 0 h257 k))
 obtain rfl:=sj h
 exact k3 (tF q3 0 [] (oB 0 h256 k))
 obtain rfl:=sj h
 exact k3 (tF q3 0 [] (oK 1 [] h255 (c25 h254) k))
 obtain rfl:=sj h
 exact k3 (tF q3 0 [] (oB 3 h250 k))
 dsimp only at h
 obtain ⟨r229,h230,h⟩:=obind h
 obtain ⟨r231,h232,h⟩:=obind h
 have k:=oC 3 [] (c24va47776 h232) <| oC 2 [1] (c24 h230) <| oC 1 [] (c23 h227) k
 rcases spl h with ⟨h233,h⟩ | ⟨h233,h⟩
 obtain ⟨x234,h235,h⟩:=obind h
 obtain ⟨r236,h237,h⟩:=obind h
 have k:=oA 1 (ix23 (o:=.no) h235) <| oA 1 (ix22 (o:=.no) h216) <| oB 3 h233 k
 rcases spl h with ⟨h238,h⟩ | ⟨h238,h⟩
 have k:=oK 1 [] h238 (c25 h237) k
 rcases spl h with ⟨h239,h⟩ | ⟨h239,h⟩
 have k:=oB 0 h239 k
 rcases spl h with ⟨h240,h⟩ | ⟨h240,h⟩
 obtain ⟨r241,h242,h⟩:=obind h
 have k:=oB 0 h240 k
 rcases spl h with ⟨h243,h⟩ | ⟨h243,h⟩
 have k:=oK 2 [] h243 (c25 h242) k
 rcases spl h with ⟨h244,h⟩ | ⟨h244,h⟩
 obtain ⟨r245,h246,h⟩:=obind h
 obtain rfl:=sj h
 exact k3 (tF q3 0 [] (oC 0 [] (c16 h246) <| oB 0 h244 k))
 obtain rfl:=sj h
 exact k3 (tF q3 0 [] (oB 0 h244 k))
 obtain rfl:=sj h
 exact k3 (tF q3 0 [] (oK 2 [] h243 (c25 h242) k))
 obtain rfl:=sj h
 exact k3 (tF q3 0 [] (oB 0 h240 k))
 obtain rfl:=sj h
 exact k3 (tF q3 0 [] (oB 0 h239 k))
 obtain rfl:=sj h
 exact k3 (tF q3 0 [] (oK 1 [] h238 (c25 h237) k))
 obtain rfl:=sj h
 exact k3 (tF q3 0 [] (oB 3 h233 k))
 have k:=oK 0 [] h225 (c22 h224) k
 rcases spl h with ⟨h264,h⟩ | ⟨h264,h⟩
 obtain ⟨r265,h266,h⟩:=obind h
 obtain rfl:=sj h
 exact k3 (tF q3 0 [] (oC 0 [] (c16 h266) <| oB 1 h264 k))
 obtain rfl:=sj h
 exact k3 (tF q3 0 [] (oB 1 h264 k))
 have k:=oK 1 [] h214 (c21 h213) k
 rcases spl h with ⟨h267,h⟩ | ⟨h267,h⟩
 obtain ⟨r268,h269,h⟩:=obind h
 obtain rfl:=sj h
 exact k3 (tF q3 0 [] (oC 0 [] (c16 h269) <| oB 1 h267 k))
 obtain rfl:=sj h
 exact k3 (tF q3 0 [] (oB 1 h267 k))
 have k:=oK 0 [] h211 (c20 h210) k
 rcases spl h with ⟨h270,h⟩ | ⟨h270,h⟩
 obtain ⟨r271,h272,h⟩:=obind h
 obtain rfl:=sj h
 exact k3 (tF q3 0 [] (oC 0 [] (c16 h272) <| oB 1 h270 k))
 obtain rfl:=sj h
 exact k3 (tF q3 0 [] (oB 1 h270 k))
 obtain ⟨r273,h274,h⟩:=obind h
 obtain rfl:=sj h
 exact k3 (tF q3 0 [] (oC 1 [] (c16 h274) <| oK 0 [] h3 (c15 h2) o0))
theorem Evt.run {α : Type} {f : Nat → Option α} {r : α} (n : Nat) (h : ∀ q, f (q + n) = some r) : Evt f r := ⟨n, fun q hq => by
  obtain ⟨k, rfl⟩ : ∃ k, q = k + n := ⟨q - n, by omega⟩
  exact h k⟩
theorem awake13 (q : Nat) : e16 (q + 100) = some true := by kernel_rfl
theorem ev_awake13 : Evt (fun q => e16 q) true := Evt.run 100 awake13
mutual
theorem ev_rEq : ∀ (t : Tm), t.Ok → Evt (fun q => e25 q t t) true
  | .mk k n l, ho => by
    rw [Tm.Ok] at ho
    refine Evt.succ ?_
    simp only [e25]
    exact Evt.ifF (by simp) (Evt.ifF (by simp) (Evt.ifF (by simp) (ev_rEqL l (.mk k n l) 0 rfl ho.1 ho.2)))
theorem ev_rEqL : ∀ (l : List Tm) (p : Tm) (v : Nat), p.sub.drop v = l → p.sub.length < 9223372036854775808 → OkL l → Evt (fun q => e25L12 q p p (v : Int)) true
  | [], p, v, hd, hl, ho => by
    refine Evt.succ ?_
    simp only [e25L12]
    exact Evt.ifF (drop_nil hd) Evt.ret
  | t :: l, p, v, hd, hl, ho => by
    have hlt := drop_lt hd
    rw [OkL] at ho
    refine Evt.succ ?_
    simp only [e25L12]
    refine Evt.ifT (drop_dec hd) (Evt.pure (drop_idx hd) (Evt.pure (drop_idx hd) ((ev_rEq t ho.1).bind (Evt.ifT rfl ?_))))
    rw [w64_nat v (by omega)]
    exact ev_rEqL l p (v + 1) (drop_next hd) hl ho.2
end
theorem ev_iIs' (l : List Ent) (n kind : Int) : Evt (fun q => e75 q l n kind) (isT l n kind) := by
  simp only [e75]
  unfold isT
  by_cases h0 : 0 ≤ n
  · refine Evt.ifT (decide_eq_true h0) ?_
    by_cases h1 : n < l.length
    · exact Evt.ifT (decide_eq_true h1) (Evt.pure (gidx_ent h0 h1) (Evt.ret.eq (by simp [h0, h1])))
    · exact Evt.ifF (decide_eq_false h1) (Evt.ret.eq (by simp [h1]))
  · exact Evt.ifF (decide_eq_false h0) (Evt.ret.eq (by simp [h0]))
theorem ev_iShpL (l : List Tm) (hl : l.length ≤ 1000) (ho : ∀ t ∈ l, t.Ok) : ∀ (r : List Tm) (v : Nat), l.drop v = r → Evt (fun q => e76L18873 q l (v : Int)) (r.all shapedT)
  | [], v, hd => by
    refine Evt.succ ?_
    simp only [e76L18873]
    exact Evt.ifF (drop_nil hd) Evt.ret
  | t :: r, v, hd => by
    have hlt := drop_lt hd
    have hm : t ∈ l := List.mem_of_mem_drop (by rw [hd]; simp)
    refine Evt.succ ?_
    simp only [e76L18873]
    refine Evt.ifT (drop_dec hd) (Evt.pure (drop_idx hd) ((ev_Shaped t (ho t hm)).bind ?_))
    cases hs : shapedT t with
    | true =>
      refine Evt.ifT rfl ?_
      rw [w64_nat v (by omega)]
      exact (ev_iShpL l hl ho r (v + 1) (drop_next hd)).eq (by simp [hs])
    | false => exact Evt.ifF rfl (Evt.ret.eq (by simp [hs]))
theorem ev_lShpL (l : List Tm) (hl : l.length ≤ 1000) (ho : ∀ t ∈ l, t.Ok) : ∀ (r : List Tm) (v : Nat), l.drop v = r → Evt (fun q => e22L20299 q l (v : Int)) (r.all shapedT)
  | [], v, hd => by
    refine Evt.succ ?_
    simp only [e22L20299]
    exact Evt.ifF (drop_nil hd) Evt.ret
  | t :: r, v, hd => by
    have hlt := drop_lt hd
    have hm : t ∈ l := List.mem_of_mem_drop (by rw [hd]; simp)
    refine Evt.succ ?_
    simp only [e22L20299]
    refine Evt.ifT (drop_dec hd) (Evt.pure (drop_idx hd) ((ev_rShaped t (ho t hm)).bind ?_))
    cases hs : shapedT t with
    | true =>
      refine Evt.ifT rfl ?_
      rw [w64_nat v (by omega)]
      exact (ev_lShpL l hl ho r (v + 1) (drop_next hd)).eq (by simp [hs])
    | false => exact Evt.ifF rfl (Evt.ret.eq (by simp [hs]))
theorem ev_lShp (l : List Tm) (hl : l.length ≤ 1000) (ho : ∀ t ∈ l, t.Ok) : Evt (fun q => e22 q l) (l.all shapedT) := by
  simp only [e22]
  exact ev_lShpL l hl ho l 0 rfl
def fieldT (l : List Ent) (p : Int) (a : List Tm) : Tm × Int :=
  if isT l p 4 = true then (if a.length = (ent l (ent l p).fam).fields.length ∧ a.all shapedT = true then (nth a (ent l p).place, 0) else (zT, 5)) else (zT, 16)
theorem proj_fam {N : ByteArray → Bool} {l : List Ent} {p : Int} (hE : AllE N l) (h : isT l p 4 = true) : 0 ≤ p ∧ p < l.length ∧ 0 ≤ (ent l p).fam ∧ (ent l p).fam < l.length ∧ 0 ≤ (ent l p).place ∧ (ent l p).place < (ent l (ent l p).fam).fields.length := by
  have hi := isT_spec h
  have hp := (entryT_spec (hE.2 p hi.1 hi.2.1)).2.2.2.1 hi.2.2
  unfold projT at hp
  simp only [Bool.and_eq_true] at hp
  have hw := ownedT_spec hp.1
  have h6 := hw.2.2.2.2.2
  unfold ownL at h6
  rw [if_pos hi.2.2] at h6
  exact ⟨hi.1, hi.2.1, hw.1, by omega, hw.2.2.2.2.1, h6⟩
theorem ev_Field {N : ByteArray → Bool} (l : List Ent) (parts : List Con') (p : Int) (a : List Tm) (hE : AllE N l) (ho : ∀ t ∈ a, t.Ok) (hl : a.length ≤ 1000) : Evt (fun q => e24 q l parts p a) (fieldT l p a) := by
  simp only [e24]
  unfold fieldT
  refine (ev_iIs' l p 4).bind ?_
  cases hT : isT l p 4 with
  | false => exact Evt.ifF rfl Evt.ret
  | true =>
    obtain ⟨h0, h1, h2, h3, h4, h5⟩ := proj_fam hE hT
    refine Evt.ifT rfl (Evt.pure (gidx_ent h0 h1) (Evt.pure (gidx_ent h2 h3) ?_))
    rw [if_pos rfl]
    by_cases hn : a.length = (ent l (ent l p).fam).fields.length
    · have hS : Evt (fun q => e76 q a) (a.all shapedT) := by simp only [e76]; exact ev_iShpL a hl ho a 0 rfl
      refine Evt.ifF (by simp [hn]) (hS.bind ?_)
      cases hs : a.all shapedT with
      | true => exact Evt.ifT rfl (Evt.pure (gidx_nth h4 (by omega)) (Evt.ret.eq (by rw [if_pos ⟨hn, rfl⟩])))
      | false => exact Evt.ifF rfl (Evt.ret.eq (by rw [if_neg (fun h => by cases h.2)]; rfl))
    · exact Evt.ifT (by simp; omega) (Evt.ret.eq (by rw [if_neg (fun h => hn h.1)]; rfl))
theorem ev_IotaFields (l : List Ent) (p : Int) (a : List Tm) (he : ∀ e ∈ l, EOk e) (hc : ∀ e ∈ l, ECl e) (ho : ∀ t ∈ a, t.Ok) : Evt (fun q => e3 q l p a) true := by
  simp only [e3]
  have hL : Evt (fun q => e15 q l a []) (decide (l.length ≤ 300) && decide (a.length ≤ 40)) := by
    simp only [e15]
    refine Evt.iff (fun h => Evt.iff (fun k => Evt.ret.eq ?_) fun k => Evt.ret.eq ?_) fun h => Evt.ret.eq ?_
    · have := of_decide_eq_true h; have := of_decide_eq_true k
      rw [decide_eq_true (show l.length ≤ 300 by omega), decide_eq_true (show a.length ≤ 40 by omega)]; rfl
    · have := of_decide_eq_false k
      rw [decide_eq_false (show ¬ a.length ≤ 40 by omega)]; simp
    · have := of_decide_eq_false h
      rw [decide_eq_false (show ¬ l.length ≤ 300 by omega)]; simp
  have aw : Evt (fun q => e16 q >>= fun r => some r) true := ev_awake13.bind Evt.ret
  refine hL.bind ?_
  by_cases hlt : l.length ≤ 300 ∧ a.length ≤ 40
  case neg =>
    refine Evt.ifF ?_ aw
    by_cases h : l.length ≤ 300
    · rw [decide_eq_false (fun k => hlt ⟨h, k⟩)]; simp
    · rw [decide_eq_false h]; rfl
  obtain ⟨hll, hla⟩ := hlt
  refine Evt.ifT (by rw [decide_eq_true hll, decide_eq_true hla]; rfl) ?_
  obtain ⟨N, hN⟩ := names_by
  obtain ⟨b, hF, hA, hNew⟩ := ev_iNew N hN l (by omega) he hc
  have hR := ev_refFormed l (by omega) he hF
  obtain ⟨cd, hcd⟩ : ∃ cd : Int, cd = if b = true then (if isT l p 1 = true then 0 else 16) else 5 := ⟨_, rfl⟩
  have hfam : Evt (fun q => e68 q l p 0) cd := by
    simp only [e68]
    rw [hcd]
    refine hF.bind ?_
    cases b with
    | false => exact Evt.ifF rfl Evt.ret
    | true =>
      refine Evt.ifT rfl ((ev_iIs' l p 1).bind ?_)
      cases isT l p 1 with
      | false => exact Evt.ifF rfl Evt.ret
      | true => exact Evt.ifT rfl (Evt.ifF rfl (Evt.ifF rfl Evt.ret))
  have hrfam : Evt (fun q => e19 q l p 0) cd := by
    simp only [e19]
    rw [hcd]
    refine hR.bind ?_
    cases b with
    | false => exact Evt.ifF rfl Evt.ret
    | true =>
      refine Evt.ifT rfl ((ev_rIs l p 1).bind ?_)
      cases isT l p 1 with
      | false => exact Evt.ifF rfl Evt.ret
      | true => exact Evt.ifT rfl (Evt.ifF rfl (Evt.ifF rfl Evt.ret))
  have hField : Evt (fun q => e17 q l p a) (if b = true then fieldT l p a else (zT, 5)) := by
    simp only [e17]
    refine hNew.bind ?_
    cases b with
    | false => exact Evt.ifT (by decide) Evt.ret
    | true => exact Evt.ifF (by simp) ((ev_Field l (evA l l.length 0) p a (hA rfl) ho (by omega)).bind Evt.ret)
  have hArgsN : cd ≠ 0 → Evt (fun q => e18 q l p) (0, cd) := fun h => by
    simp only [e18]
    exact hfam.bind (Evt.ifT (by simpa using h) Evt.ret)
  refine hField.bind ?_
  cases b with
  | false =>
    rw [if_neg (by decide)] at hcd
    subst hcd
    refine (hArgsN (by decide)).bind (hrfam.bind (Evt.ifF rfl (Evt.ifT rfl (Evt.ifF rfl (Evt.ifF rfl (hR.bind (Evt.ifF rfl (Evt.ifT ?_ aw))))))))
    rw [if_neg (by decide)]; rfl
  | true =>
    have hE := hA rfl
    rw [if_pos rfl] at hcd ⊢
    cases h1 : isT l p 1 with
    | true =>
      rw [h1, if_pos rfl] at hcd
      subst hcd
      have hi := isT_spec h1
      have hfs := familyT_spec ((entryT_spec (hE.2 p hi.1 hi.2.1)).2.1 hi.2.2)
      have h4 : isT l p 4 = false := by
        cases h : isT l p 4 with
        | false => rfl
        | true => have := (isT_spec h).2.2; omega
      have hArgs : Evt (fun q => e18 q l p) ((ent l p).pars + 2 + (ent l p).cons.length + (ent l p).inds, 0) := by
        simp only [e18]
        refine hfam.bind (Evt.ifF rfl (Evt.pure (gidx_ent hi.1 hi.2.1) (Evt.ret.eq ?_)))
        rw [w64_id (x := (ent l p).pars + 1) (by omega) (by omega), w64_id (x := (ent l p).pars + 1 + ((ent l p).cons.length : Int)) (by omega) (by omega), w64_id (x := (ent l p).pars + 1 + ((ent l p).cons.length : Int) + (ent l p).inds) (by omega) (by omega), w64_id (by omega) (by omega)]
        congr 1; omega
      have hw : w64 (w64 (w64 ((ent l p).pars + 2) + ((ent l p).cons.length : Int)) + (ent l p).inds) = (ent l p).pars + 2 + (ent l p).cons.length + (ent l p).inds := by
        rw [w64_id (x := (ent l p).pars + 2) (by omega) (by omega), w64_id (x := (ent l p).pars + 2 + ((ent l p).cons.length : Int)) (by omega) (by omega), w64_id (by omega) (by omega)]
      have hf : fieldT l p a = (zT, 16) := by unfold fieldT; rw [h4, if_neg (by decide)]
      rw [hf]
      refine hArgs.bind (hrfam.bind (Evt.ifF rfl (Evt.ifF rfl (Evt.ifT rfl (Evt.pure (gidx_ent hi.1 hi.2.1) (Evt.ifF ?_ (hR.bind (Evt.ifT rfl ((ev_rIs l p 4).bind ?_)))))))))
      · rw [hw]; simp
      · rw [h4]; exact Evt.ifF rfl (Evt.ifT rfl aw)
    | false =>
      rw [h1, if_neg (by decide)] at hcd
      subst hcd
      refine (hArgsN (by decide)).bind (hrfam.bind (Evt.ifF rfl (Evt.ifT rfl (Evt.ifF rfl (Evt.ifF rfl (hR.bind (Evt.ifT rfl ((ev_rIs l p 4).bind ?_))))))))
      cases h4 : isT l p 4 with
      | false =>
        have hf : fieldT l p a = (zT, 16) := by unfold fieldT; rw [h4, if_neg (by decide)]
        rw [hf]
        exact Evt.ifF rfl (Evt.ifT rfl aw)
      | true =>
        obtain ⟨g0, g1, g2, g3, g4, g5⟩ := proj_fam hE h4
        refine Evt.ifT rfl (Evt.pure (gidx_ent g0 g1) (Evt.pure (gidx_ent g2 g3) ?_))
        by_cases hn : a.length = (ent l (ent l p).fam).fields.length
        · refine Evt.ifF (by simp [hn]) ((ev_lShp a (by omega) ho).bind ?_)
          cases hs : a.all shapedT with
          | false =>
            have hf : fieldT l p a = (zT, 5) := by unfold fieldT; rw [h4, if_pos rfl, if_neg (fun h => by rw [hs] at h; cases h.2)]
            rw [hf]
            exact Evt.ifF rfl (Evt.ifT rfl aw)
          | true =>
            have hf : fieldT l p a = (nth a (ent l p).place, 0) := by unfold fieldT; rw [h4, if_pos rfl, if_pos ⟨hn, hs⟩]
            have hlt : (ent l p).place < a.length := by omega
            have hok : (nth a (ent l p).place).Ok := ho _ (nth_mem g4 hlt)
            have hEv := ev_Field l (evA l l.length 0) p a hE ho (by omega)
            rw [hf] at hEv ⊢
            refine Evt.ifT rfl (hNew.bind ?_)
            refine hEv.bind (Evt.bind (a := (zT, 5)) (Evt.mk fun _ => rfl) (Evt.ifT rfl (Evt.pure (gidx_nth g4 hlt) ((ev_rEq _ hok).bind (Evt.ifT rfl (Evt.ifT rfl (Evt.ifT rfl ((ev_rEq _ hok).bind (Evt.ifT rfl (Evt.ifT rfl aw))))))))))
        · have hf : fieldT l p a = (zT, 5) := by unfold fieldT; rw [h4, if_pos rfl, if_neg (fun h => hn h.1)]
          rw [hf]
          exact Evt.ifT (by simp; omega) (Evt.ifT rfl aw)
theorem rdE_ok {l : List Ent} (h : ∀ e ∈ l, RdE e) : ∀ e ∈ l, EOk e := fun e he => ⟨(h e he).1, (h e he).2.1, Nat.le_trans (h e he).2.2.1 (by decide), Nat.le_trans (h e he).2.2.2 (by decide)⟩
theorem rdE_cl {l : List Ent} (h : ∀ e ∈ l, RdE e) : ∀ e ∈ l, ECl e := fun e he => ⟨(h e he).2.2.1, (h e he).2.2.2⟩
theorem okL_mem : ∀ {l : List Tm}, OkL l → ∀ t ∈ l, t.Ok
  | [], _, t, h => by cases h
  | x :: l, ho, t, h => by
    rw [OkL] at ho
    rcases List.mem_cons.1 h with rfl | h
    · exact ho.1
    · exact okL_mem ho.2 t h
theorem iotaFields_ct (l : List Ent) (p : Int) (a : List Tm) (w0 : ∀ e ∈ l, RdE e) (w1 : (Lit.int .i64 p).wf = true) (w2 : OkL a ∧ a.length < 9223372036854775808) : CT Tryz.prog 3 [] [.sl (flat entL l) l.length .no, ai p, .sl (flat tmCells a) a.length .no] (ab true) [] 0 := by
  obtain ⟨q, hq⟩ := (ev_IotaFields l p a (rdE_ok w0) (rdE_cl w0) (okL_mem w2.1)).at
  exact c3 hq
end Go.Proofs.YteiddempdecleaaGreat
