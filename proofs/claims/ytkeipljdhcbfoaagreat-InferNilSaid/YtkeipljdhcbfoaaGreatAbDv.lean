/- CODE, SEEN FROM WHERE ITS FUNCTION BEGAN: so that in between the state may be counted anew; loops, opened round by round. -/
import Derived.Test.YtkeipljdhcbfoaaGreatAbRen
import Derived.Test.YtkeipljdhcbfoaaGreatAbPath
namespace Go.Ab
open Go Go.RowKit

/-- how many blocks a function begins with; and whatever else is known of where it began -/
structure Nb where
  n : Nat
  κ : Gh → Prop
instance : Coe Nat Nb := ⟨fun n => ⟨n, fun _ => True⟩⟩
instance (k : Nat) : OfNat Nb k := ⟨⟨k, fun _ => True⟩⟩

/-- what is known where the function began: these blocks, no stamp -/
structure Base (na : Nb) (G0 : Gh) : Prop where
  ρ : ∀ i, na.n ≤ i → G0.ρ i = none
  τ : ∀ k, G0.τ k = none
  LF : ∀ b o, G0.L b o → G0.F b
  κ : na.κ G0

/-- the post, in the model's own terms -/
def DPost (G0 : Gh) (W : World) (Q : AX → List AV → LSt → Prop) : Exit → Act → World → Prop := fun e a' w' =>
  ∃ x env' s' G', e = AX.toExit x ∧ Q x env' s' ∧ Ext G0 W G' w' ∧ s'.Ok ∧ Rel G' ⟨env', over (Emp 0) s'⟩ a' w'

def Dv (P : Program) (na : Nb) (c : Code) (env : List AV) (s : LSt) (Q : AX → List AV → LSt → Prop) : Prop :=
  ∀ G0 W, Base na G0 → ∀ G a w, Ext G0 W G w → s.Ok → Rel G ⟨env, over (Emp 0) s⟩ a w → c.wp P (DPost G0 W Q) a w

theorem DPost.mono {G0 : Gh} {W : World} {Q Q' : AX → List AV → LSt → Prop} (hq : ∀ x e s, Q x e s → Q' x e s) {e : Exit} {a : Act} {w : World} (h : DPost G0 W Q e a w) : DPost G0 W Q' e a w := by
  obtain ⟨x, env', s', G', h1, h2, h3⟩ := h
  exact ⟨x, env', s', G', h1, hq _ _ _ h2, h3⟩

theorem Dv.mono {P : Program} {na : Nb} {c : Code} {env : List AV} {s : LSt} {Q Q' : AX → List AV → LSt → Prop} (h : Dv P na c env s Q) (hq : ∀ x e s, Q x e s → Q' x e s) : Dv P na c env s Q' :=
  fun G0 W hB G a w hE ho hR => wp_mono (h G0 W hB G a w hE ho hR) fun _ _ _ => DPost.mono hq

theorem Dv.ofEv {P : Program} {na : Nb} {c : Code} {env : List AV} {s : LSt} {Q : AX → List AV → LSt → Prop} (h : Ev P c env s Q) : Dv P na c env s Q := by
  intro G0 W _ G a w hE ho hR
  refine wp_mono (h ho G a w hR) ?_
  rintro e a' w' ⟨x, S, G', rfl, ⟨env', s', rfl, h2, h3⟩, h4, h5⟩
  exact ⟨x, env', s', G', rfl, h3, hE.trans h4, h2, h5⟩

theorem Dv.seq {P : Program} {na : Nb} {x y : Code} {env : List AV} {s : LSt} {Q : AX → List AV → LSt → Prop} (h : Dv P na x env s (seqQ (fun e s => Dv P na y e s Q) Q)) : Dv P na (.seq x y) env s Q := by
  intro G0 W hB G a w hE ho hR
  refine wp_seq (wp_mono (h G0 W hB G a w hE ho hR) ?_)
  rintro e a' w' ⟨x, env', s', G', rfl, h2, h3, h4, h5⟩
  cases x with
  | normal => exact h2 G0 W hB G' a' w' h3 h4 h5
  | exit i => exact ⟨.exit i, env', s', G', rfl, h2, h3, h4, h5⟩
  | ret => exact ⟨.ret, env', s', G', rfl, h2, h3, h4, h5⟩

theorem Dv.cond {P : Program} {na : Nb} {c : Operand} {x y : Code} {env : List AV} {s : LSt} {Q : AX → List AV → LSt → Prop} {b : Bool} (hc : aev env c = .val (.bool b)) (h : Dv P na (if b then x else y) env s Q) : Dv P na (.cond c x y) env s Q := by
  intro G0 W hB G a w hE ho hR
  have hv := V.aev hR.env c
  simp only at hv
  rw [hc] at hv
  simp only [V] at hv
  exact wp_cond hv (h G0 W hB G a w hE ho hR)

theorem Dv.block {P : Program} {na : Nb} {i : Nat} {c : Code} {env : List AV} {s : LSt} {Q : AX → List AV → LSt → Prop} (h : Dv P na c env s (blockQ i Q)) : Dv P na (.block i c) env s Q := by
  intro G0 W hB G a w hE ho hR
  refine wp_block (wp_mono (h G0 W hB G a w hE ho hR) ?_)
  rintro e a' w' ⟨x, env', s', G', rfl, h2, h3, h4, h5⟩
  cases x with
  | normal => exact ⟨.normal, env', s', G', rfl, h2, h3, h4, h5⟩
  | ret => exact ⟨.ret, env', s', G', rfl, h2, h3, h4, h5⟩
  | exit j =>
    simp only [AX.toExit, Exit.inBlock, blockQ] at h2 ⊢
    by_cases hj : j = i
    · rw [if_pos hj] at h2 ⊢; exact ⟨.normal, env', s', G', rfl, h2, h3, h4, h5⟩
    · rw [if_neg hj] at h2 ⊢; exact ⟨.exit j, env', s', G', rfl, h2, h3, h4, h5⟩

theorem Dv.scope {P : Program} {na : Nb} {c : Code} {env : List AV} {s : LSt} {Q : AX → List AV → LSt → Prop} (h : Dv P na c env s Q) : Dv P na (.scope c) env s Q := by
  intro G0 W hB G a w hE ho hR
  refine wp_scope_straight (wp_mono (h G0 W hB G a w hE ho hR) ?_)
  rintro e a' w' ⟨x, env', s', G', rfl, h2, h3, h4, h5⟩
  cases x with
  | normal => exact ⟨.normal, env', s', G', rfl, h2, h3, h4, h5⟩
  | exit i => exact ⟨.exit i, env', s', G', rfl, h2, h3, h4, h5⟩
  | ret => exact ⟨.ret, env', s', G', rfl, h2, h3, h4, h5⟩

/- LOOPS -/
/-- a loop's head: the body ahead, the loop behind -/
def LoopWp (P : Program) (c : Code) (Q : Exit → Act → World → Prop) (a : Act) (w : World) : Prop :=
  ∀ (b : Frame) (k : List Item) (cs : List Frame), ∃ e a' w', Q e a' w' ∧ Arrives P (lone (b.at a (.code c :: .inLoop c :: k)) cs w) b k cs e a' w'

theorem LoopWp.step {P : Program} {c : Code} {Q : Exit → Act → World → Prop} {a : Act} {w : World} (h : c.wp P (Exit.then (LoopWp P c Q) Q) a w) : LoopWp P c Q a w := by
  intro b k cs
  obtain ⟨e, a₁, w₁, hq, harr⟩ := h b (.inLoop c :: k) cs
  cases e with
  | normal =>
    obtain ⟨e₂, a₂, w₂, hq₂, harr₂⟩ := hq b k cs
    exact ⟨e₂, a₂, w₂, hq₂, .of_steps (Steps.trans harr (.one step_inLoop)) harr₂⟩
  | exit id => exact ⟨_, a₁, w₁, hq, .pass (x := .inLoop c) rfl (fun _ _ => .inl (by simp)) harr⟩
  | goto l => exact ⟨_, a₁, w₁, hq, .pass (x := .inLoop c) rfl (fun _ _ => .inl (by simp)) harr⟩
  | ret => exact ⟨_, a₁, w₁, hq, .pass (x := .inLoop c) rfl (fun _ _ => .inl (by simp)) harr⟩
  | panic ch => exact ⟨_, a₁, w₁, hq, .pass (x := .inLoop c) rfl (fun _ _ => .inl (by simp)) harr⟩
  | outgrown => exact ⟨_, a₁, w₁, hq, .pass (x := .inLoop c) rfl (fun _ _ => .inl (by simp)) harr⟩

theorem LoopWp.loop {P : Program} {c : Code} {Q : Exit → Act → World → Prop} {a : Act} {w : World} (h : LoopWp P c Q a w) : (Code.loop c).wp P Q a w := by
  intro b k cs
  obtain ⟨e, a', w', hq, harr⟩ := h b k cs
  exact ⟨e, a', w', hq, .of_steps (.one step_loop) harr⟩

def Dl (P : Program) (na : Nb) (c : Code) (env : List AV) (s : LSt) (Q : AX → List AV → LSt → Prop) : Prop :=
  ∀ G0 W, Base na G0 → ∀ G a w, Ext G0 W G w → s.Ok → Rel G ⟨env, over (Emp 0) s⟩ a w → LoopWp P c (DPost G0 W Q) a w

theorem Dl.step {P : Program} {na : Nb} {c : Code} {env : List AV} {s : LSt} {Q : AX → List AV → LSt → Prop} (h : Dv P na c env s (seqQ (fun e s => Dl P na c e s Q) Q)) : Dl P na c env s Q := by
  intro G0 W hB G a w hE ho hR
  refine LoopWp.step (wp_mono (h G0 W hB G a w hE ho hR) ?_)
  rintro e a' w' ⟨x, env', s', G', rfl, h2, h3, h4, h5⟩
  cases x with
  | normal => exact h2 G0 W hB G' a' w' h3 h4 h5
  | exit i => exact ⟨.exit i, env', s', G', rfl, h2, h3, h4, h5⟩
  | ret => exact ⟨.ret, env', s', G', rfl, h2, h3, h4, h5⟩

theorem Dv.loop {P : Program} {na : Nb} {c : Code} {env : List AV} {s : LSt} {Q : AX → List AV → LSt → Prop} (h : Dl P na c env s Q) : Dv P na (.loop c) env s Q :=
  fun G0 W hB G a w hE ho hR => LoopWp.loop (h G0 W hB G a w hE ho hR)

/- THE STATE COUNTED ANEW -/
def memB (l : List Nat) (i : Nat) : Bool := l.any (Nat.beq i)

/-- slots that live keep their value, under the new numbers; the others hold whatever they held -/
def reEnv (keep ks live : List Nat) (j : Nat → Value) : List AV → Nat → List AV
  | [], _ => []
  | a :: l, t => (bif memB live t then a.ren (newId keep) (place ks) else .val (j t)) :: reEnv keep ks live j l (t + 1)

def fineEnv (keep live : List Nat) : List AV → Nat → Prop
  | [], _ => True
  | a :: l, t => (bif memB live t then a.fine (fun i => i ∈ keep) else True) ∧ fineEnv keep live l (t + 1)

theorem VL.reEnv {G G' : Gh} {w : World} {keep ks live : List Nat} (h : Ren G G' (newId keep) (place ks) (fun i => i ∈ keep)) (us0 : List Value) : ∀ (env : List AV) (us : List Value) (t : Nat), fineEnv keep live env t → VL G w env us → (∀ i, us0.getD (t + i) undef = us.getD i undef) →
    VL G' w (reEnv keep ks live (fun t => us0.getD t undef) env t) us
  | [], [], _, _, _, _ => by simp [Ab.reEnv, VL]
  | a :: as, u :: us, t, hf, hv, hu => by
    simp only [VL] at hv
    simp only [fineEnv] at hf
    simp only [Ab.reEnv, VL]
    refine ⟨?_, VL.reEnv h us0 as us (t + 1) hf.2 hv.2 (fun i => ?_)⟩
    · cases hm : memB live t with
      | true => rw [hm] at hf; exact V.ren h a u hf.1 hv.1
      | false =>
        have := hu 0
        simp only [Nat.add_zero, List.getD_cons_zero] at this
        simp only [cond_false, this, V]
    · have := hu (i + 1)
      rw [show t + 1 + i = t + (i + 1) by omega, this]; simp
  | [], _ :: _, _, _, h, _ => by simp only [VL] at h
  | _ :: _, [], _, _, h, _ => by simp only [VL] at h

theorem Rel.reB {na : Nb} {keep ks live : List Nat} {s : LSt} {env : List AV} (hB : Ab.reB na.n keep ks s = true) (hf : fineBlks keep s keep) (hfe : fineEnv keep live env 0) {G0 G : Gh} {W w : World} {a : Act} (h0 : Base na G0) (hE : Ext G0 W G w) (hR : Rel G ⟨env, over (Emp 0) s⟩ a w) :
    ∃ G' j, Ext G0 W G' w ∧ (reSt keep ks s).Ok ∧ Rel G' ⟨reEnv keep ks live j env 0, over (Emp 0) (reSt keep ks s)⟩ a w := by
  obtain ⟨G', h1, h2, h3, h4⟩ := renumber hB hf h0.ρ h0.τ hE hR.st
  exact ⟨G', fun t => a.tmps.toList.getD t undef, h1, h2, h3, VL.reEnv h4 _ _ _ 0 hfe hR.env (fun i => by rw [Nat.zero_add]), hR.dfr⟩

theorem Dl.re {P : Program} {na : Nb} (keep ks live : List Nat) {c : Code} {env : List AV} {s : LSt} {Q : AX → List AV → LSt → Prop} (hB : Ab.reB na.n keep ks s = true) (hf : fineBlks keep s keep) (hfe : fineEnv keep live env 0)
    (h : ∀ j, Dl P na c (reEnv keep ks live j env 0) (reSt keep ks s) Q) : Dl P na c env s Q := by
  intro G0 W h0 G a w hE ho hR
  obtain ⟨G', j, h1, h2, h3⟩ := hR.reB hB hf hfe h0 hE
  exact h j G0 W h0 G' a w h1 h2 h3

theorem Dv.re {P : Program} {na : Nb} (keep ks live : List Nat) {c : Code} {env : List AV} {s : LSt} {Q : AX → List AV → LSt → Prop} (hB : Ab.reB na.n keep ks s = true) (hf : fineBlks keep s keep) (hfe : fineEnv keep live env 0)
    (h : ∀ j, Dv P na c (reEnv keep ks live j env 0) (reSt keep ks s) Q) : Dv P na c env s Q := by
  intro G0 W h0 G a w hE ho hR
  obtain ⟨G', j, h1, h2, h3⟩ := hR.reB hB hf hfe h0 hE
  exact h j G0 W h0 G' a w h1 h2 h3

end Go.Ab
