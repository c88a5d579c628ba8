/- Texts: AbSb AbF341 AbF313 AbF289 AbF256 AbSc AbF209 AbF290 AbF258 AbF211 AbF212 AbSd AbF202 AbF217 AbF263 AbF264 AbF265 AbF218 AbPn AbF266 AbF219 AbF220 AbF221 AbPo AbF154 AbF155 AbF113v0 AbF113v1 AbF113 AbF72 AbF73 AbPp AbF118v0 AbF118v1 AbF118vr0 AbF118vr1 AbF118 AbF223 AbF156 AbF74 AbPq AbF23 AbF36 AbPr AbF147 AbF210 AbF148 AbF69 AbSe AbF77 AbF87 AbPd AbF80 AbF174 AbF88 AbF39 AbPe AbF81 AbF30 AbF105 AbF46 AbPf AbF126 AbF167 AbF90 AbF151 AbF152 AbF21 AbF213 AbF214 AbF215 -/
import Derived.Test.YteiddempdecleaaGreatAbB3
set_option linter.unusedVariables false
set_option linter.unusedSimpArgs false
namespace Go.Proofs.YteiddempdecleaaGreat
open Go Go.Ab
theorem u8_id {x : Int} (h0 : 0 ≤ x) (h1 : x < 256) : IntKind.u8.wrap x = x := by
  unfold IntKind.wrap
  have e : (2 ^ IntKind.u8.bits : Int) = 256 := by rfl
  have s : IntKind.u8.signed = false := rfl
  simp only [e, s, Bool.false_and, Bool.false_eq_true, if_false]
  omega
theorem and_bits {c : Int} (h0 : 0 ≤ c) (h1 : c < 256) : IntKind.u8.wrap ((BitVec.ofInt (IntKind.bits .u8) c &&& BitVec.ofInt (IntKind.bits .u8) 31).toNat : Nat) = c % 32 ∧ IntKind.u8.wrap ((BitVec.ofInt (IntKind.bits .u8) c &&& BitVec.ofInt (IntKind.bits .u8) 15).toNat : Nat) = c % 16 ∧ IntKind.u8.wrap ((BitVec.ofInt (IntKind.bits .u8) c &&& BitVec.ofInt (IntKind.bits .u8) 7).toNat : Nat) = c % 8
    ∧ IntKind.u8.wrap ((BitVec.ofInt (IntKind.bits .u8) c &&& BitVec.ofInt (IntKind.bits .u8) 63).toNat : Nat) = c % 64 ∧ IntKind.u8.wrap ((BitVec.ofInt (IntKind.bits .u8) c &&& BitVec.ofInt (IntKind.bits .u8) 192).toNat : Nat) = c / 64 * 64 := by
  have key : ((List.range 256).all fun i => decide (IntKind.u8.wrap ((BitVec.ofInt (IntKind.bits .u8) (i : Int) &&& BitVec.ofInt (IntKind.bits .u8) 31).toNat : Nat) = (i : Int) % 32) && decide (IntKind.u8.wrap ((BitVec.ofInt (IntKind.bits .u8) (i : Int) &&& BitVec.ofInt (IntKind.bits .u8) 15).toNat : Nat) = (i : Int) % 16) && decide (IntKind.u8.wrap ((BitVec.ofInt (IntKind.bits .u8) (i : Int) &&& BitVec.ofInt (IntKind.bits .u8) 7).toNat : Nat) = (i : Int) % 8)
    && decide (IntKind.u8.wrap ((BitVec.ofInt (IntKind.bits .u8) (i : Int) &&& BitVec.ofInt (IntKind.bits .u8) 63).toNat : Nat) = (i : Int) % 64) && decide (IntKind.u8.wrap ((BitVec.ofInt (IntKind.bits .u8) (i : Int) &&& BitVec.ofInt (IntKind.bits .u8) 192).toNat : Nat) = (i : Int) / 64 * 64)) = true := by kernel_rfl
  have h := List.all_eq_true.1 key c.toNat (List.mem_range.2 (by omega))
  simp only [Bool.and_eq_true, decide_eq_true_eq] at h
  rw [Int.toNat_of_nonneg h0] at h
  exact ⟨h.1.1.1.1, h.1.1.1.2, h.1.1.2, h.1.2, h.2⟩
theorem or_bits {n x : Int} (h0 : 0 ≤ n) (h1 : n < 1048576) (h2 : 0 ≤ x) (h3 : x < 64) : IntKind.i64.wrap ((BitVec.ofInt (IntKind.bits .i64) (w64 (n * 2 ^ (min (Int.toNat 6) (IntKind.bits .i64)))) ||| BitVec.ofInt (IntKind.bits .i64) (w64 x)).toNat : Nat) = n * 64 + x := by
  have e : (2 ^ (min (Int.toNat 6) (IntKind.bits .i64)) : Int) = 64 := by rfl
  rw [e, w64_id (by omega) (by omega), w64_id (by omega) (by omega)]
  obtain ⟨a, rfl⟩ := Int.eq_ofNat_of_zero_le h0
  obtain ⟨b, rfl⟩ := Int.eq_ofNat_of_zero_le h2
  have hb : (BitVec.ofInt (IntKind.bits .i64) ((a : Int) * 64) ||| BitVec.ofInt (IntKind.bits .i64) (b : Int)).toNat = a * 64 + b := by
    have e1 : ((a : Int) * 64) = ((a * 64 : Nat) : Int) := by omega
    rw [e1, BitVec.ofInt_natCast, BitVec.ofInt_natCast, BitVec.toNat_or, BitVec.toNat_ofNat, BitVec.toNat_ofNat]
    have e2 : (2 ^ IntKind.bits .i64 : Nat) = 18446744073709551616 := rfl
    rw [e2, Nat.mod_eq_of_lt (by omega), Nat.mod_eq_of_lt (by omega)]
    have := Nat.two_pow_add_eq_or_of_lt (i := 6) (b := b) (by omega) a
    have e3 : a * 64 = 2 ^ 6 * a := by omega
    rw [e3]; exact this.symm
  rw [hb]
  have := w64_id (x := ((a * 64 + b : Nat) : Int)) (by omega) (by omega)
  show w64 _ = _
  rw [this]; omega
theorem ev_lead {c : Int} (h0 : 0 ≤ c) (h1 : c < 256) : Evt (fun q => e314 q c) (((leadT c).1 : Int), (leadT c).2) := by
  obtain ⟨a1, a2, a3, -, -⟩ := and_bits h0 h1
  simp only [e314, a1, a2, a3]
  rw [w64_id (x := c) (by omega) (by omega), w64_id (x := c % 32) (by omega) (by omega), w64_id (x := c % 16) (by omega) (by omega), w64_id (x := c % 8) (by omega) (by omega)]
  have geT : ∀ k : Int, k ≤ c → decide (c ≥ k) = true := fun k h => decide_eq_true h
  have geF : ∀ k : Int, c < k → decide (c ≥ k) = false := fun k h => decide_eq_false (by omega)
  have ltT : ∀ k : Int, c < k → decide (c < k) = true := fun k h => decide_eq_true h
  have ltF : ∀ k : Int, k ≤ c → decide (c < k) = false := fun k h => decide_eq_false (by omega)
  clear a1 a2 a3
  unfold leadT
  by_cases b1 : c < 128
  · rw [if_pos b1]; exact Evt.ifT (ltT 128 b1) Evt.ret
  · rw [if_neg b1]
    refine Evt.ifF (ltF 128 (by omega)) ?_
    by_cases b2 : c < 192
    · rw [if_pos b2]
      exact Evt.ifF (geF 192 b2) (Evt.ifF (geF 224 (by omega)) (Evt.ifF (geF 240 (by omega)) Evt.ret))
    · rw [if_neg b2]
      refine Evt.ifT (geT 192 (by omega)) ?_
      by_cases b3 : c < 224
      · rw [if_pos b3]; exact Evt.ifT (ltT 224 b3) (Evt.ret.eq (by rw [show c % 32 = c - 192 by omega]; rfl))
      · rw [if_neg b3]
        refine Evt.ifF (ltF 224 (by omega)) (Evt.ifT (geT 224 (by omega)) ?_)
        by_cases b4 : c < 240
        · rw [if_pos b4]; exact Evt.ifT (ltT 240 b4) (Evt.ret.eq (by rw [show c % 16 = c - 224 by omega]; rfl))
        · rw [if_neg b4]
          refine Evt.ifF (ltF 240 (by omega)) (Evt.ifT (geT 240 (by omega)) ?_)
          by_cases b5 : c < 248
          · rw [if_pos b5]; exact Evt.ifT (ltT 248 b5) (Evt.ret.eq (by rw [show c % 8 = c - 240 by omega]; rfl))
          · rw [if_neg b5]; exact Evt.ifF (ltF 248 (by omega)) Evt.ret
theorem ev_uRight (n : Int) : Evt (fun q => e293 q n) (sgnT n) := by
  simp only [e293]
  unfold sgnT
  refine Evt.iff (fun h => Evt.iff (fun h2 => Evt.iff (fun h3 => Evt.ret.eq ?_) fun h3 => Evt.ret.eq ?_) fun h2 => Evt.ret.eq ?_) fun h => Evt.ret.eq ?_
  all_goals simp only [decide_eq_true_eq, decide_eq_false_iff_not] at *
  · exact (decide_eq_true (by omega)).symm
  · by_cases h4 : n > 57343
    · rw [decide_eq_true h4, decide_eq_true (by omega)]
    · rw [decide_eq_false h4, decide_eq_false (by omega)]
  · exact (decide_eq_false (by omega)).symm
  · exact (decide_eq_false (by omega)).symm
theorem ev_sgnR (n : Int) : Evt (fun q => e257 q n) (sgnT n) := by
  simp only [e257]
  unfold sgnT
  refine Evt.iff (fun h => Evt.ret.eq ?_) fun h => Evt.iff (fun h2 => Evt.ret.eq ?_) fun h2 => Evt.iff (fun h3 => Evt.ret.eq ?_) fun h3 => Evt.ret.eq ?_
  all_goals simp only [decide_eq_true_eq, decide_eq_false_iff_not] at *
  · exact (decide_eq_false (by omega)).symm
  · exact (decide_eq_false (by omega)).symm
  · exact (decide_eq_true (by omega)).symm
  · by_cases h4 : n > 57343
    · rw [decide_eq_true h4, decide_eq_true (by omega)]
    · rw [decide_eq_false h4, decide_eq_false (by omega)]
theorem ev_width (n : Int) : Evt (fun q => e315 q n) (widT n : Int) := by
  simp only [e315]
  unfold widT
  refine Evt.iff (fun h => Evt.ret.eq ?_) fun h => Evt.iff (fun h2 => Evt.ret.eq ?_) fun h2 => Evt.iff (fun h3 => Evt.ret.eq ?_) fun h3 => Evt.ret.eq ?_
  all_goals simp only [decide_eq_true_eq, decide_eq_false_iff_not] at *
  · rw [if_pos (by omega)]; rfl
  · rw [if_neg (by omega), if_pos (by omega)]; rfl
  · rw [if_neg (by omega), if_neg (by omega), if_pos (by omega)]; rfl
  · rw [if_neg (by omega), if_neg (by omega), if_neg (by omega)]; rfl
def nxtP (o : Option (Int × Nat)) : Int × Int × Int := match o with
  | some (n, w) => (n, (w : Int), 0)
  | none => (0, 0, 1)
theorem ev_uNextL (s : ByteArray) (a w : Nat) (n0 : Int) (hs : s.size ≤ 65535) (hw : a + w ≤ s.size) (hw4 : w ≤ 4) : ∀ (m i : Nat) (n : Int), i + m = w → 0 ≤ n → n < 32 * 64 ^ (i - 1) → 1 ≤ i →
    Evt (fun q => e291L21199 q s (a : Int) ((w : Int), n0) n (i : Int)) (nxtP (match ctnT m n ((bs s).drop (a + i)) with | some x => if sgnT x = true ∧ widT x = w then some (x, w) else none | none => none)) := by
  intro m
  induction m with
  | zero =>
    intro i n hi h0 h1 h2
    refine Evt.succ ?_
    simp only [e291L21199]
    refine Evt.ifF (decide_eq_false (by simp; omega)) ((ev_uRight n).bind ?_)
    simp only [ctnT]
    by_cases hr : sgnT n = true
    · refine Evt.ifT hr ((ev_width n).bind ?_)
      by_cases hx : widT n = w
      · exact (Evt.ifF (by simp [hx]) Evt.ret).eq (by rw [if_pos ⟨hr, hx⟩]; rfl)
      · exact (Evt.ifT (by simp; omega) Evt.ret).eq (by rw [if_neg (fun h => hx h.2)]; rfl)
    · exact (Evt.ifF (by simpa using hr) Evt.ret).eq (by rw [if_neg (fun h => hr h.1)]; rfl)
  | succ m ih =>
    intro i n hi h0 h1 h2
    have hlt : a + i < (bs s).length := by rw [bs_len]; omega
    have hd : (bs s).drop (a + i) = (bs s)[a + i] :: (bs s).drop (a + i + 1) := List.drop_eq_getElem_cons hlt
    have hc := bs_mem (List.getElem_mem hlt)
    refine Evt.succ ?_
    simp only [e291L21199]
    have hg : gbyte s (w64 ((a : Int) + (i : Int))) = some (bs s)[a + i] := by
      rw [w64_id (by omega) (by omega), gbyte_bs s (by omega), show ((a : Int) + (i : Int)).toNat = a + i by omega]
      exact List.getElem?_eq_getElem hlt
    obtain ⟨-, -, -, b1, b2⟩ := and_bits hc.1 hc.2
    refine Evt.ifT (decide_eq_true (by simp; omega)) (Evt.pure hg ?_)
    rw [hd, ctnT]
    generalize (bs s)[a + i] = c at *
    rw [b2, b1]
    by_cases h3 : 128 ≤ c ∧ c < 192
    · rw [if_pos h3]
      refine Evt.ifF (by simp; omega) ?_
      have hp : n < 1048576 := by
        have : i - 1 ≤ 2 := by omega
        rcases (by omega : i - 1 = 0 ∨ i - 1 = 1 ∨ i - 1 = 2) with e | e | e <;> rw [e] at h1 <;> omega
      rw [or_bits h0 hp (by omega) (by omega), w64_nat i (by omega)]
      have e : n * 64 + c % 64 = n * 64 + (c - 128) := by omega
      rw [e]
      refine ih (i + 1) _ (by omega) (by omega) ?_ (by omega)
      rw [Nat.add_sub_cancel]
      have e2 : (64 : Int) ^ i = 64 ^ (i - 1) * 64 := by
        rw [← Int.pow_succ]; congr 1; omega
      rw [e2]; omega
    · rw [if_neg h3]
      exact Evt.ifT (by simp; omega) Evt.ret
theorem ev_uNext (s : ByteArray) (a : Nat) (hs : s.size ≤ 65535) (ha : a < s.size) : Evt (fun q => e291 q s (a : Int)) (nxtP (decT ((bs s).drop a))) := by
  have hlt : a < (bs s).length := by rw [bs_len]; omega
  have hd : (bs s).drop a = (bs s)[a] :: (bs s).drop (a + 1) := List.drop_eq_getElem_cons hlt
  have hc := bs_mem (List.getElem_mem hlt)
  simp only [e291]
  have hg : gbyte s (a : Int) = some (bs s)[a] := by rw [gbyte_bs s (by omega), Int.toNat_natCast]; exact List.getElem?_eq_getElem hlt
  refine Evt.ifF (decide_eq_false (by omega)) (Evt.ifF (decide_eq_false (by omega)) (Evt.pure hg ((ev_lead hc.1 hc.2).bind ?_)))
  rw [hd, decT]
  generalize (bs s)[a] = c at *
  by_cases h0 : (leadT c).1 = 0
  · rw [if_pos h0]; exact Evt.ifT (by simp [h0]) Evt.ret
  · rw [if_neg h0]
    refine Evt.ifF (by simp; omega) ?_
    rw [w64_id (by omega) (by omega)]
    have hle : (leadT c).1 ≤ 4 ∧ 0 ≤ (leadT c).2 ∧ ((leadT c).1 ≠ 1 → (leadT c).2 < 32) := by
      unfold leadT
      repeat' split
      all_goals (refine ⟨?_, ?_, ?_⟩ <;> simp <;> omega)
    by_cases hl : a + (leadT c).1 ≤ s.size
    · refine Evt.ifF (decide_eq_false (by simp; omega)) ?_
      by_cases h1 : (leadT c).1 = 1
      · refine Evt.succ ?_
        simp only [e291L21199, h1, Nat.sub_self, ctnT]
        refine Evt.ifF rfl ((ev_uRight _).bind ?_)
        by_cases hr : sgnT (leadT c).2 = true
        · refine Evt.ifT hr ((ev_width _).bind ?_)
          by_cases hx : widT (leadT c).2 = 1
          · exact (Evt.ifF (by simp [hx]) Evt.ret).eq (by rw [if_pos ⟨hr, hx⟩]; rfl)
          · exact (Evt.ifT (by simp; omega) Evt.ret).eq (by rw [if_neg (fun h => hx h.2)]; rfl)
        · exact (Evt.ifF (by simpa using hr) Evt.ret).eq (by rw [if_neg (fun h => hr h.1)]; rfl)
      · have := ev_uNextL s a (leadT c).1 (leadT c).2 hs hl hle.1 ((leadT c).1 - 1) 1 (leadT c).2 (by omega) hle.2.1 (by simpa using hle.2.2 h1) (by omega)
        exact this
    · refine Evt.ifT (decide_eq_true (by simp; omega)) (Evt.ret.eq ?_)
      have : ctnT ((leadT c).1 - 1) (leadT c).2 ((bs s).drop (a + 1)) = none := by
        cases hx : ctnT ((leadT c).1 - 1) (leadT c).2 ((bs s).drop (a + 1)) with
        | none => rfl
        | some x => have := con_some hx; rw [List.length_drop, bs_len] at this; omega
      rw [this]; rfl
mutual
def e341L34731:Nat → Int → (List U8) → Int → Option (List U8)
 | 0,_,_,_ => none
 | qq + 1,p0,v5,v6 =>
 if decide (v6 ≥ 0) then
 e341L6854 qq p0 v5 v6 p0 0
 else
 some v5
def e341L6854:Nat → Int → (List U8) → Int → Int → Int → Option (List U8)
 | 0,_,_,_,_,_ => none
 | qq + 1,p0,v5,v6,v7,v8 =>
 if decide (v8 < v6) then
 e341L6854 qq p0 v5 v6 (w64 (Int.tdiv v7 64)) (w64 (v8 + 1))
 else
 gapp 1 v5 [(IntKind.u8.wrap ((w64 (128 + (Int.tmod v7 64)))))] >>= fun l3 =>
 e341L34731 qq p0 l3 (w64 (v6 - 1))
end
def e341 (qq:Nat) (p0 p1:Int):Option (List U8) :=
 e341L34731 qq p0 [] (w64 (p1 - 1))
def g341L34731E0 (j:Nat → Value) (p0:Int) (v5:List U8) (v6:Int):=sp j 32 0 [(0,ai p0),(5,slv u8C v5 (.st 0 1)),(6,ai v6)]
def g341L34731S0 (p0:Int) (v5:List U8) (v6:Int):LSt:=⟨[],0,[0],1,[]⟩
def g341L6854E0 (j:Nat → Value) (p0:Int) (v5:List U8) (v6 v7 v8:Int):=sp j 32 0 [(0,ai p0),(5,slv u8C v5 (.st 0 1)),(6,ai v6),(7,ai v7),(8,ai v8)]
def g341L6854S0 (p0:Int) (v5:List U8) (v6 v7 v8:Int):LSt:=⟨[],0,[0],1,[]⟩
abbrev K341 (p0 p1:Int) (r:List U8) (C:Cf):Prop:=C 341 [] [ai p0,ai p1] (.sl (flat u8C r) (List.length r) .no) [] 0
theorem q341:Qf 341 Tryz.f341:=⟨Tryz.func341,by kernel_rfl⟩
theorem k341 {p0 p1 r} (h:K341 p0 p1 r Ci):K341 p0 p1 r Ct:=⟨h,⟨tv,tv,tv⟩,forall_nil,dU _,forall_nil⟩
theorem a341L34731_341L6854:∀ qq:Nat,(∀ p0 v5 v6 r,e341L34731 qq p0 v5 v6 = some r → (∀ j,Dl Tryz.prog 0 (inn (inn (rgt (lft (rgt (rgt (bod Tryz.f341))))))) (g341L34731E0 j p0 v5 v6) (g341L34731S0 p0 v5 v6) (frameQ Tryz.prog 0 (FinQ Tryz.prog 0 Tryz.f341 (.sl (flat u8C r) (List.length r) .no) [] 0) [.blk 0,.seq (rgt (rgt (rgt (bod Tryz.f341))))]))) ∧ (∀ p0 v5 v6 v7 v8 r,e341L6854 qq p0 v5 v6 v7 v8 = some r → (∀ j,Dl Tryz.prog 0 (inn (inn (rgt (lft (rgt (inn (lft (rgt (inn (inn (rgt (lft (rgt (rgt (bod Tryz.f341))))))))))))))) (g341L6854E0 j p0 v5 v6 v7 v8) (g341L6854S0 p0 v5 v6 v7 v8) (frameQ Tryz.prog 0 (FinQ Tryz.prog 0 Tryz.f341 (.sl (flat u8C r) (List.length r) .no) [] 0) [.blk 2,.seq (rgt (rgt (inn (lft (rgt (inn (inn (rgt (lft (rgt (rgt (bod Tryz.f341)))))))))))),.blk 1,.seq (rgt (rgt (inn (inn (rgt (lft (rgt (rgt (bod Tryz.f341))))))))),.loop (inn (inn (rgt (lft (rgt (rgt (bod Tryz.f341))))))),.blk 0,.seq (rgt (rgt (rgt (bod Tryz.f341))))]))):=by
 intro qq
 induction qq with
 | zero =>
  exact ⟨fun _ _ _ _ h => nn h,fun _ _ _ _ _ _ h => nn h⟩
 | succ qq ih =>
  obtain ⟨ih341L34731,ih341L6854⟩:=ih
  refine ⟨?_,?_⟩
  intro p0 v5 v6 r h
  rw [e341L34731] at h
  rcases spl h with ⟨h1,h⟩ | ⟨h1,h⟩
  exact fun j => lH 0 [] [] [0] [0,5,6,7,8] (oD (dU v5) <| oB 0 h1 o0) (ih341L6854 _ _ _ _ _ _ h)
  obtain rfl:=sj h
  exact fun j => lF 0 [] (oD (dU v5) <| oB 0 h1 o0)
  intro p0 v5 v6 v7 v8 r h
  rw [e341L6854] at h
  rcases spl h with ⟨h2,h⟩ | ⟨h2,h⟩
  exact fun j => lH 2 [] [] [0] [0,5,6,7,8] (oD (dU v5) <| oB 0 h2 o0) (ih341L6854 _ _ _ _ _ _ h)
  obtain ⟨l3,h4,h⟩:=obind h
  exact fun j => lH 1 [] [] [1] [0,5,6] (oD (dU l3) <| oP 4 (apS369 h4 (by simp)) <| oB 0 h2 o0) (ih341L34731 _ _ _ _ h)
theorem c341 {qq p0 p1 r} (h:e341 qq p0 p1 = some r):K341 p0 p1 r Ct:=by
 unfold e341 at h
 exact k341 (tH q341 2 [(none,5,1)] [] [0] [0,5,6] (oD (dU ([]:List U8)) o0) (((a341L34731_341L6854 _).1) _ _ _ _ h))
def e313 (qq:Nat) (p0:Int):Option (ByteArray) :=
 if decide (p0 < 128) then
 some (gstr [(IntKind.u8.wrap (p0))])
 else
 if decide (p0 < 2048) then
 e341 qq p0 1 >>= fun r3 =>
 gapp 1 [(IntKind.u8.wrap ((w64 (192 + (w64 (Int.tdiv p0 64))))))] r3 >>= fun l5 =>
 some (gstr l5)
 else
 if decide (p0 < 65536) then
 e341 qq p0 2 >>= fun r9 =>
 gapp 1 [(IntKind.u8.wrap ((w64 (224 + (w64 (Int.tdiv p0 4096))))))] r9 >>= fun l11 =>
 some (gstr l11)
 else
 e341 qq p0 3 >>= fun r14 =>
 gapp 1 [(IntKind.u8.wrap ((w64 (240 + (w64 (Int.tdiv p0 262144))))))] r14 >>= fun l16 =>
 some (gstr l16)
abbrev K313 (p0:Int) (r:ByteArray) (C:Cf):Prop:=C 313 [] [ai p0] (at' r) [] 0
theorem q313:Qf 313 Tryz.f313:=⟨Tryz.func313,by kernel_rfl⟩
theorem k313 {p0 r} (h:K313 p0 r Ci):K313 p0 r Ct:=⟨h,⟨tv,tv⟩,forall_nil,tv,forall_nil⟩
theorem c313 {qq p0 r} (h:e313 qq p0 = some r):K313 p0 r Ct:=by
 unfold e313 at h
 rcases spl h with ⟨h1,h⟩ | ⟨h1,h⟩
 obtain rfl:=sj h
 exact k313 (tF q313 0 [] (oA 2 (cv369_9 [(IntKind.u8.wrap (p0))] (o:=.full)) <| oB 0 h1 o0))
 have k:=oB 0 h1 o0
 rcases spl h with ⟨h2,h⟩ | ⟨h2,h⟩
 obtain ⟨r3,h4,h⟩:=obind h
 obtain ⟨l5,h6,h⟩:=obind h
 have k:=oC 4 [] (c341 h4) <| oB 0 h2 k
 by_cases h7:List.length r3 = 0
 obtain rfl:=sj h
 exact k313 (tF q313 0 [] (oA 0 (cv369_9 l5 (o:=.full)) <| oP 0 (apN369 h6 h7) k))
 obtain rfl:=sj h
 exact k313 (tF q313 0 [] (oA 0 (cv369_9 l5 (o:=(.st 0 1))) <| oP 0 (apS369 h6 h7) k))
 have k:=oB 0 h2 k
 rcases spl h with ⟨h8,h⟩ | ⟨h8,h⟩
 obtain ⟨r9,h10,h⟩:=obind h
 obtain ⟨l11,h12,h⟩:=obind h
 have k:=oC 4 [] (c341 h10) <| oB 0 h8 k
 by_cases h13:List.length r9 = 0
 obtain rfl:=sj h
 exact k313 (tF q313 0 [] (oA 0 (cv369_9 l11 (o:=.full)) <| oP 0 (apN369 h12 h13) k))
 obtain rfl:=sj h
 exact k313 (tF q313 0 [] (oA 0 (cv369_9 l11 (o:=(.st 0 1))) <| oP 0 (apS369 h12 h13) k))
 obtain ⟨r14,h15,h⟩:=obind h
 obtain ⟨l16,h17,h⟩:=obind h
 have k:=oC 4 [] (c341 h15) <| oB 0 h8 k
 by_cases h18:List.length r14 = 0
 obtain rfl:=sj h
 exact k313 (tF q313 0 [] (oA 0 (cv369_9 l16 (o:=.full)) <| oP 0 (apN369 h17 h18) k))
 obtain rfl:=sj h
 exact k313 (tF q313 0 [] (oA 0 (cv369_9 l16 (o:=(.st 0 1))) <| oP 0 (apS369 h17 h18) k))
def e289L65430:Nat → ByteArray → Int → Int → Option (Int)
 | 0,_,_,_ => none
 | qq + 1,p0,v3,v5 =>
 if decide (v5 < (p0.size:Int)) then
 gbyte p0 v5 >>= fun x9 =>
 e289L65430 qq p0 (w64 ((w64 ((w64 (v3 * 64)) + (w64 (x9)))) - 128)) (w64 (v5 + 1))
 else
 e257 qq v3 >>= fun r11 =>
 if r11 then
 e313 qq v3 >>= fun r14 =>
 if !(r14.toList == p0.toList) then
 some (-1)
 else
 some v3
 else
 some (-1)
def e289 (qq:Nat) (p0:ByteArray):Option (Int) :=
 if (p0.size:Int) == 0 then
 some (-1)
 else
 gbyte p0 0 >>= fun x2 =>
 if decide ((p0.size:Int) > 1) then
 gidx [0,0,192,224,240] (p0.size:Int) >>= fun x5 =>
 if decide ((w64 ((w64 (x2)) - x5)) < 0) then
 some (-1)
 else
 e289L65430 qq p0 (w64 ((w64 (x2)) - x5)) 1
 else
 if decide ((w64 (x2)) < 0) then
 some (-1)
 else
 e289L65430 qq p0 (w64 (x2)) 1
def g289L65430E0 (j:Nat → Value) (p0:ByteArray) (v3 v5:Int):=sp j 49 0 [(0,at' p0),(3,ai v3),(5,ai v5)]
def g289L65430S0 (p0:ByteArray) (v3 v5:Int):LSt:=⟨[],0,[],0,[]⟩
abbrev K289 (p0:ByteArray) (r:Int) (C:Cf):Prop:=C 289 [] [at' p0] (ai r) [] 0
theorem q289:Qf 289 Tryz.f289:=⟨Tryz.func289,by kernel_rfl⟩
theorem k289 {p0 r} (h:K289 p0 r Ci):K289 p0 r Ct:=⟨h,⟨tv,tv⟩,forall_nil,tv,forall_nil⟩
theorem l289L65430:∀ qq:Nat,(∀ p0 v3 v5 r,e289L65430 qq p0 v3 v5 = some r → (∀ j,Dl Tryz.prog 0 (inn (inn (rgt (lft (rgt (rgt (rgt (rgt (rgt (rgt (bod Tryz.f289))))))))))) (g289L65430E0 j p0 v3 v5) (g289L65430S0 p0 v3 v5) (frameQ Tryz.prog 0 (FinQ Tryz.prog 0 Tryz.f289 (ai r) [] 0) [.blk 0,.seq (rgt (rgt (rgt (rgt (rgt (rgt (rgt (bod Tryz.f289))))))))]))):=by
 intro qq
 induction qq with
 | zero =>
  exact fun _ _ _ _ h => nn h
 | succ qq ih =>
  intro p0 v3 v5 r h
  rw [e289L65430] at h
  rcases spl h with ⟨h8,h⟩ | ⟨h8,h⟩
  obtain ⟨x9,h10,h⟩:=obind h
  exact fun j => lH 4 [] [] [] [0,3,5] (oA 1 (ixStr9 h10) <| oB 1 h8 o0) (ih _ _ _ _ h)
  obtain ⟨r11,h12,h⟩:=obind h
  have k:=oB 1 h8 o0
  rcases spl h with ⟨h13,h⟩ | ⟨h13,h⟩
  obtain ⟨r14,h15,h⟩:=obind h
  have k:=oC 1 [] (c313 h15) <| oK 0 [] h13 (c257 h12) k
  rcases spl h with ⟨h16,h⟩ | ⟨h16,h⟩
  obtain rfl:=sj h
  exact fun j => lF 0 [] (oB 0 h16 k)
  obtain rfl:=sj h
  exact fun j => lF 0 [] (oB 0 h16 k)
  obtain rfl:=sj h
  exact fun j => lF 1 [] (oK 0 [] h13 (c257 h12) k)
theorem c289 {qq p0 r} (h:e289 qq p0 = some r):K289 p0 r Ct:=by
 unfold e289 at h
 rcases spl h with ⟨h1,h⟩ | ⟨h1,h⟩
 obtain rfl:=sj h
 exact k289 (tF q289 0 [] (oB 1 h1 o0))
 obtain ⟨x2,h3,h⟩:=obind h
 have k:=oA 0 (ixStr9 h3) <| oB 1 h1 o0
 rcases spl h with ⟨h4,h⟩ | ⟨h4,h⟩
 obtain ⟨x5,h6,h⟩:=obind h
 have k:=oA 1 (ix34 (o:=.full) h6) <| oB 3 h4 k
 rcases spl h with ⟨h7,h⟩ | ⟨h7,h⟩
 obtain rfl:=sj h
 exact k289 (tF q289 0 [] (oB 2 h7 k))
 exact k289 (tH q289 0 [] [] [] [0,3,5] (oB 2 h7 k) (l289L65430 _ _ _ _ _ h))
 have k:=oB 3 h4 k
 rcases spl h with ⟨h8,h⟩ | ⟨h8,h⟩
 obtain rfl:=sj h
 exact k289 (tF q289 0 [] (oB 0 h8 k))
 exact k289 (tH q289 0 [] [] [] [0,3,5] (oB 0 h8 k) (l289L65430 _ _ _ _ _ h))
def e256L12605:Nat → ByteArray → Int → Int → Option (Int × Int × Bool)
 | 0,_,_,_ => none
 | qq + 1,p0,p1,v7 =>
 if decide (v7 ≤ 4) then
 if decide (v7 ≤ (w64 ((p0.size:Int) - p1))) then
 gsub p0 p1 (w64 (p1 + v7)) >>= fun x5 =>
 e289 qq x5 >>= fun r7 =>
 if decide (r7 ≥ 0) then
 some (r7,v7,true)
 else
 e256L12605 qq p0 p1 (w64 (v7 + 1))
 else
 some (0,0,false)
 else
 some (0,0,false)
def e256 (qq:Nat) (p0:ByteArray) (p1:Int):Option (Int × Int × Bool) :=
 if decide (p1 < 0) then
 some (0,0,false)
 else
 if decide (p1 ≥ (p0.size:Int)) then
 some (0,0,false)
 else
 e256L12605 qq p0 p1 1
def g256L12605E0 (j:Nat → Value) (p0:ByteArray) (p1 v7:Int):=sp j 40 0 [(0,at' p0),(1,ai p1),(7,ai v7)]
def g256L12605S0 (p0:ByteArray) (p1 v7:Int):LSt:=⟨[],0,[],0,[]⟩
abbrev K256 (p0:ByteArray) (p1:Int) (r:Int × Int × Bool) (C:Cf):Prop:=C 256 [] [at' p0,ai p1] (.tup [ai r.1,ai r.2.1,ab r.2.2]) [] 0
theorem q256:Qf 256 Tryz.f256:=⟨Tryz.func256,by kernel_rfl⟩
theorem k256 {p0 p1 r} (h:K256 p0 p1 r Ci):K256 p0 p1 r Ct:=⟨h,⟨tv,tv,tv⟩,forall_nil,⟨tv,tv,tv,tv⟩,forall_nil⟩
theorem l256L12605:∀ qq:Nat,(∀ p0 p1 v7 r,e256L12605 qq p0 p1 v7 = some r → (∀ j,Dl Tryz.prog 0 (inn (inn (rgt (lft (rgt (rgt (bod Tryz.f256))))))) (g256L12605E0 j p0 p1 v7) (g256L12605S0 p0 p1 v7) (frameQ Tryz.prog 0 (FinQ Tryz.prog 0 Tryz.f256 (.tup [ai r.1,ai r.2.1,ab r.2.2]) [] 0) [.blk 0,.seq (rgt (rgt (rgt (bod Tryz.f256))))]))):=by
 intro qq
 induction qq with
 | zero =>
  exact fun _ _ _ _ h => nn h
 | succ qq ih =>
  intro p0 p1 v7 r h
  rw [e256L12605] at h
  rcases spl h with ⟨h3,h⟩ | ⟨h3,h⟩
  have k:=oB 0 h3 o0
  rcases spl h with ⟨h4,h⟩ | ⟨h4,h⟩
  obtain ⟨x5,h6,h⟩:=obind h
  obtain ⟨r7,h8,h⟩:=obind h
  have k:=oC 0 [] (c289 h8) <| oA 1 (slStr9 h6) <| oB 2 h4 k
  rcases spl h with ⟨h9,h⟩ | ⟨h9,h⟩
  obtain rfl:=sj h
  exact fun j => lF 0 [] (oB 0 h9 k)
  exact fun j => lH 1 [] [] [] [0,1,7] (oB 0 h9 k) (ih _ _ _ _ h)
  obtain rfl:=sj h
  exact fun j => lF 0 [] (oB 2 h4 k)
  obtain rfl:=sj h
  exact fun j => lF 0 [] (oB 0 h3 o0)
theorem c256 {qq p0 p1 r} (h:e256 qq p0 p1 = some r):K256 p0 p1 r Ct:=by
 unfold e256 at h
 rcases spl h with ⟨h1,h⟩ | ⟨h1,h⟩
 obtain rfl:=sj h
 exact k256 (tF q256 0 [] (oB 0 h1 o0))
 have k:=oB 0 h1 o0
 rcases spl h with ⟨h2,h⟩ | ⟨h2,h⟩
 obtain rfl:=sj h
 exact k256 (tF q256 0 [] (oB 1 h2 k))
 exact k256 (tH q256 0 [] [] [] [0,1,7] (oB 1 h2 k) (l256L12605 _ _ _ _ _ h))
def dvT : Nat → Int → Int
  | 0, x => x
  | m + 1, x => dvT m (x / 64)
theorem ev_tailI (n : Int) (out : List Int) (i : Nat) (hi : i ≤ 4) (ho : out.length ≤ 10) {r : List Int} : ∀ (m k : Nat) (x : Int), k + m = i → 0 ≤ x → x ≤ 1114111 → Evt (fun q => e341L34731 q n (out ++ [128 + dvT m x % 64]) ((i : Int) - 1)) r → Evt (fun q => e341L6854 q n out (i : Int) x (k : Int)) r
  | 0, k, x, hk, h0, h1, h => by
    refine Evt.succ ?_
    simp only [e341L6854]
    have e : IntKind.u8.wrap (w64 (128 + Int.tmod x 64)) = 128 + dvT 0 x % 64 := by
      rw [Int.tmod_eq_emod_of_nonneg h0, w64_id (by omega) (by omega), u8_id (by omega) (by omega)]; rfl
    rw [e]
    refine Evt.ifF (decide_eq_false (by omega)) (Evt.pure (gapp_ok (by simp; omega)) ?_)
    rw [w64_id (by omega) (by omega)]
    exact h
  | m + 1, k, x, hk, h0, h1, h => by
    refine Evt.succ ?_
    simp only [e341L6854]
    have e : w64 (Int.tdiv x 64) = x / 64 := by rw [Int.tdiv_eq_ediv_of_nonneg h0, w64_id (by omega) (by omega)]
    rw [e, w64_nat k (by omega)]
    exact Evt.ifT (decide_eq_true (by omega)) (ev_tailI n out i hi ho m (k + 1) (x / 64) (by omega) (by omega) (by omega) h)
theorem ev_tailN (n : Int) (out : List Int) : Evt (fun q => e341L34731 q n out (-1)) out := by
  refine Evt.succ ?_
  simp only [e341L34731]
  exact Evt.ifF rfl Evt.ret
theorem ev_tailS (n : Int) (h0 : 0 ≤ n) (h1 : n ≤ 1114111) (out : List Int) (i : Nat) (hi : i ≤ 4) (ho : out.length ≤ 10) {r : List Int} (h : Evt (fun q => e341L34731 q n (out ++ [128 + dvT i n % 64]) ((i : Int) - 1)) r) : Evt (fun q => e341L34731 q n out (i : Int)) r := by
  refine Evt.succ ?_
  simp only [e341L34731]
  exact Evt.ifT (decide_eq_true (by omega)) (ev_tailI n out i hi ho i 0 n (by omega) h0 h1 h)
theorem ev_Put {n : Int} (h0 : 0 ≤ n) (h1 : n ≤ 1114111) : Evt (fun q => e313 q n) (gstr (putT n)) := by
  have t1 : Evt (fun q => e341 q n 1) [128 + n % 64] := by
    simp only [e341]
    exact ev_tailS n h0 h1 [] 0 (by omega) (by simp) (ev_tailN n _)
  have t2 : Evt (fun q => e341 q n 2) [128 + n / 64 % 64, 128 + n % 64] := by
    simp only [e341]
    exact ev_tailS n h0 h1 [] 1 (by omega) (by simp) (ev_tailS n h0 h1 _ 0 (by omega) (by simp) (ev_tailN n _))
  have t3 : Evt (fun q => e341 q n 3) [128 + n / 64 / 64 % 64, 128 + n / 64 % 64, 128 + n % 64] := by
    simp only [e341]
    exact ev_tailS n h0 h1 [] 2 (by omega) (by simp) (ev_tailS n h0 h1 _ 1 (by omega) (by simp) (ev_tailS n h0 h1 _ 0 (by omega) (by simp) (ev_tailN n _)))
  have e0 : n < 256 → IntKind.u8.wrap n = n := fun h => u8_id h0 h
  have e1 : n < 2048 → IntKind.u8.wrap (w64 (192 + w64 (Int.tdiv n 64))) = 192 + n / 64 := fun h => by
    rw [Int.tdiv_eq_ediv_of_nonneg h0, w64_id (x := n / 64) (by omega) (by omega), w64_id (by omega) (by omega), u8_id (by omega) (by omega)]
  have e2 : n < 65536 → IntKind.u8.wrap (w64 (224 + w64 (Int.tdiv n 4096))) = 224 + n / 4096 := fun h => by
    rw [Int.tdiv_eq_ediv_of_nonneg h0, w64_id (x := n / 4096) (by omega) (by omega), w64_id (by omega) (by omega), u8_id (by omega) (by omega)]
  have e3 : IntKind.u8.wrap (w64 (240 + w64 (Int.tdiv n 262144))) = 240 + n / 262144 := by
    rw [Int.tdiv_eq_ediv_of_nonneg h0, w64_id (x := n / 262144) (by omega) (by omega), w64_id (by omega) (by omega), u8_id (by omega) (by omega)]
  simp only [e313]
  unfold putT
  by_cases h2 : n < 128
  · rw [if_pos h2, e0 (by omega)]; exact Evt.ifT (decide_eq_true h2) Evt.ret
  · rw [if_neg h2]
    refine Evt.ifF (decide_eq_false h2) ?_
    by_cases h3 : n < 2048
    · rw [if_pos h3, e1 h3]; exact Evt.ifT (decide_eq_true h3) (t1.bind (Evt.pure (gapp_ok (by simp)) Evt.ret))
    · rw [if_neg h3]
      refine Evt.ifF (decide_eq_false h3) ?_
      by_cases h4 : n < 65536
      · rw [if_pos h4, e2 h4]; exact Evt.ifT (decide_eq_true h4) (t2.bind (Evt.pure (gapp_ok (by simp)) Evt.ret))
      · rw [if_neg h4, e3]; exact Evt.ifF (decide_eq_false h4) (t3.bind (Evt.pure (gapp_ok (by simp)) Evt.ret))
theorem put_bytes {n : Int} (h0 : 0 ≤ n) (h1 : n ≤ 1114111) : ∀ c ∈ putT n, 0 ≤ c ∧ c < 256 := by
  unfold putT
  intro c hc
  split at hc
  · simp at hc; omega
  · split at hc
    · simp at hc; omega
    · split at hc
      · simp at hc; omega
      · simp at hc; omega
def firT (m : Nat) : Int := if m = 2 then 192 else if m = 3 then 224 else if m = 4 then 240 else 0
def accT : Int → List Int → Int
  | n, [] => n
  | n, d :: r => accT (n * 64 + d - 128) r
def numT : List Int → Int
  | [] => -1
  | c :: r => if c - firT (r.length + 1) < 0 then -1 else if sgnT (accT (c - firT (r.length + 1)) r) = true ∧ putT (accT (c - firT (r.length + 1)) r) = c :: r then accT (c - firT (r.length + 1)) r else -1
theorem num_some {l : List Int} (h : 0 ≤ numT l) : sgnT (numT l) = true ∧ putT (numT l) = l := by
  cases l with
  | nil => rw [numT] at h; omega
  | cons c r =>
    rw [numT] at h ⊢
    split at h
    · omega
    · rename_i h1
      rw [if_neg h1]
      split at h
      · rename_i h2; rw [if_pos h2]; exact h2
      · omega
theorem num_put {n : Int} (h : sgnT n = true) : numT (putT n) = n := by
  have h' := of_decide_eq_true h
  have key : ∀ c r, putT n = c :: r → accT (c - firT (r.length + 1)) r = n → 0 ≤ c - firT (r.length + 1) → numT (putT n) = n := fun c r h1 h2 h3 => by
    rw [h1, numT, if_neg (by omega), h2, if_pos ⟨h, h1⟩]
  by_cases h1 : n < 128
  · exact key n [] (by unfold putT; rw [if_pos h1]) (by simp [firT, accT]) (by simp [firT]; omega)
  · by_cases h2 : n < 2048
    · exact key _ _ (by unfold putT; rw [if_neg h1, if_pos h2]) (by simp only [List.length_cons, List.length_nil, firT, accT]; simp; omega) (by simp [firT]; omega)
    · by_cases h3 : n < 65536
      · exact key _ _ (by unfold putT; rw [if_neg h1, if_neg h2, if_pos h3]) (by simp only [List.length_cons, List.length_nil, firT, accT]; simp; omega) (by simp [firT]; omega)
      · exact key _ _ (by unfold putT; rw [if_neg h1, if_neg h2, if_neg h3]) (by simp only [List.length_cons, List.length_nil, firT, accT]; simp; omega) (by simp [firT]; omega)
def bndT (i : Nat) : Int := if i ≤ 1 then 256 else if i = 2 then 17000 else if i = 3 then 1100000 else 71000000
theorem ev_numberL (s : ByteArray) (hs : s.size ≤ 4) : ∀ (m i : Nat) (n : Int), i + m = s.size → 1 ≤ i → -bndT i ≤ n → n ≤ bndT i →
    Evt (fun q => e289L65430 q s n (i : Int)) (if sgnT (accT n ((bs s).drop i)) = true ∧ putT (accT n ((bs s).drop i)) = bs s then accT n ((bs s).drop i) else -1)
  | 0, i, n, hm, hi, h0, h1 => by
    refine Evt.succ ?_
    simp only [e289L65430]
    rw [List.drop_eq_nil_of_le (by rw [bs_len]; omega), accT]
    refine Evt.ifF (decide_eq_false (by omega)) ((ev_sgnR n).bind ?_)
    by_cases hr : sgnT n = true
    · have hr' := of_decide_eq_true hr
      refine Evt.ifT hr ((ev_Put (by omega) (by omega)).bind ?_)
      have e : ((gstr (putT n)).toList == s.toList) = decide (putT n = bs s) := by
        rw [bs_eq, gstr_bs _ (put_bytes (by omega) (by omega))]
      rw [e]
      by_cases hp : putT n = bs s
      · exact (Evt.ifF (by simp [hp]) Evt.ret).eq (by rw [if_pos ⟨hr, hp⟩])
      · exact (Evt.ifT (by simp [hp]) Evt.ret).eq (by rw [if_neg (fun h => hp h.2)])
    · exact (Evt.ifF (by simpa using hr) Evt.ret).eq (by rw [if_neg (fun h => hr h.1)])
  | m + 1, i, n, hm, hi, h0, h1 => by
    have hlt : i < (bs s).length := by rw [bs_len]; omega
    have hc := bs_mem (List.getElem_mem hlt)
    have hd : (bs s).drop i = (bs s)[i] :: (bs s).drop (i + 1) := List.drop_eq_getElem_cons hlt
    refine Evt.succ ?_
    simp only [e289L65430]
    have hg : gbyte s (i : Int) = some (bs s)[i] := by rw [gbyte_bs s (by omega), Int.toNat_natCast]; exact List.getElem?_eq_getElem hlt
    refine Evt.ifT (decide_eq_true (by omega)) (Evt.pure hg ?_)
    rw [hd, accT]
    generalize (bs s)[i] = c at *
    have hb : -71000000 ≤ n ∧ n ≤ 71000000 := by unfold bndT at h0 h1; split at h0 <;> (try split at h0) <;> (try split at h0) <;> omega
    rw [w64_id (x := n * 64) (by omega) (by omega), w64_id (x := c) (by omega) (by omega), w64_id (x := n * 64 + c) (by omega) (by omega), w64_id (x := n * 64 + c - 128) (by omega) (by omega), w64_nat i (by omega)]
    have hi3 : i = 1 ∨ i = 2 ∨ i = 3 := by omega
    refine ev_numberL s hs m (i + 1) _ (by omega) (by omega) ?_ ?_
    · rcases hi3 with rfl | rfl | rfl <;> simp [bndT] at h0 h1 ⊢ <;> omega
    · rcases hi3 with rfl | rfl | rfl <;> simp [bndT] at h0 h1 ⊢ <;> omega
theorem ev_number (s : ByteArray) (hs : s.size ≤ 4) (h1 : 1 ≤ s.size) : Evt (fun q => e289 q s) (numT (bs s)) := by
  have hlen := bs_len s
  have hlt : 0 < (bs s).length := by omega
  have hc := bs_mem (List.getElem_mem hlt)
  have hd : bs s = (bs s)[0] :: (bs s).drop 1 := by
    have := List.drop_eq_getElem_cons hlt
    simpa using this
  have hl1 : ((bs s).drop 1).length + 1 = s.size := by rw [List.length_drop]; omega
  simp only [e289]
  have hg : gbyte s 0 = some (bs s)[0] := by rw [gbyte_bs s (by omega)]; exact List.getElem?_eq_getElem hlt
  refine Evt.ifF (beq_eq_false_iff_ne.2 (by omega)) (Evt.pure hg ?_)
  have hN : numT (bs s) = if (bs s)[0] - firT s.size < 0 then -1 else if sgnT (accT ((bs s)[0] - firT s.size) ((bs s).drop 1)) = true ∧ putT (accT ((bs s)[0] - firT s.size) ((bs s).drop 1)) = bs s then accT ((bs s)[0] - firT s.size) ((bs s).drop 1) else -1 := by
    conv => lhs; rw [hd, numT]
    rw [hl1, ← hd]
  rw [hN]
  have hL := ev_numberL s hs (s.size - 1) 1
  generalize (bs s)[0] = c at *
  by_cases h2 : 1 < s.size
  · have hf : gidx [0, 0, 192, 224, 240] (s.size : Int) = some (firT s.size) := by
      rcases (by omega : s.size = 2 ∨ s.size = 3 ∨ s.size = 4) with e | e | e <;> rw [e] <;> rfl
    have hfb : 0 ≤ firT s.size ∧ firT s.size ≤ 240 := by unfold firT; split <;> (try split) <;> (try split) <;> omega
    refine Evt.ifT (decide_eq_true (by omega)) (Evt.pure hf ?_)
    rw [w64_id (x := c) (by omega) (by omega), w64_id (by omega) (by omega)]
    by_cases h3 : c - firT s.size < 0
    · exact (Evt.ifT (decide_eq_true h3) Evt.ret).eq (by rw [if_pos h3])
    · refine (Evt.ifF (decide_eq_false h3) ?_).eq (by rw [if_neg h3])
      exact hL _ (by omega) (by omega) (by simp [bndT]; omega) (by simp [bndT]; omega)
  · have hs1 : firT s.size = 0 := by rw [show s.size = 1 by omega]; rfl
    refine Evt.ifF (decide_eq_false (by omega)) ?_
    rw [w64_id (x := c) (by omega) (by omega), hs1, Int.sub_zero]
    refine (Evt.ifF (decide_eq_false (by omega)) ?_).eq (by rw [if_neg (by omega)])
    exact hL _ (by omega) (by omega) (by simp [bndT]; omega) (by simp [bndT]; omega)
def nxtR (o : Option (Int × Nat)) : Int × Int × Bool := match o with
  | some (n, w) => (n, (w : Int), true)
  | none => (0, 0, false)
theorem dec_num {l : List Int} {w : Nat} (hl : w ≤ l.length) (h : 0 ≤ numT (l.take w)) : decT l = some (numT (l.take w), w) := by
  obtain ⟨h1, h2⟩ := num_some h
  have h3 := dec_put h1 (l.drop w)
  have h4 : (putT (numT (l.take w))).length = w := by rw [h2, List.length_take]; omega
  rw [h4] at h3
  rw [h2, List.take_append_drop] at h3
  exact h3
theorem num_dec {l : List Int} {n : Int} {w : Nat} (hb : ∀ c ∈ l, 0 ≤ c ∧ c < 256) (h : decT l = some (n, w)) : 1 ≤ w ∧ w ≤ 4 ∧ w ≤ l.length ∧ numT (l.take w) = n ∧ 0 ≤ n := by
  obtain ⟨h1, h2, h3⟩ := dec_some hb h
  have h4 : 1 ≤ w ∧ w ≤ 4 := by rw [h2, put_len]; unfold widT; split <;> (try split) <;> (try split) <;> omega
  have h5 : w ≤ l.length := by rw [h3, List.length_append]; omega
  have h6 : l.take w = putT n := by rw [h3, h2]; simp
  exact ⟨h4.1, h4.2, h5, by rw [h6]; exact num_put h1, (of_decide_eq_true h1).1⟩
theorem ev_rNextL (s : ByteArray) (a : Nat) (hs : s.size ≤ 65535) (ha : a < s.size) : ∀ (m w : Nat), w + m = 5 → 1 ≤ w → (∀ v, 1 ≤ v → v < w → v ≤ ((bs s).drop a).length → numT (((bs s).drop a).take v) < 0) → Evt (fun q => e256L12605 q s (a : Int) (w : Int)) (nxtR (decT ((bs s).drop a)))
  | 0, w, hm, hw, hb => by
    have hmem : ∀ c ∈ (bs s).drop a, 0 ≤ c ∧ c < 256 := fun c hc => bs_mem (List.mem_of_mem_drop hc)
    refine Evt.succ ?_
    simp only [e256L12605]
    have hn : decT ((bs s).drop a) = none := by
      cases hx : decT ((bs s).drop a) with
      | none => rfl
      | some x => obtain ⟨h1, h2, h3, h4, h5⟩ := num_dec hmem (n := x.1) (w := x.2) hx; have := hb x.2 h1 (by omega) h3; omega
    rw [hn]
    exact Evt.ifF (decide_eq_false (by omega)) Evt.ret
  | m + 1, w, hm, hw, hb => by
    have hmem : ∀ c ∈ (bs s).drop a, 0 ≤ c ∧ c < 256 := fun c hc => bs_mem (List.mem_of_mem_drop hc)
    have hdl : ((bs s).drop a).length = s.size - a := by rw [List.length_drop, bs_len]
    refine Evt.succ ?_
    simp only [e256L12605]
    refine Evt.ifT (decide_eq_true (by omega)) ?_
    rw [w64_id (x := (s.size : Int) - a) (by omega) (by omega)]
    by_cases hl : w ≤ s.size - a
    · refine Evt.ifT (decide_eq_true (by omega)) ?_
      obtain ⟨x, hx, hxb⟩ := gsub_bs s (a := a) (b := a + w) (by omega) (by omega)
      rw [w64_id (x := (a : Int) + w) (by omega) (by omega), show (a : Int) + w = ((a + w : Nat) : Int) by omega]
      rw [Nat.add_sub_cancel_left] at hxb
      have hxs : x.size = w := by rw [← bs_len, hxb, List.length_take]; omega
      refine Evt.pure hx ((ev_number x (by omega) (by omega)).bind ?_)
      rw [hxb]
      by_cases hn : 0 ≤ numT (((bs s).drop a).take w)
      · rw [dec_num (by omega) hn]
        exact Evt.ifT (decide_eq_true (by omega)) Evt.ret
      · refine Evt.ifF (decide_eq_false (by omega)) ?_
        rw [w64_nat w (by omega)]
        refine ev_rNextL s a hs ha m (w + 1) (by omega) (by omega) fun v h1 h2 h3 => ?_
        by_cases e : v = w
        · subst e; omega
        · exact hb v h1 (by omega) h3
    · have hn : decT ((bs s).drop a) = none := by
        cases hx : decT ((bs s).drop a) with
        | none => rfl
        | some x => obtain ⟨h1, h2, h3, h4, h5⟩ := num_dec hmem (n := x.1) (w := x.2) hx; have := hb x.2 h1 (by omega) h3; omega
      rw [hn]
      exact Evt.ifF (decide_eq_false (by omega)) Evt.ret
theorem ev_rNext (s : ByteArray) (a : Nat) (hs : s.size ≤ 65535) (ha : a < s.size) : Evt (fun q => e256 q s (a : Int)) (nxtR (decT ((bs s).drop a))) := by
  simp only [e256]
  exact Evt.ifF (decide_eq_false (by omega)) (Evt.ifF (decide_eq_false (by omega)) (ev_rNextL s a hs ha 4 1 (by omega) (by omega) fun v h1 h2 => by omega))
def e209L56128:Nat → ByteArray → (List Int) → Int → Option (List Int × Int × Int)
 | 0,_,_,_ => none
 | qq + 1,p0,v5,v6 =>
 if decide (v6 < (p0.size:Int)) then
 e256 qq p0 v6 >>= fun r3 =>
 if r3.2.2 then
 gapp 8 v5 [r3.1] >>= fun l6 =>
 e209L56128 qq p0 l6 (w64 (v6 + r3.2.1))
 else
 some ([],v6,1)
 else
 some (v5,(p0.size:Int),0)
def e209 (qq:Nat) (p0:ByteArray):Option (List Int × Int × Int) :=
 if decide ((p0.size:Int) > 65535) then
 some ([],0,2)
 else
 e209L56128 qq p0 [] 0
def g209L56128E0 (j:Nat → Value) (p0:ByteArray) (v5:List Int) (v6:Int):=sp j 38 0 [(0,at' p0),(5,slv intC v5 (.st 0 1)),(6,ai v6)]
def g209L56128S0 (p0:ByteArray) (v5:List Int) (v6:Int):LSt:=⟨[],0,[0],1,[]⟩
abbrev K209 (p0:ByteArray) (r:List Int × Int × Int) (C:Cf):Prop:=C 209 [] [at' p0] (.tup [.sl (flat intC r.1) (List.length r.1) .no,ai r.2.1,ai r.2.2]) [] 0
theorem q209:Qf 209 Tryz.f209:=⟨Tryz.func209,by kernel_rfl⟩
theorem k209 {p0 r} (h:K209 p0 r Ci):K209 p0 r Ct:=⟨h,⟨tv,tv⟩,forall_nil,⟨dI _,tv,tv,tv⟩,forall_nil⟩
theorem l209L56128:∀ qq:Nat,(∀ p0 v5 v6 r,e209L56128 qq p0 v5 v6 = some r → (∀ j,Dl Tryz.prog 0 (inn (inn (lft (rgt (rgt (rgt (rgt (bod Tryz.f209)))))))) (g209L56128E0 j p0 v5 v6) (g209L56128S0 p0 v5 v6) (frameQ Tryz.prog 0 (FinQ Tryz.prog 0 Tryz.f209 (.tup [.sl (flat intC r.1) (List.length r.1) .no,ai r.2.1,ai r.2.2]) [] 0) [.blk 0,.seq (rgt (rgt (rgt (rgt (rgt (bod Tryz.f209))))))]))):=by
 intro qq
 induction qq with
 | zero =>
  exact fun _ _ _ _ h => nn h
 | succ qq ih =>
  intro p0 v5 v6 r h
  rw [e209L56128] at h
  rcases spl h with ⟨h2,h⟩ | ⟨h2,h⟩
  obtain ⟨r3,h4,h⟩:=obind h
  have k:=oC 0 [] (c256 h4) <| oB 1 h2 o0
  rcases spl h with ⟨h5,h⟩ | ⟨h5,h⟩
  obtain ⟨l6,h7,h⟩:=obind h
  exact fun j => lH 1 [] [] [1] [0,5,6] (oD (dI l6) <| oP 2 (apS34 h7 (by simp)) <| oB 2 h5 k) (ih _ _ _ _ h)
  obtain rfl:=sj h
  exact fun j => lF 1 [] (oD (dI ([]:List Int)) <| oB 2 h5 k)
  obtain rfl:=sj h
  exact fun j => lF 1 [] (oD (dI v5) <| oB 1 h2 o0)
theorem c209 {qq p0 r} (h:e209 qq p0 = some r):K209 p0 r Ct:=by
 unfold e209 at h
 rcases spl h with ⟨h1,h⟩ | ⟨h1,h⟩
 obtain rfl:=sj h
 exact k209 (tF q209 0 [] (oD (dI ([]:List Int)) <| oB 1 h1 o0))
 exact k209 (tH q209 1 [(none,5,1)] [] [0] [0,5,6] (oD (dI ([]:List Int)) <| oB 1 h1 o0) (l209L56128 _ _ _ _ _ h))
def e290L55492:Nat → (List Int) → Int → Int → Option (Bool)
 | 0,_,_,_ => none
 | qq + 1,p0,p1,v5 =>
 if decide (v5 < (List.length p0:Int)) then
 gidx p0 v5 >>= fun x2 =>
 if x2 == p1 then
 some true
 else
 e290L55492 qq p0 p1 (w64 (v5 + 1))
 else
 some false
def e290 (qq:Nat) (p0:List Int) (p1:Int):Option (Bool) :=
 e290L55492 qq p0 p1 0
def g290L55492E0 (j:Nat → Value) (p0:List Int) (p1 v5:Int):=sp j 18 0 [(0,slv intC p0 .no),(1,ai p1),(5,ai v5)]
def g290L55492S0 (p0:List Int) (p1 v5:Int):LSt:=⟨[],0,[],0,[]⟩
abbrev K290 (p0:List Int) (p1:Int) (r:Bool) (C:Cf):Prop:=C 290 [] [slv intC p0 .no,ai p1] (ab r) [] 0
theorem q290:Qf 290 Tryz.f290:=⟨Tryz.func290,by kernel_rfl⟩
theorem k290 {p0 p1 r} (h:K290 p0 p1 r Ci):K290 p0 p1 r Ct:=⟨h,⟨⟨tv,dI _⟩,tv,tv⟩,forall_nil,tv,forall_nil⟩
theorem l290L55492:∀ qq:Nat,(∀ p0 p1 v5 r,e290L55492 qq p0 p1 v5 = some r → (∀ j,Dl Tryz.prog 0 (inn (inn (rgt (lft (rgt (bod Tryz.f290)))))) (g290L55492E0 j p0 p1 v5) (g290L55492S0 p0 p1 v5) (frameQ Tryz.prog 0 (FinQ Tryz.prog 0 Tryz.f290 (ab r) [] 0) [.blk 0,.seq (rgt (rgt (bod Tryz.f290)))]))):=by
 intro qq
 induction qq with
 | zero =>
  exact fun _ _ _ _ h => nn h
 | succ qq ih =>
  intro p0 p1 v5 r h
  rw [e290L55492] at h
  rcases spl h with ⟨h1,h⟩ | ⟨h1,h⟩
  obtain ⟨x2,h3,h⟩:=obind h
  have k:=oA 0 (ix34 (o:=.no) h3) <| oB 1 h1 o0
  rcases spl h with ⟨h4,h⟩ | ⟨h4,h⟩
  obtain rfl:=sj h
  exact fun j => lF 0 [] (oB 1 h4 k)
  exact fun j => lH 1 [] [] [] [0,1,5] (oD (dI p0) <| oB 1 h4 k) (ih _ _ _ _ h)
  obtain rfl:=sj h
  exact fun j => lF 0 [] (oB 1 h1 o0)
theorem c290 {qq p0 p1 r} (h:e290 qq p0 p1 = some r):K290 p0 p1 r Ct:=by
 unfold e290 at h
 exact k290 (tH q290 0 [] [] [] [0,1,5] (oD (dI p0) o0) (l290L55492 _ _ _ _ _ h))
def e258 (qq:Nat) (p0:Int):Option (Bool) :=
 e290 qq [40,41,123,125,58,61,46,44,59,124,92,955,8594,45,62] p0 >>= fun r1 =>
 some r1
abbrev K258 (p0:Int) (r:Bool) (C:Cf):Prop:=C 258 [] [ai p0] (ab r) [] 0
theorem q258:Qf 258 Tryz.f258:=⟨Tryz.func258,by kernel_rfl⟩
theorem k258 {p0 r} (h:K258 p0 r Ci):K258 p0 r Ct:=⟨h,⟨tv,tv⟩,forall_nil,tv,forall_nil⟩
theorem c258 {qq p0 r} (h:e258 qq p0 = some r):K258 p0 r Ct:=by
 unfold e258 at h
 obtain ⟨r1,h2,h⟩:=obind h
 obtain rfl:=sj h
 exact k258 (tF q258 0 [] (oC 1 [] (c290 h2) o0))
def e211 (qq:Nat) (p0:Int):Option (Bool) :=
 if decide (p0 ≥ 97) then
 if decide (p0 ≤ 122) then
 some true
 else
 if decide (p0 ≥ 65) then
 if decide (p0 ≤ 90) then
 some true
 else
 if decide (p0 ≥ 128) then
 e257 qq p0 >>= fun r6 =>
 if r6 then
 e258 qq p0 >>= fun r9 =>
 if r9 then
 some false
 else
 if p0 != 160 then
 if decide (p0 ≥ 8192) then
 some (!(decide (p0 ≤ 8303)))
 else
 some true
 else
 some false
 else
 some false
 else
 some false
 else
 if decide (p0 ≥ 128) then
 e257 qq p0 >>= fun r15 =>
 if r15 then
 e258 qq p0 >>= fun r18 =>
 if r18 then
 some false
 else
 if p0 != 160 then
 if decide (p0 ≥ 8192) then
 some (!(decide (p0 ≤ 8303)))
 else
 some true
 else
 some false
 else
 some false
 else
 some false
 else
 if decide (p0 ≥ 65) then
 if decide (p0 ≤ 90) then
 some true
 else
 if decide (p0 ≥ 128) then
 e257 qq p0 >>= fun r26 =>
 if r26 then
 e258 qq p0 >>= fun r29 =>
 if r29 then
 some false
 else
 if p0 != 160 then
 if decide (p0 ≥ 8192) then
 some (!(decide (p0 ≤ 8303)))
 else
 some true
 else
 some false
 else
 some false
 else
 some false
 else
 if decide (p0 ≥ 128) then
 e257 qq p0 >>= fun r35 =>
 if r35 then
 e258 qq p0 >>= fun r38 =>
 if r38 then
 some false
 else
 if p0 != 160 then
 if decide (p0 ≥ 8192) then
 some (!(decide (p0 ≤ 8303)))
 else
 some true
 else
 some false
 else
 some false
 else
 some false
abbrev K211 (p0:Int) (r:Bool) (C:Cf):Prop:=C 211 [] [ai p0] (ab r) [] 0
theorem q211:Qf 211 Tryz.f211:=⟨Tryz.func211,by kernel_rfl⟩
theorem k211 {p0 r} (h:K211 p0 r Ci):K211 p0 r Ct:=⟨h,⟨tv,tv⟩,forall_nil,tv,forall_nil⟩
theorem c211 {qq p0 r} (h:e211 qq p0 = some r):K211 p0 r Ct:=by
 unfold e211 at h
 rcases spl h with ⟨h1,h⟩ | ⟨h1,h⟩
 have k:=oB 0 h1 o0
 rcases spl h with ⟨h2,h⟩ | ⟨h2,h⟩
 obtain rfl:=sj h
 exact k211 (tF q211 0 [] (oB 0 h2 k))
 have k:=oB 0 h2 k
 rcases spl h with ⟨h3,h⟩ | ⟨h3,h⟩
 have k:=oB 0 h3 k
 rcases spl h with ⟨h4,h⟩ | ⟨h4,h⟩
 obtain rfl:=sj h
 exact k211 (tF q211 0 [] (oB 0 h4 k))
 have k:=oB 0 h4 k
 rcases spl h with ⟨h5,h⟩ | ⟨h5,h⟩
 obtain ⟨r6,h7,h⟩:=obind h
 have k:=oB 0 h5 k
 rcases spl h with ⟨h8,h⟩ | ⟨h8,h⟩
 obtain ⟨r9,h10,h⟩:=obind h
 have k:=oK 0 [] h8 (c257 h7) k
 rcases spl h with ⟨h11,h⟩ | ⟨h11,h⟩
 obtain rfl:=sj h
 exact k211 (tF q211 1 [] (oK 0 [] h11 (c258 h10) k))
 have k:=oK 0 [] h11 (c258 h10) k
 rcases spl h with ⟨h12,h⟩ | ⟨h12,h⟩
 have k:=oB 1 h12 k
 rcases spl h with ⟨h13,h⟩ | ⟨h13,h⟩
 obtain rfl:=sj h
 exact k211 (tF q211 2 [] (oB 0 h13 k))
 obtain rfl:=sj h
 exact k211 (tF q211 1 [] (oB 0 h13 k))
 obtain rfl:=sj h
 exact k211 (tF q211 0 [] (oB 1 h12 k))
 obtain rfl:=sj h
 exact k211 (tF q211 0 [] (oK 0 [] h8 (c257 h7) k))
 obtain rfl:=sj h
 exact k211 (tF q211 0 [] (oB 0 h5 k))
 have k:=oB 0 h3 k
 rcases spl h with ⟨h14,h⟩ | ⟨h14,h⟩
 obtain ⟨r15,h16,h⟩:=obind h
 have k:=oB 0 h14 k
 rcases spl h with ⟨h17,h⟩ | ⟨h17,h⟩
 obtain ⟨r18,h19,h⟩:=obind h
 have k:=oK 0 [] h17 (c257 h16) k
 rcases spl h with ⟨h20,h⟩ | ⟨h20,h⟩
 obtain rfl:=sj h
 exact k211 (tF q211 1 [] (oK 0 [] h20 (c258 h19) k))
 have k:=oK 0 [] h20 (c258 h19) k
 rcases spl h with ⟨h21,h⟩ | ⟨h21,h⟩
 have k:=oB 1 h21 k
 rcases spl h with ⟨h22,h⟩ | ⟨h22,h⟩
 obtain rfl:=sj h
 exact k211 (tF q211 2 [] (oB 0 h22 k))
 obtain rfl:=sj h
 exact k211 (tF q211 1 [] (oB 0 h22 k))
 obtain rfl:=sj h
 exact k211 (tF q211 0 [] (oB 1 h21 k))
 obtain rfl:=sj h
 exact k211 (tF q211 0 [] (oK 0 [] h17 (c257 h16) k))
 obtain rfl:=sj h
 exact k211 (tF q211 0 [] (oB 0 h14 k))
 have k:=oB 0 h1 o0
 rcases spl h with ⟨h23,h⟩ | ⟨h23,h⟩
 have k:=oB 0 h23 k
 rcases spl h with ⟨h24,h⟩ | ⟨h24,h⟩
 obtain rfl:=sj h
 exact k211 (tF q211 0 [] (oB 0 h24 k))
 have k:=oB 0 h24 k
 rcases spl h with ⟨h25,h⟩ | ⟨h25,h⟩
 obtain ⟨r26,h27,h⟩:=obind h
 have k:=oB 0 h25 k
 rcases spl h with ⟨h28,h⟩ | ⟨h28,h⟩
 obtain ⟨r29,h30,h⟩:=obind h
 have k:=oK 0 [] h28 (c257 h27) k
 rcases spl h with ⟨h31,h⟩ | ⟨h31,h⟩
 obtain rfl:=sj h
 exact k211 (tF q211 1 [] (oK 0 [] h31 (c258 h30) k))
 have k:=oK 0 [] h31 (c258 h30) k
 rcases spl h with ⟨h32,h⟩ | ⟨h32,h⟩
 have k:=oB 1 h32 k
 rcases spl h with ⟨h33,h⟩ | ⟨h33,h⟩
 obtain rfl:=sj h
 exact k211 (tF q211 2 [] (oB 0 h33 k))
 obtain rfl:=sj h
 exact k211 (tF q211 1 [] (oB 0 h33 k))
 obtain rfl:=sj h
 exact k211 (tF q211 0 [] (oB 1 h32 k))
 obtain rfl:=sj h
 exact k211 (tF q211 0 [] (oK 0 [] h28 (c257 h27) k))
 obtain rfl:=sj h
 exact k211 (tF q211 0 [] (oB 0 h25 k))
 have k:=oB 0 h23 k
 rcases spl h with ⟨h34,h⟩ | ⟨h34,h⟩
 obtain ⟨r35,h36,h⟩:=obind h
 have k:=oB 0 h34 k
 rcases spl h with ⟨h37,h⟩ | ⟨h37,h⟩
 obtain ⟨r38,h39,h⟩:=obind h
 have k:=oK 0 [] h37 (c257 h36) k
 rcases spl h with ⟨h40,h⟩ | ⟨h40,h⟩
 obtain rfl:=sj h
 exact k211 (tF q211 1 [] (oK 0 [] h40 (c258 h39) k))
 have k:=oK 0 [] h40 (c258 h39) k
 rcases spl h with ⟨h41,h⟩ | ⟨h41,h⟩
 have k:=oB 1 h41 k
 rcases spl h with ⟨h42,h⟩ | ⟨h42,h⟩
 obtain rfl:=sj h
 exact k211 (tF q211 2 [] (oB 0 h42 k))
 obtain rfl:=sj h
 exact k211 (tF q211 1 [] (oB 0 h42 k))
 obtain rfl:=sj h
 exact k211 (tF q211 0 [] (oB 1 h41 k))
 obtain rfl:=sj h
 exact k211 (tF q211 0 [] (oK 0 [] h37 (c257 h36) k))
 obtain rfl:=sj h
 exact k211 (tF q211 0 [] (oB 0 h34 k))
def e212 (qq:Nat) (p0:Int):Option (Bool) :=
 if decide (p0 ≥ 48) then
 some (decide (p0 ≤ 57))
 else
 some false
abbrev K212 (p0:Int) (r:Bool) (C:Cf):Prop:=C 212 [] [ai p0] (ab r) [] 0
theorem q212:Qf 212 Tryz.f212:=⟨Tryz.func212,by kernel_rfl⟩
theorem k212 {p0 r} (h:K212 p0 r Ci):K212 p0 r Ct:=⟨h,⟨tv,tv⟩,forall_nil,tv,forall_nil⟩
theorem c212 {qq p0 r} (h:e212 qq p0 = some r):K212 p0 r Ct:=by
 unfold e212 at h
 rcases spl h with ⟨h1,h⟩ | ⟨h1,h⟩
 obtain rfl:=sj h
 exact k212 (tF q212 1 [] (oB 0 h1 o0))
 obtain rfl:=sj h
 exact k212 (tF q212 0 [] (oB 0 h1 o0))
def sgsT : Nat → List Int → Option (List Int)
  | 0, _ => some []
  | _ + 1, [] => some []
  | m + 1, c :: r => match decT (c :: r) with
    | some (n, w) => (sgsT m ((c :: r).drop w)).map fun L => n :: L
    | none => none
theorem sgs_put : ∀ (m : Nat) (l L : List Int), (∀ c ∈ l, 0 ≤ c ∧ c < 256) → l.length ≤ m → sgsT m l = some L → l = L.flatMap putT
  | 0, l, L, _, hl, h => by
    rw [sgsT] at h; cases h
    cases l with
    | nil => rfl
    | cons _ _ => simp at hl
  | m + 1, [], L, _, _, h => by rw [sgsT] at h; cases h; rfl
  | m + 1, c :: r, L, hb, hl, h => by
    rw [sgsT] at h
    cases hd : decT (c :: r) with
    | none => rw [hd] at h; cases h
    | some x =>
      obtain ⟨n, w⟩ := x
      rw [hd] at h
      obtain ⟨L', hL, rfl⟩ := Option.map_eq_some_iff.1 h
      obtain ⟨h1, -, h3, -, -⟩ := num_dec hb hd
      have := sgs_put m ((c :: r).drop w) L' (fun x hx => hb x (List.mem_of_mem_drop hx)) (by rw [List.length_drop]; omega) hL
      rw [List.flatMap_cons, ← this]
      exact (dec_some hb hd).2.2
def AllIs (s : ByteArray) (acc : List Int) (m a : Nat) (f : Nat → Option (List Int × Int × Int)) : Prop :=
  (∃ L, sgsT m ((bs s).drop a) = some L ∧ Evt f (acc ++ L, (s.size : Int), 0)) ∨ (sgsT m ((bs s).drop a) = none ∧ ∃ i, Evt f ([], i, 1))
theorem sgs_nil (m : Nat) : sgsT m [] = some [] := by cases m <;> rw [sgsT]
theorem sgs_cons (m : Nat) {l : List Int} (h : l ≠ []) : sgsT (m + 1) l = match decT l with
    | some (n, w) => (sgsT m (l.drop w)).map fun L => n :: L
    | none => none := by
  cases l with
  | nil => exact absurd rfl h
  | cons c r => rw [sgsT]
theorem all_step {s : ByteArray} {acc : List Int} {m a w : Nat} {n : Int} {f g : Nat → Option (List Int × Int × Int)} (ha : a < s.size) (hd : decT ((bs s).drop a) = some (n, w)) (h : AllIs s (acc ++ [n]) m (a + w) f) (k : ∀ r, Evt f r → Evt g r) : AllIs s acc (m + 1) a g := by
  have hne : (bs s).drop a ≠ [] := fun e => by have := congrArg List.length e; rw [List.length_drop, bs_len] at this; simp at this; omega
  have e : sgsT (m + 1) ((bs s).drop a) = (sgsT m ((bs s).drop (a + w))).map fun L => n :: L := by rw [sgs_cons m hne, hd]; simp only [List.drop_drop]
  rcases h with ⟨L, h1, h2⟩ | ⟨h1, i, h2⟩
  · exact .inl ⟨n :: L, by rw [e, h1]; rfl, k _ (by simpa using h2)⟩
  · exact .inr ⟨by rw [e, h1]; rfl, i, k _ h2⟩
theorem all_bad {s : ByteArray} {acc : List Int} {m a : Nat} {i : Int} {g : Nat → Option (List Int × Int × Int)} (ha : a < s.size) (hd : decT ((bs s).drop a) = none) (k : Evt g ([], i, 1)) : AllIs s acc (m + 1) a g := by
  have hne : (bs s).drop a ≠ [] := fun e => by have := congrArg List.length e; rw [List.length_drop, bs_len] at this; simp at this; omega
  exact .inr ⟨by rw [sgs_cons m hne, hd], i, k⟩
theorem all_end {s : ByteArray} {acc : List Int} {m a : Nat} {g : Nat → Option (List Int × Int × Int)} (ha : s.size ≤ a) (k : Evt g (acc, (s.size : Int), 0)) : AllIs s acc m a g := by
  have e : (bs s).drop a = [] := List.drop_eq_nil_of_le (by rw [bs_len]; exact ha)
  exact .inl ⟨[], by rw [e, sgs_nil], by simpa using k⟩
theorem dec_w {s : ByteArray} {a w : Nat} {n : Int} (hd : decT ((bs s).drop a) = some (n, w)) : 1 ≤ w ∧ a + w ≤ s.size ∧ w ≤ 4 := by
  obtain ⟨h1, h2, h3, -, -⟩ := num_dec (fun c hc => bs_mem (List.mem_of_mem_drop hc)) hd
  rw [List.length_drop, bs_len] at h3
  exact ⟨h1, by omega, h2⟩
theorem ev_uAllL (s : ByteArray) (hs : s.size ≤ 65535) : ∀ (m a : Nat) (acc : List Int), s.size ≤ a + m → acc.length ≤ a → a ≤ s.size → AllIs s acc m a (fun q => e259L17995 q s acc (a : Int))
  | 0, a, acc, hm, hl, _ => all_end (by omega) (Evt.succ (by simp only [e259L17995]; exact Evt.ifF (decide_eq_false (by omega)) Evt.ret))
  | m + 1, a, acc, hm, hl, hle => by
    by_cases ha : a < s.size
    · have hx := ev_uNext s a hs ha
      cases hd : decT ((bs s).drop a) with
      | none =>
        rw [hd] at hx
        exact all_bad (i := (a : Int)) ha hd (Evt.succ (by simp only [e259L17995]; exact Evt.ifT (decide_eq_true (by omega)) (hx.bind (Evt.ifT rfl Evt.ret))))
      | some x =>
        obtain ⟨n, w⟩ := x
        rw [hd] at hx
        have hw := dec_w hd
        refine all_step ha hd (ev_uAllL s hs m (a + w) (acc ++ [n]) (by omega) (by simp; omega) hw.2.1) fun r hr => Evt.succ ?_
        simp only [e259L17995]
        refine Evt.ifT (decide_eq_true (by omega)) (hx.bind (Evt.ifF rfl (Evt.pure (gapp_ok (by simp; omega)) ?_)))
        have e : w64 ((a : Int) + (nxtP (some (n, w))).2.1) = ((a + w : Nat) : Int) := by simp only [nxtP]; rw [w64_id (by omega) (by omega)]; omega
        rw [e]; exact hr
    · exact all_end (by omega) (Evt.succ (by simp only [e259L17995]; exact Evt.ifF (decide_eq_false (by omega)) Evt.ret))
theorem ev_rAllL (s : ByteArray) (hs : s.size ≤ 65535) : ∀ (m a : Nat) (acc : List Int), s.size ≤ a + m → acc.length ≤ a → a ≤ s.size → AllIs s acc m a (fun q => e209L56128 q s acc (a : Int))
  | 0, a, acc, hm, hl, _ => all_end (by omega) (Evt.succ (by simp only [e209L56128]; exact Evt.ifF (decide_eq_false (by omega)) Evt.ret))
  | m + 1, a, acc, hm, hl, hle => by
    by_cases ha : a < s.size
    · have hx := ev_rNext s a hs ha
      cases hd : decT ((bs s).drop a) with
      | none =>
        rw [hd] at hx
        exact all_bad (i := (a : Int)) ha hd (Evt.succ (by simp only [e209L56128]; exact Evt.ifT (decide_eq_true (by omega)) (hx.bind (Evt.ifF rfl Evt.ret))))
      | some x =>
        obtain ⟨n, w⟩ := x
        rw [hd] at hx
        have hw := dec_w hd
        refine all_step ha hd (ev_rAllL s hs m (a + w) (acc ++ [n]) (by omega) (by simp; omega) hw.2.1) fun r hr => Evt.succ ?_
        simp only [e209L56128]
        refine Evt.ifT (decide_eq_true (by omega)) (hx.bind (Evt.ifT rfl (Evt.pure (gapp_ok (by simp; omega)) ?_)))
        have e : w64 ((a : Int) + (nxtR (some (n, w))).2.1) = ((a + w : Nat) : Int) := by simp only [nxtR]; rw [w64_id (by omega) (by omega)]; omega
        rw [e]; exact hr
    · exact all_end (by omega) (Evt.succ (by simp only [e209L56128]; exact Evt.ifF (decide_eq_false (by omega)) Evt.ret))
def txtT (s : ByteArray) : Option (List Int) := if s.size ≤ 65535 then sgsT s.size (bs s) else none
theorem ev_uAll (s : ByteArray) : (∃ L, txtT s = some L ∧ Evt (fun q => e259 q s) (L, (s.size : Int), 0)) ∨ (txtT s = none ∧ ∃ r, Evt (fun q => e259 q s) r ∧ r.2.2 ≠ 0) := by
  simp only [e259]
  unfold txtT
  by_cases h : s.size ≤ 65535
  · rw [if_pos h]
    rcases ev_uAllL s h s.size 0 [] (by omega) (by simp) (by omega) with ⟨L, h1, h2⟩ | ⟨h1, i, h2⟩
    · exact .inl ⟨L, by simpa using h1, Evt.ifF (decide_eq_false (by omega)) (by simpa using h2)⟩
    · exact .inr ⟨by simpa using h1, _, Evt.ifF (decide_eq_false (by omega)) h2, by show (1 : Int) ≠ 0; decide⟩
  · rw [if_neg h]
    exact .inr ⟨rfl, _, Evt.ifT (decide_eq_true (by omega)) Evt.ret, by decide⟩
theorem ev_rAll (s : ByteArray) : (∃ L, txtT s = some L ∧ Evt (fun q => e209 q s) (L, (s.size : Int), 0)) ∨ (txtT s = none ∧ ∃ r, Evt (fun q => e209 q s) r ∧ r.2.2 ≠ 0) := by
  simp only [e209]
  unfold txtT
  by_cases h : s.size ≤ 65535
  · rw [if_pos h]
    rcases ev_rAllL s h s.size 0 [] (by omega) (by simp) (by omega) with ⟨L, h1, h2⟩ | ⟨h1, i, h2⟩
    · exact .inl ⟨L, by simpa using h1, Evt.ifF (decide_eq_false (by omega)) (by simpa using h2)⟩
    · exact .inr ⟨by simpa using h1, _, Evt.ifF (decide_eq_false (by omega)) h2, by show (1 : Int) ≠ 0; decide⟩
  · rw [if_neg h]
    exact .inr ⟨rfl, _, Evt.ifT (decide_eq_true (by omega)) Evt.ret, by decide⟩
def marks : List Int := [40, 41, 123, 125, 58, 61, 46, 44, 59, 124, 92, 955, 8594, 45, 62]
def mkT (n : Int) : Bool := decide (n ∈ marks)
def ascT (n : Int) : Bool := decide ((97 ≤ n ∧ n ≤ 122) ∨ (65 ≤ n ∧ n ≤ 90))
def highT (n : Int) : Bool := sgnT n && !mkT n && decide (n ≠ 160 ∧ (n < 8192 ∨ 8303 < n))
def letT (n : Int) : Bool := if n < 128 then ascT n else highT n
def digT (n : Int) : Bool := decide (48 ≤ n ∧ n ≤ 57)
theorem ev_uMark (n : Int) : Evt (fun q => e294 q n) (mkT n) := by
  simp only [e294]
  have yes : ∀ k : Int, k ∈ marks → (n == k) = true → true = mkT n := fun k hk h => by
    have : n = k := by simpa using h
    subst this
    exact (decide_eq_true hk).symm
  repeat' (first | exact Evt.ret.eq (yes _ (by simp [marks]) h) | refine Evt.iff (fun h => ?_) (fun h => ?_))
  refine Evt.ret.eq (decide_eq_false fun hm => ?_).symm
  clear yes
  simp only [marks, List.mem_cons, List.not_mem_nil, or_false] at hm
  rcases hm with rfl | rfl | rfl | rfl | rfl | rfl | rfl | rfl | rfl | rfl | rfl | rfl | rfl | rfl | rfl <;> simp_all
theorem ev_in (l : List Int) (n : Int) (hl : l.length ≤ 100) : ∀ (r : List Int) (v : Nat), l.drop v = r → Evt (fun q => e290L55492 q l n (v : Int)) (decide (n ∈ r))
  | [], v, hd => by
    refine Evt.succ ?_
    simp only [e290L55492]
    exact Evt.ifF (drop_nil hd) (Evt.ret.eq (by simp))
  | x :: r, v, hd => by
    have hlt := drop_lt hd
    refine Evt.succ ?_
    simp only [e290L55492]
    refine Evt.ifT (drop_dec hd) (Evt.pure (drop_idx hd) ?_)
    by_cases h : x = n
    · exact Evt.ifT (by simpa using h) (Evt.ret.eq (by simp [h]))
    · refine Evt.ifF (by simpa using h) ?_
      rw [w64_nat v (by omega)]
      exact (ev_in l n hl r (v + 1) (drop_next hd)).eq (by
        have : ¬ n = x := fun e => h e.symm
        simp [this])
theorem ev_rMark (n : Int) : Evt (fun q => e258 q n) (mkT n) := by
  simp only [e258, e290]
  exact (ev_in marks n (by decide) marks 0 rfl).bind Evt.ret
theorem ev_uLetter (n : Int) : Evt (fun q => e262 q n) (letT n) := by
  simp only [e262]
  unfold letT
  by_cases h : n < 128
  · rw [if_pos h]
    refine Evt.ifT (decide_eq_true h) ?_
    unfold ascT
    refine Evt.iff (fun h1 => Evt.iff (fun h2 => Evt.ret.eq ?_) fun h2 => Evt.iff (fun h3 => Evt.ret.eq ?_) fun h3 => Evt.ret.eq ?_) fun h1 => Evt.iff (fun h3 => Evt.ret.eq ?_) fun h3 => Evt.ret.eq ?_
    all_goals simp only [decide_eq_true_eq, decide_eq_false_iff_not] at *
    · exact (decide_eq_true (by omega)).symm
    · exact decide_eq_decide.2 (by omega)
    · exact (decide_eq_false (by omega)).symm
    · exact decide_eq_decide.2 (by omega)
    · exact (decide_eq_false (by omega)).symm
  · rw [if_neg h]
    refine Evt.ifF (decide_eq_false h) ((ev_uRight n).bind ?_)
    unfold highT
    cases sgnT n with
    | false => exact Evt.ifF rfl (Evt.ret.eq (by simp))
    | true =>
      refine Evt.ifT rfl ((ev_uMark n).bind ?_)
      cases mkT n with
      | true => exact Evt.ifT rfl (Evt.ret.eq (by simp))
      | false =>
        refine Evt.ifF rfl (Evt.iff (fun h1 => Evt.iff (fun h2 => Evt.ret.eq ?_) fun h2 => Evt.ret.eq ?_) fun h1 => Evt.ret.eq ?_)
        all_goals simp only [decide_eq_true_eq, decide_eq_false_iff_not, bne_iff_ne, bne_eq_false_iff_eq, Bool.true_and, Bool.not_false, ne_eq] at *
        · exact (decide_eq_true (by omega)).symm
        · exact decide_eq_decide.2 (by omega)
        · exact (decide_eq_false (by omega)).symm
theorem ev_rLetter (n : Int) : Evt (fun q => e211 q n) (letT n) := by
  have hi : 128 ≤ n → Evt (fun q => e257 q n >>= fun r6 => if r6 = true then e258 q n >>= fun r9 => if r9 = true then some false else if (n != 160) = true then if decide (n ≥ 8192) = true then some (!(decide (n ≤ 8303))) else some true else some false else some false) (letT n) := fun h => by
    have e : letT n = highT n := by unfold letT; rw [if_neg (by omega)]
    rw [e]
    refine (ev_sgnR n).bind ?_
    unfold highT
    cases sgnT n with
    | false => exact Evt.ifF rfl (Evt.ret.eq (by simp))
    | true =>
      refine Evt.ifT rfl ((ev_rMark n).bind ?_)
      cases mkT n with
      | true => exact Evt.ifT rfl (Evt.ret.eq (by simp))
      | false =>
        refine Evt.ifF rfl (Evt.iff (fun h1 => Evt.iff (fun h2 => Evt.ret.eq ?_) fun h2 => Evt.ret.eq ?_) fun h1 => Evt.ret.eq ?_)
        all_goals simp only [decide_eq_true_eq, decide_eq_false_iff_not, bne_iff_ne, bne_eq_false_iff_eq, Bool.true_and, Bool.not_false, ne_eq] at *
        · by_cases h3 : n ≤ 8303
          · rw [decide_eq_true h3, decide_eq_false (by omega)]; rfl
          · rw [decide_eq_false h3, decide_eq_true (by omega)]; rfl
        · exact (decide_eq_true (by omega)).symm
        · exact (decide_eq_false (by omega)).symm
  have lo : ∀ b, n < 128 → (b = true ↔ (97 ≤ n ∧ n ≤ 122) ∨ (65 ≤ n ∧ n ≤ 90)) → b = letT n := fun b h k => by
    unfold letT ascT
    rw [if_pos h]
    cases b with
    | true => exact (decide_eq_true (k.1 rfl)).symm
    | false => exact (decide_eq_false fun e => by have := k.2 e; cases this).symm
  simp only [e211]
  refine Evt.iff (fun h1 => Evt.iff (fun h2 => Evt.ret.eq ?_) fun h2 => Evt.iff (fun h3 => Evt.iff (fun h4 => Evt.ret.eq ?_) fun h4 => Evt.iff (fun h5 => hi (of_decide_eq_true h5)) fun h5 => Evt.ret.eq ?_) fun h3 => Evt.iff (fun h5 => hi (of_decide_eq_true h5)) fun h5 => Evt.ret.eq ?_)
    fun h1 => Evt.iff (fun h3 => Evt.iff (fun h4 => Evt.ret.eq ?_) fun h4 => Evt.iff (fun h5 => hi (of_decide_eq_true h5)) fun h5 => Evt.ret.eq ?_) fun h3 => Evt.iff (fun h5 => hi (of_decide_eq_true h5)) fun h5 => Evt.ret.eq ?_
  all_goals simp only [decide_eq_true_eq, decide_eq_false_iff_not] at *
  all_goals refine lo _ (by omega) ⟨fun h => ?_, fun h => ?_⟩
  all_goals first | omega | rfl | cases h
  all_goals omega
theorem ev_uDigit (n : Int) : Evt (fun q => e292 q n) (digT n) := by
  simp only [e292]
  unfold digT
  refine Evt.iff (fun h => Evt.ret.eq ?_) fun h => Evt.ret.eq ?_
  all_goals simp only [decide_eq_true_eq, decide_eq_false_iff_not] at *
  · exact decide_eq_decide.2 (by omega)
  · exact (decide_eq_false (by omega)).symm
theorem ev_rDigit (n : Int) : Evt (fun q => e212 q n) (digT n) := by
  simp only [e212]
  unfold digT
  refine Evt.iff (fun h => Evt.ret.eq ?_) fun h => Evt.ret.eq ?_
  all_goals simp only [decide_eq_true_eq, decide_eq_false_iff_not] at *
  · exact decide_eq_decide.2 (by omega)
  · exact (decide_eq_false (by omega)).symm
def e202 (qq:Nat) (p0:List Ent) (p1 p2:Int):Option (Bool) :=
 if decide (p1 ≥ 0) then
 if decide (p1 < (List.length p0:Int)) then
 gidx p0 p1 >>= fun x3 =>
 some (x3.kind == p2)
 else
 some false
 else
 some false
abbrev K202 (p0:List Ent) (p1 p2:Int) (r:Bool) (C:Cf):Prop:=C 202 [] [slv entL p0 .no,ai p1,ai p2] (ab r) [] 0
theorem q202:Qf 202 Tryz.f202:=⟨Tryz.func202,by kernel_rfl⟩
theorem k202 {p0 p1 p2 r} (h:K202 p0 p1 p2 r Ci):K202 p0 p1 p2 r Ct:=⟨h,⟨⟨tv,dE _⟩,tv,tv,tv⟩,forall_nil,tv,forall_nil⟩
theorem c202 {qq p0 p1 p2 r} (h:e202 qq p0 p1 p2 = some r):K202 p0 p1 p2 r Ct:=by
 unfold e202 at h
 rcases spl h with ⟨h1,h⟩ | ⟨h1,h⟩
 have k:=oB 0 h1 o0
 rcases spl h with ⟨h2,h⟩ | ⟨h2,h⟩
 obtain ⟨x3,h4,h⟩:=obind h
 obtain rfl:=sj h
 exact k202 (tF q202 2 [] (oA 0 (ix22 (o:=.no) h4) <| oB 1 h2 k))
 obtain rfl:=sj h
 exact k202 (tF q202 0 [] (oB 1 h2 k))
 obtain rfl:=sj h
 exact k202 (tF q202 0 [] (oB 0 h1 o0))
def e217 (qq:Nat) (p0:Tm) (p1:Int):Option (Bool) :=
 e108 qq p0 0 p1 >>= fun r1 =>
 if r1 then
 e177 qq p0 >>= fun r4 =>
 some ((List.length r4:Int) == 0)
 else
 some false
abbrev K217 (p0:Tm) (p1:Int) (r:Bool) (C:Cf):Prop:=C 217 [] [tmA p0,ai p1] (ab r) [] 0
theorem q217:Qf 217 Tryz.f217:=⟨Tryz.func217,by kernel_rfl⟩
theorem k217 {p0 p1 r} (h:K217 p0 p1 r Ci):K217 p0 p1 r Ct:=⟨h,⟨⟨tv,tv,⟨tv,dT _⟩,tv⟩,tv,tv⟩,forall_nil,tv,forall_nil⟩
theorem c217 {qq p0 p1 r} (h:e217 qq p0 p1 = some r):K217 p0 p1 r Ct:=by
 unfold e217 at h
 obtain ⟨r1,h2,h⟩:=obind h
 rcases spl h with ⟨h3,h⟩ | ⟨h3,h⟩
 obtain ⟨r4,h5,h⟩:=obind h
 obtain rfl:=sj h
 exact k217 (tF q217 2 [] (oC 1 [] (c177 h5) <| oK 1 [] h3 (c108 h2) o0))
 obtain rfl:=sj h
 exact k217 (tF q217 0 [] (oK 1 [] h3 (c108 h2) o0))
def e263 (qq:Nat) (p0:Tm):Option (Bool) :=
 if p0.k == 0 then
 if p0.n == 0 then
 some ((List.length p0.sub:Int) == 0)
 else
 some false
 else
 some false
abbrev K263 (p0:Tm) (r:Bool) (C:Cf):Prop:=C 263 [] [tmA p0] (ab r) [] 0
theorem q263:Qf 263 Tryz.f263:=⟨Tryz.func263,by kernel_rfl⟩
theorem k263 {p0 r} (h:K263 p0 r Ci):K263 p0 r Ct:=⟨h,⟨⟨tv,tv,⟨tv,dT _⟩,tv⟩,tv⟩,forall_nil,tv,forall_nil⟩
theorem c263 {qq p0 r} (h:e263 qq p0 = some r):K263 p0 r Ct:=by
 unfold e263 at h
 rcases spl h with ⟨h1,h⟩ | ⟨h1,h⟩
 have k:=oB 1 h1 o0
 rcases spl h with ⟨h2,h⟩ | ⟨h2,h⟩
 obtain rfl:=sj h
 exact k263 (tF q263 3 [] (oB 1 h2 k))
 obtain rfl:=sj h
 exact k263 (tF q263 0 [] (oB 1 h2 k))
 obtain rfl:=sj h
 exact k263 (tF q263 0 [] (oB 1 h1 o0))
def e264L16878:Nat → (List Int) → Int → Int → Option (Bool)
 | 0,_,_,_ => none
 | qq + 1,p0,p1,v9 =>
 if decide (v9 < (List.length p0:Int)) then
 gidx p0 v9 >>= fun x2 =>
 if x2 != (w64 (p1 + v9)) then
 some false
 else
 e264L16878 qq p0 p1 (w64 (v9 + 1))
 else
 some true
def e264 (qq:Nat) (p0:List Int) (p1:Int):Option (Bool) :=
 e264L16878 qq p0 p1 0
def g264L16878E0 (j:Nat → Value) (p0:List Int) (p1 v9:Int):=sp j 20 0 [(1,ai p1),(7,slv intC p0 .no),(8,ai (List.length p0:Int)),(9,ai v9)]
def g264L16878S0 (p0:List Int) (p1 v9:Int):LSt:=⟨[],0,[],0,[]⟩
abbrev K264 (p0:List Int) (p1:Int) (r:Bool) (C:Cf):Prop:=C 264 [] [slv intC p0 .no,ai p1] (ab r) [] 0
theorem q264:Qf 264 Tryz.f264:=⟨Tryz.func264,by kernel_rfl⟩
theorem k264 {p0 p1 r} (h:K264 p0 p1 r Ci):K264 p0 p1 r Ct:=⟨h,⟨⟨tv,dI _⟩,tv,tv⟩,forall_nil,tv,forall_nil⟩
theorem l264L16878:∀ qq:Nat,(∀ p0 p1 v9 r,e264L16878 qq p0 p1 v9 = some r → (∀ j,Dl Tryz.prog 0 (inn (inn (rgt (lft (rgt (bod Tryz.f264)))))) (g264L16878E0 j p0 p1 v9) (g264L16878S0 p0 p1 v9) (frameQ Tryz.prog 0 (FinQ Tryz.prog 0 Tryz.f264 (ab r) [] 0) [.blk 0,.seq (rgt (rgt (bod Tryz.f264)))]))):=by
 intro qq
 induction qq with
 | zero =>
  exact fun _ _ _ _ h => nn h
 | succ qq ih =>
  intro p0 p1 v9 r h
  rw [e264L16878] at h
  rcases spl h with ⟨h1,h⟩ | ⟨h1,h⟩
  obtain ⟨x2,h3,h⟩:=obind h
  have k:=oA 0 (ix34 (o:=.no) h3) <| oB 0 h1 o0
  rcases spl h with ⟨h4,h⟩ | ⟨h4,h⟩
  obtain rfl:=sj h
  exact fun j => lF 0 [] (oB 2 h4 k)
  exact fun j => lH 1 [] [] [] [1,7,8,9] (oD (dI p0) <| oB 2 h4 k) (ih _ _ _ _ h)
  obtain rfl:=sj h
  exact fun j => lF 0 [] (oB 0 h1 o0)
theorem c264 {qq p0 p1 r} (h:e264 qq p0 p1 = some r):K264 p0 p1 r Ct:=by
 unfold e264 at h
 exact k264 (tH q264 1 [] [] [] [1,7,8,9] (oD (dI p0) o0) (l264L16878 _ _ _ _ _ h))
def e265L10666:Nat → (List Ent) → Int → (List Int) → Int → Int → Option (Bool)
 | 0,_,_,_,_,_ => none
 | qq + 1,p0,p1,p2,p3,v13 =>
 if decide (v13 < (List.length p2:Int)) then
 gidx p2 v13 >>= fun x2 =>
 e202 qq p0 x2 p3 >>= fun r4 =>
 if r4 then
 gidx p0 x2 >>= fun x7 =>
 if x7.fam != p1 then
 some false
 else
 if x7.place != v13 then
 some false
 else
 e265L10666 qq p0 p1 p2 p3 (w64 (v13 + 1))
 else
 some false
 else
 some true
def e265 (qq:Nat) (p0:List Ent) (p1:Int) (p2:List Int) (p3:Int):Option (Bool) :=
 e265L10666 qq p0 p1 p2 p3 0
def g265L10666E0 (j:Nat → Value) (p0:List Ent) (p1:Int) (p2:List Int) (p3 v13:Int):=sp j 42 0 [(0,slv entL p0 .no),(1,ai p1),(3,ai p3),(11,slv intC p2 .no),(12,ai (List.length p2:Int)),(13,ai v13)]
def g265L10666S0 (p0:List Ent) (p1:Int) (p2:List Int) (p3 v13:Int):LSt:=⟨[],0,[],0,[]⟩
abbrev K265 (p0:List Ent) (p1:Int) (p2:List Int) (p3:Int) (r:Bool) (C:Cf):Prop:=C 265 [] [slv entL p0 .no,ai p1,slv intC p2 .no,ai p3] (ab r) [] 0
theorem q265:Qf 265 Tryz.f265:=⟨Tryz.func265,by kernel_rfl⟩
theorem k265 {p0 p1 p2 p3 r} (h:K265 p0 p1 p2 p3 r Ci):K265 p0 p1 p2 p3 r Ct:=⟨h,⟨⟨tv,dE _⟩,tv,⟨tv,dI _⟩,tv,tv⟩,forall_nil,tv,forall_nil⟩
theorem l265L10666:∀ qq:Nat,(∀ p0 p1 p2 p3 v13 r,e265L10666 qq p0 p1 p2 p3 v13 = some r → (∀ j,Dl Tryz.prog 0 (inn (inn (rgt (lft (rgt (bod Tryz.f265)))))) (g265L10666E0 j p0 p1 p2 p3 v13) (g265L10666S0 p0 p1 p2 p3 v13) (frameQ Tryz.prog 0 (FinQ Tryz.prog 0 Tryz.f265 (ab r) [] 0) [.blk 0,.seq (rgt (rgt (bod Tryz.f265)))]))):=by
 intro qq
 induction qq with
 | zero =>
  exact fun _ _ _ _ _ _ h => nn h
 | succ qq ih =>
  intro p0 p1 p2 p3 v13 r h
  rw [e265L10666] at h
  rcases spl h with ⟨h1,h⟩ | ⟨h1,h⟩
  obtain ⟨x2,h3,h⟩:=obind h
  obtain ⟨r4,h5,h⟩:=obind h
  have k:=oA 0 (ix34 (o:=.no) h3) <| oB 0 h1 o0
  rcases spl h with ⟨h6,h⟩ | ⟨h6,h⟩
  obtain ⟨x7,h8,h⟩:=obind h
  have k:=oA 1 (ix22 (o:=.no) h8) <| oK 1 [] h6 (c202 h5) k
  rcases spl h with ⟨h9,h⟩ | ⟨h9,h⟩
  obtain rfl:=sj h
  exact fun j => lF 0 [] (oB 1 h9 k)
  have k:=oA 0 (ix22 (o:=.no) h8) <| oB 1 h9 k
  rcases spl h with ⟨h10,h⟩ | ⟨h10,h⟩
  obtain rfl:=sj h
  exact fun j => lF 0 [] (oB 1 h10 k)
  exact fun j => lH 1 [] [] [] [0,1,3,11,12,13] (oD (dI p2) <| oD (dE p0) <| oB 1 h10 k) (ih _ _ _ _ _ _ h)
  obtain rfl:=sj h
  exact fun j => lF 1 [] (oK 1 [] h6 (c202 h5) k)
  obtain rfl:=sj h
  exact fun j => lF 0 [] (oB 0 h1 o0)
theorem c265 {qq p0 p1 p2 p3 r} (h:e265 qq p0 p1 p2 p3 = some r):K265 p0 p1 p2 p3 r Ct:=by
 unfold e265 at h
 exact k265 (tH q265 1 [] [] [] [0,1,3,11,12,13] (oD (dI p2) <| oD (dE p0) o0) (l265L10666 _ _ _ _ _ _ _ h))
def e218 (qq:Nat) (p0:List Ent) (p1:Int):Option (Bool) :=
 gidx p0 p1 >>= fun x1 =>
 if decide (x1.pars < 0) then
 some false
 else
 if decide (x1.inds < 0) then
 some false
 else
 if decide (x1.pars > 24) then
 some false
 else
 if decide (x1.inds > (w64 (24 - x1.pars))) then
 some false
 else
 if x1.fam != 0 then
 some false
 else
 if x1.place != 0 then
 some false
 else
 e263 qq x1.body >>= fun r9 =>
 if r9 then
 e203 qq x1.type (w64 (x1.pars + x1.inds)) >>= fun r12 =>
 if r12.2.2 != 0 then
 some false
 else
 if r12.2.1.k != 2 then
 some false
 else
 if r12.2.1.n != x1.level then
 some false
 else
 if decide ((List.length x1.cons:Int) > 16) then
 some false
 else
 e264 qq x1.cons (w64 (p1 + 1)) >>= fun r18 =>
 if r18 then
 e265 qq p0 p1 x1.cons 2 >>= fun r21 =>
 if r21 then
 if (List.length x1.fields:Int) == 0 then
 some true
 else
 if x1.inds != 0 then
 some false
 else
 if (List.length x1.cons:Int) != 1 then
 some false
 else
 e264 qq x1.fields (w64 (p1 + 2)) >>= fun r27 =>
 if r27 then
 e265 qq p0 p1 x1.fields 4 >>= fun r30 =>
 if r30 then
 gidx p0 (w64 (p1 + 1)) >>= fun x33 =>
 e222 qq x33.type >>= fun r35 =>
 if r35.2.2 == 0 then
 some ((List.length r35.1:Int) == (w64 (x1.pars + (List.length x1.fields:Int))))
 else
 some false
 else
 some false
 else
 some false
 else
 some false
 else
 some false
 else
 some false
abbrev K218 (p0:List Ent) (p1:Int) (r:Bool) (C:Cf):Prop:=C 218 [] [slv entL p0 .no,ai p1] (ab r) [] 0
theorem q218:Qf 218 Tryz.f218:=⟨Tryz.func218,by kernel_rfl⟩
theorem k218 {p0 p1 r} (h:K218 p0 p1 r Ci):K218 p0 p1 r Ct:=⟨h,⟨⟨tv,dE _⟩,tv,tv⟩,forall_nil,tv,forall_nil⟩
theorem c218 {qq p0 p1 r} (h:e218 qq p0 p1 = some r):K218 p0 p1 r Ct:=by
 unfold e218 at h
 obtain ⟨x1,h2,h⟩:=obind h
 have k:=oA 0 (ix22 (o:=.no) h2) o0
 rcases spl h with ⟨h3,h⟩ | ⟨h3,h⟩
 obtain rfl:=sj h
 exact k218 (tF q218 0 [] (oB 3 h3 k))
 have k:=oB 3 h3 k
 rcases spl h with ⟨h4,h⟩ | ⟨h4,h⟩
 obtain rfl:=sj h
 exact k218 (tF q218 0 [] (oB 1 h4 k))
 have k:=oB 1 h4 k
 rcases spl h with ⟨h5,h⟩ | ⟨h5,h⟩
 obtain rfl:=sj h
 exact k218 (tF q218 0 [] (oB 1 h5 k))
 have k:=oB 1 h5 k
 rcases spl h with ⟨h6,h⟩ | ⟨h6,h⟩
 obtain rfl:=sj h
 exact k218 (tF q218 0 [] (oB 3 h6 k))
 have k:=oB 3 h6 k
 rcases spl h with ⟨h7,h⟩ | ⟨h7,h⟩
 obtain rfl:=sj h
 exact k218 (tF q218 0 [] (oB 1 h7 k))
 have k:=oB 1 h7 k
 rcases spl h with ⟨h8,h⟩ | ⟨h8,h⟩
 obtain rfl:=sj h
 exact k218 (tF q218 0 [] (oB 1 h8 k))
 obtain ⟨r9,h10,h⟩:=obind h
 have k:=oB 1 h8 k
 rcases spl h with ⟨h11,h⟩ | ⟨h11,h⟩
 obtain ⟨r12,h13,h⟩:=obind h
 have k:=oC 5 [] (c203 h13) <| oK 1 [] h11 (c263 h10) k
 rcases spl h with ⟨h14,h⟩ | ⟨h14,h⟩
 obtain rfl:=sj h
 exact k218 (tF q218 0 [] (oB 4 h14 k))
 have k:=oB 4 h14 k
 rcases spl h with ⟨h15,h⟩ | ⟨h15,h⟩
 obtain rfl:=sj h
 exact k218 (tF q218 0 [] (oB 1 h15 k))
 have k:=oB 1 h15 k
 rcases spl h with ⟨h16,h⟩ | ⟨h16,h⟩
 obtain rfl:=sj h
 exact k218 (tF q218 0 [] (oB 2 h16 k))
 have k:=oB 2 h16 k
 rcases spl h with ⟨h17,h⟩ | ⟨h17,h⟩
 obtain rfl:=sj h
 exact k218 (tF q218 0 [] (oB 2 h17 k))
 obtain ⟨r18,h19,h⟩:=obind h
 have k:=oB 2 h17 k
 rcases spl h with ⟨h20,h⟩ | ⟨h20,h⟩
 obtain ⟨r21,h22,h⟩:=obind h
 have k:=oK 2 [] h20 (c264 h19) k
 rcases spl h with ⟨h23,h⟩ | ⟨h23,h⟩
 have k:=oK 2 [] h23 (c265 h22) k
 rcases spl h with ⟨h24,h⟩ | ⟨h24,h⟩
 obtain rfl:=sj h
 exact k218 (tF q218 0 [] (oB 3 h24 k))
 have k:=oB 3 h24 k
 rcases spl h with ⟨h25,h⟩ | ⟨h25,h⟩
 obtain rfl:=sj h
 exact k218 (tF q218 0 [] (oB 1 h25 k))
 have k:=oB 1 h25 k
 rcases spl h with ⟨h26,h⟩ | ⟨h26,h⟩
 obtain rfl:=sj h
 exact k218 (tF q218 0 [] (oB 2 h26 k))
 obtain ⟨r27,h28,h⟩:=obind h
 have k:=oB 2 h26 k
 rcases spl h with ⟨h29,h⟩ | ⟨h29,h⟩
 obtain ⟨r30,h31,h⟩:=obind h
 have k:=oK 2 [] h29 (c264 h28) k
 rcases spl h with ⟨h32,h⟩ | ⟨h32,h⟩
 obtain ⟨x33,h34,h⟩:=obind h
 obtain ⟨r35,h36,h⟩:=obind h
 have k:=oC 1 [] (c222 h36) <| oA 2 (ix22 (o:=.no) h34) <| oK 2 [] h32 (c265 h31) k
 rcases spl h with ⟨h37,h⟩ | ⟨h37,h⟩
 obtain rfl:=sj h
 exact k218 (tF q218 6 [] (oB 4 h37 k))
 obtain rfl:=sj h
 exact k218 (tF q218 0 [] (oB 4 h37 k))
 obtain rfl:=sj h
 exact k218 (tF q218 1 [] (oK 2 [] h32 (c265 h31) k))
 obtain rfl:=sj h
 exact k218 (tF q218 1 [] (oK 2 [] h29 (c264 h28) k))
 obtain rfl:=sj h
 exact k218 (tF q218 1 [] (oK 2 [] h23 (c265 h22) k))
 obtain rfl:=sj h
 exact k218 (tF q218 1 [] (oK 2 [] h20 (c264 h19) k))
 obtain rfl:=sj h
 exact k218 (tF q218 1 [] (oK 1 [] h11 (c263 h10) k))
def EOk (e : Ent) : Prop := e.type.Ok ∧ e.body.Ok ∧ e.cons.length ≤ 1152921504606846976 ∧ e.fields.length ≤ 1152921504606846976
def zE : Ent := Ent.mk 0 ⟨#[]⟩ zT zT 0 0 0 0 0 [] []
def ent (l : List Ent) (n : Int) : Ent := (l[n.toNat]?).getD zE
theorem gidx_ent {l : List Ent} {n : Int} (h0 : 0 ≤ n) (h1 : n < l.length) : gidx l n = some (ent l n) := by
  unfold gidx ent
  rw [if_pos h0]
  have : n.toNat < l.length := by omega
  rw [List.getElem?_eq_getElem this]; rfl
theorem ent_mem {l : List Ent} {n : Int} (h0 : 0 ≤ n) (h1 : n < l.length) : ent l n ∈ l := by
  unfold ent
  have : n.toNat < l.length := by omega
  rw [List.getElem?_eq_getElem this]
  exact List.getElem_mem this
def isT (l : List Ent) (n kind : Int) : Bool := decide (0 ≤ n) && decide (n < l.length) && (ent l n).kind == kind
theorem isT_spec {l : List Ent} {n kind : Int} (h : isT l n kind = true) : 0 ≤ n ∧ n < l.length ∧ (ent l n).kind = kind := by
  unfold isT at h
  simp only [Bool.and_eq_true, decide_eq_true_eq, beq_iff_eq] at h
  exact ⟨h.1.1, h.1.2, h.2⟩
theorem ev_is (l : List Ent) (n kind : Int) : Evt (fun q => e202 q l n kind) (isT l n kind) := by
  simp only [e202]
  unfold isT
  by_cases h0 : n ≥ 0
  · refine Evt.ifT (decide_eq_true h0) ?_
    by_cases h1 : n < l.length
    · exact Evt.ifT (decide_eq_true h1) (Evt.pure (gidx_ent h0 h1) (Evt.ret.eq (by simp [show 0 ≤ n from h0, h1])))
    · exact Evt.ifF (decide_eq_false h1) (Evt.ret.eq (by simp [h1]))
  · exact Evt.ifF (decide_eq_false h0) (Evt.ret.eq (by simp [show ¬ 0 ≤ n from h0]))
def noneT (t : Tm) : Bool := t.k == 0 && t.n == 0 && (t.sub.length : Int) == 0
theorem ev_none (t : Tm) : Evt (fun q => e263 q t) (noneT t) := by
  refine Evt.mk fun q => ?_
  unfold e263 noneT
  by_cases h1 : t.k = 0 <;> by_cases h2 : t.n = 0 <;> by_cases h3 : t.sub.length = 0 <;> simp [h1, h2, h3]
def closedT' (t : Tm) (n : Int) : Bool := rightT t 0 n && (colT t 8 8).isEmpty
theorem ev_sclosed (t : Tm) (n : Int) (ho : t.Ok) : Evt (fun q => e217 q t n) (closedT' t n) := by
  simp only [e217]
  refine (ev_Right t 0 n ho).bind ?_
  unfold closedT'
  by_cases h : rightT t 0 n = true
  · refine Evt.ifT h ((ev_Frees t ho).bind (Evt.ret.eq ?_))
    have hs : shapedT t = true := by
      unfold rightT at h; simp at h; exact h.1.1
    unfold numsT
    rw [if_pos hs, h, Bool.true_and, Bool.eq_iff_iff]
    simp only [beq_iff_eq, List.isEmpty_iff]
    constructor
    · intro h6
      have h6' : rise (colT t 8 8) = [] := List.length_eq_zero_iff.1 (by omega)
      refine List.eq_nil_iff_forall_not_mem.2 fun x hx => ?_
      rw [← mem_rise, h6'] at hx; cases hx
    · intro h6
      rw [h6]; rfl
  · exact Evt.ifF (by simpa using h) (Evt.ret.eq (by simp [h]))
def runT : List Int → Int → Bool
  | [], _ => true
  | n :: r, m => n == m && runT r (m + 1)
theorem ev_srunL (l : List Int) (f : Int) (hf : 0 ≤ f ∧ f ≤ 1048576) (hl : l.length ≤ 1152921504606846976) : ∀ (r : List Int) (v : Nat), l.drop v = r → Evt (fun q => e264L16878 q l f (v : Int)) (runT r (f + v))
  | [], v, hd => by
    refine Evt.succ ?_
    simp only [e264L16878]
    exact Evt.ifF (drop_nil hd) Evt.ret
  | n :: r, v, hd => by
    have hlt := drop_lt hd
    refine Evt.succ ?_
    simp only [e264L16878]
    refine Evt.ifT (drop_dec hd) (Evt.pure (drop_idx hd) ?_)
    rw [w64_id (x := f + v) (by omega) (by omega), runT]
    by_cases h : n = f + v
    · refine Evt.ifF (by simp [h]) ?_
      rw [w64_nat v (by omega)]
      exact (ev_srunL l f hf hl r (v + 1) (drop_next hd)).eq (by rw [show f + ((v + 1 : Nat) : Int) = f + v + 1 by omega]; simp [h])
    · exact Evt.ifT (by simp [h]) (Evt.ret.eq (by simp [h]))
theorem ev_srun (l : List Int) (f : Int) (hf : 0 ≤ f ∧ f ≤ 1048576) (hl : l.length ≤ 1152921504606846976) : Evt (fun q => e264 q l f) (runT l f) := by
  simp only [e264]
  exact (ev_srunL l f hf hl l 0 rfl).eq (by simp)
def memT (l : List Ent) (of kind : Int) : List Int → Int → Bool
  | [], _ => true
  | n :: r, k => isT l n kind && (ent l n).fam == of && (ent l n).place == k && memT l of kind r (k + 1)
theorem ev_membersL (l : List Ent) (of kind : Int) (p : List Int) (hp : p.length ≤ 1152921504606846976) : ∀ (r : List Int) (v : Nat), p.drop v = r → Evt (fun q => e265L10666 q l of p kind (v : Int)) (memT l of kind r v)
  | [], v, hd => by
    refine Evt.succ ?_
    simp only [e265L10666]
    exact Evt.ifF (drop_nil hd) Evt.ret
  | n :: r, v, hd => by
    have hlt := drop_lt hd
    refine Evt.succ ?_
    simp only [e265L10666]
    refine Evt.ifT (drop_dec hd) (Evt.pure (drop_idx hd) ((ev_is l n kind).bind ?_))
    rw [memT]
    by_cases h : isT l n kind = true
    · have hs := isT_spec h
      refine Evt.ifT h (Evt.pure (gidx_ent hs.1 hs.2.1) ?_)
      by_cases h2 : (ent l n).fam = of
      · refine Evt.ifF (by simp [h2]) ?_
        by_cases h3 : (ent l n).place = v
        · refine Evt.ifF (by simp [h3]) ?_
          rw [w64_nat v (by omega)]
          exact (ev_membersL l of kind p hp r (v + 1) (drop_next hd)).eq (by simp [h, h2, h3])
        · exact Evt.ifT (by simp [h3]) (Evt.ret.eq (by simp [h3]))
      · exact Evt.ifT (by simp [h2]) (Evt.ret.eq (by simp [h2]))
    · exact Evt.ifF (by simpa using h) (Evt.ret.eq (by simp [h]))
theorem ev_members (l : List Ent) (of kind : Int) (p : List Int) (hp : p.length ≤ 1152921504606846976) : Evt (fun q => e265 q l of p kind) (memT l of kind p 0) := by
  simp only [e265]
  exact (ev_membersL l of kind p hp p 0 rfl).eq (by simp)
def famA (x : Ent) : Bool :=
  decide (0 ≤ x.pars) && decide (0 ≤ x.inds) && decide (x.pars ≤ 24) && decide (x.inds ≤ 24 - x.pars) && x.fam == 0 && x.place == 0 && noneT x.body
def famB (x : Ent) : Bool :=
  (splitT x.type (x.pars + x.inds)).2.2 == 0 && (splitT x.type (x.pars + x.inds)).2.1.k == 2 && (splitT x.type (x.pars + x.inds)).2.1.n == x.level
def famC (l : List Ent) (i : Int) (x : Ent) : Bool :=
  decide (x.cons.length ≤ 16) && runT x.cons (i + 1) && memT l i 2 x.cons 0
def famD (l : List Ent) (i : Int) (x : Ent) : Bool :=
  x.inds == 0 && decide (x.cons.length = 1) && runT x.fields (i + 2) && memT l i 4 x.fields 0 && (wholeT (ent l (i + 1)).type).2.2 == 0 && ((wholeT (ent l (i + 1)).type).1.length : Int) == x.pars + x.fields.length
def familyT (l : List Ent) (i : Int) : Bool :=
  famA (ent l i) && famB (ent l i) && famC l i (ent l i) && (decide ((ent l i).fields.length = 0) || famD l i (ent l i))
theorem ev_family (l : List Ent) (i : Int) (h0 : 0 ≤ i) (h1 : i < l.length) (hl : l.length ≤ 65535) (he : ∀ e ∈ l, EOk e) : Evt (fun q => e218 q l i) (familyT l i) := by
  simp only [e218]
  refine Evt.pure (gidx_ent h0 h1) ?_
  have hx := he _ (ent_mem h0 h1)
  have hfl : (ent l i).fields.length ≤ 1152921504606846976 := hx.2.2.2
  unfold familyT
  by_cases hA : famA (ent l i) = true
  · have hA' := hA
    unfold famA at hA'
    simp only [Bool.and_eq_true, decide_eq_true_eq, beq_iff_eq] at hA'
    obtain ⟨⟨⟨⟨⟨⟨a1, a2⟩, a3⟩, a4⟩, a5⟩, a6⟩, a7⟩ := hA'
    refine Evt.ifF (decide_eq_false (by omega)) (Evt.ifF (decide_eq_false (by omega)) (Evt.ifF (decide_eq_false (by omega)) (Evt.ifF (decide_eq_false (by rw [w64_id (by omega) (by omega)]; omega)) (Evt.ifF (by simp [a5]) (Evt.ifF (by simp [a6]) (((ev_none _).eq a7).bind (Evt.ifT rfl ?_)))))))
    rw [w64_id (by omega) (by omega)]
    refine (ev_Split (ent l i).type _ hx.1).bind ?_
    rw [hA]
    by_cases b1 : (splitT (ent l i).type ((ent l i).pars + (ent l i).inds)).2.2 = 0
    · refine Evt.ifF (by simp [b1]) ?_
      by_cases b2 : (splitT (ent l i).type ((ent l i).pars + (ent l i).inds)).2.1.k = 2
      · refine Evt.ifF (by simp [b2]) ?_
        by_cases b3 : (splitT (ent l i).type ((ent l i).pars + (ent l i).inds)).2.1.n = (ent l i).level
        · refine Evt.ifF (by simp [b3]) ?_
          have hB : famB (ent l i) = true := by unfold famB; simp [b1, b2, b3]
          rw [hB]
          by_cases c1 : (ent l i).cons.length ≤ 16
          · refine Evt.ifF (decide_eq_false (by omega)) ?_
            rw [w64_id (x := i + 1) (by omega) (by omega)]
            refine (ev_srun (ent l i).cons (i + 1) (by omega) (by omega)).bind ?_
            by_cases c2 : runT (ent l i).cons (i + 1) = true
            · refine Evt.ifT c2 ((ev_members l i 2 (ent l i).cons (by omega)).bind ?_)
              by_cases c3 : memT l i 2 (ent l i).cons 0 = true
              · refine Evt.ifT c3 ?_
                have hC : famC l i (ent l i) = true := by unfold famC; simp [c1, c2, c3]
                rw [hC]
                by_cases d0 : (ent l i).fields.length = 0
                · exact Evt.ifT (by simp [d0]) (Evt.ret.eq (by simp [d0]))
                · refine Evt.ifF (by have h : ((ent l i).fields.length : Int) ≠ 0 := (by omega); simpa using h) ?_
                  rw [show decide ((ent l i).fields.length = 0) = false by simp [d0]]
                  simp only [Bool.true_and, Bool.false_or]
                  unfold famD
                  by_cases d1 : (ent l i).inds = 0
                  · refine Evt.ifF (by simp [d1]) ?_
                    by_cases d2 : (ent l i).cons.length = 1
                    · refine Evt.ifF (by simp [d2]) ?_
                      rw [w64_id (x := i + 2) (by omega) (by omega)]
                      refine (ev_srun (ent l i).fields (i + 2) (by omega) hx.2.2.2).bind ?_
                      by_cases d3 : runT (ent l i).fields (i + 2) = true
                      · refine Evt.ifT d3 ((ev_members l i 4 (ent l i).fields hx.2.2.2).bind ?_)
                        by_cases d4 : memT l i 4 (ent l i).fields 0 = true
                        · have hi : i + 1 < l.length := by
                            obtain ⟨y, hy⟩ : ∃ y, (ent l i).cons = [y] := by
                              rcases hc : (ent l i).cons with _ | ⟨y, _ | ⟨z, r⟩⟩ <;> rw [hc] at d2 <;> simp at d2
                              exact ⟨y, rfl⟩
                            rw [hy] at c2 c3
                            rw [runT] at c2
                            rw [memT] at c3
                            simp only [Bool.and_eq_true, beq_iff_eq] at c2 c3
                            have := isT_spec c3.1.1.1
                            omega
                          refine Evt.ifT d4 (Evt.pure (gidx_ent (by omega) hi) ((ev_Whole _ (he _ (ent_mem (by omega) hi)).1).bind ?_))
                          by_cases d5 : (wholeT (ent l (i + 1)).type).2.2 = 0
                          · refine Evt.ifT (by simp [d5]) (Evt.ret.eq ?_)
                            rw [w64_id (x := (ent l i).pars + ((ent l i).fields.length : Int)) (by omega) (by omega)]
                            simp [d1, d2, d3, d4, d5]
                          · exact Evt.ifF (by simp [d5]) (Evt.ret.eq (by simp [d5]))
                        · exact Evt.ifF (by simpa using d4) (Evt.ret.eq (by simp [d4]))
                      · exact Evt.ifF (by simpa using d3) (Evt.ret.eq (by simp [d3]))
                    · exact Evt.ifT (by simp <;> omega) (Evt.ret.eq (by simp [d2]))
                  · exact Evt.ifT (by simp [d1]) (Evt.ret.eq (by simp [d1]))
              · refine Evt.ifF (by simpa using c3) (Evt.ret.eq ?_)
                unfold famC; simp [c3]
            · refine Evt.ifF (by simpa using c2) (Evt.ret.eq ?_)
              unfold famC; simp [c2]
          · refine Evt.ifT (decide_eq_true (by omega)) (Evt.ret.eq ?_)
            unfold famC; simp [c1]
        · refine Evt.ifT (by simp [b3]) (Evt.ret.eq ?_)
          unfold famB; simp [b3]
      · refine Evt.ifT (by simp [b2]) (Evt.ret.eq ?_)
        unfold famB; simp [b2]
    · refine Evt.ifT (by simp [b1]) (Evt.ret.eq ?_)
      unfold famB; simp [b1]
  · rw [show famA (ent l i) = false by simpa using hA]
    unfold famA at hA
    simp only [Bool.and_eq_true, decide_eq_true_eq, beq_iff_eq] at hA
    by_cases a1 : (ent l i).pars < 0
    · exact Evt.ifT (decide_eq_true a1) Evt.ret
    refine Evt.ifF (decide_eq_false a1) ?_
    by_cases a2 : (ent l i).inds < 0
    · exact Evt.ifT (decide_eq_true a2) Evt.ret
    refine Evt.ifF (decide_eq_false a2) ?_
    by_cases a3 : (ent l i).pars > 24
    · exact Evt.ifT (decide_eq_true a3) Evt.ret
    refine Evt.ifF (decide_eq_false a3) ?_
    rw [w64_id (x := 24 - (ent l i).pars) (by omega) (by omega)]
    by_cases a4 : (ent l i).inds > 24 - (ent l i).pars
    · exact Evt.ifT (decide_eq_true a4) Evt.ret
    refine Evt.ifF (decide_eq_false a4) ?_
    by_cases a5 : (ent l i).fam = 0
    · refine Evt.ifF (by simp [a5]) ?_
      by_cases a6 : (ent l i).place = 0
      · refine Evt.ifF (by simp [a6]) ((ev_none _).bind ?_)
        by_cases a7 : noneT (ent l i).body = true
        · exact absurd ⟨⟨⟨⟨⟨⟨by omega, by omega⟩, by omega⟩, by omega⟩, a5⟩, a6⟩, a7⟩ hA
        · exact Evt.ifF (by simpa using a7) Evt.ret
      · exact Evt.ifT (by simp [a6]) Evt.ret
    · exact Evt.ifT (by simp [a5]) Evt.ret
def e266 (qq:Nat) (p0:List Ent) (p1:Int):Option (Bool) :=
 gidx p0 p1 >>= fun x1 =>
 e202 qq p0 x1.fam 1 >>= fun r3 =>
 if r3 then
 if decide (x1.fam ≥ p1) then
 some false
 else
 gidx p0 x1.fam >>= fun x7 =>
 if x1.pars != x7.pars then
 some false
 else
 e263 qq x1.body >>= fun r10 =>
 if r10 then
 if x1.inds != 0 then
 some false
 else
 if x1.level != 0 then
 some false
 else
 if decide ((w64 ((List.length x1.cons:Int) + (List.length x1.fields:Int))) > 0) then
 some false
 else
 if x1.kind == 4 then
 if decide (x1.place ≥ 0) then
 if decide (x1.place < (List.length x7.fields:Int)) then
 gidx x7.fields x1.place >>= fun x19 =>
 some (x19 == p1)
 else
 some false
 else
 some false
 else
 if decide (x1.place ≥ 0) then
 if decide (x1.place < (List.length x7.cons:Int)) then
 gidx x7.cons x1.place >>= fun x23 =>
 some (x23 == p1)
 else
 some false
 else
 some false
 else
 some false
 else
 some false
abbrev K266 (p0:List Ent) (p1:Int) (r:Bool) (C:Cf):Prop:=C 266 [] [slv entL p0 .no,ai p1] (ab r) [] 0
theorem q266:Qf 266 Tryz.f266:=⟨Tryz.func266,by kernel_rfl⟩
theorem k266 {p0 p1 r} (h:K266 p0 p1 r Ci):K266 p0 p1 r Ct:=⟨h,⟨⟨tv,dE _⟩,tv,tv⟩,forall_nil,tv,forall_nil⟩
theorem c266 {qq p0 p1 r} (h:e266 qq p0 p1 = some r):K266 p0 p1 r Ct:=by
 unfold e266 at h
 obtain ⟨x1,h2,h⟩:=obind h
 obtain ⟨r3,h4,h⟩:=obind h
 have k:=oA 0 (ix22 (o:=.no) h2) o0
 rcases spl h with ⟨h5,h⟩ | ⟨h5,h⟩
 have k:=oK 3 [] h5 (c202 h4) k
 rcases spl h with ⟨h6,h⟩ | ⟨h6,h⟩
 obtain rfl:=sj h
 exact k266 (tF q266 0 [] (oB 2 h6 k))
 obtain ⟨x7,h8,h⟩:=obind h
 have k:=oA 2 (ix22 (o:=.no) h8) <| oB 2 h6 k
 rcases spl h with ⟨h9,h⟩ | ⟨h9,h⟩
 obtain rfl:=sj h
 exact k266 (tF q266 0 [] (oB 1 h9 k))
 obtain ⟨r10,h11,h⟩:=obind h
 have k:=oB 1 h9 k
 rcases spl h with ⟨h12,h⟩ | ⟨h12,h⟩
 have k:=oK 1 [] h12 (c263 h11) k
 rcases spl h with ⟨h13,h⟩ | ⟨h13,h⟩
 obtain rfl:=sj h
 exact k266 (tF q266 0 [] (oB 2 h13 k))
 have k:=oB 2 h13 k
 rcases spl h with ⟨h14,h⟩ | ⟨h14,h⟩
 obtain rfl:=sj h
 exact k266 (tF q266 0 [] (oB 1 h14 k))
 have k:=oB 1 h14 k
 rcases spl h with ⟨h15,h⟩ | ⟨h15,h⟩
 obtain rfl:=sj h
 exact k266 (tF q266 0 [] (oB 5 h15 k))
 have k:=oA 1 (ix22 (o:=.no) h8) <| oB 5 h15 k
 rcases spl h with ⟨h16,h⟩ | ⟨h16,h⟩
 have k:=oA 1 (ix22 (o:=.no) h8) <| oB 2 h16 k
 rcases spl h with ⟨h17,h⟩ | ⟨h17,h⟩
 have k:=oB 2 h17 k
 rcases spl h with ⟨h18,h⟩ | ⟨h18,h⟩
 obtain ⟨x19,h20,h⟩:=obind h
 obtain rfl:=sj h
 exact k266 (tF q266 2 [] (oA 1 (ix34 (o:=.no) h20) <| oB 2 h18 k))
 obtain rfl:=sj h
 exact k266 (tF q266 0 [] (oB 2 h18 k))
 obtain rfl:=sj h
 exact k266 (tF q266 0 [] (oB 2 h17 k))
 have k:=oB 2 h16 k
 rcases spl h with ⟨h21,h⟩ | ⟨h21,h⟩
 have k:=oB 1 h21 k
 rcases spl h with ⟨h22,h⟩ | ⟨h22,h⟩
 obtain ⟨x23,h24,h⟩:=obind h
 obtain rfl:=sj h
 exact k266 (tF q266 2 [] (oA 1 (ix34 (o:=.no) h24) <| oB 2 h22 k))
 obtain rfl:=sj h
 exact k266 (tF q266 0 [] (oB 2 h22 k))
 obtain rfl:=sj h
 exact k266 (tF q266 0 [] (oB 1 h21 k))
 obtain rfl:=sj h
 exact k266 (tF q266 1 [] (oK 1 [] h12 (c263 h11) k))
 obtain rfl:=sj h
 exact k266 (tF q266 1 [] (oK 3 [] h5 (c202 h4) k))
def e219 (qq:Nat) (p0:List Ent) (p1:Int):Option (Bool) :=
 gidx p0 p1 >>= fun x1 =>
 e222 qq x1.type >>= fun r3 =>
 e266 qq p0 p1 >>= fun r5 =>
 if r5 then
 if r3.2.2 == 0 then
 if decide ((List.length r3.1:Int) ≥ x1.pars) then
 gidx p0 x1.fam >>= fun x10 =>
 e267 qq r3.2.1 x1.fam x1.pars x10.inds (List.length r3.1:Int) >>= fun r12 =>
 some r12
 else
 some false
 else
 some false
 else
 some false
abbrev K219 (p0:List Ent) (p1:Int) (r:Bool) (C:Cf):Prop:=C 219 [] [slv entL p0 .no,ai p1] (ab r) [] 0
theorem q219:Qf 219 Tryz.f219:=⟨Tryz.func219,by kernel_rfl⟩
theorem k219 {p0 p1 r} (h:K219 p0 p1 r Ci):K219 p0 p1 r Ct:=⟨h,⟨⟨tv,dE _⟩,tv,tv⟩,forall_nil,tv,forall_nil⟩
theorem c219 {qq p0 p1 r} (h:e219 qq p0 p1 = some r):K219 p0 p1 r Ct:=by
 unfold e219 at h
 obtain ⟨x1,h2,h⟩:=obind h
 obtain ⟨r3,h4,h⟩:=obind h
 obtain ⟨r5,h6,h⟩:=obind h
 have k:=oC 1 [] (c222 h4) <| oA 0 (ix22 (o:=.no) h2) o0
 rcases spl h with ⟨h7,h⟩ | ⟨h7,h⟩
 have k:=oK 4 [] h7 (c266 h6) k
 rcases spl h with ⟨h8,h⟩ | ⟨h8,h⟩
 have k:=oA 1 (ix22 (o:=.no) h2) <| oB 0 h8 k
 rcases spl h with ⟨h9,h⟩ | ⟨h9,h⟩
 obtain ⟨x10,h11,h⟩:=obind h
 obtain ⟨r12,h13,h⟩:=obind h
 obtain rfl:=sj h
 exact k219 (tF q219 0 [] (oC 2 [] (c267 h13) <| oA 1 (ix22 (o:=.no) h11) <| oA 1 (ix22 (o:=.no) h2) <| oA 1 (ix22 (o:=.no) h2) <| oA 1 (ix22 (o:=.no) h2) <| oB 1 h9 k))
 obtain rfl:=sj h
 exact k219 (tF q219 0 [] (oB 1 h9 k))
 obtain rfl:=sj h
 exact k219 (tF q219 0 [] (oB 0 h8 k))
 obtain rfl:=sj h
 exact k219 (tF q219 0 [] (oK 4 [] h7 (c266 h6) k))
def e220 (qq:Nat) (p0:List Ent) (p1:Int):Option (Bool) :=
 e266 qq p0 p1 >>= fun r1 =>
 if r1 then
 gidx p0 p1 >>= fun x4 =>
 e203 qq x4.type (w64 (x4.pars + 1)) >>= fun r6 =>
 if r6.2.2 == 0 then
 gidx r6.1 x4.pars >>= fun x9 =>
 e267 qq x9 x4.fam x4.pars 0 x4.pars >>= fun r11 =>
 some r11
 else
 some false
 else
 some false
abbrev K220 (p0:List Ent) (p1:Int) (r:Bool) (C:Cf):Prop:=C 220 [] [slv entL p0 .no,ai p1] (ab r) [] 0
theorem q220:Qf 220 Tryz.f220:=⟨Tryz.func220,by kernel_rfl⟩
theorem k220 {p0 p1 r} (h:K220 p0 p1 r Ci):K220 p0 p1 r Ct:=⟨h,⟨⟨tv,dE _⟩,tv,tv⟩,forall_nil,tv,forall_nil⟩
theorem c220 {qq p0 p1 r} (h:e220 qq p0 p1 = some r):K220 p0 p1 r Ct:=by
 unfold e220 at h
 obtain ⟨r1,h2,h⟩:=obind h
 rcases spl h with ⟨h3,h⟩ | ⟨h3,h⟩
 obtain ⟨x4,h5,h⟩:=obind h
 obtain ⟨r6,h7,h⟩:=obind h
 have k:=oC 2 [] (c203 h7) <| oA 1 (ix22 (o:=.no) h5) <| oA 1 (ix22 (o:=.no) h5) <| oK 0 [] h3 (c266 h2) o0
 rcases spl h with ⟨h8,h⟩ | ⟨h8,h⟩
 obtain ⟨x9,h10,h⟩:=obind h
 obtain ⟨r11,h12,h⟩:=obind h
 obtain rfl:=sj h
 exact k220 (tF q220 0 [] (oC 1 [] (c267 h12) <| oA 1 (ix22 (o:=.no) h5) <| oA 1 (ix22 (o:=.no) h5) <| oA 1 (ix22 (o:=.no) h5) <| oA 1 (ix23 (o:=.no) h10) <| oA 0 (ix22 (o:=.no) h5) <| oB 4 h8 k))
 obtain rfl:=sj h
 exact k220 (tF q220 0 [] (oB 4 h8 k))
 obtain rfl:=sj h
 exact k220 (tF q220 1 [] (oK 0 [] h3 (c266 h2) o0))
def e221 (qq:Nat) (p0:List Ent) (p1:Int):Option (Bool) :=
 gidx p0 p1 >>= fun x1 =>
 e217 qq x1.body p1 >>= fun r3 =>
 if r3 then
 if x1.fam == 0 then
 if x1.place == 0 then
 if x1.pars == 0 then
 if x1.inds == 0 then
 if x1.level == 0 then
 some ((w64 ((List.length x1.cons:Int) + (List.length x1.fields:Int))) == 0)
 else
 some false
 else
 some false
 else
 some false
 else
 some false
 else
 some false
 else
 some false
abbrev K221 (p0:List Ent) (p1:Int) (r:Bool) (C:Cf):Prop:=C 221 [] [slv entL p0 .no,ai p1] (ab r) [] 0
theorem q221:Qf 221 Tryz.f221:=⟨Tryz.func221,by kernel_rfl⟩
theorem k221 {p0 p1 r} (h:K221 p0 p1 r Ci):K221 p0 p1 r Ct:=⟨h,⟨⟨tv,dE _⟩,tv,tv⟩,forall_nil,tv,forall_nil⟩
theorem c221 {qq p0 p1 r} (h:e221 qq p0 p1 = some r):K221 p0 p1 r Ct:=by
 unfold e221 at h
 obtain ⟨x1,h2,h⟩:=obind h
 obtain ⟨r3,h4,h⟩:=obind h
 have k:=oA 0 (ix22 (o:=.no) h2) o0
 rcases spl h with ⟨h5,h⟩ | ⟨h5,h⟩
 have k:=oK 3 [] h5 (c217 h4) k
 rcases spl h with ⟨h6,h⟩ | ⟨h6,h⟩
 have k:=oB 1 h6 k
 rcases spl h with ⟨h7,h⟩ | ⟨h7,h⟩
 have k:=oB 1 h7 k
 rcases spl h with ⟨h8,h⟩ | ⟨h8,h⟩
 have k:=oB 1 h8 k
 rcases spl h with ⟨h9,h⟩ | ⟨h9,h⟩
 have k:=oB 1 h9 k
 rcases spl h with ⟨h10,h⟩ | ⟨h10,h⟩
 obtain rfl:=sj h
 exact k221 (tF q221 6 [] (oB 1 h10 k))
 obtain rfl:=sj h
 exact k221 (tF q221 0 [] (oB 1 h10 k))
 obtain rfl:=sj h
 exact k221 (tF q221 0 [] (oB 1 h9 k))
 obtain rfl:=sj h
 exact k221 (tF q221 0 [] (oB 1 h8 k))
 obtain rfl:=sj h
 exact k221 (tF q221 0 [] (oB 1 h7 k))
 obtain rfl:=sj h
 exact k221 (tF q221 0 [] (oB 1 h6 k))
 obtain rfl:=sj h
 exact k221 (tF q221 0 [] (oK 3 [] h5 (c217 h4) k))
def ownL (l : List Ent) (x : Ent) : List Int := if x.kind = 4 then (ent l x.fam).fields else (ent l x.fam).cons
def ownA (l : List Ent) (i : Int) (x : Ent) : Bool :=
  isT l x.fam 1 && decide (x.fam < i) && x.pars == (ent l x.fam).pars && noneT x.body && x.inds == 0 && x.level == 0 && decide (x.cons.length = 0) && decide (x.fields.length = 0)
def ownB (l : List Ent) (i : Int) (x : Ent) : Bool :=
  decide (0 ≤ x.place) && decide (x.place < (ownL l x).length) && ((ownL l x)[x.place.toNat]?).getD (-1) == i
def ownedT (l : List Ent) (i : Int) : Bool := ownA l i (ent l i) && ownB l i (ent l i)
theorem gidx_getD {L : List Int} {n : Int} (h0 : 0 ≤ n) (h1 : n < L.length) : gidx L n = some ((L[n.toNat]?).getD (-1)) := by
  unfold gidx
  rw [if_pos h0]
  have : n.toNat < L.length := by omega
  rw [List.getElem?_eq_getElem this]; rfl
theorem ev_owned (l : List Ent) (i : Int) (h0 : 0 ≤ i) (h1 : i < l.length) (he : ∀ e ∈ l, EOk e) : Evt (fun q => e266 q l i) (ownedT l i) := by
  simp only [e266]
  refine Evt.pure (gidx_ent h0 h1) ((ev_is l _ 1).bind ?_)
  have hx := he _ (ent_mem h0 h1)
  have hc : (ent l i).cons.length ≤ 1152921504606846976 := hx.2.2.1
  have hf : (ent l i).fields.length ≤ 1152921504606846976 := hx.2.2.2
  unfold ownedT ownA
  by_cases a1 : isT l (ent l i).fam 1 = true
  · have hs := isT_spec a1
    refine Evt.ifT a1 ?_
    by_cases a2 : (ent l i).fam ≥ i
    · exact Evt.ifT (decide_eq_true a2) (Evt.ret.eq (by simp [show ¬ (ent l i).fam < i by omega]))
    refine Evt.ifF (decide_eq_false a2) (Evt.pure (gidx_ent hs.1 hs.2.1) ?_)
    by_cases a3 : (ent l i).pars = (ent l (ent l i).fam).pars
    · refine Evt.ifF (by simp [a3]) ((ev_none _).bind ?_)
      by_cases a4 : noneT (ent l i).body = true
      · refine Evt.ifT a4 ?_
        by_cases a5 : (ent l i).inds = 0
        · refine Evt.ifF (by simp [a5]) ?_
          by_cases a6 : (ent l i).level = 0
          · refine Evt.ifF (by simp [a6]) ?_
            rw [w64_id (x := ((ent l i).cons.length : Int) + ((ent l i).fields.length : Int)) (by omega) (by omega)]
            by_cases a7 : (ent l i).cons.length = 0 ∧ (ent l i).fields.length = 0
            · refine Evt.ifF (decide_eq_false (by omega)) ?_
              have last : ∀ L : List Int, ownL l (ent l i) = L → Evt (fun _ => if decide ((ent l i).place ≥ 0) = true then if decide ((ent l i).place < (List.length L : Int)) = true then (gidx L (ent l i).place) >>= fun x19 => some (x19 == i) else some false else some false) (ownB l i (ent l i)) := fun L hL => by
                unfold ownB
                rw [hL]
                by_cases b1 : (ent l i).place ≥ 0
                · refine Evt.ifT (decide_eq_true b1) ?_
                  by_cases b2 : (ent l i).place < (L.length : Int)
                  · exact Evt.ifT (decide_eq_true b2) (Evt.pure (gidx_getD b1 b2) (Evt.ret.eq (by simp [show 0 ≤ (ent l i).place from b1, b2])))
                  · exact Evt.ifF (decide_eq_false b2) (Evt.ret.eq (by simp [b2]))
                · exact Evt.ifF (decide_eq_false b1) (Evt.ret.eq (by simp [show ¬ 0 ≤ (ent l i).place from b1]))
              have e : (isT l (ent l i).fam 1 && decide ((ent l i).fam < i) && (ent l i).pars == (ent l (ent l i).fam).pars && noneT (ent l i).body && (ent l i).inds == 0 && (ent l i).level == 0 && decide ((ent l i).cons.length = 0) && decide ((ent l i).fields.length = 0)) = true := by
                simp [a1, show (ent l i).fam < i by omega, a3, a4, a5, a6, a7.1, a7.2]
              rw [e, Bool.true_and]
              by_cases a8 : (ent l i).kind = 4
              · exact Evt.ifT (by simp [a8]) (last _ (by unfold ownL; rw [if_pos a8]))
              · exact Evt.ifF (by simp [a8]) (last _ (by unfold ownL; rw [if_neg a8]))
            · refine Evt.ifT (decide_eq_true (by omega)) (Evt.ret.eq ?_)
              have : decide ((ent l i).cons.length = 0) = false ∨ decide ((ent l i).fields.length = 0) = false := by
                by_cases h : (ent l i).cons.length = 0
                · exact .inr (decide_eq_false fun h' => a7 ⟨h, h'⟩)
                · exact .inl (decide_eq_false h)
              rcases this with h | h <;> rw [h] <;> simp
          · exact Evt.ifT (by simp [a6]) (Evt.ret.eq (by simp [a6]))
        · exact Evt.ifT (by simp [a5]) (Evt.ret.eq (by simp [a5]))
      · exact Evt.ifF (by simpa using a4) (Evt.ret.eq (by simp [a4]))
    · exact Evt.ifT (by simp [a3]) (Evt.ret.eq (by simp [a3]))
  · exact Evt.ifF (by simpa using a1) (Evt.ret.eq (by simp [a1]))
theorem familyT_spec {l : List Ent} {i : Int} (h : familyT l i = true) : 0 ≤ (ent l i).pars ∧ 0 ≤ (ent l i).inds ∧ (ent l i).pars + (ent l i).inds ≤ 24 ∧ (ent l i).cons.length ≤ 16 := by
  unfold familyT famA famC at h
  simp only [Bool.and_eq_true, decide_eq_true_eq] at h
  exact ⟨by omega, by omega, by omega, by omega⟩
theorem ownedT_spec {l : List Ent} {i : Int} (h : ownedT l i = true) : 0 ≤ (ent l i).fam ∧ (ent l i).fam < i ∧ (ent l (ent l i).fam).kind = 1 ∧ (ent l i).pars = (ent l (ent l i).fam).pars ∧ 0 ≤ (ent l i).place ∧ (ent l i).place < (ownL l (ent l i)).length := by
  unfold ownedT ownA ownB at h
  simp only [Bool.and_eq_true, decide_eq_true_eq, beq_iff_eq] at h
  have hs := isT_spec h.1.1.1.1.1.1.1.1
  exact ⟨hs.1, h.1.1.1.1.1.1.1.2, hs.2.2, h.1.1.1.1.1.1.2, h.2.1.1, h.2.1.2⟩
def FamsOk (l : List Ent) (i : Int) : Prop := ∀ j, 0 ≤ j → j < i → (ent l j).kind = 1 → familyT l j = true
def conT (l : List Ent) (i : Int) : Bool :=
  ownedT l i && ((wholeT (ent l i).type).2.2 == 0 && (decide ((ent l i).pars ≤ (wholeT (ent l i).type).1.length) && appliedT (wholeT (ent l i).type).2.1 (ent l i).fam (ent l i).pars (ent l (ent l i).fam).inds (wholeT (ent l i).type).1.length))
theorem ev_con (l : List Ent) (i : Int) (h0 : 0 ≤ i) (h1 : i < l.length) (he : ∀ e ∈ l, EOk e) (hF : FamsOk l i) : Evt (fun q => e219 q l i) (conT l i) := by
  simp only [e219]
  have hx := he _ (ent_mem h0 h1)
  refine Evt.pure (gidx_ent h0 h1) ((ev_Whole _ hx.1).bind ((ev_owned l i h0 h1 he).bind ?_))
  unfold conT
  by_cases a1 : ownedT l i = true
  · have hs := ownedT_spec a1
    have hf := familyT_spec (hF _ hs.1 hs.2.1 hs.2.2.1)
    refine Evt.ifT a1 ?_
    rw [a1, Bool.true_and]
    by_cases a2 : (wholeT (ent l i).type).2.2 = 0
    · refine Evt.ifT (by simp [a2]) ?_
      have hw := wholeT_ok (t := (ent l i).type) (l := (wholeT (ent l i).type).1) (y := (wholeT (ent l i).type).2.1) (by rw [← a2])
      by_cases a3 : (ent l i).pars ≤ (wholeT (ent l i).type).1.length
      · refine Evt.ifT (decide_eq_true a3) (Evt.pure (gidx_ent hs.1 (by omega)) ((ev_applied _ _ _ _ _ hw.2.2.2.2.1 (by omega) (by omega) (by have := hw.2.2.1; omega)).bind (Evt.ret.eq (by simp [a2, a3]))))
      · exact Evt.ifF (decide_eq_false a3) (Evt.ret.eq (by simp [a3]))
    · exact Evt.ifF (by simp [a2]) (Evt.ret.eq (by simp [a2]))
  · exact Evt.ifF (by simpa using a1) (Evt.ret.eq (by simp [a1]))
def nth (l : List Tm) (n : Int) : Tm := (l[n.toNat]?).getD zT
theorem gidx_nth {l : List Tm} {n : Int} (h0 : 0 ≤ n) (h1 : n < l.length) : gidx l n = some (nth l n) := by
  unfold gidx nth
  rw [if_pos h0]
  have : n.toNat < l.length := by omega
  rw [List.getElem?_eq_getElem this]; rfl
theorem nth_mem {l : List Tm} {n : Int} (h0 : 0 ≤ n) (h1 : n < l.length) : nth l n ∈ l := by
  unfold nth
  have : n.toNat < l.length := by omega
  rw [List.getElem?_eq_getElem this]
  exact List.getElem_mem this
def projT (l : List Ent) (i : Int) : Bool :=
  ownedT l i && ((splitT (ent l i).type ((ent l i).pars + 1)).2.2 == 0 && appliedT (nth (splitT (ent l i).type ((ent l i).pars + 1)).1 (ent l i).pars) (ent l i).fam (ent l i).pars 0 (ent l i).pars)
theorem ev_proj (l : List Ent) (i : Int) (h0 : 0 ≤ i) (h1 : i < l.length) (he : ∀ e ∈ l, EOk e) (hF : FamsOk l i) : Evt (fun q => e220 q l i) (projT l i) := by
  simp only [e220]
  have hx := he _ (ent_mem h0 h1)
  refine (ev_owned l i h0 h1 he).bind ?_
  unfold projT
  by_cases a1 : ownedT l i = true
  · have hs := ownedT_spec a1
    have hf := familyT_spec (hF _ hs.1 hs.2.1 hs.2.2.1)
    refine Evt.ifT a1 (Evt.pure (gidx_ent h0 h1) ?_)
    rw [a1, Bool.true_and, w64_id (x := (ent l i).pars + 1) (by omega) (by omega)]
    refine (ev_Split _ _ hx.1).bind ?_
    by_cases a2 : (splitT (ent l i).type ((ent l i).pars + 1)).2.2 = 0
    · have hw := splitT_ok (t := (ent l i).type) (n := (ent l i).pars + 1) (l := (splitT (ent l i).type ((ent l i).pars + 1)).1) (y := (splitT (ent l i).type ((ent l i).pars + 1)).2.1) (by rw [← a2])
      refine Evt.ifT (by simp [a2]) (Evt.pure (gidx_nth (by omega) (by omega)) ((ev_applied _ _ _ _ _ (hw.2.2.2.2.2.2 _ (nth_mem (by omega) (by omega))) (by omega) (by omega) (by omega)).bind (Evt.ret.eq (by simp [a2]))))
    · exact Evt.ifF (by simp [a2]) (Evt.ret.eq (by simp [a2]))
  · exact Evt.ifF (by simpa using a1) (Evt.ret.eq (by simp [a1]))
def defT (l : List Ent) (i : Int) : Bool :=
  closedT' (ent l i).body i && ((ent l i).fam == 0 && ((ent l i).place == 0 && ((ent l i).pars == 0 && ((ent l i).inds == 0 && ((ent l i).level == 0 && (decide ((ent l i).cons.length = 0) && decide ((ent l i).fields.length = 0)))))))
theorem ev_def (l : List Ent) (i : Int) (h0 : 0 ≤ i) (h1 : i < l.length) (he : ∀ e ∈ l, EOk e) : Evt (fun q => e221 q l i) (defT l i) := by
  simp only [e221]
  have hx := he _ (ent_mem h0 h1)
  have hc : (ent l i).cons.length ≤ 1152921504606846976 := hx.2.2.1
  have hf : (ent l i).fields.length ≤ 1152921504606846976 := hx.2.2.2
  refine Evt.pure (gidx_ent h0 h1) ((ev_sclosed _ i hx.2.1).bind ?_)
  unfold defT
  by_cases a1 : closedT' (ent l i).body i = true
  · refine Evt.ifT a1 ?_
    rw [a1, Bool.true_and, w64_id (x := ((ent l i).cons.length : Int) + ((ent l i).fields.length : Int)) (by omega) (by omega)]
    have e : (((ent l i).cons.length : Int) + ((ent l i).fields.length : Int) == 0) = (decide ((ent l i).cons.length = 0) && decide ((ent l i).fields.length = 0)) := by
      rw [Bool.eq_iff_iff]
      simp only [beq_iff_eq, Bool.and_eq_true, decide_eq_true_eq]
      omega
    rw [e]
    refine Evt.mk fun q => ?_
    generalize (decide ((ent l i).cons.length = 0) && decide ((ent l i).fields.length = 0)) = z
    by_cases b1 : (ent l i).fam = 0 <;> by_cases b2 : (ent l i).place = 0 <;> by_cases b3 : (ent l i).pars = 0 <;> by_cases b4 : (ent l i).inds = 0 <;> by_cases b5 : (ent l i).level = 0 <;> simp [b1, b2, b3, b4, b5]
  · exact Evt.ifF (by simpa using a1) (Evt.ret.eq (by simp [a1]))
def e154L18721:Nat → (List Ent) → (List ByteArray) → Int → Option (List ByteArray)
 | 0,_,_,_ => none
 | qq + 1,p0,v3,v8 =>
 if decide (v8 < (List.length p0:Int)) then
 gidx p0 v8 >>= fun x2 =>
 gapp 16 v3 [x2.name] >>= fun l4 =>
 e154L18721 qq p0 l4 (w64 (v8 + 1))
 else
 some v3
def e154 (qq:Nat) (p0:List Ent):Option (List ByteArray) :=
 e154L18721 qq p0 [] 0
def g154L18721E0 (j:Nat → Value) (p0:List Ent) (v3:List ByteArray) (v8:Int):=sp j 19 0 [(3,slv strC v3 (.st 0 1)),(6,slv entL p0 .no),(7,ai (List.length p0:Int)),(8,ai v8)]
def g154L18721S0 (p0:List Ent) (v3:List ByteArray) (v8:Int):LSt:=⟨[],0,[0],1,[]⟩
abbrev K154 (p0:List Ent) (r:List ByteArray) (C:Cf):Prop:=C 154 [] [slv entL p0 .no] (.sl (flat strC r) (List.length r) .no) [] 0
theorem q154:Qf 154 Tryz.f154:=⟨Tryz.func154,by kernel_rfl⟩
theorem k154 {p0 r} (h:K154 p0 r Ci):K154 p0 r Ct:=⟨h,⟨⟨tv,dE _⟩,tv⟩,forall_nil,dS _,forall_nil⟩
theorem l154L18721:∀ qq:Nat,(∀ p0 v3 v8 r,e154L18721 qq p0 v3 v8 = some r → (∀ j,Dl Tryz.prog 0 (inn (inn (rgt (lft (rgt (rgt (bod Tryz.f154))))))) (g154L18721E0 j p0 v3 v8) (g154L18721S0 p0 v3 v8) (frameQ Tryz.prog 0 (FinQ Tryz.prog 0 Tryz.f154 (.sl (flat strC r) (List.length r) .no) [] 0) [.blk 0,.seq (rgt (rgt (rgt (bod Tryz.f154))))]))):=by
 intro qq
 induction qq with
 | zero =>
  exact fun _ _ _ _ h => nn h
 | succ qq ih =>
  intro p0 v3 v8 r h
  rw [e154L18721] at h
  rcases spl h with ⟨h1,h⟩ | ⟨h1,h⟩
  obtain ⟨x2,h3,h⟩:=obind h
  obtain ⟨l4,h5,h⟩:=obind h
  exact fun j => lH 1 [] [] [1] [3,6,7,8] (oD (dE p0) <| oD (dS l4) <| oP 4 (apS116 h5 (by simp)) <| oA 0 (ix22 (o:=.no) h3) <| oB 0 h1 o0) (ih _ _ _ _ h)
  obtain rfl:=sj h
  exact fun j => lF 0 [] (oD (dS v3) <| oB 0 h1 o0)
theorem c154 {qq p0 r} (h:e154 qq p0 = some r):K154 p0 r Ct:=by
 unfold e154 at h
 exact k154 (tH q154 1 [(none,3,1)] [] [0] [3,6,7,8] (oD (dE p0) <| oD (dS ([]:List ByteArray)) o0) (l154L18721 _ _ _ _ _ h))
def e155 (qq:Nat) (p0:List Ent) (p1:Int):Option (Bool) :=
 gidx p0 p1 >>= fun x1 =>
 e216 qq x1.name >>= fun r3 =>
 if r3 then
 e217 qq x1.type p1 >>= fun r6 =>
 if r6 then
 if x1.kind == 1 then
 e218 qq p0 p1 >>= fun r10 =>
 some r10
 else
 if x1.kind == 2 then
 e219 qq p0 p1 >>= fun r13 =>
 some r13
 else
 if x1.kind == 4 then
 e220 qq p0 p1 >>= fun r16 =>
 some r16
 else
 if x1.kind == 3 then
 e221 qq p0 p1 >>= fun r19 =>
 some r19
 else
 some false
 else
 some false
 else
 some false
abbrev K155 (p0:List Ent) (p1:Int) (r:Bool) (C:Cf):Prop:=C 155 [] [slv entL p0 .no,ai p1] (ab r) [] 0
theorem q155:Qf 155 Tryz.f155:=⟨Tryz.func155,by kernel_rfl⟩
theorem k155 {p0 p1 r} (h:K155 p0 p1 r Ci):K155 p0 p1 r Ct:=⟨h,⟨⟨tv,dE _⟩,tv,tv⟩,forall_nil,tv,forall_nil⟩
theorem c155 {qq p0 p1 r} (h:e155 qq p0 p1 = some r):K155 p0 p1 r Ct:=by
 unfold e155 at h
 obtain ⟨x1,h2,h⟩:=obind h
 obtain ⟨r3,h4,h⟩:=obind h
 have k:=oA 0 (ix22 (o:=.no) h2) o0
 rcases spl h with ⟨h5,h⟩ | ⟨h5,h⟩
 obtain ⟨r6,h7,h⟩:=obind h
 have k:=oA 1 (ix22 (o:=.no) h2) <| oK 1 [] h5 (c216 h4) k
 rcases spl h with ⟨h8,h⟩ | ⟨h8,h⟩
 have k:=oA 1 (ix22 (o:=.no) h2) <| oK 1 [] h8 (c217 h7) k
 rcases spl h with ⟨h9,h⟩ | ⟨h9,h⟩
 obtain ⟨r10,h11,h⟩:=obind h
 obtain rfl:=sj h
 exact k155 (tF q155 0 [] (oC 0 [] (c218 h11) <| oB 1 h9 k))
 have k:=oB 1 h9 k
 rcases spl h with ⟨h12,h⟩ | ⟨h12,h⟩
 obtain ⟨r13,h14,h⟩:=obind h
 obtain rfl:=sj h
 exact k155 (tF q155 0 [] (oC 0 [] (c219 h14) <| oB 0 h12 k))
 have k:=oB 0 h12 k
 rcases spl h with ⟨h15,h⟩ | ⟨h15,h⟩
 obtain ⟨r16,h17,h⟩:=obind h
 obtain rfl:=sj h
 exact k155 (tF q155 0 [] (oC 0 [] (c220 h17) <| oB 0 h15 k))
 have k:=oB 0 h15 k
 rcases spl h with ⟨h18,h⟩ | ⟨h18,h⟩
 obtain ⟨r19,h20,h⟩:=obind h
 obtain rfl:=sj h
 exact k155 (tF q155 0 [] (oC 0 [] (c221 h20) <| oB 0 h18 k))
 obtain rfl:=sj h
 exact k155 (tF q155 0 [] (oB 0 h18 k))
 obtain rfl:=sj h
 exact k155 (tF q155 1 [] (oK 1 [] h8 (c217 h7) k))
 obtain rfl:=sj h
 exact k155 (tF q155 1 [] (oK 1 [] h5 (c216 h4) k))
def e113v0 (qq:Nat) (p0:List Int):Option (List Int) :=
 some []
abbrev K113v0 (p0 r:List Int) (C:Cf):Prop:=C 113 [] [slv intC p0 .nl] (.sl (flat intC r) (List.length r) .no) [] 0
theorem q113v0:Qf 113 Tryz.f113:=⟨Tryz.func113,by kernel_rfl⟩
theorem k113v0 {p0 r} (h:K113v0 p0 r Ci):K113v0 p0 r Ct:=⟨h,⟨⟨tv,dI _⟩,tv⟩,forall_nil,dI _,forall_nil⟩
theorem c113v0 {qq p0 r} (h:e113v0 qq p0 = some r):K113v0 p0 r Ct:=by
 unfold e113v0 at h
 obtain rfl:=sj h
 exact k113v0 (tF q113v0 1 [] (oD (dI ([]:List Int)) o0))
def e113v1 (qq:Nat) (p0:List Int):Option (List Int) :=
 gapp 8 ([]:List Int) p0 >>= fun l1 =>
 some l1
abbrev K113v1 (p0 r:List Int) (C:Cf):Prop:=C 113 [] [slv intC p0 .nn] (.sl (flat intC r) (List.length r) .no) [] 0
theorem q113v1:Qf 113 Tryz.f113:=⟨Tryz.func113,by kernel_rfl⟩
theorem k113v1 {p0 r} (h:K113v1 p0 r Ci):K113v1 p0 r Ct:=⟨h,⟨⟨tv,dI _⟩,tv⟩,forall_nil,dI _,forall_nil⟩
theorem c113v1 {qq p0 r} (h:e113v1 qq p0 = some r):K113v1 p0 r Ct:=by
 unfold e113v1 at h
 obtain ⟨l1,h2,h⟩:=obind h
 by_cases h3:List.length p0 = 0
 obtain rfl:=sj h
 exact k113v1 (tF q113v1 0 [] (oD (dI l1) <| oP 2 (apN34 h2 h3) o0))
 obtain rfl:=sj h
 exact k113v1 (tF q113v1 0 [] (oD (dI l1) <| oP 2 (apS34 h2 h3) o0))
def e113 (_qq:Nat) (p0:List Int):Option (List Int):=gapp 8 [] p0
theorem c113 {qq:Nat} {p0:List Int} {r:List Int} (h:e113 qq p0 = some r):CT Tryz.prog 113 [] [.sl (flat intC p0) (List.length p0) .no] (.sl (flat intC r) (List.length r) .no) [] 0:=by
  have hr:r = p0:=by have:=(gapp_spec h).2; simpa using this
  have h1:e113v1 qq p0 = some r:=by unfold e113v1; rw [show gapp 8 ([]:List Int) p0 = some r from h]; rfl
  have k1:=c113v1 h1
  refine ⟨CTri.nilcase (fun hn => ?_) k1.tri,⟨⟨trivial,dI _⟩,trivial⟩,(fun _ h => nomatch h),dI _,(fun _ h => nomatch h)⟩
  have hp:p0 = []:=flat_nil codecI (by decide) hn
  subst hr
  subst hp
  exact (c113v0 (qq:=qq) rfl).tri
def e72L63498:Nat → (List Ent) → (List Ent) → Int → Option (List Ent)
 | 0,_,_,_ => none
 | qq + 1,p0,v3,v8 =>
 if decide (v8 < (List.length p0:Int)) then
 gidx p0 v8 >>= fun x2 =>
 e84 qq x2.type >>= fun r4 =>
 e84 qq x2.body >>= fun r6 =>
 e113 qq x2.cons >>= fun r8 =>
 e113 qq x2.fields >>= fun r10 =>
 gapp 192 v3 [(Ent.mk x2.kind x2.name r4 r6 x2.fam x2.place x2.pars x2.inds x2.level r8 r10)] >>= fun l12 =>
 e72L63498 qq p0 l12 (w64 (v8 + 1))
 else
 some v3
def e72 (qq:Nat) (p0:List Ent):Option (List Ent) :=
 e72L63498 qq p0 [] 0
def g72L63498E0 (j:Nat → Value) (p0 v3:List Ent) (v8:Int):=sp j 34 0 [(3,slv entL v3 (.st 0 15)),(6,slv entL p0 .no),(7,ai (List.length p0:Int)),(8,ai v8)]
def g72L63498S0 (p0 v3:List Ent) (v8:Int):LSt:=⟨[],0,[0],1,[]⟩
abbrev K72 (p0 r:List Ent) (C:Cf):Prop:=C 72 [] [slv entL p0 .no] (.sl (flat entL r) (List.length r) .no) [] 0
theorem q72:Qf 72 Tryz.f72:=⟨Tryz.func72,by kernel_rfl⟩
theorem k72 {p0 r} (h:K72 p0 r Ci):K72 p0 r Ct:=⟨h,⟨⟨tv,dE _⟩,tv⟩,forall_nil,dE _,forall_nil⟩
theorem l72L63498:∀ qq:Nat,(∀ p0 v3 v8 r,e72L63498 qq p0 v3 v8 = some r → (∀ j,Dl Tryz.prog 0 (inn (inn (rgt (lft (rgt (rgt (bod Tryz.f72))))))) (g72L63498E0 j p0 v3 v8) (g72L63498S0 p0 v3 v8) (frameQ Tryz.prog 0 (FinQ Tryz.prog 0 Tryz.f72 (.sl (flat entL r) (List.length r) .no) [] 0) [.blk 0,.seq (rgt (rgt (rgt (bod Tryz.f72))))]))):=by
 intro qq
 induction qq with
 | zero =>
  exact fun _ _ _ _ h => nn h
 | succ qq ih =>
  intro p0 v3 v8 r h
  rw [e72L63498] at h
  rcases spl h with ⟨h1,h⟩ | ⟨h1,h⟩
  obtain ⟨x2,h3,h⟩:=obind h
  obtain ⟨r4,h5,h⟩:=obind h
  obtain ⟨r6,h7,h⟩:=obind h
  obtain ⟨r8,h9,h⟩:=obind h
  obtain ⟨r10,h11,h⟩:=obind h
  obtain ⟨l12,h13,h⟩:=obind h
  exact fun j => lH 1 [] [] [1] [3,6,7,8] (oD (dE p0) <| oD (dE l12) <| oP 4 (apS22 h13 (by simp)) <| oC 1 [] (c113 h11) <| oC 3 [] (c113 h9) <| oC 1 [] (c84 h7) <| oC 3 [] (c84 h5) <| oA 0 (ix22 (o:=.no) h3) <| oB 0 h1 o0) (ih _ _ _ _ h)
  obtain rfl:=sj h
  exact fun j => lF 0 [] (oD (dE v3) <| oB 0 h1 o0)
theorem c72 {qq p0 r} (h:e72 qq p0 = some r):K72 p0 r Ct:=by
 unfold e72 at h
 exact k72 (tH q72 1 [(none,3,15)] [] [0] [3,6,7,8] (oD (dE p0) <| oD (dE ([]:List Ent)) o0) (l72L63498 _ _ _ _ _ h))
def e73L47399:Nat → (List Ent) → Int → Option (Bool)
 | 0,_,_ => none
 | qq + 1,p0,v15 =>
 if decide (v15 < (List.length p0:Int)) then
 e155 qq p0 v15 >>= fun r8 =>
 if r8 then
 e73L47399 qq p0 (w64 (v15 + 1))
 else
 some false
 else
 some true
def e73 (qq:Nat) (p0:List Ent):Option (Bool) :=
 if decide ((List.length p0:Int) > 256) then
 some false
 else
 e154 qq p0 >>= fun r2 =>
 e153 qq r2 >>= fun r4 =>
 if r4 then
 e73L47399 qq p0 0
 else
 some false
def g73L47399E0 (j:Nat → Value) (p0:List Ent) (v15:Int):=sp j 23 0 [(0,slv entL p0 .no),(14,ai (List.length p0:Int)),(15,ai v15)]
def g73L47399S0 (p0:List Ent) (v15:Int):LSt:=⟨[],0,[],0,[]⟩
abbrev K73 (p0:List Ent) (r:Bool) (C:Cf):Prop:=C 73 [] [slv entL p0 .no] (ab r) [] 0
theorem q73:Qf 73 Tryz.f73:=⟨Tryz.func73,by kernel_rfl⟩
theorem k73 {p0 r} (h:K73 p0 r Ci):K73 p0 r Ct:=⟨h,⟨⟨tv,dE _⟩,tv⟩,forall_nil,tv,forall_nil⟩
theorem l73L47399:∀ qq:Nat,(∀ p0 v15 r,e73L47399 qq p0 v15 = some r → (∀ j,Dl Tryz.prog 0 (inn (inn (rgt (lft (rgt (rgt (bod Tryz.f73))))))) (g73L47399E0 j p0 v15) (g73L47399S0 p0 v15) (frameQ Tryz.prog 0 (FinQ Tryz.prog 0 Tryz.f73 (ab r) [] 0) [.blk 0,.seq (rgt (rgt (rgt (bod Tryz.f73))))]))):=by
 intro qq
 induction qq with
 | zero =>
  exact fun _ _ _ h => nn h
 | succ qq ih =>
  intro p0 v15 r h
  rw [e73L47399] at h
  rcases spl h with ⟨h7,h⟩ | ⟨h7,h⟩
  obtain ⟨r8,h9,h⟩:=obind h
  have k:=oB 0 h7 o0
  rcases spl h with ⟨h10,h⟩ | ⟨h10,h⟩
  exact fun j => lH 2 [] [] [] [0,14,15] (oD (dE p0) <| oK 0 [] h10 (c155 h9) k) (ih _ _ _ h)
  obtain rfl:=sj h
  exact fun j => lF 1 [] (oK 0 [] h10 (c155 h9) k)
  obtain rfl:=sj h
  exact fun j => lF 0 [] (oB 0 h7 o0)
theorem c73 {qq p0 r} (h:e73 qq p0 = some r):K73 p0 r Ct:=by
 unfold e73 at h
 rcases spl h with ⟨h1,h⟩ | ⟨h1,h⟩
 obtain rfl:=sj h
 exact k73 (tF q73 0 [] (oB 1 h1 o0))
 obtain ⟨r2,h3,h⟩:=obind h
 obtain ⟨r4,h5,h⟩:=obind h
 have k:=oC 0 [] (c154 h3) <| oB 1 h1 o0
 rcases spl h with ⟨h6,h⟩ | ⟨h6,h⟩
 exact k73 (tH q73 2 [] [] [] [0,14,15] (oD (dE p0) <| oK 0 [] h6 (c153 h5) k) (l73L47399 _ _ _ _ h))
 obtain rfl:=sj h
 exact k73 (tF q73 1 [] (oK 0 [] h6 (c153 h5) k))
def entryT (N : ByteArray → Bool) (l : List Ent) (i : Int) : Bool :=
  N (ent l i).name && (closedT' (ent l i).type i &&
    (if (ent l i).kind = 1 then familyT l i else if (ent l i).kind = 2 then conT l i else if (ent l i).kind = 4 then projT l i else if (ent l i).kind = 3 then defT l i else false))
def allE (N : ByteArray → Bool) (l : List Ent) : Nat → Nat → Bool
  | 0, _ => true
  | m + 1, v => entryT N l v && allE N l m (v + 1)
def NamesBy (N : ByteArray → Bool) : Prop := ∀ s, Evt (fun q => e216 q s) (N s)
theorem names_by : ∃ N, NamesBy N := by
  have h : ∀ s, ∃ b, Evt (fun q => e216 q s) b := fun s => by
    obtain ⟨b, hb, _⟩ := tot_nRight s
    exact ⟨b, hb⟩
  exact ⟨fun s => Classical.choose (h s), fun s => Classical.choose_spec (h s)⟩
theorem ev_entry (N : ByteArray → Bool) (hN : NamesBy N) (l : List Ent) (i : Int) (h0 : 0 ≤ i) (h1 : i < l.length) (hl : l.length ≤ 65535) (he : ∀ e ∈ l, EOk e) (hF : FamsOk l i) : Evt (fun q => e155 q l i) (entryT N l i) := by
  simp only [e155]
  have hx := he _ (ent_mem h0 h1)
  refine Evt.pure (gidx_ent h0 h1) ((hN _).bind ?_)
  unfold entryT
  by_cases a1 : N (ent l i).name = true
  · refine Evt.ifT a1 ((ev_sclosed _ i hx.1).bind ?_)
    rw [a1, Bool.true_and]
    by_cases a2 : closedT' (ent l i).type i = true
    · refine Evt.ifT a2 ?_
      rw [a2, Bool.true_and]
      by_cases k1 : (ent l i).kind = 1
      · rw [if_pos k1]; exact Evt.ifT (by simp [k1]) ((ev_family l i h0 h1 hl he).bind Evt.ret)
      rw [if_neg k1]
      refine Evt.ifF (by simp [k1]) ?_
      by_cases k2 : (ent l i).kind = 2
      · rw [if_pos k2]; exact Evt.ifT (by simp [k2]) ((ev_con l i h0 h1 he hF).bind Evt.ret)
      rw [if_neg k2]
      refine Evt.ifF (by simp [k2]) ?_
      by_cases k4 : (ent l i).kind = 4
      · rw [if_pos k4]; exact Evt.ifT (by simp [k4]) ((ev_proj l i h0 h1 he hF).bind Evt.ret)
      rw [if_neg k4]
      refine Evt.ifF (by simp [k4]) ?_
      by_cases k3 : (ent l i).kind = 3
      · rw [if_pos k3]; exact Evt.ifT (by simp [k3]) ((ev_def l i h0 h1 he).bind Evt.ret)
      · rw [if_neg k3]; exact Evt.ifF (by simp [k3]) Evt.ret
    · exact Evt.ifF (by simpa using a2) (Evt.ret.eq (by simp [a2]))
  · exact Evt.ifF (by simpa using a1) (Evt.ret.eq (by simp [a1]))
theorem ev_NamesL : ∀ (r l : List Ent) (v : Nat) (acc : List ByteArray), l.drop v = r → l.length ≤ 65535 → acc.length ≤ v → Evt (fun q => e154L18721 q l acc (v : Int)) (acc ++ r.map Ent.name)
  | [], l, v, acc, hd, hl, ha => by
    refine Evt.succ ?_
    simp only [e154L18721]
    exact Evt.ifF (drop_nil hd) (Evt.ret.eq (by simp))
  | x :: r, l, v, acc, hd, hl, ha => by
    have hlt := drop_lt hd
    refine Evt.succ ?_
    simp only [e154L18721]
    refine Evt.ifT (drop_dec hd) (Evt.pure (drop_idx hd) (Evt.pure (gapp_ok (by simp <;> omega)) ?_))
    rw [w64_nat v (by omega)]
    exact (ev_NamesL r l (v + 1) _ (drop_next hd) hl (by simp <;> omega)).eq (by simp)
theorem ev_Names (l : List Ent) (hl : l.length ≤ 65535) : Evt (fun q => e154 q l) (l.map Ent.name) := by
  simp only [e154]
  exact (ev_NamesL l l 0 [] rfl hl (by simp)).eq (by simp)
theorem ev_FormedL (N : ByteArray → Bool) (hN : NamesBy N) (l : List Ent) (hl : l.length ≤ 65535) (he : ∀ e ∈ l, EOk e) : ∀ (m v : Nat), v + m = l.length → FamsOk l v → Evt (fun q => e73L47399 q l (v : Int)) (allE N l m v) := by
  intro m
  induction m with
  | zero =>
    intro v hm hF
    refine Evt.succ ?_
    simp only [e73L47399]
    exact Evt.ifF (decide_eq_false (by omega)) Evt.ret
  | succ m ih =>
    intro v hm hF
    refine Evt.succ ?_
    simp only [e73L47399]
    refine Evt.ifT (decide_eq_true (by omega)) ((ev_entry N hN l v (by omega) (by omega) hl he hF).bind ?_)
    rw [allE]
    by_cases h : entryT N l v = true
    · refine Evt.ifT h ?_
      rw [w64_nat v (by omega), h, Bool.true_and]
      refine ih (v + 1) (by omega) fun j hj0 hj1 hk => ?_
      by_cases e : j = v
      · subst e
        unfold entryT at h
        simp only [Bool.and_eq_true] at h
        have := h.2.2
        rwa [if_pos hk] at this
      · exact hF j hj0 (by omega) hk
    · exact Evt.ifF (by simpa using h) (Evt.ret.eq (by simp [h]))
def formedT (N : ByteArray → Bool) (d : Bool) (l : List Ent) : Bool := decide (l.length ≤ 256) && (d && allE N l l.length 0)
theorem ev_Formed (N : ByteArray → Bool) (hN : NamesBy N) (l : List Ent) (hl : l.length ≤ 65535) (he : ∀ e ∈ l, EOk e) : ∃ d, Evt (fun q => e153 q (l.map Ent.name)) d ∧ Evt (fun q => e73 q l) (formedT N d l) := by
  obtain ⟨d, hd, _⟩ := tot_Distinct (l.map Ent.name) (by simpa using hl)
  refine ⟨d, hd, ?_⟩
  simp only [e73]
  unfold formedT
  by_cases h : l.length ≤ 256
  · refine Evt.ifF (decide_eq_false (by omega)) ((ev_Names l hl).bind (hd.bind ?_))
    cases d with
    | false => exact Evt.ifF rfl (Evt.ret.eq (by simp))
    | true => exact Evt.ifT rfl ((ev_FormedL N hN l hl he l.length 0 (by omega) (fun j h0 h1 => by omega)).eq (by simp [h]))
  · exact Evt.ifT (decide_eq_true (by omega)) (Evt.ret.eq (by simp [h]))
theorem allE_spec {N : ByteArray → Bool} {l : List Ent} : ∀ {m v : Nat}, allE N l m v = true → ∀ j, v ≤ j → j < v + m → entryT N l (j : Int) = true
  | 0, v, _, j, h0, h1 => by omega
  | m + 1, v, h, j, h0, h1 => by
    rw [allE] at h
    simp only [Bool.and_eq_true] at h
    by_cases e : j = v
    · subst e; exact h.1
    · exact allE_spec h.2 j (by omega) (by omega)
def AllE (N : ByteArray → Bool) (l : List Ent) : Prop := l.length ≤ 256 ∧ ∀ i : Int, 0 ≤ i → i < l.length → entryT N l i = true
theorem formedT_spec {N : ByteArray → Bool} {d : Bool} {l : List Ent} (h : formedT N d l = true) : AllE N l := by
  unfold formedT at h
  simp only [Bool.and_eq_true, decide_eq_true_eq] at h
  refine ⟨h.1, fun i h0 h1 => ?_⟩
  have := allE_spec h.2.2 i.toNat (by omega) (by omega)
  rwa [show ((i.toNat : Nat) : Int) = i by omega] at this
theorem entryT_spec {N : ByteArray → Bool} {l : List Ent} {i : Int} (h : entryT N l i = true) : closedT' (ent l i).type i = true ∧
    ((ent l i).kind = 1 → familyT l i = true) ∧ ((ent l i).kind = 2 → conT l i = true) ∧ ((ent l i).kind = 4 → projT l i = true) ∧ ((ent l i).kind = 3 → defT l i = true) ∧ ((ent l i).kind = 1 ∨ (ent l i).kind = 2 ∨ (ent l i).kind = 3 ∨ (ent l i).kind = 4) := by
  unfold entryT at h
  simp only [Bool.and_eq_true] at h
  obtain ⟨_, h2, h3⟩ := h
  refine ⟨h2, fun k => by rwa [if_pos k] at h3, fun k => ?_, fun k => ?_, fun k => ?_, ?_⟩
  · rwa [if_neg (by omega), if_pos k] at h3
  · rwa [if_neg (by omega), if_neg (by omega), if_pos k] at h3
  · rwa [if_neg (by omega), if_neg (by omega), if_neg (by omega), if_pos k] at h3
  · split at h3
    · exact .inl (by assumption)
    · split at h3
      · exact .inr (.inl (by assumption))
      · split at h3
        · exact .inr (.inr (.inr (by assumption)))
        · split at h3
          · exact .inr (.inr (.inl (by assumption)))
          · cases h3
def copE (e : Ent) : Ent := Ent.mk e.kind e.name (copT e.type) (copT e.body) e.fam e.place e.pars e.inds e.level e.cons e.fields
def ECl (e : Ent) : Prop := e.cons.length ≤ 17592186044416 ∧ e.fields.length ≤ 17592186044416
theorem ev_CopyL : ∀ (r l acc : List Ent) (v : Nat), l.drop v = r → l.length ≤ 65535 → (∀ e ∈ l, EOk e) → (∀ e ∈ l, ECl e) → acc.length ≤ v → Evt (fun q => e72L63498 q l acc (v : Int)) (acc ++ r.map copE)
  | [], l, acc, v, hd, hl, he, hc, ha => by
    refine Evt.succ ?_
    simp only [e72L63498]
    exact Evt.ifF (drop_nil hd) (Evt.ret.eq (by simp))
  | x :: r, l, acc, v, hd, hl, he, hc, ha => by
    have hlt := drop_lt hd
    have hx : x ∈ l := by
      have : x ∈ l.drop v := by rw [hd]; simp
      exact List.mem_of_mem_drop this
    have hE := he x hx
    have hC := hc x hx
    refine Evt.succ ?_
    simp only [e72L63498]
    refine Evt.ifT (drop_dec hd) (Evt.pure (drop_idx hd) ((ev_Copy _ hE.1).bind ((ev_Copy _ hE.2.1).bind ?_)))
    refine Evt.bind (a := x.cons) (Evt.mk fun q => (gapp_ok (by have := hC.1; simp <;> omega)).trans (by simp)) (Evt.bind (a := x.fields) (Evt.mk fun q => (gapp_ok (by have := hC.2; simp <;> omega)).trans (by simp)) (Evt.pure (gapp_ok (by simp <;> omega)) ?_))
    rw [w64_nat v (by omega)]
    exact (ev_CopyL r l _ (v + 1) (drop_next hd) hl he hc (by simp <;> omega)).eq (by simp [copE])
theorem ev_sCopy (l : List Ent) (hl : l.length ≤ 65535) (he : ∀ e ∈ l, EOk e) (hc : ∀ e ∈ l, ECl e) : Evt (fun q => e72 q l) (l.map copE) := by
  simp only [e72]
  exact (ev_CopyL l l [] 0 rfl hl he hc (by simp)).eq (by simp)
theorem closed_shaped {t : Tm} {n : Int} (h : closedT' t n = true) : shapedT t = true := by
  unfold closedT' rightT at h
  simp only [Bool.and_eq_true] at h
  exact h.1.1.1
theorem noneT_spec {t : Tm} (h : noneT t = true) : t = zT := by
  unfold noneT at h
  simp only [Bool.and_eq_true, beq_iff_eq] at h
  obtain ⟨k, n, l⟩ := t
  have h1 : k = 0 := h.1.1
  have h2 : n = 0 := h.1.2
  have h3 : l = [] := List.length_eq_zero_iff.1 (by have : (l.length : Int) = 0 := h.2; omega)
  subst h1; subst h2; subst h3; rfl
theorem copT_none {t : Tm} (h : noneT t = true) : copT t = t := by
  rw [noneT_spec h]
  unfold copT
  split
  · rfl
  · rfl
theorem copE_same {N : ByteArray → Bool} {l : List Ent} {i : Int} (h : entryT N l i = true) : copE (ent l i) = ent l i := by
  have hs := entryT_spec h
  have h1 : copT (ent l i).type = (ent l i).type := by unfold copT; rw [if_pos (closed_shaped hs.1)]
  have own : ownedT l i = true → copT (ent l i).body = (ent l i).body := fun ho => by
    unfold ownedT ownA at ho
    simp only [Bool.and_eq_true] at ho
    exact copT_none ho.1.1.1.1.1.2
  have h2 : copT (ent l i).body = (ent l i).body := by
    rcases hs.2.2.2.2.2 with k | k | k | k
    · have := hs.2.1 k
      unfold familyT famA at this
      simp only [Bool.and_eq_true] at this
      exact copT_none this.1.1.1.2
    · have := hs.2.2.1 k
      unfold conT at this
      simp only [Bool.and_eq_true] at this
      exact own this.1
    · have := hs.2.2.2.2.1 k
      unfold defT at this
      simp only [Bool.and_eq_true] at this
      unfold copT; rw [if_pos (closed_shaped this.1)]
    · have := hs.2.2.2.1 k
      unfold projT at this
      simp only [Bool.and_eq_true] at this
      exact own this.1
  unfold copE
  rw [h1, h2]
theorem copy_same {N : ByteArray → Bool} {l : List Ent} (h : AllE N l) : l.map copE = l := by
  refine List.ext_getElem (by simp) fun i h1 h2 => ?_
  simp only [List.getElem_map]
  have := copE_same (h.2 (i : Int) (by omega) (by omega))
  have e : ent l (i : Int) = l[i] := by
    unfold ent
    rw [show (i : Int).toNat = i by omega, List.getElem?_eq_getElem h2]; rfl
  rwa [e] at this
def e118v0 (qq:Nat) (p0:List Tm):Option (List Tm) :=
 some []
abbrev K118v0 (p0 r:List Tm) (C:Cf):Prop:=C 118 [] [slv tmCells p0 .nl] (.sl (flat tmCells r) (List.length r) .no) [] 0
theorem q118v0:Qf 118 Tryz.f118:=⟨Tryz.func118,by kernel_rfl⟩
theorem k118v0 {p0 r} (h:K118v0 p0 r Ci):K118v0 p0 r Ct:=⟨h,⟨⟨tv,dT _⟩,tv⟩,forall_nil,dT _,forall_nil⟩
theorem c118v0 {qq p0 r} (h:e118v0 qq p0 = some r):K118v0 p0 r Ct:=by
 unfold e118v0 at h
 obtain rfl:=sj h
 exact k118v0 (tF q118v0 1 [] (oD (dT ([]:List Tm)) o0))
def e118v1 (qq:Nat) (p0:List Tm):Option (List Tm) :=
 gapp 40 ([]:List Tm) p0 >>= fun l1 =>
 some l1
abbrev K118v1 (p0 r:List Tm) (C:Cf):Prop:=C 118 [] [slv tmCells p0 .nn] (.sl (flat tmCells r) (List.length r) .no) [] 0
theorem q118v1:Qf 118 Tryz.f118:=⟨Tryz.func118,by kernel_rfl⟩
theorem k118v1 {p0 r} (h:K118v1 p0 r Ci):K118v1 p0 r Ct:=⟨h,⟨⟨tv,dT _⟩,tv⟩,forall_nil,dT _,forall_nil⟩
theorem c118v1 {qq p0 r} (h:e118v1 qq p0 = some r):K118v1 p0 r Ct:=by
 unfold e118v1 at h
 obtain ⟨l1,h2,h⟩:=obind h
 by_cases h3:List.length p0 = 0
 obtain rfl:=sj h
 exact k118v1 (tF q118v1 0 [] (oD (dT l1) <| oP 2 (apN23 h2 h3) o0))
 obtain rfl:=sj h
 exact k118v1 (tF q118v1 0 [] (oD (dT l1) <| oP 2 (apS23 h2 h3) o0))
def e118 (_qq:Nat) (p0:List Tm):Option (List Tm):=gapp 40 [] p0
theorem c118 {qq:Nat} {p0:List Tm} {r:List Tm} (h:e118 qq p0 = some r):CT Tryz.prog 118 [] [.sl (flat tmCells p0) (List.length p0) .no] (.sl (flat tmCells r) (List.length r) .no) [] 0:=by
  have hr:r = p0:=by have:=(gapp_spec h).2; simpa using this
  have h1:e118v1 qq p0 = some r:=by unfold e118v1; rw [show gapp 40 ([]:List Tm) p0 = some r from h]; rfl
  have k1:=c118v1 h1
  refine ⟨CTri.nilcase (fun hn => ?_) k1.tri,⟨⟨trivial,dT _⟩,trivial⟩,(fun _ h => nomatch h),dT _,(fun _ h => nomatch h)⟩
  have hp:p0 = []:=flat_nil codecT (by decide) hn
  subst hr
  subst hp
  exact (c118v0 (qq:=qq) rfl).tri
def e223 (qq:Nat) (p0:List Ent) (p1:Tm) (p2 p3:Int):Option (Rec') :=
 e222 qq p1 >>= fun r1 =>
 e158 qq r1.2.1 >>= fun r3 =>
 if r1.2.2 != 0 then
 some (Rec'.mk false [] [])
 else
 if r3.1.k != 6 then
 some (Rec'.mk false [] [])
 else
 if r3.1.n != p2 then
 some (Rec'.mk false [] [])
 else
 gidx p0 p2 >>= fun x8 =>
 e267 qq r1.2.1 p2 x8.pars x8.inds (w64 (p3 + (List.length r1.1:Int))) >>= fun r10 =>
 if r10 then
 gsl r3.2 x8.pars (List.length r3.2:Int) >>= fun x13 =>
 e118 qq x13 >>= fun r15 =>
 some (Rec'.mk true r1.1 r15)
 else
 some (Rec'.mk false [] [])
abbrev K223 (p0:List Ent) (p1:Tm) (p2 p3:Int) (r:Rec') (C:Cf):Prop:=C 223 [] [slv entL p0 .no,tmA p1,ai p2,ai p3] (recA r) [] 0
theorem q223:Qf 223 Tryz.f223:=⟨Tryz.func223,by kernel_rfl⟩
theorem k223 {p0 p1 p2 p3 r} (h:K223 p0 p1 p2 p3 r Ci):K223 p0 p1 p2 p3 r Ct:=⟨h,⟨⟨tv,dE _⟩,⟨tv,tv,⟨tv,dT _⟩,tv⟩,tv,tv,tv⟩,forall_nil,⟨tv,dT _,dT _,tv⟩,forall_nil⟩
theorem c223 {qq p0 p1 p2 p3 r} (h:e223 qq p0 p1 p2 p3 = some r):K223 p0 p1 p2 p3 r Ct:=by
 unfold e223 at h
 obtain ⟨r1,h2,h⟩:=obind h
 obtain ⟨r3,h4,h⟩:=obind h
 have k:=oC 5 [] (c158 h4) <| oC 1 [] (c222 h2) o0
 rcases spl h with ⟨h5,h⟩ | ⟨h5,h⟩
 obtain rfl:=sj h
 exact k223 (tF q223 1 [] (oD (dT ([]:List Tm)) <| oD (dT ([]:List Tm)) <| oB 3 h5 k))
 have k:=oB 3 h5 k
 rcases spl h with ⟨h6,h⟩ | ⟨h6,h⟩
 obtain rfl:=sj h
 exact k223 (tF q223 1 [] (oD (dT ([]:List Tm)) <| oD (dT ([]:List Tm)) <| oB 1 h6 k))
 have k:=oB 1 h6 k
 rcases spl h with ⟨h7,h⟩ | ⟨h7,h⟩
 obtain rfl:=sj h
 exact k223 (tF q223 1 [] (oD (dT ([]:List Tm)) <| oD (dT ([]:List Tm)) <| oB 1 h7 k))
 obtain ⟨x8,h9,h⟩:=obind h
 obtain ⟨r10,h11,h⟩:=obind h
 have k:=oA 1 (ix22 (o:=.no) h9) <| oA 1 (ix22 (o:=.no) h9) <| oB 1 h7 k
 rcases spl h with ⟨h12,h⟩ | ⟨h12,h⟩
 obtain ⟨x13,h14,h⟩:=obind h
 obtain ⟨r15,h16,h⟩:=obind h
 obtain rfl:=sj h
 exact k223 (tF q223 1 [] (oD (dT r15) <| oD (dT r1.1) <| oC 0 [] (c118 h16) <| oA 1 (slFrom23 h14) <| oA 1 (ix22 (o:=.no) h9) <| oK 3 [] h12 (c267 h11) k))
 obtain rfl:=sj h
 exact k223 (tF q223 2 [] (oD (dT ([]:List Tm)) <| oD (dT ([]:List Tm)) <| oK 3 [] h12 (c267 h11) k))
def e156L48011:Nat → (List Ent) → Ent → (List Tm) → (List Tm) → Int → (List Rec') → Option (Con')
 | 0,_,_,_,_,_,_ => none
 | qq + 1,p0,x1,x7,r11,v43,vb2_2 =>
 if decide (v43 < (List.length x7:Int)) then
 gidx x7 v43 >>= fun x14 =>
 e223 qq p0 x14 x1.fam (w64 (x1.pars + v43)) >>= fun r16 =>
 gapp 56 vb2_2 [r16] >>= fun l18 =>
 e156L48011 qq p0 x1 x7 r11 (w64 (v43 + 1)) l18
 else
 some (Con'.mk x7 r11 vb2_2)
def e156 (qq:Nat) (p0:List Ent) (p1:Int):Option (Con') :=
 gidx p0 p1 >>= fun x1 =>
 e222 qq x1.type >>= fun r3 =>
 e158 qq r3.2.1 >>= fun r5 =>
 gsl r3.1 x1.pars (List.length r3.1:Int) >>= fun x7 =>
 gsl r5.2 x1.pars (List.length r5.2:Int) >>= fun x9 =>
 e118 qq x9 >>= fun r11 =>
 e156L48011 qq p0 x1 x7 r11 0 []
def g156L48011E0 (j:Nat → Value) (p0:List Ent) (x1:Ent) (x7 r11:List Tm) (v43:Int) (vb2_2:List Rec'):=sp j 64 0 [(0,slv entL p0 .no),(4,.mp 0 0),(5,.mp 1 0),(11,.mp 2 0),(41,slv tmCells x7 .no),(42,ai (List.length x7:Int)),(43,ai v43)]
def g156L48011S0 (p0:List Ent) (x1:Ent) (x7 r11:List Tm) (v43:Int) (vb2_2:List Rec'):LSt:=⟨[(0,.cells [slv tmCells ([]:List Tm) .nl,slv tmCells ([]:List Tm) .nl,slv recL ([]:List Rec') .nl]),(1,.cells [ai x1.kind,at' x1.name,ai x1.type.k,ai x1.type.n,slv tmCells x1.type.sub .no,ai x1.body.k,ai x1.body.n,slv tmCells x1.body.sub .no,ai x1.fam,ai x1.place,ai x1.pars,ai x1.inds,ai x1.level,slv intC x1.cons .no,slv intC x1.fields .no]),(2,.cells [slv tmCells x7 .no,slv tmCells r11 .no,slv recL vb2_2 (.st 0 3)])],3,[0],1,[]⟩
abbrev K156 (p0:List Ent) (p1:Int) (r:Con') (C:Cf):Prop:=C 156 [] [slv entL p0 .no,ai p1] (conA r) [] 0
theorem q156:Qf 156 Tryz.f156:=⟨Tryz.func156,by kernel_rfl⟩
theorem k156 {p0 p1 r} (h:K156 p0 p1 r Ci):K156 p0 p1 r Ct:=⟨h,⟨⟨tv,dE _⟩,tv,tv⟩,forall_nil,⟨dT _,dT _,dR _,tv⟩,forall_nil⟩
theorem l156L48011:∀ qq:Nat,(∀ p0 x1 x7 r11 v43 vb2_2 r,e156L48011 qq p0 x1 x7 r11 v43 vb2_2 = some r → (∀ j,Dl Tryz.prog 0 (inn (inn (rgt (lft (rgt (rgt (rgt (rgt (rgt (bod Tryz.f156)))))))))) (g156L48011E0 j p0 x1 x7 r11 v43 vb2_2) (g156L48011S0 p0 x1 x7 r11 v43 vb2_2) (frameQ Tryz.prog 0 (FinQ Tryz.prog 0 Tryz.f156 (conA r) [] 0) [.blk 0,.seq (rgt (rgt (rgt (rgt (rgt (rgt (bod Tryz.f156)))))))]))):=by
 intro qq
 induction qq with
 | zero =>
  exact fun _ _ _ _ _ _ _ h => nn h
 | succ qq ih =>
  intro p0 x1 x7 r11 v43 vb2_2 r h
  rw [e156L48011] at h
  rcases spl h with ⟨h13,h⟩ | ⟨h13,h⟩
  obtain ⟨x14,h15,h⟩:=obind h
  obtain ⟨r16,h17,h⟩:=obind h
  obtain ⟨l18,h19,h⟩:=obind h
  exact fun j => lH 2 [] [0,1,2] [1] [0,4,5,11,41,42,43] (oD (dT x7) <| oD (dE p0) <| oD (dR l18) <| oD (dT r11) <| oD (dT x7) <| oD (dI x1.fields) <| oD (dI x1.cons) <| oD (dT x1.body.sub) <| oD (dT x1.type.sub) <| oD (dR ([]:List Rec')) <| oD (dT ([]:List Tm)) <| oD (dT ([]:List Tm)) <| oP 1 (apS230 h19 (by simp)) <| oC 7 [] (c223 h17) <| oA 0 (ix23 (o:=.no) h15) <| oB 0 h13 o0) (ih _ _ _ _ _ _ _ h)
  obtain rfl:=sj h
  exact fun j => lF 2 [] (oD (dR vb2_2) <| oD (dT r11) <| oD (dT x7) <| oB 0 h13 o0)
theorem c156 {qq p0 p1 r} (h:e156 qq p0 p1 = some r):K156 p0 p1 r Ct:=by
 unfold e156 at h
 obtain ⟨x1,h2,h⟩:=obind h
 obtain ⟨r3,h4,h⟩:=obind h
 obtain ⟨r5,h6,h⟩:=obind h
 obtain ⟨x7,h8,h⟩:=obind h
 obtain ⟨x9,h10,h⟩:=obind h
 obtain ⟨r11,h12,h⟩:=obind h
 exact k156 (tH q156 3 [(some 4,2,3)] [0,1,4] [0] [0,4,5,11,41,42,43] (oD (dT x7) <| oD (dE p0) <| oD (dR ([]:List Rec')) <| oD (dT r11) <| oD (dT x7) <| oD (dI x1.fields) <| oD (dI x1.cons) <| oD (dT x1.body.sub) <| oD (dT x1.type.sub) <| oD (dR ([]:List Rec')) <| oD (dT ([]:List Tm)) <| oD (dT ([]:List Tm)) <| oC 0 [] (c118 h12) <| oA 1 (slFrom23 h10) <| oA 4 (slFrom23 h8) <| oC 5 [] (c158 h6) <| oC 3 [] (c222 h4) <| oA 0 (ix22 (o:=.no) h2) o0) (l156L48011 _ _ _ _ _ _ _ _ h))
def e74L16016:Nat → (List Ent) → (List Con') → Int → (List Con') → Option ((List Con' × Int) ⊕ (List Con' × Int))
 | 0,_,_,_,_ => none
 | qq + 1,p0,x4,v14,vb0_0 =>
 if decide (v14 < (List.length p0:Int)) then
 gidx p0 v14 >>= fun x7 =>
 if x7.kind == 2 then
 e156 qq p0 v14 >>= fun r10 =>
 gchk (List.length x4) v14 >>= fun x12 =>
 gset vb0_0 x12 r10 >>= fun x14 =>
 e74L16016 qq p0 x4 (w64 (v14 + 1)) x14
 else
 e74L16016 qq p0 x4 (w64 (v14 + 1)) vb0_0
 else
 gfz (List.length x4) vb0_0 >>= fun l16 =>
 some (Sum.inr (l16,0))
def e74 (qq:Nat) (p0:List Ent):Option ((List Con' × Int) ⊕ (List Con' × Int)) :=
 e73 qq p0 >>= fun r1 =>
 if r1 then
 gmk 72 (default:Con') (List.length p0:Int) >>= fun x4 =>
 e74L16016 qq p0 x4 0 x4
 else
 some (Sum.inl ([],5))
def g74L16016E0 (j:Nat → Value) (p0:List Ent) (x4:List Con') (v14:Int) (vb0_0:List Con'):=sp j 31 0 [(0,slv entL p0 .no),(4,.ms 0 0 (List.length x4) (List.length x4) 3),(13,ai (List.length p0:Int)),(14,ai v14)]
def g74L16016S0 (p0:List Ent) (x4:List Con') (v14:Int) (vb0_0:List Con'):LSt:=⟨[(0,.row (flat conL vb0_0))],1,[],0,[]⟩
abbrev K74s0 (p0:List Ent) (r:List Con' × Int) (C:Cf):Prop:=C 74 [] [slv entL p0 .no] (.tup [.sl (flat conL r.1) (List.length r.1) .no,ai r.2]) [] 0
abbrev K74s1 (p0:List Ent) (r:List Con' × Int) (C:Cf):Prop:=C 74 [] [slv entL p0 .no] (.tup [.ms 0 0 (List.length r.1) (List.length r.1) 3,ai r.2]) [.row (flat conL r.1)] 0
theorem q74:Qf 74 Tryz.f74:=⟨Tryz.func74,by kernel_rfl⟩
theorem k74s0 {p0 r} (h:K74s0 p0 r Ci):K74s0 p0 r Ct:=⟨h,⟨⟨tv,dE _⟩,tv⟩,forall_nil,⟨dC _,tv,tv⟩,forall_nil⟩
theorem k74s1 {p0 r} (h:K74s1 p0 r Ci):K74s1 p0 r Ct:=⟨h,⟨⟨tv,dE _⟩,tv⟩,forall_nil,⟨(lz rfl),tv,tv⟩,(forall_cons (dC _) forall_nil)⟩
theorem l74L16016:∀ qq:Nat,(∀ p0 x4 v14 vb0_0 r,e74L16016 qq p0 x4 v14 vb0_0 = some r → (∀ j,Dl Tryz.prog 0 (inn (inn (rgt (lft (rgt (rgt (rgt (bod Tryz.f74)))))))) (g74L16016E0 j p0 x4 v14 vb0_0) (g74L16016S0 p0 x4 v14 vb0_0) (frameQ Tryz.prog 0 ((match (generalizing:=false) r with | Sum.inl x => FinQ Tryz.prog 0 Tryz.f74 (.tup [.sl (flat conL x.1) (List.length x.1) .no,ai x.2]) [] 0 | Sum.inr x => FinQ Tryz.prog 0 Tryz.f74 (.tup [.ms 0 0 (List.length x.1) (List.length x.1) 3,ai x.2]) [.row (flat conL x.1)] 0)) [.blk 0,.seq (rgt (rgt (rgt (rgt (bod Tryz.f74)))))]))):=by
 intro qq
 induction qq with
 | zero =>
  exact fun _ _ _ _ _ h => nn h
 | succ qq ih =>
  intro p0 x4 v14 vb0_0 r h
  rw [e74L16016] at h
  rcases spl h with ⟨h6,h⟩ | ⟨h6,h⟩
  obtain ⟨x7,h8,h⟩:=obind h
  have k:=oA 0 (ix22 (o:=.no) h8) <| oB 0 h6 o0
  rcases spl h with ⟨h9,h⟩ | ⟨h9,h⟩
  obtain ⟨r10,h11,h⟩:=obind h
  obtain ⟨x12,h13,h⟩:=obind h
  obtain ⟨x14,h15,h⟩:=obind h
  exact fun j => lH 1 [] [0] [] [0,4,13,14] (oD (dE p0) <| oD (dC x14) <| oW 0 (wtE (x:=r10) (cs:=[slv tmCells r10.args .no,slv tmCells r10.inds .no,slv recL r10.recs .no]) codecC rfl h15) <| oA 0 (ixM120 (b:=0) (c:=List.length x4) (z:=3) h13) <| oC 0 [] (c156 h11) <| oB 1 h9 k) (ih _ _ _ _ _ h)
  exact fun j => lH 1 [] [0] [] [0,4,13,14] (oD (dE p0) <| oD (dC vb0_0) <| oB 1 h9 k) (ih _ _ _ _ _ h)
  obtain ⟨l16,h17,h⟩:=obind h
  obtain ⟨h17a,h17b⟩:=gfz_spec h17
  obtain rfl:=sj h
  obtain rfl:=h17a.symm
  dsimp only
  rw [← h17b]
  exact fun j => lF 0 [0] (oD (dC vb0_0) <| oB 0 h6 o0)
theorem c74r {qq p0 r} (h:e74 qq p0 = some r):(match (generalizing:=false) r with | Sum.inl x => K74s0 p0 x Ct | Sum.inr x => K74s1 p0 x Ct):=by
 unfold e74 at h
 obtain ⟨r1,h2,h⟩:=obind h
 rcases spl h with ⟨h3,h⟩ | ⟨h3,h⟩
 obtain ⟨x4,h5,h⟩:=obind h
 rcases r with y0 | y1
 exact k74s0 (tH q74 1 [] [0] [] [0,4,13,14] (oD (dE p0) <| oD (dC x4) <| oM 2 (mkM120 h5) <| oK 0 [] h3 (c73 h2) o0) (l74L16016 _ _ _ _ _ _ h))
 exact k74s1 (tH q74 1 [] [0] [] [0,4,13,14] (oD (dE p0) <| oD (dC x4) <| oM 2 (mkM120 h5) <| oK 0 [] h3 (c73 h2) o0) (l74L16016 _ _ _ _ _ _ h))
 obtain rfl:=sj h
 exact k74s0 (tF q74 1 [] (oD (dC ([]:List Con')) <| oK 0 [] h3 (c73 h2) o0))
theorem c74 {qq p0 r} (h:e74 qq p0 = some r):(match (generalizing:=false) r with | Sum.inl x => CT Tryz.prog 74 [] [slv entL p0 .no] (.tup [.sl (flat conL x.1) (List.length x.1) .no,ai x.2]) [] 0 | Sum.inr x => CT Tryz.prog 74 [] [slv entL p0 .no] (.tup [.sl (flat conL x.1) (List.length x.1) .no,ai x.2]) [] 0):=by
  have k:=c74r h
  rcases r with y0 | y1
  · exact k
  · exact CT.freeze (H1:=[]) (cs:=flat conL y1.1) (res':=(.tup [.sl (flat conL y1.1) (List.length y1.1) .no,ai y1.2])) k (Nat.le_of_ble_eq_true rfl) forall_nil (dC _) ⟨(.inl ⟨rfl,rfl⟩),trivial,tv⟩ (by rfl) rfl
theorem splitT_err {t : Tm} {n : Int} (h : (splitT t n).2.2 ≠ 0) : (splitT t n).2.1 = zT ∧ (splitT t n).1 = [] := by
  unfold splitT at h ⊢
  split
  · split
    · exact ⟨rfl, rfl⟩
    · split
      · exact ⟨rfl, rfl⟩
      · rename_i h1 h2 h3
        rw [if_pos h1, if_neg h2, if_neg h3] at h
        cases hr : splT n.toNat t with
        | none => exact ⟨rfl, rfl⟩
        | some r => rw [hr] at h; exact absurd rfl h
  · exact ⟨rfl, rfl⟩
theorem spine_z : Evt (fun q => e158 q zT) (hdT zT, arT zT) := by
  refine Evt.mk fun q => ?_
  show g158L0 zT zT [] = _
  unfold zT g158L0 hdT arT
  simp
theorem ev_SpineW (t : Tm) : Evt (fun q => e158 q (wholeT t).2.1) (hdT (wholeT t).2.1, arT (wholeT t).2.1) := by
  by_cases h : (wholeT t).2.2 = 0
  · have hw := wholeT_ok (t := t) (l := (wholeT t).1) (y := (wholeT t).2.1) (by rw [← h])
    exact ev_Spine _ hw.2.2.2.2.1
  · have := (splitT_err (t := t) (n := ((min (pisT t) 25 : Nat) : Int)) h).1
    have e : (wholeT t).2.1 = zT := this
    rw [e]; exact spine_z
def recT (l : List Ent) (t : Tm) (of b : Int) : Rec' :=
  if (wholeT t).2.2 = 0 ∧ appliedT (wholeT t).2.1 of (ent l of).pars (ent l of).inds (b + (wholeT t).1.length) = true then Rec'.mk true (wholeT t).1 ((arT (wholeT t).2.1).drop (ent l of).pars.toNat) else Rec'.mk false [] []
theorem gsl_from {α : Type} {L : List α} {n : Int} (h0 : 0 ≤ n) (h1 : n ≤ L.length) : gsl L n (L.length : Int) = some (L.drop n.toNat) := by
  unfold gsl
  rw [if_pos ⟨h0, h1, by omega⟩]
  congr 1
  exact List.take_of_length_le (by simp; omega)
theorem appliedT_spec {t : Tm} {of pars more b : Int} (h : appliedT t of pars more b = true) : (hdT t).k = 6 ∧ (hdT t).n = of ∧ ((arT t).length : Int) = pars + more := by
  unfold appliedT at h
  simp only [Bool.and_eq_true, beq_iff_eq] at h
  exact ⟨h.1.1.1, h.1.1.2, h.1.2⟩
theorem ev_rec (l : List Ent) (t : Tm) (of b : Int) (ho : t.Ok) (h0 : 0 ≤ of) (h1 : of < l.length) (hp : 0 ≤ (ent l of).pars ∧ 0 ≤ (ent l of).inds ∧ (ent l of).pars + (ent l of).inds ≤ 24) (hb : 0 ≤ b ∧ b ≤ 1048576) :
    Evt (fun q => e223 q l t of b) (recT l t of b) := by
  simp only [e223]
  refine (ev_Whole t ho).bind ((ev_SpineW t).bind ?_)
  unfold recT
  by_cases a1 : (wholeT t).2.2 = 0
  · have hw := wholeT_ok (t := t) (l := (wholeT t).1) (y := (wholeT t).2.1) (by rw [← a1])
    refine Evt.ifF (by simp [a1]) ?_
    have hlen := hw.2.2.1
    rw [w64_id (x := b + ((wholeT t).1.length : Int)) (by omega) (by omega)]
    have ha := ev_applied (wholeT t).2.1 of (ent l of).pars (ent l of).inds (b + (wholeT t).1.length) hw.2.2.2.2.1 (by omega) (by omega) (by omega)
    by_cases a2 : appliedT (wholeT t).2.1 of (ent l of).pars (ent l of).inds (b + (wholeT t).1.length) = true
    · have hs := appliedT_spec a2
      rw [if_pos ⟨a1, a2⟩]
      refine Evt.ifF (by simp [hs.1]) (Evt.ifF (by simp [hs.2.1]) (Evt.pure (gidx_ent h0 h1) (ha.bind (Evt.ifT a2 (Evt.pure (gsl_from hp.1 (by show _ ≤ ((arT (wholeT t).2.1).length : Int); omega)) ?_)))))
      have hal := ar_len _ (shapedT_spec hw.2.2.2.2.1).2.2
      have hn := (shapedT_spec hw.2.2.2.2.1).1
      refine Evt.bind (a := (arT (wholeT t).2.1).drop (ent l of).pars.toNat) (Evt.mk fun q => (gapp_ok (by simp <;> omega)).trans (by simp)) Evt.ret
    · rw [if_neg (fun h => a2 h.2)]
      refine Evt.iff (fun _ => Evt.ret) fun _ => Evt.iff (fun _ => Evt.ret) fun _ => Evt.pure (gidx_ent h0 h1) (ha.bind (Evt.ifF (by simpa using a2) Evt.ret))
  · rw [if_neg (fun h => a1 h.1)]
    exact Evt.ifT (by simp [a1]) Evt.ret
def recsT (l : List Ent) (of : Int) : List Tm → Int → List Rec'
  | [], _ => []
  | a :: r, b => recT l a of b :: recsT l of r (b + 1)
def partsT (l : List Ent) (i : Int) : Con' :=
  Con'.mk ((wholeT (ent l i).type).1.drop (ent l i).pars.toNat) ((arT (wholeT (ent l i).type).2.1).drop (ent l i).pars.toNat) (recsT l (ent l i).fam ((wholeT (ent l i).type).1.drop (ent l i).pars.toNat) (ent l i).pars)
theorem ev_partsL (l : List Ent) (x : Ent) (A I : List Tm) (hA : ∀ t ∈ A, t.Ok) (hl : A.length ≤ 24) (h0 : 0 ≤ x.fam) (h1 : x.fam < l.length) (hp : 0 ≤ (ent l x.fam).pars ∧ 0 ≤ (ent l x.fam).inds ∧ (ent l x.fam).pars + (ent l x.fam).inds ≤ 24) (hb : 0 ≤ x.pars ∧ x.pars ≤ 24) :
    ∀ (r : List Tm) (v : Nat) (acc : List Rec'), A.drop v = r → acc.length ≤ v → Evt (fun q => e156L48011 q l x A I (v : Int) acc) (Con'.mk A I (acc ++ recsT l x.fam r (x.pars + v)))
  | [], v, acc, hd, ha => by
    refine Evt.succ ?_
    simp only [e156L48011]
    exact Evt.ifF (drop_nil hd) (Evt.ret.eq (by simp [recsT]))
  | t :: r, v, acc, hd, ha => by
    have hlt := drop_lt hd
    have ht : t ∈ A := by
      have : t ∈ A.drop v := by rw [hd]; simp
      exact List.mem_of_mem_drop this
    refine Evt.succ ?_
    simp only [e156L48011]
    rw [w64_id (x := x.pars + v) (by omega) (by omega)]
    refine Evt.ifT (drop_dec hd) (Evt.pure (drop_idx hd) ((ev_rec l t x.fam (x.pars + v) (hA t ht) h0 h1 hp (by omega)).bind (Evt.pure (gapp_ok (by simp <;> omega)) ?_)))
    rw [w64_nat v (by omega)]
    refine (ev_partsL l x A I hA hl h0 h1 hp hb r (v + 1) _ (drop_next hd) (by simp <;> omega)).eq ?_
    rw [recsT, show x.pars + ((v + 1 : Nat) : Int) = x.pars + v + 1 by omega]; simp
theorem con_facts {N : ByteArray → Bool} {l : List Ent} {i : Int} (hE : AllE N l) (h0 : 0 ≤ i) (h1 : i < l.length) (hk : (ent l i).kind = 2) :
    ∃ (A : List Tm) (y : Tm), wholeT (ent l i).type = (A, y, 0) ∧ shapedT y = true ∧ (∀ t ∈ A, shapedT t = true) ∧ A.length = pisT (ent l i).type ∧ A.length ≤ 24 ∧ 0 ≤ (ent l i).pars ∧ (ent l i).pars ≤ A.length ∧
      0 ≤ (ent l i).fam ∧ (ent l i).fam < i ∧ (ent l (ent l i).fam).kind = 1 ∧ (ent l i).pars = (ent l (ent l i).fam).pars ∧ 0 ≤ (ent l (ent l i).fam).inds ∧ (ent l (ent l i).fam).pars + (ent l (ent l i).fam).inds ≤ 24 ∧
      appliedT y (ent l i).fam (ent l i).pars (ent l (ent l i).fam).inds A.length = true ∧ 0 ≤ (ent l i).place ∧ (ent l i).place < (ent l (ent l i).fam).cons.length := by
  have hc := (entryT_spec (hE.2 i h0 h1)).2.2.1 hk
  unfold conT at hc
  simp only [Bool.and_eq_true, beq_iff_eq, decide_eq_true_eq] at hc
  obtain ⟨a1, a2, a3, a4⟩ := hc
  have ho := ownedT_spec a1
  have hf := familyT_spec ((entryT_spec (hE.2 _ ho.1 (by omega))).2.1 ho.2.2.1)
  have hw := wholeT_ok (t := (ent l i).type) (l := (wholeT (ent l i).type).1) (y := (wholeT (ent l i).type).2.1) (by rw [← a2])
  have hown : ownL l (ent l i) = (ent l (ent l i).fam).cons := by unfold ownL; rw [if_neg (by omega)]
  have h6 := ho.2.2.2.2.2
  rw [hown] at h6
  exact ⟨_, _, by rw [← a2], hw.2.2.2.2.1, hw.2.2.2.2.2, hw.2.1, hw.2.2.1, by omega, a3, ho.1, ho.2.1, ho.2.2.1, ho.2.2.2.1, hf.2.1, hf.2.2.1, a4, ho.2.2.2.2.1, h6⟩
theorem shaped_ok {t : Tm} (h : shapedT t = true) : t.Ok := good_ok t (shapedT_spec h).2.2
theorem ev_parts {N : ByteArray → Bool} (l : List Ent) (i : Int) (hE : AllE N l) (h0 : 0 ≤ i) (h1 : i < l.length) (hk : (ent l i).kind = 2) (he : ∀ e ∈ l, EOk e) : Evt (fun q => e156 q l i) (partsT l i) := by
  simp only [e156]
  obtain ⟨A, y, hw, hy, hA, hAp, hA24, p0, p1, f0, f1, fk, fp, fi, fs, hap, -, -⟩ := con_facts hE h0 h1 hk
  have hsp := appliedT_spec hap
  refine Evt.pure (gidx_ent h0 h1) ((ev_Whole _ (he _ (ent_mem h0 h1)).1).bind ((ev_SpineW _).bind ?_))
  unfold partsT
  rw [hw]
  have hal := ar_len _ (shapedT_spec hy).2.2
  have hn := (shapedT_spec hy).1
  refine Evt.pure (gsl_from p0 p1) (Evt.pure (gsl_from p0 (by show _ ≤ ((arT y).length : Int); omega)) (Evt.bind (a := (arT y).drop (ent l i).pars.toNat) (Evt.mk fun q => (gapp_ok (by simp <;> omega)).trans (by simp)) ?_))
  refine (ev_partsL l (ent l i) (A.drop (ent l i).pars.toNat) ((arT y).drop (ent l i).pars.toNat) (fun t ht => shaped_ok (hA t (List.mem_of_mem_drop ht))) (by simp; omega) f0 (by omega) (by omega) (by omega) _ 0 [] rfl (by simp)).eq ?_
  simp
def evA (l : List Ent) : Nat → Nat → List Con'
  | 0, _ => []
  | m + 1, v => (if (ent l v).kind = 2 then partsT l v else default) :: evA l m (v + 1)
theorem ev_EveryL {N : ByteArray → Bool} (l : List Ent) (x4 : List Con') (hx : x4.length = l.length) (hE : AllE N l) (he : ∀ e ∈ l, EOk e) : ∀ (m v : Nat) (acc : List Con'), v + m = l.length → acc.length = v →
    Evt (fun q => e74L16016 q l x4 (v : Int) (acc ++ List.replicate m default)) (.inr (acc ++ evA l m v, 0)) := by
  intro m
  induction m with
  | zero =>
    intro v acc hm ha
    refine Evt.succ ?_
    simp only [e74L16016]
    refine Evt.ifF (decide_eq_false (by omega)) (Evt.pure (a := acc ++ List.replicate 0 default) (by unfold gfz; rw [if_pos (by simp; omega)]) (Evt.ret.eq (by simp [evA])))
  | succ m ih =>
    intro v acc hm ha
    refine Evt.succ ?_
    simp only [e74L16016]
    refine Evt.ifT (decide_eq_true (by omega)) (Evt.pure (gidx_ent (by omega) (by omega)) ?_)
    have hl := hE.1
    rw [w64_nat v (by omega), evA]
    by_cases k : (ent l v).kind = 2
    · rw [if_pos k]
      refine Evt.ifT (by simp [k]) ((ev_parts l v hE (by omega) (by omega) k he).bind ?_)
      refine Evt.pure (a := v) (by unfold gchk; rw [if_pos (by omega)]; simp) ?_
      refine Evt.pure (a := acc ++ partsT l v :: List.replicate m default) ?_ ?_
      · unfold gset
        rw [if_pos (by simp; omega), List.set_append_right _ _ (by omega), show v - acc.length = 0 by omega, List.replicate_succ]; rfl
      · have := ih (v + 1) (acc ++ [partsT l v]) (by omega) (by simp; omega)
        simpa using this
    · rw [if_neg k]
      refine Evt.ifF (by simp [k]) ?_
      have := ih (v + 1) (acc ++ [default]) (by omega) (by simp; omega)
      rw [List.replicate_succ]
      simpa using this
def e23 (qq:Nat) (p0:List Ent):Option ((Int) ⊕ (Int × List Ent × List Con')) :=
 e72 qq p0 >>= fun r1 =>
 e73 qq p0 >>= fun r3 =>
 if r3 then
 e74 qq r1 >>= fun r6 =>
 match r6 with
 | Sum.inl y8 =>
  if y8.2 != 0 then
  some (Sum.inl y8.2)
  else
  some (Sum.inr (0,r1,y8.1))
 | Sum.inr y10 =>
  if y10.2 != 0 then
  some (Sum.inl y10.2)
  else
  some (Sum.inr (0,r1,y10.1))
 else
 some (Sum.inl 5)
abbrev K23s0 (p0:List Ent) (r:Int) (C:Cf):Prop:=C 23 [] [slv entL p0 .no] (.tup [.val (.pointer none),ai r]) [] 0
abbrev K23s1 (p0:List Ent) (r:Int × List Ent × List Con') (C:Cf):Prop:=C 23 [] [slv entL p0 .no] (.tup [.mp 0 0,ai r.1]) [.cells [slv entL r.2.1 .no,slv conL r.2.2 .no]] 0
theorem q23:Qf 23 Tryz.f23:=⟨Tryz.func23,by kernel_rfl⟩
theorem k23s0 {p0 r} (h:K23s0 p0 r Ci):K23s0 p0 r Ct:=⟨h,⟨⟨tv,dE _⟩,tv⟩,forall_nil,⟨tv,tv,tv⟩,forall_nil⟩
theorem k23s1 {p0 r} (h:K23s1 p0 r Ci):K23s1 p0 r Ct:=⟨h,⟨⟨tv,dE _⟩,tv⟩,forall_nil,⟨(lz rfl),tv,tv⟩,(forall_cons ⟨dE _,dC _,tv⟩ forall_nil)⟩
theorem c23 {qq p0 r} (h:e23 qq p0 = some r):(match (generalizing:=false) r with | Sum.inl x => K23s0 p0 x Ct | Sum.inr x => K23s1 p0 x Ct):=by
 unfold e23 at h
 obtain ⟨r1,h2,h⟩:=obind h
 obtain ⟨r3,h4,h⟩:=obind h
 have k:=oC 0 [] (c72 h2) o0
 rcases spl h with ⟨h5,h⟩ | ⟨h5,h⟩
 obtain ⟨r6,h7,h⟩:=obind h
 have k:=oK 0 [] h5 (c73 h4) k
 rcases r6 with y8 | y10
 dsimp only at h
 have k:=oC 1 [] (c74 h7) k
 rcases spl h with ⟨h9,h⟩ | ⟨h9,h⟩
 obtain rfl:=sj h
 exact k23s0 (tF q23 0 [] (oB 2 h9 k))
 obtain rfl:=sj h
 exact k23s1 (tF q23 0 [0] (oD (dC y8.1) <| oD (dE r1) <| oB 2 h9 k))
 dsimp only at h
 have k:=oC 1 [] (c74 h7) k
 rcases spl h with ⟨h11,h⟩ | ⟨h11,h⟩
 obtain rfl:=sj h
 exact k23s0 (tF q23 0 [] (oB 2 h11 k))
 obtain rfl:=sj h
 exact k23s1 (tF q23 0 [0] (oD (dC y10.1) <| oD (dE r1) <| oB 2 h11 k))
 obtain rfl:=sj h
 exact k23s0 (tF q23 1 [] (oK 0 [] h5 (c73 h4) k))
theorem ev_Every {N : ByteArray → Bool} (l : List Ent) (hf : Evt (fun q => e73 q l) true) (hE : AllE N l) (he : ∀ e ∈ l, EOk e) : Evt (fun q => e74 q l) (.inr (evA l l.length 0, 0)) := by
  simp only [e74]
  have hl := hE.1
  refine hf.bind (Evt.ifT rfl (Evt.pure (a := List.replicate l.length default) ?_ ?_))
  · unfold gmk; rw [if_pos (by omega)]; rfl
  · exact (ev_EveryL l (List.replicate l.length default) (by simp) hE he l.length 0 [] (by omega) rfl).eq (by simp)
def rulesT (l : List Ent) (b : Bool) : (Int) ⊕ (Int × List Ent × List Con') := if b = true then .inr (0, l, evA l l.length 0) else .inl 5
theorem ev_iNew (N : ByteArray → Bool) (hN : NamesBy N) (l : List Ent) (hl : l.length ≤ 65535) (he : ∀ e ∈ l, EOk e) (hc : ∀ e ∈ l, ECl e) : ∃ b, Evt (fun q => e73 q l) b ∧ (b = true → AllE N l) ∧ Evt (fun q => e23 q l) (rulesT l b) := by
  obtain ⟨d, -, hd⟩ := ev_Formed N hN l hl he
  refine ⟨_, hd, formedT_spec, ?_⟩
  simp only [e23]
  refine (ev_sCopy l hl he hc).bind (hd.bind ?_)
  unfold rulesT
  by_cases h : formedT N d l = true
  · rw [if_pos h]
    have hA := formedT_spec h
    rw [copy_same hA]
    refine Evt.ifT h ((ev_Every l (hd.eq h) hA he).bind ?_)
    exact Evt.ifF (by simp) Evt.ret
  · rw [if_neg h]
    exact Evt.ifF (by simpa using h) Evt.ret
def e147L48784:Nat → (List ByteArray) → ByteArray → Int → Int → Option (Int)
 | 0,_,_,_,_ => none
 | qq + 1,p0,p1,v5,v6 =>
 if decide (v6 < (List.length p0:Int)) then
 gidx p0 v6 >>= fun x2 =>
 if x2.toList == p1.toList then
 e147L48784 qq p0 p1 v6 (w64 (v6 + 1))
 else
 e147L48784 qq p0 p1 v5 (w64 (v6 + 1))
 else
 some v5
def e147 (qq:Nat) (p0:List ByteArray) (p1:ByteArray):Option (Int) :=
 e147L48784 qq p0 p1 (-1) 0
def g147L48784E0 (j:Nat → Value) (p0:List ByteArray) (p1:ByteArray) (v5 v6:Int):=sp j 21 0 [(0,slv strC p0 .no),(1,at' p1),(5,ai v5),(6,ai v6)]
def g147L48784S0 (p0:List ByteArray) (p1:ByteArray) (v5 v6:Int):LSt:=⟨[],0,[],0,[]⟩
abbrev K147 (p0:List ByteArray) (p1:ByteArray) (r:Int) (C:Cf):Prop:=C 147 [] [slv strC p0 .no,at' p1] (ai r) [] 0
theorem q147:Qf 147 Tryz.f147:=⟨Tryz.func147,by kernel_rfl⟩
theorem k147 {p0 p1 r} (h:K147 p0 p1 r Ci):K147 p0 p1 r Ct:=⟨h,⟨⟨tv,dS _⟩,tv,tv⟩,forall_nil,tv,forall_nil⟩
theorem l147L48784:∀ qq:Nat,(∀ p0 p1 v5 v6 r,e147L48784 qq p0 p1 v5 v6 = some r → (∀ j,Dl Tryz.prog 0 (inn (inn (rgt (lft (rgt (rgt (bod Tryz.f147))))))) (g147L48784E0 j p0 p1 v5 v6) (g147L48784S0 p0 p1 v5 v6) (frameQ Tryz.prog 0 (FinQ Tryz.prog 0 Tryz.f147 (ai r) [] 0) [.blk 0,.seq (rgt (rgt (rgt (bod Tryz.f147))))]))):=by
 intro qq
 induction qq with
 | zero =>
  exact fun _ _ _ _ _ h => nn h
 | succ qq ih =>
  intro p0 p1 v5 v6 r h
  rw [e147L48784] at h
  rcases spl h with ⟨h1,h⟩ | ⟨h1,h⟩
  obtain ⟨x2,h3,h⟩:=obind h
  have k:=oA 0 (ix116 (o:=.no) h3) <| oB 1 h1 o0
  rcases spl h with ⟨h4,h⟩ | ⟨h4,h⟩
  exact fun j => lH 1 [] [] [] [0,1,5,6] (oD (dS p0) <| oB 1 h4 k) (ih _ _ _ _ _ h)
  exact fun j => lH 1 [] [] [] [0,1,5,6] (oD (dS p0) <| oB 1 h4 k) (ih _ _ _ _ _ h)
  obtain rfl:=sj h
  exact fun j => lF 0 [] (oB 1 h1 o0)
theorem c147 {qq p0 p1 r} (h:e147 qq p0 p1 = some r):K147 p0 p1 r Ct:=by
 unfold e147 at h
 exact k147 (tH q147 0 [] [] [] [0,1,5,6] (oD (dS p0) o0) (l147L48784 _ _ _ _ _ _ h))
def e210 (qq:Nat) (p0:ByteArray):Option (Bool) :=
 if p0.toList == (⟨#[100,97,116,97]⟩:ByteArray).toList then
 some true
 else
 if p0.toList == (⟨#[114,101,99,111,114,100]⟩:ByteArray).toList then
 some true
 else
 if p0.toList == (⟨#[100,101,102]⟩:ByteArray).toList then
 some true
 else
 some (p0.toList == (⟨#[83,101,116]⟩:ByteArray).toList)
abbrev K210 (p0:ByteArray) (r:Bool) (C:Cf):Prop:=C 210 [] [at' p0] (ab r) [] 0
theorem q210:Qf 210 Tryz.f210:=⟨Tryz.func210,by kernel_rfl⟩
theorem k210 {p0 r} (h:K210 p0 r Ci):K210 p0 r Ct:=⟨h,⟨tv,tv⟩,forall_nil,tv,forall_nil⟩
theorem c210 {qq p0 r} (h:e210 qq p0 = some r):K210 p0 r Ct:=by
 unfold e210 at h
 rcases spl h with ⟨h1,h⟩ | ⟨h1,h⟩
 obtain rfl:=sj h
 exact k210 (tF q210 0 [] (oB 0 h1 o0))
 have k:=oB 0 h1 o0
 rcases spl h with ⟨h2,h⟩ | ⟨h2,h⟩
 obtain rfl:=sj h
 exact k210 (tF q210 0 [] (oB 0 h2 k))
 have k:=oB 0 h2 k
 rcases spl h with ⟨h3,h⟩ | ⟨h3,h⟩
 obtain rfl:=sj h
 exact k210 (tF q210 0 [] (oB 0 h3 k))
 obtain rfl:=sj h
 exact k210 (tF q210 1 [] (oB 0 h3 k))
def e148L63278:Nat → (List Int × Int × Int) → Int → Option (Bool)
 | 0,_,_ => none
 | qq + 1,r1,v6 =>
 if decide (v6 < (List.length r1.1:Int)) then
 gidx r1.1 v6 >>= fun x11 =>
 e211 qq x11 >>= fun r13 =>
 if r13 then
 e148L63278 qq r1 (w64 (v6 + 1))
 else
 if x11 != 95 then
 if v6 == 0 then
 some false
 else
 e212 qq x11 >>= fun r18 =>
 if r18 then
 e148L63278 qq r1 (w64 (v6 + 1))
 else
 if x11 != 39 then
 some false
 else
 e148L63278 qq r1 (w64 (v6 + 1))
 else
 e148L63278 qq r1 (w64 (v6 + 1))
 else
 some true
def e148 (qq:Nat) (p0:ByteArray):Option (Bool) :=
 e209 qq p0 >>= fun r1 =>
 if r1.2.2 != 0 then
 some false
 else
 if (p0.size:Int) == 0 then
 some false
 else
 if decide ((p0.size:Int) > 40) then
 some false
 else
 e210 qq p0 >>= fun r6 =>
 if r6 then
 some false
 else
 if p0.toList == (⟨#[95]⟩:ByteArray).toList then
 some false
 else
 e148L63278 qq r1 0
def g148L63278E0 (j:Nat → Value) (r1:List Int × Int × Int) (v6:Int):=sp j 71 0 [(3,slv intC r1.1 .no),(6,ai v6)]
def g148L63278S0 (r1:List Int × Int × Int) (v6:Int):LSt:=⟨[],0,[],0,[]⟩
abbrev K148 (p0:ByteArray) (r:Bool) (C:Cf):Prop:=C 148 [] [at' p0] (ab r) [] 0
theorem q148:Qf 148 Tryz.f148:=⟨Tryz.func148,by kernel_rfl⟩
theorem k148 {p0 r} (h:K148 p0 r Ci):K148 p0 r Ct:=⟨h,⟨tv,tv⟩,forall_nil,tv,forall_nil⟩
theorem l148L63278:∀ qq:Nat,(∀ r1 v6 r,e148L63278 qq r1 v6 = some r → (∀ j,Dl Tryz.prog 0 (inn (inn (rgt (lft (rgt (rgt (rgt (bod Tryz.f148)))))))) (g148L63278E0 j r1 v6) (g148L63278S0 r1 v6) (frameQ Tryz.prog 0 (FinQ Tryz.prog 0 Tryz.f148 (ab r) [] 0) [.blk 0,.seq (rgt (rgt (rgt (rgt (bod Tryz.f148)))))]))):=by
 intro qq
 induction qq with
 | zero =>
  exact fun _ _ _ h => nn h
 | succ qq ih =>
  intro r1 v6 r h
  rw [e148L63278] at h
  rcases spl h with ⟨h10,h⟩ | ⟨h10,h⟩
  obtain ⟨x11,h12,h⟩:=obind h
  obtain ⟨r13,h14,h⟩:=obind h
  have k:=oA 0 (ix34 (o:=.no) h12) <| oB 1 h10 o0
  rcases spl h with ⟨h15,h⟩ | ⟨h15,h⟩
  exact fun j => lH 2 [] [] [] [3,6] (oD (dI r1.1) <| oK 1 [] h15 (c211 h14) k) (ih _ _ _ h)
  have k:=oA 1 (ix34 (o:=.no) h12) <| oK 1 [] h15 (c211 h14) k
  rcases spl h with ⟨h16,h⟩ | ⟨h16,h⟩
  have k:=oB 1 h16 k
  rcases spl h with ⟨h17,h⟩ | ⟨h17,h⟩
  obtain rfl:=sj h
  exact fun j => lF 0 [] (oB 0 h17 k)
  obtain ⟨r18,h19,h⟩:=obind h
  have k:=oA 0 (ix34 (o:=.no) h12) <| oB 0 h17 k
  rcases spl h with ⟨h20,h⟩ | ⟨h20,h⟩
  exact fun j => lH 2 [] [] [] [3,6] (oD (dI r1.1) <| oK 1 [] h20 (c212 h19) k) (ih _ _ _ h)
  have k:=oA 1 (ix34 (o:=.no) h12) <| oK 1 [] h20 (c212 h19) k
  rcases spl h with ⟨h21,h⟩ | ⟨h21,h⟩
  obtain rfl:=sj h
  exact fun j => lF 0 [] (oB 1 h21 k)
  exact fun j => lH 1 [] [] [] [3,6] (oD (dI r1.1) <| oB 1 h21 k) (ih _ _ _ h)
  exact fun j => lH 1 [] [] [] [3,6] (oD (dI r1.1) <| oB 1 h16 k) (ih _ _ _ h)
  obtain rfl:=sj h
  exact fun j => lF 0 [] (oB 1 h10 o0)
theorem c148 {qq p0 r} (h:e148 qq p0 = some r):K148 p0 r Ct:=by
 unfold e148 at h
 obtain ⟨r1,h2,h⟩:=obind h
 have k:=oC 0 [] (c209 h2) o0
 rcases spl h with ⟨h3,h⟩ | ⟨h3,h⟩
 obtain rfl:=sj h
 exact k148 (tF q148 0 [] (oB 3 h3 k))
 have k:=oB 3 h3 k
 rcases spl h with ⟨h4,h⟩ | ⟨h4,h⟩
 obtain rfl:=sj h
 exact k148 (tF q148 0 [] (oB 1 h4 k))
 have k:=oB 1 h4 k
 rcases spl h with ⟨h5,h⟩ | ⟨h5,h⟩
 obtain rfl:=sj h
 exact k148 (tF q148 0 [] (oB 1 h5 k))
 obtain ⟨r6,h7,h⟩:=obind h
 have k:=oB 1 h5 k
 rcases spl h with ⟨h8,h⟩ | ⟨h8,h⟩
 obtain rfl:=sj h
 exact k148 (tF q148 0 [] (oK 0 [] h8 (c210 h7) k))
 have k:=oK 0 [] h8 (c210 h7) k
 rcases spl h with ⟨h9,h⟩ | ⟨h9,h⟩
 obtain rfl:=sj h
 exact k148 (tF q148 0 [] (oB 0 h9 k))
 exact k148 (tH q148 0 [] [] [] [3,6] (oD (dI r1.1) <| oB 0 h9 k) (l148L63278 _ _ _ _ h))
def e69L8755:Nat → (List ByteArray) → Int → Option (Bool)
 | 0,_,_ => none
 | qq + 1,p0,v3 =>
 if decide (v3 < (List.length p0:Int)) then
 gidx p0 v3 >>= fun x2 =>
 e147 qq p0 x2 >>= fun r4 =>
 if r4 != v3 then
 some false
 else
 e69L8755 qq p0 (w64 (v3 + 1))
 else
 some true
def e69 (qq:Nat) (p0:List ByteArray):Option (Bool) :=
 e69L8755 qq p0 0
def g69L8755E0 (j:Nat → Value) (p0:List ByteArray) (v3:Int):=sp j 18 0 [(0,slv strC p0 .no),(3,ai v3)]
def g69L8755S0 (p0:List ByteArray) (v3:Int):LSt:=⟨[],0,[],0,[]⟩
abbrev K69 (p0:List ByteArray) (r:Bool) (C:Cf):Prop:=C 69 [] [slv strC p0 .no] (ab r) [] 0
theorem q69:Qf 69 Tryz.f69:=⟨Tryz.func69,by kernel_rfl⟩
theorem k69 {p0 r} (h:K69 p0 r Ci):K69 p0 r Ct:=⟨h,⟨⟨tv,dS _⟩,tv⟩,forall_nil,tv,forall_nil⟩
theorem l69L8755:∀ qq:Nat,(∀ p0 v3 r,e69L8755 qq p0 v3 = some r → (∀ j,Dl Tryz.prog 0 (inn (inn (rgt (lft (rgt (bod Tryz.f69)))))) (g69L8755E0 j p0 v3) (g69L8755S0 p0 v3) (frameQ Tryz.prog 0 (FinQ Tryz.prog 0 Tryz.f69 (ab r) [] 0) [.blk 0,.seq (rgt (rgt (bod Tryz.f69)))]))):=by
 intro qq
 induction qq with
 | zero =>
  exact fun _ _ _ h => nn h
 | succ qq ih =>
  intro p0 v3 r h
  rw [e69L8755] at h
  rcases spl h with ⟨h1,h⟩ | ⟨h1,h⟩
  obtain ⟨x2,h3,h⟩:=obind h
  obtain ⟨r4,h5,h⟩:=obind h
  have k:=oC 1 [] (c147 h5) <| oA 0 (ix116 (o:=.no) h3) <| oB 1 h1 o0
  rcases spl h with ⟨h6,h⟩ | ⟨h6,h⟩
  obtain rfl:=sj h
  exact fun j => lF 0 [] (oB 0 h6 k)
  exact fun j => lH 1 [] [] [] [0,3] (oD (dS p0) <| oB 0 h6 k) (ih _ _ _ h)
  obtain rfl:=sj h
  exact fun j => lF 0 [] (oB 1 h1 o0)
theorem c69 {qq p0 r} (h:e69 qq p0 = some r):K69 p0 r Ct:=by
 unfold e69 at h
 exact k69 (tH q69 0 [] [] [] [0,3] (oD (dS p0) o0) (l69L8755 _ _ _ _ h))
def kwT (s : ByteArray) : Bool := (s.toList == (⟨#[100, 97, 116, 97]⟩ : ByteArray).toList) || (s.toList == (⟨#[114, 101, 99, 111, 114, 100]⟩ : ByteArray).toList) || (s.toList == (⟨#[100, 101, 102]⟩ : ByteArray).toList) || (s.toList == (⟨#[83, 101, 116]⟩ : ByteArray).toList)
theorem ev_uKeyword (s : ByteArray) : Evt (fun q => e260 q s) (kwT s) := by
  simp only [e260]
  unfold kwT
  generalize (s.toList == (⟨#[100, 97, 116, 97]⟩ : ByteArray).toList) = a
  generalize (s.toList == (⟨#[114, 101, 99, 111, 114, 100]⟩ : ByteArray).toList) = b
  generalize (s.toList == (⟨#[100, 101, 102]⟩ : ByteArray).toList) = c
  generalize (s.toList == (⟨#[83, 101, 116]⟩ : ByteArray).toList) = d
  cases a
  · cases b
    · cases c
      · cases d
        · exact Evt.ret
        · exact Evt.ret
      · exact Evt.ret
    · exact Evt.ret
  · exact Evt.ret
theorem ev_rKeyword (s : ByteArray) : Evt (fun q => e210 q s) (kwT s) := by
  simp only [e210]
  unfold kwT
  generalize (s.toList == (⟨#[100, 97, 116, 97]⟩ : ByteArray).toList) = a
  generalize (s.toList == (⟨#[114, 101, 99, 111, 114, 100]⟩ : ByteArray).toList) = b
  generalize (s.toList == (⟨#[100, 101, 102]⟩ : ByteArray).toList) = c
  generalize (s.toList == (⟨#[83, 101, 116]⟩ : ByteArray).toList) = d
  cases a
  · cases b
    · cases c
      · cases d
        · exact Evt.ret
        · exact Evt.ret
      · exact Evt.ret
    · exact Evt.ret
  · exact Evt.ret
def innT (n : Int) : Bool := letT n || digT n || n == 95 || n == 39
theorem ev_uinner (n : Int) : Evt (fun q => e261 q n) (innT n) := by
  simp only [e261]
  unfold innT
  refine (ev_uLetter n).bind ?_
  cases letT n with
  | true => exact Evt.ifT rfl (Evt.ret.eq (by simp))
  | false =>
    refine Evt.ifF rfl ((ev_uDigit n).bind ?_)
    cases digT n with
    | true => exact Evt.ifT rfl (Evt.ret.eq (by simp))
    | false =>
      refine Evt.ifF rfl ?_
      by_cases h : n = 95
      · exact Evt.ifT (by simpa using h) (Evt.ret.eq (by simp [h]))
      · exact Evt.ifF (by simpa using h) (Evt.ret.eq (by simp [h]))
def sgnsT (L : List Int) : Bool := match L with
  | [] => false
  | x :: r => (letT x || x == 95) && r.all innT && !(x == 95 && r.isEmpty)
def rgtT (s : ByteArray) : Bool := match txtT s with
  | some L => decide (s.size ≤ 40) && !kwT s && sgnsT L
  | none => false
theorem ev_nRightL (r1 : List Int × Int × Int) (x : Int) (r0 : List Int) (h1 : r1.1 = x :: r0) (hl : r1.1.length ≤ 65535) : ∀ (r : List Int) (v : Nat), r1.1.drop v = r → Evt (fun q => e216L46849 q r1 (v : Int)) (r.all innT && (letT x || (x == 95 && !r0.isEmpty)))
  | [], v, hd => by
    refine Evt.succ ?_
    simp only [e216L46849]
    refine Evt.ifF (drop_nil hd) (Evt.pure (a := x) (by rw [h1]; rfl) ((ev_uLetter x).bind ?_))
    cases letT x with
    | true => exact Evt.ifT rfl (Evt.ret.eq (by simp))
    | false =>
      refine Evt.ifF rfl ?_
      by_cases h : x = 95
      · refine Evt.ifT (by simpa using h) (Evt.ret.eq ?_)
        rw [h1]
        cases r0 with
        | nil => simp [h]
        | cons _ _ => simp [h]; omega
      · exact Evt.ifF (by simpa using h) (Evt.ret.eq (by simp [h]))
  | y :: r, v, hd => by
    have hlt := drop_lt hd
    refine Evt.succ ?_
    simp only [e216L46849]
    refine Evt.ifT (drop_dec hd) (Evt.pure (drop_idx hd) ((ev_uinner y).bind ?_))
    cases hy : innT y with
    | true =>
      refine Evt.ifT rfl ?_
      rw [w64_nat v (by omega)]
      exact (ev_nRightL r1 x r0 h1 hl r (v + 1) (drop_next hd)).eq (by simp [hy])
    | false => exact Evt.ifF rfl (Evt.ret.eq (by simp [hy]))
theorem let95 : letT 95 = false := by kernel_rfl
theorem txt_len {s : ByteArray} {L : List Int} (h : txtT s = some L) : bs s = L.flatMap putT := by
  unfold txtT at h
  split at h
  · exact sgs_put s.size (bs s) L (fun c hc => bs_mem hc) (by rw [bs_len]; omega) h
  · cases h
theorem put_ne (n : Int) : putT n ≠ [] := fun h => by
  have := put_len n
  rw [h] at this
  unfold widT at this
  split at this <;> (try split at this) <;> (try split at this) <;> simp at this
theorem fm_len : ∀ (L : List Int), L.length ≤ (L.flatMap putT).length
  | [] => by simp
  | n :: L => by
    rw [List.flatMap_cons, List.length_append, List.length_cons]
    have := fm_len L
    have : 0 < (putT n).length := List.length_pos_iff.2 (put_ne n)
    omega
theorem ev_uRightN (s : ByteArray) : Evt (fun q => e216 q s) (rgtT s) := by
  simp only [e216]
  unfold rgtT
  rcases ev_uAll s with ⟨L, h1, h2⟩ | ⟨h1, r, h2, h3⟩
  · rw [h1]
    dsimp only
    refine h2.bind (Evt.ifF rfl ?_)
    have hb := txt_len h1
    cases L with
    | nil => exact Evt.ifT rfl (Evt.ret.eq (by simp [sgnsT]))
    | cons x r =>
      refine Evt.ifF (by simp; omega) ?_
      by_cases h40 : s.size ≤ 40
      · refine Evt.ifF (decide_eq_false (by omega)) ((ev_uKeyword s).bind ?_)
        rw [decide_eq_true h40]
        cases kwT s with
        | true => exact Evt.ifT rfl (Evt.ret.eq (by simp))
        | false =>
          refine Evt.ifF rfl ?_
          have hlen : (x :: r).length ≤ 65535 := by
            have h1 := bs_len s
            have h2 := fm_len (x :: r)
            rw [hb] at h1
            omega
          refine (ev_nRightL (x :: r, (s.size : Int), 0) x r rfl hlen (x :: r) 0 rfl).eq ?_
          simp only [sgnsT, List.all_cons, innT, Bool.true_and, Bool.not_false]
          by_cases hx : x = 95
          · subst hx; rw [let95]; cases r <;> simp
          · have e : (x == 95) = false := by simpa using hx
            rw [e]
            cases letT x <;> simp
      · exact Evt.ifT (decide_eq_true (by omega)) (Evt.ret.eq (by simp [h40]))
  · rw [h1]; exact h2.bind (Evt.ifT (by simpa using h3) Evt.ret)
theorem ev_rRightL (r1 : List Int × Int × Int) (hl : r1.1.length ≤ 65535) : ∀ (r : List Int) (v : Nat), 1 ≤ v → r1.1.drop v = r → Evt (fun q => e148L63278 q r1 (v : Int)) (r.all innT)
  | [], v, hv, hd => by
    refine Evt.succ ?_
    simp only [e148L63278]
    exact Evt.ifF (drop_nil hd) Evt.ret
  | y :: r, v, hv, hd => by
    have hlt := drop_lt hd
    have next := ev_rRightL r1 hl r (v + 1) (by omega) (drop_next hd)
    refine Evt.succ ?_
    simp only [e148L63278]
    refine Evt.ifT (drop_dec hd) (Evt.pure (drop_idx hd) ((ev_rLetter y).bind ?_))
    rw [w64_nat v (by omega)]
    have ha : (y :: r).all innT = (innT y && r.all innT) := rfl
    rw [ha]
    generalize r.all innT = R at next ⊢
    unfold innT
    cases letT y with
    | true => exact Evt.ifT rfl (next.eq (by simp))
    | false =>
      refine Evt.ifF rfl ?_
      by_cases h : y = 95
      · exact Evt.ifF (by simp [h]) (next.eq (by simp [h]))
      · refine Evt.ifT (by simpa using h) (Evt.ifF (beq_eq_false_iff_ne.2 (by omega)) ((ev_rDigit y).bind ?_))
        cases digT y with
        | true => exact Evt.ifT rfl (next.eq (by simp))
        | false =>
          refine Evt.ifF rfl ?_
          by_cases h2 : y = 39
          · exact Evt.ifF (by simp [h2]) (next.eq (by simp [h2]))
          · exact Evt.ifT (by simpa using h2) (Evt.ret.eq (by simp [h, h2]))
theorem bs_us : bs ⟨#[95]⟩ = [95] := by rfl
theorem txt_us {s : ByteArray} {L : List Int} (h : txtT s = some L) : (s.toList == (⟨#[95]⟩ : ByteArray).toList) = decide (L = [95]) := by
  rw [bs_eq, bs_us]
  have hb := txt_len h
  have e95 : putT 95 = [95] := by unfold putT; rw [if_pos (by omega)]
  by_cases hL : L = [95]
  · subst hL
    rw [decide_eq_true rfl]
    refine decide_eq_true ?_
    rw [hb]; simp [e95]
  · rw [decide_eq_false hL]
    refine decide_eq_false fun hs => hL ?_
    have hz : s.size = 1 := by rw [← bs_len, hs]; rfl
    have h2 : txtT s = some [95] := by
      unfold txtT
      rw [if_pos (by omega), hz, hs]
      rfl
    rw [h] at h2
    exact Option.some.inj h2
theorem ev_rRightN (s : ByteArray) : Evt (fun q => e148 q s) (rgtT s) := by
  simp only [e148]
  unfold rgtT
  rcases ev_rAll s with ⟨L, h1, h2⟩ | ⟨h1, r, h2, h3⟩
  · rw [h1]
    dsimp only
    refine h2.bind (Evt.ifF rfl ?_)
    have hb := txt_len h1
    have hbl := bs_len s
    cases L with
    | nil =>
      have hz : s.size = 0 := by rw [← hbl, hb]; rfl
      exact Evt.ifT (by rw [hz]; rfl) (Evt.ret.eq (by simp [sgnsT]))
    | cons x r =>
      have hlen := fm_len (x :: r)
      rw [← hb, hbl] at hlen
      have hpos : 0 < s.size := by simp at hlen; omega
      refine Evt.ifF (beq_eq_false_iff_ne.2 (by omega)) ?_
      by_cases h40 : s.size ≤ 40
      · refine Evt.ifF (decide_eq_false (by omega)) ((ev_rKeyword s).bind ?_)
        rw [decide_eq_true h40]
        cases kwT s with
        | true => exact Evt.ifT rfl (Evt.ret.eq (by simp))
        | false =>
          refine Evt.ifF rfl ?_
          rw [txt_us h1]
          by_cases hu : x :: r = [95]
          · refine Evt.ifT (decide_eq_true hu) (Evt.ret.eq ?_)
            obtain ⟨rfl, rfl⟩ : x = 95 ∧ r = [] := by simpa using hu
            simp [sgnsT]
          · refine Evt.ifF (decide_eq_false hu) (Evt.succ ?_)
            have next := ev_rRightL (x :: r, (s.size : Int), 0) (by show (x :: r).length ≤ 65535; omega) r 1 (by omega) rfl
            simp only [e148L63278]
            refine Evt.ifT (decide_eq_true (by show (0 : Int) < ((r.length + 1 : Nat) : Int); omega)) (Evt.pure (a := x) rfl ((ev_rLetter x).bind ?_))
            have e1 : w64 (0 + 1) = ((1 : Nat) : Int) := by rfl
            rw [e1]
            have hq : (x == 95 && r.isEmpty) = false := by
              by_cases hx : x = 95
              · cases r with
                | nil => exact absurd (by rw [hx]) hu
                | cons _ _ => simp
              · simp [hx]
            simp only [sgnsT, hq]
            cases letT x with
            | true => exact Evt.ifT rfl (next.eq (by simp))
            | false =>
              refine Evt.ifF rfl ?_
              by_cases hx : x = 95
              · exact Evt.ifF (by simp [hx]) (next.eq (by simp [hx]))
              · exact Evt.ifT (by simpa using hx) (Evt.ifT rfl (Evt.ret.eq (by simp [hx])))
      · exact Evt.ifT (decide_eq_true (by omega)) (Evt.ret.eq (by simp [h40]))
  · rw [h1]; exact h2.bind (Evt.ifT (by simpa using h3) Evt.ret)
theorem ev_refName {N : ByteArray → Bool} (hN : NamesBy N) (s : ByteArray) : Evt (fun q => e148 q s) (N s) := (ev_rRightN s).eq ((ev_uRightN s).det (hN s))
theorem bs_inj {a b : ByteArray} : bs a = bs b ↔ a = b := by
  constructor
  · intro h
    have := bs_eq a b
    rw [decide_eq_true h] at this
    have h2 : a.toList = b.toList := by simpa using this
    rw [baList, baList] at h2
    cases a; cases b
    simp only [ByteArray.mk.injEq]
    exact Array.toList_inj.1 h2
  · rintro rfl; rfl
theorem ba_beq (a b : ByteArray) : (a == b) = decide (a = b) := by
  cases a with
  | mk x =>
  cases b with
  | mk y =>
  show (x == y) = _
  by_cases h : x = y
  · subst h; simp
  · rw [decide_eq_false (fun e => h (ByteArray.mk.inj e))]
    simpa using h
theorem mget_set (m : List (ByteArray × Int)) (k y : ByteArray) (z : Int) : mget (mset m k z) y = if y = k then z else mget m y := by
  induction m with
  | nil => simp only [mset, mget, ba_beq, decide_eq_true_eq]
  | cons p m ih =>
    rw [mset, ba_beq]
    by_cases e1 : k = p.1
    · rw [if_pos (decide_eq_true e1), mget, mget, ba_beq, ba_beq]
      simp only [decide_eq_true_eq]
      by_cases e : y = k
      · rw [if_pos e, if_pos e]
      · rw [if_neg e, if_neg e, if_neg (fun h : y = p.1 => e (h.trans e1.symm))]
    · rw [if_neg (by simpa using e1), mget, mget, ih, ba_beq]
      simp only [decide_eq_true_eq]
      by_cases e : y = p.1
      · rw [if_pos e, if_pos e, if_neg (fun h : y = k => e1 (h.symm.trans e))]
      · rw [if_neg e, if_neg e]
open Classical in
theorem ev_uDistL (l : List ByteArray) (hl : l.length ≤ 65535) : ∀ (r : List ByteArray) (v : Nat) (m : List (ByteArray × Int)), l.drop v = r → (∀ x, 0 ≤ mget m x ∧ mget m x ≤ v) → (∀ x, 0 < mget m x ↔ x ∈ l.take v) → Evt (fun q => e153L46510 q l (v : Int) m) (decide (∀ i, v ≤ i → (h : i < l.length) → l[i] ∉ l.take i))
  | [], v, m, hd, hm0, hm => by
    refine Evt.succ ?_
    simp only [e153L46510]
    refine Evt.ifF (drop_nil hd) (Evt.ret.eq (decide_eq_true fun i hi h => ?_).symm)
    have := List.drop_eq_nil_iff.1 hd
    omega
  | x :: r, v, m, hd, hm0, hm => by
    have hlt := drop_lt hd
    have hx : l[v] = x := by
      have := drop_idx hd
      unfold gidx at this
      rw [if_pos (by omega), Int.toNat_natCast, List.getElem?_eq_getElem hlt] at this
      exact Option.some.inj this
    refine Evt.succ ?_
    simp only [e153L46510]
    refine Evt.ifT (drop_dec hd) (Evt.pure (drop_idx hd) ?_)
    by_cases h : 0 < mget m x
    · refine Evt.ifT (decide_eq_true h) (Evt.ret.eq (decide_eq_false fun hf => ?_).symm)
      exact hf v (Nat.le_refl _) hlt (by rw [hx]; exact (hm x).1 h)
    · refine Evt.ifF (decide_eq_false h) ?_
      have hz : mget m x = 0 := by have := (hm0 x).1; omega
      rw [hz, w64_nat v (by omega), show w64 (0 + 1) = 1 by rfl]
      have ht : l.take (v + 1) = l.take v ++ [x] := by rw [List.take_succ_eq_append_getElem hlt, hx]
      refine (ev_uDistL l hl r (v + 1) _ (drop_next hd) (fun y => ?_) fun y => ?_).eq ?_
      · rw [mget_set]; have := hm0 y; split <;> omega
      · rw [mget_set, ht, List.mem_append, List.mem_singleton]
        by_cases e : y = x
        · rw [if_pos e]; simp [e]
        · rw [if_neg e]; simp [e, hm y]
      · refine decide_eq_decide.2 ⟨fun hf i hi hil => ?_, fun hf i hi hil => hf i (by omega) hil⟩
        by_cases e : i = v
        · subst e; rw [hx]; exact fun hmem => h ((hm x).2 hmem)
        · exact hf i (by omega) hil
theorem ev_rPlaceL (l : List ByteArray) (x : ByteArray) (hl : l.length ≤ 65535) : ∀ (r : List ByteArray) (v : Nat) (a : Int), l.drop v = r → ∃ p, Evt (fun q => e147L48784 q l x a (v : Int)) p ∧ ((p = a ∧ x ∉ r) ∨ ∃ i : Nat, p = (i : Int) ∧ v ≤ i ∧ ∃ h : i < l.length, l[i] = x ∧ ∀ j, i < j → (hj : j < l.length) → l[j] ≠ x)
  | [], v, a, hd => ⟨a, by
      refine Evt.succ ?_
      simp only [e147L48784]
      exact Evt.ifF (drop_nil hd) Evt.ret, .inl ⟨rfl, by simp⟩⟩
  | y :: r, v, a, hd => by
    have hlt := drop_lt hd
    have hx : l[v] = y := by
      have := drop_idx hd
      unfold gidx at this
      rw [if_pos (by omega), Int.toNat_natCast, List.getElem?_eq_getElem hlt] at this
      exact Option.some.inj this
    have hmem : ∀ j, v < j → (hj : j < l.length) → l[j] ∈ r := fun j h1 h2 => by
      have h3 := drop_next hd
      rw [← h3]
      exact List.mem_drop_iff_getElem.2 ⟨j - (v + 1), by omega, by congr 1; omega⟩
    by_cases e : y = x
    · obtain ⟨p, h1, h2⟩ := ev_rPlaceL l x hl r (v + 1) (v : Int) (drop_next hd)
      refine ⟨p, Evt.succ ?_, .inr ?_⟩
      · simp only [e147L48784]
        refine Evt.ifT (drop_dec hd) (Evt.pure (drop_idx hd) (Evt.ifT (by rw [e]; simp) ?_))
        rw [w64_nat v (by omega)]; exact h1
      · rcases h2 with ⟨h3, h4⟩ | ⟨i, h3, h4, h5, h6, h7⟩
        · exact ⟨v, h3, Nat.le_refl _, hlt, by rw [hx, e], fun j h8 h9 h10 => h4 (by rw [← h10]; exact hmem j h8 h9)⟩
        · exact ⟨i, h3, by omega, h5, h6, h7⟩
    · obtain ⟨p, h1, h2⟩ := ev_rPlaceL l x hl r (v + 1) a (drop_next hd)
      refine ⟨p, Evt.succ ?_, ?_⟩
      · simp only [e147L48784]
        refine Evt.ifT (drop_dec hd) (Evt.pure (drop_idx hd) (Evt.ifF ?_ ?_))
        · rw [bs_eq]; exact decide_eq_false fun h => e (bs_inj.1 h)
        · rw [w64_nat v (by omega)]; exact h1
      · rcases h2 with ⟨h3, h4⟩ | ⟨i, h3, h4, h5, h6, h7⟩
        · exact .inl ⟨h3, fun hm => (List.mem_cons.1 hm).elim (fun h => e h.symm) h4⟩
        · exact .inr ⟨i, h3, by omega, h5, h6, h7⟩
def DistinctN (l : List ByteArray) : Prop := ∀ i, (h : i < l.length) → l[i] ∉ l.take i
open Classical in
theorem ev_uDist (l : List ByteArray) (hl : l.length ≤ 65535) : ∃ d, Evt (fun q => e153 q l) d ∧ (d = true ↔ DistinctN l) := by
  refine ⟨_, (by simp only [e153]; exact ev_uDistL l hl l 0 [] rfl (fun x => by rw [mget]; omega) fun x => by rw [mget]; simp), ?_⟩
  rw [decide_eq_true_eq]
  exact ⟨fun h i hi => h i (Nat.zero_le _) hi, fun h i _ hi => h i hi⟩
theorem ev_rDist (l : List ByteArray) (hl : l.length ≤ 65535) : ∃ d, Evt (fun q => e69 q l) d ∧ (d = true ↔ DistinctN l) := by
  simp only [e69]
  have key : ∀ (r : List ByteArray) (v : Nat), l.drop v = r → ∃ d, Evt (fun q => e69L8755 q l (v : Int)) d ∧ (d = true ↔ ∀ i, v ≤ i → (h : i < l.length) → ∀ j, i < j → (hj : j < l.length) → l[j] ≠ l[i]) := by
    intro r
    induction r with
    | nil =>
      intro v hd
      refine ⟨true, Evt.succ ?_, ⟨fun _ i hi h => ?_, fun _ => rfl⟩⟩
      · simp only [e69L8755]
        exact Evt.ifF (drop_nil hd) Evt.ret
      · have := List.drop_eq_nil_iff.1 hd; omega
    | cons x r ih =>
      intro v hd
      have hlt := drop_lt hd
      have hx : l[v] = x := by
        have := drop_idx hd
        unfold gidx at this
        rw [if_pos (by omega), Int.toNat_natCast, List.getElem?_eq_getElem hlt] at this
        exact Option.some.inj this
      obtain ⟨p, h1, h2⟩ := ev_rPlaceL l x hl l 0 (-1) rfl
      have hP : Evt (fun q => e147 q l x) p := by simp only [e147]; exact h1
      obtain ⟨i, hp, -, hi, hix, hlast⟩ : ∃ i : Nat, p = (i : Int) ∧ 0 ≤ i ∧ ∃ h : i < l.length, l[i] = x ∧ ∀ j, i < j → (hj : j < l.length) → l[j] ≠ x := by
        rcases h2 with ⟨-, h4⟩ | h
        · exact absurd (by rw [← hx]; exact List.getElem_mem hlt) h4
        · exact h
      by_cases e : i = v
      · obtain ⟨d, g1, g2⟩ := ih (v + 1) (drop_next hd)
        refine ⟨d, Evt.succ ?_, g2.trans ⟨fun hf j hj hjl k hk hkl => ?_, fun hf j hj hjl => hf j (by omega) hjl⟩⟩
        · simp only [e69L8755]
          refine Evt.ifT (drop_dec hd) (Evt.pure (drop_idx hd) (hP.bind (Evt.ifF (by rw [hp, e]; simp) ?_)))
          rw [w64_nat v (by omega)]; exact g1
        · by_cases ej : j = v
          · subst ej; rw [hx]; exact hlast k (by omega) hkl
          · exact hf j (by omega) hjl k hk hkl
      · refine ⟨false, Evt.succ ?_, ⟨fun h => (by cases h), fun hf => ?_⟩⟩
        · simp only [e69L8755]
          exact Evt.ifT (drop_dec hd) (Evt.pure (drop_idx hd) (hP.bind (Evt.ifT (by rw [hp]; simp; omega) Evt.ret)))
        · exfalso
          rcases Nat.lt_or_gt_of_ne e with h | h
          · exact hlast v h hlt hx
          · exact hf v (Nat.le_refl _) hlt i h hi (by rw [hix, hx])
  obtain ⟨d, h1, h2⟩ := key l 0 rfl
  refine ⟨d, h1, h2.trans ⟨fun h i hi hm => ?_, fun h i _ hi j hij hj e => ?_⟩⟩
  · obtain ⟨j, hj, hje⟩ := List.mem_take_iff_getElem.1 hm
    exact h j (Nat.zero_le _) (by omega) i (by omega) hi hje.symm
  · exact h j hj (by rw [e]; exact List.mem_take_iff_getElem.2 ⟨i, by omega, rfl⟩)
theorem ev_refDist {l : List ByteArray} (hl : l.length ≤ 65535) {d : Bool} (h : Evt (fun q => e153 q l) d) : Evt (fun q => e69 q l) d := by
  obtain ⟨a, h1, h2⟩ := ev_uDist l hl
  obtain ⟨b, h3, h4⟩ := ev_rDist l hl
  have := h1.det h
  subst this
  refine h3.eq ?_
  rw [Bool.eq_iff_iff]; exact h4.trans h2.symm
def e77L26398:Nat → (List Tm) → Int → Option (Int)
 | 0,_,_ => none
 | qq + 1,v3,v4 =>
 if decide ((List.length v3:Int) > 0) then
 if decide (v4 ≤ 8192) then
 gidx v3 (w64 ((List.length v3:Int) - 1)) >>= fun x3 =>
 gsl v3 0 (w64 ((List.length v3:Int) - 1)) >>= fun x5 =>
 gapp 40 ([]:List Tm) x5 >>= fun l7 =>
 gsl x3.sub 0 (imin (List.length x3.sub:Int) 8193) >>= fun x10 =>
 gapp 40 l7 x10 >>= fun l12 =>
 e77L26398 qq l12 (w64 (v4 + 1))
 else
 some v4
 else
 some v4
def e77 (qq:Nat) (p0:Tm):Option (Int) :=
 e77L26398 qq [p0] 0
def g77L26398E0 (j:Nat → Value) (v3:List Tm) (v4:Int):=sp j 39 0 [(3,slv tmCells v3 .full),(4,ai v4)]
def g77L26398S0 (v3:List Tm) (v4:Int):LSt:=⟨[],0,[],0,[]⟩
def g77L26398E1 (j:Nat → Value) (v3:List Tm) (v4:Int):=sp j 39 0 [(3,slv tmCells v3 (.st 0 3)),(4,ai v4)]
def g77L26398S1 (v3:List Tm) (v4:Int):LSt:=⟨[],0,[0],1,[]⟩
abbrev K77 (p0:Tm) (r:Int) (C:Cf):Prop:=C 77 [] [tmA p0] (ai r) [] 0
theorem q77:Qf 77 Tryz.f77:=⟨Tryz.func77,by kernel_rfl⟩
theorem k77 {p0 r} (h:K77 p0 r Ci):K77 p0 r Ct:=⟨h,⟨⟨tv,tv,⟨tv,dT _⟩,tv⟩,tv⟩,forall_nil,tv,forall_nil⟩
theorem l77L26398:∀ qq:Nat,(∀ v3 v4 r,e77L26398 qq v3 v4 = some r → (∀ j,Dl Tryz.prog 0 (inn (inn (lft (rgt (rgt (rgt (bod Tryz.f77))))))) (g77L26398E0 j v3 v4) (g77L26398S0 v3 v4) (frameQ Tryz.prog 0 (FinQ Tryz.prog 0 Tryz.f77 (ai r) [] 0) [.blk 0,.seq (rgt (rgt (rgt (rgt (bod Tryz.f77)))))])) ∧ (∀ j,Dl Tryz.prog 0 (inn (inn (lft (rgt (rgt (rgt (bod Tryz.f77))))))) (g77L26398E1 j v3 v4) (g77L26398S1 v3 v4) (frameQ Tryz.prog 0 (FinQ Tryz.prog 0 Tryz.f77 (ai r) [] 0) [.blk 0,.seq (rgt (rgt (rgt (rgt (bod Tryz.f77)))))]))):=by
 intro qq
 induction qq with
 | zero =>
  exact fun _ _ _ h => nn h
 | succ qq ih =>
  intro v3 v4 r h
  rw [e77L26398] at h
  refine ⟨?_,?_⟩
  rcases spl h with ⟨h1,h⟩ | ⟨h1,h⟩
  have k:=oB 1 h1 o0
  rcases spl h with ⟨h2,h⟩ | ⟨h2,h⟩
  obtain ⟨x3,h4,h⟩:=obind h
  obtain ⟨x5,h6,h⟩:=obind h
  obtain ⟨l7,h8,h⟩:=obind h
  have k:=oF 5 (slToO23 (o:=.full) h6) <| oA 2 (ix23 (o:=.full) h4) <| oB 0 h2 k
  by_cases h9:List.length x5 = 0
  obtain ⟨x10,h11,h⟩:=obind h
  obtain ⟨l12,h13,h⟩:=obind h
  have k:=oA 4 (slTo23 h11) <| oP 0 (apN23 h8 h9) k
  by_cases h14:List.length x10 = 0
  exact fun j => lH 1 [] [] [] [3,4] (oD (dT l12) <| oP 0 (apN23 h13 h14) k) ((ih _ _ _ h).1)
  exact fun j => lH 1 [] [] [0] [3,4] (oD (dT l12) <| oP 0 (apS23 h13 h14) k) ((ih _ _ _ h).2)
  obtain ⟨x10,h11,h⟩:=obind h
  obtain ⟨l12,h13,h⟩:=obind h
  have k:=oA 4 (slTo23 h11) <| oP 0 (apS23 h8 h9) k
  by_cases h14:List.length x10 = 0
  exact fun j => lH 1 [] [] [0] [3,4] (oD (dT l12) <| oP 0 (apN23 h13 h14) k) ((ih _ _ _ h).2)
  exact fun j => lH 1 [] [] [1] [3,4] (oD (dT l12) <| oP 0 (apS23 h13 h14) k) ((ih _ _ _ h).2)
  obtain rfl:=sj h
  exact fun j => lF 0 [] (oB 0 h2 k)
  obtain rfl:=sj h
  exact fun j => lF 0 [] (oB 1 h1 o0)
  rcases spl h with ⟨h1,h⟩ | ⟨h1,h⟩
  have k:=oB 1 h1 o0
  rcases spl h with ⟨h2,h⟩ | ⟨h2,h⟩
  obtain ⟨x3,h4,h⟩:=obind h
  obtain ⟨x5,h6,h⟩:=obind h
  obtain ⟨l7,h8,h⟩:=obind h
  have k:=oF 5 (slToO23 (o:=(.st 0 3)) h6) <| oA 2 (ix23 (o:=(.st 0 3)) h4) <| oB 0 h2 k
  by_cases h9:List.length x5 = 0
  obtain ⟨x10,h11,h⟩:=obind h
  obtain ⟨l12,h13,h⟩:=obind h
  have k:=oA 4 (slTo23 h11) <| oP 0 (apN23 h8 h9) k
  by_cases h14:List.length x10 = 0
  exact fun j => lH 1 [] [] [] [3,4] (oD (dT l12) <| oP 0 (apN23 h13 h14) k) ((ih _ _ _ h).1)
  exact fun j => lH 1 [] [] [1] [3,4] (oD (dT l12) <| oP 0 (apS23 h13 h14) k) ((ih _ _ _ h).2)
  obtain ⟨x10,h11,h⟩:=obind h
  obtain ⟨l12,h13,h⟩:=obind h
  have k:=oA 4 (slTo23 h11) <| oP 0 (apS23 h8 h9) k
  by_cases h14:List.length x10 = 0
  exact fun j => lH 1 [] [] [1] [3,4] (oD (dT l12) <| oP 0 (apN23 h13 h14) k) ((ih _ _ _ h).2)
  exact fun j => lH 1 [] [] [2] [3,4] (oD (dT l12) <| oP 0 (apS23 h13 h14) k) ((ih _ _ _ h).2)
  obtain rfl:=sj h
  exact fun j => lF 0 [] (oB 0 h2 k)
  obtain rfl:=sj h
  exact fun j => lF 0 [] (oB 1 h1 o0)
theorem c77 {qq p0 r} (h:e77 qq p0 = some r):K77 p0 r Ct:=by
 unfold e77 at h
 exact k77 (tH q77 0 [] [] [] [3,4] (oD (dT [p0]) <| oS 1 (obLitR tm_eq [p0]) o0) ((l77L26398 _ _ _ _ h).1))
mutual
def e87L60338:Nat → (List Tm) → Int → Option (Int)
 | 0,_,_ => none
 | qq + 1,v3,v4 =>
 if decide ((List.length v3:Int) > 0) then
 if decide (v4 < 129) then
 e87L15367 qq v3 v4 [] 0
 else
 some v4
 else
 some v4
def e87L15367:Nat → (List Tm) → Int → (List Tm) → Int → Option (Int)
 | 0,_,_,_,_ => none
 | qq + 1,v3,v4,v5,v6 =>
 if decide (v6 < (List.length v3:Int)) then
 gidx v3 v6 >>= fun x7 =>
 gapp 40 v5 x7.sub >>= fun l9 =>
 e87L15367 qq v3 v4 l9 (w64 (v6 + 1))
 else
 e87L60338 qq v5 (w64 (v4 + 1))
end
def e87 (qq:Nat) (p0:Tm):Option (Int) :=
 e77 qq p0 >>= fun r1 =>
 if decide (r1 > 8192) then
 some 129
 else
 e87L60338 qq [p0] 0
def g87L60338E0 (j:Nat → Value) (v3:List Tm) (v4:Int):=sp j 37 0 [(3,slv tmCells v3 .full),(4,ai v4)]
def g87L60338S0 (v3:List Tm) (v4:Int):LSt:=⟨[],0,[],0,[]⟩
def g87L60338E1 (j:Nat → Value) (v3:List Tm) (v4:Int):=sp j 37 0 [(3,slv tmCells v3 (.st 0 3)),(4,ai v4)]
def g87L60338S1 (v3:List Tm) (v4:Int):LSt:=⟨[],0,[0],1,[]⟩
def g87L15367E0 (j:Nat → Value) (v3:List Tm) (v4:Int) (v5:List Tm) (v6:Int):=sp j 37 0 [(3,slv tmCells v3 .full),(4,ai v4),(5,slv tmCells v5 (.st 0 3)),(6,ai v6)]
def g87L15367S0 (v3:List Tm) (v4:Int) (v5:List Tm) (v6:Int):LSt:=⟨[],0,[0],1,[]⟩
def g87L15367E1 (j:Nat → Value) (v3:List Tm) (v4:Int) (v5:List Tm) (v6:Int):=sp j 37 0 [(3,slv tmCells v3 (.st 0 3)),(4,ai v4),(5,slv tmCells v5 (.st 1 3)),(6,ai v6)]
def g87L15367S1 (v3:List Tm) (v4:Int) (v5:List Tm) (v6:Int):LSt:=⟨[],0,[0,1],2,[]⟩
abbrev K87 (p0:Tm) (r:Int) (C:Cf):Prop:=C 87 [] [tmA p0] (ai r) [] 0
theorem q87:Qf 87 Tryz.f87:=⟨Tryz.func87,by kernel_rfl⟩
theorem k87 {p0 r} (h:K87 p0 r Ci):K87 p0 r Ct:=⟨h,⟨⟨tv,tv,⟨tv,dT _⟩,tv⟩,tv⟩,forall_nil,tv,forall_nil⟩
theorem a87L60338_87L15367:∀ qq:Nat,(∀ v3 v4 r,e87L60338 qq v3 v4 = some r → (∀ j,Dl Tryz.prog 0 (inn (inn (lft (rgt (rgt (rgt (rgt (bod Tryz.f87)))))))) (g87L60338E0 j v3 v4) (g87L60338S0 v3 v4) (frameQ Tryz.prog 0 (FinQ Tryz.prog 0 Tryz.f87 (ai r) [] 0) [.blk 0,.seq (rgt (rgt (rgt (rgt (rgt (bod Tryz.f87))))))])) ∧ (∀ j,Dl Tryz.prog 0 (inn (inn (lft (rgt (rgt (rgt (rgt (bod Tryz.f87)))))))) (g87L60338E1 j v3 v4) (g87L60338S1 v3 v4) (frameQ Tryz.prog 0 (FinQ Tryz.prog 0 Tryz.f87 (ai r) [] 0) [.blk 0,.seq (rgt (rgt (rgt (rgt (rgt (bod Tryz.f87))))))]))) ∧ (∀ v3 v4 v5 v6 r,e87L15367 qq v3 v4 v5 v6 = some r → (∀ j,Dl Tryz.prog 0 (inn (inn (rgt (lft (rgt (inn (rgt (inn (inn (lft (rgt (rgt (rgt (rgt (bod Tryz.f87))))))))))))))) (g87L15367E0 j v3 v4 v5 v6) (g87L15367S0 v3 v4 v5 v6) (frameQ Tryz.prog 0 (FinQ Tryz.prog 0 Tryz.f87 (ai r) [] 0) [.blk 2,.seq (rgt (rgt (inn (rgt (inn (inn (lft (rgt (rgt (rgt (rgt (bod Tryz.f87)))))))))))),.blk 1,.loop (inn (inn (lft (rgt (rgt (rgt (rgt (bod Tryz.f87)))))))),.blk 0,.seq (rgt (rgt (rgt (rgt (rgt (bod Tryz.f87))))))])) ∧ (∀ j,Dl Tryz.prog 0 (inn (inn (rgt (lft (rgt (inn (rgt (inn (inn (lft (rgt (rgt (rgt (rgt (bod Tryz.f87))))))))))))))) (g87L15367E1 j v3 v4 v5 v6) (g87L15367S1 v3 v4 v5 v6) (frameQ Tryz.prog 0 (FinQ Tryz.prog 0 Tryz.f87 (ai r) [] 0) [.blk 2,.seq (rgt (rgt (inn (rgt (inn (inn (lft (rgt (rgt (rgt (rgt (bod Tryz.f87)))))))))))),.blk 1,.loop (inn (inn (lft (rgt (rgt (rgt (rgt (bod Tryz.f87)))))))),.blk 0,.seq (rgt (rgt (rgt (rgt (rgt (bod Tryz.f87))))))]))):=by
 intro qq
 induction qq with
 | zero =>
  exact ⟨fun _ _ _ h => nn h,fun _ _ _ _ _ h => nn h⟩
 | succ qq ih =>
  obtain ⟨ih87L60338,ih87L15367⟩:=ih
  refine ⟨?_,?_⟩
  intro v3 v4 r h
  rw [e87L60338] at h
  refine ⟨?_,?_⟩
  rcases spl h with ⟨h4,h⟩ | ⟨h4,h⟩
  have k:=oB 1 h4 o0
  rcases spl h with ⟨h5,h⟩ | ⟨h5,h⟩
  exact fun j => lH 1 [(none,5,3)] [] [0] [3,4,5,6] (oD (dT ([]:List Tm)) <| oD (dT v3) <| oB 0 h5 k) ((ih87L15367 _ _ _ _ _ h).1)
  obtain rfl:=sj h
  exact fun j => lF 0 [] (oB 0 h5 k)
  obtain rfl:=sj h
  exact fun j => lF 0 [] (oB 1 h4 o0)
  rcases spl h with ⟨h4,h⟩ | ⟨h4,h⟩
  have k:=oB 1 h4 o0
  rcases spl h with ⟨h5,h⟩ | ⟨h5,h⟩
  exact fun j => lH 1 [(none,5,3)] [] [0,1] [3,4,5,6] (oD (dT ([]:List Tm)) <| oD (dT v3) <| oB 0 h5 k) ((ih87L15367 _ _ _ _ _ h).2)
  obtain rfl:=sj h
  exact fun j => lF 0 [] (oB 0 h5 k)
  obtain rfl:=sj h
  exact fun j => lF 0 [] (oB 1 h4 o0)
  intro v3 v4 v5 v6 r h
  rw [e87L15367] at h
  refine ⟨?_,?_⟩
  rcases spl h with ⟨h6,h⟩ | ⟨h6,h⟩
  obtain ⟨x7,h8,h⟩:=obind h
  obtain ⟨l9,h10,h⟩:=obind h
  have k:=oA 0 (ix23 (o:=.full) h8) <| oB 1 h6 o0
  by_cases h11:List.length x7.sub = 0
  exact fun j => lH 1 [] [] [0] [3,4,5,6] (oD (dT l9) <| oD (dT v3) <| oP 1 (apN23 h10 h11) k) ((ih87L15367 _ _ _ _ _ h).1)
  exact fun j => lH 1 [] [] [1] [3,4,5,6] (oD (dT l9) <| oD (dT v3) <| oP 1 (apS23 h10 h11) k) ((ih87L15367 _ _ _ _ _ h).1)
  exact fun j => lH 1 [] [] [0] [3,4] (oD (dT v5) <| oB 1 h6 o0) ((ih87L60338 _ _ _ h).2)
  rcases spl h with ⟨h6,h⟩ | ⟨h6,h⟩
  obtain ⟨x7,h8,h⟩:=obind h
  obtain ⟨l9,h10,h⟩:=obind h
  have k:=oA 0 (ix23 (o:=(.st 0 3)) h8) <| oB 1 h6 o0
  by_cases h11:List.length x7.sub = 0
  exact fun j => lH 1 [] [] [0,1] [3,4,5,6] (oD (dT l9) <| oD (dT v3) <| oP 1 (apN23 h10 h11) k) ((ih87L15367 _ _ _ _ _ h).2)
  exact fun j => lH 1 [] [] [0,2] [3,4,5,6] (oD (dT l9) <| oD (dT v3) <| oP 1 (apS23 h10 h11) k) ((ih87L15367 _ _ _ _ _ h).2)
  exact fun j => lH 1 [] [] [1] [3,4] (oD (dT v5) <| oB 1 h6 o0) ((ih87L60338 _ _ _ h).2)
theorem c87 {qq p0 r} (h:e87 qq p0 = some r):K87 p0 r Ct:=by
 unfold e87 at h
 obtain ⟨r1,h2,h⟩:=obind h
 have k:=oC 1 [] (c77 h2) o0
 rcases spl h with ⟨h3,h⟩ | ⟨h3,h⟩
 obtain rfl:=sj h
 exact k87 (tF q87 0 [] (oB 0 h3 k))
 exact k87 (tH q87 0 [] [] [] [3,4] (oD (dT [p0]) <| oS 1 (obLitR tm_eq [p0]) <| oB 0 h3 k) ((((a87L60338_87L15367 _).1) _ _ _ h).1))
theorem nodesL_app : ∀ a b : List Tm, nodesL (a ++ b) = nodesL a + nodesL b
  | [], b => by simp [nodesL]
  | t :: a, b => by simp only [List.cons_append, nodesL, nodesL_app a b]; omega
theorem nodesL_len : ∀ l : List Tm, l.length ≤ nodesL l
  | [] => by simp [nodesL]
  | t :: l => by rw [nodesL]; have := nodesL_len l; have := nodes_pos t; simp; omega
theorem nodes_sub (t : Tm) : t.nodes = 1 + nodesL t.sub := by cases t; rw [Tm.nodes, Tm.sub]
theorem high_sub (t : Tm) : t.high = 1 + highL t.sub := by cases t; rw [Tm.high, Tm.sub]
theorem highL_app : ∀ a b : List Tm, highL (a ++ b) = max (highL a) (highL b)
  | [], b => by simp [highL]
  | t :: a, b => by simp only [List.cons_append, highL, highL_app a b]; omega
theorem gsl_ok {α : Type} {l : List α} {a b : Nat} (h1 : a ≤ b) (h2 : b ≤ l.length) : gsl l (a : Int) (b : Int) = some ((l.drop a).take (b - a)) := by
  unfold gsl
  rw [if_pos (by omega), show ((b : Int) - (a : Int)).toNat = b - a by omega, show (a : Int).toNat = a by omega]
theorem gidx_last {α : Type} (l : List α) (x : α) : gidx (l ++ [x]) (l.length : Int) = some x := by
  unfold gidx
  rw [if_pos (by omega)]; simp
theorem ev_rSizeL : ∀ (m h : Nat) (todo : List Tm), h + m = 8193 → todo.length ≤ 1 + h * 8193 → Evt (fun q => e77L26398 q todo (h : Int)) ((min (h + nodesL todo) 8193 : Nat) : Int) := by
  intro m
  induction m with
  | zero =>
    intro h todo hm hl
    refine Evt.succ ?_
    simp only [e77L26398]
    have : h = 8193 := by omega
    subst this
    rcases todo with _ | ⟨x, todo⟩
    · exact Evt.ifF (by simp) (Evt.ret.eq (by simp))
    · refine Evt.ifT (by simp <;> omega) (Evt.ifF (by simp) (Evt.ret.eq ?_))
      have : min (8193 + nodesL (x :: todo)) 8193 = 8193 := by omega
      rw [this]
  | succ m ih =>
    intro h todo hm hl
    refine Evt.succ ?_
    simp only [e77L26398]
    rcases List.eq_nil_or_concat todo with rfl | ⟨ini, x, rfl⟩
    · refine Evt.ifF (by simp) (Evt.ret.eq ?_)
      have : min (h + nodesL []) 8193 = h := by rw [nodesL]; omega
      rw [this]
    · simp only [List.concat_eq_append] at hl ⊢
      have hlen : (ini ++ [x]).length = ini.length + 1 := by simp
      have hb : h * 8193 ≤ 8192 * 8193 := Nat.mul_le_mul_right _ (by omega)
      have e1 : w64 (((ini ++ [x]).length : Int) - 1) = (ini.length : Int) := by rw [w64_id (by omega) (by omega), hlen]; omega
      refine Evt.ifT (by simp <;> omega) (Evt.ifT (by simp <;> omega) ?_)
      rw [e1]
      refine Evt.pure (gidx_last ini x) ?_
      have e2 : gsl (ini ++ [x]) 0 (ini.length : Int) = some ini := by
        have := gsl_ok (l := ini ++ [x]) (a := 0) (b := ini.length) (by omega) (by omega)
        simpa using this
      refine Evt.pure e2 (Evt.pure (gapp_ok (by simp <;> omega)) ?_)
      have e3 : imin (x.sub.length : Int) 8193 = ((min x.sub.length 8193 : Nat) : Int) := by unfold imin; split <;> omega
      rw [e3]
      have e4 := gsl_ok (l := x.sub) (a := 0) (b := min x.sub.length 8193) (by omega) (by omega)
      refine Evt.pure (by simpa using e4) (Evt.pure (gapp_ok (by simp <;> omega)) ?_)
      rw [w64_nat h (by omega)]
      refine (ih (h + 1) _ (by omega) (by simp <;> omega)).eq ?_
      have hn := nodes_sub x
      simp only [List.nil_append, nodesL_app, nodesL, Nat.add_zero]
      by_cases hs : x.sub.length ≤ 8193
      · rw [show min x.sub.length 8193 = x.sub.length by omega, List.take_length]
        omega
      · have h1 := nodesL_len (x.sub.take (min x.sub.length 8193))
        have h2 := nodesL_len x.sub
        simp only [List.length_take] at h1
        omega
theorem ev_rSize (t : Tm) : Evt (fun q => e77 q t) ((min t.nodes 8193 : Nat) : Int) := by
  simp only [e77]
  refine (ev_rSizeL 8193 0 [t] (by omega) (by simp)).eq ?_
  simp [nodesL]
theorem flat_high : ∀ l : List Tm, l ≠ [] → highL l = 1 + highL (l.flatMap Tm.sub)
  | [t], _ => by simp [highL, high_sub t]
  | t :: u :: l, _ => by
    have h1 := flat_high (u :: l) (by simp)
    have h2 : (t :: u :: l).flatMap Tm.sub = t.sub ++ (u :: l).flatMap Tm.sub := rfl
    rw [highL, h1, h2, highL_app, high_sub t]; omega
theorem flat_nodes : ∀ l : List Tm, nodesL l = l.length + nodesL (l.flatMap Tm.sub)
  | [] => by simp [nodesL]
  | t :: l => by rw [nodesL, List.flatMap_cons, nodesL_app, flat_nodes l, nodes_sub t]; simp; omega
theorem ev_rDepthL : ∀ (m d : Nat) (l : List Tm), d + m = 129 → nodesL l ≤ 8192 → Evt (fun q => e87L60338 q l (d : Int)) ((min (d + highL l) 129 : Nat) : Int) := by
  intro m
  induction m with
  | zero =>
    intro d l hm hl
    refine Evt.succ ?_
    simp only [e87L60338]
    have : d = 129 := by omega
    subst this
    rcases l with _ | ⟨x, l⟩
    · exact Evt.ifF (by simp) (Evt.ret.eq (by simp))
    · refine Evt.ifT (by simp <;> omega) (Evt.ifF (by simp) (Evt.ret.eq ?_))
      have : min (129 + highL (x :: l)) 129 = 129 := by omega
      rw [this]
  | succ m ih =>
    intro d l hm hl
    refine Evt.succ ?_
    simp only [e87L60338]
    by_cases h : l = []
    · subst h
      refine Evt.ifF (by simp) (Evt.ret.eq ?_)
      have : min (d + highL []) 129 = d := by rw [highL]; omega
      rw [this]
    · have hpos : 0 < l.length := List.length_pos_iff.2 h
      refine Evt.ifT (by simp <;> omega) (Evt.ifT (by simp <;> omega) ?_)
      have hfn := flat_nodes l
      have key : ∀ (r : List Tm) (v : Nat) (acc : List Tm), l.drop v = r → acc.length + nodesL (r.flatMap Tm.sub) ≤ 8192 → Evt (fun q => e87L15367 q l (d : Int) acc (v : Int)) ((min (d + 1 + highL (acc ++ r.flatMap Tm.sub)) 129 : Nat) : Int) ∨ nodesL (acc ++ r.flatMap Tm.sub) > 8192 := by
        intro r
        induction r with
        | nil =>
          intro v acc hd ha
          by_cases hn : nodesL acc ≤ 8192
          · refine .inl (Evt.succ ?_)
            simp only [e87L15367]
            refine Evt.ifF (drop_nil hd) ?_
            rw [w64_nat d (by omega)]
            refine (ih (d + 1) acc (by omega) hn).eq (by simp)
          · exact .inr (by simp <;> omega)
        | cons x r ihr =>
          intro v acc hd ha
          have hlt := drop_lt hd
          have hll := nodesL_len l
          have hsl := nodesL_len x.sub
          rw [List.flatMap_cons, nodesL_app] at ha
          rcases ihr (v + 1) (acc ++ x.sub) (drop_next hd) (by simp <;> omega) with h1 | h1
          · refine .inl (Evt.succ ?_)
            simp only [e87L15367]
            refine Evt.ifT (drop_dec hd) (Evt.pure (drop_idx hd) (Evt.pure (gapp_ok (by omega)) ?_))
            rw [w64_nat v (by omega)]
            refine h1.eq ?_
            rw [List.flatMap_cons, List.append_assoc]
          · refine .inr ?_
            rw [List.flatMap_cons, ← List.append_assoc]; exact h1
      rcases key l 0 [] rfl (by simp <;> omega) with h1 | h1
      · refine h1.eq ?_
        rw [flat_high l h]; simp; omega
      · simp only [List.nil_append] at h1; omega
def rdepT (t : Tm) : Int := if t.nodes ≤ 8192 then ((min t.high 129 : Nat) : Int) else 129
theorem ev_rDepth (t : Tm) : Evt (fun q => e87 q t) (rdepT t) := by
  simp only [e87]
  refine (ev_rSize t).bind ?_
  unfold rdepT
  by_cases h : t.nodes ≤ 8192
  · rw [if_pos h]
    refine Evt.ifF (by simp <;> omega) ((ev_rDepthL 129 0 [t] (by omega) (by simpa [nodesL] using h)).eq ?_)
    simp [highL]
  · rw [if_neg h]
    exact Evt.ifT (by simp <;> omega) Evt.ret
theorem tailG {p : Tm} {c : Nat} {m : Int} {X : Nat → Option Bool} {r : Bool} (h : p.sub.length = c → 0 ≤ p.n → p.n ≤ m → Evt X r) :
    Evt (fun q => if ((List.length p.sub : Int) != (c : Int)) = true then some false else if decide (p.n < 0) = true then some false else if decide (p.n > m) = true then some false else X q)
      (decide (p.sub.length = c) && decide (0 ≤ p.n) && decide (p.n ≤ m) && r) := by
  by_cases h1 : p.sub.length = c
  · refine Evt.ifF (by simp <;> omega) ?_
    by_cases h2 : p.n < 0
    · exact Evt.ifT (by simpa using h2) (Evt.ret.eq (by simp <;> omega))
    · refine Evt.ifF (by simpa using h2) ?_
      by_cases h3 : p.n > m
      · exact Evt.ifT (by simpa using h3) (Evt.ret.eq (by simp <;> omega))
      · refine Evt.ifF (by simpa using h3) ((h h1 (by omega) (by omega)).eq ?_)
        simp [h1, show 0 ≤ p.n by omega, show p.n ≤ m by omega]
  · exact Evt.ifT (by simp <;> omega) (Evt.ret.eq (by simp [h1]))
def e80 (qq:Nat) (p0:Tm) (p1:Int):Option (Int) :=
 if p1 == 1 then
 if p0.k != 5 then
 some 1
 else
 some 0
 else
 some 0
abbrev K80 (p0:Tm) (p1 r:Int) (C:Cf):Prop:=C 80 [] [tmA p0,ai p1] (ai r) [] 0
theorem q80:Qf 80 Tryz.f80:=⟨Tryz.func80,by kernel_rfl⟩
theorem k80 {p0 p1 r} (h:K80 p0 p1 r Ci):K80 p0 p1 r Ct:=⟨h,⟨⟨tv,tv,⟨tv,dT _⟩,tv⟩,tv,tv⟩,forall_nil,tv,forall_nil⟩
theorem c80 {qq p0 p1 r} (h:e80 qq p0 p1 = some r):K80 p0 p1 r Ct:=by
 unfold e80 at h
 rcases spl h with ⟨h1,h⟩ | ⟨h1,h⟩
 have k:=oB 0 h1 o0
 rcases spl h with ⟨h2,h⟩ | ⟨h2,h⟩
 obtain rfl:=sj h
 exact k80 (tF q80 0 [] (oB 1 h2 k))
 obtain rfl:=sj h
 exact k80 (tF q80 0 [] (oB 1 h2 k))
 obtain rfl:=sj h
 exact k80 (tF q80 0 [] (oB 0 h1 o0))
mutual
def e174:Nat → Tm → Int → Option (Int)
 | 0,_,_ => none
 | qq + 1,p0,p1 =>
 if p0.k == 1 then
 if decide (p0.n ≥ p1) then
 some (w64 ((w64 (p0.n - p1)) + 1))
 else
 e174L20122 qq p0 p1 0 0
 else
 e174L20122 qq p0 p1 0 0
def e174L20122:Nat → Tm → Int → Int → Int → Option (Int)
 | 0,_,_,_,_ => none
 | qq + 1,p0,p1,v5,v6 =>
 if decide (v6 < (List.length p0.sub:Int)) then
 gidx p0.sub v6 >>= fun x4 =>
 e80 qq p0 v6 >>= fun r6 =>
 e174 qq x4 (w64 (p1 + r6)) >>= fun r8 =>
 e174L20122 qq p0 p1 (imax v5 r8) (w64 (v6 + 1))
 else
 some v5
end
def g174L20122E0 (j:Nat → Value) (p0:Tm) (p1 v5 v6:Int):=sp j 42 0 [(1,ai p1),(2,.mp 0 0),(5,ai v5),(6,ai v6)]
def g174L20122S0 (p0:Tm) (p1 v5 v6:Int):LSt:=⟨[(0,.cells [ai p0.k,ai p0.n,slv tmCells p0.sub .no])],1,[],0,[]⟩
abbrev K174 (p0:Tm) (p1 r:Int) (C:Cf):Prop:=C 174 [] [tmA p0,ai p1] (ai r) [] 0
theorem q174:Qf 174 Tryz.f174:=⟨Tryz.func174,by kernel_rfl⟩
theorem k174 {p0 p1 r} (h:K174 p0 p1 r Ci):K174 p0 p1 r Ct:=⟨h,⟨⟨tv,tv,⟨tv,dT _⟩,tv⟩,tv,tv⟩,forall_nil,tv,forall_nil⟩
theorem a174_174L20122:∀ qq:Nat,(∀ p0 p1 r,e174 qq p0 p1 = some r → K174 p0 p1 r Ct) ∧ (∀ p0 p1 v5 v6 r,e174L20122 qq p0 p1 v5 v6 = some r → (∀ j,Dl Tryz.prog 0 (inn (inn (rgt (lft (rgt (rgt (rgt (bod Tryz.f174)))))))) (g174L20122E0 j p0 p1 v5 v6) (g174L20122S0 p0 p1 v5 v6) (frameQ Tryz.prog 0 (FinQ Tryz.prog 0 Tryz.f174 (ai r) [] 0) [.blk 0,.seq (rgt (rgt (rgt (rgt (bod Tryz.f174)))))]))):=by
 intro qq
 induction qq with
 | zero =>
  exact ⟨fun _ _ _ h => nn h,fun _ _ _ _ _ h => nn h⟩
 | succ qq ih =>
  obtain ⟨ih174,ih174L20122⟩:=ih
  refine ⟨?_,?_⟩
  intro p0 p1 r h
  rw [e174] at h
  rcases spl h with ⟨h1,h⟩ | ⟨h1,h⟩
  have k:=oB 1 h1 o0
  rcases spl h with ⟨h2,h⟩ | ⟨h2,h⟩
  obtain rfl:=sj h
  exact k174 (tF q174 3 [] (oB 1 h2 k))
  exact k174 (tH q174 0 [] [0] [] [1,2,5,6] (oD (dT p0.sub) <| oB 1 h2 k) (ih174L20122 _ _ _ _ _ h))
  exact k174 (tH q174 0 [] [0] [] [1,2,5,6] (oD (dT p0.sub) <| oB 1 h1 o0) (ih174L20122 _ _ _ _ _ h))
  intro p0 p1 v5 v6 r h
  rw [e174L20122] at h
  rcases spl h with ⟨h3,h⟩ | ⟨h3,h⟩
  obtain ⟨x4,h5,h⟩:=obind h
  obtain ⟨r6,h7,h⟩:=obind h
  obtain ⟨r8,h9,h⟩:=obind h
  exact fun j => lH 2 [] [0] [] [1,2,5,6] (oD (dT p0.sub) <| oC 1 [] (ih174 _ _ _ h9) <| oC 2 [] (c80 h7) <| oA 1 (ix23 (o:=.no) h5) <| oB 2 h3 o0) (ih174L20122 _ _ _ _ _ h)
  obtain rfl:=sj h
  exact fun j => lF 0 [] (oB 2 h3 o0)
theorem c174 {qq p0 p1 r} (h:e174 qq p0 p1 = some r):K174 p0 p1 r Ct:=(a174_174L20122 _).1 _ _ _ h
mutual
def e88:Nat → Tm → Option (Bool)
 | 0,_ => none
 | qq + 1,p0 =>
 if p0.k == 1 then
 if (List.length p0.sub:Int) != 0 then
 some false
 else
 if decide (p0.n < 0) then
 some false
 else
 if decide (p0.n > 1048576) then
 some false
 else
 if p0.k == 7 then
 gidx p0.sub 0 >>= fun x6 =>
 if x6.k != 2 then
 some false
 else
 e88L53023 qq p0 0 0
 else
 e88L53023 qq p0 0 0
 else
 if p0.k == 6 then
 if (List.length p0.sub:Int) != 0 then
 some false
 else
 if decide (p0.n < 0) then
 some false
 else
 if decide (p0.n > 1048576) then
 some false
 else
 if p0.k == 7 then
 gidx p0.sub 0 >>= fun x14 =>
 if x14.k != 2 then
 some false
 else
 e88L53023 qq p0 0 0
 else
 e88L53023 qq p0 0 0
 else
 if p0.k == 8 then
 if (List.length p0.sub:Int) != 0 then
 some false
 else
 if decide (p0.n < 0) then
 some false
 else
 if decide (p0.n > 1048576) then
 some false
 else
 if p0.k == 7 then
 gidx p0.sub 0 >>= fun x22 =>
 if x22.k != 2 then
 some false
 else
 e88L53023 qq p0 0 0
 else
 e88L53023 qq p0 0 0
 else
 if p0.k == 2 then
 if (List.length p0.sub:Int) != 0 then
 some false
 else
 if decide (p0.n < 0) then
 some false
 else
 if decide (p0.n > 7) then
 some false
 else
 if p0.k == 7 then
 gidx p0.sub 0 >>= fun x30 =>
 if x30.k != 2 then
 some false
 else
 e88L53023 qq p0 0 0
 else
 e88L53023 qq p0 0 0
 else
 if p0.k == 3 then
 if (List.length p0.sub:Int) != 2 then
 some false
 else
 if decide (p0.n < 0) then
 some false
 else
 if decide (p0.n > 0) then
 some false
 else
 if p0.k == 7 then
 gidx p0.sub 0 >>= fun x38 =>
 if x38.k != 2 then
 some false
 else
 e88L53023 qq p0 2 0
 else
 e88L53023 qq p0 2 0
 else
 if p0.k == 4 then
 if (List.length p0.sub:Int) != 2 then
 some false
 else
 if decide (p0.n < 0) then
 some false
 else
 if decide (p0.n > 0) then
 some false
 else
 if p0.k == 7 then
 gidx p0.sub 0 >>= fun x46 =>
 if x46.k != 2 then
 some false
 else
 e88L53023 qq p0 2 0
 else
 e88L53023 qq p0 2 0
 else
 if p0.k == 5 then
 if (List.length p0.sub:Int) != 2 then
 some false
 else
 if decide (p0.n < 0) then
 some false
 else
 if decide (p0.n > 0) then
 some false
 else
 if p0.k == 7 then
 gidx p0.sub 0 >>= fun x54 =>
 if x54.k != 2 then
 some false
 else
 e88L53023 qq p0 2 0
 else
 e88L53023 qq p0 2 0
 else
 if p0.k == 7 then
 if (List.length p0.sub:Int) != 1 then
 some false
 else
 if decide (p0.n < 0) then
 some false
 else
 if decide (p0.n > 1048576) then
 some false
 else
 gidx p0.sub 0 >>= fun x61 =>
 if x61.k != 2 then
 some false
 else
 e88L53023 qq p0 1 0
 else
 some false
def e88L53023:Nat → Tm → Int → Int → Option (Bool)
 | 0,_,_,_ => none
 | qq + 1,p0,v3,v5 =>
 if decide (v5 < v3) then
 gidx p0.sub v5 >>= fun x10 =>
 e88 qq x10 >>= fun r12 =>
 if r12 then
 e88L53023 qq p0 v3 (w64 (v5 + 1))
 else
 some false
 else
 some true
end
def g88L53023E0 (j:Nat → Value) (p0:Tm) (v3 v5:Int):=sp j 61 0 [(1,.mp 0 0),(3,ai v3),(5,ai v5)]
def g88L53023S0 (p0:Tm) (v3 v5:Int):LSt:=⟨[(0,.cells [ai p0.k,ai p0.n,slv tmCells p0.sub .no])],1,[],0,[]⟩
abbrev K88 (p0:Tm) (r:Bool) (C:Cf):Prop:=C 88 [] [tmA p0] (ab r) [] 0
theorem q88:Qf 88 Tryz.f88:=⟨Tryz.func88,by kernel_rfl⟩
theorem k88 {p0 r} (h:K88 p0 r Ci):K88 p0 r Ct:=⟨h,⟨⟨tv,tv,⟨tv,dT _⟩,tv⟩,tv⟩,forall_nil,tv,forall_nil⟩
theorem a88_88L53023:∀ qq:Nat,(∀ p0 r,e88 qq p0 = some r → K88 p0 r Ct) ∧ (∀ p0 v3 v5 r,e88L53023 qq p0 v3 v5 = some r → (∀ j,Dl Tryz.prog 0 (inn (inn (rgt (lft (rgt (rgt (rgt (rgt (rgt (bod Tryz.f88)))))))))) (g88L53023E0 j p0 v3 v5) (g88L53023S0 p0 v3 v5) (frameQ Tryz.prog 0 (FinQ Tryz.prog 0 Tryz.f88 (ab r) [] 0) [.blk 1,.seq (rgt (rgt (rgt (rgt (rgt (rgt (bod Tryz.f88)))))))]))):=by
 intro qq
 induction qq with
 | zero =>
  exact ⟨fun _ _ h => nn h,fun _ _ _ _ h => nn h⟩
 | succ qq ih =>
  obtain ⟨ih88,ih88L53023⟩:=ih
  refine ⟨?_,?_⟩
  intro p0 r h
  rw [e88] at h
  rcases spl h with ⟨h1,h⟩ | ⟨h1,h⟩
  have k:=oB 1 h1 o0
  rcases spl h with ⟨h2,h⟩ | ⟨h2,h⟩
  obtain rfl:=sj h
  exact k88 (tF q88 0 [] (oB 2 h2 k))
  have k:=oB 2 h2 k
  rcases spl h with ⟨h3,h⟩ | ⟨h3,h⟩
  obtain rfl:=sj h
  exact k88 (tF q88 0 [] (oB 1 h3 k))
  have k:=oB 1 h3 k
  rcases spl h with ⟨h4,h⟩ | ⟨h4,h⟩
  obtain rfl:=sj h
  exact k88 (tF q88 0 [] (oB 1 h4 k))
  have k:=oB 1 h4 k
  rcases spl h with ⟨h5,h⟩ | ⟨h5,h⟩
  obtain ⟨x6,h7,h⟩:=obind h
  have k:=oA 1 (ix23 (o:=.no) h7) <| oB 1 h5 k
  rcases spl h with ⟨h8,h⟩ | ⟨h8,h⟩
  obtain rfl:=sj h
  exact k88 (tF q88 0 [] (oB 1 h8 k))
  exact k88 (tH q88 0 [] [0] [] [1,3,5] (oD (dT p0.sub) <| oB 1 h8 k) (ih88L53023 _ _ _ _ h))
  exact k88 (tH q88 0 [] [0] [] [1,3,5] (oD (dT p0.sub) <| oB 1 h5 k) (ih88L53023 _ _ _ _ h))
  have k:=oB 1 h1 o0
  rcases spl h with ⟨h9,h⟩ | ⟨h9,h⟩
  have k:=oB 0 h9 k
  rcases spl h with ⟨h10,h⟩ | ⟨h10,h⟩
  obtain rfl:=sj h
  exact k88 (tF q88 0 [] (oB 2 h10 k))
  have k:=oB 2 h10 k
  rcases spl h with ⟨h11,h⟩ | ⟨h11,h⟩
  obtain rfl:=sj h
  exact k88 (tF q88 0 [] (oB 1 h11 k))
  have k:=oB 1 h11 k
  rcases spl h with ⟨h12,h⟩ | ⟨h12,h⟩
  obtain rfl:=sj h
  exact k88 (tF q88 0 [] (oB 1 h12 k))
  have k:=oB 1 h12 k
  rcases spl h with ⟨h13,h⟩ | ⟨h13,h⟩
  obtain ⟨x14,h15,h⟩:=obind h
  have k:=oA 1 (ix23 (o:=.no) h15) <| oB 1 h13 k
  rcases spl h with ⟨h16,h⟩ | ⟨h16,h⟩
  obtain rfl:=sj h
  exact k88 (tF q88 0 [] (oB 1 h16 k))
  exact k88 (tH q88 0 [] [0] [] [1,3,5] (oD (dT p0.sub) <| oB 1 h16 k) (ih88L53023 _ _ _ _ h))
  exact k88 (tH q88 0 [] [0] [] [1,3,5] (oD (dT p0.sub) <| oB 1 h13 k) (ih88L53023 _ _ _ _ h))
  have k:=oB 0 h9 k
  rcases spl h with ⟨h17,h⟩ | ⟨h17,h⟩
  have k:=oB 0 h17 k
  rcases spl h with ⟨h18,h⟩ | ⟨h18,h⟩
  obtain rfl:=sj h
  exact k88 (tF q88 0 [] (oB 2 h18 k))
  have k:=oB 2 h18 k
  rcases spl h with ⟨h19,h⟩ | ⟨h19,h⟩
  obtain rfl:=sj h
  exact k88 (tF q88 0 [] (oB 1 h19 k))
  have k:=oB 1 h19 k
  rcases spl h with ⟨h20,h⟩ | ⟨h20,h⟩
  obtain rfl:=sj h
  exact k88 (tF q88 0 [] (oB 1 h20 k))
  have k:=oB 1 h20 k
  rcases spl h with ⟨h21,h⟩ | ⟨h21,h⟩
  obtain ⟨x22,h23,h⟩:=obind h
  have k:=oA 1 (ix23 (o:=.no) h23) <| oB 1 h21 k
  rcases spl h with ⟨h24,h⟩ | ⟨h24,h⟩
  obtain rfl:=sj h
  exact k88 (tF q88 0 [] (oB 1 h24 k))
  exact k88 (tH q88 0 [] [0] [] [1,3,5] (oD (dT p0.sub) <| oB 1 h24 k) (ih88L53023 _ _ _ _ h))
  exact k88 (tH q88 0 [] [0] [] [1,3,5] (oD (dT p0.sub) <| oB 1 h21 k) (ih88L53023 _ _ _ _ h))
  have k:=oB 0 h17 k
  rcases spl h with ⟨h25,h⟩ | ⟨h25,h⟩
  have k:=oB 0 h25 k
  rcases spl h with ⟨h26,h⟩ | ⟨h26,h⟩
  obtain rfl:=sj h
  exact k88 (tF q88 0 [] (oB 2 h26 k))
  have k:=oB 2 h26 k
  rcases spl h with ⟨h27,h⟩ | ⟨h27,h⟩
  obtain rfl:=sj h
  exact k88 (tF q88 0 [] (oB 1 h27 k))
  have k:=oB 1 h27 k
  rcases spl h with ⟨h28,h⟩ | ⟨h28,h⟩
  obtain rfl:=sj h
  exact k88 (tF q88 0 [] (oB 1 h28 k))
  have k:=oB 1 h28 k
  rcases spl h with ⟨h29,h⟩ | ⟨h29,h⟩
  obtain ⟨x30,h31,h⟩:=obind h
  have k:=oA 1 (ix23 (o:=.no) h31) <| oB 1 h29 k
  rcases spl h with ⟨h32,h⟩ | ⟨h32,h⟩
  obtain rfl:=sj h
  exact k88 (tF q88 0 [] (oB 1 h32 k))
  exact k88 (tH q88 0 [] [0] [] [1,3,5] (oD (dT p0.sub) <| oB 1 h32 k) (ih88L53023 _ _ _ _ h))
  exact k88 (tH q88 0 [] [0] [] [1,3,5] (oD (dT p0.sub) <| oB 1 h29 k) (ih88L53023 _ _ _ _ h))
  have k:=oB 0 h25 k
  rcases spl h with ⟨h33,h⟩ | ⟨h33,h⟩
  have k:=oB 0 h33 k
  rcases spl h with ⟨h34,h⟩ | ⟨h34,h⟩
  obtain rfl:=sj h
  exact k88 (tF q88 0 [] (oB 2 h34 k))
  have k:=oB 2 h34 k
  rcases spl h with ⟨h35,h⟩ | ⟨h35,h⟩
  obtain rfl:=sj h
  exact k88 (tF q88 0 [] (oB 1 h35 k))
  have k:=oB 1 h35 k
  rcases spl h with ⟨h36,h⟩ | ⟨h36,h⟩
  obtain rfl:=sj h
  exact k88 (tF q88 0 [] (oB 1 h36 k))
  have k:=oB 1 h36 k
  rcases spl h with ⟨h37,h⟩ | ⟨h37,h⟩
  obtain ⟨x38,h39,h⟩:=obind h
  have k:=oA 1 (ix23 (o:=.no) h39) <| oB 1 h37 k
  rcases spl h with ⟨h40,h⟩ | ⟨h40,h⟩
  obtain rfl:=sj h
  exact k88 (tF q88 0 [] (oB 1 h40 k))
  exact k88 (tH q88 0 [] [0] [] [1,3,5] (oD (dT p0.sub) <| oB 1 h40 k) (ih88L53023 _ _ _ _ h))
  exact k88 (tH q88 0 [] [0] [] [1,3,5] (oD (dT p0.sub) <| oB 1 h37 k) (ih88L53023 _ _ _ _ h))
  have k:=oB 0 h33 k
  rcases spl h with ⟨h41,h⟩ | ⟨h41,h⟩
  have k:=oB 0 h41 k
  rcases spl h with ⟨h42,h⟩ | ⟨h42,h⟩
  obtain rfl:=sj h
  exact k88 (tF q88 0 [] (oB 2 h42 k))
  have k:=oB 2 h42 k
  rcases spl h with ⟨h43,h⟩ | ⟨h43,h⟩
  obtain rfl:=sj h
  exact k88 (tF q88 0 [] (oB 1 h43 k))
  have k:=oB 1 h43 k
  rcases spl h with ⟨h44,h⟩ | ⟨h44,h⟩
  obtain rfl:=sj h
  exact k88 (tF q88 0 [] (oB 1 h44 k))
  have k:=oB 1 h44 k
  rcases spl h with ⟨h45,h⟩ | ⟨h45,h⟩
  obtain ⟨x46,h47,h⟩:=obind h
  have k:=oA 1 (ix23 (o:=.no) h47) <| oB 1 h45 k
  rcases spl h with ⟨h48,h⟩ | ⟨h48,h⟩
  obtain rfl:=sj h
  exact k88 (tF q88 0 [] (oB 1 h48 k))
  exact k88 (tH q88 0 [] [0] [] [1,3,5] (oD (dT p0.sub) <| oB 1 h48 k) (ih88L53023 _ _ _ _ h))
  exact k88 (tH q88 0 [] [0] [] [1,3,5] (oD (dT p0.sub) <| oB 1 h45 k) (ih88L53023 _ _ _ _ h))
  have k:=oB 0 h41 k
  rcases spl h with ⟨h49,h⟩ | ⟨h49,h⟩
  have k:=oB 0 h49 k
  rcases spl h with ⟨h50,h⟩ | ⟨h50,h⟩
  obtain rfl:=sj h
  exact k88 (tF q88 0 [] (oB 2 h50 k))
  have k:=oB 2 h50 k
  rcases spl h with ⟨h51,h⟩ | ⟨h51,h⟩
  obtain rfl:=sj h
  exact k88 (tF q88 0 [] (oB 1 h51 k))
  have k:=oB 1 h51 k
  rcases spl h with ⟨h52,h⟩ | ⟨h52,h⟩
  obtain rfl:=sj h
  exact k88 (tF q88 0 [] (oB 1 h52 k))
  have k:=oB 1 h52 k
  rcases spl h with ⟨h53,h⟩ | ⟨h53,h⟩
  obtain ⟨x54,h55,h⟩:=obind h
  have k:=oA 1 (ix23 (o:=.no) h55) <| oB 1 h53 k
  rcases spl h with ⟨h56,h⟩ | ⟨h56,h⟩
  obtain rfl:=sj h
  exact k88 (tF q88 0 [] (oB 1 h56 k))
  exact k88 (tH q88 0 [] [0] [] [1,3,5] (oD (dT p0.sub) <| oB 1 h56 k) (ih88L53023 _ _ _ _ h))
  exact k88 (tH q88 0 [] [0] [] [1,3,5] (oD (dT p0.sub) <| oB 1 h53 k) (ih88L53023 _ _ _ _ h))
  have k:=oB 0 h49 k
  rcases spl h with ⟨h57,h⟩ | ⟨h57,h⟩
  have k:=oB 0 h57 k
  rcases spl h with ⟨h58,h⟩ | ⟨h58,h⟩
  obtain rfl:=sj h
  exact k88 (tF q88 0 [] (oB 2 h58 k))
  have k:=oB 2 h58 k
  rcases spl h with ⟨h59,h⟩ | ⟨h59,h⟩
  obtain rfl:=sj h
  exact k88 (tF q88 0 [] (oB 1 h59 k))
  have k:=oB 1 h59 k
  rcases spl h with ⟨h60,h⟩ | ⟨h60,h⟩
  obtain rfl:=sj h
  exact k88 (tF q88 0 [] (oB 1 h60 k))
  obtain ⟨x61,h62,h⟩:=obind h
  have k:=oA 1 (ix23 (o:=.no) h62) <| oB 1 h57 <| oB 1 h60 k
  rcases spl h with ⟨h63,h⟩ | ⟨h63,h⟩
  obtain rfl:=sj h
  exact k88 (tF q88 0 [] (oB 1 h63 k))
  exact k88 (tH q88 0 [] [0] [] [1,3,5] (oD (dT p0.sub) <| oB 1 h63 k) (ih88L53023 _ _ _ _ h))
  obtain rfl:=sj h
  exact k88 (tF q88 0 [] (oB 0 h57 k))
  intro p0 v3 v5 r h
  rw [e88L53023] at h
  rcases spl h with ⟨h9,h⟩ | ⟨h9,h⟩
  obtain ⟨x10,h11,h⟩:=obind h
  obtain ⟨r12,h13,h⟩:=obind h
  have k:=oA 1 (ix23 (o:=.no) h11) <| oB 0 h9 o0
  rcases spl h with ⟨h14,h⟩ | ⟨h14,h⟩
  exact fun j => lH 2 [] [0] [] [1,3,5] (oD (dT p0.sub) <| oK 1 [] h14 (ih88 _ _ h13) k) (ih88L53023 _ _ _ _ h)
  obtain rfl:=sj h
  exact fun j => lF 1 [] (oK 1 [] h14 (ih88 _ _ h13) k)
  obtain rfl:=sj h
  exact fun j => lF 0 [] (oB 0 h9 o0)
theorem c88 {qq p0 r} (h:e88 qq p0 = some r):K88 p0 r Ct:=(a88_88L53023 _).1 _ _ h
def e39 (qq:Nat) (p0:Tm):Option (Bool) :=
 e87 qq p0 >>= fun r1 =>
 if decide (r1 ≤ 128) then
 e88 qq p0 >>= fun r4 =>
 some r4
 else
 some false
abbrev K39 (p0:Tm) (r:Bool) (C:Cf):Prop:=C 39 [] [tmA p0] (ab r) [] 0
theorem q39:Qf 39 Tryz.f39:=⟨Tryz.func39,by kernel_rfl⟩
theorem k39 {p0 r} (h:K39 p0 r Ci):K39 p0 r Ct:=⟨h,⟨⟨tv,tv,⟨tv,dT _⟩,tv⟩,tv⟩,forall_nil,tv,forall_nil⟩
theorem c39 {qq p0 r} (h:e39 qq p0 = some r):K39 p0 r Ct:=by
 unfold e39 at h
 obtain ⟨r1,h2,h⟩:=obind h
 have k:=oC 1 [] (c87 h2) o0
 rcases spl h with ⟨h3,h⟩ | ⟨h3,h⟩
 obtain ⟨r4,h5,h⟩:=obind h
 obtain rfl:=sj h
 exact k39 (tF q39 0 [] (oC 1 [] (c88 h5) <| oB 0 h3 k))
 obtain rfl:=sj h
 exact k39 (tF q39 0 [] (oB 0 h3 k))
theorem goodT_iff (k n : Int) (l : List Tm) : goodT (.mk k n l) = (headT (.mk k n l) && goodL l) := by rw [goodT]
mutual
theorem ev_rgood : ∀ (t : Tm), t.Ok → Evt (fun q => e88 q t) (goodT t)
  | .mk k n l, ho => by
    refine Evt.succ ?_
    simp only [e88]
    have hL : ∀ c : Nat, l.length = c → Evt (fun q => e88L53023 q (.mk k n l) (c : Int) 0) (goodL l) := fun c hc =>
      ev_rgoodL l (.mk k n l) 0 c rfl (by simpa [Tm.sub] using hc) ho.1 ho.2
    by_cases h1 : k = 1
    · subst h1
      refine Evt.ifT rfl ((tailG (p := .mk 1 n l) (c := 0) (m := 1048576) (r := goodL l) fun hc _ _ => Evt.ifF rfl (hL 0 hc)).eq ?_)
      rw [goodT_iff]; simp [headT, Tm.k, Tm.n, Tm.sub]
      cases goodL l <;> simp [Bool.and_comm, Bool.and_left_comm, Bool.and_assoc]
    refine Evt.ifF (by simpa [Tm.k] using h1) ?_
    by_cases h6 : k = 6
    · subst h6
      refine Evt.ifT rfl ((tailG (p := .mk 6 n l) (c := 0) (m := 1048576) (r := goodL l) fun hc _ _ => Evt.ifF rfl (hL 0 hc)).eq ?_)
      rw [goodT_iff]; simp [headT, Tm.k, Tm.n, Tm.sub]
      cases goodL l <;> simp [Bool.and_comm, Bool.and_left_comm, Bool.and_assoc]
    refine Evt.ifF (by simpa [Tm.k] using h6) ?_
    by_cases h8 : k = 8
    · subst h8
      refine Evt.ifT rfl ((tailG (p := .mk 8 n l) (c := 0) (m := 1048576) (r := goodL l) fun hc _ _ => Evt.ifF rfl (hL 0 hc)).eq ?_)
      rw [goodT_iff]; simp [headT, Tm.k, Tm.n, Tm.sub]
      cases goodL l <;> simp [Bool.and_comm, Bool.and_left_comm, Bool.and_assoc]
    refine Evt.ifF (by simpa [Tm.k] using h8) ?_
    by_cases h2 : k = 2
    · subst h2
      refine Evt.ifT rfl ((tailG (p := .mk 2 n l) (c := 0) (m := 7) (r := goodL l) fun hc _ _ => Evt.ifF rfl (hL 0 hc)).eq ?_)
      rw [goodT_iff]; simp [headT, Tm.k, Tm.n, Tm.sub]
      cases goodL l <;> simp [Bool.and_comm, Bool.and_left_comm, Bool.and_assoc]
    refine Evt.ifF (by simpa [Tm.k] using h2) ?_
    by_cases h3 : k = 3
    · subst h3
      refine Evt.ifT rfl ((tailG (p := .mk 3 n l) (c := 2) (m := 0) (r := goodL l) fun hc _ _ => Evt.ifF rfl (hL 2 hc)).eq ?_)
      rw [goodT_iff]; simp [headT, Tm.k, Tm.n, Tm.sub]
      cases goodL l <;> simp [Bool.and_comm, Bool.and_left_comm, Bool.and_assoc]
    refine Evt.ifF (by simpa [Tm.k] using h3) ?_
    by_cases h4 : k = 4
    · subst h4
      refine Evt.ifT rfl ((tailG (p := .mk 4 n l) (c := 2) (m := 0) (r := goodL l) fun hc _ _ => Evt.ifF rfl (hL 2 hc)).eq ?_)
      rw [goodT_iff]; simp [headT, Tm.k, Tm.n, Tm.sub]
      cases goodL l <;> simp [Bool.and_comm, Bool.and_left_comm, Bool.and_assoc]
    refine Evt.ifF (by simpa [Tm.k] using h4) ?_
    by_cases h5 : k = 5
    · subst h5
      refine Evt.ifT rfl ((tailG (p := .mk 5 n l) (c := 2) (m := 0) (r := goodL l) fun hc _ _ => Evt.ifF rfl (hL 2 hc)).eq ?_)
      rw [goodT_iff]; simp [headT, Tm.k, Tm.n, Tm.sub]
      cases goodL l <;> simp [Bool.and_comm, Bool.and_left_comm, Bool.and_assoc]
    refine Evt.ifF (by simpa [Tm.k] using h5) ?_
    by_cases h7 : k = 7
    · subst h7
      refine Evt.ifT rfl ?_
      rcases l with _ | ⟨x, l⟩
      · refine (tailG (p := .mk 7 n []) (c := 1) (m := 1048576) (r := false) fun hc _ _ => by simp [Tm.sub] at hc).eq ?_
        rw [goodT_iff]; simp [headT, Tm.k, Tm.n, Tm.sub]
      · refine (tailG (p := .mk 7 n (x :: l)) (c := 1) (m := 1048576) (r := (x.k == 2) && goodL (x :: l)) fun hc _ _ => Evt.pure (a := x) rfl ?_).eq ?_
        · by_cases hx : x.k = 2
          · refine Evt.ifF (by simp [hx]) ((hL 1 (by simpa [Tm.sub] using hc)).eq (by simp [hx]))
          · exact Evt.ifT (by simp [hx]) (Evt.ret.eq (by simp [hx]))
        · rw [goodT_iff]; simp [headT, Tm.k, Tm.n, Tm.sub]
          cases goodL (x :: l) <;> cases (x.k == 2) <;> simp [Bool.and_comm, Bool.and_left_comm, Bool.and_assoc]
    refine Evt.ifF (by simpa [Tm.k] using h7) (Evt.ret.eq ?_)
    rw [goodT_iff]
    have : headT (.mk k n l) = false := by
      simp only [headT, Tm.k]
      by_cases h9 : 1 ≤ k ∧ k ≤ 8
      · omega
      · by_cases h10 : 1 ≤ k
        · simp [show ¬ k ≤ 8 by omega]
        · simp [h10]
    simp [this]
theorem ev_rgoodL : ∀ (l : List Tm) (p : Tm) (v c : Nat), p.sub.drop v = l → p.sub.length = c → p.sub.length < 9223372036854775808 → OkL l → Evt (fun q => e88L53023 q p (c : Int) (v : Int)) (goodL l)
  | [], p, v, c, hd, hc, hl, ho => by
    refine Evt.succ ?_
    simp only [e88L53023]
    rw [goodL, ← hc]
    exact Evt.ifF (drop_nil hd) Evt.ret
  | t :: l, p, v, c, hd, hc, hl, ho => by
    refine Evt.succ ?_
    simp only [e88L53023]
    refine Evt.ifT (by rw [← hc]; exact drop_dec hd) (Evt.pure (drop_idx hd) ((ev_rgood t ho.1).bind ?_))
    rw [goodL]
    cases goodT t with
    | false => exact Evt.ifF rfl Evt.ret
    | true =>
      refine Evt.ifT rfl ?_
      rw [w64_nat v (by have := drop_lt hd; omega)]
      exact ev_rgoodL l p (v + 1) c (drop_next hd) hc hl ho.2
end
theorem ev_rShaped (t : Tm) (ho : t.Ok) : Evt (fun q => e39 q t) (shapedT t) := by
  simp only [e39]
  refine (ev_rDepth t).bind ?_
  unfold shapedT rdepT
  by_cases h1 : t.nodes ≤ 8192
  · rw [if_pos h1]
    by_cases h2 : t.high ≤ 128
    · exact Evt.ifT (by simp <;> omega) (((ev_rgood t ho).bind Evt.ret).eq (by simp [h1, h2]))
    · exact Evt.ifF (by simp <;> omega) (Evt.ret.eq (by simp [h2]))
  · rw [if_neg h1]
    exact Evt.ifF (by simp) (Evt.ret.eq (by simp [h1]))
def undR (k : Int) (i : Nat) : Int := if i = 1 ∧ k ≠ 5 then 1 else 0
theorem ev_rBeneath (t : Tm) (i : Nat) : Evt (fun q => e80 q t (i : Int)) (undR t.k i) := by
  refine Evt.mk fun q => ?_
  simp only [e80, undR]
  by_cases h1 : i = 1
  · subst h1; by_cases h5 : t.k = 5 <;> simp [h5]
  · have : ¬ ((i : Int) = 1) := by omega
    simp [h1, this]
theorem und_ref {k n : Int} {l : List Tm} (h : headT (.mk k n l) = true) {i : Nat} (hi : i < l.length) : undR k i = undT k i := by
  unfold undT undR
  by_cases h1 : i = 1
  · subst h1
    have hs := head_spec h
    simp only [Tm.k, Tm.n, Tm.sub] at hs
    have : k = 3 ∨ k = 4 ∨ k = 5 := by
      by_cases h7 : k = 7
      · obtain ⟨x, hx, _⟩ := hs.2.2.2.2.2.2.1 h7
        rw [hx] at hi; simp at hi
      · by_cases h3 : k = 1 ∨ k = 2 ∨ k = 6 ∨ k = 8
        · rw [hs.2.2.2.2.2.2.2.1 h3] at hi; simp at hi
        · omega
    rcases this with rfl | rfl | rfl <;> simp
  · simp [h1]
mutual
theorem ev_rLoose : ∀ (t : Tm) (b : Int), goodT t = true → 0 ≤ b → b + t.high ≤ 4611686018427387904 → Evt (fun q => e174 q t b) (looT t b)
  | .mk k n l, b, hg, h0, h1 => by
    refine Evt.succ ?_
    simp only [e174, Tm.k, Tm.n]
    have hh := goodT_mk hg
    have hn := head_n hh.1
    have hl : Evt (fun q => e174L20122 q (.mk k n l) b 0 0) (looL l k 0 b) :=
      (ev_rLooseL l (.mk k n l) 0 b 0 rfl hh.1 hh.2 h0 (by omega) (by rw [Tm.high] at h1; omega)).eq (by have := looL_nn l k 0 b; simp only [Tm.k]; omega)
    rw [Tm.high] at h1
    rw [looT]
    by_cases hk : k = 1
    · rw [if_pos hk]
      refine Evt.ifT (by simpa using hk) ?_
      by_cases hb : n ≥ b
      · refine Evt.ifT (by simpa using hb) (Evt.ret.eq ?_)
        rw [w64_id (x := n - b) (by omega) (by omega), w64_id (by omega) (by omega)]; omega
      · refine Evt.ifF (by simpa using hb) (hl.eq ?_)
        have : l = [] := by
          have := hh.1
          subst hk
          simp [headT, Tm.k, Tm.n, Tm.sub] at this
          exact this.2.1
        subst this
        rw [looL]; omega
    · rw [if_neg hk]
      exact Evt.ifF (by simpa using hk) hl
theorem ev_rLooseL : ∀ (l : List Tm) (p : Tm) (v : Nat) (b m : Int), p.sub.drop v = l → headT p = true → goodL l = true → 0 ≤ b → 0 ≤ m → b + 1 + highL l ≤ 4611686018427387904 → Evt (fun q => e174L20122 q p b m (v : Int)) (max m (looL l p.k v b))
  | [], p, v, b, m, hd, hp, ho, h0, hm, h1 => by
    refine Evt.succ ?_
    simp only [e174L20122]
    rw [looL]
    exact Evt.ifF (drop_nil hd) (Evt.ret.eq (by omega))
  | t :: l, p, v, b, m, hd, hp, ho, h0, hm, h1 => by
    refine Evt.succ ?_
    simp only [e174L20122]
    have hg := goodL_cons ho
    have hu := undT_01 p.k v
    have hlt := drop_lt hd
    obtain ⟨k, n, ls⟩ := p
    have hls := (head_n hp).2.2.2.2
    simp only [Tm.sub] at hlt hd
    have he := und_ref hp hlt
    rw [highL] at h1
    refine Evt.ifT (drop_dec hd) (Evt.pure (drop_idx hd) ((ev_rBeneath (.mk k n ls) v).bind ?_))
    simp only [Tm.k] at hu ⊢
    rw [he, w64_id (x := b + undT k v) (by omega) (by omega)]
    refine (ev_rLoose t (b + undT k v) hg.1 (by omega) (by omega)).bind ?_
    rw [w64_nat v (by omega), imax_eq]
    refine (ev_rLooseL l (.mk k n ls) (v + 1) b _ (drop_next hd) hp hg.2 h0 (by omega) (by omega)).eq ?_
    simp only [Tm.k]
    rw [looL]; omega
end
def e81L27409:Nat → (List Int) → Int → (List Int) → Bool → Int → Option (List Int)
 | 0,_,_,_,_,_ => none
 | qq + 1,p0,p1,v5,v6,v7 =>
 if v6 then
 if decide (v7 < (List.length p0:Int)) then
 gidx p0 v7 >>= fun x2 =>
 gapp 8 v5 [x2] >>= fun l4 =>
 e81L27409 qq p0 p1 l4 true (w64 (v7 + 1))
 else
 some v5
 else
 if decide (v7 < (List.length p0:Int)) then
 gidx p0 v7 >>= fun x7 =>
 if decide (x7 ≥ p1) then
 if decide (x7 > p1) then
 gapp 8 v5 [p1] >>= fun l11 =>
 gapp 8 l11 [x7] >>= fun l13 =>
 e81L27409 qq p0 p1 l13 true (w64 (v7 + 1))
 else
 gapp 8 v5 [x7] >>= fun l15 =>
 e81L27409 qq p0 p1 l15 true (w64 (v7 + 1))
 else
 gapp 8 v5 [x7] >>= fun l17 =>
 e81L27409 qq p0 p1 l17 false (w64 (v7 + 1))
 else
 gapp 8 v5 [p1] >>= fun l19 =>
 some l19
def e81 (qq:Nat) (p0:List Int) (p1:Int):Option (List Int) :=
 e81L27409 qq p0 p1 [] false 0
def g81L27409E0 (j:Nat → Value) (p0:List Int) (p1:Int) (v5:List Int) (v6:Bool) (v7:Int):=sp j 49 0 [(0,slv intC p0 .no),(1,ai p1),(5,slv intC v5 (.st 0 1)),(6,ab v6),(7,ai v7)]
def g81L27409S0 (p0:List Int) (p1:Int) (v5:List Int) (v6:Bool) (v7:Int):LSt:=⟨[],0,[0],1,[]⟩
abbrev K81 (p0:List Int) (p1:Int) (r:List Int) (C:Cf):Prop:=C 81 [] [slv intC p0 .no,ai p1] (.sl (flat intC r) (List.length r) .no) [] 0
theorem q81:Qf 81 Tryz.f81:=⟨Tryz.func81,by kernel_rfl⟩
theorem k81 {p0 p1 r} (h:K81 p0 p1 r Ci):K81 p0 p1 r Ct:=⟨h,⟨⟨tv,dI _⟩,tv,tv⟩,forall_nil,dI _,forall_nil⟩
theorem l81L27409:∀ qq:Nat,(∀ p0 p1 v5 v6 v7 r,e81L27409 qq p0 p1 v5 v6 v7 = some r → (∀ j,Dl Tryz.prog 0 (inn (inn (rgt (lft (rgt (rgt (rgt (bod Tryz.f81)))))))) (g81L27409E0 j p0 p1 v5 v6 v7) (g81L27409S0 p0 p1 v5 v6 v7) (frameQ Tryz.prog 0 (FinQ Tryz.prog 0 Tryz.f81 (.sl (flat intC r) (List.length r) .no) [] 0) [.blk 0,.seq (rgt (rgt (rgt (rgt (bod Tryz.f81)))))]))):=by
 intro qq
 induction qq with
 | zero =>
  exact fun _ _ _ _ _ _ h => nn h
 | succ qq ih =>
  intro p0 p1 v5 v6 v7 r h
  rw [e81L27409] at h
  cases v6
  replace h:=ifF rfl h
  rcases spl h with ⟨h6,h⟩ | ⟨h6,h⟩
  obtain ⟨x7,h8,h⟩:=obind h
  have k:=oA 1 (ix34 (o:=.no) h8) <| oB 1 h6 o0
  rcases spl h with ⟨h9,h⟩ | ⟨h9,h⟩
  have k:=oA 0 (ix34 (o:=.no) h8) <| oB 1 h9 k
  rcases spl h with ⟨h10,h⟩ | ⟨h10,h⟩
  obtain ⟨l11,h12,h⟩:=obind h
  obtain ⟨l13,h14,h⟩:=obind h
  exact fun j => lH 1 [] [] [2] [0,1,5,6,7] (oD (dI l13) <| oD (dI p0) <| oP 2 (apS34 h14 (by simp)) <| oA 0 (ix34 (o:=.no) h8) <| oP 1 (apS34 h12 (by simp)) <| oB 1 h10 k) (ih _ _ _ _ _ _ h)
  obtain ⟨l15,h16,h⟩:=obind h
  exact fun j => lH 1 [] [] [1] [0,1,5,6,7] (oD (dI l15) <| oD (dI p0) <| oP 2 (apS34 h16 (by simp)) <| oA 0 (ix34 (o:=.no) h8) <| oB 1 h10 k) (ih _ _ _ _ _ _ h)
  obtain ⟨l17,h18,h⟩:=obind h
  exact fun j => lH 1 [] [] [1] [0,1,5,6,7] (oD (dI l17) <| oD (dI p0) <| oP 2 (apS34 h18 (by simp)) <| oA 0 (ix34 (o:=.no) h8) <| oB 1 h9 k) (ih _ _ _ _ _ _ h)
  obtain ⟨l19,h20,h⟩:=obind h
  obtain rfl:=sj h
  exact fun j => lF 0 [] (oD (dI l19) <| oP 2 (apS34 h20 (by simp)) <| oB 1 h6 o0)
  replace h:=ifT rfl h
  rcases spl h with ⟨h1,h⟩ | ⟨h1,h⟩
  obtain ⟨x2,h3,h⟩:=obind h
  obtain ⟨l4,h5,h⟩:=obind h
  exact fun j => lH 1 [] [] [1] [0,1,5,6,7] (oD (dI l4) <| oD (dI p0) <| oP 2 (apS34 h5 (by simp)) <| oA 1 (ix34 (o:=.no) h3) <| oB 1 h1 o0) (ih _ _ _ _ _ _ h)
  obtain rfl:=sj h
  exact fun j => lF 1 [] (oD (dI v5) <| oB 1 h1 o0)
theorem c81 {qq p0 p1 r} (h:e81 qq p0 p1 = some r):K81 p0 p1 r Ct:=by
 unfold e81 at h
 exact k81 (tH q81 1 [(none,5,1)] [] [0] [0,1,5,6,7] (oD (dI ([]:List Int)) <| oD (dI p0) o0) (l81L27409 _ _ _ _ _ _ _ h))
mutual
def e30:Nat → Tm → Int → Int → Option (List Int)
 | 0,_,_,_ => none
 | qq + 1,p0,p1,p2 =>
 if p0.k == p1 then
 gapp 8 ([]:List Int) [p0.n] >>= fun l2 =>
 e30L49119 qq p0 p1 p2 l2 0
 else
 if p0.k == p2 then
 gapp 8 ([]:List Int) [p0.n] >>= fun l5 =>
 e30L49119 qq p0 p1 p2 l5 0
 else
 e30L49119 qq p0 p1 p2 [] 0
def e30L49119:Nat → Tm → Int → Int → (List Int) → Int → Option (List Int)
 | 0,_,_,_,_,_ => none
 | qq + 1,p0,p1,p2,v7,v8 =>
 if decide (v8 < (List.length p0.sub:Int)) then
 gidx p0.sub v8 >>= fun x5 =>
 e30 qq x5 p1 p2 >>= fun r7 =>
 e30L62634 qq p0 p1 p2 v8 r7 0 v7
 else
 some v7
def e30L62634:Nat → Tm → Int → Int → Int → (List Int) → Int → (List Int) → Option (List Int)
 | 0,_,_,_,_,_,_,_ => none
 | qq + 1,p0,p1,p2,v8,r7,v10,v7 =>
 if decide (v10 < (List.length r7:Int)) then
 gidx r7 v10 >>= fun x10 =>
 e81 qq v7 x10 >>= fun r12 =>
 e30L62634 qq p0 p1 p2 v8 r7 (w64 (v10 + 1)) r12
 else
 e30L49119 qq p0 p1 p2 v7 (w64 (v8 + 1))
end
def g30L49119E0 (j:Nat → Value) (p0:Tm) (p1 p2:Int) (v7:List Int) (v8:Int):=sp j 55 0 [(1,ai p1),(2,ai p2),(3,.mp 0 0),(7,slv intC v7 (.st 0 1)),(8,ai v8)]
def g30L49119S0 (p0:Tm) (p1 p2:Int) (v7:List Int) (v8:Int):LSt:=⟨[(0,.cells [ai p0.k,ai p0.n,slv tmCells p0.sub .no])],1,[0],1,[]⟩
def g30L49119E1 (j:Nat → Value) (p0:Tm) (p1 p2:Int) (v7:List Int) (v8:Int):=sp j 55 0 [(1,ai p1),(2,ai p2),(3,.mp 0 0),(7,slv intC v7 .no),(8,ai v8)]
def g30L49119S1 (p0:Tm) (p1 p2:Int) (v7:List Int) (v8:Int):LSt:=⟨[(0,.cells [ai p0.k,ai p0.n,slv tmCells p0.sub .no])],1,[],0,[]⟩
def g30L49119E2 (j:Nat → Value) (p0:Tm) (p1 p2:Int) (v7:List Int) (v8:Int):=sp j 55 0 [(1,ai p1),(2,ai p2),(3,.mp 0 0),(7,slv intC v7 .full),(8,ai v8)]
def g30L49119S2 (p0:Tm) (p1 p2:Int) (v7:List Int) (v8:Int):LSt:=⟨[(0,.cells [ai p0.k,ai p0.n,slv tmCells p0.sub .no])],1,[],0,[]⟩
def g30L62634E0 (j:Nat → Value) (p0:Tm) (p1 p2 v8:Int) (r7:List Int) (v10:Int) (v7:List Int):=sp j 55 0 [(1,ai p1),(2,ai p2),(3,.mp 0 0),(7,slv intC v7 (.st 0 1)),(8,ai v8),(9,slv intC r7 .no),(10,ai v10)]
def g30L62634S0 (p0:Tm) (p1 p2 v8:Int) (r7:List Int) (v10:Int) (v7:List Int):LSt:=⟨[(0,.cells [ai p0.k,ai p0.n,slv tmCells p0.sub .no])],1,[0],1,[]⟩
def g30L62634E1 (j:Nat → Value) (p0:Tm) (p1 p2 v8:Int) (r7:List Int) (v10:Int) (v7:List Int):=sp j 55 0 [(1,ai p1),(2,ai p2),(3,.mp 0 0),(7,slv intC v7 .no),(8,ai v8),(9,slv intC r7 .no),(10,ai v10)]
def g30L62634S1 (p0:Tm) (p1 p2 v8:Int) (r7:List Int) (v10:Int) (v7:List Int):LSt:=⟨[(0,.cells [ai p0.k,ai p0.n,slv tmCells p0.sub .no])],1,[],0,[]⟩
def g30L62634E2 (j:Nat → Value) (p0:Tm) (p1 p2 v8:Int) (r7:List Int) (v10:Int) (v7:List Int):=sp j 55 0 [(1,ai p1),(2,ai p2),(3,.mp 0 0),(7,slv intC v7 .full),(8,ai v8),(9,slv intC r7 .no),(10,ai v10)]
def g30L62634S2 (p0:Tm) (p1 p2 v8:Int) (r7:List Int) (v10:Int) (v7:List Int):LSt:=⟨[(0,.cells [ai p0.k,ai p0.n,slv tmCells p0.sub .no])],1,[],0,[]⟩
abbrev K30 (p0:Tm) (p1 p2:Int) (r:List Int) (C:Cf):Prop:=C 30 [] [tmA p0,ai p1,ai p2] (.sl (flat intC r) (List.length r) .no) [] 0
theorem q30:Qf 30 Tryz.f30:=⟨Tryz.func30,by kernel_rfl⟩
theorem k30 {p0 p1 p2 r} (h:K30 p0 p1 p2 r Ci):K30 p0 p1 p2 r Ct:=⟨h,⟨⟨tv,tv,⟨tv,dT _⟩,tv⟩,tv,tv,tv⟩,forall_nil,dI _,forall_nil⟩
theorem a30_30L49119_30L62634:∀ qq:Nat,(∀ p0 p1 p2 r,e30 qq p0 p1 p2 = some r → K30 p0 p1 p2 r Ct) ∧ (∀ p0 p1 p2 v7 v8 r,e30L49119 qq p0 p1 p2 v7 v8 = some r → (∀ j,Dl Tryz.prog 0 (inn (inn (rgt (lft (rgt (rgt (rgt (bod Tryz.f30)))))))) (g30L49119E0 j p0 p1 p2 v7 v8) (g30L49119S0 p0 p1 p2 v7 v8) (frameQ Tryz.prog 0 (FinQ Tryz.prog 0 Tryz.f30 (.sl (flat intC r) (List.length r) .no) [] 0) [.blk 0,.seq (rgt (rgt (rgt (rgt (bod Tryz.f30)))))])) ∧ (∀ j,Dl Tryz.prog 0 (inn (inn (rgt (lft (rgt (rgt (rgt (bod Tryz.f30)))))))) (g30L49119E1 j p0 p1 p2 v7 v8) (g30L49119S1 p0 p1 p2 v7 v8) (frameQ Tryz.prog 0 (FinQ Tryz.prog 0 Tryz.f30 (.sl (flat intC r) (List.length r) .no) [] 0) [.blk 0,.seq (rgt (rgt (rgt (rgt (bod Tryz.f30)))))])) ∧ (∀ j,Dl Tryz.prog 0 (inn (inn (rgt (lft (rgt (rgt (rgt (bod Tryz.f30)))))))) (g30L49119E2 j p0 p1 p2 v7 v8) (g30L49119S2 p0 p1 p2 v7 v8) (frameQ Tryz.prog 0 (FinQ Tryz.prog 0 Tryz.f30 (.sl (flat intC r) (List.length r) .no) [] 0) [.blk 0,.seq (rgt (rgt (rgt (rgt (bod Tryz.f30)))))]))) ∧ (∀ p0 p1 p2 v8 r7 v10 v7 r,e30L62634 qq p0 p1 p2 v8 r7 v10 v7 = some r → (∀ j,Dl Tryz.prog 0 (inn (inn (rgt (rgt (inn (lft (rgt (inn (inn (rgt (lft (rgt (rgt (rgt (bod Tryz.f30))))))))))))))) (g30L62634E0 j p0 p1 p2 v8 r7 v10 v7) (g30L62634S0 p0 p1 p2 v8 r7 v10 v7) (frameQ Tryz.prog 0 (FinQ Tryz.prog 0 Tryz.f30 (.sl (flat intC r) (List.length r) .no) [] 0) [.blk 2,.blk 1,.seq (rgt (rgt (inn (inn (rgt (lft (rgt (rgt (rgt (bod Tryz.f30)))))))))),.loop (inn (inn (rgt (lft (rgt (rgt (rgt (bod Tryz.f30)))))))),.blk 0,.seq (rgt (rgt (rgt (rgt (bod Tryz.f30)))))])) ∧ (∀ j,Dl Tryz.prog 0 (inn (inn (rgt (rgt (inn (lft (rgt (inn (inn (rgt (lft (rgt (rgt (rgt (bod Tryz.f30))))))))))))))) (g30L62634E1 j p0 p1 p2 v8 r7 v10 v7) (g30L62634S1 p0 p1 p2 v8 r7 v10 v7) (frameQ Tryz.prog 0 (FinQ Tryz.prog 0 Tryz.f30 (.sl (flat intC r) (List.length r) .no) [] 0) [.blk 2,.blk 1,.seq (rgt (rgt (inn (inn (rgt (lft (rgt (rgt (rgt (bod Tryz.f30)))))))))),.loop (inn (inn (rgt (lft (rgt (rgt (rgt (bod Tryz.f30)))))))),.blk 0,.seq (rgt (rgt (rgt (rgt (bod Tryz.f30)))))])) ∧ (∀ j,Dl Tryz.prog 0 (inn (inn (rgt (rgt (inn (lft (rgt (inn (inn (rgt (lft (rgt (rgt (rgt (bod Tryz.f30))))))))))))))) (g30L62634E2 j p0 p1 p2 v8 r7 v10 v7) (g30L62634S2 p0 p1 p2 v8 r7 v10 v7) (frameQ Tryz.prog 0 (FinQ Tryz.prog 0 Tryz.f30 (.sl (flat intC r) (List.length r) .no) [] 0) [.blk 2,.blk 1,.seq (rgt (rgt (inn (inn (rgt (lft (rgt (rgt (rgt (bod Tryz.f30)))))))))),.loop (inn (inn (rgt (lft (rgt (rgt (rgt (bod Tryz.f30)))))))),.blk 0,.seq (rgt (rgt (rgt (rgt (bod Tryz.f30)))))]))):=by
 intro qq
 induction qq with
 | zero =>
  exact ⟨fun _ _ _ _ h => nn h,fun _ _ _ _ _ _ h => nn h,fun _ _ _ _ _ _ _ _ h => nn h⟩
 | succ qq ih =>
  obtain ⟨ih30,ih30L49119,ih30L62634⟩:=ih
  refine ⟨?_,?_,?_⟩
  intro p0 p1 p2 r h
  rw [e30] at h
  rcases spl h with ⟨h1,h⟩ | ⟨h1,h⟩
  obtain ⟨l2,h3,h⟩:=obind h
  exact k30 (tH q30 0 [] [0] [0] [1,2,3,7,8] (oD (dI l2) <| oD (dT p0.sub) <| oP 2 (apS34 h3 (by simp)) <| oB 2 h1 o0) ((ih30L49119 _ _ _ _ _ _ h).1))
  have k:=oB 2 h1 o0
  rcases spl h with ⟨h4,h⟩ | ⟨h4,h⟩
  obtain ⟨l5,h6,h⟩:=obind h
  exact k30 (tH q30 0 [] [0] [0] [1,2,3,7,8] (oD (dI l5) <| oD (dT p0.sub) <| oP 2 (apS34 h6 (by simp)) <| oB 1 h4 k) ((ih30L49119 _ _ _ _ _ _ h).1))
  exact k30 (tH q30 0 [] [0] [] [1,2,3,7,8] (oD (dI ([]:List Int)) <| oD (dT p0.sub) <| oB 1 h4 k) ((ih30L49119 _ _ _ _ _ _ h).2.2))
  intro p0 p1 p2 v7 v8 r h
  rw [e30L49119] at h
  refine ⟨?_,?_,?_⟩
  rcases spl h with ⟨h4,h⟩ | ⟨h4,h⟩
  obtain ⟨x5,h6,h⟩:=obind h
  obtain ⟨r7,h8,h⟩:=obind h
  exact fun j => lH 0 [] [0] [0] [1,2,3,7,8,9,10] (oD (dI r7) <| oD (dI v7) <| oD (dT p0.sub) <| oC 1 [] (ih30 _ _ _ _ h8) <| oA 1 (ix23 (o:=.no) h6) <| oB 2 h4 o0) ((ih30L62634 _ _ _ _ _ _ _ _ h).1)
  obtain rfl:=sj h
  exact fun j => lF 0 [] (oD (dI v7) <| oB 2 h4 o0)
  rcases spl h with ⟨h4,h⟩ | ⟨h4,h⟩
  obtain ⟨x5,h6,h⟩:=obind h
  obtain ⟨r7,h8,h⟩:=obind h
  exact fun j => lH 0 [] [0] [] [1,2,3,7,8,9,10] (oD (dI r7) <| oD (dI v7) <| oD (dT p0.sub) <| oC 1 [] (ih30 _ _ _ _ h8) <| oA 1 (ix23 (o:=.no) h6) <| oB 2 h4 o0) ((ih30L62634 _ _ _ _ _ _ _ _ h).2.1)
  obtain rfl:=sj h
  exact fun j => lF 0 [] (oD (dI v7) <| oB 2 h4 o0)
  rcases spl h with ⟨h4,h⟩ | ⟨h4,h⟩
  obtain ⟨x5,h6,h⟩:=obind h
  obtain ⟨r7,h8,h⟩:=obind h
  exact fun j => lH 0 [] [0] [] [1,2,3,7,8,9,10] (oD (dI r7) <| oD (dI v7) <| oD (dT p0.sub) <| oC 1 [] (ih30 _ _ _ _ h8) <| oA 1 (ix23 (o:=.no) h6) <| oB 2 h4 o0) ((ih30L62634 _ _ _ _ _ _ _ _ h).2.2)
  obtain rfl:=sj h
  exact fun j => lF 0 [] (oD (dI v7) <| oB 2 h4 o0)
  intro p0 p1 p2 v8 r7 v10 v7 r h
  rw [e30L62634] at h
  refine ⟨?_,?_,?_⟩
  rcases spl h with ⟨h9,h⟩ | ⟨h9,h⟩
  obtain ⟨x10,h11,h⟩:=obind h
  obtain ⟨r12,h13,h⟩:=obind h
  exact fun j => lH 1 [] [0] [] [1,2,3,7,8,9,10] (oD (dI r7) <| oD (dI r12) <| oD (dT p0.sub) <| oC 1 [] (c81 h13) <| oA 0 (ix34 (o:=.no) h11) <| oB 1 h9 o0) ((ih30L62634 _ _ _ _ _ _ _ _ h).2.1)
  exact fun j => lH 1 [] [0] [0] [1,2,3,7,8] (oD (dI v7) <| oD (dT p0.sub) <| oB 1 h9 o0) ((ih30L49119 _ _ _ _ _ _ h).1)
  rcases spl h with ⟨h9,h⟩ | ⟨h9,h⟩
  obtain ⟨x10,h11,h⟩:=obind h
  obtain ⟨r12,h13,h⟩:=obind h
  exact fun j => lH 1 [] [0] [] [1,2,3,7,8,9,10] (oD (dI r7) <| oD (dI r12) <| oD (dT p0.sub) <| oC 1 [] (c81 h13) <| oA 0 (ix34 (o:=.no) h11) <| oB 1 h9 o0) ((ih30L62634 _ _ _ _ _ _ _ _ h).2.1)
  exact fun j => lH 1 [] [0] [] [1,2,3,7,8] (oD (dI v7) <| oD (dT p0.sub) <| oB 1 h9 o0) ((ih30L49119 _ _ _ _ _ _ h).2.1)
  rcases spl h with ⟨h9,h⟩ | ⟨h9,h⟩
  obtain ⟨x10,h11,h⟩:=obind h
  obtain ⟨r12,h13,h⟩:=obind h
  exact fun j => lH 1 [] [0] [] [1,2,3,7,8,9,10] (oD (dI r7) <| oD (dI r12) <| oD (dT p0.sub) <| oC 1 [] (c81 h13) <| oA 0 (ix34 (o:=.no) h11) <| oB 1 h9 o0) ((ih30L62634 _ _ _ _ _ _ _ _ h).2.1)
  exact fun j => lH 1 [] [0] [] [1,2,3,7,8] (oD (dI v7) <| oD (dT p0.sub) <| oB 1 h9 o0) ((ih30L49119 _ _ _ _ _ _ h).2.2)
theorem c30 {qq p0 p1 p2 r} (h:e30 qq p0 p1 p2 = some r):K30 p0 p1 p2 r Ct:=(a30_30L49119_30L62634 _).1 _ _ _ _ h
def e105L11093:Nat → Int → (List Int) → Int → Option (Bool)
 | 0,_,_,_ => none
 | qq + 1,p2,r7,v8 =>
 if decide (v8 < (List.length r7:Int)) then
 gidx r7 v8 >>= fun x10 =>
 if decide (x10 ≥ p2) then
 some false
 else
 e105L11093 qq p2 r7 (w64 (v8 + 1))
 else
 some true
def e105 (qq:Nat) (p0:Tm) (p1 p2:Int):Option (Bool) :=
 e39 qq p0 >>= fun r1 =>
 if r1 then
 e174 qq p0 0 >>= fun r4 =>
 if decide (r4 > p1) then
 some false
 else
 e30 qq p0 6 7 >>= fun r7 =>
 e105L11093 qq p2 r7 0
 else
 some false
def g105L11093E0 (j:Nat → Value) (p2:Int) (r7:List Int) (v8:Int):=sp j 32 0 [(2,ai p2),(7,slv intC r7 .no),(8,ai v8)]
def g105L11093S0 (p2:Int) (r7:List Int) (v8:Int):LSt:=⟨[],0,[],0,[]⟩
abbrev K105 (p0:Tm) (p1 p2:Int) (r:Bool) (C:Cf):Prop:=C 105 [] [tmA p0,ai p1,ai p2] (ab r) [] 0
theorem q105:Qf 105 Tryz.f105:=⟨Tryz.func105,by kernel_rfl⟩
theorem k105 {p0 p1 p2 r} (h:K105 p0 p1 p2 r Ci):K105 p0 p1 p2 r Ct:=⟨h,⟨⟨tv,tv,⟨tv,dT _⟩,tv⟩,tv,tv,tv⟩,forall_nil,tv,forall_nil⟩
theorem l105L11093:∀ qq:Nat,(∀ p2 r7 v8 r,e105L11093 qq p2 r7 v8 = some r → (∀ j,Dl Tryz.prog 0 (inn (inn (rgt (lft (rgt (rgt (rgt (bod Tryz.f105)))))))) (g105L11093E0 j p2 r7 v8) (g105L11093S0 p2 r7 v8) (frameQ Tryz.prog 0 (FinQ Tryz.prog 0 Tryz.f105 (ab r) [] 0) [.blk 0,.seq (rgt (rgt (rgt (rgt (bod Tryz.f105)))))]))):=by
 intro qq
 induction qq with
 | zero =>
  exact fun _ _ _ _ h => nn h
 | succ qq ih =>
  intro p2 r7 v8 r h
  rw [e105L11093] at h
  rcases spl h with ⟨h9,h⟩ | ⟨h9,h⟩
  obtain ⟨x10,h11,h⟩:=obind h
  have k:=oA 0 (ix34 (o:=.no) h11) <| oB 1 h9 o0
  rcases spl h with ⟨h12,h⟩ | ⟨h12,h⟩
  obtain rfl:=sj h
  exact fun j => lF 0 [] (oB 1 h12 k)
  exact fun j => lH 1 [] [] [] [2,7,8] (oD (dI r7) <| oB 1 h12 k) (ih _ _ _ _ h)
  obtain rfl:=sj h
  exact fun j => lF 0 [] (oB 1 h9 o0)
theorem c105 {qq p0 p1 p2 r} (h:e105 qq p0 p1 p2 = some r):K105 p0 p1 p2 r Ct:=by
 unfold e105 at h
 obtain ⟨r1,h2,h⟩:=obind h
 rcases spl h with ⟨h3,h⟩ | ⟨h3,h⟩
 obtain ⟨r4,h5,h⟩:=obind h
 have k:=oC 2 [] (c174 h5) <| oK 1 [] h3 (c39 h2) o0
 rcases spl h with ⟨h6,h⟩ | ⟨h6,h⟩
 obtain rfl:=sj h
 exact k105 (tF q105 0 [] (oB 0 h6 k))
 obtain ⟨r7,h8,h⟩:=obind h
 exact k105 (tH q105 0 [] [] [] [2,7,8] (oD (dI r7) <| oC 1 [] (c30 h8) <| oB 0 h6 k) (l105L11093 _ _ _ _ _ h))
 obtain rfl:=sj h
 exact k105 (tF q105 1 [] (oK 1 [] h3 (c39 h2) o0))
def e46 (qq:Nat) (p0:Tm) (p1:Int):Option (Bool) :=
 e105 qq p0 0 p1 >>= fun r1 =>
 if r1 then
 e30 qq p0 8 8 >>= fun r4 =>
 some ((List.length r4:Int) == 0)
 else
 some false
abbrev K46 (p0:Tm) (p1:Int) (r:Bool) (C:Cf):Prop:=C 46 [] [tmA p0,ai p1] (ab r) [] 0
theorem q46:Qf 46 Tryz.f46:=⟨Tryz.func46,by kernel_rfl⟩
theorem k46 {p0 p1 r} (h:K46 p0 p1 r Ci):K46 p0 p1 r Ct:=⟨h,⟨⟨tv,tv,⟨tv,dT _⟩,tv⟩,tv,tv⟩,forall_nil,tv,forall_nil⟩
theorem c46 {qq p0 p1 r} (h:e46 qq p0 p1 = some r):K46 p0 p1 r Ct:=by
 unfold e46 at h
 obtain ⟨r1,h2,h⟩:=obind h
 rcases spl h with ⟨h3,h⟩ | ⟨h3,h⟩
 obtain ⟨r4,h5,h⟩:=obind h
 obtain rfl:=sj h
 exact k46 (tF q46 2 [] (oC 1 [] (c30 h5) <| oK 1 [] h3 (c105 h2) o0))
 obtain rfl:=sj h
 exact k46 (tF q46 0 [] (oK 1 [] h3 (c105 h2) o0))
theorem tot_put : ∀ (r l : List Int) (n : Int) (v : Nat) (acc : List Int) (done : Bool), l.drop v = r → l.length ≤ 8192 → acc.length ≤ v + 1 → (done = false → acc.length ≤ v) → v ≤ l.length →
    Tot (fun q => e81L27409 q l n acc done (v : Int)) fun o => o.length ≤ acc.length + r.length + 1 ∧ (done = true → o.length ≤ acc.length + r.length) ∧ ∀ x, x ∈ o ↔ x ∈ acc ∨ x ∈ r ∨ (done = false ∧ x = n)
  | [], l, n, v, acc, done, hd, hl, ha, hb, hv => by
    refine Tot.succ ?_
    simp only [e81L27409]
    cases done with
    | true =>
      refine Tot.ite (fun _ => Tot.ite (fun h => ?_) fun _ => Tot.ret ⟨(by simp <;> omega), fun _ => (by simp), fun x => by simp⟩) (fun h => by cases h)
      rw [drop_nil hd] at h; cases h
    | false =>
      refine Tot.ite (fun h => by cases h) (fun _ => Tot.ite (fun h => ?_) fun _ => Tot.pure (gapp_ok (by simp <;> omega)) (Tot.ret ⟨(by simp), fun h => (by cases h), fun x => by simp⟩))
      rw [drop_nil hd] at h; cases h
  | y :: r, l, n, v, acc, done, hd, hl, ha, hb, hv => by
    have hlt := drop_lt hd
    refine Tot.succ ?_
    simp only [e81L27409]
    cases done with
    | true =>
      refine Tot.ite (fun _ => Tot.ite (fun _ => Tot.pure (drop_idx hd) (Tot.pure (gapp_ok (by simp <;> omega)) ?_)) fun h => ?_) (fun h => by cases h)
      · rw [w64_nat v (by omega)]
        refine (tot_put r l n (v + 1) (acc ++ [y]) true (drop_next hd) hl (by simp <;> omega) (fun h => by cases h) (by omega)).mono fun o ho => ?_
        refine ⟨by have := ho.2.1 rfl; simp at this ⊢ <;> omega, fun _ => by have := ho.2.1 rfl; simp at this ⊢ <;> omega, fun x => ?_⟩
        rw [ho.2.2 x]; simp [or_assoc]
      · rw [drop_dec hd] at h; cases h
    | false =>
      have hb' := hb rfl
      refine Tot.ite (fun h => by cases h) (fun _ => Tot.ite (fun _ => Tot.pure (drop_idx hd) (Tot.ite (fun h1 => Tot.ite (fun h2 => Tot.pure (gapp_ok (by simp <;> omega)) (Tot.pure (gapp_ok (by simp <;> omega)) ?_)) fun h2 => Tot.pure (gapp_ok (by simp <;> omega)) ?_) fun h1 => Tot.pure (gapp_ok (by simp <;> omega)) ?_)) fun h => ?_)
      · rw [w64_nat v (by omega)]
        refine (tot_put r l n (v + 1) (acc ++ [n] ++ [y]) true (drop_next hd) hl (by simp <;> omega) (fun h => by cases h) (by omega)).mono fun o ho => ?_
        refine ⟨by have := ho.2.1 rfl; simp at this ⊢ <;> omega, fun h => (by cases h), fun x => ?_⟩
        rw [ho.2.2 x]; simp; grind
      · rw [w64_nat v (by omega)]
        refine (tot_put r l n (v + 1) (acc ++ [y]) true (drop_next hd) hl (by simp <;> omega) (fun h => by cases h) (by omega)).mono fun o ho => ?_
        have e : y = n := by simp at h1 h2; omega
        subst e
        refine ⟨by have := ho.2.1 rfl; simp at this ⊢ <;> omega, fun h => (by cases h), fun x => ?_⟩
        rw [ho.2.2 x]; simp; grind
      · rw [w64_nat v (by omega)]
        refine (tot_put r l n (v + 1) (acc ++ [y]) false (drop_next hd) hl (by simp <;> omega) (fun _ => by simp <;> omega) (by omega)).mono fun o ho => ?_
        refine ⟨by have := ho.1; simp at this ⊢; omega, fun h => (by cases h), fun x => ?_⟩
        rw [ho.2.2 x]; simp; grind
      · rw [drop_dec hd] at h; cases h
theorem tot_put0 (l : List Int) (n : Int) (hl : l.length ≤ 8192) : Tot (fun q => e81 q l n) fun o => o.length ≤ l.length + 1 ∧ ∀ x, x ∈ o ↔ x ∈ l ∨ x = n := by
  simp only [e81]
  refine (tot_put l l n 0 [] false rfl hl (by simp) (fun _ => by simp) (by omega)).mono fun o ho => ⟨by have := ho.1; simpa using this, fun x => by rw [ho.2.2 x]; simp⟩
theorem tot_NumIn {p : Tm} {a b : Int} {v : Nat} {r7 : List Int} {Q : List Int → Prop} {N : Nat} {S : Int → Prop} (hN : N ≤ 8192) (hr : r7.length ≤ 8192) (hv : v < 9223372036854775807)
    (K : ∀ acc : List Int, acc.length ≤ N → (∀ x, x ∈ acc ↔ S x) → Tot (fun q => e30L49119 q p a b acc ((v + 1 : Nat) : Int)) Q) :
    ∀ (m : List Int) (w : Nat) (acc : List Int), r7.drop w = m → acc.length + m.length ≤ N → (∀ x, (x ∈ acc ∨ x ∈ m) ↔ S x) → Tot (fun q => e30L62634 q p a b (v : Int) r7 (w : Int) acc) Q
  | [], w, acc, hd, hl, hm => by
    refine Tot.succ ?_
    simp only [e30L62634]
    refine Tot.ite (fun h => ?_) fun _ => ?_
    · rw [drop_nil hd] at h; cases h
    · rw [w64_nat v (by omega)]
      exact K acc (by simpa using hl) fun x => by simpa using hm x
  | y :: m, w, acc, hd, hl, hm => by
    have hlt := drop_lt hd
    refine Tot.succ ?_
    simp only [e30L62634]
    refine Tot.ite (fun _ => Tot.pure (drop_idx hd) ((tot_put0 acc y (by simp at hl; omega)).bind fun o ho => ?_)) fun h => ?_
    · rw [w64_nat w (by omega)]
      refine tot_NumIn hN hr hv K m (w + 1) o (drop_next hd) (by simp at hl; have := ho.1; omega) fun x => ?_
      rw [← hm x, ho.2 x]; simp [or_assoc]
    · rw [drop_dec hd] at h; cases h
def Same (r m : List Int) : Prop := ∀ x, x ∈ r ↔ x ∈ m
mutual
theorem tot_Numbers : ∀ (t : Tm) (a b : Int), t.Ok → t.nodes ≤ 8192 → Tot (fun q => e30 q t a b) fun o => o.length ≤ t.nodes ∧ Same o (colT t a b)
  | .mk k n l, a, b, ho, hn => by
    refine Tot.succ ?_
    simp only [e30, Tm.k, Tm.n]
    rw [Tm.nodes] at hn
    have key : ∀ acc : List Int, acc.length ≤ 1 → acc = (if k = a ∨ k = b then [n] else []) → Tot (fun q => e30L49119 q (.mk k n l) a b acc 0) fun o => o.length ≤ (Tm.mk k n l).nodes ∧ Same o (colT (.mk k n l) a b) := by
      intro acc h1 h2
      refine (tot_NumbersL l (.mk k n l) 0 a b acc rfl ho.1 ho.2 (by omega)).mono fun o ho => ⟨by rw [Tm.nodes]; have := ho.1; omega, fun x => ?_⟩
      rw [ho.2 x, colT, h2]; simp
    refine Tot.ite (fun h => Tot.pure (gapp_ok (by simp)) ?_) fun h => Tot.ite (fun h' => Tot.pure (gapp_ok (by simp)) ?_) fun h' => ?_
    · exact key _ (by simp) (by rw [if_pos (.inl (by simpa using h))]; rfl)
    · exact key _ (by simp) (by rw [if_pos (.inr (by simpa using h'))]; rfl)
    · exact key _ (by simp) (by rw [if_neg (by simp at h h'; simp [h, h'])])
theorem tot_NumbersL : ∀ (l : List Tm) (p : Tm) (v : Nat) (a b : Int) (acc : List Int), p.sub.drop v = l → p.sub.length < 9223372036854775808 → OkL l → acc.length + nodesL l ≤ 8192 →
    Tot (fun q => e30L49119 q p a b acc (v : Int)) fun o => o.length ≤ acc.length + nodesL l ∧ ∀ x, x ∈ o ↔ x ∈ acc ∨ x ∈ colL l a b
  | [], p, v, a, b, acc, hd, hl, ho, hn => by
    refine Tot.succ ?_
    simp only [e30L49119]
    refine Tot.ite (fun h => ?_) fun _ => Tot.ret ⟨by omega, fun x => by rw [colL]; simp⟩
    rw [drop_nil hd] at h; cases h
  | t :: l, p, v, a, b, acc, hd, hl, ho, hn => by
    have hlt := drop_lt hd
    rw [nodesL] at hn
    have IH := fun acc' h => tot_NumbersL l p (v + 1) a b acc' (drop_next hd) hl ho.2 h
    refine Tot.succ ?_
    simp only [e30L49119]
    refine Tot.ite (fun _ => Tot.pure (drop_idx hd) ((tot_Numbers t a b ho.1 (by omega)).bind fun r7 hr => ?_)) fun h => ?_
    · refine tot_NumIn (N := acc.length + t.nodes) (S := fun x => x ∈ acc ∨ x ∈ colT t a b) (by omega) (by have := hr.1; omega) (by omega) (fun acc' h1 h2 => ?_) r7 0 acc rfl (by have := hr.1; omega) fun x => by rw [hr.2 x]
      refine (IH acc' (by omega)).mono fun o ho => ⟨by rw [nodesL]; have := ho.1; omega, fun x => ?_⟩
      rw [ho.2 x, h2 x, colL]; simp [or_assoc]
    · rw [drop_dec hd] at h; cases h
end
theorem ev_all : ∀ (r l : List Int) (n : Int) (v : Nat), l.drop v = r → l.length ≤ 8192 → Evt (fun q => e105L11093 q n l (v : Int)) (r.all fun x => decide (x < n))
  | [], l, n, v, hd, hl => by
    refine Evt.succ ?_
    simp only [e105L11093]
    exact Evt.ifF (drop_nil hd) Evt.ret
  | y :: r, l, n, v, hd, hl => by
    have hlt := drop_lt hd
    refine Evt.succ ?_
    simp only [e105L11093]
    refine Evt.ifT (drop_dec hd) (Evt.pure (drop_idx hd) ?_)
    by_cases h : y ≥ n
    · exact Evt.ifT (by simpa using h) (Evt.ret.eq (by simp <;> omega))
    · refine Evt.ifF (by simpa using h) ?_
      rw [w64_nat v (by omega)]
      refine (ev_all r l n (v + 1) (drop_next hd) hl).eq ?_
      simp [show y < n by omega]
theorem all_same {r m : List Int} (h : Same r m) (n : Int) : (r.all fun x => decide (x < n)) = m.all fun x => decide (x < n) := by
  rw [Bool.eq_iff_iff]
  simp only [List.all_eq_true]
  exact ⟨fun k x hx => k x ((h x).2 hx), fun k x hx => k x ((h x).1 hx)⟩
theorem ev_rRight (t : Tm) (f n : Int) (ho : t.Ok) : Evt (fun q => e105 q t f n) (rightT t f n) := by
  simp only [e105]
  refine (ev_rShaped t ho).bind ?_
  unfold rightT
  by_cases h : shapedT t = true
  · have hs := shapedT_spec h
    refine Evt.ifT h ((ev_rLoose t 0 hs.2.2 (by omega) (by omega)).bind ?_)
    rw [h]
    by_cases h2 : looT t 0 > f
    · exact Evt.ifT (by simpa using h2) (Evt.ret.eq (by simp <;> omega))
    · obtain ⟨r, h3, h4, h5⟩ := tot_Numbers t 6 7 ho hs.1
      refine Evt.ifF (by simpa using h2) (h3.bind ((ev_all r r n 0 rfl (by omega)).eq ?_))
      rw [all_same h5, show decide (looT t 0 ≤ f) = true by simp <;> omega]; simp
  · exact Evt.ifF (by simpa using h) (Evt.ret.eq (by simp [h]))
def closedT (t : Tm) (n : Int) : Bool := rightT t 0 n && (colT t 8 8).isEmpty
theorem rightT_shaped {t : Tm} {f n : Int} (h : rightT t f n = true) : shapedT t = true := by
  unfold rightT at h; simp at h; exact h.1.1
theorem ev_rClosed (t : Tm) (n : Int) (ho : t.Ok) : Evt (fun q => e46 q t n) (closedT t n) := by
  simp only [e46]
  refine (ev_rRight t 0 n ho).bind ?_
  unfold closedT
  by_cases h : rightT t 0 n = true
  · have hs := shapedT_spec (rightT_shaped h)
    obtain ⟨r, h3, h4, h5⟩ := tot_Numbers t 8 8 ho hs.1
    refine Evt.ifT h (h3.bind (Evt.ret.eq ?_))
    rw [h, Bool.true_and, Bool.eq_iff_iff]
    simp only [beq_iff_eq, List.isEmpty_iff]
    constructor
    · intro h6
      have h6' : r = [] := List.length_eq_zero_iff.1 (by omega)
      refine List.eq_nil_iff_forall_not_mem.2 fun x hx => ?_
      rw [← h5 x, h6'] at hx; cases hx
    · intro h6
      have : r = [] := List.eq_nil_iff_forall_not_mem.2 fun x hx => by rw [h5 x, h6] at hx; cases hx
      rw [this]; rfl
  · exact Evt.ifF (by simpa using h) (Evt.ret.eq (by simp [h]))
def e126L24125:Nat → (List Tm) → Int → Int → (List Tm) → Option (List Tm)
 | 0,_,_,_,_ => none
 | qq + 1,v3,vb0_0,vb0_1,vb0_2 =>
 if vb0_0 == 3 then
 gidx vb0_2 0 >>= fun x2 =>
 gapp 40 v3 [x2] >>= fun l4 =>
 gidx vb0_2 1 >>= fun x6 =>
 e126L24125 qq l4 x6.k x6.n x6.sub
 else
 some v3
def e126 (qq:Nat) (p0:Tm):Option (List Tm) :=
 e126L24125 qq [] p0.k p0.n p0.sub
def g126L24125E0 (j:Nat → Value) (v3:List Tm) (vb0_0 vb0_1:Int) (vb0_2:List Tm):=sp j 20 0 [(1,.mp 0 0),(3,slv tmCells v3 (.st 0 3))]
def g126L24125S0 (v3:List Tm) (vb0_0 vb0_1:Int) (vb0_2:List Tm):LSt:=⟨[(0,.cells [ai vb0_0,ai vb0_1,slv tmCells vb0_2 .no])],1,[0],1,[]⟩
abbrev K126 (p0:Tm) (r:List Tm) (C:Cf):Prop:=C 126 [] [tmA p0] (.sl (flat tmCells r) (List.length r) .no) [] 0
theorem q126:Qf 126 Tryz.f126:=⟨Tryz.func126,by kernel_rfl⟩
theorem k126 {p0 r} (h:K126 p0 r Ci):K126 p0 r Ct:=⟨h,⟨⟨tv,tv,⟨tv,dT _⟩,tv⟩,tv⟩,forall_nil,dT _,forall_nil⟩
theorem l126L24125:∀ qq:Nat,(∀ v3 vb0_0 vb0_1 vb0_2 r,e126L24125 qq v3 vb0_0 vb0_1 vb0_2 = some r → (∀ j,Dl Tryz.prog 0 (inn (inn (lft (rgt (rgt (bod Tryz.f126)))))) (g126L24125E0 j v3 vb0_0 vb0_1 vb0_2) (g126L24125S0 v3 vb0_0 vb0_1 vb0_2) (frameQ Tryz.prog 0 (FinQ Tryz.prog 0 Tryz.f126 (.sl (flat tmCells r) (List.length r) .no) [] 0) [.blk 0,.seq (rgt (rgt (rgt (bod Tryz.f126))))]))):=by
 intro qq
 induction qq with
 | zero =>
  exact fun _ _ _ _ _ h => nn h
 | succ qq ih =>
  intro v3 vb0_0 vb0_1 vb0_2 r h
  rw [e126L24125] at h
  rcases spl h with ⟨h1,h⟩ | ⟨h1,h⟩
  obtain ⟨x2,h3,h⟩:=obind h
  obtain ⟨l4,h5,h⟩:=obind h
  obtain ⟨x6,h7,h⟩:=obind h
  exact fun j => lH 2 [] [0] [1] [1,3] (oD (dT l4) <| oD (dT x6.sub) <| oA 1 (ix23 (o:=.no) h7) <| oP 0 (apS23 h5 (by simp)) <| oS 1 (obLitR tm_eq [x2]) <| oA 1 (ix23 (o:=.no) h3) <| oB 1 h1 o0) (ih _ _ _ _ _ h)
  obtain rfl:=sj h
  exact fun j => lF 0 [] (oD (dT v3) <| oB 1 h1 o0)
theorem c126 {qq p0 r} (h:e126 qq p0 = some r):K126 p0 r Ct:=by
 unfold e126 at h
 exact k126 (tH q126 1 [(none,3,3)] [0] [0] [1,3] (oD (dT ([]:List Tm)) <| oD (dT p0.sub) o0) (l126L24125 _ _ _ _ _ _ h))
def e167L20205:Nat → Int → Int → (List Tm) → Option (Tm)
 | 0,_,_,_ => none
 | qq + 1,vb0_0,vb0_1,vb0_2 =>
 if vb0_0 == 5 then
 gidx vb0_2 0 >>= fun x2 =>
 e167L20205 qq x2.k x2.n x2.sub
 else
 some (Tm.mk vb0_0 vb0_1 vb0_2)
def e167 (qq:Nat) (p0:Tm):Option (Tm) :=
 e167L20205 qq p0.k p0.n p0.sub
def g167L20205E0 (j:Nat → Value) (vb0_0 vb0_1:Int) (vb0_2:List Tm):=sp j 11 0 [(1,.mp 0 0),(2,.mp 1 0)]
def g167L20205S0 (vb0_0 vb0_1:Int) (vb0_2:List Tm):LSt:=⟨[(0,.cells [ai vb0_0,ai vb0_1,slv tmCells vb0_2 .no]),(1,.cells [ai 0,ai 0,slv tmCells ([]:List Tm) .nl])],2,[],0,[]⟩
abbrev K167 (p0 r:Tm) (C:Cf):Prop:=C 167 [] [tmA p0] (tmA r) [] 0
theorem q167:Qf 167 Tryz.f167:=⟨Tryz.func167,by kernel_rfl⟩
theorem k167 {p0 r} (h:K167 p0 r Ci):K167 p0 r Ct:=⟨h,⟨⟨tv,tv,⟨tv,dT _⟩,tv⟩,tv⟩,forall_nil,⟨tv,tv,dT _,tv⟩,forall_nil⟩
theorem l167L20205:∀ qq:Nat,(∀ vb0_0 vb0_1 vb0_2 r,e167L20205 qq vb0_0 vb0_1 vb0_2 = some r → (∀ j,Dl Tryz.prog 0 (inn (inn (lft (rgt (bod Tryz.f167))))) (g167L20205E0 j vb0_0 vb0_1 vb0_2) (g167L20205S0 vb0_0 vb0_1 vb0_2) (frameQ Tryz.prog 0 (FinQ Tryz.prog 0 Tryz.f167 (tmA r) [] 0) [.blk 0,.seq (rgt (rgt (bod Tryz.f167)))]))):=by
 intro qq
 induction qq with
 | zero =>
  exact fun _ _ _ _ h => nn h
 | succ qq ih =>
  intro vb0_0 vb0_1 vb0_2 r h
  rw [e167L20205] at h
  rcases spl h with ⟨h1,h⟩ | ⟨h1,h⟩
  obtain ⟨x2,h3,h⟩:=obind h
  exact fun j => lH 2 [] [0,1] [] [1,2] (oD (dT ([]:List Tm)) <| oD (dT x2.sub) <| oA 1 (ix23 (o:=.no) h3) <| oB 1 h1 o0) (ih _ _ _ _ h)
  obtain rfl:=sj h
  exact fun j => lF 2 [] (oD (dT vb0_2) <| oB 1 h1 o0)
theorem c167 {qq p0 r} (h:e167 qq p0 = some r):K167 p0 r Ct:=by
 unfold e167 at h
 exact k167 (tH q167 0 [] [0,1] [] [1,2] (oD (dT ([]:List Tm)) <| oD (dT p0.sub) o0) (l167L20205 _ _ _ _ _ h))
def e90:Nat → Tm → Option (List Tm)
 | 0,_ => none
 | qq + 1,p0 =>
 if p0.k != 5 then
 some []
 else
 gidx p0.sub 0 >>= fun x2 =>
 e90 qq x2 >>= fun r4 =>
 gidx p0.sub 1 >>= fun x6 =>
 gapp 40 r4 [x6] >>= fun l8 =>
 some l8
abbrev K90 (p0:Tm) (r:List Tm) (C:Cf):Prop:=C 90 [] [tmA p0] (slv tmCells r (.st 0 3)) [] 1
theorem q90:Qf 90 Tryz.f90:=⟨Tryz.func90,by kernel_rfl⟩
theorem k90 {p0 r} (h:K90 p0 r Ci):K90 p0 r Ct:=⟨h,⟨⟨tv,tv,⟨tv,dT _⟩,tv⟩,tv⟩,forall_nil,dT _,forall_nil⟩
theorem a90:∀ qq:Nat,(∀ p0 r,e90 qq p0 = some r → K90 p0 r Ct):=by
 intro qq
 induction qq with
 | zero =>
  exact fun _ _ h => nn h
 | succ qq ih =>
  intro p0 r h
  rw [e90] at h
  rcases spl h with ⟨h1,h⟩ | ⟨h1,h⟩
  obtain rfl:=sj h
  exact k90 (tG q90 1 [(none,2,3)] [] [0] true (oD (dT ([]:List Tm)) <| oB 1 h1 o0))
  obtain ⟨x2,h3,h⟩:=obind h
  obtain ⟨r4,h5,h⟩:=obind h
  obtain ⟨x6,h7,h⟩:=obind h
  obtain ⟨l8,h9,h⟩:=obind h
  obtain rfl:=sj h
  exact k90 (tG q90 0 [] [] [1] true (oD (dT l8) <| oP 0 (apS23 h9 (by simp)) <| oS 1 (obLitR tm_eq [x6]) <| oA 1 (ix23 (o:=.no) h7) <| oC 1 [] (ih _ _ h5) <| oA 1 (ix23 (o:=.no) h3) <| oB 1 h1 o0))
theorem c90 {qq p0 r} (h:e90 qq p0 = some r):K90 p0 r Ct:=a90 _ _ _ h
def e151L62269:Nat → Int → Int → (List Tm) → Int → Option (Bool)
 | 0,_,_,_,_ => none
 | qq + 1,p2,p4,r1,v13 =>
 if decide (v13 < p2) then
 gidx r1 v13 >>= fun x9 =>
 if x9.k != 1 then
 some false
 else
 if x9.n != (w64 ((w64 (p4 - 1)) - v13)) then
 some false
 else
 e151L62269 qq p2 p4 r1 (w64 (v13 + 1))
 else
 some true
def e151 (qq:Nat) (p0:Tm) (p1 p2 p3 p4:Int):Option (Bool) :=
 e90 qq p0 >>= fun r1 =>
 e167 qq p0 >>= fun r3 =>
 if r3.k != 6 then
 some false
 else
 if r3.n != p1 then
 some false
 else
 if (List.length r1:Int) != (w64 (p2 + p3)) then
 some false
 else
 e151L62269 qq p2 p4 r1 0
def g151L62269E0 (j:Nat → Value) (p2 p4:Int) (r1:List Tm) (v13:Int):=sp j 58 0 [(2,ai p2),(4,ai p4),(11,slv tmCells r1 (.st 0 3)),(13,ai v13)]
def g151L62269S0 (p2 p4:Int) (r1:List Tm) (v13:Int):LSt:=⟨[],0,[0],1,[]⟩
abbrev K151 (p0:Tm) (p1 p2 p3 p4:Int) (r:Bool) (C:Cf):Prop:=C 151 [] [tmA p0,ai p1,ai p2,ai p3,ai p4] (ab r) [] 0
theorem q151:Qf 151 Tryz.f151:=⟨Tryz.func151,by kernel_rfl⟩
theorem k151 {p0 p1 p2 p3 p4 r} (h:K151 p0 p1 p2 p3 p4 r Ci):K151 p0 p1 p2 p3 p4 r Ct:=⟨h,⟨⟨tv,tv,⟨tv,dT _⟩,tv⟩,tv,tv,tv,tv,tv⟩,forall_nil,tv,forall_nil⟩
theorem l151L62269:∀ qq:Nat,(∀ p2 p4 r1 v13 r,e151L62269 qq p2 p4 r1 v13 = some r → (∀ j,Dl Tryz.prog 0 (inn (inn (rgt (lft (rgt (rgt (rgt (rgt (bod Tryz.f151))))))))) (g151L62269E0 j p2 p4 r1 v13) (g151L62269S0 p2 p4 r1 v13) (frameQ Tryz.prog 0 (FinQ Tryz.prog 0 Tryz.f151 (ab r) [] 0) [.blk 0,.seq (rgt (rgt (rgt (rgt (rgt (bod Tryz.f151))))))]))):=by
 intro qq
 induction qq with
 | zero =>
  exact fun _ _ _ _ _ h => nn h
 | succ qq ih =>
  intro p2 p4 r1 v13 r h
  rw [e151L62269] at h
  rcases spl h with ⟨h8,h⟩ | ⟨h8,h⟩
  obtain ⟨x9,h10,h⟩:=obind h
  have k:=oA 0 (ix23 (o:=(.st 0 3)) h10) <| oB 0 h8 o0
  rcases spl h with ⟨h11,h⟩ | ⟨h11,h⟩
  obtain rfl:=sj h
  exact fun j => lF 0 [] (oB 1 h11 k)
  have k:=oA 0 (ix23 (o:=(.st 0 3)) h10) <| oB 1 h11 k
  rcases spl h with ⟨h12,h⟩ | ⟨h12,h⟩
  obtain rfl:=sj h
  exact fun j => lF 0 [] (oB 3 h12 k)
  exact fun j => lH 1 [] [] [0] [2,4,11,13] (oD (dT r1) <| oB 3 h12 k) (ih _ _ _ _ _ h)
  obtain rfl:=sj h
  exact fun j => lF 0 [] (oB 0 h8 o0)
theorem c151 {qq p0 p1 p2 p3 p4 r} (h:e151 qq p0 p1 p2 p3 p4 = some r):K151 p0 p1 p2 p3 p4 r Ct:=by
 unfold e151 at h
 obtain ⟨r1,h2,h⟩:=obind h
 obtain ⟨r3,h4,h⟩:=obind h
 have k:=oC 1 [] (c167 h4) <| oC 1 [] (c90 h2) o0
 rcases spl h with ⟨h5,h⟩ | ⟨h5,h⟩
 obtain rfl:=sj h
 exact k151 (tF q151 0 [] (oB 2 h5 k))
 have k:=oB 2 h5 k
 rcases spl h with ⟨h6,h⟩ | ⟨h6,h⟩
 obtain rfl:=sj h
 exact k151 (tF q151 0 [] (oB 1 h6 k))
 have k:=oB 1 h6 k
 rcases spl h with ⟨h7,h⟩ | ⟨h7,h⟩
 obtain rfl:=sj h
 exact k151 (tF q151 0 [] (oB 2 h7 k))
 exact k151 (tH q151 0 [] [] [0] [2,4,11,13] (oD (dT r1) <| oB 2 h7 k) (l151L62269 _ _ _ _ _ _ h))
def e152L23350:Nat → Int → Int → (List Tm) → Option (Tm)
 | 0,_,_,_ => none
 | qq + 1,vb0_0,vb0_1,vb0_2 =>
 if vb0_0 == 3 then
 gidx vb0_2 1 >>= fun x2 =>
 e152L23350 qq x2.k x2.n x2.sub
 else
 some (Tm.mk vb0_0 vb0_1 vb0_2)
def e152 (qq:Nat) (p0:Tm):Option (Tm) :=
 e152L23350 qq p0.k p0.n p0.sub
def g152L23350E0 (j:Nat → Value) (vb0_0 vb0_1:Int) (vb0_2:List Tm):=sp j 11 0 [(1,.mp 0 0),(2,.mp 1 0)]
def g152L23350S0 (vb0_0 vb0_1:Int) (vb0_2:List Tm):LSt:=⟨[(0,.cells [ai vb0_0,ai vb0_1,slv tmCells vb0_2 .no]),(1,.cells [ai 0,ai 0,slv tmCells ([]:List Tm) .nl])],2,[],0,[]⟩
abbrev K152 (p0 r:Tm) (C:Cf):Prop:=C 152 [] [tmA p0] (tmA r) [] 0
theorem q152:Qf 152 Tryz.f152:=⟨Tryz.func152,by kernel_rfl⟩
theorem k152 {p0 r} (h:K152 p0 r Ci):K152 p0 r Ct:=⟨h,⟨⟨tv,tv,⟨tv,dT _⟩,tv⟩,tv⟩,forall_nil,⟨tv,tv,dT _,tv⟩,forall_nil⟩
theorem l152L23350:∀ qq:Nat,(∀ vb0_0 vb0_1 vb0_2 r,e152L23350 qq vb0_0 vb0_1 vb0_2 = some r → (∀ j,Dl Tryz.prog 0 (inn (inn (lft (rgt (bod Tryz.f152))))) (g152L23350E0 j vb0_0 vb0_1 vb0_2) (g152L23350S0 vb0_0 vb0_1 vb0_2) (frameQ Tryz.prog 0 (FinQ Tryz.prog 0 Tryz.f152 (tmA r) [] 0) [.blk 0,.seq (rgt (rgt (bod Tryz.f152)))]))):=by
 intro qq
 induction qq with
 | zero =>
  exact fun _ _ _ _ h => nn h
 | succ qq ih =>
  intro vb0_0 vb0_1 vb0_2 r h
  rw [e152L23350] at h
  rcases spl h with ⟨h1,h⟩ | ⟨h1,h⟩
  obtain ⟨x2,h3,h⟩:=obind h
  exact fun j => lH 2 [] [0,1] [] [1,2] (oD (dT ([]:List Tm)) <| oD (dT x2.sub) <| oA 1 (ix23 (o:=.no) h3) <| oB 1 h1 o0) (ih _ _ _ _ h)
  obtain rfl:=sj h
  exact fun j => lF 2 [] (oD (dT vb0_2) <| oB 1 h1 o0)
theorem c152 {qq p0 r} (h:e152 qq p0 = some r):K152 p0 r Ct:=by
 unfold e152 at h
 exact k152 (tH q152 0 [] [0,1] [] [1,2] (oD (dT ([]:List Tm)) <| oD (dT p0.sub) o0) (l152L23350 _ _ _ _ _ h))
def e21 (qq:Nat) (p0:List Ent) (p1 p2:Int):Option (Bool) :=
 if decide (p1 ≥ 0) then
 if decide (p1 < (List.length p0:Int)) then
 gidx p0 p1 >>= fun x3 =>
 some (x3.kind == p2)
 else
 some false
 else
 some false
abbrev K21 (p0:List Ent) (p1 p2:Int) (r:Bool) (C:Cf):Prop:=C 21 [] [slv entL p0 .no,ai p1,ai p2] (ab r) [] 0
theorem q21:Qf 21 Tryz.f21:=⟨Tryz.func21,by kernel_rfl⟩
theorem k21 {p0 p1 p2 r} (h:K21 p0 p1 p2 r Ci):K21 p0 p1 p2 r Ct:=⟨h,⟨⟨tv,dE _⟩,tv,tv,tv⟩,forall_nil,tv,forall_nil⟩
theorem c21 {qq p0 p1 p2 r} (h:e21 qq p0 p1 p2 = some r):K21 p0 p1 p2 r Ct:=by
 unfold e21 at h
 rcases spl h with ⟨h1,h⟩ | ⟨h1,h⟩
 have k:=oB 0 h1 o0
 rcases spl h with ⟨h2,h⟩ | ⟨h2,h⟩
 obtain ⟨x3,h4,h⟩:=obind h
 obtain rfl:=sj h
 exact k21 (tF q21 2 [] (oA 0 (ix22 (o:=.no) h4) <| oB 1 h2 k))
 obtain rfl:=sj h
 exact k21 (tF q21 0 [] (oB 1 h2 k))
 obtain rfl:=sj h
 exact k21 (tF q21 0 [] (oB 0 h1 o0))
def e213 (qq:Nat) (p0:Tm):Option (Bool) :=
 if p0.k == 0 then
 if p0.n == 0 then
 some ((List.length p0.sub:Int) == 0)
 else
 some false
 else
 some false
abbrev K213 (p0:Tm) (r:Bool) (C:Cf):Prop:=C 213 [] [tmA p0] (ab r) [] 0
theorem q213:Qf 213 Tryz.f213:=⟨Tryz.func213,by kernel_rfl⟩
theorem k213 {p0 r} (h:K213 p0 r Ci):K213 p0 r Ct:=⟨h,⟨⟨tv,tv,⟨tv,dT _⟩,tv⟩,tv⟩,forall_nil,tv,forall_nil⟩
theorem c213 {qq p0 r} (h:e213 qq p0 = some r):K213 p0 r Ct:=by
 unfold e213 at h
 rcases spl h with ⟨h1,h⟩ | ⟨h1,h⟩
 have k:=oB 1 h1 o0
 rcases spl h with ⟨h2,h⟩ | ⟨h2,h⟩
 obtain rfl:=sj h
 exact k213 (tF q213 3 [] (oB 1 h2 k))
 obtain rfl:=sj h
 exact k213 (tF q213 0 [] (oB 1 h2 k))
 obtain rfl:=sj h
 exact k213 (tF q213 0 [] (oB 1 h1 o0))
def e214L63111:Nat → Int → (List Tm) → Int → Int → Int → (List Tm) → Option (List Tm × Tm × Int)
 | 0,_,_,_,_,_,_ => none
 | qq + 1,p1,v7,v8,vb0_0,vb0_1,vb0_2 =>
 if decide (v8 < p1) then
 if vb0_0 != 3 then
 some ([],(Tm.mk 0 0 []),6)
 else
 gidx vb0_2 0 >>= fun x8 =>
 gapp 40 v7 [x8] >>= fun l10 =>
 gidx vb0_2 1 >>= fun x12 =>
 e214L63111 qq p1 l10 (w64 (v8 + 1)) x12.k x12.n x12.sub
 else
 some (v7,(Tm.mk vb0_0 vb0_1 vb0_2),0)
def e214 (qq:Nat) (p0:Tm) (p1:Int):Option (List Tm × Tm × Int) :=
 e39 qq p0 >>= fun r1 =>
 if r1 then
 if decide (p1 < 0) then
 some ([],(Tm.mk 0 0 []),5)
 else
 if decide (p1 > 24) then
 some ([],(Tm.mk 0 0 []),2)
 else
 e214L63111 qq p1 [] 0 p0.k p0.n p0.sub
 else
 some ([],(Tm.mk 0 0 []),5)
def g214L63111E0 (j:Nat → Value) (p1:Int) (v7:List Tm) (v8 vb0_0 vb0_1:Int) (vb0_2:List Tm):=sp j 43 0 [(1,ai p1),(2,.mp 0 0),(5,.mp 1 0),(7,slv tmCells v7 (.st 0 3)),(8,ai v8)]
def g214L63111S0 (p1:Int) (v7:List Tm) (v8 vb0_0 vb0_1:Int) (vb0_2:List Tm):LSt:=⟨[(0,.cells [ai vb0_0,ai vb0_1,slv tmCells vb0_2 .no]),(1,.cells [ai 0,ai 0,slv tmCells ([]:List Tm) .nl])],2,[0],1,[]⟩
abbrev K214 (p0:Tm) (p1:Int) (r:List Tm × Tm × Int) (C:Cf):Prop:=C 214 [] [tmA p0,ai p1] (.tup [.sl (flat tmCells r.1) (List.length r.1) .no,tmA r.2.1,ai r.2.2]) [] 0
theorem q214:Qf 214 Tryz.f214:=⟨Tryz.func214,by kernel_rfl⟩
theorem k214 {p0 p1 r} (h:K214 p0 p1 r Ci):K214 p0 p1 r Ct:=⟨h,⟨⟨tv,tv,⟨tv,dT _⟩,tv⟩,tv,tv⟩,forall_nil,⟨dT _,⟨tv,tv,dT _,tv⟩,tv,tv⟩,forall_nil⟩
theorem l214L63111:∀ qq:Nat,(∀ p1 v7 v8 vb0_0 vb0_1 vb0_2 r,e214L63111 qq p1 v7 v8 vb0_0 vb0_1 vb0_2 = some r → (∀ j,Dl Tryz.prog 0 (inn (inn (rgt (lft (rgt (rgt (rgt (rgt (bod Tryz.f214))))))))) (g214L63111E0 j p1 v7 v8 vb0_0 vb0_1 vb0_2) (g214L63111S0 p1 v7 v8 vb0_0 vb0_1 vb0_2) (frameQ Tryz.prog 0 (FinQ Tryz.prog 0 Tryz.f214 (.tup [.sl (flat tmCells r.1) (List.length r.1) .no,tmA r.2.1,ai r.2.2]) [] 0) [.blk 0,.seq (rgt (rgt (rgt (rgt (rgt (bod Tryz.f214))))))]))):=by
 intro qq
 induction qq with
 | zero =>
  exact fun _ _ _ _ _ _ _ h => nn h
 | succ qq ih =>
  intro p1 v7 v8 vb0_0 vb0_1 vb0_2 r h
  rw [e214L63111] at h
  rcases spl h with ⟨h6,h⟩ | ⟨h6,h⟩
  have k:=oB 0 h6 o0
  rcases spl h with ⟨h7,h⟩ | ⟨h7,h⟩
  obtain rfl:=sj h
  exact fun j => lF 1 [] (oD (dT ([]:List Tm)) <| oD (dT ([]:List Tm)) <| oB 1 h7 k)
  obtain ⟨x8,h9,h⟩:=obind h
  obtain ⟨l10,h11,h⟩:=obind h
  obtain ⟨x12,h13,h⟩:=obind h
  exact fun j => lH 3 [] [0,1] [1] [1,2,5,7,8] (oD (dT l10) <| oD (dT ([]:List Tm)) <| oD (dT x12.sub) <| oA 1 (ix23 (o:=.no) h13) <| oP 0 (apS23 h11 (by simp)) <| oS 1 (obLitR tm_eq [x8]) <| oA 1 (ix23 (o:=.no) h9) <| oB 1 h7 k) (ih _ _ _ _ _ _ _ h)
  obtain rfl:=sj h
  exact fun j => lF 2 [] (oD (dT vb0_2) <| oD (dT v7) <| oB 0 h6 o0)
theorem c214 {qq p0 p1 r} (h:e214 qq p0 p1 = some r):K214 p0 p1 r Ct:=by
 unfold e214 at h
 obtain ⟨r1,h2,h⟩:=obind h
 rcases spl h with ⟨h3,h⟩ | ⟨h3,h⟩
 have k:=oK 1 [] h3 (c39 h2) o0
 rcases spl h with ⟨h4,h⟩ | ⟨h4,h⟩
 obtain rfl:=sj h
 exact k214 (tF q214 1 [] (oD (dT ([]:List Tm)) <| oD (dT ([]:List Tm)) <| oB 1 h4 k))
 have k:=oB 1 h4 k
 rcases spl h with ⟨h5,h⟩ | ⟨h5,h⟩
 obtain rfl:=sj h
 exact k214 (tF q214 1 [] (oD (dT ([]:List Tm)) <| oD (dT ([]:List Tm)) <| oB 0 h5 k))
 exact k214 (tH q214 1 [(none,7,3)] [0,1] [0] [1,2,5,7,8] (oD (dT ([]:List Tm)) <| oD (dT ([]:List Tm)) <| oD (dT p0.sub) <| oB 0 h5 k) (l214L63111 _ _ _ _ _ _ _ _ h))
 obtain rfl:=sj h
 exact k214 (tF q214 2 [] (oD (dT ([]:List Tm)) <| oD (dT ([]:List Tm)) <| oK 1 [] h3 (c39 h2) o0))
def e215L22970:Nat → (List Ent) → (List Int) → Int → Int → Int → Int → Option (Bool)
 | 0,_,_,_,_,_,_ => none
 | qq + 1,p0,p1,p2,p3,p4,v11 =>
 if decide (v11 < (List.length p1:Int)) then
 gidx p1 v11 >>= fun x2 =>
 if x2 != (w64 (p2 + v11)) then
 some false
 else
 e21 qq p0 x2 p4 >>= fun r5 =>
 if r5 then
 gidx p0 x2 >>= fun x8 =>
 if x8.fam != p3 then
 some false
 else
 if x8.place != v11 then
 some false
 else
 e215L22970 qq p0 p1 p2 p3 p4 (w64 (v11 + 1))
 else
 some false
 else
 some true
def e215 (qq:Nat) (p0:List Ent) (p1:List Int) (p2 p3 p4:Int):Option (Bool) :=
 e215L22970 qq p0 p1 p2 p3 p4 0
def g215L22970E0 (j:Nat → Value) (p0:List Ent) (p1:List Int) (p2 p3 p4 v11:Int):=sp j 60 0 [(0,slv entL p0 .no),(1,slv intC p1 .no),(2,ai p2),(3,ai p3),(4,ai p4),(11,ai v11)]
def g215L22970S0 (p0:List Ent) (p1:List Int) (p2 p3 p4 v11:Int):LSt:=⟨[],0,[],0,[]⟩
abbrev K215 (p0:List Ent) (p1:List Int) (p2 p3 p4:Int) (r:Bool) (C:Cf):Prop:=C 215 [] [slv entL p0 .no,slv intC p1 .no,ai p2,ai p3,ai p4] (ab r) [] 0
theorem q215:Qf 215 Tryz.f215:=⟨Tryz.func215,by kernel_rfl⟩
theorem k215 {p0 p1 p2 p3 p4 r} (h:K215 p0 p1 p2 p3 p4 r Ci):K215 p0 p1 p2 p3 p4 r Ct:=⟨h,⟨⟨tv,dE _⟩,⟨tv,dI _⟩,tv,tv,tv,tv⟩,forall_nil,tv,forall_nil⟩
theorem l215L22970:∀ qq:Nat,(∀ p0 p1 p2 p3 p4 v11 r,e215L22970 qq p0 p1 p2 p3 p4 v11 = some r → (∀ j,Dl Tryz.prog 0 (inn (inn (rgt (lft (rgt (bod Tryz.f215)))))) (g215L22970E0 j p0 p1 p2 p3 p4 v11) (g215L22970S0 p0 p1 p2 p3 p4 v11) (frameQ Tryz.prog 0 (FinQ Tryz.prog 0 Tryz.f215 (ab r) [] 0) [.blk 0,.seq (rgt (rgt (bod Tryz.f215)))]))):=by
 intro qq
 induction qq with
 | zero =>
  exact fun _ _ _ _ _ _ _ h => nn h
 | succ qq ih =>
  intro p0 p1 p2 p3 p4 v11 r h
  rw [e215L22970] at h
  rcases spl h with ⟨h1,h⟩ | ⟨h1,h⟩
  obtain ⟨x2,h3,h⟩:=obind h
  have k:=oA 0 (ix34 (o:=.no) h3) <| oB 1 h1 o0
  rcases spl h with ⟨h4,h⟩ | ⟨h4,h⟩
  obtain rfl:=sj h
  exact fun j => lF 0 [] (oB 2 h4 k)
  obtain ⟨r5,h6,h⟩:=obind h
  have k:=oA 0 (ix34 (o:=.no) h3) <| oB 2 h4 k
  rcases spl h with ⟨h7,h⟩ | ⟨h7,h⟩
  obtain ⟨x8,h9,h⟩:=obind h
  have k:=oA 1 (ix22 (o:=.no) h9) <| oA 1 (ix34 (o:=.no) h3) <| oK 1 [] h7 (c21 h6) k
  rcases spl h with ⟨h10,h⟩ | ⟨h10,h⟩
  obtain rfl:=sj h
  exact fun j => lF 0 [] (oB 1 h10 k)
  have k:=oA 1 (ix22 (o:=.no) h9) <| oA 0 (ix34 (o:=.no) h3) <| oB 1 h10 k
  rcases spl h with ⟨h11,h⟩ | ⟨h11,h⟩
  obtain rfl:=sj h
  exact fun j => lF 0 [] (oB 1 h11 k)
  exact fun j => lH 1 [] [] [] [0,1,2,3,4,11] (oD (dI p1) <| oD (dE p0) <| oB 1 h11 k) (ih _ _ _ _ _ _ _ h)
  obtain rfl:=sj h
  exact fun j => lF 1 [] (oK 1 [] h7 (c21 h6) k)
  obtain rfl:=sj h
  exact fun j => lF 0 [] (oB 1 h1 o0)
theorem c215 {qq p0 p1 p2 p3 p4 r} (h:e215 qq p0 p1 p2 p3 p4 = some r):K215 p0 p1 p2 p3 p4 r Ct:=by
 unfold e215 at h
 exact k215 (tH q215 0 [] [] [] [0,1,2,3,4,11] (oD (dI p1) <| oD (dE p0) o0) (l215L22970 _ _ _ _ _ _ _ _ h))
end Go.Proofs.YteiddempdecleaaGreat
