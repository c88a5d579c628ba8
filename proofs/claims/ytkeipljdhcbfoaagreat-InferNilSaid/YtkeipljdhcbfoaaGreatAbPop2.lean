/- THE OPERATIONS THAT TOUCH NOTHING: the dispatcher, and that each does so. -/
import Derived.Laws.BytesString
import Derived.Test.YtkeipljdhcbfoaaGreatAbPop
namespace Go.Ab
open Go Go.RowKit

/-- a bound of a slice expression -/
def abound (hi : Nat) : AV → Option Nat
  | .val (.int _ i) => if 0 ≤ i ∧ i ≤ hi then some i.toNat else none
  | _ => none

def abound? (hi dflt : Nat) : Option AV → Option Nat
  | none => some dflt
  | some a => abound hi a

/-- the owner of a part of a slice: its low bound, its length, is its end the old one, is its end the bound that was given? -/
def Own.cut (o : Own) (l n : Nat) (same full : Bool) : Own :=
  if full then .full else if same then
    match o with
    | .st k sz => if l = 0 ∨ n ≠ 0 then .st k sz else .no
    | o => o
  else .no

def amx (n : Nat) : Option AV → Option (Nat × Bool)
  | some m => (abound n m).map fun m => (m, true)
  | none => some (n, false)

def aslice (P : Program) (t : TypeId) (x : AV) (lo hi mx : Option AV) : Option AV :=
  match P.underlying t, x with
  | some (.slice e), .sl es n o =>
    match P.info? e, amx n mx with
    | some ie, some (m, full) =>
      match abound? m n hi with
      | some h =>
        if mx.isSome = true ∧ hi.isNone = true then none else
        match abound? h 0 lo with
        | some l =>
          if Nat.beq es.length (n * ie.size) then
            some (.sl ((es.drop (l * ie.size)).take ((h - l) * ie.size)) (h - l) (o.cut l (h - l) (Nat.beq h n) (full && Nat.beq m h)))
          else none
        | none => none
      | none => none
    | _, _ => none
  | some (.slice e), .ms i off n =>
    match P.info? e, mx, abound? n n hi with
    | some ie, none, some h =>
      match abound? h 0 lo with
      | some l => if l = 0 ∨ l < n then some (.ms i (off + l * ie.size) (h - l)) else some (.sl [] 0 .no)
      | none => none
    | _, _, _ => none
  | some .string, .val (.string s) =>
    match mx, abound? s.size s.size hi with
    | none, some h =>
      match abound? h 0 lo with
      | some l => some (.val (.string (s.extract l h)))
      | none => none
    | _, _ => none
  | _, _ => none

def aindexAddr (P : Program) (t : TypeId) (x i : AV) : Option AV :=
  match P.underlying t, x, i with
  | some (.slice e), .sl es n _, .val (.int _ i) =>
    match P.info? e with
    | some ie => if 0 ≤ i ∧ i < n then (if Nat.beq es.length (n * ie.size) then some (.ip (es.drop (i.toNat * ie.size))) else none) else none
    | none => none
  | some (.array len e), .mp b off, .val (.int _ i) =>
    match P.info? e with
    | some ie => if 0 ≤ i ∧ i < len then some (.mp b (off + i.toNat * ie.size)) else none
    | none => none
  | some (.slice e), .ms b off n, .val (.int _ i) =>
    match P.info? e with
    | some ie => if 0 ≤ i ∧ i < n then some (.mp b (off + i.toNat * ie.size)) else none
    | none => none
  | some (.array len e), .ip es, .val (.int _ i) =>
    match P.info? e with
    | some ie => if 0 ≤ i ∧ i < len then some (.ip (es.drop (i.toNat * ie.size))) else none
    | none => none
  | _, _, _ => none

def aindex (P : Program) (t : TypeId) (x i : AV) : Option AV :=
  match P.underlying t, x, i with
  | some (.array len e), .agg cs, .val (.int _ i) =>
    match tsz P e with
    | some q => if 0 ≤ i ∧ i < len then part1 q (cs.drop (i.toNat * q.2)) else none
    | none => none
  | some .string, .val (.string s), .val (.int _ i) =>
    if 0 ≤ i then (match s[i.toNat]? with | some b => some (.val (.int .u8 b.toNat)) | none => none) else none
  | _, _, _ => none

def afieldAddr (P : Program) (t : TypeId) (x : AV) (f : Nat) : Option AV :=
  match P.underlying t with
  | some (.struct fs) =>
    match fs[f]? with
    | some fd =>
      match P.info? fd.type with
      | some i => if i.size = 0 then none else
        match x with
        | .ip es => some (.ip (es.drop fd.offset))
        | .mp b off => some (.mp b (off + fd.offset))
        | _ => none
      | none => none
    | none => none
  | _ => none

def afield (P : Program) (t : TypeId) (x : AV) (f : Nat) : Option AV :=
  match P.underlying t, x with
  | some (.struct fs), .agg cs =>
    match fs[f]? with
    | some fd =>
      match tsz P fd.type with
      | some q => part1 q (cs.drop fd.offset)
      | none => none
    | none => none
  | _, _ => none

/-- bytes, told one by one -/
def aints : List AV → Option (List Int)
  | [] => some []
  | .val (.int .u8 n) :: l => (aints l).map (n :: ·)
  | _ => none

theorem aints_spec : ∀ (es : List AV) (ns : List Int), aints es = some ns → es = ns.map fun n => .val (.int .u8 n) := by
  intro es
  induction es with
  | nil => intro ns h; cases h; rfl
  | cons a l ih =>
    intro ns h
    unfold aints at h
    split at h
    · rename_i e; cases e
    · rename_i n l' e
      cases e
      simp only [Option.map_eq_some_iff] at h
      obtain ⟨r, hr, rfl⟩ := h
      rw [ih r hr]; rfl
    · cases h

theorem VL.bytes {G : Gh} {w : World} : ∀ (ns : List Int) (vs : List Value), VL G w (ns.map fun n => .val (.int .u8 n)) vs → vs = ns.map (Value.int .u8)
  | [], [], _ => rfl
  | n :: ns, v :: vs, h => by
    simp only [List.map_cons, VL, V] at h
    rw [h.1, VL.bytes ns vs h.2]; rfl
  | [], _ :: _, h => by simp only [List.map_nil, VL] at h
  | _ :: _, [], h => by simp only [List.map_cons, VL] at h

def gstr (ns : List Int) : ByteArray := ns.foldl (fun r n => r.push (UInt8.ofNat n.toNat)) ByteArray.empty

def aconvert (P : Program) (src dst : TypeId) (x : AV) : Option AV :=
  match P.underlying src, P.underlying dst, x with
  | some _, some (.int k), .val (.int _ n) => some (.val (.int k (k.wrap n)))
  | some _, some .string, .val (.string s) => some (.val (.string s))
  | some (.slice e), some .string, .sl es n _ => match P.underlying e, aints es with
    | some (.int .u8), some ns => if ns.length = n then some (.val (.string (gstr ns))) else none
    | _, _ => none
  | _, _, _ => none

def amax2 (mx : Bool) : AV → AV → Option AV
  | .val (.int k x), .val (.int _ y) => some (.val (.int k (if mx then (if y > x then y else x) else (if y < x then y else x))))
  | _, _ => none

def alen (P : Program) (t : TypeId) (x : AV) : Option AV :=
  match P.underlying t, x with
  | some .string, .val (.string s) => some (.val (goInt s.size))
  | some (.slice _), .sl _ n _ => some (.val (goInt n))
  | some (.slice _), .ms _ _ n => some (.val (goInt n))
  | some (.array n _), _ => some (.val (goInt n))
  | _, _ => none

/- the runs -/
theorem run_bound {P : Program} {w : World} {hi y : Nat} {a : AV} {G : Gh} {u : Value} {r : Nat} (hu : V G w a u) (h : abound hi a = some r) (hy : hi ≤ y) (code : BoundsCode) :
    (Instr.sliceBound u y code).run P w = .ok r w ∧ r ≤ hi := by
  unfold abound at h
  split at h
  · simp only [V] at hu; subst hu
    split at h
    · rename_i i hc
      cases h
      have h2 : i ≤ (y : Int) := by omega
      exact ⟨by simp [Instr.sliceBound, asIntOf, hc.1, h2], by omega⟩
    · cases h
  · cases h

theorem part1_ok {P : Program} {t : TypeId} {q : Bool × Nat} {G : Gh} {w : World} {cs : List AV} {vs : Array Value} {off : Nat} {r : AV} (ht : tsz P t = some q) (hv : VL G w cs (vs.toList.drop off)) (h : part1 q cs = some r) :
    ∃ u, (part t vs off).run P w = .ok u w ∧ V G w r u := by
  unfold tsz at ht
  cases hu : P.underlying t with
  | none => simp [hu] at ht
  | some d =>
    cases hi : P.info? t with
    | none => simp [hu, hi] at ht
    | some i =>
      simp only [hu, hi, Option.some.injEq] at ht
      subst ht
      unfold part1 at h
      split at h
      · rename_i n heq
        simp only [Prod.mk.injEq] at heq
        obtain ⟨h1, rfl⟩ := heq
        cases hle : Nat.ble i.size cs.length with
        | false => simp [hle] at h
        | true =>
          simp only [hle, cond_true, Option.some.injEq] at h
          subst h
          have hle' : i.size ≤ cs.length := Nat.le_of_ble_eq_true hle
          have hl := VL.length _ _ hv
          refine ⟨.agg (vs.extract off (off + i.size)), ?_, ?_⟩
          · simp [part, run_isAgg hu, h1, run_sizeOf' hi]
          · simp only [V]
            refine ⟨(vs.toList.drop off).take i.size, ?_, VL.take _ _ _ hv⟩
            congr 1
            apply Array.ext'
            simp
      · rename_i n heq
        simp only [Prod.mk.injEq] at heq
        split at h
        · rename_i c cs'
          cases h
          cases hvs : vs.toList.drop off with
          | nil => rw [hvs] at hv; simp only [VL] at hv
          | cons v vs' =>
            rw [hvs] at hv
            simp only [VL] at hv
            have hget : vs[off]? = some v := by
              have : (vs.toList.drop off)[0]? = some v := by rw [hvs]; rfl
              rw [List.getElem?_drop] at this
              simpa using this
            refine ⟨v, ?_, hv.1⟩
            simp [part, run_isAgg hu, heq.1, hget]
        · cases h

theorem aindexAddr_ok {P : Program} {t : TypeId} {G : Gh} {w : World} {x i r : AV} {u v : Value} (hu : V G w x u) (hv : V G w i v) (h : aindexAddr P t x i = some r) :
    ∃ q, (Instr.indexAt t u v).run P w = .ok q w ∧ V G w r q := by
  unfold aindexAddr at h
  split at h
  · rename_i e es n o k i' hut
    cases hie : P.info? e with
    | none => simp [hie] at h
    | some ie =>
      simp only [hie] at h
      split at h
      · rename_i hc
        split at h
        · rename_i hlen
          cases h
          have hlen' := Nat.eq_of_beq_eq_true hlen
          simp only [V] at hu hv
          subst hv
          obtain ⟨cap, hcap, hh | ⟨b, off, rfl, hcells, _⟩⟩ := hu
          · omega
          · refine ⟨.pointer (some ⟨b, off + i'.toNat * ie.size, none⟩), ?_, ?_⟩
            · simp [Instr.indexAt, run_underlying hut, asIntOf, hc.1, hc.2, run_sizeOf' hie, Addr.add_lit]
            · simp only [V]; exact ⟨b, _, rfl, VC.drop _ _ _ _ hcells⟩
        · cases h
      · cases h
  · rename_i len e b off k i' hut
    cases hie : P.info? e with
    | none => simp [hie] at h
    | some ie =>
      simp only [hie] at h
      split at h
      · rename_i hc
        cases h
        simp only [V] at hu hv
        subst hv
        obtain ⟨c, hc', rfl⟩ := hu
        refine ⟨.pointer (some ⟨c, off + i'.toNat * ie.size, none⟩), ?_, ?_⟩
        · simp [Instr.indexAt, run_underlying hut, asIntOf, Instr.sureAddr, hc.1, hc.2, run_sizeOf' hie, Addr.add_lit]
        · simp only [V]; exact ⟨c, hc', rfl⟩
      · cases h
  · rename_i e b off n k i' hut
    cases hie : P.info? e with
    | none => simp [hie] at h
    | some ie =>
      simp only [hie] at h
      split at h
      · rename_i hc
        cases h
        simp only [V] at hu hv
        subst hv
        obtain ⟨c, cap, hc', hcap, rfl⟩ := hu
        refine ⟨.pointer (some ⟨c, off + i'.toNat * ie.size, none⟩), ?_, ?_⟩
        · simp [Instr.indexAt, run_underlying hut, asIntOf, hc.1, hc.2, run_sizeOf' hie, Addr.add_lit]
        · simp only [V]; exact ⟨c, hc', rfl⟩
      · cases h
  · rename_i len e es k i' hut
    cases hie : P.info? e with
    | none => simp [hie] at h
    | some ie =>
      simp only [hie] at h
      split at h
      · rename_i hc
        cases h
        simp only [V] at hu hv
        subst hv
        obtain ⟨b, off, rfl, hcells⟩ := hu
        refine ⟨.pointer (some ⟨b, off + i'.toNat * ie.size, none⟩), ?_, ?_⟩
        · simp [Instr.indexAt, run_underlying hut, asIntOf, Instr.sureAddr, hc.1, hc.2, run_sizeOf' hie, Addr.add_lit]
        · simp only [V]; exact ⟨b, _, rfl, VC.drop _ _ _ _ hcells⟩
      · cases h
  · cases h

theorem aindex_ok {P : Program} {t : TypeId} {G : Gh} {w : World} {x i r : AV} {u v : Value} (hu : V G w x u) (hv : V G w i v) (h : aindex P t x i = some r) :
    ∃ q, (Instr.index t u v).run P w = .ok q w ∧ V G w r q := by
  unfold aindex at h
  split at h
  · rename_i len e cs k i' hut
    cases hq : tsz P e with
    | none => simp [hq] at h
    | some q =>
      simp only [hq] at h
      split at h
      · rename_i hc
        simp only [V] at hu hv
        subst hv
        obtain ⟨vs, rfl, hl⟩ := hu
        obtain ⟨r', hr, hv'⟩ := part1_ok (vs := vs.toArray) (off := i'.toNat * q.2) hq (by simpa using VL.drop _ _ _ hl) h
        refine ⟨r', ?_, hv'⟩
        have hsz : (sizeOf e).run P w = .ok q.2 w := by
          unfold tsz at hq
          cases h1 : P.underlying e with
          | none => simp [h1] at hq
          | some d =>
            cases h2 : P.info? e with
            | none => simp [h1, h2] at hq
            | some ie => simp only [h1, h2, Option.some.injEq] at hq; subst hq; exact run_sizeOf' h2 w
        simp [Instr.index, run_underlying hut, asIntOf, hc.1, hc.2, hsz, hr]
      · cases h
  · rename_i s k i' hut
    simp only [V] at hu hv
    subst hu hv
    split at h
    · rename_i h0
      split at h
      · rename_i b hb
        cases h
        exact ex_val (by simp [Instr.index, run_underlying hut, asIntOf, h0, hb])
      · cases h
    · cases h
  · cases h

theorem afieldAddr_ok {P : Program} {t : TypeId} {G : Gh} {w : World} {x r : AV} {f : Nat} {u : Value} (hu : V G w x u) (h : afieldAddr P t x f = some r) :
    ∃ q, (Instr.fieldAt t u f).run P w = .ok q w ∧ V G w r q := by
  unfold afieldAddr at h
  split at h
  · rename_i fs hut
    cases hf : fs[f]? with
    | none => simp [hf] at h
    | some fd =>
      simp only [hf] at h
      cases hi : P.info? fd.type with
      | none => simp [hi] at h
      | some i =>
        simp only [hi] at h
        split at h
        · cases h
        · rename_i hz
          split at h
          · cases h
            simp only [V] at hu
            obtain ⟨b, off, rfl, hcells⟩ := hu
            refine ⟨.pointer (some ⟨b, off + fd.offset, none⟩), ?_, ?_⟩
            · simp [Instr.fieldAt, run_underlying hut, hf, Instr.sureAddr, fieldPlace, run_sizeOf' hi, hz, Addr.add_lit]
            · simp only [V]; exact ⟨b, _, rfl, VC.drop _ _ _ _ hcells⟩
          · rename_i i0 off
            cases h
            simp only [V] at hu
            obtain ⟨b, hb, rfl⟩ := hu
            refine ⟨.pointer (some ⟨b, off + fd.offset, none⟩), ?_, ?_⟩
            · simp [Instr.fieldAt, run_underlying hut, hf, Instr.sureAddr, fieldPlace, run_sizeOf' hi, hz, Addr.add_lit]
            · simp only [V]; exact ⟨b, hb, rfl⟩
          · cases h
  · cases h

theorem afield_ok {P : Program} {t : TypeId} {G : Gh} {w : World} {x r : AV} {f : Nat} {u : Value} (hu : V G w x u) (h : afield P t x f = some r) :
    ∃ q, (Instr.field t u f).run P w = .ok q w ∧ V G w r q := by
  unfold afield at h
  split at h
  · rename_i fs cs hut
    cases hf : fs[f]? with
    | none => simp [hf] at h
    | some fd =>
      simp only [hf] at h
      cases hq : tsz P fd.type with
      | none => simp [hq] at h
      | some q =>
        simp only [hq] at h
        simp only [V] at hu
        obtain ⟨vs, rfl, hl⟩ := hu
        obtain ⟨r', hr, hv'⟩ := part1_ok (vs := vs.toArray) (off := fd.offset) hq (by simpa using VL.drop _ _ _ hl) h
        exact ⟨r', by simp [Instr.field, run_underlying hut, hf, asAgg, hr], hv'⟩
  · cases h

theorem aconvert_ok {P : Program} {s d : TypeId} {G : Gh} {w : World} {x r : AV} {u : Value} (hu : V G w x u) (h : aconvert P s d x = some r) :
    ∃ q, (convert s d u).run P w = .ok q w ∧ V G w r q := by
  unfold aconvert at h
  split at h
  · rename_i hs hd
    cases h
    simp only [V] at hu; subst hu
    exact ex_val (by simp [convert, run_underlying hs, run_underlying hd, Conv.intToInt])
  · rename_i hs hd
    cases h
    simp only [V] at hu; subst hu
    exact ex_val (by simp [convert, run_underlying hs, run_underlying hd])
  · rename_i e es n o hs hd
    split at h
    · rename_i ns he hns
      split at h
      · rename_i hlen
        cases h
        have hes := aints_spec _ _ hns
        simp only [V] at hu
        obtain ⟨cap, _, ⟨rfl, rfl, _, hu, _⟩ | ⟨b, off, rfl, hC, _⟩⟩ := hu
        · cases hns
          refine ex_val ?_
          rw [hu]
          generalize spOf u = p
          rw [run_convert_bytes_string w s d e p 0 0 hs he hd]
          cases p with
          | none => rfl
          | some a =>
            refine run_bytesToString w a 0 0 [] ?_
            have := run_loadCells_list (P := P) (w := w) a ([] : List Value) fun c v hc => by simp at hc
            simpa using this
        · obtain ⟨vs, hv, hcell⟩ := VC.cells _ _ _ hC
          rw [hes] at hv
          have hvs := VL.bytes _ _ hv
          subst hvs
          refine ex_val ?_
          rw [run_convert_bytes_string w s d e _ _ _ hs he hd]
          refine run_bytesToString w ⟨b, off, none⟩ n cap ns ?_
          have := run_loadCells_list (P := P) (w := w) ⟨b, off, none⟩ (ns.map (Value.int .u8)) fun c v hc => by
            obtain ⟨h1, h2⟩ := List.getElem?_eq_some_iff.1 hc
            rw [Addr.add_lit, hcell c h1, h2]
          rw [List.length_map, hlen] at this
          exact this
      · cases h
    · cases h
  · cases h

theorem alen_ok {P : Program} {t ty : TypeId} {G : Gh} {w : World} {x r : AV} {u : Value} (hu : V G w x u) (h : alen P t x = some r) :
    ∃ q, (Builtin.len_ #[t] ty #[u]).run P w = .ok q w ∧ V G w r q := by
  unfold alen at h
  split at h
  · rename_i hut
    cases h
    simp only [V] at hu; subst hu
    exact ex_val (by simp [Builtin.len_, run_underlying hut])
  · rename_i hut
    cases h
    simp only [V] at hu
    obtain ⟨cap, hcap, ⟨_, rfl, _, hu, _⟩ | ⟨b, off, rfl, _⟩⟩ := hu
    · rw [hu]; exact ex_val (by simp [Builtin.len_, run_underlying hut])
    · exact ex_val (by simp [Builtin.len_, run_underlying hut])
  · rename_i hut
    cases h
    simp only [V] at hu
    obtain ⟨b, cap, _, hcap, rfl⟩ := hu
    exact ex_val (by simp [Builtin.len_, run_underlying hut])
  · rename_i hut
    cases h
    exact ex_val (by simp [Builtin.len_, run_underlying hut])
  · cases h


/-- the bounds, run -/
theorem run_bounds {P : Program} {w : World} {G : Gh} {isS : Bool} {n cap m h l : Nat} {full : Bool} {lo hi mx : Option AV} {vlo vhi vmx : Option Value}
    (hlo : ∀ a, lo = some a → ∃ u, vlo = some u ∧ V G w a u) (hhi : ∀ a, hi = some a → ∃ u, vhi = some u ∧ V G w a u) (hmx : ∀ a, mx = some a → ∃ u, vmx = some u ∧ V G w a u)
    (nlo : lo = none → vlo = none) (nhi : hi = none → vhi = none) (nmx : mx = none → vmx = none) (hn : n ≤ cap)
    (h1 : amx n mx = some (m, full)) (h2 : abound? m n hi = some h) (h3 : abound? h 0 lo = some l) (h4 : ¬ (mx.isSome = true ∧ hi.isNone = true)) :
    (Instr.sliceBounds isS n cap vlo vhi vmx).run P w = .ok (l, h, if full then m else cap) w ∧ l ≤ h ∧ h ≤ m ∧ m ≤ n ∧ (full = false → m = n) := by
  cases mx with
  | none =>
    simp only [amx, Option.some.injEq, Prod.mk.injEq] at h1
    obtain ⟨rfl, rfl⟩ := h1
    have e1 := nmx rfl; subst e1
    have hhv : ∃ hh : h ≤ n, True := by
      cases hi with
      | none => simp only [abound?, Option.some.injEq] at h2; exact ⟨by omega, trivial⟩
      | some a => obtain ⟨u, _, hu⟩ := hhi a rfl; exact ⟨(run_bound (P := P) hu h2 (Nat.le_refl _) .sliceB).2, trivial⟩
    obtain ⟨hh, _⟩ := hhv
    have hlv : l ≤ h := by
      cases lo with
      | none => simp only [abound?, Option.some.injEq] at h3; omega
      | some a => obtain ⟨u, _, hu⟩ := hlo a rfl; exact (run_bound (P := P) hu h3 (Nat.le_refl _) .sliceB).2
    refine ⟨?_, hlv, hh, Nat.le_refl _, fun _ => rfl⟩
    cases hi with
    | none =>
      simp only [abound?, Option.some.injEq] at h2; subst h2
      have e2 := nhi rfl; subst e2
      cases lo with
      | none => simp only [abound?, Option.some.injEq] at h3; subst h3; have e3 := nlo rfl; subst e3; simp [Instr.sliceBounds]
      | some a => obtain ⟨u, rfl, hu⟩ := hlo a rfl; simp [Instr.sliceBounds, (run_bound (P := P) hu h3 (Nat.le_refl _) .sliceB).1]
    | some b =>
      obtain ⟨ub, rfl, hub⟩ := hhi b rfl
      have r1 := fun c => (run_bound (P := P) hub h2 hn c).1
      cases lo with
      | none => simp only [abound?, Option.some.injEq] at h3; subst h3; have e3 := nlo rfl; subst e3; simp [Instr.sliceBounds, r1]
      | some a => obtain ⟨u, rfl, hu⟩ := hlo a rfl; simp [Instr.sliceBounds, r1, (run_bound (P := P) hu h3 (Nat.le_refl _) .sliceB).1]
  | some c =>
    obtain ⟨uc, rfl, huc⟩ := hmx c rfl
    simp only [amx, Option.map_eq_some_iff, Prod.mk.injEq] at h1
    obtain ⟨m', h1, rfl, rfl⟩ := h1
    obtain ⟨_, hmn⟩ := run_bound (P := P) huc h1 (Nat.le_refl _) .slice3B
    have r0 := fun c => (run_bound (P := P) huc h1 hn c).1
    cases hi with
    | none => exact absurd ⟨rfl, rfl⟩ h4
    | some b =>
      obtain ⟨ub, rfl, hub⟩ := hhi b rfl
      obtain ⟨_, hhm⟩ := run_bound (P := P) hub h2 (Nat.le_refl _) .slice3B
      have r1 := fun c => (run_bound (P := P) hub h2 (Nat.le_refl _) c).1
      cases lo with
      | none =>
        simp only [abound?, Option.some.injEq] at h3; subst h3; have e3 := nlo rfl; subst e3
        exact ⟨by simp [Instr.sliceBounds, r0, r1], Nat.zero_le _, hhm, hmn, fun e => by cases e⟩
      | some a =>
        obtain ⟨u, rfl, hu⟩ := hlo a rfl
        obtain ⟨_, hl⟩ := run_bound (P := P) hu h3 (Nat.le_refl _) .sliceB
        exact ⟨by simp [Instr.sliceBounds, r0, r1, (run_bound (P := P) hu h3 (Nat.le_refl _) .slice3C).1], hl, hhm, hmn, fun e => by cases e⟩

theorem cut_plain {G : Gh} {o : Own} {p : Option Addr} {l n : Nat} {same full : Bool} (h : o.nil G p) : (o.cut l n same full).nil G p := by
  unfold Own.cut
  cases full with
  | true => trivial
  | false =>
    cases same with
    | false => trivial
    | true =>
      cases o with
      | no => trivial
      | full => trivial
      | nl => trivial
      | nn => exact h
      | fr => trivial
      | st k sz =>
        simp only [Bool.false_eq_true, if_false, if_true]
        split
        · exact h
        · trivial

theorem own_cut {G : Gh} {b off n cap l h m s : Nat} {full : Bool} {o : Own} (ho : OwnOk G b off (n * s) n cap o) (q1 : l ≤ h) (q2 : h ≤ m) (q3 : m ≤ n) (q4 : full = false → m = n) (hcap : n ≤ cap) :
    OwnOk G b (if (if full then m else cap) = l then off else off + l * s) ((h - l) * s) (h - l) ((if full then m else cap) - l) (o.cut l (h - l) (Nat.beq h n) (full && Nat.beq m h)) := by
  cases hf : (full && Nat.beq m h) with
  | true =>
    simp only [Bool.and_eq_true] at hf
    have := Nat.eq_of_beq_eq_true hf.2
    simp only [Own.cut, if_true, OwnOk, hf.1]; omega
  | false =>
    cases hs : Nat.beq h n with
    | false => simp [Own.cut, OwnOk]
    | true =>
      have hs' := Nat.eq_of_beq_eq_true hs
      have hfull : full = false := by
        cases hfu : full with
        | false => rfl
        | true =>
          exfalso
          have : m = h := by omega
          simp [hfu, this] at hf
      subst hfull
      simp only [Own.cut, Bool.false_eq_true, if_false, if_true]
      cases o with
      | no => trivial
      | full => simp only [OwnOk] at ho ⊢; omega
      | nl => exact ho
      | nn => trivial
      | fr => exact ho
      | st k sz =>
        simp only
        by_cases hc : l = 0 ∨ h - l ≠ 0
        · rw [if_pos hc]
          simp only [OwnOk] at ho ⊢
          obtain ⟨hq, ho | ⟨ho1, hnF, ho2⟩⟩ := ho
          · refine ⟨hq, .inl ⟨by omega, by omega⟩⟩
          rcases Nat.eq_zero_or_pos l with hl0 | hl0
          · subst hl0
            rw [hs']
            simp only [Nat.sub_zero, Nat.zero_mul, Nat.add_zero, ite_self]
            exact ⟨hq, .inr ⟨ho1, hnF, ho2⟩⟩
          · have hne : h - l ≠ 0 := by omega
            have hnpos : 0 < n := by omega
            have hsz : sz = s := Nat.eq_of_mul_eq_mul_left hnpos ho1.symm
            subst hsz
            have hcl : ¬ cap = l := by omega
            rw [if_neg hcl]
            refine ⟨hq, .inr ⟨rfl, hnF, ?_⟩⟩
            rw [ho2, hs']
            have e1 : off + l * sz + (n - l) * sz = off + n * sz := by rw [Nat.add_assoc, ← Nat.add_mul]; congr 2; omega
            have e2 : off + l * sz + (cap - l) * sz = off + cap * sz := by rw [Nat.add_assoc, ← Nat.add_mul]; congr 2; omega
            rw [e1, e2]
        · rw [if_neg hc]; trivial

theorem aslice_ok {P : Program} {t : TypeId} {G : Gh} {w : World} {x r : AV} {lo hi mx : Option AV} {vlo vhi vmx : Option Value} {u : Value} (hu : V G w x u)
    (hlo : ∀ a, lo = some a → ∃ u, vlo = some u ∧ V G w a u) (hhi : ∀ a, hi = some a → ∃ u, vhi = some u ∧ V G w a u) (hmx : ∀ a, mx = some a → ∃ u, vmx = some u ∧ V G w a u)
    (nlo : lo = none → vlo = none) (nhi : hi = none → vhi = none) (nmx : mx = none → vmx = none) (h : aslice P t x lo hi mx = some r) :
    ∃ q, (Instr.sliceAt t u vlo vhi vmx).run P w = .ok q w ∧ V G w r q := by
  unfold aslice at h
  split at h
  · rename_i e es n o hut
    cases hie : P.info? e with
    | none => simp [hie] at h
    | some ie =>
      cases hm : amx n mx with
      | none => simp [hie, hm] at h
      | some mf =>
        obtain ⟨m, full⟩ := mf
        simp only [hie, hm] at h
        cases hh : abound? m n hi with
        | none => simp [hh] at h
        | some hb =>
          simp only [hh] at h
          split at h
          · cases h
          · rename_i h4
            cases hl : abound? hb 0 lo with
            | none => simp [hl] at h
            | some l =>
              simp only [hl] at h
              split at h
              · rename_i hlen
                cases h
                have hlen' := Nat.eq_of_beq_eq_true hlen
                simp only [V] at hu
                obtain ⟨cap, hcap, hcase⟩ := hu
                obtain ⟨hrun, q1, q2, q3, q4⟩ := run_bounds (P := P) (isS := true) hlo hhi hmx nlo nhi nmx hcap hm hh hl h4
                have hsl : ∀ base, (Instr.sliceAt t (.slice base n cap) vlo vhi vmx).run P w = .ok (.slice (if (if full then m else cap) = l then base else base.map (·.add (l * ie.size))) (hb - l) ((if full then m else cap) - l)) w := by
                  intro base
                  simp [Instr.sliceAt, run_underlying hut, Instr.slice, hrun, run_sizeOf' hie]
                have hlen2 : ((es.drop (l * ie.size)).take ((hb - l) * ie.size)).length = (hb - l) * ie.size := by
                  simp only [List.length_take, List.length_drop, hlen', ← Nat.sub_mul]
                  exact Nat.min_eq_left (Nat.mul_le_mul_right _ (by omega))
                have hMl : hb ≤ (if full then m else cap) := by split <;> omega
                rcases hcase with ⟨rfl, rfl, rfl, hu, hpl⟩ | ⟨b, off, rfl, hcells, ho⟩
                · rw [hu]
                  refine ⟨_, hsl (spOf u), ?_⟩
                  have e1 : hb = 0 := by omega
                  have e2 : l = 0 := by omega
                  have e3 : m = 0 := by omega
                  subst e1 e2 e3
                  rw [if_pos (by split <;> rfl)]
                  simp only [V]
                  refine ⟨0, Nat.le_refl _, .inl ⟨by simp, by first | rfl | trivial, by first | rfl | trivial, by simp [spOf], cut_plain hpl⟩⟩
                · refine ⟨_, hsl _, ?_⟩
                  simp only [V]
                  refine ⟨(if full then m else cap) - l, by omega, .inr ?_⟩
                  have hcut := own_cut (G := G) (o := o) (by rw [hlen'] at ho; exact ho) q1 q2 q3 q4 hcap
                  rw [hlen2]
                  by_cases hMl' : (if full then m else cap) = l
                  · rw [if_pos hMl'] at hcut ⊢
                    refine ⟨b, off, rfl, ?_, hcut⟩
                    have : hb - l = 0 := by omega
                    simp [this, VC]
                  · rw [if_neg hMl'] at hcut ⊢
                    refine ⟨b, off + l * ie.size, by simp [Addr.add_lit], VC.take _ _ _ _ (VC.drop _ _ _ _ hcells), hcut⟩
              · cases h
  · rename_i e i off n hut
    split at h
    · rename_i ie hb hie hh
      split at h
      · rename_i l hl
        simp only [V] at hu
        obtain ⟨b, cap, hbb, hcap, rfl⟩ := hu
        have e0 := nmx rfl; subst e0
        obtain ⟨hrun, q1, q2, _, _⟩ := run_bounds (P := P) (isS := true) (m := n) (full := false) (cap := cap) hlo hhi (mx := none) (vmx := none) (fun a e => by cases e) nlo nhi (fun _ => rfl) hcap rfl hh hl (by simp)
        simp only [Bool.false_eq_true, if_false] at hrun
        have hsl : (Instr.sliceAt t (.slice (some ⟨b, off, none⟩) n cap) vlo vhi none).run P w = .ok (.slice (if cap = l then some ⟨b, off, none⟩ else some ⟨b, off + l * ie.size, none⟩) (hb - l) (cap - l)) w := by
          simp [Instr.sliceAt, run_underlying hut, Instr.slice, hrun, run_sizeOf' hie, Addr.add_lit]
        refine ⟨_, hsl, ?_⟩
        split at h
        · rename_i hc
          cases h
          simp only [V]
          refine ⟨b, cap - l, hbb, by omega, ?_⟩
          split
          · rename_i hcl
            have : l = 0 := by omega
            subst this; simp
          · rfl
        · cases h
          simp only [V]
          refine ⟨cap - l, Nat.zero_le _, .inr ?_⟩
          have h0 : hb - l = 0 := by omega
          rw [h0]
          split
          · exact ⟨b, off, rfl, by simp only [VC], trivial⟩
          · exact ⟨b, _, rfl, by simp only [VC], trivial⟩
      · cases h
    · cases h
  · rename_i s hut
    split at h
    · rename_i hb hh
      split at h
      · rename_i l hl
        cases h
        simp only [V] at hu; subst hu
        have e0 := nmx rfl; subst e0
        obtain ⟨hrun, _⟩ := run_bounds (P := P) (isS := false) (m := s.size) (full := false) (cap := s.size) hlo hhi (mx := none) (vmx := none) (fun a e => by cases e) nlo nhi (fun _ => rfl) (Nat.le_refl _) rfl hh hl (by simp)
        exact ex_val (by simp [Instr.sliceAt, run_underlying hut, Instr.slice, hrun])
      · cases h
    · cases h
  · cases h

end Go.Ab
