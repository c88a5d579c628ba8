/- Texts: AbTy AbEvt AbPa AbPrim AbSeat -/
import Derived.IntWalk
import Derived.Laws.LoneSync
import Derived.ProofKit
import Derived.Test.YteiddempdecleaaGreatRows
import Derived.Test.YteiddempdecleaaGreatAbB1
set_option linter.unusedVariables false
set_option linter.unusedSimpArgs false

namespace Go.Ab
open Go Go.RowKit

abbrev ai (x : Int) : AV := .val (.int .i64 x)
abbrev ab (b : Bool) : AV := .val (.bool b)
abbrev at' (s : ByteArray) : AV := .val (.string s)
abbrev w64 (x : Int) : Int := IntKind.i64.wrap x
abbrev imax (a b : Int) : Int := if b > a then b else a
abbrev imin (a b : Int) : Int := if b < a then b else a

def flat {α : Type} (c : α → List AV) (l : List α) : List AV := l.flatMap c

inductive Tm where
  | mk (k n : Int) (sub : List Tm)

instance : Inhabited Tm := ⟨.mk 0 0 []⟩
def Tm.k : Tm → Int | .mk k _ _ => k
def Tm.n : Tm → Int | .mk _ n _ => n
def Tm.sub : Tm → List Tm | .mk _ _ l => l

theorem Tm.eta (t : Tm) : Tm.mk t.k t.n t.sub = t := by cases t; rfl

mutual
def tmCells : Tm → List AV
  | .mk k n l => [ai k, ai n, .sl (tmsCells l) l.length .no]
def tmsCells : List Tm → List AV
  | [] => []
  | t :: l => tmCells t ++ tmsCells l
end

theorem tms_flat : ∀ l : List Tm, tmsCells l = flat tmCells l
  | [] => rfl
  | t :: l => by simp only [tmsCells, tms_flat l, flat, List.flatMap_cons]

def tmL (t : Tm) : List AV := [ai t.k, ai t.n, .sl (flat tmCells t.sub) t.sub.length .no]
theorem tm_eq (t : Tm) : tmCells t = tmL t := by
  cases t; simp only [tmCells, tmL, Tm.k, Tm.n, Tm.sub, tms_flat]
def tmA (t : Tm) : AV := .agg (tmL t)
def intC (x : Int) : List AV := [ai x]
/-- bytes -/
abbrev U8 := Int
def u8C (x : U8) : List AV := [.val (.int .u8 x)]
def strC (s : ByteArray) : List AV := [at' s]

structure Ent where
  kind : Int
  name : ByteArray
  type : Tm
  body : Tm
  fam : Int
  place : Int
  pars : Int
  inds : Int
  level : Int
  cons : List Int
  fields : List Int
instance : Inhabited Ent := ⟨⟨0, ⟨#[]⟩, default, default, 0, 0, 0, 0, 0, [], []⟩⟩

def entL (e : Ent) : List AV :=
  [ai e.kind, at' e.name, ai e.type.k, ai e.type.n, .sl (flat tmCells e.type.sub) e.type.sub.length .no, ai e.body.k, ai e.body.n, .sl (flat tmCells e.body.sub) e.body.sub.length .no,
   ai e.fam, ai e.place, ai e.pars, ai e.inds, ai e.level, .sl (flat intC e.cons) e.cons.length .no, .sl (flat intC e.fields) e.fields.length .no]
def entA (e : Ent) : AV := .agg (entL e)

structure Rec' where
  is : Bool
  around : List Tm
  at' : List Tm
instance : Inhabited Rec' := ⟨⟨false, [], []⟩⟩
def recL (r : Rec') : List AV := [ab r.is, .sl (flat tmCells r.around) r.around.length .no, .sl (flat tmCells r.at') r.at'.length .no]
def recA (r : Rec') : AV := .agg (recL r)

structure Con' where
  args : List Tm
  inds : List Tm
  recs : List Rec'
instance : Inhabited Con' := ⟨⟨[], [], []⟩⟩
def conL (c : Con') : List AV := [.sl (flat tmCells c.args) c.args.length .no, .sl (flat tmCells c.inds) c.inds.length .no, .sl (flat recL c.recs) c.recs.length .no]
def conA (c : Con') : AV := .agg (conL c)

/-- a machine: its signature, its rules' signature and parts, its numbers -/
structure Mach where
  l : List Ent
  rl : List Ent
  parts : List Con'
  args : List Int
  own : List Int
instance : Inhabited Mach := ⟨⟨[], [], [], [], []⟩⟩

structure Got where
  t : Tm
  left : Int
  did : Bool
  e : Int
instance : Inhabited Got := ⟨⟨default, 0, false, 0⟩⟩
def gotL (g : Got) : List AV := [ai g.t.k, ai g.t.n, .sl (flat tmCells g.t.sub) g.t.sub.length .no, ai g.left, ab g.did, ai g.e]
def gotA (g : Got) : AV := .agg (gotL g)

structure Case' where
  D : Int
  Level : Int
  C : Int
instance : Inhabited Case' := ⟨⟨0, 0, 0⟩⟩
def caseL (c : Case') : List AV := [ai c.D, ai c.Level, ai c.C]
def caseA (c : Case') : AV := .agg (caseL c)
structure Got9 where
  t : Tm
  long : Bool
instance : Inhabited Got9 := ⟨⟨default, false⟩⟩
def got9L (g : Got9) : List AV := [ai g.t.k, ai g.t.n, .sl (flat tmCells g.t.sub) g.t.sub.length .no, ab g.long]
def got9A (g : Got9) : AV := .agg (got9L g)
structure Two where
  a : List Tm
  b : List Tm
instance : Inhabited Two := ⟨⟨[], []⟩⟩
def twoL (g : Two) : List AV := [.sl (flat tmCells g.a) g.a.length .no, .sl (flat tmCells g.b) g.b.length .no]
def twoA (g : Two) : AV := .agg (twoL g)

/- what is needed of the cells of a type -/
structure Codec {α : Type} (c : α → List AV) (sz : Nat) : Prop where
  len : ∀ x, (c x).length = sz
  data : ∀ x, AV.DataL (c x)
  one : ∀ x, (c x).all AV.one = true

theorem DataL_append : ∀ {a b : List AV}, AV.DataL a → AV.DataL b → AV.DataL (a ++ b)
  | [], _, _, h => h
  | _ :: _, _, ⟨h1, h2⟩, h => ⟨h1, DataL_append h2 h⟩

theorem flat_data {α : Type} {c : α → List AV} (h : ∀ x, AV.DataL (c x)) : ∀ l : List α, AV.DataL (flat c l)
  | [] => trivial
  | x :: l => by rw [flat, List.flatMap_cons]; exact DataL_append (h x) (flat_data h l)

theorem flat_one {α : Type} {c : α → List AV} (h : ∀ x, (c x).all AV.one = true) : ∀ l : List α, (flat c l).all AV.one = true
  | [] => rfl
  | x :: l => by rw [flat, List.flatMap_cons, List.all_append, h x]; exact flat_one h l

theorem flat_len {α : Type} {c : α → List AV} {sz : Nat} (h : ∀ x, (c x).length = sz) : ∀ l : List α, (flat c l).length = l.length * sz
  | [] => by simp [flat]
  | x :: l => by
    have := flat_len h l
    unfold flat at this ⊢
    rw [List.flatMap_cons, List.length_append, h x, this, List.length_cons, Nat.succ_mul]; omega

theorem flat_drop {α : Type} {c : α → List AV} {sz : Nat} (h : ∀ x, (c x).length = sz) : ∀ (i : Nat) (l : List α), (flat c l).drop (i * sz) = flat c (l.drop i)
  | 0, l => by simp
  | i + 1, [] => by simp [flat]
  | i + 1, x :: l => by
    have := flat_drop h i l
    unfold flat at this ⊢
    rw [List.flatMap_cons, Nat.succ_mul, Nat.add_comm, ← List.drop_drop, List.drop_left' (h x), this, List.drop_succ_cons]

theorem flat_take {α : Type} {c : α → List AV} {sz : Nat} (h : ∀ x, (c x).length = sz) : ∀ (i : Nat) (l : List α), (flat c l).take (i * sz) = flat c (l.take i)
  | 0, l => by simp [flat]
  | i + 1, [] => by simp [flat]
  | i + 1, x :: l => by
    have := flat_take h i l
    unfold flat at this ⊢
    rw [List.take_succ_cons, List.flatMap_cons, List.flatMap_cons, Nat.succ_mul, Nat.add_comm, List.take_append, List.take_of_length_le (by rw [h x]; omega), h x, Nat.add_sub_cancel_left, this]

theorem flat_app {α : Type} {c : α → List AV} (l m : List α) : flat c l ++ flat c m = flat c (l ++ m) := by
  unfold flat; rw [List.flatMap_append]

mutual
theorem tm_data : ∀ t : Tm, AV.DataL (tmCells t)
  | .mk k n l => by rw [tmCells]; exact ⟨trivial, trivial, ⟨trivial, tms_data l⟩, trivial⟩
theorem tms_data : ∀ l : List Tm, AV.DataL (tmsCells l)
  | [] => trivial
  | t :: l => by rw [tmsCells]; exact DataL_append (tm_data t) (tms_data l)
end

theorem codecT : Codec tmCells 3 := ⟨fun x => by rw [tm_eq]; rfl, tm_data, fun x => by rw [tm_eq]; rfl⟩
theorem codecI : Codec intC 1 := ⟨fun _ => rfl, fun _ => ⟨trivial, trivial⟩, fun _ => rfl⟩
theorem codecU : Codec u8C 1 := ⟨fun _ => rfl, fun _ => ⟨trivial, trivial⟩, fun _ => rfl⟩
theorem codecS : Codec strC 1 := ⟨fun _ => rfl, fun _ => ⟨trivial, trivial⟩, fun _ => rfl⟩
theorem dT (l : List Tm) : AV.DataL (flat tmCells l) := flat_data codecT.data l
theorem dI (l : List Int) : AV.DataL (flat intC l) := flat_data codecI.data l
theorem dU (l : List U8) : AV.DataL (flat u8C l) := flat_data codecU.data l
theorem dS (l : List ByteArray) : AV.DataL (flat strC l) := flat_data codecS.data l
theorem codecE : Codec entL 15 := ⟨fun _ => rfl, fun x => ⟨trivial, trivial, trivial, trivial, ⟨trivial, dT _⟩, trivial, trivial, ⟨trivial, dT _⟩, trivial, trivial, trivial, trivial, trivial, ⟨trivial, dI _⟩, ⟨trivial, dI _⟩, trivial⟩, fun _ => rfl⟩
theorem codecR : Codec recL 3 := ⟨fun _ => rfl, fun _ => ⟨trivial, ⟨trivial, dT _⟩, ⟨trivial, dT _⟩, trivial⟩, fun _ => rfl⟩
theorem dR (l : List Rec') : AV.DataL (flat recL l) := flat_data codecR.data l
theorem codecC : Codec conL 3 := ⟨fun _ => rfl, fun _ => ⟨⟨trivial, dT _⟩, ⟨trivial, dT _⟩, ⟨trivial, dR _⟩, trivial⟩, fun _ => rfl⟩
theorem codecG9 : Codec got9L 4 := ⟨fun _ => rfl, fun _ => ⟨trivial, trivial, ⟨trivial, dT _⟩, trivial, trivial⟩, fun _ => rfl⟩
theorem dG9 (l : List Got9) : AV.DataL (flat got9L l) := flat_data codecG9.data l
theorem dE (l : List Ent) : AV.DataL (flat entL l) := flat_data codecE.data l
theorem dC (l : List Con') : AV.DataL (flat conL l) := flat_data codecC.data l

/- INDEX -/
def gidx {α : Type} (l : List α) (i : Int) : Option α := if 0 ≤ i then l[i.toNat]? else none

theorem gidx_spec {α : Type} {l : List α} {i : Int} {x : α} (h : gidx l i = some x) : 0 ≤ i ∧ i < l.length ∧ l[i.toNat]? = some x := by
  unfold gidx at h
  split at h
  · have := (List.getElem?_eq_some_iff.1 h).1
    exact ⟨by assumption, by omega, h⟩
  · cases h

theorem flat_at {α : Type} {c : α → List AV} {sz : Nat} (hc : ∀ x, (c x).length = sz) {l : List α} {i : Nat} {x : α} (h : l[i]? = some x) : (flat c l).drop (i * sz) = c x ++ flat c (l.drop (i + 1)) := by
  rw [flat_drop hc]
  obtain ⟨h1, h2⟩ := List.getElem?_eq_some_iff.1 h
  rw [List.drop_eq_getElem_cons h1, flat, List.flatMap_cons, h2]
  rfl

theorem ix_ok {P : Program} {α : Type} {c : α → List AV} {sz : Nat} (hc : Codec c sz) {t e : TypeId} {ie : TypeInfo} (ht : P.underlying t = some (.slice e)) (hi : P.info? e = some ie) (hs : ie.size = sz) {l : List α} {i : Int} {o : Own} {k : IntKind} {x : α} (h : gidx l i = some x) :
    aindexAddr P t (.sl (flat c l) l.length o) (.val (.int k i)) = some (.ip (c x ++ flat c (l.drop (i.toNat + 1)))) := by
  obtain ⟨h0, h1, h2⟩ := gidx_spec h
  subst hs
  unfold aindexAddr
  simp only [ht, hi]
  rw [if_pos ⟨h0, h1⟩, if_pos (by rw [flat_len hc.len]; simp), flat_at hc.len h2]

/-- an index into an array of ints -/
theorem ixArr_ok {P : Program} {t e n : Nat} {q : Bool × Nat} (ht : P.underlying t = some (.array n e)) (hi : tsz P e = some q) (hq : q = (false, 1)) {l : List Int} {i : Int} {k : IntKind} {x : Int} (hl : l.length = n) (h : gidx l i = some x) :
    aindex P t (.agg (flat intC l)) (.val (.int k i)) = some (ai x) := by
  obtain ⟨h0, h1, h2⟩ := gidx_spec h
  subst hq
  unfold aindex
  simp only [ht, hi]
  rw [if_pos ⟨h0, by omega⟩, flat_at codecI.len h2]
  rfl

/- PARTS -/
def gsl {α : Type} (l : List α) (a b : Int) : Option (List α) := if 0 ≤ a ∧ a ≤ b ∧ b ≤ l.length then some ((l.drop a.toNat).take (b - a).toNat) else none

theorem gsl_spec {α : Type} {l r : List α} {a b : Int} (h : gsl l a b = some r) : 0 ≤ a ∧ a ≤ b ∧ b ≤ l.length ∧ r = (l.drop a.toNat).take (b - a).toNat := by
  unfold gsl at h
  split at h
  · cases h; rename_i q; exact ⟨q.1, q.2.1, q.2.2, rfl⟩
  · cases h

theorem slice_core {P : Program} {α : Type} {c : α → List AV} {sz : Nat} (hc : Codec c sz) {t e : TypeId} {ie : TypeInfo} (ht : P.underlying t = some (.slice e)) (hi : P.info? e = some ie) (hs : ie.size = sz) {l r : List α} {a b : Int} {lo hi' : Option AV}
    (h : gsl l a b = some r) (hlo : ∀ h, abound? h 0 lo = if 0 ≤ a ∧ a ≤ h then some a.toNat else none) (hhi : abound? l.length l.length hi' = if 0 ≤ b ∧ b ≤ l.length then some b.toNat else none) :
    aslice P t (.sl (flat c l) l.length .no) lo hi' none = some (.sl (flat c r) r.length .no) := by
  obtain ⟨h0, h1, h2, rfl⟩ := gsl_spec h
  subst hs
  have e1 : ((b - a).toNat) = b.toNat - a.toNat := by omega
  have hcut : Own.cut .no a.toNat (b.toNat - a.toNat) (Nat.beq b.toNat l.length) false = .no := by
    unfold Own.cut; simp
  unfold aslice
  simp only [ht, hi, amx, hhi]
  rw [if_pos ⟨by omega, h2⟩]
  simp only [hlo]
  rw [if_neg (by simp), if_pos ⟨h0, by omega⟩]
  simp only
  rw [if_pos (by rw [flat_len hc.len]; simp), flat_drop hc.len, flat_take hc.len, e1]
  have hl : ((l.drop a.toNat).take (b.toNat - a.toNat)).length = b.toNat - a.toNat := by simp; omega
  rw [hl, Bool.false_and, hcut]

theorem slice_ok {P : Program} {α : Type} {c : α → List AV} {sz : Nat} (hc : Codec c sz) {t e : TypeId} {ie : TypeInfo} (ht : P.underlying t = some (.slice e)) (hi : P.info? e = some ie) (hs : ie.size = sz) {l r : List α} {a b : Int} {k k' : IntKind}
    (h : gsl l a b = some r) : aslice P t (.sl (flat c l) l.length .no) (some (.val (.int k a))) (some (.val (.int k' b))) none = some (.sl (flat c r) r.length .no) :=
  slice_core hc ht hi hs h (fun h => rfl) rfl

theorem sliceFrom_ok {P : Program} {α : Type} {c : α → List AV} {sz : Nat} (hc : Codec c sz) {t e : TypeId} {ie : TypeInfo} (ht : P.underlying t = some (.slice e)) (hi : P.info? e = some ie) (hs : ie.size = sz) {l r : List α} {a : Int} {k : IntKind}
    (h : gsl l a l.length = some r) : aslice P t (.sl (flat c l) l.length .no) (some (.val (.int k a))) none none = some (.sl (flat c r) r.length .no) :=
  slice_core hc ht hi hs h (fun h => rfl) (by simp [abound?])

theorem sliceTo_ok {P : Program} {α : Type} {c : α → List AV} {sz : Nat} (hc : Codec c sz) {t e : TypeId} {ie : TypeInfo} (ht : P.underlying t = some (.slice e)) (hi : P.info? e = some ie) (hs : ie.size = sz) {l r : List α} {b : Int} {k : IntKind}
    (h : gsl l 0 b = some r) : aslice P t (.sl (flat c l) l.length .no) none (some (.val (.int k b))) none = some (.sl (flat c r) r.length .no) :=
  slice_core hc ht hi hs h (fun h => by simp [abound?]) rfl

theorem sliceO_core {P : Program} {α : Type} {c : α → List AV} {sz : Nat} (hc : Codec c sz) {t e : TypeId} {ie : TypeInfo} (ht : P.underlying t = some (.slice e)) (hi : P.info? e = some ie) (hs : ie.size = sz) {l r : List α} {a b : Int} {lo hi' : Option AV} {o : Own}
    (h : gsl l a b = some r) (hlo : ∀ h, abound? h 0 lo = if 0 ≤ a ∧ a ≤ h then some a.toNat else none) (hhi : abound? l.length l.length hi' = if 0 ≤ b ∧ b ≤ l.length then some b.toNat else none) :
    ∃ a0, aslice P t (.sl (flat c l) l.length o) lo hi' none = some a0 ∧ a0.frz = .sl (flat c r) r.length .no := by
  obtain ⟨h0, h1, h2, rfl⟩ := gsl_spec h
  subst hs
  have e1 : ((b - a).toNat) = b.toNat - a.toNat := by omega
  refine ⟨.sl (flat c ((l.drop a.toNat).take (b - a).toNat)) ((l.drop a.toNat).take (b - a).toNat).length (o.cut a.toNat (b.toNat - a.toNat) (Nat.beq b.toNat l.length) false), ?_, rfl⟩
  unfold aslice
  simp only [ht, hi, amx, hhi]
  rw [if_pos ⟨by omega, h2⟩]
  simp only [hlo]
  rw [if_neg (by simp), if_pos ⟨h0, by omega⟩]
  simp only
  rw [if_pos (by rw [flat_len hc.len]; simp), flat_drop hc.len, flat_take hc.len, e1]
  have hl : ((l.drop a.toNat).take (b.toNat - a.toNat)).length = b.toNat - a.toNat := by simp; omega
  rw [hl, Bool.false_and]

theorem sliceO_ok {P : Program} {α : Type} {c : α → List AV} {sz : Nat} (hc : Codec c sz) {t e : TypeId} {ie : TypeInfo} (ht : P.underlying t = some (.slice e)) (hi : P.info? e = some ie) (hs : ie.size = sz) {l r : List α} {a b : Int} {k k' : IntKind}
    {o : Own} (h : gsl l a b = some r) : ∃ a0, aslice P t (.sl (flat c l) l.length o) (some (.val (.int k a))) (some (.val (.int k' b))) none = some a0 ∧ a0.frz = .sl (flat c r) r.length .no :=
  sliceO_core hc ht hi hs h (fun h => rfl) rfl

theorem sliceFromO_ok {P : Program} {α : Type} {c : α → List AV} {sz : Nat} (hc : Codec c sz) {t e : TypeId} {ie : TypeInfo} (ht : P.underlying t = some (.slice e)) (hi : P.info? e = some ie) (hs : ie.size = sz) {l r : List α} {a : Int} {k : IntKind}
    {o : Own} (h : gsl l a l.length = some r) : ∃ a0, aslice P t (.sl (flat c l) l.length o) (some (.val (.int k a))) none none = some a0 ∧ a0.frz = .sl (flat c r) r.length .no :=
  sliceO_core hc ht hi hs h (fun h => rfl) (by simp [abound?])

theorem sliceToO_ok {P : Program} {α : Type} {c : α → List AV} {sz : Nat} (hc : Codec c sz) {t e : TypeId} {ie : TypeInfo} (ht : P.underlying t = some (.slice e)) (hi : P.info? e = some ie) (hs : ie.size = sz) {l r : List α} {b : Int} {k : IntKind}
    {o : Own} (h : gsl l 0 b = some r) : ∃ a0, aslice P t (.sl (flat c l) l.length o) none (some (.val (.int k b))) none = some a0 ∧ a0.frz = .sl (flat c r) r.length .no :=
  sliceO_core hc ht hi hs h (fun h => by simp [abound?]) rfl

/- APPEND -/
def gapp {α : Type} (B : Nat) (l m : List α) : Option (List α) := if (l.length + m.length) * B ≤ 140737488355328 then some (l ++ m) else none

theorem gapp_spec {α : Type} {B : Nat} {l m r : List α} (h : gapp B l m = some r) : (l.length + m.length) * B ≤ 140737488355328 ∧ r = l ++ m := by
  unfold gapp at h
  split at h
  · cases h; exact ⟨by assumption, rfl⟩
  · cases h

theorem app_core {P : Program} {α : Type} {c : α → List AV} {sz : Nat} (hc : Codec c sz) {t e : TypeId} {ie : TypeInfo} {z : Value} (ht : P.underlying t = some (.slice e)) (hi : P.info? e = some ie) (hs : ie.size = sz) (hz : ie.zero = some z) (hzs : z.cells.size = sz) (h1 : 1 ≤ sz) {B : Nat} (hb : ie.bytes = B) (hB : 1 ≤ B)
    {l m r : List α} (h : gapp B l m = some r) {o o2 : Own} {s : LSt} {ev : Operand → AV} :
    aappend P t t ev (.sl (flat c l) l.length o) (.sl (flat c m) m.length o2) s = bif Nat.beq m.length 0 then some { ev := ev, v := .sl (flat c l) l.length o }
          else
            match o with
            | .full => some { ev := ev, ns := s.ns, new := 1, v := .sl (flat c r) r.length (.st s.ns sz) }
            | .nl => some { ev := ev, ns := s.ns, new := 1, v := .sl (flat c r) r.length (.st s.ns sz) }
            | .st k sz' => bif s.own.any (Nat.beq k) && Nat.beq sz' sz then some { ev := ev, use := [k], ns := s.ns, new := 1, v := .sl (flat c r) r.length (.st s.ns sz) } else none
            | _ => none := by
  obtain ⟨h2, rfl⟩ := gapp_spec h
  subst hs
  subst hb
  unfold aappend
  simp only [ht, hi, hz]
  have h3 : l.length + m.length ≤ 4611686018427387904 := by
    have : (l.length + m.length) * 1 ≤ (l.length + m.length) * ie.bytes := Nat.mul_le_mul_left _ hB
    omega
  have hcond : (Nat.beq t t && Nat.beq (flat c l).length (l.length * ie.size) && Nat.beq (flat c m).length (m.length * ie.size) && Nat.ble 1 ie.size && Nat.beq z.cells.size ie.size && Nat.ble ((l.length + m.length) * ie.bytes) 140737488355328 && Nat.ble (l.length + m.length) 4611686018427387904 && (flat c m).all AV.one) = true := by
    simp only [Bool.and_eq_true]
    exact ⟨⟨⟨⟨⟨⟨⟨by simp, by rw [flat_len hc.len]; simp⟩, by rw [flat_len hc.len]; simp⟩, by simpa using h1⟩, by rw [hzs]; simp⟩, by simpa using h2⟩, by simpa using h3⟩, flat_one hc.one m⟩
  rw [hcond]
  simp only [cond_true, flat_app, List.length_append]
  cases o <;> rfl

/-- an append of something -/
theorem app_some {P : Program} {α : Type} {c : α → List AV} {sz : Nat} (hc : Codec c sz) {t e : TypeId} {ie : TypeInfo} {z : Value} (ht : P.underlying t = some (.slice e)) (hi : P.info? e = some ie) (hs : ie.size = sz) (hz : ie.zero = some z) (hzs : z.cells.size = sz) (h1 : 1 ≤ sz) {B : Nat} (hb : ie.bytes = B) (hB : 1 ≤ B)
    {l m r : List α} (h : gapp B l m = some r) (hm : m.length ≠ 0) : Ob.ok P (.app t t (flat c l) (flat c m) (flat c r) l.length m.length r.length sz false) := by
  intro ev s o o2
  rw [app_core hc ht hi hs hz hzs h1 hb hB h]
  cases hn : Nat.beq m.length 0 with
  | true => exact absurd (Nat.eq_of_beq_eq_true hn) hm
  | false => cases o <;> rfl

/-- an append of nothing -/
theorem app_none' {P : Program} {α : Type} {c : α → List AV} {sz : Nat} (hc : Codec c sz) {t e : TypeId} {ie : TypeInfo} {z : Value} (ht : P.underlying t = some (.slice e)) (hi : P.info? e = some ie) (hs : ie.size = sz) (hz : ie.zero = some z) (hzs : z.cells.size = sz) (h1 : 1 ≤ sz) {B : Nat} (hb : ie.bytes = B) (hB : 1 ≤ B)
    {l m r : List α} (h : gapp B l m = some r) (hm : m.length = 0) : Ob.ok P (.app t t (flat c l) (flat c m) (flat c r) l.length m.length r.length sz true) := by
  intro ev s o o2
  rw [app_core hc ht hi hs hz hzs h1 hb hB h]
  obtain ⟨_, rfl⟩ := gapp_spec h
  rw [List.length_eq_zero_iff.1 hm, List.append_nil]; rfl

theorem tmA_arg {p : Nat → Prop} (t : Tm) : (tmA t).arg p := ⟨trivial, trivial, ⟨trivial, dT _⟩, trivial⟩
theorem entA_arg {p : Nat → Prop} (e : Ent) : (entA e).arg p := ⟨trivial, trivial, trivial, trivial, ⟨trivial, dT _⟩, trivial, trivial, ⟨trivial, dT _⟩, trivial, trivial, trivial, trivial, trivial, ⟨trivial, dI _⟩, ⟨trivial, dI _⟩, trivial⟩
theorem recA_arg {p : Nat → Prop} (r : Rec') : (recA r).arg p := ⟨trivial, ⟨trivial, dT _⟩, ⟨trivial, dT _⟩, trivial⟩
theorem conA_arg {p : Nat → Prop} (c : Con') : (conA c).arg p := ⟨⟨trivial, dT _⟩, ⟨trivial, dT _⟩, ⟨trivial, dR _⟩, trivial⟩
theorem gotA_arg {p : Nat → Prop} (g : Got) : (gotA g).arg p := ⟨trivial, trivial, ⟨trivial, dT _⟩, trivial, trivial, trivial, trivial⟩
theorem sl_arg {p : Nat → Prop} {α : Type} {c : α → List AV} {sz : Nat} (hc : Codec c sz) (l : List α) {n : Nat} : (AV.sl (flat c l) n .no).arg p := ⟨trivial, flat_data hc.data l⟩
theorem tmA_fine {p : Nat → Prop} (t : Tm) : (tmA t).fine p := ⟨trivial, trivial, dT _, trivial⟩
theorem entA_fine {p : Nat → Prop} (e : Ent) : (entA e).fine p := ⟨trivial, trivial, trivial, trivial, dT _, trivial, trivial, dT _, trivial, trivial, trivial, trivial, trivial, dI _, dI _, trivial⟩
theorem recA_fine {p : Nat → Prop} (r : Rec') : (recA r).fine p := ⟨trivial, dT _, dT _, trivial⟩
theorem conA_fine {p : Nat → Prop} (c : Con') : (conA c).fine p := ⟨dT _, dT _, dR _, trivial⟩
theorem gotA_fine {p : Nat → Prop} (g : Got) : (gotA g).fine p := ⟨trivial, trivial, dT _, trivial, trivial, trivial, trivial⟩
theorem sl_fine {p : Nat → Prop} {α : Type} {c : α → List AV} {sz : Nat} (hc : Codec c sz) (l : List α) {n : Nat} {o : Own} : (AV.sl (flat c l) n o).fine p := flat_data hc.data l

end Go.Ab

namespace Go.Ab
open Go

/-- from some measure on the answer is this one -/
def Evt {α : Type} (f : Nat → Option α) (r : α) : Prop := ∃ n, ∀ q, n ≤ q → f q = some r

section
variable {α β : Type} {f : Nat → Option α} {r a : α} {b : β}
theorem Evt.mk (h : ∀ q, f q = some r) : Evt f r := ⟨0, fun q _ => h q⟩
theorem Evt.ret {r : α} : Evt (fun _ => some r) r := ⟨0, fun _ _ => rfl⟩
theorem Evt.succ (h : Evt (fun q => f (q + 1)) r) : Evt f r := by
  obtain ⟨n, h⟩ := h
  refine ⟨n + 1, fun q hq => ?_⟩
  obtain ⟨k, rfl⟩ : ∃ k, q = k + 1 := ⟨q - 1, by omega⟩
  exact h k (by omega)
theorem Evt.bind {k : Nat → α → Option β} (h : Evt f a) (g : Evt (fun q => k q a) b) : Evt (fun q => f q >>= k q) b := by
  obtain ⟨n, h⟩ := h; obtain ⟨m, g⟩ := g
  refine ⟨max n m, fun q hq => ?_⟩
  dsimp only
  rw [h q (by omega)]
  exact g q (by omega)
theorem Evt.pure {x : Option α} {k : Nat → α → Option β} (h : x = some a) (g : Evt (fun q => k q a) b) : Evt (fun q => x >>= k q) b := by
  subst h; exact g
theorem Evt.ifT {c : Bool} {g : Nat → Option α} (h : c = true) (k : Evt f r) : Evt (fun q => if c = true then f q else g q) r := by
  simpa [h] using k
theorem Evt.ifF {c : Bool} {g : Nat → Option α} (h : c = false) (k : Evt g r) : Evt (fun q => if c = true then f q else g q) r := by
  simpa [h] using k
theorem Evt.ite {c : Bool} {g : Nat → Option α} {s : α} (h : c = true → Evt f r) (k : c = false → Evt g s) : Evt (fun q => if c = true then f q else g q) (if c = true then r else s) := by
  cases c
  · simpa using k rfl
  · simpa using h rfl
theorem Evt.iff {c : Bool} {g : Nat → Option α} (h : c = true → Evt f r) (k : c = false → Evt g r) : Evt (fun q => if c = true then f q else g q) r := by
  cases c
  · simpa using k rfl
  · simpa using h rfl
theorem Evt.det (h : Evt f r) (k : Evt f a) : r = a := by
  obtain ⟨n, h⟩ := h; obtain ⟨m, k⟩ := k
  have := h (max n m) (by omega)
  rw [k _ (by omega)] at this
  exact (Option.some.inj this).symm
theorem Evt.at (h : Evt f r) : ∃ q, f q = some r := by obtain ⟨n, h⟩ := h; exact ⟨n, h n (Nat.le_refl _)⟩
theorem Evt.eq {s : α} (h : Evt f r) (e : r = s) : Evt f s := e ▸ h
end

/-- from some measure on there is one answer, and it is such a one -/
def Tot {α : Type} (f : Nat → Option α) (P : α → Prop) : Prop := ∃ r, Evt f r ∧ P r
section
variable {α β : Type} {f : Nat → Option α} {P : α → Prop} {Q : β → Prop}
theorem Evt.tot {r : α} (h : Evt f r) (k : P r) : Tot f P := ⟨r, h, k⟩
theorem Tot.ret {r : α} (k : P r) : Tot (fun _ => some r) P := ⟨r, Evt.ret, k⟩
theorem Tot.succ (h : Tot (fun q => f (q + 1)) P) : Tot f P := by obtain ⟨r, h, k⟩ := h; exact ⟨r, h.succ, k⟩
theorem Tot.bind {k : Nat → α → Option β} (h : Tot f P) (g : ∀ a, P a → Tot (fun q => k q a) Q) : Tot (fun q => f q >>= k q) Q := by
  obtain ⟨a, h, p⟩ := h; obtain ⟨b, h2, k⟩ := g a p
  exact ⟨b, h.bind h2, k⟩
theorem Tot.pure {x : Option α} {a : α} {k : Nat → α → Option β} (h : x = some a) (g : Tot (fun q => k q a) Q) : Tot (fun q => x >>= k q) Q := by
  subst h; exact g
theorem Tot.ite {c : Bool} {g : Nat → Option α} (h : c = true → Tot f P) (k : c = false → Tot g P) : Tot (fun q => if c = true then f q else g q) P := by
  cases c
  · simpa using k rfl
  · simpa using h rfl
theorem Tot.mono {P' : α → Prop} (h : Tot f P) (k : ∀ r, P r → P' r) : Tot f P' := by obtain ⟨r, h, p⟩ := h; exact ⟨r, h, k r p⟩
end
end Go.Ab

namespace Go.Ab
open Go

/- numbers -/
theorem w64_id {x : Int} (h0 : -9223372036854775808 ≤ x) (h1 : x ≤ 9223372036854775807) : w64 x = x := by
  show IntKind.i64.wrap x = x
  exact IntWalk.i64_in x ⟨h0, h1⟩
theorem w64_nat (v : Nat) (h : v < 9223372036854775807) : w64 ((v : Int) + 1) = ((v + 1 : Nat) : Int) := by
  rw [w64_id (by omega) (by omega)]; simp

/- lists by an index -/
section
variable {α : Type} {l : List α} {v : Nat} {x : α} {r : List α}
theorem drop_lt (h : l.drop v = x :: r) : v < l.length := by
  rcases Nat.lt_or_ge v l.length with h1 | h1
  · exact h1
  · rw [List.drop_eq_nil_of_le h1] at h; cases h
theorem drop_dec (h : l.drop v = x :: r) : decide ((v : Int) < (l.length : Int)) = true := by
  have := drop_lt h; simp; exact this
theorem drop_nil (h : l.drop v = []) : decide ((v : Int) < (l.length : Int)) = false := by
  have : l.length ≤ v := List.drop_eq_nil_iff.1 h
  simp; exact this
theorem drop_idx (h : l.drop v = x :: r) : gidx l (v : Int) = some x := by
  have h1 := drop_lt h
  have : l[v]? = some x := by
    have := congrArg (fun z => z[0]?) h
    simpa using this
  unfold gidx
  rw [if_pos (by omega)]; simpa using this
theorem drop_next (h : l.drop v = x :: r) : l.drop (v + 1) = r := by
  have := congrArg List.tail h
  simpa using this
end

theorem gapp_ok {α : Type} {B : Nat} {l m : List α} (h : (l.length + m.length) * B ≤ 140737488355328) : gapp B l m = some (l ++ m) := by unfold gapp; rw [if_pos h]

/- terms -/
mutual
/-- how many nodes -/
def Tm.nodes : Tm → Nat
  | .mk _ _ l => 1 + nodesL l
def nodesL : List Tm → Nat
  | [] => 0
  | t :: l => t.nodes + nodesL l
end
mutual
/-- how deep -/
def Tm.high : Tm → Nat
  | .mk _ _ l => 1 + highL l
def highL : List Tm → Nat
  | [] => 0
  | t :: l => max t.high (highL l)
end
mutual
/-- no list is too long for an index -/
def Tm.Ok : Tm → Prop
  | .mk _ _ l => l.length < 9223372036854775808 ∧ OkL l
def OkL : List Tm → Prop
  | [] => True
  | t :: l => t.Ok ∧ OkL l
end

mutual
/-- as term.size counts -/
def szT : Tm → Int → Int
  | .mk _ _ l, h => szL l (h + 1)
def szL : List Tm → Int → Int
  | [], h => h
  | t :: l, h => if h > 8192 then h else szL l (szT t h)
end

mutual
theorem szT_b : ∀ (t : Tm) (h : Int), 0 ≤ h → h ≤ 8192 → h + 1 ≤ szT t h ∧ szT t h ≤ 8193
  | .mk _ _ l, h, h0, h1 => by
    rw [szT]
    exact szL_b l (h + 1) (by omega) (by omega)
theorem szL_b : ∀ (l : List Tm) (h : Int), 0 ≤ h → h ≤ 8193 → h ≤ szL l h ∧ szL l h ≤ 8193
  | [], h, h0, h1 => by rw [szL]; omega
  | t :: l, h, h0, h1 => by
    rw [szL]
    split
    · omega
    · have := szT_b t h h0 (by omega)
      have := szL_b l (szT t h) (by omega) (by omega)
      omega
end
theorem nodes_pos (t : Tm) : 1 ≤ t.nodes := by cases t; rw [Tm.nodes]; omega
mutual
theorem szT_eq : ∀ (t : Tm) (h : Int), 0 ≤ h → h ≤ 8192 → (h + t.nodes ≤ 8192 → szT t h = h + t.nodes) ∧ (8192 < h + t.nodes → szT t h = 8193)
  | .mk _ _ l, h, h0, h1 => by
    rw [szT, Tm.nodes]
    have := szL_eq l (h + 1) (by omega) (by omega)
    constructor
    · intro h2; rw [this.1 (by omega)]; omega
    · intro h2; exact this.2 (by omega)
theorem szL_eq : ∀ (l : List Tm) (h : Int), 0 ≤ h → h ≤ 8193 → (h + nodesL l ≤ 8192 → szL l h = h + nodesL l) ∧ (8192 < h + nodesL l → szL l h = 8193)
  | [], h, h0, h1 => by rw [szL, nodesL]; omega
  | t :: l, h, h0, h1 => by
    rw [szL, nodesL]
    have hp := nodes_pos t
    split
    · omega
    · have ht := szT_eq t h h0 (by omega)
      have hb := szT_b t h h0 (by omega)
      have hl := szL_eq l (szT t h) (by omega) (by omega)
      constructor
      · intro h2
        have e := ht.1 (by omega)
        rw [e] at hl ⊢
        rw [hl.1 (by omega)]; omega
      · intro h2
        by_cases h3 : h + t.nodes ≤ 8192
        · have e := ht.1 h3
          rw [e] at hl ⊢
          exact hl.2 (by omega)
        · exact hl.2 (by rw [ht.2 (by omega)]; omega)
end

mutual
/-- as term.deep goes -/
def dpT : Tm → Int → Int
  | .mk _ _ l, a => if a > 128 then a else dpL l a a
def dpL : List Tm → Int → Int → Int
  | [], _, m => m
  | t :: l, a, m => dpL l a (imax m (dpT t (a + 1)))
end
mutual
theorem dpT_b : ∀ (t : Tm) (a : Int), 0 ≤ a → a ≤ 129 → a ≤ dpT t a ∧ dpT t a ≤ 129
  | .mk _ _ l, a, h0, h1 => by
    rw [dpT]
    split
    · omega
    · exact dpL_b l a a h0 (by omega) (by omega) (by omega)
theorem dpL_b : ∀ (l : List Tm) (a m : Int), 0 ≤ a → a ≤ 128 → a ≤ m → m ≤ 129 → m ≤ dpL l a m ∧ dpL l a m ≤ 129
  | [], a, m, h0, h1, h2, h3 => by rw [dpL]; omega
  | t :: l, a, m, h0, h1, h2, h3 => by
    rw [dpL]
    have := dpT_b t (a + 1) (by omega) (by omega)
    have := dpL_b l a (imax m (dpT t (a + 1))) h0 h1 (by unfold imax; split <;> omega) (by unfold imax; split <;> omega)
    unfold imax at this ⊢
    split at this <;> split <;> omega
end
mutual
theorem dpT_eq : ∀ (t : Tm) (a : Int), 0 ≤ a → a ≤ 129 → (a + t.high ≤ 129 → dpT t a = a + t.high - 1) ∧ (129 < a + t.high → dpT t a = 129)
  | .mk _ _ l, a, h0, h1 => by
    rw [dpT, Tm.high]
    split
    · omega
    · have := dpL_eq l a a h0 (by omega) (by omega) (by omega)
      constructor
      · intro h2; rw [this.1 (by omega) (by omega)]; omega
      · intro h2; exact this.2 (.inr (by omega))
theorem dpL_eq : ∀ (l : List Tm) (a m : Int), 0 ≤ a → a ≤ 128 → a ≤ m → m ≤ 129 → (m ≤ 128 → a + highL l ≤ 128 → dpL l a m = max m (a + highL l)) ∧ ((m = 129 ∨ 128 < a + highL l) → dpL l a m = 129)
  | [], a, m, h0, h1, h2, h3 => by rw [dpL, highL]; omega
  | t :: l, a, m, h0, h1, h2, h3 => by
    rw [dpL, highL]
    have ht := dpT_eq t (a + 1) (by omega) (by omega)
    have hb := dpT_b t (a + 1) (by omega) (by omega)
    have hm : a ≤ imax m (dpT t (a + 1)) ∧ imax m (dpT t (a + 1)) ≤ 129 := by unfold imax; split <;> omega
    have hl := dpL_eq l a (imax m (dpT t (a + 1))) h0 h1 hm.1 hm.2
    have hh : 1 ≤ t.high := by cases t; rw [Tm.high]; omega
    constructor
    · intro h4 h5
      have e := ht.1 (by omega)
      rw [e] at hl ⊢
      have hi : imax m (a + 1 + t.high - 1) = max m (a + t.high) := by unfold imax; split <;> omega
      rw [hi] at hl ⊢
      rw [hl.1 (by omega) (by omega)]; omega
    · intro h4
      refine hl.2 ?_
      rcases h4 with h4 | h4
      · exact .inl (by unfold imax; split <;> omega)
      · by_cases h5 : 128 < a + highL l
        · exact .inr h5
        · refine .inl ?_
          have e : dpT t (a + 1) = 129 := by
            by_cases h6 : a + 1 + t.high ≤ 129
            · omega
            · exact ht.2 (by omega)
          rw [e]; unfold imax; split <;> omega
end

/-- one node's form -/
def headT (t : Tm) : Bool :=
  decide (1 ≤ t.k) && decide (t.k ≤ 8) && decide (0 ≤ t.n) &&
  (if t.k = 3 ∨ t.k = 4 ∨ t.k = 5 then decide (t.sub.length = 2) && decide (t.n ≤ 0)
   else if t.k = 7 then decide (t.sub.length = 1) && decide (t.n ≤ 1048576) && (t.sub.head?.any fun x => x.k == 2)
   else decide (t.sub.length = 0) && (if t.k = 2 then decide (t.n ≤ 7) else decide (t.n ≤ 1048576)))
theorem head_spec {t : Tm} (h : headT t = true) : 1 ≤ t.k ∧ t.k ≤ 8 ∧ 0 ≤ t.n ∧ t.n ≤ 1048576 ∧ t.sub.length ≤ 2 ∧
    (t.k = 3 ∨ t.k = 4 ∨ t.k = 5 → t.sub.length = 2 ∧ t.n ≤ 0) ∧ (t.k = 7 → ∃ x, t.sub = [x] ∧ x.k = 2) ∧ (t.k = 1 ∨ t.k = 2 ∨ t.k = 6 ∨ t.k = 8 → t.sub = []) ∧ (t.k = 2 → t.n ≤ 7) := by
  unfold headT at h
  revert h
  generalize t.k = k
  generalize t.n = n
  generalize t.sub = l
  intro h
  simp only [Bool.and_eq_true, decide_eq_true_eq] at h
  obtain ⟨⟨⟨h1, h2⟩, h3⟩, h4⟩ := h
  split at h4
  · simp only [Bool.and_eq_true, decide_eq_true_eq] at h4
    refine ⟨h1, h2, h3, by omega, by omega, fun _ => h4, by omega, by omega, by omega⟩
  · split at h4
    · simp only [Bool.and_eq_true, decide_eq_true_eq] at h4
      obtain ⟨⟨h5, h6⟩, h7⟩ := h4
      obtain ⟨x, rfl⟩ : ∃ x, l = [x] := by
        rcases l with _ | ⟨x, _ | ⟨y, l⟩⟩ <;> simp at h5
        exact ⟨x, rfl⟩
      refine ⟨h1, h2, h3, h6, by simp, by omega, fun _ => ⟨x, rfl, by simpa using h7⟩, by omega, by omega⟩
    · simp only [Bool.and_eq_true, decide_eq_true_eq] at h4
      have hl : l = [] := List.length_eq_zero_iff.1 h4.1
      refine ⟨h1, h2, h3, ?_, by omega, by omega, by omega, fun _ => hl, fun h8 => ?_⟩
      · have := h4.2
        split at this <;> (simp at this; omega)
      · have := h4.2
        rw [if_pos h8] at this
        simpa using this
mutual
def goodT : Tm → Bool
  | .mk k n l => headT (.mk k n l) && goodL l
def goodL : List Tm → Bool
  | [] => true
  | t :: l => goodT t && goodL l
end
/-- is a term one? -/
def shapedT (t : Tm) : Bool := decide (t.nodes ≤ 8192) && decide (t.high ≤ 128) && goodT t

/-- how many binders more stand above a Sub -/
def undT (k : Int) (i : Nat) : Int := if i = 1 ∧ (k = 3 ∨ k = 4) then 1 else 0
mutual
/-- the least number greater than all loose variables' -/
def looT : Tm → Int → Int
  | .mk k n l, b => if k = 1 then max 0 (n + 1 - b) else looL l k 0 b
def looL : List Tm → Int → Nat → Int → Int
  | [], _, _, _ => 0
  | t :: l, k, i, b => max (looT t (b + undT k i)) (looL l k (i + 1) b)
end
mutual
/-- the numbers of nodes of two kinds -/
def colT : Tm → Int → Int → List Int
  | .mk k n l, a, b => (if k = a ∨ k = b then [n] else []) ++ colL l a b
def colL : List Tm → Int → Int → List Int
  | [], _, _ => []
  | t :: l, a, b => colT t a b ++ colL l a b
end
end Go.Ab

namespace Go.Ab
open Go Go.RowKit

/-- a call of a function without a body -/
theorem CallOk.extern {P : Program} {f : FuncId} {args : List AV} {la : LA}
    (h : ∀ (G : Gh) (σ : ASt) (w : World) (cargs : Array Value), RelS G σ w → VL G w args cargs.toList → la.can σ →
      ∃ u w' G', (callFunc f cargs).run P w = .ok (.value u) w' ∧ Ext G w G' w' ∧ RelS G' (la.app σ) w' ∧ V G' w' la.v u) : CallOk P f args la := by
  intro dst type pos after guard g cargs argTypes first caps ev hg hargs
  subst hargs
  refine OpOk.value (la := { la with ev := ev }) fun G σ w a hR hx hc => ?_
  have hgx := hx g (by simp [Op.operands, Call.operands])
  have hg' : (LA.ev { la with ev := ev }) g = .clo f first caps := hg
  rw [hg'] at hgx
  simp only [V] at hgx
  obtain ⟨l, r, hge, hl, hr⟩ := hgx
  have hargs : VL G w (cargs.toList.map ev) (cargs.toList.map a.eval) := VL.mapv _ fun p hp => hx p (by simp [Op.operands, Call.operands]; exact .inr (by simpa using hp))
  obtain ⟨u, w', G', h1, h2, h3, h4⟩ := h G σ w (l.toArray ++ cargs.map a.eval ++ r.toArray) hR (by
    have := VL.append _ _ _ _ (VL.append _ _ _ _ hl hargs) hr
    simpa using this) ⟨hc.rd, hc.wr, hc.al, hc.use, hc.ns, hc.hole⟩
  refine ⟨u, w', G', ?_, h2, h3, h4⟩
  simp only [execOp, resolve, hge, Deferred.ofValue, Sem.run_bind, Sem.run_pure, Result.andThen_ok, invoke, h1]

theorem set_row {cur : Array Value} {off : Nat} {v : Value} : cur.setIfInBounds off v = (cur.toList.set off v).toArray := by
  apply Array.ext'
  simp

/-- what stands at a place of a block -/
theorem at_cell {G : Gh} {σ : ASt} {w : World} (hR : RelS G σ w) {i off : Nat} {cs : List AV} (hX : σ.H i = some (.cells cs)) {a : AV} (ha : cs[off]? = some a) {u : Value} (hu : V G w (.mp i off) u) :
    ∃ b vs T x, G.ρ i = some b ∧ u = .pointer (some ⟨b, off, none⟩) ∧ w.heap[b]? = some (.cells vs T (0, 0)) ∧ VLp G w cs vs.toList ∧ w.cell? ⟨b, off, none⟩ = some x ∧ w.frozen? ⟨b, off, none⟩ = false ∧ V G w a x := by
  obtain ⟨b, hb, _, hblk⟩ := hR.look hX
  obtain ⟨vs, T, hh, hl⟩ := hblk
  simp only [V] at hu
  obtain ⟨b', hb', rfl⟩ := hu
  rw [hb] at hb'; cases hb'
  obtain ⟨x, hx, hv⟩ := hl.get off a ha
  refine ⟨b, vs, T, x, hb, rfl, hh, hl, ?_, ?_, hv⟩
  · simp only [World.cell?, hh]; simpa using hx
  · simp [World.frozen?, hh]

theorem list_two {G : Gh} {w : World} {a b : AV} {l : Array Value} (h : VL G w [a, b] l.toList) : ∃ u v, l = #[u, v] ∧ V G w a u ∧ V G w b v := by
  obtain ⟨l⟩ := l
  match l, h with
  | [], h => simp only [VL] at h
  | [_], h => simp only [VL, and_false] at h
  | [u, v], h => simp only [VL, and_true] at h; exact ⟨u, v, rfl, h⟩
  | _ :: _ :: _ :: _, h => simp only [VL, and_false] at h

theorem list_one {G : Gh} {w : World} {a : AV} {l : Array Value} (h : VL G w [a] l.toList) : ∃ u, l = #[u] ∧ V G w a u := by
  obtain ⟨l⟩ := l
  match l, h with
  | [], h => simp only [VL] at h
  | [u], h => simp only [VL, and_true] at h; exact ⟨u, rfl, h⟩
  | _ :: _ :: _, h => simp only [VL, and_false] at h

def storeLA (i off : Nat) (cs : List AV) (v : Value) : LA := { ev := fun _ => .val undef, wr := [(i, .cells cs, .cells (cs.set off (.val v)))], v := .tup [] }
def loadLA (i : Nat) (cs : List AV) (v : AV) : LA := { ev := fun _ => .val undef, rd := [(i, .cells cs)], v := v }
def addLA (i off : Nat) (cs : List AV) (v : Value) : LA := { ev := fun _ => .val undef, wr := [(i, .cells cs, .cells (cs.set off (.val v)))], v := .val v }

theorem at_set {G : Gh} {σ : ASt} {w : World} (hR : RelS G σ w) {i off b : Nat} {cs : List AV} {vs : Array Value} {T : TypeId} (hb : G.ρ i = some b) (hh : w.heap[b]? = some (.cells vs T (0, 0))) (hl : VLp G w cs vs.toList) (hi : off < cs.length) (hX : σ.H i = some (.cells cs)) (v : Value) :
    Ext G w G (w.setCell ⟨b, off, none⟩ v) ∧ RelS G ⟨up σ.H i (.cells (cs.set off (.val v))), σ.own, σ.ns⟩ (w.setCell ⟨b, off, none⟩ v) := by
  have e : w.setCell ⟨b, off, none⟩ v = w.setRow b (vs.toList.set off v).toArray := by
    have := setCell_eq_setRow w b off vs T (0, 0) v hh
    rw [this, set_row]
  rw [e]
  exact ⟨Ext.setRow hR hb _ (fun o T' e => by rw [hh] at e; cases e; simp), hR.setRow hb (by rw [hX]; simp) _ _ (by simp) hh (hl.set off hi _ _ (by simp [V]))⟩

section
variable {P : Program} {f : FuncId} {fn : Func} (hf : P.funcs[f]? = some fn) (hname : (fn.name == "runtime.NumGoroutine") = false) (hb : fn.body.isNone = true) (hn : Extern.findNext fn = none)
include hf hname hb hn

theorem store_call (he : Extern.find fn = some Extern.Atomic.storeT) {i off : Nat} {k : IntKind} {y : Int} {cs : List AV} {a : AV} (ha : cs[off]? = some a) :
    CallOk P f [.mp i off, .val (.int k y)] (storeLA i off cs (.int k y)) := by
  refine CallOk.extern fun G σ w cargs hR hv hc => ?_
  obtain ⟨u1, u2, rfl, h1, h2⟩ := list_two hv
  simp only [V] at h2
  subst h2
  have hX := hc.wr _ _ _ (List.mem_singleton.2 rfl)
  obtain ⟨b, vs, T, x, hbb, rfl, hh, hl, hcell, hfr, _⟩ := at_cell hR hX ha h1
  obtain ⟨hE, hR'⟩ := at_set hR (off := off) hbb hh hl (List.getElem?_eq_some_iff.1 ha).1 hX (.int k y)
  refine ⟨_, _, G, run_call_store hf hname hb hn he hcell hfr, hE, ?_, by simp only [storeLA, V]; exact ⟨[], rfl, by simp [VL]⟩⟩
  rw [storeLA, app_wr]; exact hR'

theorem load_call (k : IntKind) (he : Extern.find fn = some (Extern.Atomic.loadT (.int k))) {i off : Nat} {x : Int} {cs : List AV} (ha : cs[off]? = some (.val (.int k x))) :
    CallOk P f [.mp i off] (loadLA i cs (.val (.int k x))) := by
  refine CallOk.extern fun G σ w cargs hR hv hc => ?_
  obtain ⟨u1, rfl, h1⟩ := list_one hv
  have hX := hc.rd _ _ (List.mem_singleton.2 rfl)
  obtain ⟨b, vs, T, x', hbb, rfl, hh, hl, hcell, hfr, hx⟩ := at_cell hR hX ha h1
  simp only [V] at hx
  subst hx
  refine ⟨_, w, G, run_call_load hf hname hb hn k he hcell, Ext.refl G w, ?_, by simp [loadLA, V]⟩
  show RelS G ((ASt.mk σ.H σ.own σ.ns).stamps [] 0) w
  rw [ASt.stamps_zero]
  exact hR

theorem add_call (k : IntKind) (he : Extern.find fn = some (Extern.Atomic.update (Op.intArith .add) k true)) {i off : Nat} {x y s : Int} {cs : List AV} (ha : cs[off]? = some (.val (.int k x)))
    (hs : ∀ w, (Op.intArith .add k x y).run P w = .ok (.int k s) w) :
    CallOk P f [.mp i off, .val (.int k y)] (addLA i off cs (.int k s)) := by
  refine CallOk.extern fun G σ w cargs hR hv hc => ?_
  obtain ⟨u1, u2, rfl, h1, h2⟩ := list_two hv
  simp only [V] at h2
  subst h2
  have hX := hc.wr _ _ _ (List.mem_singleton.2 rfl)
  obtain ⟨b, vs, T, x', hbb, rfl, hh, hl, hcell, hfr, hx⟩ := at_cell hR hX ha h1
  simp only [V] at hx
  subst hx
  obtain ⟨hE, hR'⟩ := at_set hR (off := off) hbb hh hl (List.getElem?_eq_some_iff.1 ha).1 hX (.int k s)
  refine ⟨_, _, G, run_call_add hf hname hb hn k he hcell hfr (hs w), hE, ?_, by simp [addLA, V]⟩
  rw [addLA, app_wr]; exact hR'
end

/- arguments -/
theorem row3 {P : Program} {W : World} {base : Nat} {t t1 t2 t3 : TypeId} {cs : Array Value} (ht : P.cellTypes P.depth t = some [t1, t2, t3]) (hs : cs.size = 3) (h : Row.okWide P W .any base t cs) :
    ∃ a b c, cs = #[a, b, c] ∧ Cell.okWide P W .any base t1 a ∧ Cell.okWide P W .any base t2 b ∧ Cell.okWide P W .any base t3 c := by
  obtain ⟨ts, hts, _, hc⟩ := h
  rw [ht] at hts
  cases hts
  obtain ⟨cs⟩ := cs
  match cs, hs with
  | [a, b, c], _ =>
    obtain ⟨u, hu, ha⟩ := hc 0 a (by simp)
    obtain ⟨u', hu', hb⟩ := hc 1 b (by simp)
    obtain ⟨u'', hu'', hd⟩ := hc 2 c (by simp)
    simp at hu hu' hu''
    subst hu hu' hu''
    exact ⟨a, b, c, rfl, ha, hb, hd⟩

theorem okWide_row {P : Program} {W : World} {base : Nat} {t : TypeId} {fs : Array Field} {v : Value} (ht : P.underlying t = some (.struct fs)) (h : Value.okWide P W .any base t v) : ∃ cs, v = .agg cs ∧ cs.size = P.cellsOf t ∧ Row.okWide P W .any base t cs := by
  simp only [Value.okWide, ht] at h
  exact h

theorem okCell_int {P : Program} {W : World} {base : Nat} {t : TypeId} {k : IntKind} {v : Value} (ht : P.underlying t = some (.int k)) (h : Cell.okWide P W .any base t v) : ∃ n, v = .int k n := by
  simp only [Cell.okWide, Cell.ok, ht] at h
  cases v <;> simp_all

theorem okCell_slice {P : Program} {W : World} {base : Nat} {t e : TypeId} {v : Value} (ht : P.underlying t = some (.slice e)) (h : Cell.okWide P W .any base t v) : ∃ p m c, v = .slice p m c := by
  simp only [Cell.okWide, Cell.ok, ht] at h
  cases v <;> simp_all

theorem open3 {P : Program} {W : World} {base : Nat} {t t1 t2 t3 e : TypeId} {k1 k2 : IntKind} {fs : Array Field} {v : Value} (ht : P.underlying t = some (.struct fs)) (hts : P.cellTypes P.depth t = some [t1, t2, t3]) (hsz : P.cellsOf t = 3)
    (h1 : P.underlying t1 = some (.int k1)) (h2 : P.underlying t2 = some (.int k2)) (h3 : P.underlying t3 = some (.slice e)) (h : Value.okWide P W .any base t v) :
    ∃ (k n : Int) (p : Option Addr) (m c : Nat), v = .agg #[.int k1 k, .int k2 n, .slice p m c] := by
  obtain ⟨cs, rfl, hs, hr⟩ := okWide_row ht h
  obtain ⟨x, y, z, rfl, q1, q2, q3⟩ := row3 hts (hs.trans hsz) hr
  obtain ⟨k, rfl⟩ := okCell_int h1 q1
  obtain ⟨n, rfl⟩ := okCell_int h2 q2
  obtain ⟨p, m, c, rfl⟩ := okCell_slice h3 q3
  exact ⟨k, n, p, m, c, rfl⟩

theorem trod_bool {H : Type} {enc : TypeId × Value → H} {P : Program} {W : World} {n : Nat} {sp : Nat → Bool} {hd : Bool} {t : TypeId} (ht : P.underlying t = some .bool) (b : Bool) : DataW.Trod enc P W n sp hd t (.bool b) (.lit (.bool b)) [] :=
  ⟨1, by simp [DataW.trod, Value.cells, ht]⟩

end Go.Ab

namespace Go.Proofs.YteiddempdecleaaGreat
open Go.Ab Go.ChangeShapes Go.WideShapes Go.ChangeAt Go.RowKit

/-- sync/atomic's three words, at this program's numbers. -/
def prim (f : FuncId) (args : List AV) (s : LSt) : Option LA :=
  bif Nat.beq f 175 then
    match args with
    | [.mp i off, .val (.int k y)] => match Go.Ab.look s.H i with
      | some (.cells cs) => match cs[off]? with
        | some _ => some (storeLA i off cs (.int k y))
        | none => none
      | _ => none
    | _ => none
  else bif Nat.beq f 181 then
    match args with
    | [.mp i off] => match Go.Ab.look s.H i with
      | some (.cells cs) => match cs[off]? with
        | some (.val (.int .i64 x)) => some (loadLA i cs (.val (.int .i64 x)))
        | _ => none
      | _ => none
    | _ => none
  else bif Nat.beq f 296 then
    match args with
    | [.mp i off, .val (.int .i64 y)] => match Go.Ab.look s.H i with
      | some (.cells cs) => match cs[off]? with
        | some (.val (.int .i64 x)) => some (addLA i off cs (.int .i64 (IntKind.i64.wrap (x + y))))
        | _ => none
      | _ => none
    | _ => none
  else none

theorem prim_ok : CallsOk Tryz.prog prim := by
  intro f args s la h
  unfold prim at h
  cases h1 : Nat.beq f 175 with
  | true =>
    have := Nat.eq_of_beq_eq_true h1
    subst this
    simp only [h1, cond_true] at h
    split at h
    · split at h
      · rename_i hl
        split at h
        · rename_i ha
          cases h
          exact ⟨⟨fun i X h => by simp [storeLA] at h, fun i A B h => by simp [storeLA] at h; obtain ⟨rfl, rfl, _⟩ := h; exact hl, fun i X h => by simp [storeLA] at h, fun h => by simp [storeLA] at h, fun k h => by simp [storeLA] at h, fun h => by simp [storeLA] at h⟩,
            store_call Tryz.func175 (by kernel_rfl) (by kernel_rfl) (by kernel_rfl) (by kernel_rfl) ha⟩
        · cases h
      · cases h
    · cases h
  | false =>
    simp only [h1, cond_false] at h
    cases h2 : Nat.beq f 181 with
    | true =>
      have := Nat.eq_of_beq_eq_true h2
      subst this
      simp only [h2, cond_true] at h
      split at h
      · split at h
        · rename_i hl
          split at h
          · rename_i ha
            cases h
            exact ⟨⟨fun i X h => by simp [loadLA] at h; obtain ⟨rfl, rfl⟩ := h; exact hl, fun i A B h => by simp [loadLA] at h, fun i X h => by simp [loadLA] at h, fun h => by simp [loadLA] at h, fun k h => by simp [loadLA] at h, fun h => by simp [loadLA] at h⟩,
              load_call Tryz.func181 (by kernel_rfl) (by kernel_rfl) (by kernel_rfl) .i64 (by kernel_rfl) ha⟩
          · cases h
        · cases h
      · cases h
    | false =>
      simp only [h2, cond_false] at h
      cases h3 : Nat.beq f 296 with
      | true =>
        have := Nat.eq_of_beq_eq_true h3
        subst this
        simp only [h3, cond_true] at h
        split at h
        · split at h
          · rename_i hl
            split at h
            · rename_i ha
              cases h
              exact ⟨⟨fun i X h => by simp [addLA] at h, fun i A B h => by simp [addLA] at h; obtain ⟨rfl, rfl, _⟩ := h; exact hl, fun i X h => by simp [addLA] at h, fun h => by simp [addLA] at h, fun k h => by simp [addLA] at h, fun h => by simp [addLA] at h⟩,
                add_call Tryz.func296 (by kernel_rfl) (by kernel_rfl) (by kernel_rfl) .i64 (by kernel_rfl) ha (fun w => by simp [Op.intArith])⟩
            · cases h
          · cases h
        · cases h
      | false => simp only [h3, cond_false] at h; cases h

theorem mixed : Tryz.prog.follows .mixedOrders = true := by kernel_rfl

def noGoB : List Func → Bool
  | [] => true
  | fn :: l => (fn.body.isNone || !(fn.name == "runtime.NumGoroutine")) && noGoB l

theorem noGo_mem : ∀ (l : List Func), noGoB l = true → ∀ fn ∈ l, fn.body.isNone = false → (fn.name == "runtime.NumGoroutine") = false
  | [], _, fn, h, _ => by cases h
  | g :: l, hb, fn, h, hn => by
    simp only [noGoB, Bool.and_eq_true] at hb
    rcases List.mem_cons.1 h with rfl | h
    · have := hb.1
      rw [hn] at this
      simpa using this
    · exact noGo_mem l hb.2 fn h hn

theorem noGo : noGoB Tryz.prog.funcs.toList = true := by kernel_rfl

theorem hng (f : FuncId) (fn : Func) (h : Tryz.prog.funcs[f]? = some fn) (hb : fn.body.isNone = false) : (fn.name == "runtime.NumGoroutine") = false :=
  noGo_mem _ noGo fn (by rw [Array.mem_toList_iff]; exact Array.mem_of_getElem? h) hb

theorem own : ownKnob Tryz.prog.godebug = none := by kernel_rfl
theorem laidOut : laidOutB Tryz.prog = true := by kernel_rfl

/-- The cells of a Term, whatever it is. -/
theorem termTypes : Tryz.prog.cellTypes Tryz.prog.depth 27 = some [3, 3, 23] := by kernel_rfl
theorem termCells : Tryz.prog.cellsOf 27 = 3 := by kernel_rfl

set_option maxRecDepth 100000 in
theorem open_term {W : World} {base : Nat} {v : Value} : Value.okWide Tryz.prog W .any base 27 v → ∃ (k n : Int) (p : Option Addr) (m c : Nat), v = .agg #[.int .i64 k, .int .i64 n, .slice p m c] :=
  open3 Tryz.underlying27 termTypes termCells Tryz.underlying3 Tryz.underlying3 Tryz.underlying23

def termAV (k n : Int) (p : Option Addr) (m c : Nat) : AV := .agg [.val (.int .i64 k), .val (.int .i64 n), .val (.slice p m c)]

theorem shut_true {H : Type} {enc : TypeId × Value → H} {W : World} {n : Nat} {sp : Nat → Bool} {hd : Bool} : DataW.Trod enc Tryz.prog W n sp hd 4 (.bool true) (.lit (.bool true)) [] := trod_bool Tryz.underlying4 true

end Go.Proofs.YteiddempdecleaaGreat
