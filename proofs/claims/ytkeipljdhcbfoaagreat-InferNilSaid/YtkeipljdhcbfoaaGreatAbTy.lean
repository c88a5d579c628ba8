/- TERMS, ENTRIES AND LISTS as data of their own, and how they lie in cells. -/
import Derived.Test.YtkeipljdhcbfoaaGreatAbK
namespace Go.Ab
open Go Go.RowKit

abbrev ai (x : Int) : AV := .val (.int .i64 x)
abbrev ab (b : Bool) : AV := .val (.bool b)
abbrev at' (s : ByteArray) : AV := .val (.string s)
abbrev w64 (x : Int) : Int := IntKind.i64.wrap x
abbrev imax (a b : Int) : Int := if b > a then b else a
abbrev imin (a b : Int) : Int := if b < a then b else a

def flat {α : Type} (c : α → List AV) (l : List α) : List AV := l.flatMap c

inductive Tm where
  | mk (k n : Int) (sub : List Tm)

instance : Inhabited Tm := ⟨.mk 0 0 []⟩
def Tm.k : Tm → Int | .mk k _ _ => k
def Tm.n : Tm → Int | .mk _ n _ => n
def Tm.sub : Tm → List Tm | .mk _ _ l => l

theorem Tm.eta (t : Tm) : Tm.mk t.k t.n t.sub = t := by cases t; rfl

mutual
def tmCells : Tm → List AV
  | .mk k n l => [ai k, ai n, .sl (tmsCells l) l.length .no]
def tmsCells : List Tm → List AV
  | [] => []
  | t :: l => tmCells t ++ tmsCells l
end

theorem tms_flat : ∀ l : List Tm, tmsCells l = flat tmCells l
  | [] => rfl
  | t :: l => by simp only [tmsCells, tms_flat l, flat, List.flatMap_cons]

def tmL (t : Tm) : List AV := [ai t.k, ai t.n, .sl (flat tmCells t.sub) t.sub.length .no]
theorem tm_eq (t : Tm) : tmCells t = tmL t := by
  cases t; simp only [tmCells, tmL, Tm.k, Tm.n, Tm.sub, tms_flat]
def tmA (t : Tm) : AV := .agg (tmL t)
def intC (x : Int) : List AV := [ai x]
/-- bytes -/
abbrev U8 := Int
def u8C (x : U8) : List AV := [.val (.int .u8 x)]
def strC (s : ByteArray) : List AV := [at' s]

structure Ent where
  kind : Int
  name : ByteArray
  type : Tm
  body : Tm
  fam : Int
  place : Int
  pars : Int
  inds : Int
  level : Int
  cons : List Int
  fields : List Int
instance : Inhabited Ent := ⟨⟨0, ⟨#[]⟩, default, default, 0, 0, 0, 0, 0, [], []⟩⟩

def entL (e : Ent) : List AV :=
  [ai e.kind, at' e.name, ai e.type.k, ai e.type.n, .sl (flat tmCells e.type.sub) e.type.sub.length .no, ai e.body.k, ai e.body.n, .sl (flat tmCells e.body.sub) e.body.sub.length .no,
   ai e.fam, ai e.place, ai e.pars, ai e.inds, ai e.level, .sl (flat intC e.cons) e.cons.length .no, .sl (flat intC e.fields) e.fields.length .no]
def entA (e : Ent) : AV := .agg (entL e)

structure Rec' where
  is : Bool
  around : List Tm
  at' : List Tm
instance : Inhabited Rec' := ⟨⟨false, [], []⟩⟩
def recL (r : Rec') : List AV := [ab r.is, .sl (flat tmCells r.around) r.around.length .no, .sl (flat tmCells r.at') r.at'.length .no]
def recA (r : Rec') : AV := .agg (recL r)

structure Con' where
  args : List Tm
  inds : List Tm
  recs : List Rec'
instance : Inhabited Con' := ⟨⟨[], [], []⟩⟩
def conL (c : Con') : List AV := [.sl (flat tmCells c.args) c.args.length .no, .sl (flat tmCells c.inds) c.inds.length .no, .sl (flat recL c.recs) c.recs.length .no]
def conA (c : Con') : AV := .agg (conL c)

/-- a machine: its signature, its rules' signature and parts, its numbers -/
structure Mach where
  l : List Ent
  rl : List Ent
  parts : List Con'
  args : List Int
  own : List Int
instance : Inhabited Mach := ⟨⟨[], [], [], [], []⟩⟩

structure Got where
  t : Tm
  left : Int
  did : Bool
  e : Int
instance : Inhabited Got := ⟨⟨default, 0, false, 0⟩⟩
def gotL (g : Got) : List AV := [ai g.t.k, ai g.t.n, .sl (flat tmCells g.t.sub) g.t.sub.length .no, ai g.left, ab g.did, ai g.e]
def gotA (g : Got) : AV := .agg (gotL g)

structure Case' where
  D : Int
  Level : Int
  C : Int
instance : Inhabited Case' := ⟨⟨0, 0, 0⟩⟩
def caseL (c : Case') : List AV := [ai c.D, ai c.Level, ai c.C]
def caseA (c : Case') : AV := .agg (caseL c)
structure Got9 where
  t : Tm
  long : Bool
instance : Inhabited Got9 := ⟨⟨default, false⟩⟩
def got9L (g : Got9) : List AV := [ai g.t.k, ai g.t.n, .sl (flat tmCells g.t.sub) g.t.sub.length .no, ab g.long]
def got9A (g : Got9) : AV := .agg (got9L g)
structure Two where
  a : List Tm
  b : List Tm
instance : Inhabited Two := ⟨⟨[], []⟩⟩
def twoL (g : Two) : List AV := [.sl (flat tmCells g.a) g.a.length .no, .sl (flat tmCells g.b) g.b.length .no]
def twoA (g : Two) : AV := .agg (twoL g)

/- what is needed of the cells of a type -/
structure Codec {α : Type} (c : α → List AV) (sz : Nat) : Prop where
  len : ∀ x, (c x).length = sz
  data : ∀ x, AV.DataL (c x)
  one : ∀ x, (c x).all AV.one = true

theorem DataL_append : ∀ {a b : List AV}, AV.DataL a → AV.DataL b → AV.DataL (a ++ b)
  | [], _, _, h => h
  | _ :: _, _, ⟨h1, h2⟩, h => ⟨h1, DataL_append h2 h⟩

theorem flat_data {α : Type} {c : α → List AV} (h : ∀ x, AV.DataL (c x)) : ∀ l : List α, AV.DataL (flat c l)
  | [] => trivial
  | x :: l => by rw [flat, List.flatMap_cons]; exact DataL_append (h x) (flat_data h l)

theorem flat_one {α : Type} {c : α → List AV} (h : ∀ x, (c x).all AV.one = true) : ∀ l : List α, (flat c l).all AV.one = true
  | [] => rfl
  | x :: l => by rw [flat, List.flatMap_cons, List.all_append, h x]; exact flat_one h l

theorem flat_len {α : Type} {c : α → List AV} {sz : Nat} (h : ∀ x, (c x).length = sz) : ∀ l : List α, (flat c l).length = l.length * sz
  | [] => by simp [flat]
  | x :: l => by
    have := flat_len h l
    unfold flat at this ⊢
    rw [List.flatMap_cons, List.length_append, h x, this, List.length_cons, Nat.succ_mul]; omega

theorem flat_drop {α : Type} {c : α → List AV} {sz : Nat} (h : ∀ x, (c x).length = sz) : ∀ (i : Nat) (l : List α), (flat c l).drop (i * sz) = flat c (l.drop i)
  | 0, l => by simp
  | i + 1, [] => by simp [flat]
  | i + 1, x :: l => by
    have := flat_drop h i l
    unfold flat at this ⊢
    rw [List.flatMap_cons, Nat.succ_mul, Nat.add_comm, ← List.drop_drop, List.drop_left' (h x), this, List.drop_succ_cons]

theorem flat_take {α : Type} {c : α → List AV} {sz : Nat} (h : ∀ x, (c x).length = sz) : ∀ (i : Nat) (l : List α), (flat c l).take (i * sz) = flat c (l.take i)
  | 0, l => by simp [flat]
  | i + 1, [] => by simp [flat]
  | i + 1, x :: l => by
    have := flat_take h i l
    unfold flat at this ⊢
    rw [List.take_succ_cons, List.flatMap_cons, List.flatMap_cons, Nat.succ_mul, Nat.add_comm, List.take_append, List.take_of_length_le (by rw [h x]; omega), h x, Nat.add_sub_cancel_left, this]

theorem flat_app {α : Type} {c : α → List AV} (l m : List α) : flat c l ++ flat c m = flat c (l ++ m) := by
  unfold flat; rw [List.flatMap_append]

mutual
theorem tm_data : ∀ t : Tm, AV.DataL (tmCells t)
  | .mk k n l => by rw [tmCells]; exact ⟨trivial, trivial, ⟨trivial, tms_data l⟩, trivial⟩
theorem tms_data : ∀ l : List Tm, AV.DataL (tmsCells l)
  | [] => trivial
  | t :: l => by rw [tmsCells]; exact DataL_append (tm_data t) (tms_data l)
end

theorem codecT : Codec tmCells 3 := ⟨fun x => by rw [tm_eq]; rfl, tm_data, fun x => by rw [tm_eq]; rfl⟩
theorem codecI : Codec intC 1 := ⟨fun _ => rfl, fun _ => ⟨trivial, trivial⟩, fun _ => rfl⟩
theorem codecU : Codec u8C 1 := ⟨fun _ => rfl, fun _ => ⟨trivial, trivial⟩, fun _ => rfl⟩
theorem codecS : Codec strC 1 := ⟨fun _ => rfl, fun _ => ⟨trivial, trivial⟩, fun _ => rfl⟩
theorem dT (l : List Tm) : AV.DataL (flat tmCells l) := flat_data codecT.data l
theorem dI (l : List Int) : AV.DataL (flat intC l) := flat_data codecI.data l
theorem dU (l : List U8) : AV.DataL (flat u8C l) := flat_data codecU.data l
theorem dS (l : List ByteArray) : AV.DataL (flat strC l) := flat_data codecS.data l
theorem codecE : Codec entL 15 := ⟨fun _ => rfl, fun x => ⟨trivial, trivial, trivial, trivial, ⟨trivial, dT _⟩, trivial, trivial, ⟨trivial, dT _⟩, trivial, trivial, trivial, trivial, trivial, ⟨trivial, dI _⟩, ⟨trivial, dI _⟩, trivial⟩, fun _ => rfl⟩
theorem codecR : Codec recL 3 := ⟨fun _ => rfl, fun _ => ⟨trivial, ⟨trivial, dT _⟩, ⟨trivial, dT _⟩, trivial⟩, fun _ => rfl⟩
theorem dR (l : List Rec') : AV.DataL (flat recL l) := flat_data codecR.data l
theorem codecC : Codec conL 3 := ⟨fun _ => rfl, fun _ => ⟨⟨trivial, dT _⟩, ⟨trivial, dT _⟩, ⟨trivial, dR _⟩, trivial⟩, fun _ => rfl⟩
theorem codecG9 : Codec got9L 4 := ⟨fun _ => rfl, fun _ => ⟨trivial, trivial, ⟨trivial, dT _⟩, trivial, trivial⟩, fun _ => rfl⟩
theorem dG9 (l : List Got9) : AV.DataL (flat got9L l) := flat_data codecG9.data l
theorem dE (l : List Ent) : AV.DataL (flat entL l) := flat_data codecE.data l
theorem dC (l : List Con') : AV.DataL (flat conL l) := flat_data codecC.data l

/- INDEX -/
def gidx {α : Type} (l : List α) (i : Int) : Option α := if 0 ≤ i then l[i.toNat]? else none

theorem gidx_spec {α : Type} {l : List α} {i : Int} {x : α} (h : gidx l i = some x) : 0 ≤ i ∧ i < l.length ∧ l[i.toNat]? = some x := by
  unfold gidx at h
  split at h
  · have := (List.getElem?_eq_some_iff.1 h).1
    exact ⟨by assumption, by omega, h⟩
  · cases h

theorem flat_at {α : Type} {c : α → List AV} {sz : Nat} (hc : ∀ x, (c x).length = sz) {l : List α} {i : Nat} {x : α} (h : l[i]? = some x) : (flat c l).drop (i * sz) = c x ++ flat c (l.drop (i + 1)) := by
  rw [flat_drop hc]
  obtain ⟨h1, h2⟩ := List.getElem?_eq_some_iff.1 h
  rw [List.drop_eq_getElem_cons h1, flat, List.flatMap_cons, h2]
  rfl

theorem ix_ok {P : Program} {α : Type} {c : α → List AV} {sz : Nat} (hc : Codec c sz) {t e : TypeId} {ie : TypeInfo} (ht : P.underlying t = some (.slice e)) (hi : P.info? e = some ie) (hs : ie.size = sz) {l : List α} {i : Int} {o : Own} {k : IntKind} {x : α} (h : gidx l i = some x) :
    aindexAddr P t (.sl (flat c l) l.length o) (.val (.int k i)) = some (.ip (c x ++ flat c (l.drop (i.toNat + 1)))) := by
  obtain ⟨h0, h1, h2⟩ := gidx_spec h
  subst hs
  unfold aindexAddr
  simp only [ht, hi]
  rw [if_pos ⟨h0, h1⟩, if_pos (by rw [flat_len hc.len]; simp), flat_at hc.len h2]

/-- an index into an array of ints -/
theorem ixArr_ok {P : Program} {t e n : Nat} {q : Bool × Nat} (ht : P.underlying t = some (.array n e)) (hi : tsz P e = some q) (hq : q = (false, 1)) {l : List Int} {i : Int} {k : IntKind} {x : Int} (hl : l.length = n) (h : gidx l i = some x) :
    aindex P t (.agg (flat intC l)) (.val (.int k i)) = some (ai x) := by
  obtain ⟨h0, h1, h2⟩ := gidx_spec h
  subst hq
  unfold aindex
  simp only [ht, hi]
  rw [if_pos ⟨h0, by omega⟩, flat_at codecI.len h2]
  rfl

/- PARTS -/
def gsl {α : Type} (l : List α) (a b : Int) : Option (List α) := if 0 ≤ a ∧ a ≤ b ∧ b ≤ l.length then some ((l.drop a.toNat).take (b - a).toNat) else none

theorem gsl_spec {α : Type} {l r : List α} {a b : Int} (h : gsl l a b = some r) : 0 ≤ a ∧ a ≤ b ∧ b ≤ l.length ∧ r = (l.drop a.toNat).take (b - a).toNat := by
  unfold gsl at h
  split at h
  · cases h; rename_i q; exact ⟨q.1, q.2.1, q.2.2, rfl⟩
  · cases h

theorem slice_core {P : Program} {α : Type} {c : α → List AV} {sz : Nat} (hc : Codec c sz) {t e : TypeId} {ie : TypeInfo} (ht : P.underlying t = some (.slice e)) (hi : P.info? e = some ie) (hs : ie.size = sz) {l r : List α} {a b : Int} {lo hi' : Option AV}
    (h : gsl l a b = some r) (hlo : ∀ h, abound? h 0 lo = if 0 ≤ a ∧ a ≤ h then some a.toNat else none) (hhi : abound? l.length l.length hi' = if 0 ≤ b ∧ b ≤ l.length then some b.toNat else none) :
    aslice P t (.sl (flat c l) l.length .no) lo hi' none = some (.sl (flat c r) r.length .no) := by
  obtain ⟨h0, h1, h2, rfl⟩ := gsl_spec h
  subst hs
  have e1 : ((b - a).toNat) = b.toNat - a.toNat := by omega
  have hcut : Own.cut .no a.toNat (b.toNat - a.toNat) (Nat.beq b.toNat l.length) false = .no := by
    unfold Own.cut; simp
  unfold aslice
  simp only [ht, hi, amx, hhi]
  rw [if_pos ⟨by omega, h2⟩]
  simp only [hlo]
  rw [if_neg (by simp), if_pos ⟨h0, by omega⟩]
  simp only
  rw [if_pos (by rw [flat_len hc.len]; simp), flat_drop hc.len, flat_take hc.len, e1]
  have hl : ((l.drop a.toNat).take (b.toNat - a.toNat)).length = b.toNat - a.toNat := by simp; omega
  rw [hl, Bool.false_and, hcut]

theorem slice_ok {P : Program} {α : Type} {c : α → List AV} {sz : Nat} (hc : Codec c sz) {t e : TypeId} {ie : TypeInfo} (ht : P.underlying t = some (.slice e)) (hi : P.info? e = some ie) (hs : ie.size = sz) {l r : List α} {a b : Int} {k k' : IntKind}
    (h : gsl l a b = some r) : aslice P t (.sl (flat c l) l.length .no) (some (.val (.int k a))) (some (.val (.int k' b))) none = some (.sl (flat c r) r.length .no) :=
  slice_core hc ht hi hs h (fun h => rfl) rfl

theorem sliceFrom_ok {P : Program} {α : Type} {c : α → List AV} {sz : Nat} (hc : Codec c sz) {t e : TypeId} {ie : TypeInfo} (ht : P.underlying t = some (.slice e)) (hi : P.info? e = some ie) (hs : ie.size = sz) {l r : List α} {a : Int} {k : IntKind}
    (h : gsl l a l.length = some r) : aslice P t (.sl (flat c l) l.length .no) (some (.val (.int k a))) none none = some (.sl (flat c r) r.length .no) :=
  slice_core hc ht hi hs h (fun h => rfl) (by simp [abound?])

theorem sliceTo_ok {P : Program} {α : Type} {c : α → List AV} {sz : Nat} (hc : Codec c sz) {t e : TypeId} {ie : TypeInfo} (ht : P.underlying t = some (.slice e)) (hi : P.info? e = some ie) (hs : ie.size = sz) {l r : List α} {b : Int} {k : IntKind}
    (h : gsl l 0 b = some r) : aslice P t (.sl (flat c l) l.length .no) none (some (.val (.int k b))) none = some (.sl (flat c r) r.length .no) :=
  slice_core hc ht hi hs h (fun h => by simp [abound?]) rfl

theorem sliceO_core {P : Program} {α : Type} {c : α → List AV} {sz : Nat} (hc : Codec c sz) {t e : TypeId} {ie : TypeInfo} (ht : P.underlying t = some (.slice e)) (hi : P.info? e = some ie) (hs : ie.size = sz) {l r : List α} {a b : Int} {lo hi' : Option AV} {o : Own}
    (h : gsl l a b = some r) (hlo : ∀ h, abound? h 0 lo = if 0 ≤ a ∧ a ≤ h then some a.toNat else none) (hhi : abound? l.length l.length hi' = if 0 ≤ b ∧ b ≤ l.length then some b.toNat else none) :
    ∃ a0, aslice P t (.sl (flat c l) l.length o) lo hi' none = some a0 ∧ a0.frz = .sl (flat c r) r.length .no := by
  obtain ⟨h0, h1, h2, rfl⟩ := gsl_spec h
  subst hs
  have e1 : ((b - a).toNat) = b.toNat - a.toNat := by omega
  refine ⟨.sl (flat c ((l.drop a.toNat).take (b - a).toNat)) ((l.drop a.toNat).take (b - a).toNat).length (o.cut a.toNat (b.toNat - a.toNat) (Nat.beq b.toNat l.length) false), ?_, rfl⟩
  unfold aslice
  simp only [ht, hi, amx, hhi]
  rw [if_pos ⟨by omega, h2⟩]
  simp only [hlo]
  rw [if_neg (by simp), if_pos ⟨h0, by omega⟩]
  simp only
  rw [if_pos (by rw [flat_len hc.len]; simp), flat_drop hc.len, flat_take hc.len, e1]
  have hl : ((l.drop a.toNat).take (b.toNat - a.toNat)).length = b.toNat - a.toNat := by simp; omega
  rw [hl, Bool.false_and]

theorem sliceO_ok {P : Program} {α : Type} {c : α → List AV} {sz : Nat} (hc : Codec c sz) {t e : TypeId} {ie : TypeInfo} (ht : P.underlying t = some (.slice e)) (hi : P.info? e = some ie) (hs : ie.size = sz) {l r : List α} {a b : Int} {k k' : IntKind}
    {o : Own} (h : gsl l a b = some r) : ∃ a0, aslice P t (.sl (flat c l) l.length o) (some (.val (.int k a))) (some (.val (.int k' b))) none = some a0 ∧ a0.frz = .sl (flat c r) r.length .no :=
  sliceO_core hc ht hi hs h (fun h => rfl) rfl

theorem sliceFromO_ok {P : Program} {α : Type} {c : α → List AV} {sz : Nat} (hc : Codec c sz) {t e : TypeId} {ie : TypeInfo} (ht : P.underlying t = some (.slice e)) (hi : P.info? e = some ie) (hs : ie.size = sz) {l r : List α} {a : Int} {k : IntKind}
    {o : Own} (h : gsl l a l.length = some r) : ∃ a0, aslice P t (.sl (flat c l) l.length o) (some (.val (.int k a))) none none = some a0 ∧ a0.frz = .sl (flat c r) r.length .no :=
  sliceO_core hc ht hi hs h (fun h => rfl) (by simp [abound?])

theorem sliceToO_ok {P : Program} {α : Type} {c : α → List AV} {sz : Nat} (hc : Codec c sz) {t e : TypeId} {ie : TypeInfo} (ht : P.underlying t = some (.slice e)) (hi : P.info? e = some ie) (hs : ie.size = sz) {l r : List α} {b : Int} {k : IntKind}
    {o : Own} (h : gsl l 0 b = some r) : ∃ a0, aslice P t (.sl (flat c l) l.length o) none (some (.val (.int k b))) none = some a0 ∧ a0.frz = .sl (flat c r) r.length .no :=
  sliceO_core hc ht hi hs h (fun h => by simp [abound?]) rfl

/- APPEND -/
def gapp {α : Type} (B : Nat) (l m : List α) : Option (List α) := if (l.length + m.length) * B ≤ 140737488355328 then some (l ++ m) else none

theorem gapp_spec {α : Type} {B : Nat} {l m r : List α} (h : gapp B l m = some r) : (l.length + m.length) * B ≤ 140737488355328 ∧ r = l ++ m := by
  unfold gapp at h
  split at h
  · cases h; exact ⟨by assumption, rfl⟩
  · cases h

theorem app_core {P : Program} {α : Type} {c : α → List AV} {sz : Nat} (hc : Codec c sz) {t e : TypeId} {ie : TypeInfo} {z : Value} (ht : P.underlying t = some (.slice e)) (hi : P.info? e = some ie) (hs : ie.size = sz) (hz : ie.zero = some z) (hzs : z.cells.size = sz) (h1 : 1 ≤ sz) {B : Nat} (hb : ie.bytes = B) (hB : 1 ≤ B)
    {l m r : List α} (h : gapp B l m = some r) {o o2 : Own} {s : LSt} {ev : Operand → AV} :
    aappend P t t ev (.sl (flat c l) l.length o) (.sl (flat c m) m.length o2) s = bif Nat.beq m.length 0 then some { ev := ev, v := .sl (flat c l) l.length o }
          else
            match o with
            | .full => some { ev := ev, ns := s.ns, new := 1, v := .sl (flat c r) r.length (.st s.ns sz) }
            | .nl => some { ev := ev, ns := s.ns, new := 1, v := .sl (flat c r) r.length (.st s.ns sz) }
            | .st k sz' => bif s.own.any (Nat.beq k) && Nat.beq sz' sz then some { ev := ev, use := [k], ns := s.ns, new := 1, v := .sl (flat c r) r.length (.st s.ns sz) } else none
            | _ => none := by
  obtain ⟨h2, rfl⟩ := gapp_spec h
  subst hs
  subst hb
  unfold aappend
  simp only [ht, hi, hz]
  have h3 : l.length + m.length ≤ 4611686018427387904 := by
    have : (l.length + m.length) * 1 ≤ (l.length + m.length) * ie.bytes := Nat.mul_le_mul_left _ hB
    omega
  have hcond : (Nat.beq t t && Nat.beq (flat c l).length (l.length * ie.size) && Nat.beq (flat c m).length (m.length * ie.size) && Nat.ble 1 ie.size && Nat.beq z.cells.size ie.size && Nat.ble ((l.length + m.length) * ie.bytes) 140737488355328 && Nat.ble (l.length + m.length) 4611686018427387904 && (flat c m).all AV.one) = true := by
    simp only [Bool.and_eq_true]
    exact ⟨⟨⟨⟨⟨⟨⟨by simp, by rw [flat_len hc.len]; simp⟩, by rw [flat_len hc.len]; simp⟩, by simpa using h1⟩, by rw [hzs]; simp⟩, by simpa using h2⟩, by simpa using h3⟩, flat_one hc.one m⟩
  rw [hcond]
  simp only [cond_true, flat_app, List.length_append]
  cases o <;> rfl

/-- an append of something -/
theorem app_some {P : Program} {α : Type} {c : α → List AV} {sz : Nat} (hc : Codec c sz) {t e : TypeId} {ie : TypeInfo} {z : Value} (ht : P.underlying t = some (.slice e)) (hi : P.info? e = some ie) (hs : ie.size = sz) (hz : ie.zero = some z) (hzs : z.cells.size = sz) (h1 : 1 ≤ sz) {B : Nat} (hb : ie.bytes = B) (hB : 1 ≤ B)
    {l m r : List α} (h : gapp B l m = some r) (hm : m.length ≠ 0) : Ob.ok P (.app t t (flat c l) (flat c m) (flat c r) l.length m.length r.length sz false) := by
  intro ev s o o2
  rw [app_core hc ht hi hs hz hzs h1 hb hB h]
  cases hn : Nat.beq m.length 0 with
  | true => exact absurd (Nat.eq_of_beq_eq_true hn) hm
  | false => cases o <;> rfl

/-- an append of nothing -/
theorem app_none' {P : Program} {α : Type} {c : α → List AV} {sz : Nat} (hc : Codec c sz) {t e : TypeId} {ie : TypeInfo} {z : Value} (ht : P.underlying t = some (.slice e)) (hi : P.info? e = some ie) (hs : ie.size = sz) (hz : ie.zero = some z) (hzs : z.cells.size = sz) (h1 : 1 ≤ sz) {B : Nat} (hb : ie.bytes = B) (hB : 1 ≤ B)
    {l m r : List α} (h : gapp B l m = some r) (hm : m.length = 0) : Ob.ok P (.app t t (flat c l) (flat c m) (flat c r) l.length m.length r.length sz true) := by
  intro ev s o o2
  rw [app_core hc ht hi hs hz hzs h1 hb hB h]
  obtain ⟨_, rfl⟩ := gapp_spec h
  rw [List.length_eq_zero_iff.1 hm, List.append_nil]; rfl

theorem tmA_arg {p : Nat → Prop} (t : Tm) : (tmA t).arg p := ⟨trivial, trivial, ⟨trivial, dT _⟩, trivial⟩
theorem entA_arg {p : Nat → Prop} (e : Ent) : (entA e).arg p := ⟨trivial, trivial, trivial, trivial, ⟨trivial, dT _⟩, trivial, trivial, ⟨trivial, dT _⟩, trivial, trivial, trivial, trivial, trivial, ⟨trivial, dI _⟩, ⟨trivial, dI _⟩, trivial⟩
theorem recA_arg {p : Nat → Prop} (r : Rec') : (recA r).arg p := ⟨trivial, ⟨trivial, dT _⟩, ⟨trivial, dT _⟩, trivial⟩
theorem conA_arg {p : Nat → Prop} (c : Con') : (conA c).arg p := ⟨⟨trivial, dT _⟩, ⟨trivial, dT _⟩, ⟨trivial, dR _⟩, trivial⟩
theorem gotA_arg {p : Nat → Prop} (g : Got) : (gotA g).arg p := ⟨trivial, trivial, ⟨trivial, dT _⟩, trivial, trivial, trivial, trivial⟩
theorem sl_arg {p : Nat → Prop} {α : Type} {c : α → List AV} {sz : Nat} (hc : Codec c sz) (l : List α) {n : Nat} : (AV.sl (flat c l) n .no).arg p := ⟨trivial, flat_data hc.data l⟩
theorem tmA_fine {p : Nat → Prop} (t : Tm) : (tmA t).fine p := ⟨trivial, trivial, dT _, trivial⟩
theorem entA_fine {p : Nat → Prop} (e : Ent) : (entA e).fine p := ⟨trivial, trivial, trivial, trivial, dT _, trivial, trivial, dT _, trivial, trivial, trivial, trivial, trivial, dI _, dI _, trivial⟩
theorem recA_fine {p : Nat → Prop} (r : Rec') : (recA r).fine p := ⟨trivial, dT _, dT _, trivial⟩
theorem conA_fine {p : Nat → Prop} (c : Con') : (conA c).fine p := ⟨dT _, dT _, dR _, trivial⟩
theorem gotA_fine {p : Nat → Prop} (g : Got) : (gotA g).fine p := ⟨trivial, trivial, dT _, trivial, trivial, trivial, trivial⟩
theorem sl_fine {p : Nat → Prop} {α : Type} {c : α → List AV} {sz : Nat} (hc : Codec c sz) (l : List α) {n : Nat} {o : Own} : (AV.sl (flat c l) n o).fine p := flat_data hc.data l

end Go.Ab
