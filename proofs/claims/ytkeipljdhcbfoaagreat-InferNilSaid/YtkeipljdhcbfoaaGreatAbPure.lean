/- THE OPERATIONS THAT TOUCH NOTHING. -/
import Derived.Test.YtkeipljdhcbfoaaGreatAbOp
import Derived.Laws.Slices
import Derived.Laws.Append
import Derived.Laws.AppendOwn
import Derived.ChangeKeysEq
namespace Go.Ab
open Go Go.RowKit

def isAggD : TypeDesc → Bool
  | .struct _ | .array _ _ => true
  | _ => false

/-- of a type: is it of several cells, and how many are there? -/
def tsz (P : Program) (t : TypeId) : Option (Bool × Nat) :=
  match P.underlying t, P.info? t with
  | some d, some i => some (isAggD d, i.size)
  | _, _ => none

theorem run_isAgg {P : Program} {t : TypeId} {d : TypeDesc} (h : P.underlying t = some d) (w : World) : (isAgg t).run P w = .ok (isAggD d) w := by
  unfold isAgg
  simp only [Sem.run_bind, run_underlying h, Result.andThen_ok]
  cases d <;> rfl

theorem run_sizeOf' {P : Program} {t : TypeId} {i : TypeInfo} (h : P.info? t = some i) (w : World) : (sizeOf t).run P w = .ok i.size w := by
  simp [sizeOf, typeInfo, h]

theorem run_zeroValue' {P : Program} {t : TypeId} {i : TypeInfo} {z : Value} (h : P.info? t = some i) (hz : i.zero = some z) (w : World) : (zeroValue t).run P w = .ok z w := by
  simp [zeroValue, typeInfo, h, hz]

/-- a part of a row of cells, by its type -/
def part1 (q : Bool × Nat) (cs : List AV) : Option AV :=
  match q with
  | (true, n) => bif Nat.ble n cs.length then some (.agg (cs.take n)) else none
  | (false, _) => match cs with | c :: _ => some c | [] => none

/-- a part of a row is replaced -/
def splice (cs : List AV) (off : Nat) (news : List AV) : List AV := cs.take off ++ news ++ cs.drop (off + news.length)

/- fill -/
theorem foldl_set_list : ∀ (l : List Value) (off j : Nat) (cs : Array Value), off + j + l.length ≤ cs.size →
    ((l.zipIdx j).foldl (fun cs (x : Value × Nat) => cs.setIfInBounds (off + x.2) x.1) cs).toList = cs.toList.take (off + j) ++ l ++ cs.toList.drop (off + j + l.length)
  | [], off, j, cs, _ => by simp
  | v :: l, off, j, cs, h => by
    simp only [List.zipIdx_cons, List.foldl_cons]
    rw [foldl_set_list l off (j + 1) _ (by simp at h ⊢; omega)]
    have e := list_seg_step cs.toList (off + j) v l (by simp at h ⊢; omega)
    simpa [Array.toList_setIfInBounds, Nat.add_assoc] using e

def afill (place : Nat → Option (Nat × Nat)) (cells : List AV) : List (Nat × AV) → Option (List AV)
  | [] => some cells
  | (i, v) :: rest =>
    match place i with
    | none => none
    | some (off, size) =>
      bif v.sound && Nat.beq (acells v).length size && Nat.ble (off + size) cells.length then afill place (splice cells off (acells v)) rest else none

theorem VL.splice {G : Gh} {w : World} {cs : List AV} {vs : List Value} {news : List AV} {nvs : List Value} (h : VL G w cs vs) (hn : VL G w news nvs) (off : Nat) :
    VL G w (splice cs off news) (vs.take off ++ nvs ++ vs.drop (off + nvs.length)) := by
  unfold Ab.splice
  rw [VL.length _ _ hn]
  exact VL.append _ _ _ _ (VL.append _ _ _ _ (VL.take _ _ _ h) hn) (VL.drop _ _ _ h)

theorem VLp.splice {G : Gh} {w : World} {cs : List AV} {l : List Value} {news : List AV} {nvs : List Value} (h : VLp G w cs l) (hn : VL G w news nvs) (off : Nat) (hb : off + news.length ≤ cs.length) :
    VLp G w (Ab.splice cs off news) (l.take off ++ nvs ++ l.drop (off + nvs.length)) := by
  obtain ⟨us, rest, rfl, hv⟩ := h
  have h1 := VL.length _ _ hv
  have h2 := VL.length _ _ hn
  refine ⟨us.take off ++ nvs ++ us.drop (off + nvs.length), rest, ?_, VL.splice hv hn off⟩
  rw [List.take_append_of_le_length (by omega), List.drop_append_of_le_length (by omega)]
  simp only [List.append_assoc]

inductive VP (G : Gh) (w : World) : List (Nat × AV) → List (Nat × Value) → Prop
  | nil : VP G w [] []
  | cons {i : Nat} {a : AV} {u : Value} {as : List (Nat × AV)} {us : List (Nat × Value)} : V G w a u → VP G w as us → VP G w ((i, a) :: as) ((i, u) :: us)

theorem afill_ok {G : Gh} {w : World} {place : Nat → Option (Nat × Nat)} : ∀ (parts : List (Nat × AV)) (parts' : List (Nat × Value)) (cells : List AV) (cells' : Array Value) (r : List AV),
    VP G w parts parts' → VL G w cells cells'.toList → afill place cells parts = some r → ∃ r', Instr.fill place cells' parts' = some r' ∧ VL G w r r'.toList
  | [], _, cells, cells', r, hp, hc, h => by
    cases hp
    simp only [afill, Option.some.injEq] at h; subst h
    exact ⟨cells', rfl, hc⟩
  | (i, a) :: rest, _, cells, cells', r, hp, hc, h => by
    cases hp with
    | cons ha hr =>
      rename_i u us
      simp only [afill] at h
      cases hpl : place i with
      | none => simp [hpl] at h
      | some q =>
        obtain ⟨off, size⟩ := q
        simp only [hpl] at h
        cases hcond : (a.sound && Nat.beq (acells a).length size && Nat.ble (off + size) cells.length) with
        | false => simp [hcond] at h
        | true =>
          simp only [hcond, cond_true] at h
          simp only [Bool.and_eq_true, Nat.ble_eq] at hcond
          obtain ⟨⟨h1, h2⟩, h3⟩ := hcond
          replace h2 := Nat.eq_of_beq_eq_true h2
          obtain ⟨hcs, _⟩ := ha.cells h1
          have l1 := VL.length _ _ hcs
          have l2 := VL.length _ _ hc
          have hlen : u.cells.size = size := by rw [← h2, ← l1]; simp
          have hsz : cells'.size = cells.length := by rw [← l2]; simp
          have hfold : (u.cells.zipIdx.foldl (fun cs (x : Value × Nat) => cs.setIfInBounds (off + x.2) x.1) cells').toList = cells'.toList.take off ++ u.cells.toList ++ cells'.toList.drop (off + u.cells.toList.length) := by
            have := foldl_set_list u.cells.toList off 0 cells' (by simp; omega)
            simp only [Nat.add_zero] at this
            rw [← this, ← Array.foldl_toList, Array.toList_zipIdx]
          have hvl := VL.splice hc hcs off
          rw [← hfold] at hvl
          obtain ⟨r', hr', hv⟩ := afill_ok rest us _ _ r hr hvl h
          refine ⟨r', ?_, hv⟩
          simp only [Instr.fill, hpl]
          rw [if_neg]
          · exact hr'
          · simp [hlen, hsz, h3]

/-- the places of a struct's fields, an array's elements -/
def aplaces (P : Program) (t : TypeId) : Option (Nat → Option (Nat × Nat)) :=
  match P.underlying t with
  | some (.array _ e) => (P.info? e).map fun ie => fun i => some (i * ie.size, ie.size)
  | some (.struct fields) => (fields.toList.mapM (fun f => (P.info? f.type).map fun i => (f.offset, i.size))).map fun places => (places.toArray[·]?)
  | _ => none

def abuild (P : Program) (t : TypeId) (parts : List (Nat × AV)) : Option AV :=
  match P.info? t, aplaces P t with
  | some it, some pl => match it.zero with
    | some z => (afill pl (z.cells.toList.map (ofV 8)) parts).map .agg
    | none => none
  | _, _ => none

theorem abuild_ok {G : Gh} {w : World} {P : Program} {t : TypeId} {parts : List (Nat × AV)} {parts' : Array (Nat × Value)} {r : AV} (hp : VP G w parts parts'.toList) (h : abuild P t parts = some r) :
    ∃ u, (Instr.build t parts').run P w = .ok u w ∧ V G w r u := by
  unfold abuild at h
  cases hi : P.info? t with
  | none => simp [hi] at h
  | some it =>
    cases hpl : aplaces P t with
    | none => simp [hi, hpl] at h
    | some pl =>
      simp only [hi, hpl] at h
      cases hz : it.zero with
      | none => simp [hz] at h
      | some z =>
        simp only [hz, Option.map_eq_some_iff] at h
        obtain ⟨cs, hf, rfl⟩ := h
        obtain ⟨r', hr', hv⟩ := afill_ok parts parts'.toList _ z.cells cs hp (VL.map_ofV (V.ofV 8) _) hf
        refine ⟨.agg r', run_build w t parts' r' ?_, by simp only [V]; exact ⟨r'.toList, by simp, hv⟩⟩
        unfold aplaces at hpl
        unfold Program.built
        cases hu : P.underlying t with
        | none => simp [hu] at hpl
        | some d =>
          simp only [hu] at hpl
          cases d <;> simp only [reduceCtorEq] at hpl
          case array n e =>
            cases hie : P.info? e with
            | none => simp [hie] at hpl
            | some ie => simp only [hie, Option.map_some, Option.some.injEq] at hpl; subst hpl; simp [hi, hz, hie, hr']
          case struct fs =>
            cases hm : fs.toList.mapM (fun f => (P.info? f.type).map fun i => (f.offset, i.size)) with
            | none => simp [hm] at hpl
            | some pls => simp only [hm, Option.map_some, Option.some.injEq] at hpl; subst hpl; simp only [hi, hz, hm]; exact hr'

end Go.Ab
