/- A RUN THAT ASKS: what a call, an index, a test comes to is given; what was given is listed, and is to be shown. -/
import Derived.Test.YtkeipljdhcbfoaaGreatAbCt
namespace Go.Ab
open Go Go.RowKit

mutual
/-- a value that owns nothing (what lies in slices stays as it is) -/
def AV.frz : AV → AV
  | .val v => .val v
  | .agg cs => .agg (AV.frzL cs)
  | .tup cs => .tup (AV.frzL cs)
  | .sl es n _ => .sl es n .no
  | .ip es => .ip es
  | .mp i off => .mp i off
  | .ms i off n => .ms i off n
  | .obj i => .obj i
  | .clo g fs cs => .clo g (AV.frzL fs) (AV.frzL cs)
def AV.frzL : List AV → List AV
  | [] => []
  | a :: l => AV.frz a :: AV.frzL l
end

theorem frzL_append : ∀ a b : List AV, AV.frzL (a ++ b) = AV.frzL a ++ AV.frzL b
  | [], _ => rfl
  | x :: a, b => by simp only [List.cons_append, AV.frzL, frzL_append a b]

theorem frzL_length : ∀ a : List AV, (AV.frzL a).length = a.length
  | [] => rfl
  | _ :: a => by simp [AV.frzL, frzL_length a]

theorem frzL_map {α : Type} (f : α → AV) : ∀ l : List α, AV.frzL (l.map f) = l.map fun x => (f x).frz
  | [] => rfl
  | x :: l => by simp only [List.map_cons, AV.frzL, frzL_map f l]

mutual
theorem V.frz {G : Gh} {w : World} : ∀ (a : AV) (u : Value), V G w a u → V G w a.frz u
  | .val v, u, hv => hv
  | .agg cs, u, hv => by
    simp only [V, AV.frz] at hv ⊢
    obtain ⟨vs, rfl, hl⟩ := hv
    exact ⟨vs, rfl, VL.frz cs vs hl⟩
  | .tup cs, u, hv => by
    simp only [V, AV.frz] at hv ⊢
    obtain ⟨vs, rfl, hl⟩ := hv
    exact ⟨vs, rfl, VL.frz cs vs hl⟩
  | .sl es n o, u, hv => by
    simp only [V, AV.frz] at hv ⊢
    obtain ⟨cap, hc, hh⟩ := hv
    refine ⟨cap, hc, ?_⟩
    rcases hh with ⟨rfl, h2, h3, h4, h5⟩ | ⟨b, off, hu, hcells, ho⟩
    · exact .inl ⟨rfl, h2, h3, h4, trivial⟩
    · exact .inr ⟨b, off, hu, hcells, trivial⟩
  | .ip es, u, hv => hv
  | .mp i off, u, hv => hv
  | .ms i off n, u, hv => hv
  | .obj i, u, hv => hv
  | .clo g fs cs, u, hv => by
    simp only [V, AV.frz] at hv ⊢
    obtain ⟨l, r', hu, h1, h2⟩ := hv
    exact ⟨l, r', hu, VL.frz fs l h1, VL.frz cs r' h2⟩
theorem VL.frz {G : Gh} {w : World} : ∀ (as : List AV) (us : List Value), VL G w as us → VL G w (AV.frzL as) us
  | [], [], _ => by simp only [AV.frzL, VL]
  | a :: as, u :: us, hv => by
    simp only [VL, AV.frzL] at hv ⊢
    exact ⟨V.frz a u hv.1, VL.frz as us hv.2⟩
  | [], _ :: _, hv => by simp only [VL] at hv
  | _ :: _, [], hv => by simp only [VL] at hv
end

theorem VC.frz {G : Gh} {w : World} : ∀ (as : List AV) (b off : Nat), VC G w as b off → VC G w (AV.frzL as) b off
  | [], _, _, _ => by simp only [AV.frzL, VC]
  | a :: as, b, off, h => by
    simp only [VC, AV.frzL] at h ⊢
    obtain ⟨h1, ⟨v, h2, h3⟩, h4⟩ := h
    exact ⟨h1, ⟨v, h2, V.frz a v h3⟩, VC.frz as b (off + 1) h4⟩

/-- what an operation makes: the elements of a new slice own nothing -/
def tidy (op : Op) (v : AV) : AV :=
  match op, v with
  | .buildSlice _ _ _, .sl es n o => .sl (AV.frzL es) n o
  | _, v => v

theorem V.tidy {G : Gh} {w : World} {op : Op} {v : AV} {u : Value} (h : V G w v u) : V G w (tidy op v) u := by
  unfold Ab.tidy
  split
  · simp only [V] at h ⊢
    obtain ⟨cap, hc, hh⟩ := h
    refine ⟨cap, hc, ?_⟩
    rcases hh with ⟨rfl, h2, h3, h4, h5⟩ | ⟨b, off, hu, hcells, ho⟩
    · exact .inl ⟨rfl, h2, h3, h4, h5⟩
    · exact .inr ⟨b, off, hu, VC.frz _ _ _ hcells, by rw [frzL_length]; exact ho⟩
  · exact h

/-- what is given -/
inductive Orc where
  | no
  | bit (b : Bool)
  | av (a : AV)
  | app (es : List AV) (n sz : Nat) (empty : Bool)
  | sl (es : List AV) (n : Nat)
  | fz (a : AV)
  | lk (a : AV)
  | mu (Y : Blk)
  | mk (cs : List AV) (n : Nat)
  | ld (a : AV)
  | wt (cs : List AV)
  | call (ι : List Nat) (H1 : List Blk) (nst : Nat) (res : AV) (b : Option Bool)

/-- an append, whoever owns -/
def appLA (ev : Operand → AV) (ns : Nat) (own : List Nat) (o : Own) (es' : List AV) (n' sz : Nat) (empty : Bool) : Option LA :=
  bif empty then some { ev := ev, v := .sl es' n' o }
  else match o with
    | .full => some { ev := ev, ns := ns, new := 1, v := .sl es' n' (.st ns sz) }
    | .nl => some { ev := ev, ns := ns, new := 1, v := .sl es' n' (.st ns sz) }
    | .st k sz' => bif own.any (Nat.beq k) && Nat.beq sz' sz then some { ev := ev, use := [k], ns := ns, new := 1, v := .sl es' n' (.st ns sz) } else none
    | _ => none

/-- What is known of a function: what a call comes to, and that nothing but data is in it. -/
structure CT (P : Program) (f : FuncId) (H0 : List Blk) (args : List AV) (res : AV) (H1 : List Blk) (nst : Nat) : Prop where
  tri : CTri P f H0 args res H1 nst
  args : AV.argL (fun i => i < H0.length) args
  H0 : ∀ X ∈ H0, X.arg (fun i => i < H0.length)
  res : res.fine (fun i => i < H1.length)
  H1 : ∀ X ∈ H1, X.fine (fun i => i < H1.length)

/-- what is to be shown -/
inductive Ob where
  | call (f : FuncId) (H0 : List Blk) (args : List AV) (res : AV) (H1 : List Blk) (nst : Nat)
  | bit (b b' : Bool)
  | av (x : Option AV) (a : AV)
  | app (t t2 : TypeId) (es es2 es' : List AV) (n n2 n' sz : Nat) (empty : Bool)
  | data (es : List AV)
  | cells (cs es : List AV) (len n : Nat)
  | fz (x : Option AV) (a : AV)
  | lk (t : TypeId) (X : Blk) (key : AV) (ok : Bool) (a : AV)
  | mu (t : TypeId) (X : Blk) (key val : AV) (Y : Blk)
  | mk (x : Option (List AV × Nat)) (cs : List AV) (n : Nat)
  | ld (x : Option AV) (a : AV)
  | wt (cs : List AV) (off : Nat) (v : AV) (sz : Nat) (cs' : List AV)

def Ob.ok (P : Program) : Ob → Prop
  | .call f H0 args res H1 nst => CT P f H0 args res H1 nst
  | .bit b b' => b = b'
  | .av x a => x = some a
  | .app t t2 es es2 es' n n2 n' sz empty => ∀ (ev : Operand → AV) (s : LSt) (o o2 : Own), aappend P t t2 ev (.sl es n o) (.sl es2 n2 o2) s = appLA ev s.ns s.own o es' n' sz empty
  | .data es => AV.DataL es
  | .cells cs es len n => cs = es ∧ len = n
  | .fz x a => ∃ a0, x = some a0 ∧ a0.frz = a
  | .lk t X key ok a => ∀ (ev : Operand → AV) (i : Nat) (s : LSt), look s.H i = some X → alookup P t ev (.obj i) key ok s = some { ev := ev, rd := [(i, X)], v := a }
  | .mu t X key val Y => ∀ (ev : Operand → AV) (i : Nat) (s : LSt), look s.H i = some X → amapUpdate P t ev (.obj i) key val s = some { ev := ev, v := .val undef, wr := [(i, X, Y)] }

  | .mk x cs n => x = some (cs, n)
  | .ld x a => x = some a
  | .wt cs off v sz cs' => v.sound = true ∧ (acells v).length = sz ∧ off + sz ≤ cs.length ∧ splice cs off (acells v) = cs'

/-- a new slice that will be written -/
def amakems (P : Program) (t : TypeId) (l c : AV) : Option (List AV × Nat) :=
  match P.underlying t, l, c with
  | some (.slice e), .val (.int .i64 l), .val (.int .i64 c) => match P.info? e with
    | some ie => match ie.zero with
      | some z =>
        if l = c ∧ 0 ≤ l ∧ l * ie.bytes ≤ 140737488355328 ∧ l ≤ 9223372036854775807 ∧ z.cells.size = ie.size ∧ 1 ≤ ie.size then
          some ((List.range (l.toNat * ie.size)).map fun j => (ofV 8 (z.cells.getD (j % z.cells.size) undef)).frz, l.toNat)
        else none
      | none => none
    | none => none
  | _, _, _ => none

theorem amakems_ok {P : Program} {dst : Option Tmp} {t : TypeId} {l c : Operand} {type : TypeId} {pos : String} {after : Array Edge} {guard : Option (Nat × Bool)} {ev : Operand → AV} {s : LSt} {cs : List AV} {n : Nat} (h : amakems P t (ev l) (ev c) = some (cs, n)) :
    OpOk P ⟨dst, .makeSlice t l c, type, pos, after, guard⟩ { ev := ev, al := [(s.nx, .row cs)], v := .ms s.nx 0 n } := by
  unfold amakems at h
  split at h
  · rename_i e l' c' hut hl hc
    split at h
    · rename_i ie hie
      split at h
      · rename_i z hz
        split at h
        · rename_i hcond
          obtain ⟨rfl, h0, hb, h63, hzs, h1⟩ := hcond
          cases h
          refine OpOk.value fun G σ w a hR hx hcan => ?_
          have hlx : V G w (ev l) (a.eval l) := hx l (by simp [Op.operands])
          have hcx : V G w (ev c) (a.eval c) := hx c (by simp [Op.operands])
          rw [hl] at hlx; rw [hc] at hcx
          simp only [V] at hlx hcx
          have hn : σ.H s.nx = none := hcan.al _ _ (List.mem_singleton.2 rfl)
          have hzl : ∀ m, VL G w ((List.range m).map fun j => (ofV 8 (z.cells.getD (j % z.cells.size) undef)).frz) ((List.range m).map fun j => z.cells.getD (j % z.cells.size) undef) := by
            intro m
            have := VL.map_ofV (G := G) (w := w) (f := fun v => (ofV 8 v).frz) (fun v => V.frz _ _ (V.ofV 8 v)) ((List.range m).map fun j => z.cells.getD (j % z.cells.size) undef)
            simpa [List.map_map, Function.comp_def] using this
          refine ⟨.slice (some ⟨w.heap.size, 0, none⟩) l'.toNat l'.toNat, w.alloc (.cells ((List.range (l'.toNat * ie.size)).map fun j => z.cells.getD (j % z.cells.size) undef).toArray e), G.addρ s.nx w.heap.size, ?_, Ext.alloc hR _ hn, ?_, ?_⟩
          · have hz' : madeCells z.cells (l'.toNat * ie.size) = ((List.range (l'.toNat * ie.size)).map fun j => z.cells.getD (j % z.cells.size) undef).toArray := by
              apply Array.ext'
              rw [madeCells, Array.toList_map, Array.toList_range]
              apply List.map_congr_left
              intro j _
              have hlt : j % z.cells.size < z.cells.size := Nat.mod_lt _ (by omega)
              simp [hlt]
            have hm := run_make (P := P) w t e ie z hut hie hz .i64 .i64 l' l' h0 (Int.le_refl _) (by rw [Int.mul_comm]; omega) h63
            rw [hz'] at hm
            simp [execOp, hlx, hcx, hm]
          · rw [app_al]
            exact hR.alloc_row _ _ e (hzl (l'.toNat * ie.size)) hn
          · simp only [V]
            exact ⟨w.heap.size, l'.toNat, up_same _ _ _, Nat.le_refl _, rfl⟩
        · cases h
      · cases h
    · cases h
  · cases h

def ObsOk (P : Program) : List Ob → Prop
  | [] => True
  | o :: l => o.ok P ∧ ObsOk P l

theorem ObsOk.append {P : Program} : ∀ {a b : List Ob}, ObsOk P (a ++ b) → ObsOk P a ∧ ObsOk P b
  | [], _, h => ⟨trivial, h⟩
  | _ :: a, _, h => by
    obtain ⟨h1, h2⟩ := h
    obtain ⟨h3, h4⟩ := ObsOk.append (a := a) h2
    exact ⟨⟨h1, h3⟩, h4⟩

def asks : Op → Bool
  | .buildSlice .. | .binOp .. | .unOp .. | .call _ | .extract .. | .index .. | .indexAddr .. | .slice .. | .lookup .. | .mapUpdate .. | .convert .. | .load .. | .store .. | .makeSlice .. => true
  | _ => false

def LA.bit? (la : LA) : Option Bool := match la.v with | .val (.bool b) => some b | _ => none

def LA.set (la : LA) (v : AV) : LA := { la with v := v }

/-- an operation that is no call -/
def xplain (P : Program) (op : Op) (ev : Operand → AV) (s : LSt) (os : List Orc) : Option (LA × List Orc × List Ob) :=
  bif asks op then
    match os with
    | .no :: os => (aop P op ev s).map fun la => (la.set (tidy op la.v), os, [])
    | .bit b :: os => match aop P op ev s with
      | some la => match la.bit? with
        | some b0 => some (la.set (.val (.bool b)), os, [.bit b0 b])
        | none => none
      | none => none
    | .av a :: os => some ({ ev := ev, v := a }, os, [.av (pop P op ev) a])
    | .fz a :: os => some ({ ev := ev, v := a }, os, [.fz (pop P op ev) a])
    | .lk a :: os => match op with
      | .lookup t x y ok => match ev x with
        | .obj i => match look s.H i with
          | some X => some ({ ev := ev, rd := [(i, X)], v := a }, os, [.lk t X (ev y) ok a])
          | none => none
        | _ => none
      | _ => none
    | .mu Y :: os => match op with
      | .mapUpdate t x y z => match ev x with
        | .obj i => match look s.H i with
          | some X => some ({ ev := ev, v := .val undef, wr := [(i, X, Y)] }, os, [.mu t X (ev y) (ev z) Y])
          | none => none
        | _ => none
      | _ => none
    | .mk cs n :: os => match op with
      | .makeSlice t l c => some ({ ev := ev, al := [(s.nx, .row cs)], v := .ms s.nx 0 n }, os, [.mk (amakems P t (ev l) (ev c)) cs n])
      | _ => none
    | .ld a :: os => match op with
      | .load t x => match tsz P t, ev x with
        | some q, .mp i off => match look s.H i with
          | some (.row cs) => some ({ ev := ev, rd := [(i, .row cs)], v := a }, os, [.ld (part1 q (cs.drop off)) a])
          | _ => none
        | _, _ => none
      | _ => none
    | .wt cs' :: os => match op with
      | .store t x y => match P.info? t, ev x with
        | some ti, .mp i off => match look s.H i with
          | some (.row cs) => some ({ ev := ev, wr := [(i, .row cs, .row cs')], v := .val undef }, os, [.wt cs off (ev y) ti.size cs'])
          | _ => none
        | _, _ => none
      | _ => none
    | .sl es' n' :: os => match aop P op ev s with
      | some la => match tidy op la.v with
        | .sl cs len o => some (la.set (.sl es' n' o), os, [.cells cs es' len n'])
        | _ => none
      | none => none
    | .app es' n' sz empty :: os => match op with
      | .call { callee := .builtin .append, args, argTypes } => match args.toList, argTypes.toList with
        | [x, y], [t, t2] => match ev x, ev y with
          | .sl es n o, .sl es2 n2 _ => match appLA ev s.ns s.own o es' n' sz empty with
            | some la => some (la, os, [.app t t2 es es2 es' n n2 n' sz empty])
            | none => none
          | _, _ => none
        | _, _ => none
      | _ => none
    | _ => none
  else (aop P op ev s).map fun la => (la.set (tidy op la.v), os, [])

mutual
/-- its numbers are such; it owns nothing (in what is not in slices) -/
def AV.numB (ι : List Nat) : AV → Bool
  | .val _ => true
  | .agg cs => AV.numLB ι cs
  | .tup cs => AV.numLB ι cs
  | .sl _ _ o => match o with | .st _ _ => false | .fr => false | _ => true
  | .ip _ => true
  | .mp i _ => ι.any (Nat.beq i)
  | .ms i _ _ => ι.any (Nat.beq i)
  | .obj i => ι.any (Nat.beq i)
  | .clo _ fs cs => AV.numLB ι fs && AV.numLB ι cs
def AV.numLB (ι : List Nat) : List AV → Bool
  | [] => true
  | a :: l => AV.numB ι a && AV.numLB ι l
end

mutual
theorem ren_ren {ι : List Nat} {nx : Nat} : ∀ a : AV, a.numB ι = true → (a.ren (newId ι) noSt).ren (cren ι nx) noSt = a
  | .val _, _ => rfl
  | .agg cs, h => by simp only [AV.ren, renL_renL cs h]
  | .tup cs, h => by simp only [AV.ren, renL_renL cs h]
  | .sl es n o, h => by
    cases o with
    | no => rfl
    | full => rfl
    | nl => rfl
    | nn => rfl
    | fr => simp [AV.numB] at h
    | st k sz => simp [AV.numB] at h
  | .ip _, _ => rfl
  | .mp i off, h => by
    obtain ⟨t, ht⟩ := place_mem (any_beq.1 h)
    simp only [AV.ren, newId, ht, Option.getD_some, cren, place_spec ht]
  | .ms i off n, h => by
    obtain ⟨t, ht⟩ := place_mem (any_beq.1 h)
    simp only [AV.ren, newId, ht, Option.getD_some, cren, place_spec ht]
  | .obj i, h => by
    obtain ⟨t, ht⟩ := place_mem (any_beq.1 h)
    simp only [AV.ren, newId, ht, Option.getD_some, cren, place_spec ht]
  | .clo g fs cs, h => by
    simp only [AV.numB, Bool.and_eq_true] at h
    simp only [AV.ren, renL_renL fs h.1, renL_renL cs h.2]
theorem renL_renL {ι : List Nat} {nx : Nat} : ∀ as : List AV, AV.numLB ι as = true → AV.renL (cren ι nx) noSt (AV.renL (newId ι) noSt as) = as
  | [], _ => rfl
  | a :: as, h => by
    simp only [AV.numLB, Bool.and_eq_true] at h
    simp only [AV.renL, ren_ren a h.1, renL_renL as h.2]
end

def Blk.numB (ι : List Nat) : Blk → Bool
  | .cells cs => AV.numLB ι cs
  | .obj _ => true
  | .row _ => true

theorem blk_ren_ren {ι : List Nat} {nx : Nat} {X : Blk} (h : X.numB ι = true) : (X.ren (newId ι) noSt).ren (cren ι nx) noSt = X := by
  cases X with
  | cells cs => simp only [Blk.ren, renL_renL cs h]
  | obj o => rfl
  | row cs => rfl

/-- the blocks that a call is led to, under its own numbers -/
def inBlks (H : List (Nat × Blk)) (ι : List Nat) : List Nat → List Blk
  | [] => []
  | i :: l => ((look H i).getD (.cells [])).ren (newId ι) noSt :: inBlks H ι l

def inB (H : List (Nat × Blk)) (ι : List Nat) : List Nat → Bool
  | [] => true
  | i :: l => (match look H i with | some X => X.numB ι | none => false) && inB H ι l

theorem inBlks_len {H : List (Nat × Blk)} {ι : List Nat} : ∀ l, (inBlks H ι l).length = l.length
  | [] => rfl
  | _ :: l => by simp [inBlks, inBlks_len l]

theorem wrs_in {H : List (Nat × Blk)} {ι : List Nat} {nx : Nat} {f : Nat → Option Nat} : ∀ (l : List Nat) (H1 : List Blk), inB H ι l = true → ∀ i X Y, (i, X, Y) ∈ wrs (cren ι nx) f l (inBlks H ι l) H1 → look H i = some X
  | [], _, _, i, X, Y, h => by simp [wrs] at h
  | j :: l, [], _, i, X, Y, h => by simp [wrs, inBlks] at h
  | j :: l, Z :: H1, hb, i, X, Y, h => by
    simp only [inB, Bool.and_eq_true] at hb
    simp only [wrs, inBlks, List.mem_cons, Prod.mk.injEq] at h
    rcases h with ⟨rfl, rfl, _⟩ | h
    · cases hl : look H i with
      | none => rw [hl] at hb; exact absurd hb.1 (by simp)
      | some W =>
        rw [hl] at hb
        simp only [Option.getD_some, blk_ren_ren hb.1]
    · exact wrs_in l H1 hb.2 i X Y h

def xcall (f : FuncId) (aa : List AV) (ev : Operand → AV) (s : LSt) (ι : List Nat) (H1 : List Blk) (nst : Nat) (res : AV) (b : Option Bool) : Option (LA × List Ob) :=
  bif nodupB ι && inB s.H ι ι && Nat.ble ι.length H1.length && AV.numLB ι aa then
    match b with
    | none => some ({ callLA ι s.nx s.ns (inBlks s.H ι ι) H1 nst res with ev := ev }, [.call f (inBlks s.H ι ι) (AV.renL (newId ι) noSt aa) res H1 nst])
    | some b => match (callLA ι s.nx s.ns (inBlks s.H ι ι) H1 nst res).bit? with
      | some b0 => some ({ callLA ι s.nx s.ns (inBlks s.H ι ι) H1 nst res with ev := ev, v := .val (.bool b) }, [.bit b0 b, .call f (inBlks s.H ι ι) (AV.renL (newId ι) noSt aa) res H1 nst])
      | none => none
  else none

/-- a function that can be called: it has a body, and is not the one that the model treats apart -/
def callB (P : Program) (f : FuncId) : Bool := match P.funcs[f]? with | some fn => !(fn.name == "runtime.NumGoroutine") && !fn.body.isNone | none => false

def xact (P : Program) (pr : FuncId → List AV → LSt → Option LA) (op : Op) (ev : Operand → AV) (s : LSt) (os : List Orc) : Option (LA × List Orc × List Ob) :=
  match op with
  | .call { callee := .value g, args, argTypes := _ } =>
    match ev g, os with
    | .clo f first caps, .call ι H1 nst res b :: os => bif callB P f then match xcall f (AV.frzL (first ++ args.toList.map ev ++ caps)) ev s ι H1 nst res b with
      | some (la, ob) => some (la, os, ob)
      | none => none
      else none
    | .clo f first caps, .no :: os => match pr f (first ++ args.toList.map ev ++ caps) s with
      | some la => some ({ la with ev := ev }, os, [])
      | none => none
    | _, _ => none
  | op => xplain P op ev s os

theorem fit_set {s : LSt} {la : LA} (h : s.fit la) {ev : Operand → AV} {v : AV} : s.fit { la with ev := ev, v := v } := ⟨h.rd, h.wr, h.al, h.lo, h.use, h.ns⟩

theorem OpOk.set {P : Program} {o : Oper} {la : LA} (h : OpOk P o la) {v : AV} (hv : ∀ G w u, V G w la.v u → V G w v u) : OpOk P o { la with v := v } := by
  intro G σ w a K Q hR hx hc hK
  exact h G σ w a K Q hR hx ⟨hc.rd, hc.wr, hc.al, hc.use, hc.ns, hc.hole⟩ fun u G' w' hE hR' hu => hK u G' w' hE hR' (hv _ _ _ hu)

theorem aop_append {P : Program} {args : Array Operand} {argTypes : Array TypeId} {x y : Operand} {t t2 : TypeId} {ev : Operand → AV} {s : LSt} (h1 : args.toList = [x, y]) (h2 : argTypes.toList = [t, t2]) :
    aop P (.call { callee := .builtin .append, args := args, argTypes := argTypes }) ev s = aappend P t t2 ev (ev x) (ev y) s := by
  unfold aop
  simp only [pop, h1, h2]

theorem aop_lookup {P : Program} {t : TypeId} {x y : Operand} {ok : Bool} {ev : Operand → AV} {s : LSt} : aop P (.lookup t x y ok) ev s = alookup P t ev (ev x) (ev y) ok s := by
  unfold aop
  simp only [pop]

theorem aop_mapUpdate {P : Program} {t : TypeId} {x y z : Operand} {ev : Operand → AV} {s : LSt} : aop P (.mapUpdate t x y z) ev s = amapUpdate P t ev (ev x) (ev y) (ev z) s := by
  unfold aop
  simp only [pop]

theorem aop_of_pop {P : Program} {op : Op} {ev : Operand → AV} {s : LSt} {a : AV} (h : pop P op ev = some a) : aop P op ev s = some { ev := ev, v := a } := by
  unfold aop
  rw [h]

/-- a call whose arguments are told weaker -/
theorem CallOk.weak {P : Program} {f : FuncId} {args : List AV} {la : LA} (h : CallOk P f (AV.frzL args) la) : CallOk P f args la := by
  intro dst type pos after guard g cargs argTypes first caps ev hg hargs
  have h' := h dst type pos after guard g cargs argTypes (AV.frzL first) (AV.frzL caps) (fun x => (ev x).frz) (by simp only [hg, AV.frz]) (by rw [hargs, frzL_append, frzL_append, frzL_map])
  intro G σ w a K Q hR hx hc hK
  refine h' G σ w a K Q hR (fun x hxm => V.frz _ _ (hx x hxm)) ⟨hc.rd, hc.wr, hc.al, hc.use, hc.ns, hc.hole⟩ hK

theorem callLA_fit {s : LSt} {ι : List Nat} {H1 : List Blk} {nst : Nat} {res : AV} (hb : inB s.H ι ι = true) : s.fit (callLA ι s.nx s.ns (inBlks s.H ι ι) H1 nst res) :=
  ⟨fun i X h => by simp [callLA] at h, fun i X Y h => wrs_in ι H1 hb i X Y h, fun i X h => (als_mem _ _ _ _ h).1, fun h => by simp [callLA] at h, fun k h => by simp [callLA] at h, fun _ => rfl⟩

theorem xcall_ok {P : Program} {f : FuncId} {aa : List AV} {ev : Operand → AV} {s : LSt} {ι : List Nat} {H1 : List Blk} {nst : Nat} {res : AV} {b : Option Bool} {la : LA} {ob : List Ob} (hf : callB P f = true) (h : xcall f (AV.frzL aa) ev s ι H1 nst res b = some (la, ob)) (hob : ObsOk P ob) :
    ∃ la0, s.fit la0 ∧ CallOk P f aa la0 ∧ (∀ G w u, V G w la0.v u → V G w la.v u) ∧ la = { la0 with ev := ev, v := la.v } := by
  unfold xcall at h
  cases hc : (nodupB ι && inB s.H ι ι && Nat.ble ι.length H1.length && AV.numLB ι (AV.frzL aa)) with
  | false => rw [hc] at h; cases h
  | true =>
    rw [hc] at h
    simp only [cond_true] at h
    simp only [Bool.and_eq_true] at hc
    obtain ⟨⟨⟨c1, c2⟩, c3⟩, c4⟩ := hc
    have hlen : ι.length = (inBlks s.H ι ι).length := (inBlks_len ι).symm
    have key : CT P f (inBlks s.H ι ι) (AV.renL (newId ι) noSt (AV.frzL aa)) res H1 nst → CallOk P f aa (callLA ι s.nx s.ns (inBlks s.H ι ι) H1 nst res) := by
      intro hct
      have hu := CTri.uni hct.tri hct.args hct.H0 hct.res hct.H1 ι hlen (by rw [← hlen]; exact Nat.le_of_ble_eq_true c3) (nodupB_spec _ c1) s.nx s.ns
      rw [renL_renL _ c4] at hu
      unfold callB at hf
      split at hf
      · rename_i fn hfn
        simp only [Bool.and_eq_true, Bool.not_eq_true'] at hf
        exact (CallOk.of hfn hf.1 hf.2 hu).weak
      · cases hf
    cases b with
    | none =>
      simp only [Option.some.injEq, Prod.mk.injEq] at h
      obtain ⟨rfl, rfl⟩ := h
      exact ⟨_, callLA_fit c2, key hob.1, fun _ _ _ e => e, rfl⟩
    | some b =>
      simp only at h
      split at h
      · rename_i b0 hb
        simp only [Option.some.injEq, Prod.mk.injEq] at h
        obtain ⟨rfl, rfl⟩ := h
        have hb' : b0 = b := hob.1
        subst hb'
        refine ⟨_, callLA_fit c2, key hob.2.1, fun G w u e => ?_, rfl⟩
        unfold LA.bit? at hb
        split at hb
        · rename_i b1 hv
          cases hb
          rw [hv] at e; exact e
        · cases hb
      · cases h

theorem rowLoad_ok {P : Program} {dst : Option Tmp} {t : TypeId} {x : Operand} {type : TypeId} {pos : String} {after : Array Edge} {guard : Option (Nat × Bool)} {ev : Operand → AV} {i off : Nat} {q : Bool × Nat} {cs : List AV} {r : AV} (hq : tsz P t = some q) (he : ev x = .mp i off) (hr : part1 q (cs.drop off) = some r) :
    OpOk P ⟨dst, .load t x, type, pos, after, guard⟩ { ev := ev, rd := [(i, .row cs)], v := r } := by
  refine OpOk.reads fun G σ w a hR hx hrd => ?_
  have hX := hrd _ _ (List.mem_singleton.2 rfl)
  obtain ⟨b, hb, _, hblk⟩ := hR.look hX
  obtain ⟨vs, T, hh, hl⟩ := hblk
  have hxx := hx x (by simp [Op.operands])
  rw [he] at hxx
  simp only [V] at hxx
  obtain ⟨b', hb', hxe⟩ := hxx
  rw [hb] at hb'; cases hb'
  obtain ⟨u, hu, hv⟩ := part1_mem hq hh hl hr
  exact ⟨u, by simp [execOp, hxe, hu], hv⟩

theorem rowStore_ok {P : Program} {dst : Option Tmp} {t : TypeId} {x y : Operand} {type : TypeId} {pos : String} {after : Array Edge} {guard : Option (Nat × Bool)} {ev : Operand → AV} {i off : Nat} {ti : TypeInfo} {cs cs' : List AV} (hi : P.info? t = some ti) (he : ev x = .mp i off)
    (c1 : (ev y).sound = true) (c2 : (acells (ev y)).length = ti.size) (c3 : off + ti.size ≤ cs.length) (c4 : splice cs off (acells (ev y)) = cs') :
    OpOk P ⟨dst, .store t x y, type, pos, after, guard⟩ { ev := ev, wr := [(i, .row cs, .row cs')], v := .val undef } := by
  subst c4
  refine OpOk.skip rfl fun G σ w a hR hx hc => ?_
  have hX := hc.wr _ _ _ (List.mem_singleton.2 rfl)
  obtain ⟨b, hb, _, hblk⟩ := hR.look hX
  obtain ⟨vs, T, hh, hl⟩ := hblk
  have hxx : V G w (ev x) (a.eval x) := hx x (by simp [Op.operands])
  rw [he] at hxx
  simp only [V] at hxx
  obtain ⟨b', hb', hxe⟩ := hxx
  rw [hb] at hb'; cases hb'
  obtain ⟨hyv, hy1⟩ := V.cells (a := ev y) (hx y (by simp [Op.operands])) c1
  have hyl := VL.length _ _ hyv
  have hvl := hl.le
  have hsz : (a.eval y).cells.size = ti.size := by rw [← c2, ← hyl]; simp
  have hst := run_storeCells_at P b off T (a.eval y).cells.toList 0 vs w hh (by simp only [Array.length_toList] at hvl ⊢; omega) hy1
  simp only [Nat.add_zero] at hst
  refine ⟨w.setRow b (vs.toList.take off ++ (a.eval y).cells.toList ++ vs.toList.drop (off + (a.eval y).cells.toList.length)).toArray, G, ?_, Ext.setRow hR hb _, ?_⟩
  · simp only [execOp, Sem.run_bind, hxe, Instr.storeAt, Instr.sureAddr, Sem.run_pure, Result.andThen_ok, storeVar, run_sizeOf' hi]
    rw [if_neg (by simp [hsz])]
    simp only [Result.andThen_ok, hst]
  · rw [app_wr]
    exact hR.setRowR hb _ _ hh (VLp.splice hl hyv off (by omega))

theorem xplain_ok {P : Program} {o : Oper} {ev : Operand → AV} {s : LSt} {os os' : List Orc} {la : LA} {ob : List Ob} (h : xplain P o.op ev s os = some (la, os', ob)) (hob : ObsOk P ob) : s.fit la ∧ OpOk P o la ∧ la.ev = ev := by
  have base : ∀ {la0 : LA} {v : AV}, aop P o.op ev s = some la0 → (∀ G w u, V G w la0.v u → V G w v u) → s.fit (la0.set v) ∧ OpOk P o (la0.set v) ∧ (la0.set v).ev = ev := by
    intro la0 v ha hv
    obtain ⟨h1, h2⟩ := aop_ok ha
    exact ⟨fit_set (aop_fit ha), h1.set hv, h2⟩
  unfold xplain at h
  cases hask : asks o.op with
  | false =>
    rw [hask] at h
    simp only [cond_false, Option.map_eq_some_iff] at h
    obtain ⟨la0, ha, he⟩ := h
    cases he
    exact base ha fun _ _ _ => V.tidy
  | true =>
    rw [hask] at h
    simp only [cond_true] at h
    split at h
    · simp only [Option.map_eq_some_iff] at h
      obtain ⟨la0, ha, he⟩ := h
      cases he
      exact base ha fun _ _ _ => V.tidy
    · rename_i b _
      split at h
      · rename_i la0 ha
        split at h
        · rename_i b0 hb
          cases h
          have hb' : b0 = b := hob.1
          subst hb'
          unfold LA.bit? at hb
          split at hb
          · rename_i b1 hv
            cases hb
            exact base ha fun G w u hu => by rw [hv] at hu; exact hu
          · cases hb
        · cases h
      · cases h
    · rename_i a _
      cases h
      have ha := aop_of_pop (s := s) hob.1
      exact ⟨aop_fit ha, (aop_ok ha).1, rfl⟩
    · rename_i a _
      cases h
      obtain ⟨a0, h1, h2⟩ := hob.1
      subst h2
      have ha := aop_of_pop (s := s) h1
      exact ⟨fit_set (aop_fit ha), OpOk.set (aop_ok ha).1 (fun G w u hu => V.frz _ _ hu), rfl⟩
    · rename_i a _
      split at h
      · rename_i t x y ok hop
        split at h
        · rename_i i hx
          split at h
          · rename_i X hX
            cases h
            have ha : aop P o.op ev s = some { ev := ev, rd := [(i, X)], v := a } := by
              rw [hop, aop_lookup, hx]; exact hob.1 ev i s hX
            exact ⟨aop_fit ha, aop_ok ha⟩
          · cases h
        · cases h
      · cases h
    · rename_i Y _
      split at h
      · rename_i t x y z hop
        split at h
        · rename_i i hx
          split at h
          · rename_i X hX
            cases h
            have ha : aop P o.op ev s = some { ev := ev, v := .val undef, wr := [(i, X, Y)] } := by
              rw [hop, aop_mapUpdate, hx]; exact hob.1 ev i s hX
            exact ⟨aop_fit ha, aop_ok ha⟩
          · cases h
        · cases h
      · cases h
    · rename_i cs n _
      split at h
      · rename_i t l c hop
        cases h
        obtain ⟨dst, op, type, pos, after, guard⟩ := o
        simp only at hop
        subst hop
        refine ⟨⟨fun i X h => by simp at h, fun i X Y h => by simp at h, fun i X h => by simp only [List.mem_singleton, Prod.mk.injEq] at h; exact Nat.le_of_eq h.1.symm, fun h => by simp at h, fun k h => by simp at h, fun h => by simp at h⟩, amakems_ok hob.1, rfl⟩
      · cases h
    · rename_i a _
      split at h
      · rename_i t x hop
        split at h
        · rename_i q i off hq hx
          split at h
          · rename_i cs hX
            cases h
            obtain ⟨dst, op, type, pos, after, guard⟩ := o
            simp only at hop
            subst hop
            refine ⟨⟨fun i X h => by simp only [List.mem_singleton, Prod.mk.injEq] at h; obtain ⟨rfl, rfl⟩ := h; exact hX, fun i X Y h => by simp at h, fun i X h => by simp at h, fun h => by simp at h, fun k h => by simp at h, fun h => by simp at h⟩, rowLoad_ok hq hx hob.1, rfl⟩
          · cases h
        · cases h
      · cases h
    · rename_i cs' _
      split at h
      · rename_i t x y hop
        split at h
        · rename_i ti i off hq hx
          split at h
          · rename_i cs hX
            cases h
            obtain ⟨⟨h1, h2, h3, h4⟩, _⟩ := hob
            obtain ⟨dst, op, type, pos, after, guard⟩ := o
            simp only at hop
            subst hop
            refine ⟨⟨fun i X h => by simp at h, fun i X Y h => by simp only [List.mem_singleton, Prod.mk.injEq] at h; obtain ⟨rfl, rfl, rfl⟩ := h; exact hX, fun i X h => by simp at h, fun h => by simp at h, fun k h => by simp at h, fun h => by simp at h⟩, rowStore_ok hq hx h1 h2 h3 h4, rfl⟩
          · cases h
        · cases h
      · cases h
    · rename_i es' n' _
      split at h
      · rename_i la0 ha
        split at h
        · rename_i cs len o hv
          cases h
          obtain ⟨h1, h2⟩ := hob.1
          subst h1 h2
          exact base ha fun G w u hu => by rw [← hv]; exact V.tidy hu
        · cases h
      · cases h
    · rename_i es' n' sz empty _
      split at h
      · rename_i args argTypes hop
        split at h
        · rename_i x y t t2 h1 h2
          split at h
          · rename_i es n o1 es2 n2 o2 hx hy
            split at h
            · rename_i la0 hla
              cases h
              have ha : aop P o.op ev s = some la := by
                rw [hop, aop_append h1 h2, hx, hy, hob.1]
                exact hla
              exact ⟨aop_fit ha, aop_ok ha⟩
            · cases h
          · cases h
        · cases h
      · cases h
    · cases h

theorem xact_ok {P : Program} {pr : FuncId → List AV → LSt → Option LA} (hp : CallsOk P pr) {o : Oper} {ev : Operand → AV} {s : LSt} {os os' : List Orc} {la : LA} {ob : List Ob} (h : xact P pr o.op ev s os = some (la, os', ob)) (hob : ObsOk P ob) : s.fit la ∧ OpOk P o la ∧ la.ev = ev := by
  obtain ⟨dst, op, type, pos, after, guard⟩ := o
  have h' : xact P pr op ev s os = some (la, os', ob) := h
  clear h
  unfold xact at h'
  split at h'
  · rename_i g args argTypes
    split at h'
    · rename_i f first caps ι H1 nst res b os1 hg
      cases hf : callB P f with
      | false => rw [hf] at h'; cases h'
      | true =>
        rw [hf] at h'
        simp only [cond_true] at h'
        split at h'
        · rename_i la1 ob1 hx
          cases h'
          obtain ⟨la0, h1, h2, h3, h4⟩ := xcall_ok hf hx hob
          have h5 := h2 dst type pos after guard g args argTypes first caps ev hg rfl
          rw [h4]
          exact ⟨fit_set h1, OpOk.set h5 (v := la.v) h3, rfl⟩
        · cases h'
    · rename_i f first caps os1 hg
      split at h'
      · rename_i la0 hla
        cases h'
        obtain ⟨q1, q2⟩ := hp _ _ _ _ hla
        exact ⟨⟨q1.rd, q1.wr, q1.al, q1.lo, q1.use, q1.ns⟩, q2 dst type pos after guard g args argTypes first caps ev hg rfl, rfl⟩
      · cases h'
    · cases h'
  · exact xplain_ok h' hob

def xstep (P : Program) (pr : FuncId → List AV → LSt → Option LA) (ops : Array Oper) (env : List AV) (s : LSt) (os : List Orc) (o : Oper) : Option (Option LA × List AV × LSt × List Orc × List Ob) :=
  match awant ops env o with
  | some false => some (none, eset env o.dst (.val undef), s, os, [])
  | some true =>
    match xact P pr o.op (aev env) s os with
    | some (la, os, ob) => some (some la, eset env o.dst la.v, s.app la, os, ob)
    | none => none
  | none => none

def xops (P : Program) (pr : FuncId → List AV → LSt → Option LA) (ops : Array Oper) : List Oper → Nat → List AV → LSt → List Orc → Option (List (Nat × Option LA) × List AV × LSt × List Orc × List Ob)
  | [], _, env, s, os => some ([], env, s, os, [])
  | o :: l, i, env, s, os =>
    match xstep P pr ops env s os o with
    | some (la, env1, s1, os1, ob1) => match xops P pr ops l (i + 1) env1 s1 os1 with
      | some (r, env2, s2, os2, ob2) => some ((i, la) :: r, env2, s2, os2, ob1 ++ ob2)
      | none => none
    | none => none

theorem xops_ok {P : Program} {pr : FuncId → List AV → LSt → Option LA} (hp : CallsOk P pr) {ops : Array Oper} : ∀ (l : List Oper) (i : Nat) (env : List AV) (s : LSt) (os : List Orc) (r : List (Nat × Option LA)) (env' : List AV) (s' : LSt) (os' : List Orc) (ob : List Ob),
    (∀ k o, l[k]? = some o → ops[i + k]? = some o) → xops P pr ops l i env s os = some (r, env', s', os', ob) → ObsOk P ob → Later s s' ∧ r.map (·.1) = List.range' i l.length ∧ ∀ (σ₀ : ASt) (b : Nat), s.On σ₀ b → (∀ j, s.nx ≤ j → j < s'.nx → σ₀.H j = none) →
      s'.On σ₀ b ∧ ARun P ops r ⟨env, over σ₀ s⟩ ⟨env', over σ₀ s'⟩
  | [], i, env, s, os, r, env', s', os', ob, _, h, _ => by
    simp only [xops, Option.some.injEq, Prod.mk.injEq] at h
    obtain ⟨rfl, rfl, rfl, rfl, rfl⟩ := h
    exact ⟨Later.refl _, rfl, fun σ₀ b ho _ => ⟨ho, rfl⟩⟩
  | o :: l, i, env, s, os, r, env', s', os', ob, hl, h, hob => by
    simp only [xops] at h
    split at h
    · rename_i la env1 s1 os1 ob1 hst
      split at h
      · rename_i r' env2 s2 os2 ob2 hr
        cases h
        obtain ⟨hob1, hob2⟩ := ObsOk.append hob
        have h0 : ops[i]? = some o := by have := hl 0 o rfl; simpa using this
        have step : Later s s1 ∧ ∀ (σ₀ : ASt) (b : Nat), s.On σ₀ b → (∀ j, s.nx ≤ j → j < s1.nx → σ₀.H j = none) → s1.On σ₀ b ∧ AStep P ops i la ⟨env, over σ₀ s⟩ ⟨env1, over σ₀ s1⟩ := by
          unfold xstep at hst
          split at hst
          · rename_i hw
            cases hst
            exact ⟨Later.refl _, fun σ₀ b ho _ => ⟨ho, o, h0, hw, rfl⟩⟩
          · rename_i hw
            split at hst
            · rename_i la' os1' ob1' hla
              cases hst
              obtain ⟨f1, f2, f3⟩ := xact_ok hp hla hob1
              refine ⟨Later.app f1, fun σ₀ b ho hfree => ⟨On.app f1 ho, o, h0, hw, f2, fun x _ => by rw [f3], LSt.can f1 ho hfree, ?_⟩⟩
              rw [over_app f1 ho]
            · cases hst
          · cases hst
        obtain ⟨q1, q2, q3⟩ := xops_ok hp l (i + 1) env1 s1 os1 r' _ _ _ _ (fun k o e => by have := hl (k + 1) o (by simpa using e); rw [← this]; congr 1; omega) hr hob2
        refine ⟨step.1.trans q1, by simp [List.range'_succ, q2], fun σ₀ b ho hfree => ?_⟩
        obtain ⟨o1, a1⟩ := step.2 σ₀ b ho (fun j h1 h2 => hfree j h1 (Nat.lt_of_lt_of_le h2 q1.nx))
        obtain ⟨o2, a2⟩ := q3 σ₀ b o1 (fun j h1 h2 => hfree j (Nat.le_trans step.1.nx h1) h2)
        exact ⟨o2, _, a1, a2⟩
      · cases h
    · cases h

abbrev XR := AX × List AV × LSt × List Orc × List Ob

def xcode (P : Program) (pr : FuncId → List AV → LSt → Option LA) : Nat → Code → List AV → LSt → List Orc → Option XR
  | 0, _, _, _, _ => none
  | n + 1, c, env, s, os =>
    match c with
    | .skip => some (.normal, env, s, os, [])
    | .label _ => some (.normal, env, s, os, [])
    | .exit i => some (.exit i, env, s, os, [])
    | .ret => some (.ret, env, s, os, [])
    | .seq x y => match xcode P pr n x env s os with
      | some (.normal, env1, s1, os1, o1) => match xcode P pr n y env1 s1 os1 with
        | some (x2, env2, s2, os2, o2) => some (x2, env2, s2, os2, o1 ++ o2)
        | none => none
      | r => r
    | .cond c x y => match aev env c with
      | .val (.bool b) => xcode P pr n (bif b then x else y) env s os
      | _ => none
    | .block i c => match xcode P pr n c env s os with
      | some (.exit j, env1, s1, os1, o1) => some (bif Nat.beq j i then .normal else .exit j, env1, s1, os1, o1)
      | r => r
    | .scope c => xcode P pr n c env s os
    | .region _ ops draw => match xops P pr ops ops.toList 0 env s os with
      | some (l, env1, s1, os1, o1) => bif !draw || (edgesB ops && freeB ops (ancs ops.toList []) l) then some (.normal, env1, s1, os1, o1) else none
      | none => none
    | _ => none

theorem xregion_any {P : Program} {pr : FuncId → List AV → LSt → Option LA} (hp : CallsOk P pr) (hm : P.follows .mixedOrders = true) {ops : Array Oper} {id : Nat} {draw : Bool} {env env' : List AV} {s s' : LSt} {os os' : List Orc} {r : List (Nat × Option LA)} {ob : List Ob} {Q : AX → List AV → LSt → Prop}
    (h : xops P pr ops ops.toList 0 env s os = some (r, env', s', os', ob)) (hd : (!draw || (edgesB ops && freeB ops (ancs ops.toList []) r)) = true) (hob : ObsOk P ob) (hQ : Q .normal env' s') : Ev P (.region id ops draw) env s Q := by
  intro ho
  obtain ⟨_, q2, q3⟩ := xops_ok hp ops.toList 0 env s os r _ _ _ _ (fun k o e => by simpa using e) h hob
  obtain ⟨o1, r1⟩ := q3 (Emp 0) 0 ho (fun _ _ _ => rfl)
  have q2' : r.map (·.1) = List.range ops.size := by rw [q2, List.range_eq_range']; simp
  cases draw with
  | false => exact Cw.region r1 q2' ⟨_, _, rfl, o1, hQ⟩
  | true =>
    simp only [Bool.not_true, Bool.false_or, Bool.and_eq_true] at hd
    exact Cw.draw hm hd.1 hd.2 r1 q2' ⟨_, _, rfl, o1, hQ⟩

theorem xcode_ok {P : Program} {pr : FuncId → List AV → LSt → Option LA} (hp : CallsOk P pr) (hm : P.follows .mixedOrders = true) : ∀ (n : Nat) (c : Code) (env : List AV) (s : LSt) (os : List Orc) (x : AX) (env' : List AV) (s' : LSt) (os' : List Orc) (ob : List Ob),
    xcode P pr n c env s os = some (x, env', s', os', ob) → ObsOk P ob → ∀ {Q : AX → List AV → LSt → Prop}, Q x env' s' → Ev P c env s Q := by
  intro n
  induction n with
  | zero => intro c env s os x env' s' os' ob h; cases h
  | succ n ih =>
    intro c env s os x env' s' os' ob h hob Q hQ
    cases c with
    | skip =>
      simp only [xcode, Option.some.injEq, Prod.mk.injEq] at h
      obtain ⟨rfl, rfl, rfl, rfl, rfl⟩ := h
      exact Ev.skip hQ
    | label l =>
      simp only [xcode, Option.some.injEq, Prod.mk.injEq] at h
      obtain ⟨rfl, rfl, rfl, rfl, rfl⟩ := h
      exact Ev.label hQ
    | exit i =>
      simp only [xcode, Option.some.injEq, Prod.mk.injEq] at h
      obtain ⟨rfl, rfl, rfl, rfl, rfl⟩ := h
      exact Ev.exit hQ
    | ret =>
      simp only [xcode, Option.some.injEq, Prod.mk.injEq] at h
      obtain ⟨rfl, rfl, rfl, rfl, rfl⟩ := h
      exact Ev.ret hQ
    | seq y z =>
      simp only [xcode] at h
      cases hy : xcode P pr n y env s os with
      | none => rw [hy] at h; cases h
      | some r =>
        obtain ⟨x1, env1, s1, os1, o1⟩ := r
        rw [hy] at h
        cases x1 with
        | normal =>
          simp only at h
          split at h
          · rename_i x2 env2 s2 os2 o2 hz
            cases h
            obtain ⟨q1, q2⟩ := ObsOk.append hob
            exact Ev.seq (ih _ _ _ _ _ _ _ _ _ hy q1 (ih _ _ _ _ _ _ _ _ _ hz q2 hQ))
          · cases h
        | exit i =>
          simp only [Option.some.injEq, Prod.mk.injEq] at h
          obtain ⟨rfl, rfl, rfl, rfl, rfl⟩ := h
          exact Ev.seq (ih _ _ _ _ _ _ _ _ _ hy hob hQ)
        | ret =>
          simp only [Option.some.injEq, Prod.mk.injEq] at h
          obtain ⟨rfl, rfl, rfl, rfl, rfl⟩ := h
          exact Ev.seq (ih _ _ _ _ _ _ _ _ _ hy hob hQ)
    | cond o y z =>
      simp only [xcode] at h
      split at h
      · rename_i t ht
        have h1 := ih _ _ _ _ _ _ _ _ _ h hob hQ
        exact Ev.cond ht (by cases t <;> exact h1)
      · cases h
    | block i y =>
      simp only [xcode] at h
      cases hy : xcode P pr n y env s os with
      | none => rw [hy] at h; cases h
      | some r =>
        obtain ⟨x1, env1, s1, os1, o1⟩ := r
        rw [hy] at h
        cases x1 with
        | normal =>
          simp only [Option.some.injEq, Prod.mk.injEq] at h
          obtain ⟨rfl, rfl, rfl, rfl, rfl⟩ := h
          exact Ev.block (ih _ _ _ _ _ _ _ _ _ hy hob hQ)
        | ret =>
          simp only [Option.some.injEq, Prod.mk.injEq] at h
          obtain ⟨rfl, rfl, rfl, rfl, rfl⟩ := h
          exact Ev.block (ih _ _ _ _ _ _ _ _ _ hy hob hQ)
        | exit j =>
          simp only [Option.some.injEq, Prod.mk.injEq] at h
          obtain ⟨rfl, rfl, rfl, rfl, rfl⟩ := h
          refine Ev.block (ih _ _ _ _ _ _ _ _ _ hy hob ?_)
          simp only [blockQ]
          cases hb : Nat.beq j i with
          | true => rw [if_pos (Nat.eq_of_beq_eq_true hb)]; rw [hb] at hQ; exact hQ
          | false =>
            rw [if_neg (fun e => by subst e; simp at hb)]; rw [hb] at hQ; exact hQ
    | loop y => cases h
    | scope y =>
      simp only [xcode] at h
      exact Ev.scope (ih _ _ _ _ _ _ _ _ _ h hob hQ)
    | region id ops draw =>
      simp only [xcode] at h
      split at h
      · rename_i l env1 s1 os1 o1 hr
        cases hb : (!draw || (edgesB ops && freeB ops (ancs ops.toList []) l)) with
        | false => rw [hb] at h; cases h
        | true =>
          rw [hb] at h
          simp only [cond_true, Option.some.injEq, Prod.mk.injEq] at h
          obtain ⟨rfl, rfl, rfl, rfl, rfl⟩ := h
          exact xregion_any hp hm hr hb hob hQ
      · cases h
    | rangeFunc => cases h
    | goto => cases h
    | refuse => cases h

end Go.Ab
