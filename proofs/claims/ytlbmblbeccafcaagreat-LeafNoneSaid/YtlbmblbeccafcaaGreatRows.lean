/-
  NARROWER THAN 'FOR EVERY INPUT', by the rows' own cells (each row's printed sentence says how): LeafNone: loops · UnifyRefuses: loops.
  DERIVED. THE GIVEN ROWS OF THIS SEAT. 4 by the template 'for every input the law returns true; each argument reads behind the call as it read before'; 0 by the template 'total and deterministic' (their statements: YtlbmblbeccafcaaGreatTotals.lean).
  GIVEN WITH THE SEED: the statements are not yours to turn. If you find one false, say at which input.
  Laid BY PROGRAM, IN A SANDBOX (cutbox-rows.mjs): the forced cells as the released guide's own fill.sh prints them over the translation e2850436c464880c… (all of the seat's roots in one cut). By AI agents, Wed Nov 11 2026. No macro, syntax, notation, axiom, sorry.
-/
import Derived.Test.YtlbmblbeccafcaaGreatChecked
import GoSem.Claim
import GoSem.ClaimJoined
import GoSem.ClaimMapViews
import Derived.JoinedTies
import Derived.KernelRfl
namespace Go.Proofs.YtlbmblbeccafcaaGreat
/- THE CELL 'sum', in the pinned program and in every row, IS THE sha256 OF THE DUMP (.gsa) THAT YtlbmblbeccafcaaGreatProg.lean LOADS. Nothing in Lean hashes anything: it is a label: what it is worth is what the hold of that sum in a sandbox is worth. -/
noncomputable def Tryz.pinned : Pinned := { name := "ytlbmblbeccafcaagreat", sum := "e2850436c464880cda90425d89dd3fa7483972cd5b5ffe22a8a4b41e66da9f55", checked := Tryz.checked }
namespace Rows
def none {H : Type} : Left H := { results := [], args := [] }

/-- 'scholiumlaw27.LeafNone': WHATEVER THE INPUT: true; the input reads as it did. -/
def leafNoneSpec : ChangeSpec := { name := "leafNone", fn := fun _ => fun
  | [d1, d2, d3] => { results := [.lit (.bool true)], args := [d1, d2, d3] }
  | _ => none }
def leafNoneRow : OpenClaim := { program := "ytlbmblbeccafcaagreat", sum := "e2850436c464880cda90425d89dd3fa7483972cd5b5ffe22a8a4b41e66da9f55", func := "scholium/scholiumlaw27.LeafNone", spec := "leafNone", inPlace := ["sync/atomic.StoreInt64", "sync/atomic.LoadInt64", "sync/atomic.AddInt64"], unfollowed := true, recurses := true, loops := true, apart := false }
def LeafNoneSaid : Prop := leafNoneRow.holds Tryz.pinned (OpenSpec.ofChange leafNoneSpec)

/-- ITS FALSE NEIGHBOUR: 'it returns false'. Refute it at one input. -/
def leafNoneWrong : ChangeSpec := { name := "leafNone", fn := fun _ => fun
  | [d1, d2, d3] => { results := [.lit (.bool false)], args := [d1, d2, d3] }
  | _ => none }
def LeafNoneWrongFalsely : Prop := leafNoneRow.holds Tryz.pinned (OpenSpec.ofChange leafNoneWrong)

/-- 'scholiumlaw23.UnifyRefuses': WHATEVER THE INPUT: true; the input reads as it did. -/
def unifyRefusesSpec : ChangeSpec := { name := "unifyRefuses", fn := fun _ => fun
  | [d1, d2] => { results := [.lit (.bool true)], args := [d1, d2] }
  | _ => none }
def unifyRefusesRow : OpenClaim := { program := "ytlbmblbeccafcaagreat", sum := "e2850436c464880cda90425d89dd3fa7483972cd5b5ffe22a8a4b41e66da9f55", func := "scholium/scholiumlaw23.UnifyRefuses", spec := "unifyRefuses", inPlace := ["sync/atomic.StoreInt64", "sync/atomic.LoadInt64", "sync/atomic.AddInt64"], unfollowed := true, recurses := true, loops := true, apart := false }
def UnifyRefusesSaid : Prop := unifyRefusesRow.holds Tryz.pinned (OpenSpec.ofChange unifyRefusesSpec)

/-- ITS FALSE NEIGHBOUR: 'it returns false'. Refute it at one input. -/
def unifyRefusesWrong : ChangeSpec := { name := "unifyRefuses", fn := fun _ => fun
  | [d1, d2] => { results := [.lit (.bool false)], args := [d1, d2] }
  | _ => none }
def UnifyRefusesWrongFalsely : Prop := unifyRefusesRow.holds Tryz.pinned (OpenSpec.ofChange unifyRefusesWrong)

/-- 'scholiumlaw25.SplitNone': WHATEVER THE INPUT: true; the input reads as it did. -/
def splitNoneSpec : ChangeSpec := { name := "splitNone", fn := fun _ => fun
  | [d] => { results := [.lit (.bool true)], args := [d] }
  | _ => none }
def splitNoneRow : OpenClaim := { program := "ytlbmblbeccafcaagreat", sum := "e2850436c464880cda90425d89dd3fa7483972cd5b5ffe22a8a4b41e66da9f55", func := "scholium/scholiumlaw25.SplitNone", spec := "splitNone", inPlace := ["sync/atomic.StoreInt64", "sync/atomic.LoadInt64", "sync/atomic.AddInt64"], unfollowed := true, recurses := true, apart := false }
def SplitNoneSaid : Prop := splitNoneRow.holds Tryz.pinned (OpenSpec.ofChange splitNoneSpec)

/-- ITS FALSE NEIGHBOUR: 'it returns false'. Refute it at one input. -/
def splitNoneWrong : ChangeSpec := { name := "splitNone", fn := fun _ => fun
  | [d] => { results := [.lit (.bool false)], args := [d] }
  | _ => none }
def SplitNoneWrongFalsely : Prop := splitNoneRow.holds Tryz.pinned (OpenSpec.ofChange splitNoneWrong)

/-- 'scholiumlaw20.DataBase': WHATEVER THE INPUT: true; the input reads as it did. -/
def dataBaseSpec : ChangeSpec := { name := "dataBase", fn := fun _ => fun
  | [d] => { results := [.lit (.bool true)], args := [d] }
  | _ => none }
def dataBaseRow : OpenClaim := { program := "ytlbmblbeccafcaagreat", sum := "e2850436c464880cda90425d89dd3fa7483972cd5b5ffe22a8a4b41e66da9f55", func := "scholium/scholiumlaw20.DataBase", spec := "dataBase", inPlace := ["sync/atomic.StoreInt64", "sync/atomic.LoadInt64", "sync/atomic.AddInt64"], unfollowed := true, recurses := true, apart := false }
def DataBaseSaid : Prop := dataBaseRow.holds Tryz.pinned (OpenSpec.ofChange dataBaseSpec)

/-- ITS FALSE NEIGHBOUR: 'it returns false'. Refute it at one input. -/
def dataBaseWrong : ChangeSpec := { name := "dataBase", fn := fun _ => fun
  | [d] => { results := [.lit (.bool false)], args := [d] }
  | _ => none }
def DataBaseWrongFalsely : Prop := dataBaseRow.holds Tryz.pinned (OpenSpec.ofChange dataBaseWrong)

/- THE SECOND FORM. 'bulk': how many values and letters a reading holds, each counted each time it is reached (what is shared counts as often as it is met; a slice's spare places count too). A statement '..UptoSaid' is the law's where the arguments, and the package variables that the reading takes, are together of bulk at most 1048576: NARROWER than '..Said'. Prove '..Said' where nothing that the law and all that it calls make is longer than what came in: it says more and counts as full. Else prove '..UptoSaid'. A law counts once. -/
mutual
def uptoBulk {H : Type} : DataW H → Nat
  | .lit (.string bytes) => bytes.length + 1
  | .lit _ => 1
  | .nil => 1
  | .ptr d => uptoBulk d + 1
  | .slice elems spare => uptoBulkAll elems + uptoBulkAll spare + 1
  | .agg parts => uptoBulkAll parts + 1
  | .iface _ d => uptoBulk d + 1
  | .map entries => uptoBulkEntries entries + 1
  | .held _ => 1
def uptoBulkAll {H : Type} : List (DataW H) → Nat
  | [] => 0
  | d :: r => uptoBulk d + uptoBulkAll r
def uptoBulkEntries {H : Type} : List (Lit × DataW H) → Nat
  | [] => 0
  | x :: r => uptoBulkEntry x + uptoBulkEntries r
def uptoBulkEntry {H : Type} : Lit × DataW H → Nat
  | (.string bytes, d) => bytes.length + uptoBulk d + 1
  | (_, d) => uptoBulk d + 1
 end
def uptoSmall : (H : Type) → List (DataW H) → Bool := fun _ ds => decide (uptoBulkAll ds ≤ 1048576)
def OpenSpec.upto (s : _root_.Go.ChangeSpec) : _root_.Go.OpenSpec := { _root_.Go.OpenSpec.ofChange s with cond := some uptoSmall }

/-- 'scholiumlaw27.LeafNone', WHERE WHAT IT READS IS OF BULK AT MOST 1048576: true; the input reads as it did. -/
def leafNoneUptoRow : OpenClaim := { program := "ytlbmblbeccafcaagreat", sum := "e2850436c464880cda90425d89dd3fa7483972cd5b5ffe22a8a4b41e66da9f55", func := "scholium/scholiumlaw27.LeafNone", spec := "leafNone", inPlace := ["sync/atomic.StoreInt64", "sync/atomic.LoadInt64", "sync/atomic.AddInt64"], unfollowed := true, recurses := true, loops := true, apart := false, narrowed := true }
def LeafNoneUptoSaid : Prop := leafNoneUptoRow.holds Tryz.pinned (OpenSpec.upto leafNoneSpec)

/-- 'scholiumlaw23.UnifyRefuses', WHERE WHAT IT READS IS OF BULK AT MOST 1048576: true; the input reads as it did. -/
def unifyRefusesUptoRow : OpenClaim := { program := "ytlbmblbeccafcaagreat", sum := "e2850436c464880cda90425d89dd3fa7483972cd5b5ffe22a8a4b41e66da9f55", func := "scholium/scholiumlaw23.UnifyRefuses", spec := "unifyRefuses", inPlace := ["sync/atomic.StoreInt64", "sync/atomic.LoadInt64", "sync/atomic.AddInt64"], unfollowed := true, recurses := true, loops := true, apart := false, narrowed := true }
def UnifyRefusesUptoSaid : Prop := unifyRefusesUptoRow.holds Tryz.pinned (OpenSpec.upto unifyRefusesSpec)

/-- 'scholiumlaw25.SplitNone', WHERE WHAT IT READS IS OF BULK AT MOST 1048576: true; the input reads as it did. -/
def splitNoneUptoRow : OpenClaim := { program := "ytlbmblbeccafcaagreat", sum := "e2850436c464880cda90425d89dd3fa7483972cd5b5ffe22a8a4b41e66da9f55", func := "scholium/scholiumlaw25.SplitNone", spec := "splitNone", inPlace := ["sync/atomic.StoreInt64", "sync/atomic.LoadInt64", "sync/atomic.AddInt64"], unfollowed := true, recurses := true, apart := false, narrowed := true }
def SplitNoneUptoSaid : Prop := splitNoneUptoRow.holds Tryz.pinned (OpenSpec.upto splitNoneSpec)

/-- 'scholiumlaw20.DataBase', WHERE WHAT IT READS IS OF BULK AT MOST 1048576: true; the input reads as it did. -/
def dataBaseUptoRow : OpenClaim := { program := "ytlbmblbeccafcaagreat", sum := "e2850436c464880cda90425d89dd3fa7483972cd5b5ffe22a8a4b41e66da9f55", func := "scholium/scholiumlaw20.DataBase", spec := "dataBase", inPlace := ["sync/atomic.StoreInt64", "sync/atomic.LoadInt64", "sync/atomic.AddInt64"], unfollowed := true, recurses := true, apart := false, narrowed := true }
def DataBaseUptoSaid : Prop := dataBaseUptoRow.holds Tryz.pinned (OpenSpec.upto dataBaseSpec)

end Rows
end Go.Proofs.YtlbmblbeccafcaaGreat
