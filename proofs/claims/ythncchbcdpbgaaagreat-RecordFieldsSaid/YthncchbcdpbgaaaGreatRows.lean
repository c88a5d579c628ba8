/-
  NARROWER THAN 'FOR EVERY INPUT', by the rows' own cells (each row's printed sentence says how): RecordFields: loops.
  DERIVED. THE GIVEN ROWS OF THIS SEAT. 4 by the template 'for every input the law returns true; each argument reads behind the call as it read before'; 0 by the template 'total and deterministic' (their statements: YthncchbcdpbgaaaGreatTotals.lean).
  GIVEN WITH THE SEED: the statements are not yours to turn. If you find one false, say at which input.
  Laid BY PROGRAM, IN A SANDBOX (cutbox-rows.mjs): the forced cells as the released guide's own fill.sh prints them over the translation ff168b92b1a16f0b… (all of the seat's roots in one cut). By AI agents, Wed Nov 11 2026. No macro, syntax, notation, axiom, sorry.
-/
import Derived.Test.YthncchbcdpbgaaaGreatChecked
import GoSem.Claim
import GoSem.ClaimJoined
import GoSem.ClaimMapViews
import Derived.JoinedTies
import Derived.KernelRfl
namespace Go.Proofs.YthncchbcdpbgaaaGreat
/- THE CELL 'sum', in the pinned program and in every row, IS THE sha256 OF THE DUMP (.gsa) THAT YthncchbcdpbgaaaGreatProg.lean LOADS. Nothing in Lean hashes anything: it is a label: what it is worth is what the hold of that sum in a sandbox is worth. -/
noncomputable def Tryz.pinned : Pinned := { name := "ythncchbcdpbgaaagreat", sum := "ff168b92b1a16f0b2f672bfa5d315edbdf6f498cbd0786c140417944ff074649", checked := Tryz.checked }
namespace Rows
def none {H : Type} : Left H := { results := [], args := [] }

/-- 'scholiumlaw21.RecordFuel': WHATEVER THE INPUT: true; the input reads as it did. -/
def recordFuelSpec : ChangeSpec := { name := "recordFuel", fn := fun _ => fun
  | [d1, d2, d3] => { results := [.lit (.bool true)], args := [d1, d2, d3] }
  | _ => none }
def recordFuelRow : OpenClaim := { program := "ythncchbcdpbgaaagreat", sum := "ff168b92b1a16f0b2f672bfa5d315edbdf6f498cbd0786c140417944ff074649", func := "scholium/scholiumlaw21.RecordFuel", spec := "recordFuel", inPlace := ["sync/atomic.StoreInt64", "sync/atomic.LoadInt64", "sync/atomic.AddInt64"], unfollowed := true, recurses := true, apart := false }
def RecordFuelSaid : Prop := recordFuelRow.holds Tryz.pinned (OpenSpec.ofChange recordFuelSpec)

/-- ITS FALSE NEIGHBOUR: 'it returns false'. Refute it at one input. -/
def recordFuelWrong : ChangeSpec := { name := "recordFuel", fn := fun _ => fun
  | [d1, d2, d3] => { results := [.lit (.bool false)], args := [d1, d2, d3] }
  | _ => none }
def RecordFuelWrongFalsely : Prop := recordFuelRow.holds Tryz.pinned (OpenSpec.ofChange recordFuelWrong)

/-- 'scholiumlaw21.RecordFields': WHATEVER THE INPUT: true; the input reads as it did. -/
def recordFieldsSpec : ChangeSpec := { name := "recordFields", fn := fun _ => fun
  | [d1, d2] => { results := [.lit (.bool true)], args := [d1, d2] }
  | _ => none }
def recordFieldsRow : OpenClaim := { program := "ythncchbcdpbgaaagreat", sum := "ff168b92b1a16f0b2f672bfa5d315edbdf6f498cbd0786c140417944ff074649", func := "scholium/scholiumlaw21.RecordFields", spec := "recordFields", inPlace := ["sync/atomic.StoreInt64", "sync/atomic.LoadInt64", "sync/atomic.AddInt64"], unfollowed := true, recurses := true, loops := true, apart := false }
def RecordFieldsSaid : Prop := recordFieldsRow.holds Tryz.pinned (OpenSpec.ofChange recordFieldsSpec)

/-- ITS FALSE NEIGHBOUR: 'it returns false'. Refute it at one input. -/
def recordFieldsWrong : ChangeSpec := { name := "recordFields", fn := fun _ => fun
  | [d1, d2] => { results := [.lit (.bool false)], args := [d1, d2] }
  | _ => none }
def RecordFieldsWrongFalsely : Prop := recordFieldsRow.holds Tryz.pinned (OpenSpec.ofChange recordFieldsWrong)

/-- 'scholiumlaw20.DataFuel': WHATEVER THE INPUT: true; the input reads as it did. -/
def dataFuelSpec : ChangeSpec := { name := "dataFuel", fn := fun _ => fun
  | [d1, d2, d3] => { results := [.lit (.bool true)], args := [d1, d2, d3] }
  | _ => none }
def dataFuelRow : OpenClaim := { program := "ythncchbcdpbgaaagreat", sum := "ff168b92b1a16f0b2f672bfa5d315edbdf6f498cbd0786c140417944ff074649", func := "scholium/scholiumlaw20.DataFuel", spec := "dataFuel", inPlace := ["sync/atomic.StoreInt64", "sync/atomic.LoadInt64", "sync/atomic.AddInt64"], unfollowed := true, recurses := true, apart := false }
def DataFuelSaid : Prop := dataFuelRow.holds Tryz.pinned (OpenSpec.ofChange dataFuelSpec)

/-- ITS FALSE NEIGHBOUR: 'it returns false'. Refute it at one input. -/
def dataFuelWrong : ChangeSpec := { name := "dataFuel", fn := fun _ => fun
  | [d1, d2, d3] => { results := [.lit (.bool false)], args := [d1, d2, d3] }
  | _ => none }
def DataFuelWrongFalsely : Prop := dataFuelRow.holds Tryz.pinned (OpenSpec.ofChange dataFuelWrong)

/-- 'scholiumlaw20.DataPasses': WHATEVER THE INPUT: true; the input reads as it did. -/
def dataPassesSpec : ChangeSpec := { name := "dataPasses", fn := fun _ => fun
  | [d] => { results := [.lit (.bool true)], args := [d] }
  | _ => none }
def dataPassesRow : OpenClaim := { program := "ythncchbcdpbgaaagreat", sum := "ff168b92b1a16f0b2f672bfa5d315edbdf6f498cbd0786c140417944ff074649", func := "scholium/scholiumlaw20.DataPasses", spec := "dataPasses", inPlace := ["sync/atomic.StoreInt64", "sync/atomic.LoadInt64", "sync/atomic.AddInt64"], unfollowed := true, recurses := true, apart := false }
def DataPassesSaid : Prop := dataPassesRow.holds Tryz.pinned (OpenSpec.ofChange dataPassesSpec)

/-- ITS FALSE NEIGHBOUR: 'it returns false'. Refute it at one input. -/
def dataPassesWrong : ChangeSpec := { name := "dataPasses", fn := fun _ => fun
  | [d] => { results := [.lit (.bool false)], args := [d] }
  | _ => none }
def DataPassesWrongFalsely : Prop := dataPassesRow.holds Tryz.pinned (OpenSpec.ofChange dataPassesWrong)

/- THE SECOND FORM. 'bulk': how many values and letters a reading holds, each counted each time it is reached (what is shared counts as often as it is met; a slice's spare places count too). A statement '..UptoSaid' is the law's where the arguments, and the package variables that the reading takes, are together of bulk at most 1048576: NARROWER than '..Said'. Prove '..Said' where nothing that the law and all that it calls make is longer than what came in: it says more and counts as full. Else prove '..UptoSaid'. A law counts once. -/
mutual
def uptoBulk {H : Type} : DataW H → Nat
  | .lit (.string bytes) => bytes.length + 1
  | .lit _ => 1
  | .nil => 1
  | .ptr d => uptoBulk d + 1
  | .slice elems spare => uptoBulkAll elems + uptoBulkAll spare + 1
  | .agg parts => uptoBulkAll parts + 1
  | .iface _ d => uptoBulk d + 1
  | .map entries => uptoBulkEntries entries + 1
  | .held _ => 1
def uptoBulkAll {H : Type} : List (DataW H) → Nat
  | [] => 0
  | d :: r => uptoBulk d + uptoBulkAll r
def uptoBulkEntries {H : Type} : List (Lit × DataW H) → Nat
  | [] => 0
  | x :: r => uptoBulkEntry x + uptoBulkEntries r
def uptoBulkEntry {H : Type} : Lit × DataW H → Nat
  | (.string bytes, d) => bytes.length + uptoBulk d + 1
  | (_, d) => uptoBulk d + 1
 end
def uptoSmall : (H : Type) → List (DataW H) → Bool := fun _ ds => decide (uptoBulkAll ds ≤ 1048576)
def OpenSpec.upto (s : _root_.Go.ChangeSpec) : _root_.Go.OpenSpec := { _root_.Go.OpenSpec.ofChange s with cond := some uptoSmall }

/-- 'scholiumlaw21.RecordFuel', WHERE WHAT IT READS IS OF BULK AT MOST 1048576: true; the input reads as it did. -/
def recordFuelUptoRow : OpenClaim := { program := "ythncchbcdpbgaaagreat", sum := "ff168b92b1a16f0b2f672bfa5d315edbdf6f498cbd0786c140417944ff074649", func := "scholium/scholiumlaw21.RecordFuel", spec := "recordFuel", inPlace := ["sync/atomic.StoreInt64", "sync/atomic.LoadInt64", "sync/atomic.AddInt64"], unfollowed := true, recurses := true, apart := false, narrowed := true }
def RecordFuelUptoSaid : Prop := recordFuelUptoRow.holds Tryz.pinned (OpenSpec.upto recordFuelSpec)

/-- 'scholiumlaw21.RecordFields', WHERE WHAT IT READS IS OF BULK AT MOST 1048576: true; the input reads as it did. -/
def recordFieldsUptoRow : OpenClaim := { program := "ythncchbcdpbgaaagreat", sum := "ff168b92b1a16f0b2f672bfa5d315edbdf6f498cbd0786c140417944ff074649", func := "scholium/scholiumlaw21.RecordFields", spec := "recordFields", inPlace := ["sync/atomic.StoreInt64", "sync/atomic.LoadInt64", "sync/atomic.AddInt64"], unfollowed := true, recurses := true, loops := true, apart := false, narrowed := true }
def RecordFieldsUptoSaid : Prop := recordFieldsUptoRow.holds Tryz.pinned (OpenSpec.upto recordFieldsSpec)

/-- 'scholiumlaw20.DataFuel', WHERE WHAT IT READS IS OF BULK AT MOST 1048576: true; the input reads as it did. -/
def dataFuelUptoRow : OpenClaim := { program := "ythncchbcdpbgaaagreat", sum := "ff168b92b1a16f0b2f672bfa5d315edbdf6f498cbd0786c140417944ff074649", func := "scholium/scholiumlaw20.DataFuel", spec := "dataFuel", inPlace := ["sync/atomic.StoreInt64", "sync/atomic.LoadInt64", "sync/atomic.AddInt64"], unfollowed := true, recurses := true, apart := false, narrowed := true }
def DataFuelUptoSaid : Prop := dataFuelUptoRow.holds Tryz.pinned (OpenSpec.upto dataFuelSpec)

/-- 'scholiumlaw20.DataPasses', WHERE WHAT IT READS IS OF BULK AT MOST 1048576: true; the input reads as it did. -/
def dataPassesUptoRow : OpenClaim := { program := "ythncchbcdpbgaaagreat", sum := "ff168b92b1a16f0b2f672bfa5d315edbdf6f498cbd0786c140417944ff074649", func := "scholium/scholiumlaw20.DataPasses", spec := "dataPasses", inPlace := ["sync/atomic.StoreInt64", "sync/atomic.LoadInt64", "sync/atomic.AddInt64"], unfollowed := true, recurses := true, apart := false, narrowed := true }
def DataPassesUptoSaid : Prop := dataPassesUptoRow.holds Tryz.pinned (OpenSpec.upto dataPassesSpec)

end Rows
end Go.Proofs.YthncchbcdpbgaaaGreat
