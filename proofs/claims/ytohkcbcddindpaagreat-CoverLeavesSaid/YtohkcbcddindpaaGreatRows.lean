/-
  NARROWER THAN 'FOR EVERY INPUT', by the rows' own cells (each row's printed sentence says how): CoverFuel: loops · CoverLeaves: loops.
  DERIVED. THE GIVEN ROWS OF THIS SEAT. 2 by the template 'for every input the law returns true; each argument reads behind the call as it read before'; 0 by the template 'total and deterministic' (their statements: YtohkcbcddindpaaGreatTotals.lean).
  GIVEN WITH THE SEED: the statements are not yours to turn. If you find one false, say at which input.
  Laid BY PROGRAM, IN A SANDBOX (cutbox-rows.mjs): the forced cells as the released guide's own fill.sh prints them over the translation da4710fa63136647… (all of the seat's roots in one cut). By AI agents, Wed Nov 11 2026. No macro, syntax, notation, axiom, sorry.
-/
import Derived.Test.YtohkcbcddindpaaGreatChecked
import GoSem.Claim
import GoSem.ClaimJoined
import GoSem.ClaimMapViews
import Derived.JoinedTies
import Derived.KernelRfl
namespace Go.Proofs.YtohkcbcddindpaaGreat
/- THE CELL 'sum', in the pinned program and in every row, IS THE sha256 OF THE DUMP (.gsa) THAT YtohkcbcddindpaaGreatProg.lean LOADS. Nothing in Lean hashes anything: it is a label: what it is worth is what the hold of that sum in a sandbox is worth. -/
noncomputable def Tryz.pinned : Pinned := { name := "ytohkcbcddindpaagreat", sum := "da4710fa63136647f3514170b352edd994174f04465151e4c4a766a2cc938456", checked := Tryz.checked }
namespace Rows
def none {H : Type} : Left H := { results := [], args := [] }

/-- 'scholiumlaw26.CoverFuel': WHATEVER THE INPUT: true; the input reads as it did. -/
def coverFuelSpec : ChangeSpec := { name := "coverFuel", fn := fun _ => fun
  | [d1, d2] => { results := [.lit (.bool true)], args := [d1, d2] }
  | _ => none }
def coverFuelRow : OpenClaim := { program := "ytohkcbcddindpaagreat", sum := "da4710fa63136647f3514170b352edd994174f04465151e4c4a766a2cc938456", func := "scholium/scholiumlaw26.CoverFuel", spec := "coverFuel", inPlace := ["sync/atomic.StoreInt64", "sync/atomic.LoadInt64", "sync/atomic.AddInt64"], unfollowed := true, recurses := true, loops := true, apart := false }
def CoverFuelSaid : Prop := coverFuelRow.holds Tryz.pinned (OpenSpec.ofChange coverFuelSpec)

/-- ITS FALSE NEIGHBOUR: 'it returns false'. Refute it at one input. -/
def coverFuelWrong : ChangeSpec := { name := "coverFuel", fn := fun _ => fun
  | [d1, d2] => { results := [.lit (.bool false)], args := [d1, d2] }
  | _ => none }
def CoverFuelWrongFalsely : Prop := coverFuelRow.holds Tryz.pinned (OpenSpec.ofChange coverFuelWrong)

/-- 'scholiumlaw26.CoverLeaves': WHATEVER THE INPUT: true; the input reads as it did. -/
def coverLeavesSpec : ChangeSpec := { name := "coverLeaves", fn := fun _ => fun
  | [d1, d2] => { results := [.lit (.bool true)], args := [d1, d2] }
  | _ => none }
def coverLeavesRow : OpenClaim := { program := "ytohkcbcddindpaagreat", sum := "da4710fa63136647f3514170b352edd994174f04465151e4c4a766a2cc938456", func := "scholium/scholiumlaw26.CoverLeaves", spec := "coverLeaves", inPlace := ["sync/atomic.StoreInt64", "sync/atomic.LoadInt64", "sync/atomic.AddInt64"], unfollowed := true, recurses := true, loops := true, apart := false }
def CoverLeavesSaid : Prop := coverLeavesRow.holds Tryz.pinned (OpenSpec.ofChange coverLeavesSpec)

/-- ITS FALSE NEIGHBOUR: 'it returns false'. Refute it at one input. -/
def coverLeavesWrong : ChangeSpec := { name := "coverLeaves", fn := fun _ => fun
  | [d1, d2] => { results := [.lit (.bool false)], args := [d1, d2] }
  | _ => none }
def CoverLeavesWrongFalsely : Prop := coverLeavesRow.holds Tryz.pinned (OpenSpec.ofChange coverLeavesWrong)

/- THE SECOND FORM. 'bulk': how many values and letters a reading holds, each counted each time it is reached (what is shared counts as often as it is met; a slice's spare places count too). A statement '..UptoSaid' is the law's where the arguments, and the package variables that the reading takes, are together of bulk at most 1048576: NARROWER than '..Said'. Prove '..Said' where nothing that the law and all that it calls make is longer than what came in: it says more and counts as full. Else prove '..UptoSaid'. A law counts once. -/
mutual
def uptoBulk {H : Type} : DataW H → Nat
  | .lit (.string bytes) => bytes.length + 1
  | .lit _ => 1
  | .nil => 1
  | .ptr d => uptoBulk d + 1
  | .slice elems spare => uptoBulkAll elems + uptoBulkAll spare + 1
  | .agg parts => uptoBulkAll parts + 1
  | .iface _ d => uptoBulk d + 1
  | .map entries => uptoBulkEntries entries + 1
  | .held _ => 1
def uptoBulkAll {H : Type} : List (DataW H) → Nat
  | [] => 0
  | d :: r => uptoBulk d + uptoBulkAll r
def uptoBulkEntries {H : Type} : List (Lit × DataW H) → Nat
  | [] => 0
  | x :: r => uptoBulkEntry x + uptoBulkEntries r
def uptoBulkEntry {H : Type} : Lit × DataW H → Nat
  | (.string bytes, d) => bytes.length + uptoBulk d + 1
  | (_, d) => uptoBulk d + 1
 end
def uptoSmall : (H : Type) → List (DataW H) → Bool := fun _ ds => decide (uptoBulkAll ds ≤ 1048576)
def OpenSpec.upto (s : _root_.Go.ChangeSpec) : _root_.Go.OpenSpec := { _root_.Go.OpenSpec.ofChange s with cond := some uptoSmall }

/-- 'scholiumlaw26.CoverFuel', WHERE WHAT IT READS IS OF BULK AT MOST 1048576: true; the input reads as it did. -/
def coverFuelUptoRow : OpenClaim := { program := "ytohkcbcddindpaagreat", sum := "da4710fa63136647f3514170b352edd994174f04465151e4c4a766a2cc938456", func := "scholium/scholiumlaw26.CoverFuel", spec := "coverFuel", inPlace := ["sync/atomic.StoreInt64", "sync/atomic.LoadInt64", "sync/atomic.AddInt64"], unfollowed := true, recurses := true, loops := true, apart := false, narrowed := true }
def CoverFuelUptoSaid : Prop := coverFuelUptoRow.holds Tryz.pinned (OpenSpec.upto coverFuelSpec)

/-- 'scholiumlaw26.CoverLeaves', WHERE WHAT IT READS IS OF BULK AT MOST 1048576: true; the input reads as it did. -/
def coverLeavesUptoRow : OpenClaim := { program := "ytohkcbcddindpaagreat", sum := "da4710fa63136647f3514170b352edd994174f04465151e4c4a766a2cc938456", func := "scholium/scholiumlaw26.CoverLeaves", spec := "coverLeaves", inPlace := ["sync/atomic.StoreInt64", "sync/atomic.LoadInt64", "sync/atomic.AddInt64"], unfollowed := true, recurses := true, loops := true, apart := false, narrowed := true }
def CoverLeavesUptoSaid : Prop := coverLeavesUptoRow.holds Tryz.pinned (OpenSpec.upto coverLeavesSpec)

end Rows
end Go.Proofs.YtohkcbcddindpaaGreat
