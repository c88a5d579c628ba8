/-
  NARROWER THAN 'FOR EVERY INPUT', by the rows' own cells (each row's printed sentence says how): UnifyLeft: loops · UnifyGeneral: loops · UnifyHolds: loops · SplitLeft: loops.
  DERIVED. THE GIVEN ROWS OF THIS SEAT. 4 by the template 'for every input the law returns true; each argument reads behind the call as it read before'; 0 by the template 'total and deterministic' (their statements: YtfbkefchjcocmaaGreatTotals.lean).
  GIVEN WITH THE SEED: the statements are not yours to turn. If you find one false, say at which input.
  Laid BY PROGRAM, IN A SANDBOX (cutbox-rows.mjs): the forced cells as the released guide's own fill.sh prints them over the translation 9134c7ecfcf28949… (all of the seat's roots in one cut). By AI agents, Wed Nov 11 2026. No macro, syntax, notation, axiom, sorry.
-/
import Derived.Test.YtfbkefchjcocmaaGreatChecked
import GoSem.Claim
import GoSem.ClaimJoined
import GoSem.ClaimMapViews
import Derived.JoinedTies
import Derived.KernelRfl
namespace Go.Proofs.YtfbkefchjcocmaaGreat
/- THE CELL 'sum', in the pinned program and in every row, IS THE sha256 OF THE DUMP (.gsa) THAT YtfbkefchjcocmaaGreatProg.lean LOADS. Nothing in Lean hashes anything: it is a label: what it is worth is what the hold of that sum in a sandbox is worth. -/
noncomputable def Tryz.pinned : Pinned := { name := "ytfbkefchjcocmaagreat", sum := "9134c7ecfcf28949dfd5d27e9980acd2471d3c559d4028efae3b4e20a960015f", checked := Tryz.checked }
namespace Rows
def none {H : Type} : Left H := { results := [], args := [] }

/-- 'scholiumlaw23.UnifyLeft': WHATEVER THE INPUT: true; the input reads as it did. -/
def unifyLeftSpec : ChangeSpec := { name := "unifyLeft", fn := fun _ => fun
  | [d1, d2] => { results := [.lit (.bool true)], args := [d1, d2] }
  | _ => none }
def unifyLeftRow : OpenClaim := { program := "ytfbkefchjcocmaagreat", sum := "9134c7ecfcf28949dfd5d27e9980acd2471d3c559d4028efae3b4e20a960015f", func := "scholium/scholiumlaw23.UnifyLeft", spec := "unifyLeft", inPlace := ["sync/atomic.StoreInt64", "sync/atomic.LoadInt64", "sync/atomic.AddInt64"], unfollowed := true, recurses := true, loops := true, apart := false }
def UnifyLeftSaid : Prop := unifyLeftRow.holds Tryz.pinned (OpenSpec.ofChange unifyLeftSpec)

/-- ITS FALSE NEIGHBOUR: 'it returns false'. Refute it at one input. -/
def unifyLeftWrong : ChangeSpec := { name := "unifyLeft", fn := fun _ => fun
  | [d1, d2] => { results := [.lit (.bool false)], args := [d1, d2] }
  | _ => none }
def UnifyLeftWrongFalsely : Prop := unifyLeftRow.holds Tryz.pinned (OpenSpec.ofChange unifyLeftWrong)

/-- 'scholiumlaw23.UnifyGeneral': WHATEVER THE INPUT: true; the input reads as it did. -/
def unifyGeneralSpec : ChangeSpec := { name := "unifyGeneral", fn := fun _ => fun
  | [d1, d2] => { results := [.lit (.bool true)], args := [d1, d2] }
  | _ => none }
def unifyGeneralRow : OpenClaim := { program := "ytfbkefchjcocmaagreat", sum := "9134c7ecfcf28949dfd5d27e9980acd2471d3c559d4028efae3b4e20a960015f", func := "scholium/scholiumlaw23.UnifyGeneral", spec := "unifyGeneral", inPlace := ["sync/atomic.StoreInt64", "sync/atomic.LoadInt64", "sync/atomic.AddInt64"], unfollowed := true, recurses := true, loops := true, apart := false }
def UnifyGeneralSaid : Prop := unifyGeneralRow.holds Tryz.pinned (OpenSpec.ofChange unifyGeneralSpec)

/-- ITS FALSE NEIGHBOUR: 'it returns false'. Refute it at one input. -/
def unifyGeneralWrong : ChangeSpec := { name := "unifyGeneral", fn := fun _ => fun
  | [d1, d2] => { results := [.lit (.bool false)], args := [d1, d2] }
  | _ => none }
def UnifyGeneralWrongFalsely : Prop := unifyGeneralRow.holds Tryz.pinned (OpenSpec.ofChange unifyGeneralWrong)

/-- 'scholiumlaw23.UnifyHolds': WHATEVER THE INPUT: true; the input reads as it did. -/
def unifyHoldsSpec : ChangeSpec := { name := "unifyHolds", fn := fun _ => fun
  | [d] => { results := [.lit (.bool true)], args := [d] }
  | _ => none }
def unifyHoldsRow : OpenClaim := { program := "ytfbkefchjcocmaagreat", sum := "9134c7ecfcf28949dfd5d27e9980acd2471d3c559d4028efae3b4e20a960015f", func := "scholium/scholiumlaw23.UnifyHolds", spec := "unifyHolds", inPlace := ["sync/atomic.StoreInt64", "sync/atomic.LoadInt64", "sync/atomic.AddInt64"], unfollowed := true, recurses := true, loops := true, apart := false }
def UnifyHoldsSaid : Prop := unifyHoldsRow.holds Tryz.pinned (OpenSpec.ofChange unifyHoldsSpec)

/-- ITS FALSE NEIGHBOUR: 'it returns false'. Refute it at one input. -/
def unifyHoldsWrong : ChangeSpec := { name := "unifyHolds", fn := fun _ => fun
  | [d] => { results := [.lit (.bool false)], args := [d] }
  | _ => none }
def UnifyHoldsWrongFalsely : Prop := unifyHoldsRow.holds Tryz.pinned (OpenSpec.ofChange unifyHoldsWrong)

/-- 'scholiumlaw25.SplitLeft': WHATEVER THE INPUT: true; the input reads as it did. -/
def splitLeftSpec : ChangeSpec := { name := "splitLeft", fn := fun _ => fun
  | [d1, d2, d3] => { results := [.lit (.bool true)], args := [d1, d2, d3] }
  | _ => none }
def splitLeftRow : OpenClaim := { program := "ytfbkefchjcocmaagreat", sum := "9134c7ecfcf28949dfd5d27e9980acd2471d3c559d4028efae3b4e20a960015f", func := "scholium/scholiumlaw25.SplitLeft", spec := "splitLeft", inPlace := ["sync/atomic.StoreInt64", "sync/atomic.LoadInt64", "sync/atomic.AddInt64"], unfollowed := true, recurses := true, loops := true, apart := false }
def SplitLeftSaid : Prop := splitLeftRow.holds Tryz.pinned (OpenSpec.ofChange splitLeftSpec)

/-- ITS FALSE NEIGHBOUR: 'it returns false'. Refute it at one input. -/
def splitLeftWrong : ChangeSpec := { name := "splitLeft", fn := fun _ => fun
  | [d1, d2, d3] => { results := [.lit (.bool false)], args := [d1, d2, d3] }
  | _ => none }
def SplitLeftWrongFalsely : Prop := splitLeftRow.holds Tryz.pinned (OpenSpec.ofChange splitLeftWrong)

/- THE SECOND FORM. 'bulk': how many values and letters a reading holds, each counted each time it is reached (what is shared counts as often as it is met; a slice's spare places count too). A statement '..UptoSaid' is the law's where the arguments, and the package variables that the reading takes, are together of bulk at most 1048576: NARROWER than '..Said'. Prove '..Said' where nothing that the law and all that it calls make is longer than what came in: it says more and counts as full. Else prove '..UptoSaid'. A law counts once. -/
mutual
def uptoBulk {H : Type} : DataW H → Nat
  | .lit (.string bytes) => bytes.length + 1
  | .lit _ => 1
  | .nil => 1
  | .ptr d => uptoBulk d + 1
  | .slice elems spare => uptoBulkAll elems + uptoBulkAll spare + 1
  | .agg parts => uptoBulkAll parts + 1
  | .iface _ d => uptoBulk d + 1
  | .map entries => uptoBulkEntries entries + 1
  | .held _ => 1
def uptoBulkAll {H : Type} : List (DataW H) → Nat
  | [] => 0
  | d :: r => uptoBulk d + uptoBulkAll r
def uptoBulkEntries {H : Type} : List (Lit × DataW H) → Nat
  | [] => 0
  | x :: r => uptoBulkEntry x + uptoBulkEntries r
def uptoBulkEntry {H : Type} : Lit × DataW H → Nat
  | (.string bytes, d) => bytes.length + uptoBulk d + 1
  | (_, d) => uptoBulk d + 1
 end
def uptoSmall : (H : Type) → List (DataW H) → Bool := fun _ ds => decide (uptoBulkAll ds ≤ 1048576)
def OpenSpec.upto (s : _root_.Go.ChangeSpec) : _root_.Go.OpenSpec := { _root_.Go.OpenSpec.ofChange s with cond := some uptoSmall }

/-- 'scholiumlaw23.UnifyLeft', WHERE WHAT IT READS IS OF BULK AT MOST 1048576: true; the input reads as it did. -/
def unifyLeftUptoRow : OpenClaim := { program := "ytfbkefchjcocmaagreat", sum := "9134c7ecfcf28949dfd5d27e9980acd2471d3c559d4028efae3b4e20a960015f", func := "scholium/scholiumlaw23.UnifyLeft", spec := "unifyLeft", inPlace := ["sync/atomic.StoreInt64", "sync/atomic.LoadInt64", "sync/atomic.AddInt64"], unfollowed := true, recurses := true, loops := true, apart := false, narrowed := true }
def UnifyLeftUptoSaid : Prop := unifyLeftUptoRow.holds Tryz.pinned (OpenSpec.upto unifyLeftSpec)

/-- 'scholiumlaw23.UnifyGeneral', WHERE WHAT IT READS IS OF BULK AT MOST 1048576: true; the input reads as it did. -/
def unifyGeneralUptoRow : OpenClaim := { program := "ytfbkefchjcocmaagreat", sum := "9134c7ecfcf28949dfd5d27e9980acd2471d3c559d4028efae3b4e20a960015f", func := "scholium/scholiumlaw23.UnifyGeneral", spec := "unifyGeneral", inPlace := ["sync/atomic.StoreInt64", "sync/atomic.LoadInt64", "sync/atomic.AddInt64"], unfollowed := true, recurses := true, loops := true, apart := false, narrowed := true }
def UnifyGeneralUptoSaid : Prop := unifyGeneralUptoRow.holds Tryz.pinned (OpenSpec.upto unifyGeneralSpec)

/-- 'scholiumlaw23.UnifyHolds', WHERE WHAT IT READS IS OF BULK AT MOST 1048576: true; the input reads as it did. -/
def unifyHoldsUptoRow : OpenClaim := { program := "ytfbkefchjcocmaagreat", sum := "9134c7ecfcf28949dfd5d27e9980acd2471d3c559d4028efae3b4e20a960015f", func := "scholium/scholiumlaw23.UnifyHolds", spec := "unifyHolds", inPlace := ["sync/atomic.StoreInt64", "sync/atomic.LoadInt64", "sync/atomic.AddInt64"], unfollowed := true, recurses := true, loops := true, apart := false, narrowed := true }
def UnifyHoldsUptoSaid : Prop := unifyHoldsUptoRow.holds Tryz.pinned (OpenSpec.upto unifyHoldsSpec)

/-- 'scholiumlaw25.SplitLeft', WHERE WHAT IT READS IS OF BULK AT MOST 1048576: true; the input reads as it did. -/
def splitLeftUptoRow : OpenClaim := { program := "ytfbkefchjcocmaagreat", sum := "9134c7ecfcf28949dfd5d27e9980acd2471d3c559d4028efae3b4e20a960015f", func := "scholium/scholiumlaw25.SplitLeft", spec := "splitLeft", inPlace := ["sync/atomic.StoreInt64", "sync/atomic.LoadInt64", "sync/atomic.AddInt64"], unfollowed := true, recurses := true, loops := true, apart := false, narrowed := true }
def SplitLeftUptoSaid : Prop := splitLeftUptoRow.holds Tryz.pinned (OpenSpec.upto splitLeftSpec)

end Rows
end Go.Proofs.YtfbkefchjcocmaaGreat
