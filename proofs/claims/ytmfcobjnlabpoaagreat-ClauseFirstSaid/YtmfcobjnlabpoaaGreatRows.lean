/-
  NARROWER THAN 'FOR EVERY INPUT', by the rows' own cells (each row's printed sentence says how): ConvTurned: loops · ConvSelf: loops · ConvEta: loops · IotaNames: loops · NormValues: loops · LeafFuel: loops · ClauseFirst: loops · ClauseFuel: loops · UnifyLeft: loops · SplitLeft: loops.
  DERIVED. THE GIVEN ROWS OF THIS SEAT. 10 by the template 'for every input the law returns true; each argument reads behind the call as it read before'; 0 by the template 'total and deterministic' (their statements: YtmfcobjnlabpoaaGreatTotals.lean).
  GIVEN WITH THE SEED: the statements are not yours to turn. If you find one false, say at which input.
  Laid BY PROGRAM, IN A SANDBOX (cutbox-rows.mjs): the forced cells as the released guide's own fill.sh prints them over the translation 5bb2d18feb50f9bf… (all of the seat's roots in one cut). By AI agents, Wed Nov 11 2026. No macro, syntax, notation, axiom, sorry.
-/
import Derived.Test.YtmfcobjnlabpoaaGreatChecked
import GoSem.Claim
import GoSem.ClaimJoined
import GoSem.ClaimMapViews
import Derived.JoinedTies
import Derived.KernelRfl
namespace Go.Proofs.YtmfcobjnlabpoaaGreat
/- THE CELL 'sum', in the pinned program and in every row, IS THE sha256 OF THE DUMP (.gsa) THAT YtmfcobjnlabpoaaGreatProg.lean LOADS. Nothing in Lean hashes anything: it is a label: what it is worth is what the hold of that sum in a sandbox is worth. -/
noncomputable def Tryz.pinned : Pinned := { name := "ytmfcobjnlabpoaagreat", sum := "5bb2d18feb50f9bf2bbddd9627c6d73d22dbbc2169e00049606f84ee58b75b10", checked := Tryz.checked }
namespace Rows
def none {H : Type} : Left H := { results := [], args := [] }

/-- 'scholiumlaw16.ConvTurned': WHATEVER THE INPUT: true; the input reads as it did. -/
def convTurnedSpec : ChangeSpec := { name := "convTurned", fn := fun _ => fun
  | [d1, d2] => { results := [.lit (.bool true)], args := [d1, d2] }
  | _ => none }
def convTurnedRow : OpenClaim := { program := "ytmfcobjnlabpoaagreat", sum := "5bb2d18feb50f9bf2bbddd9627c6d73d22dbbc2169e00049606f84ee58b75b10", func := "scholium/scholiumlaw16.ConvTurned", spec := "convTurned", inPlace := ["sync/atomic.StoreInt64", "sync/atomic.LoadInt64", "sync/atomic.AddInt64"], unfollowed := true, recurses := true, loops := true, apart := false }
def ConvTurnedSaid : Prop := convTurnedRow.holds Tryz.pinned (OpenSpec.ofChange convTurnedSpec)

/-- ITS FALSE NEIGHBOUR: 'it returns false'. Refute it at one input. -/
def convTurnedWrong : ChangeSpec := { name := "convTurned", fn := fun _ => fun
  | [d1, d2] => { results := [.lit (.bool false)], args := [d1, d2] }
  | _ => none }
def ConvTurnedWrongFalsely : Prop := convTurnedRow.holds Tryz.pinned (OpenSpec.ofChange convTurnedWrong)

/-- 'scholiumlaw16.ConvSelf': WHATEVER THE INPUT: true; the input reads as it did. -/
def convSelfSpec : ChangeSpec := { name := "convSelf", fn := fun _ => fun
  | [d1, d2] => { results := [.lit (.bool true)], args := [d1, d2] }
  | _ => none }
def convSelfRow : OpenClaim := { program := "ytmfcobjnlabpoaagreat", sum := "5bb2d18feb50f9bf2bbddd9627c6d73d22dbbc2169e00049606f84ee58b75b10", func := "scholium/scholiumlaw16.ConvSelf", spec := "convSelf", inPlace := ["sync/atomic.StoreInt64", "sync/atomic.LoadInt64", "sync/atomic.AddInt64"], unfollowed := true, recurses := true, loops := true, apart := false }
def ConvSelfSaid : Prop := convSelfRow.holds Tryz.pinned (OpenSpec.ofChange convSelfSpec)

/-- ITS FALSE NEIGHBOUR: 'it returns false'. Refute it at one input. -/
def convSelfWrong : ChangeSpec := { name := "convSelf", fn := fun _ => fun
  | [d1, d2] => { results := [.lit (.bool false)], args := [d1, d2] }
  | _ => none }
def ConvSelfWrongFalsely : Prop := convSelfRow.holds Tryz.pinned (OpenSpec.ofChange convSelfWrong)

/-- 'scholiumlaw16.ConvEta': WHATEVER THE INPUT: true; the input reads as it did. -/
def convEtaSpec : ChangeSpec := { name := "convEta", fn := fun _ => fun
  | [d1, d2] => { results := [.lit (.bool true)], args := [d1, d2] }
  | _ => none }
def convEtaRow : OpenClaim := { program := "ytmfcobjnlabpoaagreat", sum := "5bb2d18feb50f9bf2bbddd9627c6d73d22dbbc2169e00049606f84ee58b75b10", func := "scholium/scholiumlaw16.ConvEta", spec := "convEta", inPlace := ["sync/atomic.StoreInt64", "sync/atomic.LoadInt64", "sync/atomic.AddInt64"], unfollowed := true, recurses := true, loops := true, apart := false }
def ConvEtaSaid : Prop := convEtaRow.holds Tryz.pinned (OpenSpec.ofChange convEtaSpec)

/-- ITS FALSE NEIGHBOUR: 'it returns false'. Refute it at one input. -/
def convEtaWrong : ChangeSpec := { name := "convEta", fn := fun _ => fun
  | [d1, d2] => { results := [.lit (.bool false)], args := [d1, d2] }
  | _ => none }
def ConvEtaWrongFalsely : Prop := convEtaRow.holds Tryz.pinned (OpenSpec.ofChange convEtaWrong)

/-- 'scholiumlaw13.IotaNames': WHATEVER THE INPUT: true; the input reads as it did. -/
def iotaNamesSpec : ChangeSpec := { name := "iotaNames", fn := fun _ => fun
  | [d1, d2, d3] => { results := [.lit (.bool true)], args := [d1, d2, d3] }
  | _ => none }
def iotaNamesRow : OpenClaim := { program := "ytmfcobjnlabpoaagreat", sum := "5bb2d18feb50f9bf2bbddd9627c6d73d22dbbc2169e00049606f84ee58b75b10", func := "scholium/scholiumlaw13.IotaNames", spec := "iotaNames", unfollowed := true, recurses := true, loops := true, apart := false }
def IotaNamesSaid : Prop := iotaNamesRow.holds Tryz.pinned (OpenSpec.ofChange iotaNamesSpec)

/-- ITS FALSE NEIGHBOUR: 'it returns false'. Refute it at one input. -/
def iotaNamesWrong : ChangeSpec := { name := "iotaNames", fn := fun _ => fun
  | [d1, d2, d3] => { results := [.lit (.bool false)], args := [d1, d2, d3] }
  | _ => none }
def IotaNamesWrongFalsely : Prop := iotaNamesRow.holds Tryz.pinned (OpenSpec.ofChange iotaNamesWrong)

/-- 'scholiumlaw15.NormValues': WHATEVER THE INPUT: true; the input reads as it did. -/
def normValuesSpec : ChangeSpec := { name := "normValues", fn := fun _ => fun
  | [d1, d2] => { results := [.lit (.bool true)], args := [d1, d2] }
  | _ => none }
def normValuesRow : OpenClaim := { program := "ytmfcobjnlabpoaagreat", sum := "5bb2d18feb50f9bf2bbddd9627c6d73d22dbbc2169e00049606f84ee58b75b10", func := "scholium/scholiumlaw15.NormValues", spec := "normValues", inPlace := ["sync/atomic.StoreInt64", "sync/atomic.LoadInt64", "sync/atomic.AddInt64"], unfollowed := true, recurses := true, loops := true, apart := false }
def NormValuesSaid : Prop := normValuesRow.holds Tryz.pinned (OpenSpec.ofChange normValuesSpec)

/-- ITS FALSE NEIGHBOUR: 'it returns false'. Refute it at one input. -/
def normValuesWrong : ChangeSpec := { name := "normValues", fn := fun _ => fun
  | [d1, d2] => { results := [.lit (.bool false)], args := [d1, d2] }
  | _ => none }
def NormValuesWrongFalsely : Prop := normValuesRow.holds Tryz.pinned (OpenSpec.ofChange normValuesWrong)

/-- 'scholiumlaw27.LeafFuel': WHATEVER THE INPUT: true; the input reads as it did. -/
def leafFuelSpec : ChangeSpec := { name := "leafFuel", fn := fun _ => fun
  | [d1, d2, d3] => { results := [.lit (.bool true)], args := [d1, d2, d3] }
  | _ => none }
def leafFuelRow : OpenClaim := { program := "ytmfcobjnlabpoaagreat", sum := "5bb2d18feb50f9bf2bbddd9627c6d73d22dbbc2169e00049606f84ee58b75b10", func := "scholium/scholiumlaw27.LeafFuel", spec := "leafFuel", inPlace := ["sync/atomic.StoreInt64", "sync/atomic.LoadInt64", "sync/atomic.AddInt64"], unfollowed := true, recurses := true, loops := true, apart := false }
def LeafFuelSaid : Prop := leafFuelRow.holds Tryz.pinned (OpenSpec.ofChange leafFuelSpec)

/-- ITS FALSE NEIGHBOUR: 'it returns false'. Refute it at one input. -/
def leafFuelWrong : ChangeSpec := { name := "leafFuel", fn := fun _ => fun
  | [d1, d2, d3] => { results := [.lit (.bool false)], args := [d1, d2, d3] }
  | _ => none }
def LeafFuelWrongFalsely : Prop := leafFuelRow.holds Tryz.pinned (OpenSpec.ofChange leafFuelWrong)

/-- 'scholiumlaw28.ClauseFirst': WHATEVER THE INPUT: true; the input reads as it did. -/
def clauseFirstSpec : ChangeSpec := { name := "clauseFirst", fn := fun _ => fun
  | [d1, d2] => { results := [.lit (.bool true)], args := [d1, d2] }
  | _ => none }
def clauseFirstRow : OpenClaim := { program := "ytmfcobjnlabpoaagreat", sum := "5bb2d18feb50f9bf2bbddd9627c6d73d22dbbc2169e00049606f84ee58b75b10", func := "scholium/scholiumlaw28.ClauseFirst", spec := "clauseFirst", inPlace := ["sync/atomic.StoreInt64", "sync/atomic.LoadInt64", "sync/atomic.AddInt64"], unfollowed := true, recurses := true, loops := true, apart := false }
def ClauseFirstSaid : Prop := clauseFirstRow.holds Tryz.pinned (OpenSpec.ofChange clauseFirstSpec)

/-- ITS FALSE NEIGHBOUR: 'it returns false'. Refute it at one input. -/
def clauseFirstWrong : ChangeSpec := { name := "clauseFirst", fn := fun _ => fun
  | [d1, d2] => { results := [.lit (.bool false)], args := [d1, d2] }
  | _ => none }
def ClauseFirstWrongFalsely : Prop := clauseFirstRow.holds Tryz.pinned (OpenSpec.ofChange clauseFirstWrong)

/-- 'scholiumlaw28.ClauseFuel': WHATEVER THE INPUT: true; the input reads as it did. -/
def clauseFuelSpec : ChangeSpec := { name := "clauseFuel", fn := fun _ => fun
  | [d1, d2, d3] => { results := [.lit (.bool true)], args := [d1, d2, d3] }
  | _ => none }
def clauseFuelRow : OpenClaim := { program := "ytmfcobjnlabpoaagreat", sum := "5bb2d18feb50f9bf2bbddd9627c6d73d22dbbc2169e00049606f84ee58b75b10", func := "scholium/scholiumlaw28.ClauseFuel", spec := "clauseFuel", inPlace := ["sync/atomic.StoreInt64", "sync/atomic.LoadInt64", "sync/atomic.AddInt64"], unfollowed := true, recurses := true, loops := true, apart := false }
def ClauseFuelSaid : Prop := clauseFuelRow.holds Tryz.pinned (OpenSpec.ofChange clauseFuelSpec)

/-- ITS FALSE NEIGHBOUR: 'it returns false'. Refute it at one input. -/
def clauseFuelWrong : ChangeSpec := { name := "clauseFuel", fn := fun _ => fun
  | [d1, d2, d3] => { results := [.lit (.bool false)], args := [d1, d2, d3] }
  | _ => none }
def ClauseFuelWrongFalsely : Prop := clauseFuelRow.holds Tryz.pinned (OpenSpec.ofChange clauseFuelWrong)

/-- 'scholiumlaw23.UnifyLeft': WHATEVER THE INPUT: true; the input reads as it did. -/
def unifyLeftSpec : ChangeSpec := { name := "unifyLeft", fn := fun _ => fun
  | [d1, d2] => { results := [.lit (.bool true)], args := [d1, d2] }
  | _ => none }
def unifyLeftRow : OpenClaim := { program := "ytmfcobjnlabpoaagreat", sum := "5bb2d18feb50f9bf2bbddd9627c6d73d22dbbc2169e00049606f84ee58b75b10", func := "scholium/scholiumlaw23.UnifyLeft", spec := "unifyLeft", inPlace := ["sync/atomic.StoreInt64", "sync/atomic.LoadInt64", "sync/atomic.AddInt64"], unfollowed := true, recurses := true, loops := true, apart := false }
def UnifyLeftSaid : Prop := unifyLeftRow.holds Tryz.pinned (OpenSpec.ofChange unifyLeftSpec)

/-- ITS FALSE NEIGHBOUR: 'it returns false'. Refute it at one input. -/
def unifyLeftWrong : ChangeSpec := { name := "unifyLeft", fn := fun _ => fun
  | [d1, d2] => { results := [.lit (.bool false)], args := [d1, d2] }
  | _ => none }
def UnifyLeftWrongFalsely : Prop := unifyLeftRow.holds Tryz.pinned (OpenSpec.ofChange unifyLeftWrong)

/-- 'scholiumlaw25.SplitLeft': WHATEVER THE INPUT: true; the input reads as it did. -/
def splitLeftSpec : ChangeSpec := { name := "splitLeft", fn := fun _ => fun
  | [d1, d2, d3] => { results := [.lit (.bool true)], args := [d1, d2, d3] }
  | _ => none }
def splitLeftRow : OpenClaim := { program := "ytmfcobjnlabpoaagreat", sum := "5bb2d18feb50f9bf2bbddd9627c6d73d22dbbc2169e00049606f84ee58b75b10", func := "scholium/scholiumlaw25.SplitLeft", spec := "splitLeft", inPlace := ["sync/atomic.StoreInt64", "sync/atomic.LoadInt64", "sync/atomic.AddInt64"], unfollowed := true, recurses := true, loops := true, apart := false }
def SplitLeftSaid : Prop := splitLeftRow.holds Tryz.pinned (OpenSpec.ofChange splitLeftSpec)

/-- ITS FALSE NEIGHBOUR: 'it returns false'. Refute it at one input. -/
def splitLeftWrong : ChangeSpec := { name := "splitLeft", fn := fun _ => fun
  | [d1, d2, d3] => { results := [.lit (.bool false)], args := [d1, d2, d3] }
  | _ => none }
def SplitLeftWrongFalsely : Prop := splitLeftRow.holds Tryz.pinned (OpenSpec.ofChange splitLeftWrong)

/- THE SECOND FORM. 'bulk': how many values and letters a reading holds, each counted each time it is reached (what is shared counts as often as it is met; a slice's spare places count too). A statement '..UptoSaid' is the law's where the arguments, and the package variables that the reading takes, are together of bulk at most 1048576: NARROWER than '..Said'. Prove '..Said' where nothing that the law and all that it calls make is longer than what came in: it says more and counts as full. Else prove '..UptoSaid'. A law counts once. -/
mutual
def uptoBulk {H : Type} : DataW H → Nat
  | .lit (.string bytes) => bytes.length + 1
  | .lit _ => 1
  | .nil => 1
  | .ptr d => uptoBulk d + 1
  | .slice elems spare => uptoBulkAll elems + uptoBulkAll spare + 1
  | .agg parts => uptoBulkAll parts + 1
  | .iface _ d => uptoBulk d + 1
  | .map entries => uptoBulkEntries entries + 1
  | .held _ => 1
def uptoBulkAll {H : Type} : List (DataW H) → Nat
  | [] => 0
  | d :: r => uptoBulk d + uptoBulkAll r
def uptoBulkEntries {H : Type} : List (Lit × DataW H) → Nat
  | [] => 0
  | x :: r => uptoBulkEntry x + uptoBulkEntries r
def uptoBulkEntry {H : Type} : Lit × DataW H → Nat
  | (.string bytes, d) => bytes.length + uptoBulk d + 1
  | (_, d) => uptoBulk d + 1
 end
def uptoSmall : (H : Type) → List (DataW H) → Bool := fun _ ds => decide (uptoBulkAll ds ≤ 1048576)
def OpenSpec.upto (s : _root_.Go.ChangeSpec) : _root_.Go.OpenSpec := { _root_.Go.OpenSpec.ofChange s with cond := some uptoSmall }

/-- 'scholiumlaw16.ConvTurned', WHERE WHAT IT READS IS OF BULK AT MOST 1048576: true; the input reads as it did. -/
def convTurnedUptoRow : OpenClaim := { program := "ytmfcobjnlabpoaagreat", sum := "5bb2d18feb50f9bf2bbddd9627c6d73d22dbbc2169e00049606f84ee58b75b10", func := "scholium/scholiumlaw16.ConvTurned", spec := "convTurned", inPlace := ["sync/atomic.StoreInt64", "sync/atomic.LoadInt64", "sync/atomic.AddInt64"], unfollowed := true, recurses := true, loops := true, apart := false, narrowed := true }
def ConvTurnedUptoSaid : Prop := convTurnedUptoRow.holds Tryz.pinned (OpenSpec.upto convTurnedSpec)

/-- 'scholiumlaw16.ConvSelf', WHERE WHAT IT READS IS OF BULK AT MOST 1048576: true; the input reads as it did. -/
def convSelfUptoRow : OpenClaim := { program := "ytmfcobjnlabpoaagreat", sum := "5bb2d18feb50f9bf2bbddd9627c6d73d22dbbc2169e00049606f84ee58b75b10", func := "scholium/scholiumlaw16.ConvSelf", spec := "convSelf", inPlace := ["sync/atomic.StoreInt64", "sync/atomic.LoadInt64", "sync/atomic.AddInt64"], unfollowed := true, recurses := true, loops := true, apart := false, narrowed := true }
def ConvSelfUptoSaid : Prop := convSelfUptoRow.holds Tryz.pinned (OpenSpec.upto convSelfSpec)

/-- 'scholiumlaw16.ConvEta', WHERE WHAT IT READS IS OF BULK AT MOST 1048576: true; the input reads as it did. -/
def convEtaUptoRow : OpenClaim := { program := "ytmfcobjnlabpoaagreat", sum := "5bb2d18feb50f9bf2bbddd9627c6d73d22dbbc2169e00049606f84ee58b75b10", func := "scholium/scholiumlaw16.ConvEta", spec := "convEta", inPlace := ["sync/atomic.StoreInt64", "sync/atomic.LoadInt64", "sync/atomic.AddInt64"], unfollowed := true, recurses := true, loops := true, apart := false, narrowed := true }
def ConvEtaUptoSaid : Prop := convEtaUptoRow.holds Tryz.pinned (OpenSpec.upto convEtaSpec)

/-- 'scholiumlaw13.IotaNames', WHERE WHAT IT READS IS OF BULK AT MOST 1048576: true; the input reads as it did. -/
def iotaNamesUptoRow : OpenClaim := { program := "ytmfcobjnlabpoaagreat", sum := "5bb2d18feb50f9bf2bbddd9627c6d73d22dbbc2169e00049606f84ee58b75b10", func := "scholium/scholiumlaw13.IotaNames", spec := "iotaNames", unfollowed := true, recurses := true, loops := true, apart := false, narrowed := true }
def IotaNamesUptoSaid : Prop := iotaNamesUptoRow.holds Tryz.pinned (OpenSpec.upto iotaNamesSpec)

/-- 'scholiumlaw15.NormValues', WHERE WHAT IT READS IS OF BULK AT MOST 1048576: true; the input reads as it did. -/
def normValuesUptoRow : OpenClaim := { program := "ytmfcobjnlabpoaagreat", sum := "5bb2d18feb50f9bf2bbddd9627c6d73d22dbbc2169e00049606f84ee58b75b10", func := "scholium/scholiumlaw15.NormValues", spec := "normValues", inPlace := ["sync/atomic.StoreInt64", "sync/atomic.LoadInt64", "sync/atomic.AddInt64"], unfollowed := true, recurses := true, loops := true, apart := false, narrowed := true }
def NormValuesUptoSaid : Prop := normValuesUptoRow.holds Tryz.pinned (OpenSpec.upto normValuesSpec)

/-- 'scholiumlaw27.LeafFuel', WHERE WHAT IT READS IS OF BULK AT MOST 1048576: true; the input reads as it did. -/
def leafFuelUptoRow : OpenClaim := { program := "ytmfcobjnlabpoaagreat", sum := "5bb2d18feb50f9bf2bbddd9627c6d73d22dbbc2169e00049606f84ee58b75b10", func := "scholium/scholiumlaw27.LeafFuel", spec := "leafFuel", inPlace := ["sync/atomic.StoreInt64", "sync/atomic.LoadInt64", "sync/atomic.AddInt64"], unfollowed := true, recurses := true, loops := true, apart := false, narrowed := true }
def LeafFuelUptoSaid : Prop := leafFuelUptoRow.holds Tryz.pinned (OpenSpec.upto leafFuelSpec)

/-- 'scholiumlaw28.ClauseFirst', WHERE WHAT IT READS IS OF BULK AT MOST 1048576: true; the input reads as it did. -/
def clauseFirstUptoRow : OpenClaim := { program := "ytmfcobjnlabpoaagreat", sum := "5bb2d18feb50f9bf2bbddd9627c6d73d22dbbc2169e00049606f84ee58b75b10", func := "scholium/scholiumlaw28.ClauseFirst", spec := "clauseFirst", inPlace := ["sync/atomic.StoreInt64", "sync/atomic.LoadInt64", "sync/atomic.AddInt64"], unfollowed := true, recurses := true, loops := true, apart := false, narrowed := true }
def ClauseFirstUptoSaid : Prop := clauseFirstUptoRow.holds Tryz.pinned (OpenSpec.upto clauseFirstSpec)

/-- 'scholiumlaw28.ClauseFuel', WHERE WHAT IT READS IS OF BULK AT MOST 1048576: true; the input reads as it did. -/
def clauseFuelUptoRow : OpenClaim := { program := "ytmfcobjnlabpoaagreat", sum := "5bb2d18feb50f9bf2bbddd9627c6d73d22dbbc2169e00049606f84ee58b75b10", func := "scholium/scholiumlaw28.ClauseFuel", spec := "clauseFuel", inPlace := ["sync/atomic.StoreInt64", "sync/atomic.LoadInt64", "sync/atomic.AddInt64"], unfollowed := true, recurses := true, loops := true, apart := false, narrowed := true }
def ClauseFuelUptoSaid : Prop := clauseFuelUptoRow.holds Tryz.pinned (OpenSpec.upto clauseFuelSpec)

/-- 'scholiumlaw23.UnifyLeft', WHERE WHAT IT READS IS OF BULK AT MOST 1048576: true; the input reads as it did. -/
def unifyLeftUptoRow : OpenClaim := { program := "ytmfcobjnlabpoaagreat", sum := "5bb2d18feb50f9bf2bbddd9627c6d73d22dbbc2169e00049606f84ee58b75b10", func := "scholium/scholiumlaw23.UnifyLeft", spec := "unifyLeft", inPlace := ["sync/atomic.StoreInt64", "sync/atomic.LoadInt64", "sync/atomic.AddInt64"], unfollowed := true, recurses := true, loops := true, apart := false, narrowed := true }
def UnifyLeftUptoSaid : Prop := unifyLeftUptoRow.holds Tryz.pinned (OpenSpec.upto unifyLeftSpec)

/-- 'scholiumlaw25.SplitLeft', WHERE WHAT IT READS IS OF BULK AT MOST 1048576: true; the input reads as it did. -/
def splitLeftUptoRow : OpenClaim := { program := "ytmfcobjnlabpoaagreat", sum := "5bb2d18feb50f9bf2bbddd9627c6d73d22dbbc2169e00049606f84ee58b75b10", func := "scholium/scholiumlaw25.SplitLeft", spec := "splitLeft", inPlace := ["sync/atomic.StoreInt64", "sync/atomic.LoadInt64", "sync/atomic.AddInt64"], unfollowed := true, recurses := true, loops := true, apart := false, narrowed := true }
def SplitLeftUptoSaid : Prop := splitLeftUptoRow.holds Tryz.pinned (OpenSpec.upto splitLeftSpec)

end Rows
end Go.Proofs.YtmfcobjnlabpoaaGreat
