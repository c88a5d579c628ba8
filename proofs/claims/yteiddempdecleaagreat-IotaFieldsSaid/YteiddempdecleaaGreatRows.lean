/-
  NARROWER THAN 'FOR EVERY INPUT', by the rows' own cells (each row's printed sentence says how): IotaFields: loops · WhnfFuel: loops · WhnfLoose: loops · WhnfAgain: loops · NormAgain: loops · NormValues: loops · LeafNone: loops · LeafFuel: loops · ClauseFuel: loops · InferFuel: loops · IotaMotives: loops · IotaMethods: loops.
  DERIVED. THE GIVEN ROWS OF THIS SEAT. 12 by the template 'for every input the law returns true; each argument reads behind the call as it read before'; 0 by the template 'total and deterministic' (their statements: YteiddempdecleaaGreatTotals.lean).
  GIVEN WITH THE SEED: the statements are not yours to turn. If you find one false, say at which input.
  Laid BY PROGRAM, IN A SANDBOX (cutbox-rows.mjs): the forced cells as the released guide's own fill.sh prints them over the translation 47fe23f595d14f6f… (all of the seat's roots in one cut). By AI agents, Wed Nov 11 2026. No macro, syntax, notation, axiom, sorry.
-/
import Derived.Test.YteiddempdecleaaGreatChecked
import GoSem.Claim
import GoSem.ClaimJoined
import GoSem.ClaimMapViews
import Derived.JoinedTies
import Derived.KernelRfl
namespace Go.Proofs.YteiddempdecleaaGreat
/- THE CELL 'sum', in the pinned program and in every row, IS THE sha256 OF THE DUMP (.gsa) THAT YteiddempdecleaaGreatProg.lean LOADS. Nothing in Lean hashes anything: it is a label: what it is worth is what the hold of that sum in a sandbox is worth. -/
noncomputable def Tryz.pinned : Pinned := { name := "yteiddempdecleaagreat", sum := "47fe23f595d14f6f1b57873cbea4ca8d42dea1740dd1bb6ac762c9627411f484", checked := Tryz.checked }
namespace Rows
def none {H : Type} : Left H := { results := [], args := [] }

/-- 'scholiumlaw13.IotaFields': WHATEVER THE INPUT: true; the input reads as it did. -/
def iotaFieldsSpec : ChangeSpec := { name := "iotaFields", fn := fun _ => fun
  | [d1, d2, d3] => { results := [.lit (.bool true)], args := [d1, d2, d3] }
  | _ => none }
def iotaFieldsRow : OpenClaim := { program := "yteiddempdecleaagreat", sum := "47fe23f595d14f6f1b57873cbea4ca8d42dea1740dd1bb6ac762c9627411f484", func := "scholium/scholiumlaw13.IotaFields", spec := "iotaFields", unfollowed := true, recurses := true, loops := true, apart := false }
def IotaFieldsSaid : Prop := iotaFieldsRow.holds Tryz.pinned (OpenSpec.ofChange iotaFieldsSpec)

/-- ITS FALSE NEIGHBOUR: 'it returns false'. Refute it at one input. -/
def iotaFieldsWrong : ChangeSpec := { name := "iotaFields", fn := fun _ => fun
  | [d1, d2, d3] => { results := [.lit (.bool false)], args := [d1, d2, d3] }
  | _ => none }
def IotaFieldsWrongFalsely : Prop := iotaFieldsRow.holds Tryz.pinned (OpenSpec.ofChange iotaFieldsWrong)

/-- 'scholiumlaw14.WhnfFuel': WHATEVER THE INPUT: true; the input reads as it did. -/
def whnfFuelSpec : ChangeSpec := { name := "whnfFuel", fn := fun _ => fun
  | [d1, d2, d3] => { results := [.lit (.bool true)], args := [d1, d2, d3] }
  | _ => none }
def whnfFuelRow : OpenClaim := { program := "yteiddempdecleaagreat", sum := "47fe23f595d14f6f1b57873cbea4ca8d42dea1740dd1bb6ac762c9627411f484", func := "scholium/scholiumlaw14.WhnfFuel", spec := "whnfFuel", inPlace := ["sync/atomic.StoreInt64", "sync/atomic.LoadInt64", "sync/atomic.AddInt64"], unfollowed := true, recurses := true, loops := true, apart := false }
def WhnfFuelSaid : Prop := whnfFuelRow.holds Tryz.pinned (OpenSpec.ofChange whnfFuelSpec)

/-- ITS FALSE NEIGHBOUR: 'it returns false'. Refute it at one input. -/
def whnfFuelWrong : ChangeSpec := { name := "whnfFuel", fn := fun _ => fun
  | [d1, d2, d3] => { results := [.lit (.bool false)], args := [d1, d2, d3] }
  | _ => none }
def WhnfFuelWrongFalsely : Prop := whnfFuelRow.holds Tryz.pinned (OpenSpec.ofChange whnfFuelWrong)

/-- 'scholiumlaw14.WhnfLoose': WHATEVER THE INPUT: true; the input reads as it did. -/
def whnfLooseSpec : ChangeSpec := { name := "whnfLoose", fn := fun _ => fun
  | [d1, d2, d3] => { results := [.lit (.bool true)], args := [d1, d2, d3] }
  | _ => none }
def whnfLooseRow : OpenClaim := { program := "yteiddempdecleaagreat", sum := "47fe23f595d14f6f1b57873cbea4ca8d42dea1740dd1bb6ac762c9627411f484", func := "scholium/scholiumlaw14.WhnfLoose", spec := "whnfLoose", inPlace := ["sync/atomic.StoreInt64", "sync/atomic.LoadInt64", "sync/atomic.AddInt64"], unfollowed := true, recurses := true, loops := true, apart := false }
def WhnfLooseSaid : Prop := whnfLooseRow.holds Tryz.pinned (OpenSpec.ofChange whnfLooseSpec)

/-- ITS FALSE NEIGHBOUR: 'it returns false'. Refute it at one input. -/
def whnfLooseWrong : ChangeSpec := { name := "whnfLoose", fn := fun _ => fun
  | [d1, d2, d3] => { results := [.lit (.bool false)], args := [d1, d2, d3] }
  | _ => none }
def WhnfLooseWrongFalsely : Prop := whnfLooseRow.holds Tryz.pinned (OpenSpec.ofChange whnfLooseWrong)

/-- 'scholiumlaw14.WhnfAgain': WHATEVER THE INPUT: true; the input reads as it did. -/
def whnfAgainSpec : ChangeSpec := { name := "whnfAgain", fn := fun _ => fun
  | [d1, d2, d3] => { results := [.lit (.bool true)], args := [d1, d2, d3] }
  | _ => none }
def whnfAgainRow : OpenClaim := { program := "yteiddempdecleaagreat", sum := "47fe23f595d14f6f1b57873cbea4ca8d42dea1740dd1bb6ac762c9627411f484", func := "scholium/scholiumlaw14.WhnfAgain", spec := "whnfAgain", inPlace := ["sync/atomic.StoreInt64", "sync/atomic.LoadInt64", "sync/atomic.AddInt64"], unfollowed := true, recurses := true, loops := true, apart := false }
def WhnfAgainSaid : Prop := whnfAgainRow.holds Tryz.pinned (OpenSpec.ofChange whnfAgainSpec)

/-- ITS FALSE NEIGHBOUR: 'it returns false'. Refute it at one input. -/
def whnfAgainWrong : ChangeSpec := { name := "whnfAgain", fn := fun _ => fun
  | [d1, d2, d3] => { results := [.lit (.bool false)], args := [d1, d2, d3] }
  | _ => none }
def WhnfAgainWrongFalsely : Prop := whnfAgainRow.holds Tryz.pinned (OpenSpec.ofChange whnfAgainWrong)

/-- 'scholiumlaw15.NormAgain': WHATEVER THE INPUT: true; the input reads as it did. -/
def normAgainSpec : ChangeSpec := { name := "normAgain", fn := fun _ => fun
  | [d1, d2] => { results := [.lit (.bool true)], args := [d1, d2] }
  | _ => none }
def normAgainRow : OpenClaim := { program := "yteiddempdecleaagreat", sum := "47fe23f595d14f6f1b57873cbea4ca8d42dea1740dd1bb6ac762c9627411f484", func := "scholium/scholiumlaw15.NormAgain", spec := "normAgain", inPlace := ["sync/atomic.StoreInt64", "sync/atomic.LoadInt64", "sync/atomic.AddInt64"], unfollowed := true, recurses := true, loops := true, apart := false }
def NormAgainSaid : Prop := normAgainRow.holds Tryz.pinned (OpenSpec.ofChange normAgainSpec)

/-- ITS FALSE NEIGHBOUR: 'it returns false'. Refute it at one input. -/
def normAgainWrong : ChangeSpec := { name := "normAgain", fn := fun _ => fun
  | [d1, d2] => { results := [.lit (.bool false)], args := [d1, d2] }
  | _ => none }
def NormAgainWrongFalsely : Prop := normAgainRow.holds Tryz.pinned (OpenSpec.ofChange normAgainWrong)

/-- 'scholiumlaw15.NormValues': WHATEVER THE INPUT: true; the input reads as it did. -/
def normValuesSpec : ChangeSpec := { name := "normValues", fn := fun _ => fun
  | [d1, d2] => { results := [.lit (.bool true)], args := [d1, d2] }
  | _ => none }
def normValuesRow : OpenClaim := { program := "yteiddempdecleaagreat", sum := "47fe23f595d14f6f1b57873cbea4ca8d42dea1740dd1bb6ac762c9627411f484", func := "scholium/scholiumlaw15.NormValues", spec := "normValues", inPlace := ["sync/atomic.StoreInt64", "sync/atomic.LoadInt64", "sync/atomic.AddInt64"], unfollowed := true, recurses := true, loops := true, apart := false }
def NormValuesSaid : Prop := normValuesRow.holds Tryz.pinned (OpenSpec.ofChange normValuesSpec)

/-- ITS FALSE NEIGHBOUR: 'it returns false'. Refute it at one input. -/
def normValuesWrong : ChangeSpec := { name := "normValues", fn := fun _ => fun
  | [d1, d2] => { results := [.lit (.bool false)], args := [d1, d2] }
  | _ => none }
def NormValuesWrongFalsely : Prop := normValuesRow.holds Tryz.pinned (OpenSpec.ofChange normValuesWrong)

/-- 'scholiumlaw27.LeafNone': WHATEVER THE INPUT: true; the input reads as it did. -/
def leafNoneSpec : ChangeSpec := { name := "leafNone", fn := fun _ => fun
  | [d1, d2, d3] => { results := [.lit (.bool true)], args := [d1, d2, d3] }
  | _ => none }
def leafNoneRow : OpenClaim := { program := "yteiddempdecleaagreat", sum := "47fe23f595d14f6f1b57873cbea4ca8d42dea1740dd1bb6ac762c9627411f484", func := "scholium/scholiumlaw27.LeafNone", spec := "leafNone", inPlace := ["sync/atomic.StoreInt64", "sync/atomic.LoadInt64", "sync/atomic.AddInt64"], unfollowed := true, recurses := true, loops := true, apart := false }
def LeafNoneSaid : Prop := leafNoneRow.holds Tryz.pinned (OpenSpec.ofChange leafNoneSpec)

/-- ITS FALSE NEIGHBOUR: 'it returns false'. Refute it at one input. -/
def leafNoneWrong : ChangeSpec := { name := "leafNone", fn := fun _ => fun
  | [d1, d2, d3] => { results := [.lit (.bool false)], args := [d1, d2, d3] }
  | _ => none }
def LeafNoneWrongFalsely : Prop := leafNoneRow.holds Tryz.pinned (OpenSpec.ofChange leafNoneWrong)

/-- 'scholiumlaw27.LeafFuel': WHATEVER THE INPUT: true; the input reads as it did. -/
def leafFuelSpec : ChangeSpec := { name := "leafFuel", fn := fun _ => fun
  | [d1, d2, d3] => { results := [.lit (.bool true)], args := [d1, d2, d3] }
  | _ => none }
def leafFuelRow : OpenClaim := { program := "yteiddempdecleaagreat", sum := "47fe23f595d14f6f1b57873cbea4ca8d42dea1740dd1bb6ac762c9627411f484", func := "scholium/scholiumlaw27.LeafFuel", spec := "leafFuel", inPlace := ["sync/atomic.StoreInt64", "sync/atomic.LoadInt64", "sync/atomic.AddInt64"], unfollowed := true, recurses := true, loops := true, apart := false }
def LeafFuelSaid : Prop := leafFuelRow.holds Tryz.pinned (OpenSpec.ofChange leafFuelSpec)

/-- ITS FALSE NEIGHBOUR: 'it returns false'. Refute it at one input. -/
def leafFuelWrong : ChangeSpec := { name := "leafFuel", fn := fun _ => fun
  | [d1, d2, d3] => { results := [.lit (.bool false)], args := [d1, d2, d3] }
  | _ => none }
def LeafFuelWrongFalsely : Prop := leafFuelRow.holds Tryz.pinned (OpenSpec.ofChange leafFuelWrong)

/-- 'scholiumlaw28.ClauseFuel': WHATEVER THE INPUT: true; the input reads as it did. -/
def clauseFuelSpec : ChangeSpec := { name := "clauseFuel", fn := fun _ => fun
  | [d1, d2, d3] => { results := [.lit (.bool true)], args := [d1, d2, d3] }
  | _ => none }
def clauseFuelRow : OpenClaim := { program := "yteiddempdecleaagreat", sum := "47fe23f595d14f6f1b57873cbea4ca8d42dea1740dd1bb6ac762c9627411f484", func := "scholium/scholiumlaw28.ClauseFuel", spec := "clauseFuel", inPlace := ["sync/atomic.StoreInt64", "sync/atomic.LoadInt64", "sync/atomic.AddInt64"], unfollowed := true, recurses := true, loops := true, apart := false }
def ClauseFuelSaid : Prop := clauseFuelRow.holds Tryz.pinned (OpenSpec.ofChange clauseFuelSpec)

/-- ITS FALSE NEIGHBOUR: 'it returns false'. Refute it at one input. -/
def clauseFuelWrong : ChangeSpec := { name := "clauseFuel", fn := fun _ => fun
  | [d1, d2, d3] => { results := [.lit (.bool false)], args := [d1, d2, d3] }
  | _ => none }
def ClauseFuelWrongFalsely : Prop := clauseFuelRow.holds Tryz.pinned (OpenSpec.ofChange clauseFuelWrong)

/-- 'scholiumlaw17.InferFuel': WHATEVER THE INPUT: true; the input reads as it did. -/
def inferFuelSpec : ChangeSpec := { name := "inferFuel", fn := fun _ => fun
  | [d1, d2, d3] => { results := [.lit (.bool true)], args := [d1, d2, d3] }
  | _ => none }
def inferFuelRow : OpenClaim := { program := "yteiddempdecleaagreat", sum := "47fe23f595d14f6f1b57873cbea4ca8d42dea1740dd1bb6ac762c9627411f484", func := "scholium/scholiumlaw17.InferFuel", spec := "inferFuel", inPlace := ["sync/atomic.StoreInt64", "sync/atomic.LoadInt64", "sync/atomic.AddInt64"], unfollowed := true, recurses := true, loops := true, apart := false }
def InferFuelSaid : Prop := inferFuelRow.holds Tryz.pinned (OpenSpec.ofChange inferFuelSpec)

/-- ITS FALSE NEIGHBOUR: 'it returns false'. Refute it at one input. -/
def inferFuelWrong : ChangeSpec := { name := "inferFuel", fn := fun _ => fun
  | [d1, d2, d3] => { results := [.lit (.bool false)], args := [d1, d2, d3] }
  | _ => none }
def InferFuelWrongFalsely : Prop := inferFuelRow.holds Tryz.pinned (OpenSpec.ofChange inferFuelWrong)

/-- 'scholiumlaw13.IotaMotives': WHATEVER THE INPUT: true; the input reads as it did. -/
def iotaMotivesSpec : ChangeSpec := { name := "iotaMotives", fn := fun _ => fun
  | [d1, d2, d3] => { results := [.lit (.bool true)], args := [d1, d2, d3] }
  | _ => none }
def iotaMotivesRow : OpenClaim := { program := "yteiddempdecleaagreat", sum := "47fe23f595d14f6f1b57873cbea4ca8d42dea1740dd1bb6ac762c9627411f484", func := "scholium/scholiumlaw13.IotaMotives", spec := "iotaMotives", unfollowed := true, recurses := true, loops := true, apart := false }
def IotaMotivesSaid : Prop := iotaMotivesRow.holds Tryz.pinned (OpenSpec.ofChange iotaMotivesSpec)

/-- ITS FALSE NEIGHBOUR: 'it returns false'. Refute it at one input. -/
def iotaMotivesWrong : ChangeSpec := { name := "iotaMotives", fn := fun _ => fun
  | [d1, d2, d3] => { results := [.lit (.bool false)], args := [d1, d2, d3] }
  | _ => none }
def IotaMotivesWrongFalsely : Prop := iotaMotivesRow.holds Tryz.pinned (OpenSpec.ofChange iotaMotivesWrong)

/-- 'scholiumlaw13.IotaMethods': WHATEVER THE INPUT: true; the input reads as it did. -/
def iotaMethodsSpec : ChangeSpec := { name := "iotaMethods", fn := fun _ => fun
  | [d1, d2, d3] => { results := [.lit (.bool true)], args := [d1, d2, d3] }
  | _ => none }
def iotaMethodsRow : OpenClaim := { program := "yteiddempdecleaagreat", sum := "47fe23f595d14f6f1b57873cbea4ca8d42dea1740dd1bb6ac762c9627411f484", func := "scholium/scholiumlaw13.IotaMethods", spec := "iotaMethods", unfollowed := true, recurses := true, loops := true, apart := false }
def IotaMethodsSaid : Prop := iotaMethodsRow.holds Tryz.pinned (OpenSpec.ofChange iotaMethodsSpec)

/-- ITS FALSE NEIGHBOUR: 'it returns false'. Refute it at one input. -/
def iotaMethodsWrong : ChangeSpec := { name := "iotaMethods", fn := fun _ => fun
  | [d1, d2, d3] => { results := [.lit (.bool false)], args := [d1, d2, d3] }
  | _ => none }
def IotaMethodsWrongFalsely : Prop := iotaMethodsRow.holds Tryz.pinned (OpenSpec.ofChange iotaMethodsWrong)

/- THE SECOND FORM. 'bulk': how many values and letters a reading holds, each counted each time it is reached (what is shared counts as often as it is met; a slice's spare places count too). A statement '..UptoSaid' is the law's where the arguments, and the package variables that the reading takes, are together of bulk at most 1048576: NARROWER than '..Said'. Prove '..Said' where nothing that the law and all that it calls make is longer than what came in: it says more and counts as full. Else prove '..UptoSaid'. A law counts once. -/
mutual
def uptoBulk {H : Type} : DataW H → Nat
  | .lit (.string bytes) => bytes.length + 1
  | .lit _ => 1
  | .nil => 1
  | .ptr d => uptoBulk d + 1
  | .slice elems spare => uptoBulkAll elems + uptoBulkAll spare + 1
  | .agg parts => uptoBulkAll parts + 1
  | .iface _ d => uptoBulk d + 1
  | .map entries => uptoBulkEntries entries + 1
  | .held _ => 1
def uptoBulkAll {H : Type} : List (DataW H) → Nat
  | [] => 0
  | d :: r => uptoBulk d + uptoBulkAll r
def uptoBulkEntries {H : Type} : List (Lit × DataW H) → Nat
  | [] => 0
  | x :: r => uptoBulkEntry x + uptoBulkEntries r
def uptoBulkEntry {H : Type} : Lit × DataW H → Nat
  | (.string bytes, d) => bytes.length + uptoBulk d + 1
  | (_, d) => uptoBulk d + 1
 end
def uptoSmall : (H : Type) → List (DataW H) → Bool := fun _ ds => decide (uptoBulkAll ds ≤ 1048576)
def OpenSpec.upto (s : _root_.Go.ChangeSpec) : _root_.Go.OpenSpec := { _root_.Go.OpenSpec.ofChange s with cond := some uptoSmall }

/-- 'scholiumlaw13.IotaFields', WHERE WHAT IT READS IS OF BULK AT MOST 1048576: true; the input reads as it did. -/
def iotaFieldsUptoRow : OpenClaim := { program := "yteiddempdecleaagreat", sum := "47fe23f595d14f6f1b57873cbea4ca8d42dea1740dd1bb6ac762c9627411f484", func := "scholium/scholiumlaw13.IotaFields", spec := "iotaFields", unfollowed := true, recurses := true, loops := true, apart := false, narrowed := true }
def IotaFieldsUptoSaid : Prop := iotaFieldsUptoRow.holds Tryz.pinned (OpenSpec.upto iotaFieldsSpec)

/-- 'scholiumlaw14.WhnfFuel', WHERE WHAT IT READS IS OF BULK AT MOST 1048576: true; the input reads as it did. -/
def whnfFuelUptoRow : OpenClaim := { program := "yteiddempdecleaagreat", sum := "47fe23f595d14f6f1b57873cbea4ca8d42dea1740dd1bb6ac762c9627411f484", func := "scholium/scholiumlaw14.WhnfFuel", spec := "whnfFuel", inPlace := ["sync/atomic.StoreInt64", "sync/atomic.LoadInt64", "sync/atomic.AddInt64"], unfollowed := true, recurses := true, loops := true, apart := false, narrowed := true }
def WhnfFuelUptoSaid : Prop := whnfFuelUptoRow.holds Tryz.pinned (OpenSpec.upto whnfFuelSpec)

/-- 'scholiumlaw14.WhnfLoose', WHERE WHAT IT READS IS OF BULK AT MOST 1048576: true; the input reads as it did. -/
def whnfLooseUptoRow : OpenClaim := { program := "yteiddempdecleaagreat", sum := "47fe23f595d14f6f1b57873cbea4ca8d42dea1740dd1bb6ac762c9627411f484", func := "scholium/scholiumlaw14.WhnfLoose", spec := "whnfLoose", inPlace := ["sync/atomic.StoreInt64", "sync/atomic.LoadInt64", "sync/atomic.AddInt64"], unfollowed := true, recurses := true, loops := true, apart := false, narrowed := true }
def WhnfLooseUptoSaid : Prop := whnfLooseUptoRow.holds Tryz.pinned (OpenSpec.upto whnfLooseSpec)

/-- 'scholiumlaw14.WhnfAgain', WHERE WHAT IT READS IS OF BULK AT MOST 1048576: true; the input reads as it did. -/
def whnfAgainUptoRow : OpenClaim := { program := "yteiddempdecleaagreat", sum := "47fe23f595d14f6f1b57873cbea4ca8d42dea1740dd1bb6ac762c9627411f484", func := "scholium/scholiumlaw14.WhnfAgain", spec := "whnfAgain", inPlace := ["sync/atomic.StoreInt64", "sync/atomic.LoadInt64", "sync/atomic.AddInt64"], unfollowed := true, recurses := true, loops := true, apart := false, narrowed := true }
def WhnfAgainUptoSaid : Prop := whnfAgainUptoRow.holds Tryz.pinned (OpenSpec.upto whnfAgainSpec)

/-- 'scholiumlaw15.NormAgain', WHERE WHAT IT READS IS OF BULK AT MOST 1048576: true; the input reads as it did. -/
def normAgainUptoRow : OpenClaim := { program := "yteiddempdecleaagreat", sum := "47fe23f595d14f6f1b57873cbea4ca8d42dea1740dd1bb6ac762c9627411f484", func := "scholium/scholiumlaw15.NormAgain", spec := "normAgain", inPlace := ["sync/atomic.StoreInt64", "sync/atomic.LoadInt64", "sync/atomic.AddInt64"], unfollowed := true, recurses := true, loops := true, apart := false, narrowed := true }
def NormAgainUptoSaid : Prop := normAgainUptoRow.holds Tryz.pinned (OpenSpec.upto normAgainSpec)

/-- 'scholiumlaw15.NormValues', WHERE WHAT IT READS IS OF BULK AT MOST 1048576: true; the input reads as it did. -/
def normValuesUptoRow : OpenClaim := { program := "yteiddempdecleaagreat", sum := "47fe23f595d14f6f1b57873cbea4ca8d42dea1740dd1bb6ac762c9627411f484", func := "scholium/scholiumlaw15.NormValues", spec := "normValues", inPlace := ["sync/atomic.StoreInt64", "sync/atomic.LoadInt64", "sync/atomic.AddInt64"], unfollowed := true, recurses := true, loops := true, apart := false, narrowed := true }
def NormValuesUptoSaid : Prop := normValuesUptoRow.holds Tryz.pinned (OpenSpec.upto normValuesSpec)

/-- 'scholiumlaw27.LeafNone', WHERE WHAT IT READS IS OF BULK AT MOST 1048576: true; the input reads as it did. -/
def leafNoneUptoRow : OpenClaim := { program := "yteiddempdecleaagreat", sum := "47fe23f595d14f6f1b57873cbea4ca8d42dea1740dd1bb6ac762c9627411f484", func := "scholium/scholiumlaw27.LeafNone", spec := "leafNone", inPlace := ["sync/atomic.StoreInt64", "sync/atomic.LoadInt64", "sync/atomic.AddInt64"], unfollowed := true, recurses := true, loops := true, apart := false, narrowed := true }
def LeafNoneUptoSaid : Prop := leafNoneUptoRow.holds Tryz.pinned (OpenSpec.upto leafNoneSpec)

/-- 'scholiumlaw27.LeafFuel', WHERE WHAT IT READS IS OF BULK AT MOST 1048576: true; the input reads as it did. -/
def leafFuelUptoRow : OpenClaim := { program := "yteiddempdecleaagreat", sum := "47fe23f595d14f6f1b57873cbea4ca8d42dea1740dd1bb6ac762c9627411f484", func := "scholium/scholiumlaw27.LeafFuel", spec := "leafFuel", inPlace := ["sync/atomic.StoreInt64", "sync/atomic.LoadInt64", "sync/atomic.AddInt64"], unfollowed := true, recurses := true, loops := true, apart := false, narrowed := true }
def LeafFuelUptoSaid : Prop := leafFuelUptoRow.holds Tryz.pinned (OpenSpec.upto leafFuelSpec)

/-- 'scholiumlaw28.ClauseFuel', WHERE WHAT IT READS IS OF BULK AT MOST 1048576: true; the input reads as it did. -/
def clauseFuelUptoRow : OpenClaim := { program := "yteiddempdecleaagreat", sum := "47fe23f595d14f6f1b57873cbea4ca8d42dea1740dd1bb6ac762c9627411f484", func := "scholium/scholiumlaw28.ClauseFuel", spec := "clauseFuel", inPlace := ["sync/atomic.StoreInt64", "sync/atomic.LoadInt64", "sync/atomic.AddInt64"], unfollowed := true, recurses := true, loops := true, apart := false, narrowed := true }
def ClauseFuelUptoSaid : Prop := clauseFuelUptoRow.holds Tryz.pinned (OpenSpec.upto clauseFuelSpec)

/-- 'scholiumlaw17.InferFuel', WHERE WHAT IT READS IS OF BULK AT MOST 1048576: true; the input reads as it did. -/
def inferFuelUptoRow : OpenClaim := { program := "yteiddempdecleaagreat", sum := "47fe23f595d14f6f1b57873cbea4ca8d42dea1740dd1bb6ac762c9627411f484", func := "scholium/scholiumlaw17.InferFuel", spec := "inferFuel", inPlace := ["sync/atomic.StoreInt64", "sync/atomic.LoadInt64", "sync/atomic.AddInt64"], unfollowed := true, recurses := true, loops := true, apart := false, narrowed := true }
def InferFuelUptoSaid : Prop := inferFuelUptoRow.holds Tryz.pinned (OpenSpec.upto inferFuelSpec)

/-- 'scholiumlaw13.IotaMotives', WHERE WHAT IT READS IS OF BULK AT MOST 1048576: true; the input reads as it did. -/
def iotaMotivesUptoRow : OpenClaim := { program := "yteiddempdecleaagreat", sum := "47fe23f595d14f6f1b57873cbea4ca8d42dea1740dd1bb6ac762c9627411f484", func := "scholium/scholiumlaw13.IotaMotives", spec := "iotaMotives", unfollowed := true, recurses := true, loops := true, apart := false, narrowed := true }
def IotaMotivesUptoSaid : Prop := iotaMotivesUptoRow.holds Tryz.pinned (OpenSpec.upto iotaMotivesSpec)

/-- 'scholiumlaw13.IotaMethods', WHERE WHAT IT READS IS OF BULK AT MOST 1048576: true; the input reads as it did. -/
def iotaMethodsUptoRow : OpenClaim := { program := "yteiddempdecleaagreat", sum := "47fe23f595d14f6f1b57873cbea4ca8d42dea1740dd1bb6ac762c9627411f484", func := "scholium/scholiumlaw13.IotaMethods", spec := "iotaMethods", unfollowed := true, recurses := true, loops := true, apart := false, narrowed := true }
def IotaMethodsUptoSaid : Prop := iotaMethodsUptoRow.holds Tryz.pinned (OpenSpec.upto iotaMethodsSpec)

end Rows
end Go.Proofs.YteiddempdecleaaGreat
