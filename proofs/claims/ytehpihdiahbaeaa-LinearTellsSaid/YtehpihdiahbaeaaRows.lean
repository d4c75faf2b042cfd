/-
  No cell of these rows narrows 'for every input' (looked for: loops, veiled, ifaces, maps, wideKeys, modest, calm, conditions, laid).
  DERIVED. THE GIVEN ROWS OF THIS SEAT. 10 by the template 'for every input the law returns true; each argument reads behind the call as it read before'; 0 by the template 'total and deterministic' (their statements: YtehpihdiahbaeaaTotals.lean).
  GIVEN WITH THE SEED: the statements are not yours to turn. If you find one false, say at which input.
  Laid BY PROGRAM, IN A SANDBOX (cutbox-rows.mjs): the forced cells as the released guide's own fill.sh prints them over the translation 4aa00f0cadd77769… (all of the seat's roots in one cut). By AI agents, Wed Nov 11 2026. No macro, syntax, notation, axiom, sorry.
-/
import Derived.Test.YtehpihdiahbaeaaChecked
import GoSem.Claim
import GoSem.ClaimJoined
import GoSem.ClaimMapViews
import Derived.JoinedTies
import Derived.KernelRfl
namespace Go.Proofs.Ytehpihdiahbaeaa
/- THE CELL 'sum', in the pinned program and in every row, IS THE sha256 OF THE DUMP (.gsa) THAT YtehpihdiahbaeaaProg.lean LOADS. Nothing in Lean hashes anything: it is a label: what it is worth is what the hold of that sum in a sandbox is worth. -/
noncomputable def Try.pinned : Pinned := { name := "ytehpihdiahbaeaa", sum := "4aa00f0cadd77769df4126f59f46e86462c1bef0ed5eb2356e59f16232a98f85", checked := Try.checked }
namespace Rows
def none {H : Type} : Left H := { results := [], args := [] }

/-- 'suretylaw03.LinearRows': WHATEVER THE INPUT: true; the input reads as it did. -/
def linearRowsSpec : ChangeSpec := { name := "linearRows", fn := fun _ => fun
  | [d] => { results := [.lit (.bool true)], args := [d] }
  | _ => none }
def linearRowsRow : OpenClaim := { program := "ytehpihdiahbaeaa", sum := "4aa00f0cadd77769df4126f59f46e86462c1bef0ed5eb2356e59f16232a98f85", func := "surety/suretylaw03.LinearRows", spec := "linearRows", apart := false }
def LinearRowsSaid : Prop := linearRowsRow.holds Try.pinned (OpenSpec.ofChange linearRowsSpec)

/-- ITS FALSE NEIGHBOUR: 'it returns false'. Refute it at one input. -/
def linearRowsWrong : ChangeSpec := { name := "linearRows", fn := fun _ => fun
  | [d] => { results := [.lit (.bool false)], args := [d] }
  | _ => none }
def LinearRowsWrongFalsely : Prop := linearRowsRow.holds Try.pinned (OpenSpec.ofChange linearRowsWrong)

/-- 'suretylaw03.LinearBack': WHATEVER THE INPUT: true; the input reads as it did. -/
def linearBackSpec : ChangeSpec := { name := "linearBack", fn := fun _ => fun
  | [d] => { results := [.lit (.bool true)], args := [d] }
  | _ => none }
def linearBackRow : OpenClaim := { program := "ytehpihdiahbaeaa", sum := "4aa00f0cadd77769df4126f59f46e86462c1bef0ed5eb2356e59f16232a98f85", func := "surety/suretylaw03.LinearBack", spec := "linearBack", apart := false }
def LinearBackSaid : Prop := linearBackRow.holds Try.pinned (OpenSpec.ofChange linearBackSpec)

/-- ITS FALSE NEIGHBOUR: 'it returns false'. Refute it at one input. -/
def linearBackWrong : ChangeSpec := { name := "linearBack", fn := fun _ => fun
  | [d] => { results := [.lit (.bool false)], args := [d] }
  | _ => none }
def LinearBackWrongFalsely : Prop := linearBackRow.holds Try.pinned (OpenSpec.ofChange linearBackWrong)

/-- 'suretylaw03.LinearTights': WHATEVER THE INPUT: true; the input reads as it did. -/
def linearTightsSpec : ChangeSpec := { name := "linearTights", fn := fun _ => fun
  | [d] => { results := [.lit (.bool true)], args := [d] }
  | _ => none }
def linearTightsRow : OpenClaim := { program := "ytehpihdiahbaeaa", sum := "4aa00f0cadd77769df4126f59f46e86462c1bef0ed5eb2356e59f16232a98f85", func := "surety/suretylaw03.LinearTights", spec := "linearTights", apart := false }
def LinearTightsSaid : Prop := linearTightsRow.holds Try.pinned (OpenSpec.ofChange linearTightsSpec)

/-- ITS FALSE NEIGHBOUR: 'it returns false'. Refute it at one input. -/
def linearTightsWrong : ChangeSpec := { name := "linearTights", fn := fun _ => fun
  | [d] => { results := [.lit (.bool false)], args := [d] }
  | _ => none }
def LinearTightsWrongFalsely : Prop := linearTightsRow.holds Try.pinned (OpenSpec.ofChange linearTightsWrong)

/-- 'suretylaw03.LinearValues': WHATEVER THE INPUT: true; the input reads as it did. -/
def linearValuesSpec : ChangeSpec := { name := "linearValues", fn := fun _ => fun
  | [d1, d2] => { results := [.lit (.bool true)], args := [d1, d2] }
  | _ => none }
def linearValuesRow : OpenClaim := { program := "ytehpihdiahbaeaa", sum := "4aa00f0cadd77769df4126f59f46e86462c1bef0ed5eb2356e59f16232a98f85", func := "surety/suretylaw03.LinearValues", spec := "linearValues", apart := false }
def LinearValuesSaid : Prop := linearValuesRow.holds Try.pinned (OpenSpec.ofChange linearValuesSpec)

/-- ITS FALSE NEIGHBOUR: 'it returns false'. Refute it at one input. -/
def linearValuesWrong : ChangeSpec := { name := "linearValues", fn := fun _ => fun
  | [d1, d2] => { results := [.lit (.bool false)], args := [d1, d2] }
  | _ => none }
def LinearValuesWrongFalsely : Prop := linearValuesRow.holds Try.pinned (OpenSpec.ofChange linearValuesWrong)

/-- 'suretylaw03.LinearTells': WHATEVER THE INPUT: true; the input reads as it did. -/
def linearTellsSpec : ChangeSpec := { name := "linearTells", fn := fun _ => fun
  | [d1, d2] => { results := [.lit (.bool true)], args := [d1, d2] }
  | _ => none }
def linearTellsRow : OpenClaim := { program := "ytehpihdiahbaeaa", sum := "4aa00f0cadd77769df4126f59f46e86462c1bef0ed5eb2356e59f16232a98f85", func := "surety/suretylaw03.LinearTells", spec := "linearTells", apart := false }
def LinearTellsSaid : Prop := linearTellsRow.holds Try.pinned (OpenSpec.ofChange linearTellsSpec)

/-- ITS FALSE NEIGHBOUR: 'it returns false'. Refute it at one input. -/
def linearTellsWrong : ChangeSpec := { name := "linearTells", fn := fun _ => fun
  | [d1, d2] => { results := [.lit (.bool false)], args := [d1, d2] }
  | _ => none }
def LinearTellsWrongFalsely : Prop := linearTellsRow.holds Try.pinned (OpenSpec.ofChange linearTellsWrong)

/-- 'suretylaw03.LinearHolds': WHATEVER THE INPUT: true; the input reads as it did. -/
def linearHoldsSpec : ChangeSpec := { name := "linearHolds", fn := fun _ => fun
  | [d1, d2] => { results := [.lit (.bool true)], args := [d1, d2] }
  | _ => none }
def linearHoldsRow : OpenClaim := { program := "ytehpihdiahbaeaa", sum := "4aa00f0cadd77769df4126f59f46e86462c1bef0ed5eb2356e59f16232a98f85", func := "surety/suretylaw03.LinearHolds", spec := "linearHolds", apart := false }
def LinearHoldsSaid : Prop := linearHoldsRow.holds Try.pinned (OpenSpec.ofChange linearHoldsSpec)

/-- ITS FALSE NEIGHBOUR: 'it returns false'. Refute it at one input. -/
def linearHoldsWrong : ChangeSpec := { name := "linearHolds", fn := fun _ => fun
  | [d1, d2] => { results := [.lit (.bool false)], args := [d1, d2] }
  | _ => none }
def LinearHoldsWrongFalsely : Prop := linearHoldsRow.holds Try.pinned (OpenSpec.ofChange linearHoldsWrong)

/-- 'suretylaw03.LinearAtMost': WHATEVER THE INPUT: true; the input reads as it did. -/
def linearAtMostSpec : ChangeSpec := { name := "linearAtMost", fn := fun _ => fun
  | [d1, d2] => { results := [.lit (.bool true)], args := [d1, d2] }
  | _ => none }
def linearAtMostRow : OpenClaim := { program := "ytehpihdiahbaeaa", sum := "4aa00f0cadd77769df4126f59f46e86462c1bef0ed5eb2356e59f16232a98f85", func := "surety/suretylaw03.LinearAtMost", spec := "linearAtMost", apart := false }
def LinearAtMostSaid : Prop := linearAtMostRow.holds Try.pinned (OpenSpec.ofChange linearAtMostSpec)

/-- ITS FALSE NEIGHBOUR: 'it returns false'. Refute it at one input. -/
def linearAtMostWrong : ChangeSpec := { name := "linearAtMost", fn := fun _ => fun
  | [d1, d2] => { results := [.lit (.bool false)], args := [d1, d2] }
  | _ => none }
def LinearAtMostWrongFalsely : Prop := linearAtMostRow.holds Try.pinned (OpenSpec.ofChange linearAtMostWrong)

/-- 'suretylaw03.LinearReckons': WHATEVER THE INPUT: true; the input reads as it did. -/
def linearReckonsSpec : ChangeSpec := { name := "linearReckons", fn := fun _ => fun
  | [d1, d2, d3] => { results := [.lit (.bool true)], args := [d1, d2, d3] }
  | _ => none }
def linearReckonsRow : OpenClaim := { program := "ytehpihdiahbaeaa", sum := "4aa00f0cadd77769df4126f59f46e86462c1bef0ed5eb2356e59f16232a98f85", func := "surety/suretylaw03.LinearReckons", spec := "linearReckons", apart := false }
def LinearReckonsSaid : Prop := linearReckonsRow.holds Try.pinned (OpenSpec.ofChange linearReckonsSpec)

/-- ITS FALSE NEIGHBOUR: 'it returns false'. Refute it at one input. -/
def linearReckonsWrong : ChangeSpec := { name := "linearReckons", fn := fun _ => fun
  | [d1, d2, d3] => { results := [.lit (.bool false)], args := [d1, d2, d3] }
  | _ => none }
def LinearReckonsWrongFalsely : Prop := linearReckonsRow.holds Try.pinned (OpenSpec.ofChange linearReckonsWrong)

/-- 'suretylaw03.LinearCancels': WHATEVER THE INPUT: true; the input reads as it did. -/
def linearCancelsSpec : ChangeSpec := { name := "linearCancels", fn := fun _ => fun
  | [d1, d2, d3] => { results := [.lit (.bool true)], args := [d1, d2, d3] }
  | _ => none }
def linearCancelsRow : OpenClaim := { program := "ytehpihdiahbaeaa", sum := "4aa00f0cadd77769df4126f59f46e86462c1bef0ed5eb2356e59f16232a98f85", func := "surety/suretylaw03.LinearCancels", spec := "linearCancels", apart := false }
def LinearCancelsSaid : Prop := linearCancelsRow.holds Try.pinned (OpenSpec.ofChange linearCancelsSpec)

/-- ITS FALSE NEIGHBOUR: 'it returns false'. Refute it at one input. -/
def linearCancelsWrong : ChangeSpec := { name := "linearCancels", fn := fun _ => fun
  | [d1, d2, d3] => { results := [.lit (.bool false)], args := [d1, d2, d3] }
  | _ => none }
def LinearCancelsWrongFalsely : Prop := linearCancelsRow.holds Try.pinned (OpenSpec.ofChange linearCancelsWrong)

/-- 'suretylaw03.LinearThrough': WHATEVER THE INPUT: true; the input reads as it did. -/
def linearThroughSpec : ChangeSpec := { name := "linearThrough", fn := fun _ => fun
  | [d1, d2, d3] => { results := [.lit (.bool true)], args := [d1, d2, d3] }
  | _ => none }
def linearThroughRow : OpenClaim := { program := "ytehpihdiahbaeaa", sum := "4aa00f0cadd77769df4126f59f46e86462c1bef0ed5eb2356e59f16232a98f85", func := "surety/suretylaw03.LinearThrough", spec := "linearThrough", apart := false }
def LinearThroughSaid : Prop := linearThroughRow.holds Try.pinned (OpenSpec.ofChange linearThroughSpec)

/-- ITS FALSE NEIGHBOUR: 'it returns false'. Refute it at one input. -/
def linearThroughWrong : ChangeSpec := { name := "linearThrough", fn := fun _ => fun
  | [d1, d2, d3] => { results := [.lit (.bool false)], args := [d1, d2, d3] }
  | _ => none }
def LinearThroughWrongFalsely : Prop := linearThroughRow.holds Try.pinned (OpenSpec.ofChange linearThroughWrong)

/- THE SECOND FORM. 'bulk': how many values and letters a reading holds, each counted each time it is reached (what is shared counts as often as it is met; a slice's spare places count too). A statement '..UptoSaid' is the law's where the arguments, and the package variables that the reading takes, are together of bulk at most 1048576: NARROWER than '..Said'. Prove '..Said' where nothing that the law and all that it calls make is longer than what came in: it says more and counts as full. Else prove '..UptoSaid'. A law counts once. -/
mutual
def uptoBulk {H : Type} : DataW H → Nat
  | .lit (.string bytes) => bytes.length + 1
  | .lit _ => 1
  | .nil => 1
  | .ptr d => uptoBulk d + 1
  | .slice elems spare => uptoBulkAll elems + uptoBulkAll spare + 1
  | .agg parts => uptoBulkAll parts + 1
  | .iface _ d => uptoBulk d + 1
  | .map entries => uptoBulkEntries entries + 1
  | .held _ => 1
def uptoBulkAll {H : Type} : List (DataW H) → Nat
  | [] => 0
  | d :: r => uptoBulk d + uptoBulkAll r
def uptoBulkEntries {H : Type} : List (Lit × DataW H) → Nat
  | [] => 0
  | x :: r => uptoBulkEntry x + uptoBulkEntries r
def uptoBulkEntry {H : Type} : Lit × DataW H → Nat
  | (.string bytes, d) => bytes.length + uptoBulk d + 1
  | (_, d) => uptoBulk d + 1
 end
def uptoSmall : (H : Type) → List (DataW H) → Bool := fun _ ds => decide (uptoBulkAll ds ≤ 1048576)
def OpenSpec.upto (s : _root_.Go.ChangeSpec) : _root_.Go.OpenSpec := { _root_.Go.OpenSpec.ofChange s with cond := some uptoSmall }

/-- 'suretylaw03.LinearRows', WHERE WHAT IT READS IS OF BULK AT MOST 1048576: true; the input reads as it did. -/
def linearRowsUptoRow : OpenClaim := { program := "ytehpihdiahbaeaa", sum := "4aa00f0cadd77769df4126f59f46e86462c1bef0ed5eb2356e59f16232a98f85", func := "surety/suretylaw03.LinearRows", spec := "linearRows", apart := false, narrowed := true }
def LinearRowsUptoSaid : Prop := linearRowsUptoRow.holds Try.pinned (OpenSpec.upto linearRowsSpec)

/-- 'suretylaw03.LinearBack', WHERE WHAT IT READS IS OF BULK AT MOST 1048576: true; the input reads as it did. -/
def linearBackUptoRow : OpenClaim := { program := "ytehpihdiahbaeaa", sum := "4aa00f0cadd77769df4126f59f46e86462c1bef0ed5eb2356e59f16232a98f85", func := "surety/suretylaw03.LinearBack", spec := "linearBack", apart := false, narrowed := true }
def LinearBackUptoSaid : Prop := linearBackUptoRow.holds Try.pinned (OpenSpec.upto linearBackSpec)

/-- 'suretylaw03.LinearTights', WHERE WHAT IT READS IS OF BULK AT MOST 1048576: true; the input reads as it did. -/
def linearTightsUptoRow : OpenClaim := { program := "ytehpihdiahbaeaa", sum := "4aa00f0cadd77769df4126f59f46e86462c1bef0ed5eb2356e59f16232a98f85", func := "surety/suretylaw03.LinearTights", spec := "linearTights", apart := false, narrowed := true }
def LinearTightsUptoSaid : Prop := linearTightsUptoRow.holds Try.pinned (OpenSpec.upto linearTightsSpec)

/-- 'suretylaw03.LinearValues', WHERE WHAT IT READS IS OF BULK AT MOST 1048576: true; the input reads as it did. -/
def linearValuesUptoRow : OpenClaim := { program := "ytehpihdiahbaeaa", sum := "4aa00f0cadd77769df4126f59f46e86462c1bef0ed5eb2356e59f16232a98f85", func := "surety/suretylaw03.LinearValues", spec := "linearValues", apart := false, narrowed := true }
def LinearValuesUptoSaid : Prop := linearValuesUptoRow.holds Try.pinned (OpenSpec.upto linearValuesSpec)

/-- 'suretylaw03.LinearTells', WHERE WHAT IT READS IS OF BULK AT MOST 1048576: true; the input reads as it did. -/
def linearTellsUptoRow : OpenClaim := { program := "ytehpihdiahbaeaa", sum := "4aa00f0cadd77769df4126f59f46e86462c1bef0ed5eb2356e59f16232a98f85", func := "surety/suretylaw03.LinearTells", spec := "linearTells", apart := false, narrowed := true }
def LinearTellsUptoSaid : Prop := linearTellsUptoRow.holds Try.pinned (OpenSpec.upto linearTellsSpec)

/-- 'suretylaw03.LinearHolds', WHERE WHAT IT READS IS OF BULK AT MOST 1048576: true; the input reads as it did. -/
def linearHoldsUptoRow : OpenClaim := { program := "ytehpihdiahbaeaa", sum := "4aa00f0cadd77769df4126f59f46e86462c1bef0ed5eb2356e59f16232a98f85", func := "surety/suretylaw03.LinearHolds", spec := "linearHolds", apart := false, narrowed := true }
def LinearHoldsUptoSaid : Prop := linearHoldsUptoRow.holds Try.pinned (OpenSpec.upto linearHoldsSpec)

/-- 'suretylaw03.LinearAtMost', WHERE WHAT IT READS IS OF BULK AT MOST 1048576: true; the input reads as it did. -/
def linearAtMostUptoRow : OpenClaim := { program := "ytehpihdiahbaeaa", sum := "4aa00f0cadd77769df4126f59f46e86462c1bef0ed5eb2356e59f16232a98f85", func := "surety/suretylaw03.LinearAtMost", spec := "linearAtMost", apart := false, narrowed := true }
def LinearAtMostUptoSaid : Prop := linearAtMostUptoRow.holds Try.pinned (OpenSpec.upto linearAtMostSpec)

/-- 'suretylaw03.LinearReckons', WHERE WHAT IT READS IS OF BULK AT MOST 1048576: true; the input reads as it did. -/
def linearReckonsUptoRow : OpenClaim := { program := "ytehpihdiahbaeaa", sum := "4aa00f0cadd77769df4126f59f46e86462c1bef0ed5eb2356e59f16232a98f85", func := "surety/suretylaw03.LinearReckons", spec := "linearReckons", apart := false, narrowed := true }
def LinearReckonsUptoSaid : Prop := linearReckonsUptoRow.holds Try.pinned (OpenSpec.upto linearReckonsSpec)

/-- 'suretylaw03.LinearCancels', WHERE WHAT IT READS IS OF BULK AT MOST 1048576: true; the input reads as it did. -/
def linearCancelsUptoRow : OpenClaim := { program := "ytehpihdiahbaeaa", sum := "4aa00f0cadd77769df4126f59f46e86462c1bef0ed5eb2356e59f16232a98f85", func := "surety/suretylaw03.LinearCancels", spec := "linearCancels", apart := false, narrowed := true }
def LinearCancelsUptoSaid : Prop := linearCancelsUptoRow.holds Try.pinned (OpenSpec.upto linearCancelsSpec)

/-- 'suretylaw03.LinearThrough', WHERE WHAT IT READS IS OF BULK AT MOST 1048576: true; the input reads as it did. -/
def linearThroughUptoRow : OpenClaim := { program := "ytehpihdiahbaeaa", sum := "4aa00f0cadd77769df4126f59f46e86462c1bef0ed5eb2356e59f16232a98f85", func := "surety/suretylaw03.LinearThrough", spec := "linearThrough", apart := false, narrowed := true }
def LinearThroughUptoSaid : Prop := linearThroughUptoRow.holds Try.pinned (OpenSpec.upto linearThroughSpec)

end Rows
end Go.Proofs.Ytehpihdiahbaeaa
