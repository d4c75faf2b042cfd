/-
  No cell of these rows narrows 'for every input' (looked for: loops, veiled, ifaces, maps, wideKeys, modest, calm, conditions, laid).
  DERIVED. THE GIVEN ROWS OF THIS SEAT. 12 by the template 'for every input the law returns true; each argument reads behind the call as it read before'; 0 by the template 'total and deterministic' (their statements: YthakloheglgfcaaTotals.lean).
  GIVEN WITH THE SEED: the statements are not yours to turn. If you find one false, say at which input.
  Laid BY PROGRAM, IN A SANDBOX (cutbox-rows.mjs): the forced cells as the released guide's own fill.sh prints them over the translation d31b6e4d85090d6e… (all of the seat's roots in one cut). By AI agents, Wed Nov 11 2026. No macro, syntax, notation, axiom, sorry.
-/
import Derived.Test.YthakloheglgfcaaChecked
import GoSem.Claim
import GoSem.ClaimJoined
import GoSem.ClaimMapViews
import Derived.JoinedTies
import Derived.KernelRfl
namespace Go.Proofs.Ythakloheglgfcaa
/- THE CELL 'sum', in the pinned program and in every row, IS THE sha256 OF THE DUMP (.gsa) THAT YthakloheglgfcaaProg.lean LOADS. Nothing in Lean hashes anything: it is a label: what it is worth is what the hold of that sum in a sandbox is worth. -/
noncomputable def Try.pinned : Pinned := { name := "ythakloheglgfcaa", sum := "d31b6e4d85090d6e3588fdf1116aba826d7edb8c51fd73779f11eb42d6d40ad2", checked := Try.checked }
namespace Rows
def none {H : Type} : Left H := { results := [], args := [] }

/-- 'suretylaw01.ArithReads': WHATEVER THE INPUT: true; the input reads as it did. -/
def arithReadsSpec : ChangeSpec := { name := "arithReads", fn := fun _ => fun
  | [d] => { results := [.lit (.bool true)], args := [d] }
  | _ => none }
def arithReadsRow : OpenClaim := { program := "ythakloheglgfcaa", sum := "d31b6e4d85090d6e3588fdf1116aba826d7edb8c51fd73779f11eb42d6d40ad2", func := "surety/suretylaw01.ArithReads", spec := "arithReads", apart := false }
def ArithReadsSaid : Prop := arithReadsRow.holds Try.pinned (OpenSpec.ofChange arithReadsSpec)

/-- ITS FALSE NEIGHBOUR: 'it returns false'. Refute it at one input. -/
def arithReadsWrong : ChangeSpec := { name := "arithReads", fn := fun _ => fun
  | [d] => { results := [.lit (.bool false)], args := [d] }
  | _ => none }
def ArithReadsWrongFalsely : Prop := arithReadsRow.holds Try.pinned (OpenSpec.ofChange arithReadsWrong)

/-- 'suretylaw01.ArithDivisors': WHATEVER THE INPUT: true; the input reads as it did. -/
def arithDivisorsSpec : ChangeSpec := { name := "arithDivisors", fn := fun _ => fun
  | [d1, d2] => { results := [.lit (.bool true)], args := [d1, d2] }
  | _ => none }
def arithDivisorsRow : OpenClaim := { program := "ythakloheglgfcaa", sum := "d31b6e4d85090d6e3588fdf1116aba826d7edb8c51fd73779f11eb42d6d40ad2", func := "surety/suretylaw01.ArithDivisors", spec := "arithDivisors", apart := false }
def ArithDivisorsSaid : Prop := arithDivisorsRow.holds Try.pinned (OpenSpec.ofChange arithDivisorsSpec)

/-- ITS FALSE NEIGHBOUR: 'it returns false'. Refute it at one input. -/
def arithDivisorsWrong : ChangeSpec := { name := "arithDivisors", fn := fun _ => fun
  | [d1, d2] => { results := [.lit (.bool false)], args := [d1, d2] }
  | _ => none }
def ArithDivisorsWrongFalsely : Prop := arithDivisorsRow.holds Try.pinned (OpenSpec.ofChange arithDivisorsWrong)

/-- 'suretylaw01.ArithReckons': WHATEVER THE INPUT: true; the input reads as it did. -/
def arithReckonsSpec : ChangeSpec := { name := "arithReckons", fn := fun _ => fun
  | [d1, d2] => { results := [.lit (.bool true)], args := [d1, d2] }
  | _ => none }
def arithReckonsRow : OpenClaim := { program := "ythakloheglgfcaa", sum := "d31b6e4d85090d6e3588fdf1116aba826d7edb8c51fd73779f11eb42d6d40ad2", func := "surety/suretylaw01.ArithReckons", spec := "arithReckons", apart := false }
def ArithReckonsSaid : Prop := arithReckonsRow.holds Try.pinned (OpenSpec.ofChange arithReckonsSpec)

/-- ITS FALSE NEIGHBOUR: 'it returns false'. Refute it at one input. -/
def arithReckonsWrong : ChangeSpec := { name := "arithReckons", fn := fun _ => fun
  | [d1, d2] => { results := [.lit (.bool false)], args := [d1, d2] }
  | _ => none }
def ArithReckonsWrongFalsely : Prop := arithReckonsRow.holds Try.pinned (OpenSpec.ofChange arithReckonsWrong)

/-- 'suretylaw01.ArithSums': WHATEVER THE INPUT: true; the input reads as it did. -/
def arithSumsSpec : ChangeSpec := { name := "arithSums", fn := fun _ => fun
  | [d] => { results := [.lit (.bool true)], args := [d] }
  | _ => none }
def arithSumsRow : OpenClaim := { program := "ythakloheglgfcaa", sum := "d31b6e4d85090d6e3588fdf1116aba826d7edb8c51fd73779f11eb42d6d40ad2", func := "surety/suretylaw01.ArithSums", spec := "arithSums", apart := false }
def ArithSumsSaid : Prop := arithSumsRow.holds Try.pinned (OpenSpec.ofChange arithSumsSpec)

/-- ITS FALSE NEIGHBOUR: 'it returns false'. Refute it at one input. -/
def arithSumsWrong : ChangeSpec := { name := "arithSums", fn := fun _ => fun
  | [d] => { results := [.lit (.bool false)], args := [d] }
  | _ => none }
def ArithSumsWrongFalsely : Prop := arithSumsRow.holds Try.pinned (OpenSpec.ofChange arithSumsWrong)

/-- 'suretylaw01.ArithDivides': WHATEVER THE INPUT: true; the input reads as it did. -/
def arithDividesSpec : ChangeSpec := { name := "arithDivides", fn := fun _ => fun
  | [d1, d2] => { results := [.lit (.bool true)], args := [d1, d2] }
  | _ => none }
def arithDividesRow : OpenClaim := { program := "ythakloheglgfcaa", sum := "d31b6e4d85090d6e3588fdf1116aba826d7edb8c51fd73779f11eb42d6d40ad2", func := "surety/suretylaw01.ArithDivides", spec := "arithDivides", apart := false }
def ArithDividesSaid : Prop := arithDividesRow.holds Try.pinned (OpenSpec.ofChange arithDividesSpec)

/-- ITS FALSE NEIGHBOUR: 'it returns false'. Refute it at one input. -/
def arithDividesWrong : ChangeSpec := { name := "arithDivides", fn := fun _ => fun
  | [d1, d2] => { results := [.lit (.bool false)], args := [d1, d2] }
  | _ => none }
def ArithDividesWrongFalsely : Prop := arithDividesRow.holds Try.pinned (OpenSpec.ofChange arithDividesWrong)

/-- 'suretylaw01.ArithMoves': WHATEVER THE INPUT: true; the input reads as it did. -/
def arithMovesSpec : ChangeSpec := { name := "arithMoves", fn := fun _ => fun
  | [d1, d2, d3] => { results := [.lit (.bool true)], args := [d1, d2, d3] }
  | _ => none }
def arithMovesRow : OpenClaim := { program := "ythakloheglgfcaa", sum := "d31b6e4d85090d6e3588fdf1116aba826d7edb8c51fd73779f11eb42d6d40ad2", func := "surety/suretylaw01.ArithMoves", spec := "arithMoves", apart := false }
def ArithMovesSaid : Prop := arithMovesRow.holds Try.pinned (OpenSpec.ofChange arithMovesSpec)

/-- ITS FALSE NEIGHBOUR: 'it returns false'. Refute it at one input. -/
def arithMovesWrong : ChangeSpec := { name := "arithMoves", fn := fun _ => fun
  | [d1, d2, d3] => { results := [.lit (.bool false)], args := [d1, d2, d3] }
  | _ => none }
def ArithMovesWrongFalsely : Prop := arithMovesRow.holds Try.pinned (OpenSpec.ofChange arithMovesWrong)

/-- 'suretylaw01.ArithSmall': WHATEVER THE INPUT: true; the input reads as it did. -/
def arithSmallSpec : ChangeSpec := { name := "arithSmall", fn := fun _ => fun
  | [d1, d2] => { results := [.lit (.bool true)], args := [d1, d2] }
  | _ => none }
def arithSmallRow : OpenClaim := { program := "ythakloheglgfcaa", sum := "d31b6e4d85090d6e3588fdf1116aba826d7edb8c51fd73779f11eb42d6d40ad2", func := "surety/suretylaw01.ArithSmall", spec := "arithSmall", apart := false }
def ArithSmallSaid : Prop := arithSmallRow.holds Try.pinned (OpenSpec.ofChange arithSmallSpec)

/-- ITS FALSE NEIGHBOUR: 'it returns false'. Refute it at one input. -/
def arithSmallWrong : ChangeSpec := { name := "arithSmall", fn := fun _ => fun
  | [d1, d2] => { results := [.lit (.bool false)], args := [d1, d2] }
  | _ => none }
def ArithSmallWrongFalsely : Prop := arithSmallRow.holds Try.pinned (OpenSpec.ofChange arithSmallWrong)

/-- 'suretylaw01.ArithOrders': WHATEVER THE INPUT: true; the input reads as it did. -/
def arithOrdersSpec : ChangeSpec := { name := "arithOrders", fn := fun _ => fun
  | [d1, d2] => { results := [.lit (.bool true)], args := [d1, d2] }
  | _ => none }
def arithOrdersRow : OpenClaim := { program := "ythakloheglgfcaa", sum := "d31b6e4d85090d6e3588fdf1116aba826d7edb8c51fd73779f11eb42d6d40ad2", func := "surety/suretylaw01.ArithOrders", spec := "arithOrders", apart := false }
def ArithOrdersSaid : Prop := arithOrdersRow.holds Try.pinned (OpenSpec.ofChange arithOrdersSpec)

/-- ITS FALSE NEIGHBOUR: 'it returns false'. Refute it at one input. -/
def arithOrdersWrong : ChangeSpec := { name := "arithOrders", fn := fun _ => fun
  | [d1, d2] => { results := [.lit (.bool false)], args := [d1, d2] }
  | _ => none }
def ArithOrdersWrongFalsely : Prop := arithOrdersRow.holds Try.pinned (OpenSpec.ofChange arithOrdersWrong)

/-- 'suretylaw01.ArithRing': WHATEVER THE INPUT: true; the input reads as it did. -/
def arithRingSpec : ChangeSpec := { name := "arithRing", fn := fun _ => fun
  | [d1, d2, d3] => { results := [.lit (.bool true)], args := [d1, d2, d3] }
  | _ => none }
def arithRingRow : OpenClaim := { program := "ythakloheglgfcaa", sum := "d31b6e4d85090d6e3588fdf1116aba826d7edb8c51fd73779f11eb42d6d40ad2", func := "surety/suretylaw01.ArithRing", spec := "arithRing", apart := false }
def ArithRingSaid : Prop := arithRingRow.holds Try.pinned (OpenSpec.ofChange arithRingSpec)

/-- ITS FALSE NEIGHBOUR: 'it returns false'. Refute it at one input. -/
def arithRingWrong : ChangeSpec := { name := "arithRing", fn := fun _ => fun
  | [d1, d2, d3] => { results := [.lit (.bool false)], args := [d1, d2, d3] }
  | _ => none }
def ArithRingWrongFalsely : Prop := arithRingRow.holds Try.pinned (OpenSpec.ofChange arithRingWrong)

/-- 'suretylaw01.ArithPowers': WHATEVER THE INPUT: true; the input reads as it did. -/
def arithPowersSpec : ChangeSpec := { name := "arithPowers", fn := fun _ => fun
  | [d1, d2] => { results := [.lit (.bool true)], args := [d1, d2] }
  | _ => none }
def arithPowersRow : OpenClaim := { program := "ythakloheglgfcaa", sum := "d31b6e4d85090d6e3588fdf1116aba826d7edb8c51fd73779f11eb42d6d40ad2", func := "surety/suretylaw01.ArithPowers", spec := "arithPowers", apart := false }
def ArithPowersSaid : Prop := arithPowersRow.holds Try.pinned (OpenSpec.ofChange arithPowersSpec)

/-- ITS FALSE NEIGHBOUR: 'it returns false'. Refute it at one input. -/
def arithPowersWrong : ChangeSpec := { name := "arithPowers", fn := fun _ => fun
  | [d1, d2] => { results := [.lit (.bool false)], args := [d1, d2] }
  | _ => none }
def ArithPowersWrongFalsely : Prop := arithPowersRow.holds Try.pinned (OpenSpec.ofChange arithPowersWrong)

/-- 'suretylaw01.ArithSplits': WHATEVER THE INPUT: true; the input reads as it did. -/
def arithSplitsSpec : ChangeSpec := { name := "arithSplits", fn := fun _ => fun
  | [d1, d2] => { results := [.lit (.bool true)], args := [d1, d2] }
  | _ => none }
def arithSplitsRow : OpenClaim := { program := "ythakloheglgfcaa", sum := "d31b6e4d85090d6e3588fdf1116aba826d7edb8c51fd73779f11eb42d6d40ad2", func := "surety/suretylaw01.ArithSplits", spec := "arithSplits", apart := false }
def ArithSplitsSaid : Prop := arithSplitsRow.holds Try.pinned (OpenSpec.ofChange arithSplitsSpec)

/-- ITS FALSE NEIGHBOUR: 'it returns false'. Refute it at one input. -/
def arithSplitsWrong : ChangeSpec := { name := "arithSplits", fn := fun _ => fun
  | [d1, d2] => { results := [.lit (.bool false)], args := [d1, d2] }
  | _ => none }
def ArithSplitsWrongFalsely : Prop := arithSplitsRow.holds Try.pinned (OpenSpec.ofChange arithSplitsWrong)

/-- 'suretylaw01.ArithFactors': WHATEVER THE INPUT: true; the input reads as it did. -/
def arithFactorsSpec : ChangeSpec := { name := "arithFactors", fn := fun _ => fun
  | [d1, d2, d3] => { results := [.lit (.bool true)], args := [d1, d2, d3] }
  | _ => none }
def arithFactorsRow : OpenClaim := { program := "ythakloheglgfcaa", sum := "d31b6e4d85090d6e3588fdf1116aba826d7edb8c51fd73779f11eb42d6d40ad2", func := "surety/suretylaw01.ArithFactors", spec := "arithFactors", apart := false }
def ArithFactorsSaid : Prop := arithFactorsRow.holds Try.pinned (OpenSpec.ofChange arithFactorsSpec)

/-- ITS FALSE NEIGHBOUR: 'it returns false'. Refute it at one input. -/
def arithFactorsWrong : ChangeSpec := { name := "arithFactors", fn := fun _ => fun
  | [d1, d2, d3] => { results := [.lit (.bool false)], args := [d1, d2, d3] }
  | _ => none }
def ArithFactorsWrongFalsely : Prop := arithFactorsRow.holds Try.pinned (OpenSpec.ofChange arithFactorsWrong)

/- THE SECOND FORM. 'bulk': how many values and letters a reading holds, each counted each time it is reached (what is shared counts as often as it is met; a slice's spare places count too). A statement '..UptoSaid' is the law's where the arguments, and the package variables that the reading takes, are together of bulk at most 1048576: NARROWER than '..Said'. Prove '..Said' where nothing that the law and all that it calls make is longer than what came in: it says more and counts as full. Else prove '..UptoSaid'. A law counts once. -/
mutual
def uptoBulk {H : Type} : DataW H → Nat
  | .lit (.string bytes) => bytes.length + 1
  | .lit _ => 1
  | .nil => 1
  | .ptr d => uptoBulk d + 1
  | .slice elems spare => uptoBulkAll elems + uptoBulkAll spare + 1
  | .agg parts => uptoBulkAll parts + 1
  | .iface _ d => uptoBulk d + 1
  | .map entries => uptoBulkEntries entries + 1
  | .held _ => 1
def uptoBulkAll {H : Type} : List (DataW H) → Nat
  | [] => 0
  | d :: r => uptoBulk d + uptoBulkAll r
def uptoBulkEntries {H : Type} : List (Lit × DataW H) → Nat
  | [] => 0
  | x :: r => uptoBulkEntry x + uptoBulkEntries r
def uptoBulkEntry {H : Type} : Lit × DataW H → Nat
  | (.string bytes, d) => bytes.length + uptoBulk d + 1
  | (_, d) => uptoBulk d + 1
 end
def uptoSmall : (H : Type) → List (DataW H) → Bool := fun _ ds => decide (uptoBulkAll ds ≤ 1048576)
def OpenSpec.upto (s : _root_.Go.ChangeSpec) : _root_.Go.OpenSpec := { _root_.Go.OpenSpec.ofChange s with cond := some uptoSmall }

/-- 'suretylaw01.ArithReads', WHERE WHAT IT READS IS OF BULK AT MOST 1048576: true; the input reads as it did. -/
def arithReadsUptoRow : OpenClaim := { program := "ythakloheglgfcaa", sum := "d31b6e4d85090d6e3588fdf1116aba826d7edb8c51fd73779f11eb42d6d40ad2", func := "surety/suretylaw01.ArithReads", spec := "arithReads", apart := false, narrowed := true }
def ArithReadsUptoSaid : Prop := arithReadsUptoRow.holds Try.pinned (OpenSpec.upto arithReadsSpec)

/-- 'suretylaw01.ArithDivisors', WHERE WHAT IT READS IS OF BULK AT MOST 1048576: true; the input reads as it did. -/
def arithDivisorsUptoRow : OpenClaim := { program := "ythakloheglgfcaa", sum := "d31b6e4d85090d6e3588fdf1116aba826d7edb8c51fd73779f11eb42d6d40ad2", func := "surety/suretylaw01.ArithDivisors", spec := "arithDivisors", apart := false, narrowed := true }
def ArithDivisorsUptoSaid : Prop := arithDivisorsUptoRow.holds Try.pinned (OpenSpec.upto arithDivisorsSpec)

/-- 'suretylaw01.ArithReckons', WHERE WHAT IT READS IS OF BULK AT MOST 1048576: true; the input reads as it did. -/
def arithReckonsUptoRow : OpenClaim := { program := "ythakloheglgfcaa", sum := "d31b6e4d85090d6e3588fdf1116aba826d7edb8c51fd73779f11eb42d6d40ad2", func := "surety/suretylaw01.ArithReckons", spec := "arithReckons", apart := false, narrowed := true }
def ArithReckonsUptoSaid : Prop := arithReckonsUptoRow.holds Try.pinned (OpenSpec.upto arithReckonsSpec)

/-- 'suretylaw01.ArithSums', WHERE WHAT IT READS IS OF BULK AT MOST 1048576: true; the input reads as it did. -/
def arithSumsUptoRow : OpenClaim := { program := "ythakloheglgfcaa", sum := "d31b6e4d85090d6e3588fdf1116aba826d7edb8c51fd73779f11eb42d6d40ad2", func := "surety/suretylaw01.ArithSums", spec := "arithSums", apart := false, narrowed := true }
def ArithSumsUptoSaid : Prop := arithSumsUptoRow.holds Try.pinned (OpenSpec.upto arithSumsSpec)

/-- 'suretylaw01.ArithDivides', WHERE WHAT IT READS IS OF BULK AT MOST 1048576: true; the input reads as it did. -/
def arithDividesUptoRow : OpenClaim := { program := "ythakloheglgfcaa", sum := "d31b6e4d85090d6e3588fdf1116aba826d7edb8c51fd73779f11eb42d6d40ad2", func := "surety/suretylaw01.ArithDivides", spec := "arithDivides", apart := false, narrowed := true }
def ArithDividesUptoSaid : Prop := arithDividesUptoRow.holds Try.pinned (OpenSpec.upto arithDividesSpec)

/-- 'suretylaw01.ArithMoves', WHERE WHAT IT READS IS OF BULK AT MOST 1048576: true; the input reads as it did. -/
def arithMovesUptoRow : OpenClaim := { program := "ythakloheglgfcaa", sum := "d31b6e4d85090d6e3588fdf1116aba826d7edb8c51fd73779f11eb42d6d40ad2", func := "surety/suretylaw01.ArithMoves", spec := "arithMoves", apart := false, narrowed := true }
def ArithMovesUptoSaid : Prop := arithMovesUptoRow.holds Try.pinned (OpenSpec.upto arithMovesSpec)

/-- 'suretylaw01.ArithSmall', WHERE WHAT IT READS IS OF BULK AT MOST 1048576: true; the input reads as it did. -/
def arithSmallUptoRow : OpenClaim := { program := "ythakloheglgfcaa", sum := "d31b6e4d85090d6e3588fdf1116aba826d7edb8c51fd73779f11eb42d6d40ad2", func := "surety/suretylaw01.ArithSmall", spec := "arithSmall", apart := false, narrowed := true }
def ArithSmallUptoSaid : Prop := arithSmallUptoRow.holds Try.pinned (OpenSpec.upto arithSmallSpec)

/-- 'suretylaw01.ArithOrders', WHERE WHAT IT READS IS OF BULK AT MOST 1048576: true; the input reads as it did. -/
def arithOrdersUptoRow : OpenClaim := { program := "ythakloheglgfcaa", sum := "d31b6e4d85090d6e3588fdf1116aba826d7edb8c51fd73779f11eb42d6d40ad2", func := "surety/suretylaw01.ArithOrders", spec := "arithOrders", apart := false, narrowed := true }
def ArithOrdersUptoSaid : Prop := arithOrdersUptoRow.holds Try.pinned (OpenSpec.upto arithOrdersSpec)

/-- 'suretylaw01.ArithRing', WHERE WHAT IT READS IS OF BULK AT MOST 1048576: true; the input reads as it did. -/
def arithRingUptoRow : OpenClaim := { program := "ythakloheglgfcaa", sum := "d31b6e4d85090d6e3588fdf1116aba826d7edb8c51fd73779f11eb42d6d40ad2", func := "surety/suretylaw01.ArithRing", spec := "arithRing", apart := false, narrowed := true }
def ArithRingUptoSaid : Prop := arithRingUptoRow.holds Try.pinned (OpenSpec.upto arithRingSpec)

/-- 'suretylaw01.ArithPowers', WHERE WHAT IT READS IS OF BULK AT MOST 1048576: true; the input reads as it did. -/
def arithPowersUptoRow : OpenClaim := { program := "ythakloheglgfcaa", sum := "d31b6e4d85090d6e3588fdf1116aba826d7edb8c51fd73779f11eb42d6d40ad2", func := "surety/suretylaw01.ArithPowers", spec := "arithPowers", apart := false, narrowed := true }
def ArithPowersUptoSaid : Prop := arithPowersUptoRow.holds Try.pinned (OpenSpec.upto arithPowersSpec)

/-- 'suretylaw01.ArithSplits', WHERE WHAT IT READS IS OF BULK AT MOST 1048576: true; the input reads as it did. -/
def arithSplitsUptoRow : OpenClaim := { program := "ythakloheglgfcaa", sum := "d31b6e4d85090d6e3588fdf1116aba826d7edb8c51fd73779f11eb42d6d40ad2", func := "surety/suretylaw01.ArithSplits", spec := "arithSplits", apart := false, narrowed := true }
def ArithSplitsUptoSaid : Prop := arithSplitsUptoRow.holds Try.pinned (OpenSpec.upto arithSplitsSpec)

/-- 'suretylaw01.ArithFactors', WHERE WHAT IT READS IS OF BULK AT MOST 1048576: true; the input reads as it did. -/
def arithFactorsUptoRow : OpenClaim := { program := "ythakloheglgfcaa", sum := "d31b6e4d85090d6e3588fdf1116aba826d7edb8c51fd73779f11eb42d6d40ad2", func := "surety/suretylaw01.ArithFactors", spec := "arithFactors", apart := false, narrowed := true }
def ArithFactorsUptoSaid : Prop := arithFactorsUptoRow.holds Try.pinned (OpenSpec.upto arithFactorsSpec)

end Rows
end Go.Proofs.Ythakloheglgfcaa
