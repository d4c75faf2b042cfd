/-
  No cell of these rows narrows 'for every input' (looked for: loops, veiled, ifaces, maps, wideKeys, modest, calm, conditions, laid).
  DERIVED. THE GIVEN ROWS OF THIS SEAT. 11 by the template 'for every input the law returns true; each argument reads behind the call as it read before'; 0 by the template 'total and deterministic' (their statements: YtnbeejpnfoegdaaTotals.lean).
  GIVEN WITH THE SEED: the statements are not yours to turn. If you find one false, say at which input.
  Laid BY PROGRAM, IN A SANDBOX (cutbox-rows.mjs): the forced cells as the released guide's own fill.sh prints them over the translation 51c8c261ff532c19… (all of the seat's roots in one cut). By AI agents, Wed Nov 11 2026. No macro, syntax, notation, axiom, sorry.
-/
import Derived.Test.YtnbeejpnfoegdaaChecked
import GoSem.Claim
import GoSem.ClaimJoined
import GoSem.ClaimMapViews
import Derived.JoinedTies
import Derived.KernelRfl
namespace Go.Proofs.Ytnbeejpnfoegdaa
/- THE CELL 'sum', in the pinned program and in every row, IS THE sha256 OF THE DUMP (.gsa) THAT YtnbeejpnfoegdaaProg.lean LOADS. Nothing in Lean hashes anything: it is a label: what it is worth is what the hold of that sum in a sandbox is worth. -/
noncomputable def Try.pinned : Pinned := { name := "ytnbeejpnfoegdaa", sum := "51c8c261ff532c19fd440682975020a7764dd1b7f94769a46f92de7d21a3b2fd", checked := Try.checked }
namespace Rows
def none {H : Type} : Left H := { results := [], args := [] }

/-- 'suretylaw02.RatioLowest': WHATEVER THE INPUT: true; the input reads as it did. -/
def ratioLowestSpec : ChangeSpec := { name := "ratioLowest", fn := fun _ => fun
  | [d1, d2] => { results := [.lit (.bool true)], args := [d1, d2] }
  | _ => none }
def ratioLowestRow : OpenClaim := { program := "ytnbeejpnfoegdaa", sum := "51c8c261ff532c19fd440682975020a7764dd1b7f94769a46f92de7d21a3b2fd", func := "surety/suretylaw02.RatioLowest", spec := "ratioLowest", apart := false }
def RatioLowestSaid : Prop := ratioLowestRow.holds Try.pinned (OpenSpec.ofChange ratioLowestSpec)

/-- ITS FALSE NEIGHBOUR: 'it returns false'. Refute it at one input. -/
def ratioLowestWrong : ChangeSpec := { name := "ratioLowest", fn := fun _ => fun
  | [d1, d2] => { results := [.lit (.bool false)], args := [d1, d2] }
  | _ => none }
def RatioLowestWrongFalsely : Prop := ratioLowestRow.holds Try.pinned (OpenSpec.ofChange ratioLowestWrong)

/-- 'suretylaw02.RatioReads': WHATEVER THE INPUT: true; the input reads as it did. -/
def ratioReadsSpec : ChangeSpec := { name := "ratioReads", fn := fun _ => fun
  | [d] => { results := [.lit (.bool true)], args := [d] }
  | _ => none }
def ratioReadsRow : OpenClaim := { program := "ytnbeejpnfoegdaa", sum := "51c8c261ff532c19fd440682975020a7764dd1b7f94769a46f92de7d21a3b2fd", func := "surety/suretylaw02.RatioReads", spec := "ratioReads", apart := false }
def RatioReadsSaid : Prop := ratioReadsRow.holds Try.pinned (OpenSpec.ofChange ratioReadsSpec)

/-- ITS FALSE NEIGHBOUR: 'it returns false'. Refute it at one input. -/
def ratioReadsWrong : ChangeSpec := { name := "ratioReads", fn := fun _ => fun
  | [d] => { results := [.lit (.bool false)], args := [d] }
  | _ => none }
def RatioReadsWrongFalsely : Prop := ratioReadsRow.holds Try.pinned (OpenSpec.ofChange ratioReadsWrong)

/-- 'suretylaw02.RatioMoves': WHATEVER THE INPUT: true; the input reads as it did. -/
def ratioMovesSpec : ChangeSpec := { name := "ratioMoves", fn := fun _ => fun
  | [d1, d2] => { results := [.lit (.bool true)], args := [d1, d2] }
  | _ => none }
def ratioMovesRow : OpenClaim := { program := "ytnbeejpnfoegdaa", sum := "51c8c261ff532c19fd440682975020a7764dd1b7f94769a46f92de7d21a3b2fd", func := "surety/suretylaw02.RatioMoves", spec := "ratioMoves", apart := false }
def RatioMovesSaid : Prop := ratioMovesRow.holds Try.pinned (OpenSpec.ofChange ratioMovesSpec)

/-- ITS FALSE NEIGHBOUR: 'it returns false'. Refute it at one input. -/
def ratioMovesWrong : ChangeSpec := { name := "ratioMoves", fn := fun _ => fun
  | [d1, d2] => { results := [.lit (.bool false)], args := [d1, d2] }
  | _ => none }
def RatioMovesWrongFalsely : Prop := ratioMovesRow.holds Try.pinned (OpenSpec.ofChange ratioMovesWrong)

/-- 'suretylaw02.RatioSums': WHATEVER THE INPUT: true; the input reads as it did. -/
def ratioSumsSpec : ChangeSpec := { name := "ratioSums", fn := fun _ => fun
  | [d] => { results := [.lit (.bool true)], args := [d] }
  | _ => none }
def ratioSumsRow : OpenClaim := { program := "ytnbeejpnfoegdaa", sum := "51c8c261ff532c19fd440682975020a7764dd1b7f94769a46f92de7d21a3b2fd", func := "surety/suretylaw02.RatioSums", spec := "ratioSums", unfollowed := true, recurses := true, apart := false }
def RatioSumsSaid : Prop := ratioSumsRow.holds Try.pinned (OpenSpec.ofChange ratioSumsSpec)

/-- ITS FALSE NEIGHBOUR: 'it returns false'. Refute it at one input. -/
def ratioSumsWrong : ChangeSpec := { name := "ratioSums", fn := fun _ => fun
  | [d] => { results := [.lit (.bool false)], args := [d] }
  | _ => none }
def RatioSumsWrongFalsely : Prop := ratioSumsRow.holds Try.pinned (OpenSpec.ofChange ratioSumsWrong)

/-- 'suretylaw02.RatioFolds': WHATEVER THE INPUT: true; the input reads as it did. -/
def ratioFoldsSpec : ChangeSpec := { name := "ratioFolds", fn := fun _ => fun
  | [d1, d2] => { results := [.lit (.bool true)], args := [d1, d2] }
  | _ => none }
def ratioFoldsRow : OpenClaim := { program := "ytnbeejpnfoegdaa", sum := "51c8c261ff532c19fd440682975020a7764dd1b7f94769a46f92de7d21a3b2fd", func := "surety/suretylaw02.RatioFolds", spec := "ratioFolds", unfollowed := true, recurses := true, apart := false }
def RatioFoldsSaid : Prop := ratioFoldsRow.holds Try.pinned (OpenSpec.ofChange ratioFoldsSpec)

/-- ITS FALSE NEIGHBOUR: 'it returns false'. Refute it at one input. -/
def ratioFoldsWrong : ChangeSpec := { name := "ratioFolds", fn := fun _ => fun
  | [d1, d2] => { results := [.lit (.bool false)], args := [d1, d2] }
  | _ => none }
def RatioFoldsWrongFalsely : Prop := ratioFoldsRow.holds Try.pinned (OpenSpec.ofChange ratioFoldsWrong)

/-- 'suretylaw02.RatioOrders': WHATEVER THE INPUT: true; the input reads as it did. -/
def ratioOrdersSpec : ChangeSpec := { name := "ratioOrders", fn := fun _ => fun
  | [d1, d2] => { results := [.lit (.bool true)], args := [d1, d2] }
  | _ => none }
def ratioOrdersRow : OpenClaim := { program := "ytnbeejpnfoegdaa", sum := "51c8c261ff532c19fd440682975020a7764dd1b7f94769a46f92de7d21a3b2fd", func := "surety/suretylaw02.RatioOrders", spec := "ratioOrders", apart := false }
def RatioOrdersSaid : Prop := ratioOrdersRow.holds Try.pinned (OpenSpec.ofChange ratioOrdersSpec)

/-- ITS FALSE NEIGHBOUR: 'it returns false'. Refute it at one input. -/
def ratioOrdersWrong : ChangeSpec := { name := "ratioOrders", fn := fun _ => fun
  | [d1, d2] => { results := [.lit (.bool false)], args := [d1, d2] }
  | _ => none }
def RatioOrdersWrongFalsely : Prop := ratioOrdersRow.holds Try.pinned (OpenSpec.ofChange ratioOrdersWrong)

/-- 'suretylaw02.RatioRounds': WHATEVER THE INPUT: true; the input reads as it did. -/
def ratioRoundsSpec : ChangeSpec := { name := "ratioRounds", fn := fun _ => fun
  | [d] => { results := [.lit (.bool true)], args := [d] }
  | _ => none }
def ratioRoundsRow : OpenClaim := { program := "ytnbeejpnfoegdaa", sum := "51c8c261ff532c19fd440682975020a7764dd1b7f94769a46f92de7d21a3b2fd", func := "surety/suretylaw02.RatioRounds", spec := "ratioRounds", apart := false }
def RatioRoundsSaid : Prop := ratioRoundsRow.holds Try.pinned (OpenSpec.ofChange ratioRoundsSpec)

/-- ITS FALSE NEIGHBOUR: 'it returns false'. Refute it at one input. -/
def ratioRoundsWrong : ChangeSpec := { name := "ratioRounds", fn := fun _ => fun
  | [d] => { results := [.lit (.bool false)], args := [d] }
  | _ => none }
def RatioRoundsWrongFalsely : Prop := ratioRoundsRow.holds Try.pinned (OpenSpec.ofChange ratioRoundsWrong)

/-- 'suretylaw02.RatioInverts': WHATEVER THE INPUT: true; the input reads as it did. -/
def ratioInvertsSpec : ChangeSpec := { name := "ratioInverts", fn := fun _ => fun
  | [d] => { results := [.lit (.bool true)], args := [d] }
  | _ => none }
def ratioInvertsRow : OpenClaim := { program := "ytnbeejpnfoegdaa", sum := "51c8c261ff532c19fd440682975020a7764dd1b7f94769a46f92de7d21a3b2fd", func := "surety/suretylaw02.RatioInverts", spec := "ratioInverts", apart := false }
def RatioInvertsSaid : Prop := ratioInvertsRow.holds Try.pinned (OpenSpec.ofChange ratioInvertsSpec)

/-- ITS FALSE NEIGHBOUR: 'it returns false'. Refute it at one input. -/
def ratioInvertsWrong : ChangeSpec := { name := "ratioInverts", fn := fun _ => fun
  | [d] => { results := [.lit (.bool false)], args := [d] }
  | _ => none }
def RatioInvertsWrongFalsely : Prop := ratioInvertsRow.holds Try.pinned (OpenSpec.ofChange ratioInvertsWrong)

/-- 'suretylaw02.RatioReckons': WHATEVER THE INPUT: true; the input reads as it did. -/
def ratioReckonsSpec : ChangeSpec := { name := "ratioReckons", fn := fun _ => fun
  | [d1, d2] => { results := [.lit (.bool true)], args := [d1, d2] }
  | _ => none }
def ratioReckonsRow : OpenClaim := { program := "ytnbeejpnfoegdaa", sum := "51c8c261ff532c19fd440682975020a7764dd1b7f94769a46f92de7d21a3b2fd", func := "surety/suretylaw02.RatioReckons", spec := "ratioReckons", apart := false }
def RatioReckonsSaid : Prop := ratioReckonsRow.holds Try.pinned (OpenSpec.ofChange ratioReckonsSpec)

/-- ITS FALSE NEIGHBOUR: 'it returns false'. Refute it at one input. -/
def ratioReckonsWrong : ChangeSpec := { name := "ratioReckons", fn := fun _ => fun
  | [d1, d2] => { results := [.lit (.bool false)], args := [d1, d2] }
  | _ => none }
def RatioReckonsWrongFalsely : Prop := ratioReckonsRow.holds Try.pinned (OpenSpec.ofChange ratioReckonsWrong)

/-- 'suretylaw02.RatioMiddles': WHATEVER THE INPUT: true; the input reads as it did. -/
def ratioMiddlesSpec : ChangeSpec := { name := "ratioMiddles", fn := fun _ => fun
  | [d1, d2] => { results := [.lit (.bool true)], args := [d1, d2] }
  | _ => none }
def ratioMiddlesRow : OpenClaim := { program := "ytnbeejpnfoegdaa", sum := "51c8c261ff532c19fd440682975020a7764dd1b7f94769a46f92de7d21a3b2fd", func := "surety/suretylaw02.RatioMiddles", spec := "ratioMiddles", apart := false }
def RatioMiddlesSaid : Prop := ratioMiddlesRow.holds Try.pinned (OpenSpec.ofChange ratioMiddlesSpec)

/-- ITS FALSE NEIGHBOUR: 'it returns false'. Refute it at one input. -/
def ratioMiddlesWrong : ChangeSpec := { name := "ratioMiddles", fn := fun _ => fun
  | [d1, d2] => { results := [.lit (.bool false)], args := [d1, d2] }
  | _ => none }
def RatioMiddlesWrongFalsely : Prop := ratioMiddlesRow.holds Try.pinned (OpenSpec.ofChange ratioMiddlesWrong)

/-- 'suretylaw02.RatioField': WHATEVER THE INPUT: true; the input reads as it did. -/
def ratioFieldSpec : ChangeSpec := { name := "ratioField", fn := fun _ => fun
  | [d1, d2] => { results := [.lit (.bool true)], args := [d1, d2] }
  | _ => none }
def ratioFieldRow : OpenClaim := { program := "ytnbeejpnfoegdaa", sum := "51c8c261ff532c19fd440682975020a7764dd1b7f94769a46f92de7d21a3b2fd", func := "surety/suretylaw02.RatioField", spec := "ratioField", apart := false }
def RatioFieldSaid : Prop := ratioFieldRow.holds Try.pinned (OpenSpec.ofChange ratioFieldSpec)

/-- ITS FALSE NEIGHBOUR: 'it returns false'. Refute it at one input. -/
def ratioFieldWrong : ChangeSpec := { name := "ratioField", fn := fun _ => fun
  | [d1, d2] => { results := [.lit (.bool false)], args := [d1, d2] }
  | _ => none }
def RatioFieldWrongFalsely : Prop := ratioFieldRow.holds Try.pinned (OpenSpec.ofChange ratioFieldWrong)

/- THE SECOND FORM. 'bulk': how many values and letters a reading holds, each counted each time it is reached (what is shared counts as often as it is met; a slice's spare places count too). A statement '..UptoSaid' is the law's where the arguments, and the package variables that the reading takes, are together of bulk at most 1048576: NARROWER than '..Said'. Prove '..Said' where nothing that the law and all that it calls make is longer than what came in: it says more and counts as full. Else prove '..UptoSaid'. A law counts once. -/
mutual
def uptoBulk {H : Type} : DataW H → Nat
  | .lit (.string bytes) => bytes.length + 1
  | .lit _ => 1
  | .nil => 1
  | .ptr d => uptoBulk d + 1
  | .slice elems spare => uptoBulkAll elems + uptoBulkAll spare + 1
  | .agg parts => uptoBulkAll parts + 1
  | .iface _ d => uptoBulk d + 1
  | .map entries => uptoBulkEntries entries + 1
  | .held _ => 1
def uptoBulkAll {H : Type} : List (DataW H) → Nat
  | [] => 0
  | d :: r => uptoBulk d + uptoBulkAll r
def uptoBulkEntries {H : Type} : List (Lit × DataW H) → Nat
  | [] => 0
  | x :: r => uptoBulkEntry x + uptoBulkEntries r
def uptoBulkEntry {H : Type} : Lit × DataW H → Nat
  | (.string bytes, d) => bytes.length + uptoBulk d + 1
  | (_, d) => uptoBulk d + 1
 end
def uptoSmall : (H : Type) → List (DataW H) → Bool := fun _ ds => decide (uptoBulkAll ds ≤ 1048576)
def OpenSpec.upto (s : _root_.Go.ChangeSpec) : _root_.Go.OpenSpec := { _root_.Go.OpenSpec.ofChange s with cond := some uptoSmall }

/-- 'suretylaw02.RatioLowest', WHERE WHAT IT READS IS OF BULK AT MOST 1048576: true; the input reads as it did. -/
def ratioLowestUptoRow : OpenClaim := { program := "ytnbeejpnfoegdaa", sum := "51c8c261ff532c19fd440682975020a7764dd1b7f94769a46f92de7d21a3b2fd", func := "surety/suretylaw02.RatioLowest", spec := "ratioLowest", apart := false, narrowed := true }
def RatioLowestUptoSaid : Prop := ratioLowestUptoRow.holds Try.pinned (OpenSpec.upto ratioLowestSpec)

/-- 'suretylaw02.RatioReads', WHERE WHAT IT READS IS OF BULK AT MOST 1048576: true; the input reads as it did. -/
def ratioReadsUptoRow : OpenClaim := { program := "ytnbeejpnfoegdaa", sum := "51c8c261ff532c19fd440682975020a7764dd1b7f94769a46f92de7d21a3b2fd", func := "surety/suretylaw02.RatioReads", spec := "ratioReads", apart := false, narrowed := true }
def RatioReadsUptoSaid : Prop := ratioReadsUptoRow.holds Try.pinned (OpenSpec.upto ratioReadsSpec)

/-- 'suretylaw02.RatioMoves', WHERE WHAT IT READS IS OF BULK AT MOST 1048576: true; the input reads as it did. -/
def ratioMovesUptoRow : OpenClaim := { program := "ytnbeejpnfoegdaa", sum := "51c8c261ff532c19fd440682975020a7764dd1b7f94769a46f92de7d21a3b2fd", func := "surety/suretylaw02.RatioMoves", spec := "ratioMoves", apart := false, narrowed := true }
def RatioMovesUptoSaid : Prop := ratioMovesUptoRow.holds Try.pinned (OpenSpec.upto ratioMovesSpec)

/-- 'suretylaw02.RatioSums', WHERE WHAT IT READS IS OF BULK AT MOST 1048576: true; the input reads as it did. -/
def ratioSumsUptoRow : OpenClaim := { program := "ytnbeejpnfoegdaa", sum := "51c8c261ff532c19fd440682975020a7764dd1b7f94769a46f92de7d21a3b2fd", func := "surety/suretylaw02.RatioSums", spec := "ratioSums", unfollowed := true, recurses := true, apart := false, narrowed := true }
def RatioSumsUptoSaid : Prop := ratioSumsUptoRow.holds Try.pinned (OpenSpec.upto ratioSumsSpec)

/-- 'suretylaw02.RatioFolds', WHERE WHAT IT READS IS OF BULK AT MOST 1048576: true; the input reads as it did. -/
def ratioFoldsUptoRow : OpenClaim := { program := "ytnbeejpnfoegdaa", sum := "51c8c261ff532c19fd440682975020a7764dd1b7f94769a46f92de7d21a3b2fd", func := "surety/suretylaw02.RatioFolds", spec := "ratioFolds", unfollowed := true, recurses := true, apart := false, narrowed := true }
def RatioFoldsUptoSaid : Prop := ratioFoldsUptoRow.holds Try.pinned (OpenSpec.upto ratioFoldsSpec)

/-- 'suretylaw02.RatioOrders', WHERE WHAT IT READS IS OF BULK AT MOST 1048576: true; the input reads as it did. -/
def ratioOrdersUptoRow : OpenClaim := { program := "ytnbeejpnfoegdaa", sum := "51c8c261ff532c19fd440682975020a7764dd1b7f94769a46f92de7d21a3b2fd", func := "surety/suretylaw02.RatioOrders", spec := "ratioOrders", apart := false, narrowed := true }
def RatioOrdersUptoSaid : Prop := ratioOrdersUptoRow.holds Try.pinned (OpenSpec.upto ratioOrdersSpec)

/-- 'suretylaw02.RatioRounds', WHERE WHAT IT READS IS OF BULK AT MOST 1048576: true; the input reads as it did. -/
def ratioRoundsUptoRow : OpenClaim := { program := "ytnbeejpnfoegdaa", sum := "51c8c261ff532c19fd440682975020a7764dd1b7f94769a46f92de7d21a3b2fd", func := "surety/suretylaw02.RatioRounds", spec := "ratioRounds", apart := false, narrowed := true }
def RatioRoundsUptoSaid : Prop := ratioRoundsUptoRow.holds Try.pinned (OpenSpec.upto ratioRoundsSpec)

/-- 'suretylaw02.RatioInverts', WHERE WHAT IT READS IS OF BULK AT MOST 1048576: true; the input reads as it did. -/
def ratioInvertsUptoRow : OpenClaim := { program := "ytnbeejpnfoegdaa", sum := "51c8c261ff532c19fd440682975020a7764dd1b7f94769a46f92de7d21a3b2fd", func := "surety/suretylaw02.RatioInverts", spec := "ratioInverts", apart := false, narrowed := true }
def RatioInvertsUptoSaid : Prop := ratioInvertsUptoRow.holds Try.pinned (OpenSpec.upto ratioInvertsSpec)

/-- 'suretylaw02.RatioReckons', WHERE WHAT IT READS IS OF BULK AT MOST 1048576: true; the input reads as it did. -/
def ratioReckonsUptoRow : OpenClaim := { program := "ytnbeejpnfoegdaa", sum := "51c8c261ff532c19fd440682975020a7764dd1b7f94769a46f92de7d21a3b2fd", func := "surety/suretylaw02.RatioReckons", spec := "ratioReckons", apart := false, narrowed := true }
def RatioReckonsUptoSaid : Prop := ratioReckonsUptoRow.holds Try.pinned (OpenSpec.upto ratioReckonsSpec)

/-- 'suretylaw02.RatioMiddles', WHERE WHAT IT READS IS OF BULK AT MOST 1048576: true; the input reads as it did. -/
def ratioMiddlesUptoRow : OpenClaim := { program := "ytnbeejpnfoegdaa", sum := "51c8c261ff532c19fd440682975020a7764dd1b7f94769a46f92de7d21a3b2fd", func := "surety/suretylaw02.RatioMiddles", spec := "ratioMiddles", apart := false, narrowed := true }
def RatioMiddlesUptoSaid : Prop := ratioMiddlesUptoRow.holds Try.pinned (OpenSpec.upto ratioMiddlesSpec)

/-- 'suretylaw02.RatioField', WHERE WHAT IT READS IS OF BULK AT MOST 1048576: true; the input reads as it did. -/
def ratioFieldUptoRow : OpenClaim := { program := "ytnbeejpnfoegdaa", sum := "51c8c261ff532c19fd440682975020a7764dd1b7f94769a46f92de7d21a3b2fd", func := "surety/suretylaw02.RatioField", spec := "ratioField", apart := false, narrowed := true }
def RatioFieldUptoSaid : Prop := ratioFieldUptoRow.holds Try.pinned (OpenSpec.upto ratioFieldSpec)

end Rows
end Go.Proofs.Ytnbeejpnfoegdaa
