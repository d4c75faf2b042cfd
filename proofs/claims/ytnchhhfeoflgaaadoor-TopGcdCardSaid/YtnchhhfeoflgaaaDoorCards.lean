/-
  DERIVED. GIVEN WITH THE SEED: THE CARDS: each row of YtnchhhfeoflgaaaDoorRows.lean that lists a variable, with what it lists TIED to the program's text (the seventh form; the later family's looks); each row that meets fmt, with fmt's text TOLD by the authors' own Lean function (tested against real Go, not proved from fmt's source: count such statements apart). THE CARD IS WHAT COUNTS. Prove the row's statement (the work); the ties are given (YtnchhhfeoflgaaaDoorTie.lean); close each card by the builder's one call (the guide's Derived/Test/ToyasCard.lean, 'card_holds'). Laid BY PROGRAM, IN A SANDBOX (cutbox-door.mjs). By AI agents, Wed Nov 11 2026. No macro, syntax, notation, axiom, sorry.
-/
import Derived.Test.YtnchhhfeoflgaaaDoorRows
import GoSem.ClaimSeven
namespace Go.Proofs.YtnchhhfeoflgaaaDoor
namespace Rows

/-- THE TIED CARD OF 'suretytop.TopGcd'. -/
def topGcdCard : Claim7 := { stood := { row := topGcdRow, standIns := [], harness := (true, "c541f14ec6b846535de6e233fbef1d665041af08cd86f6bb8ecd27487ebda4b5"), looks := false }, kinds := [], alts := [], laidByText := true, laidKinds := [.data, .data, .data], laidTests := true, laidLooks := .later }
def TopGcdCardSaid : Prop := Claim7.holds Tryd.pinned (.plain (OpenSpec.ofChange topGcdSpec)) topGcdCard

/-- THE SECOND FORM's CARD OF 'suretytop.TopGcd'. -/
def topGcdUptoCard : Claim7 := { stood := { row := topGcdUptoRow, standIns := [], harness := (true, "c541f14ec6b846535de6e233fbef1d665041af08cd86f6bb8ecd27487ebda4b5"), looks := false }, kinds := [], alts := [], laidByText := true, laidKinds := [.data, .data, .data], laidTests := true, laidLooks := .later }
def TopGcdUptoCardSaid : Prop := Claim7.holds Tryd.pinned (.plain (OpenSpec.upto topGcdSpec)) topGcdUptoCard
end Rows
end Go.Proofs.YtnchhhfeoflgaaaDoor
