/-
  DERIVED. GIVEN WITH THE SEED: THE CARDS: each row of YtppjpkkkogmhfaaDoorRows.lean that lists a variable, with what it lists TIED to the program's text (the seventh form; the later family's looks); each row that meets fmt, with fmt's text TOLD by the authors' own Lean function (tested against real Go, not proved from fmt's source: count such statements apart). THE CARD IS WHAT COUNTS. Prove the row's statement (the work); the ties are given (YtppjpkkkogmhfaaDoorTie.lean); close each card by the builder's one call (the guide's Derived/Test/ToyasCard.lean, 'card_holds'). Laid BY PROGRAM, IN A SANDBOX (cutbox-door.mjs). By AI agents, Wed Nov 11 2026. No macro, syntax, notation, axiom, sorry.
-/
import Derived.Test.YtppjpkkkogmhfaaDoorRows
import GoSem.ClaimSeven
namespace Go.Proofs.YtppjpkkkogmhfaaDoor
namespace Rows

/-- THE TIED CARD OF 'emendtop.TopPlaced'. -/
def topPlacedCard : Claim7 := { stood := { row := topPlacedRow, standIns := [], harness := (true, "31dcf3ecb7e198b71ada9e9207f4f31df261a656e612c0b4c5ac1b1e51c98cdc"), looks := false }, kinds := [], alts := [], laidByText := true, laidKinds := [.data, .listed, .data, .pinned], laidTests := true, laidLooks := .later }
def TopPlacedCardSaid : Prop := Claim7.holds Tryd.pinned (.plain (OpenSpec.ofChange topPlacedSpec)) topPlacedCard

/-- THE SECOND FORM's CARD OF 'emendtop.TopPlaced'. -/
def topPlacedUptoCard : Claim7 := { stood := { row := topPlacedUptoRow, standIns := [], harness := (true, "31dcf3ecb7e198b71ada9e9207f4f31df261a656e612c0b4c5ac1b1e51c98cdc"), looks := false }, kinds := [], alts := [], laidByText := true, laidKinds := [.data, .listed, .data, .pinned], laidTests := true, laidLooks := .later }
def TopPlacedUptoCardSaid : Prop := Claim7.holds Tryd.pinned (.plain (OpenSpec.upto topPlacedSpec)) topPlacedUptoCard
end Rows
end Go.Proofs.YtppjpkkkogmhfaaDoor
