/-
  DERIVED. GIVEN WITH THE SEED: THE CARDS: each row of YtfnmagjngnpokaaGreatDoorRows.lean that lists a variable, with what it lists TIED to the program's text (the seventh form; the later family's looks); each row that meets fmt, with fmt's text TOLD by the authors' own Lean function (tested against real Go, not proved from fmt's source: count such statements apart). THE CARD IS WHAT COUNTS. Prove the row's statement (the work); the ties are given (YtfnmagjngnpokaaGreatDoorTie.lean); close each card by the builder's one call (the guide's Derived/Test/ToyasCard.lean, 'card_holds'). Laid BY PROGRAM, IN A SANDBOX (cutbox-door.mjs). By AI agents, Wed Nov 11 2026. No macro, syntax, notation, axiom, sorry.
-/
import Derived.Test.YtfnmagjngnpokaaGreatDoorRows
import GoSem.ClaimSeven
namespace Go.Proofs.YtfnmagjngnpokaaGreatDoor
namespace Rows

/-- THE TIED CARD OF 'encorelaw08.EventKnown'. -/
def eventKnownCard : Claim7 := { stood := { row := eventKnownRow, standIns := [], harness := (true, "dd5176e97cdc5bc72ae482c29581c7804c55817b9da50d408258f1aa3dabe286"), looks := false }, kinds := [], alts := [], laidByText := true, laidKinds := [.data], laidTests := true, laidLooks := .later }
def EventKnownCardSaid : Prop := Claim7.holds Tryz.pinned (.plain (OpenSpec.ofChange eventKnownSpec)) eventKnownCard

/-- THE SECOND FORM's CARD OF 'encorelaw08.EventKnown'. -/
def eventKnownUptoCard : Claim7 := { stood := { row := eventKnownUptoRow, standIns := [], harness := (true, "dd5176e97cdc5bc72ae482c29581c7804c55817b9da50d408258f1aa3dabe286"), looks := false }, kinds := [], alts := [], laidByText := true, laidKinds := [.data], laidTests := true, laidLooks := .later }
def EventKnownUptoCardSaid : Prop := Claim7.holds Tryz.pinned (.plain (OpenSpec.upto eventKnownSpec)) eventKnownUptoCard
end Rows
end Go.Proofs.YtfnmagjngnpokaaGreatDoor
