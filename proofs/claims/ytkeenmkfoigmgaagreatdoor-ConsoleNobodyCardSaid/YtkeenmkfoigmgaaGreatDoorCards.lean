/-
  DERIVED. GIVEN WITH THE SEED: THE CARDS: each row of YtkeenmkfoigmgaaGreatDoorRows.lean that lists a variable, with what it lists TIED to the program's text (the seventh form; the later family's looks); each row that meets fmt, with fmt's text TOLD by the authors' own Lean function (tested against real Go, not proved from fmt's source: count such statements apart). THE CARD IS WHAT COUNTS. Prove the row's statement (the work); the ties are given (YtkeenmkfoigmgaaGreatDoorTie.lean); close each card by the builder's one call (the guide's Derived/Test/ToyasCard.lean, 'card_holds'). Laid BY PROGRAM, IN A SANDBOX (cutbox-door.mjs). By AI agents, Wed Nov 11 2026. No macro, syntax, notation, axiom, sorry.
-/
import Derived.Test.YtkeenmkfoigmgaaGreatDoorRows
import GoSem.ClaimSeven
namespace Go.Proofs.YtkeenmkfoigmgaaGreatDoor
namespace Rows

/-- THE TIED CARD OF 'fulcrumlaw28.ConsoleNobody'. -/
def consoleNobodyCard : Claim7 := { stood := { row := consoleNobodyRow, standIns := [], harness := (true, "a95d31cecccf164dc339470bd4759f9d67b933c410fe79d21e7bbcddceca403c"), looks := true }, kinds := [], alts := [], laidByText := true, laidKinds := [.data, .data, .data, .data, .pinned], laidTests := true, laidLooks := .later }
def ConsoleNobodyCardSaid : Prop := Claim7.holds Tryz.pinned (.plain (OpenSpec.ofChange consoleNobodySpec)) consoleNobodyCard

/-- THE SECOND FORM's CARD OF 'fulcrumlaw28.ConsoleNobody'. -/
def consoleNobodyUptoCard : Claim7 := { stood := { row := consoleNobodyUptoRow, standIns := [], harness := (true, "a95d31cecccf164dc339470bd4759f9d67b933c410fe79d21e7bbcddceca403c"), looks := true }, kinds := [], alts := [], laidByText := true, laidKinds := [.data, .data, .data, .data, .pinned], laidTests := true, laidLooks := .later }
def ConsoleNobodyUptoCardSaid : Prop := Claim7.holds Tryz.pinned (.plain (OpenSpec.upto consoleNobodySpec)) consoleNobodyUptoCard
end Rows
end Go.Proofs.YtkeenmkfoigmgaaGreatDoor
