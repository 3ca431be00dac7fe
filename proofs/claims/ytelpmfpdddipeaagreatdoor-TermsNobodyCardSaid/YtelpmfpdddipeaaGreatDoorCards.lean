/-
  DERIVED. GIVEN WITH THE SEED: THE CARDS: each row of YtelpmfpdddipeaaGreatDoorRows.lean that lists a variable, with what it lists TIED to the program's text (the seventh form; the later family's looks); each row that meets fmt, with fmt's text TOLD by the authors' own Lean function (tested against real Go, not proved from fmt's source: count such statements apart). THE CARD IS WHAT COUNTS. Prove the row's statement (the work); the ties are given (YtelpmfpdddipeaaGreatDoorTie.lean); close each card by the builder's one call (the guide's Derived/Test/ToyasCard.lean, 'card_holds'). Laid BY PROGRAM, IN A SANDBOX (cutbox-door.mjs). By AI agents, Wed Nov 11 2026. No macro, syntax, notation, axiom, sorry.
-/
import Derived.Test.YtelpmfpdddipeaaGreatDoorRows
import GoSem.ClaimSeven
namespace Go.Proofs.YtelpmfpdddipeaaGreatDoor
namespace Rows

/-- THE TIED CARD OF 'fulcrumlaw14.TermsNobody'. -/
def termsNobodyCard : Claim7 := { stood := { row := termsNobodyRow, standIns := [], harness := (true, "688783f8e7a36b1a7d96ca89c667600ecbc08d2a2937de966d34d80aaa2f62c0"), looks := true }, kinds := [], alts := [], laidByText := true, laidKinds := [.data, .data, .data, .data, .data, .sentinel, .sentinel, .pinned], laidTests := true, laidLooks := .later }
def TermsNobodyCardSaid : Prop := Claim7.holds Tryz.pinned (.plain (OpenSpec.ofChange termsNobodySpec)) termsNobodyCard

/-- THE SECOND FORM's CARD OF 'fulcrumlaw14.TermsNobody'. -/
def termsNobodyUptoCard : Claim7 := { stood := { row := termsNobodyUptoRow, standIns := [], harness := (true, "688783f8e7a36b1a7d96ca89c667600ecbc08d2a2937de966d34d80aaa2f62c0"), looks := true }, kinds := [], alts := [], laidByText := true, laidKinds := [.data, .data, .data, .data, .data, .sentinel, .sentinel, .pinned], laidTests := true, laidLooks := .later }
def TermsNobodyUptoCardSaid : Prop := Claim7.holds Tryz.pinned (.plain (OpenSpec.upto termsNobodySpec)) termsNobodyUptoCard
end Rows
end Go.Proofs.YtelpmfpdddipeaaGreatDoor
