/-
  DERIVED. GIVEN WITH THE SEED: THE CARDS: each row of YtafmomlgkehdfaaDoorRows.lean that lists a variable, with what it lists TIED to the program's text (the seventh form; the later family's looks); each row that meets fmt, with fmt's text TOLD by the authors' own Lean function (tested against real Go, not proved from fmt's source: count such statements apart). THE CARD IS WHAT COUNTS. Prove the row's statement (the work); the ties are given (YtafmomlgkehdfaaDoorTie.lean); close each card by the builder's one call (the guide's Derived/Test/ToyasCard.lean, 'card_holds'). Laid BY PROGRAM, IN A SANDBOX (cutbox-door.mjs). By AI agents, Wed Nov 11 2026. No macro, syntax, notation, axiom, sorry.
-/
import Derived.Test.YtafmomlgkehdfaaDoorRows
import GoSem.ClaimSeven
namespace Go.Proofs.YtafmomlgkehdfaaDoor
namespace Rows

/-- THE TIED CARD OF 'fulcrumlaw18.ClausesDimacs'. -/
def clausesDimacsCard : Claim7 := { stood := { row := clausesDimacsRow, standIns := [], harness := (true, "c4d2cc8e7b8e8526be12c627ef0c0135f0223d8ebae078e263d98afa9825dee9"), looks := true }, kinds := [], alts := [], laidByText := true, laidKinds := [.data, .data, .data], laidTests := true, laidLooks := .later }
def ClausesDimacsCardSaid : Prop := Claim7.holds Tryd.pinned (.plain (OpenSpec.ofChange clausesDimacsSpec)) clausesDimacsCard

/-- THE TIED CARD OF 'fulcrumlaw18.ClausesParse'. -/
def clausesParseCard : Claim7 := { stood := { row := clausesParseRow, standIns := [], harness := (true, "c4d2cc8e7b8e8526be12c627ef0c0135f0223d8ebae078e263d98afa9825dee9"), looks := true }, kinds := [], alts := [], laidByText := true, laidKinds := [.data, .data, .data, .data, .sentinel, .sentinel, .pinned], laidTests := true, laidLooks := .later }
def ClausesParseCardSaid : Prop := Claim7.holds Tryd.pinned (.plain (OpenSpec.ofChange clausesParseSpec)) clausesParseCard

/-- THE TIED CARD OF 'fulcrumlaw18.ClausesBack'. -/
def clausesBackCard : Claim7 := { stood := { row := clausesBackRow, standIns := [], harness := (true, "c4d2cc8e7b8e8526be12c627ef0c0135f0223d8ebae078e263d98afa9825dee9"), looks := true }, kinds := [], alts := [], laidByText := true, laidKinds := [.data, .data, .data, .data, .sentinel, .sentinel, .pinned], laidTests := true, laidLooks := .later }
def ClausesBackCardSaid : Prop := Claim7.holds Tryd.pinned (.plain (OpenSpec.ofChange clausesBackSpec)) clausesBackCard

/-- THE SECOND FORM's CARD OF 'fulcrumlaw18.ClausesDimacs'. -/
def clausesDimacsUptoCard : Claim7 := { stood := { row := clausesDimacsUptoRow, standIns := [], harness := (true, "c4d2cc8e7b8e8526be12c627ef0c0135f0223d8ebae078e263d98afa9825dee9"), looks := true }, kinds := [], alts := [], laidByText := true, laidKinds := [.data, .data, .data], laidTests := true, laidLooks := .later }
def ClausesDimacsUptoCardSaid : Prop := Claim7.holds Tryd.pinned (.plain (OpenSpec.upto clausesDimacsSpec)) clausesDimacsUptoCard

/-- THE SECOND FORM's CARD OF 'fulcrumlaw18.ClausesParse'. -/
def clausesParseUptoCard : Claim7 := { stood := { row := clausesParseUptoRow, standIns := [], harness := (true, "c4d2cc8e7b8e8526be12c627ef0c0135f0223d8ebae078e263d98afa9825dee9"), looks := true }, kinds := [], alts := [], laidByText := true, laidKinds := [.data, .data, .data, .data, .sentinel, .sentinel, .pinned], laidTests := true, laidLooks := .later }
def ClausesParseUptoCardSaid : Prop := Claim7.holds Tryd.pinned (.plain (OpenSpec.upto clausesParseSpec)) clausesParseUptoCard

/-- THE SECOND FORM's CARD OF 'fulcrumlaw18.ClausesBack'. -/
def clausesBackUptoCard : Claim7 := { stood := { row := clausesBackUptoRow, standIns := [], harness := (true, "c4d2cc8e7b8e8526be12c627ef0c0135f0223d8ebae078e263d98afa9825dee9"), looks := true }, kinds := [], alts := [], laidByText := true, laidKinds := [.data, .data, .data, .data, .sentinel, .sentinel, .pinned], laidTests := true, laidLooks := .later }
def ClausesBackUptoCardSaid : Prop := Claim7.holds Tryd.pinned (.plain (OpenSpec.upto clausesBackSpec)) clausesBackUptoCard
end Rows
end Go.Proofs.YtafmomlgkehdfaaDoor
