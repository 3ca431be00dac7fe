/-
  DERIVED. GIVEN WITH THE SEED: THE CARDS: each row of YtidgpkccjcddgaaGreatDoorRows.lean that lists a variable, with what it lists TIED to the program's text (the seventh form; the later family's looks); each row that meets fmt, with fmt's text TOLD by the authors' own Lean function (tested against real Go, not proved from fmt's source: count such statements apart). THE CARD IS WHAT COUNTS. Prove the row's statement (the work); the ties are given (YtidgpkccjcddgaaGreatDoorTie.lean); close each card by the builder's one call (the guide's Derived/Test/ToyasCard.lean, 'card_holds'). Laid BY PROGRAM, IN A SANDBOX (cutbox-door.mjs). By AI agents, Wed Nov 11 2026. No macro, syntax, notation, axiom, sorry.
-/
import Derived.Test.YtidgpkccjcddgaaGreatDoorRows
import GoSem.ClaimSeven
namespace Go.Proofs.YtidgpkccjcddgaaGreatDoor
namespace Rows

/-- THE TIED CARD OF 'fulcrumlaw24.ProofPrints'. -/
def proofPrintsCard : Claim7 := { stood := { row := proofPrintsRow, standIns := [], harness := (true, "8f7161586d7fdb324933af17054bf0fc71376e07194080bd91822804eb858f04"), looks := true }, kinds := [], alts := [], laidByText := true, laidKinds := [.data, .data, .data], laidTests := true, laidLooks := .later }
def ProofPrintsCardSaid : Prop := Claim7.holds Tryz.pinned (.plain (OpenSpec.ofChange proofPrintsSpec)) proofPrintsCard

/-- THE TIED CARD OF 'fulcrumlaw06.LinearTexts'. -/
def linearTextsCard : Claim7 := { stood := { row := linearTextsRow, standIns := [], harness := (true, "8f7161586d7fdb324933af17054bf0fc71376e07194080bd91822804eb858f04"), looks := true }, kinds := [], alts := [], laidByText := true, laidKinds := [.data, .data, .data, .data, .data, .sentinel, .sentinel, .pinned], laidTests := true, laidLooks := .later }
def LinearTextsCardSaid : Prop := Claim7.holds Tryz.pinned (.plain (OpenSpec.ofChange linearTextsSpec)) linearTextsCard

/-- THE TIED CARD OF 'fulcrumlaw06.LinearBack'. -/
def linearBackCard : Claim7 := { stood := { row := linearBackRow, standIns := [], harness := (true, "8f7161586d7fdb324933af17054bf0fc71376e07194080bd91822804eb858f04"), looks := true }, kinds := [], alts := [], laidByText := true, laidKinds := [.data, .data, .data, .data, .data, .sentinel, .sentinel, .pinned], laidTests := true, laidLooks := .later }
def LinearBackCardSaid : Prop := Claim7.holds Tryz.pinned (.plain (OpenSpec.ofChange linearBackSpec)) linearBackCard

/-- THE TIED CARD OF 'fulcrumlaw06.LinearOwn'. -/
def linearOwnCard : Claim7 := { stood := { row := linearOwnRow, standIns := [], harness := (true, "8f7161586d7fdb324933af17054bf0fc71376e07194080bd91822804eb858f04"), looks := true }, kinds := [], alts := [], laidByText := true, laidKinds := [.data, .data, .data, .data, .data, .sentinel, .sentinel, .pinned], laidTests := true, laidLooks := .later }
def LinearOwnCardSaid : Prop := Claim7.holds Tryz.pinned (.plain (OpenSpec.ofChange linearOwnSpec)) linearOwnCard

/-- THE TIED CARD OF 'fulcrumlaw24.ProofParses'. -/
def proofParsesCard : Claim7 := { stood := { row := proofParsesRow, standIns := [], harness := (true, "8f7161586d7fdb324933af17054bf0fc71376e07194080bd91822804eb858f04"), looks := true }, kinds := [], alts := [], laidByText := true, laidKinds := [.data, .data, .data, .data, .data, .sentinel, .sentinel, .pinned], laidTests := true, laidLooks := .later }
def ProofParsesCardSaid : Prop := Claim7.holds Tryz.pinned (.plain (OpenSpec.ofChange proofParsesSpec)) proofParsesCard

/-- THE TIED CARD OF 'fulcrumlaw24.ProofBack'. -/
def proofBackCard : Claim7 := { stood := { row := proofBackRow, standIns := [], harness := (true, "8f7161586d7fdb324933af17054bf0fc71376e07194080bd91822804eb858f04"), looks := true }, kinds := [], alts := [], laidByText := true, laidKinds := [.data, .data, .data, .data, .data, .sentinel, .sentinel, .pinned], laidTests := true, laidLooks := .later }
def ProofBackCardSaid : Prop := Claim7.holds Tryz.pinned (.plain (OpenSpec.ofChange proofBackSpec)) proofBackCard

/-- THE TIED CARD OF 'fulcrumlaw24.ProofOneText'. -/
def proofOneTextCard : Claim7 := { stood := { row := proofOneTextRow, standIns := [], harness := (true, "8f7161586d7fdb324933af17054bf0fc71376e07194080bd91822804eb858f04"), looks := true }, kinds := [], alts := [], laidByText := true, laidKinds := [.data, .data, .data, .data, .data, .sentinel, .sentinel, .pinned], laidTests := true, laidLooks := .later }
def ProofOneTextCardSaid : Prop := Claim7.holds Tryz.pinned (.plain (OpenSpec.ofChange proofOneTextSpec)) proofOneTextCard

/-- THE TIED CARD OF 'fulcrumlaw24.ProofLeans'. -/
def proofLeansCard : Claim7 := { stood := { row := proofLeansRow, standIns := [], harness := (true, "8f7161586d7fdb324933af17054bf0fc71376e07194080bd91822804eb858f04"), looks := true }, kinds := [], alts := [], laidByText := true, laidKinds := [.data, .data, .data, .data, .data, .sentinel, .sentinel, .pinned], laidTests := true, laidLooks := .later }
def ProofLeansCardSaid : Prop := Claim7.holds Tryz.pinned (.plain (OpenSpec.ofChange proofLeansSpec)) proofLeansCard

/-- THE TIED CARD OF 'fulcrumlaw24.ProofOwn'. -/
def proofOwnCard : Claim7 := { stood := { row := proofOwnRow, standIns := [], harness := (true, "8f7161586d7fdb324933af17054bf0fc71376e07194080bd91822804eb858f04"), looks := true }, kinds := [], alts := [], laidByText := true, laidKinds := [.data, .data, .data, .data, .data, .sentinel, .sentinel, .pinned], laidTests := true, laidLooks := .later }
def ProofOwnCardSaid : Prop := Claim7.holds Tryz.pinned (.plain (OpenSpec.ofChange proofOwnSpec)) proofOwnCard

/-- THE SECOND FORM's CARD OF 'fulcrumlaw24.ProofPrints'. -/
def proofPrintsUptoCard : Claim7 := { stood := { row := proofPrintsUptoRow, standIns := [], harness := (true, "8f7161586d7fdb324933af17054bf0fc71376e07194080bd91822804eb858f04"), looks := true }, kinds := [], alts := [], laidByText := true, laidKinds := [.data, .data, .data], laidTests := true, laidLooks := .later }
def ProofPrintsUptoCardSaid : Prop := Claim7.holds Tryz.pinned (.plain (OpenSpec.upto proofPrintsSpec)) proofPrintsUptoCard

/-- THE SECOND FORM's CARD OF 'fulcrumlaw06.LinearTexts'. -/
def linearTextsUptoCard : Claim7 := { stood := { row := linearTextsUptoRow, standIns := [], harness := (true, "8f7161586d7fdb324933af17054bf0fc71376e07194080bd91822804eb858f04"), looks := true }, kinds := [], alts := [], laidByText := true, laidKinds := [.data, .data, .data, .data, .data, .sentinel, .sentinel, .pinned], laidTests := true, laidLooks := .later }
def LinearTextsUptoCardSaid : Prop := Claim7.holds Tryz.pinned (.plain (OpenSpec.upto linearTextsSpec)) linearTextsUptoCard

/-- THE SECOND FORM's CARD OF 'fulcrumlaw06.LinearBack'. -/
def linearBackUptoCard : Claim7 := { stood := { row := linearBackUptoRow, standIns := [], harness := (true, "8f7161586d7fdb324933af17054bf0fc71376e07194080bd91822804eb858f04"), looks := true }, kinds := [], alts := [], laidByText := true, laidKinds := [.data, .data, .data, .data, .data, .sentinel, .sentinel, .pinned], laidTests := true, laidLooks := .later }
def LinearBackUptoCardSaid : Prop := Claim7.holds Tryz.pinned (.plain (OpenSpec.upto linearBackSpec)) linearBackUptoCard

/-- THE SECOND FORM's CARD OF 'fulcrumlaw06.LinearOwn'. -/
def linearOwnUptoCard : Claim7 := { stood := { row := linearOwnUptoRow, standIns := [], harness := (true, "8f7161586d7fdb324933af17054bf0fc71376e07194080bd91822804eb858f04"), looks := true }, kinds := [], alts := [], laidByText := true, laidKinds := [.data, .data, .data, .data, .data, .sentinel, .sentinel, .pinned], laidTests := true, laidLooks := .later }
def LinearOwnUptoCardSaid : Prop := Claim7.holds Tryz.pinned (.plain (OpenSpec.upto linearOwnSpec)) linearOwnUptoCard

/-- THE SECOND FORM's CARD OF 'fulcrumlaw24.ProofParses'. -/
def proofParsesUptoCard : Claim7 := { stood := { row := proofParsesUptoRow, standIns := [], harness := (true, "8f7161586d7fdb324933af17054bf0fc71376e07194080bd91822804eb858f04"), looks := true }, kinds := [], alts := [], laidByText := true, laidKinds := [.data, .data, .data, .data, .data, .sentinel, .sentinel, .pinned], laidTests := true, laidLooks := .later }
def ProofParsesUptoCardSaid : Prop := Claim7.holds Tryz.pinned (.plain (OpenSpec.upto proofParsesSpec)) proofParsesUptoCard

/-- THE SECOND FORM's CARD OF 'fulcrumlaw24.ProofBack'. -/
def proofBackUptoCard : Claim7 := { stood := { row := proofBackUptoRow, standIns := [], harness := (true, "8f7161586d7fdb324933af17054bf0fc71376e07194080bd91822804eb858f04"), looks := true }, kinds := [], alts := [], laidByText := true, laidKinds := [.data, .data, .data, .data, .data, .sentinel, .sentinel, .pinned], laidTests := true, laidLooks := .later }
def ProofBackUptoCardSaid : Prop := Claim7.holds Tryz.pinned (.plain (OpenSpec.upto proofBackSpec)) proofBackUptoCard

/-- THE SECOND FORM's CARD OF 'fulcrumlaw24.ProofOneText'. -/
def proofOneTextUptoCard : Claim7 := { stood := { row := proofOneTextUptoRow, standIns := [], harness := (true, "8f7161586d7fdb324933af17054bf0fc71376e07194080bd91822804eb858f04"), looks := true }, kinds := [], alts := [], laidByText := true, laidKinds := [.data, .data, .data, .data, .data, .sentinel, .sentinel, .pinned], laidTests := true, laidLooks := .later }
def ProofOneTextUptoCardSaid : Prop := Claim7.holds Tryz.pinned (.plain (OpenSpec.upto proofOneTextSpec)) proofOneTextUptoCard

/-- THE SECOND FORM's CARD OF 'fulcrumlaw24.ProofLeans'. -/
def proofLeansUptoCard : Claim7 := { stood := { row := proofLeansUptoRow, standIns := [], harness := (true, "8f7161586d7fdb324933af17054bf0fc71376e07194080bd91822804eb858f04"), looks := true }, kinds := [], alts := [], laidByText := true, laidKinds := [.data, .data, .data, .data, .data, .sentinel, .sentinel, .pinned], laidTests := true, laidLooks := .later }
def ProofLeansUptoCardSaid : Prop := Claim7.holds Tryz.pinned (.plain (OpenSpec.upto proofLeansSpec)) proofLeansUptoCard

/-- THE SECOND FORM's CARD OF 'fulcrumlaw24.ProofOwn'. -/
def proofOwnUptoCard : Claim7 := { stood := { row := proofOwnUptoRow, standIns := [], harness := (true, "8f7161586d7fdb324933af17054bf0fc71376e07194080bd91822804eb858f04"), looks := true }, kinds := [], alts := [], laidByText := true, laidKinds := [.data, .data, .data, .data, .data, .sentinel, .sentinel, .pinned], laidTests := true, laidLooks := .later }
def ProofOwnUptoCardSaid : Prop := Claim7.holds Tryz.pinned (.plain (OpenSpec.upto proofOwnSpec)) proofOwnUptoCard
end Rows
end Go.Proofs.YtidgpkccjcddgaaGreatDoor
