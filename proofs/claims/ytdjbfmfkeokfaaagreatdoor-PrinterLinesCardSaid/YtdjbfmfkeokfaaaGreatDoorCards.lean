/-
  DERIVED. GIVEN WITH THE SEED: THE CARDS: each row of YtdjbfmfkeokfaaaGreatDoorRows.lean that lists a variable, with what it lists TIED to the program's text (the seventh form; the later family's looks); each row that meets fmt, with fmt's text TOLD by the authors' own Lean function (tested against real Go, not proved from fmt's source: count such statements apart). THE CARD IS WHAT COUNTS. Prove the row's statement (the work); the ties are given (YtdjbfmfkeokfaaaGreatDoorTie.lean); close each card by the builder's one call (the guide's Derived/Test/ToyasCard.lean, 'card_holds'). Laid BY PROGRAM, IN A SANDBOX (cutbox-door.mjs). By AI agents, Wed Nov 11 2026. No macro, syntax, notation, axiom, sorry.
-/
import Derived.Test.YtdjbfmfkeokfaaaGreatDoorRows
import GoSem.ClaimSeven
namespace Go.Proofs.YtdjbfmfkeokfaaaGreatDoor
namespace Rows

/-- THE TIED CARD OF 'quittancelaw10.PrinterTells'. -/
def printerTellsCard : Claim7 := { stood := { row := printerTellsRow, standIns := [], harness := (true, "85e3ad4d93960ebfe4ab1890ad4afa97d472ed67f49c8083d196bdc21ff05d49"), looks := true }, kinds := [], alts := [], laidByText := true, laidKinds := [.data, .data, .data, .data, .pinned], laidTests := true, laidLooks := .later }
def PrinterTellsCardSaid : Prop := Claim7.holds Tryz.pinned (.plain (OpenSpec.ofChange printerTellsSpec)) printerTellsCard

/-- THE TIED CARD OF 'quittancelaw10.PrinterOne'. -/
def printerOneCard : Claim7 := { stood := { row := printerOneRow, standIns := [], harness := (true, "85e3ad4d93960ebfe4ab1890ad4afa97d472ed67f49c8083d196bdc21ff05d49"), looks := true }, kinds := [], alts := [], laidByText := true, laidKinds := [.data, .data, .data, .data, .pinned], laidTests := true, laidLooks := .later }
def PrinterOneCardSaid : Prop := Claim7.holds Tryz.pinned (.plain (OpenSpec.ofChange printerOneSpec)) printerOneCard

/-- THE TIED CARD OF 'quittancelaw10.PrinterLines'. -/
def printerLinesCard : Claim7 := { stood := { row := printerLinesRow, standIns := [], harness := (true, "85e3ad4d93960ebfe4ab1890ad4afa97d472ed67f49c8083d196bdc21ff05d49"), looks := true }, kinds := [], alts := [], laidByText := true, laidKinds := [.data, .data, .data, .data, .pinned], laidTests := true, laidLooks := .later }
def PrinterLinesCardSaid : Prop := Claim7.holds Tryz.pinned (.plain (OpenSpec.ofChange printerLinesSpec)) printerLinesCard

/-- THE TIED CARD OF 'quittancelaw10.PrinterBack'. -/
def printerBackCard : Claim7 := { stood := { row := printerBackRow, standIns := [], harness := (true, "85e3ad4d93960ebfe4ab1890ad4afa97d472ed67f49c8083d196bdc21ff05d49"), looks := true }, kinds := [], alts := [], laidByText := true, laidKinds := [.data, .data, .data, .data, .pinned], laidTests := true, laidLooks := .later }
def PrinterBackCardSaid : Prop := Claim7.holds Tryz.pinned (.plain (OpenSpec.ofChange printerBackSpec)) printerBackCard

/-- THE SECOND FORM's CARD OF 'quittancelaw10.PrinterTells'. -/
def printerTellsUptoCard : Claim7 := { stood := { row := printerTellsUptoRow, standIns := [], harness := (true, "85e3ad4d93960ebfe4ab1890ad4afa97d472ed67f49c8083d196bdc21ff05d49"), looks := true }, kinds := [], alts := [], laidByText := true, laidKinds := [.data, .data, .data, .data, .pinned], laidTests := true, laidLooks := .later }
def PrinterTellsUptoCardSaid : Prop := Claim7.holds Tryz.pinned (.plain (OpenSpec.upto printerTellsSpec)) printerTellsUptoCard

/-- THE SECOND FORM's CARD OF 'quittancelaw10.PrinterOne'. -/
def printerOneUptoCard : Claim7 := { stood := { row := printerOneUptoRow, standIns := [], harness := (true, "85e3ad4d93960ebfe4ab1890ad4afa97d472ed67f49c8083d196bdc21ff05d49"), looks := true }, kinds := [], alts := [], laidByText := true, laidKinds := [.data, .data, .data, .data, .pinned], laidTests := true, laidLooks := .later }
def PrinterOneUptoCardSaid : Prop := Claim7.holds Tryz.pinned (.plain (OpenSpec.upto printerOneSpec)) printerOneUptoCard

/-- THE SECOND FORM's CARD OF 'quittancelaw10.PrinterLines'. -/
def printerLinesUptoCard : Claim7 := { stood := { row := printerLinesUptoRow, standIns := [], harness := (true, "85e3ad4d93960ebfe4ab1890ad4afa97d472ed67f49c8083d196bdc21ff05d49"), looks := true }, kinds := [], alts := [], laidByText := true, laidKinds := [.data, .data, .data, .data, .pinned], laidTests := true, laidLooks := .later }
def PrinterLinesUptoCardSaid : Prop := Claim7.holds Tryz.pinned (.plain (OpenSpec.upto printerLinesSpec)) printerLinesUptoCard

/-- THE SECOND FORM's CARD OF 'quittancelaw10.PrinterBack'. -/
def printerBackUptoCard : Claim7 := { stood := { row := printerBackUptoRow, standIns := [], harness := (true, "85e3ad4d93960ebfe4ab1890ad4afa97d472ed67f49c8083d196bdc21ff05d49"), looks := true }, kinds := [], alts := [], laidByText := true, laidKinds := [.data, .data, .data, .data, .pinned], laidTests := true, laidLooks := .later }
def PrinterBackUptoCardSaid : Prop := Claim7.holds Tryz.pinned (.plain (OpenSpec.upto printerBackSpec)) printerBackUptoCard
end Rows
end Go.Proofs.YtdjbfmfkeokfaaaGreatDoor
