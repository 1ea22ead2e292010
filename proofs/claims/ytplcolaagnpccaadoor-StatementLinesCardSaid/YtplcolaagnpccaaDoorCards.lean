/-
  DERIVED. GIVEN WITH THE SEED: THE CARDS: each row of YtplcolaagnpccaaDoorRows.lean that lists a variable, with what it lists TIED to the program's text (the seventh form; the later family's looks); each row that meets fmt, with fmt's text TOLD by the authors' own Lean function (tested against real Go, not proved from fmt's source: count such statements apart). THE CARD IS WHAT COUNTS. Prove the row's statement (the work); the ties are given (YtplcolaagnpccaaDoorTie.lean); close each card by the builder's one call (the guide's Derived/Test/ToyasCard.lean, 'card_holds'). Laid BY PROGRAM, IN A SANDBOX (cutbox-door.mjs). By AI agents, Wed Nov 11 2026. No macro, syntax, notation, axiom, sorry.
-/
import Derived.Test.YtplcolaagnpccaaDoorRows
import GoSem.ClaimSeven
namespace Go.Proofs.YtplcolaagnpccaaDoor
namespace Rows

/-- THE TIED CARD OF 'quittancelaw23.StatementTexts'. -/
def statementTextsCard : Claim7 := { stood := { row := statementTextsRow, standIns := [], harness := (true, "fbab66556865580bf6956feb5c3762da59628effe759a3714bc4dde6e2f64c80"), looks := true }, kinds := [], alts := [], laidByText := true, laidKinds := [.data, .data, .data], laidTests := true, laidLooks := .later }
def StatementTextsCardSaid : Prop := Claim7.holds Tryd.pinned (.plain (OpenSpec.ofChange statementTextsSpec)) statementTextsCard

/-- THE TIED CARD OF 'quittancelaw23.StatementLines'. -/
def statementLinesCard : Claim7 := { stood := { row := statementLinesRow, standIns := [], harness := (true, "fbab66556865580bf6956feb5c3762da59628effe759a3714bc4dde6e2f64c80"), looks := true }, kinds := [], alts := [], laidByText := true, laidKinds := [.data, .data, .data], laidTests := true, laidLooks := .later }
def StatementLinesCardSaid : Prop := Claim7.holds Tryd.pinned (.plain (OpenSpec.ofChange statementLinesSpec)) statementLinesCard

/-- THE TIED CARD OF 'quittancelaw02.DecimalOrder'. -/
def decimalOrderCard : Claim7 := { stood := { row := decimalOrderRow, standIns := [], harness := (true, "fbab66556865580bf6956feb5c3762da59628effe759a3714bc4dde6e2f64c80"), looks := true }, kinds := [], alts := [], laidByText := true, laidKinds := [.data, .data, .data, .data, .pinned], laidTests := true, laidLooks := .later }
def DecimalOrderCardSaid : Prop := Claim7.holds Tryd.pinned (.plain (OpenSpec.ofChange decimalOrderSpec)) decimalOrderCard

/-- THE TIED CARD OF 'quittancelaw02.DecimalTells'. -/
def decimalTellsCard : Claim7 := { stood := { row := decimalTellsRow, standIns := [], harness := (true, "fbab66556865580bf6956feb5c3762da59628effe759a3714bc4dde6e2f64c80"), looks := true }, kinds := [], alts := [], laidByText := true, laidKinds := [.data, .data, .data, .data, .pinned], laidTests := true, laidLooks := .later }
def DecimalTellsCardSaid : Prop := Claim7.holds Tryd.pinned (.plain (OpenSpec.ofChange decimalTellsSpec)) decimalTellsCard

/-- THE TIED CARD OF 'quittancelaw02.DecimalBack'. -/
def decimalBackCard : Claim7 := { stood := { row := decimalBackRow, standIns := [], harness := (true, "fbab66556865580bf6956feb5c3762da59628effe759a3714bc4dde6e2f64c80"), looks := true }, kinds := [], alts := [], laidByText := true, laidKinds := [.data, .data, .data, .data, .pinned], laidTests := true, laidLooks := .later }
def DecimalBackCardSaid : Prop := Claim7.holds Tryd.pinned (.plain (OpenSpec.ofChange decimalBackSpec)) decimalBackCard

/-- THE TIED CARD OF 'quittancelaw02.DecimalForms'. -/
def decimalFormsCard : Claim7 := { stood := { row := decimalFormsRow, standIns := [], harness := (true, "fbab66556865580bf6956feb5c3762da59628effe759a3714bc4dde6e2f64c80"), looks := true }, kinds := [], alts := [], laidByText := true, laidKinds := [.data, .data, .data, .data, .pinned], laidTests := true, laidLooks := .later }
def DecimalFormsCardSaid : Prop := Claim7.holds Tryd.pinned (.plain (OpenSpec.ofChange decimalFormsSpec)) decimalFormsCard

/-- THE TIED CARD OF 'quittancelaw02.DecimalBounds'. -/
def decimalBoundsCard : Claim7 := { stood := { row := decimalBoundsRow, standIns := [], harness := (true, "fbab66556865580bf6956feb5c3762da59628effe759a3714bc4dde6e2f64c80"), looks := true }, kinds := [], alts := [], laidByText := true, laidKinds := [.data, .data, .data, .data, .pinned], laidTests := true, laidLooks := .later }
def DecimalBoundsCardSaid : Prop := Claim7.holds Tryd.pinned (.plain (OpenSpec.ofChange decimalBoundsSpec)) decimalBoundsCard

/-- THE SECOND FORM's CARD OF 'quittancelaw23.StatementTexts'. -/
def statementTextsUptoCard : Claim7 := { stood := { row := statementTextsUptoRow, standIns := [], harness := (true, "fbab66556865580bf6956feb5c3762da59628effe759a3714bc4dde6e2f64c80"), looks := true }, kinds := [], alts := [], laidByText := true, laidKinds := [.data, .data, .data], laidTests := true, laidLooks := .later }
def StatementTextsUptoCardSaid : Prop := Claim7.holds Tryd.pinned (.plain (OpenSpec.upto statementTextsSpec)) statementTextsUptoCard

/-- THE SECOND FORM's CARD OF 'quittancelaw23.StatementLines'. -/
def statementLinesUptoCard : Claim7 := { stood := { row := statementLinesUptoRow, standIns := [], harness := (true, "fbab66556865580bf6956feb5c3762da59628effe759a3714bc4dde6e2f64c80"), looks := true }, kinds := [], alts := [], laidByText := true, laidKinds := [.data, .data, .data], laidTests := true, laidLooks := .later }
def StatementLinesUptoCardSaid : Prop := Claim7.holds Tryd.pinned (.plain (OpenSpec.upto statementLinesSpec)) statementLinesUptoCard

/-- THE SECOND FORM's CARD OF 'quittancelaw02.DecimalOrder'. -/
def decimalOrderUptoCard : Claim7 := { stood := { row := decimalOrderUptoRow, standIns := [], harness := (true, "fbab66556865580bf6956feb5c3762da59628effe759a3714bc4dde6e2f64c80"), looks := true }, kinds := [], alts := [], laidByText := true, laidKinds := [.data, .data, .data, .data, .pinned], laidTests := true, laidLooks := .later }
def DecimalOrderUptoCardSaid : Prop := Claim7.holds Tryd.pinned (.plain (OpenSpec.upto decimalOrderSpec)) decimalOrderUptoCard

/-- THE SECOND FORM's CARD OF 'quittancelaw02.DecimalTells'. -/
def decimalTellsUptoCard : Claim7 := { stood := { row := decimalTellsUptoRow, standIns := [], harness := (true, "fbab66556865580bf6956feb5c3762da59628effe759a3714bc4dde6e2f64c80"), looks := true }, kinds := [], alts := [], laidByText := true, laidKinds := [.data, .data, .data, .data, .pinned], laidTests := true, laidLooks := .later }
def DecimalTellsUptoCardSaid : Prop := Claim7.holds Tryd.pinned (.plain (OpenSpec.upto decimalTellsSpec)) decimalTellsUptoCard

/-- THE SECOND FORM's CARD OF 'quittancelaw02.DecimalBack'. -/
def decimalBackUptoCard : Claim7 := { stood := { row := decimalBackUptoRow, standIns := [], harness := (true, "fbab66556865580bf6956feb5c3762da59628effe759a3714bc4dde6e2f64c80"), looks := true }, kinds := [], alts := [], laidByText := true, laidKinds := [.data, .data, .data, .data, .pinned], laidTests := true, laidLooks := .later }
def DecimalBackUptoCardSaid : Prop := Claim7.holds Tryd.pinned (.plain (OpenSpec.upto decimalBackSpec)) decimalBackUptoCard

/-- THE SECOND FORM's CARD OF 'quittancelaw02.DecimalForms'. -/
def decimalFormsUptoCard : Claim7 := { stood := { row := decimalFormsUptoRow, standIns := [], harness := (true, "fbab66556865580bf6956feb5c3762da59628effe759a3714bc4dde6e2f64c80"), looks := true }, kinds := [], alts := [], laidByText := true, laidKinds := [.data, .data, .data, .data, .pinned], laidTests := true, laidLooks := .later }
def DecimalFormsUptoCardSaid : Prop := Claim7.holds Tryd.pinned (.plain (OpenSpec.upto decimalFormsSpec)) decimalFormsUptoCard

/-- THE SECOND FORM's CARD OF 'quittancelaw02.DecimalBounds'. -/
def decimalBoundsUptoCard : Claim7 := { stood := { row := decimalBoundsUptoRow, standIns := [], harness := (true, "fbab66556865580bf6956feb5c3762da59628effe759a3714bc4dde6e2f64c80"), looks := true }, kinds := [], alts := [], laidByText := true, laidKinds := [.data, .data, .data, .data, .pinned], laidTests := true, laidLooks := .later }
def DecimalBoundsUptoCardSaid : Prop := Claim7.holds Tryd.pinned (.plain (OpenSpec.upto decimalBoundsSpec)) decimalBoundsUptoCard
end Rows
end Go.Proofs.YtplcolaagnpccaaDoor
