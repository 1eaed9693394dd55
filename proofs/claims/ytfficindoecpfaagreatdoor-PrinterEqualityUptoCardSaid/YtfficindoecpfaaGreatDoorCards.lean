/-
  DERIVED. GIVEN WITH THE SEED: THE CARDS: each row of YtfficindoecpfaaGreatDoorRows.lean that lists a variable, with what it lists TIED to the program's text (the seventh form; the later family's looks); each row that meets fmt, with fmt's text TOLD by the authors' own Lean function (tested against real Go, not proved from fmt's source: count such statements apart). THE CARD IS WHAT COUNTS. Prove the row's statement (the work); the ties are given (YtfficindoecpfaaGreatDoorTie.lean); close each card by the builder's one call (the guide's Derived/Test/ToyasCard.lean, 'card_holds'). Laid BY PROGRAM, IN A SANDBOX (cutbox-door.mjs). By AI agents, Wed Nov 11 2026. No macro, syntax, notation, axiom, sorry.
-/
import Derived.Test.YtfficindoecpfaaGreatDoorRows
import GoSem.ClaimSeven
namespace Go.Proofs.YtfficindoecpfaaGreatDoor
namespace Rows

/-- THE TIED CARD OF 'estoppellaw08.PrinterMatchesReference'. -/
def printerMatchesReferenceCard : Claim7 := { stood := { row := printerMatchesReferenceRow, standIns := [], harness := (true, "31a7034bb0643b2e1bb67c8e3866896c87a1c7ed29b151d3db63b388aa36582b"), looks := true }, kinds := [], alts := [], laidByText := true, laidKinds := [.data, .data, .data, .data, .data, .data], laidTests := true, laidLooks := .later }
def PrinterMatchesReferenceCardSaid : Prop := Claim7.holds Tryz.pinned (.plain (OpenSpec.ofChange printerMatchesReferenceSpec)) printerMatchesReferenceCard

/-- THE TIED CARD OF 'estoppellaw08.PrinterInverse'. -/
def printerInverseCard : Claim7 := { stood := { row := printerInverseRow, standIns := [], harness := (true, "31a7034bb0643b2e1bb67c8e3866896c87a1c7ed29b151d3db63b388aa36582b"), looks := true }, kinds := [], alts := [], laidByText := true, laidKinds := [.data, .data, .data, .data, .data, .data], laidTests := true, laidLooks := .later }
def PrinterInverseCardSaid : Prop := Claim7.holds Tryz.pinned (.plain (OpenSpec.ofChange printerInverseSpec)) printerInverseCard

/-- THE TIED CARD OF 'estoppellaw08.PrinterCanonical'. -/
def printerCanonicalCard : Claim7 := { stood := { row := printerCanonicalRow, standIns := [], harness := (true, "31a7034bb0643b2e1bb67c8e3866896c87a1c7ed29b151d3db63b388aa36582b"), looks := true }, kinds := [], alts := [], laidByText := true, laidKinds := [.data, .data, .data, .data, .data, .data], laidTests := true, laidLooks := .later }
def PrinterCanonicalCardSaid : Prop := Claim7.holds Tryz.pinned (.plain (OpenSpec.ofChange printerCanonicalSpec)) printerCanonicalCard

/-- THE TIED CARD OF 'estoppellaw08.PrinterEquality'. -/
def printerEqualityCard : Claim7 := { stood := { row := printerEqualityRow, standIns := [], harness := (true, "31a7034bb0643b2e1bb67c8e3866896c87a1c7ed29b151d3db63b388aa36582b"), looks := true }, kinds := [], alts := [], laidByText := true, laidKinds := [.data, .data, .data, .data, .data, .data], laidTests := true, laidLooks := .later }
def PrinterEqualityCardSaid : Prop := Claim7.holds Tryz.pinned (.plain (OpenSpec.ofChange printerEqualitySpec)) printerEqualityCard

/-- THE TIED CARD OF 'estoppellaw08.PrinterLines'. -/
def printerLinesCard : Claim7 := { stood := { row := printerLinesRow, standIns := [], harness := (true, "31a7034bb0643b2e1bb67c8e3866896c87a1c7ed29b151d3db63b388aa36582b"), looks := true }, kinds := [], alts := [], laidByText := true, laidKinds := [.data, .data, .data, .data, .data, .data], laidTests := true, laidLooks := .later }
def PrinterLinesCardSaid : Prop := Claim7.holds Tryz.pinned (.plain (OpenSpec.ofChange printerLinesSpec)) printerLinesCard

/-- THE TIED CARD OF 'estoppellaw08.PrinterGaps'. -/
def printerGapsCard : Claim7 := { stood := { row := printerGapsRow, standIns := [], harness := (true, "31a7034bb0643b2e1bb67c8e3866896c87a1c7ed29b151d3db63b388aa36582b"), looks := true }, kinds := [], alts := [], laidByText := true, laidKinds := [.data, .data, .data, .data, .data, .data], laidTests := true, laidLooks := .later }
def PrinterGapsCardSaid : Prop := Claim7.holds Tryz.pinned (.plain (OpenSpec.ofChange printerGapsSpec)) printerGapsCard

/-- THE SECOND FORM's CARD OF 'estoppellaw08.PrinterMatchesReference'. -/
def printerMatchesReferenceUptoCard : Claim7 := { stood := { row := printerMatchesReferenceUptoRow, standIns := [], harness := (true, "31a7034bb0643b2e1bb67c8e3866896c87a1c7ed29b151d3db63b388aa36582b"), looks := true }, kinds := [], alts := [], laidByText := true, laidKinds := [.data, .data, .data, .data, .data, .data], laidTests := true, laidLooks := .later }
def PrinterMatchesReferenceUptoCardSaid : Prop := Claim7.holds Tryz.pinned (.plain (OpenSpec.upto printerMatchesReferenceSpec)) printerMatchesReferenceUptoCard

/-- THE SECOND FORM's CARD OF 'estoppellaw08.PrinterInverse'. -/
def printerInverseUptoCard : Claim7 := { stood := { row := printerInverseUptoRow, standIns := [], harness := (true, "31a7034bb0643b2e1bb67c8e3866896c87a1c7ed29b151d3db63b388aa36582b"), looks := true }, kinds := [], alts := [], laidByText := true, laidKinds := [.data, .data, .data, .data, .data, .data], laidTests := true, laidLooks := .later }
def PrinterInverseUptoCardSaid : Prop := Claim7.holds Tryz.pinned (.plain (OpenSpec.upto printerInverseSpec)) printerInverseUptoCard

/-- THE SECOND FORM's CARD OF 'estoppellaw08.PrinterCanonical'. -/
def printerCanonicalUptoCard : Claim7 := { stood := { row := printerCanonicalUptoRow, standIns := [], harness := (true, "31a7034bb0643b2e1bb67c8e3866896c87a1c7ed29b151d3db63b388aa36582b"), looks := true }, kinds := [], alts := [], laidByText := true, laidKinds := [.data, .data, .data, .data, .data, .data], laidTests := true, laidLooks := .later }
def PrinterCanonicalUptoCardSaid : Prop := Claim7.holds Tryz.pinned (.plain (OpenSpec.upto printerCanonicalSpec)) printerCanonicalUptoCard

/-- THE SECOND FORM's CARD OF 'estoppellaw08.PrinterEquality'. -/
def printerEqualityUptoCard : Claim7 := { stood := { row := printerEqualityUptoRow, standIns := [], harness := (true, "31a7034bb0643b2e1bb67c8e3866896c87a1c7ed29b151d3db63b388aa36582b"), looks := true }, kinds := [], alts := [], laidByText := true, laidKinds := [.data, .data, .data, .data, .data, .data], laidTests := true, laidLooks := .later }
def PrinterEqualityUptoCardSaid : Prop := Claim7.holds Tryz.pinned (.plain (OpenSpec.upto printerEqualitySpec)) printerEqualityUptoCard

/-- THE SECOND FORM's CARD OF 'estoppellaw08.PrinterLines'. -/
def printerLinesUptoCard : Claim7 := { stood := { row := printerLinesUptoRow, standIns := [], harness := (true, "31a7034bb0643b2e1bb67c8e3866896c87a1c7ed29b151d3db63b388aa36582b"), looks := true }, kinds := [], alts := [], laidByText := true, laidKinds := [.data, .data, .data, .data, .data, .data], laidTests := true, laidLooks := .later }
def PrinterLinesUptoCardSaid : Prop := Claim7.holds Tryz.pinned (.plain (OpenSpec.upto printerLinesSpec)) printerLinesUptoCard

/-- THE SECOND FORM's CARD OF 'estoppellaw08.PrinterGaps'. -/
def printerGapsUptoCard : Claim7 := { stood := { row := printerGapsUptoRow, standIns := [], harness := (true, "31a7034bb0643b2e1bb67c8e3866896c87a1c7ed29b151d3db63b388aa36582b"), looks := true }, kinds := [], alts := [], laidByText := true, laidKinds := [.data, .data, .data, .data, .data, .data], laidTests := true, laidLooks := .later }
def PrinterGapsUptoCardSaid : Prop := Claim7.holds Tryz.pinned (.plain (OpenSpec.upto printerGapsSpec)) printerGapsUptoCard
end Rows
end Go.Proofs.YtfficindoecpfaaGreatDoor
