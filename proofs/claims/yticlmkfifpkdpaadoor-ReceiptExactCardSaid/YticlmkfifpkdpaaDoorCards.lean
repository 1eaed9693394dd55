/-
  DERIVED. GIVEN WITH THE SEED: THE CARDS: each row of YticlmkfifpkdpaaDoorRows.lean that lists a variable, with what it lists TIED to the program's text (the seventh form; the later family's looks); each row that meets fmt, with fmt's text TOLD by the authors' own Lean function (tested against real Go, not proved from fmt's source: count such statements apart). THE CARD IS WHAT COUNTS. Prove the row's statement (the work); the ties are given (YticlmkfifpkdpaaDoorTie.lean); close each card by the builder's one call (the guide's Derived/Test/ToyasCard.lean, 'card_holds'). Laid BY PROGRAM, IN A SANDBOX (cutbox-door.mjs). By AI agents, Wed Nov 11 2026. No macro, syntax, notation, axiom, sorry.
-/
import Derived.Test.YticlmkfifpkdpaaDoorRows
import GoSem.ClaimSeven
namespace Go.Proofs.YticlmkfifpkdpaaDoor
namespace Rows

/-- THE TIED CARD OF 'estoppellaw33.ReceiptBounds'. -/
def receiptBoundsCard : Claim7 := { stood := { row := receiptBoundsRow, standIns := [], harness := (true, "bcddebcea72fae236505d01807621e27c7d00c57ef052b6464a08401a5d745a3"), looks := false }, kinds := [], alts := [], laidByText := true, laidKinds := [.data], laidTests := true, laidLooks := .later }
def ReceiptBoundsCardSaid : Prop := Claim7.holds Tryd.pinned (.plain (OpenSpec.ofChange receiptBoundsSpec)) receiptBoundsCard

/-- THE TIED CARD OF 'estoppellaw33.ReceiptExact'. -/
def receiptExactCard : Claim7 := { stood := { row := receiptExactRow, standIns := [], harness := (true, "bcddebcea72fae236505d01807621e27c7d00c57ef052b6464a08401a5d745a3"), looks := false }, kinds := [], alts := [], laidByText := true, laidKinds := [.data], laidTests := true, laidLooks := .later }
def ReceiptExactCardSaid : Prop := Claim7.holds Tryd.pinned (.plain (OpenSpec.ofChange receiptExactSpec)) receiptExactCard

/-- THE TIED CARD OF 'estoppellaw33.ReceiptContradicts'. -/
def receiptContradictsCard : Claim7 := { stood := { row := receiptContradictsRow, standIns := [], harness := (true, "bcddebcea72fae236505d01807621e27c7d00c57ef052b6464a08401a5d745a3"), looks := false }, kinds := [], alts := [], laidByText := true, laidKinds := [.data], laidTests := true, laidLooks := .later }
def ReceiptContradictsCardSaid : Prop := Claim7.holds Tryd.pinned (.plain (OpenSpec.ofChange receiptContradictsSpec)) receiptContradictsCard

/-- THE TIED CARD OF 'estoppellaw33.ReceiptCutOff'. -/
def receiptCutOffCard : Claim7 := { stood := { row := receiptCutOffRow, standIns := [], harness := (true, "bcddebcea72fae236505d01807621e27c7d00c57ef052b6464a08401a5d745a3"), looks := false }, kinds := [], alts := [], laidByText := true, laidKinds := [.data], laidTests := true, laidLooks := .later }
def ReceiptCutOffCardSaid : Prop := Claim7.holds Tryd.pinned (.plain (OpenSpec.ofChange receiptCutOffSpec)) receiptCutOffCard

/-- THE TIED CARD OF 'estoppellaw05.DeadlineMonotone'. -/
def deadlineMonotoneCard : Claim7 := { stood := { row := deadlineMonotoneRow, standIns := [], harness := (true, "bcddebcea72fae236505d01807621e27c7d00c57ef052b6464a08401a5d745a3"), looks := false }, kinds := [], alts := [], laidByText := true, laidKinds := [.data], laidTests := true, laidLooks := .later }
def DeadlineMonotoneCardSaid : Prop := Claim7.holds Tryd.pinned (.plain (OpenSpec.ofChange deadlineMonotoneSpec)) deadlineMonotoneCard

/-- THE TIED CARD OF 'estoppellaw05.DeadlineBounds'. -/
def deadlineBoundsCard : Claim7 := { stood := { row := deadlineBoundsRow, standIns := [], harness := (true, "bcddebcea72fae236505d01807621e27c7d00c57ef052b6464a08401a5d745a3"), looks := false }, kinds := [], alts := [], laidByText := true, laidKinds := [.data], laidTests := true, laidLooks := .later }
def DeadlineBoundsCardSaid : Prop := Claim7.holds Tryd.pinned (.plain (OpenSpec.ofChange deadlineBoundsSpec)) deadlineBoundsCard

/-- THE TIED CARD OF 'estoppellaw05.DeadlineNeeds'. -/
def deadlineNeedsCard : Claim7 := { stood := { row := deadlineNeedsRow, standIns := [], harness := (true, "bcddebcea72fae236505d01807621e27c7d00c57ef052b6464a08401a5d745a3"), looks := false }, kinds := [], alts := [], laidByText := true, laidKinds := [.data], laidTests := true, laidLooks := .later }
def DeadlineNeedsCardSaid : Prop := Claim7.holds Tryd.pinned (.plain (OpenSpec.ofChange deadlineNeedsSpec)) deadlineNeedsCard

/-- THE TIED CARD OF 'estoppellaw05.DeadlineExtremes'. -/
def deadlineExtremesCard : Claim7 := { stood := { row := deadlineExtremesRow, standIns := [], harness := (true, "bcddebcea72fae236505d01807621e27c7d00c57ef052b6464a08401a5d745a3"), looks := false }, kinds := [], alts := [], laidByText := true, laidKinds := [.data], laidTests := true, laidLooks := .later }
def DeadlineExtremesCardSaid : Prop := Claim7.holds Tryd.pinned (.plain (OpenSpec.ofChange deadlineExtremesSpec)) deadlineExtremesCard

/-- THE TIED CARD OF 'estoppellaw05.DeadlineCuts'. -/
def deadlineCutsCard : Claim7 := { stood := { row := deadlineCutsRow, standIns := [], harness := (true, "bcddebcea72fae236505d01807621e27c7d00c57ef052b6464a08401a5d745a3"), looks := false }, kinds := [], alts := [], laidByText := true, laidKinds := [.data], laidTests := true, laidLooks := .later }
def DeadlineCutsCardSaid : Prop := Claim7.holds Tryd.pinned (.plain (OpenSpec.ofChange deadlineCutsSpec)) deadlineCutsCard

/-- THE TIED CARD OF 'estoppellaw05.DeadlineSums'. -/
def deadlineSumsCard : Claim7 := { stood := { row := deadlineSumsRow, standIns := [], harness := (true, "bcddebcea72fae236505d01807621e27c7d00c57ef052b6464a08401a5d745a3"), looks := false }, kinds := [], alts := [], laidByText := true, laidKinds := [.data], laidTests := true, laidLooks := .later }
def DeadlineSumsCardSaid : Prop := Claim7.holds Tryd.pinned (.plain (OpenSpec.ofChange deadlineSumsSpec)) deadlineSumsCard

/-- THE SECOND FORM's CARD OF 'estoppellaw33.ReceiptBounds'. -/
def receiptBoundsUptoCard : Claim7 := { stood := { row := receiptBoundsUptoRow, standIns := [], harness := (true, "bcddebcea72fae236505d01807621e27c7d00c57ef052b6464a08401a5d745a3"), looks := false }, kinds := [], alts := [], laidByText := true, laidKinds := [.data], laidTests := true, laidLooks := .later }
def ReceiptBoundsUptoCardSaid : Prop := Claim7.holds Tryd.pinned (.plain (OpenSpec.upto receiptBoundsSpec)) receiptBoundsUptoCard

/-- THE SECOND FORM's CARD OF 'estoppellaw33.ReceiptExact'. -/
def receiptExactUptoCard : Claim7 := { stood := { row := receiptExactUptoRow, standIns := [], harness := (true, "bcddebcea72fae236505d01807621e27c7d00c57ef052b6464a08401a5d745a3"), looks := false }, kinds := [], alts := [], laidByText := true, laidKinds := [.data], laidTests := true, laidLooks := .later }
def ReceiptExactUptoCardSaid : Prop := Claim7.holds Tryd.pinned (.plain (OpenSpec.upto receiptExactSpec)) receiptExactUptoCard

/-- THE SECOND FORM's CARD OF 'estoppellaw33.ReceiptContradicts'. -/
def receiptContradictsUptoCard : Claim7 := { stood := { row := receiptContradictsUptoRow, standIns := [], harness := (true, "bcddebcea72fae236505d01807621e27c7d00c57ef052b6464a08401a5d745a3"), looks := false }, kinds := [], alts := [], laidByText := true, laidKinds := [.data], laidTests := true, laidLooks := .later }
def ReceiptContradictsUptoCardSaid : Prop := Claim7.holds Tryd.pinned (.plain (OpenSpec.upto receiptContradictsSpec)) receiptContradictsUptoCard

/-- THE SECOND FORM's CARD OF 'estoppellaw33.ReceiptCutOff'. -/
def receiptCutOffUptoCard : Claim7 := { stood := { row := receiptCutOffUptoRow, standIns := [], harness := (true, "bcddebcea72fae236505d01807621e27c7d00c57ef052b6464a08401a5d745a3"), looks := false }, kinds := [], alts := [], laidByText := true, laidKinds := [.data], laidTests := true, laidLooks := .later }
def ReceiptCutOffUptoCardSaid : Prop := Claim7.holds Tryd.pinned (.plain (OpenSpec.upto receiptCutOffSpec)) receiptCutOffUptoCard

/-- THE SECOND FORM's CARD OF 'estoppellaw05.DeadlineMonotone'. -/
def deadlineMonotoneUptoCard : Claim7 := { stood := { row := deadlineMonotoneUptoRow, standIns := [], harness := (true, "bcddebcea72fae236505d01807621e27c7d00c57ef052b6464a08401a5d745a3"), looks := false }, kinds := [], alts := [], laidByText := true, laidKinds := [.data], laidTests := true, laidLooks := .later }
def DeadlineMonotoneUptoCardSaid : Prop := Claim7.holds Tryd.pinned (.plain (OpenSpec.upto deadlineMonotoneSpec)) deadlineMonotoneUptoCard

/-- THE SECOND FORM's CARD OF 'estoppellaw05.DeadlineBounds'. -/
def deadlineBoundsUptoCard : Claim7 := { stood := { row := deadlineBoundsUptoRow, standIns := [], harness := (true, "bcddebcea72fae236505d01807621e27c7d00c57ef052b6464a08401a5d745a3"), looks := false }, kinds := [], alts := [], laidByText := true, laidKinds := [.data], laidTests := true, laidLooks := .later }
def DeadlineBoundsUptoCardSaid : Prop := Claim7.holds Tryd.pinned (.plain (OpenSpec.upto deadlineBoundsSpec)) deadlineBoundsUptoCard

/-- THE SECOND FORM's CARD OF 'estoppellaw05.DeadlineNeeds'. -/
def deadlineNeedsUptoCard : Claim7 := { stood := { row := deadlineNeedsUptoRow, standIns := [], harness := (true, "bcddebcea72fae236505d01807621e27c7d00c57ef052b6464a08401a5d745a3"), looks := false }, kinds := [], alts := [], laidByText := true, laidKinds := [.data], laidTests := true, laidLooks := .later }
def DeadlineNeedsUptoCardSaid : Prop := Claim7.holds Tryd.pinned (.plain (OpenSpec.upto deadlineNeedsSpec)) deadlineNeedsUptoCard

/-- THE SECOND FORM's CARD OF 'estoppellaw05.DeadlineExtremes'. -/
def deadlineExtremesUptoCard : Claim7 := { stood := { row := deadlineExtremesUptoRow, standIns := [], harness := (true, "bcddebcea72fae236505d01807621e27c7d00c57ef052b6464a08401a5d745a3"), looks := false }, kinds := [], alts := [], laidByText := true, laidKinds := [.data], laidTests := true, laidLooks := .later }
def DeadlineExtremesUptoCardSaid : Prop := Claim7.holds Tryd.pinned (.plain (OpenSpec.upto deadlineExtremesSpec)) deadlineExtremesUptoCard

/-- THE SECOND FORM's CARD OF 'estoppellaw05.DeadlineCuts'. -/
def deadlineCutsUptoCard : Claim7 := { stood := { row := deadlineCutsUptoRow, standIns := [], harness := (true, "bcddebcea72fae236505d01807621e27c7d00c57ef052b6464a08401a5d745a3"), looks := false }, kinds := [], alts := [], laidByText := true, laidKinds := [.data], laidTests := true, laidLooks := .later }
def DeadlineCutsUptoCardSaid : Prop := Claim7.holds Tryd.pinned (.plain (OpenSpec.upto deadlineCutsSpec)) deadlineCutsUptoCard

/-- THE SECOND FORM's CARD OF 'estoppellaw05.DeadlineSums'. -/
def deadlineSumsUptoCard : Claim7 := { stood := { row := deadlineSumsUptoRow, standIns := [], harness := (true, "bcddebcea72fae236505d01807621e27c7d00c57ef052b6464a08401a5d745a3"), looks := false }, kinds := [], alts := [], laidByText := true, laidKinds := [.data], laidTests := true, laidLooks := .later }
def DeadlineSumsUptoCardSaid : Prop := Claim7.holds Tryd.pinned (.plain (OpenSpec.upto deadlineSumsSpec)) deadlineSumsUptoCard
end Rows
end Go.Proofs.YticlmkfifpkdpaaDoor
