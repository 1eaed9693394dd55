/-
  DERIVED. GIVEN WITH THE SEED: THE CARDS: each row of YtdhjibnkebbejaaDoorRows.lean that lists a variable, with what it lists TIED to the program's text (the seventh form; the later family's looks); each row that meets fmt, with fmt's text TOLD by the authors' own Lean function (tested against real Go, not proved from fmt's source: count such statements apart). THE CARD IS WHAT COUNTS. Prove the row's statement (the work); the ties are given (YtdhjibnkebbejaaDoorTie.lean); close each card by the builder's one call (the guide's Derived/Test/ToyasCard.lean, 'card_holds'). Laid BY PROGRAM, IN A SANDBOX (cutbox-door.mjs). By AI agents, Wed Nov 11 2026. No macro, syntax, notation, axiom, sorry.
-/
import Derived.Test.YtdhjibnkebbejaaDoorRows
import GoSem.ClaimSeven
namespace Go.Proofs.YtdhjibnkebbejaaDoor
namespace Rows

/-- THE TIED CARD OF 'estoppellaw10.ResolveMatchesReference'. -/
def resolveMatchesReferenceCard : Claim7 := { stood := { row := resolveMatchesReferenceRow, standIns := [], harness := (true, "e3f78f0ae285dde46e4e05703aa42e713011f62e1ff5da1e732d76a8d19a51a8"), looks := false }, kinds := [], alts := [], laidByText := true, laidKinds := [.data], laidTests := true, laidLooks := .later }
def ResolveMatchesReferenceCardSaid : Prop := Claim7.holds Tryd.pinned (.plain (OpenSpec.ofChange resolveMatchesReferenceSpec)) resolveMatchesReferenceCard

/-- THE TIED CARD OF 'estoppellaw10.ResolveNames'. -/
def resolveNamesCard : Claim7 := { stood := { row := resolveNamesRow, standIns := [], harness := (true, "e3f78f0ae285dde46e4e05703aa42e713011f62e1ff5da1e732d76a8d19a51a8"), looks := false }, kinds := [], alts := [], laidByText := true, laidKinds := [.data], laidTests := true, laidLooks := .later }
def ResolveNamesCardSaid : Prop := Claim7.holds Tryd.pinned (.plain (OpenSpec.ofChange resolveNamesSpec)) resolveNamesCard

/-- THE TIED CARD OF 'estoppellaw10.ResolveGroups'. -/
def resolveGroupsCard : Claim7 := { stood := { row := resolveGroupsRow, standIns := [], harness := (true, "e3f78f0ae285dde46e4e05703aa42e713011f62e1ff5da1e732d76a8d19a51a8"), looks := false }, kinds := [], alts := [], laidByText := true, laidKinds := [.data], laidTests := true, laidLooks := .later }
def ResolveGroupsCardSaid : Prop := Claim7.holds Tryd.pinned (.plain (OpenSpec.ofChange resolveGroupsSpec)) resolveGroupsCard

/-- THE TIED CARD OF 'estoppellaw10.ResolveRenames'. -/
def resolveRenamesCard : Claim7 := { stood := { row := resolveRenamesRow, standIns := [], harness := (true, "e3f78f0ae285dde46e4e05703aa42e713011f62e1ff5da1e732d76a8d19a51a8"), looks := false }, kinds := [], alts := [], laidByText := true, laidKinds := [.data], laidTests := true, laidLooks := .later }
def ResolveRenamesCardSaid : Prop := Claim7.holds Tryd.pinned (.plain (OpenSpec.ofChange resolveRenamesSpec)) resolveRenamesCard

/-- THE TIED CARD OF 'estoppellaw10.ResolveAppends'. -/
def resolveAppendsCard : Claim7 := { stood := { row := resolveAppendsRow, standIns := [], harness := (true, "e3f78f0ae285dde46e4e05703aa42e713011f62e1ff5da1e732d76a8d19a51a8"), looks := false }, kinds := [], alts := [], laidByText := true, laidKinds := [.data], laidTests := true, laidLooks := .later }
def ResolveAppendsCardSaid : Prop := Claim7.holds Tryd.pinned (.plain (OpenSpec.ofChange resolveAppendsSpec)) resolveAppendsCard

/-- THE TIED CARD OF 'estoppellaw10.ResolveFaults'. -/
def resolveFaultsCard : Claim7 := { stood := { row := resolveFaultsRow, standIns := [], harness := (true, "e3f78f0ae285dde46e4e05703aa42e713011f62e1ff5da1e732d76a8d19a51a8"), looks := false }, kinds := [], alts := [], laidByText := true, laidKinds := [.data], laidTests := true, laidLooks := .later }
def ResolveFaultsCardSaid : Prop := Claim7.holds Tryd.pinned (.plain (OpenSpec.ofChange resolveFaultsSpec)) resolveFaultsCard

/-- THE TIED CARD OF 'estoppellaw10.ResolveCalendar'. -/
def resolveCalendarCard : Claim7 := { stood := { row := resolveCalendarRow, standIns := [], harness := (true, "e3f78f0ae285dde46e4e05703aa42e713011f62e1ff5da1e732d76a8d19a51a8"), looks := false }, kinds := [], alts := [], laidByText := true, laidKinds := [.data], laidTests := true, laidLooks := .later }
def ResolveCalendarCardSaid : Prop := Claim7.holds Tryd.pinned (.plain (OpenSpec.ofChange resolveCalendarSpec)) resolveCalendarCard

/-- THE SECOND FORM's CARD OF 'estoppellaw10.ResolveMatchesReference'. -/
def resolveMatchesReferenceUptoCard : Claim7 := { stood := { row := resolveMatchesReferenceUptoRow, standIns := [], harness := (true, "e3f78f0ae285dde46e4e05703aa42e713011f62e1ff5da1e732d76a8d19a51a8"), looks := false }, kinds := [], alts := [], laidByText := true, laidKinds := [.data], laidTests := true, laidLooks := .later }
def ResolveMatchesReferenceUptoCardSaid : Prop := Claim7.holds Tryd.pinned (.plain (OpenSpec.upto resolveMatchesReferenceSpec)) resolveMatchesReferenceUptoCard

/-- THE SECOND FORM's CARD OF 'estoppellaw10.ResolveNames'. -/
def resolveNamesUptoCard : Claim7 := { stood := { row := resolveNamesUptoRow, standIns := [], harness := (true, "e3f78f0ae285dde46e4e05703aa42e713011f62e1ff5da1e732d76a8d19a51a8"), looks := false }, kinds := [], alts := [], laidByText := true, laidKinds := [.data], laidTests := true, laidLooks := .later }
def ResolveNamesUptoCardSaid : Prop := Claim7.holds Tryd.pinned (.plain (OpenSpec.upto resolveNamesSpec)) resolveNamesUptoCard

/-- THE SECOND FORM's CARD OF 'estoppellaw10.ResolveGroups'. -/
def resolveGroupsUptoCard : Claim7 := { stood := { row := resolveGroupsUptoRow, standIns := [], harness := (true, "e3f78f0ae285dde46e4e05703aa42e713011f62e1ff5da1e732d76a8d19a51a8"), looks := false }, kinds := [], alts := [], laidByText := true, laidKinds := [.data], laidTests := true, laidLooks := .later }
def ResolveGroupsUptoCardSaid : Prop := Claim7.holds Tryd.pinned (.plain (OpenSpec.upto resolveGroupsSpec)) resolveGroupsUptoCard

/-- THE SECOND FORM's CARD OF 'estoppellaw10.ResolveRenames'. -/
def resolveRenamesUptoCard : Claim7 := { stood := { row := resolveRenamesUptoRow, standIns := [], harness := (true, "e3f78f0ae285dde46e4e05703aa42e713011f62e1ff5da1e732d76a8d19a51a8"), looks := false }, kinds := [], alts := [], laidByText := true, laidKinds := [.data], laidTests := true, laidLooks := .later }
def ResolveRenamesUptoCardSaid : Prop := Claim7.holds Tryd.pinned (.plain (OpenSpec.upto resolveRenamesSpec)) resolveRenamesUptoCard

/-- THE SECOND FORM's CARD OF 'estoppellaw10.ResolveAppends'. -/
def resolveAppendsUptoCard : Claim7 := { stood := { row := resolveAppendsUptoRow, standIns := [], harness := (true, "e3f78f0ae285dde46e4e05703aa42e713011f62e1ff5da1e732d76a8d19a51a8"), looks := false }, kinds := [], alts := [], laidByText := true, laidKinds := [.data], laidTests := true, laidLooks := .later }
def ResolveAppendsUptoCardSaid : Prop := Claim7.holds Tryd.pinned (.plain (OpenSpec.upto resolveAppendsSpec)) resolveAppendsUptoCard

/-- THE SECOND FORM's CARD OF 'estoppellaw10.ResolveFaults'. -/
def resolveFaultsUptoCard : Claim7 := { stood := { row := resolveFaultsUptoRow, standIns := [], harness := (true, "e3f78f0ae285dde46e4e05703aa42e713011f62e1ff5da1e732d76a8d19a51a8"), looks := false }, kinds := [], alts := [], laidByText := true, laidKinds := [.data], laidTests := true, laidLooks := .later }
def ResolveFaultsUptoCardSaid : Prop := Claim7.holds Tryd.pinned (.plain (OpenSpec.upto resolveFaultsSpec)) resolveFaultsUptoCard

/-- THE SECOND FORM's CARD OF 'estoppellaw10.ResolveCalendar'. -/
def resolveCalendarUptoCard : Claim7 := { stood := { row := resolveCalendarUptoRow, standIns := [], harness := (true, "e3f78f0ae285dde46e4e05703aa42e713011f62e1ff5da1e732d76a8d19a51a8"), looks := false }, kinds := [], alts := [], laidByText := true, laidKinds := [.data], laidTests := true, laidLooks := .later }
def ResolveCalendarUptoCardSaid : Prop := Claim7.holds Tryd.pinned (.plain (OpenSpec.upto resolveCalendarSpec)) resolveCalendarUptoCard
end Rows
end Go.Proofs.YtdhjibnkebbejaaDoor
