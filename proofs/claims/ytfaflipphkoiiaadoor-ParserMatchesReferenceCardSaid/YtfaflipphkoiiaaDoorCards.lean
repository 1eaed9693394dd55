/-
  DERIVED. GIVEN WITH THE SEED: THE CARDS: each row of YtfaflipphkoiiaaDoorRows.lean that lists a variable, with what it lists TIED to the program's text (the seventh form; the later family's looks); each row that meets fmt, with fmt's text TOLD by the authors' own Lean function (tested against real Go, not proved from fmt's source: count such statements apart). THE CARD IS WHAT COUNTS. Prove the row's statement (the work); the ties are given (YtfaflipphkoiiaaDoorTie.lean); close each card by the builder's one call (the guide's Derived/Test/ToyasCard.lean, 'card_holds'). Laid BY PROGRAM, IN A SANDBOX (cutbox-door.mjs). By AI agents, Wed Nov 11 2026. No macro, syntax, notation, axiom, sorry.
-/
import Derived.Test.YtfaflipphkoiiaaDoorRows
import GoSem.ClaimSeven
namespace Go.Proofs.YtfaflipphkoiiaaDoor
namespace Rows

/-- THE TIED CARD OF 'estoppellaw07.ParserMatchesReference'. -/
def parserMatchesReferenceCard : Claim7 := { stood := { row := parserMatchesReferenceRow, standIns := [], harness := (true, "c4523b23a60484207caf77d8cf3d77bdb12f81acb27bd6d927991eb1358b9cd2"), looks := true }, kinds := [], alts := [], laidByText := true, laidKinds := [.data], laidTests := true, laidLooks := .later }
def ParserMatchesReferenceCardSaid : Prop := Claim7.holds Tryd.pinned (.plain (OpenSpec.ofChange parserMatchesReferenceSpec)) parserMatchesReferenceCard

/-- THE TIED CARD OF 'estoppellaw07.ParserTokens'. -/
def parserTokensCard : Claim7 := { stood := { row := parserTokensRow, standIns := [], harness := (true, "c4523b23a60484207caf77d8cf3d77bdb12f81acb27bd6d927991eb1358b9cd2"), looks := true }, kinds := [], alts := [], laidByText := true, laidKinds := [.data], laidTests := true, laidLooks := .later }
def ParserTokensCardSaid : Prop := Claim7.holds Tryd.pinned (.plain (OpenSpec.ofChange parserTokensSpec)) parserTokensCard

/-- THE TIED CARD OF 'estoppellaw07.ParserJoins'. -/
def parserJoinsCard : Claim7 := { stood := { row := parserJoinsRow, standIns := [], harness := (true, "c4523b23a60484207caf77d8cf3d77bdb12f81acb27bd6d927991eb1358b9cd2"), looks := true }, kinds := [], alts := [], laidByText := true, laidKinds := [.data], laidTests := true, laidLooks := .later }
def ParserJoinsCardSaid : Prop := Claim7.holds Tryd.pinned (.plain (OpenSpec.ofChange parserJoinsSpec)) parserJoinsCard

/-- THE TIED CARD OF 'estoppellaw07.ParserFirstError'. -/
def parserFirstErrorCard : Claim7 := { stood := { row := parserFirstErrorRow, standIns := [], harness := (true, "c4523b23a60484207caf77d8cf3d77bdb12f81acb27bd6d927991eb1358b9cd2"), looks := true }, kinds := [], alts := [], laidByText := true, laidKinds := [.data], laidTests := true, laidLooks := .later }
def ParserFirstErrorCardSaid : Prop := Claim7.holds Tryd.pinned (.plain (OpenSpec.ofChange parserFirstErrorSpec)) parserFirstErrorCard

/-- THE TIED CARD OF 'estoppellaw07.ParserNames'. -/
def parserNamesCard : Claim7 := { stood := { row := parserNamesRow, standIns := [], harness := (true, "c4523b23a60484207caf77d8cf3d77bdb12f81acb27bd6d927991eb1358b9cd2"), looks := true }, kinds := [], alts := [], laidByText := true, laidKinds := [.data], laidTests := true, laidLooks := .later }
def ParserNamesCardSaid : Prop := Claim7.holds Tryd.pinned (.plain (OpenSpec.ofChange parserNamesSpec)) parserNamesCard

/-- THE TIED CARD OF 'estoppellaw07.ParserOffsets'. -/
def parserOffsetsCard : Claim7 := { stood := { row := parserOffsetsRow, standIns := [], harness := (true, "c4523b23a60484207caf77d8cf3d77bdb12f81acb27bd6d927991eb1358b9cd2"), looks := true }, kinds := [], alts := [], laidByText := true, laidKinds := [.data], laidTests := true, laidLooks := .later }
def ParserOffsetsCardSaid : Prop := Claim7.holds Tryd.pinned (.plain (OpenSpec.ofChange parserOffsetsSpec)) parserOffsetsCard

/-- THE TIED CARD OF 'estoppellaw07.ParserBeginnings'. -/
def parserBeginningsCard : Claim7 := { stood := { row := parserBeginningsRow, standIns := [], harness := (true, "c4523b23a60484207caf77d8cf3d77bdb12f81acb27bd6d927991eb1358b9cd2"), looks := true }, kinds := [], alts := [], laidByText := true, laidKinds := [.data], laidTests := true, laidLooks := .later }
def ParserBeginningsCardSaid : Prop := Claim7.holds Tryd.pinned (.plain (OpenSpec.ofChange parserBeginningsSpec)) parserBeginningsCard

/-- THE SECOND FORM's CARD OF 'estoppellaw07.ParserMatchesReference'. -/
def parserMatchesReferenceUptoCard : Claim7 := { stood := { row := parserMatchesReferenceUptoRow, standIns := [], harness := (true, "c4523b23a60484207caf77d8cf3d77bdb12f81acb27bd6d927991eb1358b9cd2"), looks := true }, kinds := [], alts := [], laidByText := true, laidKinds := [.data], laidTests := true, laidLooks := .later }
def ParserMatchesReferenceUptoCardSaid : Prop := Claim7.holds Tryd.pinned (.plain (OpenSpec.upto parserMatchesReferenceSpec)) parserMatchesReferenceUptoCard

/-- THE SECOND FORM's CARD OF 'estoppellaw07.ParserTokens'. -/
def parserTokensUptoCard : Claim7 := { stood := { row := parserTokensUptoRow, standIns := [], harness := (true, "c4523b23a60484207caf77d8cf3d77bdb12f81acb27bd6d927991eb1358b9cd2"), looks := true }, kinds := [], alts := [], laidByText := true, laidKinds := [.data], laidTests := true, laidLooks := .later }
def ParserTokensUptoCardSaid : Prop := Claim7.holds Tryd.pinned (.plain (OpenSpec.upto parserTokensSpec)) parserTokensUptoCard

/-- THE SECOND FORM's CARD OF 'estoppellaw07.ParserJoins'. -/
def parserJoinsUptoCard : Claim7 := { stood := { row := parserJoinsUptoRow, standIns := [], harness := (true, "c4523b23a60484207caf77d8cf3d77bdb12f81acb27bd6d927991eb1358b9cd2"), looks := true }, kinds := [], alts := [], laidByText := true, laidKinds := [.data], laidTests := true, laidLooks := .later }
def ParserJoinsUptoCardSaid : Prop := Claim7.holds Tryd.pinned (.plain (OpenSpec.upto parserJoinsSpec)) parserJoinsUptoCard

/-- THE SECOND FORM's CARD OF 'estoppellaw07.ParserFirstError'. -/
def parserFirstErrorUptoCard : Claim7 := { stood := { row := parserFirstErrorUptoRow, standIns := [], harness := (true, "c4523b23a60484207caf77d8cf3d77bdb12f81acb27bd6d927991eb1358b9cd2"), looks := true }, kinds := [], alts := [], laidByText := true, laidKinds := [.data], laidTests := true, laidLooks := .later }
def ParserFirstErrorUptoCardSaid : Prop := Claim7.holds Tryd.pinned (.plain (OpenSpec.upto parserFirstErrorSpec)) parserFirstErrorUptoCard

/-- THE SECOND FORM's CARD OF 'estoppellaw07.ParserNames'. -/
def parserNamesUptoCard : Claim7 := { stood := { row := parserNamesUptoRow, standIns := [], harness := (true, "c4523b23a60484207caf77d8cf3d77bdb12f81acb27bd6d927991eb1358b9cd2"), looks := true }, kinds := [], alts := [], laidByText := true, laidKinds := [.data], laidTests := true, laidLooks := .later }
def ParserNamesUptoCardSaid : Prop := Claim7.holds Tryd.pinned (.plain (OpenSpec.upto parserNamesSpec)) parserNamesUptoCard

/-- THE SECOND FORM's CARD OF 'estoppellaw07.ParserOffsets'. -/
def parserOffsetsUptoCard : Claim7 := { stood := { row := parserOffsetsUptoRow, standIns := [], harness := (true, "c4523b23a60484207caf77d8cf3d77bdb12f81acb27bd6d927991eb1358b9cd2"), looks := true }, kinds := [], alts := [], laidByText := true, laidKinds := [.data], laidTests := true, laidLooks := .later }
def ParserOffsetsUptoCardSaid : Prop := Claim7.holds Tryd.pinned (.plain (OpenSpec.upto parserOffsetsSpec)) parserOffsetsUptoCard

/-- THE SECOND FORM's CARD OF 'estoppellaw07.ParserBeginnings'. -/
def parserBeginningsUptoCard : Claim7 := { stood := { row := parserBeginningsUptoRow, standIns := [], harness := (true, "c4523b23a60484207caf77d8cf3d77bdb12f81acb27bd6d927991eb1358b9cd2"), looks := true }, kinds := [], alts := [], laidByText := true, laidKinds := [.data], laidTests := true, laidLooks := .later }
def ParserBeginningsUptoCardSaid : Prop := Claim7.holds Tryd.pinned (.plain (OpenSpec.upto parserBeginningsSpec)) parserBeginningsUptoCard
end Rows
end Go.Proofs.YtfaflipphkoiiaaDoor
