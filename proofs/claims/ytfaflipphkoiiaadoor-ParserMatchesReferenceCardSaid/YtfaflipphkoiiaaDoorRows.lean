/-
  NARROWER THAN 'FOR EVERY INPUT', by the rows' own cells (each row's printed sentence says how): ParserMatchesReference: laid · ParserTokens: laid · ParserJoins: laid · ParserFirstError: laid · ParserNames: laid · ParserOffsets: laid · ParserBeginnings: laid.
  DERIVED. THE GIVEN ROWS OF THIS SEAT. 7 by the template 'for every input the law returns true; each argument reads behind the call as it read before'; 0 by the template 'total and deterministic' (their statements: YtfaflipphkoiiaaDoorTotals.lean).
  GIVEN WITH THE SEED: the statements are not yours to turn. If you find one false, say at which input.
  Laid BY PROGRAM, IN A SANDBOX (cutbox-rows.mjs): the forced cells as the released guide's own fill.sh prints them over the translation 6a4d0fc97bd811f2… (all of the seat's roots in one cut). By AI agents, Wed Nov 11 2026. No macro, syntax, notation, axiom, sorry.
-/
import Derived.Test.YtfaflipphkoiiaaDoorChecked
import GoSem.Claim
import GoSem.ClaimJoined
import GoSem.ClaimMapViews
import Derived.JoinedTies
import Derived.KernelRfl
namespace Go.Proofs.YtfaflipphkoiiaaDoor
/- THE CELL 'sum', in the pinned program and in every row, IS THE sha256 OF THE DUMP (.gsa) THAT YtfaflipphkoiiaaDoorProg.lean LOADS. Nothing in Lean hashes anything: it is a label: what it is worth is what the hold of that sum in a sandbox is worth. -/
noncomputable def Tryd.pinned : Pinned := { name := "ytfaflipphkoiiaadoor", sum := "6a4d0fc97bd811f2ec686aba2e7bbae40e44662bb97907895376d1b592cba5dc", checked := Tryd.checked }
namespace Rows
def none {H : Type} : Left H := { results := [], args := [] }

/- WHAT THE LISTED PACKAGE-LEVEL VARIABLES READ AS WHEN THE CALL BEGINS. Each datum BY PROGRAM (the guide's laid-datum.mjs) off the statement by which the dump's own 'gosem.cut.vars' lays the variable. In a bare row this is a premise. The card (YtfaflipphkoiiaaDoorCards.lean) ties it to the program's text. -/
def laid_estoppel_parser_weekdays {H : Type} : DataW H := .agg [.lit (.string [109, 111, 110]), .lit (.string [116, 117, 101]), .lit (.string [119, 101, 100]), .lit (.string [116, 104, 117]), .lit (.string [102, 114, 105]), .lit (.string [115, 97, 116]), .lit (.string [115, 117, 110])]

/-- 'estoppellaw07.ParserMatchesReference': WHATEVER THE INPUT: true; the input reads as it did. -/
def parserMatchesReferenceSpec : ChangeSpec := { name := "parserMatchesReference", fn := fun _ => fun
  | [d] => { results := [.lit (.bool true)], args := [d] }
  | _ => none }
def parserMatchesReferenceRow : OpenClaim := { program := "ytfaflipphkoiiaadoor", sum := "6a4d0fc97bd811f2ec686aba2e7bbae40e44662bb97907895376d1b592cba5dc", func := "estoppel/estoppellaw07.ParserMatchesReference", spec := "parserMatchesReference", inPlace := ["internal/bytealg.IndexByteString"], unfollowed := true, recurses := true, named := ["estoppel/parser.weekdays"], apart := false, laid := [("estoppel/parser.weekdays", laid_estoppel_parser_weekdays)] }
def ParserMatchesReferenceSaid : Prop := parserMatchesReferenceRow.holds Tryd.pinned (OpenSpec.ofChange parserMatchesReferenceSpec)

/-- ITS FALSE NEIGHBOUR: 'it returns false'. Refute it at one input. -/
def parserMatchesReferenceWrong : ChangeSpec := { name := "parserMatchesReference", fn := fun _ => fun
  | [d] => { results := [.lit (.bool false)], args := [d] }
  | _ => none }
def ParserMatchesReferenceWrongFalsely : Prop := parserMatchesReferenceRow.holds Tryd.pinned (OpenSpec.ofChange parserMatchesReferenceWrong)

/-- 'estoppellaw07.ParserTokens': WHATEVER THE INPUT: true; the input reads as it did. -/
def parserTokensSpec : ChangeSpec := { name := "parserTokens", fn := fun _ => fun
  | [d] => { results := [.lit (.bool true)], args := [d] }
  | _ => none }
def parserTokensRow : OpenClaim := { program := "ytfaflipphkoiiaadoor", sum := "6a4d0fc97bd811f2ec686aba2e7bbae40e44662bb97907895376d1b592cba5dc", func := "estoppel/estoppellaw07.ParserTokens", spec := "parserTokens", inPlace := ["internal/bytealg.IndexByteString"], unfollowed := true, recurses := true, named := ["estoppel/parser.weekdays"], apart := false, laid := [("estoppel/parser.weekdays", laid_estoppel_parser_weekdays)] }
def ParserTokensSaid : Prop := parserTokensRow.holds Tryd.pinned (OpenSpec.ofChange parserTokensSpec)

/-- ITS FALSE NEIGHBOUR: 'it returns false'. Refute it at one input. -/
def parserTokensWrong : ChangeSpec := { name := "parserTokens", fn := fun _ => fun
  | [d] => { results := [.lit (.bool false)], args := [d] }
  | _ => none }
def ParserTokensWrongFalsely : Prop := parserTokensRow.holds Tryd.pinned (OpenSpec.ofChange parserTokensWrong)

/-- 'estoppellaw07.ParserJoins': WHATEVER THE INPUT: true; the input reads as it did. -/
def parserJoinsSpec : ChangeSpec := { name := "parserJoins", fn := fun _ => fun
  | [d1, d2] => { results := [.lit (.bool true)], args := [d1, d2] }
  | _ => none }
def parserJoinsRow : OpenClaim := { program := "ytfaflipphkoiiaadoor", sum := "6a4d0fc97bd811f2ec686aba2e7bbae40e44662bb97907895376d1b592cba5dc", func := "estoppel/estoppellaw07.ParserJoins", spec := "parserJoins", inPlace := ["internal/bytealg.IndexByteString"], unfollowed := true, recurses := true, named := ["estoppel/parser.weekdays"], apart := false, laid := [("estoppel/parser.weekdays", laid_estoppel_parser_weekdays)] }
def ParserJoinsSaid : Prop := parserJoinsRow.holds Tryd.pinned (OpenSpec.ofChange parserJoinsSpec)

/-- ITS FALSE NEIGHBOUR: 'it returns false'. Refute it at one input. -/
def parserJoinsWrong : ChangeSpec := { name := "parserJoins", fn := fun _ => fun
  | [d1, d2] => { results := [.lit (.bool false)], args := [d1, d2] }
  | _ => none }
def ParserJoinsWrongFalsely : Prop := parserJoinsRow.holds Tryd.pinned (OpenSpec.ofChange parserJoinsWrong)

/-- 'estoppellaw07.ParserFirstError': WHATEVER THE INPUT: true; the input reads as it did. -/
def parserFirstErrorSpec : ChangeSpec := { name := "parserFirstError", fn := fun _ => fun
  | [d1, d2] => { results := [.lit (.bool true)], args := [d1, d2] }
  | _ => none }
def parserFirstErrorRow : OpenClaim := { program := "ytfaflipphkoiiaadoor", sum := "6a4d0fc97bd811f2ec686aba2e7bbae40e44662bb97907895376d1b592cba5dc", func := "estoppel/estoppellaw07.ParserFirstError", spec := "parserFirstError", inPlace := ["internal/bytealg.IndexByteString"], unfollowed := true, recurses := true, named := ["estoppel/parser.weekdays"], apart := false, laid := [("estoppel/parser.weekdays", laid_estoppel_parser_weekdays)] }
def ParserFirstErrorSaid : Prop := parserFirstErrorRow.holds Tryd.pinned (OpenSpec.ofChange parserFirstErrorSpec)

/-- ITS FALSE NEIGHBOUR: 'it returns false'. Refute it at one input. -/
def parserFirstErrorWrong : ChangeSpec := { name := "parserFirstError", fn := fun _ => fun
  | [d1, d2] => { results := [.lit (.bool false)], args := [d1, d2] }
  | _ => none }
def ParserFirstErrorWrongFalsely : Prop := parserFirstErrorRow.holds Tryd.pinned (OpenSpec.ofChange parserFirstErrorWrong)

/-- 'estoppellaw07.ParserNames': WHATEVER THE INPUT: true; the input reads as it did. -/
def parserNamesSpec : ChangeSpec := { name := "parserNames", fn := fun _ => fun
  | [d1, d2, d3] => { results := [.lit (.bool true)], args := [d1, d2, d3] }
  | _ => none }
def parserNamesRow : OpenClaim := { program := "ytfaflipphkoiiaadoor", sum := "6a4d0fc97bd811f2ec686aba2e7bbae40e44662bb97907895376d1b592cba5dc", func := "estoppel/estoppellaw07.ParserNames", spec := "parserNames", inPlace := ["internal/bytealg.IndexByteString"], unfollowed := true, recurses := true, named := ["estoppel/parser.weekdays"], apart := false, laid := [("estoppel/parser.weekdays", laid_estoppel_parser_weekdays)] }
def ParserNamesSaid : Prop := parserNamesRow.holds Tryd.pinned (OpenSpec.ofChange parserNamesSpec)

/-- ITS FALSE NEIGHBOUR: 'it returns false'. Refute it at one input. -/
def parserNamesWrong : ChangeSpec := { name := "parserNames", fn := fun _ => fun
  | [d1, d2, d3] => { results := [.lit (.bool false)], args := [d1, d2, d3] }
  | _ => none }
def ParserNamesWrongFalsely : Prop := parserNamesRow.holds Tryd.pinned (OpenSpec.ofChange parserNamesWrong)

/-- 'estoppellaw07.ParserOffsets': WHATEVER THE INPUT: true; the input reads as it did. -/
def parserOffsetsSpec : ChangeSpec := { name := "parserOffsets", fn := fun _ => fun
  | [d] => { results := [.lit (.bool true)], args := [d] }
  | _ => none }
def parserOffsetsRow : OpenClaim := { program := "ytfaflipphkoiiaadoor", sum := "6a4d0fc97bd811f2ec686aba2e7bbae40e44662bb97907895376d1b592cba5dc", func := "estoppel/estoppellaw07.ParserOffsets", spec := "parserOffsets", inPlace := ["internal/bytealg.IndexByteString"], unfollowed := true, recurses := true, named := ["estoppel/parser.weekdays"], apart := false, laid := [("estoppel/parser.weekdays", laid_estoppel_parser_weekdays)] }
def ParserOffsetsSaid : Prop := parserOffsetsRow.holds Tryd.pinned (OpenSpec.ofChange parserOffsetsSpec)

/-- ITS FALSE NEIGHBOUR: 'it returns false'. Refute it at one input. -/
def parserOffsetsWrong : ChangeSpec := { name := "parserOffsets", fn := fun _ => fun
  | [d] => { results := [.lit (.bool false)], args := [d] }
  | _ => none }
def ParserOffsetsWrongFalsely : Prop := parserOffsetsRow.holds Tryd.pinned (OpenSpec.ofChange parserOffsetsWrong)

/-- 'estoppellaw07.ParserBeginnings': WHATEVER THE INPUT: true; the input reads as it did. -/
def parserBeginningsSpec : ChangeSpec := { name := "parserBeginnings", fn := fun _ => fun
  | [d1, d2] => { results := [.lit (.bool true)], args := [d1, d2] }
  | _ => none }
def parserBeginningsRow : OpenClaim := { program := "ytfaflipphkoiiaadoor", sum := "6a4d0fc97bd811f2ec686aba2e7bbae40e44662bb97907895376d1b592cba5dc", func := "estoppel/estoppellaw07.ParserBeginnings", spec := "parserBeginnings", inPlace := ["internal/bytealg.IndexByteString"], unfollowed := true, recurses := true, named := ["estoppel/parser.weekdays"], apart := false, laid := [("estoppel/parser.weekdays", laid_estoppel_parser_weekdays)] }
def ParserBeginningsSaid : Prop := parserBeginningsRow.holds Tryd.pinned (OpenSpec.ofChange parserBeginningsSpec)

/-- ITS FALSE NEIGHBOUR: 'it returns false'. Refute it at one input. -/
def parserBeginningsWrong : ChangeSpec := { name := "parserBeginnings", fn := fun _ => fun
  | [d1, d2] => { results := [.lit (.bool false)], args := [d1, d2] }
  | _ => none }
def ParserBeginningsWrongFalsely : Prop := parserBeginningsRow.holds Tryd.pinned (OpenSpec.ofChange parserBeginningsWrong)

/- THE SECOND FORM. 'bulk': how many values and letters a reading holds, each counted each time it is reached (what is shared counts as often as it is met; a slice's spare places count too). A statement '..UptoSaid' is the law's where the arguments, and the package variables that the reading takes, are together of bulk at most 1048576: NARROWER than '..Said'. Prove '..Said' where nothing that the law and all that it calls make is longer than what came in: it says more and counts as full. Else prove '..UptoSaid'. A law counts once. -/
mutual
def uptoBulk {H : Type} : DataW H → Nat
  | .lit (.string bytes) => bytes.length + 1
  | .lit _ => 1
  | .nil => 1
  | .ptr d => uptoBulk d + 1
  | .slice elems spare => uptoBulkAll elems + uptoBulkAll spare + 1
  | .agg parts => uptoBulkAll parts + 1
  | .iface _ d => uptoBulk d + 1
  | .map entries => uptoBulkEntries entries + 1
  | .held _ => 1
def uptoBulkAll {H : Type} : List (DataW H) → Nat
  | [] => 0
  | d :: r => uptoBulk d + uptoBulkAll r
def uptoBulkEntries {H : Type} : List (Lit × DataW H) → Nat
  | [] => 0
  | x :: r => uptoBulkEntry x + uptoBulkEntries r
def uptoBulkEntry {H : Type} : Lit × DataW H → Nat
  | (.string bytes, d) => bytes.length + uptoBulk d + 1
  | (_, d) => uptoBulk d + 1
 end
def uptoSmall : (H : Type) → List (DataW H) → Bool := fun _ ds => decide (uptoBulkAll ds ≤ 1048576)
def OpenSpec.upto (s : _root_.Go.ChangeSpec) : _root_.Go.OpenSpec := { _root_.Go.OpenSpec.ofChange s with cond := some uptoSmall }

/-- 'estoppellaw07.ParserMatchesReference', WHERE WHAT IT READS IS OF BULK AT MOST 1048576: true; the input reads as it did. -/
def parserMatchesReferenceUptoRow : OpenClaim := { program := "ytfaflipphkoiiaadoor", sum := "6a4d0fc97bd811f2ec686aba2e7bbae40e44662bb97907895376d1b592cba5dc", func := "estoppel/estoppellaw07.ParserMatchesReference", spec := "parserMatchesReference", inPlace := ["internal/bytealg.IndexByteString"], unfollowed := true, recurses := true, named := ["estoppel/parser.weekdays"], apart := false, laid := [("estoppel/parser.weekdays", laid_estoppel_parser_weekdays)], narrowed := true }
def ParserMatchesReferenceUptoSaid : Prop := parserMatchesReferenceUptoRow.holds Tryd.pinned (OpenSpec.upto parserMatchesReferenceSpec)

/-- 'estoppellaw07.ParserTokens', WHERE WHAT IT READS IS OF BULK AT MOST 1048576: true; the input reads as it did. -/
def parserTokensUptoRow : OpenClaim := { program := "ytfaflipphkoiiaadoor", sum := "6a4d0fc97bd811f2ec686aba2e7bbae40e44662bb97907895376d1b592cba5dc", func := "estoppel/estoppellaw07.ParserTokens", spec := "parserTokens", inPlace := ["internal/bytealg.IndexByteString"], unfollowed := true, recurses := true, named := ["estoppel/parser.weekdays"], apart := false, laid := [("estoppel/parser.weekdays", laid_estoppel_parser_weekdays)], narrowed := true }
def ParserTokensUptoSaid : Prop := parserTokensUptoRow.holds Tryd.pinned (OpenSpec.upto parserTokensSpec)

/-- 'estoppellaw07.ParserJoins', WHERE WHAT IT READS IS OF BULK AT MOST 1048576: true; the input reads as it did. -/
def parserJoinsUptoRow : OpenClaim := { program := "ytfaflipphkoiiaadoor", sum := "6a4d0fc97bd811f2ec686aba2e7bbae40e44662bb97907895376d1b592cba5dc", func := "estoppel/estoppellaw07.ParserJoins", spec := "parserJoins", inPlace := ["internal/bytealg.IndexByteString"], unfollowed := true, recurses := true, named := ["estoppel/parser.weekdays"], apart := false, laid := [("estoppel/parser.weekdays", laid_estoppel_parser_weekdays)], narrowed := true }
def ParserJoinsUptoSaid : Prop := parserJoinsUptoRow.holds Tryd.pinned (OpenSpec.upto parserJoinsSpec)

/-- 'estoppellaw07.ParserFirstError', WHERE WHAT IT READS IS OF BULK AT MOST 1048576: true; the input reads as it did. -/
def parserFirstErrorUptoRow : OpenClaim := { program := "ytfaflipphkoiiaadoor", sum := "6a4d0fc97bd811f2ec686aba2e7bbae40e44662bb97907895376d1b592cba5dc", func := "estoppel/estoppellaw07.ParserFirstError", spec := "parserFirstError", inPlace := ["internal/bytealg.IndexByteString"], unfollowed := true, recurses := true, named := ["estoppel/parser.weekdays"], apart := false, laid := [("estoppel/parser.weekdays", laid_estoppel_parser_weekdays)], narrowed := true }
def ParserFirstErrorUptoSaid : Prop := parserFirstErrorUptoRow.holds Tryd.pinned (OpenSpec.upto parserFirstErrorSpec)

/-- 'estoppellaw07.ParserNames', WHERE WHAT IT READS IS OF BULK AT MOST 1048576: true; the input reads as it did. -/
def parserNamesUptoRow : OpenClaim := { program := "ytfaflipphkoiiaadoor", sum := "6a4d0fc97bd811f2ec686aba2e7bbae40e44662bb97907895376d1b592cba5dc", func := "estoppel/estoppellaw07.ParserNames", spec := "parserNames", inPlace := ["internal/bytealg.IndexByteString"], unfollowed := true, recurses := true, named := ["estoppel/parser.weekdays"], apart := false, laid := [("estoppel/parser.weekdays", laid_estoppel_parser_weekdays)], narrowed := true }
def ParserNamesUptoSaid : Prop := parserNamesUptoRow.holds Tryd.pinned (OpenSpec.upto parserNamesSpec)

/-- 'estoppellaw07.ParserOffsets', WHERE WHAT IT READS IS OF BULK AT MOST 1048576: true; the input reads as it did. -/
def parserOffsetsUptoRow : OpenClaim := { program := "ytfaflipphkoiiaadoor", sum := "6a4d0fc97bd811f2ec686aba2e7bbae40e44662bb97907895376d1b592cba5dc", func := "estoppel/estoppellaw07.ParserOffsets", spec := "parserOffsets", inPlace := ["internal/bytealg.IndexByteString"], unfollowed := true, recurses := true, named := ["estoppel/parser.weekdays"], apart := false, laid := [("estoppel/parser.weekdays", laid_estoppel_parser_weekdays)], narrowed := true }
def ParserOffsetsUptoSaid : Prop := parserOffsetsUptoRow.holds Tryd.pinned (OpenSpec.upto parserOffsetsSpec)

/-- 'estoppellaw07.ParserBeginnings', WHERE WHAT IT READS IS OF BULK AT MOST 1048576: true; the input reads as it did. -/
def parserBeginningsUptoRow : OpenClaim := { program := "ytfaflipphkoiiaadoor", sum := "6a4d0fc97bd811f2ec686aba2e7bbae40e44662bb97907895376d1b592cba5dc", func := "estoppel/estoppellaw07.ParserBeginnings", spec := "parserBeginnings", inPlace := ["internal/bytealg.IndexByteString"], unfollowed := true, recurses := true, named := ["estoppel/parser.weekdays"], apart := false, laid := [("estoppel/parser.weekdays", laid_estoppel_parser_weekdays)], narrowed := true }
def ParserBeginningsUptoSaid : Prop := parserBeginningsUptoRow.holds Tryd.pinned (OpenSpec.upto parserBeginningsSpec)

end Rows
end Go.Proofs.YtfaflipphkoiiaaDoor
