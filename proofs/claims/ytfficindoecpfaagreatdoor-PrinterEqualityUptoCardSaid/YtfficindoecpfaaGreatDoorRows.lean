/-
  NARROWER THAN 'FOR EVERY INPUT', by the rows' own cells (each row's printed sentence says how): PrinterMatchesReference: loops, laid · PrinterInverse: loops, laid · PrinterCanonical: laid · PrinterEquality: loops, laid · PrinterLines: loops, laid · PrinterGaps: loops, laid.
  DERIVED. THE GIVEN ROWS OF THIS SEAT. 6 by the template 'for every input the law returns true; each argument reads behind the call as it read before'; 0 by the template 'total and deterministic' (their statements: YtfficindoecpfaaGreatDoorTotals.lean).
  GIVEN WITH THE SEED: the statements are not yours to turn. If you find one false, say at which input.
  Laid BY PROGRAM, IN A SANDBOX (cutbox-rows.mjs): the forced cells as the released guide's own fill.sh prints them over the translation cb8958489b3e59bc… (all of the seat's roots in one cut). By AI agents, Wed Nov 11 2026. No macro, syntax, notation, axiom, sorry.
-/
import Derived.Test.YtfficindoecpfaaGreatDoorChecked
import GoSem.Claim
import GoSem.ClaimJoined
import GoSem.ClaimMapViews
import Derived.JoinedTies
import Derived.KernelRfl
namespace Go.Proofs.YtfficindoecpfaaGreatDoor
/- THE CELL 'sum', in the pinned program and in every row, IS THE sha256 OF THE DUMP (.gsa) THAT YtfficindoecpfaaGreatDoorProg.lean LOADS. Nothing in Lean hashes anything: it is a label: what it is worth is what the hold of that sum in a sandbox is worth. -/
noncomputable def Tryz.pinned : Pinned := { name := "ytfficindoecpfaagreatdoor", sum := "cb8958489b3e59bcaf3bacdd00913878d32c0de009019fe255aa533c9c5e83a2", checked := Tryz.checked }
namespace Rows
def none {H : Type} : Left H := { results := [], args := [] }

/- WHAT THE LISTED PACKAGE-LEVEL VARIABLES READ AS WHEN THE CALL BEGINS. Each datum BY PROGRAM (the guide's laid-datum.mjs) off the statement by which the dump's own 'gosem.cut.vars' lays the variable. In a bare row this is a premise. The card (YtfficindoecpfaaGreatDoorCards.lean) ties it to the program's text. -/
def laid_math_bits_deBruijn32tab {H : Type} : DataW H := .agg [.lit (.int .u8 0), .lit (.int .u8 1), .lit (.int .u8 28), .lit (.int .u8 2), .lit (.int .u8 29), .lit (.int .u8 14), .lit (.int .u8 24), .lit (.int .u8 3), .lit (.int .u8 30), .lit (.int .u8 22), .lit (.int .u8 20), .lit (.int .u8 15), .lit (.int .u8 25), .lit (.int .u8 17), .lit (.int .u8 4), .lit (.int .u8 8), .lit (.int .u8 31), .lit (.int .u8 27), .lit (.int .u8 13), .lit (.int .u8 23), .lit (.int .u8 21), .lit (.int .u8 19), .lit (.int .u8 16), .lit (.int .u8 7), .lit (.int .u8 26), .lit (.int .u8 12), .lit (.int .u8 18), .lit (.int .u8 6), .lit (.int .u8 11), .lit (.int .u8 5), .lit (.int .u8 10), .lit (.int .u8 9)]
def laid_math_bits_deBruijn64tab {H : Type} : DataW H := .agg [.lit (.int .u8 0), .lit (.int .u8 1), .lit (.int .u8 56), .lit (.int .u8 2), .lit (.int .u8 57), .lit (.int .u8 49), .lit (.int .u8 28), .lit (.int .u8 3), .lit (.int .u8 61), .lit (.int .u8 58), .lit (.int .u8 42), .lit (.int .u8 50), .lit (.int .u8 38), .lit (.int .u8 29), .lit (.int .u8 17), .lit (.int .u8 4), .lit (.int .u8 62), .lit (.int .u8 47), .lit (.int .u8 59), .lit (.int .u8 36), .lit (.int .u8 45), .lit (.int .u8 43), .lit (.int .u8 51), .lit (.int .u8 22), .lit (.int .u8 53), .lit (.int .u8 39), .lit (.int .u8 33), .lit (.int .u8 30), .lit (.int .u8 24), .lit (.int .u8 18), .lit (.int .u8 12), .lit (.int .u8 5), .lit (.int .u8 63), .lit (.int .u8 55), .lit (.int .u8 48), .lit (.int .u8 27), .lit (.int .u8 60), .lit (.int .u8 41), .lit (.int .u8 37), .lit (.int .u8 16), .lit (.int .u8 46), .lit (.int .u8 35), .lit (.int .u8 44), .lit (.int .u8 21), .lit (.int .u8 52), .lit (.int .u8 32), .lit (.int .u8 23), .lit (.int .u8 11), .lit (.int .u8 54), .lit (.int .u8 26), .lit (.int .u8 40), .lit (.int .u8 15), .lit (.int .u8 34), .lit (.int .u8 20), .lit (.int .u8 31), .lit (.int .u8 10), .lit (.int .u8 25), .lit (.int .u8 14), .lit (.int .u8 19), .lit (.int .u8 9), .lit (.int .u8 13), .lit (.int .u8 8), .lit (.int .u8 7), .lit (.int .u8 6)]
def laid_internal_strconv_uint64pow10 {H : Type} : DataW H := .agg [.lit (.int .u64 1), .lit (.int .u64 10), .lit (.int .u64 100), .lit (.int .u64 1000), .lit (.int .u64 10000), .lit (.int .u64 100000), .lit (.int .u64 1000000), .lit (.int .u64 10000000), .lit (.int .u64 100000000), .lit (.int .u64 1000000000), .lit (.int .u64 10000000000), .lit (.int .u64 100000000000), .lit (.int .u64 1000000000000), .lit (.int .u64 10000000000000), .lit (.int .u64 100000000000000), .lit (.int .u64 1000000000000000), .lit (.int .u64 10000000000000000), .lit (.int .u64 100000000000000000), .lit (.int .u64 1000000000000000000), .lit (.int .u64 10000000000000000000)]
def laid_estoppel_parser_weekdays {H : Type} : DataW H := .agg [.lit (.string [109, 111, 110]), .lit (.string [116, 117, 101]), .lit (.string [119, 101, 100]), .lit (.string [116, 104, 117]), .lit (.string [102, 114, 105]), .lit (.string [115, 97, 116]), .lit (.string [115, 117, 110])]
def laid_estoppel_printer_weekdays {H : Type} : DataW H := .agg [.lit (.string [109, 111, 110]), .lit (.string [116, 117, 101]), .lit (.string [119, 101, 100]), .lit (.string [116, 104, 117]), .lit (.string [102, 114, 105]), .lit (.string [115, 97, 116]), .lit (.string [115, 117, 110])]
def laid_estoppel_printer_statuses {H : Type} : DataW H := .agg [.lit (.string [115, 116, 97, 114, 116, 101, 100]), .lit (.string [100, 111, 110, 101]), .lit (.string [102, 97, 105, 108, 101, 100]), .lit (.string [118, 111, 105, 100])]

/-- 'estoppellaw08.PrinterMatchesReference': WHATEVER THE INPUT: true; the input reads as it did. -/
def printerMatchesReferenceSpec : ChangeSpec := { name := "printerMatchesReference", fn := fun _ => fun
  | [d] => { results := [.lit (.bool true)], args := [d] }
  | _ => none }
def printerMatchesReferenceRow : OpenClaim := { program := "ytfficindoecpfaagreatdoor", sum := "cb8958489b3e59bcaf3bacdd00913878d32c0de009019fe255aa533c9c5e83a2", func := "estoppel/estoppellaw08.PrinterMatchesReference", spec := "printerMatchesReference", inPlace := ["internal/bytealg.IndexByteString", "internal/bytealg.IndexString", "internal/abi.NoEscape"], unfollowed := true, recurses := true, named := ["estoppel/parser.weekdays", "internal/bytealg.MaxLen", "internal/strconv.uint64pow10", "math/bits.deBruijn32tab", "math/bits.deBruijn64tab", "estoppel/printer.statuses", "estoppel/printer.weekdays"], loops := true, apart := false, laid := [("math/bits.deBruijn32tab", laid_math_bits_deBruijn32tab), ("math/bits.deBruijn64tab", laid_math_bits_deBruijn64tab), ("internal/strconv.uint64pow10", laid_internal_strconv_uint64pow10), ("estoppel/parser.weekdays", laid_estoppel_parser_weekdays), ("estoppel/printer.weekdays", laid_estoppel_printer_weekdays), ("estoppel/printer.statuses", laid_estoppel_printer_statuses)] }
def PrinterMatchesReferenceSaid : Prop := printerMatchesReferenceRow.holds Tryz.pinned (OpenSpec.ofChange printerMatchesReferenceSpec)

/-- ITS FALSE NEIGHBOUR: 'it returns false'. Refute it at one input. -/
def printerMatchesReferenceWrong : ChangeSpec := { name := "printerMatchesReference", fn := fun _ => fun
  | [d] => { results := [.lit (.bool false)], args := [d] }
  | _ => none }
def PrinterMatchesReferenceWrongFalsely : Prop := printerMatchesReferenceRow.holds Tryz.pinned (OpenSpec.ofChange printerMatchesReferenceWrong)

/-- 'estoppellaw08.PrinterInverse': WHATEVER THE INPUT: true; the input reads as it did. -/
def printerInverseSpec : ChangeSpec := { name := "printerInverse", fn := fun _ => fun
  | [d] => { results := [.lit (.bool true)], args := [d] }
  | _ => none }
def printerInverseRow : OpenClaim := { program := "ytfficindoecpfaagreatdoor", sum := "cb8958489b3e59bcaf3bacdd00913878d32c0de009019fe255aa533c9c5e83a2", func := "estoppel/estoppellaw08.PrinterInverse", spec := "printerInverse", inPlace := ["internal/bytealg.IndexByteString", "internal/bytealg.IndexString", "internal/abi.NoEscape"], unfollowed := true, recurses := true, named := ["estoppel/parser.weekdays", "internal/bytealg.MaxLen", "internal/strconv.uint64pow10", "math/bits.deBruijn32tab", "math/bits.deBruijn64tab", "estoppel/printer.statuses", "estoppel/printer.weekdays"], loops := true, apart := false, laid := [("math/bits.deBruijn32tab", laid_math_bits_deBruijn32tab), ("math/bits.deBruijn64tab", laid_math_bits_deBruijn64tab), ("internal/strconv.uint64pow10", laid_internal_strconv_uint64pow10), ("estoppel/parser.weekdays", laid_estoppel_parser_weekdays), ("estoppel/printer.weekdays", laid_estoppel_printer_weekdays), ("estoppel/printer.statuses", laid_estoppel_printer_statuses)] }
def PrinterInverseSaid : Prop := printerInverseRow.holds Tryz.pinned (OpenSpec.ofChange printerInverseSpec)

/-- ITS FALSE NEIGHBOUR: 'it returns false'. Refute it at one input. -/
def printerInverseWrong : ChangeSpec := { name := "printerInverse", fn := fun _ => fun
  | [d] => { results := [.lit (.bool false)], args := [d] }
  | _ => none }
def PrinterInverseWrongFalsely : Prop := printerInverseRow.holds Tryz.pinned (OpenSpec.ofChange printerInverseWrong)

/-- 'estoppellaw08.PrinterCanonical': WHATEVER THE INPUT: true; the input reads as it did. -/
def printerCanonicalSpec : ChangeSpec := { name := "printerCanonical", fn := fun _ => fun
  | [d] => { results := [.lit (.bool true)], args := [d] }
  | _ => none }
def printerCanonicalRow : OpenClaim := { program := "ytfficindoecpfaagreatdoor", sum := "cb8958489b3e59bcaf3bacdd00913878d32c0de009019fe255aa533c9c5e83a2", func := "estoppel/estoppellaw08.PrinterCanonical", spec := "printerCanonical", inPlace := ["internal/bytealg.IndexByteString", "internal/bytealg.IndexString", "internal/abi.NoEscape"], unfollowed := true, recurses := true, named := ["estoppel/parser.weekdays", "internal/bytealg.MaxLen", "internal/strconv.uint64pow10", "math/bits.deBruijn32tab", "math/bits.deBruijn64tab", "estoppel/printer.statuses", "estoppel/printer.weekdays"], apart := false, laid := [("math/bits.deBruijn32tab", laid_math_bits_deBruijn32tab), ("math/bits.deBruijn64tab", laid_math_bits_deBruijn64tab), ("internal/strconv.uint64pow10", laid_internal_strconv_uint64pow10), ("estoppel/parser.weekdays", laid_estoppel_parser_weekdays), ("estoppel/printer.weekdays", laid_estoppel_printer_weekdays), ("estoppel/printer.statuses", laid_estoppel_printer_statuses)] }
def PrinterCanonicalSaid : Prop := printerCanonicalRow.holds Tryz.pinned (OpenSpec.ofChange printerCanonicalSpec)

/-- ITS FALSE NEIGHBOUR: 'it returns false'. Refute it at one input. -/
def printerCanonicalWrong : ChangeSpec := { name := "printerCanonical", fn := fun _ => fun
  | [d] => { results := [.lit (.bool false)], args := [d] }
  | _ => none }
def PrinterCanonicalWrongFalsely : Prop := printerCanonicalRow.holds Tryz.pinned (OpenSpec.ofChange printerCanonicalWrong)

/-- 'estoppellaw08.PrinterEquality': WHATEVER THE INPUT: true; the input reads as it did. -/
def printerEqualitySpec : ChangeSpec := { name := "printerEquality", fn := fun _ => fun
  | [d1, d2, d3] => { results := [.lit (.bool true)], args := [d1, d2, d3] }
  | _ => none }
def printerEqualityRow : OpenClaim := { program := "ytfficindoecpfaagreatdoor", sum := "cb8958489b3e59bcaf3bacdd00913878d32c0de009019fe255aa533c9c5e83a2", func := "estoppel/estoppellaw08.PrinterEquality", spec := "printerEquality", inPlace := ["internal/bytealg.IndexByteString", "internal/bytealg.IndexString", "internal/abi.NoEscape"], unfollowed := true, recurses := true, named := ["estoppel/parser.weekdays", "internal/bytealg.MaxLen", "internal/strconv.uint64pow10", "math/bits.deBruijn32tab", "math/bits.deBruijn64tab", "estoppel/printer.statuses", "estoppel/printer.weekdays"], loops := true, apart := false, laid := [("math/bits.deBruijn32tab", laid_math_bits_deBruijn32tab), ("math/bits.deBruijn64tab", laid_math_bits_deBruijn64tab), ("internal/strconv.uint64pow10", laid_internal_strconv_uint64pow10), ("estoppel/parser.weekdays", laid_estoppel_parser_weekdays), ("estoppel/printer.weekdays", laid_estoppel_printer_weekdays), ("estoppel/printer.statuses", laid_estoppel_printer_statuses)] }
def PrinterEqualitySaid : Prop := printerEqualityRow.holds Tryz.pinned (OpenSpec.ofChange printerEqualitySpec)

/-- ITS FALSE NEIGHBOUR: 'it returns false'. Refute it at one input. -/
def printerEqualityWrong : ChangeSpec := { name := "printerEquality", fn := fun _ => fun
  | [d1, d2, d3] => { results := [.lit (.bool false)], args := [d1, d2, d3] }
  | _ => none }
def PrinterEqualityWrongFalsely : Prop := printerEqualityRow.holds Tryz.pinned (OpenSpec.ofChange printerEqualityWrong)

/-- 'estoppellaw08.PrinterLines': WHATEVER THE INPUT: true; the input reads as it did. -/
def printerLinesSpec : ChangeSpec := { name := "printerLines", fn := fun _ => fun
  | [d1, d2] => { results := [.lit (.bool true)], args := [d1, d2] }
  | _ => none }
def printerLinesRow : OpenClaim := { program := "ytfficindoecpfaagreatdoor", sum := "cb8958489b3e59bcaf3bacdd00913878d32c0de009019fe255aa533c9c5e83a2", func := "estoppel/estoppellaw08.PrinterLines", spec := "printerLines", inPlace := ["internal/bytealg.IndexByteString", "internal/bytealg.IndexString", "internal/abi.NoEscape"], unfollowed := true, recurses := true, named := ["estoppel/parser.weekdays", "internal/bytealg.MaxLen", "internal/strconv.uint64pow10", "math/bits.deBruijn32tab", "math/bits.deBruijn64tab", "estoppel/printer.statuses", "estoppel/printer.weekdays"], loops := true, apart := false, laid := [("math/bits.deBruijn32tab", laid_math_bits_deBruijn32tab), ("math/bits.deBruijn64tab", laid_math_bits_deBruijn64tab), ("internal/strconv.uint64pow10", laid_internal_strconv_uint64pow10), ("estoppel/parser.weekdays", laid_estoppel_parser_weekdays), ("estoppel/printer.weekdays", laid_estoppel_printer_weekdays), ("estoppel/printer.statuses", laid_estoppel_printer_statuses)] }
def PrinterLinesSaid : Prop := printerLinesRow.holds Tryz.pinned (OpenSpec.ofChange printerLinesSpec)

/-- ITS FALSE NEIGHBOUR: 'it returns false'. Refute it at one input. -/
def printerLinesWrong : ChangeSpec := { name := "printerLines", fn := fun _ => fun
  | [d1, d2] => { results := [.lit (.bool false)], args := [d1, d2] }
  | _ => none }
def PrinterLinesWrongFalsely : Prop := printerLinesRow.holds Tryz.pinned (OpenSpec.ofChange printerLinesWrong)

/-- 'estoppellaw08.PrinterGaps': WHATEVER THE INPUT: true; the input reads as it did. -/
def printerGapsSpec : ChangeSpec := { name := "printerGaps", fn := fun _ => fun
  | [d] => { results := [.lit (.bool true)], args := [d] }
  | _ => none }
def printerGapsRow : OpenClaim := { program := "ytfficindoecpfaagreatdoor", sum := "cb8958489b3e59bcaf3bacdd00913878d32c0de009019fe255aa533c9c5e83a2", func := "estoppel/estoppellaw08.PrinterGaps", spec := "printerGaps", inPlace := ["internal/bytealg.IndexByteString", "internal/bytealg.IndexString", "internal/abi.NoEscape"], unfollowed := true, recurses := true, named := ["estoppel/parser.weekdays", "internal/bytealg.MaxLen", "internal/strconv.uint64pow10", "math/bits.deBruijn32tab", "math/bits.deBruijn64tab", "estoppel/printer.statuses", "estoppel/printer.weekdays"], loops := true, apart := false, laid := [("math/bits.deBruijn32tab", laid_math_bits_deBruijn32tab), ("math/bits.deBruijn64tab", laid_math_bits_deBruijn64tab), ("internal/strconv.uint64pow10", laid_internal_strconv_uint64pow10), ("estoppel/parser.weekdays", laid_estoppel_parser_weekdays), ("estoppel/printer.weekdays", laid_estoppel_printer_weekdays), ("estoppel/printer.statuses", laid_estoppel_printer_statuses)] }
def PrinterGapsSaid : Prop := printerGapsRow.holds Tryz.pinned (OpenSpec.ofChange printerGapsSpec)

/-- ITS FALSE NEIGHBOUR: 'it returns false'. Refute it at one input. -/
def printerGapsWrong : ChangeSpec := { name := "printerGaps", fn := fun _ => fun
  | [d] => { results := [.lit (.bool false)], args := [d] }
  | _ => none }
def PrinterGapsWrongFalsely : Prop := printerGapsRow.holds Tryz.pinned (OpenSpec.ofChange printerGapsWrong)

/- THE SECOND FORM. 'bulk': how many values and letters a reading holds, each counted each time it is reached (what is shared counts as often as it is met; a slice's spare places count too). A statement '..UptoSaid' is the law's where the arguments, and the package variables that the reading takes, are together of bulk at most 1048576: NARROWER than '..Said'. Prove '..Said' where nothing that the law and all that it calls make is longer than what came in: it says more and counts as full. Else prove '..UptoSaid'. A law counts once. -/
mutual
def uptoBulk {H : Type} : DataW H → Nat
  | .lit (.string bytes) => bytes.length + 1
  | .lit _ => 1
  | .nil => 1
  | .ptr d => uptoBulk d + 1
  | .slice elems spare => uptoBulkAll elems + uptoBulkAll spare + 1
  | .agg parts => uptoBulkAll parts + 1
  | .iface _ d => uptoBulk d + 1
  | .map entries => uptoBulkEntries entries + 1
  | .held _ => 1
def uptoBulkAll {H : Type} : List (DataW H) → Nat
  | [] => 0
  | d :: r => uptoBulk d + uptoBulkAll r
def uptoBulkEntries {H : Type} : List (Lit × DataW H) → Nat
  | [] => 0
  | x :: r => uptoBulkEntry x + uptoBulkEntries r
def uptoBulkEntry {H : Type} : Lit × DataW H → Nat
  | (.string bytes, d) => bytes.length + uptoBulk d + 1
  | (_, d) => uptoBulk d + 1
 end
def uptoSmall : (H : Type) → List (DataW H) → Bool := fun _ ds => decide (uptoBulkAll ds ≤ 1048576)
def OpenSpec.upto (s : _root_.Go.ChangeSpec) : _root_.Go.OpenSpec := { _root_.Go.OpenSpec.ofChange s with cond := some uptoSmall }

/-- 'estoppellaw08.PrinterMatchesReference', WHERE WHAT IT READS IS OF BULK AT MOST 1048576: true; the input reads as it did. -/
def printerMatchesReferenceUptoRow : OpenClaim := { program := "ytfficindoecpfaagreatdoor", sum := "cb8958489b3e59bcaf3bacdd00913878d32c0de009019fe255aa533c9c5e83a2", func := "estoppel/estoppellaw08.PrinterMatchesReference", spec := "printerMatchesReference", inPlace := ["internal/bytealg.IndexByteString", "internal/bytealg.IndexString", "internal/abi.NoEscape"], unfollowed := true, recurses := true, named := ["estoppel/parser.weekdays", "internal/bytealg.MaxLen", "internal/strconv.uint64pow10", "math/bits.deBruijn32tab", "math/bits.deBruijn64tab", "estoppel/printer.statuses", "estoppel/printer.weekdays"], loops := true, apart := false, laid := [("math/bits.deBruijn32tab", laid_math_bits_deBruijn32tab), ("math/bits.deBruijn64tab", laid_math_bits_deBruijn64tab), ("internal/strconv.uint64pow10", laid_internal_strconv_uint64pow10), ("estoppel/parser.weekdays", laid_estoppel_parser_weekdays), ("estoppel/printer.weekdays", laid_estoppel_printer_weekdays), ("estoppel/printer.statuses", laid_estoppel_printer_statuses)], narrowed := true }
def PrinterMatchesReferenceUptoSaid : Prop := printerMatchesReferenceUptoRow.holds Tryz.pinned (OpenSpec.upto printerMatchesReferenceSpec)

/-- 'estoppellaw08.PrinterInverse', WHERE WHAT IT READS IS OF BULK AT MOST 1048576: true; the input reads as it did. -/
def printerInverseUptoRow : OpenClaim := { program := "ytfficindoecpfaagreatdoor", sum := "cb8958489b3e59bcaf3bacdd00913878d32c0de009019fe255aa533c9c5e83a2", func := "estoppel/estoppellaw08.PrinterInverse", spec := "printerInverse", inPlace := ["internal/bytealg.IndexByteString", "internal/bytealg.IndexString", "internal/abi.NoEscape"], unfollowed := true, recurses := true, named := ["estoppel/parser.weekdays", "internal/bytealg.MaxLen", "internal/strconv.uint64pow10", "math/bits.deBruijn32tab", "math/bits.deBruijn64tab", "estoppel/printer.statuses", "estoppel/printer.weekdays"], loops := true, apart := false, laid := [("math/bits.deBruijn32tab", laid_math_bits_deBruijn32tab), ("math/bits.deBruijn64tab", laid_math_bits_deBruijn64tab), ("internal/strconv.uint64pow10", laid_internal_strconv_uint64pow10), ("estoppel/parser.weekdays", laid_estoppel_parser_weekdays), ("estoppel/printer.weekdays", laid_estoppel_printer_weekdays), ("estoppel/printer.statuses", laid_estoppel_printer_statuses)], narrowed := true }
def PrinterInverseUptoSaid : Prop := printerInverseUptoRow.holds Tryz.pinned (OpenSpec.upto printerInverseSpec)

/-- 'estoppellaw08.PrinterCanonical', WHERE WHAT IT READS IS OF BULK AT MOST 1048576: true; the input reads as it did. -/
def printerCanonicalUptoRow : OpenClaim := { program := "ytfficindoecpfaagreatdoor", sum := "cb8958489b3e59bcaf3bacdd00913878d32c0de009019fe255aa533c9c5e83a2", func := "estoppel/estoppellaw08.PrinterCanonical", spec := "printerCanonical", inPlace := ["internal/bytealg.IndexByteString", "internal/bytealg.IndexString", "internal/abi.NoEscape"], unfollowed := true, recurses := true, named := ["estoppel/parser.weekdays", "internal/bytealg.MaxLen", "internal/strconv.uint64pow10", "math/bits.deBruijn32tab", "math/bits.deBruijn64tab", "estoppel/printer.statuses", "estoppel/printer.weekdays"], apart := false, laid := [("math/bits.deBruijn32tab", laid_math_bits_deBruijn32tab), ("math/bits.deBruijn64tab", laid_math_bits_deBruijn64tab), ("internal/strconv.uint64pow10", laid_internal_strconv_uint64pow10), ("estoppel/parser.weekdays", laid_estoppel_parser_weekdays), ("estoppel/printer.weekdays", laid_estoppel_printer_weekdays), ("estoppel/printer.statuses", laid_estoppel_printer_statuses)], narrowed := true }
def PrinterCanonicalUptoSaid : Prop := printerCanonicalUptoRow.holds Tryz.pinned (OpenSpec.upto printerCanonicalSpec)

/-- 'estoppellaw08.PrinterEquality', WHERE WHAT IT READS IS OF BULK AT MOST 1048576: true; the input reads as it did. -/
def printerEqualityUptoRow : OpenClaim := { program := "ytfficindoecpfaagreatdoor", sum := "cb8958489b3e59bcaf3bacdd00913878d32c0de009019fe255aa533c9c5e83a2", func := "estoppel/estoppellaw08.PrinterEquality", spec := "printerEquality", inPlace := ["internal/bytealg.IndexByteString", "internal/bytealg.IndexString", "internal/abi.NoEscape"], unfollowed := true, recurses := true, named := ["estoppel/parser.weekdays", "internal/bytealg.MaxLen", "internal/strconv.uint64pow10", "math/bits.deBruijn32tab", "math/bits.deBruijn64tab", "estoppel/printer.statuses", "estoppel/printer.weekdays"], loops := true, apart := false, laid := [("math/bits.deBruijn32tab", laid_math_bits_deBruijn32tab), ("math/bits.deBruijn64tab", laid_math_bits_deBruijn64tab), ("internal/strconv.uint64pow10", laid_internal_strconv_uint64pow10), ("estoppel/parser.weekdays", laid_estoppel_parser_weekdays), ("estoppel/printer.weekdays", laid_estoppel_printer_weekdays), ("estoppel/printer.statuses", laid_estoppel_printer_statuses)], narrowed := true }
def PrinterEqualityUptoSaid : Prop := printerEqualityUptoRow.holds Tryz.pinned (OpenSpec.upto printerEqualitySpec)

/-- 'estoppellaw08.PrinterLines', WHERE WHAT IT READS IS OF BULK AT MOST 1048576: true; the input reads as it did. -/
def printerLinesUptoRow : OpenClaim := { program := "ytfficindoecpfaagreatdoor", sum := "cb8958489b3e59bcaf3bacdd00913878d32c0de009019fe255aa533c9c5e83a2", func := "estoppel/estoppellaw08.PrinterLines", spec := "printerLines", inPlace := ["internal/bytealg.IndexByteString", "internal/bytealg.IndexString", "internal/abi.NoEscape"], unfollowed := true, recurses := true, named := ["estoppel/parser.weekdays", "internal/bytealg.MaxLen", "internal/strconv.uint64pow10", "math/bits.deBruijn32tab", "math/bits.deBruijn64tab", "estoppel/printer.statuses", "estoppel/printer.weekdays"], loops := true, apart := false, laid := [("math/bits.deBruijn32tab", laid_math_bits_deBruijn32tab), ("math/bits.deBruijn64tab", laid_math_bits_deBruijn64tab), ("internal/strconv.uint64pow10", laid_internal_strconv_uint64pow10), ("estoppel/parser.weekdays", laid_estoppel_parser_weekdays), ("estoppel/printer.weekdays", laid_estoppel_printer_weekdays), ("estoppel/printer.statuses", laid_estoppel_printer_statuses)], narrowed := true }
def PrinterLinesUptoSaid : Prop := printerLinesUptoRow.holds Tryz.pinned (OpenSpec.upto printerLinesSpec)

/-- 'estoppellaw08.PrinterGaps', WHERE WHAT IT READS IS OF BULK AT MOST 1048576: true; the input reads as it did. -/
def printerGapsUptoRow : OpenClaim := { program := "ytfficindoecpfaagreatdoor", sum := "cb8958489b3e59bcaf3bacdd00913878d32c0de009019fe255aa533c9c5e83a2", func := "estoppel/estoppellaw08.PrinterGaps", spec := "printerGaps", inPlace := ["internal/bytealg.IndexByteString", "internal/bytealg.IndexString", "internal/abi.NoEscape"], unfollowed := true, recurses := true, named := ["estoppel/parser.weekdays", "internal/bytealg.MaxLen", "internal/strconv.uint64pow10", "math/bits.deBruijn32tab", "math/bits.deBruijn64tab", "estoppel/printer.statuses", "estoppel/printer.weekdays"], loops := true, apart := false, laid := [("math/bits.deBruijn32tab", laid_math_bits_deBruijn32tab), ("math/bits.deBruijn64tab", laid_math_bits_deBruijn64tab), ("internal/strconv.uint64pow10", laid_internal_strconv_uint64pow10), ("estoppel/parser.weekdays", laid_estoppel_parser_weekdays), ("estoppel/printer.weekdays", laid_estoppel_printer_weekdays), ("estoppel/printer.statuses", laid_estoppel_printer_statuses)], narrowed := true }
def PrinterGapsUptoSaid : Prop := printerGapsUptoRow.holds Tryz.pinned (OpenSpec.upto printerGapsSpec)

end Rows
end Go.Proofs.YtfficindoecpfaaGreatDoor
