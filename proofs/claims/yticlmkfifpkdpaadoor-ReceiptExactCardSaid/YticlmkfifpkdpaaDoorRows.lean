/-
  NARROWER THAN 'FOR EVERY INPUT', by the rows' own cells (each row's printed sentence says how): ReceiptBounds: loops, laid · ReceiptExact: loops, laid · ReceiptContradicts: loops, laid · ReceiptCutOff: laid · DeadlineMonotone: loops, laid · DeadlineBounds: loops, laid · DeadlineNeeds: loops, laid · DeadlineExtremes: loops, laid · DeadlineCuts: laid · DeadlineSums: loops, laid.
  DERIVED. THE GIVEN ROWS OF THIS SEAT. 10 by the template 'for every input the law returns true; each argument reads behind the call as it read before'; 0 by the template 'total and deterministic' (their statements: YticlmkfifpkdpaaDoorTotals.lean).
  GIVEN WITH THE SEED: the statements are not yours to turn. If you find one false, say at which input.
  Laid BY PROGRAM, IN A SANDBOX (cutbox-rows.mjs): the forced cells as the released guide's own fill.sh prints them over the translation 0c30d8fe32d2e1c6… (all of the seat's roots in one cut). By AI agents, Wed Nov 11 2026. No macro, syntax, notation, axiom, sorry.
-/
import Derived.Test.YticlmkfifpkdpaaDoorChecked
import GoSem.Claim
import GoSem.ClaimJoined
import GoSem.ClaimMapViews
import Derived.JoinedTies
import Derived.KernelRfl
namespace Go.Proofs.YticlmkfifpkdpaaDoor
/- THE CELL 'sum', in the pinned program and in every row, IS THE sha256 OF THE DUMP (.gsa) THAT YticlmkfifpkdpaaDoorProg.lean LOADS. Nothing in Lean hashes anything: it is a label: what it is worth is what the hold of that sum in a sandbox is worth. -/
noncomputable def Tryd.pinned : Pinned := { name := "yticlmkfifpkdpaadoor", sum := "0c30d8fe32d2e1c6706d6ebf1172818eaee0fd388bd14c4b12eafd7e2a7e74c1", checked := Tryd.checked }
namespace Rows
def none {H : Type} : Left H := { results := [], args := [] }

/- WHAT THE LISTED PACKAGE-LEVEL VARIABLES READ AS WHEN THE CALL BEGINS. Each datum BY PROGRAM (the guide's laid-datum.mjs) off the statement by which the dump's own 'gosem.cut.vars' lays the variable. In a bare row this is a premise. The card (YticlmkfifpkdpaaDoorCards.lean) ties it to the program's text. -/
def laid_estoppel_date_before {H : Type} : DataW H := .agg [.lit (.int .i64 0), .lit (.int .i64 31), .lit (.int .i64 59), .lit (.int .i64 90), .lit (.int .i64 120), .lit (.int .i64 151), .lit (.int .i64 181), .lit (.int .i64 212), .lit (.int .i64 243), .lit (.int .i64 273), .lit (.int .i64 304), .lit (.int .i64 334), .lit (.int .i64 365)]

/-- 'estoppellaw33.ReceiptBounds': WHATEVER THE INPUT: true; the input reads as it did. -/
def receiptBoundsSpec : ChangeSpec := { name := "receiptBounds", fn := fun _ => fun
  | [d1, d2, d3, d4] => { results := [.lit (.bool true)], args := [d1, d2, d3, d4] }
  | _ => none }
def receiptBoundsRow : OpenClaim := { program := "yticlmkfifpkdpaadoor", sum := "0c30d8fe32d2e1c6706d6ebf1172818eaee0fd388bd14c4b12eafd7e2a7e74c1", func := "estoppel/estoppellaw33.ReceiptBounds", spec := "receiptBounds", unfollowed := true, recurses := true, named := ["estoppel/date.before"], loops := true, apart := false, laid := [("estoppel/date.before", laid_estoppel_date_before)] }
def ReceiptBoundsSaid : Prop := receiptBoundsRow.holds Tryd.pinned (OpenSpec.ofChange receiptBoundsSpec)

/-- ITS FALSE NEIGHBOUR: 'it returns false'. Refute it at one input. -/
def receiptBoundsWrong : ChangeSpec := { name := "receiptBounds", fn := fun _ => fun
  | [d1, d2, d3, d4] => { results := [.lit (.bool false)], args := [d1, d2, d3, d4] }
  | _ => none }
def ReceiptBoundsWrongFalsely : Prop := receiptBoundsRow.holds Tryd.pinned (OpenSpec.ofChange receiptBoundsWrong)

/-- 'estoppellaw33.ReceiptExact': WHATEVER THE INPUT: true; the input reads as it did. -/
def receiptExactSpec : ChangeSpec := { name := "receiptExact", fn := fun _ => fun
  | [d1, d2] => { results := [.lit (.bool true)], args := [d1, d2] }
  | _ => none }
def receiptExactRow : OpenClaim := { program := "yticlmkfifpkdpaadoor", sum := "0c30d8fe32d2e1c6706d6ebf1172818eaee0fd388bd14c4b12eafd7e2a7e74c1", func := "estoppel/estoppellaw33.ReceiptExact", spec := "receiptExact", unfollowed := true, recurses := true, named := ["estoppel/date.before"], loops := true, apart := false, laid := [("estoppel/date.before", laid_estoppel_date_before)] }
def ReceiptExactSaid : Prop := receiptExactRow.holds Tryd.pinned (OpenSpec.ofChange receiptExactSpec)

/-- ITS FALSE NEIGHBOUR: 'it returns false'. Refute it at one input. -/
def receiptExactWrong : ChangeSpec := { name := "receiptExact", fn := fun _ => fun
  | [d1, d2] => { results := [.lit (.bool false)], args := [d1, d2] }
  | _ => none }
def ReceiptExactWrongFalsely : Prop := receiptExactRow.holds Tryd.pinned (OpenSpec.ofChange receiptExactWrong)

/-- 'estoppellaw33.ReceiptContradicts': WHATEVER THE INPUT: true; the input reads as it did. -/
def receiptContradictsSpec : ChangeSpec := { name := "receiptContradicts", fn := fun _ => fun
  | [d1, d2] => { results := [.lit (.bool true)], args := [d1, d2] }
  | _ => none }
def receiptContradictsRow : OpenClaim := { program := "yticlmkfifpkdpaadoor", sum := "0c30d8fe32d2e1c6706d6ebf1172818eaee0fd388bd14c4b12eafd7e2a7e74c1", func := "estoppel/estoppellaw33.ReceiptContradicts", spec := "receiptContradicts", unfollowed := true, recurses := true, named := ["estoppel/date.before"], loops := true, apart := false, laid := [("estoppel/date.before", laid_estoppel_date_before)] }
def ReceiptContradictsSaid : Prop := receiptContradictsRow.holds Tryd.pinned (OpenSpec.ofChange receiptContradictsSpec)

/-- ITS FALSE NEIGHBOUR: 'it returns false'. Refute it at one input. -/
def receiptContradictsWrong : ChangeSpec := { name := "receiptContradicts", fn := fun _ => fun
  | [d1, d2] => { results := [.lit (.bool false)], args := [d1, d2] }
  | _ => none }
def ReceiptContradictsWrongFalsely : Prop := receiptContradictsRow.holds Tryd.pinned (OpenSpec.ofChange receiptContradictsWrong)

/-- 'estoppellaw33.ReceiptCutOff': WHATEVER THE INPUT: true; the input reads as it did. -/
def receiptCutOffSpec : ChangeSpec := { name := "receiptCutOff", fn := fun _ => fun
  | [d1, d2, d3] => { results := [.lit (.bool true)], args := [d1, d2, d3] }
  | _ => none }
def receiptCutOffRow : OpenClaim := { program := "yticlmkfifpkdpaadoor", sum := "0c30d8fe32d2e1c6706d6ebf1172818eaee0fd388bd14c4b12eafd7e2a7e74c1", func := "estoppel/estoppellaw33.ReceiptCutOff", spec := "receiptCutOff", unfollowed := true, recurses := true, named := ["estoppel/date.before"], apart := false, laid := [("estoppel/date.before", laid_estoppel_date_before)] }
def ReceiptCutOffSaid : Prop := receiptCutOffRow.holds Tryd.pinned (OpenSpec.ofChange receiptCutOffSpec)

/-- ITS FALSE NEIGHBOUR: 'it returns false'. Refute it at one input. -/
def receiptCutOffWrong : ChangeSpec := { name := "receiptCutOff", fn := fun _ => fun
  | [d1, d2, d3] => { results := [.lit (.bool false)], args := [d1, d2, d3] }
  | _ => none }
def ReceiptCutOffWrongFalsely : Prop := receiptCutOffRow.holds Tryd.pinned (OpenSpec.ofChange receiptCutOffWrong)

/-- 'estoppellaw05.DeadlineMonotone': WHATEVER THE INPUT: true; the input reads as it did. -/
def deadlineMonotoneSpec : ChangeSpec := { name := "deadlineMonotone", fn := fun _ => fun
  | [d1, d2, d3, d4] => { results := [.lit (.bool true)], args := [d1, d2, d3, d4] }
  | _ => none }
def deadlineMonotoneRow : OpenClaim := { program := "yticlmkfifpkdpaadoor", sum := "0c30d8fe32d2e1c6706d6ebf1172818eaee0fd388bd14c4b12eafd7e2a7e74c1", func := "estoppel/estoppellaw05.DeadlineMonotone", spec := "deadlineMonotone", unfollowed := true, recurses := true, named := ["estoppel/date.before"], loops := true, apart := false, laid := [("estoppel/date.before", laid_estoppel_date_before)] }
def DeadlineMonotoneSaid : Prop := deadlineMonotoneRow.holds Tryd.pinned (OpenSpec.ofChange deadlineMonotoneSpec)

/-- ITS FALSE NEIGHBOUR: 'it returns false'. Refute it at one input. -/
def deadlineMonotoneWrong : ChangeSpec := { name := "deadlineMonotone", fn := fun _ => fun
  | [d1, d2, d3, d4] => { results := [.lit (.bool false)], args := [d1, d2, d3, d4] }
  | _ => none }
def DeadlineMonotoneWrongFalsely : Prop := deadlineMonotoneRow.holds Tryd.pinned (OpenSpec.ofChange deadlineMonotoneWrong)

/-- 'estoppellaw05.DeadlineBounds': WHATEVER THE INPUT: true; the input reads as it did. -/
def deadlineBoundsSpec : ChangeSpec := { name := "deadlineBounds", fn := fun _ => fun
  | [d1, d2, d3, d4, d5] => { results := [.lit (.bool true)], args := [d1, d2, d3, d4, d5] }
  | _ => none }
def deadlineBoundsRow : OpenClaim := { program := "yticlmkfifpkdpaadoor", sum := "0c30d8fe32d2e1c6706d6ebf1172818eaee0fd388bd14c4b12eafd7e2a7e74c1", func := "estoppel/estoppellaw05.DeadlineBounds", spec := "deadlineBounds", unfollowed := true, recurses := true, named := ["estoppel/date.before"], loops := true, apart := false, laid := [("estoppel/date.before", laid_estoppel_date_before)] }
def DeadlineBoundsSaid : Prop := deadlineBoundsRow.holds Tryd.pinned (OpenSpec.ofChange deadlineBoundsSpec)

/-- ITS FALSE NEIGHBOUR: 'it returns false'. Refute it at one input. -/
def deadlineBoundsWrong : ChangeSpec := { name := "deadlineBounds", fn := fun _ => fun
  | [d1, d2, d3, d4, d5] => { results := [.lit (.bool false)], args := [d1, d2, d3, d4, d5] }
  | _ => none }
def DeadlineBoundsWrongFalsely : Prop := deadlineBoundsRow.holds Tryd.pinned (OpenSpec.ofChange deadlineBoundsWrong)

/-- 'estoppellaw05.DeadlineNeeds': WHATEVER THE INPUT: true; the input reads as it did. -/
def deadlineNeedsSpec : ChangeSpec := { name := "deadlineNeeds", fn := fun _ => fun
  | [d1, d2, d3] => { results := [.lit (.bool true)], args := [d1, d2, d3] }
  | _ => none }
def deadlineNeedsRow : OpenClaim := { program := "yticlmkfifpkdpaadoor", sum := "0c30d8fe32d2e1c6706d6ebf1172818eaee0fd388bd14c4b12eafd7e2a7e74c1", func := "estoppel/estoppellaw05.DeadlineNeeds", spec := "deadlineNeeds", unfollowed := true, recurses := true, named := ["estoppel/date.before"], loops := true, apart := false, laid := [("estoppel/date.before", laid_estoppel_date_before)] }
def DeadlineNeedsSaid : Prop := deadlineNeedsRow.holds Tryd.pinned (OpenSpec.ofChange deadlineNeedsSpec)

/-- ITS FALSE NEIGHBOUR: 'it returns false'. Refute it at one input. -/
def deadlineNeedsWrong : ChangeSpec := { name := "deadlineNeeds", fn := fun _ => fun
  | [d1, d2, d3] => { results := [.lit (.bool false)], args := [d1, d2, d3] }
  | _ => none }
def DeadlineNeedsWrongFalsely : Prop := deadlineNeedsRow.holds Tryd.pinned (OpenSpec.ofChange deadlineNeedsWrong)

/-- 'estoppellaw05.DeadlineExtremes': WHATEVER THE INPUT: true; the input reads as it did. -/
def deadlineExtremesSpec : ChangeSpec := { name := "deadlineExtremes", fn := fun _ => fun
  | [d1, d2, d3] => { results := [.lit (.bool true)], args := [d1, d2, d3] }
  | _ => none }
def deadlineExtremesRow : OpenClaim := { program := "yticlmkfifpkdpaadoor", sum := "0c30d8fe32d2e1c6706d6ebf1172818eaee0fd388bd14c4b12eafd7e2a7e74c1", func := "estoppel/estoppellaw05.DeadlineExtremes", spec := "deadlineExtremes", unfollowed := true, recurses := true, named := ["estoppel/date.before"], loops := true, apart := false, laid := [("estoppel/date.before", laid_estoppel_date_before)] }
def DeadlineExtremesSaid : Prop := deadlineExtremesRow.holds Tryd.pinned (OpenSpec.ofChange deadlineExtremesSpec)

/-- ITS FALSE NEIGHBOUR: 'it returns false'. Refute it at one input. -/
def deadlineExtremesWrong : ChangeSpec := { name := "deadlineExtremes", fn := fun _ => fun
  | [d1, d2, d3] => { results := [.lit (.bool false)], args := [d1, d2, d3] }
  | _ => none }
def DeadlineExtremesWrongFalsely : Prop := deadlineExtremesRow.holds Tryd.pinned (OpenSpec.ofChange deadlineExtremesWrong)

/-- 'estoppellaw05.DeadlineCuts': WHATEVER THE INPUT: true; the input reads as it did. -/
def deadlineCutsSpec : ChangeSpec := { name := "deadlineCuts", fn := fun _ => fun
  | [d1, d2, d3, d4] => { results := [.lit (.bool true)], args := [d1, d2, d3, d4] }
  | _ => none }
def deadlineCutsRow : OpenClaim := { program := "yticlmkfifpkdpaadoor", sum := "0c30d8fe32d2e1c6706d6ebf1172818eaee0fd388bd14c4b12eafd7e2a7e74c1", func := "estoppel/estoppellaw05.DeadlineCuts", spec := "deadlineCuts", unfollowed := true, recurses := true, named := ["estoppel/date.before"], apart := false, laid := [("estoppel/date.before", laid_estoppel_date_before)] }
def DeadlineCutsSaid : Prop := deadlineCutsRow.holds Tryd.pinned (OpenSpec.ofChange deadlineCutsSpec)

/-- ITS FALSE NEIGHBOUR: 'it returns false'. Refute it at one input. -/
def deadlineCutsWrong : ChangeSpec := { name := "deadlineCuts", fn := fun _ => fun
  | [d1, d2, d3, d4] => { results := [.lit (.bool false)], args := [d1, d2, d3, d4] }
  | _ => none }
def DeadlineCutsWrongFalsely : Prop := deadlineCutsRow.holds Tryd.pinned (OpenSpec.ofChange deadlineCutsWrong)

/-- 'estoppellaw05.DeadlineSums': WHATEVER THE INPUT: true; the input reads as it did. -/
def deadlineSumsSpec : ChangeSpec := { name := "deadlineSums", fn := fun _ => fun
  | [d1, d2, d3, d4, d5] => { results := [.lit (.bool true)], args := [d1, d2, d3, d4, d5] }
  | _ => none }
def deadlineSumsRow : OpenClaim := { program := "yticlmkfifpkdpaadoor", sum := "0c30d8fe32d2e1c6706d6ebf1172818eaee0fd388bd14c4b12eafd7e2a7e74c1", func := "estoppel/estoppellaw05.DeadlineSums", spec := "deadlineSums", unfollowed := true, recurses := true, named := ["estoppel/date.before"], loops := true, apart := false, laid := [("estoppel/date.before", laid_estoppel_date_before)] }
def DeadlineSumsSaid : Prop := deadlineSumsRow.holds Tryd.pinned (OpenSpec.ofChange deadlineSumsSpec)

/-- ITS FALSE NEIGHBOUR: 'it returns false'. Refute it at one input. -/
def deadlineSumsWrong : ChangeSpec := { name := "deadlineSums", fn := fun _ => fun
  | [d1, d2, d3, d4, d5] => { results := [.lit (.bool false)], args := [d1, d2, d3, d4, d5] }
  | _ => none }
def DeadlineSumsWrongFalsely : Prop := deadlineSumsRow.holds Tryd.pinned (OpenSpec.ofChange deadlineSumsWrong)

/- THE SECOND FORM. 'bulk': how many values and letters a reading holds, each counted each time it is reached (what is shared counts as often as it is met; a slice's spare places count too). A statement '..UptoSaid' is the law's where the arguments, and the package variables that the reading takes, are together of bulk at most 1048576: NARROWER than '..Said'. Prove '..Said' where nothing that the law and all that it calls make is longer than what came in: it says more and counts as full. Else prove '..UptoSaid'. A law counts once. -/
mutual
def uptoBulk {H : Type} : DataW H → Nat
  | .lit (.string bytes) => bytes.length + 1
  | .lit _ => 1
  | .nil => 1
  | .ptr d => uptoBulk d + 1
  | .slice elems spare => uptoBulkAll elems + uptoBulkAll spare + 1
  | .agg parts => uptoBulkAll parts + 1
  | .iface _ d => uptoBulk d + 1
  | .map entries => uptoBulkEntries entries + 1
  | .held _ => 1
def uptoBulkAll {H : Type} : List (DataW H) → Nat
  | [] => 0
  | d :: r => uptoBulk d + uptoBulkAll r
def uptoBulkEntries {H : Type} : List (Lit × DataW H) → Nat
  | [] => 0
  | x :: r => uptoBulkEntry x + uptoBulkEntries r
def uptoBulkEntry {H : Type} : Lit × DataW H → Nat
  | (.string bytes, d) => bytes.length + uptoBulk d + 1
  | (_, d) => uptoBulk d + 1
 end
def uptoSmall : (H : Type) → List (DataW H) → Bool := fun _ ds => decide (uptoBulkAll ds ≤ 1048576)
def OpenSpec.upto (s : _root_.Go.ChangeSpec) : _root_.Go.OpenSpec := { _root_.Go.OpenSpec.ofChange s with cond := some uptoSmall }

/-- 'estoppellaw33.ReceiptBounds', WHERE WHAT IT READS IS OF BULK AT MOST 1048576: true; the input reads as it did. -/
def receiptBoundsUptoRow : OpenClaim := { program := "yticlmkfifpkdpaadoor", sum := "0c30d8fe32d2e1c6706d6ebf1172818eaee0fd388bd14c4b12eafd7e2a7e74c1", func := "estoppel/estoppellaw33.ReceiptBounds", spec := "receiptBounds", unfollowed := true, recurses := true, named := ["estoppel/date.before"], loops := true, apart := false, laid := [("estoppel/date.before", laid_estoppel_date_before)], narrowed := true }
def ReceiptBoundsUptoSaid : Prop := receiptBoundsUptoRow.holds Tryd.pinned (OpenSpec.upto receiptBoundsSpec)

/-- 'estoppellaw33.ReceiptExact', WHERE WHAT IT READS IS OF BULK AT MOST 1048576: true; the input reads as it did. -/
def receiptExactUptoRow : OpenClaim := { program := "yticlmkfifpkdpaadoor", sum := "0c30d8fe32d2e1c6706d6ebf1172818eaee0fd388bd14c4b12eafd7e2a7e74c1", func := "estoppel/estoppellaw33.ReceiptExact", spec := "receiptExact", unfollowed := true, recurses := true, named := ["estoppel/date.before"], loops := true, apart := false, laid := [("estoppel/date.before", laid_estoppel_date_before)], narrowed := true }
def ReceiptExactUptoSaid : Prop := receiptExactUptoRow.holds Tryd.pinned (OpenSpec.upto receiptExactSpec)

/-- 'estoppellaw33.ReceiptContradicts', WHERE WHAT IT READS IS OF BULK AT MOST 1048576: true; the input reads as it did. -/
def receiptContradictsUptoRow : OpenClaim := { program := "yticlmkfifpkdpaadoor", sum := "0c30d8fe32d2e1c6706d6ebf1172818eaee0fd388bd14c4b12eafd7e2a7e74c1", func := "estoppel/estoppellaw33.ReceiptContradicts", spec := "receiptContradicts", unfollowed := true, recurses := true, named := ["estoppel/date.before"], loops := true, apart := false, laid := [("estoppel/date.before", laid_estoppel_date_before)], narrowed := true }
def ReceiptContradictsUptoSaid : Prop := receiptContradictsUptoRow.holds Tryd.pinned (OpenSpec.upto receiptContradictsSpec)

/-- 'estoppellaw33.ReceiptCutOff', WHERE WHAT IT READS IS OF BULK AT MOST 1048576: true; the input reads as it did. -/
def receiptCutOffUptoRow : OpenClaim := { program := "yticlmkfifpkdpaadoor", sum := "0c30d8fe32d2e1c6706d6ebf1172818eaee0fd388bd14c4b12eafd7e2a7e74c1", func := "estoppel/estoppellaw33.ReceiptCutOff", spec := "receiptCutOff", unfollowed := true, recurses := true, named := ["estoppel/date.before"], apart := false, laid := [("estoppel/date.before", laid_estoppel_date_before)], narrowed := true }
def ReceiptCutOffUptoSaid : Prop := receiptCutOffUptoRow.holds Tryd.pinned (OpenSpec.upto receiptCutOffSpec)

/-- 'estoppellaw05.DeadlineMonotone', WHERE WHAT IT READS IS OF BULK AT MOST 1048576: true; the input reads as it did. -/
def deadlineMonotoneUptoRow : OpenClaim := { program := "yticlmkfifpkdpaadoor", sum := "0c30d8fe32d2e1c6706d6ebf1172818eaee0fd388bd14c4b12eafd7e2a7e74c1", func := "estoppel/estoppellaw05.DeadlineMonotone", spec := "deadlineMonotone", unfollowed := true, recurses := true, named := ["estoppel/date.before"], loops := true, apart := false, laid := [("estoppel/date.before", laid_estoppel_date_before)], narrowed := true }
def DeadlineMonotoneUptoSaid : Prop := deadlineMonotoneUptoRow.holds Tryd.pinned (OpenSpec.upto deadlineMonotoneSpec)

/-- 'estoppellaw05.DeadlineBounds', WHERE WHAT IT READS IS OF BULK AT MOST 1048576: true; the input reads as it did. -/
def deadlineBoundsUptoRow : OpenClaim := { program := "yticlmkfifpkdpaadoor", sum := "0c30d8fe32d2e1c6706d6ebf1172818eaee0fd388bd14c4b12eafd7e2a7e74c1", func := "estoppel/estoppellaw05.DeadlineBounds", spec := "deadlineBounds", unfollowed := true, recurses := true, named := ["estoppel/date.before"], loops := true, apart := false, laid := [("estoppel/date.before", laid_estoppel_date_before)], narrowed := true }
def DeadlineBoundsUptoSaid : Prop := deadlineBoundsUptoRow.holds Tryd.pinned (OpenSpec.upto deadlineBoundsSpec)

/-- 'estoppellaw05.DeadlineNeeds', WHERE WHAT IT READS IS OF BULK AT MOST 1048576: true; the input reads as it did. -/
def deadlineNeedsUptoRow : OpenClaim := { program := "yticlmkfifpkdpaadoor", sum := "0c30d8fe32d2e1c6706d6ebf1172818eaee0fd388bd14c4b12eafd7e2a7e74c1", func := "estoppel/estoppellaw05.DeadlineNeeds", spec := "deadlineNeeds", unfollowed := true, recurses := true, named := ["estoppel/date.before"], loops := true, apart := false, laid := [("estoppel/date.before", laid_estoppel_date_before)], narrowed := true }
def DeadlineNeedsUptoSaid : Prop := deadlineNeedsUptoRow.holds Tryd.pinned (OpenSpec.upto deadlineNeedsSpec)

/-- 'estoppellaw05.DeadlineExtremes', WHERE WHAT IT READS IS OF BULK AT MOST 1048576: true; the input reads as it did. -/
def deadlineExtremesUptoRow : OpenClaim := { program := "yticlmkfifpkdpaadoor", sum := "0c30d8fe32d2e1c6706d6ebf1172818eaee0fd388bd14c4b12eafd7e2a7e74c1", func := "estoppel/estoppellaw05.DeadlineExtremes", spec := "deadlineExtremes", unfollowed := true, recurses := true, named := ["estoppel/date.before"], loops := true, apart := false, laid := [("estoppel/date.before", laid_estoppel_date_before)], narrowed := true }
def DeadlineExtremesUptoSaid : Prop := deadlineExtremesUptoRow.holds Tryd.pinned (OpenSpec.upto deadlineExtremesSpec)

/-- 'estoppellaw05.DeadlineCuts', WHERE WHAT IT READS IS OF BULK AT MOST 1048576: true; the input reads as it did. -/
def deadlineCutsUptoRow : OpenClaim := { program := "yticlmkfifpkdpaadoor", sum := "0c30d8fe32d2e1c6706d6ebf1172818eaee0fd388bd14c4b12eafd7e2a7e74c1", func := "estoppel/estoppellaw05.DeadlineCuts", spec := "deadlineCuts", unfollowed := true, recurses := true, named := ["estoppel/date.before"], apart := false, laid := [("estoppel/date.before", laid_estoppel_date_before)], narrowed := true }
def DeadlineCutsUptoSaid : Prop := deadlineCutsUptoRow.holds Tryd.pinned (OpenSpec.upto deadlineCutsSpec)

/-- 'estoppellaw05.DeadlineSums', WHERE WHAT IT READS IS OF BULK AT MOST 1048576: true; the input reads as it did. -/
def deadlineSumsUptoRow : OpenClaim := { program := "yticlmkfifpkdpaadoor", sum := "0c30d8fe32d2e1c6706d6ebf1172818eaee0fd388bd14c4b12eafd7e2a7e74c1", func := "estoppel/estoppellaw05.DeadlineSums", spec := "deadlineSums", unfollowed := true, recurses := true, named := ["estoppel/date.before"], loops := true, apart := false, laid := [("estoppel/date.before", laid_estoppel_date_before)], narrowed := true }
def DeadlineSumsUptoSaid : Prop := deadlineSumsUptoRow.holds Tryd.pinned (OpenSpec.upto deadlineSumsSpec)

end Rows
end Go.Proofs.YticlmkfifpkdpaaDoor
