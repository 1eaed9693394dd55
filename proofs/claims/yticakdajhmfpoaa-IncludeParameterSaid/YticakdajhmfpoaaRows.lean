/-
  NARROWER THAN 'FOR EVERY INPUT', by the rows' own cells (each row's printed sentence says how): IncludePlain: loops · IncludeLater: loops · IncludePrefix: loops · IncludeParameter: loops · IncludeParts: loops.
  DERIVED. THE GIVEN ROWS OF THIS SEAT. 6 by the template 'for every input the law returns true; each argument reads behind the call as it read before'; 0 by the template 'total and deterministic' (their statements: YticakdajhmfpoaaTotals.lean).
  GIVEN WITH THE SEED: the statements are not yours to turn. If you find one false, say at which input.
  Laid BY PROGRAM, IN A SANDBOX (cutbox-rows.mjs): the forced cells as the released guide's own fill.sh prints them over the translation e2a24f0860aee7b7… (all of the seat's roots in one cut). By AI agents, Wed Nov 11 2026. No macro, syntax, notation, axiom, sorry.
-/
import Derived.Test.YticakdajhmfpoaaChecked
import GoSem.Claim
import GoSem.ClaimJoined
import GoSem.ClaimMapViews
import Derived.JoinedTies
import Derived.KernelRfl
namespace Go.Proofs.Yticakdajhmfpoaa
/- THE CELL 'sum', in the pinned program and in every row, IS THE sha256 OF THE DUMP (.gsa) THAT YticakdajhmfpoaaProg.lean LOADS. Nothing in Lean hashes anything: it is a label: what it is worth is what the hold of that sum in a sandbox is worth. -/
noncomputable def Try.pinned : Pinned := { name := "yticakdajhmfpoaa", sum := "e2a24f0860aee7b7185598443611bccbe922e259836fd702778a4cede7558f49", checked := Try.checked }
namespace Rows
def none {H : Type} : Left H := { results := [], args := [] }

/-- 'estoppellaw09.IncludePlain': WHATEVER THE INPUT: true; the input reads as it did. -/
def includePlainSpec : ChangeSpec := { name := "includePlain", fn := fun _ => fun
  | [d] => { results := [.lit (.bool true)], args := [d] }
  | _ => none }
def includePlainRow : OpenClaim := { program := "yticakdajhmfpoaa", sum := "e2a24f0860aee7b7185598443611bccbe922e259836fd702778a4cede7558f49", func := "estoppel/estoppellaw09.IncludePlain", spec := "includePlain", inPlace := ["internal/bytealg.IndexByteString", "internal/bytealg.IndexString"], unfollowed := true, recurses := true, named := ["internal/bytealg.MaxLen"], loops := true, apart := false }
def IncludePlainSaid : Prop := includePlainRow.holds Try.pinned (OpenSpec.ofChange includePlainSpec)

/-- ITS FALSE NEIGHBOUR: 'it returns false'. Refute it at one input. -/
def includePlainWrong : ChangeSpec := { name := "includePlain", fn := fun _ => fun
  | [d] => { results := [.lit (.bool false)], args := [d] }
  | _ => none }
def IncludePlainWrongFalsely : Prop := includePlainRow.holds Try.pinned (OpenSpec.ofChange includePlainWrong)

/-- 'estoppellaw09.IncludeLater': WHATEVER THE INPUT: true; the input reads as it did. -/
def includeLaterSpec : ChangeSpec := { name := "includeLater", fn := fun _ => fun
  | [d] => { results := [.lit (.bool true)], args := [d] }
  | _ => none }
def includeLaterRow : OpenClaim := { program := "yticakdajhmfpoaa", sum := "e2a24f0860aee7b7185598443611bccbe922e259836fd702778a4cede7558f49", func := "estoppel/estoppellaw09.IncludeLater", spec := "includeLater", inPlace := ["internal/bytealg.IndexByteString", "internal/bytealg.IndexString"], unfollowed := true, recurses := true, named := ["internal/bytealg.MaxLen"], loops := true, apart := false }
def IncludeLaterSaid : Prop := includeLaterRow.holds Try.pinned (OpenSpec.ofChange includeLaterSpec)

/-- ITS FALSE NEIGHBOUR: 'it returns false'. Refute it at one input. -/
def includeLaterWrong : ChangeSpec := { name := "includeLater", fn := fun _ => fun
  | [d] => { results := [.lit (.bool false)], args := [d] }
  | _ => none }
def IncludeLaterWrongFalsely : Prop := includeLaterRow.holds Try.pinned (OpenSpec.ofChange includeLaterWrong)

/-- 'estoppellaw09.IncludePrefix': WHATEVER THE INPUT: true; the input reads as it did. -/
def includePrefixSpec : ChangeSpec := { name := "includePrefix", fn := fun _ => fun
  | [d1, d2] => { results := [.lit (.bool true)], args := [d1, d2] }
  | _ => none }
def includePrefixRow : OpenClaim := { program := "yticakdajhmfpoaa", sum := "e2a24f0860aee7b7185598443611bccbe922e259836fd702778a4cede7558f49", func := "estoppel/estoppellaw09.IncludePrefix", spec := "includePrefix", inPlace := ["internal/bytealg.IndexByteString", "internal/bytealg.IndexString"], unfollowed := true, recurses := true, named := ["internal/bytealg.MaxLen"], loops := true, apart := false }
def IncludePrefixSaid : Prop := includePrefixRow.holds Try.pinned (OpenSpec.ofChange includePrefixSpec)

/-- ITS FALSE NEIGHBOUR: 'it returns false'. Refute it at one input. -/
def includePrefixWrong : ChangeSpec := { name := "includePrefix", fn := fun _ => fun
  | [d1, d2] => { results := [.lit (.bool false)], args := [d1, d2] }
  | _ => none }
def IncludePrefixWrongFalsely : Prop := includePrefixRow.holds Try.pinned (OpenSpec.ofChange includePrefixWrong)

/-- 'estoppellaw09.IncludeParameter': WHATEVER THE INPUT: true; the input reads as it did. -/
def includeParameterSpec : ChangeSpec := { name := "includeParameter", fn := fun _ => fun
  | [d1, d2, d3, d4] => { results := [.lit (.bool true)], args := [d1, d2, d3, d4] }
  | _ => none }
def includeParameterRow : OpenClaim := { program := "yticakdajhmfpoaa", sum := "e2a24f0860aee7b7185598443611bccbe922e259836fd702778a4cede7558f49", func := "estoppel/estoppellaw09.IncludeParameter", spec := "includeParameter", inPlace := ["internal/bytealg.IndexByteString", "internal/bytealg.IndexString"], unfollowed := true, recurses := true, named := ["internal/bytealg.MaxLen"], loops := true, apart := false }
def IncludeParameterSaid : Prop := includeParameterRow.holds Try.pinned (OpenSpec.ofChange includeParameterSpec)

/-- ITS FALSE NEIGHBOUR: 'it returns false'. Refute it at one input. -/
def includeParameterWrong : ChangeSpec := { name := "includeParameter", fn := fun _ => fun
  | [d1, d2, d3, d4] => { results := [.lit (.bool false)], args := [d1, d2, d3, d4] }
  | _ => none }
def IncludeParameterWrongFalsely : Prop := includeParameterRow.holds Try.pinned (OpenSpec.ofChange includeParameterWrong)

/-- 'estoppellaw09.IncludeParts': WHATEVER THE INPUT: true; the input reads as it did. -/
def includePartsSpec : ChangeSpec := { name := "includeParts", fn := fun _ => fun
  | [d1, d2] => { results := [.lit (.bool true)], args := [d1, d2] }
  | _ => none }
def includePartsRow : OpenClaim := { program := "yticakdajhmfpoaa", sum := "e2a24f0860aee7b7185598443611bccbe922e259836fd702778a4cede7558f49", func := "estoppel/estoppellaw09.IncludeParts", spec := "includeParts", inPlace := ["internal/bytealg.IndexByteString", "internal/bytealg.IndexString"], unfollowed := true, recurses := true, named := ["internal/bytealg.MaxLen"], loops := true, apart := false }
def IncludePartsSaid : Prop := includePartsRow.holds Try.pinned (OpenSpec.ofChange includePartsSpec)

/-- ITS FALSE NEIGHBOUR: 'it returns false'. Refute it at one input. -/
def includePartsWrong : ChangeSpec := { name := "includeParts", fn := fun _ => fun
  | [d1, d2] => { results := [.lit (.bool false)], args := [d1, d2] }
  | _ => none }
def IncludePartsWrongFalsely : Prop := includePartsRow.holds Try.pinned (OpenSpec.ofChange includePartsWrong)

/-- 'estoppellaw09.IncludeCopies': WHATEVER THE INPUT: true; the input reads as it did. -/
def includeCopiesSpec : ChangeSpec := { name := "includeCopies", fn := fun _ => fun
  | [d1, d2, d3, d4] => { results := [.lit (.bool true)], args := [d1, d2, d3, d4] }
  | _ => none }
def includeCopiesRow : OpenClaim := { program := "yticakdajhmfpoaa", sum := "e2a24f0860aee7b7185598443611bccbe922e259836fd702778a4cede7558f49", func := "estoppel/estoppellaw09.IncludeCopies", spec := "includeCopies", inPlace := ["internal/bytealg.IndexByteString", "internal/bytealg.IndexString"], unfollowed := true, recurses := true, named := ["internal/bytealg.MaxLen"], apart := false }
def IncludeCopiesSaid : Prop := includeCopiesRow.holds Try.pinned (OpenSpec.ofChange includeCopiesSpec)

/-- ITS FALSE NEIGHBOUR: 'it returns false'. Refute it at one input. -/
def includeCopiesWrong : ChangeSpec := { name := "includeCopies", fn := fun _ => fun
  | [d1, d2, d3, d4] => { results := [.lit (.bool false)], args := [d1, d2, d3, d4] }
  | _ => none }
def IncludeCopiesWrongFalsely : Prop := includeCopiesRow.holds Try.pinned (OpenSpec.ofChange includeCopiesWrong)

/- THE SECOND FORM. 'bulk': how many values and letters a reading holds, each counted each time it is reached (what is shared counts as often as it is met; a slice's spare places count too). A statement '..UptoSaid' is the law's where the arguments, and the package variables that the reading takes, are together of bulk at most 1048576: NARROWER than '..Said'. Prove '..Said' where nothing that the law and all that it calls make is longer than what came in: it says more and counts as full. Else prove '..UptoSaid'. A law counts once. -/
mutual
def uptoBulk {H : Type} : DataW H → Nat
  | .lit (.string bytes) => bytes.length + 1
  | .lit _ => 1
  | .nil => 1
  | .ptr d => uptoBulk d + 1
  | .slice elems spare => uptoBulkAll elems + uptoBulkAll spare + 1
  | .agg parts => uptoBulkAll parts + 1
  | .iface _ d => uptoBulk d + 1
  | .map entries => uptoBulkEntries entries + 1
  | .held _ => 1
def uptoBulkAll {H : Type} : List (DataW H) → Nat
  | [] => 0
  | d :: r => uptoBulk d + uptoBulkAll r
def uptoBulkEntries {H : Type} : List (Lit × DataW H) → Nat
  | [] => 0
  | x :: r => uptoBulkEntry x + uptoBulkEntries r
def uptoBulkEntry {H : Type} : Lit × DataW H → Nat
  | (.string bytes, d) => bytes.length + uptoBulk d + 1
  | (_, d) => uptoBulk d + 1
 end
def uptoSmall : (H : Type) → List (DataW H) → Bool := fun _ ds => decide (uptoBulkAll ds ≤ 1048576)
def OpenSpec.upto (s : _root_.Go.ChangeSpec) : _root_.Go.OpenSpec := { _root_.Go.OpenSpec.ofChange s with cond := some uptoSmall }

/-- 'estoppellaw09.IncludePlain', WHERE WHAT IT READS IS OF BULK AT MOST 1048576: true; the input reads as it did. -/
def includePlainUptoRow : OpenClaim := { program := "yticakdajhmfpoaa", sum := "e2a24f0860aee7b7185598443611bccbe922e259836fd702778a4cede7558f49", func := "estoppel/estoppellaw09.IncludePlain", spec := "includePlain", inPlace := ["internal/bytealg.IndexByteString", "internal/bytealg.IndexString"], unfollowed := true, recurses := true, named := ["internal/bytealg.MaxLen"], loops := true, apart := false, narrowed := true }
def IncludePlainUptoSaid : Prop := includePlainUptoRow.holds Try.pinned (OpenSpec.upto includePlainSpec)

/-- 'estoppellaw09.IncludeLater', WHERE WHAT IT READS IS OF BULK AT MOST 1048576: true; the input reads as it did. -/
def includeLaterUptoRow : OpenClaim := { program := "yticakdajhmfpoaa", sum := "e2a24f0860aee7b7185598443611bccbe922e259836fd702778a4cede7558f49", func := "estoppel/estoppellaw09.IncludeLater", spec := "includeLater", inPlace := ["internal/bytealg.IndexByteString", "internal/bytealg.IndexString"], unfollowed := true, recurses := true, named := ["internal/bytealg.MaxLen"], loops := true, apart := false, narrowed := true }
def IncludeLaterUptoSaid : Prop := includeLaterUptoRow.holds Try.pinned (OpenSpec.upto includeLaterSpec)

/-- 'estoppellaw09.IncludePrefix', WHERE WHAT IT READS IS OF BULK AT MOST 1048576: true; the input reads as it did. -/
def includePrefixUptoRow : OpenClaim := { program := "yticakdajhmfpoaa", sum := "e2a24f0860aee7b7185598443611bccbe922e259836fd702778a4cede7558f49", func := "estoppel/estoppellaw09.IncludePrefix", spec := "includePrefix", inPlace := ["internal/bytealg.IndexByteString", "internal/bytealg.IndexString"], unfollowed := true, recurses := true, named := ["internal/bytealg.MaxLen"], loops := true, apart := false, narrowed := true }
def IncludePrefixUptoSaid : Prop := includePrefixUptoRow.holds Try.pinned (OpenSpec.upto includePrefixSpec)

/-- 'estoppellaw09.IncludeParameter', WHERE WHAT IT READS IS OF BULK AT MOST 1048576: true; the input reads as it did. -/
def includeParameterUptoRow : OpenClaim := { program := "yticakdajhmfpoaa", sum := "e2a24f0860aee7b7185598443611bccbe922e259836fd702778a4cede7558f49", func := "estoppel/estoppellaw09.IncludeParameter", spec := "includeParameter", inPlace := ["internal/bytealg.IndexByteString", "internal/bytealg.IndexString"], unfollowed := true, recurses := true, named := ["internal/bytealg.MaxLen"], loops := true, apart := false, narrowed := true }
def IncludeParameterUptoSaid : Prop := includeParameterUptoRow.holds Try.pinned (OpenSpec.upto includeParameterSpec)

/-- 'estoppellaw09.IncludeParts', WHERE WHAT IT READS IS OF BULK AT MOST 1048576: true; the input reads as it did. -/
def includePartsUptoRow : OpenClaim := { program := "yticakdajhmfpoaa", sum := "e2a24f0860aee7b7185598443611bccbe922e259836fd702778a4cede7558f49", func := "estoppel/estoppellaw09.IncludeParts", spec := "includeParts", inPlace := ["internal/bytealg.IndexByteString", "internal/bytealg.IndexString"], unfollowed := true, recurses := true, named := ["internal/bytealg.MaxLen"], loops := true, apart := false, narrowed := true }
def IncludePartsUptoSaid : Prop := includePartsUptoRow.holds Try.pinned (OpenSpec.upto includePartsSpec)

/-- 'estoppellaw09.IncludeCopies', WHERE WHAT IT READS IS OF BULK AT MOST 1048576: true; the input reads as it did. -/
def includeCopiesUptoRow : OpenClaim := { program := "yticakdajhmfpoaa", sum := "e2a24f0860aee7b7185598443611bccbe922e259836fd702778a4cede7558f49", func := "estoppel/estoppellaw09.IncludeCopies", spec := "includeCopies", inPlace := ["internal/bytealg.IndexByteString", "internal/bytealg.IndexString"], unfollowed := true, recurses := true, named := ["internal/bytealg.MaxLen"], apart := false, narrowed := true }
def IncludeCopiesUptoSaid : Prop := includeCopiesUptoRow.holds Try.pinned (OpenSpec.upto includeCopiesSpec)

end Rows
end Go.Proofs.Yticakdajhmfpoaa
