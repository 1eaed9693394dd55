/-
  NARROWER THAN 'FOR EVERY INPUT', by the rows' own cells (each row's printed sentence says how): ResolveMatchesReference: loops, laid · ResolveNames: loops, laid · ResolveGroups: loops, laid · ResolveRenames: loops, laid · ResolveAppends: loops, laid · ResolveFaults: loops, laid · ResolveCalendar: loops, laid.
  DERIVED. THE GIVEN ROWS OF THIS SEAT. 7 by the template 'for every input the law returns true; each argument reads behind the call as it read before'; 0 by the template 'total and deterministic' (their statements: YtdhjibnkebbejaaDoorTotals.lean).
  GIVEN WITH THE SEED: the statements are not yours to turn. If you find one false, say at which input.
  Laid BY PROGRAM, IN A SANDBOX (cutbox-rows.mjs): the forced cells as the released guide's own fill.sh prints them over the translation 822f8db8938665f3… (all of the seat's roots in one cut). By AI agents, Wed Nov 11 2026. No macro, syntax, notation, axiom, sorry.
-/
import Derived.Test.YtdhjibnkebbejaaDoorChecked
import GoSem.Claim
import GoSem.ClaimJoined
import GoSem.ClaimMapViews
import Derived.JoinedTies
import Derived.KernelRfl
namespace Go.Proofs.YtdhjibnkebbejaaDoor
/- THE CELL 'sum', in the pinned program and in every row, IS THE sha256 OF THE DUMP (.gsa) THAT YtdhjibnkebbejaaDoorProg.lean LOADS. Nothing in Lean hashes anything: it is a label: what it is worth is what the hold of that sum in a sandbox is worth. -/
noncomputable def Tryd.pinned : Pinned := { name := "ytdhjibnkebbejaadoor", sum := "822f8db8938665f388d9be5dc807e31a0e16ca89a98b62080d9d055e49a1f3be", checked := Tryd.checked }
namespace Rows
def none {H : Type} : Left H := { results := [], args := [] }

/- WHAT THE LISTED PACKAGE-LEVEL VARIABLES READ AS WHEN THE CALL BEGINS. Each datum BY PROGRAM (the guide's laid-datum.mjs) off the statement by which the dump's own 'gosem.cut.vars' lays the variable. In a bare row this is a premise. The card (YtdhjibnkebbejaaDoorCards.lean) ties it to the program's text. -/
def laid_estoppel_date_before {H : Type} : DataW H := .agg [.lit (.int .i64 0), .lit (.int .i64 31), .lit (.int .i64 59), .lit (.int .i64 90), .lit (.int .i64 120), .lit (.int .i64 151), .lit (.int .i64 181), .lit (.int .i64 212), .lit (.int .i64 243), .lit (.int .i64 273), .lit (.int .i64 304), .lit (.int .i64 334), .lit (.int .i64 365)]

/-- 'estoppellaw10.ResolveMatchesReference': WHATEVER THE INPUT: true; the input reads as it did. -/
def resolveMatchesReferenceSpec : ChangeSpec := { name := "resolveMatchesReference", fn := fun _ => fun
  | [d] => { results := [.lit (.bool true)], args := [d] }
  | _ => none }
def resolveMatchesReferenceRow : OpenClaim := { program := "ytdhjibnkebbejaadoor", sum := "822f8db8938665f388d9be5dc807e31a0e16ca89a98b62080d9d055e49a1f3be", func := "estoppel/estoppellaw10.ResolveMatchesReference", spec := "resolveMatchesReference", unfollowed := true, recurses := true, named := ["estoppel/date.before"], loops := true, apart := false, laid := [("estoppel/date.before", laid_estoppel_date_before)] }
def ResolveMatchesReferenceSaid : Prop := resolveMatchesReferenceRow.holds Tryd.pinned (OpenSpec.ofChange resolveMatchesReferenceSpec)

/-- ITS FALSE NEIGHBOUR: 'it returns false'. Refute it at one input. -/
def resolveMatchesReferenceWrong : ChangeSpec := { name := "resolveMatchesReference", fn := fun _ => fun
  | [d] => { results := [.lit (.bool false)], args := [d] }
  | _ => none }
def ResolveMatchesReferenceWrongFalsely : Prop := resolveMatchesReferenceRow.holds Tryd.pinned (OpenSpec.ofChange resolveMatchesReferenceWrong)

/-- 'estoppellaw10.ResolveNames': WHATEVER THE INPUT: true; the input reads as it did. -/
def resolveNamesSpec : ChangeSpec := { name := "resolveNames", fn := fun _ => fun
  | [d] => { results := [.lit (.bool true)], args := [d] }
  | _ => none }
def resolveNamesRow : OpenClaim := { program := "ytdhjibnkebbejaadoor", sum := "822f8db8938665f388d9be5dc807e31a0e16ca89a98b62080d9d055e49a1f3be", func := "estoppel/estoppellaw10.ResolveNames", spec := "resolveNames", unfollowed := true, recurses := true, named := ["estoppel/date.before"], loops := true, apart := false, laid := [("estoppel/date.before", laid_estoppel_date_before)] }
def ResolveNamesSaid : Prop := resolveNamesRow.holds Tryd.pinned (OpenSpec.ofChange resolveNamesSpec)

/-- ITS FALSE NEIGHBOUR: 'it returns false'. Refute it at one input. -/
def resolveNamesWrong : ChangeSpec := { name := "resolveNames", fn := fun _ => fun
  | [d] => { results := [.lit (.bool false)], args := [d] }
  | _ => none }
def ResolveNamesWrongFalsely : Prop := resolveNamesRow.holds Tryd.pinned (OpenSpec.ofChange resolveNamesWrong)

/-- 'estoppellaw10.ResolveGroups': WHATEVER THE INPUT: true; the input reads as it did. -/
def resolveGroupsSpec : ChangeSpec := { name := "resolveGroups", fn := fun _ => fun
  | [d1, d2] => { results := [.lit (.bool true)], args := [d1, d2] }
  | _ => none }
def resolveGroupsRow : OpenClaim := { program := "ytdhjibnkebbejaadoor", sum := "822f8db8938665f388d9be5dc807e31a0e16ca89a98b62080d9d055e49a1f3be", func := "estoppel/estoppellaw10.ResolveGroups", spec := "resolveGroups", unfollowed := true, recurses := true, named := ["estoppel/date.before"], loops := true, apart := false, laid := [("estoppel/date.before", laid_estoppel_date_before)] }
def ResolveGroupsSaid : Prop := resolveGroupsRow.holds Tryd.pinned (OpenSpec.ofChange resolveGroupsSpec)

/-- ITS FALSE NEIGHBOUR: 'it returns false'. Refute it at one input. -/
def resolveGroupsWrong : ChangeSpec := { name := "resolveGroups", fn := fun _ => fun
  | [d1, d2] => { results := [.lit (.bool false)], args := [d1, d2] }
  | _ => none }
def ResolveGroupsWrongFalsely : Prop := resolveGroupsRow.holds Tryd.pinned (OpenSpec.ofChange resolveGroupsWrong)

/-- 'estoppellaw10.ResolveRenames': WHATEVER THE INPUT: true; the input reads as it did. -/
def resolveRenamesSpec : ChangeSpec := { name := "resolveRenames", fn := fun _ => fun
  | [d1, d2] => { results := [.lit (.bool true)], args := [d1, d2] }
  | _ => none }
def resolveRenamesRow : OpenClaim := { program := "ytdhjibnkebbejaadoor", sum := "822f8db8938665f388d9be5dc807e31a0e16ca89a98b62080d9d055e49a1f3be", func := "estoppel/estoppellaw10.ResolveRenames", spec := "resolveRenames", unfollowed := true, recurses := true, named := ["estoppel/date.before"], loops := true, apart := false, laid := [("estoppel/date.before", laid_estoppel_date_before)] }
def ResolveRenamesSaid : Prop := resolveRenamesRow.holds Tryd.pinned (OpenSpec.ofChange resolveRenamesSpec)

/-- ITS FALSE NEIGHBOUR: 'it returns false'. Refute it at one input. -/
def resolveRenamesWrong : ChangeSpec := { name := "resolveRenames", fn := fun _ => fun
  | [d1, d2] => { results := [.lit (.bool false)], args := [d1, d2] }
  | _ => none }
def ResolveRenamesWrongFalsely : Prop := resolveRenamesRow.holds Tryd.pinned (OpenSpec.ofChange resolveRenamesWrong)

/-- 'estoppellaw10.ResolveAppends': WHATEVER THE INPUT: true; the input reads as it did. -/
def resolveAppendsSpec : ChangeSpec := { name := "resolveAppends", fn := fun _ => fun
  | [d1, d2] => { results := [.lit (.bool true)], args := [d1, d2] }
  | _ => none }
def resolveAppendsRow : OpenClaim := { program := "ytdhjibnkebbejaadoor", sum := "822f8db8938665f388d9be5dc807e31a0e16ca89a98b62080d9d055e49a1f3be", func := "estoppel/estoppellaw10.ResolveAppends", spec := "resolveAppends", unfollowed := true, recurses := true, named := ["estoppel/date.before"], loops := true, apart := false, laid := [("estoppel/date.before", laid_estoppel_date_before)] }
def ResolveAppendsSaid : Prop := resolveAppendsRow.holds Tryd.pinned (OpenSpec.ofChange resolveAppendsSpec)

/-- ITS FALSE NEIGHBOUR: 'it returns false'. Refute it at one input. -/
def resolveAppendsWrong : ChangeSpec := { name := "resolveAppends", fn := fun _ => fun
  | [d1, d2] => { results := [.lit (.bool false)], args := [d1, d2] }
  | _ => none }
def ResolveAppendsWrongFalsely : Prop := resolveAppendsRow.holds Tryd.pinned (OpenSpec.ofChange resolveAppendsWrong)

/-- 'estoppellaw10.ResolveFaults': WHATEVER THE INPUT: true; the input reads as it did. -/
def resolveFaultsSpec : ChangeSpec := { name := "resolveFaults", fn := fun _ => fun
  | [d] => { results := [.lit (.bool true)], args := [d] }
  | _ => none }
def resolveFaultsRow : OpenClaim := { program := "ytdhjibnkebbejaadoor", sum := "822f8db8938665f388d9be5dc807e31a0e16ca89a98b62080d9d055e49a1f3be", func := "estoppel/estoppellaw10.ResolveFaults", spec := "resolveFaults", unfollowed := true, recurses := true, named := ["estoppel/date.before"], loops := true, apart := false, laid := [("estoppel/date.before", laid_estoppel_date_before)] }
def ResolveFaultsSaid : Prop := resolveFaultsRow.holds Tryd.pinned (OpenSpec.ofChange resolveFaultsSpec)

/-- ITS FALSE NEIGHBOUR: 'it returns false'. Refute it at one input. -/
def resolveFaultsWrong : ChangeSpec := { name := "resolveFaults", fn := fun _ => fun
  | [d] => { results := [.lit (.bool false)], args := [d] }
  | _ => none }
def ResolveFaultsWrongFalsely : Prop := resolveFaultsRow.holds Tryd.pinned (OpenSpec.ofChange resolveFaultsWrong)

/-- 'estoppellaw10.ResolveCalendar': WHATEVER THE INPUT: true; the input reads as it did. -/
def resolveCalendarSpec : ChangeSpec := { name := "resolveCalendar", fn := fun _ => fun
  | [d1, d2] => { results := [.lit (.bool true)], args := [d1, d2] }
  | _ => none }
def resolveCalendarRow : OpenClaim := { program := "ytdhjibnkebbejaadoor", sum := "822f8db8938665f388d9be5dc807e31a0e16ca89a98b62080d9d055e49a1f3be", func := "estoppel/estoppellaw10.ResolveCalendar", spec := "resolveCalendar", unfollowed := true, recurses := true, named := ["estoppel/date.before"], loops := true, apart := false, laid := [("estoppel/date.before", laid_estoppel_date_before)] }
def ResolveCalendarSaid : Prop := resolveCalendarRow.holds Tryd.pinned (OpenSpec.ofChange resolveCalendarSpec)

/-- ITS FALSE NEIGHBOUR: 'it returns false'. Refute it at one input. -/
def resolveCalendarWrong : ChangeSpec := { name := "resolveCalendar", fn := fun _ => fun
  | [d1, d2] => { results := [.lit (.bool false)], args := [d1, d2] }
  | _ => none }
def ResolveCalendarWrongFalsely : Prop := resolveCalendarRow.holds Tryd.pinned (OpenSpec.ofChange resolveCalendarWrong)

/- THE SECOND FORM. 'bulk': how many values and letters a reading holds, each counted each time it is reached (what is shared counts as often as it is met; a slice's spare places count too). A statement '..UptoSaid' is the law's where the arguments, and the package variables that the reading takes, are together of bulk at most 1048576: NARROWER than '..Said'. Prove '..Said' where nothing that the law and all that it calls make is longer than what came in: it says more and counts as full. Else prove '..UptoSaid'. A law counts once. -/
mutual
def uptoBulk {H : Type} : DataW H → Nat
  | .lit (.string bytes) => bytes.length + 1
  | .lit _ => 1
  | .nil => 1
  | .ptr d => uptoBulk d + 1
  | .slice elems spare => uptoBulkAll elems + uptoBulkAll spare + 1
  | .agg parts => uptoBulkAll parts + 1
  | .iface _ d => uptoBulk d + 1
  | .map entries => uptoBulkEntries entries + 1
  | .held _ => 1
def uptoBulkAll {H : Type} : List (DataW H) → Nat
  | [] => 0
  | d :: r => uptoBulk d + uptoBulkAll r
def uptoBulkEntries {H : Type} : List (Lit × DataW H) → Nat
  | [] => 0
  | x :: r => uptoBulkEntry x + uptoBulkEntries r
def uptoBulkEntry {H : Type} : Lit × DataW H → Nat
  | (.string bytes, d) => bytes.length + uptoBulk d + 1
  | (_, d) => uptoBulk d + 1
 end
def uptoSmall : (H : Type) → List (DataW H) → Bool := fun _ ds => decide (uptoBulkAll ds ≤ 1048576)
def OpenSpec.upto (s : _root_.Go.ChangeSpec) : _root_.Go.OpenSpec := { _root_.Go.OpenSpec.ofChange s with cond := some uptoSmall }

/-- 'estoppellaw10.ResolveMatchesReference', WHERE WHAT IT READS IS OF BULK AT MOST 1048576: true; the input reads as it did. -/
def resolveMatchesReferenceUptoRow : OpenClaim := { program := "ytdhjibnkebbejaadoor", sum := "822f8db8938665f388d9be5dc807e31a0e16ca89a98b62080d9d055e49a1f3be", func := "estoppel/estoppellaw10.ResolveMatchesReference", spec := "resolveMatchesReference", unfollowed := true, recurses := true, named := ["estoppel/date.before"], loops := true, apart := false, laid := [("estoppel/date.before", laid_estoppel_date_before)], narrowed := true }
def ResolveMatchesReferenceUptoSaid : Prop := resolveMatchesReferenceUptoRow.holds Tryd.pinned (OpenSpec.upto resolveMatchesReferenceSpec)

/-- 'estoppellaw10.ResolveNames', WHERE WHAT IT READS IS OF BULK AT MOST 1048576: true; the input reads as it did. -/
def resolveNamesUptoRow : OpenClaim := { program := "ytdhjibnkebbejaadoor", sum := "822f8db8938665f388d9be5dc807e31a0e16ca89a98b62080d9d055e49a1f3be", func := "estoppel/estoppellaw10.ResolveNames", spec := "resolveNames", unfollowed := true, recurses := true, named := ["estoppel/date.before"], loops := true, apart := false, laid := [("estoppel/date.before", laid_estoppel_date_before)], narrowed := true }
def ResolveNamesUptoSaid : Prop := resolveNamesUptoRow.holds Tryd.pinned (OpenSpec.upto resolveNamesSpec)

/-- 'estoppellaw10.ResolveGroups', WHERE WHAT IT READS IS OF BULK AT MOST 1048576: true; the input reads as it did. -/
def resolveGroupsUptoRow : OpenClaim := { program := "ytdhjibnkebbejaadoor", sum := "822f8db8938665f388d9be5dc807e31a0e16ca89a98b62080d9d055e49a1f3be", func := "estoppel/estoppellaw10.ResolveGroups", spec := "resolveGroups", unfollowed := true, recurses := true, named := ["estoppel/date.before"], loops := true, apart := false, laid := [("estoppel/date.before", laid_estoppel_date_before)], narrowed := true }
def ResolveGroupsUptoSaid : Prop := resolveGroupsUptoRow.holds Tryd.pinned (OpenSpec.upto resolveGroupsSpec)

/-- 'estoppellaw10.ResolveRenames', WHERE WHAT IT READS IS OF BULK AT MOST 1048576: true; the input reads as it did. -/
def resolveRenamesUptoRow : OpenClaim := { program := "ytdhjibnkebbejaadoor", sum := "822f8db8938665f388d9be5dc807e31a0e16ca89a98b62080d9d055e49a1f3be", func := "estoppel/estoppellaw10.ResolveRenames", spec := "resolveRenames", unfollowed := true, recurses := true, named := ["estoppel/date.before"], loops := true, apart := false, laid := [("estoppel/date.before", laid_estoppel_date_before)], narrowed := true }
def ResolveRenamesUptoSaid : Prop := resolveRenamesUptoRow.holds Tryd.pinned (OpenSpec.upto resolveRenamesSpec)

/-- 'estoppellaw10.ResolveAppends', WHERE WHAT IT READS IS OF BULK AT MOST 1048576: true; the input reads as it did. -/
def resolveAppendsUptoRow : OpenClaim := { program := "ytdhjibnkebbejaadoor", sum := "822f8db8938665f388d9be5dc807e31a0e16ca89a98b62080d9d055e49a1f3be", func := "estoppel/estoppellaw10.ResolveAppends", spec := "resolveAppends", unfollowed := true, recurses := true, named := ["estoppel/date.before"], loops := true, apart := false, laid := [("estoppel/date.before", laid_estoppel_date_before)], narrowed := true }
def ResolveAppendsUptoSaid : Prop := resolveAppendsUptoRow.holds Tryd.pinned (OpenSpec.upto resolveAppendsSpec)

/-- 'estoppellaw10.ResolveFaults', WHERE WHAT IT READS IS OF BULK AT MOST 1048576: true; the input reads as it did. -/
def resolveFaultsUptoRow : OpenClaim := { program := "ytdhjibnkebbejaadoor", sum := "822f8db8938665f388d9be5dc807e31a0e16ca89a98b62080d9d055e49a1f3be", func := "estoppel/estoppellaw10.ResolveFaults", spec := "resolveFaults", unfollowed := true, recurses := true, named := ["estoppel/date.before"], loops := true, apart := false, laid := [("estoppel/date.before", laid_estoppel_date_before)], narrowed := true }
def ResolveFaultsUptoSaid : Prop := resolveFaultsUptoRow.holds Tryd.pinned (OpenSpec.upto resolveFaultsSpec)

/-- 'estoppellaw10.ResolveCalendar', WHERE WHAT IT READS IS OF BULK AT MOST 1048576: true; the input reads as it did. -/
def resolveCalendarUptoRow : OpenClaim := { program := "ytdhjibnkebbejaadoor", sum := "822f8db8938665f388d9be5dc807e31a0e16ca89a98b62080d9d055e49a1f3be", func := "estoppel/estoppellaw10.ResolveCalendar", spec := "resolveCalendar", unfollowed := true, recurses := true, named := ["estoppel/date.before"], loops := true, apart := false, laid := [("estoppel/date.before", laid_estoppel_date_before)], narrowed := true }
def ResolveCalendarUptoSaid : Prop := resolveCalendarUptoRow.holds Tryd.pinned (OpenSpec.upto resolveCalendarSpec)

end Rows
end Go.Proofs.YtdhjibnkebbejaaDoor
