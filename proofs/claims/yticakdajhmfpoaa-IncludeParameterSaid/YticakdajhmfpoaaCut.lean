/-
  A region of a function's code, taken out by its number: so that its walk is a theorem of its own.
-/
import Derived.WalkKit
namespace Go.Proofs.Yticakdajhmfpoaa.Cut
/-- The region with a number. -/
def find (n : Nat) : Code → Option Code
  | .region k ops d => bif Nat.beq k n then some (.region k ops d) else none
  | .seq a b => match find n a with
    | some c => some c
    | none => find n b
  | .cond _ a b => match find n a with
    | some c => some c
    | none => find n b
  | .block _ c => find n c
  | .loop c => find n c
  | .rangeFunc _ _ _ c => find n c
  | .scope c => find n c
  | _ => none
noncomputable def region (f : Func) (n : Nat) : Code := (f.body.bind (find n)).getD .skip
/-- An exit that does not read the frame when it is a panic. -/
def Blind (Q : Exit → Act → World → Prop) : Prop := ∀ c a d v w, Q (.panic c) (Act.put a (some d) v) w → Q (.panic c) a w
end Go.Proofs.Yticakdajhmfpoaa.Cut
