/-
  A region of a function's code, taken out by its number: so that its walk is a theorem of its own.
-/
import Derived.WalkKit
namespace Go.Proofs.YtfficindoecpfaaGreatDoor.Cut
def find (n:Nat):Code→Option Code
 | .region k ops d=>bif Nat.beq k n then some (.region k ops d) else none
 | .seq a b=>match find n a with
  |some c=>some c
  |none=>find n b
 | .cond _ a b=>match find n a with
  |some c=>some c
  |none=>find n b
 | .block _ c=>find n c
 | .loop c=>find n c
 | .rangeFunc _ _ _ c=>find n c
 | .scope c=>find n c
 |_=>none
noncomputable def region (f:Func) (n:Nat):Code:=(f.body.bind (find n)).getD .skip
end Go.Proofs.YtfficindoecpfaaGreatDoor.Cut
