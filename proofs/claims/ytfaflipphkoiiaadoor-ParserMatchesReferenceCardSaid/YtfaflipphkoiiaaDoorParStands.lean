/-
  What the function stands of the statements returns: items stand in a text with their key words.
-/
import Derived.Test.YtfaflipphkoiiaaDoorPkParD
set_option maxHeartbeats 64000000
set_option maxRecDepth 100000
set_option linter.unusedVariables false
namespace Go.Proofs.YtfaflipphkoiiaaDoor.Pr
open Go.RowKit Mem
open Lx (Tok bs jx7 kx8 text_of)
def Chain {α:Type} (P:α→Nat→Nat→Prop):List α→Nat→Nat→Prop
 | [],a,b=>a=b
 |x::l,a,b=> ∃c,P x a c∧Chain P l c b
theorem Chain.imp {α:Type} {P Q:α→Nat→Nat→Prop} (l:List α) (h: ∀x∈l,∀a b,P x a b→Q x a b): ∀a b,Chain P l a b→Chain Q l a b:=by
 induction l with
 |nil=>intro a b hc;exact hc
 |cons x l ih=>intro a b ⟨c,h1,h2⟩;exact ⟨c,h x (by simp) a c h1,ih (fun y hy=>h y (by simp [hy])) c b h2⟩
end Go.Proofs.YtfaflipphkoiiaaDoor.Pr
