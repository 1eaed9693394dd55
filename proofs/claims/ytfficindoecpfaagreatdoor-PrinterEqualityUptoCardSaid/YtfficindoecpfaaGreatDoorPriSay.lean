/-
  The reference's comparison says true of trees that are equal apart from their offsets.
-/
import Derived.Test.YtfficindoecpfaaGreatDoorPriSame
set_option linter.unusedVariables false
set_option linter.unusedSimpArgs false
namespace Go.Proofs.YtfficindoecpfaaGreatDoor.Pt
open Go.RowKit Mem Vw
open Ic (RowB DT Lay LayL tsz)
theorem EqH.symm {x y:Rs.Item} (h:EqH x y):EqH y x:=by
 unfold EqH at h ⊢
 cases x
 cases y
 simp only [Rs.Item.mk.injEq] at h ⊢
 simp [h]
theorem Al2.at {α β:Type} {R:α→β→Prop}: ∀ {l:List α} {l':List β},Al2 R l l'→l'.length=l.length∧ ∀(j:Nat) (x:α) (y:β),l[j]?=some x→l'[j]?=some y→R x y
 | [],[],_=>⟨rfl,fun j x y h=>by simp at h⟩
 |a::l,b::l',h=>⟨by rw [List.length_cons,List.length_cons,h.2.at.1],fun j x y hx hy=>by
   cases j with
   |zero=>simp at hx hy;subst hx hy;exact h.1
   |succ j=>simp at hx hy;exact h.2.at.2 j x y hx hy⟩
end Go.Proofs.YtfficindoecpfaaGreatDoor.Pt
