/-
  The reference's comparison says true of trees that are equal apart from their offsets.
-/
import Derived.Test.YtfficindoecpfaaGreatDoorPriSame
set_option linter.unusedVariables false
set_option linter.unusedSimpArgs false
namespace Go.Proofs.YtfficindoecpfaaGreatDoor.Pt
open Go.RowKit Mem Vw
open Ic (RowB DT Lay LayL tsz)
theorem EqH.symm {x y:Rs.Item} (h:EqH x y):EqH y x:=by
 unfold EqH at h ⊢
 cases x
 cases y
 simp only [Rs.Item.mk.injEq] at h ⊢
 simp [h]
theorem Al2.at {α β:Type} {R:α→β→Prop}: ∀ {l:List α} {l':List β},Al2 R l l'→l'.length=l.length∧ ∀(j:Nat) (x:α) (y:β),l[j]?=some x→l'[j]?=some y→R x y
 | [],[],_=>⟨rfl,fun j x y h=>by simp at h⟩
 |a::l,b::l',h=>⟨by rw [List.length_cons,List.length_cons,h.2.at.1],fun j x y hx hy=>by
   cases j with
   |zero=>simp at hx hy;subst hx hy;exact h.1
   |succ j=>simp at hx hy;exact h.2.at.2 j x y hx hy⟩
theorem say_nil (va vb:Value) (Ba Bb:Nat→Prop):Say [] [] va vb Ba Bb:=items_say [] [] va vb Ba Bb rfl (fun j x y h=>by simp at h)
theorem say_inner {a b:List DT} (h:Al2 EqI (b.map DT.tree) (a.map DT.tree)) (va vb:Value) (Ba Bb:Nat→Prop):Say a b va vb Ba Bb:=by
 obtain ⟨h1,h2⟩:=h.at
 rw [List.length_map,List.length_map] at h1
 refine items_say a b va vb Ba Bb h1.symm (fun j x y hx hy=>?_)
 obtain ⟨h3,h4,h5⟩:=h2 j y.tree x.tree (by rw [List.getElem?_map,hy];rfl) (by rw [List.getElem?_map,hx];rfl)
 rw [DT.tree_h,DT.tree_h] at h3
 rw [DT.tree_l,List.map_eq_nil_iff] at h4 h5
 rw [h4,h5]
 exact ⟨h3.symm,say_nil _ _ _ _⟩
theorem say_trees {a b:List DT} (h:Al2 EqT (b.map DT.tree) (a.map DT.tree)) (va vb:Value) (Ba Bb:Nat→Prop):Say a b va vb Ba Bb:=by
 obtain ⟨h1,h2⟩:=h.at
 rw [List.length_map,List.length_map] at h1
 refine items_say a b va vb Ba Bb h1.symm (fun j x y hx hy=>?_)
 obtain ⟨h3,h4⟩:=h2 j y.tree x.tree (by rw [List.getElem?_map,hy];rfl) (by rw [List.getElem?_map,hx];rfl)
 rw [DT.tree_h,DT.tree_h] at h3
 rw [DT.tree_l,DT.tree_l] at h4
 exact ⟨h3.symm,say_inner h4 _ _ _ _⟩
theorem bs_text (F:Rs.Bytes):Lx.bs ⟨F.toArray⟩=F:=by simp [Lx.bs]
end Go.Proofs.YtfficindoecpfaaGreatDoor.Pt
