/-
  Items of any depth in memory: what a walk needs to read them.
-/
import Derived.Test.YticakdajhmfpoaaIncView
import Derived.Test.YticakdajhmfpoaaBlk
import Derived.Test.YticakdajhmfpoaaReg
import Derived.Deep.WholeRow
namespace Go.Proofs.Yticakdajhmfpoaa.Ic
open Go.RowKit Mem Vw Rs
set_option linter.unusedVariables false

def DT.c : DT → Value
  | .node _ c _ _ _ _ => c
def DT.d : DT → Value
  | .node _ _ d _ _ _ => d
def DT.n : DT → Value
  | .node _ _ _ n _ _ => n
def DT.i : DT → Value
  | .node _ _ _ _ i _ => i
theorem DT.cells_eq (x : DT) : x.cells = icells x.h x.c x.d x.n x.i := by cases x; rfl
theorem RowB.slice {B : Nat → Prop} {W : World} {v : Value} {z : Nat} {xs : List (List Value)} (h : RowB B W v z xs) : ∃ A c, v = .slice A xs.length c ∧ xs.length ≤ c ∧ c ≤ 9223372036854775807 := h.1.slice
theorem Lay.conds {B : Nat → Prop} {W : World} {x : DT} (h : Lay B W x) : RowB B W x.c 2 (x.h.conds.map namedc) := by cases h with | node h c d n i l h1 h2 h3 h4 h5 => exact h1
theorem Lay.dates {B : Nat → Prop} {W : World} {x : DT} (h : Lay B W x) : RowB B W x.d 3 (x.h.dates.map civilc) := by cases h with | node h c d n i l h1 h2 h3 h4 h5 => exact h2
theorem Lay.names {B : Nat → Prop} {W : World} {x : DT} (h : Lay B W x) : RowB B W x.n 1 (x.h.names.map fun y => [sv y]) := by cases h with | node h c d n i l h1 h2 h3 h4 h5 => exact h3
theorem Lay.items {B : Nat → Prop} {W : World} {x : DT} (h : Lay B W x) : LayL B W x.l x.i := by cases h with | node h c d n i l h1 h2 h3 h4 h5 => exact ⟨h4, h5⟩
theorem Lay.mk' {B : Nat → Prop} {W : World} {x : DT} (h1 : RowB B W x.c 2 (x.h.conds.map namedc)) (h2 : RowB B W x.d 3 (x.h.dates.map civilc)) (h3 : RowB B W x.n 1 (x.h.names.map fun y => [sv y])) (h4 : LayL B W x.l x.i) : Lay B W x := by
  cases x with | node h c d n i l => exact .node h c d n i l h1 h2 h3 h4.row h4.lay
theorem Lay.one {B : Nat → Prop} {W : World} {x : DT} (h : Lay B W x) : x.cells.toArray.all (·.oneCell') = true := by
  obtain ⟨_, _, e1, _⟩ := h.conds.slice
  obtain ⟨_, _, e2, _⟩ := h.dates.slice
  obtain ⟨_, _, e3, _⟩ := h.names.slice
  obtain ⟨_, _, e4, _⟩ := h.items.row.slice
  rw [DT.cells_eq, e1, e2, e3, e4]
  simp [icells, Value.oneCell', sv, nv]
theorem info_item : (Try.prog.info? 41).map (·.size) = some 33 := by kernel_rfl
theorem info_it (x : DT) : (Try.prog.info? 41).map (·.size) = some x.cells.toArray.size := by
  rw [info_item, show x.cells.toArray.size = 33 from x.cells_len]
theorem info_itl (x : DT) : (Try.prog.info? 41).map (·.size) = some x.cells.length := by rw [info_item, x.cells_len]
theorem LayL.slice {B : Nat → Prop} {W : World} {l : List DT} {v : Value} (h : LayL B W l v) : ∃ A c, v = .slice A l.length c ∧ l.length ≤ c ∧ c ≤ 9223372036854775807 := by
  obtain ⟨A, c, e, h1, h2⟩ := h.row.1.slice
  rw [List.length_map] at e h1
  exact ⟨A, c, e, h1, h2⟩
/-- The elements of a slice that is known as a value. -/
theorem LayL.at {B : Nat → Prop} {W : World} {l : List DT} {A : Option Addr} {n c : Nat} (h : LayL B W l (.slice A n c)) {k : Nat} {x : DT} (hk : l[k]? = some x) : ∃ g o, A = some ⟨g, o, none⟩ ∧ g < W.heap.size ∧ B g ∧ At W g (o + k * 33) x.cells := by
  have hne : l.map DT.cells ≠ [] := by
    intro e
    rw [List.map_eq_nil_iff] at e
    rw [e] at hk; simp at hk
  obtain ⟨g, o, cap, e, h1, _, _, h2⟩ := h.row.1.at hne
  injection e with e1 _ _
  subst e1
  exact ⟨g, o, rfl, h1, h.row.2 _ _ _ _ rfl hne, h2 k _ (by rw [List.getElem?_map, hk]; rfl)⟩
theorem RowB.at {B : Nat → Prop} {W : World} {z : Nat} {xs : List (List Value)} {A : Option Addr} {n c : Nat} (h : RowB B W (.slice A n c) z xs) {k : Nat} {x : List Value} (hk : xs[k]? = some x) : ∃ g o, A = some ⟨g, o, none⟩ ∧ g < W.heap.size ∧ B g ∧ At W g (o + k * z) x := by
  have hne : xs ≠ [] := by intro e; rw [e] at hk; simp at hk
  obtain ⟨g, o, cap, e, h1, _, _, h2⟩ := h.1.at hne
  injection e with e1 _ _
  subst e1
  exact ⟨g, o, rfl, h1, h.2 _ _ _ _ rfl hne, h2 k _ hk⟩
/-- The number of items in all. -/
def tsz (l : List DT) : Nat := sizes (trees l)
theorem tsz_nil : tsz [] = 0 := rfl
theorem tsz_cons (x : DT) (l : List DT) : tsz (x :: l) = tsz x.l + 1 + tsz l := by
  unfold tsz
  rw [trees, sizes_cons, DT.tree_l, ← trees_map]
theorem tsz_app (a b : List DT) : tsz (a ++ b) = tsz a + tsz b := by
  induction a with
  | nil => simp [tsz_nil]
  | cons x a ih => rw [List.cons_append, tsz_cons, tsz_cons, ih]; omega
theorem tsz_lt {l : List DT} {x : DT} (h : x ∈ l) : tsz x.l < tsz l := by
  induction l with
  | nil => exact absurd h List.not_mem_nil
  | cons y l ih =>
    rw [tsz_cons]
    rcases List.mem_cons.1 h with rfl | h
    · omega
    · have := ih h; omega
theorem tsz_take {l : List DT} {k : Nat} {x : DT} (h : l[k]? = some x) : tsz (l.take (k + 1)) = tsz (l.take k) + (tsz x.l + 1) := by
  rw [List.take_add_one, h, tsz_app]
  show _ = _ + (tsz x.l + 1)
  rw [Option.toList, tsz_cons, tsz_nil]
theorem tsz_drop {l : List DT} {k : Nat} {x : DT} (h : l[k]? = some x) : tsz (l.drop k) = tsz x.l + 1 + tsz (l.drop (k + 1)) := by
  obtain ⟨h1, h2⟩ := List.getElem?_eq_some_iff.1 h
  rw [List.drop_eq_getElem_cons h1, h2, tsz_cons]
theorem DOk.inner {x : DT} (h : DOk x) : ∀ y ∈ x.l, DOk y := by cases h with | node h c d n i l h1 h2 h3 h4 h5 => exact h4
theorem DOk.item {x : DT} (h : DOk x) : ItemOk x.h := by cases h with | node h c d n i l h1 h2 h3 h4 h5 => exact h1
theorem DOk.cond {x : DT} (h : DOk x) : ∀ q ∈ x.h.conds, q.name.length ≤ 140737488355328 := by cases h with | node h c d n i l h1 h2 h3 h4 h5 => exact h2
theorem DOk.len {x : DT} (h : DOk x) : x.l.length * 368 ≤ 140737488351232 := by cases h with | node h c d n i l h1 h2 h3 h4 h5 => exact h5
end Go.Proofs.Yticakdajhmfpoaa.Ic
