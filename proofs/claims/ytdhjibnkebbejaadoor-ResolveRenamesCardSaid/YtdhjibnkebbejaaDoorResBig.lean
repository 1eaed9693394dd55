/-
  The texts of a source that small does not look at are no longer than the frame allows.
-/
import Derived.Test.YtdhjibnkebbejaaDoorResView
import Derived.Test.YtdhjibnkebbejaaDoorBig
namespace Go.Proofs.YtdhjibnkebbejaaDoor.Rs
open Go.ChangeShapes Go.WideShapes Go.RowKit Mem Vw
set_option linter.unusedVariables false

section
variable {H : Type} {enc : TypeId × Value → H} {W : World} {base : Nat} {spare : Nat → Bool} {held : Bool}
set_option maxRecDepth 100000 in
theorem big_of {s : Source} {si : Value} {d : DataW H} {p : List MemPlace} (h : DataW.Trod enc Tryd.prog W base spare held 26 (.agg (scells s.name s.frm s.days si).toArray) d p) (hi : Items W s.items si) (hw : ∀ k ∈ d.weights Tryd.prog 26, k ≤ reachBytes) :
    ∀ x ∈ s.items, x.sum.length ≤ 140737488355328 ∧ ∀ c ∈ x.conds, c.name.length ≤ 140737488355328 := by
  have hR : reachBytes ≤ 140737488355328 := by decide
  obtain ⟨z, hz, hl⟩ := hi
  obtain ⟨n, hn⟩ := h
  intro x hx
  rw [← hz] at hx
  obtain ⟨q, hq, rfl⟩ := List.mem_map.1 hx
  obtain ⟨m, y, h1, w1⟩ := wt_field Tryd.underlying26 hn 3 _ 1 rfl sizeSapiItem
  obtain ⟨i, hqi⟩ := List.mem_iff_getElem?.1 hq
  obtain ⟨m2, y2, h2, w2⟩ := wt_elem Tryd.underlying24 sizeapiItem hl.row h1 i (ic q) (by rw [List.getElem?_map, hqi]; rfl) rfl
  constructor
  · obtain ⟨m3, y3, h3, w3⟩ := wt_field Tryd.underlying55 h2 14 _ 1 rfl sizestring
    exact Nat.le_trans (hw _ (w1 _ (w2 _ (w3 _ (wt_text Tryd.underlying9 h3))))) hR
  · intro c hc
    obtain ⟨m3, y3, h3, w3⟩ := wt_field Tryd.underlying55 h2 9 _ 1 rfl sizeSapiNamed
    obtain ⟨k, hck⟩ := List.mem_iff_getElem?.1 hc
    obtain ⟨m4, y4, h4, w4⟩ := wt_elem Tryd.underlying50 sizeapiNamed (hl.flat q hq).1.conds h3 k (namedc c) (by rw [List.getElem?_map, hck]; rfl) rfl
    obtain ⟨m5, y5, h5, w5⟩ := wt_field Tryd.underlying116 h4 0 _ 1 rfl sizestring
    exact Nat.le_trans (hw _ (w1 _ (w2 _ (w3 _ (w4 _ (w5 _ (wt_text Tryd.underlying9 h5))))))) hR
end
end Go.Proofs.YtdhjibnkebbejaaDoor.Rs
