/-
  Include: a source whose items are appended one after the other.
-/
import Derived.Test.YticakdajhmfpoaaIncHead2
namespace Go.Proofs.Yticakdajhmfpoaa.Ic
open Go.RowKit Mem Vw Rs
set_option linter.unusedVariables false
set_option linter.unusedSimpArgs false

/-- A source being built: its block, its own row of items. -/
structure Bld (bo go : Nat) (s : Rs.Source) (ds : List DT) (iv : Value) (Wb w : World) : Prop where
  lo : bo ≤ Wb.heap.size
  blk : w.heap[go]? = some (.cells (scells s.name s.frm s.days iv).toArray 26 (0, 0))
  own : w.ownsRow bo 41 33 iv ds.length (ds.flatMap DT.cells)
  gb : go < bo
  fr : Fr (fun g => g = go ∨ bo ≤ g) Wb w
theorem Bld.keep {bo go : Nat} {s : Rs.Source} {ds : List DT} {iv : Value} {Wb w w' : World} (h : Bld bo go s ds iv Wb w) (hf : Fr (fun _ => False) w w') : Bld bo go s ds iv Wb w' :=
  ⟨h.lo, hf.blk h.blk (fun h => h), own_fr h.own hf (fun _ _ _ h => h), h.gb, h.fr.trans' hf (fun _ _ h => h.elim)⟩
theorem Bld.lay {bo go : Nat} {s : Rs.Source} {ds l : List DT} {iv : Value} {Wb w : World} (h : Bld bo go s ds iv Wb w) {B : Nat → Prop} (hB : ∀ g, B g → g < bo ∧ g ≠ go) (hl : ∀ x ∈ ds, Lay B Wb x) : LayL (fun g => bo ≤ g ∨ B g) w ds iv := by
  refine ⟨⟨Row.of_own h.own (fun x _ => x.cells_len), fun g o n c e hne => ?_⟩, fun x hx => ((hl x hx).fr h.fr (fun g hg e => ?_)).mono (fun g _ hg => .inr hg)⟩
  · exact .inl (own_lt h.own g (by rw [e]; exact own_zero h.own e)).1
  · have := hB g hg; omega
theorem bsl_one {B : Nat → Prop} {W : World} {x : DT} (h : Lay B W x) (w : World) : (Instr.buildSlice 24 1 #[(0, .agg x.cells.toArray)]).run Try.prog w = .ok (.slice (some ⟨w.heap.size, 0, none⟩) 1 1) (w.alloc (.cells x.cells.toArray 41)) := by
  obtain ⟨A1, c1, e1, _, _⟩ := h.conds.slice
  obtain ⟨A2, c2, e2, _, _⟩ := h.dates.slice
  obtain ⟨A3, c3, e3, _, _⟩ := h.names.slice
  obtain ⟨A4, c4, e4, _, _⟩ := h.items.slice
  rw [DT.cells_eq, e1, e2, e3, e4]
  exact bsl_item _ _ _ _ _ _ _ _ _ _ _ _ _ _
theorem one_all {cs : List Value} (h : cs.toArray.all (·.oneCell') = true) : ∀ u ∈ cs, u.oneCell' = true := by
  rw [List.all_toArray, List.all_eq_true] at h
  exact h
end Go.Proofs.Yticakdajhmfpoaa.Ic
