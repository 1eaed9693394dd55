/-
  Include: a source whose items are appended one after the other.
-/
import Derived.Test.YticakdajhmfpoaaIncHead2
namespace Go.Proofs.Yticakdajhmfpoaa.Ic
open Go.RowKit Mem Vw Rs
set_option linter.unusedVariables false
set_option linter.unusedSimpArgs false

/-- A source being built: its block, its own row of items. -/
structure Bld (bo go : Nat) (s : Rs.Source) (ds : List DT) (iv : Value) (Wb w : World) : Prop where
  lo : bo ≤ Wb.heap.size
  blk : w.heap[go]? = some (.cells (scells s.name s.frm s.days iv).toArray 26 (0, 0))
  own : w.ownsRow bo 41 33 iv ds.length (ds.flatMap DT.cells)
  ne : iv.ownBlock ≠ some go
  fr : Fr (fun g => g = go ∨ bo ≤ g) Wb w
theorem Bld.keep {bo go : Nat} {s : Rs.Source} {ds : List DT} {iv : Value} {Wb w w' : World} (h : Bld bo go s ds iv Wb w) (hf : Fr (fun _ => False) w w') : Bld bo go s ds iv Wb w' :=
  ⟨h.lo, hf.blk h.blk (fun h => h), own_fr h.own hf (fun _ _ _ h => h), h.ne, h.fr.trans' hf (fun _ _ h => h.elim)⟩
theorem Bld.lay {bo go : Nat} {s : Rs.Source} {ds l : List DT} {iv : Value} {Wb w : World} (h : Bld bo go s ds iv Wb w) {B : Nat → Prop} (hB : ∀ g, B g → g < bo ∧ g ≠ go) (hl : ∀ x ∈ ds, Lay B Wb x) : LayL (fun g => bo ≤ g ∨ B g) w ds iv := by
  refine ⟨⟨Row.of_own h.own (fun x _ => x.cells_len), fun g o n c e hne => ?_⟩, fun x hx => ((hl x hx).fr h.fr (fun g hg e => ?_)).mono (fun g _ hg => .inr hg)⟩
  · exact .inl (own_lt h.own g (by rw [e]; exact own_zero h.own e)).1
  · have := hB g hg; omega
theorem bsl_one {B : Nat → Prop} {W : World} {x : DT} (h : Lay B W x) (w : World) : (Instr.buildSlice 24 1 #[(0, .agg x.cells.toArray)]).run Try.prog w = .ok (.slice (some ⟨w.heap.size, 0, none⟩) 1 1) (w.alloc (.cells x.cells.toArray 41)) := by
  obtain ⟨A1, c1, e1, _, _⟩ := h.conds.slice
  obtain ⟨A2, c2, e2, _, _⟩ := h.dates.slice
  obtain ⟨A3, c3, e3, _, _⟩ := h.names.slice
  obtain ⟨A4, c4, e4, _, _⟩ := h.items.slice
  rw [DT.cells_eq, e1, e2, e3, e4]
  exact bsl_item _ _ _ _ _ _ _ _ _ _ _ _ _ _
theorem one_all {cs : List Value} (h : cs.toArray.all (·.oneCell') = true) : ∀ u ∈ cs, u.oneCell' = true := by
  rw [List.all_toArray, List.all_eq_true] at h
  exact h
theorem own_new {w : World} {base g : Nat} {cs : List Value} (h : w.heap[g]? = some (.cells cs.toArray 41 (0, 0))) (hb : base ≤ g) (hl : cs.length = 33) : w.ownsRow base 41 33 (.slice (some ⟨g, 0, none⟩) 1 1) 1 cs := by
  refine ⟨by omega, .inr ⟨g, 1, cs.toArray, rfl, hb, h, Nat.le_refl _, by decide, by simp [hl], by
    show cs.take (1 * 33) = cs
    exact List.take_of_length_le (by omega)⟩⟩
theorem begins_any (p r : Rs.Bytes) (W : World) (h : (p ++ dot :: r).length ≤ maxLen) : Calls Try.prog 16 #[.string ⟨(p ++ dot :: r).toArray⟩, .string ⟨p.toArray⟩] W fun e w' => e = .returned (.bool true) ∧ w' = W := by
  obtain ⟨n, hn⟩ : ∃ n, p ++ dot :: r = n := ⟨_, rfl⟩
  have hlen : p.length < n.length := by rw [← hn, List.length_append, List.length_cons]; omega
  have hl2 : n.length ≤ 9223372036854775807 := by rw [hn] at h; unfold maxLen at h; omega
  have hx : (⟨n.toArray⟩ : ByteArray).extract 0 p.length = ⟨p.toArray⟩ := by
    apply ByteArray.ext
    rw [ByteArray.data_extract]
    rw [← hn]
    simp
  have hi : (⟨n.toArray⟩ : ByteArray)[p.length]'hlen = 46 := by
    have h1 : n[p.length] = dot := by
      have h2 : n[p.length]? = some dot := by rw [← hn]; simp
      rw [List.getElem?_eq_getElem hlen] at h2
      exact Option.some.inj h2
    exact h1
  rw [hn]
  clear hn h
  have i1 : (p.length : Int) < (n.length : Int) := by omega
  have i0 : (0 : Int) ≤ (p.length : Int) := Int.natCast_nonneg _
  go_enter Try.func16, Try.ntmps16
  go_wp2_with fail
  go_ret
  exact ⟨rfl, rfl⟩
end Go.Proofs.Yticakdajhmfpoaa.Ic
