/-
  Lists of items and sources as they are read; arguments that are sources, opened.
-/
import Derived.Test.YticakdajhmfpoaaResOpen
namespace Go.Proofs.Yticakdajhmfpoaa.Rs
open Go.ChangeShapes Go.WideShapes Go.RowKit Mem Vw
set_option linter.unusedVariables false

abbrev Sl := Value × Value × Value × Value
def ic (p : Item × Sl) : List Value := icells p.1 p.2.1 p.2.2.1 p.2.2.2.1 p.2.2.2.2
def IsSlice (v : Value) : Prop := ∃ A n c, v = .slice A n c
/-- Items with the headers of their slices, in memory. -/
structure Lies (W : World) (z : List (Item × Sl)) (v : Value) : Prop where
  row : Row W v 33 (z.map ic)
  flat : ∀ p ∈ z, Flat W p.1 p.2.1 p.2.2.1 p.2.2.2.1 ∧ IsSlice p.2.2.2.2
theorem Lies.below {W W' : World} {z : List (Item × Sl)} {v : Value} (h : Lies W z v) (hb : Below W.heap.size W W') : Lies W' z v := ⟨h.row.below hb, fun p hp => ⟨(h.flat p hp).1.below hb, (h.flat p hp).2⟩⟩
/-- A slice of items that is read as a list. -/
def Items (W : World) (l : List Item) (v : Value) : Prop := ∃ z : List (Item × Sl), z.map Prod.fst = l ∧ Lies W z v
theorem Items.below {W W' : World} {l : List Item} {v : Value} (h : Items W l v) (hb : Below W.heap.size W W') : Items W' l v := by
  obtain ⟨z, h1, h2⟩ := h
  exact ⟨z, h1, h2.below hb⟩
def scells (n : Bytes) (c : Civil) (d : Int) (v : Value) : List Value := [sv n, nv c.y, nv c.m, nv c.d, nv d, v]
structure SourceOk (s : Source) : Prop where
  name : okS s.name
  frm : CivilOk s.frm
  days : wf s.days
  items : ∀ x ∈ s.items, ItemOk x
  len : s.items.length ≤ maxLen
section
variable {H : Type} {enc : TypeId × Value → H} {W : World} {base : Nat} {spare : Nat → Bool} {held : Bool}
theorem op_items {n : Nat} {v : Value} {y : DataW H × List MemPlace} (h : DataW.trod enc Try.prog W base spare held n 24 [v] = some y) : ∃ l, Items W l v ∧ (∀ x ∈ l, ItemOk x) ∧ l.length ≤ maxLen := by
  obtain ⟨z, hr, hq, hl⟩ := row_of_trod Try.underlying24 sizeapiItem (by omega) ic (fun p => ItemOk p.1 ∧ Flat W p.1 p.2.1 p.2.2.1 p.2.2.2.1 ∧ IsSlice p.2.2.2.2) (fun n cs y _ h => by
    obtain ⟨f, sc, sd, sn, si, m, z, e, h1, h2, _, h3⟩ := op_item h
    have h4 : IsSlice si := by
      rcases DataW.trod_slice Try.underlying24 h3 with ⟨hc, _⟩ | ⟨a, len, cap, _, _, _, _, hc, _⟩
      · injection hc with hc _; exact ⟨_, _, _, hc⟩
      · injection hc with hc _; exact ⟨_, _, _, hc⟩
    exact ⟨(f, sc, sd, sn, si), e, h1, h2, h4⟩) h
  exact ⟨z.map Prod.fst, ⟨z, rfl, hr, fun p hp => (hq p hp).2⟩, fun x hx => by
    obtain ⟨p, hp, rfl⟩ := List.mem_map.1 hx
    exact (hq p hp).1, by rw [List.length_map]; exact hl⟩
set_option maxRecDepth 100000 in
theorem open_source {b0 : Nat} {r : Reach} {v : Value} {d : DataW H} {p : List MemPlace} (hv : Value.okWide Try.prog W r b0 26 v) (h : DataW.Trod enc Try.prog W base spare held 26 v d p) :
    ∃ (s : Source) (si : Value), v = .agg (scells s.name s.frm s.days si).toArray ∧ Items W s.items si ∧ SourceOk s := by
  obtain ⟨cs, rfl, hsz⟩ := okWide_struct Try.underlying26 hv
  obtain ⟨cs⟩ := cs
  obtain ⟨n, hn⟩ := h
  obtain ⟨m, rfl, hl, hf⟩ := fields Try.underlying26 hn
  have hC : Try.prog.cellsOf 26 = 6 := by kernel_rfl
  rw [hC] at hl
  have hl' : cs.length = 6 := hl
  obtain ⟨c0, cs0, rfl, hl0⟩ := cons_of hl'
  obtain ⟨c1, cs1, rfl, hl1⟩ := cons_of hl0
  obtain ⟨c2, cs2, rfl, hl2⟩ := cons_of hl1
  obtain ⟨c3, cs3, rfl, hl3⟩ := cons_of hl2
  obtain ⟨c4, cs4, rfl, hl4⟩ := cons_of hl3
  obtain ⟨c5, cs5, rfl, hl5⟩ := cons_of hl4
  obtain rfl := nil_of hl5
  obtain ⟨z0, j0⟩ : ∃ z, DataW.trod enc Try.prog W base spare held m 9 [c0] = some z := by have := hf 0 _ 1 rfl sizestring; exact this
  obtain ⟨z1, j1⟩ : ∃ z, DataW.trod enc Try.prog W base spare held m 23 [c1, c2, c3] = some z := by have := hf 1 _ 3 rfl sizeapiCivil; exact this
  obtain ⟨z2, j2⟩ : ∃ z, DataW.trod enc Try.prog W base spare held m 3 [c4] = some z := by have := hf 2 _ 1 rfl sizeint; exact this
  obtain ⟨z3, j3⟩ : ∃ z, DataW.trod enc Try.prog W base spare held m 24 [c5] = some z := by have := hf 3 _ 1 rfl sizeSapiItem; exact this
  obtain ⟨x0, e0, w0⟩ := op_str j0
  obtain ⟨x1, e1, w1⟩ := op_civil j1
  obtain ⟨x2, e2, w2⟩ := op_int j2
  obtain ⟨l, hi, hq, hll⟩ := op_items j3
  simp only [List.cons.injEq, and_true] at e0 e2
  simp only [civilc, List.cons.injEq, and_true] at e1
  obtain ⟨rfl, rfl, rfl⟩ := e1
  subst e0 e2
  exact ⟨⟨x0, x1, x2, l⟩, c5, rfl, hi, w0, w1, w2, hq, hll⟩
end
end Go.Proofs.Yticakdajhmfpoaa.Rs
