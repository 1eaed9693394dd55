/-
  Items with items in them, to any depth, in memory; arguments opened.
-/
import Derived.Test.YticakdajhmfpoaaIncPlain
import Derived.Test.YticakdajhmfpoaaResView
import Derived.Test.YticakdajhmfpoaaBig
namespace Go.Proofs.Yticakdajhmfpoaa.Ic
open Go.ChangeShapes Go.WideShapes Go.RowKit Mem Vw Rs
set_option linter.unusedVariables false

/-- An item with the headers of its slices. -/
inductive DT where
  | node (h : Rs.Item) (c d n i : Value) (l : List DT)
def DT.h : DT → Rs.Item
  | .node h _ _ _ _ _ => h
def DT.l : DT → List DT
  | .node _ _ _ _ _ l => l
def DT.cells : DT → List Value
  | .node h c d n i _ => icells h c d n i
mutual
def DT.tree : DT → Tree
  | .node h _ _ _ _ l => .node h (trees l)
def trees : List DT → List Tree
  | [] => []
  | x :: l => x.tree :: trees l
end
theorem trees_map (l : List DT) : trees l = l.map DT.tree := by
  induction l with
  | nil => rfl
  | cons x l ih => rw [trees, ih]; rfl
theorem DT.tree_h (x : DT) : x.tree.h = x.h := by cases x; rw [DT.tree]; rfl
theorem DT.tree_l (x : DT) : x.tree.l = x.l.map DT.tree := by cases x; rw [DT.tree]; exact trees_map _
theorem DT.cells_len (x : DT) : x.cells.length = 33 := by cases x; rfl
/-- A slice that is read; its block is one of some. -/
def RowB (B : Nat → Prop) (W : World) (v : Value) (z : Nat) (xs : List (List Value)) : Prop := Row W v z xs ∧ ∀ g o n c, v = .slice (some ⟨g, o, none⟩) n c → xs ≠ [] → B g
theorem RowB.fr {B S : Nat → Prop} {W W' : World} {v : Value} {z : Nat} {xs : List (List Value)} (h : RowB B W v z xs) (hf : Fr S W W') (hs : ∀ g, B g → ¬ S g) : RowB B W' v z xs := by
  refine ⟨?_, h.2⟩
  obtain ⟨A, cap, rfl, hc, h1⟩ := h.1
  refine ⟨A, cap, rfl, hc, ?_⟩
  rcases h1 with h1 | ⟨g, o, hA, hg, hr⟩
  · exact .inl h1
  · by_cases he : xs = []
    · exact .inl he
    · subst hA
      have hb : B g := h.2 g o _ _ rfl he
      refine .inr ⟨g, o, rfl, Nat.lt_of_lt_of_le hg hf.size, fun i x hx j u hj => ?_⟩
      have h2 := hr i x hx j u hj
      have h3 := hf.block g hg (hs g hb)
      unfold World.cell? at h2 ⊢
      simpa only [h3] using h2
theorem RowB.mono {B C : Nat → Prop} {W : World} {v : Value} {z : Nat} {xs : List (List Value)} (h : RowB B W v z xs) (hc : ∀ g, g < W.heap.size → B g → C g) : RowB C W v z xs :=
  ⟨h.1, fun g o n c e hx => by
    obtain ⟨A, cap, e2, _, h1⟩ := h.1
    rcases h1 with h1 | ⟨g', o', hA, hg, _⟩
    · exact absurd h1 hx
    · rw [e2] at e; injection e with e3 _ _; rw [hA] at e3; injection e3 with e4; injection e4 with e5 _ _; subst e5
      exact hc _ hg (h.2 g' o' _ _ (by rw [e2, hA]) hx)⟩
theorem RowB.nil (B : Nat → Prop) (W : World) (z : Nat) : RowB B W Vw.nil z [] := ⟨Row.nil W z, fun _ _ _ _ _ h => absurd rfl h⟩
/-- An item lies in memory, with all that is in it. -/
inductive Lay (B : Nat → Prop) (W : World) : DT → Prop where
  | node (h : Rs.Item) (c d n i : Value) (l : List DT) : RowB B W c 2 (h.conds.map namedc) → RowB B W d 3 (h.dates.map civilc) → RowB B W n 1 (h.names.map fun x => [sv x]) → RowB B W i 33 (l.map DT.cells) → (∀ x ∈ l, Lay B W x) → Lay B W (.node h c d n i l)
theorem Lay.fr {B S : Nat → Prop} {W W' : World} {x : DT} (h : Lay B W x) (hf : Fr S W W') (hs : ∀ g, B g → ¬ S g) : Lay B W' x := by
  induction h with
  | node h c d n i l h1 h2 h3 h4 _ ih => exact .node h c d n i l (h1.fr hf hs) (h2.fr hf hs) (h3.fr hf hs) (h4.fr hf hs) ih
theorem Lay.mono {B C : Nat → Prop} {W : World} {x : DT} (h : Lay B W x) (hc : ∀ g, g < W.heap.size → B g → C g) : Lay C W x := by
  induction h with
  | node h c d n i l h1 h2 h3 h4 _ ih => exact .node h c d n i l (h1.mono hc) (h2.mono hc) (h3.mono hc) (h4.mono hc) ih
theorem Lay.inner {B : Nat → Prop} {W : World} {x : DT} (h : Lay B W x) : ∀ y ∈ x.l, Lay B W y := by
  cases h with
  | node h c d n i l h1 h2 h3 h4 h5 => exact h5
/-- What is known of an item that came in: its fields are values of their types, to any depth. -/
inductive DOk : DT → Prop where
  | node (h : Rs.Item) (c d n i : Value) (l : List DT) : ItemOk h → (∀ q ∈ h.conds, q.name.length ≤ 140737488355328) → h.sum.length ≤ 140737488355328 → (∀ x ∈ l, DOk x) → l.length * 368 ≤ 140737488351232 → DOk (.node h c d n i l)
/-- A slice of items lies in memory. -/
structure LayL (B : Nat → Prop) (W : World) (l : List DT) (v : Value) : Prop where
  row : RowB B W v 33 (l.map DT.cells)
  lay : ∀ x ∈ l, Lay B W x
theorem LayL.fr {B S : Nat → Prop} {W W' : World} {l : List DT} {v : Value} (h : LayL B W l v) (hf : Fr S W W') (hs : ∀ g, B g → ¬ S g) : LayL B W' l v := ⟨h.row.fr hf hs, fun x hx => (h.lay x hx).fr hf hs⟩
theorem LayL.mono {B C : Nat → Prop} {W : World} {l : List DT} {v : Value} (h : LayL B W l v) (hc : ∀ g, g < W.heap.size → B g → C g) : LayL C W l v := ⟨h.row.mono hc, fun x hx => (h.lay x hx).mono hc⟩
def All : Nat → Prop := fun _ => True
theorem LayL.below {W W' : World} {l : List DT} {v : Value} (h : LayL All W l v) (hb : Below W.heap.size W W') : LayL All W' l v := h.fr (S := fun _ => False) (Fr.of_below hb) (fun _ _ h => h)
theorem Row.all {W : World} {v : Value} {z : Nat} {xs : List (List Value)} (h : Row W v z xs) : RowB All W v z xs := ⟨h, fun _ _ _ _ _ _ => trivial⟩
section
variable {H : Type} {enc : TypeId × Value → H} {P : Program} {W : World} {base : Nat} {spare : Nat → Bool} {held : Bool}
/-- A field of a struct that is read. -/
theorem wt_fieldL {n : Nat} {t : TypeId} {fs : Array Field} {cs : List Value} {y : DataW H × List MemPlace} (ht : P.underlying t = some (.struct fs)) (h : DataW.trod enc P W base spare held n t cs = some y) (i : Nat) (f : Field) (s : Nat) (hi : fs[i]? = some f) (hs : P.cellsOf f.type = s) :
    ∃ m z, m < n ∧ DataW.trod enc P W base spare held m f.type ((cs.drop f.offset).take s) = some z ∧ ∀ x ∈ z.1.weights P f.type, x ∈ y.1.weights P t := by
  obtain ⟨xs, m, hnm, rfl, _, hx, hf⟩ := DataW.trod_struct ht h
  subst hs
  have hi2 : i < xs.length := by rw [hx]; exact (Array.getElem?_eq_some_iff.1 hi).1
  refine ⟨m, xs[i], by omega, by rw [hf i f hi, List.getElem?_eq_getElem hi2], ?_⟩
  exact wt_struct ht hi (by rw [List.getElem?_map, List.getElem?_eq_getElem hi2]; rfl)
/-- An element of a slice that is read. -/
theorem wt_elemL {n : Nat} {t e : TypeId} {v : Value} {z : Nat} {xs : List (List Value)} {y : DataW H × List MemPlace} (ht : P.underlying t = some (.slice e)) (hC : P.cellsOf e = z) (hr : Row W v z xs) (h : DataW.trod enc P W base spare held n t [v] = some y) (i : Nat) (x : List Value) (hx : xs[i]? = some x) (hl : x.length = z) :
    ∃ m d, m < n ∧ DataW.trod enc P W base spare held m e x = some d ∧ ∀ k ∈ d.1.weights P e, k ∈ y.1.weights P t := by
  have hil : i < xs.length := (List.getElem?_eq_some_iff.1 hx).1
  have hne : xs ≠ [] := by intro e; rw [e] at hil; simp at hil
  obtain ⟨g, o, cap, rfl, _, _, _, hat⟩ := hr.at hne
  rcases DataW.trod_slice ht h with ⟨hcs, _⟩ | ⟨a, len, cap', elems, rest, m, hnm, hcs, rfl, _, _, _, hlen, hel, _, _⟩
  · injection hcs with hcs _
    injection hcs with h1 _ _
    cases h1
  · injection hcs with hcs _
    injection hcs with h1 h2 _
    injection h1 with h1
    subst h1
    rw [hC] at hel
    have h1 := hel i (by omega)
    have hi2 : i < elems.length := by omega
    rw [List.getElem?_eq_getElem hi2, Option.bind_eq_some_iff] at h1
    obtain ⟨cs, hc2, hc3⟩ := h1
    obtain ⟨h4, h5⟩ := cells_at hc2
    have hcx : cs = x := by
      apply List.ext_getElem?
      intro j
      by_cases hj : j < z
      · have e1 : cs[j]? = some cs[j] := List.getElem?_eq_getElem (by omega)
        have e2 : x[j]? = some x[j] := List.getElem?_eq_getElem (by omega)
        have k1 := h5 j _ e1
        have k2 := hat i x hx j _ e2
        rw [add_plain, add_plain, k2] at k1
        rw [e1, e2]
        exact k1.symm
      · rw [List.getElem?_eq_none (by omega), List.getElem?_eq_none (by omega)]
    subst hcx
    exact ⟨m, elems[i], by omega, hc3, wt_slice ht (List.mem_map_of_mem (List.getElem_mem hi2))⟩
end
section
variable {H : Type} {enc : TypeId × Value → H} {W : World} {base : Nat} {spare : Nat → Bool} {held : Bool}
/-- A slice's length by its weight. -/
theorem len_wt {P : Program} {n : Nat} {t e : TypeId} {A : Option Addr} {len cap M : Nat} {y : DataW H × List MemPlace} (ht : P.underlying t = some (.slice e)) (h : DataW.trod enc P W base spare held n t [.slice A len cap] = some y) (hw : ∀ k ∈ y.1.weights P t, k ≤ M) : len * P.bytesOf e ≤ M := by
  rcases DataW.trod_slice ht h with ⟨hcs, _⟩ | ⟨a, len', cap', elems, rest, m, _, hcs, rfl, _, _, _, hlen, _, _, _⟩
  · injection hcs with hcs _
    injection hcs with _ h2 _
    rw [h2]; omega
  · injection hcs with hcs _
    injection hcs with _ h2 _
    have h3 := hw ((elems.length + rest.length) * P.bytesOf e) (by
      unfold DataW.weights
      rw [ht]
      simp)
    rw [h2, ← hlen]
    exact Nat.le_trans (Nat.mul_le_mul_right _ (Nat.le_add_right _ _)) h3
end
section
variable {H : Type} {enc : TypeId × Value → H} {W : World} {base : Nat} {spare : Nat → Bool} {held : Bool}
set_option maxRecDepth 100000 in
theorem op_trees : ∀ (n : Nat) (v : Value) (y : DataW H × List MemPlace), DataW.trod enc Try.prog W base spare held n 24 [v] = some y → (∀ k ∈ y.1.weights Try.prog 24, k ≤ reachBytes) → ∃ l : List DT, LayL All W l v ∧ (∀ x ∈ l, DOk x) ∧ l.length * 368 ≤ 140737488351232 := by
  intro n
  induction n using Nat.strongRecOn with
  | ind n ih =>
    intro v y h hw
    have hR : reachBytes ≤ 140737488355328 := by decide
    obtain ⟨l, hr, hq, hl⟩ := row_of_trod Try.underlying24 sizeapiItem (by omega) ic (fun p => ItemOk p.1 ∧ Flat W p.1 p.2.1 p.2.2.1 p.2.2.2.1) (fun n cs y _ h => by
      obtain ⟨f, sc, sd, sn, si, m, z, e, h1, h2, _, h3⟩ := op_item h
      exact ⟨(f, sc, sd, sn, si), e, h1, h2⟩) h
    have key : ∀ p ∈ l, ∃ x : DT, x.cells = ic p ∧ Lay All W x ∧ DOk x := by
      intro p hp
      obtain ⟨i, hpi⟩ := List.mem_iff_getElem?.1 hp
      obtain ⟨m2, y2, l2', h2, w2⟩ := wt_elemL Try.underlying24 sizeapiItem hr h i (ic p) (by rw [List.getElem?_map, hpi]; rfl) rfl
      obtain ⟨m3, y3, l3', h3, w3⟩ := wt_fieldL Try.underlying41 h2 21 _ 1 rfl sizeSapiItem
      have hlt : m3 < n := by omega
      obtain ⟨l2, g1, g2, g3⟩ := ih m3 hlt _ y3 h3 (fun k hk => hw k (w2 k (w3 k hk)))
      obtain ⟨q1, q2⟩ := hq p hp
      refine ⟨.node p.1 p.2.1 p.2.2.1 p.2.2.2.1 p.2.2.2.2 l2, rfl, .node _ _ _ _ _ _ (Row.all q2.conds) (Row.all q2.dates) (Row.all q2.names) g1.row g1.lay, .node _ _ _ _ _ _ q1 ?_ ?_ g2 g3⟩
      · intro c hc
        obtain ⟨m3, y3, h3, w3⟩ := wt_field Try.underlying41 h2 9 _ 1 rfl sizeSapiNamed
        obtain ⟨k, hck⟩ := List.mem_iff_getElem?.1 hc
        obtain ⟨m4, y4, h4, w4⟩ := wt_elem Try.underlying34 sizeapiNamed q2.conds h3 k (namedc c) (by rw [List.getElem?_map, hck]; rfl) rfl
        obtain ⟨m5, y5, h5, w5⟩ := wt_field Try.underlying57 h4 0 _ 1 rfl sizestring
        exact Nat.le_trans (hw _ (w2 _ (w3 _ (w4 _ (w5 _ (wt_text Try.underlying9 h5)))))) hR
      · obtain ⟨m3, y3, h3, w3⟩ := wt_field Try.underlying41 h2 14 _ 1 rfl sizestring
        exact Nat.le_trans (hw _ (w2 _ (w3 _ (wt_text Try.underlying9 h3)))) hR
    have pick : ∀ l : List (Rs.Item × Sl), (∀ p ∈ l, ∃ x : DT, x.cells = ic p ∧ Lay All W x ∧ DOk x) → ∃ z : List DT, z.map DT.cells = l.map ic ∧ (∀ x ∈ z, Lay All W x) ∧ (∀ x ∈ z, DOk x) := by
      intro l
      induction l with
      | nil => intro _; exact ⟨[], rfl, fun x hx => absurd hx (List.not_mem_nil), fun x hx => absurd hx (List.not_mem_nil)⟩
      | cons p l ih2 =>
        intro hk
        obtain ⟨x, hx1, hx2, hx3⟩ := hk p (List.mem_cons_self ..)
        obtain ⟨z, hz1, hz2, hz3⟩ := ih2 (fun q hq => hk q (List.mem_cons_of_mem _ hq))
        exact ⟨x :: z, by rw [List.map_cons, List.map_cons, hx1, hz1], fun y hy => by
          rcases List.mem_cons.1 hy with rfl | hy
          · exact hx2
          · exact hz2 y hy, fun y hy => by
          rcases List.mem_cons.1 hy with rfl | hy
          · exact hx3
          · exact hz3 y hy⟩
    obtain ⟨z, hz1, hz2, hz3⟩ := pick l key
    refine ⟨z, ⟨Row.all (by rw [hz1]; exact hr), hz2⟩, hz3, ?_⟩
    have h9 := congrArg List.length hz1
    rw [List.length_map, List.length_map] at h9
    obtain ⟨A, cp, e0, _, _⟩ := hr.slice
    subst e0
    have hb : Try.prog.bytesOf 41 = 368 := by kernel_rfl
    have h8 := len_wt (M := reachBytes) Try.underlying24 h hw
    rw [hb, List.length_map] at h8
    rw [h9]
    exact Nat.le_trans h8 (by decide)
set_option maxRecDepth 100000 in
theorem open_src {b0 : Nat} {r : Reach} {v : Value} {d : DataW H} {p : List MemPlace} (hv : Value.okWide Try.prog W r b0 26 v) (h : DataW.Trod enc Try.prog W base spare held 26 v d p) (hw : ∀ k ∈ d.weights Try.prog 26, k ≤ reachBytes) :
    ∃ (s : Rs.Source) (l : List DT) (si : Value), v = .agg (scells s.name s.frm s.days si).toArray ∧ LayL All W l si ∧ (∀ x ∈ l, DOk x) ∧ l.length ≤ maxLen := by
  have h0 := h
  obtain ⟨s, si, rfl, _, _⟩ := Rs.open_source hv h
  obtain ⟨n, hn⟩ := h0
  obtain ⟨m, y, h1, w1⟩ := wt_field Try.underlying26 hn 3 _ 1 rfl sizeSapiItem
  obtain ⟨l, g1, g2, g3⟩ := op_trees m si y h1 (fun k hk => hw k (w1 k hk))
  exact ⟨s, l, si, rfl, g1, g2, by unfold maxLen; omega⟩
set_option maxRecDepth 100000 in
theorem open_it {b0 : Nat} {r : Reach} {v : Value} {d : DataW H} {p : List MemPlace} (hv : Value.okWide Try.prog W r b0 41 v) (h : DataW.Trod enc Try.prog W base spare held 41 v d p) (hw : ∀ k ∈ d.weights Try.prog 41, k ≤ reachBytes) :
    ∃ x : DT, v = .agg x.cells.toArray ∧ Lay All W x ∧ DOk x := by
  have hR : reachBytes ≤ 140737488355328 := by decide
  obtain ⟨cs, rfl, hsz⟩ := okWide_struct Try.underlying41 hv
  obtain ⟨n, hn⟩ := h
  obtain ⟨cs⟩ := cs
  obtain ⟨f, sc, sd, sn, si, m, z, e, h1, h2, _, h3⟩ := op_item hn
  have e' : cs = icells f sc sd sn si := e
  subst e'
  obtain ⟨m3, y3, h3, w3⟩ := wt_field Try.underlying41 hn 21 _ 1 rfl sizeSapiItem
  obtain ⟨l2, g1, g2, g3⟩ := op_trees m3 _ y3 h3 (fun k hk => hw k (w3 k hk))
  refine ⟨.node f sc sd sn si l2, rfl, .node _ _ _ _ _ _ (Row.all h2.conds) (Row.all h2.dates) (Row.all h2.names) g1.row g1.lay, .node _ _ _ _ _ _ h1 ?_ ?_ g2 g3⟩
  · intro c hc
    obtain ⟨m3, y3, h3, w3⟩ := wt_field Try.underlying41 hn 9 _ 1 rfl sizeSapiNamed
    obtain ⟨k, hck⟩ := List.mem_iff_getElem?.1 hc
    obtain ⟨m4, y4, h4, w4⟩ := wt_elem Try.underlying34 sizeapiNamed h2.conds h3 k (namedc c) (by rw [List.getElem?_map, hck]; rfl) rfl
    obtain ⟨m5, y5, h5, w5⟩ := wt_field Try.underlying57 h4 0 _ 1 rfl sizestring
    exact Nat.le_trans (hw _ (w3 _ (w4 _ (w5 _ (wt_text Try.underlying9 h5))))) hR
  · obtain ⟨m3, y3, h3, w3⟩ := wt_field Try.underlying41 hn 14 _ 1 rfl sizestring
    exact Nat.le_trans (hw _ (w3 _ (wt_text Try.underlying9 h3))) hR
end
end Go.Proofs.Yticakdajhmfpoaa.Ic
