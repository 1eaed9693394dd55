/-
  Include: an item is copied, with all that is in it.
-/
import Derived.Test.YticakdajhmfpoaaIncCopy
import Derived.Test.YticakdajhmfpoaaReg2
import Derived.Test.YticakdajhmfpoaaOwn
import Derived.Deep.MidRow
namespace Go.Proofs.Yticakdajhmfpoaa.Ic
open Go.RowKit Mem Vw Rs
set_option linter.unusedVariables false
set_option linter.unusedSimpArgs false

theorem blk_cells {g : Nat} {t : TypeId} : ∀ (vs : List Value) (o : Nat) (w : World) (A old C : List Value), w.heap[g]? = some (.cells (A ++ old ++ C).toArray t (0, 0)) → A.length = o → old.length = vs.length → (w.setCells g o vs).heap[g]? = some (.cells (A ++ vs ++ C).toArray t (0, 0))
  | [], o, w, A, old, C, h, _, h2 => by
    have : old = [] := List.eq_nil_of_length_eq_zero h2
    subst this
    exact h
  | v :: vs, o, w, A, [], C, h, _, h2 => by simp at h2
  | v :: vs, o, w, A, u :: old, C, h, h1, h2 => by
    have h3 := blk_set h o v
    have e : (A ++ u :: old ++ C).toArray.setIfInBounds o v = ((A ++ [v]) ++ old ++ C).toArray := by
      rw [List.setIfInBounds_toArray]
      congr 1
      rw [List.append_assoc, List.set_append_right _ _ (by omega), h1, Nat.sub_self]
      simp
    rw [e] at h3
    have := blk_cells vs (o + 1) _ (A ++ [v]) old C h3 (by simp [h1]) (by simpa using h2)
    simpa [World.setCells] using this
theorem blk_cells_far {g k : Nat} {ob : Obj} : ∀ (vs : List Value) (o : Nat) (w : World), w.heap[k]? = some ob → k ≠ g → (w.setCells g o vs).heap[k]? = some ob
  | [], o, w, h, _ => h
  | v :: vs, o, w, h, hk => blk_cells_far vs (o + 1) _ (blk_farq h hk v) hk
theorem fr_cells {S : Nat → Prop} {A : World} {g : Nat} (hg : S g ∨ A.heap.size ≤ g) : ∀ (vs : List Value) (o : Nat) (B : World), Fr S A B → Fr S A (B.setCells g o vs)
  | [], o, B, h => h
  | v :: vs, o, B, h => fr_cells hg vs (o + 1) _ (h.setCell (p := ⟨g, o, none⟩) hg v)
/-- A slice of a block of its own, in whole; or none. -/
def OB (w : World) (lo : Nat) (v : Value) (t : TypeId) (xs : List (List Value)) : Prop :=
  (xs = [] ∧ v = Vw.nil) ∨ ∃ g, xs ≠ [] ∧ lo ≤ g ∧ v = .slice (some ⟨g, 0, none⟩) xs.length xs.length ∧ w.heap[g]? = some (.cells xs.flatten.toArray t (0, 0))
theorem OB.fr {S : Nat → Prop} {w w' : World} {lo : Nat} {v : Value} {t : TypeId} {xs : List (List Value)} (h : OB w lo v t xs) (hf : Fr S w w') (hs : ∀ g, lo ≤ g → v.ownBlock = some g → ¬ S g) : OB w' lo v t xs := by
  rcases h with h | ⟨g, h1, h2, h3, h4⟩
  · exact .inl h
  · exact .inr ⟨g, h1, h2, h3, hf.blk h4 (hs g h2 (by rw [h3]; rfl))⟩
theorem OB.lt {w : World} {lo : Nat} {v : Value} {t : TypeId} {xs : List (List Value)} (h : OB w lo v t xs) {g : Nat} (hg : v.ownBlock = some g) : lo ≤ g ∧ g < w.heap.size := by
  rcases h with ⟨_, rfl⟩ | ⟨k, h1, h2, h3, h4⟩
  · cases hg
  · rw [h3] at hg
    have : k = g := by simpa [Value.ownBlock] using hg
    subst this
    exact ⟨h2, lt_of_blk h4⟩
theorem OB.mono {w : World} {lo lo' : Nat} {v : Value} {t : TypeId} {xs : List (List Value)} (h : OB w lo v t xs) (hl : lo' ≤ lo) : OB w lo' v t xs := by
  rcases h with h | ⟨g, h1, h2, h3, h4⟩
  · exact .inl h
  · exact .inr ⟨g, h1, by omega, h3, h4⟩
theorem OB.row {B : Nat → Prop} {w : World} {lo z : Nat} {v : Value} {t : TypeId} {xs : List (List Value)} (h : OB w lo v t xs) (hz : ∀ x ∈ xs, x.length = z) (hl : xs.length ≤ 9223372036854775807) (hB : ∀ g, v.ownBlock = some g → B g) : RowB B w v z xs := by
  rcases h with ⟨rfl, rfl⟩ | ⟨g, h1, h2, h3, h4⟩
  · exact RowB.nil B w z
  · subst h3
    exact RowB.new hz hl h4 (hB g rfl)
theorem OB.slice {w : World} {lo : Nat} {v : Value} {t : TypeId} {xs : List (List Value)} (h : OB w lo v t xs) : ∃ A, v = .slice A xs.length xs.length := by
  rcases h with ⟨rfl, rfl⟩ | ⟨g, h1, h2, h3, h4⟩
  · exact ⟨_, rfl⟩
  · exact ⟨_, h3⟩
theorem OB.one {w : World} {lo : Nat} {v : Value} {t : TypeId} {xs : List (List Value)} (h : OB w lo v t xs) : v.oneCell' = true := by
  obtain ⟨A, rfl⟩ := h.slice
  rfl
theorem cells_size (x : DT) : x.cells.toArray.size = 33 := x.cells_len
theorem tree_node (h : Rs.Item) (c d n i : Value) (l : List DT) : (DT.node h c d n i l).tree = .node h (l.map DT.tree) := by rw [DT.tree, trees_map]
/-- What copied returns, in both cases. -/
theorem ob_of {W w' : World} {e : Ending} {t : TypeId} {xs : List (List Value)} (h : (xs = [] → e = .returned Vw.nil ∧ w' = W) ∧ (xs ≠ [] → e = .returned (.slice (some ⟨W.heap.size, 0, none⟩) xs.length xs.length) ∧ w' = W.alloc (.cells xs.flatten.toArray t))) :
    ∃ v, e = .returned v ∧ OB w' W.heap.size v t xs ∧ Fr (fun _ => False) W w' := by
  by_cases hx : xs = []
  · obtain ⟨rfl, rfl⟩ := h.1 hx
    exact ⟨_, rfl, .inl ⟨hx, rfl⟩, Fr.refl _ _⟩
  · obtain ⟨rfl, rfl⟩ := h.2 hx
    exact ⟨_, rfl, .inr ⟨_, hx, Nat.le_refl _, rfl, blk_newn rfl⟩, (Fr.refl _ _).alloc _⟩
/-- An item in memory that shares no memory with what was there; its lists of conditions and of names lie in blocks of their own. -/
structure Own (lo : Nat) (w : World) (y : DT) : Prop where
  conds : OB w lo y.c 57 (y.h.conds.map namedc)
  names : OB w lo y.n 9 (y.h.names.map fun x => [sv x])
  dates : RowB (fun g => lo ≤ g ∧ y.c.ownBlock ≠ some g ∧ y.n.ownBlock ≠ some g) w y.d 3 (y.h.dates.map civilc)
  items : LayL (fun g => lo ≤ g ∧ y.c.ownBlock ≠ some g ∧ y.n.ownBlock ≠ some g) w y.l y.i
  apart : ∀ g, y.c.ownBlock = some g → y.n.ownBlock ≠ some g
theorem named_len {l : List Named} : ∀ x ∈ l.map namedc, x.length = 2 := fun x hx => by obtain ⟨y, _, rfl⟩ := List.mem_map.1 hx; rfl
theorem civil_len {l : List Civil} : ∀ x ∈ l.map civilc, x.length = 3 := fun x hx => by obtain ⟨y, _, rfl⟩ := List.mem_map.1 hx; rfl
theorem names_len {l : List Rs.Bytes} : ∀ x ∈ l.map (fun x => [sv x]), x.length = 1 := fun x hx => by obtain ⟨y, _, rfl⟩ := List.mem_map.1 hx; rfl
theorem items_len {l : List DT} : ∀ x ∈ l.map DT.cells, x.length = 33 := fun x hx => by obtain ⟨y, _, rfl⟩ := List.mem_map.1 hx; exact y.cells_len
theorem named_one {l : List Named} : ∀ x ∈ l.map namedc, ∀ y ∈ x, y.oneCell' = true := fun x hx y hy => by
  obtain ⟨q, _, rfl⟩ := List.mem_map.1 hx
  simp only [namedc, List.mem_cons, List.not_mem_nil, or_false] at hy
  rcases hy with rfl | rfl <;> rfl
theorem civil_one {l : List Civil} : ∀ x ∈ l.map civilc, ∀ y ∈ x, y.oneCell' = true := fun x hx y hy => by
  obtain ⟨q, _, rfl⟩ := List.mem_map.1 hx
  simp only [civilc, List.mem_cons, List.not_mem_nil, or_false] at hy
  rcases hy with rfl | rfl | rfl <;> rfl
theorem names_one {l : List Rs.Bytes} : ∀ x ∈ l.map (fun x => [sv x]), ∀ y ∈ x, y.oneCell' = true := fun x hx y hy => by
  obtain ⟨q, _, rfl⟩ := List.mem_map.1 hx
  simp only [List.mem_cons, List.not_mem_nil, or_false] at hy
  subst hy; rfl
theorem items_one {B : Nat → Prop} {W : World} {l : List DT} (h : ∀ x ∈ l, Lay B W x) : ∀ x ∈ l.map DT.cells, ∀ y ∈ x, y.oneCell' = true := fun x hx y hy => by
  obtain ⟨q, hq, rfl⟩ := List.mem_map.1 hx
  have := (h q hq).one
  rw [List.all_toArray, List.all_eq_true] at this
  exact this y hy
theorem Own.lay {lo : Nat} {w : World} {y : DT} (h : Own lo w y) (h1 : y.h.conds.length ≤ 1000000) (h2 : y.h.names.length ≤ 1000000) : Lay (fun g => lo ≤ g) w y := by
  refine Lay.mk' (h.conds.row named_len (by rw [List.length_map]; omega) (fun g hg => (h.conds.lt hg).1)) ?_ (h.names.row names_len (by rw [List.length_map]; omega) (fun g hg => (h.names.lt hg).1)) ?_
  · exact h.dates.mono (fun g _ hg => hg.1)
  · exact h.items.mono (fun g _ hg => hg.1)
theorem Own.fr {S : Nat → Prop} {lo : Nat} {w w' : World} {y : DT} (h : Own lo w y) (hf : Fr S w w') (hs : ∀ g, lo ≤ g → ¬ S g) : Own lo w' y :=
  ⟨h.conds.fr hf (fun g hg _ => hs g hg), h.names.fr hf (fun g hg _ => hs g hg), h.dates.fr hf (fun g hg => hs g hg.1), h.items.fr hf (fun g hg => hs g hg.1), h.apart⟩
/-- Lists in an item that are not too long to be copied, to any depth. -/
inductive Short : DT → Prop where
  | node (h : Rs.Item) (c d n i : Value) (l : List DT) : h.conds.length ≤ 1000000 → h.dates.length ≤ 1000000 → h.names.length ≤ 1000000 → l.length ≤ 1000000 → (∀ x ∈ l, Short x) → Short (.node h c d n i l)
theorem Short.lens {x : DT} (h : Short x) : x.h.conds.length ≤ 1000000 ∧ x.h.dates.length ≤ 1000000 ∧ x.h.names.length ≤ 1000000 ∧ x.l.length ≤ 1000000 := by cases h with | node h c d n i l h1 h2 h3 h4 h5 => exact ⟨h1, h2, h3, h4⟩
theorem Short.inner {x : DT} (h : Short x) : ∀ y ∈ x.l, Short y := by cases h with | node h c d n i l h1 h2 h3 h4 h5 => exact h5
/-- What the loop of copyItem holds behind k of the inner items. -/
structure CL (w4 : World) (gi : Nat) (l : List DT) (k : Nat) (ys : List DT) (wr : World) : Prop where
  fr : Fr (fun g => g = gi) w4 wr
  row : wr.heap[gi]? = some (.cells ((ys.map DT.cells).flatten ++ ((l.drop k).map DT.cells).flatten).toArray 41 (0, 0))
  len : ys.length = k
  tr : ys.map DT.tree = (l.take k).map DT.tree
  lay : ∀ y ∈ ys, Lay (fun g => w4.heap.size ≤ g) wr y
theorem cells_flat (ys : List DT) : (ys.map DT.cells).flatten.length = ys.length * 33 := by rw [flatten_len items_len, List.length_map]
theorem CL.next {w4 : World} {gi : Nat} {l : List DT} {k : Nat} {ys : List DT} {wr w5 : World} {x y : DT} (h : CL w4 gi l k ys wr) (hg : gi < w4.heap.size) (hk : l[k]? = some x) (hf : Fr (fun _ => False) wr w5) (ht : y.tree = x.tree) (hy : Lay (fun g => wr.heap.size ≤ g) w5 y) :
    CL w4 gi l (k + 1) (ys ++ [y]) (w5.setCells gi (k * 33) y.cells) := by
  have hlt : gi < wr.heap.size := Nat.lt_of_lt_of_le hg h.fr.size
  have hrow := hf.blk h.row (fun h => h)
  obtain ⟨hk1, hk2⟩ := List.getElem?_eq_some_iff.1 hk
  rw [List.drop_eq_getElem_cons hk1, hk2, List.map_cons, List.flatten_cons, ← List.append_assoc] at hrow
  have hF : Fr (fun g => g = gi) w5 (w5.setCells gi (k * 33) y.cells) := fr_cells (S := fun g => g = gi) (.inl rfl) _ _ _ (Fr.refl _ _)
  refine ⟨?_, ?_, by simp [h.len], ?_, ?_⟩
  · exact fr_cells (S := fun g => g = gi) (.inl rfl) _ _ _ (h.fr.trans (hf.mono (fun _ _ h => h.elim)))
  · have := blk_cells y.cells (k * 33) w5 _ x.cells _ hrow (by rw [cells_flat, h.len]) (by rw [x.cells_len, y.cells_len])
    rw [List.map_append, List.flatten_append]
    simpa using this
  · rw [List.map_append, h.tr, List.take_add_one, hk, List.map_append]
    simp [ht]
  · intro z hz
    rcases List.mem_append.1 hz with hz | hz
    · exact ((h.lay z hz).fr hf (fun _ _ h => h)).fr hF (fun g hg2 e => by omega)
    · simp only [List.mem_cons, List.not_mem_nil, or_false] at hz
      subst hz
      have h4 := h.fr.size
      exact (hy.mono (C := fun g => w4.heap.size ≤ g) (fun g _ hg2 => by omega)).fr hF (fun g hg2 e => by omega)
/-- What copyItem returns. -/
def Copied (x : DT) (W : World) (e : Ending) (w' : World) : Prop := ∃ y : DT, e = .returned (.agg y.cells.toArray) ∧ y.tree = x.tree ∧ y.h = x.h ∧ Own W.heap.size w' y ∧ Fr (fun _ => False) W w'
set_option maxRecDepth 100000 in
set_option maxHeartbeats 8000000 in
theorem copyItem_any : ∀ (n : Nat) (x : DT) (B0 : Nat → Prop) (W : World), tsz x.l ≤ n → Lay B0 W x → Short x → Calls Try.prog 35 #[.agg x.cells.toArray] W (Copied x W) := by
  intro n
  induction n using Nat.strongRecOn with
  | ind n ih =>
  intro x B0 W hn hL hS
  obtain ⟨s1, s2, s3, s4⟩ := hS.lens
  have HL : Hid (Lay (fun g => g < W.heap.size) W x) := hL.mono (fun g h _ => h)
  have HSH := Lib.hid hS
  have HIH : Hid (∀ (y : DT) (w : World), y ∈ x.l → Lay (fun g => g < W.heap.size) w y → Calls Try.prog 35 #[.agg y.cells.toArray] w (Copied y w)) := fun y w hy h => ih (tsz y.l) (Nat.lt_of_lt_of_le (tsz_lt hy) hn) y _ w (Nat.le_refl _) h (HSH.out.inner y hy)
  have HCC := Lib.hid fun w (hf : Fr (fun _ => False) W w) => copied_named x.c _ w ((hL.conds.fr hf (fun _ _ h => h)).1) named_len named_one (by rw [List.length_map]; exact s1)
  have HCD := Lib.hid fun w (hf : Fr (fun _ => False) W w) => copied_civil x.d _ w ((hL.dates.fr hf (fun _ _ h => h)).1) civil_len civil_one (by rw [List.length_map]; exact s2)
  have HCN := Lib.hid fun w (hf : Fr (fun _ => False) W w) => copied_str x.n _ w ((hL.names.fr hf (fun _ _ h => h)).1) names_len names_one (by rw [List.length_map]; exact s3)
  have HCI := Lib.hid fun w (hf : Fr (fun _ => False) W w) => copied_item x.i _ w ((hL.items.row.fr hf (fun _ _ h => h)).1) items_len (items_one hL.items.lay) (by rw [List.length_map]; exact s4)
  have HONE := Lib.hid hL.one
  have HSYS : Hid (∀ y ∈ x.l, Short y) := hS.inner
  have HLD := Lib.hid s2; have HLI := Lib.hid s4
  clear ih hn hL hS s1 s2 s3
  obtain ⟨h, c, d, n0, i, l⟩ := x
  dsimp only [DT.c, DT.d, DT.n, DT.i, DT.l, DT.h] at HCC HCD HCN HCI HIH s4 HLD HLI HONE
  show Calls _ _ #[.agg (icells h c d n0 i).toArray] _ _
  obtain ⟨w0, HW0⟩ : ∃ w0, Hid ((W.alloc (.cells (icells h c d n0 i).toArray 41)).alloc (.cells #[.int .i64 0, .string ⟨#[]⟩, .int .i64 0, .string ⟨#[]⟩, .string ⟨#[]⟩, .int .i64 0, .int .i64 0, .int .i64 0, .bool false, .string ⟨#[]⟩, .int .i64 0, .bool false, .string ⟨#[]⟩, .slice none 0 0, .string ⟨#[]⟩, .string ⟨#[]⟩, .int .i64 0, .int .i64 0, .string ⟨#[]⟩, .string ⟨#[]⟩, .bool false, .string ⟨#[]⟩, .string ⟨#[]⟩, .bool false, .bool false, .bool false, .bool false, .bool false, .bool false, .bool false, .slice none 0 0, .slice none 0 0, .slice none 0 0] 41) = w0) := ⟨_, rfl⟩
  have HB0 : Hid (w0.heap[W.heap.size]? = some (.cells (icells h c d n0 i).toArray 41 (0, 0))) := by rw [← HW0.out]; exact blk_alloc (blk_newn rfl) _
  have HR0 : Hid (w0.heap[W.heap.size + 1]? = some (.cells #[.int .i64 0, .string ⟨#[]⟩, .int .i64 0, .string ⟨#[]⟩, .string ⟨#[]⟩, .int .i64 0, .int .i64 0, .int .i64 0, .bool false, .string ⟨#[]⟩, .int .i64 0, .bool false, .string ⟨#[]⟩, .slice none 0 0, .string ⟨#[]⟩, .string ⟨#[]⟩, .int .i64 0, .int .i64 0, .string ⟨#[]⟩, .string ⟨#[]⟩, .bool false, .string ⟨#[]⟩, .string ⟨#[]⟩, .bool false, .bool false, .bool false, .bool false, .bool false, .bool false, .bool false, .slice none 0 0, .slice none 0 0, .slice none 0 0] 41 (0, 0))) := by rw [← HW0.out]; exact blk_newn (by simp)
  have HF0 : Hid (Fr (fun _ => False) W w0) := by rw [← HW0.out]; exact ((Fr.refl _ W).alloc _).alloc _
  go_enter Try.func35, Try.ntmps35
  go_upto_region 1 with fail
  rw [HW0.out]
  clear HW0
  have HSZ0 : Hid (W.heap.size + 2 ≤ w0.heap.size) := by have := lt_of_blk HR0.out; show _ ≤ _; omega
  have k13 : w0.cell? ⟨W.heap.size, 13, none⟩ = some c := (cell_of_blk HB0.out 13).trans rfl
  go_upto_region 1 with fail
  go_wp2_with fail
  refine (HCC.out w0 HF0.out).mono ?_
  intro e v0 hcp
  obtain ⟨c4, rfl, HO, hf⟩ := ob_of hcp
  obtain ⟨Ac4, hv⟩ := HO.slice
  rw [List.length_map] at hv
  subst hv
  have HF' : Hid (Fr (fun _ => False) W v0) := HF0.out.trans hf
  have HB' : Hid (v0.heap[W.heap.size]? = some (.cells (icells h c d n0 i).toArray 41 (0, 0))) := hf.blk HB0.out (fun h => h)
  have HR' : Hid (v0.heap[W.heap.size + 1]? = some (.cells #[.int .i64 0, .string ⟨#[]⟩, .int .i64 0, .string ⟨#[]⟩, .string ⟨#[]⟩, .int .i64 0, .int .i64 0, .int .i64 0, .bool false, .string ⟨#[]⟩, .int .i64 0, .bool false, .string ⟨#[]⟩, .slice none 0 0, .string ⟨#[]⟩, .string ⟨#[]⟩, .int .i64 0, .int .i64 0, .string ⟨#[]⟩, .string ⟨#[]⟩, .bool false, .string ⟨#[]⟩, .string ⟨#[]⟩, .bool false, .bool false, .bool false, .bool false, .bool false, .bool false, .bool false, .slice none 0 0, .slice none 0 0, .slice none 0 0] 41 (0, 0))) := hf.blk HR0.out (fun h => h)
  have HO' := Lib.hid HO
  have HUQ : Hid (∀ g, ((.slice Ac4 h.conds.length h.conds.length) : Value).ownBlock = some g → w0.heap.size ≤ g ∧ g < v0.heap.size) := fun g hg => HO.lt hg
  have hone := HO.one
  have HGR0 : Hid (w0.heap.size ≤ v0.heap.size) := hf.size
  have fb : v0.frozen? ⟨W.heap.size, 13, none⟩ = false := froz_of_blk HB'.out 13
  have kb : v0.cell? ⟨W.heap.size, 13, none⟩ = some c := (cell_of_blk HB'.out 13).trans rfl
  clear hcp HO k13 hf
  go_upto_region 2 with fail
  obtain ⟨w1, hw⟩ : ∃ w, v0.setCell ⟨W.heap.size, 13, none⟩ (.slice Ac4 h.conds.length h.conds.length) = w := ⟨_, rfl⟩
  rw [hw]
  have HB1 : Hid (w1.heap[W.heap.size]? = some (.cells (icells h (.slice Ac4 h.conds.length h.conds.length) d n0 i).toArray 41 (0, 0))) := by rw [← hw]; exact blk_set HB'.out 13 _
  have HR1 : Hid (w1.heap[W.heap.size + 1]? = some (.cells #[.int .i64 0, .string ⟨#[]⟩, .int .i64 0, .string ⟨#[]⟩, .string ⟨#[]⟩, .int .i64 0, .int .i64 0, .int .i64 0, .bool false, .string ⟨#[]⟩, .int .i64 0, .bool false, .string ⟨#[]⟩, .slice none 0 0, .string ⟨#[]⟩, .string ⟨#[]⟩, .int .i64 0, .int .i64 0, .string ⟨#[]⟩, .string ⟨#[]⟩, .bool false, .string ⟨#[]⟩, .string ⟨#[]⟩, .bool false, .bool false, .bool false, .bool false, .bool false, .bool false, .bool false, .slice none 0 0, .slice none 0 0, .slice none 0 0] 41 (0, 0))) := by rw [← hw]; exact blk_farq HR'.out (by omega) _
  have HF1 : Hid (Fr (fun _ => False) W w1) := by rw [← hw]; exact HF'.out.setCell (p := ⟨W.heap.size, 13, none⟩) (.inr (Nat.le_refl _)) _
  have HFS : Hid (Fr (fun g => g = W.heap.size) v0 w1) := by rw [← hw]; exact (Fr.refl (fun g => g = W.heap.size) v0).setb 13 _
  have HO1 : Hid (OB w1 (W.heap.size + 2) (.slice Ac4 h.conds.length h.conds.length) 57 _) := (HO'.out.mono HSZ0.out).fr HFS.out (fun g hg _ e => by omega)
  have HSZ1 : Hid (W.heap.size + 2 ≤ w1.heap.size) := by have h1 := HSZ0.out; have h2 := HGR0.out; have h3 := HFS.out.size; show _ ≤ _; omega
  have HUP1 : Hid (∀ g, ((.slice Ac4 h.conds.length h.conds.length) : Value).ownBlock = some g → w0.heap.size ≤ g ∧ g < w1.heap.size) := fun g hg => by have h1 := HUQ.out g hg; have h2 := HFS.out.size; omega
  have HM1 : Hid (w0.heap.size ≤ w1.heap.size) := by have h1 := HGR0.out; have h2 := HFS.out.size; show _ ≤ _; omega
  clear hw HF' HB' HR' HO' HFS fb kb hone HB0 HR0 HF0 HUQ HGR0
  have k30 : w1.cell? ⟨W.heap.size, 30, none⟩ = some d := (cell_of_blk HB1.out 30).trans rfl
  go_upto_region 2 with fail
  go_wp2_with fail
  refine (HCD.out w1 HF1.out).mono ?_
  intro e v1 hcp
  obtain ⟨d4, rfl, HO, hf⟩ := ob_of hcp
  obtain ⟨Ad4, hv⟩ := HO.slice
  rw [List.length_map] at hv
  subst hv
  have HF' : Hid (Fr (fun _ => False) W v1) := HF1.out.trans hf
  have HB' : Hid (v1.heap[W.heap.size]? = some (.cells (icells h (.slice Ac4 h.conds.length h.conds.length) d n0 i).toArray 41 (0, 0))) := hf.blk HB1.out (fun h => h)
  have HR' : Hid (v1.heap[W.heap.size + 1]? = some (.cells #[.int .i64 0, .string ⟨#[]⟩, .int .i64 0, .string ⟨#[]⟩, .string ⟨#[]⟩, .int .i64 0, .int .i64 0, .int .i64 0, .bool false, .string ⟨#[]⟩, .int .i64 0, .bool false, .string ⟨#[]⟩, .slice none 0 0, .string ⟨#[]⟩, .string ⟨#[]⟩, .int .i64 0, .int .i64 0, .string ⟨#[]⟩, .string ⟨#[]⟩, .bool false, .string ⟨#[]⟩, .string ⟨#[]⟩, .bool false, .bool false, .bool false, .bool false, .bool false, .bool false, .bool false, .slice none 0 0, .slice none 0 0, .slice none 0 0] 41 (0, 0))) := hf.blk HR1.out (fun h => h)
  have HO' := Lib.hid HO
  have HUQ : Hid (∀ g, ((.slice Ad4 h.dates.length h.dates.length) : Value).ownBlock = some g → w1.heap.size ≤ g ∧ g < v1.heap.size) := fun g hg => HO.lt hg
  have hone := HO.one
  have HGR1 : Hid (w1.heap.size ≤ v1.heap.size) := hf.size
  have HOk1 := Lib.hid (HO1.out.fr hf (fun _ _ _ h => h))
  clear HO1
  have fb : v1.frozen? ⟨W.heap.size, 30, none⟩ = false := froz_of_blk HB'.out 30
  have kb : v1.cell? ⟨W.heap.size, 30, none⟩ = some d := (cell_of_blk HB'.out 30).trans rfl
  clear hcp HO k30 hf
  go_upto_region 3 with fail
  obtain ⟨w2, hw⟩ : ∃ w, v1.setCell ⟨W.heap.size, 30, none⟩ (.slice Ad4 h.dates.length h.dates.length) = w := ⟨_, rfl⟩
  rw [hw]
  have HB2 : Hid (w2.heap[W.heap.size]? = some (.cells (icells h (.slice Ac4 h.conds.length h.conds.length) (.slice Ad4 h.dates.length h.dates.length) n0 i).toArray 41 (0, 0))) := by rw [← hw]; exact blk_set HB'.out 30 _
  have HR2 : Hid (w2.heap[W.heap.size + 1]? = some (.cells #[.int .i64 0, .string ⟨#[]⟩, .int .i64 0, .string ⟨#[]⟩, .string ⟨#[]⟩, .int .i64 0, .int .i64 0, .int .i64 0, .bool false, .string ⟨#[]⟩, .int .i64 0, .bool false, .string ⟨#[]⟩, .slice none 0 0, .string ⟨#[]⟩, .string ⟨#[]⟩, .int .i64 0, .int .i64 0, .string ⟨#[]⟩, .string ⟨#[]⟩, .bool false, .string ⟨#[]⟩, .string ⟨#[]⟩, .bool false, .bool false, .bool false, .bool false, .bool false, .bool false, .bool false, .slice none 0 0, .slice none 0 0, .slice none 0 0] 41 (0, 0))) := by rw [← hw]; exact blk_farq HR'.out (by omega) _
  have HF2 : Hid (Fr (fun _ => False) W w2) := by rw [← hw]; exact HF'.out.setCell (p := ⟨W.heap.size, 30, none⟩) (.inr (Nat.le_refl _)) _
  have HFS : Hid (Fr (fun g => g = W.heap.size) v1 w2) := by rw [← hw]; exact (Fr.refl (fun g => g = W.heap.size) v1).setb 30 _
  have HO2 : Hid (OB w2 (W.heap.size + 2) (.slice Ad4 h.dates.length h.dates.length) 23 _) := (HO'.out.mono HSZ1.out).fr HFS.out (fun g hg _ e => by omega)
  have HO1 := Lib.hid (HOk1.out.fr HFS.out (fun g hg _ e => by omega))
  clear HOk1
  have HSZ2 : Hid (W.heap.size + 2 ≤ w2.heap.size) := by have h1 := HSZ1.out; have h2 := HGR1.out; have h3 := HFS.out.size; show _ ≤ _; omega
  have HUP2 : Hid (∀ g, ((.slice Ad4 h.dates.length h.dates.length) : Value).ownBlock = some g → w1.heap.size ≤ g ∧ g < w2.heap.size) := fun g hg => by have h1 := HUQ.out g hg; have h2 := HFS.out.size; omega
  have HM2 : Hid (w1.heap.size ≤ w2.heap.size) := by have h1 := HGR1.out; have h2 := HFS.out.size; show _ ≤ _; omega
  clear hw HF' HB' HR' HO' HFS fb kb hone HB1 HR1 HF1 HUQ HGR1
  have k31 : w2.cell? ⟨W.heap.size, 31, none⟩ = some n0 := (cell_of_blk HB2.out 31).trans rfl
  go_upto_region 3 with fail
  go_wp2_with fail
  refine (HCN.out w2 HF2.out).mono ?_
  intro e v2 hcp
  obtain ⟨n4, rfl, HO, hf⟩ := ob_of hcp
  obtain ⟨An4, hv⟩ := HO.slice
  rw [List.length_map] at hv
  subst hv
  have HF' : Hid (Fr (fun _ => False) W v2) := HF2.out.trans hf
  have HB' : Hid (v2.heap[W.heap.size]? = some (.cells (icells h (.slice Ac4 h.conds.length h.conds.length) (.slice Ad4 h.dates.length h.dates.length) n0 i).toArray 41 (0, 0))) := hf.blk HB2.out (fun h => h)
  have HR' : Hid (v2.heap[W.heap.size + 1]? = some (.cells #[.int .i64 0, .string ⟨#[]⟩, .int .i64 0, .string ⟨#[]⟩, .string ⟨#[]⟩, .int .i64 0, .int .i64 0, .int .i64 0, .bool false, .string ⟨#[]⟩, .int .i64 0, .bool false, .string ⟨#[]⟩, .slice none 0 0, .string ⟨#[]⟩, .string ⟨#[]⟩, .int .i64 0, .int .i64 0, .string ⟨#[]⟩, .string ⟨#[]⟩, .bool false, .string ⟨#[]⟩, .string ⟨#[]⟩, .bool false, .bool false, .bool false, .bool false, .bool false, .bool false, .bool false, .slice none 0 0, .slice none 0 0, .slice none 0 0] 41 (0, 0))) := hf.blk HR2.out (fun h => h)
  have HO' := Lib.hid HO
  have HUQ : Hid (∀ g, ((.slice An4 h.names.length h.names.length) : Value).ownBlock = some g → w2.heap.size ≤ g ∧ g < v2.heap.size) := fun g hg => HO.lt hg
  have hone := HO.one
  have HGR2 : Hid (w2.heap.size ≤ v2.heap.size) := hf.size
  have HOk1 := Lib.hid (HO1.out.fr hf (fun _ _ _ h => h))
  clear HO1
  have HOk2 := Lib.hid (HO2.out.fr hf (fun _ _ _ h => h))
  clear HO2
  have fb : v2.frozen? ⟨W.heap.size, 31, none⟩ = false := froz_of_blk HB'.out 31
  have kb : v2.cell? ⟨W.heap.size, 31, none⟩ = some n0 := (cell_of_blk HB'.out 31).trans rfl
  clear hcp HO k31 hf
  go_upto_region 4 with fail
  obtain ⟨w3, hw⟩ : ∃ w, v2.setCell ⟨W.heap.size, 31, none⟩ (.slice An4 h.names.length h.names.length) = w := ⟨_, rfl⟩
  rw [hw]
  have HB3 : Hid (w3.heap[W.heap.size]? = some (.cells (icells h (.slice Ac4 h.conds.length h.conds.length) (.slice Ad4 h.dates.length h.dates.length) (.slice An4 h.names.length h.names.length) i).toArray 41 (0, 0))) := by rw [← hw]; exact blk_set HB'.out 31 _
  have HR3 : Hid (w3.heap[W.heap.size + 1]? = some (.cells #[.int .i64 0, .string ⟨#[]⟩, .int .i64 0, .string ⟨#[]⟩, .string ⟨#[]⟩, .int .i64 0, .int .i64 0, .int .i64 0, .bool false, .string ⟨#[]⟩, .int .i64 0, .bool false, .string ⟨#[]⟩, .slice none 0 0, .string ⟨#[]⟩, .string ⟨#[]⟩, .int .i64 0, .int .i64 0, .string ⟨#[]⟩, .string ⟨#[]⟩, .bool false, .string ⟨#[]⟩, .string ⟨#[]⟩, .bool false, .bool false, .bool false, .bool false, .bool false, .bool false, .bool false, .slice none 0 0, .slice none 0 0, .slice none 0 0] 41 (0, 0))) := by rw [← hw]; exact blk_farq HR'.out (by omega) _
  have HF3 : Hid (Fr (fun _ => False) W w3) := by rw [← hw]; exact HF'.out.setCell (p := ⟨W.heap.size, 31, none⟩) (.inr (Nat.le_refl _)) _
  have HFS : Hid (Fr (fun g => g = W.heap.size) v2 w3) := by rw [← hw]; exact (Fr.refl (fun g => g = W.heap.size) v2).setb 31 _
  have HO3 : Hid (OB w3 (W.heap.size + 2) (.slice An4 h.names.length h.names.length) 9 _) := (HO'.out.mono HSZ2.out).fr HFS.out (fun g hg _ e => by omega)
  have HO1 := Lib.hid (HOk1.out.fr HFS.out (fun g hg _ e => by omega))
  clear HOk1
  have HO2 := Lib.hid (HOk2.out.fr HFS.out (fun g hg _ e => by omega))
  clear HOk2
  have HSZ3 : Hid (W.heap.size + 2 ≤ w3.heap.size) := by have h1 := HSZ2.out; have h2 := HGR2.out; have h3 := HFS.out.size; show _ ≤ _; omega
  have HUP3 : Hid (∀ g, ((.slice An4 h.names.length h.names.length) : Value).ownBlock = some g → w2.heap.size ≤ g ∧ g < w3.heap.size) := fun g hg => by have h1 := HUQ.out g hg; have h2 := HFS.out.size; omega
  have HM3 : Hid (w2.heap.size ≤ w3.heap.size) := by have h1 := HGR2.out; have h2 := HFS.out.size; show _ ≤ _; omega
  clear hw HF' HB' HR' HO' HFS fb kb hone HB2 HR2 HF2 HUQ HGR2
  have k32 : w3.cell? ⟨W.heap.size, 32, none⟩ = some i := (cell_of_blk HB3.out 32).trans rfl
  go_upto_region 4 with fail
  go_wp2_with fail
  refine (HCI.out w3 HF3.out).mono ?_
  intro e v3 hcp
  obtain ⟨i4, rfl, HO, hf⟩ := ob_of hcp
  obtain ⟨Ai4, hv⟩ := HO.slice
  rw [List.length_map] at hv
  subst hv
  have HF' : Hid (Fr (fun _ => False) W v3) := HF3.out.trans hf
  have HB' : Hid (v3.heap[W.heap.size]? = some (.cells (icells h (.slice Ac4 h.conds.length h.conds.length) (.slice Ad4 h.dates.length h.dates.length) (.slice An4 h.names.length h.names.length) i).toArray 41 (0, 0))) := hf.blk HB3.out (fun h => h)
  have HR' : Hid (v3.heap[W.heap.size + 1]? = some (.cells #[.int .i64 0, .string ⟨#[]⟩, .int .i64 0, .string ⟨#[]⟩, .string ⟨#[]⟩, .int .i64 0, .int .i64 0, .int .i64 0, .bool false, .string ⟨#[]⟩, .int .i64 0, .bool false, .string ⟨#[]⟩, .slice none 0 0, .string ⟨#[]⟩, .string ⟨#[]⟩, .int .i64 0, .int .i64 0, .string ⟨#[]⟩, .string ⟨#[]⟩, .bool false, .string ⟨#[]⟩, .string ⟨#[]⟩, .bool false, .bool false, .bool false, .bool false, .bool false, .bool false, .bool false, .slice none 0 0, .slice none 0 0, .slice none 0 0] 41 (0, 0))) := hf.blk HR3.out (fun h => h)
  have HO' := Lib.hid HO
  have HUQ : Hid (∀ g, ((.slice Ai4 l.length l.length) : Value).ownBlock = some g → w3.heap.size ≤ g ∧ g < v3.heap.size) := fun g hg => HO.lt hg
  have hone := HO.one
  have HGR3 : Hid (w3.heap.size ≤ v3.heap.size) := hf.size
  have HOk1 := Lib.hid (HO1.out.fr hf (fun _ _ _ h => h))
  clear HO1
  have HOk2 := Lib.hid (HO2.out.fr hf (fun _ _ _ h => h))
  clear HO2
  have HOk3 := Lib.hid (HO3.out.fr hf (fun _ _ _ h => h))
  clear HO3
  have fb : v3.frozen? ⟨W.heap.size, 32, none⟩ = false := froz_of_blk HB'.out 32
  have kb : v3.cell? ⟨W.heap.size, 32, none⟩ = some i := (cell_of_blk HB'.out 32).trans rfl
  clear hcp HO k32 hf
  go_upto_region 5 with fail
  obtain ⟨w4, hw⟩ : ∃ w, v3.setCell ⟨W.heap.size, 32, none⟩ (.slice Ai4 l.length l.length) = w := ⟨_, rfl⟩
  rw [hw]
  have HB4 : Hid (w4.heap[W.heap.size]? = some (.cells (icells h (.slice Ac4 h.conds.length h.conds.length) (.slice Ad4 h.dates.length h.dates.length) (.slice An4 h.names.length h.names.length) (.slice Ai4 l.length l.length)).toArray 41 (0, 0))) := by rw [← hw]; exact blk_set HB'.out 32 _
  have HR4 : Hid (w4.heap[W.heap.size + 1]? = some (.cells #[.int .i64 0, .string ⟨#[]⟩, .int .i64 0, .string ⟨#[]⟩, .string ⟨#[]⟩, .int .i64 0, .int .i64 0, .int .i64 0, .bool false, .string ⟨#[]⟩, .int .i64 0, .bool false, .string ⟨#[]⟩, .slice none 0 0, .string ⟨#[]⟩, .string ⟨#[]⟩, .int .i64 0, .int .i64 0, .string ⟨#[]⟩, .string ⟨#[]⟩, .bool false, .string ⟨#[]⟩, .string ⟨#[]⟩, .bool false, .bool false, .bool false, .bool false, .bool false, .bool false, .bool false, .slice none 0 0, .slice none 0 0, .slice none 0 0] 41 (0, 0))) := by rw [← hw]; exact blk_farq HR'.out (by omega) _
  have HF4 : Hid (Fr (fun _ => False) W w4) := by rw [← hw]; exact HF'.out.setCell (p := ⟨W.heap.size, 32, none⟩) (.inr (Nat.le_refl _)) _
  have HFS : Hid (Fr (fun g => g = W.heap.size) v3 w4) := by rw [← hw]; exact (Fr.refl (fun g => g = W.heap.size) v3).setb 32 _
  have HO4 : Hid (OB w4 (W.heap.size + 2) (.slice Ai4 l.length l.length) 41 _) := (HO'.out.mono HSZ3.out).fr HFS.out (fun g hg _ e => by omega)
  have HO1 := Lib.hid (HOk1.out.fr HFS.out (fun g hg _ e => by omega))
  clear HOk1
  have HO2 := Lib.hid (HOk2.out.fr HFS.out (fun g hg _ e => by omega))
  clear HOk2
  have HO3 := Lib.hid (HOk3.out.fr HFS.out (fun g hg _ e => by omega))
  clear HOk3
  have HSZ4 : Hid (W.heap.size + 2 ≤ w4.heap.size) := by have h1 := HSZ3.out; have h2 := HGR3.out; have h3 := HFS.out.size; show _ ≤ _; omega
  have HUP4 : Hid (∀ g, ((.slice Ai4 l.length l.length) : Value).ownBlock = some g → w3.heap.size ≤ g ∧ g < w4.heap.size) := fun g hg => by have h1 := HUQ.out g hg; have h2 := HFS.out.size; omega
  have HM4 : Hid (w3.heap.size ≤ w4.heap.size) := by have h1 := HGR3.out; have h2 := HFS.out.size; show _ ≤ _; omega
  clear hw HF' HB' HR' HO' HFS fb kb hone HB3 HR3 HF3 HUQ HGR3
  by_cases hl : l = []
  · subst hl
    obtain rfl : Ai4 = none := by
      rcases HO4.out with ⟨_, h⟩ | ⟨g, h, _⟩
      · injection h
      · exact absurd rfl h
    have k32 : w4.cell? ⟨W.heap.size, 32, none⟩ = some (.slice none 0 0) := (cell_of_blk HB4.out 32).trans rfl
    go_wp2_with fail
    go_loopw [24] (fun i wr => i = .int .i64 0 ∧ wr = w4) (fun _ _ => 0)
    case atStart => exact ⟨rfl, rfl⟩
    case round =>
      clear k32
      obtain ⟨rfl, hwr⟩ := hrel
      have HBr : Hid (wr.heap[W.heap.size]? = some (.cells (icells h (.slice Ac4 h.conds.length h.conds.length) (.slice Ad4 h.dates.length h.dates.length) (.slice An4 h.names.length h.names.length) (.slice none 0 0)).toArray 41 (0, 0))) := by rw [hwr]; exact HB4.out
      have HRr : Hid (wr.heap[W.heap.size + 1]? = some (.cells #[.int .i64 0, .string ⟨#[]⟩, .int .i64 0, .string ⟨#[]⟩, .string ⟨#[]⟩, .int .i64 0, .int .i64 0, .int .i64 0, .bool false, .string ⟨#[]⟩, .int .i64 0, .bool false, .string ⟨#[]⟩, .slice none 0 0, .string ⟨#[]⟩, .string ⟨#[]⟩, .int .i64 0, .int .i64 0, .string ⟨#[]⟩, .string ⟨#[]⟩, .bool false, .string ⟨#[]⟩, .string ⟨#[]⟩, .bool false, .bool false, .bool false, .bool false, .bool false, .bool false, .bool false, .slice none 0 0, .slice none 0 0, .slice none 0 0] 41 (0, 0))) := by rw [hwr]; exact HR4.out
      have HFr : Hid (Fr (fun _ => False) w4 wr) := by rw [hwr]; exact Fr.refl _ _
      have HITS : Hid (LayL (fun g => w3.heap.size ≤ g) wr [] (.slice none 0 0)) := ⟨RowB.nil _ _ _, fun x hx => absurd hx List.not_mem_nil⟩
      clear hwr
      go_upto_region 10 with fail
      iterate 1 go_step
      refine wpList_load_row rfl 41 _ rfl W.heap.size rfl 41 (icells h (.slice Ac4 h.conds.length h.conds.length) (.slice Ad4 h.dates.length h.dates.length) (.slice An4 h.names.length h.names.length) (.slice none 0 0)).toArray (0, 0) _ HBr.out Try.underlying41 rfl (by rw [info_item]; rfl) ?_
      simp only [Act.put, List.setIfInBounds_toArray, List.set_cons_zero, List.set_cons_succ]
      refine wpList_store_row rfl 41 _ _ rfl (W.heap.size + 1) (icells h (.slice Ac4 h.conds.length h.conds.length) (.slice Ad4 h.dates.length h.dates.length) (.slice An4 h.names.length h.names.length) (.slice none 0 0)).toArray rfl rfl 41 _ HRr.out (by rw [info_item]; rfl) rfl (by simp [icells, Value.oneCell', sv, nv]) ?_
      simp only [Act.put, List.setIfInBounds_toArray, List.set_cons_zero, List.set_cons_succ]
      obtain ⟨w9, hw9⟩ : ∃ w9, wr.setRow (W.heap.size + 1) (icells h (.slice Ac4 h.conds.length h.conds.length) (.slice Ad4 h.dates.length h.dates.length) (.slice An4 h.names.length h.names.length) (.slice none 0 0)).toArray = w9 := ⟨_, rfl⟩
      rw [hw9]
      have HF9 : Hid (Fr (fun j => j = W.heap.size + 1) wr w9) := by rw [← hw9]; exact (Fr.refl (fun j => j = W.heap.size + 1) wr).setRow (.inl rfl) _
      have HB9 : Hid (w9.heap[W.heap.size + 1]? = some (.cells (icells h (.slice Ac4 h.conds.length h.conds.length) (.slice Ad4 h.dates.length h.dates.length) (.slice An4 h.names.length h.names.length) (.slice none 0 0)).toArray 41 (0, 0))) := by rw [← hw9]; exact blk_row HRr.out _
      clear hw9
      go_wp2_with fail
      refine bodyPost_ret (results_blk Try.results35 rfl HB9.out Try.underlying41 rfl (by rw [info_item]; rfl)) rfl ?_
      have z1 := HSZ1.out; have z2 := HSZ2.out; have z3 := HSZ3.out; have m1 := HM1.out; have m2 := HM2.out; have m3 := HM3.out; have m4 := HM4.out; have z0 := HSZ0.out
      refine ⟨.node h (.slice Ac4 h.conds.length h.conds.length) (.slice Ad4 h.dates.length h.dates.length) (.slice An4 h.names.length h.names.length) (.slice none 0 0) [], rfl, by rw [tree_node, tree_node], rfl, ⟨?_, ?_, ?_, ?_, ?_⟩, ?_⟩
      · exact ((HO1.out.fr HFr.out (fun g h1 h2 h3 => by have := HUP1.out g h2; exact h3)).fr HF9.out (fun g h1 _ e => by omega)).mono (by omega)
      · exact ((HO3.out.fr HFr.out (fun g h1 h2 h3 => by have := HUP3.out g h2; exact h3)).fr HF9.out (fun g h1 _ e => by omega)).mono (by omega)
      · exact (((HO2.out.fr HFr.out (fun g h1 h2 h3 => by have := HUP2.out g h2; exact h3)).fr HF9.out (fun g h1 _ e => by omega)).mono (lo' := W.heap.size) (by omega)).row civil_len (by rw [List.length_map]; have := HLD.out; omega) (fun g hg => ⟨by have := HUP2.out g hg; omega, fun e => by have h1 := HUP2.out g hg; have h2 := HUP1.out g e; omega, fun e => by have h1 := HUP2.out g hg; have h2 := HUP3.out g e; omega⟩)
      · exact (HITS.out.fr HF9.out (fun g hg e => by omega)).mono (fun g _ hg => ⟨by omega, fun e => by have h2 := HUP1.out g e; omega, fun e => by have h2 := HUP3.out g e; omega⟩)
      · exact fun g hg e => by have h1 := HUP1.out g hg; have h2 := HUP3.out g e; omega
      · exact (HF4.out.trans' HFr.out (fun g hg hs => by exact hs)).trans' HF9.out (fun g hg e => by omega)
  · obtain ⟨gi, hge⟩ : ∃ gi, Ai4 = some ⟨gi, 0, none⟩ := by
      rcases HO4.out with ⟨h, _⟩ | ⟨g, _, _, h, _⟩
      · exact absurd (List.map_eq_nil_iff.1 h) hl
      · injection h with h; exact ⟨g, h⟩
    subst hge
    have HROW4 : Hid (w4.heap[gi]? = some (.cells (l.map DT.cells).flatten.toArray 41 (0, 0))) := by
      rcases HO4.out with ⟨h, _⟩ | ⟨g, _, _, h, h2⟩
      · exact absurd (List.map_eq_nil_iff.1 h) hl
      · injection h with h; injection h with h; injection h with h _ _; subst h; exact h2
    have HGI : Hid (w3.heap.size ≤ gi ∧ gi < w4.heap.size) := HUP4.out gi rfl
    have k32 : w4.cell? ⟨W.heap.size, 32, none⟩ = some (.slice (some ⟨gi, 0, none⟩) l.length l.length) := (cell_of_blk HB4.out 32).trans rfl
    have HCL0 : Hid (CL w4 gi l 0 [] w4) := ⟨Fr.refl _ _, by simpa using HROW4.out, rfl, rfl, fun y hy => absurd hy List.not_mem_nil⟩
    clear hl HO4
    go_wp2_with fail
    go_loopw [24] (fun i wr => ∃ (k : Nat) (ys : List DT), i = .int .i64 k ∧ k ≤ l.length ∧ Hid (CL w4 gi l k ys wr)) (fun i _ => l.length - (intOf i).toNat)
    case atStart => exact ⟨0, [], rfl, Nat.zero_le _, HCL0⟩
    case round =>
      clear k32 HCL0
      obtain ⟨k, ys, rfl, hk, HCL⟩ := hrel
      have i1 : (0 : Int) ≤ (k : Int) := Int.natCast_nonneg _
      have HBr : Hid (wr.heap[W.heap.size]? = some (.cells (icells h (.slice Ac4 h.conds.length h.conds.length) (.slice Ad4 h.dates.length h.dates.length) (.slice An4 h.names.length h.names.length) (.slice (some ⟨gi, 0, none⟩) l.length l.length)).toArray 41 (0, 0))) := HCL.out.fr.blk HB4.out (fun e => by have h1 := HGI.out.1; have h2 := HSZ3.out; omega)
      have HRr : Hid (wr.heap[W.heap.size + 1]? = some (.cells #[.int .i64 0, .string ⟨#[]⟩, .int .i64 0, .string ⟨#[]⟩, .string ⟨#[]⟩, .int .i64 0, .int .i64 0, .int .i64 0, .bool false, .string ⟨#[]⟩, .int .i64 0, .bool false, .string ⟨#[]⟩, .slice none 0 0, .string ⟨#[]⟩, .string ⟨#[]⟩, .int .i64 0, .int .i64 0, .string ⟨#[]⟩, .string ⟨#[]⟩, .bool false, .string ⟨#[]⟩, .string ⟨#[]⟩, .bool false, .bool false, .bool false, .bool false, .bool false, .bool false, .bool false, .slice none 0 0, .slice none 0 0, .slice none 0 0] 41 (0, 0))) := HCL.out.fr.blk HR4.out (fun e => by have h1 := HGI.out.1; have h2 := HSZ3.out; omega)
      by_cases hlt : k < l.length
      · have i2 : (k : Int) < (l.length : Int) := by omega
        obtain ⟨y, hy⟩ : ∃ y, l[k]? = some y := ⟨_, List.getElem?_eq_getElem hlt⟩
        have HY := Lib.hid hy
        have HLY : Hid (Lay (fun g => g < W.heap.size) wr y) := ((HL.out.inner y (List.mem_of_getElem? hy)).fr HF4.out (fun _ _ h => h)).fr HCL.out.fr (fun g hg e => by have h1 := HGI.out.1; have h2 := HSZ3.out; omega)
        have HKK := Lib.hid hlt
        have HSY : Hid (Short y) := HSYS.out y (List.mem_of_getElem? HY.out)
        obtain ⟨hk1, hk2⟩ := List.getElem?_eq_some_iff.1 hy
        have HROW := HCL.out.row
        rw [List.drop_eq_getElem_cons hk1, hk2, List.map_cons, List.flatten_cons, ← List.append_assoc] at HROW
        have hyl : (ys.map DT.cells).flatten.length = k * 33 := by rw [cells_flat, HCL.out.len]
        have HAT : Hid (At wr gi (k * 33) y.cells) := fun j v hj => by
          rw [cell_of_blk HROW, List.getElem?_toArray, List.append_assoc, List.getElem?_append_right (by omega), hyl, Nat.add_sub_cancel_left, List.getElem?_append_left (List.getElem?_eq_some_iff.1 hj).1]
          exact hj
        have HTH : Hid (∀ w, Fr (fun _ => False) wr w → ∀ z : DT, w.there gi (k * 33) z.cells.toArray.size) := fun w hf z j hj => by
          have h1 := hf.blk HROW (fun h => h)
          rw [cells_size] at hj
          refine ⟨?_, froz_of_blk h1 _⟩
          rw [cell_of_blk h1, List.getElem?_toArray, List.append_assoc, List.getElem?_append_right (by omega), hyl, Nat.add_sub_cancel_left, List.getElem?_append_left (by rw [y.cells_len]; exact hj), List.getElem?_eq_getElem (by rw [y.cells_len]; exact hj)]
          rfl
        clear hk1 hk2 HROW hyl
        have hj := i1
        clear hy
        go_upto_region 7 with fail
        iterate 7 go_step
        refine wpList_load_mid rfl 41 _ rfl gi (k * 33) rfl y.cells _ HAT.out Try.underlying41 rfl (info_itl y) ?_
        simp only [Act.put, List.setIfInBounds_toArray, List.set_cons_zero, List.set_cons_succ]
        iterate 6 go_step
        refine wpList_store_row rfl 41 _ _ rfl wr.heap.size y.cells.toArray rfl rfl 41 _ (blk_newn rfl) (info_it y) (cells_size y).symm HLY.out.one ?_
        simp only [Act.put, List.setIfInBounds_toArray, List.set_cons_zero, List.set_cons_succ]
        rw [World.setRow_alloc_new]
        obtain ⟨u, hu⟩ : ∃ u, wr.alloc (.cells y.cells.toArray 41) = u := ⟨_, rfl⟩
        rw [hu]
        have HYB : Hid (u.heap[wr.heap.size]? = some (.cells y.cells.toArray 41 (0, 0))) := by rw [← hu]; exact blk_newn rfl
        have HFU : Hid (Fr (fun _ => False) wr u) := by rw [← hu]; exact (Fr.refl _ wr).alloc _
        have HFD : Hid (Fr (fun _ => False) u u.drew) := (Fr.refl _ u).drew
        have HBu : Hid (u.heap[W.heap.size]? = some (.cells (icells h (.slice Ac4 h.conds.length h.conds.length) (.slice Ad4 h.dates.length h.dates.length) (.slice An4 h.names.length h.names.length) (.slice (some ⟨gi, 0, none⟩) l.length l.length)).toArray 41 (0, 0))) := HFU.out.blk HBr.out (fun h => h)
        have HLU : Hid (Lay (fun g => g < W.heap.size) u y) := HLY.out.fr HFU.out (fun _ _ h => h)
        have HLEN : Hid (l.length ≤ 9223372036854775807) := by have := HLI.out; show _ ≤ _; omega
        clear hu
        go_upto_region 8 with fail
        refine Reg.G.start (by kernel_rfl) ?_
        refine' Reg.G.pure (i := 0) (v := _) rfl (by rfl) (by kernel_rfl) (by kernel_rfl) (by kernel_rfl) (fun _ _ _ h => h) ?hyt1 ?rehyt1
        case hyt1 => exact fun w => by first | (go_simp; done) | (go_simp; with_reducible rfl)
        simp only [Act.put, List.setIfInBounds_toArray, List.set_cons_zero, List.set_cons_succ]
        refine' Reg.G.take (i := 1) (v := _) (F := (fun w => Fr (fun _ => False) u w)) rfl (by rfl) (by kernel_rfl) (by kernel_rfl) (by kernel_rfl) (fun _ _ _ h => h) (HFD.out) ?hyt2 ?rehyt2
        case hyt2 => intro w hw; have kc : w.cell? ⟨W.heap.size, 32, none⟩ = some (.slice (some ⟨gi, 0, none⟩) l.length l.length) := (cell_of_blk (hw.blk HBu.out (fun h => h)) 32).trans rfl; clear hw; first | (go_simp; done) | (go_simp; with_reducible rfl)
        simp only [Act.put, List.setIfInBounds_toArray, List.set_cons_zero, List.set_cons_succ]
        refine' Reg.G.pure (i := 2) (v := _) rfl (by rfl) (by kernel_rfl) (by kernel_rfl) (by kernel_rfl) (fun _ _ _ h => h) ?hyt3 ?rehyt3
        case hyt3 => exact fun w => by first | (go_simp; done) | (go_simp; with_reducible rfl)
        simp only [Act.put, List.setIfInBounds_toArray, List.set_cons_zero, List.set_cons_succ]
        refine' Reg.G.take (i := 3) (v := _) (F := (fun w => Fr (fun _ => False) u w)) rfl (by rfl) (by kernel_rfl) (by kernel_rfl) (by kernel_rfl) (fun _ _ _ h => h) (HFD.out) ?hyt4 ?rehyt4
        case hyt4 => intro w hw; refine run_load_row (P := Try.prog) 41 (.tmp 4) ?_ wr.heap.size ?_ 41 y.cells.toArray _ (hw.blk HYB.out (fun h => h)) Try.underlying41 rfl (info_it y) <;> rfl
        simp only [Act.put, List.setIfInBounds_toArray, List.set_cons_zero, List.set_cons_succ]
        refine Reg.G.step (j := 4) (m := [false, true]) [3, 1] rfl (by kernel_rfl) rfl (by kernel_rfl) (fun K hK => ?_)
        go_simp
        refine (HIH.out y _ (List.mem_of_getElem? HY.out) (HLU.out.fr HFD.out (fun _ _ h => h))).mono ?_
        rintro e w5 ⟨y5, rfl, ht5, hh5, hown5, hf5⟩
        have HFV5 : Hid (Fr (fun _ => False) u w5) := HFD.out.trans hf5
        have HF5 : Hid (Fr (fun _ => False) wr w5) := HFU.out.trans HFV5.out
        have HL5 : Hid (Lay (fun g => wr.heap.size ≤ g) w5 y5) := (hown5.lay (by rw [hh5]; exact (HSY.out.lens).1) (by rw [hh5]; exact (HSY.out.lens).2.2.1)).mono (fun g _ hg => by have h1 := HFD.out.size; have h2 := HFU.out.size; omega)
        have HT5 := Lib.hid ht5
        clear ht5 hh5 hown5 hf5
        refine hK.out _ _ ⟨HFV5.out, trivial⟩ ?_
        clear hK K
        simp only [Act.put, List.setIfInBounds_toArray, List.set_cons_zero, List.set_cons_succ, Reg.Kept]
        refine' Reg.G.pure (i := 5) (v := _) rfl (by rfl) (by kernel_rfl) (by kernel_rfl) (by kernel_rfl) (fun _ _ _ h => h) ?hyt5 ?rehyt5
        case hyt5 => exact fun w => by first | (go_simp; done) | (go_simp; with_reducible rfl)
        simp only [Act.put, List.setIfInBounds_toArray, List.set_cons_zero, List.set_cons_succ]
        refine Reg.G.step (j := 6) (m := [false]) [1] rfl (by kernel_rfl) rfl (by kernel_rfl) (fun K hK => ?_)
        have hth : w5.there gi (k * 33) y5.cells.toArray.size := HTH.out w5 HF5.out y5
        refine wp_store_mid 41 _ _ rfl gi (k * 33) y5.cells.toArray rfl rfl hth (info_it y5) HL5.out.one ?_
        refine hK.out _ _ trivial ?_
        clear hK K
        simp only [Act.put, List.setIfInBounds_toArray, List.set_cons_zero, List.set_cons_succ, Reg.Kept]
        refine Reg.G.done (by kernel_rfl) ?_
        have HNX : Hid (CL w4 gi l (k + 1) (ys ++ [y5]) (w5.setCells gi (k * 33) y5.cells)) := HCL.out.next HGI.out.2 HY.out HF5.out HT5.out HL5.out
        obtain ⟨w6, hw6⟩ : ∃ w, w5.setCells gi (k * 33) y5.cells = w := ⟨_, rfl⟩
        rw [hw6] at HNX
        rw [hw6]
        clear hw6
        go_wp2_with fail
        go_roundw
        case rel => exact ⟨k + 1, _, by go_num, hlt, HNX⟩
        case measure => simp [intOf]; omega
      · obtain rfl : k = l.length := by omega
        have HFr : Hid (Fr (fun g => g = gi) w4 wr) := HCL.out.fr
        have HITS : Hid (LayL (fun g => w3.heap.size ≤ g) wr ys (.slice (some ⟨gi, 0, none⟩) l.length l.length)) := by
          have h1 := HCL.out.row
          rw [List.drop_length, List.map_nil, List.flatten_nil, List.append_nil] at h1
          have h2 : ys.length = l.length := HCL.out.len
          refine ⟨?_, fun y hy => (HCL.out.lay y hy).mono (fun g _ hg => by have := HM4.out; omega)⟩
          have h3 := RowB.new (B := fun g => w3.heap.size ≤ g) items_len (by rw [List.length_map]; have := HLI.out; omega) h1 HGI.out.1
          rw [List.length_map, h2] at h3
          exact h3
        have HTR : Hid (ys.map DT.tree = l.map DT.tree) := by have := HCL.out.tr; rw [List.take_length] at this; exact this
        clear HCL
        go_upto_region 10 with fail
        iterate 1 go_step
        refine wpList_load_row rfl 41 _ rfl W.heap.size rfl 41 (icells h (.slice Ac4 h.conds.length h.conds.length) (.slice Ad4 h.dates.length h.dates.length) (.slice An4 h.names.length h.names.length) (.slice (some ⟨gi, 0, none⟩) l.length l.length)).toArray (0, 0) _ HBr.out Try.underlying41 rfl (by rw [info_item]; rfl) ?_
        simp only [Act.put, List.setIfInBounds_toArray, List.set_cons_zero, List.set_cons_succ]
        refine wpList_store_row rfl 41 _ _ rfl (W.heap.size + 1) (icells h (.slice Ac4 h.conds.length h.conds.length) (.slice Ad4 h.dates.length h.dates.length) (.slice An4 h.names.length h.names.length) (.slice (some ⟨gi, 0, none⟩) l.length l.length)).toArray rfl rfl 41 _ HRr.out (by rw [info_item]; rfl) rfl (by simp [icells, Value.oneCell', sv, nv]) ?_
        simp only [Act.put, List.setIfInBounds_toArray, List.set_cons_zero, List.set_cons_succ]
        obtain ⟨w9, hw9⟩ : ∃ w9, wr.setRow (W.heap.size + 1) (icells h (.slice Ac4 h.conds.length h.conds.length) (.slice Ad4 h.dates.length h.dates.length) (.slice An4 h.names.length h.names.length) (.slice (some ⟨gi, 0, none⟩) l.length l.length)).toArray = w9 := ⟨_, rfl⟩
        rw [hw9]
        have HF9 : Hid (Fr (fun j => j = W.heap.size + 1) wr w9) := by rw [← hw9]; exact (Fr.refl (fun j => j = W.heap.size + 1) wr).setRow (.inl rfl) _
        have HB9 : Hid (w9.heap[W.heap.size + 1]? = some (.cells (icells h (.slice Ac4 h.conds.length h.conds.length) (.slice Ad4 h.dates.length h.dates.length) (.slice An4 h.names.length h.names.length) (.slice (some ⟨gi, 0, none⟩) l.length l.length)).toArray 41 (0, 0))) := by rw [← hw9]; exact blk_row HRr.out _
        clear hw9
        go_wp2_with fail
        refine bodyPost_ret (results_blk Try.results35 rfl HB9.out Try.underlying41 rfl (by rw [info_item]; rfl)) rfl ?_
        have z1 := HSZ1.out; have z2 := HSZ2.out; have z3 := HSZ3.out; have m1 := HM1.out; have m2 := HM2.out; have m3 := HM3.out; have m4 := HM4.out; have z0 := HSZ0.out
        refine ⟨.node h (.slice Ac4 h.conds.length h.conds.length) (.slice Ad4 h.dates.length h.dates.length) (.slice An4 h.names.length h.names.length) (.slice (some ⟨gi, 0, none⟩) l.length l.length) ys, rfl, by rw [tree_node, tree_node, HTR.out], rfl, ⟨?_, ?_, ?_, ?_, ?_⟩, ?_⟩
        · exact ((HO1.out.fr HFr.out (fun g h1 h2 h3 => by have := HUP1.out g h2; have := HGI.out; omega)).fr HF9.out (fun g h1 _ e => by omega)).mono (by omega)
        · exact ((HO3.out.fr HFr.out (fun g h1 h2 h3 => by have := HUP3.out g h2; have := HGI.out; omega)).fr HF9.out (fun g h1 _ e => by omega)).mono (by omega)
        · exact (((HO2.out.fr HFr.out (fun g h1 h2 h3 => by have := HUP2.out g h2; have := HGI.out; omega)).fr HF9.out (fun g h1 _ e => by omega)).mono (lo' := W.heap.size) (by omega)).row civil_len (by rw [List.length_map]; have := HLD.out; omega) (fun g hg => ⟨by have := HUP2.out g hg; omega, fun e => by have h1 := HUP2.out g hg; have h2 := HUP1.out g e; omega, fun e => by have h1 := HUP2.out g hg; have h2 := HUP3.out g e; omega⟩)
        · exact (HITS.out.fr HF9.out (fun g hg e => by omega)).mono (fun g _ hg => ⟨by omega, fun e => by have h2 := HUP1.out g e; omega, fun e => by have h2 := HUP3.out g e; omega⟩)
        · exact fun g hg e => by have h1 := HUP1.out g hg; have h2 := HUP3.out g e; omega
        · exact (HF4.out.trans' HFr.out (fun g hg hs => by have := HGI.out; omega)).trans' HF9.out (fun g hg e => by omega)
end Go.Proofs.Yticakdajhmfpoaa.Ic
