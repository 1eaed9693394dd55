/-
  Lists of events and terms in blocks.
-/
import Derived.Test.YticlmkfifpkdpaaDoorDlTree
import Derived.Test.YticlmkfifpkdpaaDoorDlLaws
namespace Go.Proofs.YticlmkfifpkdpaaDoor.Dl
open Go.RowKit Mem Vw
set_option linter.unusedVariables false
set_option linter.unusedSimpArgs false
theorem bf_keep {W X : World} (h : Bf W) (hb : Below W.heap.size W X) : Bf X := h.fr (Fr.of_below hb) (fun k hk => Nat.lt_of_lt_of_le h.1 hk)
def noev : When := ⟨false, 0, 0⟩
/-- The cells of a list of events, one behind the other. -/
def evcells (l : List When) : Array Value := (l.map whenc).flatten.toArray
theorem whenc_len (w : When) : (whenc w).length = 3 := rfl
theorem flat_len (l : List When) : (l.map whenc).flatten.length = l.length * 3 := by
  induction l with
  | nil => rfl
  | cons a l ih => rw [List.map_cons, List.flatten_cons, List.length_append, ih, whenc_len, List.length_cons]; omega
/-- A term without kids. -/
theorem tree_leaf (W : World) (k n e : Int) (b : Bool) (h1 : wf n) (h2 : wf e) : Tree W (.mk k n e b []) (.slice none 0 0) :=
  .mk [] rfl ⟨none, 0, rfl, ⟨Nat.le_refl _, by decide⟩, .inl rfl⟩ (fun x hx => by cases hx) (by show 0 ≤ _; decide) ⟨h1, h2⟩
theorem flat_at {z : Nat} : ∀ {xs : List (List Value)}, (∀ x ∈ xs, x.length = z) → ∀ (i : Nat) (x : List Value), xs[i]? = some x → ∀ (j : Nat) (v : Value), x[j]? = some v → xs.flatten[i * z + j]? = some v := by
  intro xs
  induction xs with
  | nil => intro _ i x h; cases i <;> cases h
  | cons y r ih =>
    intro hz i x hx j v hv
    have hy := hz y List.mem_cons_self
    rw [List.flatten_cons]
    cases i with
    | zero =>
      simp at hx; subst hx
      have hj := (List.getElem?_eq_some_iff.1 hv).1
      rw [Nat.zero_mul, Nat.zero_add, List.getElem?_append_left hj]
      exact hv
    | succ i =>
      have h1 := ih (fun x hx => hz x (List.mem_cons_of_mem _ hx)) i x (by simpa using hx) j v hv
      rw [List.getElem?_append_right (by rw [hy, Nat.succ_mul]; omega), hy, show (i + 1) * z + j - z = i * z + j by rw [Nat.succ_mul]; omega]
      exact h1
theorem row_blk {W : World} {g : Nat} {xs : List (List Value)} {z n cp : Nat} {T : TypeId} {cs : Array Value} (hb : W.heap[g]? = some (.cells cs T (0, 0))) (hcs : xs.flatten.toArray = cs) (hz : ∀ x ∈ xs, x.length = z) (hn : xs.length = n) (h1 : n ≤ cp) (h2 : cp ≤ 9223372036854775807) : Row W (.slice (some ⟨g, 0, none⟩) n cp) z xs := by
  subst hcs hn
  refine ⟨_, cp, rfl, ⟨h1, h2⟩, .inr ⟨g, 0, rfl, lt_of_blk hb, fun i x hx j v hv => ?_⟩⟩
  have h := (At.of_blk hb) (i * z + j) v (flat_at hz i x hx j v hv)
  rw [Nat.zero_add] at h ⊢
  exact h
/-- A term whose kids lie in a block. -/
theorem tree_blk {W : World} {g : Nat} (ks : List (Term × Value)) {k m e : Int} {b : Bool} {n cp : Nat} {T : TypeId} {cs : Array Value} (hb : W.heap[g]? = some (.cells cs T (0, 0))) (hcs : (ks.map tc).flatten.toArray = cs) (hn : ks.length = n) (h1 : n ≤ cp) (h2 : cp ≤ 9223372036854775807)
    (h : ∀ x ∈ ks, Tree W x.1 x.2) (w1 : wf m) (w2 : wf e) : Tree W (.mk k m e b (ks.map Prod.fst)) (.slice (some ⟨g, 0, none⟩) n cp) :=
  .mk ks rfl (row_blk hb hcs (fun x hx => by obtain ⟨y, _, rfl⟩ := List.mem_map.1 hx; rfl) (by rw [List.length_map]; exact hn) h1 h2) h (by show (ks.map Prod.fst).length ≤ _; rw [List.length_map]; omega) ⟨w1, w2⟩
theorem evs_blk {W : World} {g : Nat} (l : List When) {n cp : Nat} {T : TypeId} {cs : Array Value} (hb : W.heap[g]? = some (.cells cs T (0, 0))) (hcs : (l.map whenc).flatten.toArray = cs) (hn : l.length = n) (h1 : n ≤ cp) (h2 : cp ≤ 9223372036854775807)
    (h : ∀ w ∈ l, wf w.day ∧ wf w.min) : EvsAt W l (.slice (some ⟨g, 0, none⟩) n cp) :=
  ⟨row_blk hb hcs (fun x hx => by obtain ⟨y, _, rfl⟩ := List.mem_map.1 hx; rfl) (by rw [List.length_map]; exact hn) h1 h2, h⟩
theorem evs_nil (W : World) : EvsAt W [] (.slice none 0 0) := ⟨⟨none, 0, rfl, ⟨Nat.le_refl _, by decide⟩, .inl rfl⟩, fun x hx => by cases hx⟩
theorem made_when (n : Nat) : madeCells #[.bool false, .int .i64 0, .int .i64 0] (n * 3) = evcells (List.replicate n noev) := by
  have hs : (madeCells #[.bool false, .int .i64 0, .int .i64 0] (n * 3)).size = n * 3 := size_madeCells _ _
  have hs2 : (evcells (List.replicate n noev)).size = n * 3 := by unfold evcells; rw [List.size_toArray, flat_len, List.length_replicate]
  refine Array.ext (by rw [hs, hs2]) (fun j h1 h2 => ?_)
  have hj : j < n * 3 := by rw [hs] at h1; exact h1
  have h3 : j % 3 < 3 := Nat.mod_lt _ (by decide)
  have hq : j / 3 < n := by omega
  have e : j / 3 * 3 + j % 3 = j := by omega
  have hw : (List.replicate n noev |>.map whenc)[j / 3]? = some (whenc noev) := by
    rw [List.getElem?_map, List.getElem?_replicate, if_pos hq]; rfl
  have key : ∀ (k : Nat) (v : Value), k = j % 3 → (whenc noev)[k]? = some v → (evcells (List.replicate n noev))[j]? = some v := by
    intro k v hk hv
    subst hk
    have := flat_at (z := 3) (xs := (List.replicate n noev).map whenc) (fun x hx => by obtain ⟨y, _, rfl⟩ := List.mem_map.1 hx; rfl) (j / 3) _ hw (j % 3) v hv
    rw [e] at this
    unfold evcells
    rw [List.getElem?_toArray]
    exact this
  have hm : (madeCells #[.bool false, .int .i64 0, .int .i64 0] (n * 3))[j] = (#[.bool false, .int .i64 0, .int .i64 0] : Array Value)[j % 3]! := by
    unfold madeCells; simp
  rw [hm]
  have hk : j % 3 = 0 ∨ j % 3 = 1 ∨ j % 3 = 2 := by omega
  rcases hk with hk | hk | hk <;> rw [hk]
  · have := key 0 (.bool false) hk.symm rfl
    rw [Array.getElem?_eq_getElem h2] at this; injection this with this; exact this.symm
  · have := key 1 (.int .i64 0) hk.symm rfl
    rw [Array.getElem?_eq_getElem h2] at this; injection this with this; exact this.symm
  · have := key 2 (.int .i64 0) hk.symm rfl
    rw [Array.getElem?_eq_getElem h2] at this; injection this with this; exact this.symm
theorem info_when : (Tryd.prog.info? 67).map (fun i => (i.zero, i.size, i.bytes)) = some (some (.agg #[.bool false, .int .i64 0, .int .i64 0]), 3, 24) := by kernel_rfl
theorem evs_of_cells {W : World} {g n cp : Nat} (l : List When) (hb : W.heap[g]? = some (.cells (evcells l) 67 (0, 0))) (hn : l.length = n) (h1 : n ≤ cp) (h2 : cp ≤ 9223372036854775807) (h : ∀ w ∈ l, wf w.day ∧ wf w.min) : EvsAt W l (.slice (some ⟨g, 0, none⟩) n cp) :=
  evs_blk l hb rfl hn h1 h2 h
end Go.Proofs.YticlmkfifpkdpaaDoor.Dl
