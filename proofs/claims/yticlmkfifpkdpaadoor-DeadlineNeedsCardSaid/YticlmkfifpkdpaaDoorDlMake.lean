/-
  A list of events that is made, and written element by element.
-/
import Derived.Test.YticlmkfifpkdpaaDoorDlLawW
namespace Go.Proofs.YticlmkfifpkdpaaDoor.Dl
open Go.RowKit Mem Vw
set_option linter.unusedVariables false
set_option linter.unusedSimpArgs false
def noev : When := ⟨false, 0, 0⟩
/-- The cells of a list of events, one behind the other. -/
def evcells (l : List When) : Array Value := (l.map whenc).flatten.toArray
theorem whenc_len (w : When) : (whenc w).length = 3 := rfl
theorem flat_len (l : List When) : (l.map whenc).flatten.length = l.length * 3 := by
  induction l with
  | nil => rfl
  | cons a l ih => rw [List.map_cons, List.flatten_cons, List.length_append, ih, whenc_len, List.length_cons]; omega
theorem made_when (n : Nat) : madeCells #[.bool false, .int .i64 0, .int .i64 0] (n * 3) = evcells (List.replicate n noev) := by
  have hs : (madeCells #[.bool false, .int .i64 0, .int .i64 0] (n * 3)).size = n * 3 := size_madeCells _ _
  have hs2 : (evcells (List.replicate n noev)).size = n * 3 := by unfold evcells; rw [List.size_toArray, flat_len, List.length_replicate]
  refine Array.ext (by rw [hs, hs2]) (fun j h1 h2 => ?_)
  have hj : j < n * 3 := by rw [hs] at h1; exact h1
  have h3 : j % 3 < 3 := Nat.mod_lt _ (by decide)
  have hq : j / 3 < n := by omega
  have e : j / 3 * 3 + j % 3 = j := by omega
  have hw : (List.replicate n noev |>.map whenc)[j / 3]? = some (whenc noev) := by
    rw [List.getElem?_map, List.getElem?_replicate, if_pos hq]; rfl
  have key : ∀ (k : Nat) (v : Value), k = j % 3 → (whenc noev)[k]? = some v → (evcells (List.replicate n noev))[j]? = some v := by
    intro k v hk hv
    subst hk
    have := flat_at (z := 3) (xs := (List.replicate n noev).map whenc) (fun x hx => by obtain ⟨y, _, rfl⟩ := List.mem_map.1 hx; rfl) (j / 3) _ hw (j % 3) v hv
    rw [e] at this
    unfold evcells
    rw [List.getElem?_toArray]
    exact this
  have hm : (madeCells #[.bool false, .int .i64 0, .int .i64 0] (n * 3))[j] = (#[.bool false, .int .i64 0, .int .i64 0] : Array Value)[j % 3]! := by
    unfold madeCells; simp
  rw [hm]
  have hk : j % 3 = 0 ∨ j % 3 = 1 ∨ j % 3 = 2 := by omega
  rcases hk with hk | hk | hk <;> rw [hk]
  · have := key 0 (.bool false) hk.symm rfl
    rw [Array.getElem?_eq_getElem h2] at this; injection this with this; exact this.symm
  · have := key 1 (.int .i64 0) hk.symm rfl
    rw [Array.getElem?_eq_getElem h2] at this; injection this with this; exact this.symm
  · have := key 2 (.int .i64 0) hk.symm rfl
    rw [Array.getElem?_eq_getElem h2] at this; injection this with this; exact this.symm
theorem flat_set : ∀ (l : List When) (n : Nat) (w : When), n < l.length → ((((l.map whenc).flatten.set (n * 3) (.bool w.known)).set (n * 3 + 1) (nv w.day)).set (n * 3 + 2) (nv w.min)) = ((l.set n w).map whenc).flatten
  | a :: l, 0, w, _ => rfl
  | a :: l, n + 1, w, h => by
    have ih := flat_set l n w (by simpa using h)
    have e : (n + 1) * 3 = n * 3 + 1 + 1 + 1 := by omega
    rw [e]
    show _ = ((a :: l.set n w).map whenc).flatten
    rw [List.map_cons, List.flatten_cons, List.map_cons, List.flatten_cons, ← ih]
    rfl
theorem evcells_set (l : List When) (n : Nat) (w : When) (h : n < l.length) : (((evcells l).setIfInBounds (n * 3) (.bool w.known)).setIfInBounds (n * 3 + 1) (.int .i64 w.day)).setIfInBounds (n * 3 + 2) (.int .i64 w.min) = evcells (l.set n w) := by
  unfold evcells
  rw [List.setIfInBounds_toArray, List.setIfInBounds_toArray, List.setIfInBounds_toArray, ← flat_set l n w h]
  rfl
theorem info_when : (Tryd.prog.info? 67).map (fun i => (i.zero, i.size, i.bytes)) = some (some (.agg #[.bool false, .int .i64 0, .int .i64 0]), 3, 24) := by kernel_rfl
theorem wpList_make_when {ops : Array Oper} {rest : List Oper} {o : Oper} {a : Act} {w : World} {Q : Exit → Act → World → Prop} (hg : o.guard = none) (c0 x : Operand) (hop : o.op = .makeSlice 42 c0 x) (n : Nat) (h0 : a.eval c0 = .int .i64 n) (hx : a.eval x = .int .i64 n) (hn : n ≤ 1000)
    (h : ∀ w', Below w.heap.size w w' → w'.heap.size = w.heap.size + 1 → w'.heap[w.heap.size]? = some (.cells (evcells (List.replicate n noev)) 67 (0, 0)) → wpList Tryd.prog ops Q rest (a.put o.dst (.slice (some ⟨w.heap.size, 0, none⟩) n n)) w') : wpList Tryd.prog ops Q (o :: rest) a w := by
  obtain ⟨i0, hi, hz0, hz1, hz2⟩ := info_parts info_when
  have hr := run_make (P := Tryd.prog) w 42 67 i0 _ Tryd.underlying42 hi hz0 .i64 .i64 n n (by omega) (Int.le_refl _) (by rw [hz2]; omega) (by omega)
  rw [hz1, Int.toNat_natCast] at hr
  have hm : madeCells (Value.agg #[.bool false, .int .i64 0, .int .i64 0]).cells (n * 3) = evcells (List.replicate n noev) := made_when n
  rw [hm] at hr
  refine wpList_plain hg fun K hK => ?_
  unfold Oper.wp
  simp [execOp, hop, h0, hx, hr, Result.andThen]
  exact hK _ _ (h _ ((Below.refl _ w).alloc (Nat.le_refl _) _) (by simp) (blk_newn rfl))
theorem evs_of_cells {W : World} {g n cp : Nat} (l : List When) (hb : W.heap[g]? = some (.cells (evcells l) 67 (0, 0))) (hn : l.length = n) (h1 : n ≤ cp) (h2 : cp ≤ 9223372036854775807) (h : ∀ w ∈ l, wf w.day ∧ wf w.min) : EvsAt W l (.slice (some ⟨g, 0, none⟩) n cp) :=
  evs_blk l hb rfl hn h1 h2 h
theorem only_nil (l : List When) : only l [] = List.replicate l.length noev := by
  unfold only
  refine List.ext_getElem? (fun i => ?_)
  rw [List.getElem?_map, List.getElem?_replicate]
  by_cases h : i < l.length
  · rw [List.getElem?_range h, if_pos h]; rfl
  · rw [List.getElem?_eq_none (by simpa using h), if_neg h]; rfl
theorem only_step (l : List When) (es : List Int) (n : Nat) (a : When) (ha : l[n]? = some a) : only l (es ++ [(n : Int)]) = (only l es).set n a := by
  refine List.ext_getElem? (fun i => ?_)
  rw [List.getElem?_set, only_len]
  unfold only
  rw [List.getElem?_map, List.getElem?_map]
  have hn : n < l.length := (List.getElem?_eq_some_iff.1 ha).1
  by_cases h : i < l.length
  · rw [List.getElem?_range h]
    by_cases hi : n = i
    · subst hi
      rw [if_pos rfl, if_pos hn]
      simp only [Option.map_some]
      rw [if_pos (by simp), List.getD_eq_getElem?_getD, ha]
      rfl
    · rw [if_neg hi]
      simp only [Option.map_some, List.mem_append, List.mem_singleton]
      have : ¬ ((i : Int) = (n : Int)) := by omega
      simp [this]
  · rw [List.getElem?_eq_none (by simpa using h)]
    by_cases hi : n = i
    · rw [if_pos hi, if_neg (by omega)]; rfl
    · rw [if_neg hi]; rfl
theorem flat_one (es : List Int) : (es.flatMap fun x => [nv x]) = es.map iv := by
  induction es with
  | nil => rfl
  | cons a r ih => rw [List.flatMap_cons, List.map_cons, ih]; rfl
theorem only_wf {l : List When} (h : ∀ w ∈ l, wf w.day ∧ wf w.min) (es : List Int) : ∀ w ∈ only l es, wf w.day ∧ wf w.min := by
  intro w hw
  unfold only at hw
  obtain ⟨i, hi, rfl⟩ := List.mem_map.1 hw
  split
  · rw [List.getD_eq_getElem?_getD]
    have : i < l.length := List.mem_range.1 hi
    rw [List.getElem?_eq_getElem this]
    exact h _ (List.getElem_mem this)
  · exact ⟨by unfold wf; decide, by unfold wf; decide⟩
end Go.Proofs.YticlmkfifpkdpaaDoor.Dl
