/-
  Sorted and without neighbours alike: strictly increasing, with the same members.
-/
import Derived.Lib.SlicesCompact
import Derived.Lib.RowBridge
import Derived.Test.YticlmkfifpkdpaaDoorDlLaws
namespace Go.Proofs.YticlmkfifpkdpaaDoor.Dl
open Go.Lib
set_option linter.unusedVariables false
theorem cut_mem (d : Array Int) : ∀ m, m ≤ d.size → ∀ x, x ∈ compactUpTo d m ↔ ∃ j, j < m ∧ d[j]! = x := by
  intro m
  induction m with
  | zero => intro _ x; simp [compactUpTo]
  | succ m ih =>
    intro hm x
    rw [compactUpTo_succ, List.mem_append, ih (by omega)]
    cases hk : keeps d m with
    | true =>
      simp only [if_true, List.mem_singleton]
      constructor
      · rintro (⟨j, hj, e⟩ | rfl)
        · exact ⟨j, by omega, e⟩
        · exact ⟨m, by omega, rfl⟩
      · rintro ⟨j, hj, e⟩
        by_cases h : j = m
        · subst h; exact .inr e.symm
        · exact .inl ⟨j, by omega, e⟩
    | false =>
      simp only [Bool.false_eq_true, if_false, List.not_mem_nil, or_false]
      constructor
      · rintro ⟨j, hj, e⟩; exact ⟨j, by omega, e⟩
      · rintro ⟨j, hj, e⟩
        by_cases h : j = m
        · subst h
          unfold keeps at hk
          simp only [decide_eq_false_iff_not, not_or, ne_eq, Decidable.not_not] at hk
          exact ⟨j - 1, by omega, by rw [← hk.2]; exact e⟩
        · exact ⟨j, by omega, e⟩
theorem cut_inc (d : Array Int) (hs : ∀ i j, i ≤ j → j < d.size → d[i]! ≤ d[j]!) : ∀ m, m ≤ d.size → (compactUpTo d m).Pairwise (· < ·) := by
  intro m
  induction m with
  | zero => intro _; simp [compactUpTo]
  | succ m ih =>
    intro hm
    rw [compactUpTo_succ, List.pairwise_append]
    refine ⟨ih (by omega), ?_, ?_⟩
    · split <;> simp
    · intro a ha b hb
      obtain ⟨j, hj, rfl⟩ := (cut_mem d m (by omega) a).1 ha
      cases hk : keeps d m with
      | false => rw [hk] at hb; simp at hb
      | true =>
        rw [hk] at hb
        simp only [if_true, List.mem_singleton] at hb
        subst hb
        unfold keeps at hk
        simp only [decide_eq_true_eq] at hk
        have h1 := hs j (m - 1) (by omega) (by omega)
        have h2 := hs (m - 1) m (by omega) (by omega)
        rcases hk with hk | hk
        · omega
        · omega
def dsort (l : List Int) : List Int := l.mergeSort fun x y => decide (x ≤ y)
theorem dsort_len (l : List Int) : (dsort l).length = l.length := List.length_mergeSort _
theorem dsort_pair (l : List Int) : (dsort l).Pairwise (fun x y => x ≤ y) := by
  have := List.pairwise_mergeSort (le := fun x y : Int => decide (x ≤ y)) (fun a b c h1 h2 => by simp at *; omega) (fun a b => by simp; omega) l
  exact this.imp (fun h => by simpa using h)
theorem dsort_mem (l : List Int) (x : Int) : x ∈ dsort l ↔ x ∈ l := (List.mergeSort_perm l _).mem_iff
def kept (l : List Int) : List Int := compact (dsort l)
theorem kept_mem (l : List Int) (x : Int) : x ∈ kept l ↔ x ∈ l := by
  unfold kept compact
  rw [cut_mem _ _ (by simp), ← dsort_mem l]
  constructor
  · rintro ⟨j, hj, rfl⟩
    rw [getElem!_pos _ _ (by simpa using hj)]
    exact List.getElem_mem (by simpa using hj)
  · intro h
    obtain ⟨j, hj, e⟩ := List.getElem_of_mem h
    exact ⟨j, hj, by rw [getElem!_pos _ _ (by simpa using hj)]; simpa using e⟩
theorem kept_pair (l : List Int) : (kept l).Pairwise (· < ·) := by
  unfold kept compact
  refine cut_inc _ ?_ _ (by simp)
  intro i j hij hj
  have hj' : j < (dsort l).length := by simpa using hj
  rw [getElem!_pos (dsort l).toArray i (by simp; omega), getElem!_pos (dsort l).toArray j hj]
  by_cases h : i = j
  · subst h; exact Int.le_refl _
  · have := List.pairwise_iff_getElem.1 (dsort_pair l) i j (by omega) hj' (by omega)
    simpa using this
theorem kept_len (l : List Int) : (kept l).length ≤ l.length := by
  have := compact_length_le (dsort l)
  rw [dsort_len] at this
  exact this
/-- The event numbers of the nodes, in order. -/
def evl (l : List (Nat × Term)) : List Int := (l.filter fun x => hasEv x.2).map fun x => x.2.ev
theorem evl_app (a b : List (Nat × Term)) : evl (a ++ b) = evl a ++ evl b := by unfold evl; rw [List.filter_append, List.map_append]
theorem evl_one (d : Nat) (u : Term) : evl [(d, u)] = if hasEv u then [u.ev] else [] := by
  unfold evl
  cases h : hasEv u <;> simp [h]
theorem evl_len (l : List (Nat × Term)) : (evl l).length ≤ l.length := by unfold evl; rw [List.length_map]; exact List.length_filter_le _ _
/-- What Events returns. -/
def evs (t : Term) : List Int := kept (evl (nodes 1 t))
theorem evs_ok (t : Term) : EventsOf t (evs t) := by
  refine ⟨?_, ?_⟩
  · intro i j hij hj
    have h := List.pairwise_iff_getElem.1 (kept_pair (evl (nodes 1 t))) i j (by have : (evs t).length = (kept (evl (nodes 1 t))).length := rfl; omega) hj hij
    rw [List.getD_eq_getElem?_getD, List.getD_eq_getElem?_getD, List.getElem?_eq_getElem hj, List.getElem?_eq_getElem (by omega)]
    exact h
  · intro e
    unfold evs
    rw [kept_mem]
    unfold evl
    rw [List.mem_map]
    constructor
    · rintro ⟨x, hx, rfl⟩
      obtain ⟨h1, h2⟩ := List.mem_filter.1 hx
      exact ⟨x, h1, h2, rfl⟩
    · rintro ⟨x, h1, h2, rfl⟩
      exact ⟨x, List.mem_filter.2 ⟨h1, h2⟩, rfl⟩
theorem evs_len {t : Term} {N : Int} (h : valid t N = true) : (evl (nodes 1 t)).length ≤ 40 := Nat.le_trans (evl_len _) ((valid_iff t N).1 h).2.1
end Go.Proofs.YticlmkfifpkdpaaDoor.Dl
