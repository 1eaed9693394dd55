/-
  The holidays and the weekend of a source without faults, in plain Lean.
-/
import Derived.Test.YtdhjibnkebbejaaDoorResLawN
namespace Go.Proofs.YtdhjibnkebbejaaDoor.Rs
set_option linter.unusedVariables false
set_option linter.unusedSimpArgs false

/-! The holidays and the weekend of a source without faults. -/
theorem hput_mem (l : List Int) (d a : Int) : a ∈ hput l d ↔ a ∈ l ∨ a = d := by
  unfold hput
  split
  · rename_i h
    rw [List.contains_iff_mem] at h
    constructor
    · exact .inl
    · rintro (h' | rfl)
      · exact h'
      · exact h
  · simp
theorem hput_nodup (l : List Int) (d : Int) (h : l.Nodup) : (hput l d).Nodup := by
  unfold hput
  split
  · exact h
  · rename_i hc
    rw [List.contains_iff_mem] at hc
    rw [List.nodup_append]
    refine ⟨h, by simp, fun a ha b hb => ?_⟩
    simp only [List.mem_cons, List.not_mem_nil, or_false] at hb
    subst hb
    intro e; subst e; exact hc ha
theorem hputs_mem (ds l : List Int) (a : Int) : a ∈ ds.foldl hput l ↔ a ∈ l ∨ a ∈ ds := by
  induction ds generalizing l with
  | nil => simp
  | cons d ds ih => rw [List.foldl_cons, ih, hput_mem, List.mem_cons, or_assoc]
theorem hputs_nodup (ds l : List Int) (h : l.Nodup) : (ds.foldl hput l).Nodup := by
  induction ds generalizing l with
  | nil => exact h
  | cons d ds ih => rw [List.foldl_cons]; exact ih _ (hput_nodup l d h)
def orI (w : List Bool) (x : Item) : List Bool := if x.kind = 4 then orDays w x.days else w
theorem fold_cal (T : Tab) (l : List Item) : ∀ s : Sy, (l.foldl (addI T) s).weekend = l.foldl orI s.weekend ∧ (∀ a, a ∈ (l.foldl (addI T) s).hol ↔ a ∈ s.hol ∨ ∃ x ∈ l, x.kind = 5 ∧ ∃ c ∈ x.dates, number c = some a) ∧ (s.hol.Nodup → (l.foldl (addI T) s).hol.Nodup) := by
  induction l with
  | nil => intro s; exact ⟨rfl, fun a => by simp, id⟩
  | cons x l ih =>
    intro s
    obtain ⟨h1, h2, h3⟩ := ih (addI T s x)
    simp only [List.foldl_cons]
    refine ⟨h1, fun a => ?_, fun h => h3 ?_⟩
    · rw [h2]
      have e : (addI T s x).hol = if x.kind = 5 then (x.dates.filterMap number).foldl hput s.hol else s.hol := rfl
      rw [e]
      by_cases h5 : x.kind = 5
      · rw [if_pos h5, hputs_mem, List.mem_filterMap, or_assoc]
        constructor
        · rintro (h | h | ⟨y, hy, h⟩)
          · exact .inl h
          · exact .inr ⟨x, List.mem_cons_self .., h5, h⟩
          · exact .inr ⟨y, List.mem_cons_of_mem _ hy, h⟩
        · rintro (h | ⟨y, hy, k5, h⟩)
          · exact .inl h
          · rcases List.mem_cons.1 hy with rfl | hy
            · exact .inr (.inl h)
            · exact .inr (.inr ⟨y, hy, k5, h⟩)
      · rw [if_neg h5]
        constructor
        · rintro (h | ⟨y, hy, h⟩)
          · exact .inl h
          · exact .inr ⟨y, List.mem_cons_of_mem _ hy, h⟩
        · rintro (h | ⟨y, hy, k5, h⟩)
          · exact .inl h
          · rcases List.mem_cons.1 hy with rfl | hy
            · exact absurd k5 h5
            · exact .inr ⟨y, hy, k5, h⟩
    · show (if x.kind = 5 then (x.dates.filterMap number).foldl hput s.hol else s.hol).Nodup
      split
      · exact hputs_nodup _ _ h
      · exact h
theorem run_cal (l : List Item) (h : (run l).2 = []) : (run l).1.weekend = l.foldl orI sy0.weekend ∧ (∀ a, a ∈ (run l).1.hol ↔ ∃ x ∈ l, x.kind = 5 ∧ ∃ c ∈ x.dates, number c = some a) ∧ (run l).1.hol.Nodup := by
  unfold run at *
  obtain ⟨h1, _, _⟩ := items_fine (tabs tab0 l) l tab0 sy0 h
  obtain ⟨a1, a2, a3⟩ := fold_cal (tabs tab0 l) l sy0
  rw [h1]
  exact ⟨a1, fun a => by rw [a2]; simp [sy0], a3 (by simp [sy0])⟩
end Go.Proofs.YtdhjibnkebbejaaDoor.Rs
