/-
  The loops of the parser do not depend on their number of rounds, if it exceeds the number of tokens.
-/
import Derived.Test.YtfaflipphkoiiaaDoorParMonoB
namespace Go.Proofs.YtfaflipphkoiiaaDoor.Pr
open Lx (Tok)
set_option linter.unusedVariables false

/-- Enough rounds: their number does not matter. -/
def Fueled {α : Type} (m : Nat → M α) : Prop := ∀ n n' s, s.rest.length < n → s.rest.length < n' → m n s = m n' s
theorem names_fueled : Fueled namesMore := by
  intro n
  induction n with
  | zero => intro n' s h; omega
  | succ n ih =>
    intro n' s h h'
    obtain ⟨k, rfl⟩ : ∃ k, n' = k + 1 := ⟨n' - 1, by omega⟩
    rw [namesMore_succ, namesMore_succ]
    split
    · rename_i hb
      have h1 := acc_len hb
      have h2 := Mono.name (acc [44] s).2
      rw [ih k _ (by omega) (by omega)]
    · rfl
theorem dates_fueled : Fueled datesMore := by
  intro n
  induction n with
  | zero => intro n' s h; omega
  | succ n ih =>
    intro n' s h h'
    obtain ⟨k, rfl⟩ : ∃ k, n' = k + 1 := ⟨n' - 1, by omega⟩
    rw [datesMore_succ, datesMore_succ]
    split
    · rename_i hb
      have h1 := acc_len hb
      have h2 := Mono.date s
      rw [ih k _ (by omega) (by omega)]
    · rfl
theorem conds_fueled : Fueled condsMore := by
  intro n
  induction n with
  | zero => intro n' s h; omega
  | succ n ih =>
    intro n' s h h'
    obtain ⟨k, rfl⟩ : ∃ k, n' = k + 1 := ⟨n' - 1, by omega⟩
    rw [condsMore_succ, condsMore_succ]
    split
    · rename_i hb
      have h1 := acc_len hb
      have h2 := Mono.named s
      rw [ih k _ (by omega) (by omega)]
    · rfl
theorem weekend_fueled' : ∀ n n' l (s : St), s.rest.length < n → s.rest.length < n' → weekendMore n l s = weekendMore n' l s := by
  intro n
  induction n with
  | zero => intro n' l s h; omega
  | succ n ih =>
    intro n' l s h h'
    obtain ⟨k, rfl⟩ : ∃ k, n' = k + 1 := ⟨n' - 1, by omega⟩
    rw [weekendMore_succ, weekendMore_succ]
    split
    · split
      · rename_i hb
        have h1 := acc_len hb
        have h2 := Mono.weekday s
        rw [ih k _ _ (by omega) (by omega)]
      · rfl
    · rfl
theorem weekend_fueled (l : List Bool) : Fueled (fun n => weekendMore n l) := fun n n' s h h' => weekend_fueled' n n' l s h h'
theorem tmpl_fueled : Fueled tmplMore := by
  intro n
  induction n with
  | zero => intro n' s h; omega
  | succ n ih =>
    intro n' s h h'
    obtain ⟨k, rfl⟩ : ∃ k, n' = k + 1 := ⟨n' - 1, by omega⟩
    by_cases he : s.err = 0
    · rw [tmplMore_succ _ _ he, tmplMore_succ _ _ he]
      split
      · rfl
      · have h1 := Mono.acc [125] s
        have h2 := inner_prog (acc [125] s).2
        by_cases he2 : (inner (acc [125] s).2).2.err = 0
        · have h3 := h2.2 he2
          rw [ih k _ (by omega) (by omega)]
        · rw [tmplMore_err _ _ he2, tmplMore_err _ _ he2]
    · rw [tmplMore_err _ _ he, tmplMore_err _ _ he]
theorem items_fueled : Fueled itemsMore := by
  intro n
  induction n with
  | zero => intro n' s h; omega
  | succ n ih =>
    intro n' s h h'
    obtain ⟨k, rfl⟩ : ∃ k, n' = k + 1 := ⟨n' - 1, by omega⟩
    by_cases he : s.err ≠ 0 ∨ s.rest = []
    · rw [itemsMore_end _ _ he, itemsMore_end _ _ he]
    · have he1 : s.err = 0 := by by_cases h0 : s.err = 0; exact h0; exact absurd (.inl h0) he
      have he2 : s.rest ≠ [] := fun h0 => he (.inr h0)
      rw [itemsMore_succ _ _ he1 he2, itemsMore_succ _ _ he1 he2]
      have h2 := item_prog s
      by_cases he3 : (item s).2.err = 0
      · have h3 := h2.2 he3
        rw [ih k _ (by omega) (by omega)]
      · rw [itemsMore_end _ _ (.inl he3), itemsMore_end _ _ (.inl he3)]
end Go.Proofs.YtfaflipphkoiiaaDoor.Pr
