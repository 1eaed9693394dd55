/-
  The errors of Deemed; the plain law of ReceiptContradicts.
-/
import Derived.Test.YticlmkfifpkdpaaDoorRcDeem
namespace Go.Proofs.YticlmkfifpkdpaaDoor.Rc
open Dl (When Term Cal noev eval bounds)
open Zn (Zone loc localOf)
set_option linter.unusedVariables false
set_option linter.unusedSimpArgs false
theorem exFrom_err (z : Zone) (cmp : When → When → Bool) : ∀ (l : List Int) (r : When), (exFrom z cmp r l).2 = 0 ∨ (exFrom z cmp r l).2 = 1 ∨ (exFrom z cmp r l).2 = 2 := by
  intro l
  induction l with
  | nil => intro r; exact .inl rfl
  | cons t l ih =>
    intro r
    rw [exFrom_cons]
    split
    · rename_i h
      rcases err_cases z t with h1 | h1 | ⟨h1, _⟩
      · exact .inr (.inl h1)
      · exact .inr (.inr h1)
      · exact absurd h1 h
    · exact ih _
theorem extreme_err (z : Zone) (s : Stretch) (cmp : When → When → Bool) : (extreme z s cmp).2 = 0 ∨ (extreme z s cmp).2 = 1 ∨ (extreme z s cmp).2 = 2 := by
  unfold extreme
  split
  · exact exFrom_err z cmp _ _
  · exact .inl rfl
theorem bounds_err (t : Term) (c : Cal) (x y : List When) : (bounds t c x y).2.2.2 = 0 ∨ (bounds t c x y).2.2.2 = 1 ∨ (bounds t c x y).2.2.2 = 2 := by
  unfold bounds
  repeat' split
  all_goals simp
theorem fin_err (t : Term) (c : Cal) (x y : List When) : (fin (bounds t c x y)).2.2 ≠ 23 := by
  have h := bounds_err t c x y
  unfold fin
  repeat' split
  · dsimp only; omega
  · decide
  · show (0 : Int) ≠ 23; decide
theorem deemed_not23 {r : Rule} {n : Notice} {a b : Stretch} (h1 : ruleOk r = true) (h2 : formed n = true) (h3 : str n = some (a, b)) : (deemed r n).2.2 ≠ 23 := by
  have e1 := extreme_err r.zone a earlier
  have e2 := extreme_err r.zone a later
  have e3 := extreme_err r.zone b earlier
  have e4 := extreme_err r.zone b later
  by_cases g1 : (extreme r.zone a earlier).2 = 0
  case neg => rw [deemed_e1 h1 h2 h3 g1]; dsimp only; omega
  by_cases g2 : (extreme r.zone a later).2 = 0
  case neg => rw [deemed_e2 h1 h2 h3 g1 g2]; dsimp only; omega
  by_cases g3 : (extreme r.zone b earlier).2 = 0
  case neg => rw [deemed_e3 h1 h2 h3 g1 g2 g3]; dsimp only; omega
  by_cases g4 : (extreme r.zone b later).2 = 0
  case neg => rw [deemed_e4 h1 h2 h3 g1 g2 g3 g4]; dsimp only; omega
  rw [deemed_ok h1 h2 h3 g1 g2 g3 g4]
  exact fin_err _ _ _ _
/-- ReceiptContradicts. -/
theorem law_contra {r : Rule} {n : Notice} (h1 : ruleOk r = true) (h2 : formed n = true) : (deemed r n).2.2 = 23 ↔ 0 ≤ n.sent ∧ 0 ≤ n.got ∧ n.sent - n.got > 2 * n.slack := by
  obtain ⟨s, g, k⟩ := n
  have hb : (s = -1 ∨ 0 ≤ s ∧ s ≤ 105190559) ∧ (g = -1 ∨ 0 ≤ g ∧ g ≤ 105190559) ∧ 0 ≤ k ∧ k ≤ 2880 := by
    have hf := h2
    unfold formed dated lastI at hf
    simp only [Bool.and_eq_true, Bool.or_eq_true, decide_eq_true_eq] at hf
    exact ⟨hf.1.1.1, hf.1.1.2, hf.1.2, hf.2⟩
  dsimp only
  by_cases hn : s = -1 ∨ g = -1
  · have hs : str ⟨s, g, k⟩ = some (str1 s k, str1 g k) := by unfold str; exact if_pos hn
    have := deemed_not23 h1 h2 hs
    constructor
    · intro h; exact absurd h this
    · intro h; omega
  · by_cases hc : g + k < s - k
    · have hs : str ⟨s, g, k⟩ = none := by unfold str; rw [if_neg hn]; exact if_pos hc
      rw [deemed_ev h1 h2 hs]
      constructor
      · intro _; omega
      · intro _; rfl
    · have hs : ∃ a b, str ⟨s, g, k⟩ = some (a, b) := by unfold str; rw [if_neg hn]; exact ⟨_, _, if_neg hc⟩
      obtain ⟨a, b, hs⟩ := hs
      have := deemed_not23 h1 h2 hs
      constructor
      · intro h; exact absurd h this
      · intro h; omega
end Go.Proofs.YticlmkfifpkdpaaDoor.Rc
