/-
  The plain law of ReceiptExact.
-/
import Derived.Test.YticlmkfifpkdpaaDoorRcLawB
namespace Go.Proofs.YticlmkfifpkdpaaDoor.Rc
open Dl (When Term Cal noev eval bounds ordered pairOk)
open Zn (Zone loc localOf)
set_option linter.unusedVariables false
set_option linter.unusedSimpArgs false
/-- The extreme times of a stretch of a zone without changes are those at its ends. -/
theorem ends_fixed {z : Zone} (hc : z.chs = []) {s : Stretch} {x y : Int} (hs : if s.given then s.lo = x ∧ s.hi = y ∧ 0 ≤ x ∧ x ≤ y ∧ y < 105190560 else x < 0 ∧ y < 0) (g1 : (extreme z s earlier).2 = 0) (g2 : (extreme z s later).2 = 0) :
    (extreme z s earlier).1 = (if 0 ≤ x then lwhen z x else noev) ∧ (extreme z s later).1 = (if 0 ≤ y then lwhen z y else noev) ∧ (0 ≤ x → err z x = 0) ∧ (0 ≤ y → err z y = 0) := by
  obtain ⟨gv, lo, hi⟩ := s
  cases gv
  · have hs : x < 0 ∧ y < 0 := hs
    rw [if_neg (by omega), if_neg (by omega)]
    exact ⟨rfl, rfl, fun h => by omega, fun h => by omega⟩
  · obtain ⟨h1, h2, h3, h4, h5⟩ : lo = x ∧ hi = y ∧ 0 ≤ x ∧ x ≤ y ∧ y < 105190560 := hs
    subst h1 h2
    obtain ⟨e1, e2⟩ := extreme_fixed hc h3 h4 h5
    by_cases k1 : err z lo = 0
    · by_cases k2 : err z hi = 0
      · rw [e1, e2, if_neg (not_not_intro k1), if_neg (not_not_intro k2), if_neg (not_not_intro k1), if_neg (not_not_intro k2), if_pos h3, if_pos (by omega)]
        exact ⟨rfl, rfl, fun _ => k1, fun _ => k2⟩
      · rw [e1, if_neg (not_not_intro k1), if_pos k2] at g1
        exact absurd g1 k2
    · rw [e1, if_pos k1] at g1
      exact absurd g1 k1
/-- ReceiptExact. -/
theorem law_exact {r : Rule} {n : Notice} {f l : Int} (h : deemed r n = (f, l, 0)) (hc : r.zone.chs = []) {a b c d : Int}
    (hin : ∀ sa sb, str n = some (sa, sb) → (if sa.given then sa.lo = a ∧ sa.hi = b ∧ 0 ≤ a ∧ a ≤ b ∧ b < 105190560 else a < 0 ∧ b < 0) ∧ (if sb.given then sb.lo = c ∧ sb.hi = d ∧ 0 ≤ c ∧ c ≤ d ∧ d < 105190560 else c < 0 ∧ d < 0)) :
    ((0 ≤ a → err r.zone a = 0) ∧ (0 ≤ b → err r.zone b = 0) ∧ (0 ≤ c → err r.zone c = 0) ∧ (0 ≤ d → err r.zone d = 0)) ∧ eval r.term r.cal (evl r.zone a c) = (f, true, 0) ∧ eval r.term r.cal (evl r.zone b d) = (l, true, 0) ∧ f ≤ l := by
  obtain ⟨hok, hf, sa, sb, hs, g1, g2, g3, g4, hb⟩ := deemed_inv h
  obtain ⟨h1, h2⟩ := hin sa sb hs
  obtain ⟨p1, p2, p3, p4⟩ := ends_fixed hc h1 g1 g2
  obtain ⟨q1, q2, q3, q4⟩ := ends_fixed hc h2 g3 g4
  rw [p1, p2, q1, q2] at hb
  have hb : bounds r.term r.cal (evl r.zone a c) (evl r.zone b d) = (f, l, true, 0) := hb
  refine ⟨⟨p3, p4, q3, q4⟩, ?_⟩
  rcases Dl.bounds_cases r.term r.cal (evl r.zone a c) (evl r.zone b d) with hz | ⟨_, ex, ey, kx, ky, hbb⟩
  · rw [hb] at hz; exact absurd hz.2.2 (by simp)
  · have hlaw := Dl.law_bounds (t := r.term) (c := r.cal) (x := evl r.zone a c) (y := evl r.zone b d) (by rw [hb]) (by rw [hb])
    rw [hb] at hlaw
    obtain ⟨_, _, v1, v2, hle, _⟩ := hlaw
    refine ⟨?_, ?_, hle⟩
    · obtain ⟨⟨x, k, e⟩, hx⟩ : ∃ q, eval r.term r.cal (evl r.zone a c) = q := ⟨_, rfl⟩
      rw [hx] at ex kx v1 ⊢
      dsimp only at ex kx v1
      rw [ex, kx, v1]
    · obtain ⟨⟨x, k, e⟩, hx⟩ : ∃ q, eval r.term r.cal (evl r.zone b d) = q := ⟨_, rfl⟩
      rw [hx] at ey ky v2 ⊢
      dsimp only at ey ky v2
      rw [ey, ky, v2]
end Go.Proofs.YticlmkfifpkdpaaDoor.Rc
