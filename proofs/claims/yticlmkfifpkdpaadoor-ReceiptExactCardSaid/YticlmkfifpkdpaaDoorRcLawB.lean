/-
  The plain laws of ReceiptBounds and ReceiptExact.
-/
import Derived.Test.YticlmkfifpkdpaaDoorRcDeem
import Derived.Test.YticlmkfifpkdpaaDoorRcFixed
namespace Go.Proofs.YticlmkfifpkdpaaDoor.Rc
open Dl (When Term Cal noev eval bounds ordered pairOk)
open Zn (Zone loc localOf)
set_option linter.unusedVariables false
set_option linter.unusedSimpArgs false
theorem deemed_inv {r : Rule} {n : Notice} {f l : Int} (h : deemed r n = (f, l, 0)) : ruleOk r = true ∧ formed n = true ∧ ∃ a b, str n = some (a, b) ∧ (extreme r.zone a earlier).2 = 0 ∧ (extreme r.zone a later).2 = 0 ∧ (extreme r.zone b earlier).2 = 0 ∧ (extreme r.zone b later).2 = 0 ∧
    bounds r.term r.cal [(extreme r.zone a earlier).1, (extreme r.zone b earlier).1] [(extreme r.zone a later).1, (extreme r.zone b later).1] = (f, l, true, 0) := by
  cases h1 : ruleOk r
  · rw [deemed_bad (.inl h1)] at h; injection h with _ h; injection h with _ h; cases h
  cases h2 : formed n
  · rw [deemed_bad (.inr h2)] at h; injection h with _ h; injection h with _ h; cases h
  refine ⟨rfl, rfl, ?_⟩
  cases h3 : str n with
  | none => rw [deemed_ev h1 h2 h3] at h; injection h with _ h; injection h with _ h; cases h
  | some ab =>
  obtain ⟨a, b⟩ := ab
  refine ⟨a, b, rfl, ?_⟩
  by_cases g1 : (extreme r.zone a earlier).2 = 0
  case neg => rw [deemed_e1 h1 h2 h3 g1] at h; injection h with _ h; injection h with _ h; exact absurd h g1
  by_cases g2 : (extreme r.zone a later).2 = 0
  case neg => rw [deemed_e2 h1 h2 h3 g1 g2] at h; injection h with _ h; injection h with _ h; exact absurd h g2
  by_cases g3 : (extreme r.zone b earlier).2 = 0
  case neg => rw [deemed_e3 h1 h2 h3 g1 g2 g3] at h; injection h with _ h; injection h with _ h; exact absurd h g3
  by_cases g4 : (extreme r.zone b later).2 = 0
  case neg => rw [deemed_e4 h1 h2 h3 g1 g2 g3 g4] at h; injection h with _ h; injection h with _ h; exact absurd h g4
  refine ⟨g1, g2, g3, g4, ?_⟩
  rw [deemed_ok h1 h2 h3 g1 g2 g3 g4] at h
  obtain ⟨⟨x, y, k, e⟩, hb⟩ : ∃ q, bounds r.term r.cal [(extreme r.zone a earlier).1, (extreme r.zone b earlier).1] [(extreme r.zone a later).1, (extreme r.zone b later).1] = q := ⟨_, rfl⟩
  rw [hb] at h ⊢
  unfold fin at h
  dsimp only at h
  by_cases he : e = 0
  case neg => rw [if_pos he] at h; injection h with _ h; injection h with _ h; exact absurd h he
  subst he
  rw [if_neg (by decide)] at h
  cases k
  · simp at h
  · simp at h; rw [h.1, h.2]
/-- The events at two instants. -/
def evl (z : Zone) (x y : Int) : List When := [if 0 ≤ x then lwhen z x else noev, if 0 ≤ y then lwhen z y else noev]
/-- A stretch, and an instant that lies in it. -/
def inStr (s : Stretch) (x : Int) : Prop := if s.given then s.lo ≤ x ∧ x ≤ s.hi ∧ 0 ≤ s.lo ∧ s.hi < 105190560 else x < 0
theorem pair_in {z : Zone} (hv : Zn.valid z = true) {s : Stretch} {x : Int} (hx : inStr s x) (g1 : (extreme z s earlier).2 = 0) (g2 : (extreme z s later).2 = 0) :
    (0 ≤ x → err z x = 0) ∧ pairOk (extreme z s earlier).1 (if 0 ≤ x then lwhen z x else noev) = true ∧ pairOk (if 0 ≤ x then lwhen z x else noev) (extreme z s later).1 = true ∧ (0 ≤ x → (lwhen z x).known = true ∧ Dl.When.ok (lwhen z x) = true) := by
  obtain ⟨gv, lo, hi⟩ := s
  cases gv
  · have hx : x < 0 := hx
    rw [if_neg (by omega)]
    refine ⟨fun h => by omega, ?_, ?_, fun h => by omega⟩ <;> rfl
  · obtain ⟨h1, h2, h3, h4⟩ : lo ≤ x ∧ x ≤ hi ∧ 0 ≤ lo ∧ hi < 105190560 := hx
    obtain ⟨A, B, hA, hB, hA1, hB1, hAB, hall, _, _⟩ := extreme_spec hv h3 h4 g1 g2
    obtain ⟨he, e1, e2⟩ := hall x h1 h2
    obtain ⟨hl, hl0, hl1⟩ := lwhen_ok he
    rw [if_pos (by omega), hA, hB, hl]
    refine ⟨fun _ => he, ?_, ?_, fun _ => ⟨rfl, ?_⟩⟩
    · unfold pairOk wl; simp; omega
    · unfold pairOk wl; simp; omega
    · unfold Dl.When.ok wl Dl.isDay; simp; omega
/-- ReceiptBounds. -/
theorem law_between {r : Rule} {n : Notice} {f l : Int} (h : deemed r n = (f, l, 0)) {x y : Int} (hin : ∀ a b, str n = some (a, b) → inStr a x ∧ inStr b y) :
    (0 ≤ x → err r.zone x = 0) ∧ (0 ≤ y → err r.zone y = 0) ∧ (eval r.term r.cal (evl r.zone x y)).2.2 = 0 ∧ (eval r.term r.cal (evl r.zone x y)).2.1 = true ∧ f ≤ (eval r.term r.cal (evl r.zone x y)).1 ∧ (eval r.term r.cal (evl r.zone x y)).1 ≤ l := by
  obtain ⟨hok, hf, a, b, hs, g1, g2, g3, g4, hb⟩ := deemed_inv h
  obtain ⟨ha, hb2⟩ := hin a b hs
  have hzv : Zn.valid r.zone = true := by unfold ruleOk at hok; simp only [Bool.and_eq_true] at hok; exact hok.1.1
  have hcv : r.cal.ok = true := by unfold ruleOk at hok; simp only [Bool.and_eq_true] at hok; exact hok.1.2
  have htv : Dl.valid r.term 2 = true := by unfold ruleOk at hok; simp only [Bool.and_eq_true] at hok; exact hok.2
  obtain ⟨p1, p2, p3, p4⟩ := pair_in hzv ha g1 g2
  obtain ⟨q1, q2, q3, q4⟩ := pair_in hzv hb2 g3 g4
  have ho1 : ordered [(extreme r.zone a earlier).1, (extreme r.zone b earlier).1] (evl r.zone x y) = true := by
    unfold evl ordered ordered ordered; rw [p2, q2]; rfl
  have ho2 : ordered (evl r.zone x y) [(extreme r.zone a later).1, (extreme r.zone b later).1] = true := by
    unfold evl ordered ordered ordered; rw [p3, q3]; rfl
  have hw : Dl.evsOk (evl r.zone x y) = true := by
    have hno : Dl.When.ok noev = true := rfl
    unfold evl Dl.evsOk
    simp only [List.all_cons, List.all_nil, Bool.and_true, Bool.and_eq_true]
    constructor
    · split
      · exact (p4 (by assumption)).2
      · exact hno
    · split
      · exact (q4 (by assumption)).2
      · exact hno
  have hne : (eval r.term r.cal (evl r.zone x y)).2.2 ≠ 1 := by
    intro h1
    exact Dl.eval_err.1 h1 ⟨hcv, htv, hw⟩
  have hlaw := Dl.law_bounds (t := r.term) (c := r.cal) (x := [(extreme r.zone a earlier).1, (extreme r.zone b earlier).1]) (y := [(extreme r.zone a later).1, (extreme r.zone b later).1]) (by rw [hb]) (by rw [hb])
  rw [hb] at hlaw
  obtain ⟨_, _, _, _, _, hm⟩ := hlaw
  obtain ⟨m1, m2, m3, m4⟩ := hm _ ho1 ho2 hne
  exact ⟨p1, q1, m1, m2, m3, m4⟩
end Go.Proofs.YticlmkfifpkdpaaDoor.Rc
