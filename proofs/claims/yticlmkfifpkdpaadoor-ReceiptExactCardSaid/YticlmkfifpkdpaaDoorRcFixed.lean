/-
  Zones without changes: what Deemed answers; the rule of the chapter's example. The examples of chapter 33's head: what they answer; the example's rule at any instant.
-/
import Derived.Test.YticlmkfifpkdpaaDoorRcPlain
import Derived.Test.YticlmkfifpkdpaaDoorDlHeadPlain
import Derived.Test.YticlmkfifpkdpaaDoorDlLaws3
namespace Go.Proofs.YticlmkfifpkdpaaDoor.Rc
open Dl (When Term Cal noev eval bounds evsOk evAt ordered pairOk add isDay C0)
open Zn (Zone loc localOf)
set_option linter.unusedVariables false
set_option linter.unusedSimpArgs false
theorem loc_fixed {z : Zone} (h : z.chs = []) {t : Int} (h0 : 0 ≤ t) (h1 : t < 105190560) : loc z t = t + z.off := by
  obtain ⟨j, hj, e⟩ := Zn.at_loc z t h0 h1
  have : j = 0 := by have := hj.1; rw [h] at this; simpa using this
  subst this
  rw [e]; rfl
theorem extreme_fixed {z : Zone} (hc : z.chs = []) {lo hi : Int} (h0 : 0 ≤ lo) (hle : lo ≤ hi) (h1 : hi < 105190560) :
    extreme z ⟨true, lo, hi⟩ earlier = (if err z lo ≠ 0 then (noev, err z lo) else if err z hi ≠ 0 then (noev, err z hi) else (lwhen z lo, 0)) ∧
    extreme z ⟨true, lo, hi⟩ later = (if err z lo ≠ 0 then (noev, err z lo) else if err z hi ≠ 0 then (noev, err z hi) else (lwhen z hi, 0)) := by
  have e : ∀ cmp, extreme z ⟨true, lo, hi⟩ cmp = if err z lo ≠ 0 then (noev, err z lo) else if err z hi ≠ 0 then (noev, err z hi) else (step cmp (lwhen z lo) (lwhen z hi), 0) := by
    intro cmp
    show exFrom z cmp noev (turnsL lo hi z.chs) = _
    rw [hc]
    show exFrom z cmp noev [lo, hi] = _
    rw [exFrom_cons, exFrom_cons]
    rfl
  rw [e, e]
  by_cases g0 : err z lo = 0
  · by_cases g1 : err z hi = 0
    · obtain ⟨l1, _, _⟩ := lwhen_ok g0
      obtain ⟨l2, _, _⟩ := lwhen_ok g1
      have f1 := loc_fixed hc h0 (by omega)
      have f2 := loc_fixed hc (t := hi) (by omega) h1
      rw [if_neg (not_not_intro g0), if_neg (not_not_intro g1), if_neg (not_not_intro g0), if_neg (not_not_intro g1), if_neg (not_not_intro g0), if_neg (not_not_intro g1), if_neg (not_not_intro g0), if_neg (not_not_intro g1), l1, l2]
      have hk : (wl (loc z lo)).known = true := rfl
      unfold step
      rw [hk, earlier_wl, later_wl]
      constructor
      · rw [decide_eq_false (by omega)]; rfl
      · by_cases hlt : -loc z hi < -loc z lo
        · rw [decide_eq_true hlt]; rfl
        · rw [decide_eq_false hlt]
          have : loc z lo = loc z hi := by omega
          rw [this]; rfl
    · simp [g0, g1]
  · simp [g0]
/-- The rule of the example. -/
def cutT (m : Int) : Term := .mk 6 0 0 false [.mk 3 m 1 false []]
def cutR (o m : Int) : Rule := ⟨⟨o, []⟩, C0, cutT m⟩
def cutDay (L m : Int) : Int := if L % 1440 ≥ m then L / 1440 + 1 else L / 1440
/-- The day of the example's term for a local time of receipt. -/
def cutEv (L m : Int) : Int × Bool × Int := if isDay (cutDay L m) then (match add C0 (cutDay L m) 0 with | some d => (d, true, 0) | none => (0, false, 2)) else (0, false, 2)
theorem cut_eval {m L : Int} (hm : 0 ≤ m) (hm1 : m ≤ 1440) (h0 : 0 ≤ L) (h1 : L < 105190560) : eval (cutT m) C0 [noev, wl L] = cutEv L m := by
  have hv : Dl.valid (cutT m) 2 = true := by
    show Dl.valid (Dl.next (Dl.cut m 1)) 2 = true
    rw [Dl.valid_next]
    unfold Dl.cut
    rw [Dl.nodes_leaf]
    refine ⟨by decide, by simp, fun x hx => ?_⟩
    simp only [List.mem_singleton] at hx
    subst hx
    refine ⟨by simp, ?_⟩
    rw [Dl.fits_mk]
    simp; omega
  have he : evsOk [noev, wl L] = true := by
    unfold evsOk wl noev
    simp [When.ok, Dl.When.ok, isDay]
    omega
  rw [Dl.eval_good Dl.ok_C0 hv he]
  have hk : Dl.allKnown [noev, wl L] (cutT m) = true := by
    show Dl.allKnown _ (Dl.next (Dl.cut m 1)) = true
    rw [Dl.known_next, Dl.known_cut]; rfl
  rw [hk]
  have hd : Dl.day C0 [noev, wl L] (cutT m) = (Dl.inRange (some (cutDay L m))).bind fun d => Dl.inRange (add C0 d 0) := by
    show Dl.day C0 _ (Dl.next (Dl.cut m 1)) = _
    rw [Dl.day_next, Dl.day_cut]; rfl
  rw [hd]
  unfold cutEv Dl.inRange
  dsimp only
  by_cases hD : isDay (cutDay L m) = true
  · rw [if_pos hD, if_pos hD]
    have hr := (Dl.isDay_iff _).1 hD
    show (if !true then _ else match Dl.inRange (add C0 (cutDay L m) 0) with | none => _ | some d => _) = _
    rw [Dl.inRange_add (by omega) hr.1 hr.2]
    cases add C0 (cutDay L m) 0 <;> rfl
  · rw [if_neg hD, if_neg hD]; rfl
end Go.Proofs.YticlmkfifpkdpaaDoor.Rc
namespace Go.Proofs.YticlmkfifpkdpaaDoor.Rc
open Dl (When Term Cal noev eval bounds evsOk evAt ordered pairOk add isDay C0)
open Zn (Zone loc localOf)
set_option linter.unusedVariables false
set_option linter.unusedSimpArgs false
theorem cut_zone {o : Int} (h0 : -840 ≤ o) (h1 : o ≤ 840) : Zn.valid ⟨o, []⟩ = true := by
  unfold Zn.valid Zn.okOff Zn.okFrom
  simp; omega
theorem cut_ok {o m : Int} (h0 : -840 ≤ o) (h1 : o ≤ 840) (hm : 0 ≤ m) (hm1 : m ≤ 1440) : ruleOk (cutR o m) = true := by
  have hv : Dl.valid (cutT m) 2 = true := by
    show Dl.valid (Dl.next (Dl.cut m 1)) 2 = true
    rw [Dl.valid_next]
    unfold Dl.cut
    rw [Dl.nodes_leaf]
    refine ⟨by decide, by simp, fun x hx => ?_⟩
    simp only [List.mem_singleton] at hx
    subst hx
    refine ⟨by simp, ?_⟩
    rw [Dl.fits_mk]
    simp; omega
  unfold ruleOk
  show (Zn.valid ⟨o, []⟩ && C0.ok && Dl.valid (cutT m) 2) = true
  rw [cut_zone h0 h1, Dl.ok_C0, hv]
  rfl
def two2 (a b : Int × Bool × Int) : Int × Int × Int := if a.2.2 ≠ 0 ∨ b.2.2 ≠ 0 then (0, 0, 2) else (a.1, b.1, 0)
theorem cutEv_known {L m : Int} (h : (cutEv L m).2.2 = 0) : (cutEv L m).2.1 = true := by
  unfold cutEv at h ⊢
  split at h
  · rename_i h1
    rw [if_pos h1]
    cases hh : add C0 (cutDay L m) 0 with
    | none => rw [hh] at h; cases h
    | some d => rfl
  · cases h
theorem cutEv_err (L m : Int) : (cutEv L m).2.2 = 0 ∨ (cutEv L m).2.2 = 2 := by
  unfold cutEv
  split
  · cases add C0 (cutDay L m) 0 <;> simp
  · exact .inr rfl
theorem cut_bounds {m A B : Int} (hm : 0 ≤ m) (hm1 : m ≤ 1440) (h0 : 0 ≤ A) (h1 : A ≤ B) (h2 : B < 105190560) : fin (bounds (cutT m) C0 [noev, wl A] [noev, wl B]) = two2 (cutEv A m) (cutEv B m) := by
  have hord : ordered [noev, wl A] [noev, wl B] = true := by
    unfold noev wl
    simp [ordered, pairOk]
    omega
  unfold bounds
  rw [cut_eval hm hm1 h0 (by omega), cut_eval hm hm1 (by omega) h2, hord]
  unfold two2 fin
  rcases cutEv_err A m with ha | ha <;> rcases cutEv_err B m with hb | hb
  · have ka := cutEv_known ha
    have kb := cutEv_known hb
    simp [ha, hb, ka, kb]
  · simp [ha, hb]
  · simp [ha, hb]
  · simp [ha, hb]
theorem deemed_cut {o m a k : Int} (ho0 : -840 ≤ o) (ho1 : o ≤ 840) (hm : 0 ≤ m) (hm1 : m ≤ 1440) (ha : 0 ≤ a) (ha1 : a ≤ 105190559) (hk : 0 ≤ k) (hk1 : k ≤ 2880) {lo hi : Int} (hlo : lo = max 0 (a - k)) (hhi : hi = min 105190559 (a + k)) :
    deemed (cutR o m) ⟨-1, a, k⟩ = if lo + o < 0 ∨ 105190560 ≤ lo + o ∨ hi + o < 0 ∨ 105190560 ≤ hi + o then (0, 0, 2) else two2 (cutEv (lo + o) m) (cutEv (hi + o) m) := by
  have hf : formed ⟨-1, a, k⟩ = true := by
    unfold formed dated lastI
    simp; omega
  have hs : str ⟨-1, a, k⟩ = some (⟨false, 0, 0⟩, ⟨true, lo, hi⟩) := by
    unfold str
    rw [if_pos (.inl rfl)]
    unfold str1 lastI
    rw [if_pos rfl, if_neg (show ¬ a = -1 by omega), hlo, hhi]
  have hL : 0 ≤ lo ∧ lo ≤ hi ∧ hi < 105190560 := by omega
  have hz : (cutR o m).zone = ⟨o, []⟩ := rfl
  have hv := cut_zone ho0 ho1
  have l1 : loc ⟨o, []⟩ lo = lo + o := loc_fixed rfl hL.1 (by omega)
  have l2 : loc ⟨o, []⟩ hi = hi + o := loc_fixed rfl (by omega) hL.2.2
  have ex := extreme_fixed (z := ⟨o, []⟩) rfl hL.1 hL.2.1 hL.2.2
  have en : ∀ cmp, extreme ⟨o, []⟩ ⟨false, 0, 0⟩ cmp = (noev, 0) := fun cmp => rfl
  have e4 : four ⟨o, []⟩ ⟨false, 0, 0⟩ ⟨true, lo, hi⟩ = if err ⟨o, []⟩ lo ≠ 0 then .error (err ⟨o, []⟩ lo) else if err ⟨o, []⟩ hi ≠ 0 then .error (err ⟨o, []⟩ hi) else .ok ((noev, noev), (lwhen ⟨o, []⟩ lo, lwhen ⟨o, []⟩ hi)) := by
    unfold four
    rw [en, en, ex.1, ex.2]
    by_cases g0 : err ⟨o, []⟩ lo = 0
    · by_cases g1 : err ⟨o, []⟩ hi = 0
      · simp [g0, g1]
      · simp [g0, g1]
    · simp [g0]
  unfold deemed
  rw [cut_ok ho0 ho1 hm hm1, hf, hs]
  show (match four (cutR o m).zone ⟨false, 0, 0⟩ ⟨true, lo, hi⟩ with | .error e => ((0, 0, e) : Int × Int × Int) | .ok ((x, y), (u, v)) => fin (bounds (cutT m) C0 [x, u] [y, v])) = _
  rw [hz, e4]
  rcases err_cases ⟨o, []⟩ lo with g | g | ⟨g, q1, q2, _⟩
  · exfalso
    have := g
    unfold err localOf at this
    rw [if_pos ⟨hv, hL.1, by omega⟩] at this
    split at this <;> cases this
  · have : ¬ (0 ≤ loc ⟨o, []⟩ lo ∧ loc ⟨o, []⟩ lo < 105190560) := by
      intro h
      have := err_of hv hL.1 (by omega) h.1 h.2
      omega
    rw [l1] at this
    rw [if_pos (by rw [g]; decide), g, if_pos (by omega)]
  · rw [if_neg (not_not_intro g)]
    rw [l1] at q1 q2
    rcases err_cases ⟨o, []⟩ hi with g' | g' | ⟨g', q3, q4, _⟩
    · exfalso
      have := g'
      unfold err localOf at this
      rw [if_pos ⟨hv, by omega, by omega⟩] at this
      split at this <;> cases this
    · have : ¬ (0 ≤ loc ⟨o, []⟩ hi ∧ loc ⟨o, []⟩ hi < 105190560) := by
        intro h
        have := err_of hv (t := hi) (by omega) (by omega) h.1 h.2
        omega
      rw [l2] at this
      rw [if_pos (by rw [g']; decide), g', if_pos (by omega)]
    · rw [l2] at q3 q4
      rw [if_neg (not_not_intro g'), if_neg (by omega)]
      dsimp only
      rw [(lwhen_ok g).1, (lwhen_ok g').1, l1, l2]
      exact cut_bounds hm hm1 q1 (by omega) q4
theorem add_C0 (d r : Int) (h0 : 0 ≤ d) (h : (d ≤ 4 ∧ r = d) ∨ (d = 5 ∧ r = 7)) : add C0 d 0 = some r := by
  rcases h with ⟨h, rfl⟩ | ⟨rfl, rfl⟩
  · have hd : r = 0 ∨ r = 1 ∨ r = 2 ∨ r = 3 ∨ r = 4 := by omega
    unfold add
    rcases hd with rfl | rfl | rfl | rfl | rfl <;> rw [if_pos rfl, Dl.search_iff (by decide)] <;> exact ⟨by decide, by decide, by decide, fun j hj => by omega⟩
  · exact Dl.add_5
theorem hd959 : deemed (cutR 60 1020) ⟨-1, 959, 0⟩ = (0, 0, 0) := by
  rw [deemed_cut (lo := 959) (hi := 959) (by decide) (by decide) (by decide) (by decide) (by decide) (by decide) (by decide) (by decide) (by decide) (by decide), if_neg (by decide)]
  unfold two2 cutEv
  rw [show cutDay (959 + 60) 1020 = 0 by decide, add_C0 0 0 (by decide) (by decide)]
  decide
theorem hd960 : deemed (cutR 60 1020) ⟨-1, 960, 0⟩ = (1, 1, 0) := by
  rw [deemed_cut (lo := 960) (hi := 960) (by decide) (by decide) (by decide) (by decide) (by decide) (by decide) (by decide) (by decide) (by decide) (by decide), if_neg (by decide)]
  unfold two2 cutEv
  rw [show cutDay (960 + 60) 1020 = 1 by decide, add_C0 1 1 (by decide) (by decide)]
  decide
theorem hd9601 : deemed (cutR 60 1020) ⟨-1, 960, 1⟩ = (0, 1, 0) := by
  rw [deemed_cut (lo := 959) (hi := 961) (by decide) (by decide) (by decide) (by decide) (by decide) (by decide) (by decide) (by decide) (by decide) (by decide), if_neg (by decide)]
  unfold two2 cutEv
  rw [show cutDay (959 + 60) 1020 = 0 by decide, show cutDay (961 + 60) 1020 = 1 by decide, add_C0 0 0 (by decide) (by decide), add_C0 1 1 (by decide) (by decide)]
  decide
theorem hd6719 : deemed (cutR 60 1020) ⟨-1, 6719, 0⟩ = (4, 4, 0) := by
  rw [deemed_cut (lo := 6719) (hi := 6719) (by decide) (by decide) (by decide) (by decide) (by decide) (by decide) (by decide) (by decide) (by decide) (by decide), if_neg (by decide)]
  unfold two2 cutEv
  rw [show cutDay (6719 + 60) 1020 = 4 by decide, add_C0 4 4 (by decide) (by decide)]
  decide
theorem hd6720 : deemed (cutR 60 1020) ⟨-1, 6720, 0⟩ = (7, 7, 0) := by
  rw [deemed_cut (lo := 6720) (hi := 6720) (by decide) (by decide) (by decide) (by decide) (by decide) (by decide) (by decide) (by decide) (by decide) (by decide), if_neg (by decide)]
  unfold two2 cutEv
  rw [show cutDay (6720 + 60) 1020 = 5 by decide, add_C0 5 7 (by decide) (by decide)]
  decide
theorem hdEv : deemed (cutR 60 1020) ⟨1000, 990, 4⟩ = (0, 0, 23) := by
  unfold deemed
  rw [cut_ok (by decide) (by decide) (by decide) (by decide), show formed ⟨1000, 990, 4⟩ = true by decide, show str ⟨1000, 990, 4⟩ = none by decide]
  rfl
theorem hdNone : deemed (cutR 60 1020) ⟨1000, -1, 0⟩ = (0, 0, 14) := by
  have hs : str ⟨1000, -1, 0⟩ = some (⟨true, 1000, 1000⟩, ⟨false, 0, 0⟩) := by
    unfold str
    rw [if_pos (.inr rfl)]
    rfl
  have hv := cut_zone (o := 60) (by decide) (by decide)
  have l1 : loc ⟨60, []⟩ 1000 = 1060 := loc_fixed rfl (by decide) (by decide)
  have g : err ⟨60, []⟩ 1000 = 0 := err_of hv (by decide) (by decide) (by rw [l1]; decide) (by rw [l1]; decide)
  have ex := extreme_fixed (z := ⟨60, []⟩) (lo := 1000) (hi := 1000) rfl (by decide) (by decide) (by decide)
  have en : ∀ cmp, extreme ⟨60, []⟩ ⟨false, 0, 0⟩ cmp = (noev, 0) := fun cmp => rfl
  have e4 : four ⟨60, []⟩ ⟨true, 1000, 1000⟩ ⟨false, 0, 0⟩ = .ok ((wl 1060, wl 1060), (noev, noev)) := by
    unfold four
    rw [en, en, ex.1, ex.2, g, (lwhen_ok g).1, l1]
    rfl
  have hbo : bounds (cutT 1020) C0 [wl 1060, noev] [wl 1060, noev] = (0, 0, false, 0) := by
    have hev : eval (cutT 1020) C0 [wl 1060, noev] = (0, false, 0) := by
      rw [Dl.eval_good Dl.ok_C0 (by rfl) (by decide)]
      rw [show Dl.allKnown [wl 1060, noev] (cutT 1020) = false by rfl]
      rfl
    unfold bounds
    rw [hev]
    rfl
  unfold deemed
  rw [cut_ok (by decide) (by decide) (by decide) (by decide), show formed ⟨1000, -1, 0⟩ = true by decide, hs]
  show (match four (cutR 60 1020).zone ⟨true, 1000, 1000⟩ ⟨false, 0, 0⟩ with | .error e => ((0, 0, e) : Int × Int × Int) | .ok ((x, y), (u, v)) => fin (bounds (cutT 1020) C0 [x, u] [y, v])) = _
  rw [show (cutR 60 1020).zone = ⟨60, []⟩ from rfl, e4]
  dsimp only
  rw [hbo]
  rfl
end Go.Proofs.YticlmkfifpkdpaaDoor.Rc
