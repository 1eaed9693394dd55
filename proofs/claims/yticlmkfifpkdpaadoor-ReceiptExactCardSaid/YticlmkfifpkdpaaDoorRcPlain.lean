/-
  Receipts in plain Lean: what counts for the sending and the receipt, the extreme local times, the days of a notice.
-/
import Derived.Test.YticlmkfifpkdpaaDoorRcZone
import Derived.Test.YticlmkfifpkdpaaDoorDlLaws
import Derived.Test.YticlmkfifpkdpaaDoorRcMake
namespace Go.Proofs.YticlmkfifpkdpaaDoor.Rc
open Dl (When Term Cal noev eval bounds evsOk evAt ordered pairOk)
open Zn (Zone loc localOf)
set_option linter.unusedVariables false
set_option linter.unusedSimpArgs false

structure Notice where
  sent : Int
  got : Int
  slack : Int
structure Stretch where
  given : Bool
  lo : Int
  hi : Int
def lastI : Int := 105190559
def dated (at_ : Int) : Bool := decide (at_ = -1) || (decide (0 ≤ at_) && decide (at_ ≤ lastI))
def formed (n : Notice) : Bool := dated n.sent && dated n.got && decide (0 ≤ n.slack) && decide (n.slack ≤ 2880)
def str1 (at_ slack : Int) : Stretch := if at_ = -1 then ⟨false, 0, 0⟩ else ⟨true, max 0 (at_ - slack), min lastI (at_ + slack)⟩
/-- What counts for the two events, if they do not contradict each other. -/
def str (n : Notice) : Option (Stretch × Stretch) :=
  if n.sent = -1 ∨ n.got = -1 then some (str1 n.sent n.slack, str1 n.got n.slack)
  else if n.got + n.slack < n.sent - n.slack then none
  else some (⟨true, max 0 (n.sent - n.slack), min (min lastI (n.sent + n.slack)) (min lastI (n.got + n.slack))⟩, ⟨true, max (max 0 (n.got - n.slack)) (max 0 (n.sent - n.slack)), min lastI (n.got + n.slack)⟩)
def turnsC (lo hi : Int) (cs : List (Int × Int)) : List Int := cs.flatMap fun c => if c.1 ≤ lo ∨ c.1 > hi then [] else [c.1 - 1, c.1]
def turnsL (lo hi : Int) (cs : List (Int × Int)) : List Int := lo :: hi :: turnsC lo hi cs
def lwhen (z : Zone) (t : Int) : When := ⟨true, (localOf z t).1, (localOf z t).2.1⟩
def err (z : Zone) (t : Int) : Int := (localOf z t).2.2
def earlier (a b : When) : Bool := decide (a.day < b.day) || (decide (a.day = b.day) && decide (a.min < b.min))
def later (a b : When) : Bool := earlier b a
def step (cmp : When → When → Bool) (r w : When) : When := if !r.known || cmp w r then w else r
def exFrom (z : Zone) (cmp : When → When → Bool) : When → List Int → When × Int
  | r, [] => (r, 0)
  | r, t :: l => if err z t ≠ 0 then (noev, err z t) else exFrom z cmp (step cmp r (lwhen z t)) l
def extreme (z : Zone) (s : Stretch) (cmp : When → When → Bool) : When × Int := if s.given then exFrom z cmp noev (turnsL s.lo s.hi z.chs) else (noev, 0)
/-- The four extreme times in the order in which they are sought, or the first error. -/
def four (z : Zone) (a b : Stretch) : Except Int ((When × When) × (When × When)) :=
  if (extreme z a earlier).2 ≠ 0 then .error (extreme z a earlier).2
  else if (extreme z a later).2 ≠ 0 then .error (extreme z a later).2
  else if (extreme z b earlier).2 ≠ 0 then .error (extreme z b earlier).2
  else if (extreme z b later).2 ≠ 0 then .error (extreme z b later).2
  else .ok (((extreme z a earlier).1, (extreme z a later).1), ((extreme z b earlier).1, (extreme z b later).1))
structure Rule where
  zone : Zone
  cal : Cal
  term : Term
def ruleOk (r : Rule) : Bool := Zn.valid r.zone && r.cal.ok && Dl.valid r.term 2
noncomputable def fin (b : Int × Int × Bool × Int) : Int × Int × Int := if b.2.2.2 ≠ 0 then (0, 0, b.2.2.2) else if !b.2.2.1 then (0, 0, 14) else (b.1, b.2.1, 0)
noncomputable def deemed (r : Rule) (n : Notice) : Int × Int × Int :=
  if !ruleOk r || !formed n then (0, 0, 1)
  else match str n with
    | none => (0, 0, 23)
    | some (a, b) => match four r.zone a b with
      | .error e => (0, 0, e)
      | .ok ((x, y), (u, v)) => fin (bounds r.term r.cal [x, u] [y, v])

theorem local_cases (z : Zone) (t : Int) : localOf z t = (0, 0, 1) ∨ localOf z t = (0, 0, 2) ∨ (0 ≤ loc z t ∧ loc z t < 105190560 ∧ Zn.valid z = true ∧ 0 ≤ t ∧ t < 105190560 ∧ localOf z t = (loc z t / 1440, loc z t % 1440, 0)) := by
  unfold localOf
  by_cases h : Zn.valid z = true ∧ 0 ≤ t ∧ t < 105190560
  · rw [if_pos h]
    by_cases h2 : 0 ≤ loc z t ∧ loc z t < 105190560
    · rw [if_pos h2]; exact .inr (.inr ⟨h2.1, h2.2, h.1, h.2.1, h.2.2, rfl⟩)
    · rw [if_neg h2]; exact .inr (.inl rfl)
  · rw [if_neg h]; exact .inl rfl
theorem err_cases (z : Zone) (t : Int) : err z t = 1 ∨ err z t = 2 ∨ (err z t = 0 ∧ 0 ≤ loc z t ∧ loc z t < 105190560 ∧ lwhen z t = ⟨true, loc z t / 1440, loc z t % 1440⟩) := by
  unfold err lwhen
  rcases local_cases z t with h | h | ⟨h1, h2, _, _, _, h⟩ <;> rw [h]
  · exact .inl rfl
  · exact .inr (.inl rfl)
  · exact .inr (.inr ⟨rfl, h1, h2, rfl⟩)
/-- A local time in range by its number. -/
def wl (L : Int) : When := ⟨true, L / 1440, L % 1440⟩
theorem lwhen_ok {z : Zone} {t : Int} (h : err z t = 0) : lwhen z t = wl (loc z t) ∧ 0 ≤ loc z t ∧ loc z t < 105190560 := by
  rcases err_cases z t with h1 | h1 | ⟨_, h1, h2, h3⟩
  · omega
  · omega
  · exact ⟨h3, h1, h2⟩
theorem err_of {z : Zone} {t : Int} (hv : Zn.valid z = true) (h0 : 0 ≤ t) (h1 : t < 105190560) (h2 : 0 ≤ loc z t) (h3 : loc z t < 105190560) : err z t = 0 := by
  unfold err localOf
  rw [if_pos ⟨hv, h0, h1⟩, if_pos ⟨h2, h3⟩]
theorem earlier_wl (a b : Int) : earlier (wl a) (wl b) = decide (a < b) := by
  unfold earlier wl
  rw [Bool.eq_iff_iff]
  simp only [Bool.or_eq_true, Bool.and_eq_true, decide_eq_true_eq]
  omega
theorem wl_inj {a b : Int} (h : wl a = wl b) : a = b := by
  unfold wl at h; injection h with _ h1 h2; omega
theorem exFrom_cons (z : Zone) (cmp : When → When → Bool) (r : When) (t : Int) (l : List Int) : exFrom z cmp r (t :: l) = if err z t ≠ 0 then (noev, err z t) else exFrom z cmp (step cmp r (lwhen z t)) l := rfl
/-- What the search among instants finds. -/
theorem exFrom_spec (z : Zone) (cmp : When → When → Bool) (k : Int → Int) (hc : ∀ a b, cmp (wl a) (wl b) = decide (k a < k b)) :
    ∀ (l : List Int) (r : When), (r = noev ∨ ∃ L, r = wl L) → (exFrom z cmp r l).2 = 0 →
      (∀ t ∈ l, err z t = 0) ∧ ((l = [] ∧ (exFrom z cmp r l).1 = r) ∨ ∃ L, (exFrom z cmp r l).1 = wl L ∧ ((∃ t ∈ l, loc z t = L) ∨ r = wl L) ∧ (∀ t ∈ l, k L ≤ k (loc z t)) ∧ ∀ M, r = wl M → k L ≤ k M) := by
  intro l
  induction l with
  | nil => intro r _ _; exact ⟨(fun t h => by cases h), .inl ⟨rfl, rfl⟩⟩
  | cons t l ih =>
    intro r hr h
    rw [exFrom_cons] at h ⊢
    by_cases h0 : err z t = 0
    · rw [if_neg (not_not_intro h0)] at h ⊢
      obtain ⟨hl, hl0, hl1⟩ := lwhen_ok h0
      rw [hl] at h ⊢
      have hs : ∃ M, step cmp r (wl (loc z t)) = wl M ∧ (M = loc z t ∨ r = wl M) ∧ k M ≤ k (loc z t) ∧ ∀ R, r = wl R → k M ≤ k R := by
        unfold step
        rcases hr with rfl | ⟨R, rfl⟩
        · exact ⟨loc z t, rfl, .inl rfl, Int.le_refl _, fun R h => by cases h⟩
        · have hk : (wl R).known = true := rfl
          rw [hk, hc]
          by_cases hlt : k (loc z t) < k R
          · exact ⟨loc z t, by simp [hlt], .inl rfl, Int.le_refl _, fun R' h' => by have := wl_inj h'; subst this; omega⟩
          · exact ⟨R, by simp [hlt], .inr rfl, by omega, fun R' h' => by have := wl_inj h'; subst this; omega⟩
      obtain ⟨M, hM, hM1, hM2, hM3⟩ := hs
      rw [hM] at h ⊢
      obtain ⟨a1, a2⟩ := ih (wl M) (.inr ⟨M, rfl⟩) h
      refine ⟨fun u hu => ?_, .inr ?_⟩
      · rcases List.mem_cons.1 hu with rfl | hu
        · exact h0
        · exact a1 u hu
      · rcases a2 with ⟨rfl, a2⟩ | ⟨L, b1, b2, b3, b4⟩
        · refine ⟨M, a2, ?_, fun u hu => ?_, hM3⟩
          · rcases hM1 with h1 | h1
            · exact .inl ⟨t, List.mem_cons_self, h1.symm⟩
            · exact .inr h1
          · rcases List.mem_cons.1 hu with rfl | hu
            · exact hM2
            · cases hu
        · have hML := b4 M rfl
          refine ⟨L, b1, ?_, fun u hu => ?_, fun R hR => by have := hM3 R hR; omega⟩
          · rcases b2 with ⟨u, hu, hu2⟩ | b2
            · exact .inl ⟨u, List.mem_cons_of_mem _ hu, hu2⟩
            · have hm := wl_inj b2
              subst hm
              rcases hM1 with h1 | h1
              · exact .inl ⟨t, List.mem_cons_self, h1.symm⟩
              · exact .inr h1
          · rcases List.mem_cons.1 hu with rfl | hu
            · omega
            · exact b3 u hu
    · rw [if_pos h0] at h
      exact absurd h h0
theorem later_wl (a b : Int) : later (wl a) (wl b) = decide (-a < -b) := by
  unfold later
  rw [earlier_wl, Bool.eq_iff_iff, decide_eq_true_eq, decide_eq_true_eq]; omega
/-- Among the turns of a stretch there is one that is not later by local time, and one that is not earlier. -/
theorem turn_low {z : Zone} (hv : Zn.valid z = true) {lo hi t : Int} (h0 : 0 ≤ lo) (h1 : hi < 105190560) (ht0 : lo ≤ t) (ht1 : t ≤ hi) : (∃ u ∈ turnsL lo hi z.chs, loc z u ≤ loc z t) ∧ (∃ u ∈ turnsL lo hi z.chs, loc z t ≤ loc z u) := by
  obtain ⟨j, hj, hloc⟩ := Zn.at_loc z t (by omega) (by omega)
  obtain ⟨hj1, hj2, hj3⟩ := hj
  have hmem : ∀ (i : Nat) (h : i < z.chs.length), lo < z.chs[i].1 → z.chs[i].1 ≤ hi → z.chs[i].1 ∈ turnsL lo hi z.chs ∧ z.chs[i].1 - 1 ∈ turnsL lo hi z.chs := by
    intro i h g1 g2
    have : ∀ x, x = z.chs[i].1 ∨ x = z.chs[i].1 - 1 → x ∈ turnsL lo hi z.chs := by
      intro x hx
      refine List.mem_cons_of_mem _ (List.mem_cons_of_mem _ (List.mem_flatMap.2 ⟨z.chs[i], List.getElem_mem h, ?_⟩))
      rw [if_neg (by omega)]
      rcases hx with rfl | rfl <;> simp
    exact ⟨this _ (.inl rfl), this _ (.inr rfl)⟩
  constructor
  · by_cases hf : Zn.frm z j ≤ lo
    · refine ⟨lo, List.mem_cons_self, ?_⟩
      rw [Zn.loc_at (x := lo) hv (k := j) ⟨hj1, hf, by omega⟩, hloc]; omega
    · obtain ⟨i, rfl⟩ : ∃ i, j = i + 1 := by
        cases j with
        | zero => exfalso; apply hf; show (if 0 = 0 then (0 : Int) else _) ≤ lo; rw [if_pos rfl]; exact h0
        | succ i => exact ⟨i, rfl⟩
      have hi' : i < z.chs.length := by omega
      have hfr := Zn.frm_succ z i hi'
      rw [hfr] at hf hj2
      refine ⟨z.chs[i].1, (hmem i hi' (by omega) (by omega)).1, ?_⟩
      rw [Zn.loc_at (x := z.chs[i].1) hv (k := i + 1) ⟨hj1, by rw [hfr]; exact Int.le_refl _, by omega⟩, hloc]; omega
  · by_cases hf : hi < Zn.tto z j
    · refine ⟨hi, List.mem_cons_of_mem _ List.mem_cons_self, ?_⟩
      rw [Zn.loc_at (x := hi) hv (k := j) ⟨hj1, by omega, hf⟩, hloc]; omega
    · have hj' : j < z.chs.length := by
        rcases Nat.lt_or_ge j z.chs.length with h | h
        · exact h
        · exfalso; apply hf
          have : j = z.chs.length := by omega
          subst this
          rw [Zn.tto_end]; exact h1
      have hto := Zn.tto_lt z j hj'
      rw [hto] at hf hj3
      refine ⟨z.chs[j].1 - 1, (hmem j hj' (by omega) (by omega)).2, ?_⟩
      rw [Zn.loc_at (x := z.chs[j].1 - 1) hv (k := j) ⟨hj1, by omega, by rw [hto]; omega⟩, hloc]; omega
/-- What the extreme times of a stretch say. -/
theorem extreme_spec {z : Zone} (hv : Zn.valid z = true) {lo hi : Int} (h0 : 0 ≤ lo) (h1 : hi < 105190560) (he : (extreme z ⟨true, lo, hi⟩ earlier).2 = 0) (hl : (extreme z ⟨true, lo, hi⟩ later).2 = 0) :
    ∃ A B, (extreme z ⟨true, lo, hi⟩ earlier).1 = wl A ∧ (extreme z ⟨true, lo, hi⟩ later).1 = wl B ∧ (0 ≤ A ∧ A < 105190560) ∧ (0 ≤ B ∧ B < 105190560) ∧ A ≤ B ∧
      (∀ t, lo ≤ t → t ≤ hi → err z t = 0 ∧ A ≤ loc z t ∧ loc z t ≤ B) ∧ (∃ t ∈ turnsL lo hi z.chs, loc z t = A) ∧ (∃ t ∈ turnsL lo hi z.chs, loc z t = B) := by
  have e1 : extreme z ⟨true, lo, hi⟩ earlier = exFrom z earlier noev (turnsL lo hi z.chs) := rfl
  have e2 : extreme z ⟨true, lo, hi⟩ later = exFrom z later noev (turnsL lo hi z.chs) := rfl
  rw [e1] at he ⊢
  rw [e2] at hl ⊢
  obtain ⟨a1, a2⟩ := exFrom_spec z earlier (fun x => x) earlier_wl _ _ (.inl rfl) he
  obtain ⟨b1, b2⟩ := exFrom_spec z later (fun x => -x) later_wl _ _ (.inl rfl) hl
  rcases a2 with ⟨h, _⟩ | ⟨A, hA, hA1, hA2, _⟩
  · cases h
  rcases b2 with ⟨h, _⟩ | ⟨B, hB, hB1, hB2, _⟩
  · cases h
  have hA1 := hA1.resolve_right (fun h => by cases h)
  have hB1 := hB1.resolve_right (fun h => by cases h)
  obtain ⟨t1, ht1, rfl⟩ := hA1
  obtain ⟨t2, ht2, rfl⟩ := hB1
  have r1 := lwhen_ok (a1 t1 ht1)
  have r2 := lwhen_ok (a1 t2 ht2)
  refine ⟨_, _, hA, hB, r1.2, r2.2, by have := hA2 t2 ht2; exact this, fun t g0 g1 => ?_, ⟨t1, ht1, rfl⟩, ⟨t2, ht2, rfl⟩⟩
  obtain ⟨⟨u, hu, hu1⟩, v, hv2, hv1⟩ := turn_low hv h0 h1 g0 g1
  have q1 := hA2 u hu
  have q2 := hB2 v hv2
  have q1 : loc z t1 ≤ loc z u := q1
  have q2 : -loc z t2 ≤ -loc z v := q2
  exact ⟨err_of hv (by omega) (by omega) (by omega) (by omega), by omega, by omega⟩
end Go.Proofs.YticlmkfifpkdpaaDoor.Rc
