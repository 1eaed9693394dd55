/-
  The laws of chapter 5 in plain Lean.
-/
import Derived.Test.YticlmkfifpkdpaaDoorDlMono
namespace Go.Proofs.YticlmkfifpkdpaaDoor.Dl
set_option linter.unusedVariables false
set_option linter.unusedSimpArgs false

/-- The three ends of Eval, and its errors. -/
theorem eval_err {t : Term} {c : Cal} {l : List When} : (eval t c l).2.2 = 1 ↔ ¬ (c.ok = true ∧ valid t l.length = true ∧ evsOk l = true) := by
  unfold eval
  cases c.ok <;> cases valid t l.length <;> cases evsOk l <;> simp
  cases allKnown l t
  · simp
  · cases day c l t <;> simp
theorem eval_good {t : Term} {c : Cal} {l : List When} (h1 : c.ok = true) (h2 : valid t l.length = true) (h3 : evsOk l = true) : eval t c l = (if !allKnown l t then ((0, false, 0) : Int × Bool × Int) else match day c l t with | none => ((0, false, 2) : Int × Bool × Int) | some d => (d, true, 0)) := by
  unfold eval
  rw [h1, h2, h3]
  rfl
theorem eval_bad {t : Term} {c : Cal} {l : List When} (h : ¬ (c.ok = true ∧ valid t l.length = true ∧ evsOk l = true)) : eval t c l = (0, false, 1) := by
  unfold eval
  revert h
  cases c.ok <;> cases valid t l.length <;> cases evsOk l <;> simp
theorem eval_cases (t : Term) (c : Cal) (l : List When) : eval t c l = (0, false, 1) ∨ ((c.ok = true ∧ valid t l.length = true ∧ evsOk l = true) ∧ ((allKnown l t = false ∧ eval t c l = (0, false, 0)) ∨ (allKnown l t = true ∧ day c l t = none ∧ eval t c l = (0, false, 2)) ∨ ∃ d, allKnown l t = true ∧ day c l t = some d ∧ eval t c l = (d, true, 0))) := by
  by_cases h : c.ok = true ∧ valid t l.length = true ∧ evsOk l = true
  · refine .inr ⟨h, ?_⟩
    rw [eval_good h.1 h.2.1 h.2.2]
    cases hk : allKnown l t
    · exact .inl ⟨rfl, rfl⟩
    · cases hd : day c l t with
      | none => exact .inr (.inl ⟨rfl, rfl, rfl⟩)
      | some d => exact .inr (.inr ⟨d, rfl, rfl, rfl⟩)
  · exact .inl (eval_bad h)
theorem known_iff {l : List When} {t : Term} : allKnown l t = true ↔ ∀ x ∈ nodes 1 t, hasEv x.2 = true → (evAt l x.2.ev).known = true := by
  unfold allKnown
  rw [List.all_eq_true]
  constructor
  · intro h x hx he
    have := h x hx
    rw [he] at this
    simpa using this
  · intro h x hx
    cases he : hasEv x.2
    · rfl
    · simpa using h x hx he
theorem known_ordered {x y : List When} (ho : ordered x y = true) (t : Term) : allKnown x t = allKnown y t := by
  unfold allKnown
  congr 1
  funext u
  rw [(ordered_ev ho u.2.ev).1]

/-- DeadlineMonotone. -/
theorem law_mono {t : Term} {c : Cal} {x y : List When} (ho : ordered x y = true) (hf : (eval t c y).2.2 = 0) (he : (eval t c x).2.2 ≠ 1) : (eval t c x).2.2 = 0 ∧ (eval t c x).2.1 = (eval t c y).2.1 ∧ (eval t c x).1 ≤ (eval t c y).1 := by
  have hl := ordered_len ho
  rcases eval_cases t c x with h | ⟨⟨c1, v1, e1⟩, hx⟩
  · rw [h] at he; exact absurd rfl he
  rcases eval_cases t c y with h | ⟨⟨c2, v2, e2⟩, hy⟩
  · rw [h] at hf; cases hf
  have hk := known_ordered ho t
  rcases hx with ⟨k1, hx⟩ | ⟨k1, d1, hx⟩ | ⟨a, k1, d1, hx⟩ <;> rcases hy with ⟨k2, hy⟩ | ⟨k2, d2, hy⟩ | ⟨b, k2, d2, hy⟩ <;> rw [hx, hy] <;> rw [k1, k2] at hk <;> try (cases hk)
  · exact ⟨rfl, rfl, Int.le_refl _⟩
  · rw [hy] at hf; cases hf
  · obtain ⟨a, h1, h2⟩ := day_mono ho e1 t 1 (fun u hu => ⟨(((valid_iff t _).1 v1).2.2 u hu).2, fun h => known_iff.1 k1 u hu h⟩) b d2
    rw [d1] at h1; cases h1
  · rw [hy] at hf; cases hf
  · obtain ⟨a', h1, h2⟩ := day_mono ho e1 t 1 (fun u hu => ⟨(((valid_iff t _).1 v1).2.2 u hu).2, fun h => known_iff.1 k1 u hu h⟩) b d2
    rw [d1] at h1; injection h1 with h1; subst h1
    exact ⟨rfl, rfl, h2⟩
theorem bounds_cases (t : Term) (c : Cal) (x y : List When) : ((bounds t c x y).1 = 0 ∧ (bounds t c x y).2.1 = 0 ∧ (bounds t c x y).2.2.1 = false) ∨ (ordered x y = true ∧ (eval t c x).2.2 = 0 ∧ (eval t c y).2.2 = 0 ∧ (eval t c x).2.1 = true ∧ (eval t c y).2.1 = true ∧ bounds t c x y = ((eval t c x).1, (eval t c y).1, true, 0)) := by
  unfold bounds
  by_cases h1 : x.length ≠ y.length
  · rw [if_pos h1]; exact .inl ⟨rfl, rfl, rfl⟩
  rw [if_neg h1]
  by_cases h2 : (eval t c x).2.2 = 1 ∨ (eval t c y).2.2 = 1
  · rw [if_pos h2]; exact .inl ⟨rfl, rfl, rfl⟩
  rw [if_neg h2]
  cases h3 : ordered x y
  · exact .inl ⟨rfl, rfl, rfl⟩
  by_cases h4 : (eval t c x).2.2 ≠ 0 ∨ (eval t c y).2.2 ≠ 0
  · simp only [Bool.not_true, Bool.false_eq_true, if_false]; rw [if_pos h4]; exact .inl ⟨rfl, rfl, rfl⟩
  simp only [Bool.not_true, Bool.false_eq_true, if_false]
  rw [if_neg h4]
  cases h5 : (eval t c x).2.1 <;> cases h6 : (eval t c y).2.1
  · exact .inl ⟨rfl, rfl, rfl⟩
  · exact .inl ⟨rfl, rfl, rfl⟩
  · exact .inl ⟨rfl, rfl, rfl⟩
  · refine .inr ⟨by first | trivial | rfl, by omega, by omega, by first | trivial | rfl, by first | trivial | rfl, rfl⟩
/-- DeadlineBounds. -/
theorem law_bounds {t : Term} {c : Cal} {x y : List When} (h0 : (bounds t c x y).2.2.2 = 0) (h1 : (bounds t c x y).2.2.1 = true) : (eval t c x).2.2 = 0 ∧ (eval t c y).2.2 = 0 ∧ (eval t c x).1 = (bounds t c x y).1 ∧ (eval t c y).1 = (bounds t c x y).2.1 ∧ (bounds t c x y).1 ≤ (bounds t c x y).2.1 ∧
    ∀ m, ordered x m = true → ordered m y = true → (eval t c m).2.2 ≠ 1 → (eval t c m).2.2 = 0 ∧ (eval t c m).2.1 = true ∧ (bounds t c x y).1 ≤ (eval t c m).1 ∧ (eval t c m).1 ≤ (bounds t c x y).2.1 := by
  rcases bounds_cases t c x y with ⟨_, _, h⟩ | ⟨ho, ex, ey, kx, ky, hb⟩
  · rw [h] at h1; cases h1
  rw [hb]
  refine ⟨ex, ey, rfl, rfl, (law_mono ho ey (by omega)).2.2, fun m hm1 hm2 hm3 => ?_⟩
  have a := law_mono hm2 ey hm3
  have b := law_mono hm1 a.1 (by omega)
  exact ⟨a.1, by rw [a.2.1, ky], b.2.2, a.2.2⟩

/-- The events of a term in increasing order: what Events returns. -/
structure EventsOf (t : Term) (es : List Int) : Prop where
  inc : ∀ i j, i < j → j < es.length → es.getD i 0 < es.getD j 0
  mem : ∀ e, e ∈ es ↔ ∃ x ∈ nodes 1 t, hasEv x.2 = true ∧ x.2.ev = e
theorem fits_more {N M : Int} (h : N ≤ M) {t : Term} (hf : fits N t = true) : fits M t = true := by
  unfold fits at hf ⊢
  by_cases k1 : t.kind = 1
  · rw [if_pos k1] at hf ⊢; exact hf
  rw [if_neg k1] at hf ⊢
  by_cases k2 : t.kind = 2
  · rw [if_pos k2] at hf ⊢
    simp only [Bool.and_eq_true, decide_eq_true_eq] at hf ⊢
    obtain ⟨⟨⟨a, b, c⟩, d⟩, e⟩ := hf
    exact ⟨⟨⟨a, b, by omega⟩, d⟩, e⟩
  rw [if_neg k2] at hf ⊢
  by_cases k3 : t.kind = 3
  · rw [if_pos k3] at hf ⊢
    simp only [Bool.and_eq_true, decide_eq_true_eq] at hf ⊢
    obtain ⟨⟨⟨a, b, c⟩, d⟩, e⟩ := hf
    exact ⟨⟨⟨a, b, by omega⟩, d⟩, e⟩
  rw [if_neg k3] at hf ⊢
  exact hf
theorem valid_more {t : Term} {N M : Int} (h : N ≤ M) (hM : M ≤ 1000) (hv : valid t N = true) : valid t M = true := by
  rw [valid_iff] at hv ⊢
  exact ⟨by omega, hv.2.1, fun x hx => ⟨(hv.2.2 x hx).1, fits_more h (hv.2.2 x hx).2⟩⟩
theorem ev_rng {t : Term} {N : Int} (hv : valid t N = true) {x : Nat × Term} (hx : x ∈ nodes 1 t) (he : hasEv x.2 = true) : 0 ≤ x.2.ev ∧ x.2.ev < N := by
  have h := ((valid_iff t N).1 hv).2.2 x hx
  have hf := h.2
  unfold hasEv at he
  unfold fits at hf
  simp only [Bool.or_eq_true, decide_eq_true_eq] at he
  rcases he with k | k <;> simp only [k] at hf <;> simp at hf <;> omega
/-- The events that are needed, alone. -/
def only (l : List When) (es : List Int) : List When := (List.range l.length).map fun (i : Nat) => if (i : Int) ∈ es then l.getD i ⟨false, 0, 0⟩ else ⟨false, 0, 0⟩
theorem only_len (l : List When) (es : List Int) : (only l es).length = l.length := by unfold only; simp
theorem only_at (l : List When) (es : List Int) (i : Nat) : (only l es).getD i ⟨false, 0, 0⟩ = if (i : Int) ∈ es then l.getD i ⟨false, 0, 0⟩ else ⟨false, 0, 0⟩ := by
  unfold only
  rw [List.getD_eq_getElem?_getD, List.getElem?_map]
  rcases Nat.lt_or_ge i l.length with h | h
  · rw [List.getElem?_range h]; rfl
  · rw [List.getElem?_eq_none (by simpa using h)]
    show _ = if _ then _ else _
    split
    · rw [List.getD_eq_getElem?_getD, List.getElem?_eq_none h]; rfl
    · rfl
/-- DeadlineNeeds. -/
theorem law_needs {t : Term} {c : Cal} {l : List When} {es : List Int} (hlen : l.length ≤ 40) (hE : (eval t c l).2.2 ≠ 1) (hes : EventsOf t es) :
    (∀ e ∈ es, 0 ≤ e ∧ e < l.length) ∧ ((∀ e ∈ es, (evAt l e).known = true) ↔ allKnown l t = true) ∧ ((eval t c l).2.2 = 0 → (eval t c l).2.1 = allKnown l t) ∧ ((eval t c l).2.2 ≠ 0 → allKnown l t = true) ∧ eval t c (only l es) = eval t c l := by
  rcases eval_cases t c l with h | ⟨⟨c1, v1, e1⟩, hx⟩
  · rw [h] at hE; exact absurd rfl hE
  refine ⟨fun e he => ?_, ?_, ?_, ?_, ?_⟩
  · obtain ⟨x, hx, h1, rfl⟩ := (hes.mem e).1 he
    exact ev_rng v1 hx h1
  · rw [known_iff]
    constructor
    · intro h x hx he
      exact h _ ((hes.mem _).2 ⟨x, hx, he, rfl⟩)
    · intro h e he
      obtain ⟨x, hx, h1, rfl⟩ := (hes.mem e).1 he
      exact h x hx h1
  · intro h0
    rcases hx with ⟨k, hx⟩ | ⟨k, d, hx⟩ | ⟨a, k, d, hx⟩
    · rw [hx, k]
    · rw [hx] at h0; cases h0
    · rw [hx, k]
  · intro h0
    rcases hx with ⟨k, hx⟩ | ⟨k, d, hx⟩ | ⟨a, k, d, hx⟩
    · rw [hx] at h0; exact absurd rfl h0
    · exact k
    · exact k
  · have hev : ∀ x ∈ nodes 1 t, hasEv x.2 = true → evAt (only l es) x.2.ev = evAt l x.2.ev := by
      intro x hx he
      have hr := ev_rng v1 hx he
      unfold evAt
      rw [only_at, if_pos]
      rw [Int.toNat_of_nonneg hr.1]
      exact (hes.mem _).2 ⟨x, hx, he, rfl⟩
    have hk : allKnown (only l es) t = allKnown l t := by
      rw [Bool.eq_iff_iff, known_iff, known_iff]
      constructor
      · intro h x hx he; rw [← hev x hx he]; exact h x hx he
      · intro h x hx he; rw [hev x hx he]; exact h x hx he
    have hok : evsOk (only l es) = true := by
      unfold evsOk at e1 ⊢
      rw [List.all_eq_true] at e1 ⊢
      intro w hw
      obtain ⟨i, hi, rfl⟩ := List.getElem_of_mem hw
      have h1 := only_at l es i
      rw [List.getD_eq_getElem?_getD, List.getElem?_eq_getElem hi] at h1
      rw [show (only l es)[i] = _ from h1]
      split
      · rw [only_len] at hi
        rw [List.getD_eq_getElem?_getD, List.getElem?_eq_getElem hi]
        exact e1 _ (List.getElem_mem hi)
      · rfl
    rw [eval_good c1 (by rw [only_len]; exact v1) hok, eval_good c1 v1 e1, hk, day_congr t 1 hev]

/-- Nodes with one kid on top of a term. -/
theorem nodes_one (d : Nat) (k n e : Int) (b : Bool) (t : Term) : nodes d (.mk k n e b [t]) = (d, .mk k n e b [t]) :: nodes (d + 1) t := by
  rw [nodes_mk]; show _ :: nodesL (d + 1) [t] = _; rw [nodesL_eq]; simp
theorem known_one {l : List When} {k n e : Int} {b : Bool} {t : Term} (hk : k ≠ 2 ∧ k ≠ 3) : allKnown l (.mk k n e b [t]) = allKnown l t := by
  rw [Bool.eq_iff_iff, known_iff, known_iff, nodes_one, nodes_shift 1 t 1]
  constructor
  · intro h x hx he
    exact h (x.1 + 1, x.2) (List.mem_cons_of_mem _ (List.mem_map.2 ⟨x, hx, rfl⟩)) he
  · intro h x hx he
    rcases List.mem_cons.1 hx with rfl | hx
    · unfold hasEv at he; simp [Term.kind, hk.1, hk.2] at he
    · obtain ⟨y, hy, rfl⟩ := List.mem_map.1 hx
      exact h y hy he
theorem valid_one {N k n e : Int} {b : Bool} {t : Term} : valid (.mk k n e b [t]) N = true ↔ (0 ≤ N ∧ N ≤ 1000) ∧ (nodes 1 t).length ≤ 39 ∧ (∀ x ∈ nodes 1 t, x.1 ≤ 9 ∧ fits N x.2 = true) ∧ fits N (.mk k n e b [t]) = true := by
  rw [valid_iff, nodes_one, nodes_shift 1 t 1]
  constructor
  · rintro ⟨h1, h2, h3⟩
    refine ⟨h1, by simp at h2; omega, fun x hx => ?_, (h3 _ List.mem_cons_self).2⟩
    have := h3 (x.1 + 1, x.2) (List.mem_cons_of_mem _ (List.mem_map.2 ⟨x, hx, rfl⟩))
    exact ⟨by have := this.1; dsimp only at this; omega, this.2⟩
  · rintro ⟨h1, h2, h3, h4⟩
    refine ⟨h1, by simp; omega, fun x hx => ?_⟩
    rcases List.mem_cons.1 hx with rfl | hx
    · exact ⟨by omega, h4⟩
    · obtain ⟨y, hy, rfl⟩ := List.mem_map.1 hx
      have := h3 y hy
      exact ⟨by dsimp only; omega, this.2⟩
theorem day_one {c : Cal} {l : List When} {k n e : Int} {b : Bool} {t : Term} : day c l (.mk k n e b [t]) = (day c l t).bind fun d => inRange (node c l (.mk k n e b [t]) [d]) := by
  rw [day_mk]
  show (match dayL c l [t] with | none => none | some ds => _) = _
  rw [dayL]
  cases day c l t <;> rfl
end Go.Proofs.YticlmkfifpkdpaaDoor.Dl
