/-
  More laws of chapter 5 in plain Lean: sums, cuts, extremes.
-/
import Derived.Test.YticlmkfifpkdpaaDoorDlLaws
namespace Go.Proofs.YticlmkfifpkdpaaDoor.Dl
set_option linter.unusedVariables false
set_option linter.unusedSimpArgs false

def plus (n : Int) (b : Bool) (t : Term) : Term := .mk 4 n 0 b [t]
def next (t : Term) : Term := .mk 6 0 0 false [t]
theorem fits_mk (N k n e : Int) (b : Bool) (l : List Term) : fits N (.mk k n e b l) =
    if k = 1 then isDay n && decide (e = 0) && !b && decide (l.length = 0)
    else if k = 2 then decide (n = 0) && (decide (0 ≤ e) && decide (e ≤ N - 1)) && !b && decide (l.length = 0)
    else if k = 3 then (decide (0 ≤ n) && decide (n ≤ 1440)) && (decide (0 ≤ e) && decide (e ≤ N - 1)) && !b && decide (l.length = 0)
    else if k = 4 then (decide (0 ≤ n) && decide (n ≤ 1000)) && decide (e = 0) && decide (l.length = 1)
    else if k = 5 then (decide (0 ≤ n) && decide (n ≤ 120)) && decide (e = 0) && !b && decide (l.length = 1)
    else if k = 6 then decide (n = 0) && decide (e = 0) && !b && decide (l.length = 1)
    else if k = 7 ∨ k = 8 then decide (n = 0) && decide (e = 0) && !b && decide (0 < l.length)
    else false := rfl
theorem fits_plus {N n : Int} {b : Bool} {t : Term} : fits N (plus n b t) = true ↔ 0 ≤ n ∧ n ≤ 1000 := by
  unfold plus
  rw [fits_mk]
  simp
theorem fits_next {N : Int} {t : Term} : fits N (next t) = true := by
  unfold next
  rw [fits_mk]
  simp
theorem valid_plus {N n : Int} {b : Bool} {t : Term} : valid (plus n b t) N = true ↔ (0 ≤ N ∧ N ≤ 1000) ∧ (nodes 1 t).length ≤ 39 ∧ (∀ x ∈ nodes 1 t, x.1 ≤ 9 ∧ fits N x.2 = true) ∧ 0 ≤ n ∧ n ≤ 1000 := by
  have := @fits_plus N n b t
  unfold plus at this ⊢
  rw [valid_one, this]
theorem valid_next {N : Int} {t : Term} : valid (next t) N = true ↔ (0 ≤ N ∧ N ≤ 1000) ∧ (nodes 1 t).length ≤ 39 ∧ (∀ x ∈ nodes 1 t, x.1 ≤ 9 ∧ fits N x.2 = true) := by
  have := @fits_next N t
  unfold next at this ⊢
  rw [valid_one, this]
  simp
/-- One more node on top: what is left below. -/
theorem valid_below {N k n e : Int} {b : Bool} {t : Term} (h : valid (.mk k n e b [t]) N = true) : valid t N = true := by
  rw [valid_one] at h
  rw [valid_iff]
  exact ⟨h.1, by omega, fun x hx => ⟨by have := (h.2.2.1 x hx).1; omega, (h.2.2.1 x hx).2⟩⟩
theorem nodes_len (d : Nat) (t : Term) : (nodes d t).length = (nodes 1 t).length := by
  have h0 : (nodes (0 + 1) t).length = (nodes 0 t).length := by rw [nodes_shift 1 t 0, List.length_map]
  have h1 : (nodes (0 + d) t).length = (nodes 0 t).length := by rw [nodes_shift d t 0, List.length_map]
  rw [Nat.zero_add] at h0 h1
  rw [h1, h0]
/-- A kid of a kid, of a valid term: the conditions on the kid alone. -/
theorem two_below {N : Int} {t u : Term} (hu : ∀ d, nodes d u = (d, u) :: nodes (d + 1) t) (h : (nodes 1 u).length ≤ 39 ∧ ∀ x ∈ nodes 1 u, x.1 ≤ 9 ∧ fits N x.2 = true) : (nodes 1 t).length ≤ 38 ∧ ∀ x ∈ nodes 1 t, x.1 ≤ 8 ∧ fits N x.2 = true := by
  obtain ⟨h1, h2⟩ := h
  rw [hu 1, List.length_cons, nodes_len] at h1
  refine ⟨by omega, fun x hx => ?_⟩
  have := h2 (x.1 + 1, x.2) (by rw [hu 1, nodes_shift 1 t 1]; exact List.mem_cons_of_mem _ (List.mem_map.2 ⟨x, hx, rfl⟩))
  exact ⟨by have := this.1; dsimp only at this; omega, this.2⟩
theorem nodes_plus (n : Int) (b : Bool) (t : Term) (d : Nat) : nodes d (plus n b t) = (d, plus n b t) :: nodes (d + 1) t := nodes_one d 4 n 0 b t
theorem nodes_next (t : Term) (d : Nat) : nodes d (next t) = (d, next t) :: nodes (d + 1) t := nodes_one d 6 0 0 false t
theorem known_plus {l : List When} {n : Int} {b : Bool} {t : Term} : allKnown l (plus n b t) = allKnown l t := known_one (by decide)
theorem known_next {l : List When} {t : Term} : allKnown l (next t) = allKnown l t := known_one (by decide)
theorem day_plus {c : Cal} {l : List When} {n : Int} {t : Term} : day c l (plus n false t) = (day c l t).bind fun d => inRange (some (d + n)) := day_one
theorem day_plusb {c : Cal} {l : List When} {n : Int} {t : Term} : day c l (plus n true t) = (day c l t).bind fun d => inRange (add c d n) := day_one
theorem day_next {c : Cal} {l : List When} {t : Term} : day c l (next t) = (day c l t).bind fun d => inRange (add c d 0) := day_one
theorem eval_same {t u : Term} {c : Cal} {l : List When} (hv : valid t l.length = valid u l.length) (hk : allKnown l t = allKnown l u) (hd : day c l t = day c l u) : eval t c l = eval u c l := by
  unfold eval
  rw [hv, hk, hd]
theorem inRange_add {c : Cal} {d n : Int} (hn : 0 ≤ n) (hd : 0 ≤ d) (hd' : d ≤ 73048) : inRange (add c d n) = add c d n := by
  cases h : add c d n with
  | none => rfl
  | some r =>
    have := add_rng hn hd' h
    exact (inRange_iff.2 ⟨rfl, by omega, this.2.1⟩)
/-- DeadlineSums. -/
theorem law_sums {t : Term} {c : Cal} {l : List When} {m n : Int} (hm : 0 ≤ m) (hm' : m ≤ 500) (hn : 0 ≤ n) (hn' : n ≤ 500) (he : (eval (plus n false (plus m false t)) c l).2.2 ≠ 1) :
    ((eval (plus n false (plus m false t)) c l).2.2 = (eval (plus (m + n) false t) c l).2.2 ∧ (eval (plus n false (plus m false t)) c l).1 = (eval (plus (m + n) false t) c l).1) ∧
    eval (plus 0 true t) c l = eval (next t) c l ∧
    ((eval (plus (n + 1) true (plus m true (next t))) c l).2.2 ≠ 1 → m + n < 1000 → (eval (plus (n + 1) true (plus m true (next t))) c l).2.2 = (eval (plus (m + n + 1) true (next t)) c l).2.2 ∧ (eval (plus (n + 1) true (plus m true (next t))) c l).1 = (eval (plus (m + n + 1) true (next t)) c l).1) ∧
    ((eval (plus 0 true t) c l).2.2 = 0 → (eval (plus n false (plus m false t)) c l).2.2 = 0 → (eval (plus 0 true t) c l).2.1 = (eval (plus n false (plus m false t)) c l).2.1) ∧
    ((eval (plus 0 true t) c l).2.2 = 0 → (eval (plus 0 true t) c l).2.1 = true → c.ok = true ∧ isDay (eval (plus 0 true t) c l).1 = true ∧ biz c (eval (plus 0 true t) c l).1 = true) := by
  rcases eval_cases (plus n false (plus m false t)) c l with h | ⟨⟨c1, v1, e1⟩, hx⟩
  · rw [h] at he; exact absurd rfl he
  have v1' := valid_plus.1 v1
  have v2 := two_below (nodes_plus m false t) ⟨v1'.2.1, v1'.2.2.1⟩
  have same : eval (plus n false (plus m false t)) c l = eval (plus (m + n) false t) c l := by
    refine eval_same ?_ ?_ ?_
    · rw [v1]
      refine (valid_plus.2 ⟨v1'.1, by omega, fun x hx => ⟨by have := (v2.2 x hx).1; omega, (v2.2 x hx).2⟩, by omega, by omega⟩).symm
    · rw [known_plus, known_plus, known_plus]
    · rw [day_plus, day_plus, day_plus]
      cases hd : day c l t with
      | none => rfl
      | some d =>
        have hr := day_rng hd
        show ((inRange (some (d + m))).bind fun d => inRange (some (d + n))) = inRange (some (d + (m + n)))
        cases h1 : inRange (some (d + m)) with
        | none =>
          cases h2 : inRange (some (d + (m + n))) with
          | none => rfl
          | some r =>
            obtain ⟨e1, e2, e3⟩ := inRange_iff.1 h2
            injection e1 with e1
            have := (inRange_iff (o := some (d + m)) (d := d + m)).2 ⟨rfl, by omega, by omega⟩
            rw [h1] at this; cases this
        | some r =>
          obtain ⟨e1, e2, e3⟩ := inRange_iff.1 h1
          injection e1 with e1
          subst e1
          show inRange (some (d + m + n)) = _
          rw [Int.add_assoc]
  have z : eval (plus 0 true t) c l = eval (next t) c l := by
    refine eval_same ?_ ?_ ?_
    · rw [Bool.eq_iff_iff, valid_plus, valid_next]; simp
    · rw [known_plus, known_next]
    · rw [day_plusb, day_next]
  have kz : allKnown l (plus 0 true t) = allKnown l (plus n false (plus m false t)) := by rw [known_plus, known_plus, known_plus]
  refine ⟨by rw [same]; exact ⟨rfl, rfl⟩, z, fun hg hmn => ?_, fun h1 h2 => ?_, fun h1 h2 => ?_⟩
  · have big : eval (plus (n + 1) true (plus m true (next t))) c l = eval (plus (m + n + 1) true (next t)) c l := by
      rcases eval_cases (plus (n + 1) true (plus m true (next t))) c l with h | ⟨⟨c3, v3, e3⟩, hx3⟩
      · rw [h] at hg; exact absurd rfl hg
      have v3' := valid_plus.1 v3
      have v4 := two_below (nodes_plus m true (next t)) ⟨v3'.2.1, v3'.2.2.1⟩
      refine eval_same ?_ ?_ ?_
      · rw [v3]
        refine (valid_plus.2 ⟨v3'.1, by omega, fun x hx => ⟨by have := (v4.2 x hx).1; omega, (v4.2 x hx).2⟩, by omega, by omega⟩).symm
      · rw [known_plus, known_plus, known_plus]
      · rw [day_plusb, day_plusb, day_plusb, day_next]
        cases hd : day c l t with
        | none => rfl
        | some d =>
          have hr := day_rng hd
          show (((inRange (add c d 0)).bind fun d => inRange (add c d m)).bind fun d => inRange (add c d (n + 1))) = (inRange (add c d 0)).bind fun d => inRange (add c d (m + n + 1))
          rw [inRange_add (Int.le_refl _) hr.1 hr.2]
          cases ha : add c d 0 with
          | none => rfl
          | some s =>
            have hs := add_rng (Int.le_refl _) hr.2 ha
            show ((inRange (add c s m)).bind fun d => inRange (add c d (n + 1))) = inRange (add c s (m + n + 1))
            rw [inRange_add hm (by omega) hs.2.1, inRange_add (by omega) (by omega) hs.2.1, ← add_two hs.2.1 hm hn hs.2.2]
            cases hb : add c s m with
            | none => rfl
            | some r =>
              have hr2 := add_rng hm hs.2.1 hb
              show inRange (add c r (n + 1)) = add c r (n + 1)
              exact inRange_add (by omega) (by omega) hr2.2.1
    rw [big]; exact ⟨rfl, rfl⟩
  · rcases eval_cases (plus 0 true t) c l with h | ⟨⟨c3, v3, e3⟩, hy⟩
    · rw [h] at h1; cases h1
    rcases hx with ⟨k, hx⟩ | ⟨k, d, hx⟩ | ⟨a, k, d, hx⟩ <;> rcases hy with ⟨k', hy⟩ | ⟨k', d', hy⟩ | ⟨a', k', d', hy⟩ <;> rw [hx, hy] <;> rw [k, k'] at kz <;> try (cases kz)
    all_goals first | rfl | (rw [hy] at h1; cases h1; done) | (rw [hx] at h2; cases h2; done)
  · rcases eval_cases (plus 0 true t) c l with h | ⟨⟨c3, v3, e3⟩, hy⟩
    · rw [h] at h1; cases h1
    refine ⟨c3, ?_⟩
    rcases hy with ⟨k', hy⟩ | ⟨k', d', hy⟩ | ⟨a', k', d', hy⟩
    · rw [hy] at h2; cases h2
    · rw [hy] at h1; cases h1
    · rw [hy]
      dsimp only
      rw [day_plusb] at d'
      cases hd : day c l t with
      | none => rw [hd] at d'; cases d'
      | some d =>
        rw [hd] at d'
        have hr := day_rng hd
        have d2 : inRange (add c d 0) = some a' := d'
        rw [inRange_add (Int.le_refl _) hr.1 hr.2] at d2
        have := add_rng (Int.le_refl _) hr.2 d2
        exact ⟨(isDay_iff _).2 ⟨by omega, this.2.1⟩, this.2.2⟩

def event (e : Int) : Term := .mk 2 0 e false []
def cut (n e : Int) : Term := .mk 3 n e false []
theorem nodes_leaf (d : Nat) (k n e : Int) (b : Bool) : nodes d (.mk k n e b []) = [(d, .mk k n e b [])] := by rw [nodes_mk]; rfl
theorem valid_event {e N : Int} : valid (event e) N = true ↔ (0 ≤ N ∧ N ≤ 1000) ∧ 0 ≤ e ∧ e < N := by
  unfold event
  rw [valid_iff, nodes_leaf]
  simp [fits_mk]
  omega
theorem valid_cut {n e N : Int} : valid (cut n e) N = true ↔ (0 ≤ N ∧ N ≤ 1000) ∧ (0 ≤ e ∧ e < N) ∧ 0 ≤ n ∧ n ≤ 1440 := by
  unfold cut
  rw [valid_iff, nodes_leaf]
  simp [fits_mk]
  omega
theorem known_event {e : Int} {l : List When} : allKnown l (event e) = (evAt l e).known := by
  unfold allKnown event
  rw [nodes_leaf]
  simp [hasEv, Term.kind, Term.ev]
theorem known_cut {n e : Int} {l : List When} : allKnown l (cut n e) = (evAt l e).known := by
  unfold allKnown cut
  rw [nodes_leaf]
  simp [hasEv, Term.kind, Term.ev]
theorem day_event {c : Cal} {e : Int} {l : List When} : day c l (event e) = inRange (some (evAt l e).day) := by
  unfold event
  rw [day_mk]
  show (match dayL c l [] with | none => none | some ds => _) = _
  rw [dayL]
  rfl
theorem day_cut {c : Cal} {n e : Int} {l : List When} : day c l (cut n e) = inRange (some (if (evAt l e).min ≥ n then (evAt l e).day + 1 else (evAt l e).day)) := by
  unfold cut
  rw [day_mk]
  show (match dayL c l [] with | none => none | some ds => _) = _
  rw [dayL]
  rfl
/-- DeadlineCuts. -/
theorem law_cuts {c : Cal} {l : List When} {e : Int} (he : (eval (event e) c l).2.2 = 0) (hk : (eval (event e) c l).2.1 = true) (n : Int) :
    ((n < 0 ∨ 1440 < n) → valid (cut n e) l.length = false) ∧
    (0 ≤ n → n ≤ 1440 → (eval (event e) c l).1 = (evAt l e).day ∧ eval (cut 1440 e) c l = ((evAt l e).day, true, 0) ∧
      ((evAt l e).day = 73048 → eval (cut 0 e) c l = (0, false, 2) ∧ eval (cut n e) c l = if (evAt l e).min ≥ n then (0, false, 2) else ((evAt l e).day, true, 0)) ∧
      ((evAt l e).day ≠ 73048 → eval (cut 0 e) c l = ((evAt l e).day + 1, true, 0) ∧ eval (cut n e) c l = ((if (evAt l e).min ≥ n then (evAt l e).day + 1 else (evAt l e).day), true, 0))) := by
  rcases eval_cases (event e) c l with h | ⟨⟨c3, v3, e3⟩, hy⟩
  · rw [h] at he; cases he
  have vv := valid_event.1 v3
  constructor
  · intro hn
    cases hv : valid (cut n e) l.length
    · rfl
    · have := valid_cut.1 hv; omega
  intro h0 h1
  rcases hy with ⟨k', hy⟩ | ⟨k', d', hy⟩ | ⟨a', k', d', hy⟩
  · rw [hy] at hk; cases hk
  · rw [hy] at he; cases he
  rw [known_event] at k'
  have hr := evsOk_ev e3 e k'
  rw [day_event] at d'
  obtain ⟨e1, _, _⟩ := inRange_iff.1 d'
  injection e1 with e1
  have ec : ∀ k : Int, 0 ≤ k → k ≤ 1440 → eval (cut k e) c l = match inRange (some (if (evAt l e).min ≥ k then (evAt l e).day + 1 else (evAt l e).day)) with | none => (0, false, 2) | some d => (d, true, 0) := by
    intro k hk0 hk1
    rw [eval_good c3 (valid_cut.2 ⟨vv.1, vv.2, hk0, hk1⟩) e3, known_cut, k', day_cut]
    rfl
  have yes : ∀ d : Int, 0 ≤ d → d ≤ 73048 → inRange (some d) = some d := fun d h1 h2 => inRange_iff.2 ⟨rfl, h1, h2⟩
  have no : ∀ d : Int, 73048 < d → inRange (some d) = none := fun d h1 => by
    cases h : inRange (some d) with
    | none => rfl
    | some r => obtain ⟨e1, e2, e3⟩ := inRange_iff.1 h; injection e1 with e1; omega
  refine ⟨by rw [hy]; exact e1.symm, ?_, fun h => ⟨?_, ?_⟩, fun h => ⟨?_, ?_⟩⟩
  · rw [ec 1440 (by omega) (by omega), if_neg (by omega), yes _ (by omega) (by omega)]
  · rw [ec 0 (by omega) (by omega), if_pos (by omega), no _ (by omega)]
  · rw [ec n h0 h1]
    by_cases hm : (evAt l e).min ≥ n
    · rw [if_pos hm, if_pos hm, no _ (by omega)]
    · rw [if_neg hm, if_neg hm, yes _ (by omega) (by omega)]
  · rw [ec 0 (by omega) (by omega), if_pos (by omega), yes _ (by omega) (by omega)]
  · rw [ec n h0 h1]
    by_cases hm : (evAt l e).min ≥ n
    · rw [if_pos hm, yes _ (by omega) (by omega)]
    · rw [if_neg hm, yes _ (by omega) (by omega)]
end Go.Proofs.YticlmkfifpkdpaaDoor.Dl
