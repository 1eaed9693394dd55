/-
  The law of extremes of chapter 5 in plain Lean.
-/
import Derived.Test.YticlmkfifpkdpaaDoorDlLaws2
namespace Go.Proofs.YticlmkfifpkdpaaDoor.Dl
set_option linter.unusedVariables false
set_option linter.unusedSimpArgs false

def tmin (l : List Term) : Term := .mk 7 0 0 false l
def tmax (l : List Term) : Term := .mk 8 0 0 false l
theorem nodes_kids (d : Nat) (k n e : Int) (b : Bool) (l : List Term) : nodes d (.mk k n e b l) = (d, .mk k n e b l) :: nodesL (d + 1) l := nodes_mk d _
theorem kid_valid {k n e N : Int} {b : Bool} {l : List Term} (h : valid (.mk k n e b l) N = true) {t : Term} (ht : t ∈ l) : valid t N = true := by
  rw [valid_iff] at h ⊢
  obtain ⟨x, y, rfl⟩ := List.append_of_mem ht
  rw [nodes_kids, nodesL_app, nodesL] at h
  obtain ⟨h1, h2, h3⟩ := h
  rw [nodes_shift 1 t 1] at h2 h3
  refine ⟨h1, by simp at h2; omega, fun u hu => ?_⟩
  have := h3 (u.1 + 1, u.2) (List.mem_cons_of_mem _ (List.mem_append_right _ (List.mem_append_left _ (List.mem_map.2 ⟨u, hu, rfl⟩))))
  exact ⟨by have := this.1; dsimp only at this; omega, this.2⟩
theorem fits_min {N : Int} {l : List Term} : fits N (tmin l) = true ↔ l ≠ [] := by
  unfold tmin
  rw [fits_mk]
  cases l <;> simp
theorem fits_max {N : Int} {l : List Term} : fits N (tmax l) = true ↔ l ≠ [] := by
  unfold tmax
  rw [fits_mk]
  cases l <;> simp
theorem valid_ext {N : Int} {l : List Term} : valid (tmin l) N = valid (tmax l) N := by
  rw [Bool.eq_iff_iff, valid_iff, valid_iff]
  have e1 : nodes 1 (tmin l) = (1, tmin l) :: nodesL 2 l := nodes_kids 1 7 0 0 false l
  have e2 : nodes 1 (tmax l) = (1, tmax l) :: nodesL 2 l := nodes_kids 1 8 0 0 false l
  have hf : fits N (tmin l) = true ↔ fits N (tmax l) = true := by rw [fits_min, fits_max]
  rw [e1, e2]
  simp only [List.length_cons, List.mem_cons, forall_eq_or_imp]
  rw [hf]
theorem known_kids {k n e : Int} {b : Bool} {l : List Term} (hk : k ≠ 2 ∧ k ≠ 3) {evs : List When} : allKnown evs (.mk k n e b l) = true ↔ ∀ t ∈ l, allKnown evs t = true := by
  rw [known_iff, nodes_kids, nodesL_eq]
  constructor
  · intro h t ht
    rw [known_iff]
    intro x hx he
    exact h (x.1 + 1, x.2) (List.mem_cons_of_mem _ (List.mem_flatMap.2 ⟨t, ht, by rw [nodes_shift 1 t 1]; exact List.mem_map.2 ⟨x, hx, rfl⟩⟩)) he
  · intro h x hx he
    rcases List.mem_cons.1 hx with rfl | hx
    · unfold hasEv at he; simp [Term.kind, hk.1, hk.2] at he
    · obtain ⟨t, ht, hx⟩ := List.mem_flatMap.1 hx
      rw [nodes_shift 1 t 1] at hx
      obtain ⟨y, hy, rfl⟩ := List.mem_map.1 hx
      exact known_iff.1 (h t ht) y hy he
theorem dayL_app {c : Cal} {evs : List When} {x y : List Term} {a b : List Int} (h1 : dayL c evs x = some a) (h2 : dayL c evs y = some b) : dayL c evs (x ++ y) = some (a ++ b) := by
  induction x generalizing a with
  | nil => rw [dayL] at h1; injection h1 with h1; subst h1; exact h2
  | cons t x ih =>
    rw [dayL] at h1
    split at h1
    · cases h1
    · rename_i d hd
      split at h1
      · cases h1
      · rename_i ds hds
        injection h1 with h1; subst h1
        show dayL c evs (t :: (x ++ y)) = _
        rw [dayL, hd, ih hds]
        rfl
theorem dayL_one {c : Cal} {evs : List When} {t : Term} {d : Int} (h : day c evs t = some d) : dayL c evs [t] = some [d] := by rw [dayL, h, dayL]
theorem dayL_rev {c : Cal} {evs : List When} {x : List Term} : ∀ {a : List Int}, dayL c evs x = some a → dayL c evs x.reverse = some a.reverse := by
  induction x with
  | nil => intro a h; rw [dayL] at h; injection h with h; subst h; rfl
  | cons t x ih =>
    intro a h
    rw [dayL] at h
    split at h
    · cases h
    · rename_i d hd
      split at h
      · cases h
      · rename_i ds hds
        injection h with h; subst h
        rw [List.reverse_cons, List.reverse_cons]
        exact dayL_app (ih hds) (dayL_one hd)
theorem dayL_get {c : Cal} {evs : List When} : ∀ {x : List Term} {a : List Int}, dayL c evs x = some a → ∀ (i : Nat) (t : Term), x[i]? = some t → day c evs t = some (a.getD i 0) := by
  intro x
  induction x with
  | nil => intro a h i t hi; simp at hi
  | cons u x ih =>
    intro a h i t hi
    rw [dayL] at h
    split at h
    · cases h
    · rename_i d hd
      split at h
      · cases h
      · rename_i ds hds
        injection h with h; subst h
        cases i with
        | zero => simp at hi; subst hi; simpa using hd
        | succ i => simpa using ih hds i t (by simpa using hi)
theorem ext_rng {c : Cal} {evs : List When} {l : List Term} {ds : List Int} (h : dayL c evs l = some ds) (hl : l ≠ []) : inRange (some (least1 ds)) = some (least1 ds) ∧ inRange (some (most1 ds)) = some (most1 ds) := by
  have hn : ds ≠ [] := by
    intro e
    have := dayL_len h
    rw [e] at this
    cases l with
    | nil => exact hl rfl
    | cons a l => simp at this
  have key : ∀ x ∈ ds, 0 ≤ x ∧ x ≤ 73048 := by
    intro x hx
    obtain ⟨i, hi, rfl⟩ := List.getElem_of_mem hx
    have := dayL_rng h i
    rwa [List.getD_eq_getElem?_getD, List.getElem?_eq_getElem hi] at this
  exact ⟨inRange_iff.2 ⟨rfl, key _ (least1_spec hn).1⟩, inRange_iff.2 ⟨rfl, key _ (most1_spec hn).1⟩⟩
theorem day_min {c : Cal} {evs : List When} {l : List Term} : day c evs (tmin l) = match dayL c evs l with | none => none | some ds => inRange (some (least1 ds)) := by
  unfold tmin
  rw [day_mk]
  rfl
theorem day_max {c : Cal} {evs : List When} {l : List Term} : day c evs (tmax l) = match dayL c evs l with | none => none | some ds => inRange (some (most1 ds)) := by
  unfold tmax
  rw [day_mk]
  rfl
theorem known_ext {evs : List When} {l : List Term} : allKnown evs (tmin l) = allKnown evs (tmax l) := by
  rw [Bool.eq_iff_iff]
  exact (known_kids (by decide)).trans (known_kids (by decide)).symm
theorem ext_same {x y : List Int} (hx : x ≠ []) (h : ∀ d, d ∈ x ↔ d ∈ y) : least1 x = least1 y ∧ most1 x = most1 y := by
  have hy : y ≠ [] := by
    intro e
    cases x with
    | nil => exact hx rfl
    | cons a x => have := (h a).1 List.mem_cons_self; rw [e] at this; cases this
  obtain ⟨a1, a2⟩ := least1_spec hx
  obtain ⟨b1, b2⟩ := least1_spec hy
  obtain ⟨c1, c2⟩ := most1_spec hx
  obtain ⟨d1, d2⟩ := most1_spec hy
  have := a2 _ ((h _).2 b1)
  have := b2 _ ((h _).1 a1)
  have := c2 _ ((h _).2 d1)
  have := d2 _ ((h _).1 c1)
  omega
/-- DeadlineExtremes. -/
theorem law_ext (l : List Term) (c : Cal) (evs : List When) :
    (eval (tmin l) c evs).2.2 = (eval (tmax l) c evs).2.2 ∧
    (((eval (tmin l) c evs).2.2 ≠ 0 ∨ (eval (tmin l) c evs).2.1 = false) → (eval (tmin l) c evs).1 = 0 ∧ (eval (tmax l) c evs).1 = 0) ∧
    ((eval (tmin l) c evs).2.2 = 0 → (eval (tmin l) c evs).2.1 = true →
      ∃ ds : List Int, ds.length = l.length ∧ 0 < l.length ∧ (∀ i t, l[i]? = some t → eval t c evs = (ds.getD i 0, true, 0)) ∧
        (eval (tmin l) c evs).1 = least1 ds ∧ (eval (tmax l) c evs).1 = most1 ds ∧
        ((eval (tmin (l.reverse ++ l.take 1)) c evs).2.2 = 1 ∨ (eval (tmin (l.reverse ++ l.take 1)) c evs) = (least1 ds, true, 0) ∧ eval (tmax (l.reverse ++ l.take 1)) c evs = (most1 ds, true, 0))) := by
  by_cases hg : c.ok = true ∧ valid (tmin l) evs.length = true ∧ evsOk evs = true
  case neg =>
    have hg2 : ¬ (c.ok = true ∧ valid (tmax l) evs.length = true ∧ evsOk evs = true) := by rw [← valid_ext]; exact hg
    rw [eval_bad hg, eval_bad hg2]
    exact ⟨rfl, fun _ => ⟨rfl, rfl⟩, fun h => by cases h⟩
  obtain ⟨h1, h2, h3⟩ := hg
  have hl : l ≠ [] := by
    have := ((valid_iff _ _).1 h2).2.2 _ (nodes_self 1 (tmin l))
    exact fits_min.1 this.2
  have e1 := eval_good h1 h2 h3
  have e2 := eval_good h1 (valid_ext ▸ h2) h3
  rw [← known_ext] at e2
  cases hk : allKnown evs (tmin l)
  case false =>
    rw [hk] at e1 e2
    rw [e1, e2]
    exact ⟨rfl, fun _ => ⟨rfl, rfl⟩, fun _ h => by cases h⟩
  rw [hk, day_min] at e1
  rw [hk, day_max] at e2
  cases hd : dayL c evs l with
  | none =>
    rw [hd] at e1 e2
    rw [e1, e2]
    exact ⟨rfl, fun _ => ⟨rfl, rfl⟩, fun h => by cases h⟩
  | some ds =>
    have hr := ext_rng hd hl
    rw [hd] at e1 e2
    dsimp only at e1 e2
    rw [hr.1] at e1
    rw [hr.2] at e2
    have e1' : eval (tmin l) c evs = (least1 ds, true, 0) := e1
    have e2' : eval (tmax l) c evs = (most1 ds, true, 0) := e2
    rw [e1', e2']
    refine ⟨rfl, fun h => ?_, fun _ _ => ⟨ds, dayL_len hd, List.length_pos_iff.2 hl, fun i t hi => ?_, rfl, rfl, ?_⟩⟩
    · rcases h with h | h
      · exact absurd rfl h
      · cases h
    · have hm := List.mem_of_getElem? hi
      rw [eval_good h1 (kid_valid h2 hm) h3, (known_kids (by decide)).1 hk t hm, dayL_get hd i t hi]
      rfl
    · by_cases hv : valid (tmin (l.reverse ++ l.take 1)) evs.length = true
      case neg => rw [eval_bad (fun h => hv h.2.1)]; exact .inl rfl
      obtain ⟨t0, l', rfl⟩ : ∃ t0 l', l = t0 :: l' := by
        cases l with
        | nil => exact absurd rfl hl
        | cons a l => exact ⟨a, l, rfl⟩
      obtain ⟨d0, ds', rfl⟩ : ∃ d0 ds', ds = d0 :: ds' := by
        have := dayL_len hd
        cases ds with
        | nil => cases this
        | cons a l => exact ⟨a, l, rfl⟩
      have hd0 : day c evs t0 = some d0 := by simpa using dayL_get hd 0 t0 rfl
      have hT : dayL c evs ((t0 :: l').reverse ++ (t0 :: l').take 1) = some ((d0 :: ds').reverse ++ [d0]) := dayL_app (dayL_rev hd) (dayL_one hd0)
      have hkT : allKnown evs (tmin ((t0 :: l').reverse ++ (t0 :: l').take 1)) = true := (known_kids (by decide)).2 (fun t ht => by
        refine (known_kids (by decide)).1 hk t ?_
        rcases List.mem_append.1 ht with h | h
        · exact List.mem_reverse.1 h
        · exact List.mem_of_mem_take h)
      have hsame := ext_same (x := (d0 :: ds').reverse ++ [d0]) (y := d0 :: ds') (by simp) (fun d => by simp; exact Or.comm)
      have hrT := ext_rng hT (by simp)
      refine .inr ⟨?_, ?_⟩
      · rw [eval_good h1 hv h3, hkT, day_min, hT]
        dsimp only
        rw [hrT.1, hsame.1]
        rfl
      · rw [eval_good h1 (valid_ext ▸ hv) h3, ← known_ext, hkT, day_max, hT]
        dsimp only
        rw [hrT.2, hsame.2]
        rfl
end Go.Proofs.YticlmkfifpkdpaaDoor.Dl
