/-
  The faults when items with faults of some kinds are left out, in plain Lean.
-/
import Derived.Test.YtdhjibnkebbejaaDoorResLawG
namespace Go.Proofs.YtdhjibnkebbejaaDoor.Rs
set_option linter.unusedVariables false
set_option linter.unusedSimpArgs false

/-! The faults, with the items left out that have the faults of a kind. -/
def badE (e : Int) : Bool := decide (e = 10) || decide (e = 9) || decide (e = 3)
/-- Items kept, faults kept, faults left: as the law walks through both lists. -/
def cutF : List Item → List Fault → List Item × List Fault × List Fault
  | [], f => ([], [], f)
  | x :: l, [] => (x :: (cutF l []).1, (cutF l []).2.1, (cutF l []).2.2)
  | x :: l, a :: f => if a.pos ≠ x.pos then (x :: (cutF l (a :: f)).1, (cutF l (a :: f)).2.1, (cutF l (a :: f)).2.2)
    else if badE a.err then cutF l f else (x :: (cutF l f).1, a :: (cutF l f).2.1, (cutF l f).2.2)
theorem hput_length (l : List Int) (d : Int) : l.length ≤ (hput l d).length := by
  unfold hput; split
  · exact Nat.le_refl _
  · simp
theorem foldl_hput_length (ds l : List Int) : l.length ≤ (ds.foldl hput l).length := by
  induction ds generalizing l with
  | nil => exact Nat.le_refl _
  | cons d ds ih => exact Nat.le_trans (hput_length l d) (ih _)
theorem holiday_inv (s s' : Sy) (x : Item) (h : 400 < s.hol.length ∨ s.hol = s'.hol) :
    (badE (holiday s x).2 = false → (holiday s' x).2 = (holiday s x).2 ∧ (400 < (holiday s x).1.hol.length ∨ (holiday s x).1.hol = (holiday s' x).1.hol)) ∧ (badE (holiday s x).2 = true → (400 < (holiday s x).1.hol.length ∨ (holiday s x).1.hol = s'.hol)) := by
  unfold holiday
  by_cases hn : (x.dates.any fun c => (number c).isNone) = true
  · simp only [if_pos hn]; exact ⟨fun _ => ⟨trivial, h⟩, fun _ => h⟩
  · simp only [if_neg hn]
    by_cases hl : (List.foldl hput s.hol (x.dates.filterMap number)).length > 400
    · simp only [if_pos hl]
      exact ⟨fun h => absurd h (by decide), fun _ => .inl hl⟩
    · simp only [if_neg hl]
      refine ⟨fun _ => ?_, fun h => absurd h (by decide)⟩
      have := foldl_hput_length (x.dates.filterMap number) s.hol
      rcases h with h | h
      · omega
      · rw [← h, if_neg hl]; exact ⟨rfl, .inr rfl⟩
theorem item_inv (T : Tab) (s s' : Sy) (x : Item) (tw mb : Bool) (h : 400 < s.hol.length ∨ s.hol = s'.hol) :
    (badE (item T s x tw mb).2 = false → (item T s' x tw mb).2 = (item T s x tw mb).2 ∧ (400 < (item T s x tw mb).1.hol.length ∨ (item T s x tw mb).1.hol = (item T s' x tw mb).1.hol)) ∧ (badE (item T s x tw mb).2 = true → (400 < (item T s x tw mb).1.hol.length ∨ (item T s x tw mb).1.hol = s'.hol)) := by
  unfold item
  by_cases h4 : x.kind = 4
  · simp only [if_pos h4]; exact ⟨fun _ => ⟨trivial, h⟩, fun _ => h⟩
  simp only [if_neg h4]
  by_cases h5 : x.kind = 5
  · simp only [if_pos h5]; exact holiday_inv s s' x h
  simp only [if_neg h5]
  by_cases h0 : group x.kind = 0
  · simp only [if_pos h0]; exact ⟨fun _ => ⟨trivial, h⟩, fun _ => h⟩
  simp only [if_neg h0]
  by_cases htw : tw = true
  · simp only [if_pos htw]; exact ⟨fun _ => ⟨trivial, h⟩, fun _ => h⟩
  simp only [if_neg htw]
  by_cases hm : (!mb) = true
  · simp only [if_pos hm]; exact ⟨fun _ => ⟨trivial, h⟩, fun _ => h⟩
  simp only [if_neg hm]
  by_cases h1 : x.kind = 1
  · simp only [if_pos h1]; exact ⟨fun _ => ⟨trivial, h⟩, fun _ => h⟩
  simp only [if_neg h1]
  by_cases h2 : x.kind = 2
  · simp only [if_pos h2]; exact ⟨fun _ => ⟨trivial, h⟩, fun _ => h⟩
  simp only [if_neg h2]
  by_cases h3 : x.kind = 3
  · simp only [if_pos h3]; exact ⟨fun _ => ⟨trivial, h⟩, fun _ => h⟩
  simp only [if_neg h3]
  by_cases h8 : x.kind = 8
  · simp only [if_pos h8]; exact ⟨fun _ => ⟨trivial, h⟩, fun _ => h⟩
  simp only [if_neg h8]; exact ⟨fun _ => ⟨trivial, h⟩, fun _ => h⟩
theorem badE8 {b : Bool} (h : badE (if b then (0 : Int) else 8) = true) : False := by
  cases b <;> exact absurd h (by decide)
theorem put_bad (T t : Tab) (s : Sy) (x : Item) (h : badE (item T s x (twice t x) (member t x)).2 = true) : put t x = t := by
  unfold put
  by_cases hm : member t x = true
  · exfalso
    rw [hm] at h
    have h0 : group x.kind ≠ 0 := by
      intro e; unfold member at hm; rw [e] at hm; simp at hm
    have htw : twice t x = false := by
      unfold member at hm; unfold twice
      simp only [Bool.and_eq_true, Bool.not_eq_true'] at hm
      rw [hm.1.2, Bool.and_false]
    have h4 : x.kind ≠ 4 := by intro e; rw [e] at h0; exact h0 rfl
    have h5 : x.kind ≠ 5 := by intro e; rw [e] at h0; exact h0 rfl
    unfold item at h
    rw [if_neg h4, if_neg h5, if_neg h0, htw, if_neg (by simp), if_neg (by simp)] at h
    by_cases h1 : x.kind = 1
    · rw [if_pos h1] at h; exact absurd h (by simp [badE])
    rw [if_neg h1] at h
    by_cases h2 : x.kind = 2
    · rw [if_pos h2] at h; exact badE8 h
    rw [if_neg h2] at h
    by_cases h3 : x.kind = 3
    · rw [if_pos h3] at h; exact badE8 h
    rw [if_neg h3] at h
    by_cases h8 : x.kind = 8
    · rw [if_pos h8] at h; exact badE8 h
    rw [if_neg h8] at h
    exact badE8 h
  · rw [if_neg hm]
/-- The items have increasing offsets. -/
def Inc (l : List Item) : Prop := l.Pairwise fun a b => a.pos < b.pos
theorem trace_pos (T : Tab) (s : Sy) (l : List Item) (ms : List (Bool × Bool)) : ∀ a ∈ faultsOf (trace T s (l.zip ms)), ∃ x ∈ l, a.pos = x.pos := by
  induction l generalizing s ms with
  | nil => intro a ha; exact absurd ha (List.not_mem_nil)
  | cons x l ih =>
    cases ms with
    | nil => intro a ha; exact absurd ha (List.not_mem_nil)
    | cons m ms =>
      intro a ha
      change a ∈ faultsOf ((_, (item T s x m.1 m.2).2, x.pos) :: trace T (item T s x m.1 m.2).1 (l.zip ms)) at ha
      unfold faultsOf at ha
      rw [List.filterMap_cons] at ha
      by_cases h0 : (item T s x m.1 m.2).2 = 0
      · simp only [if_pos h0] at ha
        obtain ⟨y, hy, e⟩ := ih _ _ a ha
        exact ⟨y, List.mem_cons_of_mem _ hy, e⟩
      · simp only [if_neg h0] at ha
        rcases List.mem_cons.1 ha with rfl | ha
        · exact ⟨x, List.mem_cons_self .., rfl⟩
        · obtain ⟨y, hy, e⟩ := ih _ _ a ha
          exact ⟨y, List.mem_cons_of_mem _ hy, e⟩
theorem cutF_keep (x : Item) (l : List Item) (F : List Fault) (h : ∀ a ∈ F, a.pos ≠ x.pos) : cutF (x :: l) F = (x :: (cutF l F).1, (cutF l F).2.1, (cutF l F).2.2) := by
  cases F with
  | nil => rw [cutF]
  | cons a f => rw [cutF, if_pos (h a (List.mem_cons_self ..))]
theorem cutF_hit (x : Item) (l : List Item) (a : Fault) (f : List Fault) (h : a.pos = x.pos) : cutF (x :: l) (a :: f) = if badE a.err then cutF l f else (x :: (cutF l f).1, a :: (cutF l f).2.1, (cutF l f).2.2) := by
  rw [cutF, if_neg (by simp [h])]
theorem trace_cons (T : Tab) (s : Sy) (x : Item) (l : List Item) (m : Bool × Bool) (ms : List (Bool × Bool)) : faultsOf (trace T s ((x :: l).zip (m :: ms))) = (if (item T s x m.1 m.2).2 = 0 then [] else [⟨(item T s x m.1 m.2).2, x.pos⟩]) ++ faultsOf (trace T (item T s x m.1 m.2).1 (l.zip ms)) := by
  show faultsOf ((_, (item T s x m.1 m.2).2, x.pos) :: trace T (item T s x m.1 m.2).1 (l.zip ms)) = _
  unfold faultsOf
  rw [List.filterMap_cons]
  by_cases h0 : (item T s x m.1 m.2).2 = 0
  · simp only [if_pos h0, List.nil_append]
  · simp only [if_neg h0, List.singleton_append]
theorem cut_main (T : Tab) (l : List Item) : ∀ (t : Tab) (s s' : Sy), Inc l → (400 < s.hol.length ∨ s.hol = s'.hol) → ∀ F, F = faultsOf (trace T s (l.zip (marks t l))) →
    (cutF l F).2.2 = [] ∧ faultsOf (trace T s' ((cutF l F).1.zip (marks t (cutF l F).1))) = (cutF l F).2.1 ∧ tabs t (cutF l F).1 = tabs t l := by
  induction l with
  | nil => intro t s s' _ _ F hF; subst hF; exact ⟨rfl, rfl, rfl⟩
  | cons x l ih =>
    intro t s s' hi hs F hF
    have hi' : Inc l := (List.pairwise_cons.1 hi).2
    have hx := (List.pairwise_cons.1 hi).1
    have hm : marks t (x :: l) = (twice t x, member t x) :: marks (put t x) l := rfl
    rw [hm, trace_cons] at hF
    dsimp only at hF
    obtain ⟨v1, v2⟩ := item_inv T s s' x (twice t x) (member t x) hs
    have hp := put_bad T t s x
    by_cases h0 : (item T s x (twice t x) (member t x)).2 = 0
    · rw [if_pos h0, List.nil_append] at hF
      obtain ⟨w1, w2⟩ := v1 (by rw [h0]; rfl)
      obtain ⟨i1, i2, i3⟩ := ih (put t x) _ _ hi' w2 F hF
      have hk := cutF_keep x l F (fun a ha => by
        rw [hF] at ha
        obtain ⟨y, hy, e⟩ := trace_pos _ _ _ _ a ha
        have := hx y hy
        omega)
      rw [hk]
      refine ⟨i1, ?_, i3⟩
      show faultsOf (trace T s' ((x :: (cutF l F).1).zip ((twice t x, member t x) :: marks (put t x) (cutF l F).1))) = _
      rw [trace_cons]
      dsimp only
      rw [w1, if_pos h0, List.nil_append]
      exact i2
    · rw [if_neg h0, List.singleton_append] at hF
      rw [hF, cutF_hit _ _ _ _ rfl]
      by_cases hb : badE (item T s x (twice t x) (member t x)).2 = true
      · rw [if_pos hb]
        have e := hp hb
        obtain ⟨i1, i2, i3⟩ := ih t _ _ hi' (v2 hb) _ rfl
        rw [e]
        exact ⟨i1, i2, by show _ = tabs (put t x) l; rw [e]; exact i3⟩
      · rw [if_neg hb]
        obtain ⟨w1, w2⟩ := v1 (by simpa using hb)
        obtain ⟨i1, i2, i3⟩ := ih (put t x) _ _ hi' w2 _ rfl
        refine ⟨i1, ?_, i3⟩
        show faultsOf (trace T s' ((x :: (cutF l _).1).zip ((twice t x, member t x) :: marks (put t x) (cutF l _).1))) = _
        rw [trace_cons]
        dsimp only
        rw [w1, if_neg h0, List.singleton_append, i2]
theorem run_faults (l : List Item) (hi : Inc l) : (cutF l (run l).2).2.2 = [] ∧ (run (cutF l (run l).2).1).2 = (cutF l (run l).2).2.1 := by
  have e : (run l).2 = faultsOf (trace (tabs tab0 l) sy0 (l.zip (marks tab0 l))) := by
    unfold run; rw [items_fold _ _ _ (marks_length _ _)]; rfl
  obtain ⟨h1, h2, h3⟩ := cut_main (tabs tab0 l) l tab0 sy0 sy0 hi (.inr rfl) _ e
  refine ⟨h1, ?_⟩
  rw [← h2]
  generalize (cutF l (run l).2).1 = k at *
  unfold run
  rw [items_fold _ _ _ (marks_length _ _), h3]; rfl
end Go.Proofs.YtdhjibnkebbejaaDoor.Rs
