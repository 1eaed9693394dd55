/-
  The symbols of a source without faults, by its items, in plain Lean.
-/
import Derived.Test.YtdhjibnkebbejaaDoorResLawF
namespace Go.Proofs.YtdhjibnkebbejaaDoor.Rs
set_option linter.unusedVariables false
set_option linter.unusedSimpArgs false

/-! The symbols of a source without faults, by its items. -/
structure Fine (T : Tab) (x : Item) : Prop where
  role : group x.kind = 2 → has T 1 x.of_ = true
  unit : group x.kind = 3 → unitOk T x = true
  act : group x.kind = 4 → actOk T x = true
  clause : group x.kind = 5 → clauseOk T x = true
  days : x.kind = 5 → (x.dates.any fun c => (number c).isNone) = false
  other : group x.kind = 0 → x.kind = 4 ∨ x.kind = 5
def only (g : Nat) (x : Item) {α : Type} (a : α) : List α := if group x.kind = g then [a] else []
def addI (T : Tab) (s : Sy) (x : Item) : Sy :=
  { weekend := if x.kind = 4 then orDays s.weekend x.days else s.weekend
    hol := if x.kind = 5 then (x.dates.filterMap number).foldl hput s.hol else s.hol
    parties := s.parties ++ only 1 x x.name
    roles := s.roles ++ only 2 x (x.name, ix T 1 x.of_)
    units := s.units ++ only 3 x (unitOf T x)
    acts := s.acts ++ only 4 x ⟨x.name, x.pos, actOf T x⟩
    clauses := s.clauses ++ only 5 x ⟨x.name, x.pos, x.within, x.grace, clauseOf T x⟩ }
theorem item_fine (T t : Tab) (s : Sy) (x : Item) (h0 : (item T s x (twice t x) (member t x)).2 = 0) : (item T s x (twice t x) (member t x)).1 = addI T s x ∧ Fine T x ∧ (group x.kind ≠ 0 → member t x = true) := by
  unfold item at *
  by_cases h4 : x.kind = 4
  · have e : group x.kind = 0 := by rw [h4]; rfl
    rw [if_pos h4]
    refine ⟨?_, ⟨fun h => ?_, fun h => ?_, fun h => ?_, fun h => ?_, fun h => ?_, fun _ => .inl h4⟩, fun h => absurd e h⟩
    · unfold addI only; simp only [e, if_pos h4, if_neg (show ¬ x.kind = 5 by rw [h4]; decide)]; simp
    all_goals (first | (rw [e] at h; exact absurd h (by decide)) | (rw [h4] at h; exact absurd h (by decide)))
  rw [if_neg h4] at h0 ⊢
  by_cases h5 : x.kind = 5
  · have e : group x.kind = 0 := by rw [h5]; rfl
    rw [if_pos h5] at h0 ⊢
    unfold holiday at *
    by_cases hn : (x.dates.any fun c => (number c).isNone) = true
    · rw [if_pos hn] at h0; exact absurd h0 (by simp)
    · rw [if_neg hn]
      refine ⟨?_, ⟨fun h => ?_, fun h => ?_, fun h => ?_, fun h => ?_, fun h => by simpa using hn, fun _ => .inr h5⟩, fun h => absurd e h⟩
      · unfold addI only; simp only [e, if_pos h5, if_neg h4]; simp
      all_goals (rw [e] at h; exact absurd h (by decide))
  rw [if_neg h5] at h0 ⊢
  by_cases hg : group x.kind = 0
  · rw [if_pos hg] at h0; exact absurd h0 (by simp)
  rw [if_neg hg] at h0 ⊢
  by_cases htw : twice t x = true
  · rw [if_pos htw] at h0; exact absurd h0 (by simp)
  rw [if_neg htw] at h0 ⊢
  by_cases hm : (!member t x) = true
  · rw [if_pos hm] at h0; exact absurd h0 (by simp)
  rw [if_neg hm] at h0 ⊢
  have hmm : member t x = true := by simpa using hm
  by_cases h1 : x.kind = 1
  · have e : group x.kind = 1 := by rw [h1]; rfl
    rw [if_pos h1] at h0 ⊢
    refine ⟨?_, ⟨fun h => ?_, fun h => ?_, fun h => ?_, fun h => ?_, fun h => absurd h h5, fun h => absurd h hg⟩, fun _ => hmm⟩
    · unfold addI only; simp only [e, if_neg h5, if_neg h4]; simp
    all_goals (rw [e] at h; exact absurd h (by decide))
  rw [if_neg h1] at h0 ⊢
  by_cases h2 : x.kind = 2
  · have e : group x.kind = 2 := by rw [h2]; rfl
    rw [if_pos h2] at h0 ⊢
    refine ⟨?_, ⟨fun h => errz8 h0, fun h => ?_, fun h => ?_, fun h => ?_, fun h => absurd h h5, fun h => absurd h hg⟩, fun _ => hmm⟩
    · unfold addI only; simp only [e, if_neg h5, if_neg h4]; simp
    all_goals (rw [e] at h; exact absurd h (by decide))
  rw [if_neg h2] at h0 ⊢
  by_cases h3 : x.kind = 3
  · have e : group x.kind = 3 := by rw [h3]; rfl
    rw [if_pos h3] at h0 ⊢
    refine ⟨?_, ⟨fun h => ?_, fun h => errz8 h0, fun h => ?_, fun h => ?_, fun h => absurd h h5, fun h => absurd h hg⟩, fun _ => hmm⟩
    · unfold addI only; simp only [e, if_neg h5, if_neg h4]; simp
    all_goals (rw [e] at h; exact absurd h (by decide))
  rw [if_neg h3] at h0 ⊢
  by_cases h8 : x.kind = 8
  · have e : group x.kind = 4 := by rw [h8]; rfl
    rw [if_pos h8] at h0 ⊢
    refine ⟨?_, ⟨fun h => ?_, fun h => ?_, fun h => errz8 h0, fun h => ?_, fun h => absurd h h5, fun h => absurd h hg⟩, fun _ => hmm⟩
    · unfold addI only; simp only [e, if_neg h5, if_neg h4]; simp
    all_goals (rw [e] at h; exact absurd h (by decide))
  rw [if_neg h8] at h0 ⊢
  have e : group x.kind = 5 := group_kind h4 h5 h1 h2 h3 h8 hg
  refine ⟨?_, ⟨fun h => ?_, fun h => ?_, fun h => ?_, fun h => errz8 h0, fun h => absurd h h5, fun h => absurd h hg⟩, fun _ => hmm⟩
  · unfold addI only; simp [e, h4, h5]
  all_goals (rw [e] at h; exact absurd h (by decide))
theorem items_fine (T : Tab) (l : List Item) : ∀ (t : Tab) (s : Sy), (items T s [] l (marks t l)).2 = [] → (items T s [] l (marks t l)).1 = l.foldl (addI T) s ∧ (∀ x ∈ l, Fine T x) ∧ (∀ g, 0 < g → tabs t l g = t g ++ (l.filter fun x => group x.kind == g).map Item.name) := by
  induction l with
  | nil => intro t s _; exact ⟨rfl, fun x h => absurd h (List.not_mem_nil), fun g _ => by simp [tabs]⟩
  | cons x l ih =>
    intro t s h
    have hm : marks t (x :: l) = (twice t x, member t x) :: marks (put t x) l := rfl
    rw [hm] at h ⊢
    have h0 := items_head h
    dsimp only at h0
    rw [items_cons h0] at h ⊢
    dsimp only at h ⊢
    obtain ⟨e1, e2, e3⟩ := item_fine T t s x h0
    obtain ⟨i1, i2, i3⟩ := ih _ _ h
    refine ⟨by rw [i1, e1]; rfl, fun y hy => ?_, fun g hg => ?_⟩
    · rcases List.mem_cons.1 hy with rfl | hy
      · exact e2
      · exact i2 y hy
    · show tabs (put t x) l g = _
      rw [i3 g hg]
      by_cases hx : group x.kind = g
      · have : member t x = true := e3 (by omega)
        unfold put; rw [if_pos this]
        unfold Tab.add; rw [if_pos hx.symm, List.filter_cons]
        simp [hx]
      · rw [put_other hx, List.filter_cons]
        simp [hx]
theorem flat_only {α : Type} (g : Nat) (f : Item → α) (l : List Item) : (l.flatMap fun x => only g x (f x)) = (l.filter fun x => group x.kind == g).map f := by
  induction l with
  | nil => rfl
  | cons x l ih =>
    rw [List.flatMap_cons, ih, List.filter_cons]
    unfold only
    by_cases h : group x.kind = g <;> simp [h]
theorem fold_add (T : Tab) (l : List Item) (s : Sy) : (l.foldl (addI T) s).parties = s.parties ++ (l.filter fun x => group x.kind == 1).map Item.name ∧ (l.foldl (addI T) s).roles = s.roles ++ (l.filter fun x => group x.kind == 2).map (fun x => (x.name, ix T 1 x.of_)) ∧ (l.foldl (addI T) s).units = s.units ++ (l.filter fun x => group x.kind == 3).map (unitOf T) ∧
    (l.foldl (addI T) s).acts = s.acts ++ (l.filter fun x => group x.kind == 4).map (fun x => ⟨x.name, x.pos, actOf T x⟩) ∧ (l.foldl (addI T) s).clauses = s.clauses ++ (l.filter fun x => group x.kind == 5).map (fun x => ⟨x.name, x.pos, x.within, x.grace, clauseOf T x⟩) := by
  simp only [← flat_only]
  induction l generalizing s with
  | nil => simp
  | cons x l ih =>
    obtain ⟨h1, h2, h3, h4, h5⟩ := ih (addI T s x)
    simp only [List.foldl_cons, List.flatMap_cons, h1, h2, h3, h4, h5]
    simp only [addI, List.append_assoc, and_self]
/-- A source without faults. -/
theorem run_fine (l : List Item) (h : (run l).2 = []) : (∀ x ∈ l, Fine (tabs tab0 l) x) ∧ (∀ g, 0 < g → tabs tab0 l g = (l.filter fun x => group x.kind == g).map Item.name) ∧
    (run l).1.parties = (l.filter fun x => group x.kind == 1).map Item.name ∧ (run l).1.roles = (l.filter fun x => group x.kind == 2).map (fun x => (x.name, ix (tabs tab0 l) 1 x.of_)) ∧ (run l).1.units = (l.filter fun x => group x.kind == 3).map (unitOf (tabs tab0 l)) ∧
    (run l).1.acts = (l.filter fun x => group x.kind == 4).map (fun x => ⟨x.name, x.pos, actOf (tabs tab0 l) x⟩) ∧ (run l).1.clauses = (l.filter fun x => group x.kind == 5).map (fun x => ⟨x.name, x.pos, x.within, x.grace, clauseOf (tabs tab0 l) x⟩) := by
  unfold run at *
  obtain ⟨h1, h2, h3⟩ := items_fine (tabs tab0 l) l tab0 sy0 h
  obtain ⟨a1, a2, a3, a4, a5⟩ := fold_add (tabs tab0 l) l sy0
  rw [h1]
  exact ⟨h2, fun g hg => (h3 g hg).trans (List.nil_append _), a1.trans (List.nil_append _), a2.trans (List.nil_append _), a3.trans (List.nil_append _), a4.trans (List.nil_append _), a5.trans (List.nil_append _)⟩
/-- A name that is there stands at its index. -/
theorem ix_at {T : Tab} {g : Nat} {x : Bytes} (h : has T g x = true) : ∃ i : Nat, ix T g x = (i : Int) ∧ (T g)[i]? = some x := by
  unfold has at h
  obtain ⟨i, hi⟩ := Option.isSome_iff_exists.1 h
  refine ⟨i, by unfold ix; rw [hi], ?_⟩
  unfold find at hi
  rw [List.findIdx?_eq_some_iff_getElem] at hi
  obtain ⟨hl, he, _⟩ := hi
  rw [List.getElem?_eq_getElem hl]
  simpa using he
end Go.Proofs.YtdhjibnkebbejaaDoor.Rs
