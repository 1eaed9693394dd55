/-
  What another order of the groups does to the symbols, in plain Lean.
-/
import Derived.Test.YtdhjibnkebbejaaDoorResLawA
namespace Go.Proofs.YtdhjibnkebbejaaDoor.Rs
set_option linter.unusedVariables false
set_option linter.unusedSimpArgs false

/-! Items in another order, those of one group in their order. -/
abbrev Pr3 := Item × (Bool × Bool)
def grp (p : Pr3) : Nat := group p.1.kind
theorem group_lt6 (k : Int) : group k < 6 := by
  unfold group; repeat' split
  all_goals omega
theorem put_other {t : Tab} {x : Item} {g : Nat} (h : group x.kind ≠ g) : put t x g = t g := by
  unfold put
  split
  · unfold Tab.add; rw [if_neg (Ne.symm h)]
  · rfl
theorem mark_same {t t' : Tab} {x : Item} (h : t (group x.kind) = t' (group x.kind)) : twice t x = twice t' x ∧ member t x = member t' x ∧ put t x (group x.kind) = put t' x (group x.kind) := by
  have h1 : twice t x = twice t' x := by unfold twice; rw [h]
  have h2 : member t x = member t' x := by unfold member; rw [h]
  refine ⟨h1, h2, ?_⟩
  unfold put
  rw [h2]
  split
  · unfold Tab.add; rw [if_pos rfl, if_pos rfl, h]
  · exact h
theorem marks_grp (g : Nat) (l : List Item) : ∀ (t t' : Tab), t g = t' g → (l.zip (marks t l)).filter (fun p => grp p == g) = (l.filter fun x => group x.kind == g).zip (marks t' (l.filter fun x => group x.kind == g)) ∧ tabs t l g = tabs t' (l.filter fun x => group x.kind == g) g := by
  induction l with
  | nil => intro t t' h; exact ⟨rfl, h⟩
  | cons x l ih =>
    intro t t' h
    by_cases hx : group x.kind = g
    · subst hx
      obtain ⟨h1, h2, h3⟩ := mark_same h
      obtain ⟨i1, i2⟩ := ih (put t x) (put t' x) h3
      have e : (x :: l).filter (fun y => group y.kind == group x.kind) = x :: l.filter (fun y => group y.kind == group x.kind) := by rw [List.filter_cons]; simp
      rw [e]
      refine ⟨?_, i2⟩
      show ((x, twice t x, member t x) :: l.zip (marks (put t x) l)).filter _ = (x, twice t' x, member t' x) :: _
      rw [List.filter_cons, i1, h1, h2]
      simp [grp]
      rfl
    · obtain ⟨i1, i2⟩ := ih (put t x) t' (by rw [put_other hx]; exact h)
      have e : (x :: l).filter (fun y => group y.kind == g) = l.filter (fun y => group y.kind == g) := by rw [List.filter_cons]; simp [hx]
      rw [e]
      refine ⟨?_, i2⟩
      show ((x, twice t x, member t x) :: l.zip (marks (put t x) l)).filter _ = _
      rw [List.filter_cons, i1]
      simp [grp, hx]
/-- The part of the symbols that the items of a group make. -/
def comp (g : Nat) (s : Sy) : Sy :=
  match g with
  | 0 => { sy0 with weekend := s.weekend, hol := s.hol }
  | 1 => { sy0 with parties := s.parties }
  | 2 => { sy0 with roles := s.roles }
  | 3 => { sy0 with units := s.units }
  | 4 => { sy0 with acts := s.acts }
  | _ => { sy0 with clauses := s.clauses }
theorem comp_all {s s' : Sy} (h : ∀ g, g < 6 → comp g s = comp g s') : s = s' := by
  obtain ⟨a, b, c, d, e, f, i⟩ := s
  obtain ⟨a', b', c', d', e', f', i'⟩ := s'
  have h0 := h 0 (by omega); have h1 := h 1 (by omega); have h2 := h 2 (by omega); have h3 := h 3 (by omega); have h4 := h 4 (by omega); have h5 := h 5 (by omega)
  simp only [comp, sy0, Sy.mk.injEq, true_and, and_true] at h0 h1 h2 h3 h4 h5
  obtain ⟨rfl, rfl⟩ := h0
  subst h1; subst h2; subst h3; subst h4; subst h5
  rfl
theorem group_kind {k : Int} (h4 : k ≠ 4) (h5 : k ≠ 5) (h1 : k ≠ 1) (h2 : k ≠ 2) (h3 : k ≠ 3) (h8 : k ≠ 8) (h0 : group k ≠ 0) : group k = 5 := by
  unfold group at *
  simp only [h1, h2, h3, h8, if_false] at *
  split
  · rfl
  · rename_i h; rw [if_neg h] at h0; exact absurd rfl h0
/-- An item changes the part of its group alone, and by this part alone. -/
theorem item_comp (t : Tab) (s s' : Sy) (x : Item) (tw mb : Bool) (g : Nat) (hg : g < 6) (h : comp g s = comp g s') :
    (group x.kind = g → comp g (item t s x tw mb).1 = comp g (item t s' x tw mb).1 ∧ (item t s x tw mb).2 = (item t s' x tw mb).2) ∧ (group x.kind ≠ g → comp g (item t s x tw mb).1 = comp g s) := by
  unfold item
  by_cases h4 : x.kind = 4
  · simp only [if_pos h4]
    have e : group x.kind = 0 := by rw [h4]; rfl
    rw [e]
    refine ⟨?_, ?_⟩
    · rintro rfl
      simp only [comp, sy0, Sy.mk.injEq, true_and, and_true] at h ⊢
      rw [h.1]; exact ⟨rfl, h.2⟩
    · intro hne
      match g, hg, hne with
      | 1, _, _ | 2, _, _ | 3, _, _ | 4, _, _ | 5, _, _ => rfl
      | 0, _, hne => exact absurd rfl hne
  simp only [if_neg h4]
  by_cases h5 : x.kind = 5
  · simp only [if_pos h5]
    have e : group x.kind = 0 := by rw [h5]; rfl
    rw [e]
    refine ⟨?_, ?_⟩
    · rintro rfl
      have h' := h
      simp only [comp, sy0, Sy.mk.injEq, true_and, and_true] at h'
      unfold holiday
      split
      · exact ⟨h, rfl⟩
      · simp only [comp, sy0, h'.1, h'.2, and_self]
    · intro hne
      have : ∀ g, g < 6 → 0 ≠ g → comp g (holiday s x).1 = comp g s := by
        intro g hg hne
        unfold holiday
        split
        · rfl
        · match g, hg, hne with
          | 1, _, _ | 2, _, _ | 3, _, _ | 4, _, _ | 5, _, _ => rfl
          | 0, _, hne => exact absurd rfl hne
      exact this g hg hne
  simp only [if_neg h5]
  by_cases h0 : group x.kind = 0
  · simp only [if_pos h0]; exact ⟨fun _ => ⟨h, trivial⟩, fun _ => trivial⟩
  simp only [if_neg h0]
  by_cases htw : tw = true
  · simp only [if_pos htw]; exact ⟨fun _ => ⟨h, trivial⟩, fun _ => trivial⟩
  simp only [if_neg htw]
  by_cases hm : (!mb) = true
  · simp only [if_pos hm]; exact ⟨fun _ => ⟨h, trivial⟩, fun _ => trivial⟩
  simp only [if_neg hm]
  by_cases h1 : x.kind = 1
  · simp only [if_pos h1]
    have e : group x.kind = 1 := by rw [h1]; rfl
    rw [e]
    refine ⟨?_, ?_⟩
    · rintro rfl
      simp only [comp, sy0, Sy.mk.injEq, true_and, and_true] at h ⊢
      rw [h]
    · intro hne
      match g, hg, hne with
      | 0, _, _ | 2, _, _ | 3, _, _ | 4, _, _ | 5, _, _ => rfl
      | 1, _, hne => exact absurd rfl hne
  simp only [if_neg h1]
  by_cases h2 : x.kind = 2
  · simp only [if_pos h2]
    have e : group x.kind = 2 := by rw [h2]; rfl
    rw [e]
    refine ⟨?_, ?_⟩
    · rintro rfl
      simp only [comp, sy0, Sy.mk.injEq, true_and, and_true] at h ⊢
      rw [h]
    · intro hne
      match g, hg, hne with
      | 0, _, _ | 1, _, _ | 3, _, _ | 4, _, _ | 5, _, _ => rfl
      | 2, _, hne => exact absurd rfl hne
  simp only [if_neg h2]
  by_cases h3 : x.kind = 3
  · simp only [if_pos h3]
    have e : group x.kind = 3 := by rw [h3]; rfl
    rw [e]
    refine ⟨?_, ?_⟩
    · rintro rfl
      simp only [comp, sy0, Sy.mk.injEq, true_and, and_true] at h ⊢
      rw [h]
    · intro hne
      match g, hg, hne with
      | 0, _, _ | 1, _, _ | 2, _, _ | 4, _, _ | 5, _, _ => rfl
      | 3, _, hne => exact absurd rfl hne
  simp only [if_neg h3]
  by_cases h8 : x.kind = 8
  · simp only [if_pos h8]
    have e : group x.kind = 4 := by rw [h8]; rfl
    rw [e]
    refine ⟨?_, ?_⟩
    · rintro rfl
      simp only [comp, sy0, Sy.mk.injEq, true_and, and_true] at h ⊢
      rw [h]
    · intro hne
      match g, hg, hne with
      | 0, _, _ | 1, _, _ | 2, _, _ | 3, _, _ | 5, _, _ => rfl
      | 4, _, hne => exact absurd rfl hne
  simp only [if_neg h8]
  have e : group x.kind = 5 := group_kind h4 h5 h1 h2 h3 h8 h0
  rw [e]
  refine ⟨?_, ?_⟩
  · rintro rfl
    simp only [comp, sy0, Sy.mk.injEq, true_and, and_true] at h ⊢
    rw [h]
  · intro hne
    match g, hg, hne with
    | 0, _, _ | 1, _, _ | 2, _, _ | 3, _, _ | 4, _, _ => rfl
    | 5, _, hne => exact absurd rfl hne
/-- The items one after the other: their group, their error, their offset. -/
def trace (t : Tab) : Sy → List Pr3 → List (Nat × Int × Int)
  | _, [] => []
  | s, p :: l => (grp p, (item t s p.1 p.2.1 p.2.2).2, p.1.pos) :: trace t (item t s p.1 p.2.1 p.2.2).1 l
def fold (t : Tab) (s : Sy) (l : List Pr3) : Sy := l.foldl (fun s p => (item t s p.1 p.2.1 p.2.2).1) s
def faultsOf (l : List (Nat × Int × Int)) : List Fault := l.filterMap fun p => if p.2.1 = 0 then none else some ⟨p.2.1, p.2.2⟩
theorem items_fold (t : Tab) (l : List Item) (ms : List (Bool × Bool)) (hl : ms.length = l.length) (s : Sy) (f : List Fault) : items t s f l ms = (fold t s (l.zip ms), f ++ faultsOf (trace t s (l.zip ms))) := by
  induction l generalizing ms s f with
  | nil => simp [items, fold, trace, faultsOf]
  | cons x l ih =>
    cases ms with
    | nil => simp at hl
    | cons m ms =>
      rw [items_step, ih ms (by simpa using hl)]
      refine Prod.ext rfl ?_
      show _ ++ _ = f ++ faultsOf ((_, (item t s x m.1 m.2).2, x.pos) :: trace t (item t s x m.1 m.2).1 (l.zip ms))
      unfold faultsOf
      rw [List.filterMap_cons]
      by_cases h0 : (item t s x m.1 m.2).2 = 0
      · simp only [if_pos h0]
      · simp only [if_neg h0, List.append_assoc, List.singleton_append]
theorem fold_grp (t : Tab) (g : Nat) (hg : g < 6) (l : List Pr3) : ∀ s s' : Sy, comp g s = comp g s' → comp g (fold t s l) = comp g (fold t s' (l.filter fun p => grp p == g)) ∧ (trace t s l).filter (fun p => p.1 == g) = trace t s' (l.filter fun p => grp p == g) := by
  induction l with
  | nil => intro s s' h; exact ⟨h, rfl⟩
  | cons p l ih =>
    intro s s' h
    obtain ⟨k1, k2⟩ := item_comp t s s' p.1 p.2.1 p.2.2 g hg h
    by_cases hp : grp p = g
    · obtain ⟨j1, j2⟩ := k1 hp
      obtain ⟨i1, i2⟩ := ih _ _ j1
      have e : (p :: l).filter (fun p => grp p == g) = p :: l.filter (fun p => grp p == g) := by rw [List.filter_cons]; simp [hp]
      rw [e]
      refine ⟨i1, ?_⟩
      show ((grp p, (item t s p.1 p.2.1 p.2.2).2, p.1.pos) :: trace t (item t s p.1 p.2.1 p.2.2).1 l).filter _ = (grp p, (item t s' p.1 p.2.1 p.2.2).2, p.1.pos) :: _
      rw [List.filter_cons, i2, j2]
      simp [hp]
    · have j1 := (k2 hp).trans h
      obtain ⟨i1, i2⟩ := ih _ _ j1
      have e : (p :: l).filter (fun p => grp p == g) = l.filter (fun p => grp p == g) := by rw [List.filter_cons]; simp [hp]
      rw [e]
      refine ⟨i1, ?_⟩
      show ((grp p, (item t s p.1 p.2.1 p.2.2).2, p.1.pos) :: trace t (item t s p.1 p.2.1 p.2.2).1 l).filter _ = _
      rw [List.filter_cons, i2]
      simp [hp]
theorem trace_lt (t : Tab) (s : Sy) (l : List Pr3) : ∀ p ∈ trace t s l, p.1 < 6 := by
  induction l generalizing s with
  | nil => intro p hp; exact absurd hp (List.not_mem_nil)
  | cons a l ih =>
    intro p hp
    rcases List.mem_cons.1 hp with rfl | hp
    · exact group_lt6 _
    · exact ih _ p hp
theorem perm_of_grp {l l' : List (Nat × Int × Int)} (h1 : ∀ p ∈ l, p.1 < 6) (h2 : ∀ p ∈ l', p.1 < 6) (h : ∀ g, g < 6 → l.filter (fun p => p.1 == g) = l'.filter (fun p => p.1 == g)) : l.Perm l' := by
  rw [List.perm_iff_count]
  intro a
  by_cases ha : a.1 < 6
  · have e1 := List.count_filter (l := l) (a := a) (p := fun p => p.1 == a.1) (by simp)
    have e2 := List.count_filter (l := l') (a := a) (p := fun p => p.1 == a.1) (by simp)
    rw [← e1, ← e2, h a.1 ha]
  · rw [List.count_eq_zero_of_not_mem (fun h => ha (h1 a h)), List.count_eq_zero_of_not_mem (fun h => ha (h2 a h))]
theorem run_groups (l l' : List Item) (h : ∀ g, g < 6 → l.filter (fun x => group x.kind == g) = l'.filter (fun x => group x.kind == g)) : (run l).1 = (run l').1 ∧ (run l).2.Perm (run l').2 := by
  have htabs : tabs tab0 l = tabs tab0 l' := by
    funext g
    by_cases hg : g < 6
    · rw [(marks_grp g l tab0 tab0 rfl).2, (marks_grp g l' tab0 tab0 rfl).2, h g hg]
    · have : ∀ (l : List Item) (t : Tab), tabs t l g = t g := by
        intro l
        induction l with
        | nil => intro t; rfl
        | cons x l ih => intro t; show tabs (put t x) l g = _; rw [ih, put_other]; have := group_lt6 x.kind; omega
      rw [this, this]
  have hz : ∀ g, g < 6 → (l.zip (marks tab0 l)).filter (fun p => grp p == g) = (l'.zip (marks tab0 l')).filter (fun p => grp p == g) := by
    intro g hg
    rw [(marks_grp g l tab0 tab0 rfl).1, (marks_grp g l' tab0 tab0 rfl).1, h g hg]
  unfold run
  rw [items_fold _ _ _ (marks_length _ _), items_fold _ _ _ (marks_length _ _), htabs]
  have hf := fun g hg => fold_grp (tabs tab0 l') g hg (l.zip (marks tab0 l)) sy0 sy0 rfl
  have hf' := fun g hg => fold_grp (tabs tab0 l') g hg (l'.zip (marks tab0 l')) sy0 sy0 rfl
  refine ⟨comp_all fun g hg => ?_, ?_⟩
  · rw [(hf g hg).1, (hf' g hg).1, hz g hg]
  · simp only [List.nil_append]
    refine List.Perm.filterMap _ (perm_of_grp (trace_lt _ _ _) (trace_lt _ _ _) fun g hg => ?_)
    rw [(hf g hg).2, (hf' g hg).2, hz g hg]
/-- The items by their groups, from the group c on. -/
def arranged (c : Nat) (l : List Item) : List Item := (List.range 6).flatMap fun g => l.filter fun x => group x.kind == (g + c) % 6
theorem filter_two (l : List Item) (a g : Nat) : (l.filter fun x => group x.kind == a).filter (fun x => group x.kind == g) = if a = g then l.filter (fun x => group x.kind == g) else [] := by
  rw [List.filter_filter]
  by_cases h : a = g
  · subst h; rw [if_pos rfl]; congr 1; funext x; simp
  · rw [if_neg h, List.filter_eq_nil_iff]
    intro x _ hx
    simp only [Bool.and_eq_true, beq_iff_eq] at hx
    exact h (hx.2.symm.trans hx.1)
theorem arranged_filter (c : Nat) (l : List Item) (g : Nat) (hg : g < 6) : l.filter (fun x => group x.kind == g) = (arranged c l).filter (fun x => group x.kind == g) := by
  unfold arranged
  have e : List.range 6 = [0, 1, 2, 3, 4, 5] := rfl
  rw [e]
  simp only [List.flatMap_cons, List.flatMap_nil, List.filter_append, filter_two, List.filter_nil, List.append_nil]
  have hc : c % 6 = 0 ∨ c % 6 = 1 ∨ c % 6 = 2 ∨ c % 6 = 3 ∨ c % 6 = 4 ∨ c % 6 = 5 := by omega
  have hgc : g = 0 ∨ g = 1 ∨ g = 2 ∨ g = 3 ∨ g = 4 ∨ g = 5 := by omega
  have k0 : (0 + c) % 6 = c % 6 := by omega
  have k1 : (1 + c) % 6 = (1 + c % 6) % 6 := by omega
  have k2 : (2 + c) % 6 = (2 + c % 6) % 6 := by omega
  have k3 : (3 + c) % 6 = (3 + c % 6) % 6 := by omega
  have k4 : (4 + c) % 6 = (4 + c % 6) % 6 := by omega
  have k5 : (5 + c) % 6 = (5 + c % 6) % 6 := by omega
  rw [k0, k1, k2, k3, k4, k5]
  rcases hc with h | h | h | h | h | h <;> rw [h] <;> rcases hgc with rfl | rfl | rfl | rfl | rfl | rfl <;> simp
theorem run_arranged (c : Nat) (l : List Item) : (run l).1 = (run (arranged c l)).1 ∧ (run l).2.Perm (run (arranged c l)).2 := run_groups _ _ (arranged_filter c l)
end Go.Proofs.YtdhjibnkebbejaaDoor.Rs
