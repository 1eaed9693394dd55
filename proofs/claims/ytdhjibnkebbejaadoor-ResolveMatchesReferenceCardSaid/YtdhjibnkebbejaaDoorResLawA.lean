/-
  What a further item does to the symbols of a source without faults, in plain Lean.
-/
import Derived.Test.YtdhjibnkebbejaaDoorResPlain
namespace Go.Proofs.YtdhjibnkebbejaaDoor.Rs
set_option linter.unusedVariables false

/-! Appending an item. -/
def Ext (t t' : Tab) : Prop := ∀ g, t g <+: t' g
theorem Ext.refl (t : Tab) : Ext t t := fun g => List.prefix_rfl
theorem Ext.trans {a b c : Tab} (h : Ext a b) (h' : Ext b c) : Ext a c := fun g => (h g).trans (h' g)
theorem ext_put (t : Tab) (x : Item) : Ext t (put t x) := by
  intro g
  unfold put
  split
  · unfold Tab.add; split
    · exact List.prefix_append ..
    · exact List.prefix_rfl
  · exact List.prefix_rfl
theorem ext_tabs (t : Tab) (l : List Item) : Ext t (tabs t l) := by
  induction l generalizing t with
  | nil => exact Ext.refl t
  | cons x l ih => exact (ext_put t x).trans (ih _)
theorem find_ext {t t' : Tab} (h : Ext t t') {g : Nat} {x : Bytes} {i : Nat} (hf : find t g x = some i) : find t' g x = some i := by
  obtain ⟨r, hr⟩ := h g
  unfold find at *
  rw [← hr, List.findIdx?_append, hf]; rfl
theorem has_ext {t t' : Tab} (h : Ext t t') {g : Nat} {x : Bytes} (hf : has t g x = true) : has t' g x = true ∧ ix t' g x = ix t g x := by
  unfold has at *
  obtain ⟨i, hi⟩ := Option.isSome_iff_exists.1 hf
  have h2 := find_ext h hi
  unfold ix
  rw [h2, hi]; exact ⟨rfl, rfl⟩
theorem haso_ext {t t' : Tab} (h : Ext t t') {g : Nat} {x : Bytes} (hf : haso t g x = true) : haso t' g x = true ∧ ixo t' g x = ixo t g x := by
  unfold haso ixo at *
  by_cases hx : x = []
  · simp [hx]
  · simp only [hx, decide_false, Bool.false_or, if_false] at *
    exact has_ext h hf
theorem and_split {a b : Bool} (h : (a && b) = true) : a = true ∧ b = true := by simpa using h
theorem unit_ext {t t' : Tab} (h : Ext t t') {x : Item} (hk : unitOk t x = true) : unitOk t' x = true ∧ unitOf t' x = unitOf t x := by
  unfold unitOk unitOf at *
  by_cases hu : x.unit = []
  · simp only [hu, if_true] at *
    obtain ⟨h1, h2⟩ := has_ext h hk
    rw [h1, h2]; exact ⟨rfl, rfl⟩
  · simp only [hu, if_false] at *
    obtain ⟨h1, h2⟩ := has_ext h hk
    rw [h1, h2]; exact ⟨rfl, rfl⟩
theorem role_ext {t t' : Tab} (h : Ext t t') {x : Bytes} (hk : haso t 2 x = true) : (if x = [] then (-1 : Int) else ix t' 2 x) = if x = [] then -1 else ix t 2 x := (haso_ext h hk).2
theorem act_ext {t t' : Tab} (h : Ext t t') {x : Item} (hk : actOk t x = true) : actOk t' x = true ∧ actOf t' x = actOf t x := by
  unfold actOk actOf at *
  obtain ⟨k1, k2⟩ := and_split hk
  have e1 := haso_ext h k1
  rw [role_ext h k1, e1.1]
  by_cases hg : gives x = true
  · simp only [hg, if_true] at *
    obtain ⟨k3, k4⟩ := and_split k2
    obtain ⟨a1, a2⟩ := has_ext h k3
    obtain ⟨b1, b2⟩ := has_ext h k4
    rw [a1, a2, b1, b2]; exact ⟨rfl, rfl⟩
  · have hg' : gives x = false := by simpa using hg
    simp only [hg', if_false, Bool.false_eq_true] at *
    obtain ⟨k3, k4⟩ := and_split k2
    obtain ⟨a1, a2⟩ := haso_ext h k3
    obtain ⟨b1, b2⟩ := haso_ext h k4
    rw [a1, a2, b1]
    refine ⟨rfl, ?_⟩
    by_cases hu : x.unit = []
    · simp only [hu, if_true]
    · simp only [hu, if_false]
      rw [ixo, ixo, if_neg hu, if_neg hu] at b2
      rw [b2]
theorem conds_ext {t t' : Tab} (h : Ext t t') (l : List Named) (hk : (l.all fun c => has t 5 c.name) = true) : (l.all fun c => has t' 5 c.name) = true ∧ l.map (condOf t') = l.map (condOf t) := by
  induction l with
  | nil => exact ⟨rfl, rfl⟩
  | cons c l ih =>
    rw [List.all_cons] at hk
    obtain ⟨k1, k2⟩ := and_split hk
    obtain ⟨a1, a2⟩ := has_ext h k1
    obtain ⟨b1, b2⟩ := ih k2
    rw [List.all_cons, a1, b1, List.map_cons, List.map_cons, b2]
    refine ⟨rfl, ?_⟩
    unfold condOf; rw [a2]
theorem clause_ext {t t' : Tab} (h : Ext t t') {x : Item} (hk : clauseOk t x = true) : clauseOk t' x = true ∧ clauseOf t' x = clauseOf t x := by
  unfold clauseOk at *
  obtain ⟨hk, k9⟩ := and_split hk
  obtain ⟨hk, k8⟩ := and_split hk
  obtain ⟨hk, k7⟩ := and_split hk
  obtain ⟨hk, k6⟩ := and_split hk
  obtain ⟨hk, k5⟩ := and_split hk
  obtain ⟨hk, k4⟩ := and_split hk
  obtain ⟨a5, b5⟩ := has_ext h k5
  obtain ⟨a6, b6⟩ := conds_ext h _ k6
  obtain ⟨a7, b7⟩ := haso_ext h k7
  obtain ⟨a8, b8⟩ := haso_ext h k8
  have h4 : (decide (x.kind = 12) || has t' 2 x.of_) = true ∧ (if x.kind = 12 then (-1 : Int) else ix t' 2 x.of_) = if x.kind = 12 then -1 else ix t 2 x.of_ := by
    by_cases h12 : x.kind = 12
    · simp [h12]
    · simp only [h12, decide_false, Bool.false_or, if_false] at *
      exact has_ext h k4
  have h9 : (decide (x.unit = []) || has t' 3 x.unit && has t' 2 x.to_) = true ∧ ixo t' 3 x.unit = ixo t 3 x.unit ∧ (if x.unit = [] then (-1 : Int) else ix t' 2 x.to_) = if x.unit = [] then -1 else ix t 2 x.to_ := by
    by_cases hu : x.unit = []
    · simp [hu, ixo]
    · simp only [hu, decide_false, Bool.false_or, if_false, ixo] at *
      obtain ⟨c1, c2⟩ := and_split k9
      obtain ⟨p1, p2⟩ := has_ext h c1
      obtain ⟨q1, q2⟩ := has_ext h c2
      rw [p1, q1]; exact ⟨rfl, p2, q2⟩
  refine ⟨?_, ?_⟩
  · rw [hk, h4.1, a5, a6, a7, a8, h9.1]; rfl
  · unfold clauseOf; rw [h4.2, b5, b6, b7, b8, h9.2.1, h9.2.2]
theorem errz8 {b : Bool} (h : (if b then (0 : Int) else 8) = 0) : b = true := by
  cases b
  · simp at h
  · rfl
theorem item_ext {t t' : Tab} (h : Ext t t') (s : Sy) (x : Item) (tw mb : Bool) (h0 : (item t s x tw mb).2 = 0) : item t' s x tw mb = item t s x tw mb := by
  unfold item at *
  by_cases h4 : x.kind = 4
  · simp only [if_pos h4]
  rw [if_neg h4] at h0 ⊢; rw [if_neg h4]
  by_cases h5 : x.kind = 5
  · simp only [if_pos h5]
  rw [if_neg h5] at h0 ⊢; rw [if_neg h5]
  by_cases hg : group x.kind = 0
  · simp only [if_pos hg]
  rw [if_neg hg] at h0 ⊢; rw [if_neg hg]
  by_cases htw : tw = true
  · simp only [if_pos htw]
  rw [if_neg htw] at h0 ⊢; rw [if_neg htw]
  by_cases hm : (!mb) = true
  · simp only [if_pos hm]
  rw [if_neg hm] at h0 ⊢; rw [if_neg hm]
  by_cases h1 : x.kind = 1
  · simp only [if_pos h1]
  rw [if_neg h1] at h0 ⊢; rw [if_neg h1]
  by_cases h2 : x.kind = 2
  · rw [if_pos h2] at h0 ⊢; rw [if_pos h2]
    obtain ⟨a, b⟩ := has_ext h (errz8 h0)
    rw [a, b, errz8 h0]
  rw [if_neg h2] at h0 ⊢; rw [if_neg h2]
  by_cases h3 : x.kind = 3
  · rw [if_pos h3] at h0 ⊢; rw [if_pos h3]
    obtain ⟨a, b⟩ := unit_ext h (errz8 h0)
    rw [a, b, errz8 h0]
  rw [if_neg h3] at h0 ⊢; rw [if_neg h3]
  by_cases h8 : x.kind = 8
  · rw [if_pos h8] at h0 ⊢; rw [if_pos h8]
    obtain ⟨a, b⟩ := act_ext h (errz8 h0)
    rw [a, b, errz8 h0]
  rw [if_neg h8] at h0 ⊢; rw [if_neg h8]
  obtain ⟨a, b⟩ := clause_ext h (errz8 h0)
  rw [a, b, errz8 h0]
/-- Faults stay. -/
theorem items_pre (t : Tab) (l : List Item) (ms : List (Bool × Bool)) (s : Sy) (f : List Fault) : f <+: (items t s f l ms).2 := by
  induction l generalizing ms s f with
  | nil => unfold items; exact List.prefix_rfl
  | cons x l ih =>
    cases ms with
    | nil => unfold items; exact List.prefix_rfl
    | cons m ms =>
      unfold items
      refine List.IsPrefix.trans ?_ (ih ms _ _)
      split
      · exact List.prefix_rfl
      · exact List.prefix_append ..
theorem items_step (t : Tab) (x : Item) (l : List Item) (m : Bool × Bool) (ms : List (Bool × Bool)) (s : Sy) (f : List Fault) : items t s f (x :: l) (m :: ms) = items t (item t s x m.1 m.2).1 (if (item t s x m.1 m.2).2 = 0 then f else f ++ [⟨(item t s x m.1 m.2).2, x.pos⟩]) l ms := rfl
theorem items_head {t : Tab} {x : Item} {l : List Item} {m : Bool × Bool} {ms : List (Bool × Bool)} {s : Sy} (h : (items t s [] (x :: l) (m :: ms)).2 = []) : (item t s x m.1 m.2).2 = 0 := by
  rw [items_step] at h
  by_cases h0 : (item t s x m.1 m.2).2 = 0
  · exact h0
  · rw [if_neg h0] at h
    have := items_pre t l ms (item t s x m.1 m.2).1 ([] ++ [⟨(item t s x m.1 m.2).2, x.pos⟩])
    rw [h] at this
    simp at this
theorem items_cons {t : Tab} {x : Item} {l : List Item} {m : Bool × Bool} {ms : List (Bool × Bool)} {s : Sy} (h0 : (item t s x m.1 m.2).2 = 0) : items t s [] (x :: l) (m :: ms) = items t (item t s x m.1 m.2).1 [] l ms := by
  rw [items_step, if_pos h0]
theorem items_ext {t t' : Tab} (h : Ext t t') (l : List Item) (ms : List (Bool × Bool)) (s : Sy) (h0 : (items t s [] l ms).2 = []) : items t' s [] l ms = items t s [] l ms := by
  induction l generalizing ms s with
  | nil => unfold items; rfl
  | cons x l ih =>
    cases ms with
    | nil => unfold items; rfl
    | cons m ms =>
      have hx := items_head h0
      have hx' := item_ext h s x m.1 m.2 hx
      rw [items_cons hx] at h0 ⊢
      rw [items_cons (by rw [hx']; exact hx), hx']
      exact ih ms _ h0
theorem marks_length (t : Tab) (l : List Item) : (marks t l).length = l.length := by
  induction l generalizing t with
  | nil => rfl
  | cons x l ih => simp [marks, ih]
theorem marks_append (t : Tab) (l : List Item) (x : Item) : marks t (l ++ [x]) = marks t l ++ [(twice (tabs t l) x, member (tabs t l) x)] := by
  induction l generalizing t with
  | nil => rfl
  | cons y l ih => simp only [List.cons_append, marks, ih]; rfl
theorem items_snoc (t : Tab) (l : List Item) (x : Item) (ms : List (Bool × Bool)) (m : Bool × Bool) (hl : ms.length = l.length) (s : Sy) (f : List Fault) :
    items t s f (l ++ [x]) (ms ++ [m]) = ((item t (items t s f l ms).1 x m.1 m.2).1, if (item t (items t s f l ms).1 x m.1 m.2).2 = 0 then (items t s f l ms).2 else (items t s f l ms).2 ++ [⟨(item t (items t s f l ms).1 x m.1 m.2).2, x.pos⟩]) := by
  induction l generalizing ms s f with
  | nil =>
    obtain rfl : ms = [] := List.eq_nil_of_length_eq_zero hl
    simp only [List.nil_append, items]
    rfl
  | cons y l ih =>
    cases ms with
    | nil => simp at hl
    | cons n ms =>
      simp only [List.cons_append, items]
      rw [ih ms (by simpa using hl)]
      rfl
def total (s : Sy) : Nat := s.parties.length + s.roles.length + s.units.length + s.acts.length + s.clauses.length
/-- The tables of the first symbols are beginnings of those of the second ones. -/
def Pre (a b : Sy) : Prop := a.parties <+: b.parties ∧ a.roles <+: b.roles ∧ a.units <+: b.units ∧ a.acts <+: b.acts ∧ a.clauses <+: b.clauses
theorem item_more (t : Tab) (s : Sy) (x : Item) (tw mb : Bool) (h0 : (item t s x tw mb).2 = 0) : Pre s (item t s x tw mb).1 ∧ total (item t s x tw mb).1 = total s + if group x.kind = 0 then 0 else 1 := by
  have hr : Pre s s := ⟨List.prefix_rfl, List.prefix_rfl, List.prefix_rfl, List.prefix_rfl, List.prefix_rfl⟩
  unfold item at *
  by_cases h4 : x.kind = 4
  · rw [if_pos h4]; exact ⟨hr, by rw [h4]; rfl⟩
  rw [if_neg h4] at h0 ⊢
  by_cases h5 : x.kind = 5
  · rw [if_pos h5]
    have hg : group x.kind = 0 := by rw [h5]; rfl
    rw [if_pos hg]
    unfold holiday
    split
    · exact ⟨hr, rfl⟩
    · exact ⟨hr, rfl⟩
  rw [if_neg h5] at h0 ⊢
  by_cases hg : group x.kind = 0
  · rw [if_pos hg] at h0; simp at h0
  rw [if_neg hg] at h0 ⊢
  by_cases htw : tw = true
  · rw [if_pos htw] at h0; simp at h0
  rw [if_neg htw] at h0 ⊢
  by_cases hm : (!mb) = true
  · rw [if_pos hm] at h0; simp at h0
  rw [if_neg hm] at h0 ⊢
  rw [if_neg hg]
  unfold total
  by_cases h1 : x.kind = 1
  · rw [if_pos h1]; exact ⟨⟨List.prefix_append .., List.prefix_rfl, List.prefix_rfl, List.prefix_rfl, List.prefix_rfl⟩, by simp only [List.length_append, List.length_cons, List.length_nil]; omega⟩
  rw [if_neg h1]
  by_cases h2 : x.kind = 2
  · rw [if_pos h2]; exact ⟨⟨List.prefix_rfl, List.prefix_append .., List.prefix_rfl, List.prefix_rfl, List.prefix_rfl⟩, by simp only [List.length_append, List.length_cons, List.length_nil]; omega⟩
  rw [if_neg h2]
  by_cases h3 : x.kind = 3
  · rw [if_pos h3]; exact ⟨⟨List.prefix_rfl, List.prefix_rfl, List.prefix_append .., List.prefix_rfl, List.prefix_rfl⟩, by simp only [List.length_append, List.length_cons, List.length_nil]; omega⟩
  rw [if_neg h3]
  by_cases h8 : x.kind = 8
  · rw [if_pos h8]; exact ⟨⟨List.prefix_rfl, List.prefix_rfl, List.prefix_rfl, List.prefix_append .., List.prefix_rfl⟩, by simp only [List.length_append, List.length_cons, List.length_nil]; omega⟩
  rw [if_neg h8]
  exact ⟨⟨List.prefix_rfl, List.prefix_rfl, List.prefix_rfl, List.prefix_rfl, List.prefix_append ..⟩, by simp only [List.length_append, List.length_cons, List.length_nil]; omega⟩
theorem run_appends (l : List Item) (x : Item) (h1 : (run l).2 = []) (h2 : (run (l ++ [x])).2 = []) : Pre (run l).1 (run (l ++ [x])).1 ∧ total (run (l ++ [x])).1 = total (run l).1 + if group x.kind = 0 then 0 else 1 := by
  have ht : tabs tab0 (l ++ [x]) = put (tabs tab0 l) x := by unfold tabs; rw [List.foldl_append]; rfl
  have he : Ext (tabs tab0 l) (tabs tab0 (l ++ [x])) := by rw [ht]; exact ext_put _ _
  have hi := items_ext he l (marks tab0 l) sy0 h1
  unfold run at *
  rw [marks_append, items_snoc _ _ _ _ _ (marks_length _ _), hi] at h2 ⊢
  dsimp only at h2 ⊢
  have h0 : (item (tabs tab0 (l ++ [x])) (items (tabs tab0 l) sy0 [] l (marks tab0 l)).1 x (twice (tabs tab0 l) x) (member (tabs tab0 l) x)).2 = 0 := by
    by_cases hz : (item (tabs tab0 (l ++ [x])) (items (tabs tab0 l) sy0 [] l (marks tab0 l)).1 x (twice (tabs tab0 l) x) (member (tabs tab0 l) x)).2 = 0
    · exact hz
    · rw [if_neg hz, h1] at h2; simp at h2
  exact item_more _ _ _ _ _ h0
end Go.Proofs.YtdhjibnkebbejaaDoor.Rs
