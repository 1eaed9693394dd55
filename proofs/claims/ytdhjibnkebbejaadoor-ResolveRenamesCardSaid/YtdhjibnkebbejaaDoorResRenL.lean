/-
  What Resolve answers for renamed items, beside what it answers for the items; the names of the symbols are names of items.
-/
import Derived.Test.YtdhjibnkebbejaaDoorResTxt
import Derived.Test.YtdhjibnkebbejaaDoorResRen
import Derived.Test.YtdhjibnkebbejaaDoorResSize
namespace Go.Proofs.YtdhjibnkebbejaaDoor.Rs
set_option linter.unusedVariables false

theorem txt_hol (u : Bytes) (s : Sy) (h : List Int) : txt u { s with hol := h } = { txt u s with hol := h } := rfl
theorem txt_sy0 (u : Bytes) : txt u sy0 = sy0 := rfl
theorem answer_ren (s : Source) (u : Bytes) {sa : Source} {ya : Sy} {fa : List Fault} (h : answer s = (sa, ya, fa)) :
    ∃ sb, answer ⟨s.name, s.frm, s.days, s.items.map (ren u)⟩ = (sb, txt u ya, fa) ∧ sb.name = sa.name ∧ sb.frm = sa.frm ∧ sb.days = sa.days := by
  unfold answer at *
  dsimp only at *
  rw [run_renames]
  by_cases h0 : (Rs.run s.items).2 = []
  · rw [if_pos h0] at h
    rw [if_pos h0]
    obtain ⟨e1, h2⟩ := Prod.mk.inj h
    obtain ⟨e2, e3⟩ := Prod.mk.inj h2
    subst e1 e2 e3
    exact ⟨_, rfl, rfl, rfl, rfl⟩
  · rw [if_neg h0] at h
    rw [if_neg h0]
    obtain ⟨e1, h2⟩ := Prod.mk.inj h
    obtain ⟨e2, e3⟩ := Prod.mk.inj h2
    subst e1 e2 e3
    exact ⟨_, rfl, rfl, rfl, rfl⟩
/-- All names have a property. -/
structure NamesP (P : Bytes → Prop) (s : Sy) : Prop where
  par : ∀ x ∈ s.parties, P x
  rol : ∀ x ∈ s.roles, P x.1
  uni : ∀ x ∈ s.units, P x.name
  act : ∀ x ∈ s.acts, P x.name
  cla : ∀ x ∈ s.clauses, P x.name
theorem all_app {α : Type} {Q : α → Prop} {l : List α} {y : α} (h : ∀ x ∈ l, Q x) (hy : Q y) : ∀ x ∈ l ++ [y], Q x := by
  intro x hx
  rcases List.mem_append.1 hx with hx | hx
  · exact h x hx
  · obtain rfl : x = y := by simpa using hx
    exact hy
theorem unitOf_name (t : Tab) (x : Item) : (unitOf t x).name = x.name := by unfold unitOf; split <;> rfl
theorem item_names (P : Bytes → Prop) (t : Tab) (s : Sy) (x : Item) (tw mb : Bool) (h : NamesP P s) (hx : P x.name) : NamesP P (item t s x tw mb).1 := by
  unfold item holiday
  by_cases h4 : x.kind = 4
  · rw [if_pos h4]; exact ⟨h.par, h.rol, h.uni, h.act, h.cla⟩
  rw [if_neg h4]
  by_cases h5 : x.kind = 5
  · rw [if_pos h5]
    split
    · exact h
    · exact ⟨h.par, h.rol, h.uni, h.act, h.cla⟩
  rw [if_neg h5]
  by_cases hg : group x.kind = 0
  · rw [if_pos hg]; exact h
  rw [if_neg hg]
  by_cases ht : tw = true
  · rw [if_pos ht]; exact h
  rw [if_neg ht]
  by_cases hm : (!mb) = true
  · rw [if_pos hm]; exact h
  rw [if_neg hm]
  by_cases h1 : x.kind = 1
  · rw [if_pos h1]; exact ⟨all_app h.par hx, h.rol, h.uni, h.act, h.cla⟩
  rw [if_neg h1]
  by_cases h2 : x.kind = 2
  · rw [if_pos h2]; exact ⟨h.par, all_app (Q := fun x : Bytes × Int => P x.1) h.rol hx, h.uni, h.act, h.cla⟩
  rw [if_neg h2]
  by_cases h3 : x.kind = 3
  · rw [if_pos h3]; exact ⟨h.par, h.rol, all_app (Q := fun x : Unit_ => P x.name) h.uni (by rw [unitOf_name]; exact hx), h.act, h.cla⟩
  rw [if_neg h3]
  by_cases h8 : x.kind = 8
  · rw [if_pos h8]; exact ⟨h.par, h.rol, h.uni, all_app (Q := fun x : ActSym => P x.name) h.act hx, h.cla⟩
  rw [if_neg h8]
  exact ⟨h.par, h.rol, h.uni, h.act, all_app (Q := fun x : ClauseSym => P x.name) h.cla hx⟩
theorem items_names (P : Bytes → Prop) (t : Tab) (l : List Item) : ∀ (ms : List (Bool × Bool)) (s : Sy) (f : List Fault), NamesP P s → (∀ x ∈ l, P x.name) → NamesP P (items t s f l ms).1 := by
  induction l with
  | nil => intro ms s f h _; unfold items; exact h
  | cons x l ih =>
    intro ms s f h hl
    cases ms with
    | nil => unfold items; exact h
    | cons m ms =>
      rw [items_step]
      exact ih ms _ _ (item_names P t s x m.1 m.2 h (hl x (by simp))) (fun y hy => hl y (by simp [hy]))
theorem names_sy0 (P : Bytes → Prop) : NamesP P sy0 :=
  ⟨fun _ h => absurd h List.not_mem_nil, fun _ h => absurd h List.not_mem_nil, fun _ h => absurd h List.not_mem_nil, fun _ h => absurd h List.not_mem_nil, fun _ h => absurd h List.not_mem_nil⟩
theorem answer_names (P : Bytes → Prop) (s : Source) {sa : Source} {ya : Sy} {fa : List Fault} (h : answer s = (sa, ya, fa)) (hl : ∀ x ∈ s.items, P x.name) : NamesP P ya := by
  have hr : NamesP P (Rs.run s.items).1 := items_names P _ _ _ _ _ (names_sy0 P) hl
  unfold answer at h
  split at h
  · obtain ⟨e1, h2⟩ := Prod.mk.inj h
    obtain ⟨e2, e3⟩ := Prod.mk.inj h2
    subst e1 e2 e3
    exact ⟨hr.par, hr.rol, hr.uni, hr.act, hr.cla⟩
  · obtain ⟨e1, h2⟩ := Prod.mk.inj h
    obtain ⟨e2, e3⟩ := Prod.mk.inj h2
    subst e1 e2 e3
    exact names_sy0 P
theorem answer_total (s : Source) {sa : Source} {ya : Sy} {fa : List Fault} (h : answer s = (sa, ya, fa)) : total ya ≤ s.items.length := by
  have hr := run_total s.items
  unfold answer at h
  split at h
  · obtain ⟨e1, h2⟩ := Prod.mk.inj h
    obtain ⟨e2, e3⟩ := Prod.mk.inj h2
    subst e1 e2 e3
    exact hr
  · obtain ⟨e1, h2⟩ := Prod.mk.inj h
    obtain ⟨e2, e3⟩ := Prod.mk.inj h2
    subst e1 e2 e3
    exact Nat.zero_le _
theorem NamesP.short {s : Sy} (h : NamesP (fun n => n.length ≤ 60) s) : NamesB s :=
  ⟨fun x hx => Nat.le_trans (h.par x hx) (by decide), fun x hx => Nat.le_trans (h.rol x hx) (by decide), fun x hx => Nat.le_trans (h.uni x hx) (by decide), fun x hx => Nat.le_trans (h.act x hx) (by decide), fun x hx => Nat.le_trans (h.cla x hx) (by decide)⟩
theorem ren_ok {x : Item} (t : Bytes) (ht : t.length ≤ 60) (h : ItemOk x) (hb : RenB x) : ItemOk (ren t x) := by
  have hn : ∀ n : Bytes, n.length ≤ 140737488355328 → okS (nm t n) := fun n hn => by
    have := nm_len t n
    unfold okS maxLen; omega
  have h60 : ∀ n : Bytes, n.length ≤ 60 → okS (nm t n) := fun n h => hn n (by omega)
  exact { h with
    name := h60 _ hb.sm.name, of_ := h60 _ hb.sm.of_, act := h60 _ hb.sm.act, by_ := h60 _ hb.sm.by_, til := h60 _ hb.sm.til, unit := h60 _ hb.sm.unit, sum := hn _ hb.sum, give := h60 _ hb.sm.give, to_ := h60 _ hb.sm.to_
    conds := fun c hc => by
      obtain ⟨d, hd, rfl⟩ := List.mem_map.1 hc
      exact ⟨hn _ (hb.cnd d hd), (h.conds d hd).is_⟩ }
end Go.Proofs.YtdhjibnkebbejaaDoor.Rs
