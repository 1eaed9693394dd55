/-
  The day of a term is monotone, and hangs on its own events alone.
-/
import Derived.Test.YticlmkfifpkdpaaDoorDlTerm
namespace Go.Proofs.YticlmkfifpkdpaaDoor.Dl
set_option linter.unusedVariables false
set_option linter.unusedSimpArgs false

theorem year_ex (d : Int) (h0 : 0 ≤ d) (h1 : d ≤ 73048) : ∃ y, 1990 ≤ y ∧ y ≤ 2189 ∧ newYear y ≤ d ∧ d < newYear (y + 1) := by
  have key : ∀ k : Nat, k ≤ 200 → d < newYear (1990 + k) → ∃ y, 1990 ≤ y ∧ y < 1990 + (k : Int) ∧ newYear y ≤ d ∧ d < newYear (y + 1) := by
    intro k
    induction k with
    | zero => intro _ h; have := newYear_first; rw [show (1990 : Int) + ((0 : Nat) : Int) = 1990 by omega] at h; omega
    | succ k ih =>
      intro hk h
      rcases (by omega : d < newYear (1990 + k) ∨ newYear (1990 + k) ≤ d) with h2 | h2
      · obtain ⟨y, y1, y2, y3⟩ := ih (by omega) h2
        exact ⟨y, y1, by omega, y3⟩
      · exact ⟨1990 + k, by omega, by omega, h2, by rw [show (1990 : Int) + k + 1 = 1990 + ((k + 1 : Nat) : Int) by omega]; exact h⟩
  have h2 := newYear_end
  obtain ⟨y, y1, y2, y3⟩ := key 200 (by omega) (by rw [show (1990 : Int) + ((200 : Nat) : Int) = 2190 by omega]; omega)
  exact ⟨y, y1, by omega, y3⟩
theorem month_ex (y r : Int) (h0 : 0 ≤ r) (h1 : r < daysBefore y 13) : ∃ m, 1 ≤ m ∧ m ≤ 12 ∧ daysBefore y m ≤ r ∧ r < daysBefore y (m + 1) := by
  have key : ∀ k : Nat, k ≤ 12 → r < daysBefore y (1 + k) → ∃ m, 1 ≤ m ∧ m < 1 + (k : Int) ∧ daysBefore y m ≤ r ∧ r < daysBefore y (m + 1) := by
    intro k
    induction k with
    | zero => intro _ h; have := daysBefore_one y; rw [show (1 : Int) + ((0 : Nat) : Int) = 1 by omega] at h; omega
    | succ k ih =>
      intro hk h
      rcases (by omega : r < daysBefore y (1 + k) ∨ daysBefore y (1 + k) ≤ r) with h2 | h2
      · obtain ⟨y, y1, y2, y3⟩ := ih (by omega) h2
        exact ⟨y, y1, by omega, y3⟩
      · exact ⟨1 + k, by omega, by omega, h2, by rw [show (1 : Int) + k + 1 = 1 + ((k + 1 : Nat) : Int) by omega]; exact h⟩
  obtain ⟨m, y1, y2, y3⟩ := key 12 (by omega) (by rw [show (1 : Int) + ((12 : Nat) : Int) = 13 by omega]; exact h1)
  exact ⟨m, y1, by omega, y3⟩
/-- Each day number is that of a date. -/
theorem number_ex (d : Int) (h0 : 0 ≤ d) (h1 : d ≤ 73048) : ∃ c, number c = some d := by
  obtain ⟨y, y1, y2, y3, y4⟩ := year_ex d h0 h1
  have hn := newYear_next y y1 y2
  obtain ⟨m, m1, m2, m3, m4⟩ := month_ex y (d - newYear y) (by omega) (by omega)
  refine ⟨⟨y, m, d - newYear y - daysBefore y m + 1⟩, ?_⟩
  rw [number_mk y1 y2 m1 m2 (by dsimp only; omega) (by dsimp only; omega)]
  congr 1
  dsimp only
  omega

def leL : List Int → List Int → Prop
  | [], [] => True
  | a :: x, b :: y => a ≤ b ∧ leL x y
  | _, _ => False
theorem leL_get {x y : List Int} (h : leL x y) : x.length = y.length ∧ ∀ i, x.getD i 0 ≤ y.getD i 0 := by
  induction x generalizing y with
  | nil => cases y with
    | nil => exact ⟨rfl, fun i => by simp⟩
    | cons b y => exact h.elim
  | cons a x ih => cases y with
    | nil => exact h.elim
    | cons b y =>
      obtain ⟨h1, h2⟩ := ih h.2
      refine ⟨by simp [h1], fun i => ?_⟩
      cases i with
      | zero => exact h.1
      | succ i => simpa using h2 i
theorem leL_min {x y : List Int} (h : leL x y) : ∀ {a b : Int}, a ≤ b → x.foldl min a ≤ y.foldl min b := by
  induction x generalizing y with
  | nil => cases y with
    | nil => intro a b hab; exact hab
    | cons b y => exact h.elim
  | cons u x ih => cases y with
    | nil => exact h.elim
    | cons v y => intro a b hab; have := h.1; exact ih h.2 (by omega)
theorem leL_max {x y : List Int} (h : leL x y) : ∀ {a b : Int}, a ≤ b → x.foldl max a ≤ y.foldl max b := by
  induction x generalizing y with
  | nil => cases y with
    | nil => intro a b hab; exact hab
    | cons b y => exact h.elim
  | cons u x ih => cases y with
    | nil => exact h.elim
    | cons v y => intro a b hab; have := h.1; exact ih h.2 (by omega)
theorem leL_least1 {x y : List Int} (h : leL x y) : least1 x ≤ least1 y := by
  cases x with
  | nil => cases y with
    | nil => exact Int.le_refl _
    | cons b y => exact h.elim
  | cons a x => cases y with
    | nil => exact h.elim
    | cons b y => exact leL_min h.2 h.1
theorem leL_most1 {x y : List Int} (h : leL x y) : most1 x ≤ most1 y := by
  cases x with
  | nil => cases y with
    | nil => exact Int.le_refl _
    | cons b y => exact h.elim
  | cons a x => cases y with
    | nil => exact h.elim
    | cons b y => exact leL_max h.2 h.1
theorem min_le_mem {l : List Int} : ∀ {a : Int}, l.foldl min a ≤ a ∧ ∀ x ∈ l, l.foldl min a ≤ x := by
  induction l with
  | nil => intro a; exact ⟨Int.le_refl _, fun x hx => by cases hx⟩
  | cons u l ih =>
    intro a
    have := ih (a := min a u)
    rw [List.foldl_cons]
    refine ⟨by omega, fun x hx => ?_⟩
    rcases List.mem_cons.1 hx with rfl | hx
    · omega
    · exact this.2 x hx
theorem max_ge_mem {l : List Int} : ∀ {a : Int}, a ≤ l.foldl max a ∧ ∀ x ∈ l, x ≤ l.foldl max a := by
  induction l with
  | nil => intro a; exact ⟨Int.le_refl _, fun x hx => by cases hx⟩
  | cons u l ih =>
    intro a
    have := ih (a := max a u)
    rw [List.foldl_cons]
    refine ⟨by omega, fun x hx => ?_⟩
    rcases List.mem_cons.1 hx with rfl | hx
    · omega
    · exact this.2 x hx
theorem min_mem {l : List Int} : ∀ {a : Int}, l.foldl min a = a ∨ l.foldl min a ∈ l := by
  induction l with
  | nil => intro a; exact .inl rfl
  | cons u l ih =>
    intro a
    rw [List.foldl_cons]
    rcases ih (a := min a u) with h | h
    · rcases (by omega : min a u = a ∨ min a u = u) with h2 | h2
      · exact .inl (h.trans h2)
      · exact .inr (by rw [h, h2]; exact List.mem_cons_self)
    · exact .inr (List.mem_cons_of_mem _ h)
theorem max_mem {l : List Int} : ∀ {a : Int}, l.foldl max a = a ∨ l.foldl max a ∈ l := by
  induction l with
  | nil => intro a; exact .inl rfl
  | cons u l ih =>
    intro a
    rw [List.foldl_cons]
    rcases ih (a := max a u) with h | h
    · rcases (by omega : max a u = a ∨ max a u = u) with h2 | h2
      · exact .inl (h.trans h2)
      · exact .inr (by rw [h, h2]; exact List.mem_cons_self)
    · exact .inr (List.mem_cons_of_mem _ h)
theorem least1_spec {l : List Int} (h : l ≠ []) : least1 l ∈ l ∧ ∀ x ∈ l, least1 l ≤ x := by
  cases l with
  | nil => exact absurd rfl h
  | cons a l =>
    refine ⟨?_, fun x hx => ?_⟩
    · rcases min_mem (l := l) (a := a) with h | h
      · show l.foldl min a ∈ _; rw [h]; exact List.mem_cons_self
      · exact List.mem_cons_of_mem _ h
    · rcases List.mem_cons.1 hx with rfl | hx
      · exact min_le_mem.1
      · exact min_le_mem.2 x hx
theorem most1_spec {l : List Int} (h : l ≠ []) : most1 l ∈ l ∧ ∀ x ∈ l, x ≤ most1 l := by
  cases l with
  | nil => exact absurd rfl h
  | cons a l =>
    refine ⟨?_, fun x hx => ?_⟩
    · rcases max_mem (l := l) (a := a) with h | h
      · show l.foldl max a ∈ _; rw [h]; exact List.mem_cons_self
      · exact List.mem_cons_of_mem _ h
    · rcases List.mem_cons.1 hx with rfl | hx
      · exact max_ge_mem.1
      · exact max_ge_mem.2 x hx

theorem ordered_len : ∀ {x y : List When}, ordered x y = true → x.length = y.length := by
  intro x
  induction x with
  | nil => intro y h; cases y with
    | nil => rfl
    | cons b y => cases h
  | cons a x ih => intro y h; cases y with
    | nil => cases h
    | cons b y => rw [ordered, Bool.and_eq_true] at h; rw [List.length_cons, List.length_cons, ih h.2]
theorem ordered_at : ∀ {x y : List When}, ordered x y = true → ∀ i, pairOk (x.getD i ⟨false, 0, 0⟩) (y.getD i ⟨false, 0, 0⟩) = true := by
  intro x
  induction x with
  | nil => intro y h; cases y with
    | nil => intro i; simp [pairOk]
    | cons b y => cases h
  | cons a x ih => intro y h; cases y with
    | nil => cases h
    | cons b y =>
      rw [ordered, Bool.and_eq_true] at h
      intro i
      cases i with
      | zero => exact h.1
      | succ i => simpa using ih h.2 i
theorem ordered_ev {x y : List When} (h : ordered x y = true) (e : Int) : (evAt x e).known = (evAt y e).known ∧ ((evAt x e).known = true → (evAt x e).day < (evAt y e).day ∨ (evAt x e).day = (evAt y e).day ∧ (evAt x e).min ≤ (evAt y e).min) := by
  have := ordered_at h e.toNat
  unfold evAt
  generalize x.getD e.toNat ⟨false, 0, 0⟩ = p at *
  generalize y.getD e.toNat ⟨false, 0, 0⟩ = q at *
  unfold pairOk at this
  rw [Bool.and_eq_true, decide_eq_true_eq] at this
  refine ⟨this.1, fun hk => ?_⟩
  have h2 := this.2
  rw [hk] at h2
  simp at h2
  omega
theorem evsOk_ev {x : List When} (h : evsOk x = true) (e : Int) (hk : (evAt x e).known = true) : (0 ≤ (evAt x e).day ∧ (evAt x e).day ≤ 73048) ∧ 0 ≤ (evAt x e).min ∧ (evAt x e).min ≤ 1439 := by
  unfold evsOk at h
  rw [List.all_eq_true] at h
  unfold evAt at hk ⊢
  have hm : x.getD e.toNat ⟨false, 0, 0⟩ ∈ x := by
    rw [List.getD_eq_getElem?_getD] at hk ⊢
    cases hx : x[e.toNat]? with
    | none => rw [hx] at hk; cases hk
    | some w => exact List.mem_of_getElem? hx
  have h1 := h _ hm
  generalize x.getD e.toNat ⟨false, 0, 0⟩ = p at *
  unfold When.ok at h1
  rw [hk] at h1
  simp only [Bool.not_true, Bool.false_or, Bool.and_eq_true, isDay_iff, decide_eq_true_eq] at h1
  exact h1
theorem node_mono {c : Cal} {x y : List When} (ho : ordered x y = true) (hx : evsOk x = true) {t : Term} (hf : fits x.length t = true) (hk : hasEv t = true → (evAt x t.ev).known = true) {ds ds' : List Int} (hd : leL ds ds')
    (hr : ∀ i, 0 ≤ ds.getD i 0 ∧ ds'.getD i 0 ≤ 73048) {b : Int} (hb : inRange (node c y t ds') = some b) : ∃ a, inRange (node c x t ds) = some a ∧ a ≤ b := by
  obtain ⟨hb1, hb2, hb3⟩ := inRange_iff.1 hb
  obtain ⟨hlen, hle⟩ := leL_get hd
  have h0 := hle 0
  have hr0 := hr 0
  unfold node at hb1
  have done : ∀ a, node c x t ds = some a → 0 ≤ a → a ≤ b → ∃ a, inRange (node c x t ds) = some a ∧ a ≤ b := fun a h1 h2 h3 => ⟨a, inRange_iff.2 ⟨h1, h2, by omega⟩, h3⟩
  unfold node at done ⊢
  unfold fits at hf
  by_cases k1 : t.kind = 1
  · rw [if_pos k1] at hb1 done ⊢; injection hb1 with hb1
    exact done b (by rw [hb1]) hb2 (Int.le_refl _)
  rw [if_neg k1] at hb1 hf done ⊢
  by_cases k2 : t.kind = 2
  · rw [if_pos k2] at hb1 done ⊢; injection hb1 with hb1
    have h3 := hk (by unfold hasEv; simp [k2])
    have h1 := (ordered_ev ho t.ev).2 h3
    have h2 := evsOk_ev hx t.ev h3
    exact done _ rfl (by omega) (by omega)
  rw [if_neg k2] at hb1 hf done ⊢
  by_cases k3 : t.kind = 3
  · rw [if_pos k3] at hb1 done ⊢; injection hb1 with hb1
    have h3 := hk (by unfold hasEv; simp [k3])
    have h1 := (ordered_ev ho t.ev).2 h3
    have h2 := evsOk_ev hx t.ev h3
    refine done _ rfl ?_ ?_
    · split <;> omega
    · split at hb1 <;> split <;> omega
  rw [if_neg k3] at hb1 hf done ⊢
  by_cases k4 : t.kind = 4
  · rw [if_pos k4] at hb1 hf done ⊢
    simp only [Bool.and_eq_true, decide_eq_true_eq] at hf
    cases hb0 : t.bus
    · rw [hb0] at hb1 done; simp only [Bool.false_eq_true, if_false] at hb1 done ⊢; injection hb1 with hb1
      exact done _ rfl (by omega) (by omega)
    · rw [hb0] at hb1 done; simp only [if_true] at hb1 done ⊢
      obtain ⟨r, h1, h2⟩ := add_mono hf.1.1.1 h0 hr0.2 hb1
      exact done r h1 (by have := add_rng hf.1.1.1 (by omega) h1; omega) h2
  rw [if_neg k4] at hb1 hf done ⊢
  by_cases k5 : t.kind = 5
  · rw [if_pos k5] at hb1 hf done ⊢
    simp only [Bool.and_eq_true, decide_eq_true_eq] at hf
    obtain ⟨r, h1, h2⟩ := months_mono hf.1.1.1.1 h0 (number_ex _ hr0.1 (by omega)) hb1
    obtain ⟨cc, hc1, hc2⟩ := months_ex h1
    exact done r h1 (number_rng (later_num hc1 hf.1.1.1.1 hc2)).1 h2
  rw [if_neg k5] at hb1 hf done ⊢
  by_cases k6 : t.kind = 6
  · rw [if_pos k6] at hb1 done ⊢
    obtain ⟨r, h1, h2⟩ := add_mono (Int.le_refl _) h0 hr0.2 hb1
    exact done r h1 (by have := add_rng (Int.le_refl _) (by omega) h1; omega) h2
  rw [if_neg k6] at hb1 hf done ⊢
  by_cases k7 : t.kind = 7
  · rw [if_pos k7] at hb1 done ⊢; injection hb1 with hb1
    refine done _ rfl ?_ (by have := leL_least1 hd; omega)
    by_cases hn : ds = []
    · rw [hn]; exact Int.le_refl _
    · obtain ⟨h1, _⟩ := least1_spec hn
      obtain ⟨i, hi, he⟩ := List.getElem_of_mem h1
      have := (hr i).1
      rw [List.getD_eq_getElem?_getD, List.getElem?_eq_getElem hi, he] at this
      exact this
  · rw [if_neg k7] at hb1 done ⊢; injection hb1 with hb1
    refine done _ rfl ?_ (by have := leL_most1 hd; omega)
    by_cases hn : ds = []
    · rw [hn]; exact Int.le_refl _
    · obtain ⟨h1, _⟩ := most1_spec hn
      obtain ⟨i, hi, he⟩ := List.getElem_of_mem h1
      have := (hr i).1
      rw [List.getD_eq_getElem?_getD, List.getElem?_eq_getElem hi, he] at this
      exact this
theorem dayL_rng {c : Cal} {l : List When} {r : List Term} {ds : List Int} (h : dayL c l r = some ds) (i : Nat) : 0 ≤ ds.getD i 0 ∧ ds.getD i 0 ≤ 73048 := by
  rw [List.getD_eq_getElem?_getD]
  cases hi : ds[i]? with
  | none => simp
  | some d =>
    obtain ⟨t, _, ht⟩ := dayL_all h i d hi
    exact day_rng ht
/-- The day is not later for earlier events. -/
theorem day_mono {c : Cal} {x y : List When} (ho : ordered x y = true) (hx : evsOk x = true) : ∀ (t : Term) (d : Nat), (∀ u ∈ nodes d t, fits x.length u.2 = true ∧ (hasEv u.2 = true → (evAt x u.2.ev).known = true)) → ∀ b, day c y t = some b → ∃ a, day c x t = some a ∧ a ≤ b := by
  refine Term.ind ?_
  intro kd n e bs l ih d hn b hb
  rw [day_mk] at hb ⊢
  split at hb
  · cases hb
  rename_i ds' hds'
  have hL : ∀ r : List Term, (∀ u ∈ r, u ∈ l) → ∀ ds', dayL c y r = some ds' → ∃ ds, dayL c x r = some ds ∧ leL ds ds' := by
    intro r
    induction r with
    | nil => intro _ ds' h; rw [dayL] at h; injection h with h; subst h; exact ⟨[], rfl, trivial⟩
    | cons u r ih2 =>
      intro hu ds' h
      rw [dayL] at h
      split at h
      · cases h
      · rename_i d0 h0
        split at h
        · cases h
        · rename_i ds1 h1
          injection h with h; subst h
          obtain ⟨ds, h3, h4⟩ := ih2 (fun v hv => hu v (List.mem_cons_of_mem _ hv)) ds1 h1
          obtain ⟨a, h5, h6⟩ := ih u (hu u List.mem_cons_self) (d + 1) (fun v hv => hn v (nodes_kid (t := .mk kd n e bs l) (hu u List.mem_cons_self) hv)) d0 h0
          exact ⟨a :: ds, by rw [dayL, h5, h3], h6, h4⟩
  obtain ⟨ds, h1, h2⟩ := hL l (fun _ h => h) ds' hds'
  have h1' : dayL c x (Term.mk kd n e bs l).kids = some ds := h1
  rw [h1']
  have hs := hn _ (nodes_self d _)
  exact node_mono ho hx hs.1 hs.2 h2 (fun i => ⟨(dayL_rng h1 i).1, (dayL_rng hds' i).2⟩) hb
/-- The day hangs on the term's own events alone. -/
theorem day_congr {c : Cal} {x y : List When} : ∀ (t : Term) (d : Nat), (∀ u ∈ nodes d t, hasEv u.2 = true → evAt x u.2.ev = evAt y u.2.ev) → day c x t = day c y t := by
  refine Term.ind ?_
  intro kd n e bs l ih d hn
  rw [day_mk, day_mk]
  have hL : ∀ r : List Term, (∀ u ∈ r, u ∈ l) → dayL c x r = dayL c y r := by
    intro r
    induction r with
    | nil => intro _; rfl
    | cons u r ih2 =>
      intro hu
      rw [dayL, dayL, ih2 (fun v hv => hu v (List.mem_cons_of_mem _ hv)), ih u (hu u List.mem_cons_self) (d + 1) (fun v hv => hn v (nodes_kid (t := .mk kd n e bs l) (hu u List.mem_cons_self) hv))]
  have h1 : dayL c x (Term.mk kd n e bs l).kids = dayL c y (Term.mk kd n e bs l).kids := hL l (fun _ h => h)
  rw [h1]
  have h2 : ∀ ds, node c x (.mk kd n e bs l) ds = node c y (.mk kd n e bs l) ds := by
    intro ds
    have h3 := hn _ (nodes_self d _)
    unfold node
    by_cases k2 : kd = 2
    · have := h3 (by unfold hasEv; simp [Term.kind, k2])
      simp only at this
      rw [this]
    · by_cases k3 : kd = 3
      · have := h3 (by unfold hasEv; simp [Term.kind, k3])
        simp only at this
        rw [this]
      · simp only [Term.kind, k2, k3, if_false]
  cases dayL c y (Term.mk kd n e bs l).kids with
  | none => rfl
  | some ds => dsimp only; rw [h2]
end Go.Proofs.YticlmkfifpkdpaaDoor.Dl
