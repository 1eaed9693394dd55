/-
  A text's items, with other items behind them: the tree has both.
-/
import Derived.Test.YtfaflipphkoiiaaDoorParLike
namespace Go.Proofs.YtfaflipphkoiiaaDoor.Pr
open Lx (Tok Toks)
set_option linter.unusedVariables false

/-- The same state with further tokens behind. -/
def Ext (T : List Tok) (s s' : St) : Prop := s'.rest = s.rest ++ T ∧ s'.items = s.items ∧ s'.err = s.err
theorem Built.ext {α : Type} {m : M α} (h : Built m) {T : List Tok} {s s' : St} (hs : Ext T s s') (hne : (m s).2.rest ≠ []) : (m s').1 = (m s).1 ∧ Ext T (m s).2 (m s').2 := by
  have hsne : s.rest ≠ [] := by
    intro h0
    have := h.len s
    rw [h0] at this
    exact hne (List.eq_nil_of_length_eq_zero (by simpa using this))
  obtain ⟨r, t, hrt⟩ : ∃ r t, s.rest = r ++ [t] := ⟨s.rest.dropLast, s.rest.getLast hsne, (List.dropLast_concat_getLast hsne).symm⟩
  have h2 : Tail2 (t :: []) (t :: T) s s' := ⟨r, hrt, by rw [hs.1, hrt]; simp, hs.2.1, hs.2.2⟩
  obtain ⟨e1, q, k1, k2, k3, k4⟩ := h.swap s s' h2 (by
    have : 0 < (m s).2.rest.length := List.length_pos_iff.2 hne
    exact this)
  exact ⟨e1, by rw [k1, k2]; simp, k3, k4⟩
/-- A step that ends with a token that it asks for: what follows does not matter. -/
structure Closed {α : Type} (m : M α) : Prop where
  need : ∀ s, (m s).2.err = 0 → s.rest ≠ []
  ext : ∀ T s s', Ext T s s' → (m s).2.err = 0 → (m s').1 = (m s).1 ∧ Ext T (m s).2 (m s').2
theorem Closed.bnd {α β : Type} {m : M α} {f : α → M β} (hm : Built m) (hf : ∀ a, Closed (f a)) : Closed (bnd m f) := by
  constructor
  · intro s h
    have h1 := (hf _).need _ h
    intro h0
    have := hm.len s
    rw [h0] at this
    exact h1 (List.eq_nil_of_length_eq_zero (by simpa using this))
  · intro T s s' hs h
    have h1 := (hf _).need _ h
    obtain ⟨e1, e2⟩ := hm.ext hs h1
    show (f (m s').1 (m s').2).1 = _ ∧ Ext T _ (f (m s').1 (m s').2).2
    rw [e1]
    exact (hf _).ext T _ _ e2 h
theorem Closed.seq {α β : Type} {m : M α} {f : M β} (hm : Built m) (hf : Closed f) : Closed (seq m f) := Closed.bnd hm fun _ => hf
theorem Closed.last {α β : Type} {m : M α} (hm : Closed m) (g : α → β) : Closed (Pr.bnd m fun a => ret (g a)) := by
  constructor
  · intro s h; exact hm.need s h
  · intro T s s' hs h
    obtain ⟨e1, e2⟩ := hm.ext T s s' hs h
    show g (m s').1 = g (m s).1 ∧ Ext T (m s).2 (m s').2
    rw [e1]
    exact ⟨rfl, e2⟩
theorem Closed.ite {α : Type} {c : Prop} [Decidable c] {a b : M α} (ha : Closed a) (hb : Closed b) : Closed (if c then a else b) := by split <;> assumption
theorem Ext.isT {T : List Tok} {s s' : St} (h : Ext T s s') (hne : s.rest ≠ []) (x : Bytes) : isT x s' = isT x s := by
  unfold Pr.isT
  rw [h.2.2, h.1]
  cases hr : s.rest with
  | nil => exact absurd hr hne
  | cons t r => rfl
theorem acc_ext {T : List Tok} {s s' : St} (h : Ext T s s') (hne : s.rest ≠ []) (x : Bytes) : (acc x s').1 = (acc x s).1 ∧ Ext T (acc x s).2 (acc x s').2 := by
  unfold acc
  rw [h.isT hne x]
  cases Pr.isT x s with
  | false => exact ⟨rfl, h⟩
  | true =>
    refine ⟨rfl, ?_, h.2.1, h.2.2⟩
    show s'.rest.tail = s.rest.tail ++ T
    rw [h.1]
    cases hr : s.rest with
    | nil => exact absurd hr hne
    | cons t r => rfl
theorem acc_true_ne {x : Bytes} {s : St} (h : (acc x s).1 = true) : s.rest ≠ [] := by
  intro h0
  unfold acc isT at h
  rw [h0] at h
  simp at h
theorem Closed.fail : Closed fail := ⟨fun s h => absurd h (fail_err s), fun T s s' _ h => absurd h (fail_err s)⟩
theorem expect_one (x : Bytes) (s : St) : expect [x] s = if (acc x s).1 then ((), (acc x s).2) else fail (acc x s).2 := by
  show (if (acc x s).1 then expect [] else fail) (acc x s).2 = _
  cases (acc x s).1 <;> rfl
theorem acc_fail_state {x : Bytes} {s : St} (h : (acc x s).1 = false) : (acc x s).2 = s := by
  unfold acc at h ⊢
  split at h
  · cases h
  · rename_i hh; rw [if_neg hh]
theorem expect_ok {x : Bytes} {s : St} (h : (expect [x] s).2.err = 0) : (acc x s).1 = true := by
  rw [expect_one] at h
  cases hb : (acc x s).1 with
  | true => rfl
  | false =>
    rw [hb] at h
    exact absurd h (fail_err _)
theorem Closed.expect1 (x : Bytes) : Closed (expect [x]) := by
  constructor
  · intro s h; exact acc_true_ne (expect_ok h)
  · intro T s s' hs h
    have h1 := expect_ok h
    obtain ⟨e1, e2⟩ := acc_ext hs (acc_true_ne h1) x
    rw [expect_one, expect_one, e1, h1]
    exact ⟨rfl, e2⟩
theorem Closed.expect2 (x y : Bytes) : Closed (expect [x, y]) := Closed.bnd (Built.acc x) fun b => Closed.ite (Closed.expect1 y) Closed.fail
theorem Closed.fin {α : Type} (x : Bytes) (a : α) : Closed (Pr.seq (expect [x]) (ret a)) := Closed.last (Closed.expect1 x) fun _ => a
theorem Closed.anyOf (l : List Bytes) : ∀ i, Closed (anyOf l i) := by
  induction l with
  | nil =>
    intro i
    exact ⟨fun s h => absurd h (fail_err s), fun T s s' _ h => absurd h (fail_err s)⟩
  | cons x r ih =>
    intro i
    have hrun : ∀ s, Pr.anyOf (x :: r) i s = if (acc x s).1 then (i, (acc x s).2) else Pr.anyOf r (i + 1) (acc x s).2 := fun s => by
      show (if (acc x s).1 then ret i else Pr.anyOf r (i + 1)) (acc x s).2 = _
      cases (acc x s).1 <;> rfl
    have hne : ∀ s, (Pr.anyOf (x :: r) i s).2.err = 0 → s.rest ≠ [] := by
      intro s h
      rw [hrun] at h
      cases hb : (acc x s).1 with
      | true => exact acc_true_ne hb
      | false =>
        rw [hb] at h
        have := (ih (i + 1)).need _ h
        rwa [acc_fail_state hb] at this
    refine ⟨hne, fun T s s' hs h => ?_⟩
    obtain ⟨e1, e2⟩ := acc_ext hs (hne s h) x
    rw [hrun] at h
    rw [hrun, hrun, e1]
    cases hb : (acc x s).1 with
    | true => exact ⟨rfl, e2⟩
    | false =>
      rw [hb] at h
      exact (ih (i + 1)).ext T _ _ e2 h
theorem Closed.party : Closed party := Closed.bnd Built.name fun _ => Closed.fin _ _
theorem Closed.role : Closed role := Closed.bnd Built.name fun _ => Closed.seq (Built.expect _) (Closed.bnd Built.name fun _ => Closed.fin _ _)
theorem Closed.unitEnd (n : Bytes) (wd : Nat) (r : Ratio) (u : Bytes) : Closed (unitEnd n wd r u) := Closed.fin _ _
theorem Closed.unitTail (n : Bytes) (wd : Nat) : Closed (unitTail n wd) := Closed.bnd (Built.acc _) fun _ => Closed.ite (Closed.bnd Built.ratio fun _ => Closed.bnd Built.name fun _ => Closed.unitEnd _ _ _ _) (Closed.unitEnd _ _ _ _)
theorem Closed.unit : Closed unit := Closed.bnd Built.name fun _ => Closed.bnd (Built.acc _) fun _ => Closed.ite (Closed.unitTail _ _) (Closed.seq (Built.expect _) (Closed.unitTail _ _))
theorem Closed.holiday : Closed holiday := Closed.bnd (Built.long dates_fueled Built.datesMore) fun _ => Closed.fin _ _
theorem Closed.spanDef : Closed spanDef := Closed.bnd Built.name fun _ => Closed.seq (Built.expect _) (Closed.bnd Built.days fun _ => Closed.fin _ _)
theorem Closed.sumDef : Closed sumDef := Closed.bnd Built.name fun _ => Closed.seq (Built.expect _) (Closed.bnd Built.ratio fun _ => Closed.bnd Built.name fun _ => Closed.fin _ _)
theorem Closed.actGive (n o : Bytes) (wd : Nat) : Closed (actGive n o wd) := Closed.bnd Built.name fun _ => Closed.seq (Built.expect _) (Closed.bnd Built.name fun _ => Closed.fin _ _)
theorem Closed.actEnd (n o : Bytes) (r : Ratio) (u x : Bytes) : Closed (actEnd n o r u x) := Closed.fin _ _
theorem Closed.actTo (n o : Bytes) (r : Ratio) (u : Bytes) : Closed (actTo n o r u) := Closed.bnd (Built.acc _) fun _ => Closed.ite (Closed.bnd Built.name fun _ => Closed.actEnd _ _ _ _ _) (Closed.actEnd _ _ _ _ _)
theorem Closed.act : Closed act := Closed.bnd Built.name fun _ => Closed.seq (Built.expect _) (Closed.bnd Built.name fun _ => Closed.bnd (Built.acc _) fun _ => Closed.ite (Closed.actGive _ _ _) (Closed.bnd (Built.acc _) fun _ => Closed.ite (Closed.actGive _ _ _)
  (Closed.bnd (Built.acc _) fun _ => Closed.ite (Closed.bnd Built.ratio fun _ => Closed.bnd Built.name fun _ => Closed.actTo _ _ _ _) (Closed.actTo _ _ _ _))))
theorem Closed.dutyEnd (n : Bytes) (oa : Bytes × Bytes) (t : Nat) (w g : Span) : Closed (dutyEnd n oa t w g) := Closed.bnd Built.circ fun _ => Closed.bnd Built.cons fun _ => Closed.fin _ _
theorem Closed.dutyTail (n : Bytes) (oa : Bytes × Bytes) (t : Nat) : Closed (dutyTail n oa t) := Closed.seq (Built.expect _) (Closed.bnd Built.span fun _ => Closed.bnd (Built.acc _) fun _ => Closed.ite (Closed.bnd Built.span fun _ => Closed.dutyEnd _ _ _ _ _) (Closed.dutyEnd _ _ _ _ _))
theorem Closed.duty : Closed duty := Closed.bnd Built.name fun _ => Closed.bnd Built.bearer fun _ => Closed.bnd (Built.opt 2) fun o => by
  cases o
  · exact Closed.dutyTail _ _ _
  · exact Closed.seq (Built.expect _) (Closed.dutyTail _ _ _)
theorem Closed.ban : Closed ban := Closed.bnd Built.name fun _ => Closed.bnd Built.bearer fun _ => Closed.seq (Built.expect _) (Closed.bnd Built.span fun _ => Closed.bnd Built.circ fun _ => Closed.bnd Built.cons fun _ => Closed.fin _ _)
theorem Closed.option : Closed option := Closed.bnd Built.name fun _ => Closed.bnd Built.bearer fun _ => Closed.seq (Built.expect _) (Closed.bnd Built.span fun _ => Closed.bnd Built.circ fun _ => Closed.fin _ _)
theorem Closed.watch : Closed watch := Closed.bnd Built.name fun _ => Closed.seq (Built.expect _) (Closed.bnd Built.name fun _ => Closed.seq (Built.expect _) (Closed.bnd Built.span fun _ => Closed.bnd Built.circ fun _ => Closed.fin _ _))
theorem Closed.incl : Closed incl := Closed.bnd Built.name fun _ => Closed.seq (Built.expect _) (Closed.bnd Built.name fun _ => Closed.bnd Built.names fun _ => Closed.fin _ _)
theorem Closed.header : Closed header := by
  unfold Pr.header
  refine Closed.seq (Built.expect _) (Closed.bnd Built.name fun n => Closed.seq (Built.expect _) (Closed.bnd Built.date fun d => Closed.seq (Built.expect _) (Closed.bnd Built.number fun k => ?_)))
  exact Closed.last (Closed.expect2 _ _) fun _ => _
theorem weekendMore_closed : ∀ n l (s : St), s.rest.length < n → (weekendMore n l s).2.err = 0 → s.rest ≠ [] ∧ ∀ T s', Ext T s s' → ∀ n', s'.rest.length < n' → (weekendMore n' l s').1 = (weekendMore n l s).1 ∧ Ext T (weekendMore n l s).2 (weekendMore n' l s').2 := by
  intro n
  induction n with
  | zero => intro l s h; omega
  | succ n ih =>
    intro l s hn h
    rw [weekendMore_succ] at h ⊢
    by_cases he : (weekday s).2.err = 0
    · rw [if_pos he] at h ⊢
      have hneed := (Closed.anyOf _ _).need s he
      refine ⟨hneed, fun T s' hs n' hn' => ?_⟩
      obtain ⟨m, rfl⟩ : ∃ m, n' = m + 1 := ⟨n' - 1, by omega⟩
      obtain ⟨e1, e2⟩ := (Closed.anyOf _ _).ext T s s' hs he
      have e1' : (weekday s').1 = (weekday s).1 := e1
      have e2' : Ext T (weekday s).2 (weekday s').2 := e2
      have hlen := Built.weekday.len s
      have hlen' := Built.weekday.len s'
      rw [weekendMore_succ, if_pos (e2'.2.2.trans he), e1']
      generalize (weekday s).2 = u at *
      generalize (weekday s').2 = u' at *
      generalize (weekday s).1 = d at *
      have hune : u.rest ≠ [] := by
        cases hb : (acc [44] u).1 with
        | true => exact acc_true_ne hb
        | false =>
          rw [hb, acc_fail_state hb] at h
          exact (Closed.expect1 _).need u h
      obtain ⟨a1, a2⟩ := acc_ext e2' hune [44]
      rw [a1]
      cases hb : (acc [44] u).1 with
      | true =>
        rw [hb] at h
        simp only [if_true] at h ⊢
        have hl1 := acc_len hb
        have hl2 := acc_len (a1.trans hb)
        exact (ih _ _ (by omega) h).2 T _ a2 m (by omega)
      | false =>
        rw [hb] at h
        simp only [Bool.false_eq_true, if_false] at h ⊢
        exact ⟨trivial, ((Closed.expect1 _).ext T _ _ a2 h).2⟩
    · rw [if_neg he] at h
      exact absurd h he
theorem Closed.weekend : Closed weekend := by
  have hw : Closed (long fun f => weekendMore f flat0.days) := by
    constructor
    · intro s h; exact (weekendMore_closed _ _ s (Nat.lt_succ_self _) h).1
    · intro T s s' hs h; exact (weekendMore_closed _ _ s (Nat.lt_succ_self _) h).2 T s' hs _ (Nat.lt_succ_self _)
  exact Closed.last hw _
theorem Closed.body (k : Nat) : Closed (body k) := by
  unfold Pr.body
  split
  · exact Closed.party
  · exact Closed.role
  · exact Closed.unit
  · exact Closed.weekend
  · exact Closed.holiday
  · exact Closed.spanDef
  · exact Closed.sumDef
  · exact Closed.act
  · exact Closed.duty
  · exact Closed.ban
  · exact Closed.option
  · exact Closed.watch
  · exact Closed.incl
theorem start_ext {ws : List (Bytes × Nat)} {T : List Tok} {s s' : St} (hs : Ext T s s') (h : (start ws s).2.err = 0) : ∃ k p u u', start ws s = (some (k, p), u) ∧ start ws s' = (some (k, p), u') ∧ Ext T u u' ∧ s.rest ≠ [] := by
  obtain ⟨t, r, k, hr, h1, hl, h6, he, hst⟩ := start_ok h
  refine ⟨k, t.pos, _, ⟨r ++ T, s.items + 1, 0⟩, hst, ?_, ⟨rfl, rfl, rfl⟩, by rw [hr]; simp⟩
  have hr' : s'.rest = t :: (r ++ T) := by rw [hs.1, hr]; rfl
  have hk : isK 1 s' = true := by unfold isK; rw [hr', hs.2.2, he]; simp [h1]
  unfold start
  rw [hk, hr']
  simp only [if_true, hl]
  rw [hs.2.1, if_neg h6]
theorem Closed.inner : Closed inner := by
  have hrun : ∀ s k p u, start innerWords s = (some (k, p), u) → Pr.inner s = ({ (Pr.body k u).1 with pos := p }, (Pr.body k u).2) := by
    intro s k p u h; unfold Pr.inner Pr.bnd; rw [h]; rfl
  have hok : ∀ s, (Pr.inner s).2.err = 0 → (start innerWords s).2.err = 0 := by
    intro s h
    unfold Pr.inner Pr.bnd at h
    refine Built.ok (m := match (start innerWords s).1 with | none => ret flat0 | some kp => Pr.bnd (Pr.body kp.1) fun f => ret { f with pos := kp.2 }) ?_ h
    cases (start innerWords s).1
    · exact Built.ret _
    · exact Built.bnd (Built.body _) fun _ => Built.ret _
  constructor
  · intro s h
    obtain ⟨t, r, k, hr, _⟩ := start_ok (hok s h)
    rw [hr]; simp
  · intro T s s' hs h
    obtain ⟨k, p, u, u', h1, h2, h3, h4⟩ := start_ext hs (hok s h)
    rw [hrun _ _ _ _ h1] at h ⊢
    rw [hrun _ _ _ _ h2]
    obtain ⟨e1, e2⟩ := (Closed.body k).ext T u u' h3 h
    rw [e1]
    exact ⟨rfl, e2⟩
theorem tmplMore_closed : ∀ n (s : St), s.rest.length < n → (tmplMore n s).2.err = 0 → s.rest ≠ [] ∧ ∀ T s', Ext T s s' → ∀ n', s'.rest.length < n' → (tmplMore n' s').1 = (tmplMore n s).1 ∧ Ext T (tmplMore n s).2 (tmplMore n' s').2 := by
  intro n
  induction n with
  | zero => intro s h; omega
  | succ n ih =>
    intro s hn h
    have he : s.err = 0 := (Built.tmplMore (n + 1)).ok h
    rw [tmplMore_succ _ _ he] at h ⊢
    have hne : s.rest ≠ [] := by
      cases hb : (acc [125] s).1 with
      | true => exact acc_true_ne hb
      | false =>
        rw [hb, acc_fail_state hb] at h
        simp only [Bool.false_eq_true, if_false] at h
        exact Closed.inner.need s ((Built.tmplMore n).ok h)
    refine ⟨hne, fun T s' hs n' hn' => ?_⟩
    obtain ⟨m, rfl⟩ : ∃ m, n' = m + 1 := ⟨n' - 1, by omega⟩
    rw [tmplMore_succ _ _ (hs.2.2.trans he)]
    obtain ⟨a1, a2⟩ := acc_ext hs hne [125]
    have hl1 := Mono.acc [125] s
    have hl2 := Mono.acc [125] s'
    rw [a1]
    generalize (acc [125] s).2 = u at *
    generalize (acc [125] s').2 = u' at *
    cases hb : (acc [125] s).1 with
    | true => simp only [if_true]; exact ⟨trivial, a2⟩
    | false =>
      rw [hb] at h
      simp only [Bool.false_eq_true, if_false] at h ⊢
      have hie := (Built.tmplMore n).ok h
      obtain ⟨e1, e2⟩ := Closed.inner.ext T u u' a2 hie
      have hp1 := (inner_prog u).2 hie
      have hp2 := (inner_prog u').2 (e2.2.2.trans hie)
      obtain ⟨c1, c2⟩ := (ih _ (by omega) h).2 T _ e2 m (by omega)
      rw [e1, c1]
      exact ⟨rfl, c2⟩
theorem Closed.template : Closed template := by
  have hw : Closed (long tmplMore) := by
    constructor
    · intro s h; exact (tmplMore_closed _ s (Nat.lt_succ_self _) h).1
    · intro T s s' hs h; exact (tmplMore_closed _ s (Nat.lt_succ_self _) h).2 T s' hs _ (Nat.lt_succ_self _)
  exact Closed.bnd Built.name fun _ => Closed.bnd Built.names fun _ => Closed.seq (Built.expect _) (Closed.last hw _)
theorem Closed.item : Closed item := by
  constructor
  · intro s h
    rw [item_run] at h
    obtain ⟨t, r, k, hr, _⟩ := start_ok ((itemOf_built _).ok h)
    rw [hr]; simp
  · intro T s s' hs h
    rw [item_run] at h
    obtain ⟨k, p, u, u', h1, h2, h3, h4⟩ := start_ext hs ((itemOf_built _).ok h)
    rw [h1] at h
    rw [item_run, item_run, h1, h2]
    simp only at h ⊢
    by_cases hk : k = 13
    · subst hk
      rw [itemOf_13] at h
      rw [itemOf_13, itemOf_13]
      obtain ⟨e1, e2⟩ := Closed.template.ext T u u' h3 h
      generalize Pr.template u = X at *
      generalize Pr.template u' = Y at *
      simp only
      rw [e1]
      exact ⟨rfl, e2⟩
    · rw [itemOf_body _ _ hk] at h
      rw [itemOf_body _ _ hk, itemOf_body _ _ hk]
      obtain ⟨e1, e2⟩ := (Closed.body k).ext T u u' h3 h
      generalize Pr.body k u = X at *
      generalize Pr.body k u' = Y at *
      simp only
      rw [e1]
      exact ⟨rfl, e2⟩
/-- Items, and then the items of further tokens. -/
theorem items_join : ∀ n (s : St), s.rest.length < n → (itemsMore n s).2.err = 0 → ∀ T s', Ext T s s' → ∀ n', s'.rest.length < n' →
    (itemsMore n' s').1 = (itemsMore n s).1 ++ (itemsMore n' ⟨T, (itemsMore n s).2.items, 0⟩).1 ∧ (itemsMore n' s').2 = (itemsMore n' ⟨T, (itemsMore n s).2.items, 0⟩).2 := by
  intro n
  induction n with
  | zero => intro s h; omega
  | succ n ih =>
    intro s hn h T s' hs n' hn'
    have he : s.err = 0 := itemsMore_ok h
    by_cases hr : s.rest = []
    · rw [itemsMore_end _ _ (.inr hr)]
      have : s' = ⟨T, s.items, 0⟩ := by
        obtain ⟨h1, h2, h3⟩ := hs
        rw [hr, List.nil_append] at h1
        rw [he] at h3
        obtain ⟨a, b, c⟩ := s'
        simp only at h1 h2 h3
        subst h1 h2 h3
        rfl
      rw [this]
      exact ⟨rfl, rfl⟩
    · rw [itemsMore_succ _ _ he hr] at h ⊢
      simp only at h ⊢
      have hr' : s'.rest ≠ [] := by rw [hs.1]; intro h0; exact hr (List.append_eq_nil_iff.1 h0).1
      obtain ⟨m, rfl⟩ : ∃ m, n' = m + 1 := ⟨n' - 1, by omega⟩
      have hie := itemsMore_ok h
      obtain ⟨e1, e2⟩ := Closed.item.ext T s s' hs hie
      have hp1 := (item_prog s).2 hie
      have hp2 := (item_prog s').2 (e2.2.2.trans hie)
      obtain ⟨c1, c2⟩ := ih _ (by omega) h T _ e2 m (by omega)
      have hTl : T.length < m := by
        have := congrArg List.length e2.1
        rw [List.length_append] at this
        omega
      have hfu := items_fueled m (m + 1) ⟨T, (itemsMore n (item s).2).2.items, 0⟩ hTl (by show T.length < m + 1; omega)
      rw [hfu] at c1 c2
      rw [itemsMore_succ _ _ (hs.2.2.trans he) hr']
      simp only
      rw [e1, c1, c2]
      exact ⟨rfl, rfl⟩
end Go.Proofs.YtfaflipphkoiiaaDoor.Pr
