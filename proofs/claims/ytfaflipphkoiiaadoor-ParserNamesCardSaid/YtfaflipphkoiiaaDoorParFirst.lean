/-
  The parser looks only at the next token: what it does does not hang on the tokens behind those that it reads. Texts that are cut at a token; the first error of a text; the text before an item.
-/
import Derived.Test.YtfaflipphkoiiaaDoorParOff
import Derived.Test.YtfaflipphkoiiaaDoorLexToks
namespace Go.Proofs.YtfaflipphkoiiaaDoor.Pr
open Lx (Tok)
set_option linter.unusedVariables false

/-- Two states that differ only in what follows. -/
def Tail2 (T T' : List Tok) (s s' : St) : Prop := ∃ r, s.rest = r ++ T ∧ s'.rest = r ++ T' ∧ s'.items = s.items ∧ s'.err = s.err
theorem Built.len {α : Type} {m : M α} (h : Built m) (s : St) : (m s).2.rest.length ≤ s.rest.length := (h.suf s).length_le

theorem Tail2.fail {t : Tok} {vs ws : List Tok} {s s' : St} (h : Tail2 (t :: vs) (t :: ws) s s') : Tail2 (t :: vs) (t :: ws) (Pr.fail s).2 (Pr.fail s').2 := by
  obtain ⟨r, h1, h2, h3, h4⟩ := h
  unfold Pr.fail
  by_cases he : s.err = 0
  · have he' : s'.err = 0 := by rw [h4]; exact he
    simp only [he, he', ne_eq, not_true_eq_false, if_false]
    refine ⟨r, h1, h2, h3, ?_⟩
    simp only [h1, h2]
    cases r <;> rfl
  · have he' : s'.err ≠ 0 := by rw [h4]; exact he
    simp only [he, he', ne_eq, not_false_eq_true, if_true]
    exact ⟨r, h1, h2, h3, h4⟩
/-- Another rest behind a token that is not read changes nothing. -/
theorem Built.swap {α : Type} {m : M α} (h : Built m) {t : Tok} {vs ws : List Tok} : ∀ s s', Tail2 (t :: vs) (t :: ws) s s' → (t :: vs).length ≤ (m s).2.rest.length → (m s').1 = (m s).1 ∧ Tail2 (t :: vs) (t :: ws) (m s).2 (m s').2 := by
  induction h with
  | ret a => intro s s' h _; exact ⟨rfl, h⟩
  | @bnd α β m f h hf ih ihf =>
    intro s s' hs hl
    have hl1 : (t :: vs).length ≤ (f (m s).1 (m s).2).2.rest.length := hl
    obtain ⟨e1, e2⟩ := ih s s' hs (Nat.le_trans hl1 ((hf _).len _))
    have := ihf (m s).1 (m s).2 (m s').2 e2 hl1
    show (f (m s').1 (m s').2).1 = _ ∧ Tail2 _ _ _ (f (m s').1 (m s').2).2
    rw [e1]
    exact this
  | fail => intro s s' hs _; exact ⟨rfl, hs.fail⟩
  | acc x =>
    intro s s' hs hl
    obtain ⟨r, h1, h2, h3, h4⟩ := hs
    have hi : isT x s' = isT x s := by unfold isT; rw [h1, h2, h4]; cases r <;> rfl
    unfold Pr.acc at hl ⊢
    rw [hi]
    cases hb : isT x s with
    | false => exact ⟨rfl, r, h1, h2, h3, h4⟩
    | true =>
      rw [hb] at hl
      simp only [if_true] at hl ⊢
      refine ⟨trivial, ?_⟩
      cases r with
      | nil => rw [h1] at hl; simp only [List.nil_append, List.tail_cons, List.length_cons] at hl; omega
      | cons a r => exact ⟨r, by rw [h1]; rfl, by rw [h2]; rfl, h3, h4⟩
  | opt k =>
    intro s s' hs hl
    obtain ⟨r, h1, h2, h3, h4⟩ := hs
    have hi : isK k s' = isK k s := by unfold isK; rw [h1, h2, h4]; cases r <;> rfl
    unfold Pr.opt at hl ⊢
    rw [hi]
    cases hb : isK k s with
    | false => exact ⟨rfl, r, h1, h2, h3, h4⟩
    | true =>
      rw [hb] at hl
      simp only [if_true] at hl ⊢
      cases r with
      | nil => rw [h1] at hl; simp only [List.nil_append, List.tail_cons, List.length_cons] at hl; omega
      | cons a r => exact ⟨by rw [h1, h2]; rfl, r, by rw [h1]; rfl, by rw [h2]; rfl, h3, h4⟩
  | good =>
    intro s s' hs _
    obtain ⟨r, h1, h2, h3, h4⟩ := hs
    exact ⟨by unfold Pr.good; rw [h4], r, h1, h2, h3, h4⟩
  | @long α m hf h ih =>
    intro s s' hs hl
    have e1 : Pr.long m s = m (s.rest.length + s'.rest.length + 1) s := hf _ _ s (by omega) (by omega)
    have e2 : Pr.long m s' = m (s.rest.length + s'.rest.length + 1) s' := hf _ _ s' (by omega) (by omega)
    rw [e1] at hl
    rw [e1, e2]
    exact ih _ s s' hs hl
  | start ws' =>
    intro s s' hs hl
    have hff := hs.fail
    obtain ⟨r, h1, h2, h3, h4⟩ := hs
    have hi : isK 1 s' = isK 1 s := by unfold isK; rw [h1, h2, h4]; cases r <;> rfl
    unfold Pr.start at hl ⊢
    rw [hi]
    cases hb : isK 1 s with
    | false => simp only [Bool.false_eq_true, if_false]; exact ⟨by trivial, hff⟩
    | true =>
      rw [hb] at hl
      simp only [if_true] at hl ⊢
      cases r with
      | nil =>
        simp only [h1, h2, List.nil_append] at hl ⊢
        cases hk : ws'.lookup t.text with
        | none => simp only; exact ⟨by trivial, hff⟩
        | some k =>
          rw [hk] at hl
          simp only [h3] at hl ⊢
          by_cases h6 : s.items = 600
          · rw [if_pos h6, if_pos h6]; exact ⟨rfl, [], rfl, rfl, rfl, rfl⟩
          · rw [if_neg h6] at hl; simp only [List.length_cons] at hl; omega
      | cons a r =>
        simp only [h1, h2, List.cons_append] at hl ⊢
        cases hk : ws'.lookup a.text with
        | none => simp only; exact ⟨by trivial, hff⟩
        | some k =>
          simp only [h3]
          by_cases h6 : s.items = 600
          · rw [if_pos h6, if_pos h6]; exact ⟨rfl, a :: r, rfl, rfl, rfl, rfl⟩
          · rw [if_neg h6, if_neg h6]; exact ⟨rfl, r, rfl, rfl, rfl, rfl⟩

/-- A state, and the one in which the tokens end earlier. -/
def Tail1 (T : List Tok) (s s' : St) : Prop := ∃ r, s.rest = r ++ T ∧ s'.rest = r ∧ s'.items = s.items ∧ s'.err = s.err ∧ (s.err ≠ 0 → r ≠ [])
/-- What a step does if the tokens end earlier. -/
def Cut1 {α : Type} (T : List Tok) (p p' : α × St) : Prop := (p'.1 = p.1 ∧ Tail1 T p.2 p'.2) ∨ (p.2.err ≠ 0 ∧ p'.2.err = 7 ∧ p'.2.rest = [])
theorem fail_cut {α : Type} {t : Tok} {vs : List Tok} {s s' : St} (a : α) (h : Tail1 (t :: vs) s s') : Cut1 (t :: vs) (a, (Pr.fail s).2) (a, (Pr.fail s').2) := by
  obtain ⟨r, h1, h2, h3, h4, h5⟩ := h
  unfold Pr.fail
  by_cases he : s.err = 0
  · have he' : s'.err = 0 := by rw [h4]; exact he
    simp only [he, he', ne_eq, not_true_eq_false, if_false]
    cases r with
    | nil => right; refine ⟨?_, ?_, ?_⟩ <;> simp [h1, h2]
    | cons b r => left; exact ⟨rfl, b :: r, h1, h2, h3, by simp [h1, h2], fun _ => by simp⟩
  · have he' : s'.err ≠ 0 := by rw [h4]; exact he
    simp only [he, he', ne_eq, not_false_eq_true, if_true]
    exact .inl ⟨rfl, r, h1, h2, h3, h4, h5⟩
theorem Built.cut {α : Type} {m : M α} (h : Built m) {t : Tok} {vs : List Tok} : ∀ s s', Tail1 (t :: vs) s s' → (t :: vs).length ≤ (m s).2.rest.length → Cut1 (t :: vs) (m s) (m s') := by
  induction h with
  | ret a => intro s s' h _; exact .inl ⟨rfl, h⟩
  | @bnd α β m f h hf ih ihf =>
    intro s s' hs hl
    have hl1 : (t :: vs).length ≤ (f (m s).1 (m s).2).2.rest.length := hl
    show Cut1 _ (f (m s).1 (m s).2) (f (m s').1 (m s').2)
    rcases ih s s' hs (Nat.le_trans hl1 ((hf _).len _)) with ⟨e1, e2⟩ | ⟨e1, e2, e3⟩
    · rw [e1]; exact ihf (m s).1 (m s).2 (m s').2 e2 hl1
    · right
      rw [(hf _).stk _ e1, (hf _).stk _ (by rw [e2]; decide)]
      exact ⟨e1, e2, e3⟩
  | fail => intro s s' hs _; exact fail_cut () hs
  | acc x =>
    intro s s' hs hl
    obtain ⟨r, h1, h2, h3, h4, h5⟩ := hs
    left
    cases r with
    | nil =>
      have hb' : isT x s' = false := by unfold isT; rw [h2]; simp
      unfold Pr.acc at hl ⊢
      rw [hb']
      cases hb : isT x s with
      | false => exact ⟨rfl, [], h1, h2, h3, h4, h5⟩
      | true => rw [hb] at hl; simp only [if_true] at hl; rw [h1] at hl; simp only [List.nil_append, List.tail_cons, List.length_cons] at hl; omega
    | cons a r =>
      have hi : isT x s' = isT x s := by unfold isT; rw [h1, h2, h4]; rfl
      unfold Pr.acc
      rw [hi]
      cases hb : isT x s with
      | false => exact ⟨rfl, a :: r, h1, h2, h3, h4, h5⟩
      | true =>
        have he : s.err = 0 := by simp [isT] at hb; exact hb.1
        exact ⟨rfl, r, by simp [h1], by simp [h2], h3, h4, fun h => absurd he h⟩
  | opt k =>
    intro s s' hs hl
    obtain ⟨r, h1, h2, h3, h4, h5⟩ := hs
    left
    cases r with
    | nil =>
      have hb' : isK k s' = false := by unfold isK; rw [h2]; simp
      unfold Pr.opt at hl ⊢
      rw [hb']
      cases hb : isK k s with
      | false => exact ⟨rfl, [], h1, h2, h3, h4, h5⟩
      | true => rw [hb] at hl; simp only [if_true] at hl; rw [h1] at hl; simp only [List.nil_append, List.tail_cons, List.length_cons] at hl; omega
    | cons a r =>
      have hi : isK k s' = isK k s := by unfold isK; rw [h1, h2, h4]; rfl
      unfold Pr.opt
      rw [hi]
      cases hb : isK k s with
      | false => exact ⟨rfl, a :: r, h1, h2, h3, h4, h5⟩
      | true =>
        have he : s.err = 0 := by simp [isK] at hb; exact hb.1
        exact ⟨by simp [h1, h2], r, by simp [h1], by simp [h2], h3, h4, fun h => absurd he h⟩
  | good =>
    intro s s' hs _
    obtain ⟨r, h1, h2, h3, h4, h5⟩ := hs
    exact .inl ⟨by unfold Pr.good; rw [h4], r, h1, h2, h3, h4, h5⟩
  | @long α m hf h ih =>
    intro s s' hs hl
    have e1 : Pr.long m s = m (s.rest.length + s'.rest.length + 1) s := hf _ _ s (by omega) (by omega)
    have e2 : Pr.long m s' = m (s.rest.length + s'.rest.length + 1) s' := hf _ _ s' (by omega) (by omega)
    rw [e1] at hl
    rw [e1, e2]
    exact ih _ s s' hs hl
  | start ws' =>
    intro s s' hs hl
    have hff := fail_cut (none : Option (Nat × Nat)) hs
    obtain ⟨r, h1, h2, h3, h4, h5⟩ := hs
    cases r with
    | nil =>
      have he : s.err = 0 := by by_cases h : s.err = 0; exact h; exact absurd rfl (h5 h)
      have he' : s'.err = 0 := by rw [h4]; exact he
      have hb' : isK 1 s' = false := by unfold isK; rw [h2]; simp
      have hs' : Pr.start ws' s' = (none, (Pr.fail s').2) := by unfold Pr.start; rw [hb']; rfl
      have hf' : (Pr.fail s').2.err = 7 ∧ (Pr.fail s').2.rest = [] := by unfold Pr.fail; simp [he', h2]
      rw [hs']
      right
      refine ⟨?_, hf'⟩
      unfold Pr.start at hl ⊢
      cases hb : isK 1 s with
      | false => simp only [Bool.false_eq_true, if_false]; exact fail_err s
      | true =>
        rw [hb] at hl
        simp only [if_true, h1, List.nil_append] at hl ⊢
        cases hk : ws'.lookup t.text with
        | none => simp only; exact fail_err s
        | some k =>
          rw [hk] at hl
          simp only at hl ⊢
          by_cases h6 : s.items = 600
          · rw [if_pos h6]; simp
          · rw [if_neg h6] at hl; simp only [List.length_cons] at hl; omega
    | cons a r =>
      have hi : isK 1 s' = isK 1 s := by unfold isK; rw [h1, h2, h4]; rfl
      unfold Pr.start
      rw [hi]
      cases hb : isK 1 s with
      | false => simp only [Bool.false_eq_true, if_false]; exact hff
      | true =>
        simp only [if_true, h1, h2, List.cons_append]
        cases hk : ws'.lookup a.text with
        | none => simp only; exact hff
        | some k =>
          simp only [h3]
          left
          by_cases h6 : s.items = 600
          · rw [if_pos h6, if_pos h6]; exact ⟨rfl, a :: r, rfl, rfl, rfl, rfl, fun _ => by simp⟩
          · rw [if_neg h6, if_neg h6]; exact ⟨rfl, r, rfl, rfl, rfl, rfl, fun h => absurd rfl h⟩
end Go.Proofs.YtfaflipphkoiiaaDoor.Pr
namespace Go.Proofs.YtfaflipphkoiiaaDoor.Pr
open Lx (Tok Toks skip skip_length gapLen gapLen_le gapLen_take tok_len tokOf tokOf_take tokOf_app ends32 skip_append_lt)
set_option linter.unusedVariables false

theorem toks_at {ts : List Tok} {l : Bytes} {p : Nat} (h : Toks ts l p) : ∀ t ∈ ts, p ≤ t.pos ∧ t.pos + t.text.length ≤ p + l.length := by
  induction ts generalizing l p with
  | nil => intro t ht; cases ht
  | cons u ts ih =>
    obtain ⟨h1, h2, h3, h4⟩ := h
    have hl := tok_len h1
    have hsl := skip_length l
    have h0 := gapLen_le false l
    intro t ht
    rcases List.mem_cons.1 ht with rfl | ht
    · omega
    · have := ih h4 t ht
      rw [List.length_drop] at this
      omega
/-- The text before a token has the tokens before it. -/
theorem toks_cut {r vs : List Tok} {t : Tok} {l : Bytes} {p : Nat} (h : Toks (r ++ t :: vs) l p) : Toks r (l.take (t.pos - p)) p := by
  induction r generalizing l p with
  | nil =>
    obtain ⟨h1, h2, h3, h4⟩ := h
    have h0 := gapLen_le false l
    simp only [Toks, skip, gapLen_take]
    apply List.drop_eq_nil_of_le
    rw [List.length_take]; omega
  | cons u r ih =>
    obtain ⟨h1, h2, h3, h4⟩ := h
    have hb := toks_at h4 t (by simp)
    have hl := tok_len h1
    have hsl := skip_length l
    have h0 := gapLen_le false l
    rw [List.length_drop] at hb
    have e2 : gapLen false (l.take (t.pos - p)) = gapLen false l := by rw [gapLen_take]; omega
    have e1 : skip (l.take (t.pos - p)) = (skip l).take (t.pos - u.pos) := by
      unfold skip; rw [e2, List.drop_take]; congr 1; omega
    simp only [Toks, e1, e2]
    refine ⟨tokOf_take h1 (by omega), by rw [List.take_take, show min u.text.length (t.pos - u.pos) = u.text.length by omega]; exact h2, h3, ?_⟩
    rw [List.drop_take, show t.pos - u.pos - u.text.length = t.pos - (u.pos + u.text.length) by omega]
    exact ih h4
/-- Another text behind a token and a blank: the tokens up to it stay. -/
theorem toks_else {r vs L : List Tok} {t : Tok} {l z : Bytes} {p : Nat} (h : Toks (r ++ t :: vs) l p) (h' : Toks L (l.take (t.pos - p + t.text.length) ++ 32 :: z) p) : ∃ ws, L = r ++ t :: ws := by
  induction r generalizing l p L with
  | nil =>
    obtain ⟨h1, h2, h3, h4⟩ := h
    have hl := tok_len h1
    have hsl := skip_length l
    have h0 := gapLen_le false l
    have e2 : gapLen false (l.take (t.pos - p + t.text.length)) = gapLen false l := by rw [gapLen_take]; omega
    have e1 : skip (l.take (t.pos - p + t.text.length)) = (skip l).take t.text.length := by
      unfold skip; rw [e2, List.drop_take]; congr 1; omega
    have hne : (skip l).take t.text.length ≠ [] := by intro e; have := congrArg List.length e; rw [List.length_take, List.length_nil] at this; omega
    have e3 := skip_append_lt (l.take (t.pos - p + t.text.length)) (32 :: z) (by rw [e1]; exact hne)
    rw [e1, e2] at e3
    have ht : tokOf ((skip l).take t.text.length ++ 32 :: z) = .ok (t.kind, t.text.length, t.n) := by rw [tokOf_app _ _ _ ends32 hne]; exact tokOf_take h1 (Nat.le_refl _)
    cases L with
    | nil =>
      simp only [Toks] at h'
      rw [e3.1] at h'
      simp at h'
    | cons u L =>
      obtain ⟨k1, k2, k3, k4⟩ := h'
      rw [e3.1] at k1 k2
      rw [e3.2] at k3
      rw [ht] at k1
      injection k1 with k1
      simp only [Prod.mk.injEq] at k1
      obtain ⟨a1, a2, a3⟩ := k1
      rw [← a2, List.take_append_of_le_length (by rw [List.length_take]; omega), List.take_take, Nat.min_self, ← h2] at k2
      refine ⟨L, ?_⟩
      obtain ⟨uk, ut, un, up⟩ := u
      obtain ⟨tk, tt, tn, tp⟩ := t
      simp only at a1 a2 a3 k2 k3 h3
      subst a1 a3 k2 k3 h3
      rfl
  | cons u r ih =>
    obtain ⟨h1, h2, h3, h4⟩ := h
    have hb := toks_at h4 t (by simp)
    have hl := tok_len h1
    have hsl := skip_length l
    have h0 := gapLen_le false l
    rw [List.length_drop] at hb
    have e2 : gapLen false (l.take (t.pos - p + t.text.length)) = gapLen false l := by rw [gapLen_take]; omega
    have e1 : skip (l.take (t.pos - p + t.text.length)) = (skip l).take (t.pos - u.pos + t.text.length) := by
      unfold skip; rw [e2, List.drop_take]; congr 1; omega
    have hne : (skip l).take (t.pos - u.pos + t.text.length) ≠ [] := by intro e; have := congrArg List.length e; rw [List.length_take, List.length_nil] at this; omega
    have e3 := skip_append_lt (l.take (t.pos - p + t.text.length)) (32 :: z) (by rw [e1]; exact hne)
    rw [e1, e2] at e3
    have ht : tokOf ((skip l).take (t.pos - u.pos + t.text.length) ++ 32 :: z) = .ok (u.kind, u.text.length, u.n) := by rw [tokOf_app _ _ _ ends32 hne]; exact tokOf_take h1 (by omega)
    cases L with
    | nil =>
      simp only [Toks] at h'
      rw [e3.1] at h'
      simp at h'
    | cons v L =>
      obtain ⟨k1, k2, k3, k4⟩ := h'
      rw [e3.1] at k1 k2 k4
      rw [e3.2] at k3
      rw [ht] at k1
      injection k1 with k1
      simp only [Prod.mk.injEq] at k1
      obtain ⟨a1, a2, a3⟩ := k1
      rw [← a2, List.take_append_of_le_length (by rw [List.length_take]; omega), List.take_take, show min u.text.length (t.pos - u.pos + t.text.length) = u.text.length by omega, ← h2] at k2
      have huv : v = u := by
        obtain ⟨uk, ut, un, up⟩ := u
        obtain ⟨vk, vt, vn, vp⟩ := v
        simp only at a1 a2 a3 k2 k3 h3
        subst a1 a3 k2 k3 h3
        rfl
      subst huv
      rw [List.drop_append_of_le_length (by rw [List.length_take]; omega), List.drop_take] at k4
      rw [show t.pos - v.pos + t.text.length - v.text.length = t.pos - (v.pos + v.text.length) + t.text.length by omega] at k4
      obtain ⟨ws, hw⟩ := ih h4 k4
      exact ⟨ws, by rw [hw]; rfl⟩

theorem Built.six {α : Type} {m : M α} (h : Built m) : ∀ s, s.err = 0 → (m s).2.err = 6 → (m s).2.rest ≠ [] := by
  induction h with
  | ret a => intro s h0 h; exact absurd (h0.symm.trans h) (by decide)
  | @bnd α β m f h hf ih ihf =>
    intro s h0 h6
    have h6' : (f (m s).1 (m s).2).2.err = 6 := h6
    show (f (m s).1 (m s).2).2.rest ≠ []
    by_cases he : (m s).2.err = 0
    · exact ihf _ _ he h6'
    · rw [(hf _).stk _ he] at h6' ⊢
      exact ih s h0 h6'
  | fail =>
    intro s h0 h6
    unfold Pr.fail at h6 ⊢
    simp only [h0, ne_eq, not_true_eq_false, if_false] at h6 ⊢
    split at h6
    · simp at h6
    · rename_i hr; exact hr
  | acc x => intro s h0 h6; unfold Pr.acc at h6; split at h6 <;> exact absurd (h0.symm.trans h6) (by decide)
  | opt k => intro s h0 h6; unfold Pr.opt at h6; split at h6 <;> exact absurd (h0.symm.trans h6) (by decide)
  | good => intro s h0 h; exact absurd (h0.symm.trans h) (by decide)
  | long hf h ih => intro s h0 h6; exact ih _ s h0 h6
  | start ws =>
    intro s h0 h6
    have hfl : (Pr.fail s).2.err = 6 → (Pr.fail s).2.rest ≠ [] := by
      intro h6
      unfold Pr.fail at h6 ⊢
      simp only [h0, ne_eq, not_true_eq_false, if_false] at h6 ⊢
      split at h6
      · simp at h6
      · rename_i hr; exact hr
    unfold Pr.start at h6 ⊢
    split at h6
    · rename_i hk
      rw [if_pos hk]
      cases hr : s.rest with
      | nil => simp [isK, hr] at hk
      | cons t r =>
        rw [hr] at h6
        simp only at h6 ⊢
        cases hl : ws.lookup t.text with
        | none => rw [hl] at h6; exact hfl h6
        | some k =>
          rw [hl] at h6
          simp only at h6
          split at h6 <;> simp at h6
    · rename_i hk
      rw [if_neg hk]
      exact hfl h6
theorem items_suf : ∀ n (s : St), (itemsMore n s).2.rest <:+ s.rest := by
  intro n
  induction n with
  | zero => intro s; exact List.suffix_refl _
  | succ n ih =>
    intro s
    by_cases he : s.err ≠ 0 ∨ s.rest = []
    · rw [itemsMore_end _ _ he]; exact List.suffix_refl _
    · have he1 : s.err = 0 := by by_cases h0 : s.err = 0; exact h0; exact absurd (.inl h0) he
      have he2 : s.rest ≠ [] := fun h0 => he (.inr h0)
      rw [itemsMore_succ _ _ he1 he2]
      exact (ih _).trans (Built.item.suf s)
theorem items_six : ∀ n (s : St), s.err = 0 → (itemsMore n s).2.err = 6 → (itemsMore n s).2.rest ≠ [] := by
  intro n
  induction n with
  | zero => intro s h0 h; exact absurd (h0.symm.trans h) (by decide)
  | succ n ih =>
    intro s h0 h6
    by_cases he : s.err ≠ 0 ∨ s.rest = []
    · rw [itemsMore_end _ _ he] at h6; exact absurd (h0.symm.trans h6) (by decide)
    · have he2 : s.rest ≠ [] := fun h0 => he (.inr h0)
      rw [itemsMore_succ _ _ h0 he2] at h6 ⊢
      simp only at h6 ⊢
      by_cases he3 : (item s).2.err = 0
      · exact ih _ he3 h6
      · rw [itemsMore_end _ _ (.inl he3)] at h6 ⊢
        exact Built.item.six s h0 h6
theorem items_swap {t : Tok} {vs ws : List Tok} : ∀ n (s s' : St), Tail2 (t :: vs) (t :: ws) s s' → (t :: vs).length ≤ (itemsMore n s).2.rest.length → (itemsMore n s').1 = (itemsMore n s).1 ∧ Tail2 (t :: vs) (t :: ws) (itemsMore n s).2 (itemsMore n s').2 := by
  intro n
  induction n with
  | zero => intro s s' h _; exact ⟨rfl, h⟩
  | succ n ih =>
    intro s s' hs hl
    have hs0 := hs
    obtain ⟨r, h1, h2, h3, h4⟩ := hs0
    have hr : s.rest ≠ [] := by rw [h1]; cases r <;> simp
    have hr' : s'.rest ≠ [] := by rw [h2]; cases r <;> simp
    by_cases he : s.err = 0
    · have he' : s'.err = 0 := by rw [h4]; exact he
      rw [itemsMore_succ _ _ he hr] at hl ⊢
      rw [itemsMore_succ _ _ he' hr']
      simp only at hl ⊢
      obtain ⟨e1, e2⟩ := Built.item.swap s s' hs (Nat.le_trans hl (items_suf n _).length_le)
      obtain ⟨e3, e4⟩ := ih _ _ e2 hl
      rw [e1, e3]
      exact ⟨rfl, e4⟩
    · have he' : s'.err ≠ 0 := by rw [h4]; exact he
      rw [itemsMore_end _ _ (.inl he), itemsMore_end _ _ (.inl he')]
      exact ⟨rfl, hs⟩
theorem items_cut {t : Tok} {vs : List Tok} : ∀ n (s s' : St), Tail1 (t :: vs) s s' → (itemsMore n s).2.rest = t :: vs → (itemsMore n s').2.err = 0 ∨ (itemsMore n s').2.err = 7 := by
  intro n
  induction n with
  | zero =>
    intro s s' ⟨r, h1, h2, h3, h4, h5⟩ hF
    have hF' : s.rest = t :: vs := hF
    rw [h1] at hF'
    have hr : r = [] := by have := congrArg List.length hF'; simp at this; exact this
    left
    show s'.err = 0
    rw [h4]
    by_cases h : s.err = 0
    · exact h
    · exact absurd hr (h5 h)
  | succ n ih =>
    intro s s' hs hF
    have hs0 := hs
    obtain ⟨r, h1, h2, h3, h4, h5⟩ := hs0
    have hr : s.rest ≠ [] := by rw [h1]; cases r <;> simp
    by_cases he : s.err = 0
    · have he' : s'.err = 0 := by rw [h4]; exact he
      cases r with
      | nil => rw [itemsMore_end _ _ (.inr h2)]; exact .inl he'
      | cons a r =>
        rw [itemsMore_succ _ _ he hr] at hF
        rw [itemsMore_succ _ _ he' (by rw [h2]; simp)]
        simp only at hF ⊢
        have hlen : (t :: vs).length ≤ (item s).2.rest.length := by rw [← hF]; exact (items_suf n _).length_le
        rcases Built.item.cut s s' hs hlen with ⟨e1, e2⟩ | ⟨e1, e2, e3⟩
        · exact ih _ _ e2 hF
        · rw [itemsMore_end _ _ (.inr e3)]
          exact .inr e2
    · rw [itemsMore_end _ _ (.inl he)] at hF
      have hF' : s.rest = t :: vs := hF
      rw [h1] at hF'
      have hrn : r = [] := by have := congrArg List.length hF'; simp at this; exact this
      exact absurd hrn (h5 he)
theorem source_long (s : St) (n : Nat) (h : (header s).2.rest.length < n) : (source s).2 = (itemsMore n (header s).2).2 := by
  rw [source_st, items_fueled _ n _ (Nat.lt_succ_self _) h]
/-- The first error of tokens. -/
theorem first_error {ts : List Tok} (he : (source ⟨ts, 0, 0⟩).2.err = 6) : ∃ r t vs, ts = r ++ t :: vs ∧ (source ⟨ts, 0, 0⟩).2.rest = t :: vs ∧ ((source ⟨r, 0, 0⟩).2.err = 0 ∨ (source ⟨r, 0, 0⟩).2.err = 7) ∧
    ∀ ws, (source ⟨r ++ t :: ws, 0, 0⟩).2.err = 6 ∧ (source ⟨r ++ t :: ws, 0, 0⟩).2.rest = t :: ws := by
  obtain ⟨h0, hh0⟩ : ∃ h0, header ⟨ts, 0, 0⟩ = h0 := ⟨_, rfl⟩
  have hst := source_st ⟨ts, 0, 0⟩
  have hs0 := Built.header.suf ⟨ts, 0, 0⟩
  have hsix := Built.header.six ⟨ts, 0, 0⟩ rfl
  rw [hh0] at hst hs0 hsix
  obtain ⟨F, hF⟩ : ∃ F, (source ⟨ts, 0, 0⟩).2 = F := ⟨_, rfl⟩
  rw [hF] at hst he ⊢
  have hne : F.rest ≠ [] := by
    rw [hst] at he ⊢
    by_cases h : h0.2.err = 0
    · exact items_six _ _ h he
    · rw [itemsMore_end _ _ (.inl h)] at he ⊢
      exact hsix he
  have hsu : F.rest <:+ ts := by rw [hst]; exact (items_suf _ _).trans hs0
  obtain ⟨t, vs, hr⟩ : ∃ t vs, F.rest = t :: vs := by cases h : F.rest with | nil => exact absurd h hne | cons t vs => exact ⟨t, vs, rfl⟩
  obtain ⟨r, hts⟩ := hsu
  rw [hr] at hts
  have hle : (t :: vs).length ≤ h0.2.rest.length := by rw [← hr, hst]; exact (items_suf _ _).length_le
  refine ⟨r, t, vs, hts.symm, hr, ?_, fun ws => ?_⟩
  · have hc := Built.header.cut (t := t) (vs := vs) ⟨ts, 0, 0⟩ ⟨r, 0, 0⟩ ⟨r, hts.symm, rfl, rfl, rfl, fun h => absurd rfl h⟩ (by rw [hh0]; exact hle)
    rw [hh0] at hc
    obtain ⟨h1, hh1⟩ : ∃ h1, header ⟨r, 0, 0⟩ = h1 := ⟨_, rfl⟩
    have hst1 := source_long ⟨r, 0, 0⟩ (h0.2.rest.length + h1.2.rest.length + 1)
    rw [hh1] at hc hst1
    rw [hst1 (by omega)]
    rcases hc with ⟨_, e2⟩ | ⟨e1, e2, e3⟩
    · refine items_cut _ _ _ e2 ?_
      rw [items_fueled _ (h0.2.rest.length + 1) _ (by omega) (by omega), ← hst]
      exact hr
    · rw [itemsMore_end _ _ (.inr e3)]
      exact .inr e2
  · have hc := Built.header.swap (t := t) (vs := vs) (ws := ws) ⟨ts, 0, 0⟩ ⟨r ++ t :: ws, 0, 0⟩ ⟨r, hts.symm, rfl, rfl, rfl⟩ (by rw [hh0]; exact hle)
    rw [hh0] at hc
    obtain ⟨h1, hh1⟩ : ∃ h1, header ⟨r ++ t :: ws, 0, 0⟩ = h1 := ⟨_, rfl⟩
    have hst1 := source_long ⟨r ++ t :: ws, 0, 0⟩ (h0.2.rest.length + h1.2.rest.length + 1)
    rw [hh1] at hc hst1
    rw [hst1 (by omega)]
    have hst2 : F = (itemsMore (h0.2.rest.length + h1.2.rest.length + 1) h0.2).2 := by rw [hst, items_fueled _ (h0.2.rest.length + h1.2.rest.length + 1) _ (by omega) (by omega)]
    obtain ⟨_, q, k1, k2, k3, k4⟩ := items_swap (h0.2.rest.length + h1.2.rest.length + 1) _ _ hc.2 (by rw [← hst2, hr]; exact Nat.le_refl _)
    rw [← hst2] at k1 k3 k4
    rw [hr] at k1
    have hq : q = [] := by have := congrArg List.length k1; simp at this; exact this
    subst hq
    exact ⟨k4.trans he, k2⟩

/-- The error and the offset that Parse returns, and the error that Lex returns. -/
def perr (x : Bytes) : Int := match parse x with | .error (e, _) => (e : Int) | .ok _ => 0
def ppos (x : Bytes) : Int := match parse x with | .error (_, p) => p | .ok _ => 0
def lerr (x : Bytes) : Int := match Lx.lex x with | .error (e, _) => (e : Int) | .ok _ => 0
theorem perr_ok {x : Bytes} {ts : List Tok} (h : Lx.lex x = .ok ts) : perr x = ((source ⟨ts, 0, 0⟩).2.err : Int) ∧ ppos x = ((atOf x.length (source ⟨ts, 0, 0⟩).2 : Nat) : Int) := by
  unfold perr ppos parse
  rw [h]
  obtain ⟨X, hX⟩ : ∃ X, source ⟨ts, 0, 0⟩ = X := ⟨_, rfl⟩
  simp only
  rw [hX]
  by_cases he : X.2.err = 0
  · rw [if_pos he]
    simp only [he, atOf, if_true]
    exact ⟨rfl, rfl⟩
  · rw [if_neg he]
    exact ⟨rfl, rfl⟩
theorem lexP_err345 : ∀ (f : Nat) (s : Bytes) (p c : Nat) (e q : Nat), Lx.lexP f s p c = .error (e, q) → e ≤ 5
  | 0, s, p, c, e, q, h => by simp only [Lx.lexP] at h; cases h
  | f + 1, s, p, c, e, q, h => by
    unfold Lx.lexP at h
    split at h
    · cases h
    · split at h
      · rename_i e' he
        injection h with h
        injection h with h1 h2
        have := Lx.tok_err he
        omega
      · split at h
        · injection h with h
          injection h with h1 h2
          omega
        · rename_i k len v _ hc5
          cases hr : Lx.lexP f s (p + len + Lx.gapLen false (s.drop (p + len))) (c + 1) with
          | error x =>
            rw [hr] at h
            simp only [Lx.comb] at h
            injection h with h
            obtain ⟨x1, x2⟩ := x
            injection h with h1 h2
            subst h1
            exact lexP_err345 f s _ _ _ _ hr
          | ok us => rw [hr] at h; simp [Lx.comb] at h
theorem lex_err345 {s : Bytes} {e : Nat} {p : Int} (h : Lx.lex s = .error (e, p)) : e ≤ 5 := by
  unfold Lx.lex at h
  split at h
  · injection h with h
    injection h with h1 h2
    omega
  · split at h
    · rename_i e' p' hu
      injection h with h
      injection h with h1 h2
      subst h1
      exact lexP_err345 _ _ _ _ _ _ hu
    · cases h
theorem perr_lex {x : Bytes} {e : Nat} {p : Int} (h : Lx.lex x = .error (e, p)) : perr x = e ∧ ppos x = p := by
  unfold perr ppos parse
  rw [h]
  exact ⟨rfl, rfl⟩
theorem toks_apart {r vs : List Tok} {t : Tok} {l : Bytes} {p : Nat} (h : Toks (r ++ t :: vs) l p) : (∀ u ∈ r, u.pos < t.pos) ∧ ∀ u ∈ vs, t.pos < u.pos := by
  induction r generalizing l p with
  | nil =>
    obtain ⟨h1, h2, h3, h4⟩ := h
    have hl := tok_len h1
    refine ⟨fun u hu => (by cases hu), fun u hu => ?_⟩
    have := toks_at h4 u hu
    omega
  | cons u r ih =>
    obtain ⟨h1, h2, h3, h4⟩ := h
    have hl := tok_len h1
    obtain ⟨i1, i2⟩ := ih h4
    refine ⟨fun v hv => ?_, i2⟩
    rcases List.mem_cons.1 hv with rfl | hv
    · have := toks_at h4 t (by simp)
      omega
    · exact i1 v hv
theorem first_parse {txt other : Bytes} (hsz : txt.length ≤ 3000) (ho : other.length ≤ 3000) (h : perr txt = 6) : ∃ ts r t vs, Lx.lex txt = .ok ts ∧ ts = r ++ t :: vs ∧ ppos txt = (t.pos : Int) ∧ t.pos + t.text.length ≤ txt.length ∧ (∀ u ∈ r, u.pos < t.pos) ∧ (∀ u ∈ vs, t.pos < u.pos) ∧
    (perr (txt.take t.pos) = 0 ∨ (perr (txt.take t.pos) = 7 ∧ ppos (txt.take t.pos) = (t.pos : Int))) ∧ (lerr (txt.take (t.pos + t.text.length) ++ 32 :: other) ≠ 0 ∨ (perr (txt.take (t.pos + t.text.length) ++ 32 :: other) = 6 ∧ ppos (txt.take (t.pos + t.text.length) ++ 32 :: other) = (t.pos : Int))) := by
  cases hl : Lx.lex txt with
  | error x =>
    obtain ⟨e, p⟩ := x
    have := lex_err345 hl
    rw [(perr_lex hl).1] at h
    omega
  | ok ts =>
    obtain ⟨p1, p2⟩ := perr_ok hl
    have he : (source ⟨ts, 0, 0⟩).2.err = 6 := by rw [p1] at h; omega
    obtain ⟨r, t, vs, hts, hr, hsh, hel⟩ := first_error he
    have hT := Lx.lex_toks hl
    rw [hts] at hT
    have hat := toks_at hT t (by simp)
    have hap := toks_apart hT
    refine ⟨ts, r, t, vs, rfl, hts, ?_, by omega, hap.1, hap.2, ?_, ?_⟩
    · rw [p2]
      unfold atOf
      rw [he, hr]
      rfl
    · have hlen := lex_len hl
      rw [hts, List.length_append] at hlen
      have hT2 := toks_cut hT
      rw [Nat.sub_zero] at hT2
      have hl2 := Lx.toks_lex hT2 (by rw [List.length_take]; omega) (by omega)
      obtain ⟨q1, q2⟩ := perr_ok hl2
      rcases hsh with hsh | hsh
      · left; rw [q1, hsh]; rfl
      · right
        refine ⟨by rw [q1, hsh]; rfl, ?_⟩
        rw [q2]
        unfold atOf
        rw [hsh, List.length_take]
        simp only [Nat.reduceEqDiff, if_false, if_true]
        omega
    · obtain ⟨y, hy⟩ : ∃ y, txt.take (t.pos + t.text.length) ++ 32 :: other = y := ⟨_, rfl⟩
      rw [hy]
      cases hl3 : Lx.lex y with
      | error x =>
        obtain ⟨e, p⟩ := x
        left
        unfold lerr
        rw [hl3]
        have := lex_err_ne hl3
        simp only
        omega
      | ok L =>
        right
        have hT3 := Lx.lex_toks hl3
        rw [← hy] at hT3
        obtain ⟨ws, hL⟩ := toks_else (z := other) hT (by rw [Nat.sub_zero]; exact hT3)
        obtain ⟨q1, q2⟩ := perr_ok hl3
        obtain ⟨k1, k2⟩ := hel ws
        rw [hL] at q1 q2
        refine ⟨by rw [q1, k1]; rfl, ?_⟩
        rw [q2]
        unfold atOf
        rw [k1, k2]
        rfl
end Go.Proofs.YtfaflipphkoiiaaDoor.Pr
