/-
  The tokens of a text as a relation on lists of bytes, and that it is what the plain lexer computes. No condition. Plain laws about the tokens of a text: what a continuation, a beginning, further gaps change. No condition.
-/
import Derived.Test.YtfaflipphkoiiaaDoorLexPlain
namespace Go.Proofs.YtfaflipphkoiiaaDoor.Lx
set_option linter.unusedVariables false

/-- What is left behind the gaps. -/
def skip (l : List UInt8) : List UInt8 := l.drop (gapLen false l)

/-- A text at an offset has these tokens and no error. -/
def Toks : List Tok → List UInt8 → Nat → Prop
  | [], l, _ => skip l = []
  | t :: ts, l, p => tokOf (skip l) = .ok (t.kind, t.text.length, t.n) ∧ t.text = (skip l).take t.text.length ∧ t.pos = p + gapLen false l ∧
      Toks ts ((skip l).drop t.text.length) (t.pos + t.text.length)
/-- A text at an offset has these tokens and then an error at an offset. -/
def Errs (e q : Nat) : List Tok → List UInt8 → Nat → Prop
  | [], l, p => skip l ≠ [] ∧ tokOf (skip l) = .error e ∧ q = p + gapLen false l
  | t :: ts, l, p => tokOf (skip l) = .ok (t.kind, t.text.length, t.n) ∧ t.text = (skip l).take t.text.length ∧ t.pos = p + gapLen false l ∧
      Errs e q ts ((skip l).drop t.text.length) (t.pos + t.text.length)

theorem skip_length (l : List UInt8) : (skip l).length = l.length - gapLen false l := by simp [skip]
theorem gap_all (l : List UInt8) (h : skip l = []) : gapLen false l = l.length := by
  have h1 := congrArg List.length h
  rw [skip_length] at h1
  have h2 := gapLen_le false l
  simp at h1
  omega
theorem tok_len {l : List UInt8} {k len v : Nat} (h : tokOf l = .ok (k, len, v)) : 1 ≤ len ∧ len ≤ l.length := tokOf_len l k len v h
theorem tok_err {l : List UInt8} {e : Nat} (h : tokOf l = .error e) : e = 3 ∨ e = 4 ∨ e = 5 := by
  cases l with
  | nil => simp [tokOf] at h; omega
  | cons c l =>
    simp only [tokOf] at h
    repeat' split at h
    all_goals first | (cases h; done) | (injection h with h; omega)

theorem skip_drop (s : List UInt8) (q : Nat) : skip (s.drop q) = s.drop (q + gapLen false (s.drop q)) := by simp [skip, List.drop_drop]

theorem lexP_toks (s : List UInt8) (f q c : Nat) (ts : List Tok) (hq : q ≤ s.length) (hf : s.length - (q + gapLen false (s.drop q)) < f)
    (h : lexP f s (q + gapLen false (s.drop q)) c = .ok ts) : Toks ts (s.drop q) q := by
  induction f generalizing q c ts with
  | zero => omega
  | succ f ih =>
    have hg := gapLen_le false (s.drop q)
    rw [List.length_drop] at hg
    generalize hp : q + gapLen false (s.drop q) = p at h hf
    by_cases hlt : p < s.length
    · cases ht : tokOf (s.drop p) with
      | error e => rw [lexP_err _ _ _ _ _ hlt ht] at h; cases h
      | ok x =>
        obtain ⟨k, len, v⟩ := x
        have hl := tok_len ht
        rw [List.length_drop] at hl
        by_cases hc : c = 5000
        · subst hc; rw [lexP_full _ _ _ _ hlt ht] at h; cases h
        · rw [lexP_step _ _ _ _ _ _ _ hlt ht hc] at h
          cases hr : lexP f s (p + len + gapLen false (s.drop (p + len))) (c + 1) with
          | error e => rw [hr] at h; simp [comb] at h
          | ok us =>
            rw [hr] at h
            simp only [comb, List.singleton_append] at h
            injection h with h
            subst h
            have hs := skip_drop s q
            rw [hp] at hs
            have htl : ((s.drop p).take len).length = len := by rw [List.length_take, List.length_drop]; omega
            simp only [Toks, hs, htl]
            refine ⟨ht, trivial, hp.symm, ?_⟩
            have := ih (p + len) (c + 1) us (by omega) (by omega) hr
            rwa [List.drop_drop]
    · rw [lexP_end _ _ _ _ (by omega)] at h
      injection h with h
      subst h
      simp only [Toks, skip_drop, hp]
      exact List.drop_eq_nil_of_le (by omega)

theorem toks_lexP (s : List UInt8) (f q c : Nat) (ts : List Tok) (hq : q ≤ s.length) (hf : s.length - (q + gapLen false (s.drop q)) < f) (hc : c + ts.length ≤ 5000)
    (h : Toks ts (s.drop q) q) : lexP f s (q + gapLen false (s.drop q)) c = .ok ts := by
  induction ts generalizing f q c with
  | nil =>
    obtain ⟨f, rfl⟩ : ∃ g, f = g + 1 := ⟨f - 1, by omega⟩
    simp only [Toks, skip_drop] at h
    have := congrArg List.length h
    rw [List.length_drop] at this
    simp at this
    exact lexP_end _ _ _ _ (by omega)
  | cons t ts ih =>
    obtain ⟨f, rfl⟩ : ∃ g, f = g + 1 := ⟨f - 1, by omega⟩
    obtain ⟨h1, h2, h3, h4⟩ := h
    have hg := gapLen_le false (s.drop q)
    rw [List.length_drop] at hg
    rw [skip_drop, ← h3] at h1 h2 h4
    rw [← h3] at hf ⊢
    have hl := tok_len h1
    rw [List.length_drop] at hl
    have hlt : t.pos < s.length := by omega
    simp only [List.length_cons] at hc
    rw [lexP_step _ _ _ _ _ _ _ hlt h1 (by omega)]
    rw [List.drop_drop] at h4
    rw [ih f (t.pos + t.text.length) (c + 1) (by omega) (by have := gapLen_le false (s.drop (t.pos + t.text.length)); omega) (by omega) h4]
    simp only [comb, List.singleton_append, ← h2]

theorem lexP_errs (s : List UInt8) (f q c e r : Nat) (hq : q ≤ s.length) (hf : s.length - (q + gapLen false (s.drop q)) < f) (hc : c + (s.length - (q + gapLen false (s.drop q))) ≤ 5000)
    (h : lexP f s (q + gapLen false (s.drop q)) c = .error (e, r)) : ∃ ts, Errs e r ts (s.drop q) q := by
  induction f generalizing q c with
  | zero => omega
  | succ f ih =>
    have hg := gapLen_le false (s.drop q)
    rw [List.length_drop] at hg
    have hs := skip_drop s q
    generalize hp : q + gapLen false (s.drop q) = p at h hf hc hs
    by_cases hlt : p < s.length
    · cases ht : tokOf (s.drop p) with
      | error e' =>
        rw [lexP_err _ _ _ _ _ hlt ht] at h
        injection h with h
        simp only [Prod.mk.injEq] at h
        obtain ⟨rfl, rfl⟩ := h
        refine ⟨[], ?_⟩
        simp only [Errs, hs]
        refine ⟨?_, ht, hp.symm⟩
        intro hn
        have := congrArg List.length hn
        rw [List.length_drop] at this
        simp at this
        omega
      | ok x =>
        obtain ⟨k, len, v⟩ := x
        have hl := tok_len ht
        rw [List.length_drop] at hl
        by_cases hc' : c = 5000
        · omega
        · rw [lexP_step _ _ _ _ _ _ _ hlt ht hc'] at h
          cases hr : lexP f s (p + len + gapLen false (s.drop (p + len))) (c + 1) with
          | ok us => rw [hr] at h; simp [comb] at h
          | error e' =>
            rw [hr] at h
            simp only [comb] at h
            injection h with h
            subst h
            obtain ⟨ts, hts⟩ := ih (p + len) (c + 1) (by omega) (by omega) (by omega) hr
            have htl : ((s.drop p).take len).length = len := by rw [List.length_take, List.length_drop]; omega
            refine ⟨⟨k, (s.drop p).take len, v, p⟩ :: ts, ?_⟩
            simp only [Errs, hs, htl]
            refine ⟨ht, trivial, hp.symm, ?_⟩
            rwa [List.drop_drop]
    · rw [lexP_end _ _ _ _ (by omega)] at h; cases h

theorem errs_lexP (s : List UInt8) (f q c e r : Nat) (ts : List Tok) (hq : q ≤ s.length) (hf : s.length - (q + gapLen false (s.drop q)) < f) (hc : c + ts.length ≤ 5000)
    (h : Errs e r ts (s.drop q) q) : lexP f s (q + gapLen false (s.drop q)) c = .error (e, r) := by
  induction ts generalizing f q c with
  | nil =>
    obtain ⟨f, rfl⟩ : ∃ g, f = g + 1 := ⟨f - 1, by omega⟩
    simp only [Errs, skip_drop] at h
    obtain ⟨h1, h2, h3⟩ := h
    subst h3
    have hlt : q + gapLen false (s.drop q) < s.length := by
      rcases Nat.lt_or_ge (q + gapLen false (s.drop q)) s.length with hlt | hge
      · exact hlt
      · exact absurd (List.drop_eq_nil_of_le hge) h1
    exact lexP_err _ _ _ _ _ hlt h2
  | cons t ts ih =>
    obtain ⟨f, rfl⟩ : ∃ g, f = g + 1 := ⟨f - 1, by omega⟩
    obtain ⟨h1, h2, h3, h4⟩ := h
    have hg := gapLen_le false (s.drop q)
    rw [List.length_drop] at hg
    rw [skip_drop, ← h3] at h1 h2 h4
    rw [← h3] at hf ⊢
    have hl := tok_len h1
    rw [List.length_drop] at hl
    have hlt : t.pos < s.length := by omega
    simp only [List.length_cons] at hc
    rw [lexP_step _ _ _ _ _ _ _ hlt h1 (by omega)]
    rw [List.drop_drop] at h4
    rw [ih f (t.pos + t.text.length) (c + 1) (by omega) (by have := gapLen_le false (s.drop (t.pos + t.text.length)); omega) (by omega) h4]
    simp only [comb]

theorem lex_toks {s : List UInt8} {ts : List Tok} (h : lex s = .ok ts) : Toks ts s 0 := by
  unfold lex at h
  split at h
  · cases h
  · have hg := gapLen_le false s
    cases hl : lexP (s.length + 1) s (gapLen false s) 0 with
    | error x => obtain ⟨e, p⟩ := x; rw [hl] at h; cases h
    | ok us =>
      rw [hl] at h
      injection h with h
      subst h
      exact lexP_toks s (s.length + 1) 0 0 us (by omega) (by simp; omega) (by simpa using hl)
theorem toks_lex {s : List UInt8} {ts : List Tok} (h : Toks ts s 0) (h1 : s.length ≤ 20000) (h2 : ts.length ≤ 5000) : lex s = .ok ts := by
  have := toks_lexP s (s.length + 1) 0 0 ts (by omega) (by simp; omega) (by omega) h
  simp only [List.drop_zero, Nat.zero_add] at this
  unfold lex
  rw [if_neg (by omega), this]
theorem lex_errs {s : List UInt8} {e : Nat} {q : Int} (h : lex s = .error (e, q)) (h1 : s.length ≤ 5000) : ∃ ts r, q = ((r : Nat) : Int) ∧ Errs e r ts s 0 := by
  unfold lex at h
  rw [if_neg (by omega)] at h
  cases hl : lexP (s.length + 1) s (gapLen false s) 0 with
  | ok us => rw [hl] at h; cases h
  | error x =>
    obtain ⟨e', p⟩ := x
    rw [hl] at h
    injection h with h
    simp only [Prod.mk.injEq] at h
    obtain ⟨rfl, rfl⟩ := h
    obtain ⟨ts, hts⟩ := lexP_errs s (s.length + 1) 0 0 e' p (by omega) (by simp; omega) (by simp; omega) (by simpa using hl)
    exact ⟨ts, p, rfl, hts⟩
theorem errs_lex {s : List UInt8} {e r : Nat} {ts : List Tok} (h : Errs e r ts s 0) (h1 : s.length ≤ 20000) (h2 : ts.length ≤ 5000) : lex s = .error (e, (r : Int)) := by
  have := errs_lexP s (s.length + 1) 0 0 e r ts (by omega) (by simp; omega) (by omega) h
  simp only [List.drop_zero, Nat.zero_add] at this
  unfold lex
  rw [if_neg (by omega), this]

theorem toks_len {ts : List Tok} {l : List UInt8} {p : Nat} (h : Toks ts l p) : ts.length ≤ l.length := by
  induction ts generalizing l p with
  | nil => simp
  | cons t ts ih =>
    obtain ⟨h1, h2, h3, h4⟩ := h
    have hl := tok_len h1
    have := ih h4
    have hs := skip_length l
    rw [List.length_drop] at this
    simp only [List.length_cons]
    omega
theorem errs_len {ts : List Tok} {l : List UInt8} {p e q : Nat} (h : Errs e q ts l p) : ts.length < l.length ∧ p ≤ q ∧ q < p + l.length ∧ (e = 3 ∨ e = 4 ∨ e = 5) := by
  induction ts generalizing l p with
  | nil =>
    obtain ⟨h1, h2, h3⟩ := h
    have hs := skip_length l
    have : 0 < (skip l).length := List.length_pos_iff.2 h1
    have := tok_err h2
    simp only [List.length_nil]
    omega
  | cons t ts ih =>
    obtain ⟨h1, h2, h3, h4⟩ := h
    have hl := tok_len h1
    have := ih h4
    have hs := skip_length l
    rw [List.length_drop] at this
    simp only [List.length_cons]
    omega
theorem gapLen_take (b : Bool) (l : List UInt8) (n : Nat) : gapLen b (l.take n) = min (gapLen b l) n := by
  induction l generalizing b n with
  | nil => simp [gapLen]
  | cons c l ih =>
    cases n with
    | zero => simp [gapLen]
    | succ n =>
      rw [List.take_succ_cons]
      simp only [gapLen]
      repeat' split
      all_goals first | (rw [ih]; omega) | omega
end Go.Proofs.YtfaflipphkoiiaaDoor.Lx
namespace Go.Proofs.YtfaflipphkoiiaaDoor.Lx
set_option linter.unusedVariables false

/-- A byte that ends names and numbers. -/
def ends (c : UInt8) : Prop := isWord c = false ∧ c.toNat ≠ 46
theorem ends_digit {c : UInt8} (h : ends c) : isDigit c = false := by
  have := h.1
  cases hd : isDigit c with
  | false => rfl
  | true => simp [isWord, hd] at this
theorem ends32 : ends 32 := ⟨by decide, by decide⟩
theorem ends10 : ends 10 := ⟨by decide, by decide⟩
theorem ends45 : ends 45 := ⟨by decide, by decide⟩

theorem nameByte_app (x : List UInt8) (c : UInt8) (z : List UInt8) (h : ends c) : nameByte (x ++ c :: z) = nameByte x := by
  match x with
  | [] => simp [nameByte, h.1, h.2]
  | [a] => simp [nameByte, h.1]
  | a :: b :: r => simp [nameByte]
theorem nameLen_app (x : List UInt8) (c : UInt8) (z : List UInt8) (h : ends c) : nameLen (x ++ c :: z) = nameLen x := by
  induction x with
  | nil => simp [nameLen, nameByte, h.1, h.2]
  | cons a x ih =>
    have := nameByte_app (a :: x) c z h
    rw [List.cons_append] at this
    rw [List.cons_append, nameLen, nameLen, this, ih]
theorem numLen_app (x : List UInt8) (c : UInt8) (z : List UInt8) (h : isDigit c = false) : numLen (x ++ c :: z) = numLen x := by
  induction x with
  | nil => simp [numLen, h]
  | cons a x ih => rw [List.cons_append, numLen, numLen, ih]
theorem wordAt_app (x : List UInt8) (c : UInt8) (z : List UInt8) (h : isWord c = false) : wordAt (x ++ c :: z) = wordAt x := by
  cases x with
  | nil => simp [wordAt, h]
  | cons a x => simp [wordAt]
theorem tokOf_app (l : List UInt8) (c : UInt8) (z : List UInt8) (h : ends c) (hl : l ≠ []) : tokOf (l ++ c :: z) = tokOf l := by
  cases l with
  | nil => exact absurd rfl hl
  | cons a l =>
    have h1 := nameLen_app (a :: l) c z h
    have h2 := numLen_app (a :: l) c z (ends_digit h)
    have h3 := numLen_le (a :: l)
    rw [List.cons_append] at h1 h2
    have h4 : (a :: (l ++ c :: z)).drop (numLen (a :: l)) = (a :: l).drop (numLen (a :: l)) ++ c :: z := by
      rw [← List.cons_append, List.drop_append_of_le_length h3]
    have h5 : (a :: (l ++ c :: z)).take (numLen (a :: l)) = (a :: l).take (numLen (a :: l)) := by
      rw [← List.cons_append, List.take_append_of_le_length h3]
    simp only [List.cons_append, tokOf, h1, h2, h4, h5, wordAt_app _ _ _ h.1]

theorem nameByte_take (x : List UInt8) (n : Nat) (h : nameByte x = false) : nameByte (x.take n) = false := by
  match x, n with
  | [], _ => simp [nameByte]
  | a :: r, 0 => simp [nameByte]
  | [a], n + 1 => simpa using h
  | a :: b :: r, 1 => simp [nameByte] at h ⊢; exact h.1
  | a :: b :: r, n + 2 => simpa [nameByte] using h
theorem wordAt_take (x : List UInt8) (n : Nat) (h : wordAt x = false) : wordAt (x.take n) = false := by
  match x, n with
  | [], _ => simp [wordAt]
  | a :: r, 0 => simp [wordAt]
  | a :: r, n + 1 => simpa [wordAt] using h
theorem nameByte_next (a : UInt8) (l : List UInt8) (h : nameByte (a :: l) = true) : isWord a = true ∨ (a.toNat = 46 ∧ ∃ b r, l = b :: r ∧ isWord b = true) := by
  cases hw : isWord a with
  | true => exact .inl rfl
  | false =>
    right
    cases l with
    | nil => simp [nameByte, hw] at h
    | cons b r => simp [nameByte, hw] at h; exact ⟨h.1, b, r, rfl, h.2⟩
/-- A name is known from its own bytes, if what follows does not go on with it. -/
theorem nameLen_same (l l' : List UInt8) (hn : l'.take (nameLen l) = l.take (nameLen l)) (hs : nameByte (l'.drop (nameLen l)) = false) : nameLen l' = nameLen l := by
  induction l generalizing l' with
  | nil =>
    simp only [nameLen, List.drop_zero] at hs ⊢
    cases l' with
    | nil => rfl
    | cons a r => simp [nameLen, hs]
  | cons a l ih =>
    by_cases hb : nameByte (a :: l) = true
    · have e : nameLen (a :: l) = nameLen l + 1 := by rw [nameLen, if_pos hb]
      rw [e] at hn hs ⊢
      cases l' with
      | nil => simp at hn
      | cons a' r =>
        simp only [List.take_succ_cons, List.cons.injEq, List.drop_succ_cons] at hn hs
        obtain ⟨rfl, hn⟩ := hn
        have hr := ih r hn hs
        have hb' : nameByte (a' :: r) = true := by
          rcases nameByte_next _ _ hb with hw | ⟨h46, b, l2, rfl, hw⟩
          · simp [nameByte, hw]
          · have : nameLen (b :: l2) = nameLen l2 + 1 := by rw [nameLen, if_pos (by simp [nameByte, hw])]
            rw [this] at hn
            cases r with
            | nil => simp at hn
            | cons b' r2 =>
              simp only [List.take_succ_cons, List.cons.injEq] at hn
              obtain ⟨rfl, _⟩ := hn
              simp [nameByte, h46, hw]
        rw [nameLen, if_pos hb', hr]
    · have e : nameLen (a :: l) = 0 := by rw [nameLen, if_neg hb]
      rw [e] at hs ⊢
      simp only [List.drop_zero] at hs
      cases l' with
      | nil => rfl
      | cons a' r => rw [nameLen, if_neg (by rw [hs]; simp)]
theorem numLen_same (l l' : List UInt8) (hn : l'.take (numLen l) = l.take (numLen l)) (hs : wordAt (l'.drop (numLen l)) = false) : numLen l' = numLen l := by
  induction l generalizing l' with
  | nil =>
    simp only [numLen, List.drop_zero] at hs ⊢
    cases l' with
    | nil => rfl
    | cons a r =>
      have : isDigit a = false := by
        cases hd : isDigit a with
        | false => rfl
        | true => simp [wordAt, isWord, hd] at hs
      simp [numLen, this]
  | cons a l ih =>
    by_cases hb : isDigit a = true
    · have e : numLen (a :: l) = numLen l + 1 := by rw [numLen, if_pos hb]
      rw [e] at hn hs ⊢
      cases l' with
      | nil => simp at hn
      | cons a' r =>
        simp only [List.take_succ_cons, List.cons.injEq, List.drop_succ_cons] at hn hs
        obtain ⟨rfl, hn⟩ := hn
        rw [numLen, if_pos hb, ih r hn hs]
    · have e : numLen (a :: l) = 0 := by rw [numLen, if_neg hb]
      rw [e] at hs ⊢
      simp only [List.drop_zero] at hs
      cases l' with
      | nil => rfl
      | cons a' r =>
        have : isDigit a' = false := by
          cases hd : isDigit a' with
          | false => rfl
          | true => simp [wordAt, isWord, hd] at hs
        simp [numLen, this]
theorem nameLen_end (l : List UInt8) : nameByte (l.drop (nameLen l)) = false := by
  rcases Nat.lt_or_ge (nameLen l) l.length with h | h
  · exact nameLen_no l h
  · rw [List.drop_eq_nil_of_le h]; rfl

/-- What a token asks of the bytes behind it. -/
theorem tokOf_same {l l' : List UInt8} {k len v : Nat} (h : tokOf l = .ok (k, len, v)) (hn : l'.take len = l.take len)
    (hs : nameByte (l.drop len) = false → nameByte (l'.drop len) = false) (hw : wordAt (l.drop len) = false → wordAt (l'.drop len) = false) : tokOf l' = .ok (k, len, v) := by
  have htl := tok_len h
  cases l with
  | nil => simp [tokOf] at h
  | cons a l =>
    cases l' with
    | nil =>
      have := congrArg List.length hn
      simp at this
      omega
    | cons a' l' =>
      have ha : a' = a := by
        obtain ⟨n, rfl⟩ : ∃ n, len = n + 1 := ⟨len - 1, by omega⟩
        simp only [List.take_succ_cons, List.cons.injEq] at hn
        exact hn.1
      subst ha
      simp only [tokOf] at h ⊢
      by_cases hl : isLetter a' = true
      · rw [if_pos hl] at h ⊢
        by_cases h24 : 24 < nameLen (a' :: l)
        · rw [if_pos h24] at h; cases h
        · rw [if_neg h24] at h
          injection h with h
          simp only [Prod.mk.injEq] at h
          obtain ⟨rfl, rfl, rfl⟩ := h
          rw [nameLen_same _ _ hn (hs (nameLen_end _)), if_neg h24]
      · rw [if_neg hl] at h ⊢
        by_cases hd : isDigit a' = true
        · rw [if_pos hd] at h ⊢
          by_cases hb : 12 < numLen (a' :: l) ∨ wordAt ((a' :: l).drop (numLen (a' :: l))) = true
          · rw [if_pos hb] at h; cases h
          · rw [if_neg hb] at h
            injection h with h
            simp only [Prod.mk.injEq] at h
            obtain ⟨rfl, rfl, rfl⟩ := h
            have hb2 : wordAt ((a' :: l).drop (numLen (a' :: l))) = false := by
              cases hx : wordAt ((a' :: l).drop (numLen (a' :: l))) with
              | false => rfl
              | true => exact absurd (.inr hx) hb
            have hwf := hw hb2
            rw [numLen_same _ _ hn hwf, hn, if_neg ?_]
            rintro (h1 | h1)
            · exact hb (.inl h1)
            · rw [hwf] at h1; cases h1
        · rw [if_neg hd] at h ⊢
          exact h
theorem tokOf_take {l : List UInt8} {k len v m : Nat} (h : tokOf l = .ok (k, len, v)) (hm : len ≤ m) : tokOf (l.take m) = .ok (k, len, v) := by
  refine tokOf_same h (by rw [List.take_take]; congr 1; omega) (fun hh => ?_) (fun hh => ?_)
  · rw [List.drop_take]; exact nameByte_take _ _ hh
  · rw [List.drop_take]; exact wordAt_take _ _ hh
theorem nameByte_two (x o : List UInt8) (n : Nat) (h : 2 ≤ n) (hx : n ≤ x.length) (hb : nameByte x = false) : nameByte (x.take n ++ o) = false := by
  match x, n with
  | [], _ => simp at hx; omega
  | [a], n => simp at hx; omega
  | a :: b :: r, 0 => omega
  | a :: b :: r, 1 => omega
  | a :: b :: r, n + 2 => simpa [nameByte] using hb
theorem wordAt_two (x o : List UInt8) (n : Nat) (h : 2 ≤ n) (hx : n ≤ x.length) (hb : wordAt x = false) : wordAt (x.take n ++ o) = false := by
  match x, n with
  | [], _ => simp at hx; omega
  | a :: r, 0 => omega
  | a :: r, n + 1 => simpa [wordAt] using hb
theorem tokOf_two {l o : List UInt8} {k len v m : Nat} (h : tokOf l = .ok (k, len, v)) (hm : len + 2 ≤ m) (hl : m ≤ l.length) : tokOf (l.take m ++ o) = .ok (k, len, v) := by
  have e1 : (l.take m).length = m := by rw [List.length_take]; omega
  have e2 : (l.take m ++ o).drop len = (l.drop len).take (m - len) ++ o := by
    rw [List.drop_append_of_le_length (by omega), List.drop_take]
  refine tokOf_same h ?_ (fun hh => ?_) (fun hh => ?_)
  · rw [List.take_append_of_le_length (by omega), List.take_take]; congr 1; omega
  · rw [e2]; exact nameByte_two _ _ _ (by omega) (by rw [List.length_drop]; omega) hh
  · rw [e2]; exact wordAt_two _ _ _ (by omega) (by rw [List.length_drop]; omega) hh

/-- The first byte behind the gaps is no gap. -/
theorem skip_head (b : Bool) (l : List UInt8) (c : UInt8) (r : List UInt8) (h : l.drop (gapLen b l) = c :: r) : c.toNat ≠ 32 ∧ c.toNat ≠ 9 ∧ c.toNat ≠ 10 ∧ c.toNat ≠ 35 := by
  induction l generalizing b with
  | nil => simp at h
  | cons a l ih =>
    by_cases h10 : a.toNat = 10
    · simp [gapLen, h10] at h; exact ih _ h
    · by_cases h35 : a.toNat = 35
      · simp [gapLen, h35] at h; exact ih _ h
      · cases b with
        | true => simp [gapLen, h10, h35] at h; exact ih _ h
        | false =>
          by_cases h32 : a.toNat = 32
          · simp [gapLen, h32] at h; exact ih _ h
          · by_cases h9 : a.toNat = 9
            · simp [gapLen, h9] at h; exact ih _ h
            · simp [gapLen, h10, h35, h32, h9] at h
              obtain ⟨rfl, rfl⟩ := h
              exact ⟨h32, h9, h10, h35⟩
theorem gapLen_append_lt (b : Bool) (l m : List UInt8) (h : gapLen b l < l.length) : gapLen b (l ++ m) = gapLen b l := by
  induction l generalizing b with
  | nil => simp at h
  | cons a l ih =>
    rw [List.cons_append]
    simp only [gapLen, List.length_cons] at h ⊢
    repeat' split
    all_goals first | rfl | (rw [ih]; simp_all)
theorem gapLen_append_all (b : Bool) (l : List UInt8) (h : gapLen b l = l.length) : ∃ b', ∀ m, gapLen b (l ++ m) = l.length + gapLen b' m := by
  induction l generalizing b with
  | nil => exact ⟨b, fun m => by simp⟩
  | cons a l ih =>
    simp only [gapLen, List.length_cons] at h
    by_cases h10 : a.toNat = 10
    · simp only [h10, if_true] at h
      obtain ⟨b', hb⟩ := ih false (by omega)
      exact ⟨b', fun m => by simp only [List.cons_append, gapLen, h10, if_true, hb, List.length_cons]; omega⟩
    · by_cases h35 : a.toNat = 35
      · simp only [h35, if_true] at h
        have h' : gapLen true l = l.length := by simpa using h
        obtain ⟨b', hb⟩ := ih true h'
        exact ⟨b', fun m => by simp only [List.cons_append, gapLen, h35, if_true, hb, List.length_cons]; simp; omega⟩
      · cases b with
        | true =>
          simp [h10, h35] at h
          obtain ⟨b', hb⟩ := ih true h
          exact ⟨b', fun m => by simp [gapLen, h10, h35, hb]; omega⟩
        | false =>
          by_cases h32 : a.toNat = 32 ∨ a.toNat = 9
          · simp [h10, h35, h32] at h
            obtain ⟨b', hb⟩ := ih false h
            exact ⟨b', fun m => by simp [gapLen, h10, h35, h32, hb]; omega⟩
          · simp [h10, h35, h32] at h
theorem gapLen_lf_any (b : Bool) (z : List UInt8) : gapLen b (10 :: z) = gapLen false z + 1 := by simp [gapLen]
theorem gapLen_append_lf (b : Bool) (l z : List UInt8) (h : gapLen b l = l.length) : gapLen b (l ++ 10 :: z) = l.length + 1 + gapLen false z := by
  obtain ⟨b', hb⟩ := gapLen_append_all b l h
  rw [hb, gapLen_lf_any]; omega
theorem gapLen_blank_lf (b : Bool) (z : List UInt8) : gapLen b (32 :: 10 :: z) = gapLen false z + 2 := by cases b <;> simp [gapLen]
theorem skip_append_lf (l z : List UInt8) (h : skip l = []) : skip (l ++ 10 :: z) = skip z := by
  have hg := gap_all l h
  unfold skip
  rw [gapLen_append_lf false l z hg, show l.length + 1 + gapLen false z = l.length + (1 + gapLen false z) by omega, ← List.drop_drop, List.drop_left, Nat.add_comm 1, List.drop_succ_cons]
theorem skip_append_lt (l m : List UInt8) (h : skip l ≠ []) : skip (l ++ m) = skip l ++ m ∧ gapLen false (l ++ m) = gapLen false l := by
  have h0 := gapLen_le false l
  have h1 : gapLen false l < l.length := by
    rcases Nat.lt_or_ge (gapLen false l) l.length with h' | h'
    · exact h'
    · exact absurd (List.drop_eq_nil_of_le h') h
  have h2 := gapLen_append_lt false l m h1
  unfold skip
  rw [h2, List.drop_append_of_le_length (by omega)]
  exact ⟨rfl, rfl⟩

theorem toks_congr {ts : List Tok} {l l' : List UInt8} {p p' : Nat} (hs : skip l = skip l') (hp : p + gapLen false l = p' + gapLen false l') (h : Toks ts l p) : Toks ts l' p' := by
  cases ts with
  | nil => simp only [Toks] at h ⊢; rw [← hs]; exact h
  | cons t ts =>
    obtain ⟨h1, h2, h3, h4⟩ := h
    simp only [Toks, ← hs]
    exact ⟨h1, h2, by omega, h4⟩
theorem errs_congr {ts : List Tok} {l l' : List UInt8} {p p' e q : Nat} (hs : skip l = skip l') (hp : p + gapLen false l = p' + gapLen false l') (h : Errs e q ts l p) : Errs e q ts l' p' := by
  cases ts with
  | nil => obtain ⟨h1, h2, h3⟩ := h; simp only [Errs, ← hs]; exact ⟨h1, h2, by omega⟩
  | cons t ts =>
    obtain ⟨h1, h2, h3, h4⟩ := h
    simp only [Errs, ← hs]
    exact ⟨h1, h2, by omega, h4⟩
/-- Moved to another offset. -/
def moved (d : Nat) (t : Tok) : Tok := { t with pos := t.pos + d }
theorem toks_shift {ts : List Tok} {l : List UInt8} {p : Nat} (d : Nat) (h : Toks ts l p) : Toks (ts.map (moved d)) l (p + d) := by
  induction ts generalizing l p with
  | nil => exact h
  | cons t ts ih =>
    obtain ⟨h1, h2, h3, h4⟩ := h
    refine ⟨h1, h2, ?_, ?_⟩
    · show t.pos + d = _; omega
    · have := ih h4
      show Toks _ _ (t.pos + d + t.text.length)
      rwa [show t.pos + d + t.text.length = t.pos + t.text.length + d by omega]
theorem errs_shift {ts : List Tok} {l : List UInt8} {p e q : Nat} (d : Nat) (h : Errs e q ts l p) : Errs e (q + d) (ts.map (moved d)) l (p + d) := by
  induction ts generalizing l p with
  | nil => obtain ⟨h1, h2, h3⟩ := h; exact ⟨h1, h2, by omega⟩
  | cons t ts ih =>
    obtain ⟨h1, h2, h3, h4⟩ := h
    refine ⟨h1, h2, ?_, ?_⟩
    · show t.pos + d = _; omega
    · have := ih h4
      show Errs _ _ _ _ (t.pos + d + t.text.length)
      rwa [show t.pos + d + t.text.length = t.pos + t.text.length + d by omega]
theorem skip_ne {l : List UInt8} {k len v : Nat} (h : tokOf (skip l) = .ok (k, len, v)) : skip l ≠ [] := by
  intro h0; rw [h0] at h; simp [tokOf] at h

/-- Two texts with a line feed between them. -/
theorem toks_lf {ts us : List Tok} {l z : List UInt8} {p : Nat} (h : Toks ts l p) (hz : Toks us z (p + l.length + 1)) : Toks (ts ++ us) (l ++ 10 :: z) p := by
  induction ts generalizing l p with
  | nil =>
    simp only [Toks] at h
    have hg := gap_all l h
    rw [List.nil_append]
    refine toks_congr (skip_append_lf l z h).symm ?_ hz
    rw [gapLen_append_lf false l z hg]; omega
  | cons t ts ih =>
    obtain ⟨h1, h2, h3, h4⟩ := h
    obtain ⟨e1, e2⟩ := skip_append_lt l (10 :: z) (skip_ne h1)
    have hl := tok_len h1
    have hsl := skip_length l
    simp only [List.cons_append, Toks, e1, e2]
    refine ⟨by rw [tokOf_app _ _ _ ends10 (skip_ne h1)]; exact h1, ?_, h3, ?_⟩
    · rw [List.take_append_of_le_length (by omega)]; exact h2
    · rw [List.drop_append_of_le_length (by omega)]
      refine ih h4 ?_
      rwa [show t.pos + t.text.length + ((skip l).drop t.text.length).length + 1 = p + l.length + 1 by rw [List.length_drop]; omega]
theorem toks_errs_lf {ts us : List Tok} {l z : List UInt8} {p e q : Nat} (h : Toks ts l p) (hz : Errs e q us z (p + l.length + 1)) : Errs e q (ts ++ us) (l ++ 10 :: z) p := by
  induction ts generalizing l p with
  | nil =>
    simp only [Toks] at h
    have hg := gap_all l h
    rw [List.nil_append]
    refine errs_congr (skip_append_lf l z h).symm ?_ hz
    rw [gapLen_append_lf false l z hg]; omega
  | cons t ts ih =>
    obtain ⟨h1, h2, h3, h4⟩ := h
    obtain ⟨e1, e2⟩ := skip_append_lt l (10 :: z) (skip_ne h1)
    have hl := tok_len h1
    have hsl := skip_length l
    simp only [List.cons_append, Errs, e1, e2]
    refine ⟨by rw [tokOf_app _ _ _ ends10 (skip_ne h1)]; exact h1, ?_, h3, ?_⟩
    · rw [List.take_append_of_le_length (by omega)]; exact h2
    · rw [List.drop_append_of_le_length (by omega)]
      refine ih h4 ?_
      rwa [show t.pos + t.text.length + ((skip l).drop t.text.length).length + 1 = p + l.length + 1 by rw [List.length_drop]; omega]
theorem errs_lf {ts : List Tok} {l : List UInt8} (z : List UInt8) {p e q : Nat} (h : Errs e q ts l p) : Errs e q ts (l ++ 10 :: z) p := by
  induction ts generalizing l p with
  | nil =>
    obtain ⟨h1, h2, h3⟩ := h
    obtain ⟨e1, e2⟩ := skip_append_lt l (10 :: z) h1
    simp only [Errs, e1, e2]
    exact ⟨by simp, by rw [tokOf_app _ _ _ ends10 h1]; exact h2, h3⟩
  | cons t ts ih =>
    obtain ⟨h1, h2, h3, h4⟩ := h
    obtain ⟨e1, e2⟩ := skip_append_lt l (10 :: z) (skip_ne h1)
    have hl := tok_len h1
    simp only [Errs, e1, e2]
    refine ⟨by rw [tokOf_app _ _ _ ends10 (skip_ne h1)]; exact h1, ?_, h3, ?_⟩
    · rw [List.take_append_of_le_length (by omega)]; exact h2
    · rw [List.drop_append_of_le_length (by omega)]
      exact ih h4

/-- The text before the error has the tokens before it. -/
theorem errs_take {ts : List Tok} {l : List UInt8} {p e q : Nat} (h : Errs e q ts l p) : Toks ts (l.take (q - p)) p := by
  induction ts generalizing l p with
  | nil =>
    obtain ⟨h1, h2, h3⟩ := h
    have h0 := gapLen_le false l
    simp only [Toks, skip, gapLen_take]
    apply List.drop_eq_nil_of_le
    rw [List.length_take]; omega
  | cons t ts ih =>
    obtain ⟨h1, h2, h3, h4⟩ := h
    obtain ⟨_, b1, b2, _⟩ := errs_len h4
    have hl := tok_len h1
    have hsl := skip_length l
    have h0 := gapLen_le false l
    rw [List.length_drop] at b2
    have e2 : gapLen false (l.take (q - p)) = gapLen false l := by rw [gapLen_take]; omega
    have e1 : skip (l.take (q - p)) = (skip l).take (q - t.pos) := by
      unfold skip; rw [e2, List.drop_take]; congr 1; omega
    simp only [Toks, e1, e2]
    refine ⟨tokOf_take h1 (by omega), by rw [List.take_take, show min t.text.length (q - t.pos) = t.text.length by omega]; exact h2, h3, ?_⟩
    rw [List.drop_take, show q - t.pos - t.text.length = q - (t.pos + t.text.length) by omega]
    exact ih h4
theorem tokOf_char (l l' : List UInt8) (h : tokOf l = .error 4) (hl : l ≠ []) (h1 : l'.take 1 = l.take 1) : tokOf l' = .error 4 := by
  cases l with
  | nil => exact absurd rfl hl
  | cons a l =>
    cases l' with
    | nil => simp at h1
    | cons a' l' =>
      simp at h1
      subst h1
      simp only [tokOf] at h ⊢
      repeat' split at h
      all_goals first | (cases h; done) | (injection h with h; omega) | skip
      simp_all
/-- At a byte that begins no token the rest of the text matters no more than its next byte. -/
theorem errs_two {ts : List Tok} {l o : List UInt8} {p q : Nat} (h : Errs 4 q ts l p) (hq : q - p + 2 ≤ l.length) : Errs 4 q ts (l.take (q - p + 2) ++ o) p := by
  induction ts generalizing l p with
  | nil =>
    obtain ⟨h1, h2, h3⟩ := h
    have h0 := gapLen_le false l
    have hsl := skip_length l
    have ht : (l.take (q - p + 2)).length = q - p + 2 := by rw [List.length_take]; omega
    have e3 : gapLen false (l.take (q - p + 2)) = gapLen false l := by rw [gapLen_take]; omega
    have e4 : skip (l.take (q - p + 2)) = (skip l).take 2 := by unfold skip; rw [e3, List.drop_take]; congr 1; omega
    have hne : skip (l.take (q - p + 2)) ≠ [] := by
      intro hn
      rw [e4] at hn
      have := congrArg List.length hn
      rw [List.length_take, List.length_nil] at this
      omega
    obtain ⟨e1, e2⟩ := skip_append_lt (l.take (q - p + 2)) o hne
    simp only [Errs, e1, e2, e3]
    refine ⟨by rw [e4]; intro hn; have := congrArg List.length hn; rw [List.length_append, List.length_take, List.length_nil] at this; omega, ?_, h3⟩
    rw [e4]
    refine tokOf_char _ _ h2 h1 ?_
    rw [List.take_append_of_le_length (by rw [List.length_take]; omega), List.take_take]
    rfl
  | cons t ts ih =>
    obtain ⟨h1, h2, h3, h4⟩ := h
    obtain ⟨_, b1, b2, _⟩ := errs_len h4
    have hl := tok_len h1
    have hsl := skip_length l
    have h0 := gapLen_le false l
    rw [List.length_drop] at b2
    have e3 : gapLen false (l.take (q - p + 2)) = gapLen false l := by rw [gapLen_take]; omega
    have e4 : skip (l.take (q - p + 2)) = (skip l).take (q - t.pos + 2) := by unfold skip; rw [e3, List.drop_take]; congr 1; omega
    have hne : skip (l.take (q - p + 2)) ≠ [] := by
      intro hn
      rw [e4] at hn
      have := congrArg List.length hn
      rw [List.length_take, List.length_nil] at this
      omega
    obtain ⟨e1, e2⟩ := skip_append_lt (l.take (q - p + 2)) o hne
    have hlt : ((skip l).take (q - t.pos + 2)).length = q - t.pos + 2 := by rw [List.length_take]; omega
    simp only [Errs, e1, e2, e3, e4]
    refine ⟨tokOf_two h1 (by omega) (by omega), ?_, h3, ?_⟩
    · rw [List.take_append_of_le_length (by omega), List.take_take, show min t.text.length (q - t.pos + 2) = t.text.length by omega]; exact h2
    · rw [List.drop_append_of_le_length (by omega), List.drop_take, show q - t.pos + 2 - t.text.length = q - (t.pos + t.text.length) + 2 by omega]
      exact ih h4 (by rw [List.length_drop]; omega)
end Go.Proofs.YtfaflipphkoiiaaDoor.Lx
