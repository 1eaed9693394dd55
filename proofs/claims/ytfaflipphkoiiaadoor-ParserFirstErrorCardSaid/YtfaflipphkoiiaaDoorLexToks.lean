/-
  The tokens of a text as a relation on lists of bytes, and that it is what the plain lexer computes. No condition.
-/
import Derived.Test.YtfaflipphkoiiaaDoorLexPlain
namespace Go.Proofs.YtfaflipphkoiiaaDoor.Lx
set_option linter.unusedVariables false

/-- What is left behind the gaps. -/
def skip (l : List UInt8) : List UInt8 := l.drop (gapLen false l)

/-- A text at an offset has these tokens and no error. -/
def Toks : List Tok → List UInt8 → Nat → Prop
  | [], l, _ => skip l = []
  | t :: ts, l, p => tokOf (skip l) = .ok (t.kind, t.text.length, t.n) ∧ t.text = (skip l).take t.text.length ∧ t.pos = p + gapLen false l ∧
      Toks ts ((skip l).drop t.text.length) (t.pos + t.text.length)
/-- A text at an offset has these tokens and then an error at an offset. -/
def Errs (e q : Nat) : List Tok → List UInt8 → Nat → Prop
  | [], l, p => skip l ≠ [] ∧ tokOf (skip l) = .error e ∧ q = p + gapLen false l
  | t :: ts, l, p => tokOf (skip l) = .ok (t.kind, t.text.length, t.n) ∧ t.text = (skip l).take t.text.length ∧ t.pos = p + gapLen false l ∧
      Errs e q ts ((skip l).drop t.text.length) (t.pos + t.text.length)

theorem skip_length (l : List UInt8) : (skip l).length = l.length - gapLen false l := by simp [skip]
theorem gap_all (l : List UInt8) (h : skip l = []) : gapLen false l = l.length := by
  have h1 := congrArg List.length h
  rw [skip_length] at h1
  have h2 := gapLen_le false l
  simp at h1
  omega
theorem tok_len {l : List UInt8} {k len v : Nat} (h : tokOf l = .ok (k, len, v)) : 1 ≤ len ∧ len ≤ l.length := tokOf_len l k len v h
theorem tok_err {l : List UInt8} {e : Nat} (h : tokOf l = .error e) : e = 3 ∨ e = 4 ∨ e = 5 := by
  cases l with
  | nil => simp [tokOf] at h; omega
  | cons c l =>
    simp only [tokOf] at h
    repeat' split at h
    all_goals first | (cases h; done) | (injection h with h; omega)

theorem skip_drop (s : List UInt8) (q : Nat) : skip (s.drop q) = s.drop (q + gapLen false (s.drop q)) := by simp [skip, List.drop_drop]

theorem lexP_toks (s : List UInt8) (f q c : Nat) (ts : List Tok) (hq : q ≤ s.length) (hf : s.length - (q + gapLen false (s.drop q)) < f)
    (h : lexP f s (q + gapLen false (s.drop q)) c = .ok ts) : Toks ts (s.drop q) q := by
  induction f generalizing q c ts with
  | zero => omega
  | succ f ih =>
    have hg := gapLen_le false (s.drop q)
    rw [List.length_drop] at hg
    generalize hp : q + gapLen false (s.drop q) = p at h hf
    by_cases hlt : p < s.length
    · cases ht : tokOf (s.drop p) with
      | error e => rw [lexP_err _ _ _ _ _ hlt ht] at h; cases h
      | ok x =>
        obtain ⟨k, len, v⟩ := x
        have hl := tok_len ht
        rw [List.length_drop] at hl
        by_cases hc : c = 5000
        · subst hc; rw [lexP_full _ _ _ _ hlt ht] at h; cases h
        · rw [lexP_step _ _ _ _ _ _ _ hlt ht hc] at h
          cases hr : lexP f s (p + len + gapLen false (s.drop (p + len))) (c + 1) with
          | error e => rw [hr] at h; simp [comb] at h
          | ok us =>
            rw [hr] at h
            simp only [comb, List.singleton_append] at h
            injection h with h
            subst h
            have hs := skip_drop s q
            rw [hp] at hs
            have htl : ((s.drop p).take len).length = len := by rw [List.length_take, List.length_drop]; omega
            simp only [Toks, hs, htl]
            refine ⟨ht, trivial, hp.symm, ?_⟩
            have := ih (p + len) (c + 1) us (by omega) (by omega) hr
            rwa [List.drop_drop]
    · rw [lexP_end _ _ _ _ (by omega)] at h
      injection h with h
      subst h
      simp only [Toks, skip_drop, hp]
      exact List.drop_eq_nil_of_le (by omega)

theorem toks_lexP (s : List UInt8) (f q c : Nat) (ts : List Tok) (hq : q ≤ s.length) (hf : s.length - (q + gapLen false (s.drop q)) < f) (hc : c + ts.length ≤ 5000)
    (h : Toks ts (s.drop q) q) : lexP f s (q + gapLen false (s.drop q)) c = .ok ts := by
  induction ts generalizing f q c with
  | nil =>
    obtain ⟨f, rfl⟩ : ∃ g, f = g + 1 := ⟨f - 1, by omega⟩
    simp only [Toks, skip_drop] at h
    have := congrArg List.length h
    rw [List.length_drop] at this
    simp at this
    exact lexP_end _ _ _ _ (by omega)
  | cons t ts ih =>
    obtain ⟨f, rfl⟩ : ∃ g, f = g + 1 := ⟨f - 1, by omega⟩
    obtain ⟨h1, h2, h3, h4⟩ := h
    have hg := gapLen_le false (s.drop q)
    rw [List.length_drop] at hg
    rw [skip_drop, ← h3] at h1 h2 h4
    rw [← h3] at hf ⊢
    have hl := tok_len h1
    rw [List.length_drop] at hl
    have hlt : t.pos < s.length := by omega
    simp only [List.length_cons] at hc
    rw [lexP_step _ _ _ _ _ _ _ hlt h1 (by omega)]
    rw [List.drop_drop] at h4
    rw [ih f (t.pos + t.text.length) (c + 1) (by omega) (by have := gapLen_le false (s.drop (t.pos + t.text.length)); omega) (by omega) h4]
    simp only [comb, List.singleton_append, ← h2]

theorem lexP_errs (s : List UInt8) (f q c e r : Nat) (hq : q ≤ s.length) (hf : s.length - (q + gapLen false (s.drop q)) < f) (hc : c + (s.length - (q + gapLen false (s.drop q))) ≤ 5000)
    (h : lexP f s (q + gapLen false (s.drop q)) c = .error (e, r)) : ∃ ts, Errs e r ts (s.drop q) q := by
  induction f generalizing q c with
  | zero => omega
  | succ f ih =>
    have hg := gapLen_le false (s.drop q)
    rw [List.length_drop] at hg
    have hs := skip_drop s q
    generalize hp : q + gapLen false (s.drop q) = p at h hf hc hs
    by_cases hlt : p < s.length
    · cases ht : tokOf (s.drop p) with
      | error e' =>
        rw [lexP_err _ _ _ _ _ hlt ht] at h
        injection h with h
        simp only [Prod.mk.injEq] at h
        obtain ⟨rfl, rfl⟩ := h
        refine ⟨[], ?_⟩
        simp only [Errs, hs]
        refine ⟨?_, ht, hp.symm⟩
        intro hn
        have := congrArg List.length hn
        rw [List.length_drop] at this
        simp at this
        omega
      | ok x =>
        obtain ⟨k, len, v⟩ := x
        have hl := tok_len ht
        rw [List.length_drop] at hl
        by_cases hc' : c = 5000
        · omega
        · rw [lexP_step _ _ _ _ _ _ _ hlt ht hc'] at h
          cases hr : lexP f s (p + len + gapLen false (s.drop (p + len))) (c + 1) with
          | ok us => rw [hr] at h; simp [comb] at h
          | error e' =>
            rw [hr] at h
            simp only [comb] at h
            injection h with h
            subst h
            obtain ⟨ts, hts⟩ := ih (p + len) (c + 1) (by omega) (by omega) (by omega) hr
            have htl : ((s.drop p).take len).length = len := by rw [List.length_take, List.length_drop]; omega
            refine ⟨⟨k, (s.drop p).take len, v, p⟩ :: ts, ?_⟩
            simp only [Errs, hs, htl]
            refine ⟨ht, trivial, hp.symm, ?_⟩
            rwa [List.drop_drop]
    · rw [lexP_end _ _ _ _ (by omega)] at h; cases h

theorem errs_lexP (s : List UInt8) (f q c e r : Nat) (ts : List Tok) (hq : q ≤ s.length) (hf : s.length - (q + gapLen false (s.drop q)) < f) (hc : c + ts.length ≤ 5000)
    (h : Errs e r ts (s.drop q) q) : lexP f s (q + gapLen false (s.drop q)) c = .error (e, r) := by
  induction ts generalizing f q c with
  | nil =>
    obtain ⟨f, rfl⟩ : ∃ g, f = g + 1 := ⟨f - 1, by omega⟩
    simp only [Errs, skip_drop] at h
    obtain ⟨h1, h2, h3⟩ := h
    subst h3
    have hlt : q + gapLen false (s.drop q) < s.length := by
      rcases Nat.lt_or_ge (q + gapLen false (s.drop q)) s.length with hlt | hge
      · exact hlt
      · exact absurd (List.drop_eq_nil_of_le hge) h1
    exact lexP_err _ _ _ _ _ hlt h2
  | cons t ts ih =>
    obtain ⟨f, rfl⟩ : ∃ g, f = g + 1 := ⟨f - 1, by omega⟩
    obtain ⟨h1, h2, h3, h4⟩ := h
    have hg := gapLen_le false (s.drop q)
    rw [List.length_drop] at hg
    rw [skip_drop, ← h3] at h1 h2 h4
    rw [← h3] at hf ⊢
    have hl := tok_len h1
    rw [List.length_drop] at hl
    have hlt : t.pos < s.length := by omega
    simp only [List.length_cons] at hc
    rw [lexP_step _ _ _ _ _ _ _ hlt h1 (by omega)]
    rw [List.drop_drop] at h4
    rw [ih f (t.pos + t.text.length) (c + 1) (by omega) (by have := gapLen_le false (s.drop (t.pos + t.text.length)); omega) (by omega) h4]
    simp only [comb]

theorem lex_toks {s : List UInt8} {ts : List Tok} (h : lex s = .ok ts) : Toks ts s 0 := by
  unfold lex at h
  split at h
  · cases h
  · have hg := gapLen_le false s
    cases hl : lexP (s.length + 1) s (gapLen false s) 0 with
    | error x => obtain ⟨e, p⟩ := x; rw [hl] at h; cases h
    | ok us =>
      rw [hl] at h
      injection h with h
      subst h
      exact lexP_toks s (s.length + 1) 0 0 us (by omega) (by simp; omega) (by simpa using hl)
theorem toks_lex {s : List UInt8} {ts : List Tok} (h : Toks ts s 0) (h1 : s.length ≤ 20000) (h2 : ts.length ≤ 5000) : lex s = .ok ts := by
  have := toks_lexP s (s.length + 1) 0 0 ts (by omega) (by simp; omega) (by omega) h
  simp only [List.drop_zero, Nat.zero_add] at this
  unfold lex
  rw [if_neg (by omega), this]
theorem lex_errs {s : List UInt8} {e : Nat} {q : Int} (h : lex s = .error (e, q)) (h1 : s.length ≤ 5000) : ∃ ts r, q = ((r : Nat) : Int) ∧ Errs e r ts s 0 := by
  unfold lex at h
  rw [if_neg (by omega)] at h
  cases hl : lexP (s.length + 1) s (gapLen false s) 0 with
  | ok us => rw [hl] at h; cases h
  | error x =>
    obtain ⟨e', p⟩ := x
    rw [hl] at h
    injection h with h
    simp only [Prod.mk.injEq] at h
    obtain ⟨rfl, rfl⟩ := h
    obtain ⟨ts, hts⟩ := lexP_errs s (s.length + 1) 0 0 e' p (by omega) (by simp; omega) (by simp; omega) (by simpa using hl)
    exact ⟨ts, p, rfl, hts⟩
theorem errs_lex {s : List UInt8} {e r : Nat} {ts : List Tok} (h : Errs e r ts s 0) (h1 : s.length ≤ 20000) (h2 : ts.length ≤ 5000) : lex s = .error (e, (r : Int)) := by
  have := errs_lexP s (s.length + 1) 0 0 e r ts (by omega) (by simp; omega) (by omega) h
  simp only [List.drop_zero, Nat.zero_add] at this
  unfold lex
  rw [if_neg (by omega), this]

theorem toks_len {ts : List Tok} {l : List UInt8} {p : Nat} (h : Toks ts l p) : ts.length ≤ l.length := by
  induction ts generalizing l p with
  | nil => simp
  | cons t ts ih =>
    obtain ⟨h1, h2, h3, h4⟩ := h
    have hl := tok_len h1
    have := ih h4
    have hs := skip_length l
    rw [List.length_drop] at this
    simp only [List.length_cons]
    omega
theorem errs_len {ts : List Tok} {l : List UInt8} {p e q : Nat} (h : Errs e q ts l p) : ts.length < l.length ∧ p ≤ q ∧ q < p + l.length ∧ (e = 3 ∨ e = 4 ∨ e = 5) := by
  induction ts generalizing l p with
  | nil =>
    obtain ⟨h1, h2, h3⟩ := h
    have hs := skip_length l
    have : 0 < (skip l).length := List.length_pos_iff.2 h1
    have := tok_err h2
    simp only [List.length_nil]
    omega
  | cons t ts ih =>
    obtain ⟨h1, h2, h3, h4⟩ := h
    have hl := tok_len h1
    have := ih h4
    have hs := skip_length l
    rw [List.length_drop] at this
    simp only [List.length_cons]
    omega
theorem gapLen_take (b : Bool) (l : List UInt8) (n : Nat) : gapLen b (l.take n) = min (gapLen b l) n := by
  induction l generalizing b n with
  | nil => simp [gapLen]
  | cons c l ih =>
    cases n with
    | zero => simp [gapLen]
    | succ n =>
      rw [List.take_succ_cons]
      simp only [gapLen]
      repeat' split
      all_goals first | (rw [ih]; omega) | omega
end Go.Proofs.YtfaflipphkoiiaaDoor.Lx
