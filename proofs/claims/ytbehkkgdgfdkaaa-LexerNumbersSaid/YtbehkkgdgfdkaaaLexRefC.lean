/-
  What the functions token and Lex of package estoppelref06 return.
-/
import Derived.Test.YtbehkkgdgfdkaaaLexRefB
import Derived.Test.YtbehkkgdgfdkaaaLexWalkG
namespace Go.Proofs.Ytbehkkgdgfdkaaa.Lx
open Go.RowKit
set_option linter.unusedVariables false

set_option maxHeartbeats 1000000 in
theorem refTok_name (s : ByteArray) (k len : Nat) (w : World) (hs : s.size ≤ 9223372036854775807) (hk : k < s.size) (hl : isLetter s[k] = true) (hn : nameLen ((bs s).drop k) = len) (h24 : len ≤ 24) :
    Calls Try.prog 21 #[.string s, .int .i64 (k : Int)] w fun e w' =>
      e = .returned (.tuple #[.agg #[.int .i64 1, .string (s.extract k (k + len)), .int .i64 0, .int .i64 k], .int .i64 0]) ∧ Below w.heap.size w w' := by
  have hle := nameLen_le ((bs s).drop k)
  rw [List.length_drop, bs_length, hn] at hle
  have Hn := Lib.hid hn; clear hn
  have hsl := sl_str_add s k len (by omega)
  go_enter Try.func21, Try.ntmps21
  go_wp2_with (go_at_call 24; refine (refLetter_any _ _).mono ?_; rintro e w' ⟨rfl, rfl⟩)
  refine (refName_any s k _ hs (by omega)).mono ?_
  rintro e w1 ⟨rfl, rfl⟩
  rw [Hn.out]
  go_wp2_with fail
  go_returns
  exact ⟨rfl, by go_grown⟩

set_option maxHeartbeats 1000000 in
theorem refTok_name_no (s : ByteArray) (k len : Nat) (w : World) (hs : s.size ≤ 9223372036854775807) (hk : k < s.size) (hl : isLetter s[k] = true) (hn : nameLen ((bs s).drop k) = len) (h24 : 24 < len) :
    Calls Try.prog 21 #[.string s, .int .i64 (k : Int)] w fun e w' =>
      e = .returned (.tuple #[.agg #[.int .i64 0, .string ⟨#[]⟩, .int .i64 0, .int .i64 0], .int .i64 3]) ∧ Below w.heap.size w w' := by
  have hle := nameLen_le ((bs s).drop k)
  rw [List.length_drop, bs_length, hn] at hle
  have Hn := Lib.hid hn; clear hn
  go_enter Try.func21, Try.ntmps21
  go_wp2_with (go_at_call 24; refine (refLetter_any _ _).mono ?_; rintro e w' ⟨rfl, rfl⟩)
  refine (refName_any s k _ hs (by omega)).mono ?_
  rintro e w1 ⟨rfl, rfl⟩
  rw [Hn.out]
  go_wp2_with fail
  go_returns
  exact ⟨rfl, by go_grown⟩

theorem word_not_digit (c : UInt8) (h : isDigit c = false) : isWord c = (isLetter c || c.toNat == 95) := by simp [isWord, h]

set_option maxHeartbeats 1000000 in
theorem refTok_number (s : ByteArray) (k len : Nat) (w : World) (hs : s.size ≤ 9223372036854775807) (hk : k < s.size) (hl : isLetter s[k] = false) (hd : isDigit s[k] = true) (hn : numLen ((bs s).drop k) = len) (h12 : len ≤ 12)
    (hw : wordAt ((bs s).drop (k + len)) = false) :
    Calls Try.prog 21 #[.string s, .int .i64 (k : Int)] w fun e w' =>
      e = .returned (.tuple #[.agg #[.int .i64 2, .string (s.extract k (k + len)), .int .i64 (valFrom 0 (((bs s).drop k).take len) : Nat), .int .i64 k], .int .i64 0]) ∧ Below w.heap.size w w' := by
  have hle := numLen_le ((bs s).drop k)
  rw [List.length_drop, bs_length, hn] at hle
  have HM := Lib.hid (show min len 12 = len by omega)
  have Hn := Lib.hid hn; clear hn
  have hsl := sl_str_add s k len (by omega)
  have hcase : (∃ h : k + len < s.size, isLetter s[k + len] = false ∧ ((s[k + len].toNat : Int) == 95) = false) ∨ ¬ k + len < s.size := by
    by_cases hlt : k + len < s.size
    · have h1 : isWord s[k + len] = false := by unfold bs at hw; rw [drop_get s _ hlt] at hw; exact hw
      refine .inl ⟨hlt, ?_, ?_⟩
      · cases hx : isLetter s[k + len] with
        | false => rfl
        | true => simp [isWord, hx] at h1
      · rw [beq_eq_false_iff_ne]; intro hx
        have : s[k + len].toNat = 95 := by omega
        simp [isWord, this] at h1
    · exact .inr hlt
  have HW := Lib.hid hw; clear hw
  rcases hcase with ⟨hlt, p1, p2⟩ | hlt
  all_goals
    go_enter Try.func21, Try.ntmps21
    go_wp2_with (first | (go_at_call 24; refine (refLetter_any _ _).mono ?_; rintro e w' ⟨rfl, rfl⟩) | (go_at_call 26; refine (refDigit_any _ _).mono ?_; rintro e w' ⟨rfl, rfl⟩))
    refine (refNumber_any s k _ hs (by omega)).mono ?_
    rintro e w1 ⟨rfl, rfl⟩
    rw [Hn.out, HM.out]
    go_wp2_with (go_at_call 24; refine (refLetter_any _ _).mono ?_; rintro e w' ⟨rfl, rfl⟩)
    go_returns
    exact ⟨rfl, by go_grown⟩

set_option maxHeartbeats 1000000 in
theorem refTok_number_no (s : ByteArray) (k len : Nat) (w : World) (hs : s.size ≤ 9223372036854775807) (hk : k < s.size) (hl : isLetter s[k] = false) (hd : isDigit s[k] = true) (hn : numLen ((bs s).drop k) = len)
    (hw : 12 < len ∨ wordAt ((bs s).drop (k + len)) = true) :
    Calls Try.prog 21 #[.string s, .int .i64 (k : Int)] w fun e w' =>
      e = .returned (.tuple #[.agg #[.int .i64 0, .string ⟨#[]⟩, .int .i64 0, .int .i64 0], .int .i64 5]) ∧ Below w.heap.size w w' := by
  have hle := numLen_le ((bs s).drop k)
  rw [List.length_drop, bs_length, hn] at hle
  have hcase : (12 < len) ∨ (len ≤ 12 ∧ ∃ h : k + len < s.size, isLetter s[k + len] = true) ∨ (len ≤ 12 ∧ ∃ h : k + len < s.size, isLetter s[k + len] = false ∧ ((s[k + len].toNat : Int) == 95) = true) := by
    by_cases h12 : 12 < len
    · exact .inl h12
    · have hw' := hw.resolve_left h12
      have hlt : k + len < s.size := by
        rcases Nat.lt_or_ge (k + len) s.size with h | h
        · exact h
        · unfold bs at hw'; rw [drop_end s _ h] at hw'; simp [wordAt] at hw'
      have h1 : isWord s[k + len] = true := by unfold bs at hw'; rw [drop_get s _ hlt] at hw'; exact hw'
      have h2 : isDigit s[k + len] = false := by
        have hb := bs_length s
        subst hn
        have := numLen_no ((bs s).drop k) (by rw [List.length_drop]; omega)
        rwa [getElem_drop_bs s k _ hlt] at this
      rw [word_not_digit _ h2] at h1
      cases hx : isLetter s[k + len] with
      | true => exact .inr (.inl ⟨by omega, hlt, hx⟩)
      | false =>
        refine .inr (.inr ⟨by omega, hlt, hx, ?_⟩)
        rw [hx] at h1
        simp at h1
        exact beq_iff_eq.2 (by omega)
  clear hw
  have Hn := Lib.hid hn; clear hn
  rcases hcase with h12 | ⟨h12, hlt, p1⟩ | ⟨h12, hlt, p1, p2⟩
  all_goals
    go_enter Try.func21, Try.ntmps21
    go_wp2_with (first | (go_at_call 24; refine (refLetter_any _ _).mono ?_; rintro e w' ⟨rfl, rfl⟩) | (go_at_call 26; refine (refDigit_any _ _).mono ?_; rintro e w' ⟨rfl, rfl⟩))
    refine (refNumber_any s k _ hs (by omega)).mono ?_
    rintro e w1 ⟨rfl, rfl⟩
    rw [Hn.out]
    go_wp2_with (go_at_call 24; refine (refLetter_any _ _).mono ?_; rintro e w' ⟨rfl, rfl⟩)
    go_returns
    exact ⟨rfl, by go_grown⟩

set_option maxHeartbeats 1000000 in
theorem refTok_symbol (s : ByteArray) (k : Nat) (w : World) (hs : s.size ≤ 9223372036854775807) (hk : k < s.size) (hl : isLetter s[k] = false) (hd : isDigit s[k] = false) (hy : isSym s[k] = true) :
    Calls Try.prog 21 #[.string s, .int .i64 (k : Int)] w fun e w' =>
      e = .returned (.tuple #[.agg #[.int .i64 3, .string (s.extract k (k + 1)), .int .i64 0, .int .i64 k], .int .i64 0]) ∧ Below w.heap.size w w' := by
  have hsl := sl_str_one s k (by omega)
  go_enter Try.func21, Try.ntmps21
  go_wp2_with (first | (go_at_call 24; refine (refLetter_any _ _).mono ?_; rintro e w' ⟨rfl, rfl⟩) | (go_at_call 26; refine (refDigit_any _ _).mono ?_; rintro e w' ⟨rfl, rfl⟩) | (go_at_call 28; refine (refSymbol_any _ _).mono ?_; rintro e w' ⟨rfl, rfl⟩))
  go_returns
  exact ⟨rfl, by go_grown⟩

set_option maxHeartbeats 1000000 in
theorem refTok_char (s : ByteArray) (k : Nat) (w : World) (hs : s.size ≤ 9223372036854775807) (hk : k < s.size) (hl : isLetter s[k] = false) (hd : isDigit s[k] = false) (hy : isSym s[k] = false) :
    Calls Try.prog 21 #[.string s, .int .i64 (k : Int)] w fun e w' =>
      e = .returned (.tuple #[.agg #[.int .i64 0, .string ⟨#[]⟩, .int .i64 0, .int .i64 0], .int .i64 4]) ∧ Below w.heap.size w w' := by
  go_enter Try.func21, Try.ntmps21
  go_wp2_with (first | (go_at_call 24; refine (refLetter_any _ _).mono ?_; rintro e w' ⟨rfl, rfl⟩) | (go_at_call 26; refine (refDigit_any _ _).mono ?_; rintro e w' ⟨rfl, rfl⟩) | (go_at_call 28; refine (refSymbol_any _ _).mono ?_; rintro e w' ⟨rfl, rfl⟩))
  go_returns
  exact ⟨rfl, by go_grown⟩

theorem refTok_ok (s x : ByteArray) (k kd v : Nat) (w : World) (hs : s.size ≤ 9223372036854775807) (hk : k < s.size) (h : tokOf ((bs s).drop k) = .ok (kd, x.size, v)) (hx : s.extract k (k + x.size) = x) :
    Calls Try.prog 21 #[.string s, .int .i64 (k : Int)] w fun e w' =>
      e = .returned (.tuple #[.agg #[.int .i64 kd, .string x, .int .i64 v, .int .i64 k], .int .i64 0]) ∧ Below w.heap.size w w' := by
  rw [← hx]
  rw [tokOf_drop s k hk] at h
  generalize x.size = len at h ⊢
  by_cases hl : isLetter s[k] = true
  · rw [if_pos hl] at h
    by_cases h24 : 24 < nameLen ((bs s).drop k)
    · rw [if_pos h24] at h; cases h
    · rw [if_neg h24] at h
      injection h with h
      simp only [Prod.mk.injEq] at h
      obtain ⟨rfl, rfl, rfl⟩ := h
      exact refTok_name s k _ w hs hk hl rfl (by omega)
  · rw [if_neg hl] at h
    have hl' : isLetter s[k] = false := by simpa using hl
    by_cases hd : isDigit s[k] = true
    · rw [if_pos hd] at h
      by_cases hb : 12 < numLen ((bs s).drop k) ∨ wordAt ((bs s).drop (k + numLen ((bs s).drop k))) = true
      · rw [if_pos hb] at h; cases h
      · rw [if_neg hb] at h
        injection h with h
        simp only [Prod.mk.injEq] at h
        obtain ⟨rfl, rfl, rfl⟩ := h
        have hb1 : ¬ 12 < numLen ((bs s).drop k) := fun x => hb (.inl x)
        have hb2 : wordAt ((bs s).drop (k + numLen ((bs s).drop k))) = false := by
          cases hx : wordAt ((bs s).drop (k + numLen ((bs s).drop k))) with
          | false => rfl
          | true => exact absurd (.inr hx) hb
        exact refTok_number s k _ w hs hk hl' hd rfl (by omega) hb2
    · rw [if_neg hd] at h
      have hd' : isDigit s[k] = false := by simpa using hd
      by_cases hy : isSym s[k] = true
      · rw [if_pos hy] at h
        injection h with h
        simp only [Prod.mk.injEq] at h
        obtain ⟨rfl, rfl, rfl⟩ := h
        exact refTok_symbol s k w hs hk hl' hd' hy
      · rw [if_neg hy] at h; cases h

theorem refTok_no (s : ByteArray) (k er : Nat) (w : World) (hs : s.size ≤ 9223372036854775807) (hk : k < s.size) (h : tokOf ((bs s).drop k) = .error er) :
    Calls Try.prog 21 #[.string s, .int .i64 (k : Int)] w fun e w' =>
      (e = .returned (.tuple #[.agg #[.int .i64 0, .string ⟨#[]⟩, .int .i64 0, .int .i64 0], .int .i64 er]) ∧ er ≠ 0) ∧ Below w.heap.size w w' := by
  rw [tokOf_drop s k hk] at h
  by_cases hl : isLetter s[k] = true
  · rw [if_pos hl] at h
    by_cases h24 : 24 < nameLen ((bs s).drop k)
    · rw [if_pos h24] at h
      injection h with h
      subst h
      exact (refTok_name_no s k _ w hs hk hl rfl h24).mono fun e w' h => ⟨⟨h.1, by omega⟩, h.2⟩
    · rw [if_neg h24] at h; cases h
  · rw [if_neg hl] at h
    have hl' : isLetter s[k] = false := by simpa using hl
    by_cases hd : isDigit s[k] = true
    · rw [if_pos hd] at h
      by_cases hb : 12 < numLen ((bs s).drop k) ∨ wordAt ((bs s).drop (k + numLen ((bs s).drop k))) = true
      · rw [if_pos hb] at h
        injection h with h
        subst h
        exact (refTok_number_no s k _ w hs hk hl' hd rfl hb).mono fun e w' h => ⟨⟨h.1, by omega⟩, h.2⟩
      · rw [if_neg hb] at h; cases h
    · rw [if_neg hd] at h
      have hd' : isDigit s[k] = false := by simpa using hd
      by_cases hy : isSym s[k] = true
      · rw [if_pos hy] at h; cases h
      · rw [if_neg hy] at h
        injection h with h
        subst h
        exact (refTok_char s k w hs hk hl' hd' (by simpa using hy)).mono fun e w' h => ⟨⟨h.1, by omega⟩, h.2⟩
end Go.Proofs.Ytbehkkgdgfdkaaa.Lx
