/-
  What the function token of package lexer returns, or the panic with which it ends.
-/
import Derived.Test.YtfaflipphkoiiaaDoorLexWalkC
import Derived.Test.YtfaflipphkoiiaaDoorShelf
import Derived.Lib.IndexAny
namespace Go.Proofs.YtfaflipphkoiiaaDoor.Lx
open Go.RowKit
set_option linter.unusedVariables false

theorem sym_index (c : UInt8) : Lib.indexByte (ByteArray.mk #[59, 58, 44, 61, 47, 45, 40, 41, 123, 125]).data.toList ((c.toNat : Int).toNat.toUInt8) = Lib.indexByte syms c := by
  have : ((c.toNat : Int).toNat.toUInt8) = c := by simp
  rw [this]; rfl
theorem sym_yes (c : UInt8) (h : isSym c = true) : 0 ≤ Lib.indexByte syms c := by
  have := Lib.contains_iff_indexByte syms c
  unfold isSym at h
  rw [h] at this
  simpa using this
theorem sym_no (c : UInt8) (h : isSym c = false) : Lib.indexByte syms c < 0 := by
  have := Lib.contains_iff_indexByte syms c
  unfold isSym at h
  rw [h] at this
  simpa using this

theorem tokOf_drop (s : ByteArray) (k : Nat) (hk : k < s.size) : tokOf ((bs s).drop k) =
    if isLetter s[k] then (if 24 < nameLen ((bs s).drop k) then .error 3 else .ok (1, nameLen ((bs s).drop k), 0))
    else if isDigit s[k] then
      (if 12 < numLen ((bs s).drop k) ∨ wordAt ((bs s).drop (k + numLen ((bs s).drop k))) = true then .error 5 else .ok (2, numLen ((bs s).drop k), valFrom 0 (((bs s).drop k).take (numLen ((bs s).drop k)))))
    else if isSym s[k] then .ok (3, 1, 0) else .error 4 := by
  have hd : (bs s).drop k = s[k] :: (bs s).drop (k + 1) := drop_get s k hk
  rw [← List.drop_drop, hd]
  rfl

theorem kept4 {w w1 : World} {c0 c1 c2 c3 : Value} {T : TypeId} {B : Nat} (hb : Below B (w.alloc (.cells #[c0, c1, c2, c3] T)) w1) (hB : w.heap.size < B) :
    w1.cell? ⟨w.heap.size, 0, none⟩ = some c0 ∧ w1.cell? ⟨w.heap.size, 1, none⟩ = some c1 ∧ w1.cell? ⟨w.heap.size, 2, none⟩ = some c2 ∧ w1.cell? ⟨w.heap.size, 3, none⟩ = some c3 ∧
    w1.frozen? ⟨w.heap.size, 0, none⟩ = false ∧ w1.frozen? ⟨w.heap.size, 1, none⟩ = false ∧ w1.frozen? ⟨w.heap.size, 2, none⟩ = false ∧ w1.frozen? ⟨w.heap.size, 3, none⟩ = false :=
  ⟨(hb.cell (p := ⟨w.heap.size, 0, none⟩) hB).trans (by simp), (hb.cell (p := ⟨w.heap.size, 1, none⟩) hB).trans (by simp), (hb.cell (p := ⟨w.heap.size, 2, none⟩) hB).trans (by simp), (hb.cell (p := ⟨w.heap.size, 3, none⟩) hB).trans (by simp),
   (hb.frozen (p := ⟨w.heap.size, 0, none⟩) hB).trans (by simp), (hb.frozen (p := ⟨w.heap.size, 1, none⟩) hB).trans (by simp), (hb.frozen (p := ⟨w.heap.size, 2, none⟩) hB).trans (by simp), (hb.frozen (p := ⟨w.heap.size, 3, none⟩) hB).trans (by simp)⟩
theorem below_in {w w1 : World} {o : Obj} {B : Nat} (hb : Below B (w.alloc o) w1) (hB : w.heap.size ≤ B) : Below w.heap.size w w1 :=
  ((Below.refl _ w).alloc (Nat.le_refl _) _).trans (hb.mono hB)

set_option maxHeartbeats 1000000 in
theorem token_name (s : ByteArray) (k len : Nat) (w : World) (hs : s.size ≤ 9223372036854775807) (hk : k < s.size) (hl : isLetter s[k] = true) (hn : nameLen ((bs s).drop k) = len) (h24 : len ≤ 24) :
    Calls Tryd.prog 55 #[.string s, .int .i64 (k : Int)] w fun e w' =>
      e = .returned (.agg #[.int .i64 1, .string (s.extract k (k + len)), .int .i64 0, .int .i64 k]) ∧ Below w.heap.size w w' := by
  have Hn := Lib.hid hn; clear hn
  go_enter Tryd.func55, Tryd.ntmps55
  go_wp2_with (go_at_call 82; refine (isLetter_any _ _).mono ?_; rintro e w' ⟨rfl, rfl⟩)
  refine (name_ok s k len _ hs (by omega) Hn.out h24).mono ?_
  rintro e w1 ⟨rfl, hb⟩
  obtain ⟨q0, q1, q2, q3, f0, f1, f2, f3⟩ := kept4 hb (by simp)
  have HB := Lib.hid (below_in hb (by simp)); clear hb
  go_wp2_with fail
  refine bodyPost_ret (v := .agg #[.int .i64 1, .string (s.extract k (k + len)), .int .i64 0, .int .i64 k]) (by simp [results, Tryd.results55, go_sem, cell_set_same, q0, q1, q2, q3]) rfl ⟨rfl, ?_⟩
  have := HB.out
  go_grown

set_option maxHeartbeats 1000000 in
theorem token_name_no (s : ByteArray) (k len : Nat) (w : World) (hs : s.size ≤ 9223372036854775807) (hk : k < s.size) (hl : isLetter s[k] = true) (hn : nameLen ((bs s).drop k) = len) (h24 : 24 < len) :
    Calls Tryd.prog 55 #[.string s, .int .i64 (k : Int)] w fun e w' => e = .panicked (fail_ 3 k) ∧ Below w.heap.size w w' := by
  have Hn := Lib.hid hn; clear hn
  go_enter Tryd.func55, Tryd.ntmps55
  go_wp2_with (go_at_call 82; refine (isLetter_any _ _).mono ?_; rintro e w' ⟨rfl, rfl⟩)
  refine (name_no s k len _ hs (by omega) Hn.out h24).mono ?_
  rintro e w1 ⟨rfl, hb⟩
  exact ⟨rfl, rfl, below_in hb (by simp)⟩

set_option maxHeartbeats 1000000 in
theorem token_number (s : ByteArray) (k len v : Nat) (w : World) (hs : s.size ≤ 9223372036854775807) (hk : k < s.size) (hl : isLetter s[k] = false) (hd : isDigit s[k] = true) (hn : numLen ((bs s).drop k) = len) (h12 : len ≤ 12)
    (hw : wordAt ((bs s).drop (k + len)) = false) (hv : valFrom 0 (((bs s).drop k).take len) = v) :
    Calls Tryd.prog 55 #[.string s, .int .i64 (k : Int)] w fun e w' =>
      e = .returned (.agg #[.int .i64 2, .string (s.extract k (k + len)), .int .i64 v, .int .i64 k]) ∧ Below w.heap.size w w' := by
  have Hn := Lib.hid hn; clear hn
  have HW := Lib.hid hw; clear hw
  subst hv
  go_enter Tryd.func55, Tryd.ntmps55
  go_wp2_with (first | (go_at_call 82; refine (isLetter_any _ _).mono ?_; rintro e w' ⟨rfl, rfl⟩) | (go_at_call 84; refine (isDigit_any _ _).mono ?_; rintro e w' ⟨rfl, rfl⟩))
  refine (number_ok s k len _ hs (by omega) Hn.out h12 HW.out).mono ?_
  rintro e w1 ⟨rfl, hb⟩
  obtain ⟨q0, q1, q2, q3, f0, f1, f2, f3⟩ := kept4 hb (by simp)
  have HB := Lib.hid (below_in hb (by simp)); clear hb
  go_wp2_with fail
  refine bodyPost_ret (v := .agg #[.int .i64 2, .string (s.extract k (k + len)), .int .i64 (valFrom 0 (((bs s).drop k).take len) : Nat), .int .i64 k]) (by simp [results, Tryd.results55, go_sem, cell_set_same, q0, q1, q2, q3]) rfl ⟨rfl, ?_⟩
  have := HB.out
  go_grown

set_option maxHeartbeats 1000000 in
theorem token_number_no (s : ByteArray) (k len : Nat) (w : World) (hs : s.size ≤ 9223372036854775807) (hk : k < s.size) (hl : isLetter s[k] = false) (hd : isDigit s[k] = true) (hn : numLen ((bs s).drop k) = len)
    (hw : 12 < len ∨ wordAt ((bs s).drop (k + len)) = true) :
    Calls Tryd.prog 55 #[.string s, .int .i64 (k : Int)] w fun e w' => e = .panicked (fail_ 5 k) ∧ Below w.heap.size w w' := by
  have Hn := Lib.hid hn; clear hn
  have HW := Lib.hid hw; clear hw
  go_enter Tryd.func55, Tryd.ntmps55
  go_wp2_with (first | (go_at_call 82; refine (isLetter_any _ _).mono ?_; rintro e w' ⟨rfl, rfl⟩) | (go_at_call 84; refine (isDigit_any _ _).mono ?_; rintro e w' ⟨rfl, rfl⟩))
  refine (number_no s k len _ hs (by omega) Hn.out HW.out).mono ?_
  rintro e w1 ⟨rfl, hb⟩
  exact ⟨rfl, rfl, below_in hb (by simp)⟩

set_option maxHeartbeats 1000000 in
theorem token_symbol (s : ByteArray) (k : Nat) (w : World) (hs : s.size ≤ 9223372036854775807) (hk : k < s.size) (hl : isLetter s[k] = false) (hd : isDigit s[k] = false) (hy : isSym s[k] = true) :
    Calls Tryd.prog 55 #[.string s, .int .i64 (k : Int)] w fun e w' =>
      e = .returned (.agg #[.int .i64 3, .string (s.extract k (k + 1)), .int .i64 0, .int .i64 k]) ∧ Below w.heap.size w w' := by
  have hsl := sl_str_one s k (by omega)
  have hi := sym_yes _ hy
  go_enter Tryd.func55, Tryd.ntmps55
  go_wp2_with (first | (go_at_call 82; refine (isLetter_any _ _).mono ?_; rintro e w' ⟨rfl, rfl⟩) | (go_at_call 84; refine (isDigit_any _ _).mono ?_; rintro e w' ⟨rfl, rfl⟩))
  refine (Tryd.strings_IndexByte _ _ _).mono ?_
  rintro e w' ⟨rfl, rfl⟩
  rw [sym_index]
  generalize Lib.indexByte syms s[k] = i at *
  go_wp2_with fail
  go_returns
  exact ⟨rfl, by go_grown⟩

set_option maxHeartbeats 1000000 in
theorem token_char (s : ByteArray) (k : Nat) (w : World) (hs : s.size ≤ 9223372036854775807) (hk : k < s.size) (hl : isLetter s[k] = false) (hd : isDigit s[k] = false) (hy : isSym s[k] = false) :
    Calls Tryd.prog 55 #[.string s, .int .i64 (k : Int)] w fun e w' => e = .panicked (fail_ 4 k) ∧ Below w.heap.size w w' := by
  have hi := sym_no _ hy
  go_enter Tryd.func55, Tryd.ntmps55
  go_wp2_with (first | (go_at_call 82; refine (isLetter_any _ _).mono ?_; rintro e w' ⟨rfl, rfl⟩) | (go_at_call 84; refine (isDigit_any _ _).mono ?_; rintro e w' ⟨rfl, rfl⟩))
  refine (Tryd.strings_IndexByte _ _ _).mono ?_
  rintro e w' ⟨rfl, rfl⟩
  rw [sym_index]
  generalize Lib.indexByte syms s[k] = i at *
  go_wp2_with fail
  exact ⟨rfl, rfl, by go_grown⟩

theorem token_ok (s : ByteArray) (k kd len v : Nat) (w : World) (hs : s.size ≤ 9223372036854775807) (hk : k < s.size) (h : tokOf ((bs s).drop k) = .ok (kd, len, v)) :
    Calls Tryd.prog 55 #[.string s, .int .i64 (k : Int)] w fun e w' =>
      e = .returned (.agg #[.int .i64 kd, .string (s.extract k (k + len)), .int .i64 v, .int .i64 k]) ∧ Below w.heap.size w w' := by
  rw [tokOf_drop s k hk] at h
  by_cases hl : isLetter s[k] = true
  · rw [if_pos hl] at h
    by_cases h24 : 24 < nameLen ((bs s).drop k)
    · rw [if_pos h24] at h; cases h
    · rw [if_neg h24] at h
      injection h with h
      simp only [Prod.mk.injEq] at h
      obtain ⟨rfl, rfl, rfl⟩ := h
      exact token_name s k _ w hs hk hl rfl (by omega)
  · rw [if_neg hl] at h
    have hl' : isLetter s[k] = false := by simpa using hl
    by_cases hd : isDigit s[k] = true
    · rw [if_pos hd] at h
      by_cases hb : 12 < numLen ((bs s).drop k) ∨ wordAt ((bs s).drop (k + numLen ((bs s).drop k))) = true
      · rw [if_pos hb] at h; cases h
      · rw [if_neg hb] at h
        injection h with h
        simp only [Prod.mk.injEq] at h
        obtain ⟨rfl, rfl, rfl⟩ := h
        have hb1 : ¬ 12 < numLen ((bs s).drop k) := fun x => hb (.inl x)
        have hb2 : wordAt ((bs s).drop (k + numLen ((bs s).drop k))) = false := by
          cases hx : wordAt ((bs s).drop (k + numLen ((bs s).drop k))) with
          | false => rfl
          | true => exact absurd (.inr hx) hb
        exact token_number s k _ _ w hs hk hl' hd rfl (by omega) hb2 rfl
    · rw [if_neg hd] at h
      have hd' : isDigit s[k] = false := by simpa using hd
      by_cases hy : isSym s[k] = true
      · rw [if_pos hy] at h
        injection h with h
        simp only [Prod.mk.injEq] at h
        obtain ⟨rfl, rfl, rfl⟩ := h
        exact token_symbol s k w hs hk hl' hd' hy
      · rw [if_neg hy] at h; cases h

theorem token_no (s : ByteArray) (k er : Nat) (w : World) (hs : s.size ≤ 9223372036854775807) (hk : k < s.size) (h : tokOf ((bs s).drop k) = .error er) :
    Calls Tryd.prog 55 #[.string s, .int .i64 (k : Int)] w fun e w' => e = .panicked (fail_ er k) ∧ Below w.heap.size w w' := by
  rw [tokOf_drop s k hk] at h
  by_cases hl : isLetter s[k] = true
  · rw [if_pos hl] at h
    by_cases h24 : 24 < nameLen ((bs s).drop k)
    · rw [if_pos h24] at h
      injection h with h
      subst h
      exact token_name_no s k _ w hs hk hl rfl h24
    · rw [if_neg h24] at h; cases h
  · rw [if_neg hl] at h
    have hl' : isLetter s[k] = false := by simpa using hl
    by_cases hd : isDigit s[k] = true
    · rw [if_pos hd] at h
      by_cases hb : 12 < numLen ((bs s).drop k) ∨ wordAt ((bs s).drop (k + numLen ((bs s).drop k))) = true
      · rw [if_pos hb] at h
        injection h with h
        subst h
        exact token_number_no s k _ w hs hk hl' hd rfl hb
      · rw [if_neg hb] at h; cases h
    · rw [if_neg hd] at h
      have hd' : isDigit s[k] = false := by simpa using hd
      by_cases hy : isSym s[k] = true
      · rw [if_pos hy] at h; cases h
      · rw [if_neg hy] at h
        injection h with h
        subst h
        exact token_char s k w hs hk hl' hd' (by simpa using hy)
end Go.Proofs.YtfaflipphkoiiaaDoor.Lx
