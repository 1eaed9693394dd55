/-
  What the small functions of package estoppelref06 return: letters, digits, gaps, names, numbers, symbols.
-/
import Derived.Test.YtbehkkgdgfdkaaaLexWalkC
import Derived.Outline
namespace Go.Proofs.Ytbehkkgdgfdkaaa.Lx
open Go.RowKit
set_option linter.unusedVariables false

theorem refDigit_any (c : UInt8) (w : World) :
    Calls Try.prog 26 #[.int .u8 (c.toNat : Int)] w fun e w' => e = .returned (.bool (Lx.isDigit c)) ∧ w = w' := by
  have hc : c.toNat < 256 := c.toNat_lt
  go_enter Try.func26, Try.ntmps26
  go_wp2
  all_goals
    go_ret
    exact ⟨ret_bool (by unfold Lx.isDigit; rw [Bool.eq_iff_iff]; simp; omega), rfl⟩

theorem refLetter_any (c : UInt8) (w : World) :
    Calls Try.prog 24 #[.int .u8 (c.toNat : Int)] w fun e w' => e = .returned (.bool (Lx.isLetter c)) ∧ w = w' := by
  have hc : c.toNat < 256 := c.toNat_lt
  go_enter Try.func24, Try.ntmps24
  go_wp2
  all_goals
    go_ret
    exact ⟨ret_bool (by unfold Lx.isLetter; rw [Bool.eq_iff_iff]; simp; omega), rfl⟩

theorem refWord_any (c : UInt8) (w : World) :
    Calls Try.prog 36 #[.int .u8 (c.toNat : Int)] w fun e w' => e = .returned (.bool (Lx.isWord c)) ∧ w = w' := by
  have hc : c.toNat < 256 := c.toNat_lt
  go_enter Try.func36, Try.ntmps36
  go_wp2_with (first | (go_at_call 24; refine (refLetter_any _ _).mono ?_; rintro e w' ⟨rfl, rfl⟩) | (go_at_call 26; refine (refDigit_any _ _).mono ?_; rintro e w' ⟨rfl, rfl⟩))
  all_goals
    go_ret
    exact ⟨ret_bool (by unfold Lx.isWord; simp [*]; try (rw [Bool.eq_iff_iff]; simp; omega)), rfl⟩

theorem gapLen_in (c : UInt8) (l : List UInt8) (h1 : c.toNat ≠ 10) : gapLen true (c :: l) = gapLen true l + 1 := by
  by_cases h : c.toNat = 35 <;> simp [gapLen, h1, h]
theorem gapLen_lf (b : Bool) (c : UInt8) (l : List UInt8) (h1 : c.toNat = 10) : gapLen b (c :: l) = gapLen false l + 1 := by simp [gapLen, h1]
theorem gapLen_sharp (b : Bool) (c : UInt8) (l : List UInt8) (h1 : c.toNat = 35) : gapLen b (c :: l) = gapLen true l + 1 := by simp [gapLen, h1]

set_option maxHeartbeats 1000000 in
theorem refGap_any (s : ByteArray) (k : Nat) (w : World) (hs : s.size ≤ 9223372036854775807) (hk : k ≤ s.size) :
    Calls Try.prog 20 #[.string s, .int .i64 (k : Int)] w fun e w' => e = .returned (.int .i64 (gapLen false ((bs s).drop k) : Nat)) ∧ w = w' := by
  obtain ⟨R, hR⟩ : ∃ R, gapLen false ((bs s).drop k) = R := ⟨_, rfl⟩
  rw [hR]
  have HR := Lib.hid hR; clear hR
  go_enter Try.func20, Try.ntmps20
  go_wp2_with fail
  go_loop [5, 6, 7] (fun n b c => ∃ (j : Nat) (com : Bool), k + j ≤ s.size ∧ Hid (j + gapLen com ((bs s).drop (k + j)) = R) ∧ n = .int .i64 j ∧ b = .bool com) (fun n _ _ => s.size - (intOf n).toNat)
  case atStart => exact ⟨0, false, by omega, by have := HR.out; show _ = _; simpa using this, rfl, rfl⟩
  case round =>
    obtain ⟨j, com, hj, HJ, rfl, rfl⟩ := hrel
    by_cases hlt : k + j < s.size
    · have hd : (bs s).drop (k + j) = s[k + j] :: (bs s).drop (k + j + 1) := drop_get s (k + j) hlt
      have HD := Lib.hid hd; clear hd
      by_cases h10 : s[k + j].toNat = 10
      · have b1 : ((s[k + j].toNat : Int) == 10) = true := beq_iff_eq.2 (by omega)
        have HN : Hid (j + 1 + gapLen false ((bs s).drop (k + (j + 1))) = R) := by
          have := HJ.out; rw [HD.out, gapLen_lf _ _ _ h10] at this; show _ = _; rw [← Nat.add_assoc k]; omega
        clear h10
        go_wp2_with fail
        go_round
        case rel => exact ⟨j + 1, false, by omega, HN, by go_num, rfl⟩
        case measure => simp [intOf]; omega
      · have b1 : ((s[k + j].toNat : Int) == 10) = false := beq_eq_false_iff_ne.2 (by omega)
        by_cases h35 : s[k + j].toNat = 35
        · have b2 : ((s[k + j].toNat : Int) == 35) = true := beq_iff_eq.2 (by omega)
          have HN : Hid (j + 1 + gapLen true ((bs s).drop (k + (j + 1))) = R) := by
            have := HJ.out; rw [HD.out, gapLen_sharp _ _ _ h35] at this; show _ = _; rw [← Nat.add_assoc k]; omega
          clear h10 h35
          go_wp2_with fail
          go_round
          case rel => exact ⟨j + 1, true, by omega, HN, by go_num, rfl⟩
          case measure => simp [intOf]; omega
        · have b2 : ((s[k + j].toNat : Int) == 35) = false := beq_eq_false_iff_ne.2 (by omega)
          cases com with
          | true =>
            have HN : Hid (j + 1 + gapLen true ((bs s).drop (k + (j + 1))) = R) := by
              have := HJ.out; rw [HD.out, gapLen_in _ _ h10] at this; show _ = _; rw [← Nat.add_assoc k]; omega
            clear h10 h35
            go_wp2_with fail
            go_round
            case rel => exact ⟨j + 1, true, by omega, HN, by go_num, rfl⟩
            case measure => simp [intOf]; omega
          | false =>
            by_cases h32 : s[k + j].toNat = 32
            · have b3 : ((s[k + j].toNat : Int) != 32) = false := by rw [bne_eq_false_iff_eq]; omega
              have HN : Hid (j + 1 + gapLen false ((bs s).drop (k + (j + 1))) = R) := by
                have := HJ.out; rw [HD.out, gapLen_blank _ _ (.inl h32)] at this; show _ = _; rw [← Nat.add_assoc k]; omega
              clear h10 h35 h32
              go_wp2_with fail
              go_round
              case rel => exact ⟨j + 1, false, by omega, HN, by go_num, rfl⟩
              case measure => simp [intOf]; omega
            · have b3 : ((s[k + j].toNat : Int) != 32) = true := by rw [bne_iff_ne]; omega
              by_cases h9 : s[k + j].toNat = 9
              · have b4 : ((s[k + j].toNat : Int) != 9) = false := by rw [bne_eq_false_iff_eq]; omega
                have HN : Hid (j + 1 + gapLen false ((bs s).drop (k + (j + 1))) = R) := by
                  have := HJ.out; rw [HD.out, gapLen_blank _ _ (.inr (.inl h9))] at this; show _ = _; rw [← Nat.add_assoc k]; omega
                clear h10 h35 h32 h9
                go_wp2_with fail
                go_round
                case rel => exact ⟨j + 1, false, by omega, HN, by go_num, rfl⟩
                case measure => simp [intOf]; omega
              · have b4 : ((s[k + j].toNat : Int) != 9) = true := by rw [bne_iff_ne]; omega
                have HN : Hid (j = R) := by
                  have := HJ.out; rw [HD.out, gapLen_other _ _ h32 h9 h10 h35] at this; exact this
                clear h10 h35 h32 h9
                go_wp2_with fail
                go_ret
                exact ⟨ret_int (congrArg (fun n : Nat => (n : Int)) HN.out), rfl⟩
    · have HN : Hid (j = R) := by
        have := HJ.out; unfold bs at this; rw [drop_end s (k + j) (by omega), gapLen_nil] at this; exact this
      go_wp2_with fail
      go_ret
      exact ⟨ret_int (congrArg (fun n : Nat => (n : Int)) HN.out), rfl⟩

theorem nameLen_cons (c : UInt8) (l : List UInt8) (h : nameByte (c :: l) = true) : nameLen (c :: l) = nameLen l + 1 := by
  rw [nameLen, if_pos h]
theorem nameLen_stop (c : UInt8) (l : List UInt8) (h : nameByte (c :: l) = false) : nameLen (c :: l) = 0 := by
  rw [nameLen, if_neg (by rw [h]; simp)]
theorem nameByte_word (c : UInt8) (l : List UInt8) (h : isWord c = true) : nameByte (c :: l) = true := by simp [nameByte, h]
theorem nameByte_dot (c d : UInt8) (l : List UInt8) (h : isWord c = false) (h1 : c.toNat = 46) : nameByte (c :: d :: l) = isWord d := by simp [nameByte, h, h1]
theorem nameByte_dot_end (c : UInt8) (h : isWord c = false) : nameByte [c] = false := by simp [nameByte, h]
theorem nameByte_not (c : UInt8) (l : List UInt8) (h : isWord c = false) (h1 : c.toNat ≠ 46) : nameByte (c :: l) = false := by simp [nameByte, h, h1]

set_option maxHeartbeats 1000000 in
theorem refName_any (s : ByteArray) (k : Nat) (w : World) (hs : s.size ≤ 9223372036854775807) (hk : k ≤ s.size) :
    Calls Try.prog 25 #[.string s, .int .i64 (k : Int)] w fun e w' => e = .returned (.int .i64 (nameLen ((bs s).drop k) : Nat)) ∧ w = w' := by
  obtain ⟨R, hR⟩ : ∃ R, nameLen ((bs s).drop k) = R := ⟨_, rfl⟩
  rw [hR]
  have HR := Lib.hid hR; clear hR
  go_enter Try.func25, Try.ntmps25
  go_wp2_with fail
  go_loop [5, 6, 7] (fun n b c => ∃ (j : Nat), k + j ≤ s.size ∧ Hid (j + nameLen ((bs s).drop (k + j)) = R) ∧ n = .int .i64 j) (fun n _ _ => s.size - (intOf n).toNat)
  case atStart => exact ⟨0, by omega, by have := HR.out; show _ = _; simpa using this, rfl⟩
  case round =>
    obtain ⟨j, hj, HJ, rfl⟩ := hrel
    by_cases hlt : k + j < s.size
    · have hd : (bs s).drop (k + j) = s[k + j] :: (bs s).drop (k + j + 1) := drop_get s (k + j) hlt
      have HD := Lib.hid hd; clear hd
      have hcase : (∃ b : Bool, isWord s[k + j] = b ∧ ((s[k + j].toNat : Int) == 46) = false ∧ Hid (nameByte (s[k + j] :: (bs s).drop (k + j + 1)) = b)) ∨
          (isWord s[k + j] = false ∧ ((s[k + j].toNat : Int) == 46) = true ∧ ¬ k + j + 1 < s.size ∧ Hid (nameByte (s[k + j] :: (bs s).drop (k + j + 1)) = false)) ∨
          (isWord s[k + j] = false ∧ ((s[k + j].toNat : Int) == 46) = true ∧ ∃ h : k + j + 1 < s.size, ∃ b : Bool, isWord s[k + j + 1] = b ∧ Hid (nameByte (s[k + j] :: (bs s).drop (k + j + 1)) = b)) := by
        by_cases h46 : s[k + j].toNat = 46
        · have hw : isWord s[k + j] = false := by simp [isWord, isLetter, isDigit, h46]
          by_cases h1 : k + j + 1 < s.size
          · refine .inr (.inr ⟨hw, beq_iff_eq.2 (by omega), h1, _, rfl, ?_⟩)
            show _ = _
            have : (bs s).drop (k + j + 1) = s[k + j + 1] :: (bs s).drop (k + j + 1 + 1) := drop_get s (k + j + 1) h1
            rw [this, nameByte_dot _ _ _ hw h46]
          · refine .inr (.inl ⟨hw, beq_iff_eq.2 (by omega), h1, ?_⟩)
            show _ = _
            have : (bs s).drop (k + j + 1) = [] := drop_end s (k + j + 1) (by omega)
            rw [this, nameByte_dot_end _ hw]
        · refine .inl ⟨_, rfl, beq_eq_false_iff_ne.2 (by omega), ?_⟩
          show _ = _
          cases hw : isWord s[k + j] with
          | true => exact nameByte_word _ _ hw
          | false => exact nameByte_not _ _ hw h46
      have hgo : nameByte (s[k + j] :: (bs s).drop (k + j + 1)) = true → Hid (j + 1 + nameLen ((bs s).drop (k + (j + 1))) = R) := by
        intro h
        have := HJ.out; rw [HD.out, nameLen_cons _ _ h] at this; show _ = _; rw [← Nat.add_assoc k]; omega
      have hst : nameByte (s[k + j] :: (bs s).drop (k + j + 1)) = false → Hid (j = R) := by
        intro h
        have := HJ.out; rw [HD.out, nameLen_stop _ _ h] at this; exact this
      have HG := Lib.hid hgo; clear hgo
      have HS := Lib.hid hst; clear hst
      rcases hcase with ⟨b, hw, b1, HB⟩ | ⟨hw, b1, h1, HB⟩ | ⟨hw, b1, h1, b, hw1, HB⟩
      · cases b with
        | true =>
          go_wp2_with (go_at_call 36; refine (refWord_any _ _).mono ?_; rintro e w' ⟨rfl, rfl⟩)
          go_round
          case rel => exact ⟨j + 1, by omega, HG.out HB.out, by go_num⟩
          case measure => simp [intOf]; omega
        | false =>
          go_wp2_with (go_at_call 36; refine (refWord_any _ _).mono ?_; rintro e w' ⟨rfl, rfl⟩)
          go_ret
          exact ⟨ret_int (congrArg (fun n : Nat => (n : Int)) (HS.out HB.out).out), rfl⟩
      · go_wp2_with (go_at_call 36; refine (refWord_any _ _).mono ?_; rintro e w' ⟨rfl, rfl⟩)
        go_ret
        exact ⟨ret_int (congrArg (fun n : Nat => (n : Int)) (HS.out HB.out).out), rfl⟩
      · cases b with
        | true =>
          go_wp2_with (go_at_call 36; refine (refWord_any _ _).mono ?_; rintro e w' ⟨rfl, rfl⟩)
          go_round
          case rel => exact ⟨j + 1, by omega, HG.out HB.out, by go_num⟩
          case measure => simp [intOf]; omega
        | false =>
          go_wp2_with (go_at_call 36; refine (refWord_any _ _).mono ?_; rintro e w' ⟨rfl, rfl⟩)
          go_ret
          exact ⟨ret_int (congrArg (fun n : Nat => (n : Int)) (HS.out HB.out).out), rfl⟩
    · have HN : Hid (j = R) := by
        have := HJ.out; unfold bs at this; rw [drop_end s (k + j) (by omega), nameLen] at this; exact this
      go_wp2_with fail
      go_ret
      exact ⟨ret_int (congrArg (fun n : Nat => (n : Int)) HN.out), rfl⟩
end Go.Proofs.Ytbehkkgdgfdkaaa.Lx
