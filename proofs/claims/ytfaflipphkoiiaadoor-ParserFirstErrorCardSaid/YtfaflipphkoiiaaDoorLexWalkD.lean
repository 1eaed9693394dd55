/-
  What the function afterGaps of package lexer returns; the panic with which number ends.
-/
import Derived.Test.YtfaflipphkoiiaaDoorLexWalkC
namespace Go.Proofs.YtfaflipphkoiiaaDoor.Lx
open Go.RowKit

set_option maxHeartbeats 1000000 in
theorem number_no (s : ByteArray) (k n : Nat) (w : World) (hs : s.size ≤ 9223372036854775807) (hk : k ≤ s.size) (hn : numLen ((bs s).drop k) = n)
    (hw : 12 < n ∨ wordAt ((bs s).drop (k + n)) = true) :
    Calls Tryd.prog 85 #[.string s, .int .i64 (k : Int)] w fun e w' => e = .panicked (fail_ 5 k) ∧ Below w.heap.size w w' := by
  have hl := numLen_le ((bs s).drop k)
  rw [List.length_drop, bs_length, hn] at hl
  have hmf := mkFunc
  have Hn := Lib.hid hn; clear hn
  have hcase : (12 < n) ∨ (n ≤ 12 ∧ ∃ h : k + n < s.size, isWord s[k + n] = true) := by
    by_cases h12 : 12 < n
    · exact .inl h12
    · refine .inr ⟨by omega, ?_⟩
      have hw' := hw.resolve_left h12
      have hlt : k + n < s.size := by
        rcases Nat.lt_or_ge (k + n) s.size with h | h
        · exact h
        · unfold bs at hw'; rw [drop_end s _ h] at hw'; simp [wordAt] at hw'
      refine ⟨hlt, ?_⟩
      unfold bs at hw'; rw [drop_get s _ hlt] at hw'; exact hw'
  clear hw
  rcases hcase with h12 | ⟨h12, hlt, hp⟩
  all_goals
    go_enter Tryd.func85, Tryd.ntmps85
    go_wp2_with fail
    refine (end_number _ s _ k hs hk (by simp)).mono ?_
    rintro e w' ⟨rfl, rfl⟩
    rw [Hn.out]
    go_wp2_with (go_at_call 100; refine (isNamePart_any _ _).mono ?_; rintro e w' ⟨rfl, rfl⟩)
    exact ⟨rfl, rfl, by go_grown⟩

set_option maxHeartbeats 1000000 in
theorem afterGaps_any (s : ByteArray) (k : Nat) (w : World) (hs : s.size ≤ 9223372036854775807) (hk : k ≤ s.size) :
    Calls Tryd.prog 54 #[.string s, .int .i64 (k : Int)] w fun e w' =>
      e = .returned (.int .i64 ((k + gapLen false ((bs s).drop k) : Nat) : Int)) ∧ Below w.heap.size w w' := by
  have hmf := mkFunc
  obtain ⟨R, hR⟩ : ∃ R, k + gapLen false ((bs s).drop k) = R := ⟨_, rfl⟩
  rw [hR]
  have HR := Lib.hid hR; clear hR
  go_enter Tryd.func54, Tryd.ntmps54
  go_wp2_with fail
  go_loop [1] (fun i => ∃ j : Nat, j ≤ s.size ∧ Hid (j + gapLen false ((bs s).drop j) = R) ∧ i = .int .i64 j) (fun i => s.size - (intOf i).toNat)
  case atStart => exact ⟨k, hk, HR, rfl⟩
  case round =>
    obtain ⟨j, hj, HJ, rfl⟩ := hrel
    by_cases hlt : j < s.size
    · have hd : (bs s).drop j = s[j] :: (bs s).drop (j + 1) := drop_get s j hlt
      have HD := Lib.hid hd; clear hd
      by_cases h32 : s[j].toNat = 32 ∨ s[j].toNat = 9 ∨ s[j].toNat = 10
      · have HN : Hid (j + 1 + gapLen false ((bs s).drop (j + 1)) = R) := by
          have := HJ.out; rw [HD.out, gapLen_blank _ _ h32] at this; show _ = _; omega
        rcases h32 with h | h | h
        · have b1 : ((s[j].toNat : Int) == 32) = true := beq_iff_eq.2 (by omega)
          clear h
          go_wp2_with fail
          go_round
          case rel => exact ⟨j + 1, by omega, HN, by go_num⟩
          case measure => simp [intOf]; omega
        · have b1 : ((s[j].toNat : Int) == 32) = false := beq_eq_false_iff_ne.2 (by omega)
          have b2 : ((s[j].toNat : Int) == 9) = true := beq_iff_eq.2 (by omega)
          clear h
          go_wp2_with fail
          go_round
          case rel => exact ⟨j + 1, by omega, HN, by go_num⟩
          case measure => simp [intOf]; omega
        · have b1 : ((s[j].toNat : Int) == 32) = false := beq_eq_false_iff_ne.2 (by omega)
          have b2 : ((s[j].toNat : Int) == 9) = false := beq_eq_false_iff_ne.2 (by omega)
          have b3 : ((s[j].toNat : Int) == 10) = true := beq_iff_eq.2 (by omega)
          clear h
          go_wp2_with fail
          go_round
          case rel => exact ⟨j + 1, by omega, HN, by go_num⟩
          case measure => simp [intOf]; omega
      · have b1 : ((s[j].toNat : Int) == 32) = false := beq_eq_false_iff_ne.2 (by omega)
        have b2 : ((s[j].toNat : Int) == 9) = false := beq_eq_false_iff_ne.2 (by omega)
        have b3 : ((s[j].toNat : Int) == 10) = false := beq_eq_false_iff_ne.2 (by omega)
        by_cases h35 : s[j].toNat = 35
        · have b4 : ((s[j].toNat : Int) == 35) = true := beq_iff_eq.2 (by omega)
          have hcl : comLen ((bs s).drop j) ≤ s.size - j := by have := comLen_le ((bs s).drop j); rwa [List.length_drop, bs_length] at this
          have hc1 : 1 ≤ comLen ((bs s).drop j) := by rw [HD.out]; simp [comLen, h35]
          have HN : Hid (j + comLen ((bs s).drop j) + gapLen false ((bs s).drop (j + comLen ((bs s).drop j))) = R) := by
            have := HJ.out; rw [HD.out, gapLen_hash _ _ h35, ← HD.out, List.drop_drop] at this; show _ = _; omega
          clear h32 h35
          go_wp2_with fail
          refine (end_gaps _ s _ j hs (by omega) (by simp)).mono ?_
          rintro e w' ⟨rfl, rfl⟩
          generalize comLen ((bs s).drop j) = c at *
          go_wp2_with fail
          go_round
          case rel => exact ⟨j + c, by omega, HN, by go_num⟩
          case measure => simp [intOf]; omega
        · have b4 : ((s[j].toNat : Int) == 35) = false := beq_eq_false_iff_ne.2 (by omega)
          have HN : Hid (j = R) := by
            have := HJ.out; rw [HD.out, gapLen_other _ _ (by omega) (by omega) (by omega) (by omega)] at this; exact this
          clear h32 h35
          go_wp2_with fail
          go_ret
          exact ⟨ret_int (congrArg (fun n : Nat => (n : Int)) HN.out), by go_grown⟩
    · have HN : Hid (j = R) := by
        have := HJ.out; unfold bs at this; rw [drop_end s j (by omega), gapLen_nil] at this; exact this
      go_wp2_with fail
      go_ret
      exact ⟨ret_int (congrArg (fun n : Nat => (n : Int)) HN.out), by go_grown⟩
end Go.Proofs.YtfaflipphkoiiaaDoor.Lx
