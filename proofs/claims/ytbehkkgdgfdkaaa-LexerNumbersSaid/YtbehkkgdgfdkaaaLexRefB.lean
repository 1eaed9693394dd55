/-
  What the functions number, symbol and token of package estoppelref06 return.
-/
import Derived.Test.YtbehkkgdgfdkaaaLexRefA
import Derived.Test.YtbehkkgdgfdkaaaLexWalkE
namespace Go.Proofs.Ytbehkkgdgfdkaaa.Lx
open Go.RowKit
set_option linter.unusedVariables false

theorem getElem_drop_bs (s : ByteArray) (k j : Nat) (h : k + j < s.size) (h' : j < ((bs s).drop k).length) : ((bs s).drop k)[j] = s[k + j] := by
  rw [List.getElem_drop]; rfl

set_option maxHeartbeats 1000000 in
theorem refNumber_any (s : ByteArray) (k : Nat) (w : World) (hs : s.size ≤ 9223372036854775807) (hk : k ≤ s.size) :
    Calls Try.prog 27 #[.string s, .int .i64 (k : Int)] w fun e w' =>
      e = .returned (.tuple #[.int .i64 (numLen ((bs s).drop k) : Nat), .int .i64 (valFrom 0 (((bs s).drop k).take (min (numLen ((bs s).drop k)) 12)) : Nat)]) ∧ w = w' := by
  have hl := numLen_le ((bs s).drop k)
  rw [List.length_drop, bs_length] at hl
  have hdig := numLen_digits ((bs s).drop k)
  have hyes : ∀ j (h : k + j < s.size), j < numLen ((bs s).drop k) → isDigit s[k + j] = true := by
    intro j h hj
    have hb := bs_length s
    have := numLen_yes ((bs s).drop k) j (by rw [List.length_drop]; omega) hj
    rwa [getElem_drop_bs s k j h] at this
  have hno : ∀ (h : k + numLen ((bs s).drop k) < s.size), isDigit s[k + numLen ((bs s).drop k)] = false := by
    intro h
    have hb := bs_length s
    have := numLen_no ((bs s).drop k) (by rw [List.length_drop]; omega)
    rwa [getElem_drop_bs s k _ h] at this
  have hstep : ∀ j (h : k + j < s.size), valFrom 0 (((bs s).drop k).take (j + 1)) = 10 * valFrom 0 (((bs s).drop k).take j) + (s[k + j].toNat - 48) := by
    intro j h
    have hb := bs_length s
    have h' : j < ((bs s).drop k).length := by rw [List.length_drop]; omega
    rw [List.take_succ_eq_append_getElem h', valFrom_snoc, getElem_drop_bs s k j h]
  have hsmall : ∀ j, j ≤ numLen ((bs s).drop k) → j ≤ 12 → valFrom 0 (((bs s).drop k).take j) < 1000000000000 := by
    intro j hj h12
    refine valFrom_small _ (fun c hc => hdig c ?_) (by rw [List.length_take]; omega)
    have : ((bs s).drop k).take j = (((bs s).drop k).take (numLen ((bs s).drop k))).take j := by rw [List.take_take]; congr 1; omega
    rw [this] at hc
    exact List.mem_of_mem_take hc
  clear hdig
  generalize numLen ((bs s).drop k) = R at *
  have HY := Lib.hid hyes; clear hyes
  have HN := Lib.hid hno; clear hno
  have HST := Lib.hid hstep; clear hstep
  have HSM := Lib.hid hsmall; clear hsmall
  go_enter Try.func27, Try.ntmps27
  go_wp2_with fail
  go_loop [6, 7] (fun n v => ∃ j : Nat, j ≤ R ∧ n = .int .i64 j ∧ v = .int .i64 (valFrom 0 (((bs s).drop k).take (min j 12)) : Nat)) (fun n _ => s.size - (intOf n).toNat)
  case atStart => exact ⟨0, by omega, rfl, rfl⟩
  case round =>
    obtain ⟨j, hj, rfl, rfl⟩ := hrel
    by_cases hjR : j < R
    · have hks : k + j < s.size := by omega
      have hd := HY.out j hks hjR
      by_cases h12 : j < 12
      · have hv := HSM.out j (by omega) (by omega)
        have HV := Lib.hid (HST.out j hks)
        have hm : min j 12 = j := by omega
        have hm1 : min (j + 1) 12 = j + 1 := by omega
        rw [hm]
        have HM1 := Lib.hid hm1; clear hm hm1
        have hd1 : (48 : Int) ≤ s[k + j].toNat := by unfold isDigit at hd; simp at hd; omega
        have hd2 : (s[k + j].toNat : Int) ≤ 57 := by unfold isDigit at hd; simp at hd; omega
        generalize valFrom 0 (((bs s).drop k).take j) = v at *
        go_wp2_with (go_at_call 26; refine (refDigit_any _ _).mono ?_; rintro e w' ⟨rfl, rfl⟩)
        go_round
        case rel => exact ⟨j + 1, by omega, by go_num, by rw [HM1.out, HV.out]; go_num⟩
        case measure => simp [intOf]; omega
      · have HM1 := Lib.hid (show min (j + 1) 12 = min j 12 by omega)
        go_wp2_with (go_at_call 26; refine (refDigit_any _ _).mono ?_; rintro e w' ⟨rfl, rfl⟩)
        go_round
        case rel => exact ⟨j + 1, by omega, by go_num, by rw [HM1.out]⟩
        case measure => simp [intOf]; omega
    · have hjR' : j = R := by omega
      subst hjR'
      clear hjR
      by_cases hks : k + j < s.size
      · have hd := HN.out hks
        go_wp2_with (go_at_call 26; refine (refDigit_any _ _).mono ?_; rintro e w' ⟨rfl, rfl⟩)
        go_ret2
        exact ⟨rfl, rfl⟩
      · go_wp2_with fail
        go_ret2
        exact ⟨rfl, rfl⟩

theorem isSym_iff (c : UInt8) : isSym c = (c.toNat == 59 || c.toNat == 58 || c.toNat == 44 || c.toNat == 61 || c.toNat == 47 || c.toNat == 45 || c.toNat == 40 || c.toNat == 41 || c.toNat == 123 || c.toNat == 125) := by
  have h : ∀ n : UInt8, (c == n) = (c.toNat == n.toNat) := by
    intro n
    rw [Bool.eq_iff_iff, beq_iff_eq, beq_iff_eq]
    exact UInt8.toNat_inj.symm
  simp only [isSym, syms, List.contains_cons, List.contains_nil, h, Bool.or_false, Bool.or_assoc]
  rfl

set_option maxHeartbeats 1000000 in
theorem refSymbol_any (c : UInt8) (w : World) :
    Calls Try.prog 28 #[.int .u8 (c.toNat : Int)] w fun e w' => e = .returned (.bool (Lx.isSym c)) ∧ w = w' := by
  have hc : c.toNat < 256 := c.toNat_lt
  have e0 : ((ByteArray.mk #[59, 58, 44, 61, 47, 45, 40, 41, 123, 125])[0]'(by decide)).toNat = 59 := rfl
  have e1 : ((ByteArray.mk #[59, 58, 44, 61, 47, 45, 40, 41, 123, 125])[1]'(by decide)).toNat = 58 := rfl
  have e2 : ((ByteArray.mk #[59, 58, 44, 61, 47, 45, 40, 41, 123, 125])[2]'(by decide)).toNat = 44 := rfl
  have e3 : ((ByteArray.mk #[59, 58, 44, 61, 47, 45, 40, 41, 123, 125])[3]'(by decide)).toNat = 61 := rfl
  have e4 : ((ByteArray.mk #[59, 58, 44, 61, 47, 45, 40, 41, 123, 125])[4]'(by decide)).toNat = 47 := rfl
  have e5 : ((ByteArray.mk #[59, 58, 44, 61, 47, 45, 40, 41, 123, 125])[5]'(by decide)).toNat = 45 := rfl
  have e6 : ((ByteArray.mk #[59, 58, 44, 61, 47, 45, 40, 41, 123, 125])[6]'(by decide)).toNat = 40 := rfl
  have e7 : ((ByteArray.mk #[59, 58, 44, 61, 47, 45, 40, 41, 123, 125])[7]'(by decide)).toNat = 41 := rfl
  have e8 : ((ByteArray.mk #[59, 58, 44, 61, 47, 45, 40, 41, 123, 125])[8]'(by decide)).toNat = 123 := rfl
  have e9 : ((ByteArray.mk #[59, 58, 44, 61, 47, 45, 40, 41, 123, 125])[9]'(by decide)).toNat = 125 := rfl
  go_enter Try.func28, Try.ntmps28
  go_wp2_with fail
  go_rounds 11
  all_goals
    clear e0 e1 e2 e3 e4 e5 e6 e7 e8 e9
    go_ret
    refine ⟨ret_bool ?_, rfl⟩
    rw [isSym_iff, Bool.eq_iff_iff]
    simp at *
    omega
end Go.Proofs.Ytbehkkgdgfdkaaa.Lx
