/-
  What the small functions of package lexer return: letters, digits, name bytes, the end of a run of bytes, for every text of at most 2^63 - 1 bytes.
-/
import Derived.Test.YtfaflipphkoiiaaDoorProg
import Derived.Test.YtfaflipphkoiiaaDoorLexPlain
import Derived.WalkKit
import Derived.WalkLawsBesides
import Derived.Deep.QuietTactic
import Derived.BigQuiet
import Derived.Lib.Hide
import Derived.Handy
namespace Go.Proofs.YtfaflipphkoiiaaDoor
open Go.RowKit

theorem ret_bool {a b : Bool} (h : a = b) : Ending.returned (.bool a) = .returned (.bool b) := by rw [h]
theorem ret_int {k : IntKind} {a b : Int} (h : a = b) : Ending.returned (.int k a) = .returned (.int k b) := by rw [h]
theorem drop_get (s : ByteArray) (k : Nat) (h : k < s.size) : s.data.toList.drop k = s[k] :: s.data.toList.drop (k + 1) := by
  have h' : k < s.data.toList.length := by simpa using h
  rw [List.drop_eq_getElem_cons h']; rfl
theorem drop_end (s : ByteArray) (k : Nat) (h : s.size ≤ k) : s.data.toList.drop k = [] := by
  apply List.drop_eq_nil_of_le; simpa using h
theorem mkFunc (fn : Fn) (first cap : Array Value) (w : World) : (Instr.makeFunc fn first cap).run Tryd.prog w = .ok (.func fn first cap) w := rfl

namespace Lx
theorem isDigit_any (c : UInt8) (w : World) :
    Calls Tryd.prog 84 #[.int .u8 (c.toNat : Int)] w fun e w' => e = .returned (.bool (Lx.isDigit c)) ∧ w = w' := by
  have hc : c.toNat < 256 := c.toNat_lt
  go_enter Tryd.func84, Tryd.ntmps84
  go_wp2
  all_goals
    go_ret
    exact ⟨ret_bool (by unfold Lx.isDigit; rw [Bool.eq_iff_iff]; simp; omega), rfl⟩

theorem isLetter_any (c : UInt8) (w : World) :
    Calls Tryd.prog 82 #[.int .u8 (c.toNat : Int)] w fun e w' => e = .returned (.bool (Lx.isLetter c)) ∧ w = w' := by
  have hc : c.toNat < 256 := c.toNat_lt
  go_enter Tryd.func82, Tryd.ntmps82
  go_wp2
  all_goals
    go_ret
    exact ⟨ret_bool (by unfold Lx.isLetter; rw [Bool.eq_iff_iff]; simp; omega), rfl⟩

theorem isNamePart_any (c : UInt8) (w : World) :
    Calls Tryd.prog 100 #[.int .u8 (c.toNat : Int)] w fun e w' => e = .returned (.bool (Lx.isWord c)) ∧ w = w' := by
  have hc : c.toNat < 256 := c.toNat_lt
  go_enter Tryd.func100, Tryd.ntmps100
  go_wp2_with (first | (go_at_call 82; refine (isLetter_any _ _).mono ?_; rintro e w' ⟨rfl, rfl⟩) | (go_at_call 84; refine (isDigit_any _ _).mono ?_; rintro e w' ⟨rfl, rfl⟩))
  all_goals
    go_ret
    exact ⟨ret_bool (by unfold Lx.isWord; simp [*]; try (rw [Bool.eq_iff_iff]; simp; omega)), rfl⟩

theorem number1_any (i : Nat) (a : Addr) (s : ByteArray) (w : World) (hi : i < s.size) (hcell : w.cell? a = some (.string s)) :
    Calls Tryd.prog 101 #[.int .i64 (i : Int), .pointer (some a)] w fun e w' => e = .returned (.bool (Lx.isDigit s[i])) ∧ w = w' := by
  go_enter Tryd.func101, Tryd.ntmps101
  go_wp2_with (go_at_call 84; refine (isDigit_any _ _).mono ?_; rintro e w' ⟨rfl, rfl⟩)
  go_ret
  exact ⟨rfl, rfl⟩

theorem gaps1_any (i : Nat) (a : Addr) (s : ByteArray) (w : World) (hi : i < s.size) (hcell : w.cell? a = some (.string s)) :
    Calls Tryd.prog 81 #[.int .i64 (i : Int), .pointer (some a)] w fun e w' => e = .returned (.bool (s[i].toNat != 10)) ∧ w = w' := by
  go_enter Tryd.func81, Tryd.ntmps81
  go_wp2
  go_ret
  refine ⟨ret_bool ?_, rfl⟩
  rw [Bool.eq_iff_iff]; simp; omega

set_option maxHeartbeats 400000 in
theorem name1_any (i : Nat) (a : Addr) (s : ByteArray) (w : World) (hs : s.size ≤ 9223372036854775807) (hi : i < s.size) (hcell : w.cell? a = some (.string s)) :
    Calls Tryd.prog 99 #[.int .i64 (i : Int), .pointer (some a)] w fun e w' => e = .returned (.bool (Lx.nameByte (s.data.toList.drop i))) ∧ w = w' := by
  have HF := Lib.hid (drop_get s i hi)
  by_cases hd : ((s[i].toNat : Int) == 46) = true
  · have hdn : s[i].toNat = 46 := by have := beq_iff_eq.1 hd; omega
    have HD := Lib.hid hdn; clear hdn
    by_cases hi1 : i + 1 < s.size
    · have HG := Lib.hid (drop_get s (i + 1) hi1)
      by_cases hw : Lx.isWord s[i+1] = true
      · go_enter Tryd.func99, Tryd.ntmps99
        go_wp2_with (go_at_call 100; refine (isNamePart_any _ _).mono ?_; rintro e w' ⟨rfl, rfl⟩)
        go_ret
        exact ⟨ret_bool (by rw [HF.out, HG.out]; simp [Lx.nameByte, HD.out, hw]), rfl⟩
      · have hw' : Lx.isWord s[i+1] = false := by simpa using hw
        go_enter Tryd.func99, Tryd.ntmps99
        go_wp2_with (go_at_call 100; refine (isNamePart_any _ _).mono ?_; rintro e w' ⟨rfl, rfl⟩)
        go_ret
        exact ⟨ret_bool (by rw [HF.out, HG.out]; simp [Lx.nameByte, HD.out, hw']), rfl⟩
    · have HG := Lib.hid (drop_end s (i + 1) (by omega))
      go_enter Tryd.func99, Tryd.ntmps99
      go_wp2_with (go_at_call 100; refine (isNamePart_any _ _).mono ?_; rintro e w' ⟨rfl, rfl⟩)
      go_ret
      exact ⟨ret_bool (by rw [HF.out, HG.out]; simp [Lx.nameByte]), rfl⟩
  · have hd' : ((s[i].toNat : Int) == 46) = false := by simpa using hd
    have hdn : (s[i].toNat == 46) = false := by have := beq_eq_false_iff_ne.1 hd'; rw [beq_eq_false_iff_ne]; omega
    have HD := Lib.hid hdn; clear hdn
    go_enter Tryd.func99, Tryd.ntmps99
    go_wp2_with (go_at_call 100; refine (isNamePart_any _ _).mono ?_; rintro e w' ⟨rfl, rfl⟩)
    go_ret
    exact ⟨ret_bool (by rw [HF.out]; simp only [Lx.nameByte]; rw [HD.out]; simp), rfl⟩

set_option maxHeartbeats 400000 in
theorem end_any (F : Nat) (p : Nat → Bool) (a : Addr) (s : ByteArray) (w : World) (k0 r : Nat) (hs : s.size ≤ 9223372036854775807) (h0 : k0 ≤ r) (hr : r ≤ s.size)
    (hyes : ∀ k, k0 ≤ k → k < r → p k = true) (hno : r < s.size → p r = false)
    (hF : ∀ (args : Array Value) (W : World), (callFunc F args).run Tryd.prog W = .ok (.enter F args) W)
    (hcall : ∀ i : Nat, i < s.size → Calls Tryd.prog F #[.int .i64 (i : Int), .pointer (some a)] w fun e w' => e = .returned (.bool (p i)) ∧ w = w') :
    Calls Tryd.prog 80 #[.string s, .int .i64 (k0 : Int), .func (.func F) #[] #[.pointer (some a)]] w fun e w' => e = .returned (.int .i64 (r : Int)) ∧ w = w' := by
  have Hyes := Lib.hid hyes; clear hyes
  have Hno := Lib.hid hno; clear hno
  have Hcall := Lib.hid hcall; clear hcall
  go_enter Tryd.func80, Tryd.ntmps80
  go_wp2_with fail
  go_loop [1] (fun i => ∃ k : Nat, k0 ≤ k ∧ k ≤ r ∧ i = .int .i64 k) (fun i => s.size - (intOf i).toNat)
  case atStart => exact ⟨k0, Nat.le_refl _, h0, rfl⟩
  case round =>
    obtain ⟨k, hk0, hkr, rfl⟩ := hrel
    by_cases hlt : k < r
    · have hp := Hyes.out k hk0 hlt
      have hks : k < s.size := by omega
      go_wp2_with fail
      refine (Hcall.out k hks).mono ?_
      rintro e w' ⟨rfl, rfl⟩
      go_wp2_with fail
      go_round
      case rel => exact ⟨k + 1, by omega, by omega, by go_num⟩
      case measure => simp [intOf]; omega
    · have hkr : k = r := by omega
      subst hkr
      clear hlt
      by_cases hks : k < s.size
      · have hp := Hno.out hks
        go_wp2_with fail
        refine (Hcall.out k hks).mono ?_
        rintro e w' ⟨rfl, rfl⟩
        go_wp2_with fail
        go_ret
        exact ⟨rfl, rfl⟩
      · go_wp2_with fail
        go_ret
        exact ⟨rfl, rfl⟩
end Lx
end Go.Proofs.YtfaflipphkoiiaaDoor
