/-
  What the function Decimal of package estoppelref06 returns.
-/
import Derived.Test.YtbehkkgdgfdkaaaLexRefH
import Derived.Outline
namespace Go.Proofs.Ytbehkkgdgfdkaaa.Lx
open Go.RowKit
set_option linter.unusedVariables false

/-- The digit of a number below 10. -/
def digit (d : Nat) : UInt8 := (48 + d).toUInt8
/-- The decimal text of a number; the first argument: one less than a bound of its digits. -/
def dec : Nat → Nat → List UInt8
  | 0, n => [digit n]
  | f + 1, n => if n < 10 then [digit n] else dec f (n / 10) ++ [digit (n % 10)]
theorem dec_len (f n : Nat) : (dec f n).length ≤ f + 1 := by
  induction f generalizing n with
  | zero => simp [dec]
  | succ f ih => unfold dec; split; simp; rw [List.length_append]; have := ih (n / 10); simp; omega
theorem digits_cut (d : Nat) (h : d < 10) : (ByteArray.mk #[48, 49, 50, 51, 52, 53, 54, 55, 56, 57]).extract d (d + 1) = ⟨#[digit d]⟩ := by
  have : d = 0 ∨ d = 1 ∨ d = 2 ∨ d = 3 ∨ d = 4 ∨ d = 5 ∨ d = 6 ∨ d = 7 ∨ d = 8 ∨ d = 9 := by omega
  rcases this with rfl | rfl | rfl | rfl | rfl | rfl | rfl | rfl | rfl | rfl <;> decide
theorem cat_dec (l : List UInt8) (c : UInt8) : (ByteArray.mk l.toArray) ++ ⟨#[c]⟩ = ⟨(l ++ [c]).toArray⟩ := by
  have : bs ((ByteArray.mk l.toArray) ++ ⟨#[c]⟩) = l ++ [c] := by rw [bs_append, bs_lit]; rfl
  rw [← mk_bs ((ByteArray.mk l.toArray) ++ ⟨#[c]⟩), this]

set_option maxHeartbeats 1000000 in
theorem decimal_small (f n : Nat) (w : World) (h : n < 10) :
    Calls Try.prog 17 #[.int .i64 (n : Int)] w fun e w' => e = .returned (.string ⟨(dec f n).toArray⟩) ∧ ∃ m, w' = w.drewN m := by
  have hd : dec f n = [digit n] := by cases f <;> simp [dec, h]
  rw [hd]
  have hsl : ∀ W, (Instr.slice 9 (.string ⟨#[48, 49, 50, 51, 52, 53, 54, 55, 56, 57]⟩) (some (.int .i64 (n : Int))) (some (.int .i64 ((n : Int) + 1))) none).run Try.prog W = .ok (.string ⟨#[digit n]⟩) W := by
    intro W; rw [sl_str_one _ n (by show n + 1 ≤ 10; omega), digits_cut n h]
  clear hd
  go_enter Try.func17, Try.ntmps17
  go_wp2_with fail
  go_ret
  exact ⟨rfl, 0, rfl⟩

set_option maxHeartbeats 1000000 in
theorem decimal_any (f : Nat) (hf : f ≤ 12) : ∀ (n : Nat) (w : World), n < 10 ^ (f + 1) →
    Calls Try.prog 17 #[.int .i64 (n : Int)] w fun e w' => e = .returned (.string ⟨(dec f n).toArray⟩) ∧ ∃ m, w' = w.drewN m := by
  induction f with
  | zero => intro n w hn; exact decimal_small 0 n w (by simpa using hn)
  | succ f ih =>
    intro n w hn
    by_cases h : n < 10
    · exact decimal_small (f + 1) n w h
    · obtain ⟨q, hq⟩ : ∃ q, n / 10 = q := ⟨_, rfl⟩
      obtain ⟨d, hd⟩ : ∃ d, n % 10 = d := ⟨_, rfl⟩
      have hqn : q < 10 ^ (f + 1) := by rw [← hq]; rw [Nat.pow_succ] at hn; omega
      have hn13 : n < 100000000000000 := Nat.lt_of_lt_of_le hn (by have := Nat.pow_le_pow_right (n := 10) (by omega) (show f + 1 + 1 ≤ 14 by omega); omega)
      have hdec : dec (f + 1) n = dec f q ++ [digit d] := by simp [dec, h, hq, hd]
      rw [hdec]
      have hd10 : d < 10 := by omega
      have hql : q < 10000000000000 := by omega
      have hdl := dec_len f q
      have hcat := cat_dec (dec f q) (digit d)
      have HIH := Lib.hid (ih (by omega) q); clear ih
      have HQN := Lib.hid hqn; clear hqn
      have hsl : ∀ W, (Instr.slice 9 (.string ⟨#[48, 49, 50, 51, 52, 53, 54, 55, 56, 57]⟩) (some (.int .i64 (d : Int))) (some (.int .i64 ((d : Int) + 1))) none).run Try.prog W = .ok (.string ⟨#[digit d]⟩) W := by
        intro W; rw [sl_str_one _ d (by show d + 1 ≤ 10; omega), digits_cut d hd10]
      have t1 : (n : Int).tmod 10 = (d : Int) := by rw [Int.tmod_eq_emod_of_nonneg (by omega)]; omega
      have t2 : (n : Int).tdiv 10 = (q : Int) := by rw [Int.tdiv_eq_ediv_of_nonneg (by omega)]; omega
      have t3 : IntKind.i64.wrap ((q : Int)) = (q : Int) := IntWalk.i64_in _ (by omega)
      have t4 : IntKind.i64.wrap ((d : Int)) = (d : Int) := IntWalk.i64_in _ (by omega)
      have t5 : IntKind.i64.wrap ((d : Int) + 1) = (d : Int) + 1 := IntWalk.i64_in _ (by omega)
      have hsz : (ByteArray.mk (dec f q).toArray).size ≤ 20 := by rw [mk_size]; omega
      generalize hy : ByteArray.mk (dec f q).toArray = y at *
      have HY := Lib.hid hy; clear hy hdec hq hd hdl
      have T1 := Lib.hid t1; have T2 := Lib.hid t2; have T3 := Lib.hid t3; have T4 := Lib.hid t4; have T5 := Lib.hid t5
      clear t1 t2 t3 t4 t5
      go_enter Try.func17, Try.ntmps17
      go_wp2_with fail
      have t1 := T1.out; have t2 := T2.out; have t3 := T3.out; have t4 := T4.out; have t5 := T5.out
      go_quiet ((go_at_call 17; exact Calls.quiet_of (HIH.out _ HQN.out)))
      clear t1 t2 t3 t4 t5
      go_wp2_with fail
      go_ret
      exact ⟨rfl, nq, rfl⟩
end Go.Proofs.Ytbehkkgdgfdkaaa.Lx
