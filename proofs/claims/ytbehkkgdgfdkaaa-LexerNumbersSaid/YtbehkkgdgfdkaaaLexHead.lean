/-
  The fixed examples of the statements about the lexer return true; slices of tokens read as lists.
-/
import Derived.Test.YtbehkkgdgfdkaaaLexRefE
namespace Go.Proofs.Ytbehkkgdgfdkaaa.Lx
open Go.RowKit
set_option linter.unusedVariables false

theorem cellsAll_get (ts : List Tok) (i j : Nat) (h : i < ts.length) (hj : j < 4) : (cellsAll ts)[i * 4 + j]? = (cellsOf ts[i])[j]? := by
  induction ts generalizing i with
  | nil => simp at h
  | cons t ts ih =>
    have e : cellsAll (t :: ts) = cellsOf t ++ cellsAll ts := by simp [cellsAll]
    have hl : (cellsOf t).length = 4 := rfl
    rw [e]
    cases i with
    | zero => rw [Nat.zero_mul, Nat.zero_add, List.getElem?_append_left (by omega)]; rfl
    | succ i =>
      rw [List.getElem?_append_right (by omega), hl, show (i + 1) * 4 + j - 4 = i * 4 + j by omega, ih i (by simpa using h)]
      rfl
theorem tokRow_of_own {w : World} {base n cap : Nat} {A : Option Addr} {ts : List Tok} (h : w.ownsRow base 30 4 (.slice A n cap) ts.length (cellsAll ts)) : TokRow w A ts := by
  intro hpos
  rcases h.2 with ⟨_, h0⟩ | ⟨g, cap', cur, hv, hg, hh, hn, hm, hsz, ht⟩
  · omega
  · injection hv with hA _ _
    have hlt : g < w.heap.size := by
      rcases Nat.lt_or_ge g w.heap.size with hlt | hge
      · exact hlt
      · rw [Array.getElem?_eq_none hge] at hh; cases hh
    have hcell : ∀ k, k < ts.length * 4 → w.cell? ⟨g, k, none⟩ = (cellsAll ts)[k]? := by
      intro k hk
      unfold World.cell?
      simp only [hh]
      rw [← ht, List.getElem?_take, if_pos hk]
      simp
    refine ⟨g, 0, hA, hlt, fun i hi => ?_⟩
    have k0 := (hcell (i * 4 + 0) (by omega)).trans (cellsAll_get ts i 0 hi (by omega))
    have k1 := (hcell (i * 4 + 1) (by omega)).trans (cellsAll_get ts i 1 hi (by omega))
    have k2 := (hcell (i * 4 + 2) (by omega)).trans (cellsAll_get ts i 2 hi (by omega))
    have k3 := (hcell (i * 4 + 3) (by omega)).trans (cellsAll_get ts i 3 hi (by omega))
    simp only [Nat.zero_add]
    exact ⟨k0, k1, k2, k3⟩
theorem TokRow.below {w w' : World} {A : Option Addr} {ts : List Tok} (h : TokRow w A ts) (hb : Below w.heap.size w w') : TokRow w' A ts := by
  intro hpos
  obtain ⟨g, o, hA, hg, hc⟩ := h hpos
  refine ⟨g, o, hA, Nat.lt_of_lt_of_le hg hb.size, fun i hi => ?_⟩
  obtain ⟨a0, a1, a2, a3⟩ := hc i hi
  exact ⟨(hb.cell (p := ⟨g, _, none⟩) hg).trans a0, (hb.cell (p := ⟨g, _, none⟩) hg).trans a1, (hb.cell (p := ⟨g, _, none⟩) hg).trans a2, (hb.cell (p := ⟨g, _, none⟩) hg).trans a3⟩

def ex1 : ByteArray := ⟨#[100, 117, 116, 121, 32, 97, 46, 98, 32, 111, 102, 32, 120, 58]⟩
def ex2 : ByteArray := ⟨#[49, 50, 32, 35, 32, 51]⟩
theorem lex_ex1 : lex (bs ⟨#[100, 117, 116, 121, 32, 97, 46, 98, 32, 111, 102, 32, 120, 58]⟩) = .ok [⟨1, [100, 117, 116, 121], 0, 0⟩, ⟨1, [97, 46, 98], 0, 5⟩, ⟨1, [111, 102], 0, 9⟩, ⟨1, [120], 0, 12⟩, ⟨3, [58], 0, 13⟩] := by kernel_rfl
theorem lex_ex2 : lex (bs ⟨#[49, 50, 32, 35, 32, 51]⟩) = .ok [⟨2, [49, 50], 12, 0⟩] := by kernel_rfl
theorem lex_ex3 : lex (bs ⟨#[97, 46]⟩) = .error (4, 1) := by kernel_rfl
theorem lex_ex4 : lex (bs ⟨#[55, 120]⟩) = .error (5, 0) := by kernel_rfl
theorem eql_1 (W : World) : (binOp .eql 30 (.agg #[.int .i64 1, .string ⟨#[97, 46, 98]⟩, .int .i64 0, .int .i64 5]) (.agg #[.int .i64 1, .string ⟨#[97, 46, 98]⟩, .int .i64 0, .int .i64 5])).run Try.prog W = .ok (.bool true) W := by kernel_rfl
theorem eql_2 (W : World) : (binOp .eql 30 (.agg #[.int .i64 3, .string ⟨#[58]⟩, .int .i64 0, .int .i64 13]) (.agg #[.int .i64 3, .string ⟨#[58]⟩, .int .i64 0, .int .i64 13])).run Try.prog W = .ok (.bool true) W := by kernel_rfl
theorem eql_3 (W : World) : (binOp .eql 30 (.agg #[.int .i64 2, .string ⟨#[49, 50]⟩, .int .i64 12, .int .i64 0]) (.agg #[.int .i64 2, .string ⟨#[49, 50]⟩, .int .i64 12, .int .i64 0])).run Try.prog W = .ok (.bool true) W := by kernel_rfl

set_option maxHeartbeats 1000000 in
theorem head_any (w : World) : Calls Try.prog 10 #[] w fun e w' => e = .returned (.bool true) ∧ Below w.heap.size w w' := by
  have q1 := eql_1
  have q2 := eql_2
  have q3 := eql_3
  go_enter Try.func10, Try.ntmps10
  go_wp2_with fail
  refine (lex_ok _ _ (by decide) _ lex_ex1).mono ?_
  rintro e w1 ⟨⟨A1, cap1, rfl, ho1⟩, hb1⟩
  have ht1 := Lib.hid (tokRow_of_own ho1); clear ho1
  have HB1 := Lib.hid hb1; clear hb1
  go_wp2_with fail
  refine (lex_ok _ _ (by decide) _ lex_ex2).mono ?_
  rintro e w2 ⟨⟨A2, cap2, rfl, ho2⟩, hb2⟩
  have ht2 := Lib.hid (tokRow_of_own ho2); clear ho2
  have ht1' := Lib.hid (ht1.out.below hb2); clear ht1
  have HB2 := Lib.hid (HB1.out.trans (hb2.mono HB1.out.size)); clear hb2 HB1
  go_wp2_with fail
  refine (lex_no _ _ (by decide) _ _ lex_ex3).mono ?_
  rintro e w3 ⟨rfl, hb3⟩
  have ht1 := Lib.hid (ht1'.out.below hb3); clear ht1'
  have ht2' := Lib.hid (ht2.out.below hb3); clear ht2
  have HB3 := Lib.hid (HB2.out.trans (hb3.mono HB2.out.size)); clear hb3 HB2
  go_wp2_with fail
  refine (lex_no _ _ (by decide) _ _ lex_ex4).mono ?_
  rintro e w4 ⟨rfl, hb4⟩
  have ht1' := ht1.out.below hb4; clear ht1
  have ht2 := ht2'.out.below hb4; clear ht2'
  have HB4 := Lib.hid (HB3.out.trans (hb4.mono HB3.out.size)); clear hb4 HB3
  obtain ⟨g1, o1, rfl, hg1, hc1⟩ := ht1' (by simp)
  obtain ⟨g2, o2, rfl, hg2, hc2⟩ := ht2 (by simp)
  obtain ⟨a0, a1, a2, a3⟩ := hc1 1 (by simp)
  obtain ⟨b0, b1, b2, b3⟩ := hc1 4 (by simp)
  obtain ⟨c0, c1, c2, c3⟩ := hc2 0 (by simp)
  simp at a0 a1 a2 a3 b0 b1 b2 b3 c0 c1 c2 c3
  clear hc1 hc2 ht1' ht2 hg1 hg2
  go_wp2_with fail
  go_ret
  exact ⟨rfl, HB4.out⟩
end Go.Proofs.Ytbehkkgdgfdkaaa.Lx
