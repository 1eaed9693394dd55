/-
  The walk of the statement LexerBeginnings: it returns true for every two texts.
-/
import Derived.Test.YtbehkkgdgfdkaaaLexRefG
namespace Go.Proofs.Ytbehkkgdgfdkaaa
open Go.RowKit Lx
set_option linter.unusedVariables false

theorem sl_str_to (s : ByteArray) (i : Nat) (h : i ≤ s.size) (W : World) :
    (Instr.slice 9 (.string s) none (some (.int .i64 (i : Int))) none).run Try.prog W = .ok (.string (s.extract 0 i)) W := by
  have := run_slice_string_h (P := Try.prog) W 9 s Try.underlying9 .i64 (i : Int) (by omega) (by omega)
  simpa using this
theorem bs_to (s : ByteArray) (i : Nat) : bs (s.extract 0 i) = (bs s).take i := by rw [bs_extract]; simp

theorem beg_plain (s : ByteArray) (er r : Nat) (hs : s.size ≤ 2000) (h : lex (bs s) = .error (er, (r : Int))) : (∃ ts, lex (bs (s.extract 0 r)) = .ok ts) ∧ r < s.size := by
  obtain ⟨ts, r', e, he⟩ := lex_errs h (by rw [bs_length]; omega)
  obtain rfl : r = r' := by omega
  have l1 := errs_len he
  rw [bs_length] at l1
  refine ⟨⟨ts, ?_⟩, by omega⟩
  rw [bs_to]
  have := errs_take he
  rw [Nat.sub_zero] at this
  exact toks_lex this (by rw [List.length_take, bs_length]; omega) (by omega)
theorem beg_plain2 (s o : ByteArray) (r : Nat) (hs : s.size ≤ 2000) (ho : o.size ≤ 500) (h : lex (bs s) = .error (4, (r : Int))) (h2 : r + 2 < s.size) : lex (bs (s.extract 0 (r + 2) ++ o)) = .error (4, (r : Int)) := by
  obtain ⟨ts, r', e, he⟩ := lex_errs h (by rw [bs_length]; omega)
  obtain rfl : r = r' := by omega
  have l1 := errs_len he
  rw [bs_length] at l1
  rw [bs_append, bs_to]
  have := errs_two (o := bs o) he (by rw [bs_length]; omega)
  rw [Nat.sub_zero] at this
  exact errs_lex this (by rw [List.length_append, List.length_take, bs_length, bs_length]; omega) (by omega)

set_option maxRecDepth 100000 in
set_option maxHeartbeats 2000000 in
theorem walk_LexerBeginnings (s : ByteArray) (hs : s.size ≤ maxLen) (o : ByteArray) (ho : o.size ≤ maxLen) (w : World) :
    Calls Try.prog 7 #[.string s, .string o] w fun e w' => e = .returned (.bool true) ∧ Below w.heap.size w w' := by
  unfold maxLen at hs ho
  have hbig : 2000 < s.size ∨ (¬ 2000 < s.size ∧ 500 < o.size) ∨ (¬ 2000 < s.size ∧ ¬ 500 < o.size) := by omega
  rcases hbig with h3 | ⟨h3, h4⟩ | ⟨h3, h4⟩
  · go_enter Try.func7, Try.ntmps7
    go_wp2_with fail
    refine (head_any _).mono ?_
    rintro e w1 ⟨rfl, hb1⟩
    have HB1 := Lib.hid hb1; clear hb1
    go_wp2_with fail
    go_ret
    exact ⟨rfl, HB1.out⟩
  · go_enter Try.func7, Try.ntmps7
    go_wp2_with fail
    refine (head_any _).mono ?_
    rintro e w1 ⟨rfl, hb1⟩
    have HB1 := Lib.hid hb1; clear hb1
    go_wp2_with fail
    go_ret
    exact ⟨rfl, HB1.out⟩
  · cases hl : lex (bs s) with
    | ok ts =>
      have HL := Lib.hid hl; clear hl
      go_enter Try.func7, Try.ntmps7
      go_wp2_with fail
      refine (head_any _).mono ?_
      rintro e w1 ⟨rfl, hb1⟩
      have HB1 := Lib.hid hb1; clear hb1
      go_wp2_with fail
      refine (lex_ok s _ (by omega) ts HL.out).mono ?_
      rintro e w2 ⟨⟨A, cap, rfl, hrow⟩, hb2⟩
      have HB2 := Lib.hid (HB1.out.trans (hb2.mono HB1.out.size)); clear hb2 HB1 hrow
      go_wp2_with fail
      go_ret
      exact ⟨rfl, HB2.out⟩
    | error x =>
      obtain ⟨er, p⟩ := x
      obtain ⟨us, r, rfl, herr⟩ := lex_errs hl (by rw [bs_length]; omega)
      have hlen := errs_len herr
      rw [bs_length] at hlen
      have hr : r < s.size := by omega
      have be : ((er : Int) == 0) = false := beq_eq_false_iff_ne.2 (by omega)
      obtain ⟨⟨ts, hts⟩, _⟩ := beg_plain s er r (by omega) hl
      have hsl := sl_str_to s r (by omega)
      have hxs : (s.extract 0 r).size = r := by rw [ByteArray.size_extract]; omega
      have HT := Lib.hid hts
      have HXS := Lib.hid hxs
      clear hxs hts herr
      have hcase : (er = 4 ∧ r + 2 < s.size) ∨ (er = 4 ∧ ¬ r + 2 < s.size) ∨ ¬ er = 4 := by omega
      clear hlen
      rcases hcase with ⟨rfl, h2⟩ | ⟨rfl, h2⟩ | hne
      · have HC := Lib.hid (beg_plain2 s o r (by omega) (by omega) hl h2)
        have HL := Lib.hid hl; clear hl
        have hs2 : ∀ W, (Instr.slice 9 (.string s) none (some (.int .i64 ((r : Int) + 2))) none).run Try.prog W = .ok (.string (s.extract 0 (r + 2))) W := by
          intro W; have := sl_str_to s (r + 2) (by omega) W; rwa [Int.natCast_add] at this
        have hx2 : (s.extract 0 (r + 2) ++ o).size = r + 2 + o.size := by rw [ByteArray.size_append, ByteArray.size_extract]; omega
        have HX2 := Lib.hid hx2; clear hx2
        go_enter Try.func7, Try.ntmps7
        go_wp2_with fail
        refine (head_any _).mono ?_
        rintro e w1 ⟨rfl, hb1⟩
        have HB1 := Lib.hid hb1; clear hb1
        go_wp2_with fail
        refine (lex_no s _ (by omega) 4 r HL.out).mono ?_
        rintro e w2 ⟨rfl, hb2⟩
        have HB2 := Lib.hid (HB1.out.trans (hb2.mono HB1.out.size)); clear hb2 HB1
        go_wp2_with fail
        refine (lex_ok (s.extract 0 r) _ (by rw [HXS.out]; omega) ts HT.out).mono ?_
        rintro e w3 ⟨⟨A, cap, rfl, hrow⟩, hb3⟩
        have HB3 := Lib.hid (HB2.out.trans (hb3.mono HB2.out.size)); clear hb3 HB2 hrow
        go_wp2_with fail
        refine (lex_no (s.extract 0 (r + 2) ++ o) _ (by rw [HX2.out]; omega) 4 r HC.out).mono ?_
        rintro e w4 ⟨rfl, hb4⟩
        have HB4 := Lib.hid (HB3.out.trans (hb4.mono HB3.out.size)); clear hb4 HB3
        go_wp2_with fail
        go_ret
        exact ⟨rfl, HB4.out⟩
      · have HL := Lib.hid hl; clear hl
        go_enter Try.func7, Try.ntmps7
        go_wp2_with fail
        refine (head_any _).mono ?_
        rintro e w1 ⟨rfl, hb1⟩
        have HB1 := Lib.hid hb1; clear hb1
        go_wp2_with fail
        refine (lex_no s _ (by omega) 4 r HL.out).mono ?_
        rintro e w2 ⟨rfl, hb2⟩
        have HB2 := Lib.hid (HB1.out.trans (hb2.mono HB1.out.size)); clear hb2 HB1
        go_wp2_with fail
        refine (lex_ok (s.extract 0 r) _ (by rw [HXS.out]; omega) ts HT.out).mono ?_
        rintro e w3 ⟨⟨A, cap, rfl, hrow⟩, hb3⟩
        have HB3 := Lib.hid (HB2.out.trans (hb3.mono HB2.out.size)); clear hb3 HB2 hrow
        go_wp2_with fail
        go_ret
        exact ⟨rfl, HB3.out⟩
      · have b4 : ((er : Int) == 4) = false := beq_eq_false_iff_ne.2 (by omega)
        have HL := Lib.hid hl; clear hl hne
        go_enter Try.func7, Try.ntmps7
        go_wp2_with fail
        refine (head_any _).mono ?_
        rintro e w1 ⟨rfl, hb1⟩
        have HB1 := Lib.hid hb1; clear hb1
        go_wp2_with fail
        refine (lex_no s _ (by omega) er r HL.out).mono ?_
        rintro e w2 ⟨rfl, hb2⟩
        have HB2 := Lib.hid (HB1.out.trans (hb2.mono HB1.out.size)); clear hb2 HB1
        go_wp2_with fail
        refine (lex_ok (s.extract 0 r) _ (by rw [HXS.out]; omega) ts HT.out).mono ?_
        rintro e w3 ⟨⟨A, cap, rfl, hrow⟩, hb3⟩
        have HB3 := Lib.hid (HB2.out.trans (hb3.mono HB2.out.size)); clear hb3 HB2 hrow
        go_wp2_with fail
        go_ret
        exact ⟨rfl, HB3.out⟩
end Go.Proofs.Ytbehkkgdgfdkaaa
