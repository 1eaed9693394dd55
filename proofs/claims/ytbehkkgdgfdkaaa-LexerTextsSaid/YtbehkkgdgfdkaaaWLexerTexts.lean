/-
  The walk of the statement LexerTexts: it returns true for every text.
-/
import Derived.Test.YtbehkkgdgfdkaaaLexRefF
namespace Go.Proofs.Ytbehkkgdgfdkaaa
open Go.RowKit Lx
set_option linter.unusedVariables false

theorem sl_str_from (s : ByteArray) (i : Nat) (h : i ≤ s.size) (W : World) :
    (Instr.slice 9 (.string s) (some (.int .i64 (i : Int))) none none).run Try.prog W = .ok (.string (s.extract i s.size)) W := by
  have := run_slice_string_l (P := Try.prog) W 9 s Try.underlying9 .i64 (i : Int) (by omega) (by omega)
  simpa using this

set_option maxRecDepth 100000 in
set_option maxHeartbeats 2000000 in
theorem walk_LexerTexts (s : ByteArray) (hs : s.size ≤ maxLen) (w : World) :
    Calls Try.prog 4 #[.string s] w fun e w' => e = .returned (.bool true) ∧ Below w.heap.size w w' := by
  unfold maxLen at hs
  by_cases h3 : 3000 < s.size
  · go_enter Try.func4, Try.ntmps4
    go_wp2_with fail
    refine (head_any _).mono ?_
    rintro e w1 ⟨rfl, hb1⟩
    have HB1 := Lib.hid hb1; clear hb1
    go_wp2_with fail
    go_ret
    exact ⟨rfl, HB1.out⟩
  · cases hl : lex (bs s) with
    | error x =>
      obtain ⟨er, p⟩ := x
      obtain ⟨us, r, rfl, herr⟩ := lex_errs hl (by rw [bs_length]; omega)
      obtain ⟨_, k1, k2, k3⟩ := errs_len herr
      rw [bs_length] at k2
      have be : ((er : Int) != 0) = true := by rw [bne_iff_ne]; omega
      have HL := Lib.hid hl; clear hl herr k3
      go_enter Try.func4, Try.ntmps4
      go_wp2_with fail
      refine (head_any _).mono ?_
      rintro e w1 ⟨rfl, hb1⟩
      have HB1 := Lib.hid hb1; clear hb1
      go_wp2_with fail
      refine (lex_no s _ (by omega) er r HL.out).mono ?_
      rintro e w2 ⟨rfl, hb2⟩
      have HB2 := Lib.hid (HB1.out.trans (hb2.mono HB1.out.size)); clear hb2 HB1
      go_wp2_with fail
      go_ret
      exact ⟨ret_bool (decide_eq_true (by omega)), HB2.out⟩
    | ok ts =>
      have HT0 := Lib.hid (lex_toks hl)
      have hlen := toks_len HT0.out
      rw [bs_length] at hlen
      have HL := Lib.hid hl; clear hl
      go_enter Try.func4, Try.ntmps4
      go_wp2_with fail
      refine (head_any _).mono ?_
      rintro e w1 ⟨rfl, hb1⟩
      have HB1 := Lib.hid hb1; clear hb1
      go_wp2_with fail
      refine (lex_ok s _ (by omega) ts HL.out).mono ?_
      rintro e w2 ⟨⟨A, cap, rfl, ho⟩, hb2⟩
      have HB2 := Lib.hid (HB1.out.trans (hb2.mono HB1.out.size)); clear hb2 HB1
      have HT := Lib.hid (tokRow_of_own ho); clear ho
      go_wp2_with fail
      go_loopw [7, 8] (fun en i wr => ∃ (j q : Nat), i = .int .i64 j ∧ en = .int .i64 q ∧ j ≤ ts.length ∧ q ≤ s.size ∧ Hid (Toks (ts.drop j) ((bs s).drop q) q) ∧ Hid (TokRow wr A ts) ∧ Hid (Below w.heap.size w wr)) (fun _ i _ => ts.length - (intOf i).toNat)
      case atStart => exact ⟨0, 0, rfl, rfl, by omega, by omega, HT0, HT, HB2⟩
      case round =>
        obtain ⟨j, q, rfl, rfl, hj, hq, HK, HR, HB⟩ := hrel
        by_cases hlt : j < ts.length
        · obtain ⟨g, o, rfl, hg, hc⟩ := HR.out (by omega)
          obtain ⟨a0, a1, a2, a3⟩ := hc j hlt
          clear hc
          have hd : ts.drop j = ts[j] :: ts.drop (j + 1) := List.drop_eq_getElem_cons hlt
          have hk := HK.out
          rw [hd] at hk
          obtain ⟨k1, k2, k3, k4⟩ := hk
          generalize ts[j] = t at *
          have hgl := gapLen_le false ((bs s).drop q)
          rw [List.length_drop, bs_length] at hgl
          rw [skip_drop, ← k3] at k1 k2 k4
          have htl := tok_len k1
          rw [List.length_drop, bs_length] at htl
          obtain ⟨P, hP⟩ : ∃ P, t.pos = P := ⟨_, rfl⟩
          rw [hP] at k1 k2 k3 k4 htl a3
          obtain ⟨x, hx, hxs⟩ : ∃ x, ByteArray.mk t.text.toArray = x ∧ t.text.length = x.size := ⟨_, rfl, (mk_size _).symm⟩
          rw [hx] at a1
          rw [hxs] at k1 k2 k4 htl
          have hex : s.extract P (P + x.size) = x := by rw [text_of, ← k2, hx]
          have hs1 : ∀ W, (Instr.slice 9 (.string s) (some (.int .i64 (P : Int))) (some (.int .i64 ((P : Int) + (x.size : Int)))) none).run Try.prog W = .ok (.string x) W := by
            intro W; rw [sl_str_add s P x.size (by omega), hex]
          obtain ⟨y, hy⟩ : ∃ y, s.extract q P = y := ⟨_, rfl⟩
          have hs2 : ∀ W, (Instr.slice 9 (.string s) (some (.int .i64 (q : Int))) (some (.int .i64 (P : Int))) none).run Try.prog W = .ok (.string y) W := by
            intro W; rw [sl_str s q P (by omega) (by omega), hy]
          have hys : y.size = P - q := by rw [← hy, ByteArray.size_extract]; omega
          have hyg : gapLen false (bs y) = y.size := by
            rw [hys, ← hy, bs_extract, gapLen_take]; omega
          have HYS := Lib.hid hys; have HYG := Lib.hid hyg
          have hy9 : y.size ≤ 9223372036854775807 := by omega
          have d1 : decide ((P : Int) < (q : Int)) = false := by simp; omega
          have d2 : ((x.size : Int) == 0) = false := beq_eq_false_iff_ne.2 (by omega)
          have hqP : q ≤ P := by omega
          have HK4 := Lib.hid k4
          have d3 : decide ((s.size : Int) < (P : Int) + (x.size : Int)) = false := by simp; omega
          have hsum : IntKind.i64.wrap ((P : Int) + (x.size : Int)) = (P : Int) + (x.size : Int) := IntWalk.i64_in _ (by omega)
          have HSUM := Lib.hid hsum; clear hsum
          clear k1 k2 k3 k4 hy hys hyg hex hx hxs hP hd hgl a0 a2
          go_wp2_with fail
          have hsum := HSUM.out
          go_quiet ((go_at_call 14; exact Calls.quiet_of_same (refGaps_true y _ hy9 HYG.out)))
          clear hsum
          go_wp2_with fail
          go_roundw
          case rel => exact ⟨j + 1, P + x.size, by go_num, by go_num, by omega, by omega, by have := HK4.out; show Toks _ _ _; rwa [List.drop_drop] at this, HR.out.drewN nq, below_drewN HB.out nq⟩
          case measure => simp [intOf]; omega
        · have hjt : j = ts.length := by omega
          obtain ⟨y, hy⟩ : ∃ y, s.extract q s.size = y := ⟨_, rfl⟩
          have hs2 : ∀ W, (Instr.slice 9 (.string s) (some (.int .i64 (q : Int))) none none).run Try.prog W = .ok (.string y) W := by
            intro W; rw [sl_str_from s q hq, hy]
          have hk := HK.out
          rw [List.drop_eq_nil_of_le (by omega)] at hk
          have hga := gap_all _ hk
          rw [List.length_drop, bs_length] at hga
          have hys : y.size = s.size - q := by rw [← hy, ByteArray.size_extract]; omega
          have hyg : gapLen false (bs y) = y.size := by rw [hys, ← hy, bs_extract, gapLen_take]; omega
          have HYG := Lib.hid hyg
          have hy9 : y.size ≤ 9223372036854775807 := by omega
          clear hk hga hys hyg hy hjt
          go_wp2_with (go_at_call 14; refine (refGaps_true y _ hy9 HYG.out).mono ?_; rintro e w' ⟨rfl, rfl⟩)
          go_ret
          exact ⟨rfl, HB.out⟩
end Go.Proofs.Ytbehkkgdgfdkaaa
