/-
  What the functions Instant and Span of package estoppelref03 return.
-/
import Derived.Test.YtmjidplondkomaaZoneRefE
namespace Go.Proofs.Ytmjidplondkomaa.Zn
open Go.RowKit Go.Shelf
set_option linter.unusedVariables false

set_option maxHeartbeats 4000000 in
theorem refInstant_any (z : Zone) (A : Option Addr) (cap : Nat) (d m : Int) (later : Bool) (w : World) (hlen : z.chs.length ≤ 9223372036854775807) (hrow : ChRow w A z.chs) :
    Calls Try.prog 14 #[.agg #[.int .i64 z.off, .slice A z.chs.length cap], .int .i64 d, .int .i64 m, .bool later] w fun e w' =>
      e = .returned (.tuple #[.int .i64 (instantOf z d m later).1, .int .i64 (instantOf z d m later).2]) ∧ Below w.heap.size w w' := by
  have Z0 := Lib.hid (ZW.start w z A cap hrow)
  have HROW := Lib.hid hrow; clear hrow
  cases hok : okLocal z d m with
  | false =>
    have e : instantOf z d m later = (0, 1) := by unfold instantOf; rw [if_neg (by rw [hok]; simp)]
    rw [e]
    have HOK := Lib.hid hok; clear hok e
    go_enter Try.func14, Try.ntmps14
    go_wp2_with fail
    refine (refGood_any z A cap d m _ (by omega) Z0.out.2.1).mono ?_
    rw [HOK.out]
    rintro e w1 ⟨rfl, hb1⟩
    have Z1 := Lib.hid (Z0.out.below hb1); clear hb1
    go_wp2_with fail
    go_ret2
    exact ⟨rfl, Z1.out.2.2⟩
  | true =>
    obtain ⟨hv, h0, h1, h2, h3⟩ := okLocal_parts z d m hok
    have hlen40 := (valid_parts z hv).1
    have HV := Lib.hid hv; clear hv
    have hlil : (instOf z d m).length ≤ 41 := by unfold instOf; rw [if_pos hok]; have := instTo_len z (d * 1440 + m) (cnt z); unfold cnt at this ⊢; omega
    have HOK := Lib.hid hok; clear hok
    by_cases hnil : instOf z d m = []
    · obtain ⟨x, er, e, hpg⟩ : ∃ (x er : Int), instantOf z d m later = (x, er) ∧ (match gapAt z (d * 1440 + m) z.chs.length 0 with | some a => (a, 0) | none => (0, 2)) = (x, er) := by
        refine ⟨(instantOf z d m later).1, (instantOf z d m later).2, rfl, ?_⟩
        show _ = instantOf z d m later
        unfold instantOf
        rw [if_pos HOK.out, if_pos hnil]
        cases gapAt z (d * 1440 + m) z.chs.length 0 <;> rfl
      rw [e]
      clear e
      obtain ⟨G, hG⟩ : ∃ G, gapAt z (d * 1440 + m) z.chs.length 0 = G := ⟨_, rfl⟩
      rw [hG] at hpg
      have HPG := Lib.hid hpg; clear hpg
      have HG := Lib.hid hG; clear hG
      have HN := Lib.hid hnil; clear hnil
      go_enter Try.func14, Try.ntmps14
      go_wp2_with fail
      refine (refGood_any z A cap d m _ (by omega) Z0.out.2.1).mono ?_
      rw [HOK.out]
      rintro e w1 ⟨rfl, hb1⟩
      have Z1 := Lib.hid (Z0.out.below hb1); clear hb1
      obtain ⟨c0, c1⟩ := Z1.out.cells
      go_wp2_with fail
      refine (refInstants_any z A cap d m _ (by omega) Z1.out.2.1).mono ?_
      rw [HN.out]
      rintro e w2 ⟨⟨B, c, rfl, ho⟩, hb2⟩
      have Z2 := Lib.hid (Z1.out.below hb2); clear hb2 ho c0 c1
      go_wp2_with fail
      go_loopw [12] (fun i wr => ∃ (j : Nat), i = .int .i64 ((j : Int) + 1) ∧ j ≤ z.chs.length ∧ Hid (gapAt z (d * 1440 + m) (z.chs.length - j) j = G) ∧ Hid (ZW w w.heap.size z A cap wr)) (fun i _ => z.chs.length + 1 - (intOf i).toNat)
      case atStart => exact ⟨0, rfl, by omega, HG, Z2⟩
      case round =>
        obtain ⟨j, rfl, hj, HK, HZ⟩ := hrel
        obtain ⟨z0, z1⟩ := HZ.out.cells
        by_cases hlt : j < z.chs.length
        · obtain ⟨g, o, hA, hg, hcc⟩ := HZ.out.2.1 (by omega)
          have HA := Lib.hid hA
          subst hA
          obtain ⟨c0, c1⟩ := hcc j hlt
          have hob := ofs_bd z HV.out j
          have hob1 := ofs_bd z HV.out (j + 1)
          have htb := tto_bd z HV.out j hlt
          rw [← tto_lt z j hlt] at c0
          have hgs := HK.out
          rw [gapAt_step z (d * 1440 + m) j hlt] at hgs
          have HGS := Lib.hid hgs; clear hgs hcc c1
          have HOF : Hid (∀ W, ChRow W (some ⟨g, o, none⟩) z.chs → Calls Try.prog 24 #[.agg #[.int .i64 z.off, .slice (some ⟨g, o, none⟩) z.chs.length cap], .int .i64 j] W fun e w' => e = .returned (.int .i64 (ofs z j)) ∧ Below W.heap.size W w') := fun W h => refOffset_any z _ cap j W (by omega) (by omega) h
          have HOF1 : Hid (∀ W, ChRow W (some ⟨g, o, none⟩) z.chs → Calls Try.prog 24 #[.agg #[.int .i64 z.off, .slice (some ⟨g, o, none⟩) z.chs.length cap], .int .i64 ((j : Int) + 1)] W fun e w' => e = .returned (.int .i64 (ofs z (j + 1))) ∧ Below W.heap.size W w') := fun W h => refOffset_any z _ cap (j + 1) W (by omega) (by omega) h
          generalize tto z j = a at *
          generalize ofs z j = p at *
          generalize ofs z (j + 1) = q at *
          have hj1 : (j : Int) + 1 - 1 = (j : Int) := by omega
          have hcase : (a + p ≤ d * 1440 + m ∧ d * 1440 + m < a + q ∧ Hid (some a = G)) ∨ (a + p ≤ d * 1440 + m ∧ a + q ≤ d * 1440 + m ∧ Hid (gapAt z (d * 1440 + m) (z.chs.length - (j + 1)) (j + 1) = G)) ∨ (d * 1440 + m < a + p ∧ Hid (gapAt z (d * 1440 + m) (z.chs.length - (j + 1)) (j + 1) = G)) := by
            have := HGS.out
            by_cases q1 : a + p ≤ d * 1440 + m
            · by_cases q2 : d * 1440 + m < a + q
              · rw [if_pos ⟨q1, q2⟩] at this; exact .inl ⟨q1, q2, this⟩
              · rw [if_neg (by omega)] at this; exact .inr (.inl ⟨q1, by omega, this⟩)
            · rw [if_neg (by omega)] at this; exact .inr (.inr ⟨by omega, this⟩)
          clear HGS
          rcases hcase with ⟨q1, q2, HR⟩ | ⟨q1, q2, HR⟩ | ⟨q1, HR⟩
          · go_wp2_with fail
            refine (HOF.out _ HZ.out.2.1).mono ?_
            rintro e w3 ⟨rfl, hb3⟩
            have Z3 := Lib.hid (HZ.out.below hb3); clear hb3
            obtain ⟨x0, x1⟩ := Z3.out.cells
            go_wp2_with fail
            refine (HOF1.out _ Z3.out.2.1).mono ?_
            rintro e w4 ⟨rfl, hb4⟩
            have Z4 := Lib.hid (Z3.out.below hb4); clear hb4 x0 x1
            go_wp2_with fail
            go_ret2
            refine ⟨?_, Z4.out.2.2⟩
            have := HPG.out
            rw [← HR.out] at this
            injection this with t1 t2
            rw [← t1, ← t2]; rfl
          · go_wp2_with fail
            refine (HOF.out _ HZ.out.2.1).mono ?_
            rintro e w3 ⟨rfl, hb3⟩
            have Z3 := Lib.hid (HZ.out.below hb3); clear hb3
            obtain ⟨x0, x1⟩ := Z3.out.cells
            go_wp2_with fail
            refine (HOF1.out _ Z3.out.2.1).mono ?_
            rintro e w4 ⟨rfl, hb4⟩
            have Z4 := Lib.hid (Z3.out.below hb4); clear hb4 x0 x1
            go_wp2_with fail
            go_roundw
            case rel => exact ⟨j + 1, by go_num, by omega, HR, Z4⟩
            case measure => simp [intOf]; omega
          · go_wp2_with fail
            refine (HOF.out _ HZ.out.2.1).mono ?_
            rintro e w3 ⟨rfl, hb3⟩
            have Z3 := Lib.hid (HZ.out.below hb3); clear hb3
            go_wp2_with fail
            go_roundw
            case rel => exact ⟨j + 1, by go_num, by omega, HR, Z3⟩
            case measure => simp [intOf]; omega
        · have HRES : Hid (none = G) := by
            have := HK.out
            rw [show z.chs.length - j = 0 by omega] at this
            exact this
          go_wp2_with fail
          go_ret2
          refine ⟨?_, HZ.out.2.2⟩
          have := HPG.out
          rw [← HRES.out] at this
          injection this with t1 t2
          rw [← t1, ← t2]; rfl
    · have hpos : 0 < (instOf z d m).length := List.length_pos_iff.2 hnil
      obtain ⟨x, hx, e⟩ : ∃ x, x = (if later then (instOf z d m).getD ((instOf z d m).length - 1) 0 else (instOf z d m).getD 0 0) ∧ instantOf z d m later = (x, 0) := ⟨_, rfl, by unfold instantOf; rw [if_pos HOK.out, if_neg hnil]⟩
      rw [e]
      clear e hnil
      generalize hl : instOf z d m = l at *
      have HL := Lib.hid hl; clear hl
      cases later
      all_goals
        simp only [Bool.false_eq_true, if_false, if_true] at hx
        have HX := Lib.hid hx; clear hx
        go_enter Try.func14, Try.ntmps14
        go_wp2_with fail
        refine (refGood_any z A cap d m _ (by omega) Z0.out.2.1).mono ?_
        rw [HOK.out]
        rintro e w1 ⟨rfl, hb1⟩
        have Z1 := Lib.hid (Z0.out.below hb1); clear hb1
        obtain ⟨c0, c1⟩ := Z1.out.cells
        go_wp2_with fail
        refine (refInstants_any z A cap d m _ (by omega) Z1.out.2.1).mono ?_
        rw [HL.out]
        rintro e w2 ⟨⟨B, c, rfl, ho⟩, hb2⟩
        have Z2 := Lib.hid (Z1.out.below hb2)
        obtain ⟨g, rfl, q0⟩ := own_cell1 ho 0 hpos
        obtain ⟨g2, hgg, q1⟩ := own_cell1 ho (l.length - 1) (by omega)
        injection hgg with hgg
        injection hgg with hgg _ _
        subst hgg
        first | rw [← HX.out] at q0 | rw [← HX.out] at q1
        clear hb2 ho c0 c1
        go_wp2_with fail
        go_ret2
        exact ⟨rfl, Z2.out.2.2⟩

set_option maxHeartbeats 4000000 in
theorem refSpan_any (z : Zone) (A : Option Addr) (cap : Nat) (d : Int) (w : World) (hlen : z.chs.length ≤ 9223372036854775807) (hrow : ChRow w A z.chs) :
    Calls Try.prog 16 #[.agg #[.int .i64 z.off, .slice A z.chs.length cap], .int .i64 d] w fun e w' =>
      e = .returned (.tuple #[.int .i64 (spanOf z d).1, .int .i64 (spanOf z d).2.1, .int .i64 (spanOf z d).2.2]) ∧ Below w.heap.size w w' := by
  have Z0 := Lib.hid (ZW.start w z A cap hrow); clear hrow
  by_cases h : valid z = true ∧ 0 ≤ d ∧ d < 73048
  · obtain ⟨hv, h0, h1⟩ := h
    obtain ⟨a, ea, ha⟩ : ∃ a ea, instantOf z d 0 false = (a, ea) := ⟨_, _, rfl⟩
    obtain ⟨b, eb, hb⟩ : ∃ b eb, instantOf z (d + 1) 0 false = (b, eb) := ⟨_, _, rfl⟩
    have HV := Lib.hid hv
    have e : spanOf z d = if ea = 0 then (if eb = 0 then (a, b, 0) else (0, 0, eb)) else (0, 0, ea) := by unfold spanOf; rw [if_pos ⟨hv, h0, h1⟩, ha, hb]
    have HA := Lib.hid ha; have HB := Lib.hid hb
    clear hv ha hb
    have hcase : (ea ≠ 0 ∧ (ea != 0) = true ∧ spanOf z d = (0, 0, ea)) ∨ (ea = 0 ∧ eb ≠ 0 ∧ (eb != 0) = true ∧ spanOf z d = (0, 0, eb)) ∨ (ea = 0 ∧ eb = 0 ∧ spanOf z d = (a, b, 0)) := by
      by_cases h1 : ea = 0
      · right
        by_cases h2 : eb = 0
        · exact .inr ⟨h1, h2, by rw [e, if_pos h1, if_pos h2]⟩
        · exact .inl ⟨h1, h2, bne_iff_ne.2 h2, by rw [e, if_pos h1, if_neg h2]⟩
      · exact .inl ⟨h1, bne_iff_ne.2 h1, by rw [e, if_neg h1]⟩
    clear e
    rcases hcase with ⟨n1, b1, e⟩ | ⟨rfl, n1, b1, e⟩ | ⟨rfl, rfl, e⟩
    all_goals
      rw [e]
      clear e
      try clear n1
      go_enter Try.func16, Try.ntmps16
      go_wp2_with fail
      refine (refValid_any z A cap _ (by omega) Z0.out.2.1).mono ?_
      rw [HV.out]
      rintro e w1 ⟨rfl, hb1⟩
      have Z1 := Lib.hid (Z0.out.below hb1); clear hb1
      obtain ⟨c0, c1⟩ := Z1.out.cells
      go_wp2_with fail
      refine (refInstant_any z A cap d 0 false _ (by omega) Z1.out.2.1).mono ?_
      rw [HA.out]
      rintro e w2 ⟨rfl, hb2⟩
      have Z2 := Lib.hid (Z1.out.below hb2); clear hb2 c0 c1
      obtain ⟨d0, d1⟩ := Z2.out.cells
      go_wp2_with fail
    · go_ret3
      exact ⟨rfl, Z2.out.2.2⟩
    · refine (refInstant_any z A cap (d + 1) 0 false _ (by omega) Z2.out.2.1).mono ?_
      rw [HB.out]
      rintro e w3 ⟨rfl, hb3⟩
      have Z3 := Lib.hid (Z2.out.below hb3); clear hb3 d0 d1
      go_wp2_with fail
      go_ret3
      exact ⟨rfl, Z3.out.2.2⟩
    · refine (refInstant_any z A cap (d + 1) 0 false _ (by omega) Z2.out.2.1).mono ?_
      rw [HB.out]
      rintro e w3 ⟨rfl, hb3⟩
      have Z3 := Lib.hid (Z2.out.below hb3); clear hb3 d0 d1
      go_wp2_with fail
      go_ret3
      exact ⟨rfl, Z3.out.2.2⟩
  · have e : spanOf z d = (0, 0, 1) := by unfold spanOf; rw [if_neg h]
    rw [e]
    clear e
    have hcase : valid z = false ∨ (valid z = true ∧ d < 0) ∨ (valid z = true ∧ 0 ≤ d ∧ 73048 ≤ d) := by
      cases hv : valid z with
      | false => exact .inl rfl
      | true =>
        right
        by_cases h0 : d < 0
        · exact .inl ⟨rfl, h0⟩
        · exact .inr ⟨rfl, by omega, by
            rcases Int.lt_or_le d 73048 with h1 | h1
            · exact absurd ⟨hv, by omega, h1⟩ h
            · exact h1⟩
    clear h
    rcases hcase with hv | ⟨hv, h0⟩ | ⟨hv, h0, h1⟩
    all_goals
      have HV := Lib.hid hv; clear hv
      go_enter Try.func16, Try.ntmps16
      go_wp2_with fail
      refine (refValid_any z A cap _ (by omega) Z0.out.2.1).mono ?_
      rw [HV.out]
      rintro e w1 ⟨rfl, hb1⟩
      have Z1 := Lib.hid (Z0.out.below hb1); clear hb1
      go_wp2_with fail
      go_ret3
      exact ⟨rfl, Z1.out.2.2⟩
end Go.Proofs.Ytmjidplondkomaa.Zn
