/-
  The walk of the statement ZoneMoved: it returns true for every zone, number and instant.
-/
import Derived.Test.YtmjidplondkomaaZoneRefB
namespace Go.Proofs.Ytmjidplondkomaa
open Go.RowKit Zn
set_option linter.unusedVariables false
namespace Zn
theorem tmod_bd (u : Int) : -1681 < u.tmod 1681 ∧ u.tmod 1681 < 1681 := by
  rcases Int.le_total 0 u with h | h
  · rw [Int.tmod_eq_emod_of_nonneg h]; omega
  · have e : u.tmod 1681 = -((-u).tmod 1681) := by rw [Int.neg_tmod]; omega
    rw [e, Int.tmod_eq_emod_of_nonneg (by omega)]; omega
theorem moved_len (z : Zone) (n : Int) : (moved z n).chs.length = z.chs.length := by simp [moved]
theorem moved_getD (z : Zone) (n : Int) (k : Nat) (h : k < z.chs.length) : (moved z n).chs.getD k (0, 0) = ((z.chs.getD k (0, 0)).1, (z.chs.getD k (0, 0)).2 + n) := by
  simp [moved, List.getD, List.getElem?_eq_getElem h]
theorem moved_frm (z : Zone) (n : Int) (k : Nat) (h : k ≤ z.chs.length) : frm (moved z n) k = frm z k := by
  cases k with
  | zero => rfl
  | succ k => rw [frm_succ z k (by omega), frm_succ (moved z n) k (by rw [moved_len]; omega)]; simp [moved]
theorem moved_tto (z : Zone) (n : Int) (k : Nat) (h : k ≤ z.chs.length) : tto (moved z n) k = tto z k := by
  rcases Nat.lt_or_ge k z.chs.length with h1 | h1
  · rw [tto_lt z k h1, tto_lt (moved z n) k (by rw [moved_len]; omega)]; simp [moved]
  · have e : k = z.chs.length := by omega
    have e2 := tto_end (moved z n)
    rw [moved_len] at e2
    rw [e, tto_end, e2]
theorem moved_ofs (z : Zone) (n : Int) (k : Nat) (h : k ≤ z.chs.length) : ofs (moved z n) k = ofs z k + n := by
  cases k with
  | zero => rfl
  | succ k => rw [ofs_succ z k (by omega), ofs_succ (moved z n) k (by rw [moved_len]; omega)]; simp [moved]
/-- What the statement needs. -/
theorem moved_facts (z : Zone) (n t : Int) (hv : valid z = true) (hv2 : valid (moved z n) = true) (h0 : 0 ≤ t) (h1 : t < 105190560) :
    ∃ a b e c d f, localOf z t = (a, b, e) ∧ localOf (moved z n) t = (c, d, f) ∧ 0 ≤ a ∧ a < 105190560 ∧ 0 ≤ b ∧ b < 1440 ∧ 0 ≤ c ∧ c < 105190560 ∧ 0 ≤ d ∧ d < 1440 ∧ (e = 2 ∨ (e = 0 ∧ f = 2) ∨ (e = 0 ∧ f = 0 ∧ c * 1440 + d = a * 1440 + b + n)) := by
  obtain ⟨j, hj, e1⟩ := at_loc z t h0 h1
  have hj2 : At (moved z n) j t := ⟨by rw [moved_len]; exact hj.1, by rw [moved_frm z n j hj.1]; exact hj.2.1, by rw [moved_tto z n j hj.1]; exact hj.2.2⟩
  have e2 := loc_at hv2 hj2
  rw [moved_ofs z n j hj.1] at e2
  have q1 : localOf z t = if 0 ≤ loc z t ∧ loc z t < 105190560 then (loc z t / 1440, loc z t % 1440, 0) else (0, 0, 2) := by unfold localOf; rw [if_pos ⟨hv, h0, h1⟩]
  have q2 : localOf (moved z n) t = if 0 ≤ loc (moved z n) t ∧ loc (moved z n) t < 105190560 then (loc (moved z n) t / 1440, loc (moved z n) t % 1440, 0) else (0, 0, 2) := by unfold localOf; rw [if_pos ⟨hv2, h0, h1⟩]
  rw [q1, q2]
  generalize loc z t = x at *
  generalize loc (moved z n) t = y at *
  split
  · split
    · exact ⟨_, _, _, _, _, _, rfl, rfl, by omega, by omega, by omega, by omega, by omega, by omega, by omega, by omega, .inr (.inr ⟨rfl, rfl, by omega⟩)⟩
    · exact ⟨_, _, _, _, _, _, rfl, rfl, by omega, by omega, by omega, by omega, by omega, by omega, by omega, by omega, .inr (.inl ⟨rfl, rfl⟩)⟩
  · split
    · exact ⟨_, _, _, _, _, _, rfl, rfl, by omega, by omega, by omega, by omega, by omega, by omega, by omega, by omega, .inl rfl⟩
    · exact ⟨_, _, _, _, _, _, rfl, rfl, by omega, by omega, by omega, by omega, by omega, by omega, by omega, by omega, .inl rfl⟩
end Zn
set_option maxRecDepth 100000 in
set_option maxHeartbeats 4000000 in
theorem walk_ZoneMoved (z : Zone) (A : Option Addr) (cap : Nat) (hm : z.chs.length ≤ maxLen) (hwf : (Lit.int .i64 z.off).wf = true ∧ ∀ i (h : i < z.chs.length), (Lit.int .i64 z.chs[i].1).wf = true ∧ (Lit.int .i64 z.chs[i].2).wf = true) (u : Int) (hu : (Lit.int .i16 u).wf = true) (v : Int) (hv : (Lit.int .u32 v).wf = true) (w : World) (hrow : ChRow w A z.chs) :
    Calls Try.prog 8 #[.agg #[.int .i64 z.off, .slice A z.chs.length cap], .int .i16 u, .int .u32 v] w fun e w' => e = .returned (.bool true) ∧ Below w.heap.size w w' := by
  have hu0 := bounds_i16 hu
  have hv0 := bounds_u32 hv
  unfold maxLen at hm
  clear hwf hu hv
  obtain ⟨n, hn⟩ : ∃ n, u.tmod 1681 = n := ⟨_, rfl⟩
  obtain ⟨t, ht⟩ : ∃ t, v % 105190560 = t := ⟨_, rfl⟩
  have hnn : -1681 < n ∧ n < 1681 := by rw [← hn]; exact tmod_bd u
  have n0 := hnn.1
  have n1 := hnn.2
  clear hnn
  have t0 : 0 ≤ t := by omega
  have t1 : t < 105190560 := by omega
  have HN := Lib.hid hn; clear hn
  have HT := Lib.hid ht; clear ht
  have Z0 := Lib.hid (ZW.start w z A cap hrow); clear hrow
  by_cases hf : z.chs.length ≤ 100
  · have HFEW := Lib.hid (decide_eq_true hf)
    cases hv : valid z with
    | false =>
      have HV := Lib.hid hv; clear hv
      go_enter Try.func8, Try.ntmps8
      go_wp2_with fail
      refine (head_any _).mono ?_
      rintro e w1 ⟨rfl, hb⟩
      have Z1 := Lib.hid (Z0.out.below hb); clear hb
      obtain ⟨c0, c1⟩ := Z1.out.cells
      go_wp2_with fail
      rw [HN.out]
      refine (few_any z A cap _).mono ?_
      rw [HFEW.out]
      rintro e w2 ⟨rfl, hb⟩
      have Z2 := Lib.hid (Z1.out.below hb); clear hb c0 c1
      obtain ⟨c0, c1⟩ := Z2.out.cells
      go_wp2_with fail
      refine (refValid_any z A cap _ (by omega) Z2.out.2.1).mono ?_
      rw [HV.out]
      rintro e w3 ⟨rfl, hb⟩
      have Z3 := Lib.hid (Z2.out.below hb); clear hb c0 c1
      go_wp2_with fail
      go_ret
      exact ⟨rfl, Z3.out.2.2⟩
    | true =>
      cases hw : valid (moved z n) with
      | false =>
        have HV := Lib.hid hv; clear hv
        have HW := Lib.hid hw; clear hw
        go_enter Try.func8, Try.ntmps8
        go_wp2_with fail
        refine (head_any _).mono ?_
        rintro e w1 ⟨rfl, hb⟩
        have Z1 := Lib.hid (Z0.out.below hb); clear hb
        obtain ⟨c0, c1⟩ := Z1.out.cells
        go_wp2_with fail
        rw [HN.out]
        refine (few_any z A cap _).mono ?_
        rw [HFEW.out]
        rintro e w2 ⟨rfl, hb⟩
        have Z2 := Lib.hid (Z1.out.below hb); clear hb c0 c1
        obtain ⟨c0, c1⟩ := Z2.out.cells
        go_wp2_with fail
        refine (refValid_any z A cap _ (by omega) Z2.out.2.1).mono ?_
        rw [HV.out]
        rintro e w3 ⟨rfl, hb⟩
        have Z3 := Lib.hid (Z2.out.below hb); clear hb c0 c1
        obtain ⟨c0, c1⟩ := Z3.out.cells
        go_wp2_with fail
        rw [HT.out]
        refine (moved_any z A cap n _ HV.out n0 n1 Z3.out.2.1).mono ?_
        rintro e w4 ⟨⟨B, c, rfl, hr⟩, hb⟩
        have Z4 := Lib.hid (Z3.out.below hb); clear hb c0 c1
        have Y4 := Lib.hid (ZW.start w4 (moved z n) B c hr); clear hr
        go_wp2_with fail
        refine (refValid_any (moved z n) B c _ (by rw [moved_len]; omega) Y4.out.2.1).mono ?_
        rw [HW.out]
        rintro e w5 ⟨rfl, hb⟩
        have Y5 := Lib.hid (Y4.out.below hb)
        have Z5 := Lib.hid ((Z4.out.below ((Below.refl _ _).alloc (Nat.le_refl _) _)).below hb); clear hb
        obtain ⟨c0, c1⟩ := Y5.out.cells
        go_wp2_with fail
        refine (valid_any (moved z n) B c _ (by rw [moved_len]; omega) Y5.out.2.1).mono ?_
        rw [HW.out]
        rintro e w6 ⟨rfl, hb⟩
        have Z6 := Lib.hid (Z5.out.below hb); clear hb
        go_wp2_with fail
        go_ret
        exact ⟨rfl, Z6.out.2.2⟩
      | true =>
        obtain ⟨a, b, e1, c', d', f1, hl1, hl2, a0, a1, b0, b1, p0, p1, q0, q1, hc⟩ := moved_facts z n t hv hw t0 t1
        have HV := Lib.hid hv; clear hv
        have HW := Lib.hid hw; clear hw
        have HL1 := Lib.hid hl1; clear hl1
        have HL2 := Lib.hid hl2; clear hl2
        go_enter Try.func8, Try.ntmps8
        go_wp2_with fail
        refine (head_any _).mono ?_
        rintro e w1 ⟨rfl, hb⟩
        have Z1 := Lib.hid (Z0.out.below hb); clear hb
        obtain ⟨c0, c1⟩ := Z1.out.cells
        go_wp2_with fail
        rw [HN.out]
        refine (few_any z A cap _).mono ?_
        rw [HFEW.out]
        rintro e w2 ⟨rfl, hb⟩
        have Z2 := Lib.hid (Z1.out.below hb); clear hb c0 c1
        obtain ⟨c0, c1⟩ := Z2.out.cells
        go_wp2_with fail
        refine (refValid_any z A cap _ (by omega) Z2.out.2.1).mono ?_
        rw [HV.out]
        rintro e w3 ⟨rfl, hb⟩
        have Z3 := Lib.hid (Z2.out.below hb); clear hb c0 c1
        obtain ⟨c0, c1⟩ := Z3.out.cells
        go_wp2_with fail
        rw [HT.out]
        refine (moved_any z A cap n _ HV.out n0 n1 Z3.out.2.1).mono ?_
        rintro e w4 ⟨⟨B, c, rfl, hr⟩, hb⟩
        have Z4 := Lib.hid (Z3.out.below hb); clear hb c0 c1
        have Y4 := Lib.hid (ZW.start w4 (moved z n) B c hr); clear hr
        go_wp2_with fail
        refine (refValid_any (moved z n) B c _ (by rw [moved_len]; omega) Y4.out.2.1).mono ?_
        rw [HW.out]
        rintro e w5 ⟨rfl, hb⟩
        have Y5 := Lib.hid (Y4.out.below hb)
        have Z5 := Lib.hid ((Z4.out.below ((Below.refl _ _).alloc (Nat.le_refl _) _)).below hb); clear hb
        obtain ⟨c0, c1⟩ := Z5.out.cells
        obtain ⟨c2, c3⟩ := Y5.out.cells
        go_wp2_with fail
        refine (local_any z A cap t _ (by omega) Z5.out.2.1).mono ?_
        rw [HL1.out]
        rintro e w6 ⟨rfl, hb⟩
        have Y6 := Lib.hid (Y5.out.below hb)
        have Z6 := Lib.hid (Z5.out.below hb); clear hb c0 c1 c2 c3
        obtain ⟨c2, c3⟩ := Y6.out.cells
        go_wp2_with fail
        refine (local_any (moved z n) B c t _ (by rw [moved_len]; omega) Y6.out.2.1).mono ?_
        rw [HL2.out]
        rintro e w7 ⟨rfl, hb⟩
        have Z7 := Lib.hid (Z6.out.below hb); clear hb c2 c3
        rcases hc with rfl | ⟨rfl, rfl⟩ | ⟨rfl, rfl, hc⟩
        all_goals
          go_wp2_with fail
          go_ret
          exact ⟨rfl, Z7.out.2.2⟩
  · have HFEW := Lib.hid (decide_eq_false hf)
    go_enter Try.func8, Try.ntmps8
    go_wp2_with fail
    refine (head_any _).mono ?_
    rintro e w1 ⟨rfl, hb⟩
    have Z1 := Lib.hid (Z0.out.below hb); clear hb
    obtain ⟨c0, c1⟩ := Z1.out.cells
    go_wp2_with fail
    rw [HN.out]
    refine (few_any z A cap _).mono ?_
    rw [HFEW.out]
    rintro e w2 ⟨rfl, hb⟩
    have Z2 := Lib.hid (Z1.out.below hb); clear hb c0 c1
    go_wp2_with fail
    go_ret
    exact ⟨rfl, Z2.out.2.2⟩
end Go.Proofs.Ytmjidplondkomaa
