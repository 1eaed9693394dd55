/-
  The walk of the statement ZoneDays: it returns true for every zone, day and instant.
-/
import Derived.Test.YtmjidplondkomaaZoneInv
import Derived.Deep.RegionWith
import Derived.BigRegion
import Derived.Deep.DeepCutAuto
namespace Go.Proofs.Ytmjidplondkomaa
open Go.RowKit Zn
set_option linter.unusedVariables false
namespace Zn
/-- The first instant that stands for a local time: before it every local time is earlier, at it it is not. -/
theorem first_instant (z : Zone) (d m x : Int) (h : instantOf z d m false = (x, 0)) : valid z = true ∧ 0 ≤ x ∧ x < 105190560 ∧ d * 1440 + m ≤ loc z x ∧ loc z x ≤ d * 1440 + m + 1680 ∧ ∀ t, 0 ≤ t → t < x → loc z t < d * 1440 + m := by
  unfold instantOf at h
  split at h
  case isFalse => injection h with _ h; omega
  rename_i hok
  have hv := (okLocal_parts z d m hok).1
  have eI : instOf z d m = instTo z (d * 1440 + m) (cnt z) := by unfold instOf; rw [if_pos hok]
  have hm := mem_inst z (d * 1440 + m)
  have hs := inst_sorted z hv (d * 1440 + m) (cnt z) (Nat.le_refl _)
  rw [← eI] at hm hs
  split at h
  · rename_i hl
    split at h
    · rename_i a hg
      injection h with h _
      subst h
      obtain ⟨j, h1, h2, h3, h4, h5, h6⟩ := gap_some z hv _ a hg
      have hr := h5.range hv
      have e := loc_at hv h5
      have o1 := ofs_bd z hv j
      have o2 := ofs_bd z hv (j + 1)
      refine ⟨hv, hr.1, hr.2, by rw [e]; omega, by rw [e]; omega, fun t t0 t1 => ?_⟩
      obtain ⟨i, hi, ei⟩ := at_loc z t t0 (by omega)
      rw [ei]
      rcases Nat.lt_trichotomy i j with hij | hij | hij
      · rcases Int.lt_or_le (t + ofs z i) (d * 1440 + m) with hc | hc
        · exact hc
        · exfalso
          have hnot := (hm (d * 1440 + m - ofs z i)).2
          rw [hl] at hnot
          have hi1 := hi.1; have hi2 := hi.2.1; have hi3 := hi.2.2
          have o3 := ofs_bd z hv i
          have f1 := frm_tto z hv i (by omega)
          have f2 := tto_frm z hv i j hij (by omega)
          have f3 := frm_tto z hv j h1
          have := hnot ⟨i, ⟨hi1, by omega, by omega⟩, rfl⟩
          simp at this
      · subst hij
        have := hi.2.2; omega
      · have := at_lt hv h6 hi hij; omega
    · injection h with _ h; omega
  · rename_i hl
    injection h with h _
    have hl0 : 0 < (instOf z d m).length := by
      rcases hq : instOf z d m with _ | ⟨y, l⟩
      · exact absurd hq hl
      · simp
    have hx : (instOf z d m)[0] = x := by
      rw [← h]; simp [List.getD, List.getElem?_eq_getElem hl0]
    have hxm : x ∈ instOf z d m := by rw [← hx]; exact List.getElem_mem hl0
    have hle : ∀ y ∈ instOf z d m, x ≤ y := by
      intro y hy
      obtain ⟨i, hi, e⟩ := List.getElem_of_mem hy
      rcases Nat.eq_zero_or_pos i with h0 | h0
      · subst h0; omega
      · have := List.pairwise_iff_getElem.1 hs 0 i hl0 hi h0; omega
    obtain ⟨k, hk, ek⟩ := (hm x).1 hxm
    have hr := hk.range hv
    have e := loc_at hv hk
    refine ⟨hv, hr.1, hr.2, by omega, by omega, fun t t0 t1 => ?_⟩
    obtain ⟨i, hi, ei⟩ := at_loc z t t0 (by omega)
    rw [ei]
    rcases Nat.lt_trichotomy i k with hij | hij | hij
    · rcases Int.lt_or_le (t + ofs z i) (d * 1440 + m) with hc | hc
      · exact hc
      · exfalso
        have hnot := (hm (d * 1440 + m - ofs z i)).2
        have hi1 := hi.1; have hi2 := hi.2.1; have hi3 := hi.2.2
        have hk1 := hk.1; have hk2 := hk.2.1
        have o2 := ofs_bd z hv k
        have o3 := ofs_bd z hv i
        have f1 := frm_tto z hv i (by omega)
        have f2 := tto_frm z hv i k hij hk1
        have hin := hnot ⟨i, ⟨hi1, by omega, by omega⟩, rfl⟩
        have := hle _ hin
        omega
    · subst hij; omega
    · have := at_lt hv hk hi hij; omega
/-- What the statement needs. -/
theorem days_facts (z : Zone) (d : Int) (h0 : 0 ≤ d) (h1 : d < 73047) :
    (∃ e, e ≠ 0 ∧ spanOf z d = (0, 0, e)) ∨
    (∃ x y, spanOf z d = (x, y, 0) ∧ 0 ≤ x ∧ x < 105190560 ∧ x ≤ y ∧ y < 105190560 ∧ (∃ n q f, spanOf z (d + 1) = (n, q, f) ∧ (f ≠ 0 ∨ (f = 0 ∧ n = y))) ∧
      (∃ b c, localOf z x = (b, c, 0) ∧ d ≤ b) ∧ (∀ t, 0 ≤ t → t < 105190560 → (∃ a b g, localOf z t = (a, b, g) ∧ (x ≤ t ∨ (t < x ∧ g ≠ 0) ∨ (t < x ∧ g = 0 ∧ a < d))))) := by
  by_cases hv : valid z = true
  · rcases hI : instantOf z d 0 false with ⟨x, ex⟩
    rcases hJ : instantOf z (d + 1) 0 false with ⟨y, ey⟩
    rcases hK : instantOf z (d + 1 + 1) 0 false with ⟨k, ek⟩
    have e1 : spanOf z d = if ex = 0 then (if ey = 0 then (x, y, 0) else (0, 0, ey)) else (0, 0, ex) := by
      unfold spanOf; rw [if_pos ⟨hv, by omega, by omega⟩, hI, hJ]
    have e2 : spanOf z (d + 1) = if ey = 0 then (if ek = 0 then (y, k, 0) else (0, 0, ek)) else (0, 0, ey) := by
      unfold spanOf; rw [if_pos ⟨hv, by omega, by omega⟩, hJ, hK]
    rw [e1, e2]
    by_cases hx : ex = 0
    · by_cases hy : ey = 0
      · right
        subst hx hy
        obtain ⟨_, f1, f2, f3, f4, f5⟩ := first_instant z d 0 x hI
        obtain ⟨_, g1, g2, g3, g4, g5⟩ := first_instant z (d + 1) 0 y hJ
        have hxy : x ≤ y := by
          rcases Int.lt_or_le y x with h | h
          · have := f5 y g1 h; omega
          · exact h
        refine ⟨x, y, rfl, f1, f2, hxy, g2, ?_, ?_, ?_⟩
        · by_cases hk : ek = 0
          · exact ⟨y, k, 0, by rw [if_pos rfl, if_pos hk], .inr ⟨rfl, rfl⟩⟩
          · exact ⟨0, 0, ek, by rw [if_pos rfl, if_neg hk], .inl hk⟩
        · refine ⟨loc z x / 1440, loc z x % 1440, ?_, by omega⟩
          unfold localOf
          rw [if_pos ⟨hv, f1, f2⟩, if_pos ⟨by omega, by omega⟩]
        · intro t t0 t1
          rcases hL : localOf z t with ⟨a, b, g⟩
          refine ⟨a, b, g, rfl, ?_⟩
          rcases Int.lt_or_le t x with h | h
          · right
            have hlt := f5 t t0 h
            rcases localOf_bad z t with ⟨e, he, hl⟩ | ⟨_, _, _, h5, h6, hl⟩
            · rw [hL] at hl
              injection hl with _ hl
              injection hl with _ hl
              exact .inl ⟨h, by omega⟩
            · rw [hL] at hl
              injection hl with ha hl
              injection hl with _ hl
              exact .inr ⟨h, hl, by omega⟩
          · exact .inl h
      · left; exact ⟨ey, hy, by rw [if_pos hx, if_neg hy]⟩
    · left; exact ⟨ex, hx, by rw [if_neg hx]⟩
  · left
    refine ⟨1, by omega, ?_⟩
    unfold spanOf
    rw [if_neg (fun h => hv h.1)]
end Zn
set_option maxRecDepth 100000 in
set_option maxHeartbeats 4000000 in
theorem walk_ZoneDays (z : Zone) (A : Option Addr) (cap : Nat) (hm : z.chs.length ≤ maxLen) (hwf : (Lit.int .i64 z.off).wf = true ∧ ∀ i (h : i < z.chs.length), (Lit.int .i64 z.chs[i].1).wf = true ∧ (Lit.int .i64 z.chs[i].2).wf = true) (u : Int) (hu : (Lit.int .u32 u).wf = true) (v : Int) (hv : (Lit.int .u32 v).wf = true) (w : World) (hrow : ChRow w A z.chs) :
    Calls Try.prog 7 #[.agg #[.int .i64 z.off, .slice A z.chs.length cap], .int .u32 u, .int .u32 v] w fun e w' => e = .returned (.bool true) ∧ Below w.heap.size w w' := by
  have hu0 := bounds_u32 hu
  have hv0 := bounds_u32 hv
  unfold maxLen at hm
  clear hwf hu hv
  obtain ⟨d, hd⟩ : ∃ d, u % 73047 = d := ⟨_, rfl⟩
  obtain ⟨t, ht⟩ : ∃ t, v % 105190560 = t := ⟨_, rfl⟩
  have d0 : 0 ≤ d := by omega
  have d1 : d < 73047 := by omega
  have t0 : 0 ≤ t := by omega
  have t1 : t < 105190560 := by omega
  have HD := Lib.hid hd; clear hd
  have HT := Lib.hid ht; clear ht
  have Z0 := Lib.hid (ZW.start w z A cap hrow); clear hrow
  by_cases hf : z.chs.length ≤ 100
  · have HFEW := Lib.hid (decide_eq_true hf)
    rcases days_facts z d d0 d1 with ⟨e, he, hs⟩ | ⟨x, y, hs, x0, x1, xy, y1, ⟨n, q, f, hs2, hf2⟩, ⟨b, c, hl, hdb⟩, hall⟩
    · have HS1 := Lib.hid hs; clear hs
      rcases hs2 : spanOf z (d + 1) with ⟨n, q, f⟩
      have HS2 := Lib.hid hs2; clear hs2
      have he2 : (e != 0) = true := bne_iff_ne.2 he
      go_enter Try.func7, Try.ntmps7
      go_wp2_with fail
      refine (head_any _).mono ?_
      rintro e w1 ⟨rfl, hb⟩
      have Z1 := Lib.hid (Z0.out.below hb); clear hb
      obtain ⟨c0, c1⟩ := Z1.out.cells
      go_wp2_with fail
      refine (few_any z A cap _).mono ?_
      rw [HFEW.out]
      rintro e w2 ⟨rfl, hb⟩
      have Z2 := Lib.hid (Z1.out.below hb); clear hb c0 c1
      obtain ⟨c0, c1⟩ := Z2.out.cells
      go_wp2_with fail
      rw [HD.out]
      refine (span_any z A cap d _ (by omega) Z2.out.2.1).mono ?_
      rw [HS1.out]
      rintro e w3 ⟨rfl, hb⟩
      have Z3 := Lib.hid (Z2.out.below hb); clear hb c0 c1
      obtain ⟨c0, c1⟩ := Z3.out.cells
      go_wp2_with fail
      refine (span_any z A cap (d + 1) _ (by omega) Z3.out.2.1).mono ?_
      rw [HS2.out]
      rintro e w4 ⟨rfl, hb⟩
      have Z4 := Lib.hid (Z3.out.below hb); clear hb c0 c1
      go_wp2_with fail
      go_ret
      exact ⟨rfl, Z4.out.2.2⟩
    · have HS1 := Lib.hid hs; clear hs
      have HS2 := Lib.hid hs2; clear hs2
      have HL := Lib.hid hl; clear hl
      obtain ⟨a, b', g, hla, hcase⟩ := hall t t0 t1
      have HLT := Lib.hid hla; clear hla hall
      have hfc : ((f == 0) = false ∧ f ≠ 0) ∨ (f = 0 ∧ n = y) := by
        rcases hf2 with h | h
        · exact .inl ⟨beq_eq_false_iff_ne.2 h, h⟩
        · exact .inr h
      clear hf2
      rcases hfc with ⟨hff, hfn⟩ | ⟨rfl, rfl⟩
      all_goals
        go_enter Try.func7, Try.ntmps7
        go_wp2_with fail
        refine (head_any _).mono ?_
        rintro e w1 ⟨rfl, hb⟩
        have Z1 := Lib.hid (Z0.out.below hb); clear hb
        obtain ⟨c0, c1⟩ := Z1.out.cells
        go_wp2_with fail
        refine (few_any z A cap _).mono ?_
        rw [HFEW.out]
        rintro e w2 ⟨rfl, hb⟩
        have Z2 := Lib.hid (Z1.out.below hb); clear hb c0 c1
        obtain ⟨c0, c1⟩ := Z2.out.cells
        go_wp2_with fail
        rw [HD.out]
        refine (span_any z A cap d _ (by omega) Z2.out.2.1).mono ?_
        rw [HS1.out]
        rintro e w3 ⟨rfl, hb⟩
        have Z3 := Lib.hid (Z2.out.below hb); clear hb c0 c1
        obtain ⟨c0, c1⟩ := Z3.out.cells
        go_wp2_with fail
        refine (span_any z A cap (d + 1) _ (by omega) Z3.out.2.1).mono ?_
        rw [HS2.out]
        rintro e w4 ⟨rfl, hb⟩
        have Z4 := Lib.hid (Z3.out.below hb); clear hb c0 c1
        obtain ⟨c0, c1⟩ := Z4.out.cells
        go_wp2_with fail
        rw [HT.out]
        refine (local_any z A cap t _ (by omega) Z4.out.2.1).mono ?_
        rw [HLT.out]
        rintro e w5 ⟨rfl, hb⟩
        have Z5 := Lib.hid (Z4.out.below hb); clear hb c0 c1
        obtain ⟨c0, c1⟩ := Z5.out.cells
        go_wp2_with fail
        refine (local_any z A cap x _ (by omega) Z5.out.2.1).mono ?_
        rw [HL.out]
        rintro e w6 ⟨rfl, hb⟩
        have Z6 := Lib.hid (Z5.out.below hb); clear hb c0 c1
        rcases hcase with hc | ⟨hc, hg⟩ | ⟨hc, rfl, hg⟩
        · go_wp2_with fail
          go_ret
          exact ⟨rfl, Z6.out.2.2⟩
        · have hg2 : (g != 0) = true := bne_iff_ne.2 hg
          go_wp2_with fail
          go_ret
          exact ⟨rfl, Z6.out.2.2⟩
        · go_wp2_with fail
          go_ret
          exact ⟨ret_bool (by simp), Z6.out.2.2⟩
  · have HFEW := Lib.hid (decide_eq_false hf)
    go_enter Try.func7, Try.ntmps7
    go_wp2_with fail
    refine (head_any _).mono ?_
    rintro e w1 ⟨rfl, hb⟩
    have Z1 := Lib.hid (Z0.out.below hb); clear hb
    obtain ⟨c0, c1⟩ := Z1.out.cells
    go_wp2_with fail
    refine (few_any z A cap _).mono ?_
    rw [HFEW.out]
    rintro e w2 ⟨rfl, hb⟩
    have Z2 := Lib.hid (Z1.out.below hb); clear hb c0 c1
    go_wp2_with fail
    go_ret
    exact ⟨rfl, Z2.out.2.2⟩
end Go.Proofs.Ytmjidplondkomaa
