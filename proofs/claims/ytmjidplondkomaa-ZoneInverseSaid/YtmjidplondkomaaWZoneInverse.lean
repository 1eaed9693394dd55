/-
  The walk of the statement ZoneInverse: it returns true for every zone and instant.
-/
import Derived.Test.YtmjidplondkomaaZoneInv
import Derived.Deep.RegionWith
import Derived.BigRegion
import Derived.Deep.DeepCutAuto
namespace Go.Proofs.Ytmjidplondkomaa
open Go.RowKit Zn
set_option linter.unusedVariables false
namespace Zn
/-- What the statement needs of the list. -/
theorem inverse_facts (z : Zone) (t : Int) (hv : valid z = true) (h0 : 0 ≤ t) (h1 : t < 105190560) (h2 : 0 ≤ loc z t) (h3 : loc z t < 105190560) :
    (instOf z (loc z t / 1440) (loc z t % 1440)).length ≤ 2 ∧ t ∈ instOf z (loc z t / 1440) (loc z t % 1440) ∧
    (∀ x ∈ instOf z (loc z t / 1440) (loc z t % 1440), localOf z x = (loc z t / 1440, loc z t % 1440, 0)) ∧ (instOf z (loc z t / 1440) (loc z t % 1440)).Pairwise (· < ·) := by
  have hok : okLocal z (loc z t / 1440) (loc z t % 1440) = true := by unfold okLocal; rw [hv]; simp; omega
  have e : instOf z (loc z t / 1440) (loc z t % 1440) = instTo z (loc z t) (cnt z) := by
    unfold instOf; rw [if_pos hok, show loc z t / 1440 * 1440 + loc z t % 1440 = loc z t by omega]
  rw [e]
  refine ⟨inst_two z hv _, loc_inst z hv t h0 h1, fun x hx => ?_, inst_sorted z hv _ _ (Nat.le_refl _)⟩
  obtain ⟨g0, g1, g2⟩ := inst_loc z hv _ x hx
  unfold localOf
  rw [if_pos ⟨hv, g0, g1⟩, g2, if_pos ⟨h2, h3⟩]
theorem IRow.at {w : World} {g o : Nat} {l : List Int} (h : IRow w (some ⟨g, o, none⟩) l) {i : Nat} (hi : i < l.length) : w.cell? ⟨g, o + i, none⟩ = some (.int .i64 l[i]) := by
  obtain ⟨g', o', e, _, hc⟩ := h (by omega)
  injection e with e
  injection e with e1 e2 _
  subst e1 e2
  exact hc i hi
theorem take_mem (l : List Int) (t : Int) (j : Nat) (h : j < l.length) : decide (t ∈ l.take (j + 1)) = (decide (t ∈ l.take j) || decide (l[j] = t)) := by
  rw [List.take_succ_eq_append_getElem h]
  rw [Bool.eq_iff_iff, decide_eq_true_iff, List.mem_append, Bool.or_eq_true, decide_eq_true_iff, decide_eq_true_iff, List.mem_singleton, eq_comm (a := t)]
theorem first_lt (l : List Int) (h : l.Pairwise (· < ·)) (j : Nat) (hj : j < l.length) (h0 : 0 < j) : l[0]'(by omega) < l[j] := List.pairwise_iff_getElem.1 h 0 j (by omega) hj h0
end Zn
set_option maxRecDepth 100000 in
set_option maxHeartbeats 4000000 in
theorem walk_ZoneInverse (z : Zone) (A : Option Addr) (cap : Nat) (hm : z.chs.length ≤ maxLen) (hwf : (Lit.int .i64 z.off).wf = true ∧ ∀ i (h : i < z.chs.length), (Lit.int .i64 z.chs[i].1).wf = true ∧ (Lit.int .i64 z.chs[i].2).wf = true) (u : Int) (hu : (Lit.int .u32 u).wf = true) (w : World) (hrow : ChRow w A z.chs) :
    Calls Try.prog 4 #[.agg #[.int .i64 z.off, .slice A z.chs.length cap], .int .u32 u] w fun e w' => e = .returned (.bool true) ∧ Below w.heap.size w w' := by
  have hu0 := bounds_u32 hu
  unfold maxLen at hm
  clear hwf hu
  obtain ⟨t, ht⟩ : ∃ t, u % 105190560 = t := ⟨_, rfl⟩
  have h3 : 0 ≤ t := by omega
  have h4 : t < 105190560 := by omega
  have HT := Lib.hid ht; clear ht
  have Z0 := Lib.hid (ZW.start w z A cap hrow); clear hrow
  by_cases hf : z.chs.length ≤ 100
  · have HFEW := Lib.hid (decide_eq_true hf)
    rcases localOf_bad z t with ⟨e, he, hl⟩ | ⟨hv, _, _, h5, h6, hl⟩
    · have HL := Lib.hid hl; clear hl
      rcases he with rfl | rfl
      all_goals
        go_enter Try.func4, Try.ntmps4
        go_wp2_with fail
        refine (head_any _).mono ?_
        rintro e w1 ⟨rfl, hb⟩
        have Z1 := Lib.hid (Z0.out.below hb); clear hb
        obtain ⟨c0, c1⟩ := Z1.out.cells
        go_wp2_with fail
        rw [HT.out]
        refine (few_any z A cap _).mono ?_
        rw [HFEW.out]
        rintro e w2 ⟨rfl, hb⟩
        have Z2 := Lib.hid (Z1.out.below hb); clear hb c0 c1
        obtain ⟨c0, c1⟩ := Z2.out.cells
        go_wp2_with fail
        refine (local_any z A cap t _ (by omega) Z2.out.2.1).mono ?_
        rw [HL.out]
        rintro e w3 ⟨rfl, hb⟩
        have Z3 := Lib.hid (Z2.out.below hb); clear hb c0 c1
        go_wp2_with fail
        go_ret
        exact ⟨rfl, Z3.out.2.2⟩
    · obtain ⟨f1, f2, f3, f4⟩ := inverse_facts z t hv h3 h4 h5 h6
      have HL := Lib.hid hl; clear hl
      obtain ⟨D, hD⟩ : ∃ D, loc z t / 1440 = D := ⟨_, rfl⟩
      obtain ⟨M, hM⟩ : ∃ M, loc z t % 1440 = M := ⟨_, rfl⟩
      rw [hD, hM] at HL f1 f2 f3 f4
      have HV := Lib.hid hv; clear hv
      have g1 : 0 ≤ M := by omega
      have g2 : M < 1440 := by omega
      have g5 : 0 ≤ D := by omega
      have g6 : D < 105190560 := by omega
      clear hD hM h5 h6
      obtain ⟨l, hI⟩ : ∃ l, instOf z D M = l := ⟨_, rfl⟩
      rw [hI] at f1 f2 f3 f4
      have HI := Lib.hid hI; clear hI
      have F2 := Lib.hid f2; have F3 := Lib.hid f3; have F4 := Lib.hid f4
      clear f2 f3 f4
      go_enter Try.func4, Try.ntmps4
      go_wp2_with fail
      refine (head_any _).mono ?_
      rintro e w1 ⟨rfl, hb⟩
      have Z1 := Lib.hid (Z0.out.below hb); clear hb
      obtain ⟨c0, c1⟩ := Z1.out.cells
      go_wp2_with fail
      rw [HT.out]
      refine (few_any z A cap _).mono ?_
      rw [HFEW.out]
      rintro e w2 ⟨rfl, hb⟩
      have Z2 := Lib.hid (Z1.out.below hb); clear hb c0 c1
      obtain ⟨c0, c1⟩ := Z2.out.cells
      go_wp2_with fail
      refine (local_any z A cap t _ (by omega) Z2.out.2.1).mono ?_
      rw [HL.out]
      rintro e w3 ⟨rfl, hb⟩
      have Z3 := Lib.hid (Z2.out.below hb); clear hb c0 c1
      obtain ⟨c0, c1⟩ := Z3.out.cells
      go_wp2_with fail
      refine (instants_any z A cap D M _ (by omega) Z3.out.2.1).mono ?_
      rw [HI.out]
      rintro e w4 ⟨⟨B, c, rfl, hr⟩, hb⟩
      have Z4 := Lib.hid (Z3.out.below hb); clear hb c0 c1
      have R4 := Lib.hid (iRow_of_own hr); clear hr
      go_wp2_with fail
      go_loopw [11, 12] (fun vb vi wr => ∃ (b : Bool) (j : Nat), vb = .bool b ∧ vi = .int .i64 j ∧ j ≤ l.length ∧ Hid (b = decide (t ∈ l.take j)) ∧ Hid (ZW w w.heap.size z A cap wr) ∧ Hid (IRow wr B l)) (fun _ i _ => l.length - (intOf i).toNat)
      case atStart => exact ⟨false, 0, rfl, rfl, by omega, by show _ = _; simp, Z4.out, R4.out⟩
      case round =>
        obtain ⟨b, j, rfl, rfl, hj, HBJ, HZ, HR⟩ := hrel
        by_cases hlt : j < l.length
        · have HLX := Lib.hid (F3.out l[j] (List.getElem_mem hlt))
          have HTM := Lib.hid (take_mem l t j hlt)
          rw [← HBJ.out] at HTM
          have hz : j = 0 ∨ (0 < j ∧ l[0]'(by omega) < l[j]) := by
            rcases Nat.eq_zero_or_pos j with h | h
            · exact .inl h
            · exact .inr ⟨h, first_lt l F4.out j hlt h⟩
          obtain ⟨y, hy⟩ : ∃ y, l[0]'(by omega) = y := ⟨_, rfl⟩
          obtain ⟨x, hx⟩ : ∃ x, l[j] = x := ⟨_, rfl⟩
          obtain ⟨g, o, hB, hg, hc⟩ := HR.out (by omega)
          have a0 := hc j hlt
          have b0 := hc 0 (by omega)
          rw [hx] at a0 HLX HTM hz
          rw [hy] at b0 hz
          have HX := Lib.hid hx
          have HY := Lib.hid hy
          clear hx hy hc
          subst hB
          obtain ⟨c0, c1⟩ := HZ.out.cells
          have HCALL : Calls Try.prog 11 #[.agg #[.int .i64 z.off, .slice A z.chs.length cap], .int .i64 x] wr.drew fun e w' => e = .returned (.tuple #[.int .i64 D, .int .i64 M, .int .i64 0]) ∧ Hid (ZW w w.heap.size z A cap w') ∧ Hid (IRow w' (some ⟨g, o, none⟩) l) := by
            have hd : Below wr.heap.size wr wr.drew := below_drewN (Below.refl _ _) 1
            refine (local_any z A cap x wr.drew (by omega) (HZ.out.below hd).2.1).mono ?_
            rw [HLX.out]
            rintro e w5 ⟨rfl, hb⟩
            exact ⟨rfl, (HZ.out.below hd).below hb, (HR.out.below hd).below hb⟩
          have HCA := Lib.hid HCALL; clear HCALL
          go_wp2_with fail
          go_region_with (go_at_call 11; refine HCA.out.mono ?_; rintro e w5 ⟨rfl, Z5, R5⟩)
          all_goals
            clear a0 b0 c0 c1
            have a0 := R5.out.at hlt
            rw [HX.out] at a0
            have b0 := R5.out.at (show 0 < l.length by omega)
            rw [HY.out, Nat.add_zero] at b0
            cases b
            all_goals
              rcases hz with hz | ⟨hz, hyx⟩
              · have hd : decide (0 < (j : Int)) = false := decide_eq_false (by omega)
                have hxy : x = y := by rw [← HX.out, ← HY.out]; simp [hz]
                have HXY := Lib.hid hxy; clear hxy
                go_wp2_with fail
                go_quiet (fail)
                go_wp2_with fail
                go_roundw
                case rel => exact ⟨_, j + 1, rfl, by go_num, by omega, by show _ = _; rw [HTM.out, HXY.out]; rfl, Z5.out.drewN _, R5.out.below (below_drewN (Below.refl _ _) _)⟩
                case measure => simp [intOf]; omega
              · have hd : 0 < (j : Int) := by omega
                have hd2 : decide (x ≤ y) = false := decide_eq_false (by omega)
                go_wp2_with fail
                go_quiet (fail)
                go_wp2_with fail
                go_roundw
                case rel => exact ⟨_, j + 1, rfl, by go_num, by omega, HTM.out.symm, Z5.out.drewN _, R5.out.below (below_drewN (Below.refl _ _) _)⟩
                case measure => simp [intOf]; omega
        · have hb : b = true := by rw [HBJ.out, show j = l.length by omega, List.take_length]; exact decide_eq_true F2.out
          subst hb
          go_wp2_with fail
          go_ret
          exact ⟨ret_bool (by simp; omega), HZ.out.2.2⟩
  · have HFEW := Lib.hid (decide_eq_false hf)
    go_enter Try.func4, Try.ntmps4
    go_wp2_with fail
    refine (head_any _).mono ?_
    rintro e w1 ⟨rfl, hb⟩
    have Z1 := Lib.hid (Z0.out.below hb); clear hb
    obtain ⟨c0, c1⟩ := Z1.out.cells
    go_wp2_with fail
    rw [HT.out]
    refine (few_any z A cap _).mono ?_
    rw [HFEW.out]
    rintro e w2 ⟨rfl, hb⟩
    have Z2 := Lib.hid (Z1.out.below hb); clear hb c0 c1
    go_wp2_with fail
    go_ret
    exact ⟨rfl, Z2.out.2.2⟩
end Go.Proofs.Ytmjidplondkomaa
