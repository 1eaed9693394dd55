/-
  The law's head walked: its examples answer true.
-/
import Derived.Test.YticlmkfifpkdpaaDoorDlHeadB
import Derived.Test.YticlmkfifpkdpaaDoorDlHeadC
namespace Go.Proofs.YticlmkfifpkdpaaDoor.Dl
open Go.RowKit Mem Vw
set_option linter.unusedVariables false
set_option linter.unusedSimpArgs false
set_option maxRecDepth 100000 in
set_option maxHeartbeats 16000000 in
theorem head_any (W : World) (hbf : Bf W) : Calls Tryd.prog 25 #[] W fun e w' => e = .returned (.bool true) ∧ Below W.heap.size W w' := by
  have HBF := Lib.hid hbf; clear hbf
  obtain ⟨X1, HX1⟩ : ∃ X1, Hid (W.alloc (.cells #[.bool false, .bool false, .bool false, .bool false, .bool false, .bool true, .bool true, .slice none 0 0] 28) = X1) := ⟨_, rfl⟩
  have HBE1 : Hid (Below W.heap.size W X1) := by rw [← HX1.out]; exact (Below.refl _ W).alloc (Nat.le_refl _) _
  have HB1 : Hid (X1.heap[W.heap.size]? = some (.cells #[.bool false, .bool false, .bool false, .bool false, .bool false, .bool true, .bool true, .slice none 0 0] 28 (0, 0))) := by rw [← HX1.out]; exact blk_newn rfl
  go_enter Tryd.func25, Tryd.ntmps25
  go_upto_region 2 with fail
  rw [HX1.out]
  clear HX1
  go_wp2_with fail
  refine (on_any 3 1000 X1).mono ?_
  rintro e9 w1 ⟨rfl, hb1⟩
  obtain ⟨X2, HX2⟩ : ∃ X2, Hid (w1.alloc (.cells #[.bool true, .int .i64 3, .int .i64 1000] 67) = X2) := ⟨_, rfl⟩
  obtain ⟨X3, HX3⟩ : ∃ X3, Hid (X2.alloc (.cells #[.int .i64 2, .int .i64 0, .int .i64 0, .bool false, .slice none 0 0] 31) = X3) := ⟨_, rfl⟩
  have HB12 : Hid (Below w1.heap.size w1 X2) := by rw [← HX2.out]; exact (Below.refl _ w1).alloc (Nat.le_refl _) _
  have HB23 : Hid (Below X2.heap.size X2 X3) := by rw [← HX3.out]; exact (Below.refl _ X2).alloc (Nat.le_refl _) _
  have HBL : Hid (X2.heap[w1.heap.size]? = some (.cells #[.bool true, .int .i64 3, .int .i64 1000] 67 (0, 0))) := by rw [← HX2.out]; exact blk_newn rfl
  have HBV : Hid (X3.heap[w1.heap.size + 1]? = some (.cells #[.int .i64 2, .int .i64 0, .int .i64 0, .bool false, .slice none 0 0] 31 (0, 0))) := by rw [← HX3.out]; exact blk_newn (by rw [← HX2.out]; simp)
  have HD3 : Hid (HD W W.heap.size (w1.heap.size + 1) w1.heap.size X3) := by
    have h1 := hb1.size; have h2 := HB12.out.size
    have hb3 : Below X1.heap.size X1 X3 := (hb1.trans ((HB12.out.trans (HB23.out.mono h2)).mono h1))
    exact ⟨HBE1.out.trans (hb3.mono HBE1.out.size), (hb3.block _ (lt_of_blk HB1.out)).trans HB1.out, HBV.out, (HB23.out.block _ (lt_of_blk HBL.out)).trans HBL.out⟩
  have HBF3 : Hid (Bf X3) := bf_keep HBF.out HD3.out.be
  clear HB23 HBV HB1 HBE1 hb1 HBF
  go_upto_region 4 with fail
  rw [HX2.out, HX3.out]
  clear HX2 HX3 HB12 HBL
  obtain ⟨b1, HB1N⟩ : ∃ b, b = W.heap.size := ⟨_, rfl⟩
  obtain ⟨b3, HB3N⟩ : ∃ b, b = w1.heap.size + 1 := ⟨_, rfl⟩
  obtain ⟨gL, HGLN⟩ : ∃ b, b = w1.heap.size := ⟨_, rfl⟩
  rw [← HB1N, ← HB3N, ← HGLN]
  have HS3 : Hid (HD W b1 b3 gL X3) := by show _; rw [HB1N, HB3N, HGLN]; exact HD3.out
  clear HB1N HB3N HGLN HD3
  go_cut [4, 5, 6] (fun s4 s5 s6 wx => s4 = .int .i64 4 ∧ s5 = .bool true ∧ s6 = .int .i64 0 ∧ Hid (HD W b1 b3 gL wx) ∧ Hid (Bf wx))
  case first =>
    have k0 := cell_of_blk HS3.out.cal 0
    have k1 := cell_of_blk HS3.out.cal 1
    have k2 := cell_of_blk HS3.out.cal 2
    have k3 := cell_of_blk HS3.out.cal 3
    have k4 := cell_of_blk HS3.out.cal 4
    have k5 := cell_of_blk HS3.out.cal 5
    have k6 := cell_of_blk HS3.out.cal 6
    have k7 := cell_of_blk HS3.out.cal 7
    have HEV := Lib.hid (eval_c0 (.mk 3 960 0 false []) (.slice none 0 0) L0 (.slice (some ⟨gL, 0, none⟩) 1 1) X3 _ _ _ head1 (tree_leaf X3 3 960 0 false (by unfold wf; decide) (by unfold wf; decide)) HS3.out.evs HBF3.out rfl (cs := #[.int .i64 3, .int .i64 960, .int .i64 0, .bool false, .slice none 0 0]))
    go_wp2_with fail
    refine HEV.out.mono ?_
    rintro e8 w4 ⟨rfl, hb4⟩
    have HB4 := Lib.hid hb4; clear hb4 HEV k0 k1 k2 k3 k4 k5 k6 k7
    go_wp2_with fail
    go_meet
    exact ⟨rfl, rfl, rfl, HS3.out.keep HB4.out, bf_keep HBF3.out HB4.out⟩
  case rest =>
  obtain ⟨rfl, rfl, rfl, HS4, HBF4⟩ := hcut
  obtain ⟨X4, HXN4⟩ : ∃ X, X = wc := ⟨_, rfl⟩
  subst HXN4
  go_upto_region 5 with fail
  refine head_r5 (by kernel_rfl) HS4 HBF4 (fun _ _ _ _ _ h => h) ?_
  intro v38 v39 v40 v41 v42 v43 v44 v45 v46 v47 X5 hs5 hbf5
  have HS5 := Lib.hid hs5; have HBF5 := Lib.hid hbf5
  clear hs5 hbf5
  go_upto_region 6 with fail
  refine head_r6 (by kernel_rfl) HS5 HBF5 (fun _ _ _ _ _ h => h) ?_
  intro v48 v49 v50 v51 v52 v53 v54 v55 v56 v57 v58 v59 v60 X6 hs6 hbf6
  have HS6 := Lib.hid hs6; have HBF6 := Lib.hid hbf6
  clear hs6 hbf6
  go_upto_region 7 with fail
  go_cut [13, 14, 15] (fun s13 s14 s15 wx => s13 = .int .i64 0 ∧ s14 = .bool false ∧ s15 = .int .i64 0 ∧ Hid (HD W b1 b3 gL wx) ∧ Hid (Bf wx))
  case first =>
    have k0 := cell_of_blk HS6.out.cal 0
    have k1 := cell_of_blk HS6.out.cal 1
    have k2 := cell_of_blk HS6.out.cal 2
    have k3 := cell_of_blk HS6.out.cal 3
    have k4 := cell_of_blk HS6.out.cal 4
    have k5 := cell_of_blk HS6.out.cal 5
    have k6 := cell_of_blk HS6.out.cal 6
    have k7 := cell_of_blk HS6.out.cal 7
    have v0 := cell_of_blk HS6.out.ev 0
    have v1 := cell_of_blk HS6.out.ev 1
    have v2 := cell_of_blk HS6.out.ev 2
    have v3 := cell_of_blk HS6.out.ev 3
    have v4 := cell_of_blk HS6.out.ev 4
    obtain ⟨Y7, HY7⟩ : ∃ Y, Hid (X6.alloc (.cells #[.bool false, .int .i64 0, .int .i64 0] 67) = Y) := ⟨_, rfl⟩
    have HYB : Hid (Below X6.heap.size X6 Y7) := by rw [← HY7.out]; exact (Below.refl _ X6).alloc (Nat.le_refl _) _
    have HYK : Hid (Y7.heap[X6.heap.size]? = some (.cells #[.bool false, .int .i64 0, .int .i64 0] 67 (0, 0))) := by rw [← HY7.out]; exact blk_newn rfl
    have HEV := Lib.hid (eval_c0 E0 (.slice none 0 0) [⟨false, 0, 0⟩] (.slice (some ⟨X6.heap.size, 0, none⟩) 1 1) Y7 _ _ _ head4 (tree_E _) (evs_blk (W := Y7) [⟨false, 0, 0⟩] (n := 1) (cp := 1) HYK.out rfl rfl (by decide) (by decide) (by intro w hw; simp only [List.mem_cons, List.not_mem_nil, or_false] at hw; subst hw; unfold wf; decide)) (bf_keep HBF6.out HYB.out) rfl (cs := #[.int .i64 2, .int .i64 0, .int .i64 0, .bool false, .slice none 0 0]))
    go_wp2_with fail
    rw [HY7.out]
    refine HEV.out.mono ?_
    rintro e8 Z7 ⟨rfl, hb7⟩
    have HB7 : Hid (Below X6.heap.size X6 Z7) := HYB.out.trans (hb7.mono HYB.out.size)
    clear HY7 HYK HYB HEV hb7 k0 k1 k2 k3 k4 k5 k6 k7 v0 v1 v2 v3 v4
    go_wp2_with fail
    go_meet
    exact ⟨rfl, rfl, rfl, HS6.out.keep HB7.out, bf_keep HBF6.out HB7.out⟩
  case rest =>
  obtain ⟨rfl, rfl, rfl, HS7, HBF7⟩ := hcut
  obtain ⟨X7, HXN7⟩ : ∃ X, X = wc := ⟨_, rfl⟩
  subst HXN7
  go_upto_region 8 with fail
  refine head_r8 (by kernel_rfl) HS7 HBF7 (fun _ _ _ _ _ h => h) ?_
  intro v70 v71 v72 v73 v74 v75 v76 v77 v78 X8 hs8 hbf8
  have HS8 := Lib.hid hs8; have HBF8 := Lib.hid hbf8
  clear hs8 hbf8
  go_upto_region 9 with fail
  refine head_r9 (by kernel_rfl) HS8 HBF8 (fun _ _ _ _ _ h => h) ?_
  intro v79 v80 v81 v82 v83 v84 v85 v86 v87 v88 v89 v90 v91 v92 X9 hs9 hbf9
  have HS9 := Lib.hid hs9; have HBF9 := Lib.hid hbf9
  clear hs9 hbf9
  go_upto_region 10 with fail
  go_cut [23] (fun s23 wx => s23 = .bool true ∧ Hid (HD W b1 b3 gL wx) ∧ Hid (Bf wx))
  case first =>
    go_wp2_with fail
    go_meet
    exact ⟨rfl, HS9, HBF9⟩
  case rest =>
  obtain ⟨rfl, HS10, HBF10⟩ := hcut
  obtain ⟨X10, HXN10⟩ : ∃ X, X = wc := ⟨_, rfl⟩
  subst HXN10
  go_upto_region 11 with fail
  go_cut [24] (fun s24 wx => ∃ g cp, s24 = .slice (some ⟨g, 0, none⟩) 2 cp ∧ Hid (HD W b1 b3 gL wx) ∧ Hid (wx.cell? ⟨g, 0, none⟩ = some (.int .i64 2)) ∧ Hid (wx.cell? ⟨g, 1, none⟩ = some (.int .i64 7)))
  case first =>
    obtain ⟨Y11, HY11⟩ : ∃ Y, Hid (X10.alloc (.cells #[.int .i64 2, .int .i64 0, .int .i64 7, .bool false, .slice none 0 0, .int .i64 3, .int .i64 0, .int .i64 2, .bool false, .slice none 0 0, .int .i64 2, .int .i64 0, .int .i64 7, .bool false, .slice none 0 0] 31) = Y) := ⟨_, rfl⟩
    have HYB : Hid (Below X10.heap.size X10 Y11) := by rw [← HY11.out]; exact (Below.refl _ X10).alloc (Nat.le_refl _) _
    have HYK : Hid (Y11.heap[X10.heap.size]? = some (.cells #[.int .i64 2, .int .i64 0, .int .i64 7, .bool false, .slice none 0 0, .int .i64 3, .int .i64 0, .int .i64 2, .bool false, .slice none 0 0, .int .i64 2, .int .i64 0, .int .i64 7, .bool false, .slice none 0 0] 31 (0, 0))) := by rw [← HY11.out]; exact blk_newn rfl
    have HT7 : Hid (Tree Y11 T7 (.slice (some ⟨X10.heap.size, 0, none⟩) 3 3)) := tree_blk (W := Y11) [(.mk 2 0 7 false [], .slice none 0 0), (.mk 3 0 2 false [], .slice none 0 0), (.mk 2 0 7 false [], .slice none 0 0)] (k := 7) (m := 0) (e := 0) (b := false) (n := 3) (cp := 3) HYK.out rfl rfl (by decide) (by decide) (by
      intro x hx
      simp only [List.mem_cons, List.not_mem_nil, or_false] at hx
      rcases hx with rfl | rfl | rfl <;> exact tree_leaf _ _ _ _ _ (by unfold wf; decide) (by unfold wf; decide)) (by unfold wf; decide) (by unfold wf; decide)
    go_wp2_with fail
    rw [HY11.out]
    clear HY11
    refine (of_any 7 0 false (some ⟨X10.heap.size, 0, none⟩) 3 3 Y11).mono ?_
    rintro e8 Z11 ⟨rfl, hb11⟩
    have HEV : Hid (Calls Tryd.prog 29 #[.agg #[.int .i64 7, .int .i64 0, .int .i64 0, .bool false, .slice (some ⟨X10.heap.size, 0, none⟩) 3 3]] Z11 (EvRes Z11 T7)) := events_any T7 (.slice (some ⟨X10.heap.size, 0, none⟩) 3 3) Z11 (HT7.out.keep hb11)
    have HB11 : Hid (Below X10.heap.size X10 Z11) := HYB.out.trans (hb11.mono HYB.out.size)
    clear hb11
    go_wp2_with fail
    refine HEV.out.mono ?_
    rintro e7 V11 ⟨v, l, rfl, hl1, _, hown, hb12⟩
    have hl := hl1 head7
    rw [head8] at hl
    subst hl
    have HS11 : Hid (HD W b1 b3 gL V11) := HS10.out.keep (HB11.out.trans (hb12.mono HB11.out.size))
    rcases hown.2 with ⟨_, h0⟩ | ⟨g, cap, cur, rfl, hrest⟩
    · cases h0
    have hc0 := hown.cellAt 0 (by decide)
    have hc1 := hown.cellAt 1 (by decide)
    clear hl1 hb12 hown hrest HEV
    go_wp2_with fail
    go_meet
    exact ⟨g, cap, rfl, HS11, hc0, hc1⟩
  case rest =>
  obtain ⟨g, cp, rfl, HS12, HC0, HC1⟩ := hcut
  obtain ⟨X12, HXN12⟩ : ∃ X, X = wc := ⟨_, rfl⟩
  subst HXN12
  have c0 := HC0.out; have c1 := HC1.out
  have hev := HS12.out.ev
  have k0 := cell_of_blk hev 0; have k1 := cell_of_blk hev 1; have k2 := cell_of_blk hev 2; have k3 := cell_of_blk hev 3; have k4 := cell_of_blk hev 4
  clear hev HC0 HC1
  have hv1 := valid_any E0 (.slice none 0 0) 1 X12 (tree_E _)
  rw [head9] at hv1
  have HV1 : Hid (Calls Tryd.prog 30 #[.agg #[.int .i64 2, .int .i64 0, .int .i64 0, .bool false, .slice none 0 0], .int .i64 1] X12 fun e w' => e = .returned (.bool true) ∧ Below X12.heap.size X12 w') := hv1
  clear hv1
  go_wp2_with fail
  refine HV1.out.mono ?_
  rintro e1 w13 ⟨rfl, hb13⟩
  have HS13 := Lib.hid (HS12.out.keep hb13)
  have hv0 := valid_any E0 (.slice none 0 0) 0 w13 (tree_E _)
  rw [head10] at hv0
  have HV0 : Hid (Calls Tryd.prog 30 #[.agg #[.int .i64 2, .int .i64 0, .int .i64 0, .bool false, .slice none 0 0], .int .i64 0] w13 fun e w' => e = .returned (.bool false) ∧ Below w13.heap.size w13 w') := hv0
  clear hv0 HV1 k0 k1 k2 k3 k4 c0 c1 hb13
  have hev := HS13.out.ev
  have k0 := cell_of_blk hev 0; have k1 := cell_of_blk hev 1; have k2 := cell_of_blk hev 2; have k3 := cell_of_blk hev 3; have k4 := cell_of_blk hev 4
  clear hev
  go_wp2_with fail
  refine HV0.out.mono ?_
  rintro e0 w14 ⟨rfl, hb14⟩
  have HS14 := Lib.hid (HS13.out.keep hb14)
  clear HV0 k0 k1 k2 k3 k4 hb14
  go_wp2_with fail
  go_ret
  exact ⟨rfl, HS14.out.be⟩
end Go.Proofs.YticlmkfifpkdpaaDoor.Dl
