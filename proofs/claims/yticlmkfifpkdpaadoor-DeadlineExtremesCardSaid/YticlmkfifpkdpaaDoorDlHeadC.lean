/-
  The regions of the law's head that draw their order.
-/
import Derived.Test.YticlmkfifpkdpaaDoorDlHeadA
namespace Go.Proofs.YticlmkfifpkdpaaDoor.Dl
open Go.RowKit Mem Vw
set_option linter.unusedVariables false
set_option linter.unusedSimpArgs false
set_option maxRecDepth 100000 in
set_option maxHeartbeats 16000000 in
theorem head_r9 {W : World} {b1 b3 gL : Nat} {X8 : World} {u0 u4 u5 u6 u7 u8 u9 u10 u11 u12 u13 u14 u15 u16 u17 u18 u19 u20 u21 u22 u23 u24 u25 u26 u27 u28 u29 u30 u31 u32 u33 u34 u35 u36 u37 u38 u39 u40 u41 u42 u43 u44 u45 u46 u47 u48 u49 u50 u51 u52 u53 u54 u55 u56 u57 u58 u59 u60 u61 u62 u63 u64 u65 u66 u67 u68 u69 u70 u71 u72 u73 u74 u75 u76 u77 u78 u79 u80 u81 u82 u83 u84 u85 u86 u87 u88 u89 u90 u91 u92 u93 u94 u95 u96 u97 u98 u99 u100 u101 u102 u103 u104 u105 u106 u107 u108 u109 u110 u111 u112 u113 u114 u115 u116 u117 u118 u119 u120 u121 u122 u123 u124 u125 u126 u127 u128 u129 u130 u131 u132 u133 u134 u135 u136 u137 u138 u139 u140 u141 u142 u143 u144 u145 u146 u147 u148 u149 u150 u151 u152 u153 u154 u155 u156 u157 u158 u159 u160 u161 u162 u163 u164 u165 u166 u167 u168 u169 u170 u171 u172 u173 u174 u175 u176 u177 u178 u179 u180 u181 u182 u183 u184 u185 u186 u187 : Value} {Q : Exit → Act → World → Prop} {C : Code} (hC : C = Cut.region Tryd.f25 9) (HS8 : Hid (HD W b1 b3 gL X8)) (HBF8 : Hid (Bf X8)) (hP : Cut.Blind Q)
    (hQ : ∀ (v79 v80 v81 v82 v83 v84 v85 v86 v87 v88 v89 v90 v91 v92 : Value) (wx : World), HD W b1 b3 gL wx → Bf wx → Q .normal ⟨#[u0, .pointer (some ⟨b1, 0, none⟩), .slice (some ⟨gL, 0, none⟩) 1 1, .pointer (some ⟨b3, 0, none⟩), u4, u5, u6, u7, u8, u9, u10, u11, u12, u13, u14, u15, u16, u17, u18, .int .i64 4, .int .i64 7, .bool true, .int .i64 0, u23, u24, u25, u26, u27, u28, u29, u30, u31, u32, u33, u34, u35, u36, u37, u38, u39, u40, u41, u42, u43, u44, u45, u46, u47, u48, u49, u50, u51, u52, u53, u54, u55, u56, u57, u58, u59, u60, u61, u62, u63, u64, u65, u66, u67, u68, u69, u70, u71, u72, u73, u74, u75, u76, u77, u78, v79, v80, v81, v82, v83, v84, v85, v86, v87, v88, v89, v90, v91, v92, u93, u94, u95, u96, u97, u98, u99, u100, u101, u102, u103, u104, u105, u106, u107, u108, u109, u110, u111, u112, u113, u114, u115, u116, u117, u118, u119, u120, u121, u122, u123, u124, u125, u126, u127, u128, u129, u130, u131, u132, u133, u134, u135, u136, u137, u138, u139, u140, u141, u142, u143, u144, u145, u146, u147, u148, u149, u150, u151, u152, u153, u154, u155, u156, u157, u158, u159, u160, u161, u162, u163, u164, u165, u166, u167, u168, u169, u170, u171, u172, u173, u174, u175, u176, u177, u178, u179, u180, u181, u182, u183, u184, u185, u186, u187], []⟩ wx) :
    Code.wp Tryd.prog C Q ⟨#[u0, .pointer (some ⟨b1, 0, none⟩), .slice (some ⟨gL, 0, none⟩) 1 1, .pointer (some ⟨b3, 0, none⟩), u4, u5, u6, u7, u8, u9, u10, u11, u12, u13, u14, u15, u16, u17, u18, u19, u20, u21, u22, u23, u24, u25, u26, u27, u28, u29, u30, u31, u32, u33, u34, u35, u36, u37, u38, u39, u40, u41, u42, u43, u44, u45, u46, u47, u48, u49, u50, u51, u52, u53, u54, u55, u56, u57, u58, u59, u60, u61, u62, u63, u64, u65, u66, u67, u68, u69, u70, u71, u72, u73, u74, u75, u76, u77, u78, u79, u80, u81, u82, u83, u84, u85, u86, u87, u88, u89, u90, u91, u92, u93, u94, u95, u96, u97, u98, u99, u100, u101, u102, u103, u104, u105, u106, u107, u108, u109, u110, u111, u112, u113, u114, u115, u116, u117, u118, u119, u120, u121, u122, u123, u124, u125, u126, u127, u128, u129, u130, u131, u132, u133, u134, u135, u136, u137, u138, u139, u140, u141, u142, u143, u144, u145, u146, u147, u148, u149, u150, u151, u152, u153, u154, u155, u156, u157, u158, u159, u160, u161, u162, u163, u164, u165, u166, u167, u168, u169, u170, u171, u172, u173, u174, u175, u176, u177, u178, u179, u180, u181, u182, u183, u184, u185, u186, u187], []⟩ X8 := by
  subst hC
  conv => arg 2; whnf
  refine Reg.G.start (by kernel_rfl) ?_
  obtain ⟨X8d, HX8d⟩ : ∃ Y, Hid (X8.drew = Y) := ⟨_, rfl⟩
  have HBX8d : Hid (Below X8.heap.size X8 X8d) := by rw [← HX8d.out]; exact ⟨rfl, rfl, rfl, Nat.le_refl _, fun k hk => rfl⟩
  have HS8d := Lib.hid (HS8.out.keep HBX8d.out)
  have HBF8d := Lib.hid (bf_keep HBF8.out HBX8d.out)
  rw [HX8d.out]
  clear HX8d
  refine' Reg.G.take (i := 0) (v := _) (F := (fun w => Below X8d.heap.size X8d w)) rfl (by rfl) (by kernel_rfl) (by kernel_rfl) (by kernel_rfl) (fun _ _ _ h => hP _ _ _ _ _ h) (Below.refl X8d.heap.size X8d) ?hyu31 ?rehyu31
  case hyu31 => intro w hw; have kc := (hw.block _ (lt_of_blk HS8d.out.ev)).trans HS8d.out.ev; have k0 := cell_of_blk kc 0; have k1 := cell_of_blk kc 1; have k2 := cell_of_blk kc 2; have k3 := cell_of_blk kc 3; have k4 := cell_of_blk kc 4; clear hw kc; first | (go_simp; done) | (go_simp; with_reducible rfl)
  simp only [Act.put, List.setIfInBounds_toArray, List.set_cons_zero, List.set_cons_succ]
  refine' Reg.G.take (i := 3) (v := _) (F := (fun w => Below X8d.heap.size X8d w)) rfl (by rfl) (by kernel_rfl) (by kernel_rfl) (by kernel_rfl) (fun _ _ _ h => hP _ _ _ _ _ h) (Below.refl X8d.heap.size X8d) ?hyu32 ?rehyu32
  case hyu32 => intro w hw; have kc := (hw.block _ (lt_of_blk HS8d.out.cal)).trans HS8d.out.cal; have k0 := cell_of_blk kc 0; have k1 := cell_of_blk kc 1; have k2 := cell_of_blk kc 2; have k3 := cell_of_blk kc 3; have k4 := cell_of_blk kc 4; have k5 := cell_of_blk kc 5; have k6 := cell_of_blk kc 6; have k7 := cell_of_blk kc 7; clear hw kc; first | (go_simp; done) | (go_simp; with_reducible rfl)
  simp only [Act.put, List.setIfInBounds_toArray, List.set_cons_zero, List.set_cons_succ]
  refine Reg.G.step (j := 1) (m := [true, false]) [3, 0] rfl (by kernel_rfl) rfl (by kernel_rfl) (fun K hK => ?_)
  go_simp
  obtain ⟨Y70, HY71⟩ : ∃ Y, Hid (X8d.alloc (.cells #[.int .i64 2, .int .i64 0, .int .i64 0, .bool false, .slice none 0 0] 31) = Y) := ⟨_, rfl⟩
  have HX73 : Hid (Below X8d.heap.size X8d Y70) := by rw [← HY71.out]; exact (Below.refl _ X8d).alloc (Nat.le_refl _) _
  have HK72 : Hid (Y70.heap[X8d.heap.size]? = some (.cells #[.int .i64 2, .int .i64 0, .int .i64 0, .bool false, .slice none 0 0] 31 (0, 0))) := by rw [← HY71.out]; exact blk_newn rfl
  rw [HY71.out]
  clear HY71
  have HB74 : Hid (Below X8d.heap.size X8d Y70) := (Below.refl X8d.heap.size X8d).trans (HX73.out.mono (Below.refl X8d.heap.size X8d).size)
  have HF75 := Lib.hid (tree_blk (W := Y70) [(E0, .slice none 0 0)] (k := 6) (m := 0) (e := 0) (b := false) (n := 1) (cp := 1) HK72.out rfl rfl (by decide) (by decide) (by intro x hx; simp only [List.mem_cons, List.not_mem_nil, or_false] at hx; subst hx; exact tree_E _) (by unfold wf; decide) (by unfold wf; decide))
  refine hK.out _ _ ⟨HB74.out, trivial⟩ ?_
  clear hK K
  simp only [Act.put, List.setIfInBounds_toArray, List.set_cons_zero, List.set_cons_succ, Reg.Kept]
  refine Reg.G.step (j := 2) (m := [true]) [3] rfl (by kernel_rfl) rfl (by kernel_rfl) (fun K hK => ?_)
  go_simp
  refine (of_any 6 0 false (some ⟨X8d.heap.size, 0, none⟩) 1 1 Y70).mono ?_
  rintro e9 Z76 ⟨rfl, hb77⟩
  have HZ78 := Lib.hid hb77
  clear hb77
  have HB79 : Hid (Below X8d.heap.size X8d Z76) := (HB74.out).trans (HZ78.out.mono (HB74.out).size)
  have HF80 := Lib.hid (HF75.out.keep HZ78.out)
  refine hK.out _ _ ⟨HB79.out, trivial⟩ ?_
  clear hK K
  simp only [Act.put, List.setIfInBounds_toArray, List.set_cons_zero, List.set_cons_succ, Reg.Kept]
  refine Reg.G.step (j := 4) (m := [true]) [3] rfl (by kernel_rfl) rfl (by kernel_rfl) (fun K hK => ?_)
  go_simp
  refine (on_any 4 5 Z76).mono ?_
  rintro e9 Z81 ⟨rfl, hb82⟩
  have HZ83 := Lib.hid hb82
  clear hb82
  have HB84 : Hid (Below X8d.heap.size X8d Z81) := (HB79.out).trans (HZ83.out.mono (HB79.out).size)
  have HF85 := Lib.hid (HF80.out.keep HZ83.out)
  refine hK.out _ _ ⟨HB84.out, trivial⟩ ?_
  clear hK K
  simp only [Act.put, List.setIfInBounds_toArray, List.set_cons_zero, List.set_cons_succ, Reg.Kept]
  refine Reg.G.two (j1 := 5) (j2 := 6) (m1 := [true]) (m2 := [true]) [3] rfl rfl (by kernel_rfl) rfl (by kernel_rfl) (by kernel_rfl) (fun K hK => ?_) (fun K hK => ?_)
  · go_simp
    obtain ⟨Y86, HY87⟩ : ∃ Y, Hid (Z81.alloc (.cells #[.bool true, .int .i64 4, .int .i64 5] 67) = Y) := ⟨_, rfl⟩
    have HX89 : Hid (Below Z81.heap.size Z81 Y86) := by rw [← HY87.out]; exact (Below.refl _ Z81).alloc (Nat.le_refl _) _
    have HK88 : Hid (Y86.heap[Z81.heap.size]? = some (.cells #[.bool true, .int .i64 4, .int .i64 5] 67 (0, 0))) := by rw [← HY87.out]; exact blk_newn rfl
    rw [HY87.out]
    clear HY87
    have HB90 : Hid (Below X8d.heap.size X8d Y86) := (HB84.out).trans (HX89.out.mono (HB84.out).size)
    have HF91 := Lib.hid (HF85.out.keep HX89.out)
    have HF92 := Lib.hid (evs_blk (W := Y86) [⟨true, 4, 5⟩] (n := 1) (cp := 1) HK88.out rfl rfl (by decide) (by decide) (by intro w hw; simp only [List.mem_cons, List.not_mem_nil, or_false] at hw; subst hw; unfold wf; decide))
    refine hK.out _ _ ⟨HB90.out, trivial⟩ ?_
    clear hK K
    simp only [Act.put, List.setIfInBounds_toArray, List.set_cons_zero, List.set_cons_succ, Reg.Kept]
    refine Reg.G.step (j := 6) (m := [true]) [3] rfl (by kernel_rfl) rfl (by kernel_rfl) (fun K hK => ?_)
    go_simp
    refine (on_any 5 0 Y86).mono ?_
    rintro e9 Z93 ⟨rfl, hb94⟩
    have HZ95 := Lib.hid hb94
    clear hb94
    have HB96 : Hid (Below X8d.heap.size X8d Z93) := (HB90.out).trans (HZ95.out.mono (HB90.out).size)
    have HF97 := Lib.hid (HF91.out.keep HZ95.out)
    have HF98 := Lib.hid (HF92.out.below HZ95.out)
    refine hK.out _ _ ⟨HB96.out, trivial⟩ ?_
    clear hK K
    simp only [Act.put, List.setIfInBounds_toArray, List.set_cons_zero, List.set_cons_succ, Reg.Kept]
    refine Reg.G.step (j := 7) (m := [true]) [3] rfl (by kernel_rfl) rfl (by kernel_rfl) (fun K hK => ?_)
    go_simp
    obtain ⟨Y99, HY100⟩ : ∃ Y, Hid (Z93.alloc (.cells #[.bool true, .int .i64 5, .int .i64 0] 67) = Y) := ⟨_, rfl⟩
    have HX102 : Hid (Below Z93.heap.size Z93 Y99) := by rw [← HY100.out]; exact (Below.refl _ Z93).alloc (Nat.le_refl _) _
    have HK101 : Hid (Y99.heap[Z93.heap.size]? = some (.cells #[.bool true, .int .i64 5, .int .i64 0] 67 (0, 0))) := by rw [← HY100.out]; exact blk_newn rfl
    rw [HY100.out]
    clear HY100
    have HB103 : Hid (Below X8d.heap.size X8d Y99) := (HB96.out).trans (HX102.out.mono (HB96.out).size)
    have HF104 := Lib.hid (HF97.out.keep HX102.out)
    have HF105 := Lib.hid (HF98.out.below HX102.out)
    have HF106 := Lib.hid (evs_blk (W := Y99) [⟨true, 5, 0⟩] (n := 1) (cp := 1) HK101.out rfl rfl (by decide) (by decide) (by intro w hw; simp only [List.mem_cons, List.not_mem_nil, or_false] at hw; subst hw; unfold wf; decide))
    refine hK.out _ _ ⟨HB103.out, trivial⟩ ?_
    clear hK K
    simp only [Act.put, List.setIfInBounds_toArray, List.set_cons_zero, List.set_cons_succ, Reg.Kept]
    refine Reg.G.step (j := 8) (m := [false]) [3] rfl (by kernel_rfl) rfl (by kernel_rfl) (fun K hK => ?_)
    go_simp
    refine (bounds_c0 (.mk 6 0 0 false [E0]) (.slice (some ⟨X8d.heap.size, 0, none⟩) 1 1) [⟨true, 4, 5⟩] [⟨true, 5, 0⟩] (.slice (some ⟨Z81.heap.size, 0, none⟩) 1 1) (.slice (some ⟨Z93.heap.size, 0, none⟩) 1 1) Y99 _ _ _ _ head6 HF104.out HF105.out HF106.out (bf_keep HBF8d.out (HB103.out)) rfl (cs := #[.int .i64 6, .int .i64 0, .int .i64 0, .bool false, .slice (some ⟨X8d.heap.size, 0, none⟩) 1 1])).mono ?_
    rintro e9 Z107 ⟨rfl, hb108⟩
    have HZ109 := Lib.hid hb108
    clear hb108
    have HB110 : Hid (Below X8d.heap.size X8d Z107) := (HB103.out).trans (HZ109.out.mono (HB103.out).size)
    have HF111 := Lib.hid (HF104.out.keep HZ109.out)
    have HF112 := Lib.hid (HF105.out.below HZ109.out)
    have HF113 := Lib.hid (HF106.out.below HZ109.out)
    refine hK.out _ _ trivial ?_
    clear hK K
    simp only [Act.put, List.setIfInBounds_toArray, List.set_cons_zero, List.set_cons_succ, Reg.Kept]
    refine' Reg.G.pure (i := 9) (v := _) rfl (by rfl) (by kernel_rfl) (by kernel_rfl) (by kernel_rfl) (fun _ _ _ h => hP _ _ _ _ _ h) ?hyu33 ?rehyu33
    case hyu33 => exact fun w => by first | (go_simp; done) | (go_simp; with_reducible rfl)
    simp only [Act.put, List.setIfInBounds_toArray, List.set_cons_zero, List.set_cons_succ]
    refine' Reg.G.pure (i := 10) (v := _) rfl (by rfl) (by kernel_rfl) (by kernel_rfl) (by kernel_rfl) (fun _ _ _ h => hP _ _ _ _ _ h) ?hyu34 ?rehyu34
    case hyu34 => exact fun w => by first | (go_simp; done) | (go_simp; with_reducible rfl)
    simp only [Act.put, List.setIfInBounds_toArray, List.set_cons_zero, List.set_cons_succ]
    refine' Reg.G.pure (i := 11) (v := _) rfl (by rfl) (by kernel_rfl) (by kernel_rfl) (by kernel_rfl) (fun _ _ _ h => hP _ _ _ _ _ h) ?hyu35 ?rehyu35
    case hyu35 => exact fun w => by first | (go_simp; done) | (go_simp; with_reducible rfl)
    simp only [Act.put, List.setIfInBounds_toArray, List.set_cons_zero, List.set_cons_succ]
    refine' Reg.G.pure (i := 12) (v := _) rfl (by rfl) (by kernel_rfl) (by kernel_rfl) (by kernel_rfl) (fun _ _ _ h => hP _ _ _ _ _ h) ?hyu36 ?rehyu36
    case hyu36 => exact fun w => by first | (go_simp; done) | (go_simp; with_reducible rfl)
    simp only [Act.put, List.setIfInBounds_toArray, List.set_cons_zero, List.set_cons_succ]
    refine' Reg.G.pure (i := 13) (v := _) rfl (by rfl) (by kernel_rfl) (by kernel_rfl) (by kernel_rfl) (fun _ _ _ h => hP _ _ _ _ _ h) ?hyu37 ?rehyu37
    case hyu37 => exact fun w => by first | (go_simp; done) | (go_simp; with_reducible rfl)
    simp only [Act.put, List.setIfInBounds_toArray, List.set_cons_zero, List.set_cons_succ]
    refine' Reg.G.pure (i := 14) (v := _) rfl (by rfl) (by kernel_rfl) (by kernel_rfl) (by kernel_rfl) (fun _ _ _ h => hP _ _ _ _ _ h) ?hyu38 ?rehyu38
    case hyu38 => exact fun w => by first | (go_simp; done) | (go_simp; with_reducible rfl)
    simp only [Act.put, List.setIfInBounds_toArray, List.set_cons_zero, List.set_cons_succ]
    refine' Reg.G.pure (i := 15) (v := _) rfl (by rfl) (by kernel_rfl) (by kernel_rfl) (by kernel_rfl) (fun _ _ _ h => hP _ _ _ _ _ h) ?hyu39 ?rehyu39
    case hyu39 => exact fun w => by first | (go_simp; done) | (go_simp; with_reducible rfl)
    simp only [Act.put, List.setIfInBounds_toArray, List.set_cons_zero, List.set_cons_succ]
    refine' Reg.G.pure (i := 16) (v := _) rfl (by rfl) (by kernel_rfl) (by kernel_rfl) (by kernel_rfl) (fun _ _ _ h => hP _ _ _ _ _ h) ?hyu40 ?rehyu40
    case hyu40 => exact fun w => by first | (go_simp; done) | (go_simp; with_reducible rfl)
    simp only [Act.put, List.setIfInBounds_toArray, List.set_cons_zero, List.set_cons_succ]
    refine' Reg.G.pure (i := 17) (v := _) rfl (by rfl) (by kernel_rfl) (by kernel_rfl) (by kernel_rfl) (fun _ _ _ h => hP _ _ _ _ _ h) ?hyu41 ?rehyu41
    case hyu41 => exact fun w => by first | (go_simp; done) | (go_simp; with_reducible rfl)
    simp only [Act.put, List.setIfInBounds_toArray, List.set_cons_zero, List.set_cons_succ]
    refine Reg.G.done (by kernel_rfl) ?_
    exact hQ _ _ _ _ _ _ _ _ _ _ _ _ _ _ _ (HS8d.out.keep (HB110.out)) (bf_keep HBF8d.out (HB110.out))
  · go_simp
    refine (on_any 5 0 Z81).mono ?_
    rintro e9 Z114 ⟨rfl, hb115⟩
    have HZ116 := Lib.hid hb115
    clear hb115
    have HB117 : Hid (Below X8d.heap.size X8d Z114) := (HB84.out).trans (HZ116.out.mono (HB84.out).size)
    have HF118 := Lib.hid (HF85.out.keep HZ116.out)
    refine hK.out _ _ ⟨HB117.out, trivial⟩ ?_
    clear hK K
    simp only [Act.put, List.setIfInBounds_toArray, List.set_cons_zero, List.set_cons_succ, Reg.Kept]
    refine Reg.G.two (j1 := 5) (j2 := 7) (m1 := [true]) (m2 := [true]) [3] rfl rfl (by kernel_rfl) rfl (by kernel_rfl) (by kernel_rfl) (fun K hK => ?_) (fun K hK => ?_)
    · go_simp
      obtain ⟨Y119, HY120⟩ : ∃ Y, Hid (Z114.alloc (.cells #[.bool true, .int .i64 4, .int .i64 5] 67) = Y) := ⟨_, rfl⟩
      have HX122 : Hid (Below Z114.heap.size Z114 Y119) := by rw [← HY120.out]; exact (Below.refl _ Z114).alloc (Nat.le_refl _) _
      have HK121 : Hid (Y119.heap[Z114.heap.size]? = some (.cells #[.bool true, .int .i64 4, .int .i64 5] 67 (0, 0))) := by rw [← HY120.out]; exact blk_newn rfl
      rw [HY120.out]
      clear HY120
      have HB123 : Hid (Below X8d.heap.size X8d Y119) := (HB117.out).trans (HX122.out.mono (HB117.out).size)
      have HF124 := Lib.hid (HF118.out.keep HX122.out)
      have HF125 := Lib.hid (evs_blk (W := Y119) [⟨true, 4, 5⟩] (n := 1) (cp := 1) HK121.out rfl rfl (by decide) (by decide) (by intro w hw; simp only [List.mem_cons, List.not_mem_nil, or_false] at hw; subst hw; unfold wf; decide))
      refine hK.out _ _ ⟨HB123.out, trivial⟩ ?_
      clear hK K
      simp only [Act.put, List.setIfInBounds_toArray, List.set_cons_zero, List.set_cons_succ, Reg.Kept]
      refine Reg.G.step (j := 7) (m := [true]) [3] rfl (by kernel_rfl) rfl (by kernel_rfl) (fun K hK => ?_)
      go_simp
      obtain ⟨Y126, HY127⟩ : ∃ Y, Hid (Y119.alloc (.cells #[.bool true, .int .i64 5, .int .i64 0] 67) = Y) := ⟨_, rfl⟩
      have HX129 : Hid (Below Y119.heap.size Y119 Y126) := by rw [← HY127.out]; exact (Below.refl _ Y119).alloc (Nat.le_refl _) _
      have HK128 : Hid (Y126.heap[Y119.heap.size]? = some (.cells #[.bool true, .int .i64 5, .int .i64 0] 67 (0, 0))) := by rw [← HY127.out]; exact blk_newn rfl
      rw [HY127.out]
      clear HY127
      have HB130 : Hid (Below X8d.heap.size X8d Y126) := (HB123.out).trans (HX129.out.mono (HB123.out).size)
      have HF131 := Lib.hid (HF124.out.keep HX129.out)
      have HF132 := Lib.hid (HF125.out.below HX129.out)
      have HF133 := Lib.hid (evs_blk (W := Y126) [⟨true, 5, 0⟩] (n := 1) (cp := 1) HK128.out rfl rfl (by decide) (by decide) (by intro w hw; simp only [List.mem_cons, List.not_mem_nil, or_false] at hw; subst hw; unfold wf; decide))
      refine hK.out _ _ ⟨HB130.out, trivial⟩ ?_
      clear hK K
      simp only [Act.put, List.setIfInBounds_toArray, List.set_cons_zero, List.set_cons_succ, Reg.Kept]
      refine Reg.G.step (j := 8) (m := [false]) [3] rfl (by kernel_rfl) rfl (by kernel_rfl) (fun K hK => ?_)
      go_simp
      refine (bounds_c0 (.mk 6 0 0 false [E0]) (.slice (some ⟨X8d.heap.size, 0, none⟩) 1 1) [⟨true, 4, 5⟩] [⟨true, 5, 0⟩] (.slice (some ⟨Z114.heap.size, 0, none⟩) 1 1) (.slice (some ⟨Y119.heap.size, 0, none⟩) 1 1) Y126 _ _ _ _ head6 HF131.out HF132.out HF133.out (bf_keep HBF8d.out (HB130.out)) rfl (cs := #[.int .i64 6, .int .i64 0, .int .i64 0, .bool false, .slice (some ⟨X8d.heap.size, 0, none⟩) 1 1])).mono ?_
      rintro e9 Z134 ⟨rfl, hb135⟩
      have HZ136 := Lib.hid hb135
      clear hb135
      have HB137 : Hid (Below X8d.heap.size X8d Z134) := (HB130.out).trans (HZ136.out.mono (HB130.out).size)
      have HF138 := Lib.hid (HF131.out.keep HZ136.out)
      have HF139 := Lib.hid (HF132.out.below HZ136.out)
      have HF140 := Lib.hid (HF133.out.below HZ136.out)
      refine hK.out _ _ trivial ?_
      clear hK K
      simp only [Act.put, List.setIfInBounds_toArray, List.set_cons_zero, List.set_cons_succ, Reg.Kept]
      refine' Reg.G.pure (i := 9) (v := _) rfl (by rfl) (by kernel_rfl) (by kernel_rfl) (by kernel_rfl) (fun _ _ _ h => hP _ _ _ _ _ h) ?hyu42 ?rehyu42
      case hyu42 => exact fun w => by first | (go_simp; done) | (go_simp; with_reducible rfl)
      simp only [Act.put, List.setIfInBounds_toArray, List.set_cons_zero, List.set_cons_succ]
      refine' Reg.G.pure (i := 10) (v := _) rfl (by rfl) (by kernel_rfl) (by kernel_rfl) (by kernel_rfl) (fun _ _ _ h => hP _ _ _ _ _ h) ?hyu43 ?rehyu43
      case hyu43 => exact fun w => by first | (go_simp; done) | (go_simp; with_reducible rfl)
      simp only [Act.put, List.setIfInBounds_toArray, List.set_cons_zero, List.set_cons_succ]
      refine' Reg.G.pure (i := 11) (v := _) rfl (by rfl) (by kernel_rfl) (by kernel_rfl) (by kernel_rfl) (fun _ _ _ h => hP _ _ _ _ _ h) ?hyu44 ?rehyu44
      case hyu44 => exact fun w => by first | (go_simp; done) | (go_simp; with_reducible rfl)
      simp only [Act.put, List.setIfInBounds_toArray, List.set_cons_zero, List.set_cons_succ]
      refine' Reg.G.pure (i := 12) (v := _) rfl (by rfl) (by kernel_rfl) (by kernel_rfl) (by kernel_rfl) (fun _ _ _ h => hP _ _ _ _ _ h) ?hyu45 ?rehyu45
      case hyu45 => exact fun w => by first | (go_simp; done) | (go_simp; with_reducible rfl)
      simp only [Act.put, List.setIfInBounds_toArray, List.set_cons_zero, List.set_cons_succ]
      refine' Reg.G.pure (i := 13) (v := _) rfl (by rfl) (by kernel_rfl) (by kernel_rfl) (by kernel_rfl) (fun _ _ _ h => hP _ _ _ _ _ h) ?hyu46 ?rehyu46
      case hyu46 => exact fun w => by first | (go_simp; done) | (go_simp; with_reducible rfl)
      simp only [Act.put, List.setIfInBounds_toArray, List.set_cons_zero, List.set_cons_succ]
      refine' Reg.G.pure (i := 14) (v := _) rfl (by rfl) (by kernel_rfl) (by kernel_rfl) (by kernel_rfl) (fun _ _ _ h => hP _ _ _ _ _ h) ?hyu47 ?rehyu47
      case hyu47 => exact fun w => by first | (go_simp; done) | (go_simp; with_reducible rfl)
      simp only [Act.put, List.setIfInBounds_toArray, List.set_cons_zero, List.set_cons_succ]
      refine' Reg.G.pure (i := 15) (v := _) rfl (by rfl) (by kernel_rfl) (by kernel_rfl) (by kernel_rfl) (fun _ _ _ h => hP _ _ _ _ _ h) ?hyu48 ?rehyu48
      case hyu48 => exact fun w => by first | (go_simp; done) | (go_simp; with_reducible rfl)
      simp only [Act.put, List.setIfInBounds_toArray, List.set_cons_zero, List.set_cons_succ]
      refine' Reg.G.pure (i := 16) (v := _) rfl (by rfl) (by kernel_rfl) (by kernel_rfl) (by kernel_rfl) (fun _ _ _ h => hP _ _ _ _ _ h) ?hyu49 ?rehyu49
      case hyu49 => exact fun w => by first | (go_simp; done) | (go_simp; with_reducible rfl)
      simp only [Act.put, List.setIfInBounds_toArray, List.set_cons_zero, List.set_cons_succ]
      refine' Reg.G.pure (i := 17) (v := _) rfl (by rfl) (by kernel_rfl) (by kernel_rfl) (by kernel_rfl) (fun _ _ _ h => hP _ _ _ _ _ h) ?hyu50 ?rehyu50
      case hyu50 => exact fun w => by first | (go_simp; done) | (go_simp; with_reducible rfl)
      simp only [Act.put, List.setIfInBounds_toArray, List.set_cons_zero, List.set_cons_succ]
      refine Reg.G.done (by kernel_rfl) ?_
      exact hQ _ _ _ _ _ _ _ _ _ _ _ _ _ _ _ (HS8d.out.keep (HB137.out)) (bf_keep HBF8d.out (HB137.out))
    · go_simp
      obtain ⟨Y141, HY142⟩ : ∃ Y, Hid (Z114.alloc (.cells #[.bool true, .int .i64 5, .int .i64 0] 67) = Y) := ⟨_, rfl⟩
      have HX144 : Hid (Below Z114.heap.size Z114 Y141) := by rw [← HY142.out]; exact (Below.refl _ Z114).alloc (Nat.le_refl _) _
      have HK143 : Hid (Y141.heap[Z114.heap.size]? = some (.cells #[.bool true, .int .i64 5, .int .i64 0] 67 (0, 0))) := by rw [← HY142.out]; exact blk_newn rfl
      rw [HY142.out]
      clear HY142
      have HB145 : Hid (Below X8d.heap.size X8d Y141) := (HB117.out).trans (HX144.out.mono (HB117.out).size)
      have HF146 := Lib.hid (HF118.out.keep HX144.out)
      have HF147 := Lib.hid (evs_blk (W := Y141) [⟨true, 5, 0⟩] (n := 1) (cp := 1) HK143.out rfl rfl (by decide) (by decide) (by intro w hw; simp only [List.mem_cons, List.not_mem_nil, or_false] at hw; subst hw; unfold wf; decide))
      refine hK.out _ _ ⟨HB145.out, trivial⟩ ?_
      clear hK K
      simp only [Act.put, List.setIfInBounds_toArray, List.set_cons_zero, List.set_cons_succ, Reg.Kept]
      refine Reg.G.step (j := 5) (m := [true]) [3] rfl (by kernel_rfl) rfl (by kernel_rfl) (fun K hK => ?_)
      go_simp
      obtain ⟨Y148, HY149⟩ : ∃ Y, Hid (Y141.alloc (.cells #[.bool true, .int .i64 4, .int .i64 5] 67) = Y) := ⟨_, rfl⟩
      have HX151 : Hid (Below Y141.heap.size Y141 Y148) := by rw [← HY149.out]; exact (Below.refl _ Y141).alloc (Nat.le_refl _) _
      have HK150 : Hid (Y148.heap[Y141.heap.size]? = some (.cells #[.bool true, .int .i64 4, .int .i64 5] 67 (0, 0))) := by rw [← HY149.out]; exact blk_newn rfl
      rw [HY149.out]
      clear HY149
      have HB152 : Hid (Below X8d.heap.size X8d Y148) := (HB145.out).trans (HX151.out.mono (HB145.out).size)
      have HF153 := Lib.hid (HF146.out.keep HX151.out)
      have HF154 := Lib.hid (HF147.out.below HX151.out)
      have HF155 := Lib.hid (evs_blk (W := Y148) [⟨true, 4, 5⟩] (n := 1) (cp := 1) HK150.out rfl rfl (by decide) (by decide) (by intro w hw; simp only [List.mem_cons, List.not_mem_nil, or_false] at hw; subst hw; unfold wf; decide))
      refine hK.out _ _ ⟨HB152.out, trivial⟩ ?_
      clear hK K
      simp only [Act.put, List.setIfInBounds_toArray, List.set_cons_zero, List.set_cons_succ, Reg.Kept]
      refine Reg.G.step (j := 8) (m := [false]) [3] rfl (by kernel_rfl) rfl (by kernel_rfl) (fun K hK => ?_)
      go_simp
      refine (bounds_c0 (.mk 6 0 0 false [E0]) (.slice (some ⟨X8d.heap.size, 0, none⟩) 1 1) [⟨true, 4, 5⟩] [⟨true, 5, 0⟩] (.slice (some ⟨Y141.heap.size, 0, none⟩) 1 1) (.slice (some ⟨Z114.heap.size, 0, none⟩) 1 1) Y148 _ _ _ _ head6 HF153.out HF155.out HF154.out (bf_keep HBF8d.out (HB152.out)) rfl (cs := #[.int .i64 6, .int .i64 0, .int .i64 0, .bool false, .slice (some ⟨X8d.heap.size, 0, none⟩) 1 1])).mono ?_
      rintro e9 Z156 ⟨rfl, hb157⟩
      have HZ158 := Lib.hid hb157
      clear hb157
      have HB159 : Hid (Below X8d.heap.size X8d Z156) := (HB152.out).trans (HZ158.out.mono (HB152.out).size)
      have HF160 := Lib.hid (HF153.out.keep HZ158.out)
      have HF161 := Lib.hid (HF154.out.below HZ158.out)
      have HF162 := Lib.hid (HF155.out.below HZ158.out)
      refine hK.out _ _ trivial ?_
      clear hK K
      simp only [Act.put, List.setIfInBounds_toArray, List.set_cons_zero, List.set_cons_succ, Reg.Kept]
      refine' Reg.G.pure (i := 9) (v := _) rfl (by rfl) (by kernel_rfl) (by kernel_rfl) (by kernel_rfl) (fun _ _ _ h => hP _ _ _ _ _ h) ?hyu51 ?rehyu51
      case hyu51 => exact fun w => by first | (go_simp; done) | (go_simp; with_reducible rfl)
      simp only [Act.put, List.setIfInBounds_toArray, List.set_cons_zero, List.set_cons_succ]
      refine' Reg.G.pure (i := 10) (v := _) rfl (by rfl) (by kernel_rfl) (by kernel_rfl) (by kernel_rfl) (fun _ _ _ h => hP _ _ _ _ _ h) ?hyu52 ?rehyu52
      case hyu52 => exact fun w => by first | (go_simp; done) | (go_simp; with_reducible rfl)
      simp only [Act.put, List.setIfInBounds_toArray, List.set_cons_zero, List.set_cons_succ]
      refine' Reg.G.pure (i := 11) (v := _) rfl (by rfl) (by kernel_rfl) (by kernel_rfl) (by kernel_rfl) (fun _ _ _ h => hP _ _ _ _ _ h) ?hyu53 ?rehyu53
      case hyu53 => exact fun w => by first | (go_simp; done) | (go_simp; with_reducible rfl)
      simp only [Act.put, List.setIfInBounds_toArray, List.set_cons_zero, List.set_cons_succ]
      refine' Reg.G.pure (i := 12) (v := _) rfl (by rfl) (by kernel_rfl) (by kernel_rfl) (by kernel_rfl) (fun _ _ _ h => hP _ _ _ _ _ h) ?hyu54 ?rehyu54
      case hyu54 => exact fun w => by first | (go_simp; done) | (go_simp; with_reducible rfl)
      simp only [Act.put, List.setIfInBounds_toArray, List.set_cons_zero, List.set_cons_succ]
      refine' Reg.G.pure (i := 13) (v := _) rfl (by rfl) (by kernel_rfl) (by kernel_rfl) (by kernel_rfl) (fun _ _ _ h => hP _ _ _ _ _ h) ?hyu55 ?rehyu55
      case hyu55 => exact fun w => by first | (go_simp; done) | (go_simp; with_reducible rfl)
      simp only [Act.put, List.setIfInBounds_toArray, List.set_cons_zero, List.set_cons_succ]
      refine' Reg.G.pure (i := 14) (v := _) rfl (by rfl) (by kernel_rfl) (by kernel_rfl) (by kernel_rfl) (fun _ _ _ h => hP _ _ _ _ _ h) ?hyu56 ?rehyu56
      case hyu56 => exact fun w => by first | (go_simp; done) | (go_simp; with_reducible rfl)
      simp only [Act.put, List.setIfInBounds_toArray, List.set_cons_zero, List.set_cons_succ]
      refine' Reg.G.pure (i := 15) (v := _) rfl (by rfl) (by kernel_rfl) (by kernel_rfl) (by kernel_rfl) (fun _ _ _ h => hP _ _ _ _ _ h) ?hyu57 ?rehyu57
      case hyu57 => exact fun w => by first | (go_simp; done) | (go_simp; with_reducible rfl)
      simp only [Act.put, List.setIfInBounds_toArray, List.set_cons_zero, List.set_cons_succ]
      refine' Reg.G.pure (i := 16) (v := _) rfl (by rfl) (by kernel_rfl) (by kernel_rfl) (by kernel_rfl) (fun _ _ _ h => hP _ _ _ _ _ h) ?hyu58 ?rehyu58
      case hyu58 => exact fun w => by first | (go_simp; done) | (go_simp; with_reducible rfl)
      simp only [Act.put, List.setIfInBounds_toArray, List.set_cons_zero, List.set_cons_succ]
      refine' Reg.G.pure (i := 17) (v := _) rfl (by rfl) (by kernel_rfl) (by kernel_rfl) (by kernel_rfl) (fun _ _ _ h => hP _ _ _ _ _ h) ?hyu59 ?rehyu59
      case hyu59 => exact fun w => by first | (go_simp; done) | (go_simp; with_reducible rfl)
      simp only [Act.put, List.setIfInBounds_toArray, List.set_cons_zero, List.set_cons_succ]
      refine Reg.G.done (by kernel_rfl) ?_
      exact hQ _ _ _ _ _ _ _ _ _ _ _ _ _ _ _ (HS8d.out.keep (HB159.out)) (bf_keep HBF8d.out (HB159.out))
end Go.Proofs.YticlmkfifpkdpaaDoor.Dl
