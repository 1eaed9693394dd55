/-
  The regions of the law's head that draw their order.
-/
import Derived.Test.YticlmkfifpkdpaaDoorDlHeadA
namespace Go.Proofs.YticlmkfifpkdpaaDoor.Dl
open Go.RowKit Mem Vw
set_option linter.unusedVariables false
set_option linter.unusedSimpArgs false
set_option maxRecDepth 100000 in
set_option maxHeartbeats 16000000 in
theorem head_r8 {W : World} {b1 b3 gL : Nat} {X7 : World} {u0 u4 u5 u6 u7 u8 u9 u10 u11 u12 u13 u14 u15 u16 u17 u18 u19 u20 u21 u22 u23 u24 u25 u26 u27 u28 u29 u30 u31 u32 u33 u34 u35 u36 u37 u38 u39 u40 u41 u42 u43 u44 u45 u46 u47 u48 u49 u50 u51 u52 u53 u54 u55 u56 u57 u58 u59 u60 u61 u62 u63 u64 u65 u66 u67 u68 u69 u70 u71 u72 u73 u74 u75 u76 u77 u78 u79 u80 u81 u82 u83 u84 u85 u86 u87 u88 u89 u90 u91 u92 u93 u94 u95 u96 u97 u98 u99 u100 u101 u102 u103 u104 u105 u106 u107 u108 u109 u110 u111 u112 u113 u114 u115 u116 u117 u118 u119 u120 u121 u122 u123 u124 u125 u126 u127 u128 u129 u130 u131 u132 u133 u134 u135 u136 u137 u138 u139 u140 u141 u142 u143 u144 u145 u146 u147 u148 u149 u150 u151 u152 u153 u154 u155 u156 u157 u158 u159 u160 u161 u162 u163 u164 u165 u166 u167 u168 u169 u170 u171 u172 u173 u174 u175 u176 u177 u178 u179 u180 u181 u182 u183 u184 u185 u186 u187 : Value} {Q : Exit → Act → World → Prop} {C : Code} (hC : C = Cut.region Tryd.f25 8) (HS7 : Hid (HD W b1 b3 gL X7)) (HBF7 : Hid (Bf X7)) (hP : Cut.Blind Q)
    (hQ : ∀ (v70 v71 v72 v73 v74 v75 v76 v77 v78 : Value) (wx : World), HD W b1 b3 gL wx → Bf wx → Q .normal ⟨#[u0, .pointer (some ⟨b1, 0, none⟩), .slice (some ⟨gL, 0, none⟩) 1 1, .pointer (some ⟨b3, 0, none⟩), u4, u5, u6, u7, u8, u9, u10, u11, u12, u13, u14, u15, .int .i64 0, .bool false, .int .i64 2, u19, u20, u21, u22, u23, u24, u25, u26, u27, u28, u29, u30, u31, u32, u33, u34, u35, u36, u37, u38, u39, u40, u41, u42, u43, u44, u45, u46, u47, u48, u49, u50, u51, u52, u53, u54, u55, u56, u57, u58, u59, u60, u61, u62, u63, u64, u65, u66, u67, u68, u69, v70, v71, v72, v73, v74, v75, v76, v77, v78, u79, u80, u81, u82, u83, u84, u85, u86, u87, u88, u89, u90, u91, u92, u93, u94, u95, u96, u97, u98, u99, u100, u101, u102, u103, u104, u105, u106, u107, u108, u109, u110, u111, u112, u113, u114, u115, u116, u117, u118, u119, u120, u121, u122, u123, u124, u125, u126, u127, u128, u129, u130, u131, u132, u133, u134, u135, u136, u137, u138, u139, u140, u141, u142, u143, u144, u145, u146, u147, u148, u149, u150, u151, u152, u153, u154, u155, u156, u157, u158, u159, u160, u161, u162, u163, u164, u165, u166, u167, u168, u169, u170, u171, u172, u173, u174, u175, u176, u177, u178, u179, u180, u181, u182, u183, u184, u185, u186, u187], []⟩ wx) :
    Code.wp Tryd.prog C Q ⟨#[u0, .pointer (some ⟨b1, 0, none⟩), .slice (some ⟨gL, 0, none⟩) 1 1, .pointer (some ⟨b3, 0, none⟩), u4, u5, u6, u7, u8, u9, u10, u11, u12, u13, u14, u15, u16, u17, u18, u19, u20, u21, u22, u23, u24, u25, u26, u27, u28, u29, u30, u31, u32, u33, u34, u35, u36, u37, u38, u39, u40, u41, u42, u43, u44, u45, u46, u47, u48, u49, u50, u51, u52, u53, u54, u55, u56, u57, u58, u59, u60, u61, u62, u63, u64, u65, u66, u67, u68, u69, u70, u71, u72, u73, u74, u75, u76, u77, u78, u79, u80, u81, u82, u83, u84, u85, u86, u87, u88, u89, u90, u91, u92, u93, u94, u95, u96, u97, u98, u99, u100, u101, u102, u103, u104, u105, u106, u107, u108, u109, u110, u111, u112, u113, u114, u115, u116, u117, u118, u119, u120, u121, u122, u123, u124, u125, u126, u127, u128, u129, u130, u131, u132, u133, u134, u135, u136, u137, u138, u139, u140, u141, u142, u143, u144, u145, u146, u147, u148, u149, u150, u151, u152, u153, u154, u155, u156, u157, u158, u159, u160, u161, u162, u163, u164, u165, u166, u167, u168, u169, u170, u171, u172, u173, u174, u175, u176, u177, u178, u179, u180, u181, u182, u183, u184, u185, u186, u187], []⟩ X7 := by
  subst hC
  conv => arg 2; whnf
  refine Reg.G.start (by kernel_rfl) ?_
  obtain ⟨X7d, HX7d⟩ : ∃ Y, Hid (X7.drew = Y) := ⟨_, rfl⟩
  have HBX7d : Hid (Below X7.heap.size X7 X7d) := by rw [← HX7d.out]; exact ⟨rfl, rfl, rfl, Nat.le_refl _, fun k hk => rfl⟩
  have HS7d := Lib.hid (HS7.out.keep HBX7d.out)
  have HBF7d := Lib.hid (bf_keep HBF7.out HBX7d.out)
  rw [HX7d.out]
  clear HX7d
  refine' Reg.G.pure (i := 0) (v := _) rfl (by rfl) (by kernel_rfl) (by kernel_rfl) (by kernel_rfl) (fun _ _ _ h => hP _ _ _ _ _ h) ?hys22 ?rehys22
  case hys22 => exact fun w => by first | (go_simp; done) | (go_simp; with_reducible rfl)
  simp only [Act.put, List.setIfInBounds_toArray, List.set_cons_zero, List.set_cons_succ]
  refine' Reg.G.take (i := 3) (v := _) (F := (fun w => Below X7d.heap.size X7d w)) rfl (by rfl) (by kernel_rfl) (by kernel_rfl) (by kernel_rfl) (fun _ _ _ h => hP _ _ _ _ _ h) (Below.refl X7d.heap.size X7d) ?hys23 ?rehys23
  case hys23 => intro w hw; have kc := (hw.block _ (lt_of_blk HS7d.out.cal)).trans HS7d.out.cal; have k0 := cell_of_blk kc 0; have k1 := cell_of_blk kc 1; have k2 := cell_of_blk kc 2; have k3 := cell_of_blk kc 3; have k4 := cell_of_blk kc 4; have k5 := cell_of_blk kc 5; have k6 := cell_of_blk kc 6; have k7 := cell_of_blk kc 7; clear hw kc; first | (go_simp; done) | (go_simp; with_reducible rfl)
  simp only [Act.put, List.setIfInBounds_toArray, List.set_cons_zero, List.set_cons_succ]
  refine Reg.G.step (j := 1) (m := [true]) [3] rfl (by kernel_rfl) rfl (by kernel_rfl) (fun K hK => ?_)
  go_simp
  obtain ⟨Y54, HY55⟩ : ∃ Y, Hid (X7d.alloc (.cells #[.int .i64 1, .int .i64 73048, .int .i64 0, .bool false, .slice none 0 0] 31) = Y) := ⟨_, rfl⟩
  have HX57 : Hid (Below X7d.heap.size X7d Y54) := by rw [← HY55.out]; exact (Below.refl _ X7d).alloc (Nat.le_refl _) _
  have HK56 : Hid (Y54.heap[X7d.heap.size]? = some (.cells #[.int .i64 1, .int .i64 73048, .int .i64 0, .bool false, .slice none 0 0] 31 (0, 0))) := by rw [← HY55.out]; exact blk_newn rfl
  rw [HY55.out]
  clear HY55
  have HB58 : Hid (Below X7d.heap.size X7d Y54) := (Below.refl X7d.heap.size X7d).trans (HX57.out.mono (Below.refl X7d.heap.size X7d).size)
  have HF59 := Lib.hid (tree_blk (W := Y54) [(.mk 1 73048 0 false [], .slice none 0 0)] (k := 4) (m := 1) (e := 0) (b := false) (n := 1) (cp := 1) HK56.out rfl rfl (by decide) (by decide) (by intro x hx; simp only [List.mem_cons, List.not_mem_nil, or_false] at hx; subst hx; exact tree_leaf _ 1 73048 0 false (by unfold wf; decide) (by unfold wf; decide)) (by unfold wf; decide) (by unfold wf; decide))
  refine hK.out _ _ ⟨HB58.out, trivial⟩ ?_
  clear hK K
  simp only [Act.put, List.setIfInBounds_toArray, List.set_cons_zero, List.set_cons_succ, Reg.Kept]
  refine Reg.G.step (j := 2) (m := [true]) [3] rfl (by kernel_rfl) rfl (by kernel_rfl) (fun K hK => ?_)
  go_simp
  refine (of_any 4 1 false (some ⟨X7d.heap.size, 0, none⟩) 1 1 Y54).mono ?_
  rintro e9 Z60 ⟨rfl, hb61⟩
  have HZ62 := Lib.hid hb61
  clear hb61
  have HB63 : Hid (Below X7d.heap.size X7d Z60) := (HB58.out).trans (HZ62.out.mono (HB58.out).size)
  have HF64 := Lib.hid (HF59.out.keep HZ62.out)
  refine hK.out _ _ ⟨HB63.out, trivial⟩ ?_
  clear hK K
  simp only [Act.put, List.setIfInBounds_toArray, List.set_cons_zero, List.set_cons_succ, Reg.Kept]
  refine Reg.G.step (j := 4) (m := [false]) [3] rfl (by kernel_rfl) rfl (by kernel_rfl) (fun K hK => ?_)
  go_simp
  refine (eval_c0 (.mk 4 1 0 false [.mk 1 73048 0 false []]) (.slice (some ⟨X7d.heap.size, 0, none⟩) 1 1) [] (.slice none 0 0) Z60 _ _ _ head5 HF64.out (evs_nil _) (bf_keep HBF7d.out (HB63.out)) rfl (cs := #[.int .i64 4, .int .i64 1, .int .i64 0, .bool false, .slice (some ⟨X7d.heap.size, 0, none⟩) 1 1])).mono ?_
  rintro e9 Z65 ⟨rfl, hb66⟩
  have HZ67 := Lib.hid hb66
  clear hb66
  have HB68 : Hid (Below X7d.heap.size X7d Z65) := (HB63.out).trans (HZ67.out.mono (HB63.out).size)
  have HF69 := Lib.hid (HF64.out.keep HZ67.out)
  refine hK.out _ _ trivial ?_
  clear hK K
  simp only [Act.put, List.setIfInBounds_toArray, List.set_cons_zero, List.set_cons_succ, Reg.Kept]
  refine' Reg.G.pure (i := 5) (v := _) rfl (by rfl) (by kernel_rfl) (by kernel_rfl) (by kernel_rfl) (fun _ _ _ h => hP _ _ _ _ _ h) ?hys24 ?rehys24
  case hys24 => exact fun w => by first | (go_simp; done) | (go_simp; with_reducible rfl)
  simp only [Act.put, List.setIfInBounds_toArray, List.set_cons_zero, List.set_cons_succ]
  refine' Reg.G.pure (i := 6) (v := _) rfl (by rfl) (by kernel_rfl) (by kernel_rfl) (by kernel_rfl) (fun _ _ _ h => hP _ _ _ _ _ h) ?hys25 ?rehys25
  case hys25 => exact fun w => by first | (go_simp; done) | (go_simp; with_reducible rfl)
  simp only [Act.put, List.setIfInBounds_toArray, List.set_cons_zero, List.set_cons_succ]
  refine' Reg.G.pure (i := 7) (v := _) rfl (by rfl) (by kernel_rfl) (by kernel_rfl) (by kernel_rfl) (fun _ _ _ h => hP _ _ _ _ _ h) ?hys26 ?rehys26
  case hys26 => exact fun w => by first | (go_simp; done) | (go_simp; with_reducible rfl)
  simp only [Act.put, List.setIfInBounds_toArray, List.set_cons_zero, List.set_cons_succ]
  refine' Reg.G.pure (i := 8) (v := _) rfl (by rfl) (by kernel_rfl) (by kernel_rfl) (by kernel_rfl) (fun _ _ _ h => hP _ _ _ _ _ h) ?hys27 ?rehys27
  case hys27 => exact fun w => by first | (go_simp; done) | (go_simp; with_reducible rfl)
  simp only [Act.put, List.setIfInBounds_toArray, List.set_cons_zero, List.set_cons_succ]
  refine' Reg.G.pure (i := 9) (v := _) rfl (by rfl) (by kernel_rfl) (by kernel_rfl) (by kernel_rfl) (fun _ _ _ h => hP _ _ _ _ _ h) ?hys28 ?rehys28
  case hys28 => exact fun w => by first | (go_simp; done) | (go_simp; with_reducible rfl)
  simp only [Act.put, List.setIfInBounds_toArray, List.set_cons_zero, List.set_cons_succ]
  refine' Reg.G.pure (i := 10) (v := _) rfl (by rfl) (by kernel_rfl) (by kernel_rfl) (by kernel_rfl) (fun _ _ _ h => hP _ _ _ _ _ h) ?hys29 ?rehys29
  case hys29 => exact fun w => by first | (go_simp; done) | (go_simp; with_reducible rfl)
  simp only [Act.put, List.setIfInBounds_toArray, List.set_cons_zero, List.set_cons_succ]
  refine' Reg.G.pure (i := 11) (v := _) rfl (by rfl) (by kernel_rfl) (by kernel_rfl) (by kernel_rfl) (fun _ _ _ h => hP _ _ _ _ _ h) ?hys30 ?rehys30
  case hys30 => exact fun w => by first | (go_simp; done) | (go_simp; with_reducible rfl)
  simp only [Act.put, List.setIfInBounds_toArray, List.set_cons_zero, List.set_cons_succ]
  refine Reg.G.done (by kernel_rfl) ?_
  exact hQ _ _ _ _ _ _ _ _ _ _ (HS7d.out.keep (HB68.out)) (bf_keep HBF7d.out (HB68.out))
end Go.Proofs.YticlmkfifpkdpaaDoor.Dl
