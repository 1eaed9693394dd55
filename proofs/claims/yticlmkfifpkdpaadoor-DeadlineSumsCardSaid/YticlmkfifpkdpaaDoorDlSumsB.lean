/-
  Regions of the law DeadlineSums.
-/
import Derived.Test.YticlmkfifpkdpaaDoorDlSumsA
namespace Go.Proofs.YticlmkfifpkdpaaDoor.Dl
open Go.RowKit Mem Vw
set_option linter.unusedVariables false
set_option linter.unusedSimpArgs false
set_option maxRecDepth 100000 in
set_option maxHeartbeats 16000000 in
theorem sums_r14 {W X : World} {k n e : Int} {b : Bool} {kids : List Term} {A : Option Addr} {cp : Nat} {c : Cal} {hv : Value} {l : List When} {Al : Option Addr} {nl : Nat} {gt gc : Nat} {M N : Int} {d3 : Int} {k3 : Bool} {e3 : Int} {gs : Nat} {sv : Value} {u0 u1 u3 u4 u7 u8 u9 u10 u11 u14 u15 u16 u17 u18 u19 u21 u22 u23 u24 u25 u26 u27 u28 u29 u30 u31 u32 u33 u34 u35 u36 u37 u38 u39 u40 u41 u42 u43 u44 u45 u46 u47 u48 u49 u50 u51 u52 u53 u54 u55 u56 u57 u58 u59 u60 u61 u62 u63 u64 u65 u66 u67 u68 u69 u70 u71 u72 u73 u74 u75 u76 u77 u78 u79 u80 u81 u82 u83 u84 u85 u86 u87 u88 u89 u90 u91 u92 u93 u94 u95 u96 u97 u98 u99 u100 u101 u102 u103 u104 u105 u106 u107 u108 u109 u110 u111 u112 u113 u114 u115 u116 u117 u118 u119 u120 u121 u122 u123 u124 u125 u126 u127 u128 u129 u130 u131 u132 u133 u134 u135 u136 u137 u138 u139 u140 u141 u142 u143 u144 u145 u146 u147 u148 u149 u150 u151 u152 u153 u154 u155 u156 u157 u158 u159 u160 u161 u162 u163 u164 u165 u166 u167 u168 u169 u170 u171 u172 u173 u174 u175 u176 u177 u178 u179 u180 u181 u182 u183 u184 u185 u186 u187 : Value} {Q : Exit → Act → World → Prop} {C : Code} (hC : C = Cut.region Tryd.f12 14) (HG : Hid (GV W c hv)) (HT : Hid (Tree W (.mk k n e b kids) (.slice A kids.length cp))) (HEl : Hid (EvsAt W l (.slice Al l.length nl))) (HS : Hid (SS W (.mk k n e b kids, .slice A kids.length cp) c hv gt gc gs sv (.mk 6 0 0 false [.mk k n e b kids]) X)) (hM0 : 0 ≤ M) (hM1 : M ≤ 500) (hN0 : 0 ≤ N) (hN1 : N ≤ 500) (HR : Hid (eval (.mk 4 (M + N + 1) 0 true [.mk 6 0 0 false [.mk k n e b kids]]) c l = (d3, k3, e3))) (hP : Cut.Blind Q)
    (hQ : ∀ (v101 v102 v103 v104 v105 v106 v107 v108 v109 v110 v111 v112 v113 v114 : Value) (wx : World), SS W (.mk k n e b kids, .slice A kids.length cp) c hv gt gc gs sv (.mk 6 0 0 false [.mk k n e b kids]) wx →  Q .normal ⟨#[u0, u1, .slice Al l.length nl, u3, u4, .pointer (some ⟨gt, 0, none⟩), .pointer (some ⟨gc, 0, none⟩), u7, u8, u9, u10, u11, .int .i64 M, .int .i64 N, u14, u15, u16, u17, u18, u19, .pointer (some ⟨gs, 0, none⟩), u21, u22, u23, .int .i64 d3, .bool k3, .int .i64 e3, u27, u28, u29, u30, u31, u32, u33, u34, u35, u36, u37, u38, u39, u40, u41, u42, u43, u44, u45, u46, u47, u48, u49, u50, u51, u52, u53, u54, u55, u56, u57, u58, u59, u60, u61, u62, u63, u64, u65, u66, u67, u68, u69, u70, u71, u72, u73, u74, u75, u76, u77, u78, u79, u80, u81, u82, u83, u84, u85, u86, u87, u88, u89, u90, u91, u92, u93, u94, u95, u96, u97, u98, u99, u100, v101, v102, v103, v104, v105, v106, v107, v108, v109, v110, v111, v112, v113, v114, u115, u116, u117, u118, u119, u120, u121, u122, u123, u124, u125, u126, u127, u128, u129, u130, u131, u132, u133, u134, u135, u136, u137, u138, u139, u140, u141, u142, u143, u144, u145, u146, u147, u148, u149, u150, u151, u152, u153, u154, u155, u156, u157, u158, u159, u160, u161, u162, u163, u164, u165, u166, u167, u168, u169, u170, u171, u172, u173, u174, u175, u176, u177, u178, u179, u180, u181, u182, u183, u184, u185, u186, u187], []⟩ wx) :
    Code.wp Tryd.prog C Q ⟨#[u0, u1, .slice Al l.length nl, u3, u4, .pointer (some ⟨gt, 0, none⟩), .pointer (some ⟨gc, 0, none⟩), u7, u8, u9, u10, u11, .int .i64 M, .int .i64 N, u14, u15, u16, u17, u18, u19, .pointer (some ⟨gs, 0, none⟩), u21, u22, u23, u24, u25, u26, u27, u28, u29, u30, u31, u32, u33, u34, u35, u36, u37, u38, u39, u40, u41, u42, u43, u44, u45, u46, u47, u48, u49, u50, u51, u52, u53, u54, u55, u56, u57, u58, u59, u60, u61, u62, u63, u64, u65, u66, u67, u68, u69, u70, u71, u72, u73, u74, u75, u76, u77, u78, u79, u80, u81, u82, u83, u84, u85, u86, u87, u88, u89, u90, u91, u92, u93, u94, u95, u96, u97, u98, u99, u100, u101, u102, u103, u104, u105, u106, u107, u108, u109, u110, u111, u112, u113, u114, u115, u116, u117, u118, u119, u120, u121, u122, u123, u124, u125, u126, u127, u128, u129, u130, u131, u132, u133, u134, u135, u136, u137, u138, u139, u140, u141, u142, u143, u144, u145, u146, u147, u148, u149, u150, u151, u152, u153, u154, u155, u156, u157, u158, u159, u160, u161, u162, u163, u164, u165, u166, u167, u168, u169, u170, u171, u172, u173, u174, u175, u176, u177, u178, u179, u180, u181, u182, u183, u184, u185, u186, u187], []⟩ X := by
  subst hC
  conv => arg 2; whnf
  have HWM := Lib.hid (show wf M by unfold wf; omega)
  have HWN := Lib.hid (show wf N by unfold wf; omega)
  have HWN1 := Lib.hid (show wf (N + 1) by unfold wf; omega)
  have HWS := Lib.hid (show wf (M + N) by unfold wf; omega)
  have HWS1 := Lib.hid (show wf (M + N + 1) by unfold wf; omega)
  have hwr1 : IntKind.i64.wrap (M + N) = M + N := Go.IntWalk.i64_in _ (by omega)
  have hwr2 : IntKind.i64.wrap (M + N + 1) = M + N + 1 := Go.IntWalk.i64_in _ (by omega)
  have hwr3 : IntKind.i64.wrap (N + 1) = N + 1 := Go.IntWalk.i64_in _ (by omega)
  refine Reg.G.start (by kernel_rfl) ?_
  obtain ⟨Xd, HXd⟩ : ∃ Y, Hid (X.drew = Y) := ⟨_, rfl⟩
  have HBXd : Hid (Below X.heap.size X Xd) := by rw [← HXd.out]; exact ⟨rfl, rfl, rfl, Nat.le_refl _, fun k hk => rfl⟩
  have HSd := Lib.hid (HS.out.keep HBXd.out)
  rw [HXd.out]
  clear HXd
  refine' Reg.G.pure (i := 0) (v := _) rfl (by rfl) (by kernel_rfl) (by kernel_rfl) (by kernel_rfl) (fun _ _ _ h => hP _ _ _ _ _ h) ?hys39 ?rehys39
  case hys39 => exact fun w => by first | (go_simp; done) | (go_simp; with_reducible rfl)
  simp only [Act.put, List.setIfInBounds_toArray, List.set_cons_zero, List.set_cons_succ]
  refine' Reg.G.pure (i := 1) (v := _) rfl (by rfl) (by kernel_rfl) (by kernel_rfl) (by kernel_rfl) (fun _ _ _ h => hP _ _ _ _ _ h) ?hys40 ?rehys40
  case hys40 => exact fun w => by first | (go_simp; done) | (go_simp; with_reducible rfl)
  simp only [Act.put, List.setIfInBounds_toArray, List.set_cons_zero, List.set_cons_succ]
  refine' Reg.G.pure (i := 2) (v := _) rfl (by rfl) (by kernel_rfl) (by kernel_rfl) (by kernel_rfl) (fun _ _ _ h => hP _ _ _ _ _ h) ?hys41 ?rehys41
  case hys41 => exact fun w => by first | (go_simp; done) | (go_simp; with_reducible rfl)
  simp only [Act.put, List.setIfInBounds_toArray, List.set_cons_zero, List.set_cons_succ]
  refine' Reg.G.pure (i := 3) (v := _) rfl (by rfl) (by kernel_rfl) (by kernel_rfl) (by kernel_rfl) (fun _ _ _ h => hP _ _ _ _ _ h) ?hys42 ?rehys42
  case hys42 => exact fun w => by first | (go_simp; done) | (go_simp; with_reducible rfl)
  simp only [Act.put, List.setIfInBounds_toArray, List.set_cons_zero, List.set_cons_succ]
  refine' Reg.G.take (i := 4) (v := _) (F := (fun w => Below Xd.heap.size Xd w)) rfl (by rfl) (by kernel_rfl) (by kernel_rfl) (by kernel_rfl) (fun _ _ _ h => hP _ _ _ _ _ h) (Below.refl Xd.heap.size Xd) ?hys43 ?rehys43
  case hys43 => intro w hw; obtain ⟨z0, z1, z2, z3, z4⟩ := (HSd.out.keep hw).s; clear hw; first | (go_simp; done) | (go_simp; with_reducible rfl)
  simp only [Act.put, List.setIfInBounds_toArray, List.set_cons_zero, List.set_cons_succ]
  refine' Reg.G.take (i := 7) (v := _) (F := (fun w => Below Xd.heap.size Xd w)) rfl (by rfl) (by kernel_rfl) (by kernel_rfl) (by kernel_rfl) (fun _ _ _ h => hP _ _ _ _ _ h) (Below.refl Xd.heap.size Xd) ?hys44 ?rehys44
  case hys44 => intro w hw; obtain ⟨⟨c0, c1, c2, c3⟩, c4, c5, c6, c7⟩ := (HSd.out.keep hw).ls.c; clear hw; first | (go_simp; done) | (go_simp; with_reducible rfl)
  simp only [Act.put, List.setIfInBounds_toArray, List.set_cons_zero, List.set_cons_succ]
  refine' Reg.G.pure (i := 8) (v := _) rfl (by rfl) (by kernel_rfl) (by kernel_rfl) (by kernel_rfl) (fun _ _ _ h => hP _ _ _ _ _ h) ?hys45 ?rehys45
  case hys45 => exact fun w => by first | (go_simp; done) | (go_simp; with_reducible rfl)
  simp only [Act.put, List.setIfInBounds_toArray, List.set_cons_zero, List.set_cons_succ]
  refine Reg.G.step (j := 5) (m := [true, false]) [7, 4] rfl (by kernel_rfl) rfl (by kernel_rfl) (fun K hK => ?_)
  go_simp
  obtain ⟨Y77, HY78⟩ : ∃ Y, Hid (Xd.alloc (.cells #[.int .i64 6, .int .i64 0, .int .i64 0, .bool false, sv] 31) = Y) := ⟨_, rfl⟩
  have HX80 : Hid (Below Xd.heap.size Xd Y77) := by rw [← HY78.out]; exact (Below.refl _ Xd).alloc (Nat.le_refl _) _
  have HK79 : Hid (Y77.heap[Xd.heap.size]? = some (.cells #[.int .i64 6, .int .i64 0, .int .i64 0, .bool false, sv] 31 (0, 0))) := by rw [← HY78.out]; exact blk_newn rfl
  rw [HY78.out]
  clear HY78
  have HB81 : Hid (Below Xd.heap.size Xd Y77) := (Below.refl Xd.heap.size Xd).trans (HX80.out.mono (Below.refl Xd.heap.size Xd).size)
  have HF82 := Lib.hid (tree_blk (W := Y77) [(.mk 6 0 0 false [.mk k n e b kids], sv)] (k := 4) (m := (M + N + 1)) (e := 0) (b := true) (n := 1) (cp := 1) HK79.out rfl rfl (by decide) (by decide) (by intro x hx; simp only [List.mem_cons, List.not_mem_nil, or_false] at hx; subst hx; exact (HSd.out.keep (HB81.out)).tr) HWS1.out (by unfold wf; decide))
  refine hK.out _ _ ⟨HB81.out, trivial⟩ ?_
  clear hK K
  simp only [Act.put, List.setIfInBounds_toArray, List.set_cons_zero, List.set_cons_succ, Reg.Kept]
  refine Reg.G.step (j := 6) (m := [true]) [7] rfl (by kernel_rfl) rfl (by kernel_rfl) (fun K hK => ?_)
  go_simp
  with_reducible refine (of_any 4 (M + N + 1) true (some ⟨Xd.heap.size, 0, none⟩) 1 1 Y77).mono ?_
  rintro e9 Z83 ⟨rfl, hb84⟩
  have HZ85 := Lib.hid hb84
  clear hb84
  have HB86 : Hid (Below Xd.heap.size Xd Z83) := (HB81.out).trans (HZ85.out.mono (HB81.out).size)
  have HF87 := Lib.hid (HF82.out.keep HZ85.out)
  refine hK.out _ _ ⟨HB86.out, trivial⟩ ?_
  clear hK K
  simp only [Act.put, List.setIfInBounds_toArray, List.set_cons_zero, List.set_cons_succ, Reg.Kept]
  refine Reg.G.step (j := 9) (m := [false]) [7] rfl (by kernel_rfl) rfl (by kernel_rfl) (fun K hK => ?_)
  go_simp
  refine (eval_at HG.out (HSd.out.keep (HB86.out)).ls.be (.mk 4 (M + N + 1) 0 true [.mk 6 0 0 false [.mk k n e b kids]], .slice (some ⟨Xd.heap.size, 0, none⟩) 1 1) HF87.out l _ (HEl.out.below (HSd.out.keep (HB86.out)).ls.be) (cs := #[.int .i64 4, .int .i64 (M + N + 1), .int .i64 0, .bool true, .slice (some ⟨Xd.heap.size, 0, none⟩) 1 1]) rfl HR.out).mono ?_
  rintro e9 Z88 ⟨rfl, hb89⟩
  have HZ90 := Lib.hid hb89
  clear hb89
  have HB91 : Hid (Below Xd.heap.size Xd Z88) := (HB86.out).trans (HZ90.out.mono (HB86.out).size)
  have HF92 := Lib.hid (HF87.out.keep HZ90.out)
  refine hK.out _ _ trivial ?_
  clear hK K
  simp only [Act.put, List.setIfInBounds_toArray, List.set_cons_zero, List.set_cons_succ, Reg.Kept]
  refine' Reg.G.pure (i := 10) (v := _) rfl (by rfl) (by kernel_rfl) (by kernel_rfl) (by kernel_rfl) (fun _ _ _ h => hP _ _ _ _ _ h) ?hys46 ?rehys46
  case hys46 => exact fun w => by first | (go_simp; done) | (go_simp; with_reducible rfl)
  simp only [Act.put, List.setIfInBounds_toArray, List.set_cons_zero, List.set_cons_succ]
  refine' Reg.G.pure (i := 11) (v := _) rfl (by rfl) (by kernel_rfl) (by kernel_rfl) (by kernel_rfl) (fun _ _ _ h => hP _ _ _ _ _ h) ?hys47 ?rehys47
  case hys47 => exact fun w => by first | (go_simp; done) | (go_simp; with_reducible rfl)
  simp only [Act.put, List.setIfInBounds_toArray, List.set_cons_zero, List.set_cons_succ]
  refine' Reg.G.pure (i := 12) (v := _) rfl (by rfl) (by kernel_rfl) (by kernel_rfl) (by kernel_rfl) (fun _ _ _ h => hP _ _ _ _ _ h) ?hys48 ?rehys48
  case hys48 => exact fun w => by first | (go_simp; done) | (go_simp; with_reducible rfl)
  simp only [Act.put, List.setIfInBounds_toArray, List.set_cons_zero, List.set_cons_succ]
  refine' Reg.G.pure (i := 13) (v := _) rfl (by rfl) (by kernel_rfl) (by kernel_rfl) (by kernel_rfl) (fun _ _ _ h => hP _ _ _ _ _ h) ?hys49 ?rehys49
  case hys49 => exact fun w => by first | (go_simp; done) | (go_simp; with_reducible rfl)
  simp only [Act.put, List.setIfInBounds_toArray, List.set_cons_zero, List.set_cons_succ]
  refine' Reg.G.pure (i := 14) (v := _) rfl (by rfl) (by kernel_rfl) (by kernel_rfl) (by kernel_rfl) (fun _ _ _ h => hP _ _ _ _ _ h) ?hys50 ?rehys50
  case hys50 => exact fun w => by first | (go_simp; done) | (go_simp; with_reducible rfl)
  simp only [Act.put, List.setIfInBounds_toArray, List.set_cons_zero, List.set_cons_succ]
  refine' Reg.G.pure (i := 15) (v := _) rfl (by rfl) (by kernel_rfl) (by kernel_rfl) (by kernel_rfl) (fun _ _ _ h => hP _ _ _ _ _ h) ?hys51 ?rehys51
  case hys51 => exact fun w => by first | (go_simp; done) | (go_simp; with_reducible rfl)
  simp only [Act.put, List.setIfInBounds_toArray, List.set_cons_zero, List.set_cons_succ]
  refine' Reg.G.pure (i := 16) (v := _) rfl (by rfl) (by kernel_rfl) (by kernel_rfl) (by kernel_rfl) (fun _ _ _ h => hP _ _ _ _ _ h) ?hys52 ?rehys52
  case hys52 => exact fun w => by first | (go_simp; done) | (go_simp; with_reducible rfl)
  simp only [Act.put, List.setIfInBounds_toArray, List.set_cons_zero, List.set_cons_succ]
  refine Reg.G.done (by kernel_rfl) ?_
  exact hQ _ _ _ _ _ _ _ _ _ _ _ _ _ _ _ (HSd.out.keep (HB91.out))
set_option maxRecDepth 100000 in
set_option maxHeartbeats 16000000 in
theorem sums_r15 {W X : World} {k n e : Int} {b : Bool} {kids : List Term} {A : Option Addr} {cp : Nat} {c : Cal} {hv : Value} {l : List When} {Al : Option Addr} {nl : Nat} {gt gc : Nat} {M N : Int} {d3 : Int} {k3 : Bool} {e3 : Int} {gs : Nat} {sv : Value} {u0 u1 u3 u4 u7 u8 u9 u10 u11 u14 u15 u16 u17 u18 u19 u21 u22 u23 u24 u25 u26 u27 u28 u29 u30 u31 u32 u33 u34 u35 u36 u37 u38 u39 u40 u41 u42 u43 u44 u45 u46 u47 u48 u49 u50 u51 u52 u53 u54 u55 u56 u57 u58 u59 u60 u61 u62 u63 u64 u65 u66 u67 u68 u69 u70 u71 u72 u73 u74 u75 u76 u77 u78 u79 u80 u81 u82 u83 u84 u85 u86 u87 u88 u89 u90 u91 u92 u93 u94 u95 u96 u97 u98 u99 u100 u101 u102 u103 u104 u105 u106 u107 u108 u109 u110 u111 u112 u113 u114 u115 u116 u117 u118 u119 u120 u121 u122 u123 u124 u125 u126 u127 u128 u129 u130 u131 u132 u133 u134 u135 u136 u137 u138 u139 u140 u141 u142 u143 u144 u145 u146 u147 u148 u149 u150 u151 u152 u153 u154 u155 u156 u157 u158 u159 u160 u161 u162 u163 u164 u165 u166 u167 u168 u169 u170 u171 u172 u173 u174 u175 u176 u177 u178 u179 u180 u181 u182 u183 u184 u185 u186 u187 : Value} {Q : Exit → Act → World → Prop} {C : Code} (hC : C = Cut.region Tryd.f12 15) (HG : Hid (GV W c hv)) (HT : Hid (Tree W (.mk k n e b kids) (.slice A kids.length cp))) (HEl : Hid (EvsAt W l (.slice Al l.length nl))) (HS : Hid (SS W (.mk k n e b kids, .slice A kids.length cp) c hv gt gc gs sv (.mk 6 0 0 false [.mk k n e b kids]) X)) (hM0 : 0 ≤ M) (hM1 : M ≤ 500) (hN0 : 0 ≤ N) (hN1 : N ≤ 500) (HR : Hid (eval (.mk 4 0 0 true [.mk k n e b kids]) c l = (d3, k3, e3))) (hP : Cut.Blind Q)
    (hQ : ∀ (v115 v116 v117 v118 v119 v120 v121 v122 v123 v124 : Value) (wx : World), SS W (.mk k n e b kids, .slice A kids.length cp) c hv gt gc gs sv (.mk 6 0 0 false [.mk k n e b kids]) wx →  Q .normal ⟨#[u0, u1, .slice Al l.length nl, u3, u4, .pointer (some ⟨gt, 0, none⟩), .pointer (some ⟨gc, 0, none⟩), u7, u8, u9, u10, u11, .int .i64 M, .int .i64 N, u14, u15, u16, u17, u18, u19, .pointer (some ⟨gs, 0, none⟩), u21, u22, u23, u24, u25, u26, .int .i64 d3, .bool k3, .int .i64 e3, u30, u31, u32, u33, u34, u35, u36, u37, u38, u39, u40, u41, u42, u43, u44, u45, u46, u47, u48, u49, u50, u51, u52, u53, u54, u55, u56, u57, u58, u59, u60, u61, u62, u63, u64, u65, u66, u67, u68, u69, u70, u71, u72, u73, u74, u75, u76, u77, u78, u79, u80, u81, u82, u83, u84, u85, u86, u87, u88, u89, u90, u91, u92, u93, u94, u95, u96, u97, u98, u99, u100, u101, u102, u103, u104, u105, u106, u107, u108, u109, u110, u111, u112, u113, u114, v115, v116, v117, v118, v119, v120, v121, v122, v123, v124, u125, u126, u127, u128, u129, u130, u131, u132, u133, u134, u135, u136, u137, u138, u139, u140, u141, u142, u143, u144, u145, u146, u147, u148, u149, u150, u151, u152, u153, u154, u155, u156, u157, u158, u159, u160, u161, u162, u163, u164, u165, u166, u167, u168, u169, u170, u171, u172, u173, u174, u175, u176, u177, u178, u179, u180, u181, u182, u183, u184, u185, u186, u187], []⟩ wx) :
    Code.wp Tryd.prog C Q ⟨#[u0, u1, .slice Al l.length nl, u3, u4, .pointer (some ⟨gt, 0, none⟩), .pointer (some ⟨gc, 0, none⟩), u7, u8, u9, u10, u11, .int .i64 M, .int .i64 N, u14, u15, u16, u17, u18, u19, .pointer (some ⟨gs, 0, none⟩), u21, u22, u23, u24, u25, u26, u27, u28, u29, u30, u31, u32, u33, u34, u35, u36, u37, u38, u39, u40, u41, u42, u43, u44, u45, u46, u47, u48, u49, u50, u51, u52, u53, u54, u55, u56, u57, u58, u59, u60, u61, u62, u63, u64, u65, u66, u67, u68, u69, u70, u71, u72, u73, u74, u75, u76, u77, u78, u79, u80, u81, u82, u83, u84, u85, u86, u87, u88, u89, u90, u91, u92, u93, u94, u95, u96, u97, u98, u99, u100, u101, u102, u103, u104, u105, u106, u107, u108, u109, u110, u111, u112, u113, u114, u115, u116, u117, u118, u119, u120, u121, u122, u123, u124, u125, u126, u127, u128, u129, u130, u131, u132, u133, u134, u135, u136, u137, u138, u139, u140, u141, u142, u143, u144, u145, u146, u147, u148, u149, u150, u151, u152, u153, u154, u155, u156, u157, u158, u159, u160, u161, u162, u163, u164, u165, u166, u167, u168, u169, u170, u171, u172, u173, u174, u175, u176, u177, u178, u179, u180, u181, u182, u183, u184, u185, u186, u187], []⟩ X := by
  subst hC
  conv => arg 2; whnf
  have HWM := Lib.hid (show wf M by unfold wf; omega)
  have HWN := Lib.hid (show wf N by unfold wf; omega)
  have HWN1 := Lib.hid (show wf (N + 1) by unfold wf; omega)
  have HWS := Lib.hid (show wf (M + N) by unfold wf; omega)
  have HWS1 := Lib.hid (show wf (M + N + 1) by unfold wf; omega)
  have hwr1 : IntKind.i64.wrap (M + N) = M + N := Go.IntWalk.i64_in _ (by omega)
  have hwr2 : IntKind.i64.wrap (M + N + 1) = M + N + 1 := Go.IntWalk.i64_in _ (by omega)
  have hwr3 : IntKind.i64.wrap (N + 1) = N + 1 := Go.IntWalk.i64_in _ (by omega)
  refine Reg.G.start (by kernel_rfl) ?_
  obtain ⟨Xd, HXd⟩ : ∃ Y, Hid (X.drew = Y) := ⟨_, rfl⟩
  have HBXd : Hid (Below X.heap.size X Xd) := by rw [← HXd.out]; exact ⟨rfl, rfl, rfl, Nat.le_refl _, fun k hk => rfl⟩
  have HSd := Lib.hid (HS.out.keep HBXd.out)
  rw [HXd.out]
  clear HXd
  refine' Reg.G.take (i := 0) (v := _) (F := (fun w => Below Xd.heap.size Xd w)) rfl (by rfl) (by kernel_rfl) (by kernel_rfl) (by kernel_rfl) (fun _ _ _ h => hP _ _ _ _ _ h) (Below.refl Xd.heap.size Xd) ?hyt53 ?rehyt53
  case hyt53 => intro w hw; obtain ⟨t0, t1, t2, t3, t4⟩ := (HSd.out.keep hw).ls.t; clear hw; first | (go_simp; done) | (go_simp; with_reducible rfl)
  simp only [Act.put, List.setIfInBounds_toArray, List.set_cons_zero, List.set_cons_succ]
  refine' Reg.G.take (i := 3) (v := _) (F := (fun w => Below Xd.heap.size Xd w)) rfl (by rfl) (by kernel_rfl) (by kernel_rfl) (by kernel_rfl) (fun _ _ _ h => hP _ _ _ _ _ h) (Below.refl Xd.heap.size Xd) ?hyt54 ?rehyt54
  case hyt54 => intro w hw; obtain ⟨⟨c0, c1, c2, c3⟩, c4, c5, c6, c7⟩ := (HSd.out.keep hw).ls.c; clear hw; first | (go_simp; done) | (go_simp; with_reducible rfl)
  simp only [Act.put, List.setIfInBounds_toArray, List.set_cons_zero, List.set_cons_succ]
  refine' Reg.G.pure (i := 4) (v := _) rfl (by rfl) (by kernel_rfl) (by kernel_rfl) (by kernel_rfl) (fun _ _ _ h => hP _ _ _ _ _ h) ?hyt55 ?rehyt55
  case hyt55 => exact fun w => by first | (go_simp; done) | (go_simp; with_reducible rfl)
  simp only [Act.put, List.setIfInBounds_toArray, List.set_cons_zero, List.set_cons_succ]
  refine Reg.G.step (j := 1) (m := [true, false]) [3, 0] rfl (by kernel_rfl) rfl (by kernel_rfl) (fun K hK => ?_)
  go_simp
  obtain ⟨Y93, HY94⟩ : ∃ Y, Hid (Xd.alloc (.cells #[.int .i64 k, .int .i64 n, .int .i64 e, .bool b, .slice A kids.length cp] 31) = Y) := ⟨_, rfl⟩
  have HX96 : Hid (Below Xd.heap.size Xd Y93) := by rw [← HY94.out]; exact (Below.refl _ Xd).alloc (Nat.le_refl _) _
  have HK95 : Hid (Y93.heap[Xd.heap.size]? = some (.cells #[.int .i64 k, .int .i64 n, .int .i64 e, .bool b, .slice A kids.length cp] 31 (0, 0))) := by rw [← HY94.out]; exact blk_newn rfl
  rw [HY94.out]
  clear HY94
  have HB97 : Hid (Below Xd.heap.size Xd Y93) := (Below.refl Xd.heap.size Xd).trans (HX96.out.mono (Below.refl Xd.heap.size Xd).size)
  have HF98 := Lib.hid (tree_blk (W := Y93) [(.mk k n e b kids, .slice A kids.length cp)] (k := 4) (m := 0) (e := 0) (b := true) (n := 1) (cp := 1) HK95.out rfl rfl (by decide) (by decide) (by intro x hx; simp only [List.mem_cons, List.not_mem_nil, or_false] at hx; subst hx; exact HT.out.keep (HSd.out.keep (HB97.out)).ls.be) (by unfold wf; decide) (by unfold wf; decide))
  refine hK.out _ _ ⟨HB97.out, trivial⟩ ?_
  clear hK K
  simp only [Act.put, List.setIfInBounds_toArray, List.set_cons_zero, List.set_cons_succ, Reg.Kept]
  refine Reg.G.step (j := 2) (m := [true]) [3] rfl (by kernel_rfl) rfl (by kernel_rfl) (fun K hK => ?_)
  go_simp
  with_reducible refine (of_any 4 0 true (some ⟨Xd.heap.size, 0, none⟩) 1 1 Y93).mono ?_
  rintro e9 Z99 ⟨rfl, hb100⟩
  have HZ101 := Lib.hid hb100
  clear hb100
  have HB102 : Hid (Below Xd.heap.size Xd Z99) := (HB97.out).trans (HZ101.out.mono (HB97.out).size)
  have HF103 := Lib.hid (HF98.out.keep HZ101.out)
  refine hK.out _ _ ⟨HB102.out, trivial⟩ ?_
  clear hK K
  simp only [Act.put, List.setIfInBounds_toArray, List.set_cons_zero, List.set_cons_succ, Reg.Kept]
  refine Reg.G.step (j := 5) (m := [false]) [3] rfl (by kernel_rfl) rfl (by kernel_rfl) (fun K hK => ?_)
  go_simp
  refine (eval_at HG.out (HSd.out.keep (HB102.out)).ls.be (.mk 4 0 0 true [.mk k n e b kids], .slice (some ⟨Xd.heap.size, 0, none⟩) 1 1) HF103.out l _ (HEl.out.below (HSd.out.keep (HB102.out)).ls.be) (cs := #[.int .i64 4, .int .i64 0, .int .i64 0, .bool true, .slice (some ⟨Xd.heap.size, 0, none⟩) 1 1]) rfl HR.out).mono ?_
  rintro e9 Z104 ⟨rfl, hb105⟩
  have HZ106 := Lib.hid hb105
  clear hb105
  have HB107 : Hid (Below Xd.heap.size Xd Z104) := (HB102.out).trans (HZ106.out.mono (HB102.out).size)
  have HF108 := Lib.hid (HF103.out.keep HZ106.out)
  refine hK.out _ _ trivial ?_
  clear hK K
  simp only [Act.put, List.setIfInBounds_toArray, List.set_cons_zero, List.set_cons_succ, Reg.Kept]
  refine' Reg.G.pure (i := 6) (v := _) rfl (by rfl) (by kernel_rfl) (by kernel_rfl) (by kernel_rfl) (fun _ _ _ h => hP _ _ _ _ _ h) ?hyt56 ?rehyt56
  case hyt56 => exact fun w => by first | (go_simp; done) | (go_simp; with_reducible rfl)
  simp only [Act.put, List.setIfInBounds_toArray, List.set_cons_zero, List.set_cons_succ]
  refine' Reg.G.pure (i := 7) (v := _) rfl (by rfl) (by kernel_rfl) (by kernel_rfl) (by kernel_rfl) (fun _ _ _ h => hP _ _ _ _ _ h) ?hyt57 ?rehyt57
  case hyt57 => exact fun w => by first | (go_simp; done) | (go_simp; with_reducible rfl)
  simp only [Act.put, List.setIfInBounds_toArray, List.set_cons_zero, List.set_cons_succ]
  refine' Reg.G.pure (i := 8) (v := _) rfl (by rfl) (by kernel_rfl) (by kernel_rfl) (by kernel_rfl) (fun _ _ _ h => hP _ _ _ _ _ h) ?hyt58 ?rehyt58
  case hyt58 => exact fun w => by first | (go_simp; done) | (go_simp; with_reducible rfl)
  simp only [Act.put, List.setIfInBounds_toArray, List.set_cons_zero, List.set_cons_succ]
  refine' Reg.G.pure (i := 9) (v := _) rfl (by rfl) (by kernel_rfl) (by kernel_rfl) (by kernel_rfl) (fun _ _ _ h => hP _ _ _ _ _ h) ?hyt59 ?rehyt59
  case hyt59 => exact fun w => by first | (go_simp; done) | (go_simp; with_reducible rfl)
  simp only [Act.put, List.setIfInBounds_toArray, List.set_cons_zero, List.set_cons_succ]
  refine' Reg.G.pure (i := 10) (v := _) rfl (by rfl) (by kernel_rfl) (by kernel_rfl) (by kernel_rfl) (fun _ _ _ h => hP _ _ _ _ _ h) ?hyt60 ?rehyt60
  case hyt60 => exact fun w => by first | (go_simp; done) | (go_simp; with_reducible rfl)
  simp only [Act.put, List.setIfInBounds_toArray, List.set_cons_zero, List.set_cons_succ]
  refine' Reg.G.pure (i := 11) (v := _) rfl (by rfl) (by kernel_rfl) (by kernel_rfl) (by kernel_rfl) (fun _ _ _ h => hP _ _ _ _ _ h) ?hyt61 ?rehyt61
  case hyt61 => exact fun w => by first | (go_simp; done) | (go_simp; with_reducible rfl)
  simp only [Act.put, List.setIfInBounds_toArray, List.set_cons_zero, List.set_cons_succ]
  refine' Reg.G.pure (i := 12) (v := _) rfl (by rfl) (by kernel_rfl) (by kernel_rfl) (by kernel_rfl) (fun _ _ _ h => hP _ _ _ _ _ h) ?hyt62 ?rehyt62
  case hyt62 => exact fun w => by first | (go_simp; done) | (go_simp; with_reducible rfl)
  simp only [Act.put, List.setIfInBounds_toArray, List.set_cons_zero, List.set_cons_succ]
  refine Reg.G.done (by kernel_rfl) ?_
  exact hQ _ _ _ _ _ _ _ _ _ _ _ (HSd.out.keep (HB107.out))
set_option maxRecDepth 100000 in
set_option maxHeartbeats 16000000 in
theorem sums_r17 {X : World} {M N d3 e3 d4 e4 d5 e5 : Int} {u0 u1 u2 u3 u4 u5 u6 u7 u8 u9 u10 u11 u14 u15 u16 u17 u18 u19 u20 u22 u25 u28 u31 u33 u34 u35 u36 u37 u38 u39 u40 u41 u42 u43 u44 u45 u46 u47 u48 u49 u50 u51 u52 u53 u54 u55 u56 u57 u58 u59 u60 u61 u62 u63 u64 u65 u66 u67 u68 u69 u70 u71 u72 u73 u74 u75 u76 u77 u78 u79 u80 u81 u82 u83 u84 u85 u86 u87 u88 u89 u90 u91 u92 u93 u94 u95 u96 u97 u98 u99 u100 u101 u102 u103 u104 u105 u106 u107 u108 u109 u110 u111 u112 u113 u114 u115 u116 u117 u118 u119 u120 u121 u122 u123 u124 u125 u126 u127 u128 u129 u130 u131 u132 u133 u134 u135 u136 u137 u138 u139 u140 u141 u142 u143 u144 u145 u146 u147 u148 u149 u150 u151 u152 u153 u154 u155 u156 u157 u158 u159 u160 u161 u162 u163 u164 u165 u166 u167 u168 u169 u170 u171 u172 u173 u174 u175 u176 u177 u178 u179 u180 u181 u182 u183 u184 u185 u186 u187 : Value} {Q : Exit → Act → World → Prop} {C : Code} (hC : C = Cut.region Tryd.f12 17) (hM0 : 0 ≤ M) (hM1 : M ≤ 500) (hN0 : 0 ≤ N) (hN1 : N ≤ 500) (HL3 : Hid (e3 ≠ 1 → M + N < 1000 → e3 = e4 ∧ d3 = d4))
    (hQ : ∀ (v133 v134 v135 v136 v137 v138 v139 v140 v141 v142 v143 v144 v145 v146 v147 v148 v149 v150 v151 v152 v153 v154 v155 v156 v157 v158 v159 : Value) (wx : World), wx = X → Q .normal ⟨#[u0, u1, u2, u3, u4, u5, u6, u7, u8, u9, u10, u11, .int .i64 M, .int .i64 N, u14, u15, u16, u17, u18, u19, u20, .int .i64 d3, u22, .int .i64 e3, .int .i64 d4, u25, .int .i64 e4, .int .i64 d5, u28, .int .i64 e5, .int .i64 d5, u31, .int .i64 e5, u33, u34, u35, u36, u37, u38, u39, u40, u41, u42, u43, u44, u45, u46, u47, u48, u49, u50, u51, u52, u53, u54, u55, u56, u57, u58, u59, u60, u61, u62, u63, u64, u65, u66, u67, u68, u69, u70, u71, u72, u73, u74, u75, u76, u77, u78, u79, u80, u81, u82, u83, u84, u85, u86, u87, u88, u89, u90, u91, u92, u93, u94, u95, u96, u97, u98, u99, u100, u101, u102, u103, u104, u105, u106, u107, u108, u109, u110, u111, u112, u113, u114, u115, u116, u117, u118, u119, u120, u121, u122, u123, u124, u125, u126, u127, u128, u129, u130, u131, u132, v133, v134, v135, v136, v137, v138, v139, v140, v141, v142, v143, v144, v145, v146, v147, v148, v149, v150, v151, v152, v153, v154, v155, v156, v157, v158, v159, .bool false, u161, u162, u163, u164, u165, u166, u167, u168, u169, u170, u171, u172, u173, u174, u175, u176, u177, u178, u179, u180, u181, u182, u183, u184, u185, u186, u187], []⟩ wx) :
    Code.wp Tryd.prog C Q ⟨#[u0, u1, u2, u3, u4, u5, u6, u7, u8, u9, u10, u11, .int .i64 M, .int .i64 N, u14, u15, u16, u17, u18, u19, u20, .int .i64 d3, u22, .int .i64 e3, .int .i64 d4, u25, .int .i64 e4, .int .i64 d5, u28, .int .i64 e5, .int .i64 d5, u31, .int .i64 e5, u33, u34, u35, u36, u37, u38, u39, u40, u41, u42, u43, u44, u45, u46, u47, u48, u49, u50, u51, u52, u53, u54, u55, u56, u57, u58, u59, u60, u61, u62, u63, u64, u65, u66, u67, u68, u69, u70, u71, u72, u73, u74, u75, u76, u77, u78, u79, u80, u81, u82, u83, u84, u85, u86, u87, u88, u89, u90, u91, u92, u93, u94, u95, u96, u97, u98, u99, u100, u101, u102, u103, u104, u105, u106, u107, u108, u109, u110, u111, u112, u113, u114, u115, u116, u117, u118, u119, u120, u121, u122, u123, u124, u125, u126, u127, u128, u129, u130, u131, u132, u133, u134, u135, u136, u137, u138, u139, u140, u141, u142, u143, u144, u145, u146, u147, u148, u149, u150, u151, u152, u153, u154, u155, u156, u157, u158, u159, u160, u161, u162, u163, u164, u165, u166, u167, u168, u169, u170, u171, u172, u173, u174, u175, u176, u177, u178, u179, u180, u181, u182, u183, u184, u185, u186, u187], []⟩ X := by
  subst hC
  conv => arg 2; whnf
  by_cases h31 : e3 = 1
  · subst h31
    clear HL3
    go_wp2_with fail
    exact rfl
  · have h31b : (e3 != 1) = true := by simpa using h31
    by_cases hlt : M + N < 1000
    · obtain ⟨rfl, rfl⟩ := HL3.out h31 hlt
      clear HL3
      go_wp2_with fail
      exact rfl
    · clear HL3
      go_wp2_with fail
      exact rfl
set_option maxRecDepth 100000 in
set_option maxHeartbeats 16000000 in
theorem sums_r19 {W X : World} {k n e : Int} {b : Bool} {kids : List Term} {A : Option Addr} {cp : Nat} {c : Cal} {hv : Value} {gt gc gs : Nat} {sv : Value} {d5 e5 e1 : Int} {k5 k1 : Bool} {u0 u1 u2 u3 u4 u5 u7 u8 u9 u10 u12 u13 u14 u17 u18 u19 u20 u21 u22 u23 u24 u25 u26 u30 u31 u32 u33 u34 u35 u36 u37 u38 u39 u40 u41 u42 u43 u44 u45 u46 u47 u48 u49 u50 u51 u52 u53 u54 u55 u56 u57 u58 u59 u60 u61 u62 u63 u64 u65 u66 u67 u68 u69 u70 u71 u72 u73 u74 u75 u76 u77 u78 u79 u80 u81 u82 u83 u84 u85 u86 u87 u88 u89 u90 u91 u92 u93 u94 u95 u96 u97 u98 u99 u100 u101 u102 u103 u104 u105 u106 u107 u108 u109 u110 u111 u112 u113 u114 u115 u116 u117 u118 u119 u120 u121 u122 u123 u124 u125 u126 u127 u128 u129 u130 u131 u132 u133 u134 u135 u136 u137 u138 u139 u140 u141 u142 u143 u144 u145 u146 u147 u148 u149 u150 u151 u152 u153 u154 u155 u156 u157 u158 u159 u160 u161 u162 u163 u164 u165 u166 u167 u168 u169 u170 u171 u172 u173 u174 u175 u176 u177 u178 u179 u180 u181 u182 u183 u184 u185 u186 u187 : Value} {Q : Exit → Act → World → Prop} {C : Code} (hC : C = Cut.region Tryd.f12 19) (HG : Hid (GV W c hv)) (HS : Hid (SS W (.mk k n e b kids, .slice A kids.length cp) c hv gt gc gs sv (.mk 6 0 0 false [.mk k n e b kids]) X)) (HL4 : Hid (e5 = 0 → e1 = 0 → k5 = k1)) (HL5 : Hid (e5 = 0 → k5 = true → c.ok = true ∧ isDay d5 = true ∧ biz c d5 = true))
    (hQ : ∀ (v161 v162 v163 v164 v165 v166 v167 v168 v169 v170 v171 v172 v173 v174 v175 v176 v177 v178 v179 v180 v181 v182 v183 v184 v185 v186 v187 : Value) (wx : World), Below W.heap.size W wx → Q .normal ⟨#[u0, u1, u2, u3, u4, u5, .pointer (some ⟨gc, 0, none⟩), u7, u8, u9, .bool true, .bool true, u12, u13, u14, .bool k1, .int .i64 e1, u17, u18, u19, u20, u21, u22, u23, u24, u25, u26, .int .i64 d5, .bool k5, .int .i64 e5, u30, u31, u32, u33, u34, u35, u36, u37, u38, u39, u40, u41, u42, u43, u44, u45, u46, u47, u48, u49, u50, u51, u52, u53, u54, u55, u56, u57, u58, u59, u60, u61, u62, u63, u64, u65, u66, u67, u68, u69, u70, u71, u72, u73, u74, u75, u76, u77, u78, u79, u80, u81, u82, u83, u84, u85, u86, u87, u88, u89, u90, u91, u92, u93, u94, u95, u96, u97, u98, u99, u100, u101, u102, u103, u104, u105, u106, u107, u108, u109, u110, u111, u112, u113, u114, u115, u116, u117, u118, u119, u120, u121, u122, u123, u124, u125, u126, u127, u128, u129, u130, u131, u132, u133, u134, u135, u136, u137, u138, u139, u140, u141, u142, u143, u144, u145, u146, u147, u148, u149, u150, u151, u152, u153, u154, u155, u156, u157, u158, u159, u160, v161, v162, v163, v164, v165, v166, v167, v168, v169, v170, v171, v172, v173, v174, v175, v176, v177, v178, v179, v180, v181, v182, v183, v184, v185, v186, v187], []⟩ wx) :
    Code.wp Tryd.prog C Q ⟨#[u0, u1, u2, u3, u4, u5, .pointer (some ⟨gc, 0, none⟩), u7, u8, u9, u10, .bool true, u12, u13, u14, .bool k1, .int .i64 e1, u17, u18, u19, u20, u21, u22, u23, u24, u25, u26, .int .i64 d5, .bool k5, .int .i64 e5, u30, u31, u32, u33, u34, u35, u36, u37, u38, u39, u40, u41, u42, u43, u44, u45, u46, u47, u48, u49, u50, u51, u52, u53, u54, u55, u56, u57, u58, u59, u60, u61, u62, u63, u64, u65, u66, u67, u68, u69, u70, u71, u72, u73, u74, u75, u76, u77, u78, u79, u80, u81, u82, u83, u84, u85, u86, u87, u88, u89, u90, u91, u92, u93, u94, u95, u96, u97, u98, u99, u100, u101, u102, u103, u104, u105, u106, u107, u108, u109, u110, u111, u112, u113, u114, u115, u116, u117, u118, u119, u120, u121, u122, u123, u124, u125, u126, u127, u128, u129, u130, u131, u132, u133, u134, u135, u136, u137, u138, u139, u140, u141, u142, u143, u144, u145, u146, u147, u148, u149, u150, u151, u152, u153, u154, u155, u156, u157, u158, u159, u160, u161, u162, u163, u164, u165, u166, u167, u168, u169, u170, u171, u172, u173, u174, u175, u176, u177, u178, u179, u180, u181, u182, u183, u184, u185, u186, u187], []⟩ X := by
  subst hC
  conv => arg 2; whnf
  by_cases h5 : e5 = 0
  case neg =>
    have hb5 : (e5 != 0) = true := by simpa using h5
    clear HL4 HL5
    go_wp2_with fail
    exact HS.out.ls.be
  subst h5
  by_cases h1 : e1 = 0
  case neg =>
    have hb1 : (e1 != 0) = true := by simpa using h1
    clear HL4
    have HL4 : Hid True := trivial
    cases k5
    · cases k1
      · clear HL5
        go_wp2_with fail
        exact HS.out.ls.be
      · clear HL5
        go_wp2_with fail
        exact HS.out.ls.be
    · cases k1
      · skip
        obtain ⟨hok, hday, hbiz⟩ := HL5.out rfl rfl
        obtain ⟨hd0, hd1⟩ := (isDay_iff _).1 hday
        have HBZ := Lib.hid (business_any c hv d5 X (HG.out.c.below HS.out.ls.be) hok hd0 hd1)
        rw [hbiz] at HBZ
        obtain ⟨⟨c0, c1, c2, c3⟩, c4, c5, c6, c7⟩ := HS.out.ls.c
        clear HL5 HL4 hok hday hbiz hd0 hd1
        go_wp2_with fail
        refine HBZ.out.mono ?_
        rintro e9 w9 ⟨rfl, hb⟩
        have HS9 := Lib.hid (HS.out.keep hb)
        clear hb HBZ c0 c1 c2 c3 c4 c5 c6 c7
        go_wp2_with fail
        exact HS9.out.ls.be
      · skip
        obtain ⟨hok, hday, hbiz⟩ := HL5.out rfl rfl
        obtain ⟨hd0, hd1⟩ := (isDay_iff _).1 hday
        have HBZ := Lib.hid (business_any c hv d5 X (HG.out.c.below HS.out.ls.be) hok hd0 hd1)
        rw [hbiz] at HBZ
        obtain ⟨⟨c0, c1, c2, c3⟩, c4, c5, c6, c7⟩ := HS.out.ls.c
        clear HL5 HL4 hok hday hbiz hd0 hd1
        go_wp2_with fail
        refine HBZ.out.mono ?_
        rintro e9 w9 ⟨rfl, hb⟩
        have HS9 := Lib.hid (HS.out.keep hb)
        clear hb HBZ c0 c1 c2 c3 c4 c5 c6 c7
        go_wp2_with fail
        exact HS9.out.ls.be
  subst h1
  obtain rfl := HL4.out rfl rfl
  clear HL4
  have HL4 : Hid True := trivial
  cases k5
  · clear HL5
    go_wp2_with fail
    exact HS.out.ls.be
  · skip
    obtain ⟨hok, hday, hbiz⟩ := HL5.out rfl rfl
    obtain ⟨hd0, hd1⟩ := (isDay_iff _).1 hday
    have HBZ := Lib.hid (business_any c hv d5 X (HG.out.c.below HS.out.ls.be) hok hd0 hd1)
    rw [hbiz] at HBZ
    obtain ⟨⟨c0, c1, c2, c3⟩, c4, c5, c6, c7⟩ := HS.out.ls.c
    clear HL5 HL4 hok hday hbiz hd0 hd1
    go_wp2_with fail
    refine HBZ.out.mono ?_
    rintro e9 w9 ⟨rfl, hb⟩
    have HS9 := Lib.hid (HS.out.keep hb)
    clear hb HBZ c0 c1 c2 c3 c4 c5 c6 c7
    go_wp2_with fail
    exact HS9.out.ls.be
end Go.Proofs.YticlmkfifpkdpaaDoor.Dl
