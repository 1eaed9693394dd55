/-
  The regions of the law's head that draw their order.
-/
import Derived.Test.YticlmkfifpkdpaaDoorDlOn
import Derived.Test.YticlmkfifpkdpaaDoorDlBounds
import Derived.Test.YticlmkfifpkdpaaDoorReg2
import Derived.Test.YticlmkfifpkdpaaDoorCut
import Derived.Deep.DeepCutAuto
import Derived.Deep.QuietTactic
namespace Go.Proofs.YticlmkfifpkdpaaDoor.Dl
open Go.RowKit Mem Vw
set_option linter.unusedVariables false
set_option linter.unusedSimpArgs false
/-- What head holds: its calendar, its event term, its list. -/
structure HD (W : World) (b1 b3 gL : Nat) (X : World) : Prop where
  be : Below W.heap.size W X
  cal : X.heap[b1]? = some (.cells #[.bool false, .bool false, .bool false, .bool false, .bool false, .bool true, .bool true, .slice none 0 0] 28 (0, 0))
  ev : X.heap[b3]? = some (.cells #[.int .i64 2, .int .i64 0, .int .i64 0, .bool false, .slice none 0 0] 31 (0, 0))
  l : X.heap[gL]? = some (.cells #[.bool true, .int .i64 3, .int .i64 1000] 67 (0, 0))
theorem HD.keep {W : World} {b1 b3 gL : Nat} {X X' : World} (h : HD W b1 b3 gL X) (hb : Below X.heap.size X X') : HD W b1 b3 gL X' :=
  ⟨h.be.trans (hb.mono h.be.size), (hb.block _ (lt_of_blk h.cal)).trans h.cal, (hb.block _ (lt_of_blk h.ev)).trans h.ev, (hb.block _ (lt_of_blk h.l)).trans h.l⟩
theorem HD.evs {W : World} {b1 b3 gL : Nat} {X : World} (h : HD W b1 b3 gL X) : EvsAt X L0 (.slice (some ⟨gL, 0, none⟩) 1 1) :=
  evs_blk L0 h.l rfl rfl (Nat.le_refl _) (by decide) (fun w hw => by simp [L0] at hw; subst hw; unfold wf; decide)
theorem bf_keep {W X : World} (h : Bf W) (hb : Below W.heap.size W X) : Bf X := h.fr (Fr.of_below hb) (fun k hk => Nat.lt_of_lt_of_le h.1 hk)
/-- Eval on head's calendar. -/
theorem eval_c0 (t : Term) (tv : Value) (l : List When) (ev : Value) (X : World) (r1 : Int) (r2 : Bool) (r3 : Int) (hr : eval t C0 l = (r1, r2, r3)) (hT : Tree X t tv) (hE : EvsAt X l ev) (hbf : Bf X) {cs : Array Value} (hcs : (tc (t, tv)).toArray = cs) :
    Calls Tryd.prog 17 #[.agg cs, .agg #[.bool false, .bool false, .bool false, .bool false, .bool false, .bool true, .bool true, .slice none 0 0], ev] X fun e w' => e = .returned (.tuple #[.int .i64 r1, .bool r2, .int .i64 r3]) ∧ Below X.heap.size X w' := by
  subst hcs
  have h := eval_any t tv C0 (.slice none 0 0) l ev X hT (cal0 X) hE hbf
  rw [hr] at h
  exact h
theorem bounds_c0 (t : Term) (tv : Value) (l m : List When) (lv mv : Value) (X : World) (r1 r2 : Int) (r3 : Bool) (r4 : Int) (hr : bounds t C0 l m = (r1, r2, r3, r4)) (hT : Tree X t tv) (hL : EvsAt X l lv) (hM : EvsAt X m mv) (hbf : Bf X) {cs : Array Value} (hcs : (tc (t, tv)).toArray = cs) :
    Calls Tryd.prog 28 #[.agg cs, .agg #[.bool false, .bool false, .bool false, .bool false, .bool false, .bool true, .bool true, .slice none 0 0], lv, mv] X fun e w' => e = .returned (.tuple #[.int .i64 r1, .int .i64 r2, .bool r3, .int .i64 r4]) ∧ Below X.heap.size X w' := by
  subst hcs
  have h := bounds_any t tv C0 (.slice none 0 0) l lv m mv X hT (cal0 X) hL hM hbf
  rw [hr] at h
  exact h
set_option maxRecDepth 100000 in
set_option maxHeartbeats 16000000 in
theorem head_r5 {W : World} {b1 b3 gL : Nat} {X4 : World} {u0 u4 u5 u6 u7 u8 u9 u10 u11 u12 u13 u14 u15 u16 u17 u18 u19 u20 u21 u22 u23 u24 u25 u26 u27 u28 u29 u30 u31 u32 u33 u34 u35 u36 u37 u38 u39 u40 u41 u42 u43 u44 u45 u46 u47 u48 u49 u50 u51 u52 u53 u54 u55 u56 u57 u58 u59 u60 u61 u62 u63 u64 u65 u66 u67 u68 u69 u70 u71 u72 u73 u74 u75 u76 u77 u78 u79 u80 u81 u82 u83 u84 u85 u86 u87 u88 u89 u90 u91 u92 u93 u94 u95 u96 u97 u98 u99 u100 u101 u102 u103 u104 u105 u106 u107 u108 u109 u110 u111 u112 u113 u114 u115 u116 u117 u118 u119 u120 u121 u122 u123 u124 u125 u126 u127 u128 u129 u130 u131 u132 u133 u134 u135 u136 u137 u138 u139 u140 u141 u142 u143 u144 u145 u146 u147 u148 u149 u150 u151 u152 u153 u154 u155 u156 u157 u158 u159 u160 u161 u162 u163 u164 u165 u166 u167 u168 u169 u170 u171 u172 u173 u174 u175 u176 u177 u178 u179 u180 u181 u182 u183 u184 u185 u186 u187 : Value} {Q : Exit → Act → World → Prop} {C : Code} (hC : C = Cut.region Tryd.f25 5) (HS4 : Hid (HD W b1 b3 gL X4)) (HBF4 : Hid (Bf X4)) (hP : Cut.Blind Q)
    (hQ : ∀ (v38 v39 v40 v41 v42 v43 v44 v45 v46 v47 : Value) (wx : World), HD W b1 b3 gL wx → Bf wx → Q .normal ⟨#[u0, .pointer (some ⟨b1, 0, none⟩), .slice (some ⟨gL, 0, none⟩) 1 1, .pointer (some ⟨b3, 0, none⟩), u4, u5, u6, .int .i64 8, .bool true, .int .i64 0, u10, u11, u12, u13, u14, u15, u16, u17, u18, u19, u20, u21, u22, u23, u24, u25, u26, u27, u28, u29, u30, u31, u32, u33, u34, u35, u36, u37, v38, v39, v40, v41, v42, v43, v44, v45, v46, v47, u48, u49, u50, u51, u52, u53, u54, u55, u56, u57, u58, u59, u60, u61, u62, u63, u64, u65, u66, u67, u68, u69, u70, u71, u72, u73, u74, u75, u76, u77, u78, u79, u80, u81, u82, u83, u84, u85, u86, u87, u88, u89, u90, u91, u92, u93, u94, u95, u96, u97, u98, u99, u100, u101, u102, u103, u104, u105, u106, u107, u108, u109, u110, u111, u112, u113, u114, u115, u116, u117, u118, u119, u120, u121, u122, u123, u124, u125, u126, u127, u128, u129, u130, u131, u132, u133, u134, u135, u136, u137, u138, u139, u140, u141, u142, u143, u144, u145, u146, u147, u148, u149, u150, u151, u152, u153, u154, u155, u156, u157, u158, u159, u160, u161, u162, u163, u164, u165, u166, u167, u168, u169, u170, u171, u172, u173, u174, u175, u176, u177, u178, u179, u180, u181, u182, u183, u184, u185, u186, u187], []⟩ wx) :
    Code.wp Tryd.prog C Q ⟨#[u0, .pointer (some ⟨b1, 0, none⟩), .slice (some ⟨gL, 0, none⟩) 1 1, .pointer (some ⟨b3, 0, none⟩), u4, u5, u6, u7, u8, u9, u10, u11, u12, u13, u14, u15, u16, u17, u18, u19, u20, u21, u22, u23, u24, u25, u26, u27, u28, u29, u30, u31, u32, u33, u34, u35, u36, u37, u38, u39, u40, u41, u42, u43, u44, u45, u46, u47, u48, u49, u50, u51, u52, u53, u54, u55, u56, u57, u58, u59, u60, u61, u62, u63, u64, u65, u66, u67, u68, u69, u70, u71, u72, u73, u74, u75, u76, u77, u78, u79, u80, u81, u82, u83, u84, u85, u86, u87, u88, u89, u90, u91, u92, u93, u94, u95, u96, u97, u98, u99, u100, u101, u102, u103, u104, u105, u106, u107, u108, u109, u110, u111, u112, u113, u114, u115, u116, u117, u118, u119, u120, u121, u122, u123, u124, u125, u126, u127, u128, u129, u130, u131, u132, u133, u134, u135, u136, u137, u138, u139, u140, u141, u142, u143, u144, u145, u146, u147, u148, u149, u150, u151, u152, u153, u154, u155, u156, u157, u158, u159, u160, u161, u162, u163, u164, u165, u166, u167, u168, u169, u170, u171, u172, u173, u174, u175, u176, u177, u178, u179, u180, u181, u182, u183, u184, u185, u186, u187], []⟩ X4 := by
  subst hC
  conv => arg 2; whnf
  refine Reg.G.start (by kernel_rfl) ?_
  obtain ⟨X4d, HX4d⟩ : ∃ Y, Hid (X4.drew = Y) := ⟨_, rfl⟩
  have HBX4d : Hid (Below X4.heap.size X4 X4d) := by rw [← HX4d.out]; exact ⟨rfl, rfl, rfl, Nat.le_refl _, fun k hk => rfl⟩
  have HS4d := Lib.hid (HS4.out.keep HBX4d.out)
  have HBF4d := Lib.hid (bf_keep HBF4.out HBX4d.out)
  rw [HX4d.out]
  clear HX4d
  refine' Reg.G.take (i := 0) (v := _) (F := (fun w => Below X4d.heap.size X4d w)) rfl (by rfl) (by kernel_rfl) (by kernel_rfl) (by kernel_rfl) (fun _ _ _ h => hP _ _ _ _ _ h) (Below.refl X4d.heap.size X4d) ?hyp1 ?rehyp1
  case hyp1 => intro w hw; have kc := (hw.block _ (lt_of_blk HS4d.out.ev)).trans HS4d.out.ev; have k0 := cell_of_blk kc 0; have k1 := cell_of_blk kc 1; have k2 := cell_of_blk kc 2; have k3 := cell_of_blk kc 3; have k4 := cell_of_blk kc 4; clear hw kc; first | (go_simp; done) | (go_simp; with_reducible rfl)
  simp only [Act.put, List.setIfInBounds_toArray, List.set_cons_zero, List.set_cons_succ]
  refine' Reg.G.take (i := 3) (v := _) (F := (fun w => Below X4d.heap.size X4d w)) rfl (by rfl) (by kernel_rfl) (by kernel_rfl) (by kernel_rfl) (fun _ _ _ h => hP _ _ _ _ _ h) (Below.refl X4d.heap.size X4d) ?hyp2 ?rehyp2
  case hyp2 => intro w hw; have kc := (hw.block _ (lt_of_blk HS4d.out.cal)).trans HS4d.out.cal; have k0 := cell_of_blk kc 0; have k1 := cell_of_blk kc 1; have k2 := cell_of_blk kc 2; have k3 := cell_of_blk kc 3; have k4 := cell_of_blk kc 4; have k5 := cell_of_blk kc 5; have k6 := cell_of_blk kc 6; have k7 := cell_of_blk kc 7; clear hw kc; first | (go_simp; done) | (go_simp; with_reducible rfl)
  simp only [Act.put, List.setIfInBounds_toArray, List.set_cons_zero, List.set_cons_succ]
  refine' Reg.G.pure (i := 4) (v := _) rfl (by rfl) (by kernel_rfl) (by kernel_rfl) (by kernel_rfl) (fun _ _ _ h => hP _ _ _ _ _ h) ?hyp3 ?rehyp3
  case hyp3 => exact fun w => by first | (go_simp; done) | (go_simp; with_reducible rfl)
  simp only [Act.put, List.setIfInBounds_toArray, List.set_cons_zero, List.set_cons_succ]
  refine Reg.G.step (j := 1) (m := [true, false]) [3, 0] rfl (by kernel_rfl) rfl (by kernel_rfl) (fun K hK => ?_)
  go_simp
  obtain ⟨Y1, HY2⟩ : ∃ Y, Hid (X4d.alloc (.cells #[.int .i64 2, .int .i64 0, .int .i64 0, .bool false, .slice none 0 0] 31) = Y) := ⟨_, rfl⟩
  have HX4 : Hid (Below X4d.heap.size X4d Y1) := by rw [← HY2.out]; exact (Below.refl _ X4d).alloc (Nat.le_refl _) _
  have HK3 : Hid (Y1.heap[X4d.heap.size]? = some (.cells #[.int .i64 2, .int .i64 0, .int .i64 0, .bool false, .slice none 0 0] 31 (0, 0))) := by rw [← HY2.out]; exact blk_newn rfl
  rw [HY2.out]
  clear HY2
  have HB5 : Hid (Below X4d.heap.size X4d Y1) := (Below.refl X4d.heap.size X4d).trans (HX4.out.mono (Below.refl X4d.heap.size X4d).size)
  have HF6 := Lib.hid (tree_blk (W := Y1) [(E0, .slice none 0 0)] (k := 4) (m := 3) (e := 0) (b := true) (n := 1) (cp := 1) HK3.out rfl rfl (by decide) (by decide) (by intro x hx; simp only [List.mem_cons, List.not_mem_nil, or_false] at hx; subst hx; exact tree_E _) (by unfold wf; decide) (by unfold wf; decide))
  have HF7 := Lib.hid (HS4d.out.evs.below (HB5.out))
  refine hK.out _ _ ⟨HB5.out, trivial⟩ ?_
  clear hK K
  simp only [Act.put, List.setIfInBounds_toArray, List.set_cons_zero, List.set_cons_succ, Reg.Kept]
  refine Reg.G.step (j := 2) (m := [true]) [3] rfl (by kernel_rfl) rfl (by kernel_rfl) (fun K hK => ?_)
  go_simp
  refine (of_any 4 3 true (some ⟨X4d.heap.size, 0, none⟩) 1 1 Y1).mono ?_
  rintro e9 Z9 ⟨rfl, hb10⟩
  have HZ11 := Lib.hid hb10
  clear hb10
  have HB12 : Hid (Below X4d.heap.size X4d Z9) := (HB5.out).trans (HZ11.out.mono (HB5.out).size)
  have HF13 := Lib.hid (HF6.out.keep HZ11.out)
  have HF14 := Lib.hid (HF7.out.below HZ11.out)
  refine hK.out _ _ ⟨HB12.out, trivial⟩ ?_
  clear hK K
  simp only [Act.put, List.setIfInBounds_toArray, List.set_cons_zero, List.set_cons_succ, Reg.Kept]
  refine Reg.G.step (j := 5) (m := [false]) [3] rfl (by kernel_rfl) rfl (by kernel_rfl) (fun K hK => ?_)
  go_simp
  refine (eval_c0 (.mk 4 3 0 true [E0]) (.slice (some ⟨X4d.heap.size, 0, none⟩) 1 1) L0 (.slice (some ⟨gL, 0, none⟩) 1 1) Z9 _ _ _ head2 HF13.out HF14.out (bf_keep HBF4d.out (HB12.out)) rfl (cs := #[.int .i64 4, .int .i64 3, .int .i64 0, .bool true, .slice (some ⟨X4d.heap.size, 0, none⟩) 1 1])).mono ?_
  rintro e9 Z15 ⟨rfl, hb16⟩
  have HZ17 := Lib.hid hb16
  clear hb16
  have HB18 : Hid (Below X4d.heap.size X4d Z15) := (HB12.out).trans (HZ17.out.mono (HB12.out).size)
  have HF19 := Lib.hid (HF13.out.keep HZ17.out)
  have HF20 := Lib.hid (HF14.out.below HZ17.out)
  refine hK.out _ _ trivial ?_
  clear hK K
  simp only [Act.put, List.setIfInBounds_toArray, List.set_cons_zero, List.set_cons_succ, Reg.Kept]
  refine' Reg.G.pure (i := 6) (v := _) rfl (by rfl) (by kernel_rfl) (by kernel_rfl) (by kernel_rfl) (fun _ _ _ h => hP _ _ _ _ _ h) ?hyp4 ?rehyp4
  case hyp4 => exact fun w => by first | (go_simp; done) | (go_simp; with_reducible rfl)
  simp only [Act.put, List.setIfInBounds_toArray, List.set_cons_zero, List.set_cons_succ]
  refine' Reg.G.pure (i := 7) (v := _) rfl (by rfl) (by kernel_rfl) (by kernel_rfl) (by kernel_rfl) (fun _ _ _ h => hP _ _ _ _ _ h) ?hyp5 ?rehyp5
  case hyp5 => exact fun w => by first | (go_simp; done) | (go_simp; with_reducible rfl)
  simp only [Act.put, List.setIfInBounds_toArray, List.set_cons_zero, List.set_cons_succ]
  refine' Reg.G.pure (i := 8) (v := _) rfl (by rfl) (by kernel_rfl) (by kernel_rfl) (by kernel_rfl) (fun _ _ _ h => hP _ _ _ _ _ h) ?hyp6 ?rehyp6
  case hyp6 => exact fun w => by first | (go_simp; done) | (go_simp; with_reducible rfl)
  simp only [Act.put, List.setIfInBounds_toArray, List.set_cons_zero, List.set_cons_succ]
  refine' Reg.G.pure (i := 9) (v := _) rfl (by rfl) (by kernel_rfl) (by kernel_rfl) (by kernel_rfl) (fun _ _ _ h => hP _ _ _ _ _ h) ?hyp7 ?rehyp7
  case hyp7 => exact fun w => by first | (go_simp; done) | (go_simp; with_reducible rfl)
  simp only [Act.put, List.setIfInBounds_toArray, List.set_cons_zero, List.set_cons_succ]
  refine' Reg.G.pure (i := 10) (v := _) rfl (by rfl) (by kernel_rfl) (by kernel_rfl) (by kernel_rfl) (fun _ _ _ h => hP _ _ _ _ _ h) ?hyp8 ?rehyp8
  case hyp8 => exact fun w => by first | (go_simp; done) | (go_simp; with_reducible rfl)
  simp only [Act.put, List.setIfInBounds_toArray, List.set_cons_zero, List.set_cons_succ]
  refine' Reg.G.pure (i := 11) (v := _) rfl (by rfl) (by kernel_rfl) (by kernel_rfl) (by kernel_rfl) (fun _ _ _ h => hP _ _ _ _ _ h) ?hyp9 ?rehyp9
  case hyp9 => exact fun w => by first | (go_simp; done) | (go_simp; with_reducible rfl)
  simp only [Act.put, List.setIfInBounds_toArray, List.set_cons_zero, List.set_cons_succ]
  refine' Reg.G.pure (i := 12) (v := _) rfl (by rfl) (by kernel_rfl) (by kernel_rfl) (by kernel_rfl) (fun _ _ _ h => hP _ _ _ _ _ h) ?hyp10 ?rehyp10
  case hyp10 => exact fun w => by first | (go_simp; done) | (go_simp; with_reducible rfl)
  simp only [Act.put, List.setIfInBounds_toArray, List.set_cons_zero, List.set_cons_succ]
  refine Reg.G.done (by kernel_rfl) ?_
  exact hQ _ _ _ _ _ _ _ _ _ _ _ (HS4d.out.keep (HB18.out)) (bf_keep HBF4d.out (HB18.out))
set_option maxRecDepth 100000 in
set_option maxHeartbeats 16000000 in
theorem head_r6 {W : World} {b1 b3 gL : Nat} {X5 : World} {u0 u4 u5 u6 u7 u8 u9 u10 u11 u12 u13 u14 u15 u16 u17 u18 u19 u20 u21 u22 u23 u24 u25 u26 u27 u28 u29 u30 u31 u32 u33 u34 u35 u36 u37 u38 u39 u40 u41 u42 u43 u44 u45 u46 u47 u48 u49 u50 u51 u52 u53 u54 u55 u56 u57 u58 u59 u60 u61 u62 u63 u64 u65 u66 u67 u68 u69 u70 u71 u72 u73 u74 u75 u76 u77 u78 u79 u80 u81 u82 u83 u84 u85 u86 u87 u88 u89 u90 u91 u92 u93 u94 u95 u96 u97 u98 u99 u100 u101 u102 u103 u104 u105 u106 u107 u108 u109 u110 u111 u112 u113 u114 u115 u116 u117 u118 u119 u120 u121 u122 u123 u124 u125 u126 u127 u128 u129 u130 u131 u132 u133 u134 u135 u136 u137 u138 u139 u140 u141 u142 u143 u144 u145 u146 u147 u148 u149 u150 u151 u152 u153 u154 u155 u156 u157 u158 u159 u160 u161 u162 u163 u164 u165 u166 u167 u168 u169 u170 u171 u172 u173 u174 u175 u176 u177 u178 u179 u180 u181 u182 u183 u184 u185 u186 u187 : Value} {Q : Exit → Act → World → Prop} {C : Code} (hC : C = Cut.region Tryd.f25 6) (HS5 : Hid (HD W b1 b3 gL X5)) (HBF5 : Hid (Bf X5)) (hP : Cut.Blind Q)
    (hQ : ∀ (v48 v49 v50 v51 v52 v53 v54 v55 v56 v57 v58 v59 v60 : Value) (wx : World), HD W b1 b3 gL wx → Bf wx → Q .normal ⟨#[u0, .pointer (some ⟨b1, 0, none⟩), .slice (some ⟨gL, 0, none⟩) 1 1, .pointer (some ⟨b3, 0, none⟩), u4, u5, u6, u7, u8, u9, .int .i64 34, .bool true, .int .i64 0, u13, u14, u15, u16, u17, u18, u19, u20, u21, u22, u23, u24, u25, u26, u27, u28, u29, u30, u31, u32, u33, u34, u35, u36, u37, u38, u39, u40, u41, u42, u43, u44, u45, u46, u47, v48, v49, v50, v51, v52, v53, v54, v55, v56, v57, v58, v59, v60, u61, u62, u63, u64, u65, u66, u67, u68, u69, u70, u71, u72, u73, u74, u75, u76, u77, u78, u79, u80, u81, u82, u83, u84, u85, u86, u87, u88, u89, u90, u91, u92, u93, u94, u95, u96, u97, u98, u99, u100, u101, u102, u103, u104, u105, u106, u107, u108, u109, u110, u111, u112, u113, u114, u115, u116, u117, u118, u119, u120, u121, u122, u123, u124, u125, u126, u127, u128, u129, u130, u131, u132, u133, u134, u135, u136, u137, u138, u139, u140, u141, u142, u143, u144, u145, u146, u147, u148, u149, u150, u151, u152, u153, u154, u155, u156, u157, u158, u159, u160, u161, u162, u163, u164, u165, u166, u167, u168, u169, u170, u171, u172, u173, u174, u175, u176, u177, u178, u179, u180, u181, u182, u183, u184, u185, u186, u187], []⟩ wx) :
    Code.wp Tryd.prog C Q ⟨#[u0, .pointer (some ⟨b1, 0, none⟩), .slice (some ⟨gL, 0, none⟩) 1 1, .pointer (some ⟨b3, 0, none⟩), u4, u5, u6, u7, u8, u9, u10, u11, u12, u13, u14, u15, u16, u17, u18, u19, u20, u21, u22, u23, u24, u25, u26, u27, u28, u29, u30, u31, u32, u33, u34, u35, u36, u37, u38, u39, u40, u41, u42, u43, u44, u45, u46, u47, u48, u49, u50, u51, u52, u53, u54, u55, u56, u57, u58, u59, u60, u61, u62, u63, u64, u65, u66, u67, u68, u69, u70, u71, u72, u73, u74, u75, u76, u77, u78, u79, u80, u81, u82, u83, u84, u85, u86, u87, u88, u89, u90, u91, u92, u93, u94, u95, u96, u97, u98, u99, u100, u101, u102, u103, u104, u105, u106, u107, u108, u109, u110, u111, u112, u113, u114, u115, u116, u117, u118, u119, u120, u121, u122, u123, u124, u125, u126, u127, u128, u129, u130, u131, u132, u133, u134, u135, u136, u137, u138, u139, u140, u141, u142, u143, u144, u145, u146, u147, u148, u149, u150, u151, u152, u153, u154, u155, u156, u157, u158, u159, u160, u161, u162, u163, u164, u165, u166, u167, u168, u169, u170, u171, u172, u173, u174, u175, u176, u177, u178, u179, u180, u181, u182, u183, u184, u185, u186, u187], []⟩ X5 := by
  subst hC
  conv => arg 2; whnf
  refine Reg.G.start (by kernel_rfl) ?_
  obtain ⟨X5d, HX5d⟩ : ∃ Y, Hid (X5.drew = Y) := ⟨_, rfl⟩
  have HBX5d : Hid (Below X5.heap.size X5 X5d) := by rw [← HX5d.out]; exact ⟨rfl, rfl, rfl, Nat.le_refl _, fun k hk => rfl⟩
  have HS5d := Lib.hid (HS5.out.keep HBX5d.out)
  have HBF5d := Lib.hid (bf_keep HBF5.out HBX5d.out)
  rw [HX5d.out]
  clear HX5d
  refine' Reg.G.pure (i := 0) (v := _) rfl (by rfl) (by kernel_rfl) (by kernel_rfl) (by kernel_rfl) (fun _ _ _ h => hP _ _ _ _ _ h) ?hyq11 ?rehyq11
  case hyq11 => exact fun w => by first | (go_simp; done) | (go_simp; with_reducible rfl)
  simp only [Act.put, List.setIfInBounds_toArray, List.set_cons_zero, List.set_cons_succ]
  refine' Reg.G.take (i := 1) (v := _) (F := (fun w => Below X5d.heap.size X5d w)) rfl (by rfl) (by kernel_rfl) (by kernel_rfl) (by kernel_rfl) (fun _ _ _ h => hP _ _ _ _ _ h) (Below.refl X5d.heap.size X5d) ?hyq12 ?rehyq12
  case hyq12 => intro w hw; have kc := (hw.block _ (lt_of_blk HS5d.out.ev)).trans HS5d.out.ev; have k0 := cell_of_blk kc 0; have k1 := cell_of_blk kc 1; have k2 := cell_of_blk kc 2; have k3 := cell_of_blk kc 3; have k4 := cell_of_blk kc 4; clear hw kc; first | (go_simp; done) | (go_simp; with_reducible rfl)
  simp only [Act.put, List.setIfInBounds_toArray, List.set_cons_zero, List.set_cons_succ]
  refine' Reg.G.take (i := 6) (v := _) (F := (fun w => Below X5d.heap.size X5d w)) rfl (by rfl) (by kernel_rfl) (by kernel_rfl) (by kernel_rfl) (fun _ _ _ h => hP _ _ _ _ _ h) (Below.refl X5d.heap.size X5d) ?hyq13 ?rehyq13
  case hyq13 => intro w hw; have kc := (hw.block _ (lt_of_blk HS5d.out.cal)).trans HS5d.out.cal; have k0 := cell_of_blk kc 0; have k1 := cell_of_blk kc 1; have k2 := cell_of_blk kc 2; have k3 := cell_of_blk kc 3; have k4 := cell_of_blk kc 4; have k5 := cell_of_blk kc 5; have k6 := cell_of_blk kc 6; have k7 := cell_of_blk kc 7; clear hw kc; first | (go_simp; done) | (go_simp; with_reducible rfl)
  simp only [Act.put, List.setIfInBounds_toArray, List.set_cons_zero, List.set_cons_succ]
  refine' Reg.G.pure (i := 7) (v := _) rfl (by rfl) (by kernel_rfl) (by kernel_rfl) (by kernel_rfl) (fun _ _ _ h => hP _ _ _ _ _ h) ?hyq14 ?rehyq14
  case hyq14 => exact fun w => by first | (go_simp; done) | (go_simp; with_reducible rfl)
  simp only [Act.put, List.setIfInBounds_toArray, List.set_cons_zero, List.set_cons_succ]
  refine Reg.G.step (j := 2) (m := [true, false]) [6, 1] rfl (by kernel_rfl) rfl (by kernel_rfl) (fun K hK => ?_)
  go_simp
  obtain ⟨Y21, HY22⟩ : ∃ Y, Hid (X5d.alloc (.cells #[.int .i64 2, .int .i64 0, .int .i64 0, .bool false, .slice none 0 0] 31) = Y) := ⟨_, rfl⟩
  have HX24 : Hid (Below X5d.heap.size X5d Y21) := by rw [← HY22.out]; exact (Below.refl _ X5d).alloc (Nat.le_refl _) _
  have HK23 : Hid (Y21.heap[X5d.heap.size]? = some (.cells #[.int .i64 2, .int .i64 0, .int .i64 0, .bool false, .slice none 0 0] 31 (0, 0))) := by rw [← HY22.out]; exact blk_newn rfl
  rw [HY22.out]
  clear HY22
  have HB25 : Hid (Below X5d.heap.size X5d Y21) := (Below.refl X5d.heap.size X5d).trans (HX24.out.mono (Below.refl X5d.heap.size X5d).size)
  have HF26 := Lib.hid (tree_blk (W := Y21) [(E0, .slice none 0 0)] (k := 5) (m := 1) (e := 0) (b := false) (n := 1) (cp := 1) HK23.out rfl rfl (by decide) (by decide) (by intro x hx; simp only [List.mem_cons, List.not_mem_nil, or_false] at hx; subst hx; exact tree_E _) (by unfold wf; decide) (by unfold wf; decide))
  refine hK.out _ _ ⟨HB25.out, trivial⟩ ?_
  clear hK K
  simp only [Act.put, List.setIfInBounds_toArray, List.set_cons_zero, List.set_cons_succ, Reg.Kept]
  refine Reg.G.step (j := 3) (m := [true]) [6] rfl (by kernel_rfl) rfl (by kernel_rfl) (fun K hK => ?_)
  go_simp
  refine (of_any 5 1 false (some ⟨X5d.heap.size, 0, none⟩) 1 1 Y21).mono ?_
  rintro e9 Z27 ⟨rfl, hb28⟩
  have HZ29 := Lib.hid hb28
  clear hb28
  have HB30 : Hid (Below X5d.heap.size X5d Z27) := (HB25.out).trans (HZ29.out.mono (HB25.out).size)
  have HF31 := Lib.hid (HF26.out.keep HZ29.out)
  refine hK.out _ _ ⟨HB30.out, trivial⟩ ?_
  clear hK K
  simp only [Act.put, List.setIfInBounds_toArray, List.set_cons_zero, List.set_cons_succ, Reg.Kept]
  refine Reg.G.step (j := 4) (m := [true]) [6] rfl (by kernel_rfl) rfl (by kernel_rfl) (fun K hK => ?_)
  go_simp
  obtain ⟨Y32, HY33⟩ : ∃ Y, Hid (Z27.alloc (.cells #[.int .i64 1, .int .i64 10, .int .i64 0, .bool false, .slice none 0 0, .int .i64 5, .int .i64 1, .int .i64 0, .bool false, .slice (some ⟨X5d.heap.size, 0, none⟩) 1 1] 31) = Y) := ⟨_, rfl⟩
  have HX35 : Hid (Below Z27.heap.size Z27 Y32) := by rw [← HY33.out]; exact (Below.refl _ Z27).alloc (Nat.le_refl _) _
  have HK34 : Hid (Y32.heap[Z27.heap.size]? = some (.cells #[.int .i64 1, .int .i64 10, .int .i64 0, .bool false, .slice none 0 0, .int .i64 5, .int .i64 1, .int .i64 0, .bool false, .slice (some ⟨X5d.heap.size, 0, none⟩) 1 1] 31 (0, 0))) := by rw [← HY33.out]; exact blk_newn rfl
  rw [HY33.out]
  clear HY33
  have HB36 : Hid (Below X5d.heap.size X5d Y32) := (HB30.out).trans (HX35.out.mono (HB30.out).size)
  have HF37 := Lib.hid (HF31.out.keep HX35.out)
  have HF38 := Lib.hid (tree_blk (W := Y32) [(.mk 1 10 0 false [], .slice none 0 0), (.mk 5 1 0 false [E0], .slice (some ⟨X5d.heap.size, 0, none⟩) 1 1)] (k := 8) (m := 0) (e := 0) (b := false) (n := 2) (cp := 2) HK34.out rfl rfl (by decide) (by decide) (by intro x hx; simp only [List.mem_cons, List.not_mem_nil, or_false] at hx; exact hx.elim (fun h => by subst h; exact tree_leaf _ 1 10 0 false (by unfold wf; decide) (by unfold wf; decide)) (fun h => by subst h; exact HF37.out)) (by unfold wf; decide) (by unfold wf; decide))
  have HF39 := Lib.hid (HS5d.out.evs.below (HB36.out))
  refine hK.out _ _ ⟨HB36.out, trivial⟩ ?_
  clear hK K
  simp only [Act.put, List.setIfInBounds_toArray, List.set_cons_zero, List.set_cons_succ, Reg.Kept]
  refine Reg.G.step (j := 5) (m := [true]) [6] rfl (by kernel_rfl) rfl (by kernel_rfl) (fun K hK => ?_)
  go_simp
  refine (of_any 8 0 false (some ⟨Z27.heap.size, 0, none⟩) 2 2 Y32).mono ?_
  rintro e9 Z40 ⟨rfl, hb41⟩
  have HZ42 := Lib.hid hb41
  clear hb41
  have HB43 : Hid (Below X5d.heap.size X5d Z40) := (HB36.out).trans (HZ42.out.mono (HB36.out).size)
  have HF44 := Lib.hid (HF37.out.keep HZ42.out)
  have HF45 := Lib.hid (HF38.out.keep HZ42.out)
  have HF46 := Lib.hid (HF39.out.below HZ42.out)
  refine hK.out _ _ ⟨HB43.out, trivial⟩ ?_
  clear hK K
  simp only [Act.put, List.setIfInBounds_toArray, List.set_cons_zero, List.set_cons_succ, Reg.Kept]
  refine Reg.G.step (j := 8) (m := [false]) [6] rfl (by kernel_rfl) rfl (by kernel_rfl) (fun K hK => ?_)
  go_simp
  refine (eval_c0 (.mk 8 0 0 false [.mk 1 10 0 false [], .mk 5 1 0 false [E0]]) (.slice (some ⟨Z27.heap.size, 0, none⟩) 2 2) L0 (.slice (some ⟨gL, 0, none⟩) 1 1) Z40 _ _ _ head3 HF45.out HF46.out (bf_keep HBF5d.out (HB43.out)) rfl (cs := #[.int .i64 8, .int .i64 0, .int .i64 0, .bool false, .slice (some ⟨Z27.heap.size, 0, none⟩) 2 2])).mono ?_
  rintro e9 Z47 ⟨rfl, hb48⟩
  have HZ49 := Lib.hid hb48
  clear hb48
  have HB50 : Hid (Below X5d.heap.size X5d Z47) := (HB43.out).trans (HZ49.out.mono (HB43.out).size)
  have HF51 := Lib.hid (HF44.out.keep HZ49.out)
  have HF52 := Lib.hid (HF45.out.keep HZ49.out)
  have HF53 := Lib.hid (HF46.out.below HZ49.out)
  refine hK.out _ _ trivial ?_
  clear hK K
  simp only [Act.put, List.setIfInBounds_toArray, List.set_cons_zero, List.set_cons_succ, Reg.Kept]
  refine' Reg.G.pure (i := 9) (v := _) rfl (by rfl) (by kernel_rfl) (by kernel_rfl) (by kernel_rfl) (fun _ _ _ h => hP _ _ _ _ _ h) ?hyq15 ?rehyq15
  case hyq15 => exact fun w => by first | (go_simp; done) | (go_simp; with_reducible rfl)
  simp only [Act.put, List.setIfInBounds_toArray, List.set_cons_zero, List.set_cons_succ]
  refine' Reg.G.pure (i := 10) (v := _) rfl (by rfl) (by kernel_rfl) (by kernel_rfl) (by kernel_rfl) (fun _ _ _ h => hP _ _ _ _ _ h) ?hyq16 ?rehyq16
  case hyq16 => exact fun w => by first | (go_simp; done) | (go_simp; with_reducible rfl)
  simp only [Act.put, List.setIfInBounds_toArray, List.set_cons_zero, List.set_cons_succ]
  refine' Reg.G.pure (i := 11) (v := _) rfl (by rfl) (by kernel_rfl) (by kernel_rfl) (by kernel_rfl) (fun _ _ _ h => hP _ _ _ _ _ h) ?hyq17 ?rehyq17
  case hyq17 => exact fun w => by first | (go_simp; done) | (go_simp; with_reducible rfl)
  simp only [Act.put, List.setIfInBounds_toArray, List.set_cons_zero, List.set_cons_succ]
  refine' Reg.G.pure (i := 12) (v := _) rfl (by rfl) (by kernel_rfl) (by kernel_rfl) (by kernel_rfl) (fun _ _ _ h => hP _ _ _ _ _ h) ?hyq18 ?rehyq18
  case hyq18 => exact fun w => by first | (go_simp; done) | (go_simp; with_reducible rfl)
  simp only [Act.put, List.setIfInBounds_toArray, List.set_cons_zero, List.set_cons_succ]
  refine' Reg.G.pure (i := 13) (v := _) rfl (by rfl) (by kernel_rfl) (by kernel_rfl) (by kernel_rfl) (fun _ _ _ h => hP _ _ _ _ _ h) ?hyq19 ?rehyq19
  case hyq19 => exact fun w => by first | (go_simp; done) | (go_simp; with_reducible rfl)
  simp only [Act.put, List.setIfInBounds_toArray, List.set_cons_zero, List.set_cons_succ]
  refine' Reg.G.pure (i := 14) (v := _) rfl (by rfl) (by kernel_rfl) (by kernel_rfl) (by kernel_rfl) (fun _ _ _ h => hP _ _ _ _ _ h) ?hyq20 ?rehyq20
  case hyq20 => exact fun w => by first | (go_simp; done) | (go_simp; with_reducible rfl)
  simp only [Act.put, List.setIfInBounds_toArray, List.set_cons_zero, List.set_cons_succ]
  refine' Reg.G.pure (i := 15) (v := _) rfl (by rfl) (by kernel_rfl) (by kernel_rfl) (by kernel_rfl) (fun _ _ _ h => hP _ _ _ _ _ h) ?hyq21 ?rehyq21
  case hyq21 => exact fun w => by first | (go_simp; done) | (go_simp; with_reducible rfl)
  simp only [Act.put, List.setIfInBounds_toArray, List.set_cons_zero, List.set_cons_succ]
  refine Reg.G.done (by kernel_rfl) ?_
  exact hQ _ _ _ _ _ _ _ _ _ _ _ _ _ _ (HS5d.out.keep (HB50.out)) (bf_keep HBF5d.out (HB50.out))
end Go.Proofs.YticlmkfifpkdpaaDoor.Dl
