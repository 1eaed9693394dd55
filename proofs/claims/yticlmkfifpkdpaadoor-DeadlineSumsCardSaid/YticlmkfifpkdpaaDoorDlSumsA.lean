/-
  Regions of the law DeadlineSums.
-/
import Derived.Test.YticlmkfifpkdpaaDoorDlLawW
import Derived.Test.YticlmkfifpkdpaaDoorCut
import Derived.Test.YticlmkfifpkdpaaDoorReg2
import Derived.Deep.DeepCutAuto
import Derived.Deep.QuietTactic
namespace Go.Proofs.YticlmkfifpkdpaaDoor.Dl
open Go.RowKit Mem Vw
set_option linter.unusedVariables false
set_option linter.unusedSimpArgs false
/-- With the block of the term that is the start. -/
structure SS (W : World) (x : Term × Value) (c : Cal) (hv : Value) (gt gc gs : Nat) (sv : Value) (u : Term) (X : World) : Prop where
  ls : LS W x c hv gt gc X
  sb : X.heap[gs]? = some (.cells #[.int .i64 6, .int .i64 0, .int .i64 0, .bool false, sv] 31 (0, 0))
  tr : Tree X u sv
theorem SS.keep {W : World} {x : Term × Value} {c : Cal} {hv : Value} {gt gc gs : Nat} {sv : Value} {u : Term} {X X' : World} (h : SS W x c hv gt gc gs sv u X) (hb : Below X.heap.size X X') : SS W x c hv gt gc gs sv u X' :=
  ⟨h.ls.keep hb, (hb.block _ (lt_of_blk h.sb)).trans h.sb, h.tr.keep hb⟩
theorem SS.s {W : World} {x : Term × Value} {c : Cal} {hv : Value} {gt gc gs : Nat} {sv : Value} {u : Term} {X : World} (h : SS W x c hv gt gc gs sv u X) :
    X.cell? ⟨gs, 0, none⟩ = some (.int .i64 6) ∧ X.cell? ⟨gs, 1, none⟩ = some (.int .i64 0) ∧ X.cell? ⟨gs, 2, none⟩ = some (.int .i64 0) ∧ X.cell? ⟨gs, 3, none⟩ = some (.bool false) ∧ X.cell? ⟨gs, 4, none⟩ = some sv :=
  ⟨cell_of_blk h.sb 0, cell_of_blk h.sb 1, cell_of_blk h.sb 2, cell_of_blk h.sb 3, cell_of_blk h.sb 4⟩
set_option maxRecDepth 100000 in
set_option maxHeartbeats 16000000 in
theorem sums_r6 {W X : World} {k n e : Int} {b : Bool} {kids : List Term} {A : Option Addr} {cp : Nat} {c : Cal} {hv : Value} {l : List When} {Al : Option Addr} {nl : Nat} {gt gc : Nat} {M N : Int} {d3 : Int} {k3 : Bool} {e3 : Int} {u0 u1 u3 u4 u7 u8 u9 u10 u11 u14 u15 u16 u17 u18 u19 u20 u21 u22 u23 u24 u25 u26 u27 u28 u29 u30 u31 u32 u33 u34 u35 u36 u37 u38 u39 u40 u41 u42 u43 u44 u45 u46 u47 u48 u49 u50 u51 u52 u53 u54 u55 u56 u57 u58 u59 u60 u61 u62 u63 u64 u65 u66 u67 u68 u69 u70 u71 u72 u73 u74 u75 u76 u77 u78 u79 u80 u81 u82 u83 u84 u85 u86 u87 u88 u89 u90 u91 u92 u93 u94 u95 u96 u97 u98 u99 u100 u101 u102 u103 u104 u105 u106 u107 u108 u109 u110 u111 u112 u113 u114 u115 u116 u117 u118 u119 u120 u121 u122 u123 u124 u125 u126 u127 u128 u129 u130 u131 u132 u133 u134 u135 u136 u137 u138 u139 u140 u141 u142 u143 u144 u145 u146 u147 u148 u149 u150 u151 u152 u153 u154 u155 u156 u157 u158 u159 u160 u161 u162 u163 u164 u165 u166 u167 u168 u169 u170 u171 u172 u173 u174 u175 u176 u177 u178 u179 u180 u181 u182 u183 u184 u185 u186 u187 : Value} {Q : Exit → Act → World → Prop} {C : Code} (hC : C = Cut.region Tryd.f12 6) (HG : Hid (GV W c hv)) (HT : Hid (Tree W (.mk k n e b kids) (.slice A kids.length cp))) (HEl : Hid (EvsAt W l (.slice Al l.length nl))) (HS : Hid (LS W (.mk k n e b kids, .slice A kids.length cp) c hv gt gc X)) (hM0 : 0 ≤ M) (hM1 : M ≤ 500) (hN0 : 0 ≤ N) (hN1 : N ≤ 500) (HR : Hid (eval (.mk 4 N 0 false [.mk 4 M 0 false [.mk k n e b kids]]) c l = (d3, k3, e3))) (hP : Cut.Blind Q)
    (hQ : ∀ (v45 v46 v47 v48 v49 v50 v51 v52 v53 v54 v55 v56 v57 v58 : Value) (wx : World), LS W (.mk k n e b kids, .slice A kids.length cp) c hv gt gc wx →  Q .normal ⟨#[u0, u1, .slice Al l.length nl, u3, u4, .pointer (some ⟨gt, 0, none⟩), .pointer (some ⟨gc, 0, none⟩), u7, u8, u9, u10, u11, .int .i64 M, .int .i64 N, .int .i64 d3, .bool k3, .int .i64 e3, u17, u18, u19, u20, u21, u22, u23, u24, u25, u26, u27, u28, u29, u30, u31, u32, u33, u34, u35, u36, u37, u38, u39, u40, u41, u42, u43, u44, v45, v46, v47, v48, v49, v50, v51, v52, v53, v54, v55, v56, v57, v58, u59, u60, u61, u62, u63, u64, u65, u66, u67, u68, u69, u70, u71, u72, u73, u74, u75, u76, u77, u78, u79, u80, u81, u82, u83, u84, u85, u86, u87, u88, u89, u90, u91, u92, u93, u94, u95, u96, u97, u98, u99, u100, u101, u102, u103, u104, u105, u106, u107, u108, u109, u110, u111, u112, u113, u114, u115, u116, u117, u118, u119, u120, u121, u122, u123, u124, u125, u126, u127, u128, u129, u130, u131, u132, u133, u134, u135, u136, u137, u138, u139, u140, u141, u142, u143, u144, u145, u146, u147, u148, u149, u150, u151, u152, u153, u154, u155, u156, u157, u158, u159, u160, u161, u162, u163, u164, u165, u166, u167, u168, u169, u170, u171, u172, u173, u174, u175, u176, u177, u178, u179, u180, u181, u182, u183, u184, u185, u186, u187], []⟩ wx) :
    Code.wp Tryd.prog C Q ⟨#[u0, u1, .slice Al l.length nl, u3, u4, .pointer (some ⟨gt, 0, none⟩), .pointer (some ⟨gc, 0, none⟩), u7, u8, u9, u10, u11, .int .i64 M, .int .i64 N, u14, u15, u16, u17, u18, u19, u20, u21, u22, u23, u24, u25, u26, u27, u28, u29, u30, u31, u32, u33, u34, u35, u36, u37, u38, u39, u40, u41, u42, u43, u44, u45, u46, u47, u48, u49, u50, u51, u52, u53, u54, u55, u56, u57, u58, u59, u60, u61, u62, u63, u64, u65, u66, u67, u68, u69, u70, u71, u72, u73, u74, u75, u76, u77, u78, u79, u80, u81, u82, u83, u84, u85, u86, u87, u88, u89, u90, u91, u92, u93, u94, u95, u96, u97, u98, u99, u100, u101, u102, u103, u104, u105, u106, u107, u108, u109, u110, u111, u112, u113, u114, u115, u116, u117, u118, u119, u120, u121, u122, u123, u124, u125, u126, u127, u128, u129, u130, u131, u132, u133, u134, u135, u136, u137, u138, u139, u140, u141, u142, u143, u144, u145, u146, u147, u148, u149, u150, u151, u152, u153, u154, u155, u156, u157, u158, u159, u160, u161, u162, u163, u164, u165, u166, u167, u168, u169, u170, u171, u172, u173, u174, u175, u176, u177, u178, u179, u180, u181, u182, u183, u184, u185, u186, u187], []⟩ X := by
  subst hC
  conv => arg 2; whnf
  have HWM := Lib.hid (show wf M by unfold wf; omega)
  have HWN := Lib.hid (show wf N by unfold wf; omega)
  have HWN1 := Lib.hid (show wf (N + 1) by unfold wf; omega)
  have HWS := Lib.hid (show wf (M + N) by unfold wf; omega)
  have HWS1 := Lib.hid (show wf (M + N + 1) by unfold wf; omega)
  have hwr1 : IntKind.i64.wrap (M + N) = M + N := Go.IntWalk.i64_in _ (by omega)
  have hwr2 : IntKind.i64.wrap (M + N + 1) = M + N + 1 := Go.IntWalk.i64_in _ (by omega)
  have hwr3 : IntKind.i64.wrap (N + 1) = N + 1 := Go.IntWalk.i64_in _ (by omega)
  refine Reg.G.start (by kernel_rfl) ?_
  obtain ⟨Xd, HXd⟩ : ∃ Y, Hid (X.drew = Y) := ⟨_, rfl⟩
  have HBXd : Hid (Below X.heap.size X Xd) := by rw [← HXd.out]; exact ⟨rfl, rfl, rfl, Nat.le_refl _, fun k hk => rfl⟩
  have HSd := Lib.hid (HS.out.keep HBXd.out)
  rw [HXd.out]
  clear HXd
  refine' Reg.G.pure (i := 0) (v := _) rfl (by rfl) (by kernel_rfl) (by kernel_rfl) (by kernel_rfl) (fun _ _ _ h => hP _ _ _ _ _ h) ?hyp1 ?rehyp1
  case hyp1 => exact fun w => by first | (go_simp; done) | (go_simp; with_reducible rfl)
  simp only [Act.put, List.setIfInBounds_toArray, List.set_cons_zero, List.set_cons_succ]
  refine' Reg.G.pure (i := 1) (v := _) rfl (by rfl) (by kernel_rfl) (by kernel_rfl) (by kernel_rfl) (fun _ _ _ h => hP _ _ _ _ _ h) ?hyp2 ?rehyp2
  case hyp2 => exact fun w => by first | (go_simp; done) | (go_simp; with_reducible rfl)
  simp only [Act.put, List.setIfInBounds_toArray, List.set_cons_zero, List.set_cons_succ]
  refine' Reg.G.take (i := 2) (v := _) (F := (fun w => Below Xd.heap.size Xd w)) rfl (by rfl) (by kernel_rfl) (by kernel_rfl) (by kernel_rfl) (fun _ _ _ h => hP _ _ _ _ _ h) (Below.refl Xd.heap.size Xd) ?hyp3 ?rehyp3
  case hyp3 => intro w hw; obtain ⟨t0, t1, t2, t3, t4⟩ := (HSd.out.keep hw).t; clear hw; first | (go_simp; done) | (go_simp; with_reducible rfl)
  simp only [Act.put, List.setIfInBounds_toArray, List.set_cons_zero, List.set_cons_succ]
  refine' Reg.G.take (i := 7) (v := _) (F := (fun w => Below Xd.heap.size Xd w)) rfl (by rfl) (by kernel_rfl) (by kernel_rfl) (by kernel_rfl) (fun _ _ _ h => hP _ _ _ _ _ h) (Below.refl Xd.heap.size Xd) ?hyp4 ?rehyp4
  case hyp4 => intro w hw; obtain ⟨⟨c0, c1, c2, c3⟩, c4, c5, c6, c7⟩ := (HSd.out.keep hw).c; clear hw; first | (go_simp; done) | (go_simp; with_reducible rfl)
  simp only [Act.put, List.setIfInBounds_toArray, List.set_cons_zero, List.set_cons_succ]
  refine' Reg.G.pure (i := 8) (v := _) rfl (by rfl) (by kernel_rfl) (by kernel_rfl) (by kernel_rfl) (fun _ _ _ h => hP _ _ _ _ _ h) ?hyp5 ?rehyp5
  case hyp5 => exact fun w => by first | (go_simp; done) | (go_simp; with_reducible rfl)
  simp only [Act.put, List.setIfInBounds_toArray, List.set_cons_zero, List.set_cons_succ]
  refine Reg.G.step (j := 3) (m := [true, false]) [7, 2] rfl (by kernel_rfl) rfl (by kernel_rfl) (fun K hK => ?_)
  go_simp
  obtain ⟨Y1, HY2⟩ : ∃ Y, Hid (Xd.alloc (.cells #[.int .i64 k, .int .i64 n, .int .i64 e, .bool b, .slice A kids.length cp] 31) = Y) := ⟨_, rfl⟩
  have HX4 : Hid (Below Xd.heap.size Xd Y1) := by rw [← HY2.out]; exact (Below.refl _ Xd).alloc (Nat.le_refl _) _
  have HK3 : Hid (Y1.heap[Xd.heap.size]? = some (.cells #[.int .i64 k, .int .i64 n, .int .i64 e, .bool b, .slice A kids.length cp] 31 (0, 0))) := by rw [← HY2.out]; exact blk_newn rfl
  rw [HY2.out]
  clear HY2
  have HB5 : Hid (Below Xd.heap.size Xd Y1) := (Below.refl Xd.heap.size Xd).trans (HX4.out.mono (Below.refl Xd.heap.size Xd).size)
  have HF6 := Lib.hid (tree_blk (W := Y1) [(.mk k n e b kids, .slice A kids.length cp)] (k := 4) (m := M) (e := 0) (b := false) (n := 1) (cp := 1) HK3.out rfl rfl (by decide) (by decide) (by intro x hx; simp only [List.mem_cons, List.not_mem_nil, or_false] at hx; subst hx; exact HT.out.keep (HSd.out.keep (HB5.out)).be) HWM.out (by unfold wf; decide))
  refine hK.out _ _ ⟨HB5.out, trivial⟩ ?_
  clear hK K
  simp only [Act.put, List.setIfInBounds_toArray, List.set_cons_zero, List.set_cons_succ, Reg.Kept]
  refine Reg.G.step (j := 4) (m := [true]) [7] rfl (by kernel_rfl) rfl (by kernel_rfl) (fun K hK => ?_)
  go_simp
  with_reducible refine (of_any 4 M false (some ⟨Xd.heap.size, 0, none⟩) 1 1 Y1).mono ?_
  rintro e9 Z7 ⟨rfl, hb8⟩
  have HZ9 := Lib.hid hb8
  clear hb8
  have HB10 : Hid (Below Xd.heap.size Xd Z7) := (HB5.out).trans (HZ9.out.mono (HB5.out).size)
  have HF11 := Lib.hid (HF6.out.keep HZ9.out)
  refine hK.out _ _ ⟨HB10.out, trivial⟩ ?_
  clear hK K
  simp only [Act.put, List.setIfInBounds_toArray, List.set_cons_zero, List.set_cons_succ, Reg.Kept]
  refine Reg.G.step (j := 5) (m := [true]) [7] rfl (by kernel_rfl) rfl (by kernel_rfl) (fun K hK => ?_)
  go_simp
  obtain ⟨Y12, HY13⟩ : ∃ Y, Hid (Z7.alloc (.cells #[.int .i64 4, .int .i64 M, .int .i64 0, .bool false, .slice (some ⟨Xd.heap.size, 0, none⟩) 1 1] 31) = Y) := ⟨_, rfl⟩
  have HX15 : Hid (Below Z7.heap.size Z7 Y12) := by rw [← HY13.out]; exact (Below.refl _ Z7).alloc (Nat.le_refl _) _
  have HK14 : Hid (Y12.heap[Z7.heap.size]? = some (.cells #[.int .i64 4, .int .i64 M, .int .i64 0, .bool false, .slice (some ⟨Xd.heap.size, 0, none⟩) 1 1] 31 (0, 0))) := by rw [← HY13.out]; exact blk_newn rfl
  rw [HY13.out]
  clear HY13
  have HB16 : Hid (Below Xd.heap.size Xd Y12) := (HB10.out).trans (HX15.out.mono (HB10.out).size)
  have HF17 := Lib.hid (HF11.out.keep HX15.out)
  have HF18 := Lib.hid (tree_blk (W := Y12) [(.mk 4 M 0 false [.mk k n e b kids], .slice (some ⟨Xd.heap.size, 0, none⟩) 1 1)] (k := 4) (m := N) (e := 0) (b := false) (n := 1) (cp := 1) HK14.out rfl rfl (by decide) (by decide) (by intro x hx; simp only [List.mem_cons, List.not_mem_nil, or_false] at hx; subst hx; exact HF17.out) HWN.out (by unfold wf; decide))
  refine hK.out _ _ ⟨HB16.out, trivial⟩ ?_
  clear hK K
  simp only [Act.put, List.setIfInBounds_toArray, List.set_cons_zero, List.set_cons_succ, Reg.Kept]
  refine Reg.G.step (j := 6) (m := [true]) [7] rfl (by kernel_rfl) rfl (by kernel_rfl) (fun K hK => ?_)
  go_simp
  with_reducible refine (of_any 4 N false (some ⟨Z7.heap.size, 0, none⟩) 1 1 Y12).mono ?_
  rintro e9 Z19 ⟨rfl, hb20⟩
  have HZ21 := Lib.hid hb20
  clear hb20
  have HB22 : Hid (Below Xd.heap.size Xd Z19) := (HB16.out).trans (HZ21.out.mono (HB16.out).size)
  have HF23 := Lib.hid (HF17.out.keep HZ21.out)
  have HF24 := Lib.hid (HF18.out.keep HZ21.out)
  refine hK.out _ _ ⟨HB22.out, trivial⟩ ?_
  clear hK K
  simp only [Act.put, List.setIfInBounds_toArray, List.set_cons_zero, List.set_cons_succ, Reg.Kept]
  refine Reg.G.step (j := 9) (m := [false]) [7] rfl (by kernel_rfl) rfl (by kernel_rfl) (fun K hK => ?_)
  go_simp
  refine (eval_at HG.out (HSd.out.keep (HB22.out)).be (.mk 4 N 0 false [.mk 4 M 0 false [.mk k n e b kids]], .slice (some ⟨Z7.heap.size, 0, none⟩) 1 1) HF24.out l _ (HEl.out.below (HSd.out.keep (HB22.out)).be) (cs := #[.int .i64 4, .int .i64 N, .int .i64 0, .bool false, .slice (some ⟨Z7.heap.size, 0, none⟩) 1 1]) rfl HR.out).mono ?_
  rintro e9 Z25 ⟨rfl, hb26⟩
  have HZ27 := Lib.hid hb26
  clear hb26
  have HB28 : Hid (Below Xd.heap.size Xd Z25) := (HB22.out).trans (HZ27.out.mono (HB22.out).size)
  have HF29 := Lib.hid (HF23.out.keep HZ27.out)
  have HF30 := Lib.hid (HF24.out.keep HZ27.out)
  refine hK.out _ _ trivial ?_
  clear hK K
  simp only [Act.put, List.setIfInBounds_toArray, List.set_cons_zero, List.set_cons_succ, Reg.Kept]
  refine' Reg.G.pure (i := 10) (v := _) rfl (by rfl) (by kernel_rfl) (by kernel_rfl) (by kernel_rfl) (fun _ _ _ h => hP _ _ _ _ _ h) ?hyp6 ?rehyp6
  case hyp6 => exact fun w => by first | (go_simp; done) | (go_simp; with_reducible rfl)
  simp only [Act.put, List.setIfInBounds_toArray, List.set_cons_zero, List.set_cons_succ]
  refine' Reg.G.pure (i := 11) (v := _) rfl (by rfl) (by kernel_rfl) (by kernel_rfl) (by kernel_rfl) (fun _ _ _ h => hP _ _ _ _ _ h) ?hyp7 ?rehyp7
  case hyp7 => exact fun w => by first | (go_simp; done) | (go_simp; with_reducible rfl)
  simp only [Act.put, List.setIfInBounds_toArray, List.set_cons_zero, List.set_cons_succ]
  refine' Reg.G.pure (i := 12) (v := _) rfl (by rfl) (by kernel_rfl) (by kernel_rfl) (by kernel_rfl) (fun _ _ _ h => hP _ _ _ _ _ h) ?hyp8 ?rehyp8
  case hyp8 => exact fun w => by first | (go_simp; done) | (go_simp; with_reducible rfl)
  simp only [Act.put, List.setIfInBounds_toArray, List.set_cons_zero, List.set_cons_succ]
  refine' Reg.G.pure (i := 13) (v := _) rfl (by rfl) (by kernel_rfl) (by kernel_rfl) (by kernel_rfl) (fun _ _ _ h => hP _ _ _ _ _ h) ?hyp9 ?rehyp9
  case hyp9 => exact fun w => by first | (go_simp; done) | (go_simp; with_reducible rfl)
  simp only [Act.put, List.setIfInBounds_toArray, List.set_cons_zero, List.set_cons_succ]
  refine' Reg.G.pure (i := 14) (v := _) rfl (by rfl) (by kernel_rfl) (by kernel_rfl) (by kernel_rfl) (fun _ _ _ h => hP _ _ _ _ _ h) ?hyp10 ?rehyp10
  case hyp10 => exact fun w => by first | (go_simp; done) | (go_simp; with_reducible rfl)
  simp only [Act.put, List.setIfInBounds_toArray, List.set_cons_zero, List.set_cons_succ]
  refine' Reg.G.pure (i := 15) (v := _) rfl (by rfl) (by kernel_rfl) (by kernel_rfl) (by kernel_rfl) (fun _ _ _ h => hP _ _ _ _ _ h) ?hyp11 ?rehyp11
  case hyp11 => exact fun w => by first | (go_simp; done) | (go_simp; with_reducible rfl)
  simp only [Act.put, List.setIfInBounds_toArray, List.set_cons_zero, List.set_cons_succ]
  refine' Reg.G.pure (i := 16) (v := _) rfl (by rfl) (by kernel_rfl) (by kernel_rfl) (by kernel_rfl) (fun _ _ _ h => hP _ _ _ _ _ h) ?hyp12 ?rehyp12
  case hyp12 => exact fun w => by first | (go_simp; done) | (go_simp; with_reducible rfl)
  simp only [Act.put, List.setIfInBounds_toArray, List.set_cons_zero, List.set_cons_succ]
  refine Reg.G.done (by kernel_rfl) ?_
  exact hQ _ _ _ _ _ _ _ _ _ _ _ _ _ _ _ (HSd.out.keep (HB28.out))
set_option maxRecDepth 100000 in
set_option maxHeartbeats 16000000 in
theorem sums_r7 {W X : World} {k n e : Int} {b : Bool} {kids : List Term} {A : Option Addr} {cp : Nat} {c : Cal} {hv : Value} {l : List When} {Al : Option Addr} {nl : Nat} {gt gc : Nat} {M N : Int} {d3 : Int} {k3 : Bool} {e3 : Int} {u0 u1 u3 u4 u7 u8 u9 u10 u11 u14 u15 u16 u17 u18 u19 u20 u21 u22 u23 u24 u25 u26 u27 u28 u29 u30 u31 u32 u33 u34 u35 u36 u37 u38 u39 u40 u41 u42 u43 u44 u45 u46 u47 u48 u49 u50 u51 u52 u53 u54 u55 u56 u57 u58 u59 u60 u61 u62 u63 u64 u65 u66 u67 u68 u69 u70 u71 u72 u73 u74 u75 u76 u77 u78 u79 u80 u81 u82 u83 u84 u85 u86 u87 u88 u89 u90 u91 u92 u93 u94 u95 u96 u97 u98 u99 u100 u101 u102 u103 u104 u105 u106 u107 u108 u109 u110 u111 u112 u113 u114 u115 u116 u117 u118 u119 u120 u121 u122 u123 u124 u125 u126 u127 u128 u129 u130 u131 u132 u133 u134 u135 u136 u137 u138 u139 u140 u141 u142 u143 u144 u145 u146 u147 u148 u149 u150 u151 u152 u153 u154 u155 u156 u157 u158 u159 u160 u161 u162 u163 u164 u165 u166 u167 u168 u169 u170 u171 u172 u173 u174 u175 u176 u177 u178 u179 u180 u181 u182 u183 u184 u185 u186 u187 : Value} {Q : Exit → Act → World → Prop} {C : Code} (hC : C = Cut.region Tryd.f12 7) (HG : Hid (GV W c hv)) (HT : Hid (Tree W (.mk k n e b kids) (.slice A kids.length cp))) (HEl : Hid (EvsAt W l (.slice Al l.length nl))) (HS : Hid (LS W (.mk k n e b kids, .slice A kids.length cp) c hv gt gc X)) (hM0 : 0 ≤ M) (hM1 : M ≤ 500) (hN0 : 0 ≤ N) (hN1 : N ≤ 500) (HR : Hid (eval (.mk 4 (M + N) 0 false [.mk k n e b kids]) c l = (d3, k3, e3))) (hP : Cut.Blind Q)
    (hQ : ∀ (v59 v60 v61 v62 v63 v64 v65 v66 v67 v68 v69 v70 v71 : Value) (wx : World), LS W (.mk k n e b kids, .slice A kids.length cp) c hv gt gc wx →  Q .normal ⟨#[u0, u1, .slice Al l.length nl, u3, u4, .pointer (some ⟨gt, 0, none⟩), .pointer (some ⟨gc, 0, none⟩), u7, u8, u9, u10, u11, .int .i64 M, .int .i64 N, u14, u15, u16, .int .i64 d3, .bool k3, .int .i64 e3, u20, u21, u22, u23, u24, u25, u26, u27, u28, u29, u30, u31, u32, u33, u34, u35, u36, u37, u38, u39, u40, u41, u42, u43, u44, u45, u46, u47, u48, u49, u50, u51, u52, u53, u54, u55, u56, u57, u58, v59, v60, v61, v62, v63, v64, v65, v66, v67, v68, v69, v70, v71, u72, u73, u74, u75, u76, u77, u78, u79, u80, u81, u82, u83, u84, u85, u86, u87, u88, u89, u90, u91, u92, u93, u94, u95, u96, u97, u98, u99, u100, u101, u102, u103, u104, u105, u106, u107, u108, u109, u110, u111, u112, u113, u114, u115, u116, u117, u118, u119, u120, u121, u122, u123, u124, u125, u126, u127, u128, u129, u130, u131, u132, u133, u134, u135, u136, u137, u138, u139, u140, u141, u142, u143, u144, u145, u146, u147, u148, u149, u150, u151, u152, u153, u154, u155, u156, u157, u158, u159, u160, u161, u162, u163, u164, u165, u166, u167, u168, u169, u170, u171, u172, u173, u174, u175, u176, u177, u178, u179, u180, u181, u182, u183, u184, u185, u186, u187], []⟩ wx) :
    Code.wp Tryd.prog C Q ⟨#[u0, u1, .slice Al l.length nl, u3, u4, .pointer (some ⟨gt, 0, none⟩), .pointer (some ⟨gc, 0, none⟩), u7, u8, u9, u10, u11, .int .i64 M, .int .i64 N, u14, u15, u16, u17, u18, u19, u20, u21, u22, u23, u24, u25, u26, u27, u28, u29, u30, u31, u32, u33, u34, u35, u36, u37, u38, u39, u40, u41, u42, u43, u44, u45, u46, u47, u48, u49, u50, u51, u52, u53, u54, u55, u56, u57, u58, u59, u60, u61, u62, u63, u64, u65, u66, u67, u68, u69, u70, u71, u72, u73, u74, u75, u76, u77, u78, u79, u80, u81, u82, u83, u84, u85, u86, u87, u88, u89, u90, u91, u92, u93, u94, u95, u96, u97, u98, u99, u100, u101, u102, u103, u104, u105, u106, u107, u108, u109, u110, u111, u112, u113, u114, u115, u116, u117, u118, u119, u120, u121, u122, u123, u124, u125, u126, u127, u128, u129, u130, u131, u132, u133, u134, u135, u136, u137, u138, u139, u140, u141, u142, u143, u144, u145, u146, u147, u148, u149, u150, u151, u152, u153, u154, u155, u156, u157, u158, u159, u160, u161, u162, u163, u164, u165, u166, u167, u168, u169, u170, u171, u172, u173, u174, u175, u176, u177, u178, u179, u180, u181, u182, u183, u184, u185, u186, u187], []⟩ X := by
  subst hC
  conv => arg 2; whnf
  have HWM := Lib.hid (show wf M by unfold wf; omega)
  have HWN := Lib.hid (show wf N by unfold wf; omega)
  have HWN1 := Lib.hid (show wf (N + 1) by unfold wf; omega)
  have HWS := Lib.hid (show wf (M + N) by unfold wf; omega)
  have HWS1 := Lib.hid (show wf (M + N + 1) by unfold wf; omega)
  have hwr1 : IntKind.i64.wrap (M + N) = M + N := Go.IntWalk.i64_in _ (by omega)
  have hwr2 : IntKind.i64.wrap (M + N + 1) = M + N + 1 := Go.IntWalk.i64_in _ (by omega)
  have hwr3 : IntKind.i64.wrap (N + 1) = N + 1 := Go.IntWalk.i64_in _ (by omega)
  refine Reg.G.start (by kernel_rfl) ?_
  obtain ⟨Xd, HXd⟩ : ∃ Y, Hid (X.drew = Y) := ⟨_, rfl⟩
  have HBXd : Hid (Below X.heap.size X Xd) := by rw [← HXd.out]; exact ⟨rfl, rfl, rfl, Nat.le_refl _, fun k hk => rfl⟩
  have HSd := Lib.hid (HS.out.keep HBXd.out)
  rw [HXd.out]
  clear HXd
  refine' Reg.G.pure (i := 0) (v := _) rfl (by rfl) (by kernel_rfl) (by kernel_rfl) (by kernel_rfl) (fun _ _ _ h => hP _ _ _ _ _ h) ?hyq13 ?rehyq13
  case hyq13 => exact fun w => by first | (go_simp; done) | (go_simp; with_reducible rfl)
  simp only [Act.put, List.setIfInBounds_toArray, List.set_cons_zero, List.set_cons_succ]
  refine' Reg.G.pure (i := 1) (v := _) rfl (by rfl) (by kernel_rfl) (by kernel_rfl) (by kernel_rfl) (fun _ _ _ h => hP _ _ _ _ _ h) ?hyq14 ?rehyq14
  case hyq14 => exact fun w => by first | (go_simp; done) | (go_simp; with_reducible rfl)
  simp only [Act.put, List.setIfInBounds_toArray, List.set_cons_zero, List.set_cons_succ]
  refine' Reg.G.pure (i := 2) (v := _) rfl (by rfl) (by kernel_rfl) (by kernel_rfl) (by kernel_rfl) (fun _ _ _ h => hP _ _ _ _ _ h) ?hyq15 ?rehyq15
  case hyq15 => exact fun w => by first | (go_simp; done) | (go_simp; with_reducible rfl)
  simp only [Act.put, List.setIfInBounds_toArray, List.set_cons_zero, List.set_cons_succ]
  refine' Reg.G.take (i := 3) (v := _) (F := (fun w => Below Xd.heap.size Xd w)) rfl (by rfl) (by kernel_rfl) (by kernel_rfl) (by kernel_rfl) (fun _ _ _ h => hP _ _ _ _ _ h) (Below.refl Xd.heap.size Xd) ?hyq16 ?rehyq16
  case hyq16 => intro w hw; obtain ⟨t0, t1, t2, t3, t4⟩ := (HSd.out.keep hw).t; clear hw; first | (go_simp; done) | (go_simp; with_reducible rfl)
  simp only [Act.put, List.setIfInBounds_toArray, List.set_cons_zero, List.set_cons_succ]
  refine' Reg.G.take (i := 6) (v := _) (F := (fun w => Below Xd.heap.size Xd w)) rfl (by rfl) (by kernel_rfl) (by kernel_rfl) (by kernel_rfl) (fun _ _ _ h => hP _ _ _ _ _ h) (Below.refl Xd.heap.size Xd) ?hyq17 ?rehyq17
  case hyq17 => intro w hw; obtain ⟨⟨c0, c1, c2, c3⟩, c4, c5, c6, c7⟩ := (HSd.out.keep hw).c; clear hw; first | (go_simp; done) | (go_simp; with_reducible rfl)
  simp only [Act.put, List.setIfInBounds_toArray, List.set_cons_zero, List.set_cons_succ]
  refine' Reg.G.pure (i := 7) (v := _) rfl (by rfl) (by kernel_rfl) (by kernel_rfl) (by kernel_rfl) (fun _ _ _ h => hP _ _ _ _ _ h) ?hyq18 ?rehyq18
  case hyq18 => exact fun w => by first | (go_simp; done) | (go_simp; with_reducible rfl)
  simp only [Act.put, List.setIfInBounds_toArray, List.set_cons_zero, List.set_cons_succ]
  refine Reg.G.step (j := 4) (m := [true, false]) [6, 3] rfl (by kernel_rfl) rfl (by kernel_rfl) (fun K hK => ?_)
  go_simp
  obtain ⟨Y31, HY32⟩ : ∃ Y, Hid (Xd.alloc (.cells #[.int .i64 k, .int .i64 n, .int .i64 e, .bool b, .slice A kids.length cp] 31) = Y) := ⟨_, rfl⟩
  have HX34 : Hid (Below Xd.heap.size Xd Y31) := by rw [← HY32.out]; exact (Below.refl _ Xd).alloc (Nat.le_refl _) _
  have HK33 : Hid (Y31.heap[Xd.heap.size]? = some (.cells #[.int .i64 k, .int .i64 n, .int .i64 e, .bool b, .slice A kids.length cp] 31 (0, 0))) := by rw [← HY32.out]; exact blk_newn rfl
  rw [HY32.out]
  clear HY32
  have HB35 : Hid (Below Xd.heap.size Xd Y31) := (Below.refl Xd.heap.size Xd).trans (HX34.out.mono (Below.refl Xd.heap.size Xd).size)
  have HF36 := Lib.hid (tree_blk (W := Y31) [(.mk k n e b kids, .slice A kids.length cp)] (k := 4) (m := (M + N)) (e := 0) (b := false) (n := 1) (cp := 1) HK33.out rfl rfl (by decide) (by decide) (by intro x hx; simp only [List.mem_cons, List.not_mem_nil, or_false] at hx; subst hx; exact HT.out.keep (HSd.out.keep (HB35.out)).be) HWS.out (by unfold wf; decide))
  refine hK.out _ _ ⟨HB35.out, trivial⟩ ?_
  clear hK K
  simp only [Act.put, List.setIfInBounds_toArray, List.set_cons_zero, List.set_cons_succ, Reg.Kept]
  refine Reg.G.step (j := 5) (m := [true]) [6] rfl (by kernel_rfl) rfl (by kernel_rfl) (fun K hK => ?_)
  go_simp
  with_reducible refine (of_any 4 (M + N) false (some ⟨Xd.heap.size, 0, none⟩) 1 1 Y31).mono ?_
  rintro e9 Z37 ⟨rfl, hb38⟩
  have HZ39 := Lib.hid hb38
  clear hb38
  have HB40 : Hid (Below Xd.heap.size Xd Z37) := (HB35.out).trans (HZ39.out.mono (HB35.out).size)
  have HF41 := Lib.hid (HF36.out.keep HZ39.out)
  refine hK.out _ _ ⟨HB40.out, trivial⟩ ?_
  clear hK K
  simp only [Act.put, List.setIfInBounds_toArray, List.set_cons_zero, List.set_cons_succ, Reg.Kept]
  refine Reg.G.step (j := 8) (m := [false]) [6] rfl (by kernel_rfl) rfl (by kernel_rfl) (fun K hK => ?_)
  go_simp
  refine (eval_at HG.out (HSd.out.keep (HB40.out)).be (.mk 4 (M + N) 0 false [.mk k n e b kids], .slice (some ⟨Xd.heap.size, 0, none⟩) 1 1) HF41.out l _ (HEl.out.below (HSd.out.keep (HB40.out)).be) (cs := #[.int .i64 4, .int .i64 (M + N), .int .i64 0, .bool false, .slice (some ⟨Xd.heap.size, 0, none⟩) 1 1]) rfl HR.out).mono ?_
  rintro e9 Z42 ⟨rfl, hb43⟩
  have HZ44 := Lib.hid hb43
  clear hb43
  have HB45 : Hid (Below Xd.heap.size Xd Z42) := (HB40.out).trans (HZ44.out.mono (HB40.out).size)
  have HF46 := Lib.hid (HF41.out.keep HZ44.out)
  refine hK.out _ _ trivial ?_
  clear hK K
  simp only [Act.put, List.setIfInBounds_toArray, List.set_cons_zero, List.set_cons_succ, Reg.Kept]
  refine' Reg.G.pure (i := 9) (v := _) rfl (by rfl) (by kernel_rfl) (by kernel_rfl) (by kernel_rfl) (fun _ _ _ h => hP _ _ _ _ _ h) ?hyq19 ?rehyq19
  case hyq19 => exact fun w => by first | (go_simp; done) | (go_simp; with_reducible rfl)
  simp only [Act.put, List.setIfInBounds_toArray, List.set_cons_zero, List.set_cons_succ]
  refine' Reg.G.pure (i := 10) (v := _) rfl (by rfl) (by kernel_rfl) (by kernel_rfl) (by kernel_rfl) (fun _ _ _ h => hP _ _ _ _ _ h) ?hyq20 ?rehyq20
  case hyq20 => exact fun w => by first | (go_simp; done) | (go_simp; with_reducible rfl)
  simp only [Act.put, List.setIfInBounds_toArray, List.set_cons_zero, List.set_cons_succ]
  refine' Reg.G.pure (i := 11) (v := _) rfl (by rfl) (by kernel_rfl) (by kernel_rfl) (by kernel_rfl) (fun _ _ _ h => hP _ _ _ _ _ h) ?hyq21 ?rehyq21
  case hyq21 => exact fun w => by first | (go_simp; done) | (go_simp; with_reducible rfl)
  simp only [Act.put, List.setIfInBounds_toArray, List.set_cons_zero, List.set_cons_succ]
  refine' Reg.G.pure (i := 12) (v := _) rfl (by rfl) (by kernel_rfl) (by kernel_rfl) (by kernel_rfl) (fun _ _ _ h => hP _ _ _ _ _ h) ?hyq22 ?rehyq22
  case hyq22 => exact fun w => by first | (go_simp; done) | (go_simp; with_reducible rfl)
  simp only [Act.put, List.setIfInBounds_toArray, List.set_cons_zero, List.set_cons_succ]
  refine' Reg.G.pure (i := 13) (v := _) rfl (by rfl) (by kernel_rfl) (by kernel_rfl) (by kernel_rfl) (fun _ _ _ h => hP _ _ _ _ _ h) ?hyq23 ?rehyq23
  case hyq23 => exact fun w => by first | (go_simp; done) | (go_simp; with_reducible rfl)
  simp only [Act.put, List.setIfInBounds_toArray, List.set_cons_zero, List.set_cons_succ]
  refine' Reg.G.pure (i := 14) (v := _) rfl (by rfl) (by kernel_rfl) (by kernel_rfl) (by kernel_rfl) (fun _ _ _ h => hP _ _ _ _ _ h) ?hyq24 ?rehyq24
  case hyq24 => exact fun w => by first | (go_simp; done) | (go_simp; with_reducible rfl)
  simp only [Act.put, List.setIfInBounds_toArray, List.set_cons_zero, List.set_cons_succ]
  refine' Reg.G.pure (i := 15) (v := _) rfl (by rfl) (by kernel_rfl) (by kernel_rfl) (by kernel_rfl) (fun _ _ _ h => hP _ _ _ _ _ h) ?hyq25 ?rehyq25
  case hyq25 => exact fun w => by first | (go_simp; done) | (go_simp; with_reducible rfl)
  simp only [Act.put, List.setIfInBounds_toArray, List.set_cons_zero, List.set_cons_succ]
  refine Reg.G.done (by kernel_rfl) ?_
  exact hQ _ _ _ _ _ _ _ _ _ _ _ _ _ _ (HSd.out.keep (HB45.out))
set_option maxRecDepth 100000 in
set_option maxHeartbeats 16000000 in
theorem sums_r13 {W X : World} {k n e : Int} {b : Bool} {kids : List Term} {A : Option Addr} {cp : Nat} {c : Cal} {hv : Value} {l : List When} {Al : Option Addr} {nl : Nat} {gt gc : Nat} {M N : Int} {d3 : Int} {k3 : Bool} {e3 : Int} {gs : Nat} {sv : Value} {u0 u1 u3 u4 u7 u8 u9 u10 u11 u14 u15 u16 u17 u18 u19 u21 u22 u23 u24 u25 u26 u27 u28 u29 u30 u31 u32 u33 u34 u35 u36 u37 u38 u39 u40 u41 u42 u43 u44 u45 u46 u47 u48 u49 u50 u51 u52 u53 u54 u55 u56 u57 u58 u59 u60 u61 u62 u63 u64 u65 u66 u67 u68 u69 u70 u71 u72 u73 u74 u75 u76 u77 u78 u79 u80 u81 u82 u83 u84 u85 u86 u87 u88 u89 u90 u91 u92 u93 u94 u95 u96 u97 u98 u99 u100 u101 u102 u103 u104 u105 u106 u107 u108 u109 u110 u111 u112 u113 u114 u115 u116 u117 u118 u119 u120 u121 u122 u123 u124 u125 u126 u127 u128 u129 u130 u131 u132 u133 u134 u135 u136 u137 u138 u139 u140 u141 u142 u143 u144 u145 u146 u147 u148 u149 u150 u151 u152 u153 u154 u155 u156 u157 u158 u159 u160 u161 u162 u163 u164 u165 u166 u167 u168 u169 u170 u171 u172 u173 u174 u175 u176 u177 u178 u179 u180 u181 u182 u183 u184 u185 u186 u187 : Value} {Q : Exit → Act → World → Prop} {C : Code} (hC : C = Cut.region Tryd.f12 13) (HG : Hid (GV W c hv)) (HT : Hid (Tree W (.mk k n e b kids) (.slice A kids.length cp))) (HEl : Hid (EvsAt W l (.slice Al l.length nl))) (HS : Hid (SS W (.mk k n e b kids, .slice A kids.length cp) c hv gt gc gs sv (.mk 6 0 0 false [.mk k n e b kids]) X)) (hM0 : 0 ≤ M) (hM1 : M ≤ 500) (hN0 : 0 ≤ N) (hN1 : N ≤ 500) (HR : Hid (eval (.mk 4 (N + 1) 0 true [.mk 4 M 0 true [.mk 6 0 0 false [.mk k n e b kids]]]) c l = (d3, k3, e3))) (hP : Cut.Blind Q)
    (hQ : ∀ (v86 v87 v88 v89 v90 v91 v92 v93 v94 v95 v96 v97 v98 v99 v100 : Value) (wx : World), SS W (.mk k n e b kids, .slice A kids.length cp) c hv gt gc gs sv (.mk 6 0 0 false [.mk k n e b kids]) wx →  Q .normal ⟨#[u0, u1, .slice Al l.length nl, u3, u4, .pointer (some ⟨gt, 0, none⟩), .pointer (some ⟨gc, 0, none⟩), u7, u8, u9, u10, u11, .int .i64 M, .int .i64 N, u14, u15, u16, u17, u18, u19, .pointer (some ⟨gs, 0, none⟩), .int .i64 d3, .bool k3, .int .i64 e3, u24, u25, u26, u27, u28, u29, u30, u31, u32, u33, u34, u35, u36, u37, u38, u39, u40, u41, u42, u43, u44, u45, u46, u47, u48, u49, u50, u51, u52, u53, u54, u55, u56, u57, u58, u59, u60, u61, u62, u63, u64, u65, u66, u67, u68, u69, u70, u71, u72, u73, u74, u75, u76, u77, u78, u79, u80, u81, u82, u83, u84, u85, v86, v87, v88, v89, v90, v91, v92, v93, v94, v95, v96, v97, v98, v99, v100, u101, u102, u103, u104, u105, u106, u107, u108, u109, u110, u111, u112, u113, u114, u115, u116, u117, u118, u119, u120, u121, u122, u123, u124, u125, u126, u127, u128, u129, u130, u131, u132, u133, u134, u135, u136, u137, u138, u139, u140, u141, u142, u143, u144, u145, u146, u147, u148, u149, u150, u151, u152, u153, u154, u155, u156, u157, u158, u159, u160, u161, u162, u163, u164, u165, u166, u167, u168, u169, u170, u171, u172, u173, u174, u175, u176, u177, u178, u179, u180, u181, u182, u183, u184, u185, u186, u187], []⟩ wx) :
    Code.wp Tryd.prog C Q ⟨#[u0, u1, .slice Al l.length nl, u3, u4, .pointer (some ⟨gt, 0, none⟩), .pointer (some ⟨gc, 0, none⟩), u7, u8, u9, u10, u11, .int .i64 M, .int .i64 N, u14, u15, u16, u17, u18, u19, .pointer (some ⟨gs, 0, none⟩), u21, u22, u23, u24, u25, u26, u27, u28, u29, u30, u31, u32, u33, u34, u35, u36, u37, u38, u39, u40, u41, u42, u43, u44, u45, u46, u47, u48, u49, u50, u51, u52, u53, u54, u55, u56, u57, u58, u59, u60, u61, u62, u63, u64, u65, u66, u67, u68, u69, u70, u71, u72, u73, u74, u75, u76, u77, u78, u79, u80, u81, u82, u83, u84, u85, u86, u87, u88, u89, u90, u91, u92, u93, u94, u95, u96, u97, u98, u99, u100, u101, u102, u103, u104, u105, u106, u107, u108, u109, u110, u111, u112, u113, u114, u115, u116, u117, u118, u119, u120, u121, u122, u123, u124, u125, u126, u127, u128, u129, u130, u131, u132, u133, u134, u135, u136, u137, u138, u139, u140, u141, u142, u143, u144, u145, u146, u147, u148, u149, u150, u151, u152, u153, u154, u155, u156, u157, u158, u159, u160, u161, u162, u163, u164, u165, u166, u167, u168, u169, u170, u171, u172, u173, u174, u175, u176, u177, u178, u179, u180, u181, u182, u183, u184, u185, u186, u187], []⟩ X := by
  subst hC
  conv => arg 2; whnf
  have HWM := Lib.hid (show wf M by unfold wf; omega)
  have HWN := Lib.hid (show wf N by unfold wf; omega)
  have HWN1 := Lib.hid (show wf (N + 1) by unfold wf; omega)
  have HWS := Lib.hid (show wf (M + N) by unfold wf; omega)
  have HWS1 := Lib.hid (show wf (M + N + 1) by unfold wf; omega)
  have hwr1 : IntKind.i64.wrap (M + N) = M + N := Go.IntWalk.i64_in _ (by omega)
  have hwr2 : IntKind.i64.wrap (M + N + 1) = M + N + 1 := Go.IntWalk.i64_in _ (by omega)
  have hwr3 : IntKind.i64.wrap (N + 1) = N + 1 := Go.IntWalk.i64_in _ (by omega)
  refine Reg.G.start (by kernel_rfl) ?_
  obtain ⟨Xd, HXd⟩ : ∃ Y, Hid (X.drew = Y) := ⟨_, rfl⟩
  have HBXd : Hid (Below X.heap.size X Xd) := by rw [← HXd.out]; exact ⟨rfl, rfl, rfl, Nat.le_refl _, fun k hk => rfl⟩
  have HSd := Lib.hid (HS.out.keep HBXd.out)
  rw [HXd.out]
  clear HXd
  refine' Reg.G.pure (i := 0) (v := _) rfl (by rfl) (by kernel_rfl) (by kernel_rfl) (by kernel_rfl) (fun _ _ _ h => hP _ _ _ _ _ h) ?hyr26 ?rehyr26
  case hyr26 => exact fun w => by first | (go_simp; done) | (go_simp; with_reducible rfl)
  simp only [Act.put, List.setIfInBounds_toArray, List.set_cons_zero, List.set_cons_succ]
  refine' Reg.G.pure (i := 1) (v := _) rfl (by rfl) (by kernel_rfl) (by kernel_rfl) (by kernel_rfl) (fun _ _ _ h => hP _ _ _ _ _ h) ?hyr27 ?rehyr27
  case hyr27 => exact fun w => by first | (go_simp; done) | (go_simp; with_reducible rfl)
  simp only [Act.put, List.setIfInBounds_toArray, List.set_cons_zero, List.set_cons_succ]
  refine' Reg.G.pure (i := 2) (v := _) rfl (by rfl) (by kernel_rfl) (by kernel_rfl) (by kernel_rfl) (fun _ _ _ h => hP _ _ _ _ _ h) ?hyr28 ?rehyr28
  case hyr28 => exact fun w => by first | (go_simp; done) | (go_simp; with_reducible rfl)
  simp only [Act.put, List.setIfInBounds_toArray, List.set_cons_zero, List.set_cons_succ]
  refine' Reg.G.take (i := 3) (v := _) (F := (fun w => Below Xd.heap.size Xd w)) rfl (by rfl) (by kernel_rfl) (by kernel_rfl) (by kernel_rfl) (fun _ _ _ h => hP _ _ _ _ _ h) (Below.refl Xd.heap.size Xd) ?hyr29 ?rehyr29
  case hyr29 => intro w hw; obtain ⟨z0, z1, z2, z3, z4⟩ := (HSd.out.keep hw).s; clear hw; first | (go_simp; done) | (go_simp; with_reducible rfl)
  simp only [Act.put, List.setIfInBounds_toArray, List.set_cons_zero, List.set_cons_succ]
  refine' Reg.G.take (i := 8) (v := _) (F := (fun w => Below Xd.heap.size Xd w)) rfl (by rfl) (by kernel_rfl) (by kernel_rfl) (by kernel_rfl) (fun _ _ _ h => hP _ _ _ _ _ h) (Below.refl Xd.heap.size Xd) ?hyr30 ?rehyr30
  case hyr30 => intro w hw; obtain ⟨⟨c0, c1, c2, c3⟩, c4, c5, c6, c7⟩ := (HSd.out.keep hw).ls.c; clear hw; first | (go_simp; done) | (go_simp; with_reducible rfl)
  simp only [Act.put, List.setIfInBounds_toArray, List.set_cons_zero, List.set_cons_succ]
  refine' Reg.G.pure (i := 9) (v := _) rfl (by rfl) (by kernel_rfl) (by kernel_rfl) (by kernel_rfl) (fun _ _ _ h => hP _ _ _ _ _ h) ?hyr31 ?rehyr31
  case hyr31 => exact fun w => by first | (go_simp; done) | (go_simp; with_reducible rfl)
  simp only [Act.put, List.setIfInBounds_toArray, List.set_cons_zero, List.set_cons_succ]
  refine Reg.G.step (j := 4) (m := [true, false]) [8, 3] rfl (by kernel_rfl) rfl (by kernel_rfl) (fun K hK => ?_)
  go_simp
  obtain ⟨Y47, HY48⟩ : ∃ Y, Hid (Xd.alloc (.cells #[.int .i64 6, .int .i64 0, .int .i64 0, .bool false, sv] 31) = Y) := ⟨_, rfl⟩
  have HX50 : Hid (Below Xd.heap.size Xd Y47) := by rw [← HY48.out]; exact (Below.refl _ Xd).alloc (Nat.le_refl _) _
  have HK49 : Hid (Y47.heap[Xd.heap.size]? = some (.cells #[.int .i64 6, .int .i64 0, .int .i64 0, .bool false, sv] 31 (0, 0))) := by rw [← HY48.out]; exact blk_newn rfl
  rw [HY48.out]
  clear HY48
  have HB51 : Hid (Below Xd.heap.size Xd Y47) := (Below.refl Xd.heap.size Xd).trans (HX50.out.mono (Below.refl Xd.heap.size Xd).size)
  have HF52 := Lib.hid (tree_blk (W := Y47) [(.mk 6 0 0 false [.mk k n e b kids], sv)] (k := 4) (m := M) (e := 0) (b := true) (n := 1) (cp := 1) HK49.out rfl rfl (by decide) (by decide) (by intro x hx; simp only [List.mem_cons, List.not_mem_nil, or_false] at hx; subst hx; exact (HSd.out.keep (HB51.out)).tr) HWM.out (by unfold wf; decide))
  refine hK.out _ _ ⟨HB51.out, trivial⟩ ?_
  clear hK K
  simp only [Act.put, List.setIfInBounds_toArray, List.set_cons_zero, List.set_cons_succ, Reg.Kept]
  refine Reg.G.step (j := 5) (m := [true]) [8] rfl (by kernel_rfl) rfl (by kernel_rfl) (fun K hK => ?_)
  go_simp
  with_reducible refine (of_any 4 M true (some ⟨Xd.heap.size, 0, none⟩) 1 1 Y47).mono ?_
  rintro e9 Z53 ⟨rfl, hb54⟩
  have HZ55 := Lib.hid hb54
  clear hb54
  have HB56 : Hid (Below Xd.heap.size Xd Z53) := (HB51.out).trans (HZ55.out.mono (HB51.out).size)
  have HF57 := Lib.hid (HF52.out.keep HZ55.out)
  refine hK.out _ _ ⟨HB56.out, trivial⟩ ?_
  clear hK K
  simp only [Act.put, List.setIfInBounds_toArray, List.set_cons_zero, List.set_cons_succ, Reg.Kept]
  refine Reg.G.step (j := 6) (m := [true]) [8] rfl (by kernel_rfl) rfl (by kernel_rfl) (fun K hK => ?_)
  go_simp
  obtain ⟨Y58, HY59⟩ : ∃ Y, Hid (Z53.alloc (.cells #[.int .i64 4, .int .i64 M, .int .i64 0, .bool true, .slice (some ⟨Xd.heap.size, 0, none⟩) 1 1] 31) = Y) := ⟨_, rfl⟩
  have HX61 : Hid (Below Z53.heap.size Z53 Y58) := by rw [← HY59.out]; exact (Below.refl _ Z53).alloc (Nat.le_refl _) _
  have HK60 : Hid (Y58.heap[Z53.heap.size]? = some (.cells #[.int .i64 4, .int .i64 M, .int .i64 0, .bool true, .slice (some ⟨Xd.heap.size, 0, none⟩) 1 1] 31 (0, 0))) := by rw [← HY59.out]; exact blk_newn rfl
  rw [HY59.out]
  clear HY59
  have HB62 : Hid (Below Xd.heap.size Xd Y58) := (HB56.out).trans (HX61.out.mono (HB56.out).size)
  have HF63 := Lib.hid (HF57.out.keep HX61.out)
  have HF64 := Lib.hid (tree_blk (W := Y58) [(.mk 4 M 0 true [.mk 6 0 0 false [.mk k n e b kids]], .slice (some ⟨Xd.heap.size, 0, none⟩) 1 1)] (k := 4) (m := (N + 1)) (e := 0) (b := true) (n := 1) (cp := 1) HK60.out rfl rfl (by decide) (by decide) (by intro x hx; simp only [List.mem_cons, List.not_mem_nil, or_false] at hx; subst hx; exact HF63.out) HWN1.out (by unfold wf; decide))
  refine hK.out _ _ ⟨HB62.out, trivial⟩ ?_
  clear hK K
  simp only [Act.put, List.setIfInBounds_toArray, List.set_cons_zero, List.set_cons_succ, Reg.Kept]
  refine Reg.G.step (j := 7) (m := [true]) [8] rfl (by kernel_rfl) rfl (by kernel_rfl) (fun K hK => ?_)
  go_simp
  with_reducible refine (of_any 4 (N + 1) true (some ⟨Z53.heap.size, 0, none⟩) 1 1 Y58).mono ?_
  rintro e9 Z65 ⟨rfl, hb66⟩
  have HZ67 := Lib.hid hb66
  clear hb66
  have HB68 : Hid (Below Xd.heap.size Xd Z65) := (HB62.out).trans (HZ67.out.mono (HB62.out).size)
  have HF69 := Lib.hid (HF63.out.keep HZ67.out)
  have HF70 := Lib.hid (HF64.out.keep HZ67.out)
  refine hK.out _ _ ⟨HB68.out, trivial⟩ ?_
  clear hK K
  simp only [Act.put, List.setIfInBounds_toArray, List.set_cons_zero, List.set_cons_succ, Reg.Kept]
  refine Reg.G.step (j := 10) (m := [false]) [8] rfl (by kernel_rfl) rfl (by kernel_rfl) (fun K hK => ?_)
  go_simp
  refine (eval_at HG.out (HSd.out.keep (HB68.out)).ls.be (.mk 4 (N + 1) 0 true [.mk 4 M 0 true [.mk 6 0 0 false [.mk k n e b kids]]], .slice (some ⟨Z53.heap.size, 0, none⟩) 1 1) HF70.out l _ (HEl.out.below (HSd.out.keep (HB68.out)).ls.be) (cs := #[.int .i64 4, .int .i64 (N + 1), .int .i64 0, .bool true, .slice (some ⟨Z53.heap.size, 0, none⟩) 1 1]) rfl HR.out).mono ?_
  rintro e9 Z71 ⟨rfl, hb72⟩
  have HZ73 := Lib.hid hb72
  clear hb72
  have HB74 : Hid (Below Xd.heap.size Xd Z71) := (HB68.out).trans (HZ73.out.mono (HB68.out).size)
  have HF75 := Lib.hid (HF69.out.keep HZ73.out)
  have HF76 := Lib.hid (HF70.out.keep HZ73.out)
  refine hK.out _ _ trivial ?_
  clear hK K
  simp only [Act.put, List.setIfInBounds_toArray, List.set_cons_zero, List.set_cons_succ, Reg.Kept]
  refine' Reg.G.pure (i := 11) (v := _) rfl (by rfl) (by kernel_rfl) (by kernel_rfl) (by kernel_rfl) (fun _ _ _ h => hP _ _ _ _ _ h) ?hyr32 ?rehyr32
  case hyr32 => exact fun w => by first | (go_simp; done) | (go_simp; with_reducible rfl)
  simp only [Act.put, List.setIfInBounds_toArray, List.set_cons_zero, List.set_cons_succ]
  refine' Reg.G.pure (i := 12) (v := _) rfl (by rfl) (by kernel_rfl) (by kernel_rfl) (by kernel_rfl) (fun _ _ _ h => hP _ _ _ _ _ h) ?hyr33 ?rehyr33
  case hyr33 => exact fun w => by first | (go_simp; done) | (go_simp; with_reducible rfl)
  simp only [Act.put, List.setIfInBounds_toArray, List.set_cons_zero, List.set_cons_succ]
  refine' Reg.G.pure (i := 13) (v := _) rfl (by rfl) (by kernel_rfl) (by kernel_rfl) (by kernel_rfl) (fun _ _ _ h => hP _ _ _ _ _ h) ?hyr34 ?rehyr34
  case hyr34 => exact fun w => by first | (go_simp; done) | (go_simp; with_reducible rfl)
  simp only [Act.put, List.setIfInBounds_toArray, List.set_cons_zero, List.set_cons_succ]
  refine' Reg.G.pure (i := 14) (v := _) rfl (by rfl) (by kernel_rfl) (by kernel_rfl) (by kernel_rfl) (fun _ _ _ h => hP _ _ _ _ _ h) ?hyr35 ?rehyr35
  case hyr35 => exact fun w => by first | (go_simp; done) | (go_simp; with_reducible rfl)
  simp only [Act.put, List.setIfInBounds_toArray, List.set_cons_zero, List.set_cons_succ]
  refine' Reg.G.pure (i := 15) (v := _) rfl (by rfl) (by kernel_rfl) (by kernel_rfl) (by kernel_rfl) (fun _ _ _ h => hP _ _ _ _ _ h) ?hyr36 ?rehyr36
  case hyr36 => exact fun w => by first | (go_simp; done) | (go_simp; with_reducible rfl)
  simp only [Act.put, List.setIfInBounds_toArray, List.set_cons_zero, List.set_cons_succ]
  refine' Reg.G.pure (i := 16) (v := _) rfl (by rfl) (by kernel_rfl) (by kernel_rfl) (by kernel_rfl) (fun _ _ _ h => hP _ _ _ _ _ h) ?hyr37 ?rehyr37
  case hyr37 => exact fun w => by first | (go_simp; done) | (go_simp; with_reducible rfl)
  simp only [Act.put, List.setIfInBounds_toArray, List.set_cons_zero, List.set_cons_succ]
  refine' Reg.G.pure (i := 17) (v := _) rfl (by rfl) (by kernel_rfl) (by kernel_rfl) (by kernel_rfl) (fun _ _ _ h => hP _ _ _ _ _ h) ?hyr38 ?rehyr38
  case hyr38 => exact fun w => by first | (go_simp; done) | (go_simp; with_reducible rfl)
  simp only [Act.put, List.setIfInBounds_toArray, List.set_cons_zero, List.set_cons_succ]
  refine Reg.G.done (by kernel_rfl) ?_
  exact hQ _ _ _ _ _ _ _ _ _ _ _ _ _ _ _ _ (HSd.out.keep (HB74.out))
end Go.Proofs.YticlmkfifpkdpaaDoor.Dl
