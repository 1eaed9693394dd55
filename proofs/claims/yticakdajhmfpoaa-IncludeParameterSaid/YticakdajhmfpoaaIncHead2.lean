/-
  Include: the example of the statements answers true.
-/
import Derived.Test.YticakdajhmfpoaaIncHead
import Derived.Test.YticakdajhmfpoaaIncSame
import Derived.Test.YticakdajhmfpoaaCut
import Derived.Test.YticakdajhmfpoaaReg2
import Derived.Laws.StructEq
namespace Go.Proofs.Yticakdajhmfpoaa.Ic
open Go.RowKit Mem Vw Rs
set_option linter.unusedVariables false
set_option linter.unusedSimpArgs false

/-- What head holds behind its first call. -/
structure H5 (W : World) (g5 : Nat) (iv : Value) (ds : List DT) (X : World) : Prop where
  hi : HI W X
  lo : W.heap.size + 6 ≤ g5
  b : X.heap[g5]? = some (.cells (scells [] ⟨0, 0, 0⟩ 0 iv).toArray 26 (0, 0))
  lay : LayL (fun g => W.heap.size + 6 ≤ g ∧ g ≠ g5) X ds iv
  tr : ds.map DT.tree = [.node payO [], .node giveO []]
theorem H5.keep {W : World} {g5 : Nat} {iv : Value} {ds : List DT} {X X' : World} (h : H5 W g5 iv ds X) (hf : Fr (fun _ => False) X X') : H5 W g5 iv ds X' :=
  ⟨h.hi.keep hf (fun _ _ h => h), h.lo, hf.blk h.b (fun h => h), h.lay.fr hf (fun _ _ h => h), h.tr⟩
def V5 (W : World) (v5 v6 : Value) (X : World) : Prop := ∃ g5 iv ds A c, v5 = .pointer (some ⟨g5, 0, none⟩) ∧ v6 = .slice A 0 c ∧ H5 W g5 iv ds X
theorem V5.keep {W : World} {v5 v6 : Value} {X X' : World} (h : V5 W v5 v6 X) (hf : Fr (fun _ => False) X X') : V5 W v5 v6 X' := by
  obtain ⟨g5, iv, ds, A, c, h1, h2, h3⟩ := h
  exact ⟨g5, iv, ds, A, c, h1, h2, h3.keep hf⟩
theorem V5.hi {W : World} {v5 v6 : Value} {X : World} (h : V5 W v5 v6 X) : HI W X := by
  obtain ⟨g5, iv, ds, A, c, h1, h2, h3⟩ := h
  exact h3.hi
def V6 (W : World) (v5 v6 v8 : Value) (X : World) : Prop := V5 W v5 v6 X ∧ RowB All X v8 2 [[.int .i64 1, .int .i64 8], [.int .i64 8, .int .i64 9]]
def V9 (x y : DT) (v9 v10 : Value) (X X' : World) : Prop := ∃ g9 g10, v9 = .pointer (some ⟨g9, 0, none⟩) ∧ v10 = .pointer (some ⟨g10, 0, none⟩) ∧ Fr (fun _ => False) X X' ∧ X'.heap[g9]? = some (.cells x.cells.toArray 41 (0, 0)) ∧ X'.heap[g10]? = some (.cells y.cells.toArray 41 (0, 0))
theorem one_src0 (A : Option Addr) (k c : Nat) : (scells [] ⟨0, 0, 0⟩ 0 (.slice A k c)).toArray.all (·.oneCell') = true := one_src _ _ _ _ _ _
theorem build_src (v : Value) (hv : ∃ A n c, v = .slice A n c) (w : World) : (Instr.build 26 #[(3, v)]).run Try.prog w = .ok (.agg (scells [] ⟨0, 0, 0⟩ 0 v).toArray) w := by
  obtain ⟨A, n, c, rfl⟩ := hv
  kernel_rfl
set_option maxRecDepth 100000 in
set_option maxHeartbeats 16000000 in
theorem head_r5 {W X : World} {u0 u3 u4 u5 u6 u7 u8 u9 u10 u11 u12 u13 u14 u15 u16 u17 u18 u19 u20 u21 u22 u23 u24 u25 u26 u27 u28 u29 u30 u31 u32 u33 u34 u35 u36 u37 u38 u39 u40 u41 u42 u43 u44 u45 u46 u47 u48 u49 u50 u51 u52 u53 u54 u55 u56 u57 u58 u59 u60 u61 u62 u63 u64 u65 u66 u67 u68 u69 u70 u71 u72 u73 u74 u75 u76 u77 u78 u79 u80 u81 u82 u83 u84 u85 u86 u87 u88 u89 u90 u91 u92 u93 u94 u95 u96 u97 u98 u99 u100 u101 u102 u103 u104 u105 u106 u107 u108 u109 u110 u111 u112 u113 u114 u115 u116 u117 u118 u119 u120 u121 u122 u123 u124 u125 u126 : Value} {Q : Exit → Act → World → Prop} {C : Code} (hC : C = Cut.region Try.f9 5) (hi : HI W X) (hP : Cut.Blind Q)
    (hQ : ∀ (v5 v6 v19 v20 v21 v22 v23 v24 v25 v26 v27 : Value) (wx : World), V5 W v5 v6 wx → Q .normal ⟨#[u0, .pointer (some ⟨W.heap.size, 0, none⟩), .pointer (some ⟨W.heap.size + 2, 0, none⟩), u3, u4, v5, v6, u7, u8, u9, u10, u11, u12, u13, u14, u15, u16, u17, u18, v19, v20, v21, v22, v23, v24, v25, v26, v27, u28, u29, u30, u31, u32, u33, u34, u35, u36, u37, u38, u39, u40, u41, u42, u43, u44, u45, u46, u47, u48, u49, u50, u51, u52, u53, u54, u55, u56, u57, u58, u59, u60, u61, u62, u63, u64, u65, u66, u67, u68, u69, u70, u71, u72, u73, u74, u75, u76, u77, u78, u79, u80, u81, u82, u83, u84, u85, u86, u87, u88, u89, u90, u91, u92, u93, u94, u95, u96, u97, u98, u99, u100, u101, u102, u103, u104, u105, u106, u107, u108, u109, u110, u111, u112, u113, u114, u115, u116, u117, u118, u119, u120, u121, u122, u123, u124, u125, u126], []⟩ wx) :
    Code.wp Try.prog C Q ⟨#[u0, .pointer (some ⟨W.heap.size, 0, none⟩), .pointer (some ⟨W.heap.size + 2, 0, none⟩), u3, u4, u5, u6, u7, u8, u9, u10, u11, u12, u13, u14, u15, u16, u17, u18, u19, u20, u21, u22, u23, u24, u25, u26, u27, u28, u29, u30, u31, u32, u33, u34, u35, u36, u37, u38, u39, u40, u41, u42, u43, u44, u45, u46, u47, u48, u49, u50, u51, u52, u53, u54, u55, u56, u57, u58, u59, u60, u61, u62, u63, u64, u65, u66, u67, u68, u69, u70, u71, u72, u73, u74, u75, u76, u77, u78, u79, u80, u81, u82, u83, u84, u85, u86, u87, u88, u89, u90, u91, u92, u93, u94, u95, u96, u97, u98, u99, u100, u101, u102, u103, u104, u105, u106, u107, u108, u109, u110, u111, u112, u113, u114, u115, u116, u117, u118, u119, u120, u121, u122, u123, u124, u125, u126], []⟩ X := by
  subst hC
  conv => arg 2; whnf
  refine Reg.G.start (by kernel_rfl) ?_
  obtain ⟨Xd, HXd⟩ : ∃ Y, Hid (X.drew = Y) := ⟨_, rfl⟩
  have HFD : Hid (Fr (fun _ => False) X Xd) := by rw [← HXd.out]; exact (Fr.refl _ X).drew
  have HI0 : Hid (HI W Xd) := hi.keep HFD.out (fun _ _ h => h)
  rw [HXd.out]
  clear HXd
  refine' Reg.G.take (i := 0) (v := _) (F := (fun w => HI W w)) rfl (by rfl) (by kernel_rfl) (by kernel_rfl) (by kernel_rfl) (fun _ _ _ h => hP _ _ _ _ _ h) (HI0.out) ?hyp1 ?rehyp1
  case hyp1 => intro w hw; refine run_load_row (P := Try.prog) 41 (.tmp 2) ?_ (W.heap.size + 2) ?_ 41 (goodD (W.heap.size + 1)).cells.toArray _ hw.g Try.underlying41 rfl (info_it (goodD (W.heap.size + 1))) <;> rfl
  simp only [Act.put, List.setIfInBounds_toArray, List.set_cons_zero, List.set_cons_succ]
  refine' Reg.G.take (i := 2) (v := _) (F := (fun w => HI W w)) rfl (by rfl) (by kernel_rfl) (by kernel_rfl) (by kernel_rfl) (fun _ _ _ h => hP _ _ _ _ _ h) (HI0.out) ?hyp2 ?rehyp2
  case hyp2 => intro w hw; refine run_load_row (P := Try.prog) 41 (.tmp 1) ?_ W.heap.size ?_ 41 termD.cells.toArray _ hw.t Try.underlying41 rfl (info_it termD) <;> rfl
  simp only [Act.put, List.setIfInBounds_toArray, List.set_cons_zero, List.set_cons_succ]
  refine Reg.G.two (j1 := 1) (j2 := 9) (m1 := [true, true]) (m2 := [true, true]) [2, 0] rfl rfl (by kernel_rfl) rfl (by kernel_rfl) (by kernel_rfl) (fun K hK => ?_) (fun K hK => ?_)
  · go_simp
    refine (sale_any _).mono ?_
    rintro e y1 ⟨rfl, hs1, hf1⟩
    have hf1 := Lib.hid hf1
    obtain ⟨n, hn⟩ : ∃ n, Xd.heap.size = n := ⟨_, rfl⟩
    rw [hn] at hs1
    rw [hn]
    have hnl : W.heap.size ≤ n := by have := (HI0.out).size; omega
    have K2 : Hid (HI W y1) := HI0.out.keep hf1.out (fun _ _ h => h)
    have K3 : Hid (Lay (fun g => W.heap.size ≤ g) y1 (saleD n)) := hs1.mono (fun g _ hg => by omega)
    clear hs1 hf1 hn hnl
    refine hK.out _ _ ⟨K2.out, K2.out, trivial⟩ ?_
    clear hK K
    simp only [Act.put, List.setIfInBounds_toArray, List.set_cons_zero, List.set_cons_succ, Reg.Kept]
    refine Reg.G.two (j1 := 3) (j2 := 9) (m1 := [false, false]) (m2 := [true, true]) [2, 0] rfl rfl (by kernel_rfl) rfl (by kernel_rfl) (by kernel_rfl) (fun K hK => ?_) (fun K hK => ?_)
    · refine wp_bsl 24 3 _ rfl #[(0, .agg (goodD (W.heap.size + 1)).cells.toArray), (1, .agg (saleD n).cells.toArray), (2, .agg termD.cells.toArray)] (by go_simp) (.slice (some ⟨y1.heap.size, 0, none⟩) 3 3) (y1.alloc (.cells ([goodD (W.heap.size + 1), saleD n, termD].map DT.cells).flatten.toArray 41)) ?hb4 ?hq4
      case hb4 => exact bsl_3 _ _ _
      obtain ⟨y4, hu4⟩ : ∃ u, y1.alloc (.cells ([goodD (W.heap.size + 1), saleD n, termD].map DT.cells).flatten.toArray 41) = u := ⟨_, rfl⟩
      rw [hu4]
      have hf4 : Hid (Fr (fun _ => False) y1 y4) := by rw [← hu4]; exact (Fr.refl _ y1).alloc _
      obtain ⟨gl, hgl⟩ : ∃ gl, y1.heap.size = gl := ⟨_, rfl⟩
      rw [hgl]
      have K5 : Hid (HI W y4) := K2.out.keep hf4.out (fun _ _ h => h)
      have K6 : Hid (Lay (fun g => W.heap.size ≤ g) y4 (saleD n)) := K3.out.fr hf4.out (fun _ _ h => h)
      have K7 : Hid (y4.heap[gl]? = some (.cells ([goodD (W.heap.size + 1), saleD n, termD].map DT.cells).flatten.toArray 41 (0, 0))) := by rw [← hu4, ← hgl]; exact blk_newn rfl
      clear hu4 hgl
      refine hK.out _ _ trivial ?_
      clear hK K
      simp only [Act.put, List.setIfInBounds_toArray, List.set_cons_zero, List.set_cons_succ, Reg.Kept]
      refine' Reg.G.pure (i := 4) (v := .agg (scells [] ⟨0, 0, 0⟩ 0 (.slice (some ⟨gl, 0, none⟩) 3 3)).toArray) rfl (by rfl) (by kernel_rfl) (by kernel_rfl) (by kernel_rfl) (fun _ _ _ h => hP _ _ _ _ _ h) ?hyp3 ?rehyp3
      case hyp3 => exact fun w => by go_simp; rfl
      simp only [Act.put, List.setIfInBounds_toArray, List.set_cons_zero, List.set_cons_succ]
      refine Reg.G.two (j1 := 5) (j2 := 9) (m1 := []) (m2 := []) [] rfl rfl (by kernel_rfl) rfl (by kernel_rfl) (by kernel_rfl) (fun K hK => ?_) (fun K hK => ?_)
      · go_simp
        refine (call1 W _ n gl K5.out K6.out K7.out).mono ?_
        rintro e y8 ⟨iv, A6, c6, ds, rfl, hd1, hd2, hd3⟩
        obtain ⟨Ai, ci, hiv, _, _⟩ := hd2.slice
        subst hiv
        have hf8 := Lib.hid hd3
        have hlo : W.heap.size + 6 ≤ y4.heap.size := (K5.out).size
        have K9 : Hid (HI W y8) := K5.out.keep hf8.out (fun _ _ h => h)
        have HTR := Lib.hid hd1
        have K10 : Hid (LayL (fun g => W.heap.size + 6 ≤ g) y8 ds (.slice Ai ds.length ci)) := hd2.mono (fun g _ hg => by omega)
        clear hd1 hd3 hlo hd2
        refine hK.out _ _ trivial ?_
        clear hK K
        simp only [Act.put, List.setIfInBounds_toArray, List.set_cons_zero, List.set_cons_succ, Reg.Kept]
        refine' Reg.G.pure (i := 6) (v := _) rfl (by rfl) (by kernel_rfl) (by kernel_rfl) (by kernel_rfl) (fun _ _ _ h => hP _ _ _ _ _ h) ?hyp4 ?rehyp4
        case hyp4 => exact fun w => by first | (go_simp; done) | (go_simp; with_reducible rfl)
        simp only [Act.put, List.setIfInBounds_toArray, List.set_cons_zero, List.set_cons_succ]
        refine' Reg.G.pure (i := 7) (v := _) rfl (by rfl) (by kernel_rfl) (by kernel_rfl) (by kernel_rfl) (fun _ _ _ h => hP _ _ _ _ _ h) ?hyp5 ?rehyp5
        case hyp5 => exact fun w => by first | (go_simp; done) | (go_simp; with_reducible rfl)
        simp only [Act.put, List.setIfInBounds_toArray, List.set_cons_zero, List.set_cons_succ]
        refine' Reg.G.pure (i := 8) (v := _) rfl (by rfl) (by kernel_rfl) (by kernel_rfl) (by kernel_rfl) (fun _ _ _ h => hP _ _ _ _ _ h) ?hyp6 ?rehyp6
        case hyp6 => exact fun w => by first | (go_simp; done) | (go_simp; with_reducible rfl)
        simp only [Act.put, List.setIfInBounds_toArray, List.set_cons_zero, List.set_cons_succ]
        refine Reg.G.step (j := 9) (m := []) [] rfl (by kernel_rfl) rfl (by kernel_rfl) (fun K hK => ?_)
        go_simp
        obtain ⟨y11, hu11⟩ : ∃ u, y8.alloc (.cells #[.string ⟨#[]⟩, .int .i64 0, .int .i64 0, .int .i64 0, .int .i64 0, .slice none 0 0] 26) = u := ⟨_, rfl⟩
        rw [hu11]
        have hf11 : Hid (Fr (fun _ => False) y8 y11) := by rw [← hu11]; exact (Fr.refl _ y8).alloc _
        obtain ⟨ga, hga⟩ : ∃ ga, y8.heap.size = ga := ⟨_, rfl⟩
        rw [hga]
        have HGA : Hid (W.heap.size + 6 ≤ ga) := by have h := (K9.out).size; show _ ≤ _; omega
        have K12 : Hid (HI W y11) := K9.out.keep hf11.out (fun _ _ h => h)
        have K13 : Hid (LayL (fun g => W.heap.size + 6 ≤ g) y11 ds (.slice Ai ds.length ci)) := K10.out.fr hf11.out (fun _ _ h => h)
        have K14 : Hid (LayL (fun g => W.heap.size + 6 ≤ g ∧ g ≠ ga) y11 ds (.slice Ai ds.length ci)) := ((K10.out).mono (C := fun g => W.heap.size + 6 ≤ g ∧ g ≠ ga) (fun g h1 h2 => ⟨h2, by omega⟩)).fr hf11.out (fun _ _ h => h)
        have K15 : Hid (y11.heap[ga]? = some (.cells #[.string ⟨#[]⟩, .int .i64 0, .int .i64 0, .int .i64 0, .int .i64 0, .slice none 0 0] 26 (0, 0))) := by rw [← hu11, ← hga]; exact blk_newn rfl
        clear hu11 hga
        refine hK.out _ _ trivial ?_
        clear hK K
        simp only [Act.put, List.setIfInBounds_toArray, List.set_cons_zero, List.set_cons_succ, Reg.Kept]
        refine Reg.G.step (j := 10) (m := []) [] rfl (by kernel_rfl) rfl (by kernel_rfl) (fun K hK => ?_)
        refine wp_store_row 26 _ _ rfl ga (scells [] ⟨0, 0, 0⟩ 0 (.slice Ai ds.length ci)).toArray rfl rfl 26 _ K15.out (info_src _ _ _ _) rfl (one_src0 _ _ _) ?_
        obtain ⟨y16, hu16⟩ : ∃ u, y11.setRow ga (scells [] ⟨0, 0, 0⟩ 0 (.slice Ai ds.length ci)).toArray = u := ⟨_, rfl⟩
        rw [hu16]
        have hf16 : Hid (Fr (fun j => j = ga) y11 y16) := by rw [← hu16]; exact (Fr.refl (fun j => j = ga) y11).setRow (.inl rfl) _
        have HST : Hid (y16.heap[ga]? = some (.cells (scells [] ⟨0, 0, 0⟩ 0 (.slice Ai ds.length ci)).toArray 26 (0, 0))) := by rw [← hu16]; exact blk_row K15.out _
        have K17 : Hid (HI W y16) := K12.out.keep hf16.out (fun g hg e => by have := HGA.out; omega)
        have K18 : Hid (LayL (fun g => W.heap.size + 6 ≤ g ∧ g ≠ ga) y16 ds (.slice Ai ds.length ci)) := K14.out.fr hf16.out (fun g hg e => hg.2 e)
        clear hu16
        refine hK.out _ _ trivial ?_
        clear hK K
        simp only [Act.put, List.setIfInBounds_toArray, List.set_cons_zero, List.set_cons_succ, Reg.Kept]
        refine' Reg.G.pure (i := 11) (v := _) rfl (by rfl) (by kernel_rfl) (by kernel_rfl) (by kernel_rfl) (fun _ _ _ h => hP _ _ _ _ _ h) ?hyp7 ?rehyp7
        case hyp7 => exact fun w => by first | (go_simp; done) | (go_simp; with_reducible rfl)
        simp only [Act.put, List.setIfInBounds_toArray, List.set_cons_zero, List.set_cons_succ]
        refine Reg.G.done (by kernel_rfl) ?_
        exact hQ _ _ _ _ _ _ _ _ _ _ _ _ ⟨ga, .slice Ai ds.length ci, ds, A6, c6, rfl, rfl, ⟨K17.out, HGA.out, HST.out, K18.out, HTR.out⟩⟩
      · go_simp
        obtain ⟨y20, hu20⟩ : ∃ u, y4.alloc (.cells #[.string ⟨#[]⟩, .int .i64 0, .int .i64 0, .int .i64 0, .int .i64 0, .slice none 0 0] 26) = u := ⟨_, rfl⟩
        rw [hu20]
        have hf20 : Hid (Fr (fun _ => False) y4 y20) := by rw [← hu20]; exact (Fr.refl _ y4).alloc _
        obtain ⟨ga, hga⟩ : ∃ ga, y4.heap.size = ga := ⟨_, rfl⟩
        rw [hga]
        have HGA : Hid (W.heap.size + 6 ≤ ga) := by have h := (K5.out).size; show _ ≤ _; omega
        have K21 : Hid (HI W y20) := K5.out.keep hf20.out (fun _ _ h => h)
        have K22 : Hid (Lay (fun g => W.heap.size ≤ g) y20 (saleD n)) := K6.out.fr hf20.out (fun _ _ h => h)
        have K23 : Hid (y20.heap[gl]? = some (.cells ([goodD (W.heap.size + 1), saleD n, termD].map DT.cells).flatten.toArray 41 (0, 0))) := hf20.out.blk K7.out (fun h => h)
        have K24 : Hid (y20.heap[ga]? = some (.cells #[.string ⟨#[]⟩, .int .i64 0, .int .i64 0, .int .i64 0, .int .i64 0, .slice none 0 0] 26 (0, 0))) := by rw [← hu20, ← hga]; exact blk_newn rfl
        clear hu20 hga
        refine hK.out _ _ trivial ?_
        clear hK K
        simp only [Act.put, List.setIfInBounds_toArray, List.set_cons_zero, List.set_cons_succ, Reg.Kept]
        refine Reg.G.step (j := 5) (m := []) [] rfl (by kernel_rfl) rfl (by kernel_rfl) (fun K hK => ?_)
        go_simp
        refine (call1 W _ n gl K21.out K22.out K23.out).mono ?_
        rintro e y25 ⟨iv, A6, c6, ds, rfl, hd1, hd2, hd3⟩
        obtain ⟨Ai, ci, hiv, _, _⟩ := hd2.slice
        subst hiv
        have hf25 := Lib.hid hd3
        have hlo : W.heap.size + 6 ≤ y20.heap.size := (K21.out).size
        have hga : ga < y20.heap.size := lt_of_blk K24.out
        have K26 : Hid (HI W y25) := K21.out.keep hf25.out (fun _ _ h => h)
        have K27 : Hid (y25.heap[ga]? = some (.cells #[.string ⟨#[]⟩, .int .i64 0, .int .i64 0, .int .i64 0, .int .i64 0, .slice none 0 0] 26 (0, 0))) := hf25.out.blk K24.out (fun h => h)
        have HTR := Lib.hid hd1
        have K28 : Hid (LayL (fun g => W.heap.size + 6 ≤ g ∧ g ≠ ga) y25 ds (.slice Ai ds.length ci)) := hd2.mono (fun g _ hg => by omega)
        clear hd1 hd3 hlo hd2
        refine hK.out _ _ trivial ?_
        clear hK K
        simp only [Act.put, List.setIfInBounds_toArray, List.set_cons_zero, List.set_cons_succ, Reg.Kept]
        refine' Reg.G.pure (i := 6) (v := _) rfl (by rfl) (by kernel_rfl) (by kernel_rfl) (by kernel_rfl) (fun _ _ _ h => hP _ _ _ _ _ h) ?hyp8 ?rehyp8
        case hyp8 => exact fun w => by first | (go_simp; done) | (go_simp; with_reducible rfl)
        simp only [Act.put, List.setIfInBounds_toArray, List.set_cons_zero, List.set_cons_succ]
        refine' Reg.G.pure (i := 7) (v := _) rfl (by rfl) (by kernel_rfl) (by kernel_rfl) (by kernel_rfl) (fun _ _ _ h => hP _ _ _ _ _ h) ?hyp9 ?rehyp9
        case hyp9 => exact fun w => by first | (go_simp; done) | (go_simp; with_reducible rfl)
        simp only [Act.put, List.setIfInBounds_toArray, List.set_cons_zero, List.set_cons_succ]
        refine' Reg.G.pure (i := 8) (v := _) rfl (by rfl) (by kernel_rfl) (by kernel_rfl) (by kernel_rfl) (fun _ _ _ h => hP _ _ _ _ _ h) ?hyp10 ?rehyp10
        case hyp10 => exact fun w => by first | (go_simp; done) | (go_simp; with_reducible rfl)
        simp only [Act.put, List.setIfInBounds_toArray, List.set_cons_zero, List.set_cons_succ]
        refine Reg.G.step (j := 10) (m := []) [] rfl (by kernel_rfl) rfl (by kernel_rfl) (fun K hK => ?_)
        refine wp_store_row 26 _ _ rfl ga (scells [] ⟨0, 0, 0⟩ 0 (.slice Ai ds.length ci)).toArray rfl rfl 26 _ K27.out (info_src _ _ _ _) rfl (one_src0 _ _ _) ?_
        obtain ⟨y29, hu29⟩ : ∃ u, y25.setRow ga (scells [] ⟨0, 0, 0⟩ 0 (.slice Ai ds.length ci)).toArray = u := ⟨_, rfl⟩
        rw [hu29]
        have hf29 : Hid (Fr (fun j => j = ga) y25 y29) := by rw [← hu29]; exact (Fr.refl (fun j => j = ga) y25).setRow (.inl rfl) _
        have HST : Hid (y29.heap[ga]? = some (.cells (scells [] ⟨0, 0, 0⟩ 0 (.slice Ai ds.length ci)).toArray 26 (0, 0))) := by rw [← hu29]; exact blk_row K27.out _
        have K30 : Hid (HI W y29) := K26.out.keep hf29.out (fun g hg e => by have := HGA.out; omega)
        have K32 : Hid (LayL (fun g => W.heap.size + 6 ≤ g ∧ g ≠ ga) y29 ds (.slice Ai ds.length ci)) := K28.out.fr hf29.out (fun g hg e => hg.2 e)
        clear hu29
        refine hK.out _ _ trivial ?_
        clear hK K
        simp only [Act.put, List.setIfInBounds_toArray, List.set_cons_zero, List.set_cons_succ, Reg.Kept]
        refine' Reg.G.pure (i := 11) (v := _) rfl (by rfl) (by kernel_rfl) (by kernel_rfl) (by kernel_rfl) (fun _ _ _ h => hP _ _ _ _ _ h) ?hyp11 ?rehyp11
        case hyp11 => exact fun w => by first | (go_simp; done) | (go_simp; with_reducible rfl)
        simp only [Act.put, List.setIfInBounds_toArray, List.set_cons_zero, List.set_cons_succ]
        refine Reg.G.done (by kernel_rfl) ?_
        exact hQ _ _ _ _ _ _ _ _ _ _ _ _ ⟨ga, .slice Ai ds.length ci, ds, A6, c6, rfl, rfl, ⟨K30.out, HGA.out, HST.out, K32.out, HTR.out⟩⟩
    · go_simp
      obtain ⟨y33, hu33⟩ : ∃ u, y1.alloc (.cells #[.string ⟨#[]⟩, .int .i64 0, .int .i64 0, .int .i64 0, .int .i64 0, .slice none 0 0] 26) = u := ⟨_, rfl⟩
      rw [hu33]
      have hf33 : Hid (Fr (fun _ => False) y1 y33) := by rw [← hu33]; exact (Fr.refl _ y1).alloc _
      obtain ⟨ga, hga⟩ : ∃ ga, y1.heap.size = ga := ⟨_, rfl⟩
      rw [hga]
      have HGA : Hid (W.heap.size + 6 ≤ ga) := by have h := (K2.out).size; show _ ≤ _; omega
      have K34 : Hid (HI W y33) := K2.out.keep hf33.out (fun _ _ h => h)
      have K35 : Hid (Lay (fun g => W.heap.size ≤ g) y33 (saleD n)) := K3.out.fr hf33.out (fun _ _ h => h)
      have K36 : Hid (y33.heap[ga]? = some (.cells #[.string ⟨#[]⟩, .int .i64 0, .int .i64 0, .int .i64 0, .int .i64 0, .slice none 0 0] 26 (0, 0))) := by rw [← hu33, ← hga]; exact blk_newn rfl
      clear hu33 hga
      refine hK.out _ _ ⟨K34.out, K34.out, trivial⟩ ?_
      clear hK K
      simp only [Act.put, List.setIfInBounds_toArray, List.set_cons_zero, List.set_cons_succ, Reg.Kept]
      refine Reg.G.step (j := 3) (m := [false, false]) [2, 0] rfl (by kernel_rfl) rfl (by kernel_rfl) (fun K hK => ?_)
      refine wp_bsl 24 3 _ rfl #[(0, .agg (goodD (W.heap.size + 1)).cells.toArray), (1, .agg (saleD n).cells.toArray), (2, .agg termD.cells.toArray)] (by go_simp) (.slice (some ⟨y33.heap.size, 0, none⟩) 3 3) (y33.alloc (.cells ([goodD (W.heap.size + 1), saleD n, termD].map DT.cells).flatten.toArray 41)) ?hb37 ?hq37
      case hb37 => exact bsl_3 _ _ _
      obtain ⟨y37, hu37⟩ : ∃ u, y33.alloc (.cells ([goodD (W.heap.size + 1), saleD n, termD].map DT.cells).flatten.toArray 41) = u := ⟨_, rfl⟩
      rw [hu37]
      have hf37 : Hid (Fr (fun _ => False) y33 y37) := by rw [← hu37]; exact (Fr.refl _ y33).alloc _
      obtain ⟨gl, hgl⟩ : ∃ gl, y33.heap.size = gl := ⟨_, rfl⟩
      rw [hgl]
      have K38 : Hid (HI W y37) := K34.out.keep hf37.out (fun _ _ h => h)
      have K39 : Hid (Lay (fun g => W.heap.size ≤ g) y37 (saleD n)) := K35.out.fr hf37.out (fun _ _ h => h)
      have K40 : Hid (y37.heap[ga]? = some (.cells #[.string ⟨#[]⟩, .int .i64 0, .int .i64 0, .int .i64 0, .int .i64 0, .slice none 0 0] 26 (0, 0))) := hf37.out.blk K36.out (fun h => h)
      have K41 : Hid (y37.heap[gl]? = some (.cells ([goodD (W.heap.size + 1), saleD n, termD].map DT.cells).flatten.toArray 41 (0, 0))) := by rw [← hu37, ← hgl]; exact blk_newn rfl
      clear hu37 hgl
      refine hK.out _ _ trivial ?_
      clear hK K
      simp only [Act.put, List.setIfInBounds_toArray, List.set_cons_zero, List.set_cons_succ, Reg.Kept]
      refine' Reg.G.pure (i := 4) (v := .agg (scells [] ⟨0, 0, 0⟩ 0 (.slice (some ⟨gl, 0, none⟩) 3 3)).toArray) rfl (by rfl) (by kernel_rfl) (by kernel_rfl) (by kernel_rfl) (fun _ _ _ h => hP _ _ _ _ _ h) ?hyp12 ?rehyp12
      case hyp12 => exact fun w => by go_simp; rfl
      simp only [Act.put, List.setIfInBounds_toArray, List.set_cons_zero, List.set_cons_succ]
      refine Reg.G.step (j := 5) (m := []) [] rfl (by kernel_rfl) rfl (by kernel_rfl) (fun K hK => ?_)
      go_simp
      refine (call1 W _ n gl K38.out K39.out K41.out).mono ?_
      rintro e y42 ⟨iv, A6, c6, ds, rfl, hd1, hd2, hd3⟩
      obtain ⟨Ai, ci, hiv, _, _⟩ := hd2.slice
      subst hiv
      have hf42 := Lib.hid hd3
      have hlo : W.heap.size + 6 ≤ y37.heap.size := (K38.out).size
      have hga : ga < y37.heap.size := lt_of_blk K40.out
      have K43 : Hid (HI W y42) := K38.out.keep hf42.out (fun _ _ h => h)
      have K44 : Hid (y42.heap[ga]? = some (.cells #[.string ⟨#[]⟩, .int .i64 0, .int .i64 0, .int .i64 0, .int .i64 0, .slice none 0 0] 26 (0, 0))) := hf42.out.blk K40.out (fun h => h)
      have HTR := Lib.hid hd1
      have K45 : Hid (LayL (fun g => W.heap.size + 6 ≤ g ∧ g ≠ ga) y42 ds (.slice Ai ds.length ci)) := hd2.mono (fun g _ hg => by omega)
      clear hd1 hd3 hlo hd2
      refine hK.out _ _ trivial ?_
      clear hK K
      simp only [Act.put, List.setIfInBounds_toArray, List.set_cons_zero, List.set_cons_succ, Reg.Kept]
      refine' Reg.G.pure (i := 6) (v := _) rfl (by rfl) (by kernel_rfl) (by kernel_rfl) (by kernel_rfl) (fun _ _ _ h => hP _ _ _ _ _ h) ?hyp13 ?rehyp13
      case hyp13 => exact fun w => by first | (go_simp; done) | (go_simp; with_reducible rfl)
      simp only [Act.put, List.setIfInBounds_toArray, List.set_cons_zero, List.set_cons_succ]
      refine' Reg.G.pure (i := 7) (v := _) rfl (by rfl) (by kernel_rfl) (by kernel_rfl) (by kernel_rfl) (fun _ _ _ h => hP _ _ _ _ _ h) ?hyp14 ?rehyp14
      case hyp14 => exact fun w => by first | (go_simp; done) | (go_simp; with_reducible rfl)
      simp only [Act.put, List.setIfInBounds_toArray, List.set_cons_zero, List.set_cons_succ]
      refine' Reg.G.pure (i := 8) (v := _) rfl (by rfl) (by kernel_rfl) (by kernel_rfl) (by kernel_rfl) (fun _ _ _ h => hP _ _ _ _ _ h) ?hyp15 ?rehyp15
      case hyp15 => exact fun w => by first | (go_simp; done) | (go_simp; with_reducible rfl)
      simp only [Act.put, List.setIfInBounds_toArray, List.set_cons_zero, List.set_cons_succ]
      refine Reg.G.step (j := 10) (m := []) [] rfl (by kernel_rfl) rfl (by kernel_rfl) (fun K hK => ?_)
      refine wp_store_row 26 _ _ rfl ga (scells [] ⟨0, 0, 0⟩ 0 (.slice Ai ds.length ci)).toArray rfl rfl 26 _ K44.out (info_src _ _ _ _) rfl (one_src0 _ _ _) ?_
      obtain ⟨y46, hu46⟩ : ∃ u, y42.setRow ga (scells [] ⟨0, 0, 0⟩ 0 (.slice Ai ds.length ci)).toArray = u := ⟨_, rfl⟩
      rw [hu46]
      have hf46 : Hid (Fr (fun j => j = ga) y42 y46) := by rw [← hu46]; exact (Fr.refl (fun j => j = ga) y42).setRow (.inl rfl) _
      have HST : Hid (y46.heap[ga]? = some (.cells (scells [] ⟨0, 0, 0⟩ 0 (.slice Ai ds.length ci)).toArray 26 (0, 0))) := by rw [← hu46]; exact blk_row K44.out _
      have K47 : Hid (HI W y46) := K43.out.keep hf46.out (fun g hg e => by have := HGA.out; omega)
      have K49 : Hid (LayL (fun g => W.heap.size + 6 ≤ g ∧ g ≠ ga) y46 ds (.slice Ai ds.length ci)) := K45.out.fr hf46.out (fun g hg e => hg.2 e)
      clear hu46
      refine hK.out _ _ trivial ?_
      clear hK K
      simp only [Act.put, List.setIfInBounds_toArray, List.set_cons_zero, List.set_cons_succ, Reg.Kept]
      refine' Reg.G.pure (i := 11) (v := _) rfl (by rfl) (by kernel_rfl) (by kernel_rfl) (by kernel_rfl) (fun _ _ _ h => hP _ _ _ _ _ h) ?hyp16 ?rehyp16
      case hyp16 => exact fun w => by first | (go_simp; done) | (go_simp; with_reducible rfl)
      simp only [Act.put, List.setIfInBounds_toArray, List.set_cons_zero, List.set_cons_succ]
      refine Reg.G.done (by kernel_rfl) ?_
      exact hQ _ _ _ _ _ _ _ _ _ _ _ _ ⟨ga, .slice Ai ds.length ci, ds, A6, c6, rfl, rfl, ⟨K47.out, HGA.out, HST.out, K49.out, HTR.out⟩⟩
  · go_simp
    obtain ⟨y50, hu50⟩ : ∃ u, Xd.alloc (.cells #[.string ⟨#[]⟩, .int .i64 0, .int .i64 0, .int .i64 0, .int .i64 0, .slice none 0 0] 26) = u := ⟨_, rfl⟩
    rw [hu50]
    have hf50 : Hid (Fr (fun _ => False) Xd y50) := by rw [← hu50]; exact (Fr.refl _ Xd).alloc _
    obtain ⟨ga, hga⟩ : ∃ ga, Xd.heap.size = ga := ⟨_, rfl⟩
    rw [hga]
    have HGA : Hid (W.heap.size + 6 ≤ ga) := by have h := (HI0.out).size; show _ ≤ _; omega
    have K51 : Hid (HI W y50) := HI0.out.keep hf50.out (fun _ _ h => h)
    have K52 : Hid (y50.heap[ga]? = some (.cells #[.string ⟨#[]⟩, .int .i64 0, .int .i64 0, .int .i64 0, .int .i64 0, .slice none 0 0] 26 (0, 0))) := by rw [← hu50, ← hga]; exact blk_newn rfl
    clear hu50 hga
    refine hK.out _ _ ⟨K51.out, K51.out, trivial⟩ ?_
    clear hK K
    simp only [Act.put, List.setIfInBounds_toArray, List.set_cons_zero, List.set_cons_succ, Reg.Kept]
    refine Reg.G.step (j := 1) (m := [true, true]) [2, 0] rfl (by kernel_rfl) rfl (by kernel_rfl) (fun K hK => ?_)
    go_simp
    refine (sale_any _).mono ?_
    rintro e y53 ⟨rfl, hs1, hf1⟩
    have hf53 := Lib.hid hf1
    obtain ⟨n, hn⟩ : ∃ n, y50.heap.size = n := ⟨_, rfl⟩
    rw [hn] at hs1
    rw [hn]
    have hnl : W.heap.size ≤ n := by have := (K51.out).size; omega
    have K54 : Hid (HI W y53) := K51.out.keep hf53.out (fun _ _ h => h)
    have K55 : Hid (y53.heap[ga]? = some (.cells #[.string ⟨#[]⟩, .int .i64 0, .int .i64 0, .int .i64 0, .int .i64 0, .slice none 0 0] 26 (0, 0))) := hf53.out.blk K52.out (fun h => h)
    have K56 : Hid (Lay (fun g => W.heap.size ≤ g) y53 (saleD n)) := hs1.mono (fun g _ hg => by omega)
    clear hs1 hf1 hn hnl
    refine hK.out _ _ ⟨K54.out, K54.out, trivial⟩ ?_
    clear hK K
    simp only [Act.put, List.setIfInBounds_toArray, List.set_cons_zero, List.set_cons_succ, Reg.Kept]
    refine Reg.G.step (j := 3) (m := [false, false]) [2, 0] rfl (by kernel_rfl) rfl (by kernel_rfl) (fun K hK => ?_)
    refine wp_bsl 24 3 _ rfl #[(0, .agg (goodD (W.heap.size + 1)).cells.toArray), (1, .agg (saleD n).cells.toArray), (2, .agg termD.cells.toArray)] (by go_simp) (.slice (some ⟨y53.heap.size, 0, none⟩) 3 3) (y53.alloc (.cells ([goodD (W.heap.size + 1), saleD n, termD].map DT.cells).flatten.toArray 41)) ?hb57 ?hq57
    case hb57 => exact bsl_3 _ _ _
    obtain ⟨y57, hu57⟩ : ∃ u, y53.alloc (.cells ([goodD (W.heap.size + 1), saleD n, termD].map DT.cells).flatten.toArray 41) = u := ⟨_, rfl⟩
    rw [hu57]
    have hf57 : Hid (Fr (fun _ => False) y53 y57) := by rw [← hu57]; exact (Fr.refl _ y53).alloc _
    obtain ⟨gl, hgl⟩ : ∃ gl, y53.heap.size = gl := ⟨_, rfl⟩
    rw [hgl]
    have K58 : Hid (HI W y57) := K54.out.keep hf57.out (fun _ _ h => h)
    have K59 : Hid (y57.heap[ga]? = some (.cells #[.string ⟨#[]⟩, .int .i64 0, .int .i64 0, .int .i64 0, .int .i64 0, .slice none 0 0] 26 (0, 0))) := hf57.out.blk K55.out (fun h => h)
    have K60 : Hid (Lay (fun g => W.heap.size ≤ g) y57 (saleD n)) := K56.out.fr hf57.out (fun _ _ h => h)
    have K61 : Hid (y57.heap[gl]? = some (.cells ([goodD (W.heap.size + 1), saleD n, termD].map DT.cells).flatten.toArray 41 (0, 0))) := by rw [← hu57, ← hgl]; exact blk_newn rfl
    clear hu57 hgl
    refine hK.out _ _ trivial ?_
    clear hK K
    simp only [Act.put, List.setIfInBounds_toArray, List.set_cons_zero, List.set_cons_succ, Reg.Kept]
    refine' Reg.G.pure (i := 4) (v := .agg (scells [] ⟨0, 0, 0⟩ 0 (.slice (some ⟨gl, 0, none⟩) 3 3)).toArray) rfl (by rfl) (by kernel_rfl) (by kernel_rfl) (by kernel_rfl) (fun _ _ _ h => hP _ _ _ _ _ h) ?hyp17 ?rehyp17
    case hyp17 => exact fun w => by go_simp; rfl
    simp only [Act.put, List.setIfInBounds_toArray, List.set_cons_zero, List.set_cons_succ]
    refine Reg.G.step (j := 5) (m := []) [] rfl (by kernel_rfl) rfl (by kernel_rfl) (fun K hK => ?_)
    go_simp
    refine (call1 W _ n gl K58.out K60.out K61.out).mono ?_
    rintro e y62 ⟨iv, A6, c6, ds, rfl, hd1, hd2, hd3⟩
    obtain ⟨Ai, ci, hiv, _, _⟩ := hd2.slice
    subst hiv
    have hf62 := Lib.hid hd3
    have hlo : W.heap.size + 6 ≤ y57.heap.size := (K58.out).size
    have hga : ga < y57.heap.size := lt_of_blk K59.out
    have K63 : Hid (HI W y62) := K58.out.keep hf62.out (fun _ _ h => h)
    have K64 : Hid (y62.heap[ga]? = some (.cells #[.string ⟨#[]⟩, .int .i64 0, .int .i64 0, .int .i64 0, .int .i64 0, .slice none 0 0] 26 (0, 0))) := hf62.out.blk K59.out (fun h => h)
    have HTR := Lib.hid hd1
    have K65 : Hid (LayL (fun g => W.heap.size + 6 ≤ g ∧ g ≠ ga) y62 ds (.slice Ai ds.length ci)) := hd2.mono (fun g _ hg => by omega)
    clear hd1 hd3 hlo hd2
    refine hK.out _ _ trivial ?_
    clear hK K
    simp only [Act.put, List.setIfInBounds_toArray, List.set_cons_zero, List.set_cons_succ, Reg.Kept]
    refine' Reg.G.pure (i := 6) (v := _) rfl (by rfl) (by kernel_rfl) (by kernel_rfl) (by kernel_rfl) (fun _ _ _ h => hP _ _ _ _ _ h) ?hyp18 ?rehyp18
    case hyp18 => exact fun w => by first | (go_simp; done) | (go_simp; with_reducible rfl)
    simp only [Act.put, List.setIfInBounds_toArray, List.set_cons_zero, List.set_cons_succ]
    refine' Reg.G.pure (i := 7) (v := _) rfl (by rfl) (by kernel_rfl) (by kernel_rfl) (by kernel_rfl) (fun _ _ _ h => hP _ _ _ _ _ h) ?hyp19 ?rehyp19
    case hyp19 => exact fun w => by first | (go_simp; done) | (go_simp; with_reducible rfl)
    simp only [Act.put, List.setIfInBounds_toArray, List.set_cons_zero, List.set_cons_succ]
    refine' Reg.G.pure (i := 8) (v := _) rfl (by rfl) (by kernel_rfl) (by kernel_rfl) (by kernel_rfl) (fun _ _ _ h => hP _ _ _ _ _ h) ?hyp20 ?rehyp20
    case hyp20 => exact fun w => by first | (go_simp; done) | (go_simp; with_reducible rfl)
    simp only [Act.put, List.setIfInBounds_toArray, List.set_cons_zero, List.set_cons_succ]
    refine Reg.G.step (j := 10) (m := []) [] rfl (by kernel_rfl) rfl (by kernel_rfl) (fun K hK => ?_)
    refine wp_store_row 26 _ _ rfl ga (scells [] ⟨0, 0, 0⟩ 0 (.slice Ai ds.length ci)).toArray rfl rfl 26 _ K64.out (info_src _ _ _ _) rfl (one_src0 _ _ _) ?_
    obtain ⟨y66, hu66⟩ : ∃ u, y62.setRow ga (scells [] ⟨0, 0, 0⟩ 0 (.slice Ai ds.length ci)).toArray = u := ⟨_, rfl⟩
    rw [hu66]
    have hf66 : Hid (Fr (fun j => j = ga) y62 y66) := by rw [← hu66]; exact (Fr.refl (fun j => j = ga) y62).setRow (.inl rfl) _
    have HST : Hid (y66.heap[ga]? = some (.cells (scells [] ⟨0, 0, 0⟩ 0 (.slice Ai ds.length ci)).toArray 26 (0, 0))) := by rw [← hu66]; exact blk_row K64.out _
    have K67 : Hid (HI W y66) := K63.out.keep hf66.out (fun g hg e => by have := HGA.out; omega)
    have K69 : Hid (LayL (fun g => W.heap.size + 6 ≤ g ∧ g ≠ ga) y66 ds (.slice Ai ds.length ci)) := K65.out.fr hf66.out (fun g hg e => hg.2 e)
    clear hu66
    refine hK.out _ _ trivial ?_
    clear hK K
    simp only [Act.put, List.setIfInBounds_toArray, List.set_cons_zero, List.set_cons_succ, Reg.Kept]
    refine' Reg.G.pure (i := 11) (v := _) rfl (by rfl) (by kernel_rfl) (by kernel_rfl) (by kernel_rfl) (fun _ _ _ h => hP _ _ _ _ _ h) ?hyp21 ?rehyp21
    case hyp21 => exact fun w => by first | (go_simp; done) | (go_simp; with_reducible rfl)
    simp only [Act.put, List.setIfInBounds_toArray, List.set_cons_zero, List.set_cons_succ]
    refine Reg.G.done (by kernel_rfl) ?_
    exact hQ _ _ _ _ _ _ _ _ _ _ _ _ ⟨ga, .slice Ai ds.length ci, ds, A6, c6, rfl, rfl, ⟨K67.out, HGA.out, HST.out, K69.out, HTR.out⟩⟩
set_option maxRecDepth 100000 in
set_option maxHeartbeats 16000000 in
theorem head_r6 {W X : World} {u0 u2 u5 u6 u7 u8 u9 u10 u11 u12 u13 u14 u15 u16 u17 u18 u19 u20 u21 u22 u23 u24 u25 u26 u27 u28 u29 u30 u31 u32 u33 u34 u35 u36 u37 u38 u39 u40 u41 u42 u43 u44 u45 u46 u47 u48 u49 u50 u51 u52 u53 u54 u55 u56 u57 u58 u59 u60 u61 u62 u63 u64 u65 u66 u67 u68 u69 u70 u71 u72 u73 u74 u75 u76 u77 u78 u79 u80 u81 u82 u83 u84 u85 u86 u87 u88 u89 u90 u91 u92 u93 u94 u95 u96 u97 u98 u99 u100 u101 u102 u103 u104 u105 u106 u107 u108 u109 u110 u111 u112 u113 u114 u115 u116 u117 u118 u119 u120 u121 u122 u123 u124 u125 u126 : Value} {Q : Exit → Act → World → Prop} {C : Code} (hC : C = Cut.region Try.f9 6) (hv : V5 W u5 u6 X) (hP : Cut.Blind Q)
    (hQ : ∀ (v7 v8 v28 v29 v30 v31 v32 v33 v34 v35 v36 v37 : Value) (wx : World), V6 W u5 u6 v8 wx → Q .normal ⟨#[u0, .pointer (some ⟨W.heap.size, 0, none⟩), u2, .pointer (some ⟨W.heap.size + 3, 0, none⟩), .pointer (some ⟨W.heap.size + 5, 0, none⟩), u5, u6, v7, v8, u9, u10, u11, u12, u13, u14, u15, u16, u17, u18, u19, u20, u21, u22, u23, u24, u25, u26, u27, v28, v29, v30, v31, v32, v33, v34, v35, v36, v37, u38, u39, u40, u41, u42, u43, u44, u45, u46, u47, u48, u49, u50, u51, u52, u53, u54, u55, u56, u57, u58, u59, u60, u61, u62, u63, u64, u65, u66, u67, u68, u69, u70, u71, u72, u73, u74, u75, u76, u77, u78, u79, u80, u81, u82, u83, u84, u85, u86, u87, u88, u89, u90, u91, u92, u93, u94, u95, u96, u97, u98, u99, u100, u101, u102, u103, u104, u105, u106, u107, u108, u109, u110, u111, u112, u113, u114, u115, u116, u117, u118, u119, u120, u121, u122, u123, u124, u125, u126], []⟩ wx) :
    Code.wp Try.prog C Q ⟨#[u0, .pointer (some ⟨W.heap.size, 0, none⟩), u2, .pointer (some ⟨W.heap.size + 3, 0, none⟩), .pointer (some ⟨W.heap.size + 5, 0, none⟩), u5, u6, u7, u8, u9, u10, u11, u12, u13, u14, u15, u16, u17, u18, u19, u20, u21, u22, u23, u24, u25, u26, u27, u28, u29, u30, u31, u32, u33, u34, u35, u36, u37, u38, u39, u40, u41, u42, u43, u44, u45, u46, u47, u48, u49, u50, u51, u52, u53, u54, u55, u56, u57, u58, u59, u60, u61, u62, u63, u64, u65, u66, u67, u68, u69, u70, u71, u72, u73, u74, u75, u76, u77, u78, u79, u80, u81, u82, u83, u84, u85, u86, u87, u88, u89, u90, u91, u92, u93, u94, u95, u96, u97, u98, u99, u100, u101, u102, u103, u104, u105, u106, u107, u108, u109, u110, u111, u112, u113, u114, u115, u116, u117, u118, u119, u120, u121, u122, u123, u124, u125, u126], []⟩ X := by
  subst hC
  conv => arg 2; whnf
  refine Reg.G.start (by kernel_rfl) ?_
  obtain ⟨Xd, HXd⟩ : ∃ Y, Hid (X.drew = Y) := ⟨_, rfl⟩
  have HFD : Hid (Fr (fun _ => False) X Xd) := by rw [← HXd.out]; exact (Fr.refl _ X).drew
  have HI0 : Hid (HI W Xd) := hv.hi.keep HFD.out (fun _ _ h => h)
  rw [HXd.out]
  clear HXd
  refine' Reg.G.take (i := 0) (v := _) (F := (fun w => HI W w)) rfl (by rfl) (by kernel_rfl) (by kernel_rfl) (by kernel_rfl) (fun _ _ _ h => hP _ _ _ _ _ h) (HI0.out) ?hyq22 ?rehyq22
  case hyq22 => intro w hw; refine run_load_row (P := Try.prog) 41 (.tmp 3) ?_ (W.heap.size + 3) ?_ 41 wrongD.cells.toArray _ hw.w Try.underlying41 rfl (info_it wrongD) <;> rfl
  simp only [Act.put, List.setIfInBounds_toArray, List.set_cons_zero, List.set_cons_succ]
  refine' Reg.G.take (i := 1) (v := _) (F := (fun w => HI W w)) rfl (by rfl) (by kernel_rfl) (by kernel_rfl) (by kernel_rfl) (fun _ _ _ h => hP _ _ _ _ _ h) (HI0.out) ?hyq23 ?rehyq23
  case hyq23 => intro w hw; refine run_load_row (P := Try.prog) 41 (.tmp 4) ?_ (W.heap.size + 5) ?_ 41 (lostD (W.heap.size + 4)).cells.toArray _ hw.l Try.underlying41 rfl (info_it (lostD (W.heap.size + 4))) <;> rfl
  simp only [Act.put, List.setIfInBounds_toArray, List.set_cons_zero, List.set_cons_succ]
  refine' Reg.G.take (i := 3) (v := _) (F := (fun w => HI W w)) rfl (by rfl) (by kernel_rfl) (by kernel_rfl) (by kernel_rfl) (fun _ _ _ h => hP _ _ _ _ _ h) (HI0.out) ?hyq24 ?rehyq24
  case hyq24 => intro w hw; refine run_load_row (P := Try.prog) 41 (.tmp 1) ?_ W.heap.size ?_ 41 termD.cells.toArray _ hw.t Try.underlying41 rfl (info_it termD) <;> rfl
  simp only [Act.put, List.setIfInBounds_toArray, List.set_cons_zero, List.set_cons_succ]
  refine Reg.G.two (j1 := 2) (j2 := 10) (m1 := [true, true, true]) (m2 := [true, true, true]) [3, 1, 0] rfl rfl (by kernel_rfl) rfl (by kernel_rfl) (by kernel_rfl) (fun K hK => ?_) (fun K hK => ?_)
  · go_simp
    refine (sale_any _).mono ?_
    rintro e y70 ⟨rfl, hs1, hf1⟩
    have hf70 := Lib.hid hf1
    obtain ⟨n, hn⟩ : ∃ n, Xd.heap.size = n := ⟨_, rfl⟩
    rw [hn] at hs1
    rw [hn]
    have hnl : W.heap.size ≤ n := by have := (HI0.out).size; omega
    have K71 : Hid (HI W y70) := HI0.out.keep hf70.out (fun _ _ h => h)
    have K72 : Hid (Fr (fun _ => False) X y70) := HFD.out.trans hf70.out
    have K73 : Hid (Lay (fun g => W.heap.size ≤ g) y70 (saleD n)) := hs1.mono (fun g _ hg => by omega)
    clear hs1 hf1 hn hnl
    refine hK.out _ _ ⟨K71.out, K71.out, K71.out, trivial⟩ ?_
    clear hK K
    simp only [Act.put, List.setIfInBounds_toArray, List.set_cons_zero, List.set_cons_succ, Reg.Kept]
    refine Reg.G.two (j1 := 4) (j2 := 10) (m1 := [false, false, false]) (m2 := [true, true, true]) [3, 1, 0] rfl rfl (by kernel_rfl) rfl (by kernel_rfl) (by kernel_rfl) (fun K hK => ?_) (fun K hK => ?_)
    · refine wp_bsl 24 4 _ rfl #[(0, .agg wrongD.cells.toArray), (1, .agg (lostD (W.heap.size + 4)).cells.toArray), (2, .agg (saleD n).cells.toArray), (3, .agg termD.cells.toArray)] (by go_simp) (.slice (some ⟨y70.heap.size, 0, none⟩) 4 4) (y70.alloc (.cells ([wrongD, lostD (W.heap.size + 4), saleD n, termD].map DT.cells).flatten.toArray 41)) ?hb74 ?hq74
      case hb74 => exact bsl_4 _ _ _
      obtain ⟨y74, hu74⟩ : ∃ u, y70.alloc (.cells ([wrongD, lostD (W.heap.size + 4), saleD n, termD].map DT.cells).flatten.toArray 41) = u := ⟨_, rfl⟩
      rw [hu74]
      have hf74 : Hid (Fr (fun _ => False) y70 y74) := by rw [← hu74]; exact (Fr.refl _ y70).alloc _
      obtain ⟨gl, hgl⟩ : ∃ gl, y70.heap.size = gl := ⟨_, rfl⟩
      rw [hgl]
      have K75 : Hid (HI W y74) := K71.out.keep hf74.out (fun _ _ h => h)
      have K76 : Hid (Fr (fun _ => False) X y74) := K72.out.trans hf74.out
      have K77 : Hid (Lay (fun g => W.heap.size ≤ g) y74 (saleD n)) := K73.out.fr hf74.out (fun _ _ h => h)
      have K78 : Hid (y74.heap[gl]? = some (.cells ([wrongD, lostD (W.heap.size + 4), saleD n, termD].map DT.cells).flatten.toArray 41 (0, 0))) := by rw [← hu74, ← hgl]; exact blk_newn rfl
      clear hu74 hgl
      refine hK.out _ _ trivial ?_
      clear hK K
      simp only [Act.put, List.setIfInBounds_toArray, List.set_cons_zero, List.set_cons_succ, Reg.Kept]
      refine' Reg.G.pure (i := 5) (v := .agg (scells [] ⟨0, 0, 0⟩ 0 (.slice (some ⟨gl, 0, none⟩) 4 4)).toArray) rfl (by rfl) (by kernel_rfl) (by kernel_rfl) (by kernel_rfl) (fun _ _ _ h => hP _ _ _ _ _ h) ?hyq25 ?rehyq25
      case hyq25 => exact fun w => by go_simp; rfl
      simp only [Act.put, List.setIfInBounds_toArray, List.set_cons_zero, List.set_cons_succ]
      refine Reg.G.two (j1 := 6) (j2 := 10) (m1 := []) (m2 := []) [] rfl rfl (by kernel_rfl) rfl (by kernel_rfl) (by kernel_rfl) (fun K hK => ?_) (fun K hK => ?_)
      · go_simp
        refine (call2 W _ n gl K75.out K77.out K78.out).mono ?_
        rintro e y79 ⟨A6, n6, c6, fv, rfl, hd1, hd3⟩
        have hf79 := Lib.hid hd3
        have hlo : W.heap.size + 6 ≤ y74.heap.size := (K75.out).size
        have K80 : Hid (HI W y79) := K75.out.keep hf79.out (fun _ _ h => h)
        have K81 : Hid (Fr (fun _ => False) X y79) := K76.out.trans hf79.out
        have K82 : Hid (RowB (fun g => W.heap.size + 6 ≤ g) y79 fv 2 [[.int .i64 1, .int .i64 8], [.int .i64 8, .int .i64 9]]) := hd1.mono (fun g _ hg => by omega)
        clear hd1 hd3 hlo
        refine hK.out _ _ trivial ?_
        clear hK K
        simp only [Act.put, List.setIfInBounds_toArray, List.set_cons_zero, List.set_cons_succ, Reg.Kept]
        refine' Reg.G.pure (i := 7) (v := _) rfl (by rfl) (by kernel_rfl) (by kernel_rfl) (by kernel_rfl) (fun _ _ _ h => hP _ _ _ _ _ h) ?hyq26 ?rehyq26
        case hyq26 => exact fun w => by first | (go_simp; done) | (go_simp; with_reducible rfl)
        simp only [Act.put, List.setIfInBounds_toArray, List.set_cons_zero, List.set_cons_succ]
        refine' Reg.G.pure (i := 8) (v := _) rfl (by rfl) (by kernel_rfl) (by kernel_rfl) (by kernel_rfl) (fun _ _ _ h => hP _ _ _ _ _ h) ?hyq27 ?rehyq27
        case hyq27 => exact fun w => by first | (go_simp; done) | (go_simp; with_reducible rfl)
        simp only [Act.put, List.setIfInBounds_toArray, List.set_cons_zero, List.set_cons_succ]
        refine' Reg.G.pure (i := 9) (v := _) rfl (by rfl) (by kernel_rfl) (by kernel_rfl) (by kernel_rfl) (fun _ _ _ h => hP _ _ _ _ _ h) ?hyq28 ?rehyq28
        case hyq28 => exact fun w => by first | (go_simp; done) | (go_simp; with_reducible rfl)
        simp only [Act.put, List.setIfInBounds_toArray, List.set_cons_zero, List.set_cons_succ]
        refine Reg.G.step (j := 10) (m := []) [] rfl (by kernel_rfl) rfl (by kernel_rfl) (fun K hK => ?_)
        go_simp
        obtain ⟨y83, hu83⟩ : ∃ u, y79.alloc (.cells #[.string ⟨#[]⟩, .int .i64 0, .int .i64 0, .int .i64 0, .int .i64 0, .slice none 0 0] 26) = u := ⟨_, rfl⟩
        rw [hu83]
        have hf83 : Hid (Fr (fun _ => False) y79 y83) := by rw [← hu83]; exact (Fr.refl _ y79).alloc _
        obtain ⟨ga, hga⟩ : ∃ ga, y79.heap.size = ga := ⟨_, rfl⟩
        rw [hga]
        have HGA : Hid (W.heap.size + 6 ≤ ga) := by have h := (K80.out).size; show _ ≤ _; omega
        have HGX : Hid (X.heap.size ≤ ga) := by have h := (K81.out).size; show _ ≤ _; omega
        have K84 : Hid (HI W y83) := K80.out.keep hf83.out (fun _ _ h => h)
        have K85 : Hid (Fr (fun _ => False) X y83) := K81.out.trans hf83.out
        have K86 : Hid (RowB (fun g => W.heap.size + 6 ≤ g) y83 fv 2 [[.int .i64 1, .int .i64 8], [.int .i64 8, .int .i64 9]]) := K82.out.fr hf83.out (fun _ _ h => h)
        have K87 : Hid (RowB (fun g => W.heap.size + 6 ≤ g ∧ g ≠ ga) y83 fv 2 [[.int .i64 1, .int .i64 8], [.int .i64 8, .int .i64 9]]) := ((K82.out).mono (C := fun g => W.heap.size + 6 ≤ g ∧ g ≠ ga) (fun g h1 h2 => ⟨h2, by omega⟩)).fr hf83.out (fun _ _ h => h)
        have K88 : Hid (y83.heap[ga]? = some (.cells #[.string ⟨#[]⟩, .int .i64 0, .int .i64 0, .int .i64 0, .int .i64 0, .slice none 0 0] 26 (0, 0))) := by rw [← hu83, ← hga]; exact blk_newn rfl
        clear hu83 hga
        refine hK.out _ _ trivial ?_
        clear hK K
        simp only [Act.put, List.setIfInBounds_toArray, List.set_cons_zero, List.set_cons_succ, Reg.Kept]
        refine Reg.G.step (j := 11) (m := []) [] rfl (by kernel_rfl) rfl (by kernel_rfl) (fun K hK => ?_)
        refine wp_store_row 26 _ _ rfl ga (scells [] ⟨0, 0, 0⟩ 0 (.slice A6 n6 c6)).toArray rfl rfl 26 _ K88.out (info_src _ _ _ _) rfl (one_src0 _ _ _) ?_
        obtain ⟨y89, hu89⟩ : ∃ u, y83.setRow ga (scells [] ⟨0, 0, 0⟩ 0 (.slice A6 n6 c6)).toArray = u := ⟨_, rfl⟩
        rw [hu89]
        have hf89 : Hid (Fr (fun j => j = ga) y83 y89) := by rw [← hu89]; exact (Fr.refl (fun j => j = ga) y83).setRow (.inl rfl) _
        have HST : Hid (y89.heap[ga]? = some (.cells (scells [] ⟨0, 0, 0⟩ 0 (.slice A6 n6 c6)).toArray 26 (0, 0))) := by rw [← hu89]; exact blk_row K88.out _
        have K90 : Hid (HI W y89) := K84.out.keep hf89.out (fun g hg e => by have := HGA.out; omega)
        have K91 : Hid (Fr (fun _ => False) X y89) := K85.out.trans' hf89.out (fun g hg e => by have := HGX.out; omega)
        have K92 : Hid (RowB (fun g => W.heap.size + 6 ≤ g ∧ g ≠ ga) y89 fv 2 [[.int .i64 1, .int .i64 8], [.int .i64 8, .int .i64 9]]) := K87.out.fr hf89.out (fun g hg e => hg.2 e)
        clear hu89
        refine hK.out _ _ trivial ?_
        clear hK K
        simp only [Act.put, List.setIfInBounds_toArray, List.set_cons_zero, List.set_cons_succ, Reg.Kept]
        refine' Reg.G.pure (i := 12) (v := _) rfl (by rfl) (by kernel_rfl) (by kernel_rfl) (by kernel_rfl) (fun _ _ _ h => hP _ _ _ _ _ h) ?hyq29 ?rehyq29
        case hyq29 => exact fun w => by first | (go_simp; done) | (go_simp; with_reducible rfl)
        simp only [Act.put, List.setIfInBounds_toArray, List.set_cons_zero, List.set_cons_succ]
        refine Reg.G.done (by kernel_rfl) ?_
        exact hQ _ _ _ _ _ _ _ _ _ _ _ _ _ ⟨hv.keep K91.out, (K92.out).mono (fun _ _ _ => trivial)⟩
      · go_simp
        obtain ⟨y94, hu94⟩ : ∃ u, y74.alloc (.cells #[.string ⟨#[]⟩, .int .i64 0, .int .i64 0, .int .i64 0, .int .i64 0, .slice none 0 0] 26) = u := ⟨_, rfl⟩
        rw [hu94]
        have hf94 : Hid (Fr (fun _ => False) y74 y94) := by rw [← hu94]; exact (Fr.refl _ y74).alloc _
        obtain ⟨ga, hga⟩ : ∃ ga, y74.heap.size = ga := ⟨_, rfl⟩
        rw [hga]
        have HGA : Hid (W.heap.size + 6 ≤ ga) := by have h := (K75.out).size; show _ ≤ _; omega
        have HGX : Hid (X.heap.size ≤ ga) := by have h := (K76.out).size; show _ ≤ _; omega
        have K95 : Hid (HI W y94) := K75.out.keep hf94.out (fun _ _ h => h)
        have K96 : Hid (Fr (fun _ => False) X y94) := K76.out.trans hf94.out
        have K97 : Hid (Lay (fun g => W.heap.size ≤ g) y94 (saleD n)) := K77.out.fr hf94.out (fun _ _ h => h)
        have K98 : Hid (y94.heap[gl]? = some (.cells ([wrongD, lostD (W.heap.size + 4), saleD n, termD].map DT.cells).flatten.toArray 41 (0, 0))) := hf94.out.blk K78.out (fun h => h)
        have K99 : Hid (y94.heap[ga]? = some (.cells #[.string ⟨#[]⟩, .int .i64 0, .int .i64 0, .int .i64 0, .int .i64 0, .slice none 0 0] 26 (0, 0))) := by rw [← hu94, ← hga]; exact blk_newn rfl
        clear hu94 hga
        refine hK.out _ _ trivial ?_
        clear hK K
        simp only [Act.put, List.setIfInBounds_toArray, List.set_cons_zero, List.set_cons_succ, Reg.Kept]
        refine Reg.G.step (j := 6) (m := []) [] rfl (by kernel_rfl) rfl (by kernel_rfl) (fun K hK => ?_)
        go_simp
        refine (call2 W _ n gl K95.out K97.out K98.out).mono ?_
        rintro e y100 ⟨A6, n6, c6, fv, rfl, hd1, hd3⟩
        have hf100 := Lib.hid hd3
        have hlo : W.heap.size + 6 ≤ y94.heap.size := (K95.out).size
        have hga : ga < y94.heap.size := lt_of_blk K99.out
        have K101 : Hid (HI W y100) := K95.out.keep hf100.out (fun _ _ h => h)
        have K102 : Hid (Fr (fun _ => False) X y100) := K96.out.trans hf100.out
        have K103 : Hid (y100.heap[ga]? = some (.cells #[.string ⟨#[]⟩, .int .i64 0, .int .i64 0, .int .i64 0, .int .i64 0, .slice none 0 0] 26 (0, 0))) := hf100.out.blk K99.out (fun h => h)
        have K104 : Hid (RowB (fun g => W.heap.size + 6 ≤ g ∧ g ≠ ga) y100 fv 2 [[.int .i64 1, .int .i64 8], [.int .i64 8, .int .i64 9]]) := hd1.mono (fun g _ hg => by omega)
        clear hd1 hd3 hlo
        refine hK.out _ _ trivial ?_
        clear hK K
        simp only [Act.put, List.setIfInBounds_toArray, List.set_cons_zero, List.set_cons_succ, Reg.Kept]
        refine' Reg.G.pure (i := 7) (v := _) rfl (by rfl) (by kernel_rfl) (by kernel_rfl) (by kernel_rfl) (fun _ _ _ h => hP _ _ _ _ _ h) ?hyq30 ?rehyq30
        case hyq30 => exact fun w => by first | (go_simp; done) | (go_simp; with_reducible rfl)
        simp only [Act.put, List.setIfInBounds_toArray, List.set_cons_zero, List.set_cons_succ]
        refine' Reg.G.pure (i := 8) (v := _) rfl (by rfl) (by kernel_rfl) (by kernel_rfl) (by kernel_rfl) (fun _ _ _ h => hP _ _ _ _ _ h) ?hyq31 ?rehyq31
        case hyq31 => exact fun w => by first | (go_simp; done) | (go_simp; with_reducible rfl)
        simp only [Act.put, List.setIfInBounds_toArray, List.set_cons_zero, List.set_cons_succ]
        refine' Reg.G.pure (i := 9) (v := _) rfl (by rfl) (by kernel_rfl) (by kernel_rfl) (by kernel_rfl) (fun _ _ _ h => hP _ _ _ _ _ h) ?hyq32 ?rehyq32
        case hyq32 => exact fun w => by first | (go_simp; done) | (go_simp; with_reducible rfl)
        simp only [Act.put, List.setIfInBounds_toArray, List.set_cons_zero, List.set_cons_succ]
        refine Reg.G.step (j := 11) (m := []) [] rfl (by kernel_rfl) rfl (by kernel_rfl) (fun K hK => ?_)
        refine wp_store_row 26 _ _ rfl ga (scells [] ⟨0, 0, 0⟩ 0 (.slice A6 n6 c6)).toArray rfl rfl 26 _ K103.out (info_src _ _ _ _) rfl (one_src0 _ _ _) ?_
        obtain ⟨y105, hu105⟩ : ∃ u, y100.setRow ga (scells [] ⟨0, 0, 0⟩ 0 (.slice A6 n6 c6)).toArray = u := ⟨_, rfl⟩
        rw [hu105]
        have hf105 : Hid (Fr (fun j => j = ga) y100 y105) := by rw [← hu105]; exact (Fr.refl (fun j => j = ga) y100).setRow (.inl rfl) _
        have HST : Hid (y105.heap[ga]? = some (.cells (scells [] ⟨0, 0, 0⟩ 0 (.slice A6 n6 c6)).toArray 26 (0, 0))) := by rw [← hu105]; exact blk_row K103.out _
        have K106 : Hid (HI W y105) := K101.out.keep hf105.out (fun g hg e => by have := HGA.out; omega)
        have K107 : Hid (Fr (fun _ => False) X y105) := K102.out.trans' hf105.out (fun g hg e => by have := HGX.out; omega)
        have K109 : Hid (RowB (fun g => W.heap.size + 6 ≤ g ∧ g ≠ ga) y105 fv 2 [[.int .i64 1, .int .i64 8], [.int .i64 8, .int .i64 9]]) := K104.out.fr hf105.out (fun g hg e => hg.2 e)
        clear hu105
        refine hK.out _ _ trivial ?_
        clear hK K
        simp only [Act.put, List.setIfInBounds_toArray, List.set_cons_zero, List.set_cons_succ, Reg.Kept]
        refine' Reg.G.pure (i := 12) (v := _) rfl (by rfl) (by kernel_rfl) (by kernel_rfl) (by kernel_rfl) (fun _ _ _ h => hP _ _ _ _ _ h) ?hyq33 ?rehyq33
        case hyq33 => exact fun w => by first | (go_simp; done) | (go_simp; with_reducible rfl)
        simp only [Act.put, List.setIfInBounds_toArray, List.set_cons_zero, List.set_cons_succ]
        refine Reg.G.done (by kernel_rfl) ?_
        exact hQ _ _ _ _ _ _ _ _ _ _ _ _ _ ⟨hv.keep K107.out, (K109.out).mono (fun _ _ _ => trivial)⟩
    · go_simp
      obtain ⟨y110, hu110⟩ : ∃ u, y70.alloc (.cells #[.string ⟨#[]⟩, .int .i64 0, .int .i64 0, .int .i64 0, .int .i64 0, .slice none 0 0] 26) = u := ⟨_, rfl⟩
      rw [hu110]
      have hf110 : Hid (Fr (fun _ => False) y70 y110) := by rw [← hu110]; exact (Fr.refl _ y70).alloc _
      obtain ⟨ga, hga⟩ : ∃ ga, y70.heap.size = ga := ⟨_, rfl⟩
      rw [hga]
      have HGA : Hid (W.heap.size + 6 ≤ ga) := by have h := (K71.out).size; show _ ≤ _; omega
      have HGX : Hid (X.heap.size ≤ ga) := by have h := (K72.out).size; show _ ≤ _; omega
      have K111 : Hid (HI W y110) := K71.out.keep hf110.out (fun _ _ h => h)
      have K112 : Hid (Fr (fun _ => False) X y110) := K72.out.trans hf110.out
      have K113 : Hid (Lay (fun g => W.heap.size ≤ g) y110 (saleD n)) := K73.out.fr hf110.out (fun _ _ h => h)
      have K114 : Hid (y110.heap[ga]? = some (.cells #[.string ⟨#[]⟩, .int .i64 0, .int .i64 0, .int .i64 0, .int .i64 0, .slice none 0 0] 26 (0, 0))) := by rw [← hu110, ← hga]; exact blk_newn rfl
      clear hu110 hga
      refine hK.out _ _ ⟨K111.out, K111.out, K111.out, trivial⟩ ?_
      clear hK K
      simp only [Act.put, List.setIfInBounds_toArray, List.set_cons_zero, List.set_cons_succ, Reg.Kept]
      refine Reg.G.step (j := 4) (m := [false, false, false]) [3, 1, 0] rfl (by kernel_rfl) rfl (by kernel_rfl) (fun K hK => ?_)
      refine wp_bsl 24 4 _ rfl #[(0, .agg wrongD.cells.toArray), (1, .agg (lostD (W.heap.size + 4)).cells.toArray), (2, .agg (saleD n).cells.toArray), (3, .agg termD.cells.toArray)] (by go_simp) (.slice (some ⟨y110.heap.size, 0, none⟩) 4 4) (y110.alloc (.cells ([wrongD, lostD (W.heap.size + 4), saleD n, termD].map DT.cells).flatten.toArray 41)) ?hb115 ?hq115
      case hb115 => exact bsl_4 _ _ _
      obtain ⟨y115, hu115⟩ : ∃ u, y110.alloc (.cells ([wrongD, lostD (W.heap.size + 4), saleD n, termD].map DT.cells).flatten.toArray 41) = u := ⟨_, rfl⟩
      rw [hu115]
      have hf115 : Hid (Fr (fun _ => False) y110 y115) := by rw [← hu115]; exact (Fr.refl _ y110).alloc _
      obtain ⟨gl, hgl⟩ : ∃ gl, y110.heap.size = gl := ⟨_, rfl⟩
      rw [hgl]
      have K116 : Hid (HI W y115) := K111.out.keep hf115.out (fun _ _ h => h)
      have K117 : Hid (Fr (fun _ => False) X y115) := K112.out.trans hf115.out
      have K118 : Hid (Lay (fun g => W.heap.size ≤ g) y115 (saleD n)) := K113.out.fr hf115.out (fun _ _ h => h)
      have K119 : Hid (y115.heap[ga]? = some (.cells #[.string ⟨#[]⟩, .int .i64 0, .int .i64 0, .int .i64 0, .int .i64 0, .slice none 0 0] 26 (0, 0))) := hf115.out.blk K114.out (fun h => h)
      have K120 : Hid (y115.heap[gl]? = some (.cells ([wrongD, lostD (W.heap.size + 4), saleD n, termD].map DT.cells).flatten.toArray 41 (0, 0))) := by rw [← hu115, ← hgl]; exact blk_newn rfl
      clear hu115 hgl
      refine hK.out _ _ trivial ?_
      clear hK K
      simp only [Act.put, List.setIfInBounds_toArray, List.set_cons_zero, List.set_cons_succ, Reg.Kept]
      refine' Reg.G.pure (i := 5) (v := .agg (scells [] ⟨0, 0, 0⟩ 0 (.slice (some ⟨gl, 0, none⟩) 4 4)).toArray) rfl (by rfl) (by kernel_rfl) (by kernel_rfl) (by kernel_rfl) (fun _ _ _ h => hP _ _ _ _ _ h) ?hyq34 ?rehyq34
      case hyq34 => exact fun w => by go_simp; rfl
      simp only [Act.put, List.setIfInBounds_toArray, List.set_cons_zero, List.set_cons_succ]
      refine Reg.G.step (j := 6) (m := []) [] rfl (by kernel_rfl) rfl (by kernel_rfl) (fun K hK => ?_)
      go_simp
      refine (call2 W _ n gl K116.out K118.out K120.out).mono ?_
      rintro e y121 ⟨A6, n6, c6, fv, rfl, hd1, hd3⟩
      have hf121 := Lib.hid hd3
      have hlo : W.heap.size + 6 ≤ y115.heap.size := (K116.out).size
      have hga : ga < y115.heap.size := lt_of_blk K119.out
      have K122 : Hid (HI W y121) := K116.out.keep hf121.out (fun _ _ h => h)
      have K123 : Hid (Fr (fun _ => False) X y121) := K117.out.trans hf121.out
      have K124 : Hid (y121.heap[ga]? = some (.cells #[.string ⟨#[]⟩, .int .i64 0, .int .i64 0, .int .i64 0, .int .i64 0, .slice none 0 0] 26 (0, 0))) := hf121.out.blk K119.out (fun h => h)
      have K125 : Hid (RowB (fun g => W.heap.size + 6 ≤ g ∧ g ≠ ga) y121 fv 2 [[.int .i64 1, .int .i64 8], [.int .i64 8, .int .i64 9]]) := hd1.mono (fun g _ hg => by omega)
      clear hd1 hd3 hlo
      refine hK.out _ _ trivial ?_
      clear hK K
      simp only [Act.put, List.setIfInBounds_toArray, List.set_cons_zero, List.set_cons_succ, Reg.Kept]
      refine' Reg.G.pure (i := 7) (v := _) rfl (by rfl) (by kernel_rfl) (by kernel_rfl) (by kernel_rfl) (fun _ _ _ h => hP _ _ _ _ _ h) ?hyq35 ?rehyq35
      case hyq35 => exact fun w => by first | (go_simp; done) | (go_simp; with_reducible rfl)
      simp only [Act.put, List.setIfInBounds_toArray, List.set_cons_zero, List.set_cons_succ]
      refine' Reg.G.pure (i := 8) (v := _) rfl (by rfl) (by kernel_rfl) (by kernel_rfl) (by kernel_rfl) (fun _ _ _ h => hP _ _ _ _ _ h) ?hyq36 ?rehyq36
      case hyq36 => exact fun w => by first | (go_simp; done) | (go_simp; with_reducible rfl)
      simp only [Act.put, List.setIfInBounds_toArray, List.set_cons_zero, List.set_cons_succ]
      refine' Reg.G.pure (i := 9) (v := _) rfl (by rfl) (by kernel_rfl) (by kernel_rfl) (by kernel_rfl) (fun _ _ _ h => hP _ _ _ _ _ h) ?hyq37 ?rehyq37
      case hyq37 => exact fun w => by first | (go_simp; done) | (go_simp; with_reducible rfl)
      simp only [Act.put, List.setIfInBounds_toArray, List.set_cons_zero, List.set_cons_succ]
      refine Reg.G.step (j := 11) (m := []) [] rfl (by kernel_rfl) rfl (by kernel_rfl) (fun K hK => ?_)
      refine wp_store_row 26 _ _ rfl ga (scells [] ⟨0, 0, 0⟩ 0 (.slice A6 n6 c6)).toArray rfl rfl 26 _ K124.out (info_src _ _ _ _) rfl (one_src0 _ _ _) ?_
      obtain ⟨y126, hu126⟩ : ∃ u, y121.setRow ga (scells [] ⟨0, 0, 0⟩ 0 (.slice A6 n6 c6)).toArray = u := ⟨_, rfl⟩
      rw [hu126]
      have hf126 : Hid (Fr (fun j => j = ga) y121 y126) := by rw [← hu126]; exact (Fr.refl (fun j => j = ga) y121).setRow (.inl rfl) _
      have HST : Hid (y126.heap[ga]? = some (.cells (scells [] ⟨0, 0, 0⟩ 0 (.slice A6 n6 c6)).toArray 26 (0, 0))) := by rw [← hu126]; exact blk_row K124.out _
      have K127 : Hid (HI W y126) := K122.out.keep hf126.out (fun g hg e => by have := HGA.out; omega)
      have K128 : Hid (Fr (fun _ => False) X y126) := K123.out.trans' hf126.out (fun g hg e => by have := HGX.out; omega)
      have K130 : Hid (RowB (fun g => W.heap.size + 6 ≤ g ∧ g ≠ ga) y126 fv 2 [[.int .i64 1, .int .i64 8], [.int .i64 8, .int .i64 9]]) := K125.out.fr hf126.out (fun g hg e => hg.2 e)
      clear hu126
      refine hK.out _ _ trivial ?_
      clear hK K
      simp only [Act.put, List.setIfInBounds_toArray, List.set_cons_zero, List.set_cons_succ, Reg.Kept]
      refine' Reg.G.pure (i := 12) (v := _) rfl (by rfl) (by kernel_rfl) (by kernel_rfl) (by kernel_rfl) (fun _ _ _ h => hP _ _ _ _ _ h) ?hyq38 ?rehyq38
      case hyq38 => exact fun w => by first | (go_simp; done) | (go_simp; with_reducible rfl)
      simp only [Act.put, List.setIfInBounds_toArray, List.set_cons_zero, List.set_cons_succ]
      refine Reg.G.done (by kernel_rfl) ?_
      exact hQ _ _ _ _ _ _ _ _ _ _ _ _ _ ⟨hv.keep K128.out, (K130.out).mono (fun _ _ _ => trivial)⟩
  · go_simp
    obtain ⟨y131, hu131⟩ : ∃ u, Xd.alloc (.cells #[.string ⟨#[]⟩, .int .i64 0, .int .i64 0, .int .i64 0, .int .i64 0, .slice none 0 0] 26) = u := ⟨_, rfl⟩
    rw [hu131]
    have hf131 : Hid (Fr (fun _ => False) Xd y131) := by rw [← hu131]; exact (Fr.refl _ Xd).alloc _
    obtain ⟨ga, hga⟩ : ∃ ga, Xd.heap.size = ga := ⟨_, rfl⟩
    rw [hga]
    have HGA : Hid (W.heap.size + 6 ≤ ga) := by have h := (HI0.out).size; show _ ≤ _; omega
    have HGX : Hid (X.heap.size ≤ ga) := by have h := (HFD.out).size; show _ ≤ _; omega
    have K132 : Hid (HI W y131) := HI0.out.keep hf131.out (fun _ _ h => h)
    have K133 : Hid (Fr (fun _ => False) X y131) := HFD.out.trans hf131.out
    have K134 : Hid (y131.heap[ga]? = some (.cells #[.string ⟨#[]⟩, .int .i64 0, .int .i64 0, .int .i64 0, .int .i64 0, .slice none 0 0] 26 (0, 0))) := by rw [← hu131, ← hga]; exact blk_newn rfl
    clear hu131 hga
    refine hK.out _ _ ⟨K132.out, K132.out, K132.out, trivial⟩ ?_
    clear hK K
    simp only [Act.put, List.setIfInBounds_toArray, List.set_cons_zero, List.set_cons_succ, Reg.Kept]
    refine Reg.G.step (j := 2) (m := [true, true, true]) [3, 1, 0] rfl (by kernel_rfl) rfl (by kernel_rfl) (fun K hK => ?_)
    go_simp
    refine (sale_any _).mono ?_
    rintro e y135 ⟨rfl, hs1, hf1⟩
    have hf135 := Lib.hid hf1
    obtain ⟨n, hn⟩ : ∃ n, y131.heap.size = n := ⟨_, rfl⟩
    rw [hn] at hs1
    rw [hn]
    have hnl : W.heap.size ≤ n := by have := (K132.out).size; omega
    have K136 : Hid (HI W y135) := K132.out.keep hf135.out (fun _ _ h => h)
    have K137 : Hid (Fr (fun _ => False) X y135) := K133.out.trans hf135.out
    have K138 : Hid (y135.heap[ga]? = some (.cells #[.string ⟨#[]⟩, .int .i64 0, .int .i64 0, .int .i64 0, .int .i64 0, .slice none 0 0] 26 (0, 0))) := hf135.out.blk K134.out (fun h => h)
    have K139 : Hid (Lay (fun g => W.heap.size ≤ g) y135 (saleD n)) := hs1.mono (fun g _ hg => by omega)
    clear hs1 hf1 hn hnl
    refine hK.out _ _ ⟨K136.out, K136.out, K136.out, trivial⟩ ?_
    clear hK K
    simp only [Act.put, List.setIfInBounds_toArray, List.set_cons_zero, List.set_cons_succ, Reg.Kept]
    refine Reg.G.step (j := 4) (m := [false, false, false]) [3, 1, 0] rfl (by kernel_rfl) rfl (by kernel_rfl) (fun K hK => ?_)
    refine wp_bsl 24 4 _ rfl #[(0, .agg wrongD.cells.toArray), (1, .agg (lostD (W.heap.size + 4)).cells.toArray), (2, .agg (saleD n).cells.toArray), (3, .agg termD.cells.toArray)] (by go_simp) (.slice (some ⟨y135.heap.size, 0, none⟩) 4 4) (y135.alloc (.cells ([wrongD, lostD (W.heap.size + 4), saleD n, termD].map DT.cells).flatten.toArray 41)) ?hb140 ?hq140
    case hb140 => exact bsl_4 _ _ _
    obtain ⟨y140, hu140⟩ : ∃ u, y135.alloc (.cells ([wrongD, lostD (W.heap.size + 4), saleD n, termD].map DT.cells).flatten.toArray 41) = u := ⟨_, rfl⟩
    rw [hu140]
    have hf140 : Hid (Fr (fun _ => False) y135 y140) := by rw [← hu140]; exact (Fr.refl _ y135).alloc _
    obtain ⟨gl, hgl⟩ : ∃ gl, y135.heap.size = gl := ⟨_, rfl⟩
    rw [hgl]
    have K141 : Hid (HI W y140) := K136.out.keep hf140.out (fun _ _ h => h)
    have K142 : Hid (Fr (fun _ => False) X y140) := K137.out.trans hf140.out
    have K143 : Hid (y140.heap[ga]? = some (.cells #[.string ⟨#[]⟩, .int .i64 0, .int .i64 0, .int .i64 0, .int .i64 0, .slice none 0 0] 26 (0, 0))) := hf140.out.blk K138.out (fun h => h)
    have K144 : Hid (Lay (fun g => W.heap.size ≤ g) y140 (saleD n)) := K139.out.fr hf140.out (fun _ _ h => h)
    have K145 : Hid (y140.heap[gl]? = some (.cells ([wrongD, lostD (W.heap.size + 4), saleD n, termD].map DT.cells).flatten.toArray 41 (0, 0))) := by rw [← hu140, ← hgl]; exact blk_newn rfl
    clear hu140 hgl
    refine hK.out _ _ trivial ?_
    clear hK K
    simp only [Act.put, List.setIfInBounds_toArray, List.set_cons_zero, List.set_cons_succ, Reg.Kept]
    refine' Reg.G.pure (i := 5) (v := .agg (scells [] ⟨0, 0, 0⟩ 0 (.slice (some ⟨gl, 0, none⟩) 4 4)).toArray) rfl (by rfl) (by kernel_rfl) (by kernel_rfl) (by kernel_rfl) (fun _ _ _ h => hP _ _ _ _ _ h) ?hyq39 ?rehyq39
    case hyq39 => exact fun w => by go_simp; rfl
    simp only [Act.put, List.setIfInBounds_toArray, List.set_cons_zero, List.set_cons_succ]
    refine Reg.G.step (j := 6) (m := []) [] rfl (by kernel_rfl) rfl (by kernel_rfl) (fun K hK => ?_)
    go_simp
    refine (call2 W _ n gl K141.out K144.out K145.out).mono ?_
    rintro e y146 ⟨A6, n6, c6, fv, rfl, hd1, hd3⟩
    have hf146 := Lib.hid hd3
    have hlo : W.heap.size + 6 ≤ y140.heap.size := (K141.out).size
    have hga : ga < y140.heap.size := lt_of_blk K143.out
    have K147 : Hid (HI W y146) := K141.out.keep hf146.out (fun _ _ h => h)
    have K148 : Hid (Fr (fun _ => False) X y146) := K142.out.trans hf146.out
    have K149 : Hid (y146.heap[ga]? = some (.cells #[.string ⟨#[]⟩, .int .i64 0, .int .i64 0, .int .i64 0, .int .i64 0, .slice none 0 0] 26 (0, 0))) := hf146.out.blk K143.out (fun h => h)
    have K150 : Hid (RowB (fun g => W.heap.size + 6 ≤ g ∧ g ≠ ga) y146 fv 2 [[.int .i64 1, .int .i64 8], [.int .i64 8, .int .i64 9]]) := hd1.mono (fun g _ hg => by omega)
    clear hd1 hd3 hlo
    refine hK.out _ _ trivial ?_
    clear hK K
    simp only [Act.put, List.setIfInBounds_toArray, List.set_cons_zero, List.set_cons_succ, Reg.Kept]
    refine' Reg.G.pure (i := 7) (v := _) rfl (by rfl) (by kernel_rfl) (by kernel_rfl) (by kernel_rfl) (fun _ _ _ h => hP _ _ _ _ _ h) ?hyq40 ?rehyq40
    case hyq40 => exact fun w => by first | (go_simp; done) | (go_simp; with_reducible rfl)
    simp only [Act.put, List.setIfInBounds_toArray, List.set_cons_zero, List.set_cons_succ]
    refine' Reg.G.pure (i := 8) (v := _) rfl (by rfl) (by kernel_rfl) (by kernel_rfl) (by kernel_rfl) (fun _ _ _ h => hP _ _ _ _ _ h) ?hyq41 ?rehyq41
    case hyq41 => exact fun w => by first | (go_simp; done) | (go_simp; with_reducible rfl)
    simp only [Act.put, List.setIfInBounds_toArray, List.set_cons_zero, List.set_cons_succ]
    refine' Reg.G.pure (i := 9) (v := _) rfl (by rfl) (by kernel_rfl) (by kernel_rfl) (by kernel_rfl) (fun _ _ _ h => hP _ _ _ _ _ h) ?hyq42 ?rehyq42
    case hyq42 => exact fun w => by first | (go_simp; done) | (go_simp; with_reducible rfl)
    simp only [Act.put, List.setIfInBounds_toArray, List.set_cons_zero, List.set_cons_succ]
    refine Reg.G.step (j := 11) (m := []) [] rfl (by kernel_rfl) rfl (by kernel_rfl) (fun K hK => ?_)
    refine wp_store_row 26 _ _ rfl ga (scells [] ⟨0, 0, 0⟩ 0 (.slice A6 n6 c6)).toArray rfl rfl 26 _ K149.out (info_src _ _ _ _) rfl (one_src0 _ _ _) ?_
    obtain ⟨y151, hu151⟩ : ∃ u, y146.setRow ga (scells [] ⟨0, 0, 0⟩ 0 (.slice A6 n6 c6)).toArray = u := ⟨_, rfl⟩
    rw [hu151]
    have hf151 : Hid (Fr (fun j => j = ga) y146 y151) := by rw [← hu151]; exact (Fr.refl (fun j => j = ga) y146).setRow (.inl rfl) _
    have HST : Hid (y151.heap[ga]? = some (.cells (scells [] ⟨0, 0, 0⟩ 0 (.slice A6 n6 c6)).toArray 26 (0, 0))) := by rw [← hu151]; exact blk_row K149.out _
    have K152 : Hid (HI W y151) := K147.out.keep hf151.out (fun g hg e => by have := HGA.out; omega)
    have K153 : Hid (Fr (fun _ => False) X y151) := K148.out.trans' hf151.out (fun g hg e => by have := HGX.out; omega)
    have K155 : Hid (RowB (fun g => W.heap.size + 6 ≤ g ∧ g ≠ ga) y151 fv 2 [[.int .i64 1, .int .i64 8], [.int .i64 8, .int .i64 9]]) := K150.out.fr hf151.out (fun g hg e => hg.2 e)
    clear hu151
    refine hK.out _ _ trivial ?_
    clear hK K
    simp only [Act.put, List.setIfInBounds_toArray, List.set_cons_zero, List.set_cons_succ, Reg.Kept]
    refine' Reg.G.pure (i := 12) (v := _) rfl (by rfl) (by kernel_rfl) (by kernel_rfl) (by kernel_rfl) (fun _ _ _ h => hP _ _ _ _ _ h) ?hyq43 ?rehyq43
    case hyq43 => exact fun w => by first | (go_simp; done) | (go_simp; with_reducible rfl)
    simp only [Act.put, List.setIfInBounds_toArray, List.set_cons_zero, List.set_cons_succ]
    refine Reg.G.done (by kernel_rfl) ?_
    exact hQ _ _ _ _ _ _ _ _ _ _ _ _ _ ⟨hv.keep K153.out, (K155.out).mono (fun _ _ _ => trivial)⟩
set_option maxRecDepth 100000 in
set_option maxHeartbeats 16000000 in
theorem head_r9 {W X : World} {g5 gi oi ci : Nat} {x y : DT} {u0 u1 u2 u3 u4 u6 u7 u8 u9 u10 u11 u12 u13 u14 u15 u16 u17 u18 u19 u20 u21 u22 u23 u24 u25 u26 u27 u28 u29 u30 u31 u32 u33 u34 u35 u36 u37 u38 u39 u40 u41 u42 u43 u44 u45 u46 u47 u48 u49 u50 u51 u52 u53 u54 u55 u56 u57 u58 u59 u60 u61 u62 u63 u64 u65 u66 u67 u68 u69 u70 u71 u72 u73 u74 u75 u76 u77 u78 u79 u80 u81 u82 u83 u84 u85 u86 u87 u88 u89 u90 u91 u92 u93 u94 u95 u96 u97 u98 u99 u100 u101 u102 u103 u104 u105 u106 u107 u108 u109 u110 u111 u112 u113 u114 u115 u116 u117 u118 u119 u120 u121 u122 u123 u124 u125 u126 : Value} {Q : Exit → Act → World → Prop} {C : Code} (hC : C = Cut.region Try.f9 9) (h5 : H5 W g5 (.slice (some ⟨gi, oi, none⟩) 2 ci) [x, y] X) (hP : Cut.Blind Q)
    (hQ : ∀ (v9 v10 v61 v62 v63 v64 v65 v66 v67 v68 : Value) (wx : World), V9 x y v9 v10 X wx → Q .normal ⟨#[u0, u1, u2, u3, u4, .pointer (some ⟨g5, 0, none⟩), u6, u7, u8, v9, v10, u11, u12, u13, u14, u15, u16, u17, u18, u19, u20, u21, u22, u23, u24, u25, u26, u27, u28, u29, u30, u31, u32, u33, u34, u35, u36, u37, u38, u39, u40, u41, u42, u43, u44, u45, u46, u47, u48, u49, u50, u51, u52, u53, u54, u55, u56, u57, u58, u59, u60, v61, v62, v63, v64, v65, v66, v67, v68, u69, u70, u71, u72, u73, u74, u75, u76, u77, u78, u79, u80, u81, u82, u83, u84, u85, u86, u87, u88, u89, u90, u91, u92, u93, u94, u95, u96, u97, u98, u99, u100, u101, u102, u103, u104, u105, u106, u107, u108, u109, u110, u111, u112, u113, u114, u115, u116, u117, u118, u119, u120, u121, u122, u123, u124, u125, u126], []⟩ wx) :
    Code.wp Try.prog C Q ⟨#[u0, u1, u2, u3, u4, .pointer (some ⟨g5, 0, none⟩), u6, u7, u8, u9, u10, u11, u12, u13, u14, u15, u16, u17, u18, u19, u20, u21, u22, u23, u24, u25, u26, u27, u28, u29, u30, u31, u32, u33, u34, u35, u36, u37, u38, u39, u40, u41, u42, u43, u44, u45, u46, u47, u48, u49, u50, u51, u52, u53, u54, u55, u56, u57, u58, u59, u60, u61, u62, u63, u64, u65, u66, u67, u68, u69, u70, u71, u72, u73, u74, u75, u76, u77, u78, u79, u80, u81, u82, u83, u84, u85, u86, u87, u88, u89, u90, u91, u92, u93, u94, u95, u96, u97, u98, u99, u100, u101, u102, u103, u104, u105, u106, u107, u108, u109, u110, u111, u112, u113, u114, u115, u116, u117, u118, u119, u120, u121, u122, u123, u124, u125, u126], []⟩ X := by
  subst hC
  conv => arg 2; whnf
  refine Reg.G.start (by kernel_rfl) ?_
  obtain ⟨Xd, HXd⟩ : ∃ Y, Hid (X.drew = Y) := ⟨_, rfl⟩
  have HFD : Hid (Fr (fun _ => False) X Xd) := by rw [← HXd.out]; exact (Fr.refl _ X).drew
  have HLX : Hid (Lay _ X x) := h5.lay.lay x (by simp)
  have HLY : Hid (Lay _ X y) := h5.lay.lay y (by simp)
  obtain ⟨g0, o0, e0, hg0, _, hax⟩ := h5.lay.at (k := 0) (x := x) rfl
  injection e0 with e0; injection e0 with e1 e2 _; subst e1; subst e2
  obtain ⟨g1, o1, e1, hg1, _, hay⟩ := h5.lay.at (k := 1) (x := y) rfl
  injection e1 with e1; injection e1 with e2 e3 _; subst e2; subst e3
  have HAX : Hid (∀ w, Fr (fun _ => False) X w → At w gi oi x.cells) := fun w hw => by have := At.fr hax hg0 hw (fun h => h); simpa using this
  have HAY : Hid (∀ w, Fr (fun _ => False) X w → At w gi (oi + 33) y.cells) := fun w hw => by have := At.fr hay hg0 hw (fun h => h); simpa using this
  clear hax hay
  rw [HXd.out]
  clear HXd
  refine' Reg.G.pure (i := 0) (v := _) rfl (by rfl) (by kernel_rfl) (by kernel_rfl) (by kernel_rfl) (fun _ _ _ h => hP _ _ _ _ _ h) ?hys44 ?rehys44
  case hys44 => exact fun w => by first | (go_simp; done) | (go_simp; with_reducible rfl)
  simp only [Act.put, List.setIfInBounds_toArray, List.set_cons_zero, List.set_cons_succ]
  refine' Reg.G.take (i := 1) (v := _) (F := (fun w => Fr (fun _ => False) X w)) rfl (by rfl) (by kernel_rfl) (by kernel_rfl) (by kernel_rfl) (fun _ _ _ h => hP _ _ _ _ _ h) (HFD.out) ?hys45 ?rehys45
  case hys45 => intro w hw; have kc : w.cell? ⟨g5, 5, none⟩ = some (.slice (some ⟨gi, oi, none⟩) 2 ci) := (cell_of_blk (h5.keep hw).b 5).trans rfl; clear hw; first | (go_simp; done) | (go_simp; with_reducible rfl)
  simp only [Act.put, List.setIfInBounds_toArray, List.set_cons_zero, List.set_cons_succ]
  refine' Reg.G.pure (i := 2) (v := _) rfl (by rfl) (by kernel_rfl) (by kernel_rfl) (by kernel_rfl) (fun _ _ _ h => hP _ _ _ _ _ h) ?hys46 ?rehys46
  case hys46 => exact fun w => by first | (go_simp; done) | (go_simp; with_reducible rfl)
  simp only [Act.put, List.setIfInBounds_toArray, List.set_cons_zero, List.set_cons_succ]
  refine' Reg.G.take (i := 3) (v := _) (F := (fun w => Fr (fun _ => False) X w)) rfl (by rfl) (by kernel_rfl) (by kernel_rfl) (by kernel_rfl) (fun _ _ _ h => hP _ _ _ _ _ h) (HFD.out) ?hys47 ?rehys47
  case hys47 => intro w hw; refine run_load_at 41 (.tmp 63) ?_ gi (oi) ?_ x.cells _ (HAX.out w hw) Try.underlying41 rfl (info_itl x) <;> rfl
  simp only [Act.put, List.setIfInBounds_toArray, List.set_cons_zero, List.set_cons_succ]
  refine' Reg.G.pure (i := 4) (v := _) rfl (by rfl) (by kernel_rfl) (by kernel_rfl) (by kernel_rfl) (fun _ _ _ h => hP _ _ _ _ _ h) ?hys48 ?rehys48
  case hys48 => exact fun w => by first | (go_simp; done) | (go_simp; with_reducible rfl)
  simp only [Act.put, List.setIfInBounds_toArray, List.set_cons_zero, List.set_cons_succ]
  refine' Reg.G.take (i := 5) (v := _) (F := (fun w => Fr (fun _ => False) X w)) rfl (by rfl) (by kernel_rfl) (by kernel_rfl) (by kernel_rfl) (fun _ _ _ h => hP _ _ _ _ _ h) (HFD.out) ?hys49 ?rehys49
  case hys49 => intro w hw; have kc : w.cell? ⟨g5, 5, none⟩ = some (.slice (some ⟨gi, oi, none⟩) 2 ci) := (cell_of_blk (h5.keep hw).b 5).trans rfl; clear hw; first | (go_simp; done) | (go_simp; with_reducible rfl)
  simp only [Act.put, List.setIfInBounds_toArray, List.set_cons_zero, List.set_cons_succ]
  refine' Reg.G.pure (i := 6) (v := _) rfl (by rfl) (by kernel_rfl) (by kernel_rfl) (by kernel_rfl) (fun _ _ _ h => hP _ _ _ _ _ h) ?hys50 ?rehys50
  case hys50 => exact fun w => by first | (go_simp; done) | (go_simp; with_reducible rfl)
  simp only [Act.put, List.setIfInBounds_toArray, List.set_cons_zero, List.set_cons_succ]
  refine' Reg.G.take (i := 7) (v := _) (F := (fun w => Fr (fun _ => False) X w)) rfl (by rfl) (by kernel_rfl) (by kernel_rfl) (by kernel_rfl) (fun _ _ _ h => hP _ _ _ _ _ h) (HFD.out) ?hys51 ?rehys51
  case hys51 => intro w hw; refine run_load_at 41 (.tmp 67) ?_ gi (oi + 33) ?_ y.cells _ (HAY.out w hw) Try.underlying41 rfl (info_itl y) <;> rfl
  simp only [Act.put, List.setIfInBounds_toArray, List.set_cons_zero, List.set_cons_succ]
  refine Reg.G.two (j1 := 8) (j2 := 9) (m1 := [true, true, true, true]) (m2 := [true, true, true, true]) [7, 5, 3, 1] rfl rfl (by kernel_rfl) rfl (by kernel_rfl) (by kernel_rfl) (fun K hK => ?_) (fun K hK => ?_)
  · go_simp
    obtain ⟨y156, hu156⟩ : ∃ u, Xd.alloc (.cells #[.int .i64 0, .string ⟨#[]⟩, .int .i64 0, .string ⟨#[]⟩, .string ⟨#[]⟩, .int .i64 0, .int .i64 0, .int .i64 0, .bool false, .string ⟨#[]⟩, .int .i64 0, .bool false, .string ⟨#[]⟩, .slice none 0 0, .string ⟨#[]⟩, .string ⟨#[]⟩, .int .i64 0, .int .i64 0, .string ⟨#[]⟩, .string ⟨#[]⟩, .bool false, .string ⟨#[]⟩, .string ⟨#[]⟩, .bool false, .bool false, .bool false, .bool false, .bool false, .bool false, .bool false, .slice none 0 0, .slice none 0 0, .slice none 0 0] 41) = u := ⟨_, rfl⟩
    rw [hu156]
    have hf156 : Hid (Fr (fun _ => False) Xd y156) := by rw [← hu156]; exact (Fr.refl _ Xd).alloc _
    obtain ⟨g9, hga⟩ : ∃ ga, Xd.heap.size = ga := ⟨_, rfl⟩
    rw [hga]
    have HG9 : Hid (X.heap.size ≤ g9) := by have h := (HFD.out).size; show _ ≤ _; omega
    have K157 : Hid (Fr (fun _ => False) X y156) := HFD.out.trans hf156.out
    have K158 : Hid (y156.heap[g9]? = some (.cells #[.int .i64 0, .string ⟨#[]⟩, .int .i64 0, .string ⟨#[]⟩, .string ⟨#[]⟩, .int .i64 0, .int .i64 0, .int .i64 0, .bool false, .string ⟨#[]⟩, .int .i64 0, .bool false, .string ⟨#[]⟩, .slice none 0 0, .string ⟨#[]⟩, .string ⟨#[]⟩, .int .i64 0, .int .i64 0, .string ⟨#[]⟩, .string ⟨#[]⟩, .bool false, .string ⟨#[]⟩, .string ⟨#[]⟩, .bool false, .bool false, .bool false, .bool false, .bool false, .bool false, .bool false, .slice none 0 0, .slice none 0 0, .slice none 0 0] 41 (0, 0))) := by rw [← hu156, ← hga]; exact blk_newn rfl
    clear hu156 hga
    refine hK.out _ _ ⟨K157.out, K157.out, K157.out, K157.out, trivial⟩ ?_
    clear hK K
    simp only [Act.put, List.setIfInBounds_toArray, List.set_cons_zero, List.set_cons_succ, Reg.Kept]
    refine Reg.G.step (j := 9) (m := [true, true, true, true]) [7, 5, 3, 1] rfl (by kernel_rfl) rfl (by kernel_rfl) (fun K hK => ?_)
    go_simp
    obtain ⟨y159, hu159⟩ : ∃ u, y156.alloc (.cells #[.int .i64 0, .string ⟨#[]⟩, .int .i64 0, .string ⟨#[]⟩, .string ⟨#[]⟩, .int .i64 0, .int .i64 0, .int .i64 0, .bool false, .string ⟨#[]⟩, .int .i64 0, .bool false, .string ⟨#[]⟩, .slice none 0 0, .string ⟨#[]⟩, .string ⟨#[]⟩, .int .i64 0, .int .i64 0, .string ⟨#[]⟩, .string ⟨#[]⟩, .bool false, .string ⟨#[]⟩, .string ⟨#[]⟩, .bool false, .bool false, .bool false, .bool false, .bool false, .bool false, .bool false, .slice none 0 0, .slice none 0 0, .slice none 0 0] 41) = u := ⟨_, rfl⟩
    rw [hu159]
    have hf159 : Hid (Fr (fun _ => False) y156 y159) := by rw [← hu159]; exact (Fr.refl _ y156).alloc _
    obtain ⟨g10, hga⟩ : ∃ ga, y156.heap.size = ga := ⟨_, rfl⟩
    rw [hga]
    have HG10 : Hid (X.heap.size ≤ g10) := by have h := (K157.out).size; show _ ≤ _; omega
    have HNE : Hid (g9 ≠ g10) := by have h := lt_of_blk K158.out; show _ ≠ _; omega
    have K160 : Hid (Fr (fun _ => False) X y159) := K157.out.trans hf159.out
    have K161 : Hid (y159.heap[g9]? = some (.cells #[.int .i64 0, .string ⟨#[]⟩, .int .i64 0, .string ⟨#[]⟩, .string ⟨#[]⟩, .int .i64 0, .int .i64 0, .int .i64 0, .bool false, .string ⟨#[]⟩, .int .i64 0, .bool false, .string ⟨#[]⟩, .slice none 0 0, .string ⟨#[]⟩, .string ⟨#[]⟩, .int .i64 0, .int .i64 0, .string ⟨#[]⟩, .string ⟨#[]⟩, .bool false, .string ⟨#[]⟩, .string ⟨#[]⟩, .bool false, .bool false, .bool false, .bool false, .bool false, .bool false, .bool false, .slice none 0 0, .slice none 0 0, .slice none 0 0] 41 (0, 0))) := hf159.out.blk K158.out (fun h => h)
    have K162 : Hid (y159.heap[g10]? = some (.cells #[.int .i64 0, .string ⟨#[]⟩, .int .i64 0, .string ⟨#[]⟩, .string ⟨#[]⟩, .int .i64 0, .int .i64 0, .int .i64 0, .bool false, .string ⟨#[]⟩, .int .i64 0, .bool false, .string ⟨#[]⟩, .slice none 0 0, .string ⟨#[]⟩, .string ⟨#[]⟩, .int .i64 0, .int .i64 0, .string ⟨#[]⟩, .string ⟨#[]⟩, .bool false, .string ⟨#[]⟩, .string ⟨#[]⟩, .bool false, .bool false, .bool false, .bool false, .bool false, .bool false, .bool false, .slice none 0 0, .slice none 0 0, .slice none 0 0] 41 (0, 0))) := by rw [← hu159, ← hga]; exact blk_newn rfl
    clear hu159 hga
    refine hK.out _ _ ⟨K160.out, K160.out, K160.out, K160.out, trivial⟩ ?_
    clear hK K
    simp only [Act.put, List.setIfInBounds_toArray, List.set_cons_zero, List.set_cons_succ, Reg.Kept]
    refine Reg.G.step (j := 10) (m := [true, true, false, false]) [7, 5, 3, 1] rfl (by kernel_rfl) rfl (by kernel_rfl) (fun K hK => ?_)
    refine wp_store_row 41 _ _ rfl g9 x.cells.toArray rfl rfl 41 _ K161.out (info_it x) (cells_size x).symm HLX.out.one ?_
    obtain ⟨y163, hu163⟩ : ∃ u, y159.setRow g9 x.cells.toArray = u := ⟨_, rfl⟩
    rw [hu163]
    have hf163 : Hid (Fr (fun j => j = g9) y159 y163) := by rw [← hu163]; exact (Fr.refl (fun j => j = g9) y159).setRow (.inl rfl) _
    have K164 : Hid (Fr (fun _ => False) X y163) := K160.out.trans' hf163.out (fun g hg e => by have h1 := HG9.out; have h2 := HG10.out; omega)
    have K165 : Hid (y163.heap[g10]? = some (.cells #[.int .i64 0, .string ⟨#[]⟩, .int .i64 0, .string ⟨#[]⟩, .string ⟨#[]⟩, .int .i64 0, .int .i64 0, .int .i64 0, .bool false, .string ⟨#[]⟩, .int .i64 0, .bool false, .string ⟨#[]⟩, .slice none 0 0, .string ⟨#[]⟩, .string ⟨#[]⟩, .int .i64 0, .int .i64 0, .string ⟨#[]⟩, .string ⟨#[]⟩, .bool false, .string ⟨#[]⟩, .string ⟨#[]⟩, .bool false, .bool false, .bool false, .bool false, .bool false, .bool false, .bool false, .slice none 0 0, .slice none 0 0, .slice none 0 0] 41 (0, 0))) := hf163.out.blk K162.out (fun e => by have := HNE.out; omega)
    have K166 : Hid (y163.heap[g9]? = some (.cells x.cells.toArray 41 (0, 0))) := by rw [← hu163]; exact blk_row K161.out _
    clear hu163
    refine hK.out _ _ ⟨K164.out, K164.out, trivial⟩ ?_
    clear hK K
    simp only [Act.put, List.setIfInBounds_toArray, List.set_cons_zero, List.set_cons_succ, Reg.Kept]
    refine Reg.G.step (j := 11) (m := [false, false]) [7, 5] rfl (by kernel_rfl) rfl (by kernel_rfl) (fun K hK => ?_)
    refine wp_store_row 41 _ _ rfl g10 y.cells.toArray rfl rfl 41 _ K165.out (info_it y) (cells_size y).symm HLY.out.one ?_
    obtain ⟨y167, hu167⟩ : ∃ u, y163.setRow g10 y.cells.toArray = u := ⟨_, rfl⟩
    rw [hu167]
    have hf167 : Hid (Fr (fun j => j = g10) y163 y167) := by rw [← hu167]; exact (Fr.refl (fun j => j = g10) y163).setRow (.inl rfl) _
    have K168 : Hid (Fr (fun _ => False) X y167) := K164.out.trans' hf167.out (fun g hg e => by have h1 := HG9.out; have h2 := HG10.out; omega)
    have K169 : Hid (y167.heap[g9]? = some (.cells x.cells.toArray 41 (0, 0))) := hf167.out.blk K166.out (fun e => by have := HNE.out; omega)
    have K170 : Hid (y167.heap[g10]? = some (.cells y.cells.toArray 41 (0, 0))) := by rw [← hu167]; exact blk_row K165.out _
    clear hu167
    refine hK.out _ _ trivial ?_
    clear hK K
    simp only [Act.put, List.setIfInBounds_toArray, List.set_cons_zero, List.set_cons_succ, Reg.Kept]
    refine Reg.G.done (by kernel_rfl) ?_
    exact hQ _ _ _ _ _ _ _ _ _ _ _ ⟨g9, g10, rfl, rfl, K168.out, K169.out, K170.out⟩
  · go_simp
    obtain ⟨y171, hu171⟩ : ∃ u, Xd.alloc (.cells #[.int .i64 0, .string ⟨#[]⟩, .int .i64 0, .string ⟨#[]⟩, .string ⟨#[]⟩, .int .i64 0, .int .i64 0, .int .i64 0, .bool false, .string ⟨#[]⟩, .int .i64 0, .bool false, .string ⟨#[]⟩, .slice none 0 0, .string ⟨#[]⟩, .string ⟨#[]⟩, .int .i64 0, .int .i64 0, .string ⟨#[]⟩, .string ⟨#[]⟩, .bool false, .string ⟨#[]⟩, .string ⟨#[]⟩, .bool false, .bool false, .bool false, .bool false, .bool false, .bool false, .bool false, .slice none 0 0, .slice none 0 0, .slice none 0 0] 41) = u := ⟨_, rfl⟩
    rw [hu171]
    have hf171 : Hid (Fr (fun _ => False) Xd y171) := by rw [← hu171]; exact (Fr.refl _ Xd).alloc _
    obtain ⟨g10, hga⟩ : ∃ ga, Xd.heap.size = ga := ⟨_, rfl⟩
    rw [hga]
    have HG10 : Hid (X.heap.size ≤ g10) := by have h := (HFD.out).size; show _ ≤ _; omega
    have K172 : Hid (Fr (fun _ => False) X y171) := HFD.out.trans hf171.out
    have K173 : Hid (y171.heap[g10]? = some (.cells #[.int .i64 0, .string ⟨#[]⟩, .int .i64 0, .string ⟨#[]⟩, .string ⟨#[]⟩, .int .i64 0, .int .i64 0, .int .i64 0, .bool false, .string ⟨#[]⟩, .int .i64 0, .bool false, .string ⟨#[]⟩, .slice none 0 0, .string ⟨#[]⟩, .string ⟨#[]⟩, .int .i64 0, .int .i64 0, .string ⟨#[]⟩, .string ⟨#[]⟩, .bool false, .string ⟨#[]⟩, .string ⟨#[]⟩, .bool false, .bool false, .bool false, .bool false, .bool false, .bool false, .bool false, .slice none 0 0, .slice none 0 0, .slice none 0 0] 41 (0, 0))) := by rw [← hu171, ← hga]; exact blk_newn rfl
    clear hu171 hga
    refine hK.out _ _ ⟨K172.out, K172.out, K172.out, K172.out, trivial⟩ ?_
    clear hK K
    simp only [Act.put, List.setIfInBounds_toArray, List.set_cons_zero, List.set_cons_succ, Reg.Kept]
    refine Reg.G.step (j := 8) (m := [true, true, true, true]) [7, 5, 3, 1] rfl (by kernel_rfl) rfl (by kernel_rfl) (fun K hK => ?_)
    go_simp
    obtain ⟨y174, hu174⟩ : ∃ u, y171.alloc (.cells #[.int .i64 0, .string ⟨#[]⟩, .int .i64 0, .string ⟨#[]⟩, .string ⟨#[]⟩, .int .i64 0, .int .i64 0, .int .i64 0, .bool false, .string ⟨#[]⟩, .int .i64 0, .bool false, .string ⟨#[]⟩, .slice none 0 0, .string ⟨#[]⟩, .string ⟨#[]⟩, .int .i64 0, .int .i64 0, .string ⟨#[]⟩, .string ⟨#[]⟩, .bool false, .string ⟨#[]⟩, .string ⟨#[]⟩, .bool false, .bool false, .bool false, .bool false, .bool false, .bool false, .bool false, .slice none 0 0, .slice none 0 0, .slice none 0 0] 41) = u := ⟨_, rfl⟩
    rw [hu174]
    have hf174 : Hid (Fr (fun _ => False) y171 y174) := by rw [← hu174]; exact (Fr.refl _ y171).alloc _
    obtain ⟨g9, hga⟩ : ∃ ga, y171.heap.size = ga := ⟨_, rfl⟩
    rw [hga]
    have HG9 : Hid (X.heap.size ≤ g9) := by have h := (K172.out).size; show _ ≤ _; omega
    have HNE : Hid (g9 ≠ g10) := by have h := lt_of_blk K173.out; show _ ≠ _; omega
    have K175 : Hid (Fr (fun _ => False) X y174) := K172.out.trans hf174.out
    have K176 : Hid (y174.heap[g10]? = some (.cells #[.int .i64 0, .string ⟨#[]⟩, .int .i64 0, .string ⟨#[]⟩, .string ⟨#[]⟩, .int .i64 0, .int .i64 0, .int .i64 0, .bool false, .string ⟨#[]⟩, .int .i64 0, .bool false, .string ⟨#[]⟩, .slice none 0 0, .string ⟨#[]⟩, .string ⟨#[]⟩, .int .i64 0, .int .i64 0, .string ⟨#[]⟩, .string ⟨#[]⟩, .bool false, .string ⟨#[]⟩, .string ⟨#[]⟩, .bool false, .bool false, .bool false, .bool false, .bool false, .bool false, .bool false, .slice none 0 0, .slice none 0 0, .slice none 0 0] 41 (0, 0))) := hf174.out.blk K173.out (fun h => h)
    have K177 : Hid (y174.heap[g9]? = some (.cells #[.int .i64 0, .string ⟨#[]⟩, .int .i64 0, .string ⟨#[]⟩, .string ⟨#[]⟩, .int .i64 0, .int .i64 0, .int .i64 0, .bool false, .string ⟨#[]⟩, .int .i64 0, .bool false, .string ⟨#[]⟩, .slice none 0 0, .string ⟨#[]⟩, .string ⟨#[]⟩, .int .i64 0, .int .i64 0, .string ⟨#[]⟩, .string ⟨#[]⟩, .bool false, .string ⟨#[]⟩, .string ⟨#[]⟩, .bool false, .bool false, .bool false, .bool false, .bool false, .bool false, .bool false, .slice none 0 0, .slice none 0 0, .slice none 0 0] 41 (0, 0))) := by rw [← hu174, ← hga]; exact blk_newn rfl
    clear hu174 hga
    refine hK.out _ _ ⟨K175.out, K175.out, K175.out, K175.out, trivial⟩ ?_
    clear hK K
    simp only [Act.put, List.setIfInBounds_toArray, List.set_cons_zero, List.set_cons_succ, Reg.Kept]
    refine Reg.G.step (j := 10) (m := [true, true, false, false]) [7, 5, 3, 1] rfl (by kernel_rfl) rfl (by kernel_rfl) (fun K hK => ?_)
    refine wp_store_row 41 _ _ rfl g9 x.cells.toArray rfl rfl 41 _ K177.out (info_it x) (cells_size x).symm HLX.out.one ?_
    obtain ⟨y178, hu178⟩ : ∃ u, y174.setRow g9 x.cells.toArray = u := ⟨_, rfl⟩
    rw [hu178]
    have hf178 : Hid (Fr (fun j => j = g9) y174 y178) := by rw [← hu178]; exact (Fr.refl (fun j => j = g9) y174).setRow (.inl rfl) _
    have K179 : Hid (Fr (fun _ => False) X y178) := K175.out.trans' hf178.out (fun g hg e => by have h1 := HG9.out; have h2 := HG10.out; omega)
    have K180 : Hid (y178.heap[g10]? = some (.cells #[.int .i64 0, .string ⟨#[]⟩, .int .i64 0, .string ⟨#[]⟩, .string ⟨#[]⟩, .int .i64 0, .int .i64 0, .int .i64 0, .bool false, .string ⟨#[]⟩, .int .i64 0, .bool false, .string ⟨#[]⟩, .slice none 0 0, .string ⟨#[]⟩, .string ⟨#[]⟩, .int .i64 0, .int .i64 0, .string ⟨#[]⟩, .string ⟨#[]⟩, .bool false, .string ⟨#[]⟩, .string ⟨#[]⟩, .bool false, .bool false, .bool false, .bool false, .bool false, .bool false, .bool false, .slice none 0 0, .slice none 0 0, .slice none 0 0] 41 (0, 0))) := hf178.out.blk K176.out (fun e => by have := HNE.out; omega)
    have K181 : Hid (y178.heap[g9]? = some (.cells x.cells.toArray 41 (0, 0))) := by rw [← hu178]; exact blk_row K177.out _
    clear hu178
    refine hK.out _ _ ⟨K179.out, K179.out, trivial⟩ ?_
    clear hK K
    simp only [Act.put, List.setIfInBounds_toArray, List.set_cons_zero, List.set_cons_succ, Reg.Kept]
    refine Reg.G.step (j := 11) (m := [false, false]) [7, 5] rfl (by kernel_rfl) rfl (by kernel_rfl) (fun K hK => ?_)
    refine wp_store_row 41 _ _ rfl g10 y.cells.toArray rfl rfl 41 _ K180.out (info_it y) (cells_size y).symm HLY.out.one ?_
    obtain ⟨y182, hu182⟩ : ∃ u, y178.setRow g10 y.cells.toArray = u := ⟨_, rfl⟩
    rw [hu182]
    have hf182 : Hid (Fr (fun j => j = g10) y178 y182) := by rw [← hu182]; exact (Fr.refl (fun j => j = g10) y178).setRow (.inl rfl) _
    have K183 : Hid (Fr (fun _ => False) X y182) := K179.out.trans' hf182.out (fun g hg e => by have h1 := HG9.out; have h2 := HG10.out; omega)
    have K184 : Hid (y182.heap[g9]? = some (.cells x.cells.toArray 41 (0, 0))) := hf182.out.blk K181.out (fun e => by have := HNE.out; omega)
    have K185 : Hid (y182.heap[g10]? = some (.cells y.cells.toArray 41 (0, 0))) := by rw [← hu182]; exact blk_row K180.out _
    clear hu182
    refine hK.out _ _ trivial ?_
    clear hK K
    simp only [Act.put, List.setIfInBounds_toArray, List.set_cons_zero, List.set_cons_succ, Reg.Kept]
    refine Reg.G.done (by kernel_rfl) ?_
    exact hQ _ _ _ _ _ _ _ _ _ _ _ ⟨g9, g10, rfl, rfl, K183.out, K184.out, K185.out⟩
set_option maxRecDepth 100000 in
set_option maxHeartbeats 16000000 in
theorem head_any (W : World) : Calls Try.prog 9 #[] W fun e w' => e = .returned (.bool true) ∧ Fr (fun _ => False) W w' := by
  go_enter Try.func9, Try.ntmps9
  go_upto_region 1 with fail
  iterate 4 go_step
  refine wpList_built rfl 41 _ rfl #[(0, .int .i64 6), (1, .string ⟨#[116, 101, 114, 109]⟩), (7, .agg #[.int .i64 5, .bool false, .string ⟨#[]⟩])] (by go_simp) (.agg termD.cells.toArray) (build_term _) ?_
  simp only [Act.put, List.setIfInBounds_toArray, List.set_cons_zero, List.set_cons_succ]
  iterate 3 go_step
  refine wpList_store_row rfl 41 _ _ rfl W.heap.size termD.cells.toArray rfl rfl 41 _ (blk_newn rfl) (info_it termD) (cells_size termD).symm (one_term) ?_
  simp only [Act.put, List.setIfInBounds_toArray, List.set_cons_zero, List.set_cons_succ]
  rw [World.setRow_alloc_new]
  obtain ⟨u1, hn⟩ : ∃ u, W.alloc (.cells termD.cells.toArray 41) = u := ⟨_, rfl⟩
  rw [hn]
  have HB0 : Hid (u1.heap[W.heap.size]? = some (.cells termD.cells.toArray 41 (0, 0))) := by rw [← hn]; exact blk_newn rfl
  have HF1 : Hid (Fr (fun _ => False) W u1) := by rw [← hn]; exact (Fr.refl _ W).alloc _
  have HS1 : Hid (u1.heap.size = W.heap.size + 1) := by show _ = _; rw [← hn]; simp
  clear hn
  go_upto_region 2 with fail
  iterate 4 go_step
  rw [HS1.out]
  obtain ⟨u2, hn⟩ : ∃ u, u1.alloc (.cells #[.string ⟨#[98, 117, 121, 101, 114]⟩] 9) = u := ⟨_, rfl⟩
  rw [hn]
  have HB1 : Hid (u2.heap[W.heap.size + 1]? = some (.cells #[.string ⟨#[98, 117, 121, 101, 114]⟩] 9 (0, 0))) := by rw [← hn]; exact blk_newn HS1.out.symm
  have HF2 : Hid (Fr (fun _ => False) u1 u2) := by rw [← hn]; exact (Fr.refl _ u1).alloc _
  have HS2 : Hid (u2.heap.size = W.heap.size + 2) := by show _ = _; rw [← hn]; simp [HS1.out]
  clear hn
  refine wpList_built rfl 41 _ rfl #[(0, .int .i64 14), (3, .string ⟨#[115, 97, 108, 101]⟩), (1, .string ⟨#[115, 49]⟩), (20, .slice (some ⟨W.heap.size + 1, 0, none⟩) 1 1), (2, .int .i64 7)] (by go_simp) (.agg (goodD (W.heap.size + 1)).cells.toArray) (build_good _ _) ?_
  simp only [Act.put, List.setIfInBounds_toArray, List.set_cons_zero, List.set_cons_succ]
  iterate 3 go_step
  refine wpList_store_row rfl 41 _ _ rfl u2.heap.size (goodD (W.heap.size + 1)).cells.toArray rfl rfl 41 _ (blk_newn rfl) (info_it (goodD (W.heap.size + 1))) (cells_size (goodD (W.heap.size + 1))).symm (one_good _) ?_
  simp only [Act.put, List.setIfInBounds_toArray, List.set_cons_zero, List.set_cons_succ]
  rw [World.setRow_alloc_new, HS2.out]
  obtain ⟨u3, hn⟩ : ∃ u, u2.alloc (.cells (goodD (W.heap.size + 1)).cells.toArray 41) = u := ⟨_, rfl⟩
  rw [hn]
  have HB2 : Hid (u3.heap[W.heap.size + 2]? = some (.cells (goodD (W.heap.size + 1)).cells.toArray 41 (0, 0))) := by rw [← hn]; exact blk_newn HS2.out.symm
  have HF3 : Hid (Fr (fun _ => False) u2 u3) := by rw [← hn]; exact (Fr.refl _ u2).alloc _
  have HS3 : Hid (u3.heap.size = W.heap.size + 3) := by show _ = _; rw [← hn]; simp [HS2.out]
  clear hn
  go_upto_region 3 with fail
  go_step
  refine wpList_built rfl 41 _ rfl #[(0, .int .i64 14), (3, .string ⟨#[115, 97, 108, 101]⟩), (1, .string ⟨#[115, 50]⟩), (2, .int .i64 8)] (by go_simp) (.agg wrongD.cells.toArray) (build_wrong _) ?_
  simp only [Act.put, List.setIfInBounds_toArray, List.set_cons_zero, List.set_cons_succ]
  iterate 3 go_step
  refine wpList_store_row rfl 41 _ _ rfl u3.heap.size wrongD.cells.toArray rfl rfl 41 _ (blk_newn rfl) (info_it wrongD) (cells_size wrongD).symm (one_wrong) ?_
  simp only [Act.put, List.setIfInBounds_toArray, List.set_cons_zero, List.set_cons_succ]
  rw [World.setRow_alloc_new, HS3.out]
  obtain ⟨u4, hn⟩ : ∃ u, u3.alloc (.cells wrongD.cells.toArray 41) = u := ⟨_, rfl⟩
  rw [hn]
  have HB3 : Hid (u4.heap[W.heap.size + 3]? = some (.cells wrongD.cells.toArray 41 (0, 0))) := by rw [← hn]; exact blk_newn HS3.out.symm
  have HF4 : Hid (Fr (fun _ => False) u3 u4) := by rw [← hn]; exact (Fr.refl _ u3).alloc _
  have HS4 : Hid (u4.heap.size = W.heap.size + 4) := by show _ = _; rw [← hn]; simp [HS3.out]
  clear hn
  go_upto_region 4 with fail
  iterate 4 go_step
  rw [HS4.out]
  obtain ⟨u5, hn⟩ : ∃ u, u4.alloc (.cells #[.string ⟨#[98, 117, 121, 101, 114]⟩] 9) = u := ⟨_, rfl⟩
  rw [hn]
  have HB4 : Hid (u5.heap[W.heap.size + 4]? = some (.cells #[.string ⟨#[98, 117, 121, 101, 114]⟩] 9 (0, 0))) := by rw [← hn]; exact blk_newn HS4.out.symm
  have HF5 : Hid (Fr (fun _ => False) u4 u5) := by rw [← hn]; exact (Fr.refl _ u4).alloc _
  have HS5 : Hid (u5.heap.size = W.heap.size + 5) := by show _ = _; rw [← hn]; simp [HS4.out]
  clear hn
  refine wpList_built rfl 41 _ rfl #[(0, .int .i64 14), (3, .string ⟨#[108, 101, 97, 115, 101]⟩), (1, .string ⟨#[115, 51]⟩), (20, .slice (some ⟨W.heap.size + 4, 0, none⟩) 1 1), (2, .int .i64 9)] (by go_simp) (.agg (lostD (W.heap.size + 4)).cells.toArray) (build_lost _ _) ?_
  simp only [Act.put, List.setIfInBounds_toArray, List.set_cons_zero, List.set_cons_succ]
  iterate 3 go_step
  refine wpList_store_row rfl 41 _ _ rfl u5.heap.size (lostD (W.heap.size + 4)).cells.toArray rfl rfl 41 _ (blk_newn rfl) (info_it (lostD (W.heap.size + 4))) (cells_size (lostD (W.heap.size + 4))).symm (one_lost _) ?_
  simp only [Act.put, List.setIfInBounds_toArray, List.set_cons_zero, List.set_cons_succ]
  rw [World.setRow_alloc_new, HS5.out]
  obtain ⟨u6, hn⟩ : ∃ u, u5.alloc (.cells (lostD (W.heap.size + 4)).cells.toArray 41) = u := ⟨_, rfl⟩
  rw [hn]
  have HB5 : Hid (u6.heap[W.heap.size + 5]? = some (.cells (lostD (W.heap.size + 4)).cells.toArray 41 (0, 0))) := by rw [← hn]; exact blk_newn HS5.out.symm
  have HF6 : Hid (Fr (fun _ => False) u5 u6) := by rw [← hn]; exact (Fr.refl _ u5).alloc _
  have HS6 : Hid (u6.heap.size = W.heap.size + 6) := by show _ = _; rw [← hn]; simp [HS5.out]
  clear hn
  have HI6 : Hid (HI W u6) := ⟨(((((HF1.out).trans HF2.out).trans HF3.out).trans HF4.out).trans HF5.out).trans HF6.out, (((((HF2.out).trans HF3.out).trans HF4.out).trans HF5.out).trans HF6.out).blk HB0.out (fun h => h), ((((HF3.out).trans HF4.out).trans HF5.out).trans HF6.out).blk HB1.out (fun h => h), (((HF4.out).trans HF5.out).trans HF6.out).blk HB2.out (fun h => h), ((HF5.out).trans HF6.out).blk HB3.out (fun h => h), (HF6.out).blk HB4.out (fun h => h), HB5.out⟩
  clear HB0 HB1 HB2 HB3 HB4 HB5 HF1 HS1 HF2 HS2 HF3 HS3 HF4 HS4 HF5 HS5 HF6 HS6
  go_upto_region 5 with fail
  refine head_r5 (by kernel_rfl) HI6.out (fun _ _ _ _ _ h => h) ?_
  intro v5 v6 v19 v20 v21 v22 v23 v24 v25 v26 v27 wx hv
  have HV5 := Lib.hid hv
  clear hv
  go_upto_region 6 with fail
  refine head_r6 (by kernel_rfl) HV5.out (fun _ _ _ _ _ h => h) ?_
  intro v7 v8 v28 v29 v30 v31 v32 v33 v34 v35 v36 v37 wy hv
  obtain ⟨⟨g5, iv, ds, A5, c5, rfl, rfl, h5⟩, hfl⟩ := hv
  obtain ⟨x, y, rfl⟩ : ∃ x y, ds = [x, y] := by
    have h := congrArg List.length h5.tr
    rw [List.length_map] at h
    match ds, h with
    | [x, y], _ => exact ⟨x, y, rfl⟩
  have hxt : x.tree = .node payO [] := (List.cons.inj h5.tr).1
  have hyt : y.tree = .node giveO [] := (List.cons.inj (List.cons.inj h5.tr).2).1
  have hxh : x.h = payO := by rw [← DT.tree_h, hxt]; rfl
  have hyh : y.h = giveO := by rw [← DT.tree_h, hyt]; rfl
  obtain ⟨gi, oi, ci, hiv, hg0, _⟩ : ∃ gi oi ci, iv = .slice (some ⟨gi, oi, none⟩) 2 ci ∧ gi < wy.heap.size ∧ True := by
    obtain ⟨A, c, e, _, _⟩ := h5.lay.slice
    obtain ⟨g, o, cap, e2, hg, _, _, _⟩ := h5.lay.row.1.at (by simp)
    exact ⟨g, o, cap, e2, hg, trivial⟩
  subst hiv
  have HLX : Hid (Lay _ wy x) := h5.lay.lay x (by simp)
  obtain ⟨Ac, cc, hxc, _, _⟩ := HLX.out.conds.slice
  rw [hxh] at hxc
  have hxc : x.c = .slice Ac 1 cc := hxc
  have hrc : RowB (fun g => W.heap.size + 6 ≤ g ∧ g ≠ g5) wy (.slice Ac 1 cc) 2 [[sv payO.conds[0].name, nv 2]] := by
    have h := HLX.out.conds
    rw [hxc, hxh] at h
    exact h
  obtain ⟨gc, oc, hac, hgc, _, hatc⟩ := hrc.at (k := 0) rfl
  subst hac
  have hxcells : x.cells = icells payO (.slice (some ⟨gc, oc, none⟩) 1 cc) x.d x.n x.i := by rw [DT.cells_eq, hxh, hxc]
  have hycells : y.cells = icells giveO y.c y.d y.n y.i := by rw [DT.cells_eq, hyh]
  obtain ⟨Af, cf, hfe, _, _⟩ := hfl.slice
  have hfe : v8 = .slice Af 2 cf := hfe
  subst hfe
  obtain ⟨gf, of, haf, hgf, _, hat0⟩ := hfl.at (k := 0) rfl
  have hat1 : At wy gf (of + 2) [.int .i64 8, .int .i64 9] := by
    obtain ⟨gf', of', haf', _, _, h⟩ := hfl.at (k := 1) rfl
    rw [haf] at haf'
    injection haf' with e; injection e with e1 e2 _
    subst e1; subst e2
    simpa using h
  subst haf
  obtain ⟨g0, o0, e0, _, _, hax⟩ := h5.lay.at (k := 0) (x := x) rfl
  injection e0 with e0; injection e0 with e1 e2 _; subst e1; subst e2
  have k5 : wy.cell? ⟨g5, 5, none⟩ = some (.slice (some ⟨gi, oi, none⟩) 2 ci) := (cell_of_blk h5.b 5).trans rfl
  have k13 : wy.cell? ⟨gi, oi + 13, none⟩ = some (.slice (some ⟨gc, oc, none⟩) 1 cc) := by have := hax 13 (.slice (some ⟨gc, oc, none⟩) 1 cc) (by rw [hxcells]; rfl); simpa using this
  have hac0 : At wy gc oc [sv payO.conds[0].name, nv 2] := by simpa using hatc
  have HAC := Lib.hid hac0
  have haf0 : At wy gf of [.int .i64 1, .int .i64 8] := by simpa using hat0
  have HA0 := Lib.hid haf0
  have HA1 := Lib.hid hat1
  have HGC := Lib.hid hgc; have HGF := Lib.hid hgf
  have HXC := Lib.hid hxcells; have HYC := Lib.hid hycells
  have HH5 := Lib.hid h5
  clear HV5 HI6 hxt hyt hxh hyh hxc hrc hatc hac0 haf0 hat0 hat1 hax hg0 hgc hgf hxcells hycells h5 hfl HLX
  go_upto_region 9 with fail
  clear k13
  go_upto_region 9 with fail
  refine head_r9 (by kernel_rfl) HH5.out (fun _ _ _ _ _ h => h) ?_
  intro v9 v10 v61 v62 v63 v64 v65 v66 v67 v68 wz hv9
  obtain ⟨g9, g10, rfl, rfl, hfz, hb9, hb10⟩ := hv9
  rw [HXC.out] at hb9
  rw [HYC.out] at hb10
  have p1 : wz.cell? ⟨g9, 1, none⟩ = some (.string ⟨#[115, 49, 46, 112, 97, 121]⟩) := (cell_of_blk hb9 1).trans rfl
  have p2 : wz.cell? ⟨g9, 2, none⟩ = some (.int .i64 7) := (cell_of_blk hb9 2).trans rfl
  have p3 : wz.cell? ⟨g9, 3, none⟩ = some (.string ⟨#[98, 117, 121, 101, 114]⟩) := (cell_of_blk hb9 3).trans rfl
  have p7 : wz.cell? ⟨g9, 7, none⟩ = some (.int .i64 5) := (cell_of_blk hb9 7).trans rfl
  have p8 : wz.cell? ⟨g9, 8, none⟩ = some (.bool false) := (cell_of_blk hb9 8).trans rfl
  have p9 : wz.cell? ⟨g9, 9, none⟩ = some (.string ⟨#[]⟩) := (cell_of_blk hb9 9).trans rfl
  have p13 : wz.cell? ⟨g9, 13, none⟩ = some (.slice (some ⟨gc, oc, none⟩) 1 cc) := (cell_of_blk hb9 13).trans rfl
  have r1 : wz.cell? ⟨g10, 1, none⟩ = some (.string ⟨#[115, 49, 46, 103, 105, 118, 101]⟩) := (cell_of_blk hb10 1).trans rfl
  have r3 : wz.cell? ⟨g10, 3, none⟩ = some (.string ⟨#[115, 101, 108, 108, 101, 114]⟩) := (cell_of_blk hb10 3).trans rfl
  have r7 : wz.cell? ⟨g10, 7, none⟩ = some (.int .i64 3) := (cell_of_blk hb10 7).trans rfl
  have r8 : wz.cell? ⟨g10, 8, none⟩ = some (.bool false) := (cell_of_blk hb10 8).trans rfl
  have r9 : wz.cell? ⟨g10, 9, none⟩ = some (.string ⟨#[]⟩) := (cell_of_blk hb10 9).trans rfl
  have m0 : wz.cell? ⟨gc, oc, none⟩ = some (.string ⟨#[115, 49, 46, 103, 105, 118, 101]⟩) := At.fr HAC.out HGC.out hfz (fun h => h) 0 _ rfl
  have f0 : wz.cell? ⟨gf, of, none⟩ = some (.int .i64 1) := At.fr HA0.out HGF.out hfz (fun h => h) 0 _ rfl
  have f1 : wz.cell? ⟨gf, of + 1, none⟩ = some (.int .i64 8) := At.fr HA0.out HGF.out hfz (fun h => h) 1 _ rfl
  have f2 : wz.cell? ⟨gf, of + 2, none⟩ = some (.int .i64 8) := At.fr HA1.out HGF.out hfz (fun h => h) 0 _ rfl
  have f3 : wz.cell? ⟨gf, of + 2 + 1, none⟩ = some (.int .i64 9) := At.fr HA1.out HGF.out hfz (fun h => h) 1 _ rfl
  have HFZ := Lib.hid (HH5.out.hi.fr.trans hfz)
  clear hb9 hb10 hfz
  go_wp2_with fail
  go_ret
  exact ⟨rfl, HFZ.out⟩
end Go.Proofs.Yticakdajhmfpoaa.Ic
