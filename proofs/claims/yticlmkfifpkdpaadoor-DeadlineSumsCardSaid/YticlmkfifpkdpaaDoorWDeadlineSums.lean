/-
  The walk of the statement DeadlineSums: it returns true for every input.
-/
import Derived.Test.YticlmkfifpkdpaaDoorDlSumsB
namespace Go.Proofs.YticlmkfifpkdpaaDoor
open Go.RowKit Mem Vw Dl
set_option linter.unusedVariables false
set_option linter.unusedSimpArgs false
set_option maxRecDepth 100000 in
set_option maxHeartbeats 8000000 in
theorem walk_DeadlineSums (x0 : Term × Value) (c : Cal) (hv : Value) (l : List When) (lv : Value) (a3 : Int) (w3 : (Lit.int .u16 a3).wf = true) (a4 : Int) (w4 : (Lit.int .u16 a4).wf = true) (W : World) (hbf : Bf W) (hT : Tree W x0.1 x0.2) (hC : CalAt W c hv) (hl : EvsAt W l lv) :
    Calls Tryd.prog 12 #[.agg (tc x0).toArray, .agg (ccs c hv).toArray, lv, .int .u16 a3, .int .u16 a4] W fun e w' => e = .returned (.bool true) ∧ Below W.heap.size W w' := by
  obtain ⟨t, tv⟩ := x0
  obtain ⟨A, cp, hv1, hc1, hc2⟩ := hT.slice
  dsimp only at hv1
  subst hv1
  obtain ⟨Al, nl, hlv, hl1, hl2, hlc⟩ := hl.slice
  subst hlv
  have HEl := Lib.hid hl; have HCl := Lib.hid hlc
  have HBF := Lib.hid hbf
  have HG := Lib.hid (GV.mk hbf hC); have HT := Lib.hid hT
  clear hbf hT hC hl hlc
  obtain ⟨k, n, e, b, kids⟩ := t
  have HS0 := Lib.hid (LS.start (W := W) (x := (.mk k n e b kids, .slice A kids.length cp)) (c := c) (hv := hv))
  obtain ⟨w0, HW0⟩ : ∃ w0, Hid ((W.alloc (.cells #[.int .i64 k, .int .i64 n, .int .i64 e, .bool b, .slice A kids.length cp] 31)).alloc (.cells (ccs c hv).toArray 28) = w0) := ⟨_, rfl⟩
  have HS0 : Hid (LS W (.mk k n e b kids, .slice A kids.length cp) c hv W.heap.size (W.heap.size + 1) w0) := by rw [← HW0.out]; exact HS0.out
  show Calls Tryd.prog 12 #[.agg #[.int .i64 k, .int .i64 n, .int .i64 e, .bool b, .slice A kids.length cp], .agg (ccs c hv).toArray, .slice Al l.length nl, .int .u16 a3, .int .u16 a4] W _

  have HHD := Lib.hid (head_any w0 (bf_keep HBF.out HS0.out.be))
  go_enter Tryd.func12, Tryd.ntmps12
  go_upto_region 1 with fail
  rw [HW0.out]
  clear HW0
  go_wp2_with fail
  refine HHD.out.mono ?_
  rintro e9 w1 ⟨rfl, hb1⟩
  have HS1 := Lib.hid (HS0.out.keep hb1)
  clear hb1 HHD HS0
  obtain ⟨t0, t1, t2, t3, t4⟩ := HS1.out.t
  have HSM := Lib.hid (small_any (.mk k n e b kids) (.slice A kids.length cp) l Al nl w1 (HT.out.keep HS1.out.be))
  go_wp2_with fail
  refine HSM.out.mono ?_
  rintro e9 w2 ⟨⟨b2, rfl, hsm⟩, hb⟩
  have HS2 := Lib.hid (HS1.out.keep hb)
  clear hb HSM t0 t1 t2 t3 t4
  have HSM2 := Lib.hid hsm
  clear hsm
  cases b2
  · clear HSM2
    go_wp2_with fail
    go_ret
    exact ⟨rfl, HS2.out.be⟩
  have hb3 := bounds_u16 w3
  have hb4 := bounds_u16 w4
  obtain ⟨M, hM, hM0, hM1⟩ : ∃ M : Int, a3 % 501 = M ∧ 0 ≤ M ∧ M ≤ 500 := ⟨_, rfl, by omega, by omega⟩
  obtain ⟨N, hN, hN0, hN1⟩ : ∃ N : Int, a4 % 501 = N ∧ 0 ≤ N ∧ N ≤ 500 := ⟨_, rfl, by omega, by omega⟩
  have HM := Lib.hid hM; have HN := Lib.hid hN
  clear hM hN w3 w4
  obtain ⟨⟨d1, k1, e1⟩, HR1⟩ : ∃ r, Hid (eval (.mk 4 N 0 false [.mk 4 M 0 false [.mk k n e b kids]]) c l = r) := ⟨_, rfl⟩
  obtain ⟨⟨d2, k2, e2⟩, HR2⟩ : ∃ r, Hid (eval (.mk 4 (M + N) 0 false [.mk k n e b kids]) c l = r) := ⟨_, rfl⟩
  obtain ⟨⟨d3, k3, e3⟩, HR3⟩ : ∃ r, Hid (eval (.mk 4 (N + 1) 0 true [.mk 4 M 0 true [.mk 6 0 0 false [.mk k n e b kids]]]) c l = r) := ⟨_, rfl⟩
  obtain ⟨⟨d4, k4, e4⟩, HR4⟩ : ∃ r, Hid (eval (.mk 4 (M + N + 1) 0 true [.mk 6 0 0 false [.mk k n e b kids]]) c l = r) := ⟨_, rfl⟩
  obtain ⟨⟨d5, k5, e5⟩, HR5⟩ : ∃ r, Hid (eval (.mk 4 0 0 true [.mk k n e b kids]) c l = r) := ⟨_, rfl⟩
  obtain ⟨⟨d6, k6, e6⟩, HR6⟩ : ∃ r, Hid (eval (.mk 6 0 0 false [.mk k n e b kids]) c l = r) := ⟨_, rfl⟩
  go_upto_region 6 with fail
  rw [HM.out, HN.out]
  clear hb3 hb4
  refine sums_r6 (by kernel_rfl) HG HT HEl HS2 hM0 hM1 hN0 hN1 HR1 (fun _ _ _ _ _ h => h) ?_
  intro v45 v46 v47 v48 v49 v50 v51 v52 v53 v54 v55 v56 v57 v58 w3 hs
  have HS3 := Lib.hid hs
  clear hs
  go_upto_region 7 with fail
  refine sums_r7 (by kernel_rfl) HG HT HEl HS3 hM0 hM1 hN0 hN1 HR2 (fun _ _ _ _ _ h => h) ?_
  intro v59 v60 v61 v62 v63 v64 v65 v66 v67 v68 v69 v70 v71 w4 hs
  have HS4 := Lib.hid hs
  clear hs
  by_cases he : e1 = 1
  · subst he
    go_wp2_with fail
    go_ret
    exact ⟨rfl, HS4.out.be⟩
  have heb : (e1 == 1) = false := beq_eq_false_iff_ne.2 he
  obtain ⟨⟨hl1, hl2⟩, hz, hl3, hl4, hl5⟩ := law_sums (t := .mk k n e b kids) (c := c) (l := l) hM0 hM1 hN0 hN1 (by show (eval (.mk 4 N 0 false [.mk 4 M 0 false [.mk k n e b kids]]) c l).2.2 ≠ 1; rw [HR1.out]; exact he)
  have hl1 : (eval (.mk 4 N 0 false [.mk 4 M 0 false [.mk k n e b kids]]) c l).2.2 = (eval (.mk 4 (M + N) 0 false [.mk k n e b kids]) c l).2.2 := hl1
  have hl2 : (eval (.mk 4 N 0 false [.mk 4 M 0 false [.mk k n e b kids]]) c l).1 = (eval (.mk 4 (M + N) 0 false [.mk k n e b kids]) c l).1 := hl2
  rw [HR1.out, HR2.out] at hl1 hl2
  dsimp only at hl1 hl2
  have hz : eval (.mk 4 0 0 true [.mk k n e b kids]) c l = eval (.mk 6 0 0 false [.mk k n e b kids]) c l := hz
  rw [HR5.out, HR6.out] at hz
  injection hz with hz1 hz2
  injection hz2 with hz2 hz3
  have HL3 : Hid (e3 ≠ 1 → M + N < 1000 → e3 = e4 ∧ d3 = d4) := by
    intro h1 h2
    have h3 := hl3 (by show (eval (.mk 4 (N + 1) 0 true [.mk 4 M 0 true [.mk 6 0 0 false [.mk k n e b kids]]]) c l).2.2 ≠ 1; rw [HR3.out]; exact h1) h2
    have h3 : (eval (.mk 4 (N + 1) 0 true [.mk 4 M 0 true [.mk 6 0 0 false [.mk k n e b kids]]]) c l).2.2 = (eval (.mk 4 (M + N + 1) 0 true [.mk 6 0 0 false [.mk k n e b kids]]) c l).2.2 ∧ (eval (.mk 4 (N + 1) 0 true [.mk 4 M 0 true [.mk 6 0 0 false [.mk k n e b kids]]]) c l).1 = (eval (.mk 4 (M + N + 1) 0 true [.mk 6 0 0 false [.mk k n e b kids]]) c l).1 := h3
    rw [HR3.out, HR4.out] at h3
    exact h3
  have HL4 : Hid (e5 = 0 → e1 = 0 → k5 = k1) := by
    intro h1 h2
    have h3 := hl4 (by show (eval (.mk 4 0 0 true [.mk k n e b kids]) c l).2.2 = 0; rw [HR5.out]; exact h1) (by show (eval (.mk 4 N 0 false [.mk 4 M 0 false [.mk k n e b kids]]) c l).2.2 = 0; rw [HR1.out]; exact h2)
    have h3 : (eval (.mk 4 0 0 true [.mk k n e b kids]) c l).2.1 = (eval (.mk 4 N 0 false [.mk 4 M 0 false [.mk k n e b kids]]) c l).2.1 := h3
    rw [HR1.out, HR5.out] at h3
    exact h3
  have HL5 : Hid (e5 = 0 → k5 = true → c.ok = true ∧ isDay d5 = true ∧ biz c d5 = true) := by
    intro h1 h2
    have h3 := hl5 (by show (eval (.mk 4 0 0 true [.mk k n e b kids]) c l).2.2 = 0; rw [HR5.out]; exact h1) (by show (eval (.mk 4 0 0 true [.mk k n e b kids]) c l).2.1 = true; rw [HR5.out]; exact h2)
    have h3 : c.ok = true ∧ isDay (eval (.mk 4 0 0 true [.mk k n e b kids]) c l).1 = true ∧ biz c (eval (.mk 4 0 0 true [.mk k n e b kids]) c l).1 = true := h3
    rw [HR5.out] at h3
    exact h3
  clear hl3 hl4 hl5 he
  subst hl1 hl2 hz1 hz2 hz3
  obtain ⟨t0, t1, t2, t3, t4⟩ := HS4.out.t
  obtain ⟨w5, HW5⟩ : ∃ Y, Hid (w4.alloc (.cells #[.int .i64 k, .int .i64 n, .int .i64 e, .bool b, .slice A kids.length cp] 31) = Y) := ⟨_, rfl⟩
  have HB5 : Hid (Below w4.heap.size w4 w5) := by rw [← HW5.out]; exact (Below.refl _ w4).alloc (Nat.le_refl _) _
  have HK5 : Hid (w5.heap[w4.heap.size]? = some (.cells #[.int .i64 k, .int .i64 n, .int .i64 e, .bool b, .slice A kids.length cp] 31 (0, 0))) := by rw [← HW5.out]; exact blk_newn rfl
  have HS5 := Lib.hid (HS4.out.keep HB5.out)
  have HT5 : Hid (Tree w5 (.mk 6 0 0 false [.mk k n e b kids]) (.slice (some ⟨w4.heap.size, 0, none⟩) 1 1)) := tree_blk (W := w5) [(.mk k n e b kids, .slice A kids.length cp)] (k := 6) (m := 0) (e := 0) (b := false) (n := 1) (cp := 1) HK5.out rfl rfl (by decide) (by decide) (by intro x hx; simp only [List.mem_cons, List.not_mem_nil, or_false] at hx; subst hx; exact HT.out.keep HS5.out.be) (by unfold wf; decide) (by unfold wf; decide)
  go_wp2_with fail
  rw [HW5.out]
  clear HW5 t0 t1 t2 t3 t4
  refine (of_any 6 0 false (some ⟨w4.heap.size, 0, none⟩) 1 1 w5).mono ?_
  rintro e9 w6 ⟨rfl, hb6⟩
  have HT6 := Lib.hid (HT5.out.keep hb6); have HS6 := Lib.hid (HS5.out.keep hb6)
  clear hb6 HK5 HB5 HS5 HT5
  obtain ⟨w7, HW7⟩ : ∃ Y, Hid (w6.alloc (.cells #[.int .i64 6, .int .i64 0, .int .i64 0, .bool false, .slice (some ⟨w4.heap.size, 0, none⟩) 1 1] 31) = Y) := ⟨_, rfl⟩
  have HS7 : Hid (SS W (.mk k n e b kids, .slice A kids.length cp) c hv W.heap.size (W.heap.size + 1) w6.heap.size (.slice (some ⟨w4.heap.size, 0, none⟩) 1 1) (.mk 6 0 0 false [.mk k n e b kids]) w7) := by
    rw [← HW7.out]
    have hb : Below w6.heap.size w6 (w6.alloc (.cells #[.int .i64 6, .int .i64 0, .int .i64 0, .bool false, .slice (some ⟨w4.heap.size, 0, none⟩) 1 1] 31)) := (Below.refl _ w6).alloc (Nat.le_refl _) _
    exact ⟨HS6.out.keep hb, blk_newn rfl, HT6.out.keep hb⟩
  clear HT6 HS6
  go_upto_region 13 with fail
  rw [HW7.out]
  clear HW7
  refine sums_r13 (by kernel_rfl) HG HT HEl HS7 hM0 hM1 hN0 hN1 HR3 (fun _ _ _ _ _ h => h) ?_
  intro v86 v87 v88 v89 v90 v91 v92 v93 v94 v95 v96 v97 v98 v99 v100 w8 hs
  have HS8 := Lib.hid hs
  clear hs
  go_upto_region 14 with fail
  refine sums_r14 (by kernel_rfl) HG HT HEl HS8 hM0 hM1 hN0 hN1 HR4 (fun _ _ _ _ _ h => h) ?_
  intro v101 v102 v103 v104 v105 v106 v107 v108 v109 v110 v111 v112 v113 v114 w9 hs
  have HS9 := Lib.hid hs
  clear hs
  go_upto_region 15 with fail
  refine sums_r15 (by kernel_rfl) HG HT HEl HS9 hM0 hM1 hN0 hN1 HR5 (fun _ _ _ _ _ h => h) ?_
  intro v115 v116 v117 v118 v119 v120 v121 v122 v123 v124 w10 hs
  have HS10 := Lib.hid hs
  clear hs
  obtain ⟨z0, z1, z2, z3, z4⟩ := HS10.out.s
  obtain ⟨⟨c0, c1, c2, c3⟩, c4, c5, c6, c7⟩ := HS10.out.ls.c
  have HEV := Lib.hid (eval_at HG.out HS10.out.ls.be (.mk 6 0 0 false [.mk k n e b kids], .slice (some ⟨w4.heap.size, 0, none⟩) 1 1) HS10.out.tr l _ (HEl.out.below HS10.out.ls.be) (cs := #[.int .i64 6, .int .i64 0, .int .i64 0, .bool false, .slice (some ⟨w4.heap.size, 0, none⟩) 1 1]) rfl HR6.out)
  go_wp2_with fail
  refine HEV.out.mono ?_
  rintro e9 w11 ⟨rfl, hb⟩
  have HS11 := Lib.hid (HS10.out.keep hb)
  clear hb HEV z0 z1 z2 z3 z4 c0 c1 c2 c3 c4 c5 c6 c7
  go_upto_region 17 with fail
  refine sums_r17 (by kernel_rfl) hM0 hM1 hN0 hN1 HL3 ?_
  intro v133 v134 v135 v136 v137 v138 v139 v140 v141 v142 v143 v144 v145 v146 v147 v148 v149 v150 v151 v152 v153 v154 v155 v156 v157 v158 v159 w12 hw12
  subst hw12
  clear HL3
  go_upto_region 19 with fail
  refine sums_r19 (by kernel_rfl) HG HS11 HL4 HL5 ?_
  intro v161 v162 v163 v164 v165 v166 v167 v168 v169 v170 v171 v172 v173 v174 v175 v176 v177 v178 v179 v180 v181 v182 v183 v184 v185 v186 v187 w13 hb13
  have HB13 := Lib.hid hb13
  clear hb13
  go_wp2_with fail
  go_ret
  exact ⟨rfl, HB13.out⟩
end Go.Proofs.YticlmkfifpkdpaaDoor
