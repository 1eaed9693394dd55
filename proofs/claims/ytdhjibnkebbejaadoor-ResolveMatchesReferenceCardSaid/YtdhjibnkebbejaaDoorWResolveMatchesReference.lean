/-
  The walk of the statement ResolveMatchesReference: it returns true for every source.
-/
import Derived.Test.YtdhjibnkebbejaaDoorResLawW
import Derived.Test.YtdhjibnkebbejaaDoorResRefR
namespace Go.Proofs.YtdhjibnkebbejaaDoor
open Go.RowKit Mem Vw Rs
set_option linter.unusedVariables false
set_option linter.unusedSimpArgs false

set_option maxRecDepth 100000 in
set_option maxHeartbeats 8000000 in
theorem walk_ResolveMatchesReference (s : Rs.Source) (si : Value) (hs : SourceOk s) (W : World) (hbf : Bf W) (hi : Items W s.items si) :
    Calls Tryd.prog 3 #[.agg (scells s.name s.frm s.days si).toArray] W fun e w' => e = .returned (.bool true) ∧ Below W.heap.size W w' := by
  obtain ⟨z, hzs, hz⟩ := hi
  obtain ⟨Ai, ci, hv, hc1, hc2⟩ := hz.row.slice
  rw [List.length_map] at hv hc1
  subst hv
  have HZ := Lib.hid hz; have HZS := Lib.hid hzs; have HOK := Lib.hid hs; have HBF := Lib.hid hbf
  have hln : z.length ≤ maxLen := by have h := hs.len; rw [← hzs, List.length_map] at h; exact h
  have HLN := Lib.hid hln
  have HLZ : Hid (z.length = s.items.length) := by show _ = _; rw [← hzs, List.length_map]
  clear hz hzs hs hbf hc1 hc2 hln
  obtain ⟨w0, HW0⟩ : ∃ w0, Hid (W.alloc (.cells (scells s.name s.frm s.days (.slice Ai z.length ci)).toArray 26) = w0) := ⟨_, rfl⟩
  have HSB0 : Hid (w0.heap[W.heap.size]? = some (.cells (scells s.name s.frm s.days (.slice Ai z.length ci)).toArray 26 (0, 0))) := by rw [← HW0.out]; exact blk_newn rfl
  have HBA0 : Hid (Below W.heap.size W w0) := by rw [← HW0.out]; exact (Below.refl _ W).alloc (Nat.le_refl _) _
  have HHD := Lib.hid (head_any w0 (HBF.out.below HBA0.out))
  go_enter Tryd.func3, Tryd.ntmps3
  go_upto_region 1 with fail
  rw [HW0.out]
  go_wp2_with fail
  refine HHD.out.mono ?_
  rintro e w1 ⟨rfl, hb1⟩
  have HSB1 := Lib.hid ((hb1.block _ (lt_of_blk HSB0.out)).trans HSB0.out)
  have HBA1 : Hid (Below W.heap.size W w1) := HBA0.out.trans (hb1.mono HBA0.out.size)
  clear hb1 HHD HSB0 HBA0 HW0
  have s0 : w1.cell? ⟨W.heap.size, 0, none⟩ = some (.string ⟨s.name.toArray⟩) := (cell_of_blk HSB1.out 0).trans rfl
  have s1 : w1.cell? ⟨W.heap.size, 1, none⟩ = some (.int .i64 s.frm.y) := (cell_of_blk HSB1.out 1).trans rfl
  have s2 : w1.cell? ⟨W.heap.size, 2, none⟩ = some (.int .i64 s.frm.m) := (cell_of_blk HSB1.out 2).trans rfl
  have s3 : w1.cell? ⟨W.heap.size, 3, none⟩ = some (.int .i64 s.frm.d) := (cell_of_blk HSB1.out 3).trans rfl
  have s4 : w1.cell? ⟨W.heap.size, 4, none⟩ = some (.int .i64 s.days) := (cell_of_blk HSB1.out 4).trans rfl
  have s5 : w1.cell? ⟨W.heap.size, 5, none⟩ = some (.slice Ai z.length ci) := (cell_of_blk HSB1.out 5).trans rfl
  have HSM := Lib.hid (small_any s _ z w1 (HZ.out.below HBA1.out) HZS.out HLN.out)
  go_wp2_with fail
  refine HSM.out.mono ?_
  rintro e w2 ⟨b, rfl, hsm, hb2⟩
  have HSB2 := Lib.hid ((hb2.block _ (lt_of_blk HSB1.out)).trans HSB1.out)
  have HBA2 : Hid (Below W.heap.size W w2) := HBA1.out.trans (hb2.mono HBA1.out.size)
  have HSMA := Lib.hid hsm
  clear hb2 HSM HSB1 HBA1 s0 s1 s2 s3 s4 s5 hsm
  cases b
  · clear HSMA
    go_wp2_with fail
    go_ret
    exact ⟨rfl, HBA2.out⟩
  obtain ⟨h700, hall⟩ := HSMA.out rfl
  have H7 := Lib.hid h700; have HALL := Lib.hid hall
  have HWS2 : Hid (W.heap.size < w2.heap.size) := lt_of_blk HSB2.out
  clear HSMA h700 hall
  have s0 : w2.cell? ⟨W.heap.size, 0, none⟩ = some (.string ⟨s.name.toArray⟩) := (cell_of_blk HSB2.out 0).trans rfl
  have s1 : w2.cell? ⟨W.heap.size, 1, none⟩ = some (.int .i64 s.frm.y) := (cell_of_blk HSB2.out 1).trans rfl
  have s2 : w2.cell? ⟨W.heap.size, 2, none⟩ = some (.int .i64 s.frm.m) := (cell_of_blk HSB2.out 2).trans rfl
  have s3 : w2.cell? ⟨W.heap.size, 3, none⟩ = some (.int .i64 s.frm.d) := (cell_of_blk HSB2.out 3).trans rfl
  have s4 : w2.cell? ⟨W.heap.size, 4, none⟩ = some (.int .i64 s.days) := (cell_of_blk HSB2.out 4).trans rfl
  have s5 : w2.cell? ⟨W.heap.size, 5, none⟩ = some (.slice Ai z.length ci) := (cell_of_blk HSB2.out 5).trans rfl
  have HREA := Lib.hid (resolve_any s _ z w2 (HZ.out.below HBA2.out) HZS.out (by have := H7.out; omega) (fun y hy => ⟨HOK.out.items y hy, by have := (HALL.out y hy).conds; omega⟩) (HBF.out.below HBA2.out))
  go_wp2_with fail
  refine HREA.out.mono ?_
  rintro e rA ⟨vA, rfl, hro, hbr⟩
  obtain ⟨AA, hA⟩ : ∃ A, answer s = A := ⟨_, rfl⟩
  rw [ResOut, hA] at hro
  obtain ⟨saA, yaA, faA⟩ := AA
  obtain ⟨HaA, clA, fvA, rfl, hsy, hft, _⟩ := hro
  dsimp only at hsy hft
  have HONEA : Hid ((symc saA yaA.weekend HaA).toArray.all (·.oneCell') = true) := one_symc saA yaA.weekend HaA hsy.hol.form hsy.par.form hsy.rol.form hsy.uni.form hsy.act.form hsy.cla.form
  obtain ⟨AfA, cfA, hfe, _, _⟩ := hft.slice
  rw [List.length_map] at hfe
  subst hfe
  have HSYA := Lib.hid hsy; have HAA := Lib.hid hA; have HFTA := Lib.hid hft; have HBRA := Lib.hid hbr
  clear hsy hft hA hbr s0 s1 s2 s3 s4 s5 HREA
  dsimp only
  iterate 13 go_step
  refine wpList_store_row rfl 39 _ _ rfl rA.heap.size (symc saA yaA.weekend HaA).toArray rfl rfl 39 _ (blk_newn rfl) (info_symc _ _ _) rfl HONEA.out ?_
  simp only [Act.put, List.setIfInBounds_toArray, List.set_cons_zero, List.set_cons_succ]
  rw [World.setRow_alloc_new]
  obtain ⟨uA, hu⟩ : ∃ u, rA.alloc (.cells (symc saA yaA.weekend HaA).toArray 39) = u := ⟨_, rfl⟩
  rw [hu]
  have HQA : Hid (uA.heap[rA.heap.size]? = some (.cells (symc saA yaA.weekend HaA).toArray 39 (0, 0))) := by rw [← hu]; exact blk_newn rfl
  have HBUA : Hid (Below rA.heap.size rA uA) := by rw [← hu]; exact (Below.refl _ rA).alloc (Nat.le_refl _) _
  have HSUA : Hid (uA.heap.size = rA.heap.size + 1) := by show _ = _; rw [← hu]; simp
  clear hu HONEA
  have HBAA : Hid (Below W.heap.size W rA) := HBA2.out.trans (HBRA.out.mono HBA2.out.size)
  have HSBA := Lib.hid ((HBRA.out.block _ (lt_of_blk HSB2.out)).trans HSB2.out)
  have HSUB := Lib.hid ((HBUA.out.block _ (lt_of_blk HSBA.out)).trans HSBA.out)
  have HBWu : Hid (Below W.heap.size W uA) := HBAA.out.trans (HBUA.out.mono HBAA.out.size)
  clear HSB2 HBA2 HBRA
  have s0 : uA.cell? ⟨W.heap.size, 0, none⟩ = some (.string ⟨s.name.toArray⟩) := (cell_of_blk HSUB.out 0).trans rfl
  have s1 : uA.cell? ⟨W.heap.size, 1, none⟩ = some (.int .i64 s.frm.y) := (cell_of_blk HSUB.out 1).trans rfl
  have s2 : uA.cell? ⟨W.heap.size, 2, none⟩ = some (.int .i64 s.frm.m) := (cell_of_blk HSUB.out 2).trans rfl
  have s3 : uA.cell? ⟨W.heap.size, 3, none⟩ = some (.int .i64 s.frm.d) := (cell_of_blk HSUB.out 3).trans rfl
  have s4 : uA.cell? ⟨W.heap.size, 4, none⟩ = some (.int .i64 s.days) := (cell_of_blk HSUB.out 4).trans rfl
  have s5 : uA.cell? ⟨W.heap.size, 5, none⟩ = some (.slice Ai z.length ci) := (cell_of_blk HSUB.out 5).trans rfl
  have HREB := Lib.hid (rresolve_any s _ z uA (HZ.out.below HBWu.out) HZS.out (by have := H7.out; omega) (fun y hy => ⟨HOK.out.items y hy, by have := (HALL.out y hy).conds; omega⟩) )
  go_wp2_with fail
  refine HREB.out.mono ?_
  rintro e rB ⟨vB, rfl, hro, hbr⟩
  obtain ⟨AB, hA⟩ : ∃ A, answer s = A := ⟨_, rfl⟩
  rw [ResOut, hA] at hro
  obtain ⟨saB, yaB, faB⟩ := AB
  obtain ⟨HaB, clB, fvB, rfl, hsy, hft, _⟩ := hro
  dsimp only at hsy hft
  have HONEB : Hid ((symc saB yaB.weekend HaB).toArray.all (·.oneCell') = true) := one_symc saB yaB.weekend HaB hsy.hol.form hsy.par.form hsy.rol.form hsy.uni.form hsy.act.form hsy.cla.form
  obtain ⟨AfB, cfB, hfe, _, _⟩ := hft.slice
  rw [List.length_map] at hfe
  subst hfe
  have HSYB := Lib.hid hsy; have HAB := Lib.hid hA; have HFTB := Lib.hid hft; have HBRB := Lib.hid hbr
  clear hsy hft hA hbr s0 s1 s2 s3 s4 s5 HREB
  dsimp only
  iterate 13 go_step
  refine wpList_store_row rfl 39 _ _ rfl rB.heap.size (symc saB yaB.weekend HaB).toArray rfl rfl 39 _ (blk_newn rfl) (info_symc _ _ _) rfl HONEB.out ?_
  simp only [Act.put, List.setIfInBounds_toArray, List.set_cons_zero, List.set_cons_succ]
  rw [World.setRow_alloc_new]
  obtain ⟨uB, hu⟩ : ∃ u, rB.alloc (.cells (symc saB yaB.weekend HaB).toArray 39) = u := ⟨_, rfl⟩
  rw [hu]
  have HQB : Hid (uB.heap[rB.heap.size]? = some (.cells (symc saB yaB.weekend HaB).toArray 39 (0, 0))) := by rw [← hu]; exact blk_newn rfl
  have HBUB : Hid (Below rB.heap.size rB uB) := by rw [← hu]; exact (Below.refl _ rB).alloc (Nat.le_refl _) _
  have HSUB : Hid (uB.heap.size = rB.heap.size + 1) := by show _ = _; rw [← hu]; simp
  clear hu HONEB
  have hEQ := HAB.out
  rw [HAA.out] at hEQ
  obtain ⟨e1, hEQ⟩ := Prod.mk.inj hEQ
  obtain ⟨e2, e3⟩ := Prod.mk.inj hEQ
  subst e1 e2 e3
  have HBAB : Hid (Below rA.heap.size rA uB) := (HBUA.out.trans (HBRB.out.mono HBUA.out.size)).trans (HBUB.out.mono (by have h1 := HBUA.out.size; have h2 := HBRB.out.size; omega))
  have HQAR := Lib.hid ((HBRB.out.block _ (lt_of_blk HQA.out)).trans HQA.out)
  have HQAu := Lib.hid ((HBUB.out.block _ (lt_of_blk HQAR.out)).trans HQAR.out)
  have HBWB : Hid (Below W.heap.size W uB) := HBAA.out.trans (HBAB.out.mono HBAA.out.size)
  have HFA2 : Hid (Row uB (.slice AfA faA.length cfA) 2 (faA.map faultv)) := HFTA.out.below HBAB.out
  have HFB2 : Hid (Row uB (.slice AfB faA.length cfB) 2 (faA.map faultv)) := HFTB.out.below HBUB.out
  have HSYA2 : Hid (SyRows uB yaA HaA clA) := HSYA.out.below HBAB.out
  have HSYB2 : Hid (SyRows uB yaA HaB clB) := HSYB.out.below HBUB.out
  have HSAM := Lib.hid (same_true saA yaA HaA HaB clA clB uB HSYA2.out HSYB2.out)
  go_upto_region 6 with fail
  iterate 7 go_step
  refine wpList_load_rowG (by rfl) 39 _ rfl rA.heap.size rfl 39 (symc saA yaA.weekend HaA).toArray (0, 0) _ HQAu.out Tryd.underlying39 rfl (info_symc _ _ _) ?_
  simp only [Act.put, List.setIfInBounds_toArray, List.set_cons_zero, List.set_cons_succ]
  refine wpList_load_rowG (by rfl) 39 _ rfl rB.heap.size rfl 39 (symc saA yaA.weekend HaB).toArray (0, 0) _ HQB.out Tryd.underlying39 rfl (info_symc _ _ _) ?_
  simp only [Act.put, List.setIfInBounds_toArray, List.set_cons_zero, List.set_cons_succ]
  go_wp2_with fail
  refine HSAM.out.mono ?_
  rintro e wS ⟨rfl, hbS⟩
  have HBS : Hid (Below uB.heap.size uB wS) := hbS
  clear hbS HSAM
  have HFAU := Lib.hid (faults_true faA _ _ wS (HFA2.out.below HBS.out) (HFB2.out.below HBS.out))
  go_wp2_with fail
  refine HFAU.out.mono ?_
  rintro e wF ⟨rfl, mm, hwF⟩
  have HBF9 : Hid (Below W.heap.size W wF) := by rw [hwF]; exact below_drewN (HBWB.out.trans (HBS.out.mono HBWB.out.size)) mm
  clear hwF HFAU
  go_wp2_with fail
  go_ret
  exact ⟨rfl, HBF9.out⟩
end Go.Proofs.YtdhjibnkebbejaaDoor
