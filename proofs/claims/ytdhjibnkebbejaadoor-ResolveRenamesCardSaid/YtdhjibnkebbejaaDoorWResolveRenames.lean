/-
  The walk of the statement ResolveRenames: it returns true for every source and text.
-/
import Derived.Test.YtdhjibnkebbejaaDoorResLawW
import Derived.Test.YtdhjibnkebbejaaDoorResRenL
namespace Go.Proofs.YtdhjibnkebbejaaDoor
open Go.RowKit Mem Vw Rs
set_option linter.unusedVariables false
set_option linter.unusedSimpArgs false

set_option maxRecDepth 100000 in
set_option maxHeartbeats 8000000 in
theorem walk_ResolveRenames (s : Rs.Source) (si : Value) (hs : SourceOk s) (a1 : ByteArray) (w1 : a1.size ≤ maxLen) (W : World) (hbf : Bf W) (hi : Items W s.items si) (hbig : ∀ x ∈ s.items, x.sum.length ≤ 140737488355328 ∧ ∀ c ∈ x.conds, c.name.length ≤ 140737488355328) :
    Calls Tryd.prog 6 #[.agg (scells s.name s.frm s.days si).toArray, .string a1] W fun e w' => e = .returned (.bool true) ∧ Below W.heap.size W w' := by
  obtain ⟨t, rfl⟩ : ∃ t : Rs.Bytes, a1 = ⟨t.toArray⟩ := ⟨a1.data.toList, by cases a1; rfl⟩
  have HBIG := Lib.hid hbig
  have hts : (⟨t.toArray⟩ : ByteArray).size = t.length := by show t.toArray.size = _; simp
  have HTS := Lib.hid hts
  clear w1 hbig hts
  obtain ⟨z, hzs, hz⟩ := hi
  obtain ⟨Ai, ci, hv, hc1, hc2⟩ := hz.row.slice
  rw [List.length_map] at hv hc1
  subst hv
  have HZ := Lib.hid hz; have HZS := Lib.hid hzs; have HOK := Lib.hid hs; have HBF := Lib.hid hbf
  have hln : z.length ≤ maxLen := by have h := hs.len; rw [← hzs, List.length_map] at h; exact h
  have HLN := Lib.hid hln
  have HLZ : Hid (z.length = s.items.length) := by show _ = _; rw [← hzs, List.length_map]
  clear hz hzs hs hbf hc1 hc2 hln
  obtain ⟨w0, HW0⟩ : ∃ w0, Hid (W.alloc (.cells (scells s.name s.frm s.days (.slice Ai z.length ci)).toArray 26) = w0) := ⟨_, rfl⟩
  have HSB0 : Hid (w0.heap[W.heap.size]? = some (.cells (scells s.name s.frm s.days (.slice Ai z.length ci)).toArray 26 (0, 0))) := by rw [← HW0.out]; exact blk_newn rfl
  have HBA0 : Hid (Below W.heap.size W w0) := by rw [← HW0.out]; exact (Below.refl _ W).alloc (Nat.le_refl _) _
  have HHD := Lib.hid (head_any w0 (HBF.out.below HBA0.out))
  go_enter Tryd.func6, Tryd.ntmps6
  go_upto_region 1 with fail
  rw [HW0.out]
  go_wp2_with fail
  refine HHD.out.mono ?_
  rintro e w1 ⟨rfl, hb1⟩
  have HSB1 := Lib.hid ((hb1.block _ (lt_of_blk HSB0.out)).trans HSB0.out)
  have HBA1 : Hid (Below W.heap.size W w1) := HBA0.out.trans (hb1.mono HBA0.out.size)
  clear hb1 HHD HSB0 HBA0 HW0
  have s0 : w1.cell? ⟨W.heap.size, 0, none⟩ = some (.string ⟨s.name.toArray⟩) := (cell_of_blk HSB1.out 0).trans rfl
  have s1 : w1.cell? ⟨W.heap.size, 1, none⟩ = some (.int .i64 s.frm.y) := (cell_of_blk HSB1.out 1).trans rfl
  have s2 : w1.cell? ⟨W.heap.size, 2, none⟩ = some (.int .i64 s.frm.m) := (cell_of_blk HSB1.out 2).trans rfl
  have s3 : w1.cell? ⟨W.heap.size, 3, none⟩ = some (.int .i64 s.frm.d) := (cell_of_blk HSB1.out 3).trans rfl
  have s4 : w1.cell? ⟨W.heap.size, 4, none⟩ = some (.int .i64 s.days) := (cell_of_blk HSB1.out 4).trans rfl
  have s5 : w1.cell? ⟨W.heap.size, 5, none⟩ = some (.slice Ai z.length ci) := (cell_of_blk HSB1.out 5).trans rfl
  have HSM := Lib.hid (small_any s _ z w1 (HZ.out.below HBA1.out) HZS.out HLN.out)
  go_wp2_with fail
  refine HSM.out.mono ?_
  rintro e w2 ⟨b, rfl, hsm, hb2⟩
  have HSB2 := Lib.hid ((hb2.block _ (lt_of_blk HSB1.out)).trans HSB1.out)
  have HBA2 : Hid (Below W.heap.size W w2) := HBA1.out.trans (hb2.mono HBA1.out.size)
  have HSMA := Lib.hid hsm
  clear hb2 HSM HSB1 HBA1 s0 s1 s2 s3 s4 s5 hsm
  cases b
  · clear HSMA
    go_wp2_with fail
    go_ret
    exact ⟨rfl, HBA2.out⟩
  obtain ⟨h700, hall⟩ := HSMA.out rfl
  have H7 := Lib.hid h700; have HALL := Lib.hid hall
  have HWS2 : Hid (W.heap.size < w2.heap.size) := lt_of_blk HSB2.out
  clear HSMA h700 hall
  have s0 : w2.cell? ⟨W.heap.size, 0, none⟩ = some (.string ⟨s.name.toArray⟩) := (cell_of_blk HSB2.out 0).trans rfl
  have s1 : w2.cell? ⟨W.heap.size, 1, none⟩ = some (.int .i64 s.frm.y) := (cell_of_blk HSB2.out 1).trans rfl
  have s2 : w2.cell? ⟨W.heap.size, 2, none⟩ = some (.int .i64 s.frm.m) := (cell_of_blk HSB2.out 2).trans rfl
  have s3 : w2.cell? ⟨W.heap.size, 3, none⟩ = some (.int .i64 s.frm.d) := (cell_of_blk HSB2.out 3).trans rfl
  have s4 : w2.cell? ⟨W.heap.size, 4, none⟩ = some (.int .i64 s.days) := (cell_of_blk HSB2.out 4).trans rfl
  have s5 : w2.cell? ⟨W.heap.size, 5, none⟩ = some (.slice Ai z.length ci) := (cell_of_blk HSB2.out 5).trans rfl
  by_cases h60 : t.length ≤ 60
  case neg =>
    have h61 : (60 : Int) < (t.length : Int) := by omega
    go_wp2_with fail
    go_ret
    exact ⟨rfl, HBA2.out⟩
  have h61 : ¬ ((60 : Int) < (t.length : Int)) := by omega
  have H60 := Lib.hid h60
  clear h60
  have HREA := Lib.hid (resolve_any s _ z w2 (HZ.out.below HBA2.out) HZS.out (by have := H7.out; omega) (fun y hy => ⟨HOK.out.items y hy, by have := (HALL.out y hy).conds; omega⟩) (HBF.out.below HBA2.out))
  go_wp2_with fail
  refine HREA.out.mono ?_
  rintro e rA ⟨vA, rfl, hro, hbr⟩
  obtain ⟨AA, hA⟩ : ∃ A, answer s = A := ⟨_, rfl⟩
  rw [ResOut, hA] at hro
  obtain ⟨saA, yaA, faA⟩ := AA
  obtain ⟨HaA, clA, fvA, rfl, hsy, hft, _⟩ := hro
  dsimp only at hsy hft
  have HONEA : Hid ((symc saA yaA.weekend HaA).toArray.all (·.oneCell') = true) := one_symc saA yaA.weekend HaA hsy.hol.form hsy.par.form hsy.rol.form hsy.uni.form hsy.act.form hsy.cla.form
  obtain ⟨AfA, cfA, hfe, _, _⟩ := hft.slice
  rw [List.length_map] at hfe
  subst hfe
  have HSYA := Lib.hid hsy; have HAA := Lib.hid hA; have HFTA := Lib.hid hft; have HBRA := Lib.hid hbr
  clear hsy hft hA hbr s0 s1 s2 s3 s4 s5 HREA
  dsimp only
  iterate 13 go_step
  refine wpList_store_row rfl 39 _ _ rfl rA.heap.size (symc saA yaA.weekend HaA).toArray rfl rfl 39 _ (blk_newn rfl) (info_symc _ _ _) rfl HONEA.out ?_
  simp only [Act.put, List.setIfInBounds_toArray, List.set_cons_zero, List.set_cons_succ]
  rw [World.setRow_alloc_new]
  obtain ⟨uA, hu⟩ : ∃ u, rA.alloc (.cells (symc saA yaA.weekend HaA).toArray 39) = u := ⟨_, rfl⟩
  rw [hu]
  have HQA : Hid (uA.heap[rA.heap.size]? = some (.cells (symc saA yaA.weekend HaA).toArray 39 (0, 0))) := by rw [← hu]; exact blk_newn rfl
  have HBUA : Hid (Below rA.heap.size rA uA) := by rw [← hu]; exact (Below.refl _ rA).alloc (Nat.le_refl _) _
  have HSUA : Hid (uA.heap.size = rA.heap.size + 1) := by show _ = _; rw [← hu]; simp
  clear hu HONEA
  have HBAA : Hid (Below W.heap.size W rA) := HBA2.out.trans (HBRA.out.mono HBA2.out.size)
  have HSBA := Lib.hid ((HBRA.out.block _ (lt_of_blk HSB2.out)).trans HSB2.out)
  have HSUB := Lib.hid ((HBUA.out.block _ (lt_of_blk HSBA.out)).trans HSBA.out)
  have HBWu : Hid (Below W.heap.size W uA) := HBAA.out.trans (HBUA.out.mono HBAA.out.size)
  have HRB : Hid (∀ p ∈ z, RenB p.1) := fun p hp => by
    have hm : p.1 ∈ s.items := by rw [← HZS.out]; exact List.mem_map_of_mem hp
    exact ⟨HALL.out _ hm, (HBIG.out _ hm).1, (HBIG.out _ hm).2⟩
  have HREN := Lib.hid (renamed_any s t _ z uA (HZ.out.below HBWu.out) H7.out H60.out HRB.out)
  clear HSB2 HBA2 HBRA h61
  have s0 : uA.cell? ⟨W.heap.size, 0, none⟩ = some (.string ⟨s.name.toArray⟩) := (cell_of_blk HSUB.out 0).trans rfl
  have s1 : uA.cell? ⟨W.heap.size, 1, none⟩ = some (.int .i64 s.frm.y) := (cell_of_blk HSUB.out 1).trans rfl
  have s2 : uA.cell? ⟨W.heap.size, 2, none⟩ = some (.int .i64 s.frm.m) := (cell_of_blk HSUB.out 2).trans rfl
  have s3 : uA.cell? ⟨W.heap.size, 3, none⟩ = some (.int .i64 s.frm.d) := (cell_of_blk HSUB.out 3).trans rfl
  have s4 : uA.cell? ⟨W.heap.size, 4, none⟩ = some (.int .i64 s.days) := (cell_of_blk HSUB.out 4).trans rfl
  have s5 : uA.cell? ⟨W.heap.size, 5, none⟩ = some (.slice Ai z.length ci) := (cell_of_blk HSUB.out 5).trans rfl
  go_wp2_with fail
  refine HREN.out.mono ?_
  rintro e wR ⟨vi, KL, rfl, hli, heq, hbR⟩
  have HLI := Lib.hid hli
  have HKE : Hid (KL.map Prod.fst = s.items.map (ren t)) := by show _ = _; rw [heq, HZS.out]
  have HBRW : Hid (Below W.heap.size W wR) := HBWu.out.trans (hbR.mono HBWu.out.size)
  have HKL : Hid (KL.length ≤ 700) := by
    have h1 := congrArg List.length HKE.out
    rw [List.length_map, List.length_map] at h1
    have h2 := H7.out; have h3 := HLZ.out
    show _ ≤ _
    omega
  have HBRu : Hid (Below rA.heap.size rA wR) := HBUA.out.trans (hbR.mono HBUA.out.size)
  have HQAR := Lib.hid ((hbR.block _ (lt_of_blk HQA.out)).trans HQA.out)
  clear hli heq hbR HREN s0 s1 s2 s3 s4 s5
  have HREB := Lib.hid (resolve_any (⟨s.name, s.frm, s.days, s.items.map (ren t)⟩ : Rs.Source) _ KL wR HLI.out HKE.out (by have := HKL.out; omega) (fun y hy => by obtain ⟨x, hx, rfl⟩ := List.mem_map.1 hy; exact ⟨ren_ok t H60.out (HOK.out.items x hx) ⟨HALL.out x hx, (HBIG.out x hx).1, (HBIG.out x hx).2⟩, by have := (HALL.out x hx).conds; show (x.conds.map (rcond t)).length ≤ _; rw [List.length_map]; omega⟩) (HBF.out.below HBRW.out))
  go_wp2_with fail
  refine HREB.out.mono ?_
  rintro e rB ⟨vB, rfl, hro, hbr⟩
  obtain ⟨AB, hA⟩ : ∃ A, answer (⟨s.name, s.frm, s.days, s.items.map (ren t)⟩ : Rs.Source) = A := ⟨_, rfl⟩
  rw [ResOut, hA] at hro
  obtain ⟨saB, yaB, faB⟩ := AB
  obtain ⟨HaB, clB, fvB, rfl, hsy, hft, _⟩ := hro
  dsimp only at hsy hft
  have HONEB : Hid ((symc saB yaB.weekend HaB).toArray.all (·.oneCell') = true) := one_symc saB yaB.weekend HaB hsy.hol.form hsy.par.form hsy.rol.form hsy.uni.form hsy.act.form hsy.cla.form
  obtain ⟨AfB, cfB, hfe, _, _⟩ := hft.slice
  rw [List.length_map] at hfe
  subst hfe
  have HSYB := Lib.hid hsy; have HAB := Lib.hid hA; have HFTB := Lib.hid hft; have HBRB := Lib.hid hbr
  clear hsy hft hA hbr HREB
  dsimp only
  iterate 13 go_step
  refine wpList_store_row rfl 39 _ _ rfl rB.heap.size (symc saB yaB.weekend HaB).toArray rfl rfl 39 _ (blk_newn rfl) (info_symc _ _ _) rfl HONEB.out ?_
  simp only [Act.put, List.setIfInBounds_toArray, List.set_cons_zero, List.set_cons_succ]
  rw [World.setRow_alloc_new]
  obtain ⟨uB, hu⟩ : ∃ u, rB.alloc (.cells (symc saB yaB.weekend HaB).toArray 39) = u := ⟨_, rfl⟩
  rw [hu]
  have HQB : Hid (uB.heap[rB.heap.size]? = some (.cells (symc saB yaB.weekend HaB).toArray 39 (0, 0))) := by rw [← hu]; exact blk_newn rfl
  have HBUB : Hid (Below rB.heap.size rB uB) := by rw [← hu]; exact (Below.refl _ rB).alloc (Nat.le_refl _) _
  have HSUB : Hid (uB.heap.size = rB.heap.size + 1) := by show _ = _; rw [← hu]; simp
  clear hu HONEB
  obtain ⟨sb, hsb, hn1, hn2, hn3⟩ := answer_ren s t HAA.out
  rw [HAB.out] at hsb
  obtain ⟨e1, hsb⟩ := Prod.mk.inj hsb
  obtain ⟨e2, e3⟩ := Prod.mk.inj hsb
  subst e1 e2 e3
  have HBAB : Hid (Below rA.heap.size rA uB) := (HBRu.out.trans (HBRB.out.mono HBRu.out.size)).trans (HBUB.out.mono (by have h1 := HBRu.out.size; have h2 := HBRB.out.size; omega))
  have HQAu := Lib.hid ((HBUB.out.block _ (by have := lt_of_blk HQAR.out; have := HBRB.out.size; omega)).trans ((HBRB.out.block _ (lt_of_blk HQAR.out)).trans HQAR.out))
  have HBWB : Hid (Below W.heap.size W uB) := HBAA.out.trans (HBAB.out.mono HBAA.out.size)
  have HFA2 : Hid (Row uB (.slice AfA faB.length cfA) 2 (faB.map faultv)) := HFTA.out.below HBAB.out
  have HFB2 : Hid (Row uB (.slice AfB faB.length cfB) 2 (faB.map faultv)) := HFTB.out.below HBUB.out
  have HSYA2 : Hid (SyRows uB yaA HaA clA) := HSYA.out.below HBAB.out
  have HSYB2 : Hid (SyRows uB (txt t yaA) HaB clB) := HSYB.out.below HBUB.out
  have HQB2 : Hid (uB.heap[rB.heap.size]? = some (.cells (symc saA (txt t yaA).weekend HaB).toArray 39 (0, 0))) := by rw [← symc_head hn1 hn2 hn3]; exact HQB.out
  have HNMB : Hid (NamesB yaA) := (answer_names (fun n => n.length ≤ 60) s HAA.out (fun x hx => (HALL.out x hx).name)).short
  have HTL : Hid (total yaA ≤ 1000000) := by
    have h1 := answer_total s HAA.out
    have h2 := H7.out; have h3 := HLZ.out
    show _ ≤ _
    omega
  clear hn1 hn2 hn3 HQB HQAR HFTA HFTB
  go_upto_region 6 with fail
  refine Reg.G.start (by kernel_rfl) ?_
  refine' Reg.G.pure (i := 0) (v := _) rfl (by rfl) (by kernel_rfl) (by kernel_rfl) (by kernel_rfl) (fun _ _ _ h => h) ?hyr6_0 ?rer6_0
  case hyr6_0 => exact fun w => by first | (go_simp; done) | (go_simp; with_reducible rfl)
  simp only [Act.put, List.setIfInBounds_toArray, List.set_cons_zero, List.set_cons_succ]
  refine' Reg.G.pure (i := 1) (v := _) rfl (by rfl) (by kernel_rfl) (by kernel_rfl) (by kernel_rfl) (fun _ _ _ h => h) ?hyr6_1 ?rer6_1
  case hyr6_1 => exact fun w => by first | (go_simp; done) | (go_simp; with_reducible rfl)
  simp only [Act.put, List.setIfInBounds_toArray, List.set_cons_zero, List.set_cons_succ]
  refine' Reg.G.pure (i := 2) (v := _) rfl (by rfl) (by kernel_rfl) (by kernel_rfl) (by kernel_rfl) (fun _ _ _ h => h) ?hyr6_2 ?rer6_2
  case hyr6_2 => exact fun w => by first | (go_simp; done) | (go_simp; with_reducible rfl)
  simp only [Act.put, List.setIfInBounds_toArray, List.set_cons_zero, List.set_cons_succ]
  refine' Reg.G.pure (i := 3) (v := _) rfl (by rfl) (by kernel_rfl) (by kernel_rfl) (by kernel_rfl) (fun _ _ _ h => h) ?hyr6_3 ?rer6_3
  case hyr6_3 => exact fun w => by first | (go_simp; done) | (go_simp; with_reducible rfl)
  simp only [Act.put, List.setIfInBounds_toArray, List.set_cons_zero, List.set_cons_succ]
  refine Reg.G.step (j := 4) (m := []) [] rfl (by kernel_rfl) rfl (by kernel_rfl) (fun K hK => ?_)
  -- Op.call { callee := Callee.value (func 15), args := #[t34, t35], argTypes := #[40, 40] }
  rw [if_pos (by rfl)]
  go_simp
  refine (faults_true faB _ _ uB.drew (HFA2.out.below (Below.refl _ uB).drew) (HFB2.out.below (Below.refl _ uB).drew)).mono ?_
  rintro e wF ⟨rfl, mm, hwF⟩
  have HBF9 : Hid (Below uB.heap.size uB wF) := by rw [hwF]; exact below_drewN (Below.refl _ uB).drew mm
  have HQAF := Lib.hid ((HBF9.out.block _ (lt_of_blk HQAu.out)).trans HQAu.out)
  have HQBF := Lib.hid ((HBF9.out.block _ (lt_of_blk HQB2.out)).trans HQB2.out)
  clear hwF
  refine hK.out _ _ trivial ?_
  clear hK K
  simp only [Act.put, List.setIfInBounds_toArray, List.set_cons_zero, List.set_cons_succ, Reg.Kept]
  refine' Reg.G.pure (i := 5) (v := _) rfl (by rfl) (by kernel_rfl) (by kernel_rfl) (by kernel_rfl) (fun _ _ _ h => h) ?hyr6_5 ?rer6_5
  case hyr6_5 => exact fun w => by first | (go_simp; done) | (go_simp; with_reducible rfl)
  simp only [Act.put, List.setIfInBounds_toArray, List.set_cons_zero, List.set_cons_succ]
  refine' Reg.G.pure (i := 6) (v := _) rfl (by rfl) (by kernel_rfl) (by kernel_rfl) (by kernel_rfl) (fun _ _ _ h => h) ?hyr6_6 ?rer6_6
  case hyr6_6 => exact fun w => by first | (go_simp; done) | (go_simp; with_reducible rfl)
  simp only [Act.put, List.setIfInBounds_toArray, List.set_cons_zero, List.set_cons_succ]
  refine' Reg.G.take (i := 7) (v := _) (F := (fun w => w.heap[rA.heap.size]? = some (.cells (symc saA yaA.weekend HaA).toArray 39 (0, 0)))) rfl (by rfl) (by kernel_rfl) (by kernel_rfl) (by kernel_rfl) (fun _ _ _ h => h) (HQAF.out) ?hyr6_7 ?rer6_7
  case hyr6_7 => intro w hw; refine run_load_row (P := Tryd.prog) 39 (.tmp 6) ?_ (rA.heap.size) ?_ 39 (symc saA yaA.weekend HaA).toArray _ hw Tryd.underlying39 rfl (info_symc _ _ _) <;> rfl
  simp only [Act.put, List.setIfInBounds_toArray, List.set_cons_zero, List.set_cons_succ]
  refine' Reg.G.pure (i := 8) (v := _) rfl (by rfl) (by kernel_rfl) (by kernel_rfl) (by kernel_rfl) (fun _ _ _ h => h) ?hyr6_8 ?rer6_8
  case hyr6_8 => exact fun w => by first | (go_simp; done) | (go_simp; with_reducible rfl)
  simp only [Act.put, List.setIfInBounds_toArray, List.set_cons_zero, List.set_cons_succ]
  refine' Reg.G.take (i := 10) (v := _) (F := (fun w => w.heap[rB.heap.size]? = some (.cells (symc saA (txt t yaA).weekend HaB).toArray 39 (0, 0)))) rfl (by rfl) (by kernel_rfl) (by kernel_rfl) (by kernel_rfl) (fun _ _ _ h => h) (HQBF.out) ?hyr6_10 ?rer6_10
  case hyr6_10 => intro w hw; refine run_load_row (P := Tryd.prog) 39 (.tmp 8) ?_ (rB.heap.size) ?_ 39 (symc saA (txt t yaA).weekend HaB).toArray _ hw Tryd.underlying39 rfl (info_symc _ _ _) <;> rfl
  simp only [Act.put, List.setIfInBounds_toArray, List.set_cons_zero, List.set_cons_succ]
  refine Reg.G.step (j := 9) (m := [true, false]) [10, 7] rfl (by kernel_rfl) rfl (by kernel_rfl) (fun K hK => ?_)
  -- Op.call { callee := Callee.value (func 22), args := #[t39, t40], argTypes := #[39, 9] }
  rw [if_pos (by rfl)]
  go_simp
  refine (texted_any saA yaA HaA clA t wF (HSYA2.out.below HBF9.out) HTL.out H60.out HNMB.out).mono ?_
  rintro e wT ⟨H9, cl9, rfl, hsy9, hb9⟩
  have HSY9 := Lib.hid hsy9
  have HBT9 : Hid (Below uB.heap.size uB wT) := HBF9.out.trans (hb9.mono HBF9.out.size)
  have HQBT := Lib.hid ((hb9.block _ (lt_of_blk HQBF.out)).trans HQBF.out)
  clear hsy9 hb9
  refine hK.out _ _ ⟨HQBT.out, trivial⟩ ?_
  clear hK K
  simp only [Act.put, List.setIfInBounds_toArray, List.set_cons_zero, List.set_cons_succ, Reg.Kept]
  refine Reg.G.step (j := 11) (m := [false]) [10] rfl (by kernel_rfl) rfl (by kernel_rfl) (fun K hK => ?_)
  -- Op.call { callee := Callee.value (func 14), args := #[t41, t42], argTypes := #[39, 39] }
  rw [if_pos (by rfl)]
  go_simp
  refine (same_true saA (txt t yaA) H9 HaB cl9 clB wT HSY9.out (HSYB2.out.below HBT9.out)).mono ?_
  rintro e wS ⟨rfl, hbS⟩
  have HBS9 : Hid (Below uB.heap.size uB wS) := HBT9.out.trans (hbS.mono HBT9.out.size)
  clear hbS
  refine hK.out _ _ trivial ?_
  clear hK K
  simp only [Act.put, List.setIfInBounds_toArray, List.set_cons_zero, List.set_cons_succ, Reg.Kept]
  refine' Reg.G.pure (i := 12) (v := _) rfl (by rfl) (by kernel_rfl) (by kernel_rfl) (by kernel_rfl) (fun _ _ _ h => h) ?hyr6_12 ?rer6_12
  case hyr6_12 => exact fun w => by first | (go_simp; done) | (go_simp; with_reducible rfl)
  simp only [Act.put, List.setIfInBounds_toArray, List.set_cons_zero, List.set_cons_succ]
  refine' Reg.G.pure (i := 13) (v := _) rfl (by rfl) (by kernel_rfl) (by kernel_rfl) (by kernel_rfl) (fun _ _ _ h => h) ?hyr6_13 ?rer6_13
  case hyr6_13 => exact fun w => by first | (go_simp; done) | (go_simp; with_reducible rfl)
  simp only [Act.put, List.setIfInBounds_toArray, List.set_cons_zero, List.set_cons_succ]
  refine Reg.G.done (by kernel_rfl) ?_
  go_wp2_with fail
  go_ret
  exact ⟨rfl, HBWB.out.trans (HBS9.out.mono HBWB.out.size)⟩
end Go.Proofs.YtdhjibnkebbejaaDoor
