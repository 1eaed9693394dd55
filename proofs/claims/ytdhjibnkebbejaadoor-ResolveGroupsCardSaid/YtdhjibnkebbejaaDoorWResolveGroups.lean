/-
  The walk of the statement ResolveGroups: it returns true for every source and first group.
-/
import Derived.Test.YtdhjibnkebbejaaDoorResLawW
import Derived.Test.YtdhjibnkebbejaaDoorResCount
import Derived.Test.YtdhjibnkebbejaaDoorResLawG
namespace Go.Proofs.YtdhjibnkebbejaaDoor
open Go.RowKit Mem Vw Rs
set_option linter.unusedVariables false
set_option linter.unusedSimpArgs false

/-- The items of the groups before the g-th, and of the g-th those before the k-th item. -/
def upG (c g k : Nat) (l : List Rs.Item) : List Rs.Item := ((List.range g).flatMap fun j => l.filter fun x => group x.kind == (j + c) % 6) ++ (l.take k).filter fun x => group x.kind == (g + c) % 6
theorem upG_next (c g : Nat) (l : List Rs.Item) : upG c g l.length l = upG c (g + 1) 0 l := by
  unfold upG
  rw [List.take_length, List.range_succ, List.flatMap_append]
  simp
theorem upG_hit (c g k : Nat) (l : List Rs.Item) (x : Rs.Item) (hx : l[k]? = some x) (h : group x.kind = (g + c) % 6) : upG c g (k + 1) l = upG c g k l ++ [x] := by
  unfold upG
  rw [List.take_add_one, hx, List.append_assoc]
  simp [h]
theorem upG_miss (c g k : Nat) (l : List Rs.Item) (x : Rs.Item) (hx : l[k]? = some x) (h : group x.kind ≠ (g + c) % 6) : upG c g (k + 1) l = upG c g k l := by
  unfold upG
  rw [List.take_add_one, hx]
  simp [h]
/-- What both loops hold. -/
structure GSt (B tb c : Nat) (s : Rs.Source) (z : List (Rs.Item × Sl)) (u : World) (g k : Nat) (vi : Value) (K : List (Rs.Item × Sl)) (wr : World) : Prop where
  st : AppSt B tb s u vi K wr
  eq : K.map Prod.fst = upG c g k s.items
  sub : ∀ p ∈ K, p ∈ z
  len : K.length ≤ g * 700 + k
def GRelO (B tb c : Nat) (s : Rs.Source) (z : List (Rs.Item × Sl)) (u : World) (gi : Value) (wr : World) : Prop := ∃ g : Nat, gi = .int .i64 (g : Int) ∧ g ≤ 6 ∧ ∃ vi K, Hid (GSt B tb c s z u g 0 vi K wr)
def GRelI (B tb c : Nat) (s : Rs.Source) (z : List (Rs.Item × Sl)) (u : World) (g : Nat) (ki : Value) (wr : World) : Prop := ∃ k : Nat, ki = .int .i64 (k : Int) ∧ k ≤ z.length ∧ ∃ vi K, Hid (GSt B tb c s z u g k vi K wr)
set_option maxRecDepth 100000 in
set_option maxHeartbeats 8000000 in
theorem walk_ResolveGroups (s : Rs.Source) (si : Value) (hs : SourceOk s) (a1 : Int) (w1 : (Lit.int .u8 a1).wf = true) (W : World) (hbf : Bf W) (hi : Items W s.items si) :
    Calls Tryd.prog 5 #[.agg (scells s.name s.frm s.days si).toArray, .int .u8 a1] W fun e w' => e = .returned (.bool true) ∧ Below W.heap.size W w' := by
  obtain ⟨c, rfl, hc⟩ : ∃ c : Nat, a1 = (c : Int) ∧ c ≤ 255 := by
    have h2 : (decide (IntKind.u8.min ≤ a1) && decide (a1 ≤ IntKind.u8.max)) = true := w1
    rw [Bool.and_eq_true, decide_eq_true_eq, decide_eq_true_eq] at h2
    have h : 0 ≤ a1 ∧ a1 ≤ 255 := h2
    exact ⟨a1.toNat, by omega, by omega⟩
  have HC255 := Lib.hid hc
  clear w1 hc
  obtain ⟨z, hzs, hz⟩ := hi
  obtain ⟨Ai, ci, hv, hc1, hc2⟩ := hz.row.slice
  rw [List.length_map] at hv hc1
  subst hv
  have HZ := Lib.hid hz; have HZS := Lib.hid hzs; have HOK := Lib.hid hs; have HBF := Lib.hid hbf
  have hln : z.length ≤ maxLen := by have h := hs.len; rw [← hzs, List.length_map] at h; exact h
  have HLN := Lib.hid hln
  have HLZ : Hid (z.length = s.items.length) := by show _ = _; rw [← hzs, List.length_map]
  clear hz hzs hs hbf hc1 hc2 hln
  obtain ⟨w0, HW0⟩ : ∃ w0, Hid (W.alloc (.cells (scells s.name s.frm s.days (.slice Ai z.length ci)).toArray 26) = w0) := ⟨_, rfl⟩
  have HSB0 : Hid (w0.heap[W.heap.size]? = some (.cells (scells s.name s.frm s.days (.slice Ai z.length ci)).toArray 26 (0, 0))) := by rw [← HW0.out]; exact blk_newn rfl
  have HBA0 : Hid (Below W.heap.size W w0) := by rw [← HW0.out]; exact (Below.refl _ W).alloc (Nat.le_refl _) _
  have HHD := Lib.hid (head_any w0 (HBF.out.below HBA0.out))
  go_enter Tryd.func5, Tryd.ntmps5
  go_upto_region 1 with fail
  rw [HW0.out]
  go_wp2_with fail
  refine HHD.out.mono ?_
  rintro e w1 ⟨rfl, hb1⟩
  have HSB1 := Lib.hid ((hb1.block _ (lt_of_blk HSB0.out)).trans HSB0.out)
  have HBA1 : Hid (Below W.heap.size W w1) := HBA0.out.trans (hb1.mono HBA0.out.size)
  clear hb1 HHD HSB0 HBA0 HW0
  have s0 : w1.cell? ⟨W.heap.size, 0, none⟩ = some (.string ⟨s.name.toArray⟩) := (cell_of_blk HSB1.out 0).trans rfl
  have s1 : w1.cell? ⟨W.heap.size, 1, none⟩ = some (.int .i64 s.frm.y) := (cell_of_blk HSB1.out 1).trans rfl
  have s2 : w1.cell? ⟨W.heap.size, 2, none⟩ = some (.int .i64 s.frm.m) := (cell_of_blk HSB1.out 2).trans rfl
  have s3 : w1.cell? ⟨W.heap.size, 3, none⟩ = some (.int .i64 s.frm.d) := (cell_of_blk HSB1.out 3).trans rfl
  have s4 : w1.cell? ⟨W.heap.size, 4, none⟩ = some (.int .i64 s.days) := (cell_of_blk HSB1.out 4).trans rfl
  have s5 : w1.cell? ⟨W.heap.size, 5, none⟩ = some (.slice Ai z.length ci) := (cell_of_blk HSB1.out 5).trans rfl
  have HSM := Lib.hid (small_any s _ z w1 (HZ.out.below HBA1.out) HZS.out HLN.out)
  go_wp2_with fail
  refine HSM.out.mono ?_
  rintro e w2 ⟨b, rfl, hsm, hb2⟩
  have HSB2 := Lib.hid ((hb2.block _ (lt_of_blk HSB1.out)).trans HSB1.out)
  have HBA2 : Hid (Below W.heap.size W w2) := HBA1.out.trans (hb2.mono HBA1.out.size)
  have HSMA := Lib.hid hsm
  clear hb2 HSM HSB1 HBA1 s0 s1 s2 s3 s4 s5 hsm
  cases b
  · clear HSMA
    go_wp2_with fail
    go_ret
    exact ⟨rfl, HBA2.out⟩
  obtain ⟨h700, hall⟩ := HSMA.out rfl
  have H7 := Lib.hid h700; have HALL := Lib.hid hall
  have HWS2 : Hid (W.heap.size < w2.heap.size) := lt_of_blk HSB2.out
  clear HSMA h700 hall
  have s0 : w2.cell? ⟨W.heap.size, 0, none⟩ = some (.string ⟨s.name.toArray⟩) := (cell_of_blk HSB2.out 0).trans rfl
  have s1 : w2.cell? ⟨W.heap.size, 1, none⟩ = some (.int .i64 s.frm.y) := (cell_of_blk HSB2.out 1).trans rfl
  have s2 : w2.cell? ⟨W.heap.size, 2, none⟩ = some (.int .i64 s.frm.m) := (cell_of_blk HSB2.out 2).trans rfl
  have s3 : w2.cell? ⟨W.heap.size, 3, none⟩ = some (.int .i64 s.frm.d) := (cell_of_blk HSB2.out 3).trans rfl
  have s4 : w2.cell? ⟨W.heap.size, 4, none⟩ = some (.int .i64 s.days) := (cell_of_blk HSB2.out 4).trans rfl
  have s5 : w2.cell? ⟨W.heap.size, 5, none⟩ = some (.slice Ai z.length ci) := (cell_of_blk HSB2.out 5).trans rfl
  have HREA := Lib.hid (resolve_any s _ z w2 (HZ.out.below HBA2.out) HZS.out (by have := H7.out; omega) (fun y hy => ⟨HOK.out.items y hy, by have := (HALL.out y hy).conds; omega⟩) (HBF.out.below HBA2.out))
  go_wp2_with fail
  refine HREA.out.mono ?_
  rintro e rA ⟨vA, rfl, hro, hbr⟩
  obtain ⟨AA, hA⟩ : ∃ A, answer s = A := ⟨_, rfl⟩
  rw [ResOut, hA] at hro
  obtain ⟨saA, yaA, faA⟩ := AA
  obtain ⟨HaA, clA, fvA, rfl, hsy, hft, _⟩ := hro
  dsimp only at hsy hft
  have HONEA : Hid ((symc saA yaA.weekend HaA).toArray.all (·.oneCell') = true) := one_symc saA yaA.weekend HaA hsy.hol.form hsy.par.form hsy.rol.form hsy.uni.form hsy.act.form hsy.cla.form
  obtain ⟨AfA, cfA, hfe, _, _⟩ := hft.slice
  rw [List.length_map] at hfe
  subst hfe
  have HSYA := Lib.hid hsy; have HAA := Lib.hid hA; have HFTA := Lib.hid hft; have HBRA := Lib.hid hbr
  clear hsy hft hA hbr s0 s1 s2 s3 s4 s5 HREA
  dsimp only
  iterate 13 go_step
  refine wpList_store_row rfl 39 _ _ rfl rA.heap.size (symc saA yaA.weekend HaA).toArray rfl rfl 39 _ (blk_newn rfl) (info_symc _ _ _) rfl HONEA.out ?_
  simp only [Act.put, List.setIfInBounds_toArray, List.set_cons_zero, List.set_cons_succ]
  rw [World.setRow_alloc_new]
  obtain ⟨uA, hu⟩ : ∃ u, rA.alloc (.cells (symc saA yaA.weekend HaA).toArray 39) = u := ⟨_, rfl⟩
  rw [hu]
  have HQA : Hid (uA.heap[rA.heap.size]? = some (.cells (symc saA yaA.weekend HaA).toArray 39 (0, 0))) := by rw [← hu]; exact blk_newn rfl
  have HBUA : Hid (Below rA.heap.size rA uA) := by rw [← hu]; exact (Below.refl _ rA).alloc (Nat.le_refl _) _
  have HSUA : Hid (uA.heap.size = rA.heap.size + 1) := by show _ = _; rw [← hu]; simp
  clear hu HONEA
  have HBAA : Hid (Below W.heap.size W rA) := HBA2.out.trans (HBRA.out.mono HBA2.out.size)
  have HSBA := Lib.hid ((HBRA.out.block _ (lt_of_blk HSB2.out)).trans HSB2.out)
  have HSUB := Lib.hid ((HBUA.out.block _ (lt_of_blk HSBA.out)).trans HSBA.out)
  clear HSB2 HBA2 HBRA
  have s0 : uA.cell? ⟨W.heap.size, 0, none⟩ = some (.string ⟨s.name.toArray⟩) := (cell_of_blk HSUB.out 0).trans rfl
  have s1 : uA.cell? ⟨W.heap.size, 1, none⟩ = some (.int .i64 s.frm.y) := (cell_of_blk HSUB.out 1).trans rfl
  have s2 : uA.cell? ⟨W.heap.size, 2, none⟩ = some (.int .i64 s.frm.m) := (cell_of_blk HSUB.out 2).trans rfl
  have s3 : uA.cell? ⟨W.heap.size, 3, none⟩ = some (.int .i64 s.frm.d) := (cell_of_blk HSUB.out 3).trans rfl
  have s4 : uA.cell? ⟨W.heap.size, 4, none⟩ = some (.int .i64 s.days) := (cell_of_blk HSUB.out 4).trans rfl
  have s5 : uA.cell? ⟨W.heap.size, 5, none⟩ = some (.slice Ai z.length ci) := (cell_of_blk HSUB.out 5).trans rfl
  go_upto_region 6 with fail
  obtain ⟨u, hu⟩ : ∃ u, uA.alloc (.cells #[.string ⟨s.name.toArray⟩, .int .i64 s.frm.y, .int .i64 s.frm.m, .int .i64 s.frm.d, .int .i64 s.days, .slice none 0 0] 26) = u := ⟨_, rfl⟩
  rw [hu]
  have HTB5 : Hid (u.heap[uA.heap.size]? = some (.cells (scells s.name s.frm s.days Vw.nil).toArray 26 (0, 0))) := by rw [← hu]; exact blk_newn rfl
  have HBUu : Hid (Below uA.heap.size uA u) := by rw [← hu]; exact (Below.refl _ uA).alloc (Nat.le_refl _) _
  have HSZu : Hid (u.heap.size = uA.heap.size + 1) := by show _ = _; rw [← hu]; simp
  obtain ⟨B, hB⟩ : ∃ B, u.heap.size = B := ⟨_, rfl⟩
  have HB := Lib.hid hB; clear hB hu s0 s1 s2 s3 s4 s5
  have HTB : Hid (uA.heap.size < B) := by have h1 := HSZu.out; have h2 := HB.out; show _ < _; omega
  have HBRu : Hid (Below rA.heap.size rA u) := HBUA.out.trans (HBUu.out.mono HBUA.out.size)
  have HBWu : Hid (Below W.heap.size W u) := HBAA.out.trans (HBRu.out.mono HBAA.out.size)
  have HSBu := Lib.hid ((HBUu.out.block _ (lt_of_blk HSUB.out)).trans HSUB.out)
  have HQu := Lib.hid ((HBUu.out.block _ (lt_of_blk HQA.out)).trans HQA.out)
  have HWT : Hid (W.heap.size < rA.heap.size) := lt_of_blk HSBA.out
  have HG0 : Hid (GSt B uA.heap.size c s z u 0 0 Vw.nil [] u) := ⟨⟨World.ownsRow_nil _ _ _ _, HTB5.out, Fr.refl _ u⟩, rfl, fun p hp => absurd hp (List.not_mem_nil), Nat.zero_le _⟩
  clear HTB5 HBUu HSUB HQA
  obtain ⟨z0, hzi, hzz⟩ := info_item3
  obtain ⟨i0, hi, hz0, hz1, hz2⟩ := info_parts hzi
  have hc0 : (0 : Int) ≤ (c : Int) := Int.natCast_nonneg _
  have hc1 : (c : Int) ≤ 255 := by have := HC255.out; omega
  go_wp2_with fail
  go_loopw [9] (fun gi wr => GRelO B uA.heap.size c s z u gi wr) (fun gi _ => 6 - (intOf gi).toNat)
  case atStart => exact ⟨0, rfl, by omega, _, _, HG0⟩
  case round =>
    obtain ⟨g, rfl, hg, vi0, KL0, HGS⟩ := hrel
    clear HG0
    have hg0 : (0 : Int) ≤ (g : Int) := Int.natCast_nonneg _
    by_cases hg6 : g < 6
    · go_wp2_with fail
      rename (g : Int) < 6 => hgx
      have HG6 := Lib.hid hg6
      clear hgx hg6
      obtain ⟨wo, rfl⟩ : ∃ w : World, w = wr := ⟨_, rfl⟩
      go_loopw [10] (fun ki wr => GRelI B uA.heap.size c s z u g ki wr) (fun ki _ => z.length - (intOf ki).toNat)
      case atStart => exact ⟨0, rfl, Nat.zero_le _, _, _, HGS⟩
      case round =>
        obtain ⟨k, rfl, hk, vi, KL, HGS2⟩ := hrel
        clear HGS
        have HSCk : Hid (wr.heap[W.heap.size]? = some (.cells (scells s.name s.frm s.days (.slice Ai z.length ci)).toArray 26 (0, 0))) := HGS2.out.st.fr.blk HSBu.out (fun e => by have h1 := HWT.out; have h2 := HSUA.out; omega)
        have k5 : wr.cell? ⟨W.heap.size, 5, none⟩ = some (.slice Ai z.length ci) := cell_of_blk HSCk.out 5
        have HBWr : Hid (Below W.heap.size W wr) := HBWu.out.trans (HGS2.out.st.fr.below HBWu.out.size (fun j h => by have h1 := HWT.out; have h2 := HSUA.out; omega))
        by_cases hlt : k < z.length
        · obtain ⟨g0, o, cap0, hs1, hgl, _, _, hat⟩ := (HZ.out.below HBWr.out).row.at (by intro e; rw [List.map_eq_nil_iff] at e; rw [e] at hlt; simp at hlt)
          have hAi : Ai = some ⟨g0, o, none⟩ := by injection hs1
          subst hAi
          obtain ⟨p, hp⟩ : ∃ p, z[k]? = some p := ⟨_, List.getElem?_eq_getElem hlt⟩
          have HAT0 : Hid (At wr g0 (o + k * 33) (ic p)) := hat k _ (by rw [List.getElem?_map, hp]; rfl)
          have HGL : Hid (g0 < wr.heap.size) := hgl
          have HPM : Hid (p ∈ z) := List.mem_of_getElem? hp
          have HBS : Hid (∀ w : World, (Instr.buildSlice 24 1 #[(0, .agg (ic p).toArray)]).run Tryd.prog w = .ok (.slice (some ⟨w.heap.size, 0, none⟩) 1 1) (w.alloc (.cells (ic p).toArray 55))) := fun w => bslice_any (HZ.out.flat p HPM.out) w
          have HONP : Hid (∀ u ∈ ic p, u.oneCell' = true) := fun u hu => by
            have := ic_one (HZ.out.flat p HPM.out).1 (HZ.out.flat p HPM.out).2
            rw [List.all_toArray] at this
            exact List.all_eq_true.1 this u hu
          have HPK : Hid (s.items[k]? = some p.1) := by show _ = _; rw [← HZS.out, List.getElem?_map, hp]; rfl
          clear hat hs1 hgl hp
          have hz7 : z.length ≤ 700 := H7.out
          have i1 : (0 : Int) ≤ (k : Int) := Int.natCast_nonneg _
          have i2 : (k : Int) < (z.length : Int) := by omega
          have HGC := Lib.hid (Group_any p wr)
          go_upto_region 12 with fail
          iterate 13 go_step
          refine wpList_load_mid rfl 55 _ rfl g0 (o + k * 33) rfl (ic p) _ HAT0.out Tryd.underlying55 rfl info_item ?_
          simp only [Act.put, List.setIfInBounds_toArray, List.set_cons_zero, List.set_cons_succ]
          go_wp2_with fail
          refine HGC.out.mono ?_
          rintro e w5 ⟨rfl, hb5⟩
          have HF5 : Hid (Fr (fun _ => False) wr w5) := Fr.of_below hb5
          have HST : Hid (AppSt B uA.heap.size s u vi KL w5) := HGS2.out.st.keep HF5.out
          have HSC : Hid (w5.cell? ⟨W.heap.size, 5, none⟩ = some (.slice (some ⟨g0, o, none⟩) z.length ci)) := cell_of_blk (HF5.out.blk HSCk.out (fun h => h)) 5
          have HAT : Hid (At w5 g0 (o + k * 33) (ic p)) := HAT0.out.below HGL.out hb5
          have HKL : Hid (KL.length ≤ 5000) := by have h1 := HGS2.out.len; have h2 := H7.out; have h3 := HG6.out; show _ ≤ _; omega
          clear hb5 HGC HAT0 HGL k5 HSCk
          obtain ⟨gk, hgk⟩ : ∃ gk, group p.1.kind = gk := ⟨_, rfl⟩
          obtain ⟨r, hr⟩ : ∃ r, (g + c) % 6 = r := ⟨_, rfl⟩
          have hr2 : ((g : Int) + (c : Int)).tmod 6 = (r : Int) := by rw [← hr, Int.tmod_eq_emod_of_nonneg (by omega)]; omega
          rw [hgk]
          have HGK := Lib.hid hgk; have HR := Lib.hid hr
          clear hgk hr
          by_cases hgr : gk = r
          · subst hgr
            go_upto_region 13 with fail
            refine Reg.G.start (by kernel_rfl) ?_
            refine' Reg.G.pure (i := 0) (v := _) rfl (by rfl) (by kernel_rfl) (by kernel_rfl) (by kernel_rfl) (fun _ _ _ h => h) ?hyr13_0 ?rer13_0
            case hyr13_0 => exact fun w => by first | (go_simp; done) | (go_simp; with_reducible rfl)
            simp only [Act.put, List.setIfInBounds_toArray, List.set_cons_zero, List.set_cons_succ]
            refine' Reg.G.take (i := 1) (v := _) (F := (fun w => w.cell? ⟨uA.heap.size, 5, none⟩ = some vi)) rfl (by rfl) (by kernel_rfl) (by kernel_rfl) (by kernel_rfl) (fun _ _ _ h => h) (cell_of_blk HST.out.tbk 5) ?hyr13_1 ?rer13_1
            case hyr13_1 => intro w hw; first | (go_simp; done) | (go_simp; with_reducible rfl)
            simp only [Act.put, List.setIfInBounds_toArray, List.set_cons_zero, List.set_cons_succ]
            refine' Reg.G.pure (i := 2) (v := _) rfl (by rfl) (by kernel_rfl) (by kernel_rfl) (by kernel_rfl) (fun _ _ _ h => h) ?hyr13_2 ?rer13_2
            case hyr13_2 => exact fun w => by first | (go_simp; done) | (go_simp; with_reducible rfl)
            simp only [Act.put, List.setIfInBounds_toArray, List.set_cons_zero, List.set_cons_succ]
            refine' Reg.G.take (i := 3) (v := _) (F := (fun w => w.cell? ⟨W.heap.size, 5, none⟩ = some (.slice (some ⟨g0, o, none⟩) z.length ci))) rfl (by rfl) (by kernel_rfl) (by kernel_rfl) (by kernel_rfl) (fun _ _ _ h => h) (HSC.out) ?hyr13_3 ?rer13_3
            case hyr13_3 => intro w hw; first | (go_simp; done) | (go_simp; with_reducible rfl)
            simp only [Act.put, List.setIfInBounds_toArray, List.set_cons_zero, List.set_cons_succ]
            refine' Reg.G.pure (i := 4) (v := _) rfl (by rfl) (by kernel_rfl) (by kernel_rfl) (by kernel_rfl) (fun _ _ _ h => h) ?hyr13_4 ?rer13_4
            case hyr13_4 => exact fun w => by first | (go_simp; done) | (go_simp; with_reducible rfl)
            simp only [Act.put, List.setIfInBounds_toArray, List.set_cons_zero, List.set_cons_succ]
            refine' Reg.G.pure (i := 5) (v := _) rfl (by rfl) (by kernel_rfl) (by kernel_rfl) (by kernel_rfl) (fun _ _ _ h => h) ?hyr13_5 ?rer13_5
            case hyr13_5 => exact fun w => by first | (go_simp; done) | (go_simp; with_reducible rfl)
            simp only [Act.put, List.setIfInBounds_toArray, List.set_cons_zero, List.set_cons_succ]
            refine' Reg.G.take (i := 6) (v := _) (F := (fun w => At w g0 (o + k * 33) (ic p))) rfl (by rfl) (by kernel_rfl) (by kernel_rfl) (by kernel_rfl) (fun _ _ _ h => h) (HAT.out) ?hyr13_6 ?rer13_6
            case hyr13_6 => intro w hw; refine run_load_range (P := Tryd.prog) 55 (.tmp 58) ?_ g0 (o + k * 33) ?_ (ic p) _ hw Tryd.underlying55 rfl info_item <;> rfl
            simp only [Act.put, List.setIfInBounds_toArray, List.set_cons_zero, List.set_cons_succ]
            refine Reg.G.step (j := 7) (m := [false, false, true]) [6, 3, 1] rfl (by kernel_rfl) rfl (by kernel_rfl) (fun K hK => ?_)
            -- Op.buildSlice 24 1 #[(0, t59)]
            rw [if_pos (by rfl)]
            refine wp_builtS 24 1 _ rfl #[(0, .agg (ic p).toArray)] (by go_simp) _ _ (HBS.out _) ?_
            obtain ⟨wa, hwa⟩ : ∃ v, (w5.drew).alloc (.cells (ic p).toArray 55) = v := ⟨_, rfl⟩
            rw [hwa]
            have HFA : Hid (Fr (fun _ => False) w5 wa) := by rw [← hwa]; exact (Fr.refl _ w5).drew.alloc _
            have HOA : Hid (wa.ownsRow B 55 33 vi KL.length (KL.flatMap ic)) := own_fr HST.out.own HFA.out (fun _ _ _ h => h)
            have HNA : Hid (∀ j u, (ic p)[j]? = some u → wa.cell? ((⟨w5.heap.size, 0, none⟩ : Addr).add j) = some u) := by rw [← hwa]; exact World.news_of_block (cs := (ic p).toArray) (t := 55) (fr := (0, 0)) (heap_alloc_new w5.drew _)
            have HSA : Hid (wa.heap.size = w5.heap.size + 1) := by show _ = _; rw [← hwa]; simp
            clear hwa
            refine hK.out _ _ ⟨cell_of_blk (HFA.out.blk HST.out.tbk (fun h => h)) 5, trivial⟩ ?_
            clear hK K
            simp only [Act.put, List.setIfInBounds_toArray, List.set_cons_zero, List.set_cons_succ, Reg.Kept]
            refine Reg.G.step (j := 8) (m := [false]) [1] rfl (by kernel_rfl) rfl (by kernel_rfl) (fun K hK => ?_)
            -- Op.call { callee := Callee.builtin Builtin.append, args := #[t54, t60], argTypes := #[24, 24] }
            rw [if_pos (by rfl)]
            refine wp_append_lies wa (.tmp 54) (.tmp 60) 24 rfl B 55 i0 z0 33 368 Tryd.underlying24 hi hz0 hz1 hz2 hzz (by decide) vi KL.length (KL.flatMap ic) (by rfl) HOA.out ⟨w5.heap.size, 0, none⟩ 1 1 (ic p) (by rfl) rfl HNA.out HONP.out (by decide) (by have := HKL.out; simp only [maxLen]; omega) (by have := HKL.out; omega) (by rw [← HB.out]; have h1 := HST.out.fr.size; have h2 := HSA.out; omega) (w5.heap.size + 1) HSA.out ?_
            intro gn cn wc g1 g2 g3 _
            have HNX : Hid (AppSt B uA.heap.size s u (.slice (some ⟨gn, 0, none⟩) (KL.length + 1) cn) (KL ++ [p]) (wc.setCell ⟨uA.heap.size, 5, none⟩ (.slice (some ⟨gn, 0, none⟩) (KL.length + 1) cn))) := HST.out.step HB.out HTB.out HFA.out g1 g2
            have G2 := Lib.hid g2; have G3 := Lib.hid g3
            have HTC : Hid (wc.heap[uA.heap.size]? = some (.cells (scells s.name s.frm s.days vi).toArray 26 (0, 0))) := (Fr.of_grown g2).blk (HFA.out.blk HST.out.tbk (fun h => h)) (fun h => by have h1 := (own_lt HST.out.own _ h).1; have h2 := HTB.out; omega)
            clear g1 g2 g3
            refine hK.out _ _ trivial ?_
            clear hK K
            simp only [Act.put, List.setIfInBounds_toArray, List.set_cons_zero, List.set_cons_succ, Reg.Kept]
            refine' Reg.G.pure (i := 9) (v := _) rfl (by rfl) (by kernel_rfl) (by kernel_rfl) (by kernel_rfl) (fun _ _ _ h => h) ?hyr13_9 ?rer13_9
            case hyr13_9 => exact fun w => by first | (go_simp; done) | (go_simp; with_reducible rfl)
            simp only [Act.put, List.setIfInBounds_toArray, List.set_cons_zero, List.set_cons_succ]
            refine Reg.G.step (j := 10) (m := []) [] rfl (by kernel_rfl) rfl (by kernel_rfl) (fun K hK => ?_)
            -- Op.store 24 (t62) (t61)
            have k5 : wc.cell? ⟨uA.heap.size, 5, none⟩ = some vi := cell_of_blk HTC.out 5
            have f5 : wc.frozen? ⟨uA.heap.size, 5, none⟩ = false := froz_of_blk HTC.out 5
            go_simp
            clear k5 f5
            refine hK.out _ _ trivial ?_
            clear hK K
            simp only [Act.put, List.setIfInBounds_toArray, List.set_cons_zero, List.set_cons_succ, Reg.Kept]
            refine Reg.G.done (by kernel_rfl) ?_
            go_wp2_with fail
            go_roundw
            case rel => exact ⟨k + 1, by go_num, by omega, _, KL ++ [p], ⟨HNX.out, by rw [List.map_append, upG_hit c g k _ p.1 HPK.out (HGK.out.trans HR.out.symm), HGS2.out.eq]; rfl, fun y hy => by
              rcases List.mem_append.1 hy with hy | hy
              · exact HGS2.out.sub y hy
              · obtain rfl : y = p := by simpa using hy
                exact HPM.out, by have := HGS2.out.len; rw [List.length_append, List.length_cons, List.length_nil]; omega⟩⟩
            case measure => simp [intOf]; omega
          · have hgr2 : ¬ ((gk : Int) = (r : Int)) := by omega
            go_wp2_with fail
            go_roundw
            case rel => exact ⟨k + 1, by go_num, by omega, vi, KL, ⟨HST.out, by rw [upG_miss c g k _ p.1 HPK.out (fun e => hgr (HGK.out.symm.trans (e.trans HR.out)))]; exact HGS2.out.eq, HGS2.out.sub, by have := HGS2.out.len; omega⟩⟩
            case measure => simp [intOf]; omega
        · have hkz : k = z.length := by omega
          go_wp2_with fail
          go_roundw
          case rel => exact ⟨g + 1, by go_num, by have := HG6.out; omega, vi, KL, ⟨HGS2.out.st, by rw [HGS2.out.eq, hkz, HLZ.out]; exact upG_next c g s.items, HGS2.out.sub, by have := HGS2.out.len; have := H7.out; omega⟩⟩
          case measure => have := HG6.out; simp [intOf]; omega
    · obtain rfl : g = 6 := by omega
      clear hg hg6 hg0 hc0 hc1 hi hz0 hz1 hz2 hzi hzz
      obtain ⟨Av, capv, hvi⟩ := own_form HGS.out.st.own
      subst hvi
      have HBRr : Hid (Below rA.heap.size rA wr) := HBRu.out.trans (HGS.out.st.fr.below HBRu.out.size (fun k h => by have := HSUA.out; omega))
      have HBWr : Hid (Below W.heap.size W wr) := HBAA.out.trans (HBRr.out.mono HBAA.out.size)
      have HQr := Lib.hid (HGS.out.st.fr.blk HQu.out (fun e => by have := HSUA.out; omega))
      have HLI : Hid (Lies wr KL0 (.slice Av KL0.length capv)) := ⟨Row.of_own HGS.out.st.own (fun _ _ => rfl), fun y hy => ⟨(HZ.out.flat y (HGS.out.sub y hy)).1.below HBWr.out, (HZ.out.flat y (HGS.out.sub y hy)).2⟩⟩
      have s0 : wr.cell? ⟨uA.heap.size, 0, none⟩ = some (.string ⟨s.name.toArray⟩) := (cell_of_blk HGS.out.st.tbk 0).trans rfl
      have s1 : wr.cell? ⟨uA.heap.size, 1, none⟩ = some (.int .i64 s.frm.y) := (cell_of_blk HGS.out.st.tbk 1).trans rfl
      have s2 : wr.cell? ⟨uA.heap.size, 2, none⟩ = some (.int .i64 s.frm.m) := (cell_of_blk HGS.out.st.tbk 2).trans rfl
      have s3 : wr.cell? ⟨uA.heap.size, 3, none⟩ = some (.int .i64 s.frm.d) := (cell_of_blk HGS.out.st.tbk 3).trans rfl
      have s4 : wr.cell? ⟨uA.heap.size, 4, none⟩ = some (.int .i64 s.days) := (cell_of_blk HGS.out.st.tbk 4).trans rfl
      have s5 : wr.cell? ⟨uA.heap.size, 5, none⟩ = some (.slice Av KL0.length capv) := (cell_of_blk HGS.out.st.tbk 5).trans rfl
      have HREB := Lib.hid (resolve_any (⟨s.name, s.frm, s.days, upG c 6 0 s.items⟩ : Rs.Source) _ KL0 wr HLI.out HGS.out.eq (by have := HGS.out.len; omega) (fun y hy => by obtain ⟨p, hp, rfl⟩ := List.mem_map.1 ((HGS.out.eq ▸ hy : y ∈ KL0.map Prod.fst)); have hm : p.1 ∈ s.items := (by rw [← HZS.out]; exact List.mem_map_of_mem (HGS.out.sub p hp)); exact ⟨HOK.out.items _ hm, by have := (HALL.out _ hm).conds; omega⟩) (HBF.out.below HBWr.out))
      go_wp2_with fail
      refine HREB.out.mono ?_
      rintro e rB ⟨vB, rfl, hro, hbr⟩
      obtain ⟨AB, hA⟩ : ∃ A, answer (⟨s.name, s.frm, s.days, upG c 6 0 s.items⟩ : Rs.Source) = A := ⟨_, rfl⟩
      rw [ResOut, hA] at hro
      obtain ⟨saB, yaB, faB⟩ := AB
      obtain ⟨HaB, clB, fvB, rfl, hsy, hft, _⟩ := hro
      dsimp only at hsy hft
      have HONEB : Hid ((symc saB yaB.weekend HaB).toArray.all (·.oneCell') = true) := one_symc saB yaB.weekend HaB hsy.hol.form hsy.par.form hsy.rol.form hsy.uni.form hsy.act.form hsy.cla.form
      obtain ⟨AfB, cfB, hfe, _, _⟩ := hft.slice
      rw [List.length_map] at hfe
      subst hfe
      have HSYB := Lib.hid hsy; have HAB := Lib.hid hA; have HFTB := Lib.hid hft; have HBRB := Lib.hid hbr
      clear hsy hft hA hbr s0 s1 s2 s3 s4 s5 HREB
      dsimp only
      iterate 13 go_step
      refine wpList_store_row rfl 39 _ _ rfl rB.heap.size (symc saB yaB.weekend HaB).toArray rfl rfl 39 _ (blk_newn rfl) (info_symc _ _ _) rfl HONEB.out ?_
      simp only [Act.put, List.setIfInBounds_toArray, List.set_cons_zero, List.set_cons_succ]
      rw [World.setRow_alloc_new]
      obtain ⟨uB, hu⟩ : ∃ u, rB.alloc (.cells (symc saB yaB.weekend HaB).toArray 39) = u := ⟨_, rfl⟩
      rw [hu]
      have HQB : Hid (uB.heap[rB.heap.size]? = some (.cells (symc saB yaB.weekend HaB).toArray 39 (0, 0))) := by rw [← hu]; exact blk_newn rfl
      have HBUB : Hid (Below rB.heap.size rB uB) := by rw [← hu]; exact (Below.refl _ rB).alloc (Nat.le_refl _) _
      have HSUB : Hid (uB.heap.size = rB.heap.size + 1) := by show _ = _; rw [← hu]; simp
      clear hu HONEB
      have HBAB : Hid (Below rA.heap.size rA uB) := (HBRr.out.trans (HBRB.out.mono HBRr.out.size)).trans (HBUB.out.mono (by have h1 := HBRr.out.size; have h2 := HBRB.out.size; omega))
      have HQAu := Lib.hid ((HBUB.out.block _ (by have := lt_of_blk HQr.out; have := HBRB.out.size; omega)).trans ((HBRB.out.block _ (lt_of_blk HQr.out)).trans HQr.out))
      have HBWB : Hid (Below W.heap.size W uB) := HBAA.out.trans (HBAB.out.mono HBAA.out.size)
      have hup : upG c 6 0 s.items = arranged c s.items := by unfold upG arranged; simp
      have hans := answer_perm s.name s.frm s.days (l := s.items) (l' := upG c 6 0 s.items) (by rw [hup]; exact (run_arranged c s.items).1) (by rw [hup]; exact (run_arranged c s.items).2)
      have e0 : answer ⟨s.name, s.frm, s.days, s.items⟩ = (saA, yaA, faA) := HAA.out
      rw [e0, HAB.out] at hans
      dsimp only at hans
      obtain ⟨hy, hn1, hn2, hn3, hpf⟩ := hans
      have hlen : faB.length = faA.length := hpf.length_eq.symm
      have HCN : Hid (cnts (faB.map Fault.err) = cnts (faA.map Fault.err)) := cnts_perm (hpf.map _).symm
      have HFL : Hid (faA.length ≤ 1000000) := by
        have h1 := answer_faults s
        rw [HAA.out] at h1
        have h2 := run_flen s.items
        have h3 := HLZ.out
        have h4 := H7.out
        dsimp only at h1
        show faA.length ≤ 1000000
        rw [h1]; omega
      have HFB : Hid (faB.length ≤ 1000000) := by show _ ≤ _; rw [hlen]; exact HFL.out
      have HSYA2 : Hid (SyRows uB yaA HaA clA) := HSYA.out.below HBAB.out
      have HSYB2 : Hid (SyRows uB yaA HaB clB) := by rw [← hy]; exact HSYB.out.below HBUB.out
      have HQB2 : Hid (uB.heap[rB.heap.size]? = some (.cells (symc saA yaA.weekend HaB).toArray 39 (0, 0))) := by rw [← hy, ← symc_head hn1 hn2 hn3]; exact HQB.out
      have HFA2 : Hid (Row uB (.slice AfA faA.length cfA) 2 (faA.map faultv)) := HFTA.out.below HBAB.out
      have HFB2 : Hid (Row uB (.slice AfB faA.length cfB) 2 (faB.map faultv)) := by rw [← hlen]; exact HFTB.out.below HBUB.out
      have HSM := Lib.hid (same_true saA yaA HaA HaB clA clB uB HSYA2.out HSYB2.out)
      rw [hlen]
      clear hup e0 hy hn1 hn2 hn3 hpf hlen HQB HQr
      go_wp2_with (first | (refine wpList_load_mid_g (op := ⟨some 70, _, _, _, _, _⟩) ?hw 39 _ rfl rA.heap.size 0 rfl (symc saA yaA.weekend HaA) _ (range_of_blk HQAu.out) Tryd.underlying39 rfl (info_symcl _ _ _) ?_; (case hw => rfl)) | (refine wpList_load_mid_g (op := ⟨some 71, _, _, _, _, _⟩) ?hw 39 _ rfl rB.heap.size 0 rfl (symc saA yaA.weekend HaB) _ (range_of_blk HQB2.out) Tryd.underlying39 rfl (info_symcl _ _ _) ?_; (case hw => rfl)))
      refine HSM.out.mono ?_
      rintro e wS ⟨rfl, hbS⟩
      have HBS1 := Lib.hid hbS
      have HCA := Lib.hid (count_any faA _ wS (HFA2.out.below hbS) HFL.out)
      clear hbS
      go_wp2_with fail
      refine HCA.out.mono ?_
      rintro e wT ⟨rfl, hbT⟩
      have HBT : Hid (Below uB.heap.size uB wT) := HBS1.out.trans (hbT.mono HBS1.out.size)
      have HCB := Lib.hid (count_any faB _ wT (HFB2.out.below HBT.out) HFB.out)
      rw [HCN.out] at HCB
      clear hbT
      go_wp2_with fail
      refine HCB.out.mono ?_
      rintro e wU ⟨rfl, hbU⟩
      have HBU9 : Hid (Below uB.heap.size uB wU) := HBT.out.trans (hbU.mono HBT.out.size)
      have heq := eq_ints (cnts (faA.map Fault.err)) (cnts_length _)
      clear hbU
      go_wp2_with fail
      go_ret
      exact ⟨by simp, HBWB.out.trans (HBU9.out.mono HBWB.out.size)⟩
end Go.Proofs.YtdhjibnkebbejaaDoor
