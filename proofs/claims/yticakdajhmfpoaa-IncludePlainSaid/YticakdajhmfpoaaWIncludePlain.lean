/-
  The walk of IncludePlain.
-/
import Derived.Test.YticakdajhmfpoaaIncLaws4
import Derived.Test.YticakdajhmfpoaaIncHead2
import Derived.Laws.StructEq
namespace Go.Proofs.Yticakdajhmfpoaa
open Go.RowKit Mem Vw Rs Ic
set_option linter.unusedVariables false
set_option linter.unusedSimpArgs false

theorem eq_civil0 (a0 : Int) (a1 : Int) (a2 : Int) (W : World) : (binOp .eql 23 (.agg #[.int .i64 a0, .int .i64 a1, .int .i64 a2]) (.agg #[.int .i64 a0, .int .i64 a1, .int .i64 a2])).run Try.prog W = .ok (.bool true) W := by
  go_simp
set_option maxRecDepth 100000 in
set_option maxHeartbeats 8000000 in
theorem walk_IncludePlain (s : Rs.Source) (l : List DT) (si : Value) (W : World) (hL : LayL All W l si) (hok : ∀ x ∈ l, DOk x) (hlen : l.length ≤ maxLen) :
    Calls Try.prog 3 #[.agg (scells s.name s.frm s.days si).toArray] W fun e w' => e = .returned (.bool true) ∧ Below W.heap.size W w' := by
  obtain ⟨A, cp, hsi, _, _⟩ := hL.slice
  subst hsi
  obtain ⟨w0, HW0⟩ : ∃ w0, Hid (W.alloc (.cells (scells s.name s.frm s.days (.slice A l.length cp)).toArray 26) = w0) := ⟨_, rfl⟩
  have HB0 : Hid (w0.heap[W.heap.size]? = some (.cells (scells s.name s.frm s.days (.slice A l.length cp)).toArray 26 (0, 0))) := by rw [← HW0.out]; exact blk_newn rfl
  have HF0 : Hid (Fr (fun _ => False) W w0) := by rw [← HW0.out]; exact (Fr.refl _ W).alloc _
  have HL0 : Hid (LayL All w0 l (.slice A l.length cp)) := hL.fr HF0.out (fun _ _ h => h)
  have HOK := Lib.hid hok; have HLEN := Lib.hid hlen
  clear hL hok hlen
  go_enter Try.func3, Try.ntmps3
  go_upto_region 1 with fail
  rw [HW0.out]
  clear HW0
  go_wp2_with fail
  refine (head_any _).mono ?_
  rintro e w1 ⟨rfl, hf1⟩
  have HF1 : Hid (Fr (fun _ => False) W w1) := HF0.out.trans hf1
  have HB1 : Hid (w1.heap[W.heap.size]? = some (.cells (scells s.name s.frm s.days (.slice A l.length cp)).toArray 26 (0, 0))) := hf1.blk HB0.out (fun h => h)
  have HL1 : Hid (LayL (fun g => g < w1.heap.size) w1 l (.slice A l.length cp)) := (HL0.out.fr hf1 (fun _ _ h => h)).mono (fun g hg _ => hg)
  clear hf1 HB0 HF0 HL0
  have k0 : w1.cell? ⟨W.heap.size, 0, none⟩ = some (.string ⟨s.name.toArray⟩) := (cell_of_blk HB1.out 0).trans rfl
  have k1 : w1.cell? ⟨W.heap.size, 1, none⟩ = some (.int .i64 s.frm.y) := (cell_of_blk HB1.out 1).trans rfl
  have k2 : w1.cell? ⟨W.heap.size, 2, none⟩ = some (.int .i64 s.frm.m) := (cell_of_blk HB1.out 2).trans rfl
  have k3 : w1.cell? ⟨W.heap.size, 3, none⟩ = some (.int .i64 s.frm.d) := (cell_of_blk HB1.out 3).trans rfl
  have k4 : w1.cell? ⟨W.heap.size, 4, none⟩ = some (.int .i64 s.days) := (cell_of_blk HB1.out 4).trans rfl
  have k5 : w1.cell? ⟨W.heap.size, 5, none⟩ = some (.slice A l.length cp) := (cell_of_blk HB1.out 5).trans rfl
  have HSM := Lib.hid (small_any s l _ 300 w1 HL1.out (by omega) (by omega))
  go_wp2_with fail
  refine HSM.out.mono ?_
  rintro e w2 ⟨b, rfl, hb, hf2⟩
  have HSB := Lib.hid hb
  have HF2 : Hid (Fr (fun _ => False) W w2) := HF1.out.trans hf2
  have HB2 : Hid (w2.heap[W.heap.size]? = some (.cells (scells s.name s.frm s.days (.slice A l.length cp)).toArray 26 (0, 0))) := hf2.blk HB1.out (fun h => h)
  have HL2 : Hid (LayL (fun g => g < w2.heap.size) w2 l (.slice A l.length cp)) := (HL1.out.fr hf2 (fun _ _ h => h)).mono (fun g hg _ => hg)
  clear hb hf2 HSM HB1 HL1 k0 k1 k2 k3 k4 k5
  cases b with
  | false =>
    go_wp2_with fail
    go_ret
    exact ⟨rfl, HF2.out.below (Nat.le_refl _) (fun _ h => h.elim)⟩
  | true =>
  have HSH : Hid (∀ x ∈ l, Sh x) := (HSB.out rfl).1
  have HCD : Hid (∀ z ∈ l, z.h.kind = 13 → ∀ y ∈ z.l, ∀ c ∈ y.h.conds, c.name.length ≤ 140737488355328) := fun z hz _ y hy c hc => ((HOK.out z hz).inner y hy).cond c hc
  have k0 : w2.cell? ⟨W.heap.size, 0, none⟩ = some (.string ⟨s.name.toArray⟩) := (cell_of_blk HB2.out 0).trans rfl
  have k1 : w2.cell? ⟨W.heap.size, 1, none⟩ = some (.int .i64 s.frm.y) := (cell_of_blk HB2.out 1).trans rfl
  have k2 : w2.cell? ⟨W.heap.size, 2, none⟩ = some (.int .i64 s.frm.m) := (cell_of_blk HB2.out 2).trans rfl
  have k3 : w2.cell? ⟨W.heap.size, 3, none⟩ = some (.int .i64 s.frm.d) := (cell_of_blk HB2.out 3).trans rfl
  have k4 : w2.cell? ⟨W.heap.size, 4, none⟩ = some (.int .i64 s.days) := (cell_of_blk HB2.out 4).trans rfl
  have k5 : w2.cell? ⟨W.heap.size, 5, none⟩ = some (.slice A l.length cp) := (cell_of_blk HB2.out 5).trans rfl
  have HEX := Lib.hid (expand_any s l _ w2 HL2.out HSH.out HCD.out)
  unfold ExpR at HEX
  obtain ⟨r1, hr1⟩ : ∃ r, (expand (srcT s l)).1 = r := ⟨_, rfl⟩
  obtain ⟨r2, hr2⟩ : ∃ r, (expand (srcT s l)).2 = r := ⟨_, rfl⟩
  have HR1 := Lib.hid hr1; have HR2 := Lib.hid hr2
  rw [hr1, hr2] at HEX
  clear hr1 hr2
  go_wp2_with fail
  refine HEX.out.mono ?_
  rintro e w3 ⟨iv, fv, ds, rfl, h1, h2, h3, h4⟩
  obtain ⟨Ai, ci, hiv, _, _⟩ := h2.slice
  subst hiv
  obtain ⟨Af, cf, hfv, _, _⟩ := h3.slice
  rw [List.length_map] at hfv
  subst hfv
  have HDS := Lib.hid h1
  have HF3 : Hid (Fr (fun _ => False) W w3) := HF2.out.trans h4
  have HLD3 : Hid (LayL All w3 ds (.slice Ai ds.length ci)) := h2.mono (fun _ _ _ => trivial)
  have HB3 : Hid (w3.heap[W.heap.size]? = some (.cells (scells s.name s.frm s.days (.slice A l.length cp)).toArray 26 (0, 0))) := h4.blk HB2.out (fun h => h)
  clear h1 h2 h3 h4 HEX k0 k1 k2 k3 k4 k5 HB2
  dsimp only
  iterate 13 go_step
  refine wpList_store_row rfl 26 _ _ rfl w3.heap.size (scells r1.name r1.frm r1.days (.slice Ai ds.length ci)).toArray rfl rfl 26 _ (blk_newn rfl) (info_src _ _ _ _) rfl (one_src _ _ _ _ _ _) ?_
  simp only [Act.put, List.setIfInBounds_toArray, List.set_cons_zero, List.set_cons_succ]
  rw [World.setRow_alloc_new]
  obtain ⟨w4, hn⟩ : ∃ u, w3.alloc (.cells (scells r1.name r1.frm r1.days (.slice Ai ds.length ci)).toArray 26) = u := ⟨_, rfl⟩
  rw [hn]
  have HFsw4 : Hid (Fr (fun _ => False) w3 w4) := by rw [← hn]; exact (Fr.refl _ w3).alloc _
  obtain ⟨ga, hblk⟩ : ∃ g, w3.heap.size = g := ⟨_, rfl⟩
  rw [hblk]
  have HBw4 : Hid (w4.heap[ga]? = some (.cells (scells r1.name r1.frm r1.days (.slice Ai ds.length ci)).toArray 26 (0, 0))) := by rw [← hn, ← hblk]; exact blk_newn rfl
  have HZw4 : Hid (w3.heap.size = ga) := hblk
  have HFw4 : Hid (Fr (fun _ => False) W w4) := HF3.out.trans HFsw4.out
  clear hn hblk
  have HB4 : Hid (w4.heap[W.heap.size]? = some (.cells (scells s.name s.frm s.days (.slice A l.length cp)).toArray 26 (0, 0))) := HFsw4.out.blk HB3.out (fun h => h)
  have HLD4 : Hid (LayL All w4 ds (.slice Ai ds.length ci)) := HLD3.out.fr HFsw4.out (fun _ _ h => h)
  clear HB3 HLD3
  have a0 : w4.cell? ⟨ga, 0, none⟩ = some (.string ⟨r1.name.toArray⟩) := (cell_of_blk HBw4.out 0).trans rfl
  have a1 : w4.cell? ⟨ga, 1, none⟩ = some (.int .i64 r1.frm.y) := (cell_of_blk HBw4.out 1).trans rfl
  have a2 : w4.cell? ⟨ga, 2, none⟩ = some (.int .i64 r1.frm.m) := (cell_of_blk HBw4.out 2).trans rfl
  have a3 : w4.cell? ⟨ga, 3, none⟩ = some (.int .i64 r1.frm.d) := (cell_of_blk HBw4.out 3).trans rfl
  have a4 : w4.cell? ⟨ga, 4, none⟩ = some (.int .i64 r1.days) := (cell_of_blk HBw4.out 4).trans rfl
  have a5 : w4.cell? ⟨ga, 5, none⟩ = some (.slice Ai ds.length ci) := (cell_of_blk HBw4.out 5).trans rfl
  by_cases hf : r2 = []
  case neg =>
    have i1 : (0 : Int) < (r2.length : Int) := by have := List.length_pos_iff.2 hf; omega
    have hz : r1 = zero := by rw [← HR1.out]; exact expand_zero _ (by rw [HR2.out]; exact hf)
    subst hz
    obtain rfl : ds = [] := List.map_eq_nil_iff.1 HDS.out
    have a0 : w4.cell? ⟨ga, 0, none⟩ = some (.string ⟨#[]⟩) := (cell_of_blk HBw4.out 0).trans rfl
    have a5 : w4.cell? ⟨ga, 5, none⟩ = some (.slice Ai 0 ci) := (cell_of_blk HBw4.out 5).trans rfl
    clear hf
    go_wp2_with fail
    go_ret
    exact ⟨rfl, HFw4.out.below (Nat.le_refl _) (fun _ h => h.elim)⟩
  subst hf
  have hlaw := law_plain HR2.out
  rw [HR1.out] at hlaw
  obtain ⟨hn, hfr, hdy, hgood, hlen6, hagain⟩ := hlaw
  have hsz : sizes r1.items ≤ 360600 := by rw [← HR1.out]; exact expand_size HR2.out
  have hdl : ds.length = r1.items.length := by rw [← HDS.out, List.length_map]
  have HGOOD : Hid (∀ x ∈ ds, Ic.Good x.tree) := fun x hx => hgood _ (by rw [← HDS.out]; exact List.mem_map_of_mem hx)
  have HD6 : Hid (ds.length ≤ 600) := by show _ ≤ _; omega
  have HTS : Hid (tsz ds = sizes r1.items) := by show _ = _; rw [← HDS.out, ← trees_map]; rfl
  have HX2 : Hid (sizes r1.items ≤ 600 → expand (srcT ⟨r1.name, r1.frm, r1.days, []⟩ ds) = (r1, [])) := by
    intro h
    have h2 := hagain h
    have h3 : srcT ⟨r1.name, r1.frm, r1.days, []⟩ ds = r1 := by unfold srcT; rw [HDS.out]
    rw [h3]
    exact h2
  have HSZ := Lib.hid hsz
  have HNM : Hid (r1.name = s.name ∧ r1.frm = s.frm ∧ r1.days = s.days) := ⟨hn, hfr, hdy⟩
  clear hn hfr hdy hgood hlen6 hagain hsz hdl a0 a1 a2 a3 a4
  have hdz : ds.length ≤ 9223372036854775807 := by have := HD6.out; omega
  go_wp2_with fail
  go_loopw [6] (fun i wr => ∃ k : Nat, i = .int .i64 k ∧ k ≤ ds.length ∧ Hid (Fr (fun _ => False) w4 wr)) (fun i _ => ds.length - (intOf i).toNat)
  case atStart => exact ⟨0, rfl, Nat.zero_le _, Fr.refl _ _⟩
  case round =>
    clear a5
    obtain ⟨k, rfl, hk, HFr⟩ := hrel
    have i1 : (0 : Int) ≤ (k : Int) := Int.natCast_nonneg _
    have HBr : Hid (wr.heap[ga]? = some (.cells (scells r1.name r1.frm r1.days (.slice Ai ds.length ci)).toArray 26 (0, 0))) := HFr.out.blk HBw4.out (fun h => h)
    have b0 : wr.cell? ⟨ga, 0, none⟩ = some (.string ⟨r1.name.toArray⟩) := (cell_of_blk HBr.out 0).trans rfl
    have b1 : wr.cell? ⟨ga, 1, none⟩ = some (.int .i64 r1.frm.y) := (cell_of_blk HBr.out 1).trans rfl
    have b2 : wr.cell? ⟨ga, 2, none⟩ = some (.int .i64 r1.frm.m) := (cell_of_blk HBr.out 2).trans rfl
    have b3 : wr.cell? ⟨ga, 3, none⟩ = some (.int .i64 r1.frm.d) := (cell_of_blk HBr.out 3).trans rfl
    have b4 : wr.cell? ⟨ga, 4, none⟩ = some (.int .i64 r1.days) := (cell_of_blk HBr.out 4).trans rfl
    have b5 : wr.cell? ⟨ga, 5, none⟩ = some (.slice Ai ds.length ci) := (cell_of_blk HBr.out 5).trans rfl
    by_cases hlt : k < ds.length
    · have i2 : (k : Int) < (ds.length : Int) := by omega
      obtain ⟨x, hx⟩ : ∃ x, ds[k]? = some x := ⟨_, List.getElem?_eq_getElem hlt⟩
      have HLr : Hid (LayL All wr ds (.slice Ai ds.length ci)) := HLD4.out.fr HFr.out (fun _ _ h => h)
      obtain ⟨g, o, hA, hg, _, hat⟩ := HLr.out.at hx
      subst hA
      have HAT := Lib.hid hat
      have HLX : Hid (Lay All wr x) := HLr.out.lay x (List.mem_of_getElem? hx)
      have HGX := HGOOD.out x (List.mem_of_getElem? hx)
      unfold Ic.Good at HGX
      rw [DT.tree_h] at HGX
      obtain ⟨g1, g2, g3⟩ := HGX
      have HLT := Lib.hid hlt
      have HG1 := Lib.hid g1; have HG3 := Lib.hid g3
      have q14 : (x.h.kind == 14) = false := by simpa using g2
      clear hat hg hx hlt g1 g2 g3
      go_upto_region 10 with fail
      iterate 13 go_step
      refine wpList_load_mid rfl 41 _ rfl g (o + k * 33) rfl x.cells _ HAT.out Try.underlying41 rfl (info_itl x) ?_
      simp only [Act.put, List.setIfInBounds_toArray, List.set_cons_zero, List.set_cons_succ]
      iterate 3 go_step
      refine wpList_store_row rfl 41 _ _ rfl wr.heap.size x.cells.toArray rfl rfl 41 _ (blk_newn rfl) (info_it x) (cells_size x).symm HLX.out.one ?_
      simp only [Act.put, List.setIfInBounds_toArray, List.set_cons_zero, List.set_cons_succ]
      rw [World.setRow_alloc_new]
      obtain ⟨u, hu⟩ : ∃ u, wr.alloc (.cells x.cells.toArray 41) = u := ⟨_, rfl⟩
      rw [hu]
      have HYB : Hid (u.heap[wr.heap.size]? = some (.cells x.cells.toArray 41 (0, 0))) := by rw [← hu]; exact blk_newn rfl
      have HFU : Hid (Fr (fun _ => False) w4 u) := by rw [← hu]; exact HFr.out.alloc _
      have c0 : u.cell? ⟨wr.heap.size, 0, none⟩ = some (.int .i64 x.h.kind) := by rw [cell_of_blk HYB.out, DT.cells_eq]; rfl
      have HCD := Lib.hid (rDefines_any x.h.kind u)
      rw [HG1.out] at HCD
      have HCC := Lib.hid (rClause_any x.h.kind u)
      clear hu b0 b1 b2 b3 b4 b5
      cases hc : isClause x.h.kind with
      | false =>
        rw [hc] at HCC
        go_wp2_with fail
        refine HCD.out.mono ?_
        rintro e wq ⟨rfl, hwq⟩
        have hwq := hwq.symm
        subst hwq
        clear HCD
        go_wp2_with fail
        refine HCC.out.mono ?_
        rintro e wq ⟨rfl, hwq⟩
        have hwq := hwq.symm
        subst hwq
        go_wp2_with fail
        go_roundw
        case rel => exact ⟨_, _, _, _, _, _, _, _, _, _, _, _, _, _, _, _, _, _, _, _, _, _, _, _, _, _, _, _, _, _, _, _, _, _, _, _, _, _, _, _, _, _, _, _, _, ⟨k + 1, by go_num, HLT.out, HFU⟩, rfl⟩
        case measure => have := HLT.out; simp [intOf]; omega
      | true =>
        rw [hc] at HCC
        have hp := HG3.out hc
        have c9 : u.cell? ⟨wr.heap.size, 9, none⟩ = some (.string ⟨#[]⟩) := by rw [cell_of_blk HYB.out, DT.cells_eq]; show some (sv x.h.within.name) = _; rw [hp.1]; rfl
        have c12 : u.cell? ⟨wr.heap.size, 12, none⟩ = some (.string ⟨#[]⟩) := by rw [cell_of_blk HYB.out, DT.cells_eq]; show some (sv x.h.grace.name) = _; rw [hp.2.1]; rfl
        have c19 : u.cell? ⟨wr.heap.size, 19, none⟩ = some (.string ⟨#[]⟩) := by rw [cell_of_blk HYB.out, DT.cells_eq]; show some (sv x.h.sum) = _; rw [hp.2.2]; rfl
        clear hp hc
        go_wp2_with fail
        refine HCD.out.mono ?_
        rintro e wq ⟨rfl, hwq⟩
        have hwq := hwq.symm
        subst hwq
        clear HCD
        go_wp2_with fail
        refine HCC.out.mono ?_
        rintro e wq ⟨rfl, hwq⟩
        have hwq := hwq.symm
        subst hwq
        go_wp2_with fail
        go_roundw
        case rel => exact ⟨_, _, _, _, _, _, _, _, _, _, _, _, _, _, _, _, _, _, _, _, _, _, _, _, _, _, _, _, _, _, _, _, _, _, _, _, _, _, _, _, _, _, _, _, _, ⟨k + 1, by go_num, HLT.out, HFU⟩, rfl⟩
        case measure => have := HLT.out; simp [intOf]; omega
    · obtain rfl : k = ds.length := by omega
      clear hk i1
      have HLr : Hid (LayL (fun g => g < wr.heap.size) wr ds (.slice Ai ds.length ci)) := (HLD4.out.fr HFr.out (fun _ _ h => h)).mono (fun g hg _ => hg)
      have HSr : Hid (wr.heap[W.heap.size]? = some (.cells (scells s.name s.frm s.days (.slice A l.length cp)).toArray 26 (0, 0))) := HFr.out.blk HB4.out (fun h => h)
      have HFR : Hid (Fr (fun _ => False) W wr) := HFw4.out.trans HFr.out
      have HSM := Lib.hid (small_any ⟨r1.name, r1.frm, r1.days, []⟩ ds _ 600 wr HLr.out (by omega) (by omega))
      go_wp2_with fail
      refine HSM.out.mono ?_
      rintro e w5 ⟨b, rfl, hb, hf5⟩
      have HSB2 := Lib.hid hb
      have HF5 := Lib.hid hf5
      have HB5 : Hid (w5.heap[ga]? = some (.cells (scells r1.name r1.frm r1.days (.slice Ai ds.length ci)).toArray 26 (0, 0))) := hf5.blk HBr.out (fun h => h)
      clear hb hf5 HSM b0 b1 b2 b3 b4 b5
      have k0 : w5.cell? ⟨ga, 0, none⟩ = some (.string ⟨r1.name.toArray⟩) := (cell_of_blk HB5.out 0).trans rfl
      have k1 : w5.cell? ⟨ga, 1, none⟩ = some (.int .i64 r1.frm.y) := (cell_of_blk HB5.out 1).trans rfl
      have k2 : w5.cell? ⟨ga, 2, none⟩ = some (.int .i64 r1.frm.m) := (cell_of_blk HB5.out 2).trans rfl
      have k3 : w5.cell? ⟨ga, 3, none⟩ = some (.int .i64 r1.frm.d) := (cell_of_blk HB5.out 3).trans rfl
      have k4 : w5.cell? ⟨ga, 4, none⟩ = some (.int .i64 r1.days) := (cell_of_blk HB5.out 4).trans rfl
      have k5 : w5.cell? ⟨ga, 5, none⟩ = some (.slice Ai ds.length ci) := (cell_of_blk HB5.out 5).trans rfl
      have e600 : (ds.length : Int) ≤ 600 := by have := HD6.out; omega
      cases b with
      | false =>
        go_wp2_with fail
        go_ret
        exact ⟨rfl, (HFR.out.trans HF5.out).below (Nat.le_refl _) (fun _ h => h.elim)⟩
      | true =>
      have hz2 : sizes r1.items ≤ 600 := by
        have h1 := (HSB2.out rfl).2 (by rw [HTS.out]; have := HSZ.out; omega)
        rw [HTS.out] at h1
        omega
      have HL5 : Hid (LayL (fun g => g < w5.heap.size) w5 ds (.slice Ai ds.length ci)) := (HLr.out.fr HF5.out (fun _ _ h => h)).mono (fun g hg _ => hg)
      have HEX2 := Lib.hid (expand_any ⟨r1.name, r1.frm, r1.days, []⟩ ds _ w5 HL5.out (HSB2.out rfl).1 (fun z hz hk => by
        have h := (HGOOD.out z hz).1
        rw [DT.tree_h, hk] at h
        cases h))
      unfold ExpR at HEX2
      rw [HX2.out hz2] at HEX2
      clear hz2
      go_wp2_with fail
      refine HEX2.out.mono ?_
      rintro e w6 ⟨iv2, fv2, ds2, rfl, h1, h2, h3, h4⟩
      obtain ⟨Aj, cj, hiv, _, _⟩ := h2.slice
      subst hiv
      obtain ⟨Ah, ch, hfv, _, _⟩ := h3.slice
      have hfv : fv2 = .slice Ah 0 ch := hfv
      subst hfv
      have HDS2 : Hid (ds.map DT.tree = ds2.map DT.tree) := by show _ = _; rw [HDS.out, h1]
      have HF6 : Hid (Fr (fun _ => False) W w6) := HFR.out.trans (HF5.out.trans h4)
      have HLD6 : Hid (LayL All w6 ds2 (.slice Aj ds2.length cj)) := h2.mono (fun _ _ _ => trivial)
      clear h1 h2 h3 HEX2 k0 k1 k2 k3 k4 k5
      have HF46 := Lib.hid h4
      clear h4
      dsimp only
      iterate 13 go_step
      refine wpList_store_row rfl 26 _ _ rfl w6.heap.size (scells r1.name r1.frm r1.days (.slice Aj ds2.length cj)).toArray rfl rfl 26 _ (blk_newn rfl) (info_src _ _ _ _) rfl (one_src _ _ _ _ _ _) ?_
      simp only [Act.put, List.setIfInBounds_toArray, List.set_cons_zero, List.set_cons_succ]
      rw [World.setRow_alloc_new]
      obtain ⟨w7, hn⟩ : ∃ u, w6.alloc (.cells (scells r1.name r1.frm r1.days (.slice Aj ds2.length cj)).toArray 26) = u := ⟨_, rfl⟩
      rw [hn]
      have HFsw7 : Hid (Fr (fun _ => False) w6 w7) := by rw [← hn]; exact (Fr.refl _ w6).alloc _
      obtain ⟨gb, hblk⟩ : ∃ g, w6.heap.size = g := ⟨_, rfl⟩
      rw [hblk]
      have HBw7 : Hid (w7.heap[gb]? = some (.cells (scells r1.name r1.frm r1.days (.slice Aj ds2.length cj)).toArray 26 (0, 0))) := by rw [← hn, ← hblk]; exact blk_newn rfl
      have HZw7 : Hid (w6.heap.size = gb) := hblk
      have HFw7 : Hid (Fr (fun _ => False) W w7) := HF6.out.trans HFsw7.out
      clear hn hblk
      have HFW7 : Hid (Fr (fun _ => False) wr w7) := (HF5.out.trans HF46.out).trans HFsw7.out
      have HB7 : Hid (w7.heap[ga]? = some (.cells (scells r1.name r1.frm r1.days (.slice Ai ds.length ci)).toArray 26 (0, 0))) := HFW7.out.blk HBr.out (fun h => h)
      have HS7 : Hid (w7.heap[W.heap.size]? = some (.cells (scells s.name s.frm s.days (.slice A l.length cp)).toArray 26 (0, 0))) := HFW7.out.blk HSr.out (fun h => h)
      have HLA7 : Hid (LayL All w7 ds (.slice Ai ds.length ci)) := (HLr.out.fr HFW7.out (fun _ _ h => h)).mono (fun _ _ _ => trivial)
      have HLB7 : Hid (LayL All w7 ds2 (.slice Aj ds2.length cj)) := HLD6.out.fr HFsw7.out (fun _ _ h => h)
      have a0 : w7.cell? ⟨ga, 0, none⟩ = some (.string ⟨r1.name.toArray⟩) := (cell_of_blk HB7.out 0).trans rfl
      have a1 : w7.cell? ⟨ga, 1, none⟩ = some (.int .i64 r1.frm.y) := (cell_of_blk HB7.out 1).trans rfl
      have a2 : w7.cell? ⟨ga, 2, none⟩ = some (.int .i64 r1.frm.m) := (cell_of_blk HB7.out 2).trans rfl
      have a3 : w7.cell? ⟨ga, 3, none⟩ = some (.int .i64 r1.frm.d) := (cell_of_blk HB7.out 3).trans rfl
      have a4 : w7.cell? ⟨ga, 4, none⟩ = some (.int .i64 r1.days) := (cell_of_blk HB7.out 4).trans rfl
      have a5 : w7.cell? ⟨ga, 5, none⟩ = some (.slice Ai ds.length ci) := (cell_of_blk HB7.out 5).trans rfl
      have b0 : w7.cell? ⟨gb, 0, none⟩ = some (.string ⟨r1.name.toArray⟩) := (cell_of_blk HBw7.out 0).trans rfl
      have b1 : w7.cell? ⟨gb, 1, none⟩ = some (.int .i64 r1.frm.y) := (cell_of_blk HBw7.out 1).trans rfl
      have b2 : w7.cell? ⟨gb, 2, none⟩ = some (.int .i64 r1.frm.m) := (cell_of_blk HBw7.out 2).trans rfl
      have b3 : w7.cell? ⟨gb, 3, none⟩ = some (.int .i64 r1.frm.d) := (cell_of_blk HBw7.out 3).trans rfl
      have b4 : w7.cell? ⟨gb, 4, none⟩ = some (.int .i64 r1.days) := (cell_of_blk HBw7.out 4).trans rfl
      have b5 : w7.cell? ⟨gb, 5, none⟩ = some (.slice Aj ds2.length cj) := (cell_of_blk HBw7.out 5).trans rfl
      have HSA := Lib.hid (same_true ⟨r1.name, r1.frm, r1.days, []⟩ ds ds2 _ _ w7 All All HDS2.out HLA7.out HLB7.out)
      go_wp2_with fail
      refine HSA.out.mono ?_
      rintro e w8 ⟨rfl, hf8⟩
      have HB8 : Hid (w8.heap[ga]? = some (.cells (scells r1.name r1.frm r1.days (.slice Ai ds.length ci)).toArray 26 (0, 0))) := hf8.blk HB7.out (fun h => h)
      have HS8 : Hid (w8.heap[W.heap.size]? = some (.cells (scells s.name s.frm s.days (.slice A l.length cp)).toArray 26 (0, 0))) := hf8.blk HS7.out (fun h => h)
      have HFZ := Lib.hid ((HFR.out.trans HFW7.out).trans hf8)
      clear hf8 a0 a1 a2 a3 a4 a5 b0 b1 b2 b3 b4 b5
      rw [HNM.out.1, HNM.out.2.1, HNM.out.2.2] at HB8
      have a0 : w8.cell? ⟨ga, 0, none⟩ = some (.string ⟨s.name.toArray⟩) := (cell_of_blk HB8.out 0).trans rfl
      have a1 : w8.cell? ⟨ga, 1, none⟩ = some (.int .i64 s.frm.y) := (cell_of_blk HB8.out 1).trans rfl
      have a2 : w8.cell? ⟨ga, 2, none⟩ = some (.int .i64 s.frm.m) := (cell_of_blk HB8.out 2).trans rfl
      have a3 : w8.cell? ⟨ga, 3, none⟩ = some (.int .i64 s.frm.d) := (cell_of_blk HB8.out 3).trans rfl
      have a4 : w8.cell? ⟨ga, 4, none⟩ = some (.int .i64 s.days) := (cell_of_blk HB8.out 4).trans rfl
      have a5 : w8.cell? ⟨ga, 5, none⟩ = some (.slice Ai ds.length ci) := (cell_of_blk HB8.out 5).trans rfl
      have k0 : w8.cell? ⟨W.heap.size, 0, none⟩ = some (.string ⟨s.name.toArray⟩) := (cell_of_blk HS8.out 0).trans rfl
      have k1 : w8.cell? ⟨W.heap.size, 1, none⟩ = some (.int .i64 s.frm.y) := (cell_of_blk HS8.out 1).trans rfl
      have k2 : w8.cell? ⟨W.heap.size, 2, none⟩ = some (.int .i64 s.frm.m) := (cell_of_blk HS8.out 2).trans rfl
      have k3 : w8.cell? ⟨W.heap.size, 3, none⟩ = some (.int .i64 s.frm.d) := (cell_of_blk HS8.out 3).trans rfl
      have k4 : w8.cell? ⟨W.heap.size, 4, none⟩ = some (.int .i64 s.days) := (cell_of_blk HS8.out 4).trans rfl
      have k5 : w8.cell? ⟨W.heap.size, 5, none⟩ = some (.slice A l.length cp) := (cell_of_blk HS8.out 5).trans rfl
      have n1 := eq_civil0 s.frm.y s.frm.m s.frm.d
      go_wp2_with fail
      go_ret
      exact ⟨rfl, HFZ.out.below (Nat.le_refl _) (fun _ h => h.elim)⟩
end Go.Proofs.Yticakdajhmfpoaa
