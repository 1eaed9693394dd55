/-
  The walk of IncludeLater.
-/
import Derived.Test.YticakdajhmfpoaaIncLaws4
import Derived.Test.YticakdajhmfpoaaIncLater
import Derived.Test.YticakdajhmfpoaaIncHead2
import Derived.Laws.StructEq
namespace Go.Proofs.Yticakdajhmfpoaa
open Go.RowKit Mem Vw Rs Ic
set_option linter.unusedVariables false
set_option linter.unusedSimpArgs false

set_option maxRecDepth 100000 in
set_option maxHeartbeats 8000000 in
theorem walk_IncludeLater (s : Rs.Source) (l : List DT) (si : Value) (W : World) (hL : LayL All W l si) (hok : ∀ x ∈ l, DOk x) (hlen : l.length * 368 ≤ 140737488355327) :
    Calls Try.prog 4 #[.agg (scells s.name s.frm s.days si).toArray] W fun e w' => e = .returned (.bool true) ∧ Below W.heap.size W w' := by
  obtain ⟨A, cp, hsi, _, _⟩ := hL.slice
  subst hsi
  obtain ⟨w0, HW0⟩ : ∃ w0, Hid (W.alloc (.cells (scells s.name s.frm s.days (.slice A l.length cp)).toArray 26) = w0) := ⟨_, rfl⟩
  have HB0 : Hid (w0.heap[W.heap.size]? = some (.cells (scells s.name s.frm s.days (.slice A l.length cp)).toArray 26 (0, 0))) := by rw [← HW0.out]; exact blk_newn rfl
  have HF0 : Hid (Fr (fun _ => False) W w0) := by rw [← HW0.out]; exact (Fr.refl _ W).alloc _
  have HL0 : Hid (LayL All w0 l (.slice A l.length cp)) := hL.fr HF0.out (fun _ _ h => h)
  have HOK := Lib.hid hok; have HLEN := Lib.hid hlen
  clear hL hok hlen
  go_enter Try.func4, Try.ntmps4
  go_upto_region 1 with fail
  rw [HW0.out]
  clear HW0
  go_wp2_with fail
  refine (head_any _).mono ?_
  rintro e w1 ⟨rfl, hf1⟩
  have HF1 : Hid (Fr (fun _ => False) W w1) := HF0.out.trans hf1
  have HB1 : Hid (w1.heap[W.heap.size]? = some (.cells (scells s.name s.frm s.days (.slice A l.length cp)).toArray 26 (0, 0))) := hf1.blk HB0.out (fun h => h)
  have HL1 : Hid (LayL (fun g => g < w1.heap.size) w1 l (.slice A l.length cp)) := (HL0.out.fr hf1 (fun _ _ h => h)).mono (fun g hg _ => hg)
  clear hf1 HB0 HF0 HL0
  have k0 : w1.cell? ⟨W.heap.size, 0, none⟩ = some (.string ⟨s.name.toArray⟩) := (cell_of_blk HB1.out 0).trans rfl
  have k1 : w1.cell? ⟨W.heap.size, 1, none⟩ = some (.int .i64 s.frm.y) := (cell_of_blk HB1.out 1).trans rfl
  have k2 : w1.cell? ⟨W.heap.size, 2, none⟩ = some (.int .i64 s.frm.m) := (cell_of_blk HB1.out 2).trans rfl
  have k3 : w1.cell? ⟨W.heap.size, 3, none⟩ = some (.int .i64 s.frm.d) := (cell_of_blk HB1.out 3).trans rfl
  have k4 : w1.cell? ⟨W.heap.size, 4, none⟩ = some (.int .i64 s.days) := (cell_of_blk HB1.out 4).trans rfl
  have k5 : w1.cell? ⟨W.heap.size, 5, none⟩ = some (.slice A l.length cp) := (cell_of_blk HB1.out 5).trans rfl
  have HSM := Lib.hid (small_any s l _ 300 w1 HL1.out (by omega) (by omega))
  go_wp2_with fail
  refine HSM.out.mono ?_
  rintro e w2 ⟨b, rfl, hb, hf2⟩
  have HSB := Lib.hid hb
  have HF2 : Hid (Fr (fun _ => False) W w2) := HF1.out.trans hf2
  have HB2 : Hid (w2.heap[W.heap.size]? = some (.cells (scells s.name s.frm s.days (.slice A l.length cp)).toArray 26 (0, 0))) := hf2.blk HB1.out (fun h => h)
  have HL2 : Hid (LayL (fun g => g < w2.heap.size) w2 l (.slice A l.length cp)) := (HL1.out.fr hf2 (fun _ _ h => h)).mono (fun g hg _ => hg)
  clear hb hf2 HSM HB1 HL1 k0 k1 k2 k3 k4 k5
  cases b with
  | false =>
    go_wp2_with fail
    go_ret
    exact ⟨rfl, HF2.out.below (Nat.le_refl _) (fun _ h => h.elim)⟩
  | true =>
  have HSH : Hid (∀ x ∈ l, Sh x) := (HSB.out rfl).1
  have HCD : Hid (∀ z ∈ l, z.h.kind = 13 → ∀ y ∈ z.l, ∀ c ∈ y.h.conds, c.name.length ≤ 140737488355328) := fun z hz _ y hy c hc => ((HOK.out z hz).inner y hy).cond c hc
  have k0 : w2.cell? ⟨W.heap.size, 0, none⟩ = some (.string ⟨s.name.toArray⟩) := (cell_of_blk HB2.out 0).trans rfl
  have k1 : w2.cell? ⟨W.heap.size, 1, none⟩ = some (.int .i64 s.frm.y) := (cell_of_blk HB2.out 1).trans rfl
  have k2 : w2.cell? ⟨W.heap.size, 2, none⟩ = some (.int .i64 s.frm.m) := (cell_of_blk HB2.out 2).trans rfl
  have k3 : w2.cell? ⟨W.heap.size, 3, none⟩ = some (.int .i64 s.frm.d) := (cell_of_blk HB2.out 3).trans rfl
  have k4 : w2.cell? ⟨W.heap.size, 4, none⟩ = some (.int .i64 s.days) := (cell_of_blk HB2.out 4).trans rfl
  have k5 : w2.cell? ⟨W.heap.size, 5, none⟩ = some (.slice A l.length cp) := (cell_of_blk HB2.out 5).trans rfl
  have HEX := Lib.hid (expand_any s l _ w2 HL2.out HSH.out HCD.out)
  unfold ExpR at HEX
  obtain ⟨r1, hr1⟩ : ∃ r, (expand (srcT s l)).1 = r := ⟨_, rfl⟩
  obtain ⟨r2, hr2⟩ : ∃ r, (expand (srcT s l)).2 = r := ⟨_, rfl⟩
  have HRr1 := Lib.hid hr1; have HRr2 := Lib.hid hr2
  rw [hr1, hr2] at HEX
  clear hr1 hr2
  go_wp2_with fail
  refine HEX.out.mono ?_
  rintro e w3 ⟨iv, fv, ds, rfl, h1, h2, h3, h4⟩
  obtain ⟨Ads, cds, hiv, _, _⟩ := h2.slice
  subst hiv
  obtain ⟨Ar2, cr2, hfv, _, _⟩ := h3.slice
  rw [List.length_map] at hfv
  subst hfv
  have HDds := Lib.hid h1
  have HFew3 : Hid (Fr (fun _ => False) w2 w3) := h4
  have HFw3 : Hid (Fr (fun _ => False) W w3) := HF2.out.trans h4
  have HLds : Hid (LayL All w3 ds (.slice Ads ds.length cds)) := h2.mono (fun _ _ _ => trivial)
  have HTr2 : Hid (RowB All w3 (.slice Ar2 r2.length cr2) 2 (r2.map faultc)) := h3.mono (fun _ _ _ => trivial)
  clear h1 h2 h3 h4 HEX
  dsimp only
  iterate 13 go_step
  refine wpList_store_row rfl 26 _ _ rfl w3.heap.size (scells r1.name r1.frm r1.days (.slice Ads ds.length cds)).toArray rfl rfl 26 _ (blk_newn rfl) (info_src _ _ _ _) rfl (one_src _ _ _ _ _ _) ?_
  simp only [Act.put, List.setIfInBounds_toArray, List.set_cons_zero, List.set_cons_succ]
  rw [World.setRow_alloc_new]
  obtain ⟨w4, hn⟩ : ∃ u, w3.alloc (.cells (scells r1.name r1.frm r1.days (.slice Ads ds.length cds)).toArray 26) = u := ⟨_, rfl⟩
  rw [hn]
  have HFsw4 : Hid (Fr (fun _ => False) w3 w4) := by rw [← hn]; exact (Fr.refl _ w3).alloc _
  obtain ⟨ga, hblk⟩ : ∃ g, w3.heap.size = g := ⟨_, rfl⟩
  rw [hblk]
  have HBw4 : Hid (w4.heap[ga]? = some (.cells (scells r1.name r1.frm r1.days (.slice Ads ds.length cds)).toArray 26 (0, 0))) := by rw [← hn, ← hblk]; exact blk_newn rfl
  have HZw4 : Hid (w3.heap.size = ga) := hblk
  have HFw4 : Hid (Fr (fun _ => False) W w4) := HFw3.out.trans HFsw4.out
  clear hn hblk
  have HB4 : Hid (w4.heap[W.heap.size]? = some (.cells (scells s.name s.frm s.days (.slice A l.length cp)).toArray 26 (0, 0))) := HFsw4.out.blk (HFew3.out.blk HB2.out (fun h => h)) (fun h => h)
  have HL4 : Hid (LayL (fun g => g < w4.heap.size) w4 l (.slice A l.length cp)) := ((HL2.out.fr HFew3.out (fun _ _ h => h)).fr HFsw4.out (fun _ _ h => h)).mono (fun g hg _ => hg)
  clear k0 k1 k2 k3 k4 k5 HB2
  have k0 : w4.cell? ⟨W.heap.size, 0, none⟩ = some (.string ⟨s.name.toArray⟩) := (cell_of_blk HB4.out 0).trans rfl
  have k1 : w4.cell? ⟨W.heap.size, 1, none⟩ = some (.int .i64 s.frm.y) := (cell_of_blk HB4.out 1).trans rfl
  have k2 : w4.cell? ⟨W.heap.size, 2, none⟩ = some (.int .i64 s.frm.m) := (cell_of_blk HB4.out 2).trans rfl
  have k3 : w4.cell? ⟨W.heap.size, 3, none⟩ = some (.int .i64 s.frm.d) := (cell_of_blk HB4.out 3).trans rfl
  have k4 : w4.cell? ⟨W.heap.size, 4, none⟩ = some (.int .i64 s.days) := (cell_of_blk HB4.out 4).trans rfl
  have k5 : w4.cell? ⟨W.heap.size, 5, none⟩ = some (.slice A l.length cp) := (cell_of_blk HB4.out 5).trans rfl
  have HLT := Lib.hid (later_any s l _ w4 HL4.out HLEN.out)
  go_wp2_with fail
  refine HLT.out.mono ?_
  rintro e w5 ⟨iv5, rfl, hl5, hf5⟩
  obtain ⟨A5, c5, hiv, _, _⟩ := hl5.slice
  subst hiv
  have HL5 := Lib.hid hl5
  have HFe5 := Lib.hid hf5
  have HF5 : Hid (Fr (fun _ => False) W w5) := HFw4.out.trans hf5
  have HB5 : Hid (w5.heap[ga]? = some (.cells (scells r1.name r1.frm r1.days (.slice Ads ds.length cds)).toArray 26 (0, 0))) := hf5.blk HBw4.out (fun h => h)
  have HLA5 : Hid (LayL All w5 ds (.slice Ads ds.length cds)) := (HLds.out.fr HFsw4.out (fun _ _ h => h)).fr hf5 (fun _ _ h => h)
  clear hl5 hf5 HLT k0 k1 k2 k3 k4 k5
  have HEX := Lib.hid (expand_any s (laterL l) _ w5 HL5.out (fun x hx => HSH.out x (later_mem hx)) (fun x hx => HCD.out x (later_mem hx)))
  unfold ExpR at HEX
  obtain ⟨q1, hr1⟩ : ∃ r, (expand (srcT s (laterL l))).1 = r := ⟨_, rfl⟩
  obtain ⟨q2, hr2⟩ : ∃ r, (expand (srcT s (laterL l))).2 = r := ⟨_, rfl⟩
  have HRq1 := Lib.hid hr1; have HRq2 := Lib.hid hr2
  rw [hr1, hr2] at HEX
  clear hr1 hr2
  go_wp2_with fail
  refine HEX.out.mono ?_
  rintro e w6 ⟨iv, fv, es, rfl, h1, h2, h3, h4⟩
  obtain ⟨Aes, ces, hiv, _, _⟩ := h2.slice
  subst hiv
  obtain ⟨Aq2, cq2, hfv, _, _⟩ := h3.slice
  rw [List.length_map] at hfv
  subst hfv
  have HDes := Lib.hid h1
  have HFew6 : Hid (Fr (fun _ => False) w5 w6) := h4
  have HFw6 : Hid (Fr (fun _ => False) W w6) := HF5.out.trans h4
  have HLes : Hid (LayL All w6 es (.slice Aes es.length ces)) := h2.mono (fun _ _ _ => trivial)
  have HTq2 : Hid (RowB All w6 (.slice Aq2 q2.length cq2) 2 (q2.map faultc)) := h3.mono (fun _ _ _ => trivial)
  clear h1 h2 h3 h4 HEX
  dsimp only
  iterate 13 go_step
  refine wpList_store_row rfl 26 _ _ rfl w6.heap.size (scells q1.name q1.frm q1.days (.slice Aes es.length ces)).toArray rfl rfl 26 _ (blk_newn rfl) (info_src _ _ _ _) rfl (one_src _ _ _ _ _ _) ?_
  simp only [Act.put, List.setIfInBounds_toArray, List.set_cons_zero, List.set_cons_succ]
  rw [World.setRow_alloc_new]
  obtain ⟨w7, hn⟩ : ∃ u, w6.alloc (.cells (scells q1.name q1.frm q1.days (.slice Aes es.length ces)).toArray 26) = u := ⟨_, rfl⟩
  rw [hn]
  have HFsw7 : Hid (Fr (fun _ => False) w6 w7) := by rw [← hn]; exact (Fr.refl _ w6).alloc _
  obtain ⟨gb, hblk⟩ : ∃ g, w6.heap.size = g := ⟨_, rfl⟩
  rw [hblk]
  have HBw7 : Hid (w7.heap[gb]? = some (.cells (scells q1.name q1.frm q1.days (.slice Aes es.length ces)).toArray 26 (0, 0))) := by rw [← hn, ← hblk]; exact blk_newn rfl
  have HZw7 : Hid (w6.heap.size = gb) := hblk
  have HFw7 : Hid (Fr (fun _ => False) W w7) := HFw6.out.trans HFsw7.out
  clear hn hblk
  have HB7 : Hid (w7.heap[ga]? = some (.cells (scells r1.name r1.frm r1.days (.slice Ads ds.length cds)).toArray 26 (0, 0))) := HFsw7.out.blk (HFew6.out.blk HB5.out (fun h => h)) (fun h => h)
  have HLA7 : Hid (LayL All w7 ds (.slice Ads ds.length cds)) := (HLA5.out.fr HFew6.out (fun _ _ h => h)).fr HFsw7.out (fun _ _ h => h)
  have HLB7 : Hid (LayL All w7 es (.slice Aes es.length ces)) := HLes.out.fr HFsw7.out (fun _ _ h => h)
  have hlaw := law_later (srcT s l)
  rw [← later_tree, HRr2.out, HRq2.out] at hlaw
  by_cases hf : r2 = []
  · have hg := hlaw.1.1 hf
    have he := hlaw.2 hf
    have HQ : Hid (q1 = r1) := by show _ = _; rw [← HRq1.out, ← HRr1.out, he]
    subst hf
    subst hg
    obtain rfl := HQ.out
    have HDS : Hid (ds.map DT.tree = es.map DT.tree) := by show _ = _; rw [HDds.out, HDes.out]
    have HSA := Lib.hid (same_true ⟨q1.name, q1.frm, q1.days, []⟩ ds es _ _ w7 All All HDS.out HLA7.out HLB7.out)
    clear hlaw he
    have a0 : w7.cell? ⟨ga, 0, none⟩ = some (.string ⟨q1.name.toArray⟩) := (cell_of_blk HB7.out 0).trans rfl
    have a1 : w7.cell? ⟨ga, 1, none⟩ = some (.int .i64 q1.frm.y) := (cell_of_blk HB7.out 1).trans rfl
    have a2 : w7.cell? ⟨ga, 2, none⟩ = some (.int .i64 q1.frm.m) := (cell_of_blk HB7.out 2).trans rfl
    have a3 : w7.cell? ⟨ga, 3, none⟩ = some (.int .i64 q1.frm.d) := (cell_of_blk HB7.out 3).trans rfl
    have a4 : w7.cell? ⟨ga, 4, none⟩ = some (.int .i64 q1.days) := (cell_of_blk HB7.out 4).trans rfl
    have a5 : w7.cell? ⟨ga, 5, none⟩ = some (.slice Ads ds.length cds) := (cell_of_blk HB7.out 5).trans rfl
    have b0 : w7.cell? ⟨gb, 0, none⟩ = some (.string ⟨q1.name.toArray⟩) := (cell_of_blk HBw7.out 0).trans rfl
    have b1 : w7.cell? ⟨gb, 1, none⟩ = some (.int .i64 q1.frm.y) := (cell_of_blk HBw7.out 1).trans rfl
    have b2 : w7.cell? ⟨gb, 2, none⟩ = some (.int .i64 q1.frm.m) := (cell_of_blk HBw7.out 2).trans rfl
    have b3 : w7.cell? ⟨gb, 3, none⟩ = some (.int .i64 q1.frm.d) := (cell_of_blk HBw7.out 3).trans rfl
    have b4 : w7.cell? ⟨gb, 4, none⟩ = some (.int .i64 q1.days) := (cell_of_blk HBw7.out 4).trans rfl
    have b5 : w7.cell? ⟨gb, 5, none⟩ = some (.slice Aes es.length ces) := (cell_of_blk HBw7.out 5).trans rfl
    go_wp2_with fail
    refine HSA.out.mono ?_
    rintro e w8 ⟨rfl, hf8⟩
    have HFZ := Lib.hid (HFw7.out.trans hf8)
    clear hf8
    go_wp2_with fail
    go_ret
    exact ⟨rfl, HFZ.out.below (Nat.le_refl _) (fun _ h => h.elim)⟩
  · have hg : q2 ≠ [] := fun e => hf (hlaw.1.2 e)
    obtain ⟨n1, hn1⟩ : ∃ n, r2.length = n + 1 := ⟨r2.length - 1, by have := List.length_pos_iff.2 hf; omega⟩
    obtain ⟨n2, hn2⟩ : ∃ n, q2.length = n + 1 := ⟨q2.length - 1, by have := List.length_pos_iff.2 hg; omega⟩
    rw [hn1, hn2]
    have i1 : (0 : Int) < ((n1 + 1 : Nat) : Int) := by omega
    have i3 : (((n1 + 1 : Nat) : Int) == 0) = false := by simp; omega
    have i4 : (((n2 + 1 : Nat) : Int) == 0) = false := by simp; omega
    obtain ⟨m1, hm1⟩ : ∃ m, n1 + 1 = m := ⟨_, rfl⟩
    obtain ⟨m2, hm2⟩ : ∃ m, n2 + 1 = m := ⟨_, rfl⟩
    rw [hm1, hm2]
    rw [hm1] at i1 i3
    rw [hm2] at i4
    clear hm1 hm2 hn1 hn2
    clear hlaw hf hg
    go_wp2_with fail
    go_ret
    exact ⟨rfl, HFw7.out.below (Nat.le_refl _) (fun _ h => h.elim)⟩
end Go.Proofs.Yticakdajhmfpoaa
