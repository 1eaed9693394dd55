/-
  Include: a clause that an inclusion leads to; names that are equal; declarations.
-/
import Derived.Test.YticakdajhmfpoaaIncCl
namespace Go.Proofs.Yticakdajhmfpoaa.Ic
open Go.RowKit Mem Vw Rs
open Go.ChangeMaps (setBlock)
set_option linter.unusedVariables false
set_option linter.unusedSimpArgs false

theorem Lay.pos {B : Nat → Prop} {W : World} {h : Rs.Item} {c d n i : Value} {l : List DT} (p : Int) (hl : Lay B W (.node h c d n i l)) : Lay B W (.node { h with pos := p } c d n i l) :=
  Lay.mk' hl.conds hl.dates hl.names hl.items
set_option maxRecDepth 100000 in
set_option maxHeartbeats 8000000 in
theorem included_any {Q : Prop} {B : Nat} {l : List DT} {op : List Rs.Bytes} {sn : List DT} {cnt : Nat} {iv : Value} {ds : List DT} (y : DT) (p : Int) (W : World) (hX : XS Q B l op sn cnt iv ds W) (hy : Lay (fun g => B + 9 ≤ g ∧ iv.ownBlock ≠ some g) W y) (ho : ∀ x ∈ l, x.cells.toArray.all (·.oneCell') = true) (hc : cnt ≤ 1000) (hd : ds.length ≤ 1000) (hn : y.h.name.length ≤ 1000000) :
    Calls Try.prog 40 #[.pointer (some ⟨B + 8, 0, none⟩), .agg y.cells.toArray, .int .i64 p] W (ClR Q B l op sn iv W (included (envD l) y.tree p ⟨cnt, ds.map DT.tree⟩)) := by
  obtain ⟨w0, HW0⟩ : ∃ w0, Hid (W.alloc (.cells y.cells.toArray 41) = w0) := ⟨_, rfl⟩
  have HF0 : Hid (Fr (fun _ => False) W w0) := by rw [← HW0.out]; exact (Fr.refl _ W).alloc _
  have HB0 : Hid (w0.heap[W.heap.size]? = some (.cells y.cells.toArray 41 (0, 0))) := by rw [← HW0.out]; exact blk_newn rfl
  have HGB : Hid (B + 8 < W.heap.size) := lt_of_blk hX.ex.blk
  obtain ⟨w1, HW1⟩ : ∃ w, Hid (w0.setCell ⟨W.heap.size, 2, none⟩ (.int .i64 p) = w) := ⟨_, rfl⟩
  have HF1 : Hid (Fr (fun _ => False) W w1) := by rw [← HW1.out]; exact HF0.out.setCell (p := ⟨W.heap.size, 2, none⟩) (.inr (Nat.le_refl _)) _
  have HX1 : Hid (XS Q B l op sn cnt iv ds w1) := hX.fr HF1.out (fun _ _ _ h => h)
  have HOW := Lib.hid hX.own
  have HY1 : Hid (Lay (fun g => B + 9 ≤ g ∧ iv.ownBlock ≠ some g) w1 y) := hy.fr HF1.out (fun _ _ h => h)
  have HO := Lib.hid ho; have HC := Lib.hid hc; have HDL := Lib.hid hd
  clear hX hy ho hc hd HF0
  obtain ⟨h, c, d, n, i, lst⟩ := y
  dsimp only [DT.h] at hn
  have HW0 : Hid (W.alloc (.cells (icells h c d n i).toArray 41) = w0) := HW0
  have HB0 : Hid (w0.heap[W.heap.size]? = some (.cells (icells h c d n i).toArray 41 (0, 0))) := HB0
  have HB1 : Hid (w1.heap[W.heap.size]? = some (.cells (icells { h with pos := p } c d n i).toArray 41 (0, 0))) := by rw [← HW1.out]; exact blk_set HB0.out 2 _
  have HYP := Lib.hid (HY1.out.pos p)
  rw [tree_node]
  show Calls _ _ #[_, .agg (icells h c d n i).toArray, _] _ _
  have HCA : Hid (24 < h.name.length → included (envD l) (.node h (lst.map DT.tree)) p ⟨cnt, ds.map DT.tree⟩ = (3, ⟨cnt + 1, ds.map DT.tree⟩)) := fun hl => if_pos hl
  have HCB : Hid (¬ 24 < h.name.length → included (envD l) (.node h (lst.map DT.tree)) p ⟨cnt, ds.map DT.tree⟩ = clause (envD l) (.node { h with pos := p } (lst.map DT.tree)) ⟨cnt, ds.map DT.tree⟩) := fun hl => if_neg hl
  have HCL := clause_any (.node { h with pos := p } c d n i lst) w1 HX1.out HYP.out HO.out HC.out HDL.out
  rw [tree_node] at HCL
  have HCL := Lib.hid HCL
  have k2 : w0.cell? ⟨W.heap.size, 2, none⟩ = some (.int .i64 h.pos) := (cell_of_blk HB0.out 2).trans rfl
  have f2 : w0.frozen? ⟨W.heap.size, 2, none⟩ = false := froz_of_blk HB0.out 2
  have HN := Lib.hid hn
  go_enter Try.func40, Try.ntmps40
  go_upto_region 1 with fail
  rw [HW0.out]
  go_upto_region 2 with fail
  rw [HW1.out]
  clear HW0 HW1 k2 f2
  have k1 : w1.cell? ⟨W.heap.size, 1, none⟩ = some (.string ⟨h.name.toArray⟩) := (cell_of_blk HB1.out 1).trans rfl
  by_cases hl : 24 < h.name.length
  · have k5 : w1.cell? ⟨B + 8, 5, none⟩ = some (.int .i64 (cnt : Int)) := (cell_of_blk HX1.out.ex.blk 5).trans rfl
    have f5 : w1.frozen? ⟨B + 8, 5, none⟩ = false := froz_of_blk HX1.out.ex.blk 5
    have hc := HC.out
    have HR := Lib.hid (HCA.out hl)
    clear hc
    have HCC : (cnt : Int) ≤ 1000 := by have := HC.out; omega
    have HC0 : (0 : Int) ≤ (cnt : Int) := by omega
    go_upto_region 4 with fail
    obtain ⟨w2, hw2⟩ : ∃ w, w1.setCell ⟨B + 8, 5, none⟩ (.int .i64 ((cnt : Int) + 1)) = w := ⟨_, rfl⟩
    rw [hw2]
    have HF2 : Hid (Fr (fun g => g = B + 8) w1 w2) := by rw [← hw2]; exact (Fr.refl (fun g => g = B + 8) w1).setb 5 _
    have HX2 : Hid (XS Q B l op sn (cnt + 1) iv ds w2) := by
      refine ⟨?_, own_fr HX1.out.own HF2.out (fun k h1 _ e => by omega), fun q d hd => (HX1.out.lay q d hd).fr HF2.out (fun g hg e => by omega)⟩
      rw [← hw2]; exact HX1.out.ex.count _
    clear hw2 k5 f5 k1
    go_wp2_with fail
    go_ret
    rw [HR.out]
    exact ⟨rfl, ⟨⟨iv, ds, HX2.out, rfl, fun g hg => .inl hg⟩, (HF1.out.mono (T := SX B iv) (fun _ _ h => h.elim)).trans (HF2.out.mono (fun g _ e => .inl ⟨by omega, by omega⟩))⟩⟩
  · have HR := Lib.hid (HCB.out hl)
    have hl' : h.name.length ≤ 24 := by omega
    go_upto_region 5 with fail
    clear k1
    iterate 4 go_step
    refine wpList_load_row rfl 41 _ rfl W.heap.size rfl 41 (icells { h with pos := p } c d n i).toArray (0, 0) _ HB1.out Try.underlying41 rfl (by rw [info_item]; rfl) ?_
    simp only [Act.put, List.setIfInBounds_toArray, List.set_cons_zero, List.set_cons_succ]
    go_wp2_with fail
    refine HCL.out.mono ?_
    rintro e w9 ⟨rfl, hst⟩
    have HST := Lib.hid hst
    clear hst HCL
    go_wp2_with fail
    go_ret
    rw [HR.out]
    obtain ⟨⟨iv', ds', q1, q2, q3⟩, q4⟩ := HST.out
    exact ⟨rfl, ⟨⟨iv', ds', q1, q2, fun g hg => (q3 g hg).imp id (fun h => by have := HF1.out.size; omega)⟩, (HF1.out.mono (T := SX B iv) (fun _ _ h => h.elim)).trans q4⟩⟩
end Go.Proofs.Yticakdajhmfpoaa.Ic
