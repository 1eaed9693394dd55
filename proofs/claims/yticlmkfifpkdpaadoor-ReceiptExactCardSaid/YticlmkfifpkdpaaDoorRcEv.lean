/-
  estoppelref33.local, Events, Sendings, Receipts walked.
-/
import Derived.Test.YticlmkfifpkdpaaDoorRcRefA
import Derived.Test.YticlmkfifpkdpaaDoorRcLawB
import Derived.Test.YticlmkfifpkdpaaDoorRcRefs
import Derived.BigRegion
namespace Go.Proofs.YticlmkfifpkdpaaDoor.Rc
open Go.RowKit Go.Shelf Mem Vw
open Zn (Zone ChRow loc localOf)
open Dl (When Term Cal noev whenc nv evcells EvsAt wf Bf bf_keep)
set_option linter.unusedVariables false
set_option linter.unusedSimpArgs false
set_option maxRecDepth 100000 in
theorem rlocal_any (z : Zone) (A : Option Addr) (cap : Nat) (t : Int) (W : World) (hlen : z.chs.length ≤ 9223372036854775807) (hrow : ChRow W A z.chs) (he : err z t = 0) :
    Calls Tryd.prog 42 #[.agg #[.int .i64 z.off, .slice A z.chs.length cap], .int .i64 t] W fun e w' => e = .returned (.tuple #[.agg (whenc (lwhen z t)).toArray, .bool true]) ∧ Below W.heap.size W w' := by
  have HE := Lib.hid he; have HROW := Lib.hid hrow
  clear he hrow
  obtain ⟨X, HX⟩ : ∃ X, Hid ((W.alloc (.cells #[.int .i64 z.off, .slice A z.chs.length cap] 24)).alloc (.cells #[.bool false, .int .i64 0, .int .i64 0] 67) = X) := ⟨_, rfl⟩
  have HB : Hid (Below W.heap.size W X) := by rw [← HX.out]; exact ((Below.refl _ W).alloc (Nat.le_refl _) _).alloc (by simp) _
  have HZ : Hid (X.heap[W.heap.size]? = some (.cells #[.int .i64 z.off, .slice A z.chs.length cap] 24 (0, 0))) := by rw [← HX.out]; exact blk_alloc (blk_newn rfl) _
  have HR : Hid (X.heap[W.heap.size + 1]? = some (.cells #[.bool false, .int .i64 0, .int .i64 0] 67 (0, 0))) := by rw [← HX.out]; exact blk_newn (by simp)
  have HL := Lib.hid (Zn.refLocal_any z A cap t X hlen (HROW.out.below HB.out))
  obtain ⟨⟨d, mi, er⟩, HLO⟩ : ∃ q, Hid (localOf z t = q) := ⟨_, rfl⟩
  have hz : er = 0 := by have h := HE.out; unfold err at h; rw [HLO.out] at h; exact h
  subst hz
  have HLW : Hid (lwhen z t = ⟨true, d, mi⟩) := by show _ = _; unfold lwhen; rw [HLO.out]
  rw [HLO.out] at HL
  rw [HLW.out]
  have z0 : X.cell? ⟨W.heap.size, 0, none⟩ = some (.int .i64 z.off) := Mem.cell_of_blk HZ.out 0
  have z1 : X.cell? ⟨W.heap.size, 1, none⟩ = some (.slice A z.chs.length cap) := Mem.cell_of_blk HZ.out 1
  go_enter Tryd.func42, Tryd.ntmps42
  go_upto_region 1 with fail
  rw [HX.out]
  clear HX
  go_wp2_with fail
  refine HL.out.mono ?_
  rintro e9 X1 ⟨rfl, hb⟩
  have HB1 : Hid (Below W.heap.size W X1) := HB.out.trans (hb.mono HB.out.size)
  have HR1 := Lib.hid ((hb.block _ (lt_of_blk HR.out)).trans HR.out)
  clear hb z0 z1 HL
  have r0 : X1.cell? ⟨W.heap.size + 1, 0, none⟩ = some (.bool false) := Mem.cell_of_blk HR1.out 0
  have r1 : X1.cell? ⟨W.heap.size + 1, 1, none⟩ = some (.int .i64 0) := Mem.cell_of_blk HR1.out 1
  have r2 : X1.cell? ⟨W.heap.size + 1, 2, none⟩ = some (.int .i64 0) := Mem.cell_of_blk HR1.out 2
  have f0 := Mem.froz_of_blk HR1.out 0; have f1 := Mem.froz_of_blk HR1.out 1; have f2 := Mem.froz_of_blk HR1.out 2
  go_wp2_with fail
  have hcell := blk_set (blk_set (blk_set HR1.out 0 (.bool true)) 1 (.int .i64 d)) 2 (.int .i64 mi)
  refine bodyPost_ret (results_cell_tmp rfl rfl (run_loadVar_row (P := Tryd.prog) _ (W.heap.size + 1) 67 67 _ (0, 0) _ hcell Tryd.underlying67 rfl (by kernel_rfl))) rfl ⟨rfl, ?_⟩
  have hs : W.heap.size ≤ W.heap.size + 1 := by omega
  exact ((HB1.out.setCell (p := ⟨W.heap.size + 1, 0, none⟩) hs _).setCell (p := ⟨W.heap.size + 1, 1, none⟩) hs _).setCell (p := ⟨W.heap.size + 1, 2, none⟩) hs _
theorem results_tmp2 {fn : Func} {t u : Tmp} (h : fn.results = #[.tmp t, .tmp u]) (tmps : Array Value) (P : Program) (w : World) :
    (results fn tmps).run P w = .ok (.tuple #[tmps.getD t undef, tmps.getD u undef]) w := by
  simp [results, h]
/-- What Events returns where the instants have local times. -/
def EvRes (W : World) (z : Zone) (x y : Int) (e : Ending) (w' : World) : Prop := ∃ g, e = .returned (.tuple #[.slice (some ⟨g, 0, none⟩) 2 2, .bool true]) ∧ EvsAt w' (evl z x y) (.slice (some ⟨g, 0, none⟩) 2 2) ∧ Below W.heap.size W w'
theorem evl_wf (z : Zone) (x y : Int) : ∀ w ∈ evl z x y, wf w.day ∧ wf w.min := by
  intro w hw
  unfold evl at hw
  simp only [List.mem_cons, List.not_mem_nil, or_false] at hw
  rcases hw with rfl | rfl <;> split
  · exact local_wf z x
  · exact noev_ok
  · exact local_wf z y
  · exact noev_ok
set_option maxRecDepth 100000 in
set_option maxHeartbeats 4000000 in
theorem events_any (z : Zone) (A : Option Addr) (cap : Nat) (x y : Int) (W : World) (hlen : z.chs.length ≤ 9223372036854775807) (hrow : ChRow W A z.chs) (hx : 0 ≤ x → err z x = 0) (hy : 0 ≤ y → err z y = 0) :
    Calls Tryd.prog 16 #[.agg #[.int .i64 z.off, .slice A z.chs.length cap], .int .i64 x, .int .i64 y] W (EvRes W z x y) := by
  have HROW := Lib.hid hrow; have HX := Lib.hid hx; have HY := Lib.hid hy
  clear hrow hx hy
  have hmk := make_two
  obtain ⟨X, HX0⟩ : ∃ X, Hid ((W.alloc (.cells #[.int .i64 z.off, .slice A z.chs.length cap] 24)).alloc (.cells two 67) = X) := ⟨_, rfl⟩
  have HB : Hid (Below W.heap.size W X) := by rw [← HX0.out]; exact ((Below.refl _ W).alloc (Nat.le_refl _) _).alloc (by simp) _
  have HZ : Hid (X.heap[W.heap.size]? = some (.cells #[.int .i64 z.off, .slice A z.chs.length cap] 24 (0, 0))) := by rw [← HX0.out]; exact blk_alloc (blk_newn rfl) _
  have HR : Hid (X.heap[W.heap.size + 1]? = some (.cells (w2 noev noev) 67 (0, 0))) := by rw [← HX0.out]; exact blk_newn (by simp)
  have HEV : Hid (evl z x y = [if 0 ≤ x then lwhen z x else noev, if 0 ≤ y then lwhen z y else noev]) := rfl
  go_enter Tryd.func16, Tryd.ntmps16
  go_upto_region 3 with fail
  rw [HX0.out]
  clear HX0 hmk
  by_cases hx : 0 ≤ x
  · by_cases hy : 0 ≤ y
    · obtain ⟨⟨lk, ld, lm⟩, HLW⟩ : ∃ q, Hid (lwhen z x = q) := ⟨_, rfl⟩
      have hL := rlocal_any z A cap x X hlen (HROW.out.below HB.out) (HX.out hx)
      rw [HLW.out] at hL
      have HL := Lib.hid hL
      clear hL
      have z0 : X.cell? ⟨W.heap.size, 0, none⟩ = some (.int .i64 z.off) := Mem.cell_of_blk HZ.out 0
      have z1 : X.cell? ⟨W.heap.size, 1, none⟩ = some (.slice A z.chs.length cap) := Mem.cell_of_blk HZ.out 1
      go_wp2_with fail
      refine HL.out.mono ?_
      rintro e9 Y ⟨rfl, hb⟩
      dsimp only [whenc, nv]
      have HBY : Hid (Below W.heap.size W Y) := HB.out.trans (hb.mono HB.out.size)
      have HZY := Lib.hid ((hb.block _ (lt_of_blk HZ.out)).trans HZ.out)
      have HRY := Lib.hid ((hb.block _ (lt_of_blk HR.out)).trans HR.out)
      clear hb z0 z1 HL
      have r0 : ∃ q, Y.cell? ⟨W.heap.size + 1, 0, none⟩ = some q := ⟨_, Mem.cell_of_blk HRY.out 0⟩
      obtain ⟨q0, r0⟩ := r0
      have f0 := Mem.froz_of_blk HRY.out 0
      have r1 : ∃ q, Y.cell? ⟨W.heap.size + 1, 1, none⟩ = some q := ⟨_, Mem.cell_of_blk HRY.out 1⟩
      obtain ⟨q1, r1⟩ := r1
      have f1 := Mem.froz_of_blk HRY.out 1
      have r2 : ∃ q, Y.cell? ⟨W.heap.size + 1, 2, none⟩ = some q := ⟨_, Mem.cell_of_blk HRY.out 2⟩
      obtain ⟨q2, r2⟩ := r2
      have f2 := Mem.froz_of_blk HRY.out 2
      obtain ⟨X1, HX1⟩ : ∃ X1, Hid (((Y.setCell ⟨W.heap.size + 1, 0, none⟩ (.bool lk)).setCell ⟨W.heap.size + 1, 1, none⟩ (.int .i64 ld)).setCell ⟨W.heap.size + 1, 2, none⟩ (.int .i64 lm) = X1) := ⟨_, rfl⟩
      have HB1 : Hid (Below W.heap.size W X1) := by rw [← HX1.out]; exact (((HBY.out).setCell (p := ⟨W.heap.size + 1, 0, none⟩) (by show W.heap.size ≤ W.heap.size + 1; omega) _).setCell (p := ⟨W.heap.size + 1, 1, none⟩) (by show W.heap.size ≤ W.heap.size + 1; omega) _).setCell (p := ⟨W.heap.size + 1, 2, none⟩) (by show W.heap.size ≤ W.heap.size + 1; omega) _
      have HZ1 : Hid (X1.heap[W.heap.size]? = some (.cells #[.int .i64 z.off, .slice A z.chs.length cap] 24 (0, 0))) := by rw [← HX1.out]; exact blk_farq (blk_farq (blk_farq HZY.out (by omega) _) (by omega) _) (by omega) _
      have HR1 : Hid (X1.heap[W.heap.size + 1]? = some (.cells (w2 (lwhen z x) noev) 67 (0, 0))) := by rw [← HX1.out, HLW.out]; exact blk_set (blk_set (blk_set HRY.out 0 (.bool lk)) 1 (.int .i64 ld)) 2 (.int .i64 lm)
      have HEV2 : Hid (evl z x y = [lwhen z x, lwhen z y]) := by show _ = _; rw [HEV.out, if_pos hx, if_pos hy]
      go_upto_region 5 with fail
      rw [HX1.out]
      clear HX1 r0 r1 r2 f0 f1 f2 q0 q1 q2 HRY HZY HBY HLW
      obtain ⟨⟨lk, ld, lm⟩, HLW2⟩ : ∃ q, Hid (lwhen z y = q) := ⟨_, rfl⟩
      have hL := rlocal_any z A cap y X1 hlen (HROW.out.below HB1.out) (HY.out hy)
      rw [HLW2.out] at hL
      have HL := Lib.hid hL
      clear hL
      have z0 : X1.cell? ⟨W.heap.size, 0, none⟩ = some (.int .i64 z.off) := Mem.cell_of_blk HZ1.out 0
      have z1 : X1.cell? ⟨W.heap.size, 1, none⟩ = some (.slice A z.chs.length cap) := Mem.cell_of_blk HZ1.out 1
      go_wp2_with fail
      refine HL.out.mono ?_
      rintro e9 Y2 ⟨rfl, hb⟩
      dsimp only [whenc, nv]
      have HBY2 : Hid (Below W.heap.size W Y2) := HB1.out.trans (hb.mono HB1.out.size)
      have HZY2 := Lib.hid ((hb.block _ (lt_of_blk HZ1.out)).trans HZ1.out)
      have HRY2 := Lib.hid ((hb.block _ (lt_of_blk HR1.out)).trans HR1.out)
      clear hb z0 z1 HL
      have r0 : ∃ q, Y2.cell? ⟨W.heap.size + 1, 3, none⟩ = some q := ⟨_, Mem.cell_of_blk HRY2.out 3⟩
      obtain ⟨q0, r0⟩ := r0
      have f0 := Mem.froz_of_blk HRY2.out 3
      have r1 : ∃ q, Y2.cell? ⟨W.heap.size + 1, 4, none⟩ = some q := ⟨_, Mem.cell_of_blk HRY2.out 4⟩
      obtain ⟨q1, r1⟩ := r1
      have f1 := Mem.froz_of_blk HRY2.out 4
      have r2 : ∃ q, Y2.cell? ⟨W.heap.size + 1, 5, none⟩ = some q := ⟨_, Mem.cell_of_blk HRY2.out 5⟩
      obtain ⟨q2, r2⟩ := r2
      have f2 := Mem.froz_of_blk HRY2.out 5
      have hcell := blk_set (blk_set (blk_set HRY2.out 3 (.bool lk)) 4 (.int .i64 ld)) 5 (.int .i64 lm)
      go_wp2_with fail
      refine bodyPost_ret (results_tmp2 rfl _ _ _) rfl ⟨W.heap.size + 1, rfl, ?_, ?_⟩
      · exact Dl.evs_of_cells _ (by rw [HEV2.out, HLW2.out]; exact hcell) rfl (Nat.le_refl _) (by decide) (evl_wf z x y)
      · exact (((HBY2.out).setCell (p := ⟨W.heap.size + 1, 3, none⟩) (by show W.heap.size ≤ W.heap.size + 1; omega) _).setCell (p := ⟨W.heap.size + 1, 4, none⟩) (by show W.heap.size ≤ W.heap.size + 1; omega) _).setCell (p := ⟨W.heap.size + 1, 5, none⟩) (by show W.heap.size ≤ W.heap.size + 1; omega) _
    · have HEV2 : Hid (evl z x y = [lwhen z x, noev]) := by show _ = _; rw [HEV.out, if_pos hx, if_neg hy]
      obtain ⟨⟨lk, ld, lm⟩, HLW⟩ : ∃ q, Hid (lwhen z x = q) := ⟨_, rfl⟩
      have hL := rlocal_any z A cap x X hlen (HROW.out.below HB.out) (HX.out hx)
      rw [HLW.out] at hL
      have HL := Lib.hid hL
      clear hL
      have z0 : X.cell? ⟨W.heap.size, 0, none⟩ = some (.int .i64 z.off) := Mem.cell_of_blk HZ.out 0
      have z1 : X.cell? ⟨W.heap.size, 1, none⟩ = some (.slice A z.chs.length cap) := Mem.cell_of_blk HZ.out 1
      go_wp2_with fail
      refine HL.out.mono ?_
      rintro e9 Y ⟨rfl, hb⟩
      dsimp only [whenc, nv]
      have HBY : Hid (Below W.heap.size W Y) := HB.out.trans (hb.mono HB.out.size)
      have HZY := Lib.hid ((hb.block _ (lt_of_blk HZ.out)).trans HZ.out)
      have HRY := Lib.hid ((hb.block _ (lt_of_blk HR.out)).trans HR.out)
      clear hb z0 z1 HL
      have r0 : ∃ q, Y.cell? ⟨W.heap.size + 1, 0, none⟩ = some q := ⟨_, Mem.cell_of_blk HRY.out 0⟩
      obtain ⟨q0, r0⟩ := r0
      have f0 := Mem.froz_of_blk HRY.out 0
      have r1 : ∃ q, Y.cell? ⟨W.heap.size + 1, 1, none⟩ = some q := ⟨_, Mem.cell_of_blk HRY.out 1⟩
      obtain ⟨q1, r1⟩ := r1
      have f1 := Mem.froz_of_blk HRY.out 1
      have r2 : ∃ q, Y.cell? ⟨W.heap.size + 1, 2, none⟩ = some q := ⟨_, Mem.cell_of_blk HRY.out 2⟩
      obtain ⟨q2, r2⟩ := r2
      have f2 := Mem.froz_of_blk HRY.out 2
      have hcell := blk_set (blk_set (blk_set HRY.out 0 (.bool lk)) 1 (.int .i64 ld)) 2 (.int .i64 lm)
      go_wp2_with fail
      refine bodyPost_ret (results_tmp2 rfl _ _ _) rfl ⟨W.heap.size + 1, rfl, ?_, ?_⟩
      · exact Dl.evs_of_cells _ (by rw [HEV2.out, HLW.out]; exact hcell) rfl (Nat.le_refl _) (by decide) (evl_wf z x y)
      · exact (((HBY.out).setCell (p := ⟨W.heap.size + 1, 0, none⟩) (by show W.heap.size ≤ W.heap.size + 1; omega) _).setCell (p := ⟨W.heap.size + 1, 1, none⟩) (by show W.heap.size ≤ W.heap.size + 1; omega) _).setCell (p := ⟨W.heap.size + 1, 2, none⟩) (by show W.heap.size ≤ W.heap.size + 1; omega) _
  · by_cases hy : 0 ≤ y
    · have HEV2 : Hid (evl z x y = [noev, lwhen z y]) := by show _ = _; rw [HEV.out, if_neg hx, if_pos hy]
      obtain ⟨⟨lk, ld, lm⟩, HLW⟩ : ∃ q, Hid (lwhen z y = q) := ⟨_, rfl⟩
      have hL := rlocal_any z A cap y X hlen (HROW.out.below HB.out) (HY.out hy)
      rw [HLW.out] at hL
      have HL := Lib.hid hL
      clear hL
      have z0 : X.cell? ⟨W.heap.size, 0, none⟩ = some (.int .i64 z.off) := Mem.cell_of_blk HZ.out 0
      have z1 : X.cell? ⟨W.heap.size, 1, none⟩ = some (.slice A z.chs.length cap) := Mem.cell_of_blk HZ.out 1
      go_wp2_with fail
      refine HL.out.mono ?_
      rintro e9 Y ⟨rfl, hb⟩
      dsimp only [whenc, nv]
      have HBY : Hid (Below W.heap.size W Y) := HB.out.trans (hb.mono HB.out.size)
      have HZY := Lib.hid ((hb.block _ (lt_of_blk HZ.out)).trans HZ.out)
      have HRY := Lib.hid ((hb.block _ (lt_of_blk HR.out)).trans HR.out)
      clear hb z0 z1 HL
      have r0 : ∃ q, Y.cell? ⟨W.heap.size + 1, 3, none⟩ = some q := ⟨_, Mem.cell_of_blk HRY.out 3⟩
      obtain ⟨q0, r0⟩ := r0
      have f0 := Mem.froz_of_blk HRY.out 3
      have r1 : ∃ q, Y.cell? ⟨W.heap.size + 1, 4, none⟩ = some q := ⟨_, Mem.cell_of_blk HRY.out 4⟩
      obtain ⟨q1, r1⟩ := r1
      have f1 := Mem.froz_of_blk HRY.out 4
      have r2 : ∃ q, Y.cell? ⟨W.heap.size + 1, 5, none⟩ = some q := ⟨_, Mem.cell_of_blk HRY.out 5⟩
      obtain ⟨q2, r2⟩ := r2
      have f2 := Mem.froz_of_blk HRY.out 5
      have hcell := blk_set (blk_set (blk_set HRY.out 3 (.bool lk)) 4 (.int .i64 ld)) 5 (.int .i64 lm)
      go_wp2_with fail
      refine bodyPost_ret (results_tmp2 rfl _ _ _) rfl ⟨W.heap.size + 1, rfl, ?_, ?_⟩
      · exact Dl.evs_of_cells _ (by rw [HEV2.out, HLW.out]; exact hcell) rfl (Nat.le_refl _) (by decide) (evl_wf z x y)
      · exact (((HBY.out).setCell (p := ⟨W.heap.size + 1, 3, none⟩) (by show W.heap.size ≤ W.heap.size + 1; omega) _).setCell (p := ⟨W.heap.size + 1, 4, none⟩) (by show W.heap.size ≤ W.heap.size + 1; omega) _).setCell (p := ⟨W.heap.size + 1, 5, none⟩) (by show W.heap.size ≤ W.heap.size + 1; omega) _
    · have HEV2 : Hid (evl z x y = [noev, noev]) := by show _ = _; rw [HEV.out, if_neg hx, if_neg hy]
      go_wp2_with fail
      refine bodyPost_ret (results_tmp2 rfl _ _ _) rfl ⟨W.heap.size + 1, rfl, ?_, ?_⟩
      · exact Dl.evs_of_cells _ (by rw [HEV2.out]; exact HR.out) rfl (Nat.le_refl _) (by decide) (evl_wf z x y)
      · exact HB.out
end Go.Proofs.YticlmkfifpkdpaaDoor.Rc
