/-
  week, cut, days walked. days and Fact on the arguments of the head. The head of chapter 33 walked: its examples answer true.
-/
import Derived.Test.YticlmkfifpkdpaaDoorRcDeem
import Derived.Test.YticlmkfifpkdpaaDoorRcFixed
import Derived.Test.YticlmkfifpkdpaaDoorRcMake
import Derived.Test.YticlmkfifpkdpaaDoorReg2
import Derived.Deep.DeepCutAuto
import Derived.Deep.QuietTactic
namespace Go.Proofs.YticlmkfifpkdpaaDoor.Rc
open Go.RowKit Go.Shelf Mem Vw
open Zn (Zone ChRow loc localOf)
open Dl (When Term Cal noev whenc nv tc ccs Tree CalAt wf C0 Bf bf_keep)
set_option linter.unusedVariables false
set_option linter.unusedSimpArgs false
def wk0 : Array Value := #[.bool false, .bool false, .bool false, .bool false, .bool false, .bool true, .bool true, .slice none 0 0]
set_option maxRecDepth 100000 in
theorem week_any (W : World) : Calls Tryd.prog 24 #[] W fun e w' => e = .returned (.agg #[.bool false, .bool false, .bool false, .bool false, .bool false, .bool true, .bool true, .slice none 0 0]) ∧ Below W.heap.size W w' := by
  go_enter Tryd.func24, Tryd.ntmps24
  go_wp2_with fail
  exact bodyPost_ret (Dl.results_cell1 rfl rfl (run_loadVar_row (P := Tryd.prog) _ W.heap.size 28 28 _ (0, 0) _ (blk_newn rfl) Tryd.underlying28 rfl (by kernel_rfl))) rfl ⟨rfl, (Below.refl _ W).alloc (Nat.le_refl _) _⟩
def cutP (g : Nat) : RP := ⟨none, 0, .slice none 0 0, some ⟨g, 0, none⟩, 1⟩
/-- What cut returns. -/
def CutRes (W : World) (o m : Int) (e : Ending) (w' : World) : Prop := ∃ g, e = .returned (.agg (rcs (cutR o m) (cutP g)).toArray) ∧ RuleAt w' (cutR o m) (cutP g) ∧ Below W.heap.size W w'
def zero15 : Array Value := #[.int .i64 0, .slice none 0 0, .bool false, .bool false, .bool false, .bool false, .bool false, .bool false, .bool false, .slice none 0 0, .int .i64 0, .int .i64 0, .int .i64 0, .bool false, .slice none 0 0]
set_option maxRecDepth 100000 in
set_option maxHeartbeats 8000000 in
theorem cut_any (o m : Int) (W : World) (ho : wf o) (hm : wf m) : Calls Tryd.prog 22 #[.int .i64 o, .int .i64 m] W (CutRes W o m) := by
  have HM := Lib.hid hm
  obtain ⟨X2, HX2⟩ : ∃ X, Hid (((W.alloc (.cells #[.int .i64 0, .slice none 0 0, .bool false, .bool false, .bool false, .bool false, .bool false, .bool false, .bool false, .slice none 0 0, .int .i64 0, .int .i64 0, .int .i64 0, .bool false, .slice none 0 0] 33)).alloc (.cells #[.int .i64 3, .int .i64 m, .int .i64 1, .bool false, .slice none 0 0] 31)).alloc (.cells #[.int .i64 6, .int .i64 0, .int .i64 0, .bool false, .slice (some ⟨W.heap.size + 1, 0, none⟩) 1 1] 31) = X) := ⟨_, rfl⟩
  have HB2 : Hid (Below W.heap.size W X2) := by rw [← HX2.out]; exact (((Below.refl _ W).alloc (Nat.le_refl _) _).alloc (by simp) _).alloc (by simp; omega) _
  have HR2 : Hid (X2.heap[W.heap.size]? = some (.cells #[.int .i64 0, .slice none 0 0, .bool false, .bool false, .bool false, .bool false, .bool false, .bool false, .bool false, .slice none 0 0, .int .i64 0, .int .i64 0, .int .i64 0, .bool false, .slice none 0 0] 33 (0, 0))) := by rw [← HX2.out]; exact blk_alloc (blk_alloc (blk_newn rfl) _) _
  have HK2 : Hid (X2.heap[W.heap.size + 1]? = some (.cells #[.int .i64 3, .int .i64 m, .int .i64 1, .bool false, .slice none 0 0] 31 (0, 0))) := by rw [← HX2.out]; exact blk_alloc (blk_newn (by simp)) _
  have HT2 : Hid (X2.heap[W.heap.size + 1 + 1]? = some (.cells #[.int .i64 6, .int .i64 0, .int .i64 0, .bool false, .slice (some ⟨W.heap.size + 1, 0, none⟩) 1 1] 31 (0, 0))) := by rw [← HX2.out]; exact blk_newn (by simp)
  go_enter Tryd.func22, Tryd.ntmps22
  go_upto_region 2 with fail
  rw [HX2.out]
  clear HX2
  refine Reg.G.start (by kernel_rfl) ?_
  obtain ⟨X2d, HX2d⟩ : ∃ Y, Hid (X2.drew = Y) := ⟨_, rfl⟩
  have HBX2d : Hid (Below X2.heap.size X2 X2d) := by rw [← HX2d.out]; exact ⟨rfl, rfl, rfl, Nat.le_refl _, fun k hk => rfl⟩
  rw [HX2d.out]
  clear HX2d
  refine' Reg.G.pure (i := 0) (v := _) rfl (by rfl) (by kernel_rfl) (by kernel_rfl) (by kernel_rfl) (fun _ _ _ h => h) ?hyc1 ?rehyc1
  case hyc1 => exact fun w => by first | (go_simp; done) | (go_simp; with_reducible rfl)
  simp only [Act.put, List.setIfInBounds_toArray, List.set_cons_zero, List.set_cons_succ]
  refine' Reg.G.pure (i := 1) (v := _) rfl (by rfl) (by kernel_rfl) (by kernel_rfl) (by kernel_rfl) (fun _ _ _ h => h) ?hyc2 ?rehyc2
  case hyc2 => exact fun w => by first | (go_simp; done) | (go_simp; with_reducible rfl)
  simp only [Act.put, List.setIfInBounds_toArray, List.set_cons_zero, List.set_cons_succ]
  refine' Reg.G.take (i := 3) (v := _) (F := (fun w => Below X2d.heap.size X2d w)) rfl (by rfl) (by kernel_rfl) (by kernel_rfl) (by kernel_rfl) (fun _ _ _ h => h) (Below.refl X2d.heap.size X2d) ?hyc3 ?rehyc3
  case hyc3 => intro w hw; have hbt := ((HBX2d.out.trans (Below.mono hw HBX2d.out.size)).block _ (lt_of_blk HT2.out)).trans HT2.out; have t0 : w.cell? ⟨W.heap.size + 1 + 1, 0, none⟩ = some (.int .i64 6) := Mem.cell_of_blk hbt 0; have t1 : w.cell? ⟨W.heap.size + 1 + 1, 1, none⟩ = some (.int .i64 0) := Mem.cell_of_blk hbt 1; have t2 : w.cell? ⟨W.heap.size + 1 + 1, 2, none⟩ = some (.int .i64 0) := Mem.cell_of_blk hbt 2; have t3 : w.cell? ⟨W.heap.size + 1 + 1, 3, none⟩ = some (.bool false) := Mem.cell_of_blk hbt 3; have t4 : w.cell? ⟨W.heap.size + 1 + 1, 4, none⟩ = some (.slice (some ⟨W.heap.size + 1, 0, none⟩) 1 1) := Mem.cell_of_blk hbt 4; clear hbt hw; first | (go_simp; done) | (go_simp; with_reducible rfl)
  simp only [Act.put, List.setIfInBounds_toArray, List.set_cons_zero, List.set_cons_succ]
  refine Reg.G.step (j := 2) (m := [true]) [3] rfl (by kernel_rfl) rfl (by kernel_rfl) (fun K hK => ?_)
  go_simp
  refine (week_any X2d).mono ?_
  rintro e9 Z1 ⟨rfl, hb2⟩
  have HZ3 := Lib.hid hb2
  clear hb2
  have HB4 : Hid (Below X2d.heap.size X2d Z1) := (Below.refl X2d.heap.size X2d).trans (HZ3.out.mono (Below.refl X2d.heap.size X2d).size)
  refine hK.out _ _ ⟨HB4.out, trivial⟩ ?_
  clear hK K
  simp only [Act.put, List.setIfInBounds_toArray, List.set_cons_zero, List.set_cons_succ, Reg.Kept]
  refine' Reg.G.pure (i := 4) (v := _) rfl (by rfl) (by kernel_rfl) (by kernel_rfl) (by kernel_rfl) (fun _ _ _ h => h) ?hyc4 ?rehyc4
  case hyc4 => exact fun w => by first | (go_simp; done) | (go_simp; with_reducible rfl)
  simp only [Act.put, List.setIfInBounds_toArray, List.set_cons_zero, List.set_cons_succ]
  refine Reg.G.step (j := 5) (m := [false]) [3] rfl (by kernel_rfl) rfl (by kernel_rfl) (fun K hK => ?_)
  have hrb := ((HBX2d.out.trans ((HB4.out).mono HBX2d.out.size)).block _ (lt_of_blk HR2.out)).trans HR2.out
  have e0 : Z1.cell? ⟨W.heap.size, 0, none⟩ = some (.int .i64 0) := Mem.cell_of_blk hrb 0
  have e1 : Z1.cell? ⟨W.heap.size, 1, none⟩ = some (.slice none 0 0) := Mem.cell_of_blk hrb 1
  have e2 : Z1.cell? ⟨W.heap.size, 2, none⟩ = some (.bool false) := Mem.cell_of_blk hrb 2
  have e3 : Z1.cell? ⟨W.heap.size, 3, none⟩ = some (.bool false) := Mem.cell_of_blk hrb 3
  have e4 : Z1.cell? ⟨W.heap.size, 4, none⟩ = some (.bool false) := Mem.cell_of_blk hrb 4
  have e5 : Z1.cell? ⟨W.heap.size, 5, none⟩ = some (.bool false) := Mem.cell_of_blk hrb 5
  have e6 : Z1.cell? ⟨W.heap.size, 6, none⟩ = some (.bool false) := Mem.cell_of_blk hrb 6
  have e7 : Z1.cell? ⟨W.heap.size, 7, none⟩ = some (.bool false) := Mem.cell_of_blk hrb 7
  have e8 : Z1.cell? ⟨W.heap.size, 8, none⟩ = some (.bool false) := Mem.cell_of_blk hrb 8
  have e9 : Z1.cell? ⟨W.heap.size, 9, none⟩ = some (.slice none 0 0) := Mem.cell_of_blk hrb 9
  have e10 : Z1.cell? ⟨W.heap.size, 10, none⟩ = some (.int .i64 0) := Mem.cell_of_blk hrb 10
  have e11 : Z1.cell? ⟨W.heap.size, 11, none⟩ = some (.int .i64 0) := Mem.cell_of_blk hrb 11
  have e12 : Z1.cell? ⟨W.heap.size, 12, none⟩ = some (.int .i64 0) := Mem.cell_of_blk hrb 12
  have e13 : Z1.cell? ⟨W.heap.size, 13, none⟩ = some (.bool false) := Mem.cell_of_blk hrb 13
  have e14 : Z1.cell? ⟨W.heap.size, 14, none⟩ = some (.slice none 0 0) := Mem.cell_of_blk hrb 14
  have f0 := Mem.froz_of_blk hrb 0; have f1 := Mem.froz_of_blk hrb 1; have f2 := Mem.froz_of_blk hrb 2; have f3 := Mem.froz_of_blk hrb 3; have f4 := Mem.froz_of_blk hrb 4; have f5 := Mem.froz_of_blk hrb 5; have f6 := Mem.froz_of_blk hrb 6; have f7 := Mem.froz_of_blk hrb 7; have f8 := Mem.froz_of_blk hrb 8; have f9 := Mem.froz_of_blk hrb 9; have f10 := Mem.froz_of_blk hrb 10; have f11 := Mem.froz_of_blk hrb 11; have f12 := Mem.froz_of_blk hrb 12; have f13 := Mem.froz_of_blk hrb 13; have f14 := Mem.froz_of_blk hrb 14
  go_simp
  have G0 := Lib.hid hrb
  have HF0 : Hid (Fr (fun k => k = W.heap.size) Z1 Z1) := Fr.refl _ _
  obtain ⟨Yc0, HYc0⟩ : ∃ Y, Hid (Z1.setCell ⟨W.heap.size, 0, none⟩ (.int .i64 o) = Y) := ⟨_, rfl⟩
  have G1 : Hid (Yc0.heap[W.heap.size]? = some (.cells #[.int .i64 o, .slice none 0 0, .bool false, .bool false, .bool false, .bool false, .bool false, .bool false, .bool false, .slice none 0 0, .int .i64 0, .int .i64 0, .int .i64 0, .bool false, .slice none 0 0] 33 (0, 0))) := by rw [← HYc0.out]; exact blk_set G0.out 0 _
  have HF1 : Hid (Fr (fun k => k = W.heap.size) Z1 Yc0) := by rw [← HYc0.out]; exact Fr.setb HF0.out 0 _
  obtain ⟨Yc1, HYc1⟩ : ∃ Y, Hid (Yc0.setCell ⟨W.heap.size, 1, none⟩ (.slice none 0 0) = Y) := ⟨_, rfl⟩
  have G2 : Hid (Yc1.heap[W.heap.size]? = some (.cells #[.int .i64 o, .slice none 0 0, .bool false, .bool false, .bool false, .bool false, .bool false, .bool false, .bool false, .slice none 0 0, .int .i64 0, .int .i64 0, .int .i64 0, .bool false, .slice none 0 0] 33 (0, 0))) := by rw [← HYc1.out]; exact blk_set G1.out 1 _
  have HF2 : Hid (Fr (fun k => k = W.heap.size) Z1 Yc1) := by rw [← HYc1.out]; exact Fr.setb HF1.out 1 _
  obtain ⟨Yc2, HYc2⟩ : ∃ Y, Hid (Yc1.setCell ⟨W.heap.size, 2, none⟩ (.bool false) = Y) := ⟨_, rfl⟩
  have G3 : Hid (Yc2.heap[W.heap.size]? = some (.cells #[.int .i64 o, .slice none 0 0, .bool false, .bool false, .bool false, .bool false, .bool false, .bool false, .bool false, .slice none 0 0, .int .i64 0, .int .i64 0, .int .i64 0, .bool false, .slice none 0 0] 33 (0, 0))) := by rw [← HYc2.out]; exact blk_set G2.out 2 _
  have HF3 : Hid (Fr (fun k => k = W.heap.size) Z1 Yc2) := by rw [← HYc2.out]; exact Fr.setb HF2.out 2 _
  obtain ⟨Yc3, HYc3⟩ : ∃ Y, Hid (Yc2.setCell ⟨W.heap.size, 3, none⟩ (.bool false) = Y) := ⟨_, rfl⟩
  have G4 : Hid (Yc3.heap[W.heap.size]? = some (.cells #[.int .i64 o, .slice none 0 0, .bool false, .bool false, .bool false, .bool false, .bool false, .bool false, .bool false, .slice none 0 0, .int .i64 0, .int .i64 0, .int .i64 0, .bool false, .slice none 0 0] 33 (0, 0))) := by rw [← HYc3.out]; exact blk_set G3.out 3 _
  have HF4 : Hid (Fr (fun k => k = W.heap.size) Z1 Yc3) := by rw [← HYc3.out]; exact Fr.setb HF3.out 3 _
  obtain ⟨Yc4, HYc4⟩ : ∃ Y, Hid (Yc3.setCell ⟨W.heap.size, 4, none⟩ (.bool false) = Y) := ⟨_, rfl⟩
  have G5 : Hid (Yc4.heap[W.heap.size]? = some (.cells #[.int .i64 o, .slice none 0 0, .bool false, .bool false, .bool false, .bool false, .bool false, .bool false, .bool false, .slice none 0 0, .int .i64 0, .int .i64 0, .int .i64 0, .bool false, .slice none 0 0] 33 (0, 0))) := by rw [← HYc4.out]; exact blk_set G4.out 4 _
  have HF5 : Hid (Fr (fun k => k = W.heap.size) Z1 Yc4) := by rw [← HYc4.out]; exact Fr.setb HF4.out 4 _
  obtain ⟨Yc5, HYc5⟩ : ∃ Y, Hid (Yc4.setCell ⟨W.heap.size, 5, none⟩ (.bool false) = Y) := ⟨_, rfl⟩
  have G6 : Hid (Yc5.heap[W.heap.size]? = some (.cells #[.int .i64 o, .slice none 0 0, .bool false, .bool false, .bool false, .bool false, .bool false, .bool false, .bool false, .slice none 0 0, .int .i64 0, .int .i64 0, .int .i64 0, .bool false, .slice none 0 0] 33 (0, 0))) := by rw [← HYc5.out]; exact blk_set G5.out 5 _
  have HF6 : Hid (Fr (fun k => k = W.heap.size) Z1 Yc5) := by rw [← HYc5.out]; exact Fr.setb HF5.out 5 _
  obtain ⟨Yc6, HYc6⟩ : ∃ Y, Hid (Yc5.setCell ⟨W.heap.size, 6, none⟩ (.bool false) = Y) := ⟨_, rfl⟩
  have G7 : Hid (Yc6.heap[W.heap.size]? = some (.cells #[.int .i64 o, .slice none 0 0, .bool false, .bool false, .bool false, .bool false, .bool false, .bool false, .bool false, .slice none 0 0, .int .i64 0, .int .i64 0, .int .i64 0, .bool false, .slice none 0 0] 33 (0, 0))) := by rw [← HYc6.out]; exact blk_set G6.out 6 _
  have HF7 : Hid (Fr (fun k => k = W.heap.size) Z1 Yc6) := by rw [← HYc6.out]; exact Fr.setb HF6.out 6 _
  obtain ⟨Yc7, HYc7⟩ : ∃ Y, Hid (Yc6.setCell ⟨W.heap.size, 7, none⟩ (.bool true) = Y) := ⟨_, rfl⟩
  have G8 : Hid (Yc7.heap[W.heap.size]? = some (.cells #[.int .i64 o, .slice none 0 0, .bool false, .bool false, .bool false, .bool false, .bool false, .bool true, .bool false, .slice none 0 0, .int .i64 0, .int .i64 0, .int .i64 0, .bool false, .slice none 0 0] 33 (0, 0))) := by rw [← HYc7.out]; exact blk_set G7.out 7 _
  have HF8 : Hid (Fr (fun k => k = W.heap.size) Z1 Yc7) := by rw [← HYc7.out]; exact Fr.setb HF7.out 7 _
  obtain ⟨Yc8, HYc8⟩ : ∃ Y, Hid (Yc7.setCell ⟨W.heap.size, 8, none⟩ (.bool true) = Y) := ⟨_, rfl⟩
  have G9 : Hid (Yc8.heap[W.heap.size]? = some (.cells #[.int .i64 o, .slice none 0 0, .bool false, .bool false, .bool false, .bool false, .bool false, .bool true, .bool true, .slice none 0 0, .int .i64 0, .int .i64 0, .int .i64 0, .bool false, .slice none 0 0] 33 (0, 0))) := by rw [← HYc8.out]; exact blk_set G8.out 8 _
  have HF9 : Hid (Fr (fun k => k = W.heap.size) Z1 Yc8) := by rw [← HYc8.out]; exact Fr.setb HF8.out 8 _
  obtain ⟨Yc9, HYc9⟩ : ∃ Y, Hid (Yc8.setCell ⟨W.heap.size, 9, none⟩ (.slice none 0 0) = Y) := ⟨_, rfl⟩
  have G10 : Hid (Yc9.heap[W.heap.size]? = some (.cells #[.int .i64 o, .slice none 0 0, .bool false, .bool false, .bool false, .bool false, .bool false, .bool true, .bool true, .slice none 0 0, .int .i64 0, .int .i64 0, .int .i64 0, .bool false, .slice none 0 0] 33 (0, 0))) := by rw [← HYc9.out]; exact blk_set G9.out 9 _
  have HF10 : Hid (Fr (fun k => k = W.heap.size) Z1 Yc9) := by rw [← HYc9.out]; exact Fr.setb HF9.out 9 _
  obtain ⟨Yc10, HYc10⟩ : ∃ Y, Hid (Yc9.setCell ⟨W.heap.size, 10, none⟩ (.int .i64 6) = Y) := ⟨_, rfl⟩
  have G11 : Hid (Yc10.heap[W.heap.size]? = some (.cells #[.int .i64 o, .slice none 0 0, .bool false, .bool false, .bool false, .bool false, .bool false, .bool true, .bool true, .slice none 0 0, .int .i64 6, .int .i64 0, .int .i64 0, .bool false, .slice none 0 0] 33 (0, 0))) := by rw [← HYc10.out]; exact blk_set G10.out 10 _
  have HF11 : Hid (Fr (fun k => k = W.heap.size) Z1 Yc10) := by rw [← HYc10.out]; exact Fr.setb HF10.out 10 _
  obtain ⟨Yc11, HYc11⟩ : ∃ Y, Hid (Yc10.setCell ⟨W.heap.size, 11, none⟩ (.int .i64 0) = Y) := ⟨_, rfl⟩
  have G12 : Hid (Yc11.heap[W.heap.size]? = some (.cells #[.int .i64 o, .slice none 0 0, .bool false, .bool false, .bool false, .bool false, .bool false, .bool true, .bool true, .slice none 0 0, .int .i64 6, .int .i64 0, .int .i64 0, .bool false, .slice none 0 0] 33 (0, 0))) := by rw [← HYc11.out]; exact blk_set G11.out 11 _
  have HF12 : Hid (Fr (fun k => k = W.heap.size) Z1 Yc11) := by rw [← HYc11.out]; exact Fr.setb HF11.out 11 _
  obtain ⟨Yc12, HYc12⟩ : ∃ Y, Hid (Yc11.setCell ⟨W.heap.size, 12, none⟩ (.int .i64 0) = Y) := ⟨_, rfl⟩
  have G13 : Hid (Yc12.heap[W.heap.size]? = some (.cells #[.int .i64 o, .slice none 0 0, .bool false, .bool false, .bool false, .bool false, .bool false, .bool true, .bool true, .slice none 0 0, .int .i64 6, .int .i64 0, .int .i64 0, .bool false, .slice none 0 0] 33 (0, 0))) := by rw [← HYc12.out]; exact blk_set G12.out 12 _
  have HF13 : Hid (Fr (fun k => k = W.heap.size) Z1 Yc12) := by rw [← HYc12.out]; exact Fr.setb HF12.out 12 _
  obtain ⟨Yc13, HYc13⟩ : ∃ Y, Hid (Yc12.setCell ⟨W.heap.size, 13, none⟩ (.bool false) = Y) := ⟨_, rfl⟩
  have G14 : Hid (Yc13.heap[W.heap.size]? = some (.cells #[.int .i64 o, .slice none 0 0, .bool false, .bool false, .bool false, .bool false, .bool false, .bool true, .bool true, .slice none 0 0, .int .i64 6, .int .i64 0, .int .i64 0, .bool false, .slice none 0 0] 33 (0, 0))) := by rw [← HYc13.out]; exact blk_set G13.out 13 _
  have HF14 : Hid (Fr (fun k => k = W.heap.size) Z1 Yc13) := by rw [← HYc13.out]; exact Fr.setb HF13.out 13 _
  obtain ⟨Y9, HYc14⟩ : ∃ Y, Hid (Yc13.setCell ⟨W.heap.size, 14, none⟩ (.slice (some ⟨W.heap.size + 1, 0, none⟩) 1 1) = Y) := ⟨_, rfl⟩
  have G15 : Hid (Y9.heap[W.heap.size]? = some (.cells #[.int .i64 o, .slice none 0 0, .bool false, .bool false, .bool false, .bool false, .bool false, .bool true, .bool true, .slice none 0 0, .int .i64 6, .int .i64 0, .int .i64 0, .bool false, .slice (some ⟨W.heap.size + 1, 0, none⟩) 1 1] 33 (0, 0))) := by rw [← HYc14.out]; exact blk_set G14.out 14 _
  have HF15 : Hid (Fr (fun k => k = W.heap.size) Z1 Y9) := by rw [← HYc14.out]; exact Fr.setb HF14.out 14 _
  have HYR := G15
  have HYF := HF15
  rw [HYc0.out, HYc1.out, HYc2.out, HYc3.out, HYc4.out, HYc5.out, HYc6.out, HYc7.out, HYc8.out, HYc9.out, HYc10.out, HYc11.out, HYc12.out, HYc13.out, HYc14.out]
  clear hrb e0 f0 HYc0 e1 f1 HYc1 e2 f2 HYc2 e3 f3 HYc3 e4 f4 HYc4 e5 f5 HYc5 e6 f6 HYc6 e7 f7 HYc7 e8 f8 HYc8 e9 f9 HYc9 e10 f10 HYc10 e11 f11 HYc11 e12 f12 HYc12 e13 f13 HYc13 e14 f14 HYc14 G0 HF0 G1 HF1 G2 HF2 G3 HF3 G4 HF4 G5 HF5 G6 HF6 G7 HF7 G8 HF8 G9 HF9 G10 HF10 G11 HF11 G12 HF12 G13 HF13 G14 HF14
  refine hK.out _ _ trivial ?_
  clear hK K
  simp only [Act.put, List.setIfInBounds_toArray, List.set_cons_zero, List.set_cons_succ, Reg.Kept]
  refine Reg.G.done (by kernel_rfl) ?_
  go_wp2_with fail
  have HBB : Hid (Below X2.heap.size X2 Z1) := HBX2d.out.trans ((HB4.out).mono HBX2d.out.size)
  have hw2 : W.heap.size < X2.heap.size := lt_of_blk HR2.out
  have hk9 : Y9.heap[W.heap.size + 1]? = some (.cells #[.int .i64 3, .int .i64 m, .int .i64 1, .bool false, .slice none 0 0] 31 (0, 0)) := (HYF.out.blk ((HBB.out.block _ (lt_of_blk HK2.out)).trans HK2.out) (by omega))
  have hbel : Below W.heap.size W Y9 := (HB2.out.trans (HBB.out.mono HB2.out.size)).trans ⟨HYF.out.os, HYF.out.tape, HYF.out.output, HYF.out.size, fun k hk => HYF.out.block k (by have := HBB.out.size; omega) (by omega)⟩
  refine bodyPost_ret (Dl.results_cell1 rfl rfl (run_loadVar_row (P := Tryd.prog) _ W.heap.size 33 33 _ (0, 0) _ HYR.out Tryd.underlying33 rfl (by kernel_rfl))) rfl ⟨W.heap.size + 1, rfl, ⟨fun hp => absurd hp (Nat.lt_irrefl _), Nat.zero_le _, ⟨rfl, (Row.nil _ _), fun x hx => by cases hx⟩, ?_⟩, hbel⟩
  exact Dl.tree_blk (W := Y9) [(.mk 3 m 1 false [], .slice none 0 0)] (k := 6) (m := 0) (e := 0) (b := false) (n := 1) (cp := 1) hk9 rfl rfl (by decide) (by decide) (by intro x hx; simp only [List.mem_cons, List.not_mem_nil, or_false] at hx; subst hx; exact Dl.tree_leaf _ 3 m 1 false HM.out (by unfold wf; decide)) (by unfold wf; decide) (by unfold wf; decide)
end Go.Proofs.YticlmkfifpkdpaaDoor.Rc
namespace Go.Proofs.YticlmkfifpkdpaaDoor.Rc
open Go.RowKit Go.Shelf Mem Vw
open Zn (Zone ChRow loc localOf)
open Dl (When Term Cal noev whenc nv tc ccs Tree CalAt wf C0 Bf bf_keep)
set_option linter.unusedVariables false
set_option linter.unusedSimpArgs false
theorem deemed_at (r : Rule) (p : RP) (n : Notice) {X : World} (h : RuleAt X r p) (hbf : Bf X) {cs ds : Array Value} (hcs : (ncs n).toArray = cs) (hds : (rcs r p).toArray = ds) {f l e : Int} (hd : deemed r n = (f, l, e)) :
    Calls Tryd.prog 15 #[.agg ds, .agg cs] X fun e' w' => e' = .returned (.tuple #[.int .i64 f, .int .i64 l, .int .i64 e]) ∧ Below X.heap.size X w' := by
  subst hcs hds
  have h2 := deemed_any r p n X h hbf
  rw [hd] at h2
  exact h2
set_option maxRecDepth 100000 in
set_option maxHeartbeats 8000000 in
theorem days_true (s gt k f l : Int) (W : World) (hbf : Bf W) (hd : deemed (cutR 60 1020) ⟨s, gt, k⟩ = (f, l, 0)) : Calls Tryd.prog 34 #[.agg #[.int .i64 s, .int .i64 gt, .int .i64 k], .int .i64 f, .int .i64 l] W fun e w' => e = .returned (.bool true) ∧ Below W.heap.size W w' := by
  have HBF := Lib.hid hbf; have HDE := Lib.hid hd
  clear hbf hd
  obtain ⟨X2, HX2⟩ : ∃ X, Hid (W.alloc (.cells #[.int .i64 s, .int .i64 gt, .int .i64 k] 35) = X) := ⟨_, rfl⟩
  have HB2 : Hid (Below W.heap.size W X2) := by rw [← HX2.out]; exact (Below.refl _ W).alloc (Nat.le_refl _) _
  have HN2 : Hid (X2.heap[W.heap.size]? = some (.cells #[.int .i64 s, .int .i64 gt, .int .i64 k] 35 (0, 0))) := by rw [← HX2.out]; exact blk_newn rfl
  go_enter Tryd.func34, Tryd.ntmps34
  go_upto_region 1 with fail
  rw [HX2.out]
  clear HX2
  go_cut [7, 8, 9] (fun s7 s8 s9 wx => s7 = .int .i64 f ∧ s8 = .int .i64 l ∧ s9 = .int .i64 0 ∧ Hid (Below W.heap.size W wx))
  case first =>
    refine Reg.G.start (by kernel_rfl) ?_
    obtain ⟨X2d, HX2d⟩ : ∃ Y, Hid (X2.drew = Y) := ⟨_, rfl⟩
    have HBX2d : Hid (Below X2.heap.size X2 X2d) := by rw [← HX2d.out]; exact ⟨rfl, rfl, rfl, Nat.le_refl _, fun k hk => rfl⟩
    rw [HX2d.out]
    clear HX2d
    refine' Reg.G.take (i := 1) (v := _) (F := (fun w => Below X2d.heap.size X2d w)) rfl (by rfl) (by kernel_rfl) (by kernel_rfl) (by kernel_rfl) (fun _ _ _ h => h) (Below.refl X2d.heap.size X2d) ?hyd1 ?rehyd1
    case hyd1 => intro w hw; have hbt := ((HBX2d.out.trans (Below.mono hw HBX2d.out.size)).block _ (lt_of_blk HN2.out)).trans HN2.out; have t0 : w.cell? ⟨W.heap.size, 0, none⟩ = some (.int .i64 s) := Mem.cell_of_blk hbt 0; have t1 : w.cell? ⟨W.heap.size, 1, none⟩ = some (.int .i64 gt) := Mem.cell_of_blk hbt 1; have t2 : w.cell? ⟨W.heap.size, 2, none⟩ = some (.int .i64 k) := Mem.cell_of_blk hbt 2; clear hbt hw; first | (go_simp; done) | (go_simp; with_reducible rfl)
    simp only [Act.put, List.setIfInBounds_toArray, List.set_cons_zero, List.set_cons_succ]
    refine Reg.G.step (j := 0) (m := [true]) [1] rfl (by kernel_rfl) rfl (by kernel_rfl) (fun K hK => ?_)
    go_simp
    refine (cut_any 60 1020 X2d (by unfold wf; decide) (by unfold wf; decide)).mono ?_
    rintro e9 Z1 ⟨g, rfl, hru, hb2⟩
    have HZ3 := Lib.hid hb2
    clear hb2
    have HB4 : Hid (Below X2d.heap.size X2d Z1) := (Below.refl X2d.heap.size X2d).trans (HZ3.out.mono (Below.refl X2d.heap.size X2d).size)
    have HRU := Lib.hid hru
    clear hru
    refine hK.out _ _ ⟨HB4.out, trivial⟩ ?_
    clear hK K
    simp only [Act.put, List.setIfInBounds_toArray, List.set_cons_zero, List.set_cons_succ, Reg.Kept]
    refine Reg.G.step (j := 2) (m := [false]) [1] rfl (by kernel_rfl) rfl (by kernel_rfl) (fun K hK => ?_)
    go_simp
    refine (deemed_at (cutR 60 1020) (cutP g) ⟨s, gt, k⟩ HRU.out (bf_keep HBF.out (HB2.out.trans (HBX2d.out.trans ((HB4.out).mono HBX2d.out.size) |>.mono HB2.out.size))) rfl rfl HDE.out).mono ?_
    rintro e9 Z5 ⟨rfl, hb6⟩
    have HZ7 := Lib.hid hb6
    clear hb6
    have HB8 : Hid (Below X2d.heap.size X2d Z5) := (HB4.out).trans (HZ7.out.mono (HB4.out).size)
    have HF9 := Lib.hid (HRU.out.below HZ7.out)
    refine hK.out _ _ trivial ?_
    clear hK K
    simp only [Act.put, List.setIfInBounds_toArray, List.set_cons_zero, List.set_cons_succ, Reg.Kept]
    refine' Reg.G.pure (i := 3) (v := _) rfl (by rfl) (by kernel_rfl) (by kernel_rfl) (by kernel_rfl) (fun _ _ _ h => h) ?hyd2 ?rehyd2
    case hyd2 => exact fun w => by first | (go_simp; done) | (go_simp; with_reducible rfl)
    simp only [Act.put, List.setIfInBounds_toArray, List.set_cons_zero, List.set_cons_succ]
    refine' Reg.G.pure (i := 4) (v := _) rfl (by rfl) (by kernel_rfl) (by kernel_rfl) (by kernel_rfl) (fun _ _ _ h => h) ?hyd3 ?rehyd3
    case hyd3 => exact fun w => by first | (go_simp; done) | (go_simp; with_reducible rfl)
    simp only [Act.put, List.setIfInBounds_toArray, List.set_cons_zero, List.set_cons_succ]
    refine' Reg.G.pure (i := 5) (v := _) rfl (by rfl) (by kernel_rfl) (by kernel_rfl) (by kernel_rfl) (fun _ _ _ h => h) ?hyd4 ?rehyd4
    case hyd4 => exact fun w => by first | (go_simp; done) | (go_simp; with_reducible rfl)
    simp only [Act.put, List.setIfInBounds_toArray, List.set_cons_zero, List.set_cons_succ]
    refine' Reg.G.pure (i := 6) (v := _) rfl (by rfl) (by kernel_rfl) (by kernel_rfl) (by kernel_rfl) (fun _ _ _ h => h) ?hyd5 ?rehyd5
    case hyd5 => exact fun w => by first | (go_simp; done) | (go_simp; with_reducible rfl)
    simp only [Act.put, List.setIfInBounds_toArray, List.set_cons_zero, List.set_cons_succ]
    refine' Reg.G.pure (i := 7) (v := _) rfl (by rfl) (by kernel_rfl) (by kernel_rfl) (by kernel_rfl) (fun _ _ _ h => h) ?hyd6 ?rehyd6
    case hyd6 => exact fun w => by first | (go_simp; done) | (go_simp; with_reducible rfl)
    simp only [Act.put, List.setIfInBounds_toArray, List.set_cons_zero, List.set_cons_succ]
    refine' Reg.G.pure (i := 8) (v := _) rfl (by rfl) (by kernel_rfl) (by kernel_rfl) (by kernel_rfl) (fun _ _ _ h => h) ?hyd7 ?rehyd7
    case hyd7 => exact fun w => by first | (go_simp; done) | (go_simp; with_reducible rfl)
    simp only [Act.put, List.setIfInBounds_toArray, List.set_cons_zero, List.set_cons_succ]
    refine' Reg.G.pure (i := 9) (v := _) rfl (by rfl) (by kernel_rfl) (by kernel_rfl) (by kernel_rfl) (fun _ _ _ h => h) ?hyd8 ?rehyd8
    case hyd8 => exact fun w => by first | (go_simp; done) | (go_simp; with_reducible rfl)
    simp only [Act.put, List.setIfInBounds_toArray, List.set_cons_zero, List.set_cons_succ]
    refine Reg.G.done (by kernel_rfl) ?_
    go_wp2_with fail
    go_meet
    exact ⟨rfl, rfl, rfl, HB2.out.trans (HBX2d.out.trans ((HB8.out).mono HBX2d.out.size) |>.mono HB2.out.size)⟩
  case rest =>
  obtain ⟨rfl, rfl, rfl, HB⟩ := hcut
  go_wp2_with fail
  go_ret
  exact ⟨rfl, HB.out⟩
set_option maxRecDepth 100000 in
set_option maxHeartbeats 8000000 in
theorem fact_head (g : Nat) (W : World) (hr : RuleAt W (cutR 60 1020) (cutP g)) (hbf : Bf W) : Calls Tryd.prog 33 #[.agg (rcs (cutR 60 1020) (cutP g)).toArray, .agg #[.int .i64 (-1), .int .i64 6720, .int .i64 0], .int .i64 5, .int .i64 3, .int .i64 2, .int .i64 9] W
    fun e w' => e = .returned (.tuple #[.agg #[.int .i64 3, .int .i64 2, .int .i64 2, .int .i64 2, .int .i64 9, .bool false], .int .i64 0]) ∧ Below W.heap.size W w' := by
  have HR := Lib.hid hr; have HBF := Lib.hid hbf
  clear hr hbf
  obtain ⟨X, HX⟩ : ∃ X, Hid (((W.alloc (.cells (rcs (cutR 60 1020) (cutP g)).toArray 33)).alloc (.cells #[.int .i64 (-1), .int .i64 6720, .int .i64 0] 35)).alloc (.cells #[.int .i64 0, .int .i64 0, .int .i64 0, .int .i64 0, .int .i64 0, .bool false] 76) = X) := ⟨_, rfl⟩
  have HB : Hid (Below W.heap.size W X) := by rw [← HX.out]; exact (((Below.refl _ W).alloc (Nat.le_refl _) _).alloc (by simp) _).alloc (by simp; omega) _
  have HR0 : Hid (X.heap[W.heap.size]? = some (.cells (rcs (cutR 60 1020) (cutP g)).toArray 33 (0, 0))) := by rw [← HX.out]; exact blk_alloc (blk_alloc (blk_newn rfl) _) _
  have HN0 : Hid (X.heap[W.heap.size + 1]? = some (.cells #[.int .i64 (-1), .int .i64 6720, .int .i64 0] 35 (0, 0))) := by rw [← HX.out]; exact blk_alloc (blk_newn (by simp)) _
  have HF0 : Hid (X.heap[W.heap.size + 1 + 1]? = some (.cells #[.int .i64 0, .int .i64 0, .int .i64 0, .int .i64 0, .int .i64 0, .bool false] 76 (0, 0))) := by rw [← HX.out]; exact blk_newn (by simp)
  go_enter Tryd.func33, Tryd.ntmps33
  go_upto_region 1 with fail
  rw [HX.out]
  clear HX
  obtain ⟨⟨z0, z1⟩, ⟨⟨c0, c1, c2, c3⟩, c4, c5, c6, c7⟩, t0, t1, t2, t3, t4⟩ := rule_cells HR0.out
  have n0 : X.cell? ⟨W.heap.size + 1, 0, none⟩ = some (.int .i64 (-1)) := Mem.cell_of_blk HN0.out 0
  have n1 : X.cell? ⟨W.heap.size + 1, 1, none⟩ = some (.int .i64 6720) := Mem.cell_of_blk HN0.out 1
  have n2 : X.cell? ⟨W.heap.size + 1, 2, none⟩ = some (.int .i64 0) := Mem.cell_of_blk HN0.out 2
  have HD := Lib.hid (deemed_at (cutR 60 1020) (cutP g) ⟨-1, 6720, 0⟩ (HR.out.below HB.out) (bf_keep HBF.out HB.out) rfl rfl hd6720)
  go_upto_region 3 with fail
  go_wp2_with fail
  refine HD.out.mono ?_
  rintro e9 X1 ⟨rfl, hb1⟩
  have HB1 : Hid (Below W.heap.size W X1) := HB.out.trans (hb1.mono HB.out.size)
  have HF1 := Lib.hid ((hb1.block _ (lt_of_blk HF0.out)).trans HF0.out)
  clear hb1 HD z0 z1 c0 c1 c2 c3 c4 c5 c6 c7 t0 t1 t2 t3 t4 n0 n1 n2
  have f0 : X1.cell? ⟨W.heap.size + 1 + 1, 0, none⟩ = some (.int .i64 0) := Mem.cell_of_blk HF1.out 0
  have f1 : X1.cell? ⟨W.heap.size + 1 + 1, 1, none⟩ = some (.int .i64 0) := Mem.cell_of_blk HF1.out 1
  have f2 : X1.cell? ⟨W.heap.size + 1 + 1, 2, none⟩ = some (.int .i64 0) := Mem.cell_of_blk HF1.out 2
  have f3 : X1.cell? ⟨W.heap.size + 1 + 1, 3, none⟩ = some (.int .i64 0) := Mem.cell_of_blk HF1.out 3
  have f4 : X1.cell? ⟨W.heap.size + 1 + 1, 4, none⟩ = some (.int .i64 0) := Mem.cell_of_blk HF1.out 4
  have f5 : X1.cell? ⟨W.heap.size + 1 + 1, 5, none⟩ = some (.bool false) := Mem.cell_of_blk HF1.out 5
  have g0 := Mem.froz_of_blk HF1.out 0; have g1 := Mem.froz_of_blk HF1.out 1; have g2 := Mem.froz_of_blk HF1.out 2; have g3 := Mem.froz_of_blk HF1.out 3; have g4 := Mem.froz_of_blk HF1.out 4; have g5 := Mem.froz_of_blk HF1.out 5
  go_wp2_with fail
  have hcell := blk_set (blk_set (blk_set (blk_set (blk_set (blk_set HF1.out 0 (.int .i64 3)) 1 (.int .i64 2)) 2 (.int .i64 2)) 3 (.int .i64 2)) 4 (.int .i64 9)) 5 (.bool false)
  refine bodyPost_ret (results_cell_tmp rfl rfl (run_loadVar_row (P := Tryd.prog) _ (W.heap.size + 1 + 1) 76 76 _ (0, 0) _ hcell Tryd.underlying76 rfl (by kernel_rfl))) rfl ⟨rfl, ?_⟩
  have hs : W.heap.size ≤ W.heap.size + 1 + 1 := by omega
  exact (((((HB1.out.setCell (p := ⟨W.heap.size + 1 + 1, 0, none⟩) hs _).setCell (p := ⟨W.heap.size + 1 + 1, 1, none⟩) hs _).setCell (p := ⟨W.heap.size + 1 + 1, 2, none⟩) hs _).setCell (p := ⟨W.heap.size + 1 + 1, 3, none⟩) hs _).setCell (p := ⟨W.heap.size + 1 + 1, 4, none⟩) hs _).setCell (p := ⟨W.heap.size + 1 + 1, 5, none⟩) hs _
end Go.Proofs.YticlmkfifpkdpaaDoor.Rc
namespace Go.Proofs.YticlmkfifpkdpaaDoor.Rc
open Go.RowKit Go.Shelf Mem Vw
open Dl (Bf bf_keep wf)
set_option linter.unusedVariables false
set_option linter.unusedSimpArgs false
set_option maxRecDepth 100000 in
set_option maxHeartbeats 8000000 in
theorem head_any (W : World) (hbf : Bf W) : Calls Tryd.prog 13 #[] W fun e w' => e = .returned (.bool true) ∧ Below W.heap.size W w' := by
  have HBF := Lib.hid hbf
  clear hbf
  go_enter Tryd.func13, Tryd.ntmps13
  go_wp2_with fail
  refine (cut_any 60 1020 W (by unfold wf; decide) (by unfold wf; decide)).mono ?_
  rintro e9 w1 ⟨g1, rfl, hru, hb⟩
  have HBw1 : Hid (Below W.heap.size W w1) := hb
  clear hb
  have HRU1 := Lib.hid hru
  clear hru
  go_wp2_with fail
  refine (deemed_at (cutR 60 1020) (cutP g1) ⟨1000, 990, 4⟩ HRU1.out (bf_keep HBF.out HBw1.out) rfl rfl hdEv).mono ?_
  rintro e9 w2 ⟨rfl, hb⟩
  have HBw2 : Hid (Below W.heap.size W w2) := HBw1.out.trans (hb.mono HBw1.out.size)
  clear hb
  clear HRU1
  go_wp2_with fail
  refine (cut_any 60 1020 w2 (by unfold wf; decide) (by unfold wf; decide)).mono ?_
  rintro e9 w3 ⟨g2, rfl, hru, hb⟩
  have HBw3 : Hid (Below W.heap.size W w3) := HBw2.out.trans (hb.mono HBw2.out.size)
  clear hb
  have HRU2 := Lib.hid hru
  clear hru
  go_wp2_with fail
  refine (deemed_at (cutR 60 1020) (cutP g2) ⟨1000, -1, 0⟩ HRU2.out (bf_keep HBF.out HBw3.out) rfl rfl hdNone).mono ?_
  rintro e9 w4 ⟨rfl, hb⟩
  have HBw4 : Hid (Below W.heap.size W w4) := HBw3.out.trans (hb.mono HBw3.out.size)
  clear hb
  clear HRU2
  go_wp2_with fail
  refine (cut_any 60 1020 w4 (by unfold wf; decide) (by unfold wf; decide)).mono ?_
  rintro e9 w5 ⟨g3, rfl, hru, hb⟩
  have HBw5 : Hid (Below W.heap.size W w5) := HBw4.out.trans (hb.mono HBw4.out.size)
  clear hb
  have HRU3 := Lib.hid hru
  clear hru
  go_wp2_with fail
  refine (fact_head g3 w5 HRU3.out (bf_keep HBF.out HBw5.out)).mono ?_
  rintro e9 w6 ⟨rfl, hb⟩
  have HBw6 : Hid (Below W.heap.size W w6) := HBw5.out.trans (hb.mono HBw5.out.size)
  clear hb
  clear HRU3
  obtain ⟨w7, HW7⟩ : ∃ Y, Hid (w6.alloc (.cells #[.int .i64 3, .int .i64 2, .int .i64 2, .int .i64 2, .int .i64 9, .bool false] 76) = Y) := ⟨_, rfl⟩
  have HF7 : Hid (w7.heap[w6.heap.size]? = some (.cells #[.int .i64 3, .int .i64 2, .int .i64 2, .int .i64 2, .int .i64 9, .bool false] 76 (0, 0))) := by rw [← HW7.out]; exact blk_newn rfl
  have HBw7 : Hid (Below W.heap.size W w7) := by rw [← HW7.out]; exact HBw6.out.alloc HBw6.out.size _
  go_upto_region 4 with fail
  rw [HW7.out]
  clear HW7
  go_wp2_with fail
  refine (days_true (-1) 959 0 0 0 w7 (bf_keep HBF.out HBw7.out) hd959).mono ?_
  rintro e9 w8 ⟨rfl, hb⟩
  have HFw8 := Lib.hid ((hb.block _ (lt_of_blk HF7.out)).trans HF7.out)
  have HBw8 : Hid (Below W.heap.size W w8) := HBw7.out.trans (hb.mono HBw7.out.size)
  clear hb
  go_wp2_with fail
  refine (days_true (-1) 960 0 1 1 w8 (bf_keep HBF.out HBw8.out) hd960).mono ?_
  rintro e9 w9 ⟨rfl, hb⟩
  have HFw9 := Lib.hid ((hb.block _ (lt_of_blk HFw8.out)).trans HFw8.out)
  have HBw9 : Hid (Below W.heap.size W w9) := HBw8.out.trans (hb.mono HBw8.out.size)
  clear hb
  go_wp2_with fail
  refine (days_true (-1) 960 1 0 1 w9 (bf_keep HBF.out HBw9.out) hd9601).mono ?_
  rintro e9 w10 ⟨rfl, hb⟩
  have HFw10 := Lib.hid ((hb.block _ (lt_of_blk HFw9.out)).trans HFw9.out)
  have HBw10 : Hid (Below W.heap.size W w10) := HBw9.out.trans (hb.mono HBw9.out.size)
  clear hb
  go_wp2_with fail
  refine (days_true (-1) 6719 0 4 4 w10 (bf_keep HBF.out HBw10.out) hd6719).mono ?_
  rintro e9 w11 ⟨rfl, hb⟩
  have HFw11 := Lib.hid ((hb.block _ (lt_of_blk HFw10.out)).trans HFw10.out)
  have HBw11 : Hid (Below W.heap.size W w11) := HBw10.out.trans (hb.mono HBw10.out.size)
  clear hb
  go_wp2_with fail
  refine (days_true (-1) 6720 0 7 7 w11 (bf_keep HBF.out HBw11.out) hd6720).mono ?_
  rintro e9 w12 ⟨rfl, hb⟩
  have HFw12 := Lib.hid ((hb.block _ (lt_of_blk HFw11.out)).trans HFw11.out)
  have HBw12 : Hid (Below W.heap.size W w12) := HBw11.out.trans (hb.mono HBw11.out.size)
  clear hb
  have f0 : w12.cell? ⟨w6.heap.size, 0, none⟩ = some (.int .i64 3) := Mem.cell_of_blk HFw12.out 0
  have f1 : w12.cell? ⟨w6.heap.size, 1, none⟩ = some (.int .i64 2) := Mem.cell_of_blk HFw12.out 1
  have f2 : w12.cell? ⟨w6.heap.size, 2, none⟩ = some (.int .i64 2) := Mem.cell_of_blk HFw12.out 2
  have f3 : w12.cell? ⟨w6.heap.size, 3, none⟩ = some (.int .i64 2) := Mem.cell_of_blk HFw12.out 3
  have f4 : w12.cell? ⟨w6.heap.size, 4, none⟩ = some (.int .i64 9) := Mem.cell_of_blk HFw12.out 4
  have f5 : w12.cell? ⟨w6.heap.size, 5, none⟩ = some (.bool false) := Mem.cell_of_blk HFw12.out 5
  go_wp2_with fail
  go_ret
  exact ⟨rfl, HBw12.out⟩
end Go.Proofs.YticlmkfifpkdpaaDoor.Rc
