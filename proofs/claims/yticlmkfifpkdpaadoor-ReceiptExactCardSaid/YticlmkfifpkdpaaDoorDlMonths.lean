/-
  date.Months walked.
-/
import Derived.Test.YticlmkfifpkdpaaDoorDlAdd
namespace Go.Proofs.YticlmkfifpkdpaaDoor.Dl
open Go.RowKit Mem Vw
set_option linter.unusedVariables false
set_option linter.unusedSimpArgs false

theorem Bf.below {W W' : World} (h : Bf W) (hb : Below W.heap.size W W') : Bf W' := h.fr (S := fun _ => False) ⟨hb.os, hb.tape, hb.output, hb.size, fun k hk _ => hb.block k hk⟩ (fun _ h => h.elim)
set_option maxRecDepth 100000 in
set_option maxHeartbeats 4000000 in
theorem months_any (d n : Int) (W : World) (hbf : Bf W) (hd : 0 ≤ d) (hd' : d ≤ 73048) (hn : 0 ≤ n) (hn' : n ≤ 120) :
    Calls Tryd.prog 95 #[.int .i64 d, .int .i64 n] W fun e w' => e = .returned (srchv (months d n)) ∧ Below W.heap.size W w' := by
  have HD : Hid (∀ w, Calls Tryd.prog 56 #[.int .i64 d] w fun e w' => e = .returned (.bool true) ∧ w' = w) := fun w => by
    have h := isDay_any d w
    rwa [(isDay_iff d).2 ⟨hd, hd'⟩] at h
  have HCV := Lib.hid (civil_any d W hd hd' hbf)
  have HBF := Lib.hid hbf; clear hbf
  go_enter Tryd.func95, Tryd.ntmps95
  go_wp2_with fail
  refine (HD.out W).mono ?_
  rintro e w0 ⟨rfl, rfl⟩
  go_wp2_with fail
  refine HCV.out.mono ?_
  rintro e w1 ⟨c, rfl, hc, hb1⟩
  have HME := Lib.hid (months_eq hc n)
  have HNC := Lib.hid hc
  have HB1 := Lib.hid hb1
  obtain ⟨c1, c2, c3, c4, c5, c6, c7⟩ := number_spec hc
  have c8 := (dB_bd c.y (c.m + 1)).2
  have c9 := (dB_bd c.y c.m).1
  have c10 : c.d ≤ 366 := by omega
  clear c6 c7 c8 c9 hb1 hc
  obtain ⟨y, m, dd⟩ := c
  dsimp only at c1 c2 c3 c4 c5 c10
  go_upto_region 4 with fail
  obtain ⟨w2, HW2⟩ : ∃ w2, Hid (w1.alloc (.cells #[.int .i64 y, .int .i64 m, .int .i64 dd] 152) = w2) := ⟨_, rfl⟩
  have HB2 : Hid (w2.heap[w1.heap.size]? = some (.cells #[.int .i64 y, .int .i64 m, .int .i64 dd] 152 (0, 0))) := by rw [← HW2.out]; exact blk_newn rfl
  have HBE2 : Hid (Below w0.heap.size w0 w2) := by rw [← HW2.out]; exact HB1.out.alloc HB1.out.size _
  have HLE : Hid (w0.heap.size ≤ w1.heap.size) := HB1.out.size
  rw [HW2.out]
  clear HW2
  have s0 : w2.cell? ⟨w1.heap.size, 0, none⟩ = some (.int .i64 y) := cell_of_blk HB2.out 0
  have s1 : w2.cell? ⟨w1.heap.size, 1, none⟩ = some (.int .i64 m) := cell_of_blk HB2.out 1
  have f0 : w2.frozen? ⟨w1.heap.size, 0, none⟩ = false := froz_of_blk HB2.out 0
  have f1 : w2.frozen? ⟨w1.heap.size, 1, none⟩ = false := froz_of_blk HB2.out 1
  obtain ⟨t, ht, ht1, ht2⟩ : ∃ t, y * 12 + m - 1 + n = t ∧ 23880 ≤ t ∧ t ≤ 30000 := ⟨_, rfl, by omega, by omega⟩
  have HT := Lib.hid ht
  have e1 : IntKind.i64.wrap (y * 12 + m - 1 + n) = t := by rw [ht]; exact IntWalk.i64_in _ (by omega)
  obtain ⟨ty, hty, ht3, ht4⟩ : ∃ ty, t / 12 = ty ∧ 1990 ≤ ty ∧ ty ≤ 2500 := ⟨_, rfl, by omega, by omega⟩
  obtain ⟨k, htm, ht5⟩ : ∃ k : Nat, t % 12 = (k : Int) ∧ k < 12 := ⟨(t % 12).toNat, by omega, by omega⟩
  have e2 : t.tdiv 12 = ty := by rw [Int.tdiv_eq_ediv_of_nonneg (by omega)]; exact hty
  have HLT : Hid (later ⟨y, m, dd⟩ n = if 2189 < ty then none else some (newYear ty + daysBefore ty ((k : Int) + 1) + min dd (daysBefore ty ((k : Int) + 1 + 1) - daysBefore ty ((k : Int) + 1)) - 1)) := by
    show _ = _
    unfold later
    dsimp only
    rw [ht, hty, htm]
  have HTY := Lib.hid hty
  clear hty
  go_upto_region 6 with fail
  obtain ⟨w3, HW3⟩ : ∃ w3, Hid ((w2.setCell ⟨w1.heap.size, 0, none⟩ (.int .i64 ty)).setCell ⟨w1.heap.size, 1, none⟩ (.int .i64 ((k : Int) + 1)) = w3) := ⟨_, rfl⟩
  have HB3 : Hid (w3.heap[w1.heap.size]? = some (.cells #[.int .i64 ty, .int .i64 ((k : Int) + 1), .int .i64 dd] 152 (0, 0))) := by rw [← HW3.out]; exact blk_set (blk_set HB2.out 0 _) 1 _
  have HBE3 : Hid (Below w0.heap.size w0 w3) := by rw [← HW3.out]; exact (HBE2.out.setCell (p := ⟨w1.heap.size, 0, none⟩) HLE.out _).setCell (p := ⟨w1.heap.size, 1, none⟩) HLE.out _
  rw [HW3.out]
  clear HW3 s0 s1 f0 f1 e1 e2
  have s0 : w3.cell? ⟨w1.heap.size, 0, none⟩ = some (.int .i64 ty) := cell_of_blk HB3.out 0
  by_cases hbig : 2189 < ty
  · have HR : Hid (months d n = none) := by show _ = _; rw [HME.out, HLT.out, if_pos hbig]
    go_wp2_with fail
    go_ret2
    exact ⟨by rw [HR.out]; rfl, HBE3.out⟩
  · have HR : Hid (months d n = some (newYear ty + daysBefore ty ((k : Int) + 1) + min dd (daysBefore ty ((k : Int) + 1 + 1) - daysBefore ty ((k : Int) + 1)) - 1)) := by show _ = _; rw [HME.out, HLT.out, if_neg hbig]
    clear HME HLT
    go_upto_region 8 with fail
    have HBF3 : Hid (Bf w3) := HBF.out.below HBE3.out
    have HLN : Hid (∀ w, Bf w → Calls Tryd.prog 112 #[.int .i64 ty, .int .i64 ((k : Int) + 1)] w fun e w' => e = .returned (.int .i64 (daysBefore ty ((k : Int) + 1 + 1) - daysBefore ty ((k : Int) + 1))) ∧ w = w') := fun w hb => length_any ty k w ht5 (by omega) (by omega) hb
    have HST := Lib.hid (daysBefore_step ty ((k : Int) + 1) (by omega) (by omega))
    have h9 := dB_bd ty ((k : Int) + 1 + 1)
    have h8 := (dB_bd ty ((k : Int) + 1)).1
    obtain ⟨L, hL, hL0, hL1⟩ : ∃ L, daysBefore ty ((k : Int) + 1 + 1) - daysBefore ty ((k : Int) + 1) = L ∧ 1 ≤ L ∧ L ≤ 366 := ⟨_, rfl, by have := HST.out; omega, by omega⟩
    rw [hL] at HR HLN
    have HLL := Lib.hid hL
    clear hL h9 h8 s0
    have HBFD : Hid (Bf w3.drew) := ⟨HBF3.out.1, HBF3.out.2⟩
    have HBD : Hid (w3.drew.heap[w1.heap.size]? = some (.cells #[.int .i64 ty, .int .i64 ((k : Int) + 1), .int .i64 dd] 152 (0, 0))) := HB3.out
    refine Reg.G.start (by kernel_rfl) ?_
    refine' Reg.G.pure (i := 0) (v := _) rfl (by rfl) (by kernel_rfl) (by kernel_rfl) (by kernel_rfl) (fun _ _ _ h => h) ?hym1 ?rehym1
    case hym1 => exact fun w => by first | (go_simp; done) | (go_simp; with_reducible rfl)
    simp only [Act.put, List.setIfInBounds_toArray, List.set_cons_zero, List.set_cons_succ]
    refine' Reg.G.take (i := 1) (v := _) (F := (fun w => w.heap[w1.heap.size]? = some (.cells #[.int .i64 ty, .int .i64 ((k : Int) + 1), .int .i64 dd] 152 (0, 0)))) rfl (by rfl) (by kernel_rfl) (by kernel_rfl) (by kernel_rfl) (fun _ _ _ h => h) (HBD.out) ?hym2 ?rehym2
    case hym2 => intro w hw; have kc := cell_of_blk hw 2; clear hw; have kc : w.cell? ⟨w1.heap.size, 2, none⟩ = some (.int .i64 dd) := kc; first | (go_simp; done) | (go_simp; with_reducible rfl)
    simp only [Act.put, List.setIfInBounds_toArray, List.set_cons_zero, List.set_cons_succ]
    refine' Reg.G.pure (i := 2) (v := _) rfl (by rfl) (by kernel_rfl) (by kernel_rfl) (by kernel_rfl) (fun _ _ _ h => h) ?hym3 ?rehym3
    case hym3 => exact fun w => by first | (go_simp; done) | (go_simp; with_reducible rfl)
    simp only [Act.put, List.setIfInBounds_toArray, List.set_cons_zero, List.set_cons_succ]
    refine' Reg.G.take (i := 3) (v := _) (F := (fun w => w.heap[w1.heap.size]? = some (.cells #[.int .i64 ty, .int .i64 ((k : Int) + 1), .int .i64 dd] 152 (0, 0)))) rfl (by rfl) (by kernel_rfl) (by kernel_rfl) (by kernel_rfl) (fun _ _ _ h => h) (HBD.out) ?hym4 ?rehym4
    case hym4 => intro w hw; have kc := cell_of_blk hw 0; clear hw; have kc : w.cell? ⟨w1.heap.size, 0, none⟩ = some (.int .i64 ty) := kc; first | (go_simp; done) | (go_simp; with_reducible rfl)
    simp only [Act.put, List.setIfInBounds_toArray, List.set_cons_zero, List.set_cons_succ]
    refine' Reg.G.pure (i := 4) (v := _) rfl (by rfl) (by kernel_rfl) (by kernel_rfl) (by kernel_rfl) (fun _ _ _ h => h) ?hym5 ?rehym5
    case hym5 => exact fun w => by first | (go_simp; done) | (go_simp; with_reducible rfl)
    simp only [Act.put, List.setIfInBounds_toArray, List.set_cons_zero, List.set_cons_succ]
    refine' Reg.G.take (i := 5) (v := _) (F := (fun w => w.heap[w1.heap.size]? = some (.cells #[.int .i64 ty, .int .i64 ((k : Int) + 1), .int .i64 dd] 152 (0, 0)))) rfl (by rfl) (by kernel_rfl) (by kernel_rfl) (by kernel_rfl) (fun _ _ _ h => h) (HBD.out) ?hym6 ?rehym6
    case hym6 => intro w hw; have kc := cell_of_blk hw 1; clear hw; have kc : w.cell? ⟨w1.heap.size, 1, none⟩ = some (.int .i64 ((k : Int) + 1)) := kc; first | (go_simp; done) | (go_simp; with_reducible rfl)
    simp only [Act.put, List.setIfInBounds_toArray, List.set_cons_zero, List.set_cons_succ]
    refine Reg.G.step (j := 6) (m := [false, false, true]) [5, 3, 1] rfl (by kernel_rfl) rfl (by kernel_rfl) (fun K hK => ?_)
    go_simp
    refine (HLN.out _ (HBFD.out)).mono ?_
    rintro e w5 ⟨rfl, rfl⟩
    refine hK.out _ _ ⟨HBD.out, trivial⟩ ?_
    clear hK K
    simp only [Act.put, List.setIfInBounds_toArray, List.set_cons_zero, List.set_cons_succ, Reg.Kept]
    refine Reg.G.step (j := 7) (m := [false]) [1] rfl (by kernel_rfl) rfl (by kernel_rfl) (fun K hK => ?_)
    go_simp
    refine hK.out _ _ trivial ?_
    clear hK K
    simp only [Act.put, List.setIfInBounds_toArray, List.set_cons_zero, List.set_cons_succ, Reg.Kept]
    refine' Reg.G.pure (i := 8) (v := _) rfl (by rfl) (by kernel_rfl) (by kernel_rfl) (by kernel_rfl) (fun _ _ _ h => h) ?hym7 ?rehym7
    case hym7 => exact fun w => by first | (go_simp; done) | (go_simp; with_reducible rfl)
    simp only [Act.put, List.setIfInBounds_toArray, List.set_cons_zero, List.set_cons_succ]
    refine Reg.G.step (j := 9) (m := []) [] rfl (by kernel_rfl) rfl (by kernel_rfl) (fun K hK => ?_)
    have f2 := froz_of_blk HBD.out 2
    have s2 := cell_of_blk HBD.out 2
    go_simp
    clear f2 s2
    refine hK.out _ _ trivial ?_
    clear hK K
    simp only [Act.put, List.setIfInBounds_toArray, List.set_cons_zero, List.set_cons_succ, Reg.Kept]
    refine Reg.G.done (by kernel_rfl) ?_
    obtain ⟨w4, HW4⟩ : ∃ w4, Hid ((w3.setCell ⟨w1.heap.size, 2, none⟩ (.int .i64 (min dd L))).drew = w4) := ⟨_, rfl⟩
    have HB4 : Hid (w4.heap[w1.heap.size]? = some (.cells #[.int .i64 ty, .int .i64 ((k : Int) + 1), .int .i64 (min dd L)] 152 (0, 0))) := by rw [← HW4.out]; exact blk_set HB3.out 2 _
    have HBE4 : Hid (Below w0.heap.size w0 w4) := by rw [← HW4.out]; exact below_drewN (HBE3.out.setCell (p := ⟨w1.heap.size, 2, none⟩) HLE.out _) 1
    rw [HW4.out]
    clear HW4
    have HNA := Lib.hid (number_any ty k (min dd L) w4 ht5 ht3 (by omega) (by omega) (by omega) (HBF.out.below HBE4.out))
    have s0 : w4.cell? ⟨w1.heap.size, 0, none⟩ = some (.int .i64 ty) := cell_of_blk HB4.out 0
    have s1 : w4.cell? ⟨w1.heap.size, 1, none⟩ = some (.int .i64 ((k : Int) + 1)) := cell_of_blk HB4.out 1
    have s2 : w4.cell? ⟨w1.heap.size, 2, none⟩ = some (.int .i64 (min dd L)) := cell_of_blk HB4.out 2
    go_wp2_with fail
    refine HNA.out.mono ?_
    rintro e w5 ⟨rfl, hf5⟩
    have HBE5 : Hid (Below w0.heap.size w0 w5) := HBE4.out.trans (hf5.below HBE4.out.size (fun _ h => h.elim))
    clear hf5
    go_wp2_with fail
    go_ret2
    exact ⟨by rw [HR.out]; rfl, HBE5.out⟩
end Go.Proofs.YticlmkfifpkdpaaDoor.Dl
