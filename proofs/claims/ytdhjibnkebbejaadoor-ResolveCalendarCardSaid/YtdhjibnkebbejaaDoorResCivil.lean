/-
  The date of a day number: what date.Civil returns.
-/
import Derived.Test.YtdhjibnkebbejaaDoorResDate
import Derived.Test.YtdhjibnkebbejaaDoorBlk
import Derived.Test.YtdhjibnkebbejaaDoorIter
namespace Go.Proofs.YtdhjibnkebbejaaDoor.Rs
open Go.RowKit Mem Vw
set_option linter.unusedVariables false
set_option linter.unusedSimpArgs false

theorem newYear_start (q : Int) (h : 0 ≤ q) (h2 : q ≤ 200) : newYear (1990 + q) ≤ 366 * q := by unfold newYear leaps; omega
theorem newYear_mono (a b : Int) (h0 : 1990 ≤ a) (h : a < b) (h1 : b ≤ 2300) : newYear a + 365 ≤ newYear b := by unfold newYear leaps; omega
theorem newYear_next (y : Int) (h0 : 1990 ≤ y) (h1 : y ≤ 2189) : newYear (y + 1) = newYear y + daysBefore y 13 := by
  have hb : before 13 = 365 := rfl
  unfold daysBefore
  rw [hb]
  unfold newYear leaps leap
  by_cases h4 : y % 4 = 0 <;> by_cases h100 : y % 100 = 0 <;> by_cases h400 : y % 400 = 0 <;> simp [h4, h100, h400] <;> omega
theorem newYear_end : newYear 2190 = 73049 := by decide
theorem daysBefore_one (y : Int) : daysBefore y 1 = 0 := by unfold daysBefore before; simp
theorem daysBefore_step (y m : Int) (h0 : 1 ≤ m) (h1 : m ≤ 12) : daysBefore y m < daysBefore y (m + 1) := by
  have hm : m = 1 ∨ m = 2 ∨ m = 3 ∨ m = 4 ∨ m = 5 ∨ m = 6 ∨ m = 7 ∨ m = 8 ∨ m = 9 ∨ m = 10 ∨ m = 11 ∨ m = 12 := by omega
  unfold daysBefore
  rcases hm with rfl | rfl | rfl | rfl | rfl | rfl | rfl | rfl | rfl | rfl | rfl | rfl <;> cases leap y <;> simp [before]
theorem daysBefore_mono (y : Int) : ∀ (k : Nat) (m : Int), 1 ≤ m → m + k ≤ 13 → daysBefore y m ≤ daysBefore y (m + k) := by
  intro k
  induction k with
  | zero => intro m _ _; simp
  | succ k ih =>
    intro m h0 h1
    have h2 := ih m h0 (by omega)
    have h3 := daysBefore_step y (m + k) (by omega) (by omega)
    have e : m + ((k + 1 : Nat) : Int) = m + k + 1 := by omega
    rw [e]; omega
theorem number_spec {c : Civil} {n : Int} (h : number c = some n) : 1990 ≤ c.y ∧ c.y ≤ 2189 ∧ 1 ≤ c.m ∧ c.m ≤ 12 ∧ 1 ≤ c.d ∧ c.d ≤ daysBefore c.y (c.m + 1) - daysBefore c.y c.m ∧ n = newYear c.y + daysBefore c.y c.m + c.d - 1 := by
  unfold number at h
  by_cases h1 : c.y < 1990 ∨ c.y > 2189 ∨ c.m < 1 ∨ c.m > 12
  · rw [if_pos h1] at h; cases h
  · rw [if_neg h1] at h
    by_cases h2 : c.d < 1 ∨ c.d > daysBefore c.y (c.m + 1) - daysBefore c.y c.m
    · rw [if_pos h2] at h; cases h
    · rw [if_neg h2] at h
      injection h with h
      exact ⟨by omega, by omega, by omega, by omega, by omega, by omega, h.symm⟩
theorem number_mk {c : Civil} (h1 : 1990 ≤ c.y) (h2 : c.y ≤ 2189) (h3 : 1 ≤ c.m) (h4 : c.m ≤ 12) (h5 : 1 ≤ c.d) (h6 : c.d ≤ daysBefore c.y (c.m + 1) - daysBefore c.y c.m) : number c = some (newYear c.y + daysBefore c.y c.m + c.d - 1) := by
  unfold number
  rw [if_neg (by omega), if_neg (by omega)]
theorem number_inj {a b : Civil} {n : Int} (ha : number a = some n) (hb : number b = some n) : a = b := by
  obtain ⟨a1, a2, a3, a4, a5, a6, a7⟩ := number_spec ha
  obtain ⟨b1, b2, b3, b4, b5, b6, b7⟩ := number_spec hb
  obtain ⟨ay, am, ad⟩ := a
  obtain ⟨by_, bm, bd⟩ := b
  dsimp only at *
  have up : ∀ y m d : Int, 1990 ≤ y → y ≤ 2189 → 1 ≤ m → m ≤ 12 → 1 ≤ d → d ≤ daysBefore y (m + 1) - daysBefore y m → newYear y ≤ newYear y + daysBefore y m + d - 1 ∧ newYear y + daysBefore y m + d - 1 < newYear (y + 1) := by
    intro y m d h1 h2 h3 h4 h5 h6
    have := newYear_next y h1 h2
    have h7 := daysBefore_mono y (12 - m).toNat (m + 1) (by omega) (by omega)
    have e : m + 1 + (((12 - m).toNat : Nat) : Int) = 13 := by omega
    rw [e] at h7
    have h8 := (dB_bd y m).1
    omega
  have ua := up ay am ad a1 a2 a3 a4 a5 a6
  have ub := up by_ bm bd b1 b2 b3 b4 b5 b6
  have hy : ay = by_ := by
    rcases (by omega : ay < by_ ∨ ay = by_ ∨ by_ < ay) with h | h | h
    · exfalso
      rcases (by omega : ay + 1 = by_ ∨ ay + 1 < by_) with h' | h'
      · rw [h'] at ua; omega
      · have := newYear_mono (ay + 1) by_ (by omega) h' (by omega); omega
    · exact h
    · exfalso
      rcases (by omega : by_ + 1 = ay ∨ by_ + 1 < ay) with h' | h'
      · rw [h'] at ub; omega
      · have := newYear_mono (by_ + 1) ay (by omega) h' (by omega); omega
  subst hy
  have hm : am = bm := by
    rcases (by omega : am < bm ∨ am = bm ∨ bm < am) with h | h | h
    · exfalso
      have h7 := daysBefore_mono ay (bm - (am + 1)).toNat (am + 1) (by omega) (by omega)
      have e : am + 1 + (((bm - (am + 1)).toNat : Nat) : Int) = bm := by omega
      rw [e] at h7; omega
    · exact h
    · exfalso
      have h7 := daysBefore_mono ay (am - (bm + 1)).toNat (bm + 1) (by omega) (by omega)
      have e : bm + 1 + (((am - (bm + 1)).toNat : Nat) : Int) = am := by omega
      rw [e] at h7; omega
  subst hm
  have hd : ad = bd := by omega
  rw [hd]
def YRel (d : Int) (w0 : World) (yv : Value) (wr : World) : Prop := ∃ y : Int, yv = .int .i64 y ∧ 1990 ≤ y ∧ y ≤ 2189 ∧ newYear y ≤ d ∧ wr = w0
def MnRel (y r : Int) (w0 : World) (mv : Value) (wr : World) : Prop := ∃ k : Nat, mv = .int .i64 ((k : Int) + 1) ∧ k ≤ 11 ∧ daysBefore y ((k : Int) + 1) ≤ r ∧ wr = w0
set_option maxRecDepth 100000 in
set_option maxHeartbeats 4000000 in
theorem civil_any (d : Int) (W : World) (h0 : 0 ≤ d) (h1 : d ≤ 73048) (hb : Bf W) : Calls Tryd.prog 42 #[.int .i64 d] W fun e w' => ∃ c : Civil, e = .returned (.agg #[.int .i64 c.y, .int .i64 c.m, .int .i64 c.d]) ∧ number c = some d ∧ Below W.heap.size W w' := by
  obtain ⟨w0, HW0⟩ : ∃ w0, Hid (W.alloc (.cells #[.int .i64 0, .int .i64 0, .int .i64 0] 23) = w0) := ⟨_, rfl⟩
  have HB0 : Hid (w0.heap[W.heap.size]? = some (.cells #[.int .i64 0, .int .i64 0, .int .i64 0] 23 (0, 0))) := by rw [← HW0.out]; exact blk_newn rfl
  have HBA : Hid (Below W.heap.size W w0) := by rw [← HW0.out]; exact (Below.refl _ W).alloc (Nat.le_refl _) _
  have HBF : Hid (Bf w0) := by rw [← HW0.out]; exact hb.fr (S := fun _ => False) ((Fr.refl _ W).alloc _) (fun _ h => h.elim)
  clear hb
  obtain ⟨q, hq0, hq1, hq2, hq3⟩ : ∃ q : Int, d / 366 = q ∧ 0 ≤ q ∧ q ≤ 199 ∧ 366 * q ≤ d := ⟨d / 366, rfl, by omega, by omega, by omega⟩
  have hq4 : d.tdiv 366 = q := by rw [Int.tdiv_eq_ediv_of_nonneg h0]; exact hq0
  clear hq0
  have hs := newYear_start q hq1 (by omega)
  go_enter Tryd.func42, Tryd.ntmps42
  go_upto_region 1 with fail
  rw [HW0.out]
  go_wp2_with fail
  go_loopw [3] (fun yv wr => YRel d w0 yv wr) (fun yv _ => (2300 - intOf yv).toNat)
  case atStart => exact ⟨1990 + q, rfl, by omega, by omega, by omega, rfl⟩
  case round =>
    obtain ⟨y, rfl, hy0, hy1, hyd, rfl⟩ := hrel
    clear hs hq1 hq2 hq3 hq4
    have HNY := Lib.hid (newYear_any (y + 1) wr (by omega) (by omega))
    have HNY0 := Lib.hid (newYear_any y wr (by omega) (by omega))
    obtain ⟨ny, hny⟩ : ∃ ny, newYear (y + 1) = ny := ⟨_, rfl⟩
    obtain ⟨nz, hnz⟩ : ∃ nz, newYear y = nz := ⟨_, rfl⟩
    have hnn := newYear_next y hy0 hy1
    rw [hny] at HNY hnn
    rw [hnz] at HNY0 hyd hnn
    have hbd := newYear_bd y hy0 hy1
    rw [hnz] at hbd
    have hdb := dB_bd y 13
    have HNN := Lib.hid hnn
    have hny3 : ny ≤ 90000 := by omega
    have hny2 : 0 ≤ ny := by omega
    clear hnn hdb
    have HNE := Lib.hid hny; have HNZ := Lib.hid hnz; clear hny hnz
    go_wp2_with fail
    refine HNY.out.mono ?_
    rintro e w5 ⟨rfl, rfl⟩
    rcases (by omega : ny ≤ d ∨ d < ny) with hle | hlt
    · go_wp2_with fail
      go_roundw
      case rel =>
        refine ⟨y + 1, by go_num, by omega, ?_, by rw [HNE.out]; exact hle, rfl⟩
        rcases (by omega : y + 1 ≤ 2189 ∨ y = 2189) with h | h
        · exact h
        · exfalso
          have := HNE.out
          rw [h] at this
          have h3 := newYear_end
          have e : (2189 : Int) + 1 = 2190 := rfl
          rw [e, h3] at this
          omega
      case measure => simp [intOf]; omega
    · go_wp2_with fail
      refine HNY0.out.mono ?_
      rintro e w5 ⟨rfl, rfl⟩
      obtain ⟨r, hr⟩ : ∃ r, d - nz = r := ⟨_, rfl⟩
      have hr0 : 0 ≤ r := by omega
      have hr1 : r ≤ 366 := by have := HNN.out; have := dB_bd y 13; omega
      have HR := Lib.hid hr
      have hrl : r < daysBefore y 13 := by have := HNN.out; omega
      have HRL := Lib.hid hrl
      clear hrl hlt hny3 hny2
      go_wp2_with fail
      clear hr
      obtain ⟨wq, rfl⟩ : ∃ w : World, w = wr := ⟨_, rfl⟩
      go_loopw [5] (fun mv wr => MnRel y r wq mv wr) (fun mv _ => (20 - intOf mv).toNat)
      case atStart => exact ⟨0, rfl, by omega, by rw [show (((0 : Nat) : Int) + 1) = 1 by omega, daysBefore_one]; exact hr0, rfl⟩
      case round =>
        obtain ⟨k, rfl, hk, hkr, rfl⟩ := hrel
        have HD1 : Hid (Calls Tryd.prog 57 #[.int .i64 y, .int .i64 ((k : Int) + 1 + 1)] wr fun e w' => e = .returned (.int .i64 (daysBefore y ((k : Int) + 1 + 1))) ∧ wr = w') := by
          have h := daysBefore_any y (k + 1) wr (by omega) (by omega) (by omega) HBF.out
          rw [show (((k + 1 : Nat) : Int) + 1) = (k : Int) + 1 + 1 by omega] at h
          exact h
        have HD0 := Lib.hid (daysBefore_any y k wr (by omega) (by omega) (by omega) HBF.out)
        have hk0 : (0 : Int) ≤ (k : Int) := Int.natCast_nonneg _
        have hk11 : (k : Int) ≤ 11 := by omega
        obtain ⟨b1, hb1⟩ : ∃ b, daysBefore y ((k : Int) + 1 + 1) = b := ⟨_, rfl⟩
        obtain ⟨b0, hb0⟩ : ∃ b, daysBefore y ((k : Int) + 1) = b := ⟨_, rfl⟩
        have hbd1 := dB_bd y ((k : Int) + 1 + 1)
        have hbd0 := dB_bd y ((k : Int) + 1)
        rw [hb1] at HD1 hbd1
        rw [hb0] at HD0 hkr hbd0
        have HB1E := Lib.hid hb1; have HB0E := Lib.hid hb0
        clear hb1 hb0
        go_wp2_with fail
        refine HD1.out.mono ?_
        rintro e w5 ⟨rfl, rfl⟩
        rcases (by omega : b1 ≤ r ∨ r < b1) with hle | hlt
        · go_wp2_with fail
          go_roundw
          case rel =>
            refine ⟨k + 1, by go_num, ?_, ?_, rfl⟩
            · rcases (by omega : k + 1 ≤ 11 ∨ k = 11) with h | h
              · exact h
              · exfalso
                have h1 := HB1E.out
                have h2 := HRL.out
                rw [h] at h1
                have e : ((11 : Nat) : Int) + 1 + 1 = 13 := rfl
                rw [e] at h1
                omega
            · rw [show (((k + 1 : Nat) : Int) + 1) = (k : Int) + 1 + 1 by omega, HB1E.out]; exact hle
          case measure => simp [intOf]; omega
        · have c0 : wr.cell? ⟨W.heap.size, 0, none⟩ = some (.int .i64 0) := cell_of_blk HB0.out 0
          have c1 : wr.cell? ⟨W.heap.size, 1, none⟩ = some (.int .i64 0) := cell_of_blk HB0.out 1
          have c2 : wr.cell? ⟨W.heap.size, 2, none⟩ = some (.int .i64 0) := cell_of_blk HB0.out 2
          have f0 : wr.frozen? ⟨W.heap.size, 0, none⟩ = false := froz_of_blk HB0.out 0
          have f1 : wr.frozen? ⟨W.heap.size, 1, none⟩ = false := froz_of_blk HB0.out 1
          have f2 : wr.frozen? ⟨W.heap.size, 2, none⟩ = false := froz_of_blk HB0.out 2
          go_wp2_with fail
          refine HD0.out.mono ?_
          rintro e w5 ⟨rfl, rfl⟩
          go_wp2_with fail
          have HB9 := blk_set (blk_set (blk_set HB0.out 0 (.int .i64 y)) 1 (.int .i64 ((k : Int) + 1))) 2 (.int .i64 (r - b0 + 1))
          refine bodyPost_ret (v := .agg #[.int .i64 y, .int .i64 ((k : Int) + 1), .int .i64 (r - b0 + 1)]) (results_blk Tryd.results42 rfl HB9 Tryd.underlying23 rfl (by kernel_rfl)) rfl ⟨⟨y, (k : Int) + 1, r - b0 + 1⟩, rfl, ?_, ?_⟩
          · have h := number_mk (c := ⟨y, (k : Int) + 1, r - b0 + 1⟩) hy0 hy1 (by show 1 ≤ (k : Int) + 1; omega) (by show (k : Int) + 1 ≤ 12; omega) (by show 1 ≤ r - b0 + 1; omega) (by show r - b0 + 1 ≤ daysBefore y ((k : Int) + 1 + 1) - daysBefore y ((k : Int) + 1); rw [HB1E.out, HB0E.out]; omega)
            rw [h]
            dsimp only
            rw [HB0E.out, HNZ.out]
            have := HR.out
            congr 1
            omega
          · exact ((HBA.out.setCell (p := ⟨W.heap.size, 0, none⟩) (Nat.le_refl _) _).setCell (p := ⟨W.heap.size, 1, none⟩) (Nat.le_refl _) _).setCell (p := ⟨W.heap.size, 2, none⟩) (Nat.le_refl _) _
theorem isDay_any (d : Int) (W : World) (h0 : 0 ≤ d) (h1 : d ≤ 73048) : Calls Tryd.prog 41 #[.int .i64 d] W fun e w' => e = .returned (.bool true) ∧ W = w' := by
  go_enter Tryd.func41, Tryd.ntmps41
  go_wp2_with fail
  go_ret
  exact ⟨rfl, rfl⟩
set_option maxRecDepth 100000 in
set_option maxHeartbeats 4000000 in
theorem Civil_any (d : Int) (W : World) (h0 : 0 ≤ d) (h1 : d ≤ 73048) (hb : Bf W) : Calls Tryd.prog 25 #[.int .i64 d] W fun e w' => ∃ c : Civil, e = .returned (.tuple #[.agg #[.int .i64 c.y, .int .i64 c.m, .int .i64 c.d], .int .i64 0]) ∧ number c = some d ∧ Below W.heap.size W w' := by
  obtain ⟨w0, HW0⟩ : ∃ w0, Hid (W.alloc (.cells #[.int .i64 0, .int .i64 0, .int .i64 0] 23) = w0) := ⟨_, rfl⟩
  have HB0 : Hid (w0.heap[W.heap.size]? = some (.cells #[.int .i64 0, .int .i64 0, .int .i64 0] 23 (0, 0))) := by rw [← HW0.out]; exact blk_newn rfl
  have HBA : Hid (Below W.heap.size W w0) := by rw [← HW0.out]; exact (Below.refl _ W).alloc (Nat.le_refl _) _
  have HBF : Hid (Bf w0) := by rw [← HW0.out]; exact hb.fr (S := fun _ => False) ((Fr.refl _ W).alloc _) (fun _ h => h.elim)
  clear hb
  have HID := Lib.hid (isDay_any d w0 h0 h1)
  have HCI := Lib.hid (civil_any d w0 h0 h1 HBF.out)
  go_enter Tryd.func25, Tryd.ntmps25
  go_upto_region 1 with fail
  rw [HW0.out]
  go_wp2_with fail
  refine HID.out.mono ?_
  rintro e w5 ⟨rfl, rfl⟩
  go_wp2_with fail
  refine HCI.out.mono ?_
  rintro e w6 ⟨c, rfl, hc, hb6⟩
  have HB6 := Lib.hid ((hb6.block _ (lt_of_blk HB0.out)).trans HB0.out)
  have HBW : Hid (Below W.heap.size W w6) := HBA.out.trans (hb6.mono HBA.out.size)
  clear hb6
  have c0 : w6.cell? ⟨W.heap.size, 0, none⟩ = some (.int .i64 0) := cell_of_blk HB6.out 0
  have c1 : w6.cell? ⟨W.heap.size, 1, none⟩ = some (.int .i64 0) := cell_of_blk HB6.out 1
  have c2 : w6.cell? ⟨W.heap.size, 2, none⟩ = some (.int .i64 0) := cell_of_blk HB6.out 2
  have f0 : w6.frozen? ⟨W.heap.size, 0, none⟩ = false := froz_of_blk HB6.out 0
  have f1 : w6.frozen? ⟨W.heap.size, 1, none⟩ = false := froz_of_blk HB6.out 1
  have f2 : w6.frozen? ⟨W.heap.size, 2, none⟩ = false := froz_of_blk HB6.out 2
  go_wp2_with fail
  have HB9 := blk_set (blk_set (blk_set HB6.out 0 (.int .i64 c.y)) 1 (.int .i64 c.m)) 2 (.int .i64 c.d)
  refine bodyPost_ret (v := .tuple #[.agg #[.int .i64 c.y, .int .i64 c.m, .int .i64 c.d], .int .i64 0]) (results_blk2 Tryd.results25 rfl rfl HB9 Tryd.underlying23 rfl (by kernel_rfl)) rfl ⟨c, rfl, hc, ?_⟩
  exact ((HBW.out.setCell (p := ⟨W.heap.size, 0, none⟩) (Nat.le_refl _) _).setCell (p := ⟨W.heap.size, 1, none⟩) (Nat.le_refl _) _).setCell (p := ⟨W.heap.size, 2, none⟩) (Nat.le_refl _) _
end Go.Proofs.YtdhjibnkebbejaaDoor.Rs
