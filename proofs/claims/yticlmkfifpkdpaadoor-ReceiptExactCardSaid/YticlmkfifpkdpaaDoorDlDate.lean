/-
  The day number of a date: what date.Number returns.
-/
import Derived.Test.YticlmkfifpkdpaaDoorDlView
import Derived.Test.YticlmkfifpkdpaaDoorReg
import Derived.Test.YticlmkfifpkdpaaDoorBlk
import Derived.Test.YticlmkfifpkdpaaDoorIter
import Derived.IntWalk
import Derived.Outline
import Derived.WalkLawsBesides
import Derived.RegionTactic
import Derived.ChangeAlike
import Derived.Handy
import Derived.Lib.Hide
import Derived.Deep.RegionHeld3
import Derived.Deep.DrawnRows
import Derived.Deep.DeepCutAuto
namespace Go.Proofs.YticlmkfifpkdpaaDoor.Dl
open Go.RowKit Mem Vw
set_option linter.unusedVariables false
set_option linter.unusedSimpArgs false

def tab13 : List Int := [0, 31, 59, 90, 120, 151, 181, 212, 243, 273, 304, 334, 365]
/-- The table of days before the months, in memory. -/
def Bf (W : World) : Prop := 0 < W.heap.size ∧ ∀ i x, tab13[i]? = some x → W.cell? ⟨0, i, none⟩ = some (.int .i64 x)
theorem Bf.fr {S : Nat → Prop} {W W' : World} (h : Bf W) (hf : Fr S W W') (hS : ∀ k, S k → 0 < k) : Bf W' :=
  ⟨Nat.lt_of_lt_of_le h.1 hf.size, fun i x hx => (World.cell?_of_block (a := ⟨0, i, none⟩) (hf.block 0 h.1 (fun hs => by have := hS _ hs; omega))).trans (h.2 i x hx)⟩
theorem leap_any (y : Int) (W : World) (h0 : 0 ≤ y) (h1 : y ≤ 10000) : Calls Tryd.prog 123 #[.int .i64 y] W fun e w' => e = .returned (.bool (leap y)) ∧ W = w' := by
  by_cases a : y % 4 = 0
  · by_cases b : y % 100 = 0
    · by_cases c : y % 400 = 0
      · have e : leap y = true := by unfold leap; simp [a, c]
        rw [e]; clear e
        go_enter Tryd.func123, Tryd.ntmps123
        go_wp2_with fail
        go_ret
        exact ⟨rfl, rfl⟩
      · have e : leap y = false := by unfold leap; simp [a, b, c]
        have hc : (y % 400 == 0) = false := by simpa using c
        rw [e]; clear e
        go_enter Tryd.func123, Tryd.ntmps123
        go_wp2_with fail
        go_ret
        exact ⟨rfl, rfl⟩
    · have e : leap y = true := by unfold leap; simp [a, b]
      rw [e]; clear e
      go_enter Tryd.func123, Tryd.ntmps123
      go_wp2_with fail
      go_ret
      exact ⟨rfl, rfl⟩
  · have e : leap y = false := by unfold leap; simp [a]
    rw [e]; clear e
    go_enter Tryd.func123, Tryd.ntmps123
    go_wp2_with fail
    go_ret
    exact ⟨rfl, rfl⟩
theorem before_tab (m : Int) (k : Nat) (hk : k < 13) (hm : m = (k : Int) + 1) : tab13[k]? = some (before m) := by
  subst hm
  match k, hk with
  | 0, _ => rfl
  | 1, _ => rfl
  | 2, _ => rfl
  | 3, _ => rfl
  | 4, _ => rfl
  | 5, _ => rfl
  | 6, _ => rfl
  | 7, _ => rfl
  | 8, _ => rfl
  | 9, _ => rfl
  | 10, _ => rfl
  | 11, _ => rfl
  | 12, _ => rfl
theorem leaps_bd (y : Int) (h0 : 0 ≤ y) (h1 : y ≤ 10000) : 0 ≤ leaps y ∧ leaps y ≤ 10000 := by unfold leaps; omega
set_option maxHeartbeats 1000000 in
theorem daysBefore_any (y : Int) (k : Nat) (W : World) (hk : k < 13) (h0 : 0 ≤ y) (h1 : y ≤ 10000) (hb : Bf W) : Calls Tryd.prog 120 #[.int .i64 y, .int .i64 ((k : Int) + 1)] W fun e w' => e = .returned (.int .i64 (daysBefore y ((k : Int) + 1))) ∧ W = w' := by
  have hc := hb.2 k _ (before_tab _ k hk rfl)
  have hbd := before_bd ((k : Int) + 1)
  have HB := Lib.hid hb; clear hb
  have e0 : daysBefore y ((k : Int) + 1) = before ((k : Int) + 1) + if decide ((k : Int) + 1 > 2) && leap y then 1 else 0 := rfl
  rw [e0]; clear e0
  obtain ⟨bv, hbv⟩ : ∃ bv, before ((k : Int) + 1) = bv := ⟨_, rfl⟩
  rw [hbv] at hc hbd ⊢
  clear hbv
  have i1 : (0 : Int) ≤ (k : Int) := Int.natCast_nonneg _
  have i2 : (k : Int) < 13 := by omega
  by_cases h2 : 2 < (k : Int) + 1
  · cases hl : leap y with
    | true =>
      have HL := Lib.hid hl; clear hl
      rw [show (if (decide ((k : Int) + 1 > 2) && true) = true then (1 : Int) else 0) = 1 by simp; omega]
      go_enter Tryd.func120, Tryd.ntmps120
      go_wp2_with (go_at_call 123; refine (leap_any y _ h0 h1).mono ?_; rw [HL.out]; rintro e w' ⟨rfl, rfl⟩)
      go_ret
      exact ⟨rfl, rfl⟩
    | false =>
      have HL := Lib.hid hl; clear hl
      rw [show (if (decide ((k : Int) + 1 > 2) && false) = true then (1 : Int) else 0) = 0 by simp, Int.add_zero]
      go_enter Tryd.func120, Tryd.ntmps120
      go_wp2_with (go_at_call 123; refine (leap_any y _ h0 h1).mono ?_; rw [HL.out]; rintro e w' ⟨rfl, rfl⟩)
      go_ret
      exact ⟨rfl, rfl⟩
  · rw [show (if (decide ((k : Int) + 1 > 2) && leap y) = true then (1 : Int) else 0) = 0 by simp; omega, Int.add_zero]
    go_enter Tryd.func120, Tryd.ntmps120
    go_wp2_with fail
    go_ret
    exact ⟨rfl, rfl⟩
set_option maxHeartbeats 1000000 in
theorem length_any (y : Int) (k : Nat) (W : World) (hk : k < 12) (h0 : 0 ≤ y) (h1 : y ≤ 10000) (hb : Bf W) : Calls Tryd.prog 112 #[.int .i64 y, .int .i64 ((k : Int) + 1)] W fun e w' => e = .returned (.int .i64 (daysBefore y ((k : Int) + 1 + 1) - daysBefore y ((k : Int) + 1))) ∧ W = w' := by
  have c1 := dB_bd y ((k : Int) + 1)
  have c2 := dB_bd y ((k : Int) + 1 + 1)
  have d1 := daysBefore_any y k W (by omega) h0 h1 hb
  have d2 := daysBefore_any y (k + 1) W (by omega) h0 h1 hb
  rw [show ((k + 1 : Nat) : Int) + 1 = (k : Int) + 1 + 1 by omega] at d2
  obtain ⟨x1, hx1⟩ : ∃ x, daysBefore y ((k : Int) + 1) = x := ⟨_, rfl⟩
  obtain ⟨x2, hx2⟩ : ∃ x, daysBefore y ((k : Int) + 1 + 1) = x := ⟨_, rfl⟩
  rw [hx1] at c1 d1 ⊢
  rw [hx2] at c2 d2 ⊢
  clear hx1 hx2
  have i1 : (0 : Int) ≤ (k : Int) := Int.natCast_nonneg _
  have i2 : (k : Int) < 12 := by omega
  have D1 := Lib.hid d1; have D2 := Lib.hid d2; have HB := Lib.hid hb; clear d1 d2 hb
  go_enter Tryd.func112, Tryd.ntmps112
  go_wp2_with fail
  refine D2.out.mono ?_
  rintro e w' ⟨rfl, rfl⟩
  go_wp2_with fail
  refine D1.out.mono ?_
  rintro e w' ⟨rfl, rfl⟩
  go_wp2_with fail
  go_ret
  exact ⟨rfl, rfl⟩
theorem leaps_any (y : Int) (W : World) (h0 : 0 ≤ y) (h1 : y ≤ 10000) : Calls Tryd.prog 122 #[.int .i64 y] W fun e w' => e = .returned (.int .i64 (leaps y)) ∧ W = w' := by
  unfold leaps
  go_enter Tryd.func122, Tryd.ntmps122
  go_wp2_with fail
  go_ret
  exact ⟨rfl, rfl⟩
set_option maxHeartbeats 1000000 in
theorem newYear_any (y : Int) (W : World) (h0 : 1990 ≤ y) (h1 : y ≤ 10000) : Calls Tryd.prog 119 #[.int .i64 y] W fun e w' => e = .returned (.int .i64 (newYear y)) ∧ W = w' := by
  have b1 := leaps_bd (y - 1) (by omega) (by omega)
  have b2 := leaps_bd 1989 (by omega) (by omega)
  have d1 := leaps_any (y - 1) W (by omega) (by omega)
  have d2 := leaps_any 1989 W (by omega) (by omega)
  have e0 : newYear y = (y - 1990) * 365 + leaps (y - 1) - leaps 1989 := rfl
  rw [e0]; clear e0
  obtain ⟨x1, hx1⟩ : ∃ x, leaps (y - 1) = x := ⟨_, rfl⟩
  obtain ⟨x2, hx2⟩ : ∃ x, leaps 1989 = x := ⟨_, rfl⟩
  rw [hx1] at b1 d1 ⊢
  rw [hx2] at b2 d2 ⊢
  clear hx1 hx2
  have D1 := Lib.hid d1; have D2 := Lib.hid d2; clear d1 d2
  go_enter Tryd.func119, Tryd.ntmps119
  go_wp2_with fail
  refine D1.out.mono ?_
  rintro e w' ⟨rfl, rfl⟩
  go_wp2_with fail
  refine D2.out.mono ?_
  rintro e w' ⟨rfl, rfl⟩
  go_wp2_with fail
  go_ret
  exact ⟨rfl, rfl⟩
theorem quiet_of {f : FuncId} {args : Array Value} {W : World} {v : Value} (h : Calls Tryd.prog f args W fun e w' => e = .returned v ∧ W = w') : Calls Tryd.prog f args W fun e w' => e = .returned v ∧ w' = W :=
  h.mono fun e w' ⟨h1, h2⟩ => ⟨h1, h2.symm⟩
set_option maxHeartbeats 1000000 in
theorem number_any (y : Int) (k : Nat) (d : Int) (W : World) (hk : k < 12) (h0 : 1990 ≤ y) (h1 : y ≤ 2189) (hd0 : 1 ≤ d) (hd1 : d ≤ 366) (hb : Bf W) : Calls Tryd.prog 113 #[.agg #[.int .i64 y, .int .i64 ((k : Int) + 1), .int .i64 d]] W fun e w' => e = .returned (.int .i64 (newYear y + daysBefore y ((k : Int) + 1) + d - 1)) ∧ Fr (fun _ => False) W w' := by
  have c1 := dB_bd y ((k : Int) + 1)
  have c2 := newYear_bd y h0 h1
  have i1 : (0 : Int) ≤ (k : Int) := Int.natCast_nonneg _
  have i2 : (k : Int) < 12 := by omega
  have D1 : Hid (∀ W', Bf W' → Calls Tryd.prog 120 #[.int .i64 y, .int .i64 ((k : Int) + 1)] W' fun e w' => e = .returned (.int .i64 (daysBefore y ((k : Int) + 1))) ∧ w' = W') := fun W' h' => quiet_of (daysBefore_any y k W' (by omega) (by omega) (by omega) h')
  have D2 : Hid (∀ W', Calls Tryd.prog 119 #[.int .i64 y] W' fun e w' => e = .returned (.int .i64 (newYear y)) ∧ w' = W') := fun W' => quiet_of (newYear_any y W' h0 (by omega))
  obtain ⟨x1, hx1⟩ : ∃ x, daysBefore y ((k : Int) + 1) = x := ⟨_, rfl⟩
  obtain ⟨x2, hx2⟩ : ∃ x, newYear y = x := ⟨_, rfl⟩
  rw [hx1] at c1 D1 ⊢
  rw [hx2] at c2 D2 ⊢
  clear hx1 hx2
  have HB1 : Hid (Bf (W.alloc (.cells #[.int .i64 y, .int .i64 ((k : Int) + 1), .int .i64 d] 152)).drew) := hb.fr (((Fr.refl (fun _ => False) W).alloc _).drew) (fun k hk => hk.elim)
  have HBK : Hid ((W.alloc (.cells #[.int .i64 y, .int .i64 ((k : Int) + 1), .int .i64 d] 152)).drew.heap[W.heap.size]? = some (.cells #[.int .i64 y, .int .i64 ((k : Int) + 1), .int .i64 d] 152 (0, 0))) := blk_newn rfl
  have s1 : IntKind.i64.wrap (x2 + x1) = x2 + x1 := IntWalk.i64_in _ (by omega)
  have s2 : IntKind.i64.wrap (x2 + x1 + d) = x2 + x1 + d := IntWalk.i64_in _ (by omega)
  have s3 : IntKind.i64.wrap (x2 + x1 + d - 1) = x2 + x1 + d - 1 := IntWalk.i64_in _ (by omega)
  clear hb
  go_enter Tryd.func113, Tryd.ntmps113
  go_wp2_with fail
  refine Reg.G.start (by kernel_rfl) ?_
  refine' Reg.G.pure (i := 0) (v := _) rfl (by rfl) (by kernel_rfl) (by kernel_rfl) (by kernel_rfl) (fun _ _ _ h => h) ?hyr1_0 ?rer1_0
  case hyr1_0 => exact fun w => by first | (go_simp; done) | (go_simp; with_reducible rfl)
  simp only [Act.put, List.setIfInBounds_toArray, List.set_cons_zero, List.set_cons_succ]
  refine' Reg.G.take (i := 1) (v := _) (F := fun w => w.heap[W.heap.size]? = some (.cells #[.int .i64 y, .int .i64 ((k : Int) + 1), .int .i64 d] 152 (0, 0))) rfl (by rfl) (by kernel_rfl) (by kernel_rfl) (by kernel_rfl) (fun _ _ _ h => h) (by exact HBK.out) ?hyr1_1 ?rer1_1
  case hyr1_1 => intro w hw; have kc : w.cell? ⟨W.heap.size, 0, none⟩ = some (.int .i64 (y)) := cell_of_blk hw 0; clear hw; first | (go_simp; done) | (go_simp; with_reducible rfl)
  simp only [Act.put, List.setIfInBounds_toArray, List.set_cons_zero, List.set_cons_succ]
  refine' Reg.G.pure (i := 3) (v := _) rfl (by rfl) (by kernel_rfl) (by kernel_rfl) (by kernel_rfl) (fun _ _ _ h => h) ?hyr1_3 ?rer1_3
  case hyr1_3 => exact fun w => by first | (go_simp; done) | (go_simp; with_reducible rfl)
  simp only [Act.put, List.setIfInBounds_toArray, List.set_cons_zero, List.set_cons_succ]
  refine' Reg.G.take (i := 4) (v := _) (F := fun w => w.heap[W.heap.size]? = some (.cells #[.int .i64 y, .int .i64 ((k : Int) + 1), .int .i64 d] 152 (0, 0))) rfl (by rfl) (by kernel_rfl) (by kernel_rfl) (by kernel_rfl) (fun _ _ _ h => h) (by exact HBK.out) ?hyr1_4 ?rer1_4
  case hyr1_4 => intro w hw; have kc : w.cell? ⟨W.heap.size, 0, none⟩ = some (.int .i64 (y)) := cell_of_blk hw 0; clear hw; first | (go_simp; done) | (go_simp; with_reducible rfl)
  simp only [Act.put, List.setIfInBounds_toArray, List.set_cons_zero, List.set_cons_succ]
  refine' Reg.G.pure (i := 5) (v := _) rfl (by rfl) (by kernel_rfl) (by kernel_rfl) (by kernel_rfl) (fun _ _ _ h => h) ?hyr1_5 ?rer1_5
  case hyr1_5 => exact fun w => by first | (go_simp; done) | (go_simp; with_reducible rfl)
  simp only [Act.put, List.setIfInBounds_toArray, List.set_cons_zero, List.set_cons_succ]
  refine' Reg.G.take (i := 6) (v := _) (F := fun w => w.heap[W.heap.size]? = some (.cells #[.int .i64 y, .int .i64 ((k : Int) + 1), .int .i64 d] 152 (0, 0))) rfl (by rfl) (by kernel_rfl) (by kernel_rfl) (by kernel_rfl) (fun _ _ _ h => h) (by exact HBK.out) ?hyr1_6 ?rer1_6
  case hyr1_6 => intro w hw; have kc : w.cell? ⟨W.heap.size, 1, none⟩ = some (.int .i64 ((k : Int) + 1)) := cell_of_blk hw 1; clear hw; first | (go_simp; done) | (go_simp; with_reducible rfl)
  simp only [Act.put, List.setIfInBounds_toArray, List.set_cons_zero, List.set_cons_succ]
  refine' Reg.G.pure (i := 9) (v := _) rfl (by rfl) (by kernel_rfl) (by kernel_rfl) (by kernel_rfl) (fun _ _ _ h => h) ?hyr1_9 ?rer1_9
  case hyr1_9 => exact fun w => by first | (go_simp; done) | (go_simp; with_reducible rfl)
  simp only [Act.put, List.setIfInBounds_toArray, List.set_cons_zero, List.set_cons_succ]
  refine' Reg.G.take (i := 10) (v := _) (F := fun w => w.heap[W.heap.size]? = some (.cells #[.int .i64 y, .int .i64 ((k : Int) + 1), .int .i64 d] 152 (0, 0))) rfl (by rfl) (by kernel_rfl) (by kernel_rfl) (by kernel_rfl) (fun _ _ _ h => h) (by exact HBK.out) ?hyr1_10 ?rer1_10
  case hyr1_10 => intro w hw; have kc : w.cell? ⟨W.heap.size, 2, none⟩ = some (.int .i64 (d)) := cell_of_blk hw 2; clear hw; first | (go_simp; done) | (go_simp; with_reducible rfl)
  simp only [Act.put, List.setIfInBounds_toArray, List.set_cons_zero, List.set_cons_succ]
  refine Reg.G.step (j := 2) (m := [true, true, true, false]) [10, 6, 4, 1] rfl (by kernel_rfl) rfl (by kernel_rfl) (fun K hK => ?_)
  -- Op.call { callee := Callee.value (func 56), args := #[t4], argTypes := #[3] }
  go_simp
  refine (D2.out _).mono ?_
  rintro e w1 ⟨rfl, rfl⟩
  refine hK.out _ _ ⟨HBK.out, HBK.out, HBK.out, trivial⟩ ?_
  clear hK K
  simp only [Act.put, List.setIfInBounds_toArray, List.set_cons_zero, List.set_cons_succ, Reg.Kept]
  refine Reg.G.step (j := 7) (m := [true, false, false]) [10, 6, 4] rfl (by kernel_rfl) rfl (by kernel_rfl) (fun K hK => ?_)
  -- Op.call { callee := Callee.value (func 57), args := #[t7, t9], argTypes := #[3, 3] }
  go_simp
  refine (D1.out _ HB1.out).mono ?_
  rintro e w1 ⟨rfl, rfl⟩
  refine hK.out _ _ ⟨HBK.out, trivial⟩ ?_
  clear hK K
  simp only [Act.put, List.setIfInBounds_toArray, List.set_cons_zero, List.set_cons_succ, Reg.Kept]
  refine' Reg.G.pure (i := 8) (v := _) rfl (by rfl) (by kernel_rfl) (by kernel_rfl) (by kernel_rfl) (fun _ _ _ h => h) ?hyr1_8 ?rer1_8
  case hyr1_8 => exact fun w => by first | (go_simp; done) | (go_simp; with_reducible rfl)
  simp only [Act.put, List.setIfInBounds_toArray, List.set_cons_zero, List.set_cons_succ]
  refine' Reg.G.pure (i := 11) (v := _) rfl (by rfl) (by kernel_rfl) (by kernel_rfl) (by kernel_rfl) (fun _ _ _ h => h) ?hyr1_11 ?rer1_11
  case hyr1_11 => exact fun w => by first | (go_simp; done) | (go_simp; with_reducible rfl)
  simp only [Act.put, List.setIfInBounds_toArray, List.set_cons_zero, List.set_cons_succ]
  refine' Reg.G.pure (i := 12) (v := _) rfl (by rfl) (by kernel_rfl) (by kernel_rfl) (by kernel_rfl) (fun _ _ _ h => h) ?hyr1_12 ?rer1_12
  case hyr1_12 => exact fun w => by first | (go_simp; done) | (go_simp; with_reducible rfl)
  simp only [Act.put, List.setIfInBounds_toArray, List.set_cons_zero, List.set_cons_succ]
  refine' Reg.G.pure (i := 13) (v := _) rfl (by rfl) (by kernel_rfl) (by kernel_rfl) (by kernel_rfl) (fun _ _ _ h => h) ?hyr1_13 ?rer1_13
  case hyr1_13 => exact fun w => by first | (go_simp; done) | (go_simp; with_reducible rfl)
  simp only [Act.put, List.setIfInBounds_toArray, List.set_cons_zero, List.set_cons_succ]
  refine Reg.G.done (by kernel_rfl) ?_
  go_wp2_with fail
  go_ret
  exact ⟨rfl, ((Fr.refl _ W).alloc _).drew⟩
def YRel (d : Int) (w0 : World) (yv : Value) (wr : World) : Prop := ∃ y : Int, yv = .int .i64 y ∧ 1990 ≤ y ∧ y ≤ 2189 ∧ newYear y ≤ d ∧ wr = w0
def MnRel (y r : Int) (w0 : World) (mv : Value) (wr : World) : Prop := ∃ k : Nat, mv = .int .i64 ((k : Int) + 1) ∧ k ≤ 11 ∧ daysBefore y ((k : Int) + 1) ≤ r ∧ wr = w0
set_option maxRecDepth 100000 in
set_option maxHeartbeats 4000000 in
theorem civil_any (d : Int) (W : World) (h0 : 0 ≤ d) (h1 : d ≤ 73048) (hb : Bf W) : Calls Tryd.prog 111 #[.int .i64 d] W fun e w' => ∃ c : Civil, e = .returned (.agg #[.int .i64 c.y, .int .i64 c.m, .int .i64 c.d]) ∧ number c = some d ∧ Below W.heap.size W w' := by
  obtain ⟨w0, HW0⟩ : ∃ w0, Hid (W.alloc (.cells #[.int .i64 0, .int .i64 0, .int .i64 0] 152) = w0) := ⟨_, rfl⟩
  have HB0 : Hid (w0.heap[W.heap.size]? = some (.cells #[.int .i64 0, .int .i64 0, .int .i64 0] 152 (0, 0))) := by rw [← HW0.out]; exact blk_newn rfl
  have HBA : Hid (Below W.heap.size W w0) := by rw [← HW0.out]; exact (Below.refl _ W).alloc (Nat.le_refl _) _
  have HBF : Hid (Bf w0) := by rw [← HW0.out]; exact hb.fr (S := fun _ => False) ((Fr.refl _ W).alloc _) (fun _ h => h.elim)
  clear hb
  obtain ⟨q, hq0, hq1, hq2, hq3⟩ : ∃ q : Int, d / 366 = q ∧ 0 ≤ q ∧ q ≤ 199 ∧ 366 * q ≤ d := ⟨d / 366, rfl, by omega, by omega, by omega⟩
  have hq4 : d.tdiv 366 = q := by rw [Int.tdiv_eq_ediv_of_nonneg h0]; exact hq0
  clear hq0
  have hs := newYear_start q hq1 (by omega)
  go_enter Tryd.func111, Tryd.ntmps111
  go_upto_region 1 with fail
  rw [HW0.out]
  go_wp2_with fail
  go_loopw [3] (fun yv wr => YRel d w0 yv wr) (fun yv _ => (2300 - intOf yv).toNat)
  case atStart => exact ⟨1990 + q, rfl, by omega, by omega, by omega, rfl⟩
  case round =>
    obtain ⟨y, rfl, hy0, hy1, hyd, rfl⟩ := hrel
    clear hs hq1 hq2 hq3 hq4
    have HNY := Lib.hid (newYear_any (y + 1) wr (by omega) (by omega))
    have HNY0 := Lib.hid (newYear_any y wr (by omega) (by omega))
    obtain ⟨ny, hny⟩ : ∃ ny, newYear (y + 1) = ny := ⟨_, rfl⟩
    obtain ⟨nz, hnz⟩ : ∃ nz, newYear y = nz := ⟨_, rfl⟩
    have hnn := newYear_next y hy0 hy1
    rw [hny] at HNY hnn
    rw [hnz] at HNY0 hyd hnn
    have hbd := newYear_bd y hy0 hy1
    rw [hnz] at hbd
    have hdb := dB_bd y 13
    have HNN := Lib.hid hnn
    have hny3 : ny ≤ 90000 := by omega
    have hny2 : 0 ≤ ny := by omega
    clear hnn hdb
    have HNE := Lib.hid hny; have HNZ := Lib.hid hnz; clear hny hnz
    go_wp2_with fail
    refine HNY.out.mono ?_
    rintro e w5 ⟨rfl, rfl⟩
    rcases (by omega : ny ≤ d ∨ d < ny) with hle | hlt
    · go_wp2_with fail
      go_roundw
      case rel =>
        refine ⟨y + 1, by go_num, by omega, ?_, by rw [HNE.out]; exact hle, rfl⟩
        rcases (by omega : y + 1 ≤ 2189 ∨ y = 2189) with h | h
        · exact h
        · exfalso
          have := HNE.out
          rw [h] at this
          have h3 := newYear_end
          have e : (2189 : Int) + 1 = 2190 := rfl
          rw [e, h3] at this
          omega
      case measure => simp [intOf]; omega
    · go_wp2_with fail
      refine HNY0.out.mono ?_
      rintro e w5 ⟨rfl, rfl⟩
      obtain ⟨r, hr⟩ : ∃ r, d - nz = r := ⟨_, rfl⟩
      have hr0 : 0 ≤ r := by omega
      have hr1 : r ≤ 366 := by have := HNN.out; have := dB_bd y 13; omega
      have HR := Lib.hid hr
      have hrl : r < daysBefore y 13 := by have := HNN.out; omega
      have HRL := Lib.hid hrl
      clear hrl hlt hny3 hny2
      go_wp2_with fail
      clear hr
      obtain ⟨wq, rfl⟩ : ∃ w : World, w = wr := ⟨_, rfl⟩
      go_loopw [5] (fun mv wr => MnRel y r wq mv wr) (fun mv _ => (20 - intOf mv).toNat)
      case atStart => exact ⟨0, rfl, by omega, by rw [show (((0 : Nat) : Int) + 1) = 1 by omega, daysBefore_one]; exact hr0, rfl⟩
      case round =>
        obtain ⟨k, rfl, hk, hkr, rfl⟩ := hrel
        have HD1 : Hid (Calls Tryd.prog 120 #[.int .i64 y, .int .i64 ((k : Int) + 1 + 1)] wr fun e w' => e = .returned (.int .i64 (daysBefore y ((k : Int) + 1 + 1))) ∧ wr = w') := by
          have h := daysBefore_any y (k + 1) wr (by omega) (by omega) (by omega) HBF.out
          rw [show (((k + 1 : Nat) : Int) + 1) = (k : Int) + 1 + 1 by omega] at h
          exact h
        have HD0 := Lib.hid (daysBefore_any y k wr (by omega) (by omega) (by omega) HBF.out)
        have hk0 : (0 : Int) ≤ (k : Int) := Int.natCast_nonneg _
        have hk11 : (k : Int) ≤ 11 := by omega
        obtain ⟨b1, hb1⟩ : ∃ b, daysBefore y ((k : Int) + 1 + 1) = b := ⟨_, rfl⟩
        obtain ⟨b0, hb0⟩ : ∃ b, daysBefore y ((k : Int) + 1) = b := ⟨_, rfl⟩
        have hbd1 := dB_bd y ((k : Int) + 1 + 1)
        have hbd0 := dB_bd y ((k : Int) + 1)
        rw [hb1] at HD1 hbd1
        rw [hb0] at HD0 hkr hbd0
        have HB1E := Lib.hid hb1; have HB0E := Lib.hid hb0
        clear hb1 hb0
        go_wp2_with fail
        refine HD1.out.mono ?_
        rintro e w5 ⟨rfl, rfl⟩
        rcases (by omega : b1 ≤ r ∨ r < b1) with hle | hlt
        · go_wp2_with fail
          go_roundw
          case rel =>
            refine ⟨k + 1, by go_num, ?_, ?_, rfl⟩
            · rcases (by omega : k + 1 ≤ 11 ∨ k = 11) with h | h
              · exact h
              · exfalso
                have h1 := HB1E.out
                have h2 := HRL.out
                rw [h] at h1
                have e : ((11 : Nat) : Int) + 1 + 1 = 13 := rfl
                rw [e] at h1
                omega
            · rw [show (((k + 1 : Nat) : Int) + 1) = (k : Int) + 1 + 1 by omega, HB1E.out]; exact hle
          case measure => simp [intOf]; omega
        · have c0 : wr.cell? ⟨W.heap.size, 0, none⟩ = some (.int .i64 0) := cell_of_blk HB0.out 0
          have c1 : wr.cell? ⟨W.heap.size, 1, none⟩ = some (.int .i64 0) := cell_of_blk HB0.out 1
          have c2 : wr.cell? ⟨W.heap.size, 2, none⟩ = some (.int .i64 0) := cell_of_blk HB0.out 2
          have f0 : wr.frozen? ⟨W.heap.size, 0, none⟩ = false := froz_of_blk HB0.out 0
          have f1 : wr.frozen? ⟨W.heap.size, 1, none⟩ = false := froz_of_blk HB0.out 1
          have f2 : wr.frozen? ⟨W.heap.size, 2, none⟩ = false := froz_of_blk HB0.out 2
          go_wp2_with fail
          refine HD0.out.mono ?_
          rintro e w5 ⟨rfl, rfl⟩
          go_wp2_with fail
          have HB9 := blk_set (blk_set (blk_set HB0.out 0 (.int .i64 y)) 1 (.int .i64 ((k : Int) + 1))) 2 (.int .i64 (r - b0 + 1))
          refine bodyPost_ret (v := .agg #[.int .i64 y, .int .i64 ((k : Int) + 1), .int .i64 (r - b0 + 1)]) (results_blk Tryd.results111 rfl HB9 Tryd.underlying152 rfl (by kernel_rfl)) rfl ⟨⟨y, (k : Int) + 1, r - b0 + 1⟩, rfl, ?_, ?_⟩
          · have h := number_mk (c := ⟨y, (k : Int) + 1, r - b0 + 1⟩) hy0 hy1 (by show 1 ≤ (k : Int) + 1; omega) (by show (k : Int) + 1 ≤ 12; omega) (by show 1 ≤ r - b0 + 1; omega) (by show r - b0 + 1 ≤ daysBefore y ((k : Int) + 1 + 1) - daysBefore y ((k : Int) + 1); rw [HB1E.out, HB0E.out]; omega)
            rw [h]
            dsimp only
            rw [HB0E.out, HNZ.out]
            have := HR.out
            congr 1
            omega
          · exact ((HBA.out.setCell (p := ⟨W.heap.size, 0, none⟩) (Nat.le_refl _) _).setCell (p := ⟨W.heap.size, 1, none⟩) (Nat.le_refl _) _).setCell (p := ⟨W.heap.size, 2, none⟩) (Nat.le_refl _) _
end Go.Proofs.YticlmkfifpkdpaaDoor.Dl
