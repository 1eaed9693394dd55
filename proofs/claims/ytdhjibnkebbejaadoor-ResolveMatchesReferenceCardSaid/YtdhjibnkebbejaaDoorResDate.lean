/-
  The day number of a date: what date.Number returns.
-/
import Derived.Test.YtdhjibnkebbejaaDoorResLook
import Derived.Test.YtdhjibnkebbejaaDoorReg
import Derived.IntWalk
namespace Go.Proofs.YtdhjibnkebbejaaDoor.Rs
open Go.RowKit Mem Vw
set_option linter.unusedVariables false
set_option linter.unusedSimpArgs false

def tab13 : List Int := [0, 31, 59, 90, 120, 151, 181, 212, 243, 273, 304, 334, 365]
/-- The table of days before the months, in memory. -/
def Bf (W : World) : Prop := 0 < W.heap.size ∧ ∀ i x, tab13[i]? = some x → W.cell? ⟨0, i, none⟩ = some (.int .i64 x)
theorem Bf.fr {S : Nat → Prop} {W W' : World} (h : Bf W) (hf : Fr S W W') (hS : ∀ k, S k → 0 < k) : Bf W' :=
  ⟨Nat.lt_of_lt_of_le h.1 hf.size, fun i x hx => (World.cell?_of_block (a := ⟨0, i, none⟩) (hf.block 0 h.1 (fun hs => by have := hS _ hs; omega))).trans (h.2 i x hx)⟩
theorem leap_any (y : Int) (W : World) (h0 : 0 ≤ y) (h1 : y ≤ 10000) : Calls Tryd.prog 76 #[.int .i64 y] W fun e w' => e = .returned (.bool (leap y)) ∧ W = w' := by
  by_cases a : y % 4 = 0
  · by_cases b : y % 100 = 0
    · by_cases c : y % 400 = 0
      · have e : leap y = true := by unfold leap; simp [a, c]
        rw [e]; clear e
        go_enter Tryd.func76, Tryd.ntmps76
        go_wp2_with fail
        go_ret
        exact ⟨rfl, rfl⟩
      · have e : leap y = false := by unfold leap; simp [a, b, c]
        have hc : (y % 400 == 0) = false := by simpa using c
        rw [e]; clear e
        go_enter Tryd.func76, Tryd.ntmps76
        go_wp2_with fail
        go_ret
        exact ⟨rfl, rfl⟩
    · have e : leap y = true := by unfold leap; simp [a, b]
      rw [e]; clear e
      go_enter Tryd.func76, Tryd.ntmps76
      go_wp2_with fail
      go_ret
      exact ⟨rfl, rfl⟩
  · have e : leap y = false := by unfold leap; simp [a]
    rw [e]; clear e
    go_enter Tryd.func76, Tryd.ntmps76
    go_wp2_with fail
    go_ret
    exact ⟨rfl, rfl⟩
theorem before_tab (m : Int) (k : Nat) (hk : k < 13) (hm : m = (k : Int) + 1) : tab13[k]? = some (before m) := by
  subst hm
  match k, hk with
  | 0, _ => rfl
  | 1, _ => rfl
  | 2, _ => rfl
  | 3, _ => rfl
  | 4, _ => rfl
  | 5, _ => rfl
  | 6, _ => rfl
  | 7, _ => rfl
  | 8, _ => rfl
  | 9, _ => rfl
  | 10, _ => rfl
  | 11, _ => rfl
  | 12, _ => rfl
theorem before_bd (m : Int) : 0 ≤ before m ∧ before m ≤ 365 := by
  unfold before
  repeat' split
  all_goals omega
theorem leaps_bd (y : Int) (h0 : 0 ≤ y) (h1 : y ≤ 10000) : 0 ≤ leaps y ∧ leaps y ≤ 10000 := by unfold leaps; omega
set_option maxHeartbeats 1000000 in
theorem daysBefore_any (y : Int) (k : Nat) (W : World) (hk : k < 13) (h0 : 0 ≤ y) (h1 : y ≤ 10000) (hb : Bf W) : Calls Tryd.prog 57 #[.int .i64 y, .int .i64 ((k : Int) + 1)] W fun e w' => e = .returned (.int .i64 (daysBefore y ((k : Int) + 1))) ∧ W = w' := by
  have hc := hb.2 k _ (before_tab _ k hk rfl)
  have hbd := before_bd ((k : Int) + 1)
  have HB := Lib.hid hb; clear hb
  have e0 : daysBefore y ((k : Int) + 1) = before ((k : Int) + 1) + if decide ((k : Int) + 1 > 2) && leap y then 1 else 0 := rfl
  rw [e0]; clear e0
  obtain ⟨bv, hbv⟩ : ∃ bv, before ((k : Int) + 1) = bv := ⟨_, rfl⟩
  rw [hbv] at hc hbd ⊢
  clear hbv
  have i1 : (0 : Int) ≤ (k : Int) := Int.natCast_nonneg _
  have i2 : (k : Int) < 13 := by omega
  by_cases h2 : 2 < (k : Int) + 1
  · cases hl : leap y with
    | true =>
      have HL := Lib.hid hl; clear hl
      rw [show (if (decide ((k : Int) + 1 > 2) && true) = true then (1 : Int) else 0) = 1 by simp; omega]
      go_enter Tryd.func57, Tryd.ntmps57
      go_wp2_with (go_at_call 76; refine (leap_any y _ h0 h1).mono ?_; rw [HL.out]; rintro e w' ⟨rfl, rfl⟩)
      go_ret
      exact ⟨rfl, rfl⟩
    | false =>
      have HL := Lib.hid hl; clear hl
      rw [show (if (decide ((k : Int) + 1 > 2) && false) = true then (1 : Int) else 0) = 0 by simp, Int.add_zero]
      go_enter Tryd.func57, Tryd.ntmps57
      go_wp2_with (go_at_call 76; refine (leap_any y _ h0 h1).mono ?_; rw [HL.out]; rintro e w' ⟨rfl, rfl⟩)
      go_ret
      exact ⟨rfl, rfl⟩
  · rw [show (if (decide ((k : Int) + 1 > 2) && leap y) = true then (1 : Int) else 0) = 0 by simp; omega, Int.add_zero]
    go_enter Tryd.func57, Tryd.ntmps57
    go_wp2_with fail
    go_ret
    exact ⟨rfl, rfl⟩
theorem dB_bd (y m : Int) : 0 ≤ daysBefore y m ∧ daysBefore y m ≤ 366 := by
  have := before_bd m
  unfold daysBefore
  split <;> omega
set_option maxHeartbeats 1000000 in
theorem length_any (y : Int) (k : Nat) (W : World) (hk : k < 12) (h0 : 0 ≤ y) (h1 : y ≤ 10000) (hb : Bf W) : Calls Tryd.prog 77 #[.int .i64 y, .int .i64 ((k : Int) + 1)] W fun e w' => e = .returned (.int .i64 (daysBefore y ((k : Int) + 1 + 1) - daysBefore y ((k : Int) + 1))) ∧ W = w' := by
  have c1 := dB_bd y ((k : Int) + 1)
  have c2 := dB_bd y ((k : Int) + 1 + 1)
  have d1 := daysBefore_any y k W (by omega) h0 h1 hb
  have d2 := daysBefore_any y (k + 1) W (by omega) h0 h1 hb
  rw [show ((k + 1 : Nat) : Int) + 1 = (k : Int) + 1 + 1 by omega] at d2
  obtain ⟨x1, hx1⟩ : ∃ x, daysBefore y ((k : Int) + 1) = x := ⟨_, rfl⟩
  obtain ⟨x2, hx2⟩ : ∃ x, daysBefore y ((k : Int) + 1 + 1) = x := ⟨_, rfl⟩
  rw [hx1] at c1 d1 ⊢
  rw [hx2] at c2 d2 ⊢
  clear hx1 hx2
  have i1 : (0 : Int) ≤ (k : Int) := Int.natCast_nonneg _
  have i2 : (k : Int) < 12 := by omega
  have D1 := Lib.hid d1; have D2 := Lib.hid d2; have HB := Lib.hid hb; clear d1 d2 hb
  go_enter Tryd.func77, Tryd.ntmps77
  go_wp2_with fail
  refine D2.out.mono ?_
  rintro e w' ⟨rfl, rfl⟩
  go_wp2_with fail
  refine D1.out.mono ?_
  rintro e w' ⟨rfl, rfl⟩
  go_wp2_with fail
  go_ret
  exact ⟨rfl, rfl⟩
theorem leaps_any (y : Int) (W : World) (h0 : 0 ≤ y) (h1 : y ≤ 10000) : Calls Tryd.prog 75 #[.int .i64 y] W fun e w' => e = .returned (.int .i64 (leaps y)) ∧ W = w' := by
  unfold leaps
  go_enter Tryd.func75, Tryd.ntmps75
  go_wp2_with fail
  go_ret
  exact ⟨rfl, rfl⟩
set_option maxHeartbeats 1000000 in
theorem newYear_any (y : Int) (W : World) (h0 : 1990 ≤ y) (h1 : y ≤ 10000) : Calls Tryd.prog 56 #[.int .i64 y] W fun e w' => e = .returned (.int .i64 (newYear y)) ∧ W = w' := by
  have b1 := leaps_bd (y - 1) (by omega) (by omega)
  have b2 := leaps_bd 1989 (by omega) (by omega)
  have d1 := leaps_any (y - 1) W (by omega) (by omega)
  have d2 := leaps_any 1989 W (by omega) (by omega)
  have e0 : newYear y = (y - 1990) * 365 + leaps (y - 1) - leaps 1989 := rfl
  rw [e0]; clear e0
  obtain ⟨x1, hx1⟩ : ∃ x, leaps (y - 1) = x := ⟨_, rfl⟩
  obtain ⟨x2, hx2⟩ : ∃ x, leaps 1989 = x := ⟨_, rfl⟩
  rw [hx1] at b1 d1 ⊢
  rw [hx2] at b2 d2 ⊢
  clear hx1 hx2
  have D1 := Lib.hid d1; have D2 := Lib.hid d2; clear d1 d2
  go_enter Tryd.func56, Tryd.ntmps56
  go_wp2_with fail
  refine D1.out.mono ?_
  rintro e w' ⟨rfl, rfl⟩
  go_wp2_with fail
  refine D2.out.mono ?_
  rintro e w' ⟨rfl, rfl⟩
  go_wp2_with fail
  go_ret
  exact ⟨rfl, rfl⟩
theorem newYear_bd (y : Int) (h0 : 1990 ≤ y) (h1 : y ≤ 2189) : 0 ≤ newYear y ∧ newYear y ≤ 80000 := by unfold newYear leaps; omega
theorem quiet_of {f : FuncId} {args : Array Value} {W : World} {v : Value} (h : Calls Tryd.prog f args W fun e w' => e = .returned v ∧ W = w') : Calls Tryd.prog f args W fun e w' => e = .returned v ∧ w' = W :=
  h.mono fun e w' ⟨h1, h2⟩ => ⟨h1, h2.symm⟩
set_option maxHeartbeats 1000000 in
theorem number_any (y : Int) (k : Nat) (d : Int) (W : World) (hk : k < 12) (h0 : 1990 ≤ y) (h1 : y ≤ 2189) (hd0 : 1 ≤ d) (hd1 : d ≤ 366) (hb : Bf W) : Calls Tryd.prog 78 #[.agg #[.int .i64 y, .int .i64 ((k : Int) + 1), .int .i64 d]] W fun e w' => e = .returned (.int .i64 (newYear y + daysBefore y ((k : Int) + 1) + d - 1)) ∧ Fr (fun _ => False) W w' := by
  have c1 := dB_bd y ((k : Int) + 1)
  have c2 := newYear_bd y h0 h1
  have i1 : (0 : Int) ≤ (k : Int) := Int.natCast_nonneg _
  have i2 : (k : Int) < 12 := by omega
  have D1 : Hid (∀ W', Bf W' → Calls Tryd.prog 57 #[.int .i64 y, .int .i64 ((k : Int) + 1)] W' fun e w' => e = .returned (.int .i64 (daysBefore y ((k : Int) + 1))) ∧ w' = W') := fun W' h' => quiet_of (daysBefore_any y k W' (by omega) (by omega) (by omega) h')
  have D2 : Hid (∀ W', Calls Tryd.prog 56 #[.int .i64 y] W' fun e w' => e = .returned (.int .i64 (newYear y)) ∧ w' = W') := fun W' => quiet_of (newYear_any y W' h0 (by omega))
  obtain ⟨x1, hx1⟩ : ∃ x, daysBefore y ((k : Int) + 1) = x := ⟨_, rfl⟩
  obtain ⟨x2, hx2⟩ : ∃ x, newYear y = x := ⟨_, rfl⟩
  rw [hx1] at c1 D1 ⊢
  rw [hx2] at c2 D2 ⊢
  clear hx1 hx2
  have HB1 : Hid (Bf (W.alloc (.cells #[.int .i64 y, .int .i64 ((k : Int) + 1), .int .i64 d] 23)).drew) := hb.fr (((Fr.refl (fun _ => False) W).alloc _).drew) (fun k hk => hk.elim)
  have HBK : Hid ((W.alloc (.cells #[.int .i64 y, .int .i64 ((k : Int) + 1), .int .i64 d] 23)).drew.heap[W.heap.size]? = some (.cells #[.int .i64 y, .int .i64 ((k : Int) + 1), .int .i64 d] 23 (0, 0))) := blk_newn rfl
  have s1 : IntKind.i64.wrap (x2 + x1) = x2 + x1 := IntWalk.i64_in _ (by omega)
  have s2 : IntKind.i64.wrap (x2 + x1 + d) = x2 + x1 + d := IntWalk.i64_in _ (by omega)
  have s3 : IntKind.i64.wrap (x2 + x1 + d - 1) = x2 + x1 + d - 1 := IntWalk.i64_in _ (by omega)
  clear hb
  go_enter Tryd.func78, Tryd.ntmps78
  go_wp2_with fail
  refine Reg.G.start (by kernel_rfl) ?_
  refine' Reg.G.pure (i := 0) (v := _) rfl (by rfl) (by kernel_rfl) (by kernel_rfl) (by kernel_rfl) (fun _ _ _ h => h) ?hyr1_0 ?rer1_0
  case hyr1_0 => exact fun w => by first | (go_simp; done) | (go_simp; with_reducible rfl)
  simp only [Act.put, List.setIfInBounds_toArray, List.set_cons_zero, List.set_cons_succ]
  refine' Reg.G.take (i := 1) (v := _) (F := fun w => w.heap[W.heap.size]? = some (.cells #[.int .i64 y, .int .i64 ((k : Int) + 1), .int .i64 d] 23 (0, 0))) rfl (by rfl) (by kernel_rfl) (by kernel_rfl) (by kernel_rfl) (fun _ _ _ h => h) (by exact HBK.out) ?hyr1_1 ?rer1_1
  case hyr1_1 => intro w hw; have kc : w.cell? ⟨W.heap.size, 0, none⟩ = some (.int .i64 (y)) := cell_of_blk hw 0; clear hw; first | (go_simp; done) | (go_simp; with_reducible rfl)
  simp only [Act.put, List.setIfInBounds_toArray, List.set_cons_zero, List.set_cons_succ]
  refine' Reg.G.pure (i := 3) (v := _) rfl (by rfl) (by kernel_rfl) (by kernel_rfl) (by kernel_rfl) (fun _ _ _ h => h) ?hyr1_3 ?rer1_3
  case hyr1_3 => exact fun w => by first | (go_simp; done) | (go_simp; with_reducible rfl)
  simp only [Act.put, List.setIfInBounds_toArray, List.set_cons_zero, List.set_cons_succ]
  refine' Reg.G.take (i := 4) (v := _) (F := fun w => w.heap[W.heap.size]? = some (.cells #[.int .i64 y, .int .i64 ((k : Int) + 1), .int .i64 d] 23 (0, 0))) rfl (by rfl) (by kernel_rfl) (by kernel_rfl) (by kernel_rfl) (fun _ _ _ h => h) (by exact HBK.out) ?hyr1_4 ?rer1_4
  case hyr1_4 => intro w hw; have kc : w.cell? ⟨W.heap.size, 0, none⟩ = some (.int .i64 (y)) := cell_of_blk hw 0; clear hw; first | (go_simp; done) | (go_simp; with_reducible rfl)
  simp only [Act.put, List.setIfInBounds_toArray, List.set_cons_zero, List.set_cons_succ]
  refine' Reg.G.pure (i := 5) (v := _) rfl (by rfl) (by kernel_rfl) (by kernel_rfl) (by kernel_rfl) (fun _ _ _ h => h) ?hyr1_5 ?rer1_5
  case hyr1_5 => exact fun w => by first | (go_simp; done) | (go_simp; with_reducible rfl)
  simp only [Act.put, List.setIfInBounds_toArray, List.set_cons_zero, List.set_cons_succ]
  refine' Reg.G.take (i := 6) (v := _) (F := fun w => w.heap[W.heap.size]? = some (.cells #[.int .i64 y, .int .i64 ((k : Int) + 1), .int .i64 d] 23 (0, 0))) rfl (by rfl) (by kernel_rfl) (by kernel_rfl) (by kernel_rfl) (fun _ _ _ h => h) (by exact HBK.out) ?hyr1_6 ?rer1_6
  case hyr1_6 => intro w hw; have kc : w.cell? ⟨W.heap.size, 1, none⟩ = some (.int .i64 ((k : Int) + 1)) := cell_of_blk hw 1; clear hw; first | (go_simp; done) | (go_simp; with_reducible rfl)
  simp only [Act.put, List.setIfInBounds_toArray, List.set_cons_zero, List.set_cons_succ]
  refine' Reg.G.pure (i := 9) (v := _) rfl (by rfl) (by kernel_rfl) (by kernel_rfl) (by kernel_rfl) (fun _ _ _ h => h) ?hyr1_9 ?rer1_9
  case hyr1_9 => exact fun w => by first | (go_simp; done) | (go_simp; with_reducible rfl)
  simp only [Act.put, List.setIfInBounds_toArray, List.set_cons_zero, List.set_cons_succ]
  refine' Reg.G.take (i := 10) (v := _) (F := fun w => w.heap[W.heap.size]? = some (.cells #[.int .i64 y, .int .i64 ((k : Int) + 1), .int .i64 d] 23 (0, 0))) rfl (by rfl) (by kernel_rfl) (by kernel_rfl) (by kernel_rfl) (fun _ _ _ h => h) (by exact HBK.out) ?hyr1_10 ?rer1_10
  case hyr1_10 => intro w hw; have kc : w.cell? ⟨W.heap.size, 2, none⟩ = some (.int .i64 (d)) := cell_of_blk hw 2; clear hw; first | (go_simp; done) | (go_simp; with_reducible rfl)
  simp only [Act.put, List.setIfInBounds_toArray, List.set_cons_zero, List.set_cons_succ]
  refine Reg.G.step (j := 2) (m := [true, true, true, false]) [10, 6, 4, 1] rfl (by kernel_rfl) rfl (by kernel_rfl) (fun K hK => ?_)
  -- Op.call { callee := Callee.value (func 56), args := #[t4], argTypes := #[3] }
  go_simp
  refine (D2.out _).mono ?_
  rintro e w1 ⟨rfl, rfl⟩
  refine hK.out _ _ ⟨HBK.out, HBK.out, HBK.out, trivial⟩ ?_
  clear hK K
  simp only [Act.put, List.setIfInBounds_toArray, List.set_cons_zero, List.set_cons_succ, Reg.Kept]
  refine Reg.G.step (j := 7) (m := [true, false, false]) [10, 6, 4] rfl (by kernel_rfl) rfl (by kernel_rfl) (fun K hK => ?_)
  -- Op.call { callee := Callee.value (func 57), args := #[t7, t9], argTypes := #[3, 3] }
  go_simp
  refine (D1.out _ HB1.out).mono ?_
  rintro e w1 ⟨rfl, rfl⟩
  refine hK.out _ _ ⟨HBK.out, trivial⟩ ?_
  clear hK K
  simp only [Act.put, List.setIfInBounds_toArray, List.set_cons_zero, List.set_cons_succ, Reg.Kept]
  refine' Reg.G.pure (i := 8) (v := _) rfl (by rfl) (by kernel_rfl) (by kernel_rfl) (by kernel_rfl) (fun _ _ _ h => h) ?hyr1_8 ?rer1_8
  case hyr1_8 => exact fun w => by first | (go_simp; done) | (go_simp; with_reducible rfl)
  simp only [Act.put, List.setIfInBounds_toArray, List.set_cons_zero, List.set_cons_succ]
  refine' Reg.G.pure (i := 11) (v := _) rfl (by rfl) (by kernel_rfl) (by kernel_rfl) (by kernel_rfl) (fun _ _ _ h => h) ?hyr1_11 ?rer1_11
  case hyr1_11 => exact fun w => by first | (go_simp; done) | (go_simp; with_reducible rfl)
  simp only [Act.put, List.setIfInBounds_toArray, List.set_cons_zero, List.set_cons_succ]
  refine' Reg.G.pure (i := 12) (v := _) rfl (by rfl) (by kernel_rfl) (by kernel_rfl) (by kernel_rfl) (fun _ _ _ h => h) ?hyr1_12 ?rer1_12
  case hyr1_12 => exact fun w => by first | (go_simp; done) | (go_simp; with_reducible rfl)
  simp only [Act.put, List.setIfInBounds_toArray, List.set_cons_zero, List.set_cons_succ]
  refine' Reg.G.pure (i := 13) (v := _) rfl (by rfl) (by kernel_rfl) (by kernel_rfl) (by kernel_rfl) (fun _ _ _ h => h) ?hyr1_13 ?rer1_13
  case hyr1_13 => exact fun w => by first | (go_simp; done) | (go_simp; with_reducible rfl)
  simp only [Act.put, List.setIfInBounds_toArray, List.set_cons_zero, List.set_cons_succ]
  refine Reg.G.done (by kernel_rfl) ?_
  go_wp2_with fail
  go_ret
  exact ⟨rfl, ((Fr.refl _ W).alloc _).drew⟩
/-- What date.Number returns. -/
def numv (c : Civil) : Value := match number c with | some n => .tuple #[nv n, nv 0] | none => .tuple #[nv 0, nv 1]
theorem numv_no {c : Civil} (h : number c = none) : numv c = .tuple #[nv 0, nv 1] := by unfold numv; rw [h]
theorem numv_yes {c : Civil} {n : Int} (h : number c = some n) : numv c = .tuple #[nv n, nv 0] := by unfold numv; rw [h]
set_option maxHeartbeats 2000000 in
theorem Number_any (c : Civil) (W : World) (hc : CivilOk c) (hb : Bf W) : Calls Tryd.prog 58 #[.agg #[.int .i64 c.y, .int .i64 c.m, .int .i64 c.d]] W fun e w' => e = .returned (numv c) ∧ Fr (fun _ => False) W w' := by
  obtain ⟨y, m, d⟩ := c
  have w1 := hc.y; have w2 := hc.m; have w3 := hc.d
  unfold wf at w1 w2 w3
  dsimp only at w1 w2 w3 ⊢
  clear hc
  have e0 : number ⟨y, m, d⟩ = if y < 1990 ∨ y > 2189 ∨ m < 1 ∨ m > 12 then none else if d < 1 ∨ d > daysBefore y (m + 1) - daysBefore y m then none else some (newYear y + daysBefore y m + d - 1) := rfl
  have HB := Lib.hid hb; clear hb
  by_cases h1 : y < 1990
  · rw [numv_no (e0.trans (if_pos (.inl h1)))]; clear e0
    go_enter Tryd.func58, Tryd.ntmps58
    go_wp2_with fail
    go_ret2
    exact ⟨rfl, (Fr.refl _ W).alloc _⟩
  · by_cases h2 : 2189 < y
    · rw [numv_no (e0.trans (if_pos (.inr (.inl h2))))]; clear e0
      go_enter Tryd.func58, Tryd.ntmps58
      go_wp2_with fail
      go_ret2
      exact ⟨rfl, (Fr.refl _ W).alloc _⟩
    · by_cases h3 : m < 1
      · rw [numv_no (e0.trans (if_pos (.inr (.inr (.inl h3)))))]; clear e0
        go_enter Tryd.func58, Tryd.ntmps58
        go_wp2_with fail
        go_ret2
        exact ⟨rfl, (Fr.refl _ W).alloc _⟩
      · by_cases h4 : 12 < m
        · rw [numv_no (e0.trans (if_pos (.inr (.inr (.inr h4)))))]; clear e0
          go_enter Tryd.func58, Tryd.ntmps58
          go_wp2_with fail
          go_ret2
          exact ⟨rfl, (Fr.refl _ W).alloc _⟩
        · rw [if_neg (by omega)] at e0
          by_cases h5 : d < 1
          · rw [numv_no (e0.trans (if_pos (.inl h5)))]; clear e0
            have HBK : Hid ((W.alloc (.cells #[.int .i64 y, .int .i64 m, .int .i64 d] 23)).drew.heap[W.heap.size]? = some (.cells #[.int .i64 y, .int .i64 m, .int .i64 d] 23 (0, 0))) := blk_newn rfl
            go_enter Tryd.func58, Tryd.ntmps58
            go_wp2_with fail
            refine Reg.G.start (by kernel_rfl) ?_
            refine' Reg.G.pure (i := 0) (v := _) rfl (by rfl) (by kernel_rfl) (by kernel_rfl) (by kernel_rfl) (fun _ _ _ h => h) ?hyr3s0 ?rer3s0
            case hyr3s0 => exact fun w => by first | (go_simp; done) | (go_simp; with_reducible rfl)
            simp only [Act.put, List.setIfInBounds_toArray, List.set_cons_zero, List.set_cons_succ]
            refine' Reg.G.take (i := 1) (v := _) (F := fun w => w.heap[W.heap.size]? = some (.cells #[.int .i64 y, .int .i64 m, .int .i64 d] 23 (0, 0))) rfl (by rfl) (by kernel_rfl) (by kernel_rfl) (by kernel_rfl) (fun _ _ _ h => h) (by exact HBK.out) ?hyr3s1 ?rer3s1
            case hyr3s1 => intro w hw; have kc : w.cell? ⟨W.heap.size, 2, none⟩ = some (.int .i64 (d)) := cell_of_blk hw 2; clear hw; first | (go_simp; done) | (go_simp; with_reducible rfl)
            simp only [Act.put, List.setIfInBounds_toArray, List.set_cons_zero, List.set_cons_succ]
            refine' Reg.G.pure (i := 2) (v := _) rfl (by rfl) (by kernel_rfl) (by kernel_rfl) (by kernel_rfl) (fun _ _ _ h => h) ?hyr3s2 ?rer3s2
            case hyr3s2 => exact fun w => by first | (go_simp; done) | (go_simp; with_reducible rfl)
            simp only [Act.put, List.setIfInBounds_toArray, List.set_cons_zero, List.set_cons_succ]
            refine' Reg.G.pure (i := 3) (v := _) rfl (by rfl) (by kernel_rfl) (by kernel_rfl) (by kernel_rfl) (fun _ _ _ h => h) ?hyr3s3 ?rer3s3
            case hyr3s3 => exact fun w => by first | (go_simp; done) | (go_simp; with_reducible rfl)
            simp only [Act.put, List.setIfInBounds_toArray, List.set_cons_zero, List.set_cons_succ]
            refine Reg.G.skip (i := 4) rfl (by rfl) (by kernel_rfl) (by kernel_rfl) (by kernel_rfl) (fun _ _ _ h => h) ?_
            simp only [Act.put, List.setIfInBounds_toArray, List.set_cons_zero, List.set_cons_succ]
            refine Reg.G.skip (i := 5) rfl (by rfl) (by kernel_rfl) (by kernel_rfl) (by kernel_rfl) (fun _ _ _ h => h) ?_
            simp only [Act.put, List.setIfInBounds_toArray, List.set_cons_zero, List.set_cons_succ]
            refine Reg.G.skip (i := 6) rfl (by rfl) (by kernel_rfl) (by kernel_rfl) (by kernel_rfl) (fun _ _ _ h => h) ?_
            simp only [Act.put, List.setIfInBounds_toArray, List.set_cons_zero, List.set_cons_succ]
            refine Reg.G.skip (i := 7) rfl (by rfl) (by kernel_rfl) (by kernel_rfl) (by kernel_rfl) (fun _ _ _ h => h) ?_
            simp only [Act.put, List.setIfInBounds_toArray, List.set_cons_zero, List.set_cons_succ]
            refine Reg.G.skip (i := 8) rfl (by rfl) (by kernel_rfl) (by kernel_rfl) (by kernel_rfl) (fun _ _ _ h => h) ?_
            simp only [Act.put, List.setIfInBounds_toArray, List.set_cons_zero, List.set_cons_succ]
            refine Reg.G.skip (i := 9) rfl (by rfl) (by kernel_rfl) (by kernel_rfl) (by kernel_rfl) (fun _ _ _ h => h) ?_
            simp only [Act.put, List.setIfInBounds_toArray, List.set_cons_zero, List.set_cons_succ]
            refine Reg.G.skip (i := 10) rfl (by rfl) (by kernel_rfl) (by kernel_rfl) (by kernel_rfl) (fun _ _ _ h => h) ?_
            simp only [Act.put, List.setIfInBounds_toArray, List.set_cons_zero, List.set_cons_succ]
            refine Reg.G.skip (i := 11) rfl (by rfl) (by kernel_rfl) (by kernel_rfl) (by kernel_rfl) (fun _ _ _ h => h) ?_
            simp only [Act.put, List.setIfInBounds_toArray, List.set_cons_zero, List.set_cons_succ]
            refine' Reg.G.pure (i := 12) (v := _) rfl (by rfl) (by kernel_rfl) (by kernel_rfl) (by kernel_rfl) (fun _ _ _ h => h) ?hyr3s12 ?rer3s12
            case hyr3s12 => exact fun w => by first | (go_simp; done) | (go_simp; with_reducible rfl)
            simp only [Act.put, List.setIfInBounds_toArray, List.set_cons_zero, List.set_cons_succ]
            refine Reg.G.done (by kernel_rfl) ?_
            go_wp2_with fail
            go_ret2
            exact ⟨rfl, ((Fr.refl _ W).alloc _).drew⟩
          · obtain ⟨k, rfl⟩ : ∃ k : Nat, m = (k : Int) + 1 := ⟨(m - 1).toNat, by omega⟩
            have hk : k < 12 := by omega
            have h5' : decide (d < 1) = false := decide_eq_false h5
            have i1 : (0 : Int) ≤ (k : Int) := Int.natCast_nonneg _
            have i2 : (k : Int) < 12 := by omega
            have HBK : Hid ((W.alloc (.cells #[.int .i64 y, .int .i64 ((k : Int) + 1), .int .i64 d] 23)).drew.heap[W.heap.size]? = some (.cells #[.int .i64 y, .int .i64 ((k : Int) + 1), .int .i64 d] 23 (0, 0))) := blk_newn rfl
            have HB1 : Hid (Bf (W.alloc (.cells #[.int .i64 y, .int .i64 ((k : Int) + 1), .int .i64 d] 23)).drew) := HB.out.fr (((Fr.refl (fun _ => False) W).alloc _).drew) (fun k hk => hk.elim)
            have D1 : Hid (∀ W', Bf W' → Calls Tryd.prog 77 #[.int .i64 y, .int .i64 ((k : Int) + 1)] W' fun e w' => e = .returned (.int .i64 (daysBefore y ((k : Int) + 1 + 1) - daysBefore y ((k : Int) + 1))) ∧ W' = w') := fun W' h' => length_any y k W' hk (by omega) (by omega) h'
            have c1 := dB_bd y ((k : Int) + 1)
            have c2 := dB_bd y ((k : Int) + 1 + 1)
            obtain ⟨ln, hln⟩ : ∃ ln, daysBefore y ((k : Int) + 1 + 1) - daysBefore y ((k : Int) + 1) = ln := ⟨_, rfl⟩
            have hlb : -400 ≤ ln ∧ ln ≤ 366 := by omega
            rw [hln] at D1 e0
            by_cases h6 : ln < d
            · rw [numv_no (e0.trans (if_pos (.inr h6)))]; clear e0 hln c1 c2
              go_enter Tryd.func58, Tryd.ntmps58
              go_wp2_with fail
              refine Reg.G.start (by kernel_rfl) ?_
              refine' Reg.G.pure (i := 0) (v := _) rfl (by rfl) (by kernel_rfl) (by kernel_rfl) (by kernel_rfl) (fun _ _ _ h => h) ?hyr3a0 ?rer3a0
              case hyr3a0 => exact fun w => by first | (go_simp; done) | (go_simp; with_reducible rfl)
              simp only [Act.put, List.setIfInBounds_toArray, List.set_cons_zero, List.set_cons_succ]
              refine' Reg.G.take (i := 1) (v := _) (F := fun w => w.heap[W.heap.size]? = some (.cells #[.int .i64 y, .int .i64 ((k : Int) + 1), .int .i64 d] 23 (0, 0))) rfl (by rfl) (by kernel_rfl) (by kernel_rfl) (by kernel_rfl) (fun _ _ _ h => h) (by exact HBK.out) ?hyr3a1 ?rer3a1
              case hyr3a1 => intro w hw; have kc : w.cell? ⟨W.heap.size, 2, none⟩ = some (.int .i64 (d)) := cell_of_blk hw 2; clear hw; first | (go_simp; done) | (go_simp; with_reducible rfl)
              simp only [Act.put, List.setIfInBounds_toArray, List.set_cons_zero, List.set_cons_succ]
              refine' Reg.G.pure (i := 2) (v := _) rfl (by rfl) (by kernel_rfl) (by kernel_rfl) (by kernel_rfl) (fun _ _ _ h => h) ?hyr3a2 ?rer3a2
              case hyr3a2 => exact fun w => by first | (go_simp; done) | (go_simp; with_reducible rfl)
              simp only [Act.put, List.setIfInBounds_toArray, List.set_cons_zero, List.set_cons_succ]
              refine' Reg.G.pure (i := 3) (v := _) rfl (by rfl) (by kernel_rfl) (by kernel_rfl) (by kernel_rfl) (fun _ _ _ h => h) ?hyr3a3 ?rer3a3
              case hyr3a3 => exact fun w => by first | (go_simp; done) | (go_simp; with_reducible rfl)
              simp only [Act.put, List.setIfInBounds_toArray, List.set_cons_zero, List.set_cons_succ]
              refine' Reg.G.pure (i := 4) (v := _) rfl (by rfl) (by kernel_rfl) (by kernel_rfl) (by kernel_rfl) (fun _ _ _ h => h) ?hyr3a4 ?rer3a4
              case hyr3a4 => exact fun w => by first | (go_simp; done) | (go_simp; with_reducible rfl)
              simp only [Act.put, List.setIfInBounds_toArray, List.set_cons_zero, List.set_cons_succ]
              refine' Reg.G.take (i := 5) (v := _) (F := fun w => w.heap[W.heap.size]? = some (.cells #[.int .i64 y, .int .i64 ((k : Int) + 1), .int .i64 d] 23 (0, 0))) rfl (by rfl) (by kernel_rfl) (by kernel_rfl) (by kernel_rfl) (fun _ _ _ h => h) (by exact HBK.out) ?hyr3a5 ?rer3a5
              case hyr3a5 => intro w hw; have kc : w.cell? ⟨W.heap.size, 2, none⟩ = some (.int .i64 (d)) := cell_of_blk hw 2; clear hw; first | (go_simp; done) | (go_simp; with_reducible rfl)
              simp only [Act.put, List.setIfInBounds_toArray, List.set_cons_zero, List.set_cons_succ]
              refine' Reg.G.pure (i := 6) (v := _) rfl (by rfl) (by kernel_rfl) (by kernel_rfl) (by kernel_rfl) (fun _ _ _ h => h) ?hyr3a6 ?rer3a6
              case hyr3a6 => exact fun w => by first | (go_simp; done) | (go_simp; with_reducible rfl)
              simp only [Act.put, List.setIfInBounds_toArray, List.set_cons_zero, List.set_cons_succ]
              refine' Reg.G.take (i := 7) (v := _) (F := fun w => w.heap[W.heap.size]? = some (.cells #[.int .i64 y, .int .i64 ((k : Int) + 1), .int .i64 d] 23 (0, 0))) rfl (by rfl) (by kernel_rfl) (by kernel_rfl) (by kernel_rfl) (fun _ _ _ h => h) (by exact HBK.out) ?hyr3a7 ?rer3a7
              case hyr3a7 => intro w hw; have kc : w.cell? ⟨W.heap.size, 0, none⟩ = some (.int .i64 (y)) := cell_of_blk hw 0; clear hw; first | (go_simp; done) | (go_simp; with_reducible rfl)
              simp only [Act.put, List.setIfInBounds_toArray, List.set_cons_zero, List.set_cons_succ]
              refine' Reg.G.pure (i := 8) (v := _) rfl (by rfl) (by kernel_rfl) (by kernel_rfl) (by kernel_rfl) (fun _ _ _ h => h) ?hyr3a8 ?rer3a8
              case hyr3a8 => exact fun w => by first | (go_simp; done) | (go_simp; with_reducible rfl)
              simp only [Act.put, List.setIfInBounds_toArray, List.set_cons_zero, List.set_cons_succ]
              refine' Reg.G.take (i := 9) (v := _) (F := fun w => w.heap[W.heap.size]? = some (.cells #[.int .i64 y, .int .i64 ((k : Int) + 1), .int .i64 d] 23 (0, 0))) rfl (by rfl) (by kernel_rfl) (by kernel_rfl) (by kernel_rfl) (fun _ _ _ h => h) (by exact HBK.out) ?hyr3a9 ?rer3a9
              case hyr3a9 => intro w hw; have kc : w.cell? ⟨W.heap.size, 1, none⟩ = some (.int .i64 ((k : Int) + 1)) := cell_of_blk hw 1; clear hw; first | (go_simp; done) | (go_simp; with_reducible rfl)
              simp only [Act.put, List.setIfInBounds_toArray, List.set_cons_zero, List.set_cons_succ]
              refine Reg.G.step (j := 10) (m := [false, false, true, false]) [9, 7, 5, 1] rfl (by kernel_rfl) rfl (by kernel_rfl) (fun K hK => ?_)
              -- Op.call { callee := Callee.value (func 77), args := #[t29, t31], argTypes := #[3, 3] }
              go_simp
              refine (D1.out _ HB1.out).mono ?_
              rintro e w1 ⟨rfl, rfl⟩
              refine hK.out _ _ ⟨HBK.out, trivial⟩ ?_
              clear hK K
              simp only [Act.put, List.setIfInBounds_toArray, List.set_cons_zero, List.set_cons_succ, Reg.Kept]
              refine' Reg.G.pure (i := 11) (v := _) rfl (by rfl) (by kernel_rfl) (by kernel_rfl) (by kernel_rfl) (fun _ _ _ h => h) ?hyr3a11 ?rer3a11
              case hyr3a11 => exact fun w => by first | (go_simp; done) | (go_simp; with_reducible rfl)
              simp only [Act.put, List.setIfInBounds_toArray, List.set_cons_zero, List.set_cons_succ]
              refine' Reg.G.pure (i := 12) (v := _) rfl (by rfl) (by kernel_rfl) (by kernel_rfl) (by kernel_rfl) (fun _ _ _ h => h) ?hyr3a12 ?rer3a12
              case hyr3a12 => exact fun w => by first | (go_simp; done) | (go_simp; with_reducible rfl)
              simp only [Act.put, List.setIfInBounds_toArray, List.set_cons_zero, List.set_cons_succ]
              refine Reg.G.done (by kernel_rfl) ?_
              go_wp2_with fail
              go_ret2
              exact ⟨rfl, ((Fr.refl _ W).alloc _).drew⟩
            · rw [numv_yes (e0.trans (if_neg (by omega)))]; clear e0 hln c1 c2
              have h6' : d ≤ ln := by omega
              have D3 := Lib.hid (number_any y k d (W.alloc (.cells #[.int .i64 y, .int .i64 ((k : Int) + 1), .int .i64 d] 23)).drew hk (by omega) (by omega) (by omega) (by omega) HB1.out)
              have kc0 : (W.alloc (.cells #[.int .i64 y, .int .i64 ((k : Int) + 1), .int .i64 d] 23)).drew.cell? ⟨W.heap.size, 0, none⟩ = some (.int .i64 y) := cell_of_blk HBK.out 0
              have kc1 : (W.alloc (.cells #[.int .i64 y, .int .i64 ((k : Int) + 1), .int .i64 d] 23)).drew.cell? ⟨W.heap.size, 1, none⟩ = some (.int .i64 ((k : Int) + 1)) := cell_of_blk HBK.out 1
              have kc2 : (W.alloc (.cells #[.int .i64 y, .int .i64 ((k : Int) + 1), .int .i64 d] 23)).drew.cell? ⟨W.heap.size, 2, none⟩ = some (.int .i64 d) := cell_of_blk HBK.out 2
              go_enter Tryd.func58, Tryd.ntmps58
              go_wp2_with fail
              refine Reg.G.start (by kernel_rfl) ?_
              refine' Reg.G.pure (i := 0) (v := _) rfl (by rfl) (by kernel_rfl) (by kernel_rfl) (by kernel_rfl) (fun _ _ _ h => h) ?hyr3b0 ?rer3b0
              case hyr3b0 => exact fun w => by first | (go_simp; done) | (go_simp; with_reducible rfl)
              simp only [Act.put, List.setIfInBounds_toArray, List.set_cons_zero, List.set_cons_succ]
              refine' Reg.G.take (i := 1) (v := _) (F := fun w => w.heap[W.heap.size]? = some (.cells #[.int .i64 y, .int .i64 ((k : Int) + 1), .int .i64 d] 23 (0, 0))) rfl (by rfl) (by kernel_rfl) (by kernel_rfl) (by kernel_rfl) (fun _ _ _ h => h) (by exact HBK.out) ?hyr3b1 ?rer3b1
              case hyr3b1 => intro w hw; have kc : w.cell? ⟨W.heap.size, 2, none⟩ = some (.int .i64 (d)) := cell_of_blk hw 2; clear hw; first | (go_simp; done) | (go_simp; with_reducible rfl)
              simp only [Act.put, List.setIfInBounds_toArray, List.set_cons_zero, List.set_cons_succ]
              refine' Reg.G.pure (i := 2) (v := _) rfl (by rfl) (by kernel_rfl) (by kernel_rfl) (by kernel_rfl) (fun _ _ _ h => h) ?hyr3b2 ?rer3b2
              case hyr3b2 => exact fun w => by first | (go_simp; done) | (go_simp; with_reducible rfl)
              simp only [Act.put, List.setIfInBounds_toArray, List.set_cons_zero, List.set_cons_succ]
              refine' Reg.G.pure (i := 3) (v := _) rfl (by rfl) (by kernel_rfl) (by kernel_rfl) (by kernel_rfl) (fun _ _ _ h => h) ?hyr3b3 ?rer3b3
              case hyr3b3 => exact fun w => by first | (go_simp; done) | (go_simp; with_reducible rfl)
              simp only [Act.put, List.setIfInBounds_toArray, List.set_cons_zero, List.set_cons_succ]
              refine' Reg.G.pure (i := 4) (v := _) rfl (by rfl) (by kernel_rfl) (by kernel_rfl) (by kernel_rfl) (fun _ _ _ h => h) ?hyr3b4 ?rer3b4
              case hyr3b4 => exact fun w => by first | (go_simp; done) | (go_simp; with_reducible rfl)
              simp only [Act.put, List.setIfInBounds_toArray, List.set_cons_zero, List.set_cons_succ]
              refine' Reg.G.take (i := 5) (v := _) (F := fun w => w.heap[W.heap.size]? = some (.cells #[.int .i64 y, .int .i64 ((k : Int) + 1), .int .i64 d] 23 (0, 0))) rfl (by rfl) (by kernel_rfl) (by kernel_rfl) (by kernel_rfl) (fun _ _ _ h => h) (by exact HBK.out) ?hyr3b5 ?rer3b5
              case hyr3b5 => intro w hw; have kc : w.cell? ⟨W.heap.size, 2, none⟩ = some (.int .i64 (d)) := cell_of_blk hw 2; clear hw; first | (go_simp; done) | (go_simp; with_reducible rfl)
              simp only [Act.put, List.setIfInBounds_toArray, List.set_cons_zero, List.set_cons_succ]
              refine' Reg.G.pure (i := 6) (v := _) rfl (by rfl) (by kernel_rfl) (by kernel_rfl) (by kernel_rfl) (fun _ _ _ h => h) ?hyr3b6 ?rer3b6
              case hyr3b6 => exact fun w => by first | (go_simp; done) | (go_simp; with_reducible rfl)
              simp only [Act.put, List.setIfInBounds_toArray, List.set_cons_zero, List.set_cons_succ]
              refine' Reg.G.take (i := 7) (v := _) (F := fun w => w.heap[W.heap.size]? = some (.cells #[.int .i64 y, .int .i64 ((k : Int) + 1), .int .i64 d] 23 (0, 0))) rfl (by rfl) (by kernel_rfl) (by kernel_rfl) (by kernel_rfl) (fun _ _ _ h => h) (by exact HBK.out) ?hyr3b7 ?rer3b7
              case hyr3b7 => intro w hw; have kc : w.cell? ⟨W.heap.size, 0, none⟩ = some (.int .i64 (y)) := cell_of_blk hw 0; clear hw; first | (go_simp; done) | (go_simp; with_reducible rfl)
              simp only [Act.put, List.setIfInBounds_toArray, List.set_cons_zero, List.set_cons_succ]
              refine' Reg.G.pure (i := 8) (v := _) rfl (by rfl) (by kernel_rfl) (by kernel_rfl) (by kernel_rfl) (fun _ _ _ h => h) ?hyr3b8 ?rer3b8
              case hyr3b8 => exact fun w => by first | (go_simp; done) | (go_simp; with_reducible rfl)
              simp only [Act.put, List.setIfInBounds_toArray, List.set_cons_zero, List.set_cons_succ]
              refine' Reg.G.take (i := 9) (v := _) (F := fun w => w.heap[W.heap.size]? = some (.cells #[.int .i64 y, .int .i64 ((k : Int) + 1), .int .i64 d] 23 (0, 0))) rfl (by rfl) (by kernel_rfl) (by kernel_rfl) (by kernel_rfl) (fun _ _ _ h => h) (by exact HBK.out) ?hyr3b9 ?rer3b9
              case hyr3b9 => intro w hw; have kc : w.cell? ⟨W.heap.size, 1, none⟩ = some (.int .i64 ((k : Int) + 1)) := cell_of_blk hw 1; clear hw; first | (go_simp; done) | (go_simp; with_reducible rfl)
              simp only [Act.put, List.setIfInBounds_toArray, List.set_cons_zero, List.set_cons_succ]
              refine Reg.G.step (j := 10) (m := [false, false, true, false]) [9, 7, 5, 1] rfl (by kernel_rfl) rfl (by kernel_rfl) (fun K hK => ?_)
              -- Op.call { callee := Callee.value (func 77), args := #[t29, t31], argTypes := #[3, 3] }
              go_simp
              refine (D1.out _ HB1.out).mono ?_
              rintro e w1 ⟨rfl, rfl⟩
              refine hK.out _ _ ⟨HBK.out, trivial⟩ ?_
              clear hK K
              simp only [Act.put, List.setIfInBounds_toArray, List.set_cons_zero, List.set_cons_succ, Reg.Kept]
              refine' Reg.G.pure (i := 11) (v := _) rfl (by rfl) (by kernel_rfl) (by kernel_rfl) (by kernel_rfl) (fun _ _ _ h => h) ?hyr3b11 ?rer3b11
              case hyr3b11 => exact fun w => by first | (go_simp; done) | (go_simp; with_reducible rfl)
              simp only [Act.put, List.setIfInBounds_toArray, List.set_cons_zero, List.set_cons_succ]
              refine' Reg.G.pure (i := 12) (v := _) rfl (by rfl) (by kernel_rfl) (by kernel_rfl) (by kernel_rfl) (fun _ _ _ h => h) ?hyr3b12 ?rer3b12
              case hyr3b12 => exact fun w => by first | (go_simp; done) | (go_simp; with_reducible rfl)
              simp only [Act.put, List.setIfInBounds_toArray, List.set_cons_zero, List.set_cons_succ]
              refine Reg.G.done (by kernel_rfl) ?_
              go_wp2_with fail
              refine D3.out.mono ?_
              rintro e w2 ⟨rfl, hF2⟩
              have HF2 := Lib.hid hF2; clear hF2
              go_wp2_with fail
              go_ret2
              exact ⟨rfl, (((Fr.refl _ W).alloc _).drew).trans HF2.out⟩
end Go.Proofs.YtdhjibnkebbejaaDoor.Rs
