/-
  What the reference's functions Leap, Length, Exists, Number return: the same numbers as the program's.
-/
import Derived.Test.YtdhjibnkebbejaaDoorResDate
import Derived.Test.YtdhjibnkebbejaaDoorResRefA
namespace Go.Proofs.YtdhjibnkebbejaaDoor.Rs
open Go.RowKit Mem Vw
set_option linter.unusedVariables false
set_option linter.unusedSimpArgs false

theorem rleap_any (y : Int) (W : World) (h0 : 0 ≤ y) (h1 : y ≤ 10000) : Calls Tryd.prog 73 #[.int .i64 y] W fun e w' => e = .returned (.bool (leap y)) ∧ w' = W := by
  by_cases a : y % 4 = 0
  · by_cases b : y % 100 = 0
    · have hb : (y % 100 != 0) = false := by simpa using b
      by_cases c : y % 400 = 0
      · have e : leap y = true := by unfold leap; simp [a, c]
        rw [e]; clear e
        go_enter Tryd.func73, Tryd.ntmps73
        go_wp2_with fail
        go_ret
        exact ⟨rfl, rfl⟩
      · have e : leap y = false := by unfold leap; simp [a, b, c]
        have hc : (y % 400 == 0) = false := by simpa using c
        rw [e]; clear e
        go_enter Tryd.func73, Tryd.ntmps73
        go_wp2_with fail
        go_ret
        exact ⟨rfl, rfl⟩
    · have e : leap y = true := by unfold leap; simp [a, b]
      have hb : (y % 100 != 0) = true := by simpa using b
      rw [e]; clear e
      go_enter Tryd.func73, Tryd.ntmps73
      go_wp2_with fail
      go_ret
      exact ⟨rfl, rfl⟩
  · have e : leap y = false := by unfold leap; simp [a]
    have ha : (y % 4 == 0) = false := by simpa using a
    have hc : (y % 400 == 0) = false := by simp; omega
    rw [e]; clear e
    go_enter Tryd.func73, Tryd.ntmps73
    go_wp2_with fail
    go_ret
    exact ⟨rfl, rfl⟩
/-- The days of a month. -/
def rlen (y m : Int) : Int := if m = 2 then (if leap y then 29 else 28) else if m = 4 ∨ m = 6 ∨ m = 9 ∨ m = 11 then 30 else 31
theorem rlen_eq (y m : Int) (h1 : 1 ≤ m) (h2 : m ≤ 12) : daysBefore y (m + 1) - daysBefore y m = rlen y m := by
  have : m = 1 ∨ m = 2 ∨ m = 3 ∨ m = 4 ∨ m = 5 ∨ m = 6 ∨ m = 7 ∨ m = 8 ∨ m = 9 ∨ m = 10 ∨ m = 11 ∨ m = 12 := by omega
  unfold daysBefore rlen
  cases leap y <;> (rcases this with rfl | rfl | rfl | rfl | rfl | rfl | rfl | rfl | rfl | rfl | rfl | rfl <;> rfl)
theorem newYear_next (y : Int) (h : 1 ≤ y) : newYear (y + 1) = newYear y + 365 + if leap y then 1 else 0 := by
  unfold newYear leaps leap
  by_cases a : y % 4 = 0 <;> by_cases b : y % 100 = 0 <;> by_cases c : y % 400 = 0 <;> simp [a, b, c] <;> omega
theorem rlen_bd (y m : Int) : 28 ≤ rlen y m ∧ rlen y m ≤ 31 := by
  unfold rlen
  repeat' split
  all_goals omega
set_option maxHeartbeats 2000000 in
theorem rlength_any (y m : Int) (W : World) (h0 : 0 ≤ y) (h1 : y ≤ 10000) (h2 : 1 ≤ m) (h3 : m ≤ 12) : Calls Tryd.prog 74 #[.int .i64 y, .int .i64 m] W fun e w' => e = .returned (.int .i64 (rlen y m)) ∧ w' = W := by
  have HL := Lib.hid (rleap_any y W h0 h1)
  have : m = 1 ∨ m = 2 ∨ m = 3 ∨ m = 4 ∨ m = 5 ∨ m = 6 ∨ m = 7 ∨ m = 8 ∨ m = 9 ∨ m = 10 ∨ m = 11 ∨ m = 12 := by omega
  clear h0 h1 h2 h3
  rcases this with rfl | rfl | h
  · go_enter Tryd.func74, Tryd.ntmps74
    go_wp2_with fail
    go_ret
    exact ⟨rfl, rfl⟩
  · have e0 : rlen y 2 = if leap y then 29 else 28 := rfl
    rw [e0]
    clear e0
    obtain ⟨b, hb⟩ : ∃ b, leap y = b := ⟨_, rfl⟩
    rw [hb] at HL ⊢
    clear hb
    cases b
    · go_enter Tryd.func74, Tryd.ntmps74
      go_wp2_with fail
      refine HL.out.mono ?_
      rintro e w ⟨rfl, rfl⟩
      go_wp2_with fail
      go_ret
      exact ⟨rfl, rfl⟩
    · go_enter Tryd.func74, Tryd.ntmps74
      go_wp2_with fail
      refine HL.out.mono ?_
      rintro e w ⟨rfl, rfl⟩
      go_wp2_with fail
      go_ret
      exact ⟨rfl, rfl⟩
  · rcases h with rfl | rfl | rfl | rfl | rfl | rfl | rfl | rfl | rfl | rfl
    all_goals
      go_enter Tryd.func74, Tryd.ntmps74
      go_wp2_with fail
      go_ret
      exact ⟨rfl, rfl⟩
set_option maxHeartbeats 4000000 in
theorem rexists_any (c : Civil) (W : World) (hc : CivilOk c) : Calls Tryd.prog 72 #[.agg #[.int .i64 c.y, .int .i64 c.m, .int .i64 c.d]] W fun e w' => e = .returned (.bool (number c).isSome) ∧ Fr (fun _ => False) W w' := by
  obtain ⟨y, m, d⟩ := c
  have w1 := hc.y; have w2 := hc.m; have w3 := hc.d
  unfold wf at w1 w2 w3
  dsimp only at w1 w2 w3 ⊢
  clear hc
  have e0 : number ⟨y, m, d⟩ = if y < 1990 ∨ y > 2189 ∨ m < 1 ∨ m > 12 then none else if d < 1 ∨ d > daysBefore y (m + 1) - daysBefore y m then none else some (newYear y + daysBefore y m + d - 1) := rfl
  obtain ⟨r, hr⟩ : ∃ r, (number ⟨y, m, d⟩).isSome = r := ⟨_, rfl⟩
  rw [hr]
  by_cases h1 : y < 1990
  · obtain rfl : r = false := by rw [← hr, e0, if_pos (.inl h1)]; rfl
    clear e0 hr
    go_enter Tryd.func72, Tryd.ntmps72
    go_wp2_with fail
    go_ret
    exact ⟨rfl, (Fr.refl _ W).alloc _⟩
  by_cases h2 : 2189 < y
  · obtain rfl : r = false := by rw [← hr, e0, if_pos (.inr (.inl h2))]; rfl
    clear e0 hr
    go_enter Tryd.func72, Tryd.ntmps72
    go_wp2_with fail
    go_ret
    exact ⟨rfl, (Fr.refl _ W).alloc _⟩
  by_cases h3 : m < 1
  · obtain rfl : r = false := by rw [← hr, e0, if_pos (.inr (.inr (.inl h3)))]; rfl
    clear e0 hr
    go_enter Tryd.func72, Tryd.ntmps72
    go_wp2_with fail
    go_ret
    exact ⟨rfl, (Fr.refl _ W).alloc _⟩
  by_cases h4 : 12 < m
  · obtain rfl : r = false := by rw [← hr, e0, if_pos (.inr (.inr (.inr h4)))]; rfl
    clear e0 hr
    go_enter Tryd.func72, Tryd.ntmps72
    go_wp2_with fail
    go_ret
    exact ⟨rfl, (Fr.refl _ W).alloc _⟩
  rw [if_neg (by omega), rlen_eq y m (by omega) (by omega)] at e0
  have HBK : Hid ((W.alloc (.cells #[.int .i64 y, .int .i64 m, .int .i64 d] 23)).drew.heap[W.heap.size]? = some (.cells #[.int .i64 y, .int .i64 m, .int .i64 d] 23 (0, 0))) := blk_newn rfl
  by_cases h5 : d < 1
  · obtain rfl : r = false := by rw [← hr, e0, if_pos (.inl h5)]; rfl
    clear e0 hr
    have h5' : decide (1 ≤ d) = false := decide_eq_false (by omega)
    go_enter Tryd.func72, Tryd.ntmps72
    go_wp2_with fail
    refine Reg.G.start (by kernel_rfl) ?_
    refine' Reg.G.pure (i := 0) (v := _) rfl (by rfl) (by kernel_rfl) (by kernel_rfl) (by kernel_rfl) (fun _ _ _ h => h) ?hyr3s0 ?rer3s0
    case hyr3s0 => exact fun w => by first | (go_simp; done) | (go_simp; with_reducible rfl)
    simp only [Act.put, List.setIfInBounds_toArray, List.set_cons_zero, List.set_cons_succ]
    refine' Reg.G.take (i := 1) (v := _) (F := (fun w => w.heap[W.heap.size]? = some (.cells #[.int .i64 y, .int .i64 m, .int .i64 d] 23 (0, 0)))) rfl (by rfl) (by kernel_rfl) (by kernel_rfl) (by kernel_rfl) (fun _ _ _ h => h) (by exact HBK.out) ?hyr3s1 ?rer3s1
    case hyr3s1 => intro w hw; have kc : w.cell? ⟨W.heap.size, 2, none⟩ = some (.int .i64 (d)) := cell_of_blk hw 2; clear hw; first | (go_simp; done) | (go_simp; with_reducible rfl)
    simp only [Act.put, List.setIfInBounds_toArray, List.set_cons_zero, List.set_cons_succ]
    refine' Reg.G.pure (i := 2) (v := _) rfl (by rfl) (by kernel_rfl) (by kernel_rfl) (by kernel_rfl) (fun _ _ _ h => h) ?hyr3s2 ?rer3s2
    case hyr3s2 => exact fun w => by first | (go_simp; done) | (go_simp; with_reducible rfl)
    simp only [Act.put, List.setIfInBounds_toArray, List.set_cons_zero, List.set_cons_succ]
    refine' Reg.G.pure (i := 3) (v := _) rfl (by rfl) (by kernel_rfl) (by kernel_rfl) (by kernel_rfl) (fun _ _ _ h => h) ?hyr3s3 ?rer3s3
    case hyr3s3 => exact fun w => by first | (go_simp; done) | (go_simp; with_reducible rfl)
    simp only [Act.put, List.setIfInBounds_toArray, List.set_cons_zero, List.set_cons_succ]
    refine Reg.G.skip (i := 4) rfl (by rfl) (by kernel_rfl) (by kernel_rfl) (by kernel_rfl) (fun _ _ _ h => h) ?_
    simp only [Act.put, List.setIfInBounds_toArray, List.set_cons_zero, List.set_cons_succ]
    refine Reg.G.skip (i := 5) rfl (by rfl) (by kernel_rfl) (by kernel_rfl) (by kernel_rfl) (fun _ _ _ h => h) ?_
    simp only [Act.put, List.setIfInBounds_toArray, List.set_cons_zero, List.set_cons_succ]
    refine Reg.G.skip (i := 6) rfl (by rfl) (by kernel_rfl) (by kernel_rfl) (by kernel_rfl) (fun _ _ _ h => h) ?_
    simp only [Act.put, List.setIfInBounds_toArray, List.set_cons_zero, List.set_cons_succ]
    refine Reg.G.skip (i := 7) rfl (by rfl) (by kernel_rfl) (by kernel_rfl) (by kernel_rfl) (fun _ _ _ h => h) ?_
    simp only [Act.put, List.setIfInBounds_toArray, List.set_cons_zero, List.set_cons_succ]
    refine Reg.G.skip (i := 8) rfl (by rfl) (by kernel_rfl) (by kernel_rfl) (by kernel_rfl) (fun _ _ _ h => h) ?_
    simp only [Act.put, List.setIfInBounds_toArray, List.set_cons_zero, List.set_cons_succ]
    refine Reg.G.skip (i := 9) rfl (by rfl) (by kernel_rfl) (by kernel_rfl) (by kernel_rfl) (fun _ _ _ h => h) ?_
    simp only [Act.put, List.setIfInBounds_toArray, List.set_cons_zero, List.set_cons_succ]
    refine Reg.G.skip (i := 10) rfl (by rfl) (by kernel_rfl) (by kernel_rfl) (by kernel_rfl) (fun _ _ _ h => h) ?_
    simp only [Act.put, List.setIfInBounds_toArray, List.set_cons_zero, List.set_cons_succ]
    refine Reg.G.skip (i := 11) rfl (by rfl) (by kernel_rfl) (by kernel_rfl) (by kernel_rfl) (fun _ _ _ h => h) ?_
    simp only [Act.put, List.setIfInBounds_toArray, List.set_cons_zero, List.set_cons_succ]
    refine' Reg.G.pure (i := 12) (v := _) rfl (by rfl) (by kernel_rfl) (by kernel_rfl) (by kernel_rfl) (fun _ _ _ h => h) ?hyr3s12 ?rer3s12
    case hyr3s12 => exact fun w => by first | (go_simp; done) | (go_simp; with_reducible rfl)
    simp only [Act.put, List.setIfInBounds_toArray, List.set_cons_zero, List.set_cons_succ]
    refine' Reg.G.pure (i := 13) (v := _) rfl (by rfl) (by kernel_rfl) (by kernel_rfl) (by kernel_rfl) (fun _ _ _ h => h) ?hyr3s13 ?rer3s13
    case hyr3s13 => exact fun w => by first | (go_simp; done) | (go_simp; with_reducible rfl)
    simp only [Act.put, List.setIfInBounds_toArray, List.set_cons_zero, List.set_cons_succ]
    refine Reg.G.done (by kernel_rfl) ?_
    go_wp2_with fail
    go_ret
    exact ⟨rfl, ((Fr.refl _ W).alloc _).drew⟩
  · have h5' : decide (1 ≤ d) = true := decide_eq_true (by omega)
    have h6 : r = decide (d ≤ rlen y m) := by
      rw [← hr, e0]
      by_cases h7 : d ≤ rlen y m
      · rw [if_neg (by omega), decide_eq_true h7]; rfl
      · rw [if_pos (.inr (by omega)), decide_eq_false h7]; rfl
    subst h6
    clear e0 hr
    have D1 : Hid (∀ W', Calls Tryd.prog 74 #[.int .i64 y, .int .i64 m] W' fun e w' => e = .returned (.int .i64 (rlen y m)) ∧ w' = W') := fun W' => rlength_any y m W' (by omega) (by omega) (by omega) (by omega)
    go_enter Tryd.func72, Tryd.ntmps72
    go_wp2_with fail
    refine Reg.G.start (by kernel_rfl) ?_
    refine' Reg.G.pure (i := 0) (v := _) rfl (by rfl) (by kernel_rfl) (by kernel_rfl) (by kernel_rfl) (fun _ _ _ h => h) ?hyr3a0 ?rer3a0
    case hyr3a0 => exact fun w => by first | (go_simp; done) | (go_simp; with_reducible rfl)
    simp only [Act.put, List.setIfInBounds_toArray, List.set_cons_zero, List.set_cons_succ]
    refine' Reg.G.take (i := 1) (v := _) (F := (fun w => w.heap[W.heap.size]? = some (.cells #[.int .i64 y, .int .i64 m, .int .i64 d] 23 (0, 0)))) rfl (by rfl) (by kernel_rfl) (by kernel_rfl) (by kernel_rfl) (fun _ _ _ h => h) (by exact HBK.out) ?hyr3a1 ?rer3a1
    case hyr3a1 => intro w hw; have kc : w.cell? ⟨W.heap.size, 2, none⟩ = some (.int .i64 (d)) := cell_of_blk hw 2; clear hw; first | (go_simp; done) | (go_simp; with_reducible rfl)
    simp only [Act.put, List.setIfInBounds_toArray, List.set_cons_zero, List.set_cons_succ]
    refine' Reg.G.pure (i := 2) (v := _) rfl (by rfl) (by kernel_rfl) (by kernel_rfl) (by kernel_rfl) (fun _ _ _ h => h) ?hyr3a2 ?rer3a2
    case hyr3a2 => exact fun w => by first | (go_simp; done) | (go_simp; with_reducible rfl)
    simp only [Act.put, List.setIfInBounds_toArray, List.set_cons_zero, List.set_cons_succ]
    refine' Reg.G.pure (i := 3) (v := _) rfl (by rfl) (by kernel_rfl) (by kernel_rfl) (by kernel_rfl) (fun _ _ _ h => h) ?hyr3a3 ?rer3a3
    case hyr3a3 => exact fun w => by first | (go_simp; done) | (go_simp; with_reducible rfl)
    simp only [Act.put, List.setIfInBounds_toArray, List.set_cons_zero, List.set_cons_succ]
    refine' Reg.G.pure (i := 4) (v := _) rfl (by rfl) (by kernel_rfl) (by kernel_rfl) (by kernel_rfl) (fun _ _ _ h => h) ?hyr3a4 ?rer3a4
    case hyr3a4 => exact fun w => by first | (go_simp; done) | (go_simp; with_reducible rfl)
    simp only [Act.put, List.setIfInBounds_toArray, List.set_cons_zero, List.set_cons_succ]
    refine' Reg.G.take (i := 5) (v := _) (F := (fun w => w.heap[W.heap.size]? = some (.cells #[.int .i64 y, .int .i64 m, .int .i64 d] 23 (0, 0)))) rfl (by rfl) (by kernel_rfl) (by kernel_rfl) (by kernel_rfl) (fun _ _ _ h => h) (by exact HBK.out) ?hyr3a5 ?rer3a5
    case hyr3a5 => intro w hw; have kc : w.cell? ⟨W.heap.size, 2, none⟩ = some (.int .i64 (d)) := cell_of_blk hw 2; clear hw; first | (go_simp; done) | (go_simp; with_reducible rfl)
    simp only [Act.put, List.setIfInBounds_toArray, List.set_cons_zero, List.set_cons_succ]
    refine' Reg.G.pure (i := 6) (v := _) rfl (by rfl) (by kernel_rfl) (by kernel_rfl) (by kernel_rfl) (fun _ _ _ h => h) ?hyr3a6 ?rer3a6
    case hyr3a6 => exact fun w => by first | (go_simp; done) | (go_simp; with_reducible rfl)
    simp only [Act.put, List.setIfInBounds_toArray, List.set_cons_zero, List.set_cons_succ]
    refine' Reg.G.take (i := 7) (v := _) (F := (fun w => w.heap[W.heap.size]? = some (.cells #[.int .i64 y, .int .i64 m, .int .i64 d] 23 (0, 0)))) rfl (by rfl) (by kernel_rfl) (by kernel_rfl) (by kernel_rfl) (fun _ _ _ h => h) (by exact HBK.out) ?hyr3a7 ?rer3a7
    case hyr3a7 => intro w hw; have kc : w.cell? ⟨W.heap.size, 0, none⟩ = some (.int .i64 (y)) := cell_of_blk hw 0; clear hw; first | (go_simp; done) | (go_simp; with_reducible rfl)
    simp only [Act.put, List.setIfInBounds_toArray, List.set_cons_zero, List.set_cons_succ]
    refine' Reg.G.pure (i := 8) (v := _) rfl (by rfl) (by kernel_rfl) (by kernel_rfl) (by kernel_rfl) (fun _ _ _ h => h) ?hyr3a8 ?rer3a8
    case hyr3a8 => exact fun w => by first | (go_simp; done) | (go_simp; with_reducible rfl)
    simp only [Act.put, List.setIfInBounds_toArray, List.set_cons_zero, List.set_cons_succ]
    refine' Reg.G.take (i := 9) (v := _) (F := (fun w => w.heap[W.heap.size]? = some (.cells #[.int .i64 y, .int .i64 m, .int .i64 d] 23 (0, 0)))) rfl (by rfl) (by kernel_rfl) (by kernel_rfl) (by kernel_rfl) (fun _ _ _ h => h) (by exact HBK.out) ?hyr3a9 ?rer3a9
    case hyr3a9 => intro w hw; have kc : w.cell? ⟨W.heap.size, 1, none⟩ = some (.int .i64 (m)) := cell_of_blk hw 1; clear hw; first | (go_simp; done) | (go_simp; with_reducible rfl)
    simp only [Act.put, List.setIfInBounds_toArray, List.set_cons_zero, List.set_cons_succ]
    refine Reg.G.step (j := 10) (m := [false, false, true, false]) [9, 7, 5, 1] rfl (by kernel_rfl) rfl (by kernel_rfl) (fun K hK => ?_)
    -- Op.call { callee := Callee.value (func 74), args := #[t28, t30], argTypes := #[3, 3] }
    go_simp
    refine (D1.out _).mono ?_
    rintro e w1 ⟨rfl, rfl⟩
    refine hK.out _ _ ⟨HBK.out, trivial⟩ ?_
    clear hK K
    simp only [Act.put, List.setIfInBounds_toArray, List.set_cons_zero, List.set_cons_succ, Reg.Kept]
    refine' Reg.G.pure (i := 11) (v := _) rfl (by rfl) (by kernel_rfl) (by kernel_rfl) (by kernel_rfl) (fun _ _ _ h => h) ?hyr3a11 ?rer3a11
    case hyr3a11 => exact fun w => by first | (go_simp; done) | (go_simp; with_reducible rfl)
    simp only [Act.put, List.setIfInBounds_toArray, List.set_cons_zero, List.set_cons_succ]
    refine' Reg.G.pure (i := 12) (v := _) rfl (by rfl) (by kernel_rfl) (by kernel_rfl) (by kernel_rfl) (fun _ _ _ h => h) ?hyr3a12 ?rer3a12
    case hyr3a12 => exact fun w => by first | (go_simp; done) | (go_simp; with_reducible rfl)
    simp only [Act.put, List.setIfInBounds_toArray, List.set_cons_zero, List.set_cons_succ]
    refine' Reg.G.pure (i := 13) (v := _) rfl (by rfl) (by kernel_rfl) (by kernel_rfl) (by kernel_rfl) (fun _ _ _ h => h) ?hyr3a13 ?rer3a13
    case hyr3a13 => exact fun w => by first | (go_simp; done) | (go_simp; with_reducible rfl)
    simp only [Act.put, List.setIfInBounds_toArray, List.set_cons_zero, List.set_cons_succ]
    refine Reg.G.done (by kernel_rfl) ?_
    go_wp2_with fail
    go_ret
    exact ⟨rfl, ((Fr.refl _ W).alloc _).drew⟩
theorem ryear_bd (y : Int) (h0 : 1990 ≤ y) (h1 : y ≤ 2189) : 0 ≤ newYear y ∧ newYear y ≤ 80000 := newYear_bd y h0 h1
set_option maxHeartbeats 4000000 in
theorem rNumber_any (c : Civil) (W : World) (hc : CivilOk c) : Calls Tryd.prog 52 #[.agg #[.int .i64 c.y, .int .i64 c.m, .int .i64 c.d]] W fun e w' => e = .returned (numv c) ∧ Fr (fun _ => False) W w' := by
  obtain ⟨u, hu⟩ : ∃ u, W.alloc (.cells #[.int .i64 c.y, .int .i64 c.m, .int .i64 c.d] 23) = u := ⟨_, rfl⟩
  have HX : Hid (u.heap[W.heap.size]? = some (.cells #[.int .i64 c.y, .int .i64 c.m, .int .i64 c.d] 23 (0, 0))) := by rw [← hu]; exact blk_newn rfl
  have HFR : Hid (Fr (fun _ => False) W u) := by rw [← hu]; exact (Fr.refl _ W).alloc _
  have HU := Lib.hid hu
  have HE := Lib.hid (rexists_any c u hc)
  clear hu
  obtain ⟨y, m, d⟩ := c
  have w1 := hc.y; have w2 := hc.m; have w3 := hc.d
  unfold wf at w1 w2 w3
  dsimp only at w1 w2 w3 HX HU HE ⊢
  clear hc
  have c0 : u.cell? ⟨W.heap.size, 0, none⟩ = some (.int .i64 y) := cell_of_blk HX.out 0
  have c1 : u.cell? ⟨W.heap.size, 1, none⟩ = some (.int .i64 m) := cell_of_blk HX.out 1
  have c2 : u.cell? ⟨W.heap.size, 2, none⟩ = some (.int .i64 d) := cell_of_blk HX.out 2
  obtain ⟨r, hr⟩ : ∃ r, number ⟨y, m, d⟩ = r := ⟨_, rfl⟩
  rw [hr] at HE
  have HRR := Lib.hid hr
  clear hr
  obtain ⟨q, hq⟩ : ∃ q, numv ⟨y, m, d⟩ = q := ⟨_, rfl⟩
  rw [hq]
  have HQ := Lib.hid hq
  clear hq
  go_enter Tryd.func52, Tryd.ntmps52
  go_upto_region 1 with fail
  rw [HU.out]
  clear HU
  go_wp2_with fail
  refine HE.out.mono ?_
  rintro e w ⟨rfl, hf⟩
  have HF := Lib.hid hf
  clear hf HE
  cases r with
  | none =>
    obtain rfl := HQ.out.symm.trans (numv_no HRR.out)
    clear HRR HQ c0 c1 c2
    go_wp2_with fail
    go_ret2
    exact ⟨rfl, HFR.out.trans HF.out⟩
  | some n0 =>
    obtain rfl := HQ.out.symm.trans (numv_yes HRR.out)
    clear HQ
    have hn := HRR.out
    unfold number at hn
    dsimp only at hn
    split at hn
    · cases hn
    rename_i hy
    split at hn
    · cases hn
    rename_i hd
    injection hn with hn
    rw [rlen_eq y m (by omega) (by omega)] at hd
    have hy1 : 1990 ≤ y := by omega
    have hy2 : y ≤ 2189 := by omega
    have hm1 : 1 ≤ m := by omega
    have hm2 : m ≤ 12 := by omega
    have hd1 : 1 ≤ d := by omega
    have hd2 : d ≤ 31 := by have := rlen_bd y m; omega
    have HN := Lib.hid hn
    have d0 : w.cell? ⟨W.heap.size, 0, none⟩ = some (.int .i64 y) := cell_fr HF.out c0
    have d1 : w.cell? ⟨W.heap.size, 1, none⟩ = some (.int .i64 m) := cell_fr HF.out c1
    have d2 : w.cell? ⟨W.heap.size, 2, none⟩ = some (.int .i64 d) := cell_fr HF.out c2
    clear c0 c1 c2 hy hd hn HRR w1 w2 w3
    have s0 : IntKind.i64.wrap (d - 1) = d - 1 := IntWalk.i64_in _ (by omega)
    go_wp2_with fail
    go_loopw [4, 5] (fun vn vy wr => ∃ n y' : Int, vn = .int .i64 n ∧ vy = .int .i64 y' ∧ 1990 ≤ y' ∧ y' ≤ y ∧ n = d - 1 + newYear y' ∧ wr = w) (fun _ vy _ => (y - intOf vy).toNat)
    case atStart => exact ⟨_, _, rfl, rfl, by omega, hy1, by rw [show newYear 1990 = 0 from rfl]; omega, rfl⟩
    case round =>
      obtain ⟨n, y', rfl, rfl, hl1, hl2, hn, rfl⟩ := hrel
      have hb := newYear_bd y' hl1 (by omega)
      by_cases hlt : y' < y
      · have HLP := Lib.hid (rleap_any y' wr (by omega) (by omega))
        have HNX := Lib.hid (newYear_next y' (by omega))
        have hn1 : 0 ≤ n ∧ n ≤ 90000 := by omega
        have HNE := Lib.hid hn
        have t1 : IntKind.i64.wrap (n + 365) = n + 365 := IntWalk.i64_in _ (by omega)
        have t2 : IntKind.i64.wrap (n + 365 + 1) = n + 365 + 1 := IntWalk.i64_in _ (by omega)
        have t3 : IntKind.i64.wrap (y' + 1) = y' + 1 := IntWalk.i64_in _ (by omega)
        clear hn hb
        go_wp2_with fail
        refine HLP.out.mono ?_
        rintro e w5 ⟨rfl, rfl⟩
        obtain ⟨b, hb⟩ : ∃ b, leap y' = b := ⟨_, rfl⟩
        have HNY : Hid (newYear (y' + 1) = newYear y' + 365 + if b then 1 else 0) := by show _ = _; rw [HNX.out, hb]
        rw [hb]
        clear hb HLP HNX
        cases b
        · go_wp2_with fail
          go_roundw
          case rel => exact ⟨_, _, rfl, rfl, by omega, by omega, by have h1 := HNE.out; have h2 := HNY.out; simp only [Bool.false_eq_true, if_false] at h2; omega, trivial⟩
          case measure => simp [intOf]; omega
        · go_wp2_with fail
          go_roundw
          case rel => exact ⟨_, _, rfl, rfl, by omega, by omega, by have h1 := HNE.out; have h2 := HNY.out; simp only [if_true] at h2; omega, trivial⟩
          case measure => simp [intOf]; omega
      · obtain rfl : y' = y := by omega
        have HNE := Lib.hid hn
        clear hn hb s0 hlt
        go_wp2_with fail
        go_loopw [4, 6] (fun vn vm wr' => ∃ n' m' : Int, vn = .int .i64 n' ∧ vm = .int .i64 m' ∧ 1 ≤ m' ∧ m' ≤ m ∧ n' = n + daysBefore y' m' ∧ wr' = wr) (fun _ vm _ => (m - intOf vm).toNat)
        case atStart => exact ⟨_, _, rfl, rfl, by omega, hm1, by rw [show daysBefore y' 1 = 0 from rfl]; omega, rfl⟩
        case round =>
          obtain ⟨n', m', rfl, rfl, hk1, hk2, hn', rfl⟩ := hrel
          have HNN := Lib.hid hn'
          by_cases hlt : m' < m
          · have HLE := Lib.hid (rlength_any y' m' wr (by omega) (by omega) hk1 (by omega))
            have hrb := rlen_bd y' m'
            have HEQ := Lib.hid (rlen_eq y' m' hk1 (by omega))
            have hn1 : 0 ≤ n' ∧ n' ≤ 100000 := by
              have h1 := newYear_bd y' (by omega) (by omega); have h2 := HNE.out; have h3 := dB_bd y' m'; omega
            have t1 : IntKind.i64.wrap (n' + rlen y' m') = n' + rlen y' m' := IntWalk.i64_in _ (by omega)
            have t3 : IntKind.i64.wrap (m' + 1) = m' + 1 := IntWalk.i64_in _ (by omega)
            clear hn'
            go_wp2_with fail
            refine HLE.out.mono ?_
            rintro e w5 ⟨rfl, rfl⟩
            go_wp2_with fail
            go_roundw
            case rel => exact ⟨_, _, rfl, rfl, by omega, by omega, by have h1 := HNN.out; have h2 := HEQ.out; omega, trivial⟩
            case measure => simp [intOf]; omega
          · obtain rfl : m' = m := by omega
            obtain rfl : n0 = n' := by have h1 := HN.out; have h2 := HNE.out; omega
            clear hn' hlt
            go_wp2_with fail
            go_ret2
            exact ⟨rfl, HFR.out.trans HF.out⟩
end Go.Proofs.YtdhjibnkebbejaaDoor.Rs
