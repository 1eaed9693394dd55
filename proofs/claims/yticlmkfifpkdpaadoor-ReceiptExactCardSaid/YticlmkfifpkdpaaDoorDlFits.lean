/-
  What the fits functions of package deadline return.
-/
import Derived.Test.YticlmkfifpkdpaaDoorDlMonths
namespace Go.Proofs.YticlmkfifpkdpaaDoor.Dl
open Go.RowKit Mem Vw
set_option linter.unusedVariables false
set_option linter.unusedSimpArgs false

theorem ddIsDay_any (d : Int) (W : World) : Calls Tryd.prog 63 #[.int .i64 d] W fun e w' => e = .returned (.bool (isDay d)) ∧ w' = W := by
  unfold isDay
  by_cases h : 0 ≤ d
  · rw [decide_eq_true h, Bool.true_and]
    go_enter Tryd.func63, Tryd.ntmps63
    go_wp2_with fail
    go_ret
    exact ⟨rfl, rfl⟩
  · rw [decide_eq_false h, Bool.false_and]
    go_enter Tryd.func63, Tryd.ntmps63
    go_wp2_with fail
    go_ret
    exact ⟨rfl, rfl⟩
def within (n m : Int) : Bool := decide (0 ≤ n) && decide (n ≤ m)
theorem within_any (n m : Int) (W : World) : Calls Tryd.prog 55 #[.int .i64 n, .int .i64 m] W fun e w' => e = .returned (.bool (within n m)) ∧ w' = W := by
  unfold within
  by_cases h : 0 ≤ n
  · rw [decide_eq_true h, Bool.true_and]
    go_enter Tryd.func55, Tryd.ntmps55
    go_wp2_with fail
    go_ret
    exact ⟨rfl, rfl⟩
  · rw [decide_eq_false h, Bool.false_and]
    go_enter Tryd.func55, Tryd.ntmps55
    go_wp2_with fail
    go_ret
    exact ⟨rfl, rfl⟩
theorem info_term (x : Term × Value) : (Tryd.prog.info? 31).map (·.size) = some (tc x).toArray.size := by kernel_rfl
theorem fitsDay_any (k n e : Int) (b : Bool) (l : List Term) (v : Value) (N : Int) (W : World) (h : Tree W (.mk k n e b l) v) :
    Calls Tryd.prog 66 #[.agg #[.int .i64 k, .int .i64 n, .int .i64 e, .bool b, v], .int .i64 N] W fun e' w' => e' = .returned (.bool (isDay n && decide (e = 0) && !b && decide (l.length = 0))) ∧ Below W.heap.size W w' := by
  obtain ⟨A, c, hv, hc1, hc2⟩ := h.slice
  have hv : v = .slice A l.length c := hv
  subst hv
  have hc1 : l.length ≤ c := hc1
  clear h
  obtain ⟨w0, HW0⟩ : ∃ w0, Hid (W.alloc (.cells #[.int .i64 k, .int .i64 n, .int .i64 e, .bool b, .slice A l.length c] 31) = w0) := ⟨_, rfl⟩
  have HB0 : Hid (w0.heap[W.heap.size]? = some (.cells #[.int .i64 k, .int .i64 n, .int .i64 e, .bool b, .slice A l.length c] 31 (0, 0))) := by rw [← HW0.out]; exact blk_newn rfl
  have HBE : Hid (Below W.heap.size W w0) := by rw [← HW0.out]; exact (Below.refl _ W).alloc (Nat.le_refl _) _
  have s1 : w0.cell? ⟨W.heap.size, 1, none⟩ = some (.int .i64 n) := cell_of_blk HB0.out 1
  have s2 : w0.cell? ⟨W.heap.size, 2, none⟩ = some (.int .i64 e) := cell_of_blk HB0.out 2
  have s3 : w0.cell? ⟨W.heap.size, 3, none⟩ = some (.bool b) := cell_of_blk HB0.out 3
  have s4 : w0.cell? ⟨W.heap.size, 4, none⟩ = some (.slice A l.length c) := cell_of_blk HB0.out 4
  clear HB0
  obtain ⟨res, HR0⟩ : ∃ r, Hid ((isDay n && decide (e = 0) && !b && decide (l.length = 0)) = r) := ⟨_, rfl⟩
  rw [HR0.out]
  go_enter Tryd.func66, Tryd.ntmps66
  go_upto_region 1 with fail
  rw [HW0.out]
  clear HW0
  have HCisDay := Lib.hid (ddIsDay_any n w0)
  cases hcisDay : isDay n
  · rw [hcisDay] at HCisDay
    have HFisDay := Lib.hid hcisDay; clear hcisDay
    go_wp2_with fail
    refine HCisDay.out.mono ?_
    rintro e0 w0 ⟨rfl, rfl⟩
    have HR : Hid (res = false) := by show _ = _; rw [← HR0.out]; simp [HFisDay.out]
    go_wp2_with fail
    go_ret
    exact ⟨by rw [HR.out]; rfl, HBE.out⟩
  · rw [hcisDay] at HCisDay
    have HFisDay := Lib.hid hcisDay; clear hcisDay
    go_wp2_with fail
    refine HCisDay.out.mono ?_
    rintro e0 w0 ⟨rfl, rfl⟩
    by_cases he0 : e = 0
    · cases b
      · by_cases hl0 : l.length = 0
        · have HR : Hid (res = true) := by show _ = _; rw [← HR0.out]; simp [HFisDay.out, he0, hl0]
          go_wp2_with fail
          go_ret
          exact ⟨by rw [HR.out]; rfl, HBE.out⟩
        · have hbl0 : ((l.length : Int) == 0) = false := beq_eq_false_iff_ne.2 (by omega)
          have HR : Hid (res = false) := by show _ = _; rw [← HR0.out]; simp [HFisDay.out, he0, hl0]
          go_wp2_with fail
          go_ret
          exact ⟨by rw [HR.out]; rfl, HBE.out⟩
      · have HR : Hid (res = false) := by show _ = _; rw [← HR0.out]; simp [HFisDay.out, he0]
        go_wp2_with fail
        go_ret
        exact ⟨by rw [HR.out]; rfl, HBE.out⟩
    · have HR : Hid (res = false) := by show _ = _; rw [← HR0.out]; simp [HFisDay.out, he0]
      go_wp2_with fail
      go_ret
      exact ⟨by rw [HR.out]; rfl, HBE.out⟩
theorem fitsEvent_any (k n e : Int) (b : Bool) (l : List Term) (v : Value) (N : Int) (W : World) (h : Tree W (.mk k n e b l) v) (hN : 0 ≤ N) (hN2 : N ≤ 1000) :
    Calls Tryd.prog 68 #[.agg #[.int .i64 k, .int .i64 n, .int .i64 e, .bool b, v], .int .i64 N] W fun e' w' => e' = .returned (.bool (decide (n = 0) && within e (N - 1) && !b && decide (l.length = 0))) ∧ Below W.heap.size W w' := by
  obtain ⟨A, c, hv, hc1, hc2⟩ := h.slice
  have hv : v = .slice A l.length c := hv
  subst hv
  have hc1 : l.length ≤ c := hc1
  clear h
  obtain ⟨w0, HW0⟩ : ∃ w0, Hid (W.alloc (.cells #[.int .i64 k, .int .i64 n, .int .i64 e, .bool b, .slice A l.length c] 31) = w0) := ⟨_, rfl⟩
  have HB0 : Hid (w0.heap[W.heap.size]? = some (.cells #[.int .i64 k, .int .i64 n, .int .i64 e, .bool b, .slice A l.length c] 31 (0, 0))) := by rw [← HW0.out]; exact blk_newn rfl
  have HBE : Hid (Below W.heap.size W w0) := by rw [← HW0.out]; exact (Below.refl _ W).alloc (Nat.le_refl _) _
  have s1 : w0.cell? ⟨W.heap.size, 1, none⟩ = some (.int .i64 n) := cell_of_blk HB0.out 1
  have s2 : w0.cell? ⟨W.heap.size, 2, none⟩ = some (.int .i64 e) := cell_of_blk HB0.out 2
  have s3 : w0.cell? ⟨W.heap.size, 3, none⟩ = some (.bool b) := cell_of_blk HB0.out 3
  have s4 : w0.cell? ⟨W.heap.size, 4, none⟩ = some (.slice A l.length c) := cell_of_blk HB0.out 4
  clear HB0
  obtain ⟨res, HR0⟩ : ∃ r, Hid ((decide (n = 0) && within e (N - 1) && !b && decide (l.length = 0)) = r) := ⟨_, rfl⟩
  rw [HR0.out]
  go_enter Tryd.func68, Tryd.ntmps68
  go_upto_region 1 with fail
  rw [HW0.out]
  clear HW0
  by_cases hn0 : n = 0
  · have HCwe := Lib.hid (within_any e (N - 1) w0)
    cases hcwe : within e (N - 1)
    · rw [hcwe] at HCwe
      have HFwe := Lib.hid hcwe; clear hcwe
      go_wp2_with fail
      refine HCwe.out.mono ?_
      rintro e0 w0 ⟨rfl, rfl⟩
      have HR : Hid (res = false) := by show _ = _; rw [← HR0.out]; simp [hn0, HFwe.out]
      go_wp2_with fail
      go_ret
      exact ⟨by rw [HR.out]; rfl, HBE.out⟩
    · rw [hcwe] at HCwe
      have HFwe := Lib.hid hcwe; clear hcwe
      go_wp2_with fail
      refine HCwe.out.mono ?_
      rintro e0 w0 ⟨rfl, rfl⟩
      cases b
      · by_cases hl0 : l.length = 0
        · have HR : Hid (res = true) := by show _ = _; rw [← HR0.out]; simp [hn0, HFwe.out, hl0]
          go_wp2_with fail
          go_ret
          exact ⟨by rw [HR.out]; rfl, HBE.out⟩
        · have hbl0 : ((l.length : Int) == 0) = false := beq_eq_false_iff_ne.2 (by omega)
          have HR : Hid (res = false) := by show _ = _; rw [← HR0.out]; simp [hn0, HFwe.out, hl0]
          go_wp2_with fail
          go_ret
          exact ⟨by rw [HR.out]; rfl, HBE.out⟩
      · have HR : Hid (res = false) := by show _ = _; rw [← HR0.out]; simp [hn0, HFwe.out]
        go_wp2_with fail
        go_ret
        exact ⟨by rw [HR.out]; rfl, HBE.out⟩
  · have HR : Hid (res = false) := by show _ = _; rw [← HR0.out]; simp [hn0]
    go_wp2_with fail
    go_ret
    exact ⟨by rw [HR.out]; rfl, HBE.out⟩
theorem fitsCut_any (k n e : Int) (b : Bool) (l : List Term) (v : Value) (N : Int) (W : World) (h : Tree W (.mk k n e b l) v) (hN : 0 ≤ N) (hN2 : N ≤ 1000) :
    Calls Tryd.prog 70 #[.agg #[.int .i64 k, .int .i64 n, .int .i64 e, .bool b, v], .int .i64 N] W fun e' w' => e' = .returned (.bool (within n 1440 && within e (N - 1) && !b && decide (l.length = 0))) ∧ Below W.heap.size W w' := by
  obtain ⟨A, c, hv, hc1, hc2⟩ := h.slice
  have hv : v = .slice A l.length c := hv
  subst hv
  have hc1 : l.length ≤ c := hc1
  clear h
  obtain ⟨w0, HW0⟩ : ∃ w0, Hid (W.alloc (.cells #[.int .i64 k, .int .i64 n, .int .i64 e, .bool b, .slice A l.length c] 31) = w0) := ⟨_, rfl⟩
  have HB0 : Hid (w0.heap[W.heap.size]? = some (.cells #[.int .i64 k, .int .i64 n, .int .i64 e, .bool b, .slice A l.length c] 31 (0, 0))) := by rw [← HW0.out]; exact blk_newn rfl
  have HBE : Hid (Below W.heap.size W w0) := by rw [← HW0.out]; exact (Below.refl _ W).alloc (Nat.le_refl _) _
  have s1 : w0.cell? ⟨W.heap.size, 1, none⟩ = some (.int .i64 n) := cell_of_blk HB0.out 1
  have s2 : w0.cell? ⟨W.heap.size, 2, none⟩ = some (.int .i64 e) := cell_of_blk HB0.out 2
  have s3 : w0.cell? ⟨W.heap.size, 3, none⟩ = some (.bool b) := cell_of_blk HB0.out 3
  have s4 : w0.cell? ⟨W.heap.size, 4, none⟩ = some (.slice A l.length c) := cell_of_blk HB0.out 4
  clear HB0
  obtain ⟨res, HR0⟩ : ∃ r, Hid ((within n 1440 && within e (N - 1) && !b && decide (l.length = 0)) = r) := ⟨_, rfl⟩
  rw [HR0.out]
  go_enter Tryd.func70, Tryd.ntmps70
  go_upto_region 1 with fail
  rw [HW0.out]
  clear HW0
  have HCwn1440 := Lib.hid (within_any n 1440 w0)
  cases hcwn1440 : within n 1440
  · rw [hcwn1440] at HCwn1440
    have HFwn1440 := Lib.hid hcwn1440; clear hcwn1440
    go_wp2_with fail
    refine HCwn1440.out.mono ?_
    rintro e0 w0 ⟨rfl, rfl⟩
    have HR : Hid (res = false) := by show _ = _; rw [← HR0.out]; simp [HFwn1440.out]
    go_wp2_with fail
    go_ret
    exact ⟨by rw [HR.out]; rfl, HBE.out⟩
  · rw [hcwn1440] at HCwn1440
    have HFwn1440 := Lib.hid hcwn1440; clear hcwn1440
    go_wp2_with fail
    refine HCwn1440.out.mono ?_
    rintro e0 w0 ⟨rfl, rfl⟩
    have HCwe := Lib.hid (within_any e (N - 1) w0)
    cases hcwe : within e (N - 1)
    · rw [hcwe] at HCwe
      have HFwe := Lib.hid hcwe; clear hcwe
      go_wp2_with fail
      refine HCwe.out.mono ?_
      rintro e0 w0 ⟨rfl, rfl⟩
      have HR : Hid (res = false) := by show _ = _; rw [← HR0.out]; simp [HFwn1440.out, HFwe.out]
      go_wp2_with fail
      go_ret
      exact ⟨by rw [HR.out]; rfl, HBE.out⟩
    · rw [hcwe] at HCwe
      have HFwe := Lib.hid hcwe; clear hcwe
      go_wp2_with fail
      refine HCwe.out.mono ?_
      rintro e0 w0 ⟨rfl, rfl⟩
      cases b
      · by_cases hl0 : l.length = 0
        · have HR : Hid (res = true) := by show _ = _; rw [← HR0.out]; simp [HFwn1440.out, HFwe.out, hl0]
          go_wp2_with fail
          go_ret
          exact ⟨by rw [HR.out]; rfl, HBE.out⟩
        · have hbl0 : ((l.length : Int) == 0) = false := beq_eq_false_iff_ne.2 (by omega)
          have HR : Hid (res = false) := by show _ = _; rw [← HR0.out]; simp [HFwn1440.out, HFwe.out, hl0]
          go_wp2_with fail
          go_ret
          exact ⟨by rw [HR.out]; rfl, HBE.out⟩
      · have HR : Hid (res = false) := by show _ = _; rw [← HR0.out]; simp [HFwn1440.out, HFwe.out]
        go_wp2_with fail
        go_ret
        exact ⟨by rw [HR.out]; rfl, HBE.out⟩
theorem fitsPlus_any (k n e : Int) (b : Bool) (l : List Term) (v : Value) (N : Int) (W : World) (h : Tree W (.mk k n e b l) v) :
    Calls Tryd.prog 72 #[.agg #[.int .i64 k, .int .i64 n, .int .i64 e, .bool b, v], .int .i64 N] W fun e' w' => e' = .returned (.bool (within n 1000 && decide (e = 0) && decide (l.length = 1))) ∧ Below W.heap.size W w' := by
  obtain ⟨A, c, hv, hc1, hc2⟩ := h.slice
  have hv : v = .slice A l.length c := hv
  subst hv
  have hc1 : l.length ≤ c := hc1
  clear h
  obtain ⟨w0, HW0⟩ : ∃ w0, Hid (W.alloc (.cells #[.int .i64 k, .int .i64 n, .int .i64 e, .bool b, .slice A l.length c] 31) = w0) := ⟨_, rfl⟩
  have HB0 : Hid (w0.heap[W.heap.size]? = some (.cells #[.int .i64 k, .int .i64 n, .int .i64 e, .bool b, .slice A l.length c] 31 (0, 0))) := by rw [← HW0.out]; exact blk_newn rfl
  have HBE : Hid (Below W.heap.size W w0) := by rw [← HW0.out]; exact (Below.refl _ W).alloc (Nat.le_refl _) _
  have s1 : w0.cell? ⟨W.heap.size, 1, none⟩ = some (.int .i64 n) := cell_of_blk HB0.out 1
  have s2 : w0.cell? ⟨W.heap.size, 2, none⟩ = some (.int .i64 e) := cell_of_blk HB0.out 2
  have s3 : w0.cell? ⟨W.heap.size, 3, none⟩ = some (.bool b) := cell_of_blk HB0.out 3
  have s4 : w0.cell? ⟨W.heap.size, 4, none⟩ = some (.slice A l.length c) := cell_of_blk HB0.out 4
  clear HB0
  obtain ⟨res, HR0⟩ : ∃ r, Hid ((within n 1000 && decide (e = 0) && decide (l.length = 1)) = r) := ⟨_, rfl⟩
  rw [HR0.out]
  go_enter Tryd.func72, Tryd.ntmps72
  go_upto_region 1 with fail
  rw [HW0.out]
  clear HW0
  have HCwn1000 := Lib.hid (within_any n 1000 w0)
  cases hcwn1000 : within n 1000
  · rw [hcwn1000] at HCwn1000
    have HFwn1000 := Lib.hid hcwn1000; clear hcwn1000
    go_wp2_with fail
    refine HCwn1000.out.mono ?_
    rintro e0 w0 ⟨rfl, rfl⟩
    have HR : Hid (res = false) := by show _ = _; rw [← HR0.out]; simp [HFwn1000.out]
    go_wp2_with fail
    go_ret
    exact ⟨by rw [HR.out]; rfl, HBE.out⟩
  · rw [hcwn1000] at HCwn1000
    have HFwn1000 := Lib.hid hcwn1000; clear hcwn1000
    go_wp2_with fail
    refine HCwn1000.out.mono ?_
    rintro e0 w0 ⟨rfl, rfl⟩
    by_cases he0 : e = 0
    · by_cases hl1 : l.length = 1
      · have HR : Hid (res = true) := by show _ = _; rw [← HR0.out]; simp [HFwn1000.out, he0, hl1]
        go_wp2_with fail
        go_ret
        exact ⟨by rw [HR.out]; rfl, HBE.out⟩
      · have hbl1 : ((l.length : Int) == 1) = false := beq_eq_false_iff_ne.2 (by omega)
        have HR : Hid (res = false) := by show _ = _; rw [← HR0.out]; simp [HFwn1000.out, he0, hl1]
        go_wp2_with fail
        go_ret
        exact ⟨by rw [HR.out]; rfl, HBE.out⟩
    · have HR : Hid (res = false) := by show _ = _; rw [← HR0.out]; simp [HFwn1000.out, he0]
      go_wp2_with fail
      go_ret
      exact ⟨by rw [HR.out]; rfl, HBE.out⟩
theorem fitsMonths_any (k n e : Int) (b : Bool) (l : List Term) (v : Value) (N : Int) (W : World) (h : Tree W (.mk k n e b l) v) :
    Calls Tryd.prog 74 #[.agg #[.int .i64 k, .int .i64 n, .int .i64 e, .bool b, v], .int .i64 N] W fun e' w' => e' = .returned (.bool (within n 120 && decide (e = 0) && !b && decide (l.length = 1))) ∧ Below W.heap.size W w' := by
  obtain ⟨A, c, hv, hc1, hc2⟩ := h.slice
  have hv : v = .slice A l.length c := hv
  subst hv
  have hc1 : l.length ≤ c := hc1
  clear h
  obtain ⟨w0, HW0⟩ : ∃ w0, Hid (W.alloc (.cells #[.int .i64 k, .int .i64 n, .int .i64 e, .bool b, .slice A l.length c] 31) = w0) := ⟨_, rfl⟩
  have HB0 : Hid (w0.heap[W.heap.size]? = some (.cells #[.int .i64 k, .int .i64 n, .int .i64 e, .bool b, .slice A l.length c] 31 (0, 0))) := by rw [← HW0.out]; exact blk_newn rfl
  have HBE : Hid (Below W.heap.size W w0) := by rw [← HW0.out]; exact (Below.refl _ W).alloc (Nat.le_refl _) _
  have s1 : w0.cell? ⟨W.heap.size, 1, none⟩ = some (.int .i64 n) := cell_of_blk HB0.out 1
  have s2 : w0.cell? ⟨W.heap.size, 2, none⟩ = some (.int .i64 e) := cell_of_blk HB0.out 2
  have s3 : w0.cell? ⟨W.heap.size, 3, none⟩ = some (.bool b) := cell_of_blk HB0.out 3
  have s4 : w0.cell? ⟨W.heap.size, 4, none⟩ = some (.slice A l.length c) := cell_of_blk HB0.out 4
  clear HB0
  obtain ⟨res, HR0⟩ : ∃ r, Hid ((within n 120 && decide (e = 0) && !b && decide (l.length = 1)) = r) := ⟨_, rfl⟩
  rw [HR0.out]
  go_enter Tryd.func74, Tryd.ntmps74
  go_upto_region 1 with fail
  rw [HW0.out]
  clear HW0
  have HCwn120 := Lib.hid (within_any n 120 w0)
  cases hcwn120 : within n 120
  · rw [hcwn120] at HCwn120
    have HFwn120 := Lib.hid hcwn120; clear hcwn120
    go_wp2_with fail
    refine HCwn120.out.mono ?_
    rintro e0 w0 ⟨rfl, rfl⟩
    have HR : Hid (res = false) := by show _ = _; rw [← HR0.out]; simp [HFwn120.out]
    go_wp2_with fail
    go_ret
    exact ⟨by rw [HR.out]; rfl, HBE.out⟩
  · rw [hcwn120] at HCwn120
    have HFwn120 := Lib.hid hcwn120; clear hcwn120
    go_wp2_with fail
    refine HCwn120.out.mono ?_
    rintro e0 w0 ⟨rfl, rfl⟩
    by_cases he0 : e = 0
    · cases b
      · by_cases hl1 : l.length = 1
        · have HR : Hid (res = true) := by show _ = _; rw [← HR0.out]; simp [HFwn120.out, he0, hl1]
          go_wp2_with fail
          go_ret
          exact ⟨by rw [HR.out]; rfl, HBE.out⟩
        · have hbl1 : ((l.length : Int) == 1) = false := beq_eq_false_iff_ne.2 (by omega)
          have HR : Hid (res = false) := by show _ = _; rw [← HR0.out]; simp [HFwn120.out, he0, hl1]
          go_wp2_with fail
          go_ret
          exact ⟨by rw [HR.out]; rfl, HBE.out⟩
      · have HR : Hid (res = false) := by show _ = _; rw [← HR0.out]; simp [HFwn120.out, he0]
        go_wp2_with fail
        go_ret
        exact ⟨by rw [HR.out]; rfl, HBE.out⟩
    · have HR : Hid (res = false) := by show _ = _; rw [← HR0.out]; simp [HFwn120.out, he0]
      go_wp2_with fail
      go_ret
      exact ⟨by rw [HR.out]; rfl, HBE.out⟩
theorem fitsNext_any (k n e : Int) (b : Bool) (l : List Term) (v : Value) (N : Int) (W : World) (h : Tree W (.mk k n e b l) v) :
    Calls Tryd.prog 76 #[.agg #[.int .i64 k, .int .i64 n, .int .i64 e, .bool b, v], .int .i64 N] W fun e' w' => e' = .returned (.bool (decide (n = 0) && decide (e = 0) && !b && decide (l.length = 1))) ∧ Below W.heap.size W w' := by
  obtain ⟨A, c, hv, hc1, hc2⟩ := h.slice
  have hv : v = .slice A l.length c := hv
  subst hv
  have hc1 : l.length ≤ c := hc1
  clear h
  obtain ⟨w0, HW0⟩ : ∃ w0, Hid (W.alloc (.cells #[.int .i64 k, .int .i64 n, .int .i64 e, .bool b, .slice A l.length c] 31) = w0) := ⟨_, rfl⟩
  have HB0 : Hid (w0.heap[W.heap.size]? = some (.cells #[.int .i64 k, .int .i64 n, .int .i64 e, .bool b, .slice A l.length c] 31 (0, 0))) := by rw [← HW0.out]; exact blk_newn rfl
  have HBE : Hid (Below W.heap.size W w0) := by rw [← HW0.out]; exact (Below.refl _ W).alloc (Nat.le_refl _) _
  have s1 : w0.cell? ⟨W.heap.size, 1, none⟩ = some (.int .i64 n) := cell_of_blk HB0.out 1
  have s2 : w0.cell? ⟨W.heap.size, 2, none⟩ = some (.int .i64 e) := cell_of_blk HB0.out 2
  have s3 : w0.cell? ⟨W.heap.size, 3, none⟩ = some (.bool b) := cell_of_blk HB0.out 3
  have s4 : w0.cell? ⟨W.heap.size, 4, none⟩ = some (.slice A l.length c) := cell_of_blk HB0.out 4
  clear HB0
  obtain ⟨res, HR0⟩ : ∃ r, Hid ((decide (n = 0) && decide (e = 0) && !b && decide (l.length = 1)) = r) := ⟨_, rfl⟩
  rw [HR0.out]
  go_enter Tryd.func76, Tryd.ntmps76
  go_upto_region 1 with fail
  rw [HW0.out]
  clear HW0
  by_cases hn0 : n = 0
  · by_cases he0 : e = 0
    · cases b
      · by_cases hl1 : l.length = 1
        · have HR : Hid (res = true) := by show _ = _; rw [← HR0.out]; simp [hn0, he0, hl1]
          go_wp2_with fail
          go_ret
          exact ⟨by rw [HR.out]; rfl, HBE.out⟩
        · have hbl1 : ((l.length : Int) == 1) = false := beq_eq_false_iff_ne.2 (by omega)
          have HR : Hid (res = false) := by show _ = _; rw [← HR0.out]; simp [hn0, he0, hl1]
          go_wp2_with fail
          go_ret
          exact ⟨by rw [HR.out]; rfl, HBE.out⟩
      · have HR : Hid (res = false) := by show _ = _; rw [← HR0.out]; simp [hn0, he0]
        go_wp2_with fail
        go_ret
        exact ⟨by rw [HR.out]; rfl, HBE.out⟩
    · have HR : Hid (res = false) := by show _ = _; rw [← HR0.out]; simp [hn0, he0]
      go_wp2_with fail
      go_ret
      exact ⟨by rw [HR.out]; rfl, HBE.out⟩
  · have HR : Hid (res = false) := by show _ = _; rw [← HR0.out]; simp [hn0]
    go_wp2_with fail
    go_ret
    exact ⟨by rw [HR.out]; rfl, HBE.out⟩
theorem fitsExtreme_any (k n e : Int) (b : Bool) (l : List Term) (v : Value) (N : Int) (W : World) (h : Tree W (.mk k n e b l) v) :
    Calls Tryd.prog 78 #[.agg #[.int .i64 k, .int .i64 n, .int .i64 e, .bool b, v], .int .i64 N] W fun e' w' => e' = .returned (.bool (decide (n = 0) && decide (e = 0) && !b && decide (0 < l.length))) ∧ Below W.heap.size W w' := by
  obtain ⟨A, c, hv, hc1, hc2⟩ := h.slice
  have hv : v = .slice A l.length c := hv
  subst hv
  have hc1 : l.length ≤ c := hc1
  clear h
  obtain ⟨w0, HW0⟩ : ∃ w0, Hid (W.alloc (.cells #[.int .i64 k, .int .i64 n, .int .i64 e, .bool b, .slice A l.length c] 31) = w0) := ⟨_, rfl⟩
  have HB0 : Hid (w0.heap[W.heap.size]? = some (.cells #[.int .i64 k, .int .i64 n, .int .i64 e, .bool b, .slice A l.length c] 31 (0, 0))) := by rw [← HW0.out]; exact blk_newn rfl
  have HBE : Hid (Below W.heap.size W w0) := by rw [← HW0.out]; exact (Below.refl _ W).alloc (Nat.le_refl _) _
  have s1 : w0.cell? ⟨W.heap.size, 1, none⟩ = some (.int .i64 n) := cell_of_blk HB0.out 1
  have s2 : w0.cell? ⟨W.heap.size, 2, none⟩ = some (.int .i64 e) := cell_of_blk HB0.out 2
  have s3 : w0.cell? ⟨W.heap.size, 3, none⟩ = some (.bool b) := cell_of_blk HB0.out 3
  have s4 : w0.cell? ⟨W.heap.size, 4, none⟩ = some (.slice A l.length c) := cell_of_blk HB0.out 4
  clear HB0
  obtain ⟨res, HR0⟩ : ∃ r, Hid ((decide (n = 0) && decide (e = 0) && !b && decide (0 < l.length)) = r) := ⟨_, rfl⟩
  rw [HR0.out]
  go_enter Tryd.func78, Tryd.ntmps78
  go_upto_region 1 with fail
  rw [HW0.out]
  clear HW0
  by_cases hn0 : n = 0
  · by_cases he0 : e = 0
    · cases b
      · by_cases hlp : 0 < l.length
        · have HR : Hid (res = true) := by show _ = _; rw [← HR0.out]; simp [hn0, he0, hlp]
          go_wp2_with fail
          go_ret
          exact ⟨by rw [HR.out]; rfl, HBE.out⟩
        · have HR : Hid (res = false) := by show _ = _; rw [← HR0.out]; simp [hn0, he0, hlp]
          go_wp2_with fail
          go_ret
          exact ⟨by rw [HR.out]; rfl, HBE.out⟩
      · have HR : Hid (res = false) := by show _ = _; rw [← HR0.out]; simp [hn0, he0]
        go_wp2_with fail
        go_ret
        exact ⟨by rw [HR.out]; rfl, HBE.out⟩
    · have HR : Hid (res = false) := by show _ = _; rw [← HR0.out]; simp [hn0, he0]
      go_wp2_with fail
      go_ret
      exact ⟨by rw [HR.out]; rfl, HBE.out⟩
  · have HR : Hid (res = false) := by show _ = _; rw [← HR0.out]; simp [hn0]
    go_wp2_with fail
    go_ret
    exact ⟨by rw [HR.out]; rfl, HBE.out⟩
end Go.Proofs.YticlmkfifpkdpaaDoor.Dl
