/-
  Include: the reference's comparisons return true for equal things.
-/
import Derived.Test.YticakdajhmfpoaaIncExp
import Derived.Laws.StructEq
namespace Go.Proofs.Yticakdajhmfpoaa.Ic
open Go.RowKit Mem Vw Rs
set_option linter.unusedVariables false
set_option linter.unusedSimpArgs false

theorem ne_named (a0 : ByteArray) (a1 : Int) (W : World) : (binOp .neq 57 (.agg #[.string a0, .int .i64 a1]) (.agg #[.string a0, .int .i64 a1])).run Try.prog W = .ok (.bool false) W := by
  go_simp
theorem ne_span (a0 : Int) (a1 : Bool) (a2 : ByteArray) (W : World) : (binOp .neq 33 (.agg #[.int .i64 a0, .bool a1, .string a2]) (.agg #[.int .i64 a0, .bool a1, .string a2])).run Try.prog W = .ok (.bool false) W := by
  go_simp
theorem ne_fault (a0 : Int) (a1 : Int) (W : World) : (binOp .neq 62 (.agg #[.int .i64 a0, .int .i64 a1]) (.agg #[.int .i64 a0, .int .i64 a1])).run Try.prog W = .ok (.bool false) W := by
  go_simp
theorem ne_civil (a0 : Int) (a1 : Int) (a2 : Int) (W : World) : (binOp .neq 23 (.agg #[.int .i64 a0, .int .i64 a1, .int .i64 a2]) (.agg #[.int .i64 a0, .int .i64 a1, .int .i64 a2])).run Try.prog W = .ok (.bool false) W := by
  go_simp
theorem eq_civil (a0 : Int) (a1 : Int) (a2 : Int) (W : World) : (binOp .eql 23 (.agg #[.int .i64 a0, .int .i64 a1, .int .i64 a2]) (.agg #[.int .i64 a0, .int .i64 a1, .int .i64 a2])).run Try.prog W = .ok (.bool true) W := by
  go_simp
theorem ne_ratio (a0 : Int) (a1 : Int) (W : World) : (binOp .neq 36 (.agg #[.int .i64 a0, .int .i64 a1]) (.agg #[.int .i64 a0, .int .i64 a1])).run Try.prog W = .ok (.bool false) W := by
  go_simp
theorem ne_days (a b c d e f g : Bool) (W : World) : (binOp .neq 37 (.agg #[.bool a, .bool b, .bool c, .bool d, .bool e, .bool f, .bool g]) (.agg #[.bool a, .bool b, .bool c, .bool d, .bool e, .bool f, .bool g])).run Try.prog W = .ok (.bool false) W := by
  cases a <;> cases b <;> cases c <;> cases d <;> cases e <;> cases f <;> cases g <;> kernel_rfl
theorem row_drewN {W : World} {v : Value} {z : Nat} {xs : List (List Value)} (h : Row W v z xs) (m : Nat) : Row (W.drewN m) v z xs := h.below (below_drewN (Below.refl _ W) m)
set_option maxRecDepth 100000 in
set_option maxHeartbeats 2000000 in
theorem faults_true (xs : List Fault) (va vb : Value) (w : World) (ha : Row w va 2 (xs.map faultc)) (hb : Row w vb 2 (xs.map faultc)) :
    Calls Try.prog 19 #[va, vb] w fun e w' => e = .returned (.bool true) ∧ ∃ m, w' = w.drewN m := by
  have hlen := ha.len
  rw [List.length_map] at hlen
  obtain ⟨A, ca, rfl, hca, ha⟩ := ha
  obtain ⟨B, cb, rfl, hcb, hb⟩ := hb
  rw [List.length_map] at *
  have HA := Lib.hid ha; clear ha
  have HB := Lib.hid hb; clear hb
  go_enter Try.func19, Try.ntmps19
  go_wp2_with fail
  go_loopw [5] (fun i wr => ∃ (j m : Nat), i = .int .i64 j ∧ j ≤ xs.length ∧ wr = w.drewN m) (fun i _ => xs.length - (intOf i).toNat)
  case atStart => exact ⟨0, 0, rfl, by omega, rfl⟩
  case round =>
    obtain ⟨j, m, rfl, hj, rfl⟩ := hrel
    by_cases hlt : j < xs.length
    · have hne : xs.map faultc ≠ [] := by intro e; rw [List.map_eq_nil_iff] at e; rw [e] at hlt; simp at hlt
      obtain ⟨g1, o1, rfl, hg1, hr⟩ := HA.out.resolve_left hne
      obtain ⟨g2, o2, rfl, hg2, hr'⟩ := HB.out.resolve_left hne
      have hr := hr j (faultc xs[j]) (by simp [hlt])
      have hr' := hr' j (faultc xs[j]) (by simp [hlt])
      have c10 : w.cell? ⟨g1, o1 + j * 2, none⟩ = some (.int .i64 xs[j].err) := hr 0 _ rfl
      have c11 : w.cell? ⟨g1, o1 + j * 2 + 1, none⟩ = some (.int .i64 xs[j].pos) := hr 1 _ rfl
      have c20 : w.cell? ⟨g2, o2 + j * 2, none⟩ = some (.int .i64 xs[j].err) := hr' 0 _ rfl
      have c21 : w.cell? ⟨g2, o2 + j * 2 + 1, none⟩ = some (.int .i64 xs[j].pos) := hr' 1 _ rfl
      have HLT := Lib.hid hlt
      clear hr hr'
      have hnn := ne_fault xs[j].err xs[j].pos
      generalize xs[j].err = y at *
      generalize xs[j].pos = z at *
      go_wp2_with fail
      go_quiet (fail)
      go_wp2_with fail
      go_roundw
      case rel => exact ⟨j + 1, m + nq, by go_num, HLT.out, rfl⟩
      case measure => have := HLT.out; simp [intOf]; omega
    · go_wp2_with fail
      go_ret
      exact ⟨rfl, m, rfl⟩
set_option maxRecDepth 100000 in
set_option maxHeartbeats 2000000 in
theorem strings_true (xs : List Rs.Bytes) (va vb : Value) (w : World) (ha : Row w va 1 (xs.map (fun x => [sv x]))) (hb : Row w vb 1 (xs.map (fun x => [sv x]))) :
    Calls Try.prog 37 #[va, vb] w fun e w' => e = .returned (.bool true) ∧ ∃ m, w' = w.drewN m := by
  have hlen := ha.len
  rw [List.length_map] at hlen
  obtain ⟨A, ca, rfl, hca, ha⟩ := ha
  obtain ⟨B, cb, rfl, hcb, hb⟩ := hb
  rw [List.length_map] at *
  have HA := Lib.hid ha; clear ha
  have HB := Lib.hid hb; clear hb
  go_enter Try.func37, Try.ntmps37
  go_wp2_with fail
  go_loopw [5] (fun i wr => ∃ (j m : Nat), i = .int .i64 j ∧ j ≤ xs.length ∧ wr = w.drewN m) (fun i _ => xs.length - (intOf i).toNat)
  case atStart => exact ⟨0, 0, rfl, by omega, rfl⟩
  case round =>
    obtain ⟨j, m, rfl, hj, rfl⟩ := hrel
    by_cases hlt : j < xs.length
    · have hne : xs.map (fun x => [sv x]) ≠ [] := by intro e; rw [List.map_eq_nil_iff] at e; rw [e] at hlt; simp at hlt
      obtain ⟨g1, o1, rfl, hg1, hr⟩ := HA.out.resolve_left hne
      obtain ⟨g2, o2, rfl, hg2, hr'⟩ := HB.out.resolve_left hne
      have hr := hr j ((fun x => [sv x]) xs[j]) (by simp [hlt])
      have hr' := hr' j ((fun x => [sv x]) xs[j]) (by simp [hlt])
      have c10 : w.cell? ⟨g1, o1 + j, none⟩ = some (.string ⟨(xs[j]).toArray⟩) := by simpa [sv] using hr 0 _ rfl
      have c20 : w.cell? ⟨g2, o2 + j, none⟩ = some (.string ⟨(xs[j]).toArray⟩) := by simpa [sv] using hr' 0 _ rfl
      have HLT := Lib.hid hlt
      clear hr hr'
      generalize xs[j] = y at *
      go_wp2_with fail
      go_quiet (fail)
      go_wp2_with fail
      go_roundw
      case rel => exact ⟨j + 1, m + nq, by go_num, HLT.out, rfl⟩
      case measure => have := HLT.out; simp [intOf]; omega
    · go_wp2_with fail
      go_ret
      exact ⟨rfl, m, rfl⟩
set_option maxRecDepth 100000 in
set_option maxHeartbeats 16000000 in
theorem item_true (x y : DT) (w : World) (Ba Bb : Nat → Prop) (hx : Lay Ba w x) (hy : Lay Bb w y) (ht : x.h = y.h)
    (IH : ∀ w', LayL Ba w' x.l x.i → LayL Bb w' y.l y.i → Calls Try.prog 20 #[x.i, y.i] w' fun e w'' => e = .returned (.bool true) ∧ Fr (fun _ => False) w' w'') :
    Calls Try.prog 30 #[.agg x.cells.toArray, .agg y.cells.toArray] w fun e w' => e = .returned (.bool true) ∧ Fr (fun _ => False) w w' := by
  obtain ⟨w0, HW0⟩ : ∃ w0, Hid ((w.alloc (.cells x.cells.toArray 41)).alloc (.cells y.cells.toArray 41) = w0) := ⟨_, rfl⟩
  have HF0 : Hid (Fr (fun _ => False) w w0) := by rw [← HW0.out]; exact ((Fr.refl _ w).alloc _).alloc _
  have Hx : Hid (w0.heap[w.heap.size]? = some (.cells x.cells.toArray 41 (0, 0))) := by rw [← HW0.out]; exact blk_alloc (blk_newn rfl) _
  have Hy : Hid (w0.heap[w.heap.size + 1]? = some (.cells y.cells.toArray 41 (0, 0))) := by rw [← HW0.out]; exact blk_newn (by simp)
  have hx := hx.fr HF0.out (fun _ _ h => h)
  have hy := hy.fr HF0.out (fun _ _ h => h)
  obtain ⟨h, cA, dA, nA, iA, lA⟩ := x
  obtain ⟨h2, cB, dB, nB, iB, lB⟩ := y
  obtain rfl : h = h2 := ht
  have hlc := hx.conds.1.len; rw [List.length_map] at hlc
  have hld := hx.dates.1.len; rw [List.length_map] at hld
  have HNA : Hid (Row w0 nA 1 (h.names.map fun x => [sv x])) := hx.names.1
  have HNB : Hid (Row w0 nB 1 (h.names.map fun x => [sv x])) := hy.names.1
  have HIA : Hid (LayL Ba w0 lA iA) := hx.items
  have HIB : Hid (LayL Bb w0 lB iB) := hy.items
  obtain ⟨A1, ca, e1, hca, hCA⟩ := hx.conds.1
  obtain ⟨A2, cb, e2, hcb, hCB⟩ := hy.conds.1
  obtain ⟨A3, da, e3, hda, hDA⟩ := hx.dates.1
  obtain ⟨A4, db, e4, hdb, hDB⟩ := hy.dates.1
  obtain ⟨A5, na, e5, hna, _⟩ := hx.names.1
  obtain ⟨A6, nb, e6, hnb, _⟩ := hy.names.1
  obtain ⟨A7, ia, e7, hia, _⟩ := hx.items.slice
  obtain ⟨A8, ib, e8, hib, _⟩ := hy.items.slice
  simp only [DT.c, DT.d, DT.n, DT.i, DT.l, DT.h, List.length_map] at e1 e2 e3 e4 e5 e6 e7 e8
  subst e1; subst e2; subst e3; subst e4; subst e5; subst e6; subst e7; subst e8
  dsimp only [DT.h] at hCA hCB hDA hDB
  have HCA := Lib.hid hCA; have HCB := Lib.hid hCB; have HDA := Lib.hid hDA; have HDB := Lib.hid hDB
  have HS := fun w' (hf : Fr (fun _ => False) w0 w') => IH w' (HIA.out.fr hf (fun _ _ h => h)) (HIB.out.fr hf (fun _ _ h => h))
  have HS : Hid (∀ w', Fr (fun _ => False) w0 w' → Calls Try.prog 20 #[.slice A7 lA.length ia, .slice A8 lB.length ib] w' fun e w'' => e = .returned (.bool true) ∧ Fr (fun _ => False) w' w'') := HS
  have hlc : h.conds.length ≤ 9223372036854775807 := hlc
  have hld : h.dates.length ≤ 9223372036854775807 := hld
  clear hx hy hCA hCB hDA hDB IH hca hcb hda hdb hna hnb hia hib
  show Calls _ _ #[.agg (icells h (.slice A1 h.conds.length ca) (.slice A3 h.dates.length da) (.slice A5 h.names.length na) (.slice A7 lA.length ia)).toArray, .agg (icells h (.slice A2 h.conds.length cb) (.slice A4 h.dates.length db) (.slice A6 h.names.length nb) (.slice A8 lB.length ib)).toArray] _ _
  have HW0 : Hid ((w.alloc (.cells (icells h (.slice A1 h.conds.length ca) (.slice A3 h.dates.length da) (.slice A5 h.names.length na) (.slice A7 lA.length ia)).toArray 41)).alloc (.cells (icells h (.slice A2 h.conds.length cb) (.slice A4 h.dates.length db) (.slice A6 h.names.length nb) (.slice A8 lB.length ib)).toArray 41) = w0) := HW0
  have Hx : Hid (w0.heap[w.heap.size]? = some (.cells (icells h (.slice A1 h.conds.length ca) (.slice A3 h.dates.length da) (.slice A5 h.names.length na) (.slice A7 lA.length ia)).toArray 41 (0, 0))) := Hx
  have Hy : Hid (w0.heap[w.heap.size + 1]? = some (.cells (icells h (.slice A2 h.conds.length cb) (.slice A4 h.dates.length db) (.slice A6 h.names.length nb) (.slice A8 lB.length ib)).toArray 41 (0, 0))) := Hy
  have x0 : w0.cell? ⟨w.heap.size, 0, none⟩ = some (.int .i64 h.kind) := (cell_of_blk Hx.out 0).trans rfl
  have x1 : w0.cell? ⟨w.heap.size, 1, none⟩ = some (.string ⟨h.name.toArray⟩) := (cell_of_blk Hx.out 1).trans rfl
  have x2 : w0.cell? ⟨w.heap.size, 2, none⟩ = some (.int .i64 h.pos) := (cell_of_blk Hx.out 2).trans rfl
  have x3 : w0.cell? ⟨w.heap.size, 3, none⟩ = some (.string ⟨h.of_.toArray⟩) := (cell_of_blk Hx.out 3).trans rfl
  have x4 : w0.cell? ⟨w.heap.size, 4, none⟩ = some (.string ⟨h.act.toArray⟩) := (cell_of_blk Hx.out 4).trans rfl
  have x5 : w0.cell? ⟨w.heap.size, 5, none⟩ = some (.int .i64 h.word) := (cell_of_blk Hx.out 5).trans rfl
  have x6 : w0.cell? ⟨w.heap.size, 6, none⟩ = some (.int .i64 h.times) := (cell_of_blk Hx.out 6).trans rfl
  have x7 : w0.cell? ⟨w.heap.size, 7, none⟩ = some (.int .i64 h.within.days) := (cell_of_blk Hx.out 7).trans rfl
  have x8 : w0.cell? ⟨w.heap.size, 8, none⟩ = some (.bool h.within.bus) := (cell_of_blk Hx.out 8).trans rfl
  have x9 : w0.cell? ⟨w.heap.size, 9, none⟩ = some (.string ⟨h.within.name.toArray⟩) := (cell_of_blk Hx.out 9).trans rfl
  have x10 : w0.cell? ⟨w.heap.size, 10, none⟩ = some (.int .i64 h.grace.days) := (cell_of_blk Hx.out 10).trans rfl
  have x11 : w0.cell? ⟨w.heap.size, 11, none⟩ = some (.bool h.grace.bus) := (cell_of_blk Hx.out 11).trans rfl
  have x12 : w0.cell? ⟨w.heap.size, 12, none⟩ = some (.string ⟨h.grace.name.toArray⟩) := (cell_of_blk Hx.out 12).trans rfl
  have x13 : w0.cell? ⟨w.heap.size, 13, none⟩ = some (.slice A1 h.conds.length ca) := (cell_of_blk Hx.out 13).trans rfl
  have x14 : w0.cell? ⟨w.heap.size, 14, none⟩ = some (.string ⟨h.by_.toArray⟩) := (cell_of_blk Hx.out 14).trans rfl
  have x15 : w0.cell? ⟨w.heap.size, 15, none⟩ = some (.string ⟨h.til.toArray⟩) := (cell_of_blk Hx.out 15).trans rfl
  have x16 : w0.cell? ⟨w.heap.size, 16, none⟩ = some (.int .i64 h.num.num) := (cell_of_blk Hx.out 16).trans rfl
  have x17 : w0.cell? ⟨w.heap.size, 17, none⟩ = some (.int .i64 h.num.den) := (cell_of_blk Hx.out 17).trans rfl
  have x18 : w0.cell? ⟨w.heap.size, 18, none⟩ = some (.string ⟨h.unit.toArray⟩) := (cell_of_blk Hx.out 18).trans rfl
  have x19 : w0.cell? ⟨w.heap.size, 19, none⟩ = some (.string ⟨h.sum.toArray⟩) := (cell_of_blk Hx.out 19).trans rfl
  have x20 : w0.cell? ⟨w.heap.size, 20, none⟩ = some (.bool h.fin) := (cell_of_blk Hx.out 20).trans rfl
  have x21 : w0.cell? ⟨w.heap.size, 21, none⟩ = some (.string ⟨h.give.toArray⟩) := (cell_of_blk Hx.out 21).trans rfl
  have x22 : w0.cell? ⟨w.heap.size, 22, none⟩ = some (.string ⟨h.to_.toArray⟩) := (cell_of_blk Hx.out 22).trans rfl
  have x23 : w0.cell? ⟨w.heap.size, 23, none⟩ = some (.bool (h.days.getD 0 false)) := (cell_of_blk Hx.out 23).trans rfl
  have x24 : w0.cell? ⟨w.heap.size, 24, none⟩ = some (.bool (h.days.getD 1 false)) := (cell_of_blk Hx.out 24).trans rfl
  have x25 : w0.cell? ⟨w.heap.size, 25, none⟩ = some (.bool (h.days.getD 2 false)) := (cell_of_blk Hx.out 25).trans rfl
  have x26 : w0.cell? ⟨w.heap.size, 26, none⟩ = some (.bool (h.days.getD 3 false)) := (cell_of_blk Hx.out 26).trans rfl
  have x27 : w0.cell? ⟨w.heap.size, 27, none⟩ = some (.bool (h.days.getD 4 false)) := (cell_of_blk Hx.out 27).trans rfl
  have x28 : w0.cell? ⟨w.heap.size, 28, none⟩ = some (.bool (h.days.getD 5 false)) := (cell_of_blk Hx.out 28).trans rfl
  have x29 : w0.cell? ⟨w.heap.size, 29, none⟩ = some (.bool (h.days.getD 6 false)) := (cell_of_blk Hx.out 29).trans rfl
  have x30 : w0.cell? ⟨w.heap.size, 30, none⟩ = some (.slice A3 h.dates.length da) := (cell_of_blk Hx.out 30).trans rfl
  have x31 : w0.cell? ⟨w.heap.size, 31, none⟩ = some (.slice A5 h.names.length na) := (cell_of_blk Hx.out 31).trans rfl
  have x32 : w0.cell? ⟨w.heap.size, 32, none⟩ = some (.slice A7 lA.length ia) := (cell_of_blk Hx.out 32).trans rfl
  have y0 : w0.cell? ⟨w.heap.size + 1, 0, none⟩ = some (.int .i64 h.kind) := (cell_of_blk Hy.out 0).trans rfl
  have y1 : w0.cell? ⟨w.heap.size + 1, 1, none⟩ = some (.string ⟨h.name.toArray⟩) := (cell_of_blk Hy.out 1).trans rfl
  have y2 : w0.cell? ⟨w.heap.size + 1, 2, none⟩ = some (.int .i64 h.pos) := (cell_of_blk Hy.out 2).trans rfl
  have y3 : w0.cell? ⟨w.heap.size + 1, 3, none⟩ = some (.string ⟨h.of_.toArray⟩) := (cell_of_blk Hy.out 3).trans rfl
  have y4 : w0.cell? ⟨w.heap.size + 1, 4, none⟩ = some (.string ⟨h.act.toArray⟩) := (cell_of_blk Hy.out 4).trans rfl
  have y5 : w0.cell? ⟨w.heap.size + 1, 5, none⟩ = some (.int .i64 h.word) := (cell_of_blk Hy.out 5).trans rfl
  have y6 : w0.cell? ⟨w.heap.size + 1, 6, none⟩ = some (.int .i64 h.times) := (cell_of_blk Hy.out 6).trans rfl
  have y7 : w0.cell? ⟨w.heap.size + 1, 7, none⟩ = some (.int .i64 h.within.days) := (cell_of_blk Hy.out 7).trans rfl
  have y8 : w0.cell? ⟨w.heap.size + 1, 8, none⟩ = some (.bool h.within.bus) := (cell_of_blk Hy.out 8).trans rfl
  have y9 : w0.cell? ⟨w.heap.size + 1, 9, none⟩ = some (.string ⟨h.within.name.toArray⟩) := (cell_of_blk Hy.out 9).trans rfl
  have y10 : w0.cell? ⟨w.heap.size + 1, 10, none⟩ = some (.int .i64 h.grace.days) := (cell_of_blk Hy.out 10).trans rfl
  have y11 : w0.cell? ⟨w.heap.size + 1, 11, none⟩ = some (.bool h.grace.bus) := (cell_of_blk Hy.out 11).trans rfl
  have y12 : w0.cell? ⟨w.heap.size + 1, 12, none⟩ = some (.string ⟨h.grace.name.toArray⟩) := (cell_of_blk Hy.out 12).trans rfl
  have y13 : w0.cell? ⟨w.heap.size + 1, 13, none⟩ = some (.slice A2 h.conds.length cb) := (cell_of_blk Hy.out 13).trans rfl
  have y14 : w0.cell? ⟨w.heap.size + 1, 14, none⟩ = some (.string ⟨h.by_.toArray⟩) := (cell_of_blk Hy.out 14).trans rfl
  have y15 : w0.cell? ⟨w.heap.size + 1, 15, none⟩ = some (.string ⟨h.til.toArray⟩) := (cell_of_blk Hy.out 15).trans rfl
  have y16 : w0.cell? ⟨w.heap.size + 1, 16, none⟩ = some (.int .i64 h.num.num) := (cell_of_blk Hy.out 16).trans rfl
  have y17 : w0.cell? ⟨w.heap.size + 1, 17, none⟩ = some (.int .i64 h.num.den) := (cell_of_blk Hy.out 17).trans rfl
  have y18 : w0.cell? ⟨w.heap.size + 1, 18, none⟩ = some (.string ⟨h.unit.toArray⟩) := (cell_of_blk Hy.out 18).trans rfl
  have y19 : w0.cell? ⟨w.heap.size + 1, 19, none⟩ = some (.string ⟨h.sum.toArray⟩) := (cell_of_blk Hy.out 19).trans rfl
  have y20 : w0.cell? ⟨w.heap.size + 1, 20, none⟩ = some (.bool h.fin) := (cell_of_blk Hy.out 20).trans rfl
  have y21 : w0.cell? ⟨w.heap.size + 1, 21, none⟩ = some (.string ⟨h.give.toArray⟩) := (cell_of_blk Hy.out 21).trans rfl
  have y22 : w0.cell? ⟨w.heap.size + 1, 22, none⟩ = some (.string ⟨h.to_.toArray⟩) := (cell_of_blk Hy.out 22).trans rfl
  have y23 : w0.cell? ⟨w.heap.size + 1, 23, none⟩ = some (.bool (h.days.getD 0 false)) := (cell_of_blk Hy.out 23).trans rfl
  have y24 : w0.cell? ⟨w.heap.size + 1, 24, none⟩ = some (.bool (h.days.getD 1 false)) := (cell_of_blk Hy.out 24).trans rfl
  have y25 : w0.cell? ⟨w.heap.size + 1, 25, none⟩ = some (.bool (h.days.getD 2 false)) := (cell_of_blk Hy.out 25).trans rfl
  have y26 : w0.cell? ⟨w.heap.size + 1, 26, none⟩ = some (.bool (h.days.getD 3 false)) := (cell_of_blk Hy.out 26).trans rfl
  have y27 : w0.cell? ⟨w.heap.size + 1, 27, none⟩ = some (.bool (h.days.getD 4 false)) := (cell_of_blk Hy.out 27).trans rfl
  have y28 : w0.cell? ⟨w.heap.size + 1, 28, none⟩ = some (.bool (h.days.getD 5 false)) := (cell_of_blk Hy.out 28).trans rfl
  have y29 : w0.cell? ⟨w.heap.size + 1, 29, none⟩ = some (.bool (h.days.getD 6 false)) := (cell_of_blk Hy.out 29).trans rfl
  have y30 : w0.cell? ⟨w.heap.size + 1, 30, none⟩ = some (.slice A4 h.dates.length db) := (cell_of_blk Hy.out 30).trans rfl
  have y31 : w0.cell? ⟨w.heap.size + 1, 31, none⟩ = some (.slice A6 h.names.length nb) := (cell_of_blk Hy.out 31).trans rfl
  have y32 : w0.cell? ⟨w.heap.size + 1, 32, none⟩ = some (.slice A8 lB.length ib) := (cell_of_blk Hy.out 32).trans rfl
  have n1 := ne_span h.within.days h.within.bus ⟨h.within.name.toArray⟩
  have n2 := ne_span h.grace.days h.grace.bus ⟨h.grace.name.toArray⟩
  have n3 := ne_ratio h.num.num h.num.den
  have n4 := ne_days (h.days.getD 0 false) (h.days.getD 1 false) (h.days.getD 2 false) (h.days.getD 3 false) (h.days.getD 4 false) (h.days.getD 5 false) (h.days.getD 6 false)
  generalize h.days.getD 0 false = b0 at x23 y23 n4
  generalize h.days.getD 1 false = b1 at x24 y24 n4
  generalize h.days.getD 2 false = b2 at x25 y25 n4
  generalize h.days.getD 3 false = b3 at x26 y26 n4
  generalize h.days.getD 4 false = b4 at x27 y27 n4
  generalize h.days.getD 5 false = b5 at x28 y28 n4
  generalize h.days.getD 6 false = b6 at x29 y29 n4
  go_enter Try.func30, Try.ntmps30
  go_upto_region 1 with fail
  rw [HW0.out]
  clear HW0
  go_wp2_with fail
  go_loopw [5] (fun i wr => ∃ (j m : Nat), i = .int .i64 j ∧ j ≤ h.conds.length ∧ wr = w0.drewN m) (fun i _ => h.conds.length - (intOf i).toNat)
  case atStart => exact ⟨0, 0, rfl, by omega, rfl⟩
  case round =>
    obtain ⟨j, m, rfl, hj, rfl⟩ := hrel
    by_cases hlt : j < h.conds.length
    · have hne : h.conds.map namedc ≠ [] := by intro e; rw [List.map_eq_nil_iff] at e; rw [e] at hlt; simp at hlt
      obtain ⟨g1, o1, rfl, hg1, hr⟩ := HCA.out.resolve_left hne
      obtain ⟨g2, o2, rfl, hg2, hr'⟩ := HCB.out.resolve_left hne
      have hr := hr j (namedc h.conds[j]) (by simp [hlt])
      have hr' := hr' j (namedc h.conds[j]) (by simp [hlt])
      have c10 : w0.cell? ⟨g1, o1 + j * 2, none⟩ = some (.string ⟨h.conds[j].name.toArray⟩) := hr 0 _ rfl
      have c11 : w0.cell? ⟨g1, o1 + j * 2 + 1, none⟩ = some (.int .i64 h.conds[j].is_) := hr 1 _ rfl
      have c20 : w0.cell? ⟨g2, o2 + j * 2, none⟩ = some (.string ⟨h.conds[j].name.toArray⟩) := hr' 0 _ rfl
      have c21 : w0.cell? ⟨g2, o2 + j * 2 + 1, none⟩ = some (.int .i64 h.conds[j].is_) := hr' 1 _ rfl
      have HLT := Lib.hid hlt
      clear hr hr'
      have hnn := ne_named ⟨h.conds[j].name.toArray⟩ h.conds[j].is_
      generalize h.conds[j].name = yn at *
      generalize h.conds[j].is_ = zn at *
      go_wp2_with fail
      go_quiet (fail)
      go_wp2_with fail
      go_roundw
      case rel => exact ⟨j + 1, m + nq, by go_num, HLT.out, rfl⟩
      case measure => have := HLT.out; simp [intOf]; omega
    · obtain rfl : j = h.conds.length := by omega
      go_wp2_with (fail)
      refine (strings_true h.names _ _ _ (row_drewN HNA.out m) (row_drewN HNB.out m)).mono ?_
      rintro e w1 ⟨rfl, m2, rfl⟩
      go_wp2_with fail
      go_loopw [6] (fun i wr => ∃ (j m : Nat), i = .int .i64 j ∧ j ≤ h.dates.length ∧ wr = w0.drewN m) (fun i _ => h.dates.length - (intOf i).toNat)
      case atStart => exact ⟨0, m + m2, rfl, by omega, rfl⟩
      case round =>
        obtain ⟨j, m3, rfl, hj, rfl⟩ := hrel
        by_cases hlt : j < h.dates.length
        · have hne : h.dates.map civilc ≠ [] := by intro e; rw [List.map_eq_nil_iff] at e; rw [e] at hlt; simp at hlt
          obtain ⟨g1, o1, rfl, hg1, hr⟩ := HDA.out.resolve_left hne
          obtain ⟨g2, o2, rfl, hg2, hr'⟩ := HDB.out.resolve_left hne
          have hr := hr j (civilc h.dates[j]) (by simp [hlt])
          have hr' := hr' j (civilc h.dates[j]) (by simp [hlt])
          have c10 : w0.cell? ⟨g1, o1 + j * 3, none⟩ = some (.int .i64 h.dates[j].y) := hr 0 _ rfl
          have c11 : w0.cell? ⟨g1, o1 + j * 3 + 1, none⟩ = some (.int .i64 h.dates[j].m) := hr 1 _ rfl
          have c12 : w0.cell? ⟨g1, o1 + j * 3 + 2, none⟩ = some (.int .i64 h.dates[j].d) := hr 2 _ rfl
          have c20 : w0.cell? ⟨g2, o2 + j * 3, none⟩ = some (.int .i64 h.dates[j].y) := hr' 0 _ rfl
          have c21 : w0.cell? ⟨g2, o2 + j * 3 + 1, none⟩ = some (.int .i64 h.dates[j].m) := hr' 1 _ rfl
          have c22 : w0.cell? ⟨g2, o2 + j * 3 + 2, none⟩ = some (.int .i64 h.dates[j].d) := hr' 2 _ rfl
          have HLT := Lib.hid hlt
          clear hr hr'
          have hnn := ne_civil h.dates[j].y h.dates[j].m h.dates[j].d
          generalize h.dates[j].y = yn at *
          generalize h.dates[j].m = zn at *
          generalize h.dates[j].d = zd at *
          go_wp2_with fail
          go_quiet (fail)
          go_wp2_with fail
          go_roundw
          case rel => exact ⟨j + 1, m3 + nq, by go_num, HLT.out, rfl⟩
          case measure => have := HLT.out; simp [intOf]; omega
        · obtain rfl : j = h.dates.length := by omega
          have HFm : Hid (Fr (fun _ => False) w0 (w0.drewN m3)) := (Fr.refl _ w0).drewN _
          have HSm := Lib.hid (HS.out _ HFm.out)
          go_wp2_with fail
          refine HSm.out.mono ?_
          rintro e w4 ⟨rfl, hf4⟩
          have HF4 := Lib.hid hf4
          clear hf4
          go_wp2_with fail
          go_ret
          exact ⟨rfl, (HF0.out.trans HFm.out).trans HF4.out⟩
theorem At.fr {S : Nat → Prop} {W W' : World} {g o : Nat} {cs : List Value} (h : At W g o cs) (hg : g < W.heap.size) (hf : Fr S W W') (hs : ¬ S g) : At W' g o cs := fun j v hj => by
  have h2 := h j v hj
  have h3 := hf.block g hg hs
  unfold World.cell? at h2 ⊢
  simpa only [h3] using h2
theorem run_load_at {o : Oper} {a : Act} {w : World} (ty : TypeId) (x : Operand) (ho : o.op = .load ty x) (g k : Nat) (hx : a.eval x = .pointer (some ⟨g, k, none⟩)) (cs : List Value) (d : TypeDesc) (hc : At w g k cs)
    (hu : Try.prog.underlying ty = some d) (hd : d.isRow = true) (hi : (Try.prog.info? ty).map (·.size) = some cs.length) : (execOp a.eval o).run Try.prog w = .ok (.value (.agg cs.toArray)) w := by
  have hl := run_loadAt_mid (P := Try.prog) w g k ty cs d hc hu hd hi
  unfold execOp
  simp only [ho, hx, Sem.run_bind, hl, Sem.run_pure, Result.andThen_ok]
theorem tree_eq {x y : DT} (h : x.tree = y.tree) : x.h = y.h ∧ x.l.map DT.tree = y.l.map DT.tree := by
  rw [← DT.tree_h x, ← DT.tree_h y, ← DT.tree_l x, ← DT.tree_l y, h]
  exact ⟨rfl, rfl⟩
set_option maxRecDepth 100000 in
set_option maxHeartbeats 4000000 in
theorem items_true : ∀ (n : Nat) (a b : List DT) (va vb : Value) (w : World) (Ba Bb : Nat → Prop), tsz a ≤ n → a.map DT.tree = b.map DT.tree → LayL Ba w a va → LayL Bb w b vb →
    Calls Try.prog 20 #[va, vb] w fun e w' => e = .returned (.bool true) ∧ Fr (fun _ => False) w w' := by
  intro n
  induction n using Nat.strongRecOn with
  | ind n ih =>
  intro a b va vb w Ba Bb hn ht hA hB
  have HIH : Hid (∀ (x y : DT) (w' : World), x ∈ a → x.tree = y.tree → Lay Ba w' x → Lay Bb w' y → Calls Try.prog 30 #[.agg x.cells.toArray, .agg y.cells.toArray] w' fun e w'' => e = .returned (.bool true) ∧ Fr (fun _ => False) w' w'') :=
    fun x y w' hx ht h1 h2 => item_true x y w' Ba Bb h1 h2 (tree_eq ht).1 (fun w'' k1 k2 => ih (tsz x.l) (Nat.lt_of_lt_of_le (tsz_lt hx) hn) x.l y.l x.i y.i w'' Ba Bb (Nat.le_refl _) (tree_eq ht).2 k1 k2)
  clear ih hn
  have hlen : b.length = a.length := by have := congrArg List.length ht; simpa using this.symm
  obtain ⟨A, ca, rfl, hc1, hc2⟩ := hA.slice
  obtain ⟨B, cb, rfl, _, _⟩ := hB.slice
  rw [hlen] at hB ⊢
  have HA := Lib.hid hA; have HB := Lib.hid hB; have HT := Lib.hid ht; have HLEN := Lib.hid hlen
  clear hA hB ht hlen
  have hzl : a.length ≤ 9223372036854775807 := by omega
  go_enter Try.func20, Try.ntmps20
  go_wp2_with fail
  go_loopw [5] (fun i wr => ∃ j : Nat, i = .int .i64 j ∧ j ≤ a.length ∧ Hid (Fr (fun _ => False) w wr)) (fun i _ => a.length - (intOf i).toNat)
  case atStart => exact ⟨0, rfl, Nat.zero_le _, Fr.refl _ _⟩
  case round =>
    obtain ⟨j, rfl, hj, HF⟩ := hrel
    have i1 : (0 : Int) ≤ (j : Int) := Int.natCast_nonneg _
    by_cases hlt : j < a.length
    · have i2 : (j : Int) < (a.length : Int) := by omega
      obtain ⟨x, hx⟩ : ∃ x, a[j]? = some x := ⟨_, List.getElem?_eq_getElem hlt⟩
      obtain ⟨y, hy⟩ : ∃ y, b[j]? = some y := ⟨_, List.getElem?_eq_getElem (by rw [HLEN.out]; exact hlt)⟩
      have HXY : Hid (x.tree = y.tree) := by
        have h1 : (a.map DT.tree)[j]? = some x.tree := by rw [List.getElem?_map, hx]; rfl
        rw [HT.out, List.getElem?_map, hy] at h1
        exact (Option.some.inj h1).symm
      have HAr : Hid (LayL Ba wr a (.slice A a.length ca)) := HA.out.fr HF.out (fun _ _ h => h)
      have HBr : Hid (LayL Bb wr b (.slice B a.length cb)) := HB.out.fr HF.out (fun _ _ h => h)
      obtain ⟨g1, o1, hA1, hg1, _, hat1⟩ := HAr.out.at hx
      obtain ⟨g2, o2, hB1, hg2, _, hat2⟩ := HBr.out.at hy
      subst hA1
      subst hB1
      have HAT1 : Hid (∀ u, Fr (fun _ => False) wr u → At u g1 (o1 + j * 33) x.cells) := fun u hu => At.fr hat1 hg1 hu (fun h => h)
      have HAT2 : Hid (∀ u, Fr (fun _ => False) wr u → At u g2 (o2 + j * 33) y.cells) := fun u hu => At.fr hat2 hg2 hu (fun h => h)
      have HXM : Hid (x ∈ a) := List.mem_of_getElem? hx
      have HLX : Hid (Lay Ba wr x) := HAr.out.lay x HXM.out
      have HLY : Hid (Lay Bb wr y) := HBr.out.lay y (List.mem_of_getElem? hy)
      have HFD : Hid (Fr (fun _ => False) wr wr.drew) := (Fr.refl _ wr).drew
      have HLT := Lib.hid hlt
      clear hx hy hat1 hat2 hg1 hg2 hlt
      go_upto_region 6 with fail
      refine Reg.G.start (by kernel_rfl) ?_
      refine' Reg.G.pure (i := 0) (v := _) rfl (by rfl) (by kernel_rfl) (by kernel_rfl) (by kernel_rfl) (fun _ _ _ h => h) ?hys1 ?rehys1
      case hys1 => exact fun w => by first | (go_simp; done) | (go_simp; with_reducible rfl)
      simp only [Act.put, List.setIfInBounds_toArray, List.set_cons_zero, List.set_cons_succ]
      refine' Reg.G.pure (i := 1) (v := _) rfl (by rfl) (by kernel_rfl) (by kernel_rfl) (by kernel_rfl) (fun _ _ _ h => h) ?hys2 ?rehys2
      case hys2 => exact fun w => by first | (go_simp; done) | (go_simp; with_reducible rfl)
      simp only [Act.put, List.setIfInBounds_toArray, List.set_cons_zero, List.set_cons_succ]
      refine' Reg.G.pure (i := 2) (v := _) rfl (by rfl) (by kernel_rfl) (by kernel_rfl) (by kernel_rfl) (fun _ _ _ h => h) ?hys3 ?rehys3
      case hys3 => exact fun w => by first | (go_simp; done) | (go_simp; with_reducible rfl)
      simp only [Act.put, List.setIfInBounds_toArray, List.set_cons_zero, List.set_cons_succ]
      refine' Reg.G.take (i := 3) (v := _) (F := (fun w => Fr (fun _ => False) wr w)) rfl (by rfl) (by kernel_rfl) (by kernel_rfl) (by kernel_rfl) (fun _ _ _ h => h) (HFD.out) ?hys4 ?rehys4
      case hys4 => intro w hw; refine run_load_at 41 (.tmp 19) ?_ g1 (o1 + j * 33) ?_ x.cells _ (HAT1.out w hw) Try.underlying41 rfl (info_itl x) <;> rfl
      simp only [Act.put, List.setIfInBounds_toArray, List.set_cons_zero, List.set_cons_succ]
      refine' Reg.G.pure (i := 4) (v := _) rfl (by rfl) (by kernel_rfl) (by kernel_rfl) (by kernel_rfl) (fun _ _ _ h => h) ?hys5 ?rehys5
      case hys5 => exact fun w => by first | (go_simp; done) | (go_simp; with_reducible rfl)
      simp only [Act.put, List.setIfInBounds_toArray, List.set_cons_zero, List.set_cons_succ]
      refine' Reg.G.pure (i := 5) (v := _) rfl (by rfl) (by kernel_rfl) (by kernel_rfl) (by kernel_rfl) (fun _ _ _ h => h) ?hys6 ?rehys6
      case hys6 => exact fun w => by first | (go_simp; done) | (go_simp; with_reducible rfl)
      simp only [Act.put, List.setIfInBounds_toArray, List.set_cons_zero, List.set_cons_succ]
      refine' Reg.G.pure (i := 6) (v := _) rfl (by rfl) (by kernel_rfl) (by kernel_rfl) (by kernel_rfl) (fun _ _ _ h => h) ?hys7 ?rehys7
      case hys7 => exact fun w => by first | (go_simp; done) | (go_simp; with_reducible rfl)
      simp only [Act.put, List.setIfInBounds_toArray, List.set_cons_zero, List.set_cons_succ]
      refine' Reg.G.take (i := 7) (v := _) (F := (fun w => Fr (fun _ => False) wr w)) rfl (by rfl) (by kernel_rfl) (by kernel_rfl) (by kernel_rfl) (fun _ _ _ h => h) (HFD.out) ?hys8 ?rehys8
      case hys8 => intro w hw; refine run_load_at 41 (.tmp 23) ?_ g2 (o2 + j * 33) ?_ y.cells _ (HAT2.out w hw) Try.underlying41 rfl (info_itl y) <;> rfl
      simp only [Act.put, List.setIfInBounds_toArray, List.set_cons_zero, List.set_cons_succ]
      refine Reg.G.step (j := 8) (m := [false, false]) [7, 3] rfl (by kernel_rfl) rfl (by kernel_rfl) (fun K hK => ?_)
      go_simp
      refine (HIH.out x y _ HXM.out HXY.out (HLX.out.fr HFD.out (fun _ _ h => h)) (HLY.out.fr HFD.out (fun _ _ h => h))).mono ?_
      rintro e w5 ⟨rfl, hf5⟩
      have HF5 : Hid (Fr (fun _ => False) wr w5) := HFD.out.trans hf5
      clear hf5
      refine hK.out _ _ trivial ?_
      clear hK K
      simp only [Act.put, List.setIfInBounds_toArray, List.set_cons_zero, List.set_cons_succ, Reg.Kept]
      refine' Reg.G.pure (i := 9) (v := _) rfl (by rfl) (by kernel_rfl) (by kernel_rfl) (by kernel_rfl) (fun _ _ _ h => h) ?hys9 ?rehys9
      case hys9 => exact fun w => by first | (go_simp; done) | (go_simp; with_reducible rfl)
      simp only [Act.put, List.setIfInBounds_toArray, List.set_cons_zero, List.set_cons_succ]
      refine Reg.G.done (by kernel_rfl) ?_
      go_wp2_with fail
      go_roundw
      case rel => exact ⟨j + 1, by go_num, HLT.out, HF.out.trans HF5.out⟩
      case measure => have := HLT.out; simp [intOf]; omega
    · obtain rfl : j = a.length := by omega
      go_wp2_with fail
      go_ret
      exact ⟨rfl, HF.out⟩
set_option maxRecDepth 100000 in
set_option maxHeartbeats 4000000 in
theorem same_true (s : Rs.Source) (a b : List DT) (va vb : Value) (w : World) (Ba Bb : Nat → Prop) (ht : a.map DT.tree = b.map DT.tree) (hA : LayL Ba w a va) (hB : LayL Bb w b vb) :
    Calls Try.prog 14 #[.agg (scells s.name s.frm s.days va).toArray, .agg (scells s.name s.frm s.days vb).toArray] w fun e w' => e = .returned (.bool true) ∧ Fr (fun _ => False) w w' := by
  obtain ⟨w0, HW0⟩ : ∃ w0, Hid ((w.alloc (.cells (scells s.name s.frm s.days va).toArray 26)).alloc (.cells (scells s.name s.frm s.days vb).toArray 26) = w0) := ⟨_, rfl⟩
  have HF0 : Hid (Fr (fun _ => False) w w0) := by rw [← HW0.out]; exact ((Fr.refl _ w).alloc _).alloc _
  have Hx : Hid (w0.heap[w.heap.size]? = some (.cells (scells s.name s.frm s.days va).toArray 26 (0, 0))) := by rw [← HW0.out]; exact blk_alloc (blk_newn rfl) _
  have Hy : Hid (w0.heap[w.heap.size + 1]? = some (.cells (scells s.name s.frm s.days vb).toArray 26 (0, 0))) := by rw [← HW0.out]; exact blk_newn (by simp)
  have HI := Lib.hid (items_true _ a b va vb w0 Ba Bb (Nat.le_refl _) ht (hA.fr HF0.out (fun _ _ h => h)) (hB.fr HF0.out (fun _ _ h => h)))
  obtain ⟨A, ca, rfl, _, _⟩ := hA.slice
  obtain ⟨B, cb, rfl, _, _⟩ := hB.slice
  have x0 : w0.cell? ⟨w.heap.size, 0, none⟩ = some (.string ⟨s.name.toArray⟩) := (cell_of_blk Hx.out 0).trans rfl
  have x1 : w0.cell? ⟨w.heap.size, 1, none⟩ = some (.int .i64 s.frm.y) := (cell_of_blk Hx.out 1).trans rfl
  have x2 : w0.cell? ⟨w.heap.size, 2, none⟩ = some (.int .i64 s.frm.m) := (cell_of_blk Hx.out 2).trans rfl
  have x3 : w0.cell? ⟨w.heap.size, 3, none⟩ = some (.int .i64 s.frm.d) := (cell_of_blk Hx.out 3).trans rfl
  have x4 : w0.cell? ⟨w.heap.size, 4, none⟩ = some (.int .i64 s.days) := (cell_of_blk Hx.out 4).trans rfl
  have x5 : w0.cell? ⟨w.heap.size, 5, none⟩ = some (.slice A a.length ca) := (cell_of_blk Hx.out 5).trans rfl
  have y0 : w0.cell? ⟨w.heap.size + 1, 0, none⟩ = some (.string ⟨s.name.toArray⟩) := (cell_of_blk Hy.out 0).trans rfl
  have y1 : w0.cell? ⟨w.heap.size + 1, 1, none⟩ = some (.int .i64 s.frm.y) := (cell_of_blk Hy.out 1).trans rfl
  have y2 : w0.cell? ⟨w.heap.size + 1, 2, none⟩ = some (.int .i64 s.frm.m) := (cell_of_blk Hy.out 2).trans rfl
  have y3 : w0.cell? ⟨w.heap.size + 1, 3, none⟩ = some (.int .i64 s.frm.d) := (cell_of_blk Hy.out 3).trans rfl
  have y4 : w0.cell? ⟨w.heap.size + 1, 4, none⟩ = some (.int .i64 s.days) := (cell_of_blk Hy.out 4).trans rfl
  have y5 : w0.cell? ⟨w.heap.size + 1, 5, none⟩ = some (.slice B b.length cb) := (cell_of_blk Hy.out 5).trans rfl
  have n1 := eq_civil s.frm.y s.frm.m s.frm.d
  clear hA hB ht
  go_enter Try.func14, Try.ntmps14
  go_upto_region 1 with fail
  rw [HW0.out]
  clear HW0
  go_wp2_with fail
  refine HI.out.mono ?_
  rintro e w4 ⟨rfl, hf4⟩
  have HF4 := Lib.hid hf4
  clear hf4
  go_wp2_with fail
  go_ret
  exact ⟨rfl, HF0.out.trans HF4.out⟩
end Go.Proofs.Yticakdajhmfpoaa.Ic
