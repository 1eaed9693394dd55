/-
  Include: copies of lists.
-/
import Derived.Test.YticakdajhmfpoaaIncMem
import Derived.Laws.CopyRow
import Derived.Laws.OwnMore
import Derived.Deep.DeepCutAuto
namespace Go.Proofs.Yticakdajhmfpoaa.Ic
open Go.RowKit Mem Vw Rs
set_option linter.unusedVariables false
set_option linter.unusedSimpArgs false

theorem run_make_z {P : Program} (t e : TypeId) (z : Value) (size bytes : Nat) (ht : P.underlying t = some (.slice e)) (hinfo : (P.info? e).map (fun i => (i.zero, i.size, i.bytes)) = some (some z, size, bytes))
    (n : Nat) (hbytes : bytes * n ≤ 281474976710656) (h63 : n ≤ 9223372036854775807) (w : World) :
    (Instr.makeSlice t (.int .i64 (n : Int)) (.int .i64 (n : Int))).run P w = .ok (.slice (some ⟨w.heap.size, 0, none⟩) n n) (w.alloc (.cells (madeCells z.cells (n * size)) e)) := by
  obtain ⟨i, hi, hzz⟩ := Option.map_eq_some_iff.1 hinfo
  simp only [Prod.mk.injEq] at hzz
  obtain ⟨hz, hs, hb⟩ := hzz
  subst hs hb
  have hb' : (i.bytes : Int) * (n : Int) ≤ 281474976710656 := by
    have h : ((i.bytes * n : Nat) : Int) ≤ 281474976710656 := by omega
    rwa [Int.natCast_mul] at h
  have hr := run_make (P := P) w t e i z ht hi hz .i64 .i64 n n (by omega) (Int.le_refl _) hb' (by omega)
  simp only [Int.toNat_natCast] at hr
  exact hr
theorem run_copy_z {P : Program} (w : World) (dT sT ty elem : TypeId) (g n size dCap : Nat) (a : Addr) (sCap : Nat) (cur : Array Value) (t : TypeId) (cs : List Value)
    (hu : P.underlying dT = some (.slice elem)) (hs : (P.info? elem).map (·.size) = some size)
    (hg : w.heap[g]? = some (.cells cur t (0, 0))) (hn : cs.length = n * size)
    (hsrc : ∀ j v, cs[j]? = some v → w.cell? (a.add j) = some v) (hfit : cs.length = cur.size) (h1 : ∀ v ∈ cs, v.oneCell' = true) :
    (Builtin.copy_ #[dT, sT] ty #[.slice (some ⟨g, 0, none⟩) n dCap, .slice (some a) n sCap]).run P w = .ok (goInt n) (w.setRow g cs.toArray) := by
  have hl := run_loadCells_list (P := P) w a cs hsrc
  have hst := run_storeCells_at P g 0 t cs 0 cur w hg (by omega) h1
  simp only [Nat.zero_add, List.take_zero, List.nil_append] at hst
  have hd : cur.toList.drop cs.length = [] := List.drop_of_length_le (by rw [Array.length_toList]; omega)
  rw [hd, List.append_nil] at hst
  cases hq : P.info? elem with
  | none => simp [hq] at hs
  | some i =>
    have hi : i.size = size := by simpa [hq] using hs
    subst hi
    rw [hn] at hl
    simp [Builtin.copy_, run_underlying hu, Builtin.lenOf, Builtin.firstCells, sizeOf, typeInfo, hq, hl, hst]
theorem flatten_get {z : Nat} : ∀ {xs : List (List Value)}, (∀ x ∈ xs, x.length = z) → ∀ (j : Nat) (v : Value), xs.flatten[j]? = some v → ∃ i k y, j = i * z + k ∧ xs[i]? = some y ∧ y[k]? = some v
  | [], _, j, v, h => by simp at h
  | x :: xs, hz, j, v, h => by
    have hx := hz x (List.mem_cons_self ..)
    rw [List.flatten_cons] at h
    by_cases hj : j < x.length
    · rw [List.getElem?_append_left hj] at h
      exact ⟨0, j, x, by omega, rfl, h⟩
    · rw [List.getElem?_append_right (by omega)] at h
      obtain ⟨i, k, y, h1, h2, h3⟩ := flatten_get (fun y hy => hz y (List.mem_cons_of_mem _ hy)) _ v h
      refine ⟨i + 1, k, y, ?_, by simpa using h2, h3⟩
      rw [Nat.succ_mul, ← hx]; rw [← hx] at h1; omega
theorem flatten_len {z : Nat} : ∀ {xs : List (List Value)}, (∀ x ∈ xs, x.length = z) → xs.flatten.length = xs.length * z
  | [], _ => by simp
  | x :: xs, hz => by
    rw [List.flatten_cons, List.length_append, flatten_len (fun y hy => hz y (List.mem_cons_of_mem _ hy)), hz x (List.mem_cons_self ..), List.length_cons, Nat.succ_mul]; omega
theorem flatten_at {z : Nat} : ∀ {xs : List (List Value)}, (∀ x ∈ xs, x.length = z) → ∀ (i k : Nat) (y : List Value) (v : Value), xs[i]? = some y → y[k]? = some v → xs.flatten[i * z + k]? = some v
  | [], _, i, k, y, v, h, _ => by simp at h
  | x :: xs, hz, 0, k, y, v, h, h2 => by
    simp only [List.getElem?_cons_zero, Option.some.injEq] at h
    subst h
    rw [List.flatten_cons, List.getElem?_append_left (by have := (List.getElem?_eq_some_iff.1 h2).1; omega), Nat.zero_mul, Nat.zero_add]
    exact h2
  | x :: xs, hz, i + 1, k, y, v, h, h2 => by
    have hx := hz x (List.mem_cons_self ..)
    rw [List.flatten_cons, List.getElem?_append_right (by rw [hx, Nat.succ_mul]; omega), hx, show (i + 1) * z + k - z = i * z + k by rw [Nat.succ_mul]; omega]
    exact flatten_at (fun y hy => hz y (List.mem_cons_of_mem _ hy)) i k y v (by simpa using h) h2
/-- A new block with all elements is a row. -/
theorem RowB.new {B : Nat → Prop} {W : World} {g z : Nat} {t : TypeId} {xs : List (List Value)} (hz : ∀ x ∈ xs, x.length = z) (hl : xs.length ≤ 9223372036854775807) (hg : W.heap[g]? = some (.cells xs.flatten.toArray t (0, 0))) (hB : B g) : RowB B W (.slice (some ⟨g, 0, none⟩) xs.length xs.length) z xs := by
  refine ⟨⟨_, _, rfl, ⟨Nat.le_refl _, hl⟩, .inr ⟨g, 0, rfl, lt_of_blk hg, fun i x hx j u hj => ?_⟩⟩, fun g' o n c e _ => ?_⟩
  · rw [Nat.zero_add, cell_of_blk hg, List.getElem?_toArray]
    exact flatten_at hz i j x u hx hj
  · injection e with e _ _; injection e with e; injection e with e _ _; subst e; exact hB
theorem cinfo_str : (Try.prog.info? 9).map (fun i => (i.zero, i.size, i.bytes)) = some (some (.string ⟨#[]⟩), 1, 16) := by kernel_rfl
set_option maxRecDepth 100000 in
set_option maxHeartbeats 2000000 in
theorem copied_str (v : Value) (xs : List (List Value)) (W : World) (h : Row W v 1 xs) (hz : ∀ x ∈ xs, x.length = 1) (h1 : ∀ x ∈ xs, ∀ y ∈ x, y.oneCell' = true) (hl : xs.length ≤ 1000000) :
    Calls Try.prog 44 #[v] W fun e w' => (xs = [] → e = .returned Vw.nil ∧ w' = W) ∧ (xs ≠ [] → e = .returned (.slice (some ⟨W.heap.size, 0, none⟩) xs.length xs.length) ∧ w' = W.alloc (.cells xs.flatten.toArray 9)) := by
  obtain ⟨A, c, rfl, h2, h3⟩ := h.slice
  by_cases hx : xs = []
  · subst hx
    go_enter Try.func44, Try.ntmps44
    go_wp2_with fail
    go_ret
    exact ⟨fun _ => ⟨rfl, rfl⟩, fun h => absurd rfl h⟩
  · obtain ⟨g, o, cap, e, hg, _, _, hat⟩ := h.at hx
    injection e with e _ e3
    subst e e3
    have hn0 : 0 < xs.length := List.length_pos_iff.2 hx
    have hne : ((xs.length : Int) == 0) = false := by simp; omega
    have hmk := run_make_z (P := Try.prog) 39 9 (.string ⟨#[]⟩) 1 16 Try.underlying39 cinfo_str xs.length (by omega) (by omega) W
    have hzs : (madeCells (.string ⟨#[]⟩ : Value).cells (xs.length * 1)).size = xs.length * 1 := size_madeCells _ _
    obtain ⟨Z, HZ⟩ : ∃ Z, madeCells (.string ⟨#[]⟩ : Value).cells (xs.length * 1) = Z := ⟨_, rfl⟩
    rw [HZ] at hmk hzs
    obtain ⟨w1, HW1⟩ : ∃ w1, Hid (W.alloc (.cells Z 9) = w1) := ⟨_, rfl⟩
    have hb1 : w1.heap[W.heap.size]? = some (.cells Z 9 (0, 0)) := by rw [← HW1.out]; exact blk_newn rfl
    clear HZ
    have hcp := run_copy_z (P := Try.prog) w1 39 39 3 9 W.heap.size xs.length 1 xs.length ⟨g, o, none⟩ c _ 9 xs.flatten Try.underlying39 (by kernel_rfl) hb1 (flatten_len hz) (fun j v hj => by
        obtain ⟨i, k, y, e1, e2, e3⟩ := flatten_get hz j v hj
        have h4 := hat i y e2 k v e3
        subst e1
        rw [Go.WideShapes.add_plain, ← HW1.out]
        have hlt : (⟨g, o + i * 1 + k, none⟩ : Addr).block < W.heap.size := hg
        rw [show o + (i * 1 + k) = o + i * 1 + k by omega]
        exact (Below.cell ((Below.refl W.heap.size W).alloc (Nat.le_refl _) _) hlt).trans h4) (by rw [flatten_len hz, hzs]) (fun v hv => by
        obtain ⟨x, hx1, hx2⟩ := List.mem_flatten.1 hv
        exact h1 x hx1 v hx2)
    have HCP := Lib.hid hcp
    have HX := Lib.hid hx
    clear hcp hb1 hat hx h hzs
    go_enter Try.func44, Try.ntmps44
    go_upto_region 4 with fail
    rw [HW1.out]
    have hcp := HCP.out
    go_wp2_with fail
    go_ret
    refine ⟨fun h => absurd h HX.out, fun _ => ⟨rfl, ?_⟩⟩
    rw [← HW1.out, World.setRow_alloc_new]
theorem cinfo_named : (Try.prog.info? 57).map (fun i => (i.zero, i.size, i.bytes)) = some (some (.agg #[.string ⟨#[]⟩, .int .i64 0]), 2, 24) := by kernel_rfl
set_option maxRecDepth 100000 in
set_option maxHeartbeats 2000000 in
theorem copied_named (v : Value) (xs : List (List Value)) (W : World) (h : Row W v 2 xs) (hz : ∀ x ∈ xs, x.length = 2) (h1 : ∀ x ∈ xs, ∀ y ∈ x, y.oneCell' = true) (hl : xs.length ≤ 1000000) :
    Calls Try.prog 42 #[v] W fun e w' => (xs = [] → e = .returned Vw.nil ∧ w' = W) ∧ (xs ≠ [] → e = .returned (.slice (some ⟨W.heap.size, 0, none⟩) xs.length xs.length) ∧ w' = W.alloc (.cells xs.flatten.toArray 57)) := by
  obtain ⟨A, c, rfl, h2, h3⟩ := h.slice
  by_cases hx : xs = []
  · subst hx
    go_enter Try.func42, Try.ntmps42
    go_wp2_with fail
    go_ret
    exact ⟨fun _ => ⟨rfl, rfl⟩, fun h => absurd rfl h⟩
  · obtain ⟨g, o, cap, e, hg, _, _, hat⟩ := h.at hx
    injection e with e _ e3
    subst e e3
    have hn0 : 0 < xs.length := List.length_pos_iff.2 hx
    have hne : ((xs.length : Int) == 0) = false := by simp; omega
    have hmk := run_make_z (P := Try.prog) 34 57 (.agg #[.string ⟨#[]⟩, .int .i64 0]) 2 24 Try.underlying34 cinfo_named xs.length (by omega) (by omega) W
    have hzs : (madeCells (.agg #[.string ⟨#[]⟩, .int .i64 0] : Value).cells (xs.length * 2)).size = xs.length * 2 := size_madeCells _ _
    obtain ⟨Z, HZ⟩ : ∃ Z, madeCells (.agg #[.string ⟨#[]⟩, .int .i64 0] : Value).cells (xs.length * 2) = Z := ⟨_, rfl⟩
    rw [HZ] at hmk hzs
    obtain ⟨w1, HW1⟩ : ∃ w1, Hid (W.alloc (.cells Z 57) = w1) := ⟨_, rfl⟩
    have hb1 : w1.heap[W.heap.size]? = some (.cells Z 57 (0, 0)) := by rw [← HW1.out]; exact blk_newn rfl
    clear HZ
    have hcp := run_copy_z (P := Try.prog) w1 34 34 3 57 W.heap.size xs.length 2 xs.length ⟨g, o, none⟩ c _ 57 xs.flatten Try.underlying34 (by kernel_rfl) hb1 (flatten_len hz) (fun j v hj => by
        obtain ⟨i, k, y, e1, e2, e3⟩ := flatten_get hz j v hj
        have h4 := hat i y e2 k v e3
        subst e1
        rw [Go.WideShapes.add_plain, ← HW1.out]
        have hlt : (⟨g, o + i * 2 + k, none⟩ : Addr).block < W.heap.size := hg
        rw [show o + (i * 2 + k) = o + i * 2 + k by omega]
        exact (Below.cell ((Below.refl W.heap.size W).alloc (Nat.le_refl _) _) hlt).trans h4) (by rw [flatten_len hz, hzs]) (fun v hv => by
        obtain ⟨x, hx1, hx2⟩ := List.mem_flatten.1 hv
        exact h1 x hx1 v hx2)
    have HCP := Lib.hid hcp
    have HX := Lib.hid hx
    clear hcp hb1 hat hx h hzs
    go_enter Try.func42, Try.ntmps42
    go_upto_region 4 with fail
    rw [HW1.out]
    have hcp := HCP.out
    go_wp2_with fail
    go_ret
    refine ⟨fun h => absurd h HX.out, fun _ => ⟨rfl, ?_⟩⟩
    rw [← HW1.out, World.setRow_alloc_new]
theorem cinfo_civil : (Try.prog.info? 23).map (fun i => (i.zero, i.size, i.bytes)) = some (some (.agg #[.int .i64 0, .int .i64 0, .int .i64 0]), 3, 24) := by kernel_rfl
set_option maxRecDepth 100000 in
set_option maxHeartbeats 2000000 in
theorem copied_civil (v : Value) (xs : List (List Value)) (W : World) (h : Row W v 3 xs) (hz : ∀ x ∈ xs, x.length = 3) (h1 : ∀ x ∈ xs, ∀ y ∈ x, y.oneCell' = true) (hl : xs.length ≤ 1000000) :
    Calls Try.prog 43 #[v] W fun e w' => (xs = [] → e = .returned Vw.nil ∧ w' = W) ∧ (xs ≠ [] → e = .returned (.slice (some ⟨W.heap.size, 0, none⟩) xs.length xs.length) ∧ w' = W.alloc (.cells xs.flatten.toArray 23)) := by
  obtain ⟨A, c, rfl, h2, h3⟩ := h.slice
  by_cases hx : xs = []
  · subst hx
    go_enter Try.func43, Try.ntmps43
    go_wp2_with fail
    go_ret
    exact ⟨fun _ => ⟨rfl, rfl⟩, fun h => absurd rfl h⟩
  · obtain ⟨g, o, cap, e, hg, _, _, hat⟩ := h.at hx
    injection e with e _ e3
    subst e e3
    have hn0 : 0 < xs.length := List.length_pos_iff.2 hx
    have hne : ((xs.length : Int) == 0) = false := by simp; omega
    have hmk := run_make_z (P := Try.prog) 38 23 (.agg #[.int .i64 0, .int .i64 0, .int .i64 0]) 3 24 Try.underlying38 cinfo_civil xs.length (by omega) (by omega) W
    have hzs : (madeCells (.agg #[.int .i64 0, .int .i64 0, .int .i64 0] : Value).cells (xs.length * 3)).size = xs.length * 3 := size_madeCells _ _
    obtain ⟨Z, HZ⟩ : ∃ Z, madeCells (.agg #[.int .i64 0, .int .i64 0, .int .i64 0] : Value).cells (xs.length * 3) = Z := ⟨_, rfl⟩
    rw [HZ] at hmk hzs
    obtain ⟨w1, HW1⟩ : ∃ w1, Hid (W.alloc (.cells Z 23) = w1) := ⟨_, rfl⟩
    have hb1 : w1.heap[W.heap.size]? = some (.cells Z 23 (0, 0)) := by rw [← HW1.out]; exact blk_newn rfl
    clear HZ
    have hcp := run_copy_z (P := Try.prog) w1 38 38 3 23 W.heap.size xs.length 3 xs.length ⟨g, o, none⟩ c _ 23 xs.flatten Try.underlying38 (by kernel_rfl) hb1 (flatten_len hz) (fun j v hj => by
        obtain ⟨i, k, y, e1, e2, e3⟩ := flatten_get hz j v hj
        have h4 := hat i y e2 k v e3
        subst e1
        rw [Go.WideShapes.add_plain, ← HW1.out]
        have hlt : (⟨g, o + i * 3 + k, none⟩ : Addr).block < W.heap.size := hg
        rw [show o + (i * 3 + k) = o + i * 3 + k by omega]
        exact (Below.cell ((Below.refl W.heap.size W).alloc (Nat.le_refl _) _) hlt).trans h4) (by rw [flatten_len hz, hzs]) (fun v hv => by
        obtain ⟨x, hx1, hx2⟩ := List.mem_flatten.1 hv
        exact h1 x hx1 v hx2)
    have HCP := Lib.hid hcp
    have HX := Lib.hid hx
    clear hcp hb1 hat hx h hzs
    go_enter Try.func43, Try.ntmps43
    go_upto_region 4 with fail
    rw [HW1.out]
    have hcp := HCP.out
    go_wp2_with fail
    go_ret
    refine ⟨fun h => absurd h HX.out, fun _ => ⟨rfl, ?_⟩⟩
    rw [← HW1.out, World.setRow_alloc_new]
theorem cinfo_item : (Try.prog.info? 41).map (fun i => (i.zero, i.size, i.bytes)) = some (some (.agg #[.int .i64 0, .string ⟨#[]⟩, .int .i64 0, .string ⟨#[]⟩, .string ⟨#[]⟩, .int .i64 0, .int .i64 0, .int .i64 0, .bool false, .string ⟨#[]⟩, .int .i64 0, .bool false, .string ⟨#[]⟩, .slice none 0 0, .string ⟨#[]⟩, .string ⟨#[]⟩, .int .i64 0, .int .i64 0, .string ⟨#[]⟩, .string ⟨#[]⟩, .bool false, .string ⟨#[]⟩, .string ⟨#[]⟩, .bool false, .bool false, .bool false, .bool false, .bool false, .bool false, .bool false, .slice none 0 0, .slice none 0 0, .slice none 0 0]), 33, 368) := by kernel_rfl
set_option maxRecDepth 100000 in
set_option maxHeartbeats 2000000 in
theorem copied_item (v : Value) (xs : List (List Value)) (W : World) (h : Row W v 33 xs) (hz : ∀ x ∈ xs, x.length = 33) (h1 : ∀ x ∈ xs, ∀ y ∈ x, y.oneCell' = true) (hl : xs.length ≤ 1000000) :
    Calls Try.prog 45 #[v] W fun e w' => (xs = [] → e = .returned Vw.nil ∧ w' = W) ∧ (xs ≠ [] → e = .returned (.slice (some ⟨W.heap.size, 0, none⟩) xs.length xs.length) ∧ w' = W.alloc (.cells xs.flatten.toArray 41)) := by
  obtain ⟨A, c, rfl, h2, h3⟩ := h.slice
  by_cases hx : xs = []
  · subst hx
    go_enter Try.func45, Try.ntmps45
    go_wp2_with fail
    go_ret
    exact ⟨fun _ => ⟨rfl, rfl⟩, fun h => absurd rfl h⟩
  · obtain ⟨g, o, cap, e, hg, _, _, hat⟩ := h.at hx
    injection e with e _ e3
    subst e e3
    have hn0 : 0 < xs.length := List.length_pos_iff.2 hx
    have hne : ((xs.length : Int) == 0) = false := by simp; omega
    have hmk := run_make_z (P := Try.prog) 24 41 (.agg #[.int .i64 0, .string ⟨#[]⟩, .int .i64 0, .string ⟨#[]⟩, .string ⟨#[]⟩, .int .i64 0, .int .i64 0, .int .i64 0, .bool false, .string ⟨#[]⟩, .int .i64 0, .bool false, .string ⟨#[]⟩, .slice none 0 0, .string ⟨#[]⟩, .string ⟨#[]⟩, .int .i64 0, .int .i64 0, .string ⟨#[]⟩, .string ⟨#[]⟩, .bool false, .string ⟨#[]⟩, .string ⟨#[]⟩, .bool false, .bool false, .bool false, .bool false, .bool false, .bool false, .bool false, .slice none 0 0, .slice none 0 0, .slice none 0 0]) 33 368 Try.underlying24 cinfo_item xs.length (by omega) (by omega) W
    have hzs : (madeCells (.agg #[.int .i64 0, .string ⟨#[]⟩, .int .i64 0, .string ⟨#[]⟩, .string ⟨#[]⟩, .int .i64 0, .int .i64 0, .int .i64 0, .bool false, .string ⟨#[]⟩, .int .i64 0, .bool false, .string ⟨#[]⟩, .slice none 0 0, .string ⟨#[]⟩, .string ⟨#[]⟩, .int .i64 0, .int .i64 0, .string ⟨#[]⟩, .string ⟨#[]⟩, .bool false, .string ⟨#[]⟩, .string ⟨#[]⟩, .bool false, .bool false, .bool false, .bool false, .bool false, .bool false, .bool false, .slice none 0 0, .slice none 0 0, .slice none 0 0] : Value).cells (xs.length * 33)).size = xs.length * 33 := size_madeCells _ _
    obtain ⟨Z, HZ⟩ : ∃ Z, madeCells (.agg #[.int .i64 0, .string ⟨#[]⟩, .int .i64 0, .string ⟨#[]⟩, .string ⟨#[]⟩, .int .i64 0, .int .i64 0, .int .i64 0, .bool false, .string ⟨#[]⟩, .int .i64 0, .bool false, .string ⟨#[]⟩, .slice none 0 0, .string ⟨#[]⟩, .string ⟨#[]⟩, .int .i64 0, .int .i64 0, .string ⟨#[]⟩, .string ⟨#[]⟩, .bool false, .string ⟨#[]⟩, .string ⟨#[]⟩, .bool false, .bool false, .bool false, .bool false, .bool false, .bool false, .bool false, .slice none 0 0, .slice none 0 0, .slice none 0 0] : Value).cells (xs.length * 33) = Z := ⟨_, rfl⟩
    rw [HZ] at hmk hzs
    obtain ⟨w1, HW1⟩ : ∃ w1, Hid (W.alloc (.cells Z 41) = w1) := ⟨_, rfl⟩
    have hb1 : w1.heap[W.heap.size]? = some (.cells Z 41 (0, 0)) := by rw [← HW1.out]; exact blk_newn rfl
    clear HZ
    have hcp := run_copy_z (P := Try.prog) w1 24 24 3 41 W.heap.size xs.length 33 xs.length ⟨g, o, none⟩ c _ 41 xs.flatten Try.underlying24 (by kernel_rfl) hb1 (flatten_len hz) (fun j v hj => by
        obtain ⟨i, k, y, e1, e2, e3⟩ := flatten_get hz j v hj
        have h4 := hat i y e2 k v e3
        subst e1
        rw [Go.WideShapes.add_plain, ← HW1.out]
        have hlt : (⟨g, o + i * 33 + k, none⟩ : Addr).block < W.heap.size := hg
        rw [show o + (i * 33 + k) = o + i * 33 + k by omega]
        exact (Below.cell ((Below.refl W.heap.size W).alloc (Nat.le_refl _) _) hlt).trans h4) (by rw [flatten_len hz, hzs]) (fun v hv => by
        obtain ⟨x, hx1, hx2⟩ := List.mem_flatten.1 hv
        exact h1 x hx1 v hx2)
    have HCP := Lib.hid hcp
    have HX := Lib.hid hx
    clear hcp hb1 hat hx h hzs
    go_enter Try.func45, Try.ntmps45
    go_upto_region 4 with fail
    rw [HW1.out]
    have hcp := HCP.out
    go_wp2_with fail
    go_ret
    refine ⟨fun h => absurd h HX.out, fun _ => ⟨rfl, ?_⟩⟩
    rw [← HW1.out, World.setRow_alloc_new]
end Go.Proofs.Yticakdajhmfpoaa.Ic
