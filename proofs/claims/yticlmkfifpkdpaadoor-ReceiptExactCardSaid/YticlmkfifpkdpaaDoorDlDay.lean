/-
  How the day of a node follows from those of its kids: the day functions of package deadline.
-/
import Derived.Test.YticlmkfifpkdpaaDoorDlFits
namespace Go.Proofs.YticlmkfifpkdpaaDoor.Dl
open Go.RowKit Mem Vw
set_option linter.unusedVariables false
set_option linter.unusedSimpArgs false

/-- The cells of a setting: a calendar and the slice of the events. -/
def sets (c : Cal) (hv ev : Value) : List Value := [.bool (c.wk.getD 0 false), .bool (c.wk.getD 1 false), .bool (c.wk.getD 2 false), .bool (c.wk.getD 3 false), .bool (c.wk.getD 4 false), .bool (c.wk.getD 5 false), .bool (c.wk.getD 6 false), hv, ev]
theorem sets_cells {W : World} {b : Nat} {c : Cal} {hv ev : Value} (h : W.heap[b]? = some (.cells (sets c hv ev).toArray 99 (0, 0))) : (∀ j, j < 7 → W.cell? ⟨b, j, none⟩ = some (.bool (c.wk.getD j false))) ∧ W.cell? ⟨b, 7, none⟩ = some hv ∧ W.cell? ⟨b, 8, none⟩ = some ev := by
  refine ⟨fun j hj => ?_, (cell_of_blk h 7).trans rfl, (cell_of_blk h 8).trans rfl⟩
  rw [cell_of_blk h j]
  have : j = 0 ∨ j = 1 ∨ j = 2 ∨ j = 3 ∨ j = 4 ∨ j = 5 ∨ j = 6 := by omega
  rcases this with rfl | rfl | rfl | rfl | rfl | rfl | rfl <;> rfl
theorem info_set (c : Cal) (hv ev : Value) : (Tryd.prog.info? 99).map (·.size) = some (sets c hv ev).toArray.size := by kernel_rfl
/-- A day, and whether there is one. -/
def pairv (o : Option Int) : Value := match o with | some r => .tuple #[.int .i64 r, .bool true] | none => .tuple #[.int .i64 0, .bool false]
theorem srchv_form (o : Option Int) : ∃ r1 r2 : Int, srchv o = .tuple #[.int .i64 r1, .int .i64 r2] ∧ pairv o = .tuple #[.int .i64 r1, .bool (r2 == 0)] := by
  cases o with
  | none => exact ⟨0, 2, rfl, rfl⟩
  | some r => exact ⟨r, 0, rfl, rfl⟩
/-- What the day functions are called with. -/
structure Setting (W : World) (c : Cal) (hv : Value) (l : List When) (ev : Value) : Prop where
  cal : CalAt W c hv
  ok : c.ok = true
  evs : EvsAt W l ev
  bf : Bf W
theorem Setting.below {W W' : World} {c : Cal} {hv : Value} {l : List When} {ev : Value} (h : Setting W c hv l ev) (hb : Below W.heap.size W W') : Setting W' c hv l ev := ⟨h.cal.below hb, h.ok, h.evs.below hb, h.bf.below hb⟩
theorem one_day {W : World} {kv : Value} {d : Int} (h : Row W kv 1 (nums [d])) : ∃ g o cap, kv = .slice (some ⟨g, o, none⟩) 1 cap ∧ g < W.heap.size ∧ W.cell? ⟨g, o, none⟩ = some (.int .i64 d) := by
  obtain ⟨g, o, cap, e, hg, _, _, hr⟩ := h.at (by simp [nums])
  exact ⟨g, o, cap, e, hg, hr 0 [nv d] rfl 0 (nv d) rfl⟩
theorem days_at {W : World} {kv : Value} {ds : List Int} (h : Row W kv 1 (nums ds)) (hne : ds ≠ []) : ∃ g o cap, kv = .slice (some ⟨g, o, none⟩) ds.length cap ∧ g < W.heap.size ∧ ∀ j, j < ds.length → W.cell? ⟨g, o + j, none⟩ = some (.int .i64 (ds.getD j 0)) := by
  obtain ⟨g, o, cap, e, hg, _, _, hr⟩ := h.at (by simpa [nums] using hne)
  have hl : (nums ds).length = ds.length := by unfold nums; simp
  rw [hl] at e
  refine ⟨g, o, cap, e, hg, fun j hj => ?_⟩
  have hx : (nums ds)[j]? = some [nv (ds.getD j 0)] := by unfold nums; rw [List.getElem?_map, List.getElem?_eq_getElem hj, List.getD_eq_getElem?_getD, List.getElem?_eq_getElem hj]; rfl
  have := hr j _ hx 0 _ rfl
  rwa [Nat.mul_one] at this
theorem ev_at {W : World} {l : List When} {ev : Value} (h : EvsAt W l ev) {e : Int} (h0 : 0 ≤ e) (h1 : e < l.length) : ∃ g o cap, ev = .slice (some ⟨g, o, none⟩) l.length cap ∧ g < W.heap.size ∧ W.cell? ⟨g, o + e.toNat * 3, none⟩ = some (.bool (evAt l e).known) ∧ W.cell? ⟨g, o + e.toNat * 3 + 1, none⟩ = some (.int .i64 (evAt l e).day) ∧ W.cell? ⟨g, o + e.toNat * 3 + 2, none⟩ = some (.int .i64 (evAt l e).min) := by
  have hne : l ≠ [] := by intro he; rw [he] at h1; simp at h1; omega
  obtain ⟨g, o, cap, hv, hg, _, _, hr⟩ := h.row.at (by simpa using hne)
  rw [List.length_map] at hv
  have hx : (l.map whenc)[e.toNat]? = some (whenc (evAt l e)) := by
    unfold evAt
    rw [List.getElem?_map, List.getElem?_eq_getElem (by omega), List.getD_eq_getElem?_getD, List.getElem?_eq_getElem (by omega)]; rfl
  have hc := hr _ _ hx
  exact ⟨g, o, cap, hv, hg, hc 0 _ rfl, hc 1 _ rfl, hc 2 _ rfl⟩
set_option maxRecDepth 100000 in
theorem day1_any (c : Cal) (hv : Value) (l : List When) (ev : Value) (k n e : Int) (b : Bool) (kids : List Term) (tv kv : Value) (ds : List Int) (W : World) (hS : Setting W c hv l ev) (hk : Row W kv 1 (nums ds)) :
    Calls Tryd.prog 67 #[.agg (sets c hv ev).toArray, .agg #[.int .i64 k, .int .i64 n, .int .i64 e, .bool b, tv], kv] W fun e' w' => e' = .returned (.tuple #[.int .i64 n, .bool true]) ∧ Below W.heap.size W w' := by
  obtain ⟨w0, HW0⟩ : ∃ w0, Hid ((W.alloc (.cells (sets c hv ev).toArray 99)).alloc (.cells #[.int .i64 k, .int .i64 n, .int .i64 e, .bool b, tv] 31) = w0) := ⟨_, rfl⟩
  have HBE : Hid (Below W.heap.size W w0) := by rw [← HW0.out]; exact ((Below.refl _ W).alloc (Nat.le_refl _) _).alloc (by simp) _
  have HBX : Hid (w0.heap[W.heap.size]? = some (.cells (sets c hv ev).toArray 99 (0, 0))) := by rw [← HW0.out]; exact blk_alloc (blk_newn rfl) _
  have HBT : Hid (w0.heap[W.heap.size + 1]? = some (.cells #[.int .i64 k, .int .i64 n, .int .i64 e, .bool b, tv] 31 (0, 0))) := by rw [← HW0.out]; exact blk_newn (by simp)
  have HS := Lib.hid (hS.below HBE.out)
  have HK := Lib.hid (hk.below HBE.out)
  have HLE : Hid (W.heap.size ≤ w0.heap.size) := HBE.out.size
  clear hS hk
  have t1 : w0.cell? ⟨W.heap.size + 1, 1, none⟩ = some (.int .i64 n) := cell_of_blk HBT.out 1
  have t2 : w0.cell? ⟨W.heap.size + 1, 2, none⟩ = some (.int .i64 e) := cell_of_blk HBT.out 2
  have t3 : w0.cell? ⟨W.heap.size + 1, 3, none⟩ = some (.bool b) := cell_of_blk HBT.out 3
  have k8 := (sets_cells HBX.out).2.2
  go_enter Tryd.func67, Tryd.ntmps67
  go_upto_region 1 with fail
  rw [HW0.out]
  clear HW0
  go_wp2_with fail
  go_ret2
  exact ⟨rfl, HBE.out⟩
set_option maxRecDepth 100000 in
theorem day2_any (c : Cal) (hv : Value) (l : List When) (ev : Value) (k n e : Int) (b : Bool) (kids : List Term) (tv kv : Value) (ds : List Int) (W : World) (hS : Setting W c hv l ev) (hk : Row W kv 1 (nums ds)) (he : 0 ≤ e) (he1 : e < l.length) :
    Calls Tryd.prog 69 #[.agg (sets c hv ev).toArray, .agg #[.int .i64 k, .int .i64 n, .int .i64 e, .bool b, tv], kv] W fun e' w' => e' = .returned (.tuple #[.int .i64 (evAt l e).day, .bool true]) ∧ Below W.heap.size W w' := by
  obtain ⟨w0, HW0⟩ : ∃ w0, Hid ((W.alloc (.cells (sets c hv ev).toArray 99)).alloc (.cells #[.int .i64 k, .int .i64 n, .int .i64 e, .bool b, tv] 31) = w0) := ⟨_, rfl⟩
  have HBE : Hid (Below W.heap.size W w0) := by rw [← HW0.out]; exact ((Below.refl _ W).alloc (Nat.le_refl _) _).alloc (by simp) _
  have HBX : Hid (w0.heap[W.heap.size]? = some (.cells (sets c hv ev).toArray 99 (0, 0))) := by rw [← HW0.out]; exact blk_alloc (blk_newn rfl) _
  have HBT : Hid (w0.heap[W.heap.size + 1]? = some (.cells #[.int .i64 k, .int .i64 n, .int .i64 e, .bool b, tv] 31 (0, 0))) := by rw [← HW0.out]; exact blk_newn (by simp)
  have HS := Lib.hid (hS.below HBE.out)
  have HK := Lib.hid (hk.below HBE.out)
  have HLE : Hid (W.heap.size ≤ w0.heap.size) := HBE.out.size
  clear hS hk
  have t1 : w0.cell? ⟨W.heap.size + 1, 1, none⟩ = some (.int .i64 n) := cell_of_blk HBT.out 1
  have t2 : w0.cell? ⟨W.heap.size + 1, 2, none⟩ = some (.int .i64 e) := cell_of_blk HBT.out 2
  have t3 : w0.cell? ⟨W.heap.size + 1, 3, none⟩ = some (.bool b) := cell_of_blk HBT.out 3
  have k8 := (sets_cells HBX.out).2.2
  obtain ⟨g, o, cap, rfl, hg, c0, c1, c2⟩ := ev_at HS.out.evs he he1
  obtain ⟨x, hx⟩ : ∃ x : Nat, e = (x : Int) := ⟨e.toNat, by omega⟩
  subst hx
  rw [Int.toNat_natCast] at c0 c1 c2
  have hx1 : x < l.length := by omega
  obtain ⟨ww, HWW⟩ : ∃ ww, Hid (evAt l (x : Int) = ww) := ⟨_, rfl⟩
  rw [HWW.out] at c0 c1 c2
  rw [HWW.out]
  go_enter Tryd.func69, Tryd.ntmps69
  go_upto_region 1 with fail
  rw [HW0.out]
  clear HW0
  go_wp2_with fail
  go_ret2
  exact ⟨rfl, HBE.out⟩
set_option maxRecDepth 100000 in
theorem day3_any (c : Cal) (hv : Value) (l : List When) (ev : Value) (k n e : Int) (b : Bool) (kids : List Term) (tv kv : Value) (ds : List Int) (W : World) (hS : Setting W c hv l ev) (hk : Row W kv 1 (nums ds)) (he : 0 ≤ e) (he1 : e < l.length) (hd : 0 ≤ (evAt l e).day) (hd1 : (evAt l e).day ≤ 73048) :
    Calls Tryd.prog 71 #[.agg (sets c hv ev).toArray, .agg #[.int .i64 k, .int .i64 n, .int .i64 e, .bool b, tv], kv] W fun e' w' => e' = .returned (.tuple #[.int .i64 (if (evAt l e).min ≥ n then (evAt l e).day + 1 else (evAt l e).day), .bool true]) ∧ Below W.heap.size W w' := by
  obtain ⟨w0, HW0⟩ : ∃ w0, Hid ((W.alloc (.cells (sets c hv ev).toArray 99)).alloc (.cells #[.int .i64 k, .int .i64 n, .int .i64 e, .bool b, tv] 31) = w0) := ⟨_, rfl⟩
  have HBE : Hid (Below W.heap.size W w0) := by rw [← HW0.out]; exact ((Below.refl _ W).alloc (Nat.le_refl _) _).alloc (by simp) _
  have HBX : Hid (w0.heap[W.heap.size]? = some (.cells (sets c hv ev).toArray 99 (0, 0))) := by rw [← HW0.out]; exact blk_alloc (blk_newn rfl) _
  have HBT : Hid (w0.heap[W.heap.size + 1]? = some (.cells #[.int .i64 k, .int .i64 n, .int .i64 e, .bool b, tv] 31 (0, 0))) := by rw [← HW0.out]; exact blk_newn (by simp)
  have HS := Lib.hid (hS.below HBE.out)
  have HK := Lib.hid (hk.below HBE.out)
  have HLE : Hid (W.heap.size ≤ w0.heap.size) := HBE.out.size
  clear hS hk
  have t1 : w0.cell? ⟨W.heap.size + 1, 1, none⟩ = some (.int .i64 n) := cell_of_blk HBT.out 1
  have t2 : w0.cell? ⟨W.heap.size + 1, 2, none⟩ = some (.int .i64 e) := cell_of_blk HBT.out 2
  have t3 : w0.cell? ⟨W.heap.size + 1, 3, none⟩ = some (.bool b) := cell_of_blk HBT.out 3
  have k8 := (sets_cells HBX.out).2.2
  obtain ⟨g, o, cap, rfl, hg, c0, c1, c2⟩ := ev_at HS.out.evs he he1
  obtain ⟨x, hx⟩ : ∃ x : Nat, e = (x : Int) := ⟨e.toNat, by omega⟩
  subst hx
  rw [Int.toNat_natCast] at c0 c1 c2
  have hx1 : x < l.length := by omega
  obtain ⟨ww, HWW⟩ : ∃ ww, Hid (evAt l (x : Int) = ww) := ⟨_, rfl⟩
  rw [HWW.out] at c0 c1 c2
  rw [HWW.out] at hd hd1 ⊢
  obtain ⟨kn, dy, mi⟩ := ww
  dsimp only at c0 c1 c2 hd hd1
  clear HK
  obtain ⟨res, HR⟩ : ∃ r, Hid ((if mi ≥ n then dy + 1 else dy) = r) := ⟨_, rfl⟩
  rw [show (if (When.mk kn dy mi).min ≥ n then (When.mk kn dy mi).day + 1 else (When.mk kn dy mi).day) = res from HR.out]
  go_enter Tryd.func71, Tryd.ntmps71
  go_upto_region 1 with fail
  rw [HW0.out]
  clear HW0
  go_upto_region 2 with fail
  obtain ⟨w1, HW1⟩ : ∃ w1, Hid (w0.alloc (.cells #[.bool kn, .int .i64 dy, .int .i64 mi] 67) = w1) := ⟨_, rfl⟩
  have HB1 : Hid (w1.heap[w0.heap.size]? = some (.cells #[.bool kn, .int .i64 dy, .int .i64 mi] 67 (0, 0))) := by rw [← HW1.out]; exact blk_newn rfl
  have HBE1 : Hid (Below W.heap.size W w1) := by rw [← HW1.out]; exact HBE.out.alloc HLE.out _
  have t1 : w1.cell? ⟨W.heap.size + 1, 1, none⟩ = some (.int .i64 n) := by rw [← HW1.out]; exact cell_of_blk (blk_alloc HBT.out _) 1
  rw [HW1.out]
  clear HW1 c0 c1 c2 t2 t3 k8
  have c1 : w1.cell? ⟨w0.heap.size, 1, none⟩ = some (.int .i64 dy) := cell_of_blk HB1.out 1
  have c2 : w1.cell? ⟨w0.heap.size, 2, none⟩ = some (.int .i64 mi) := cell_of_blk HB1.out 2
  by_cases hm : n ≤ mi
  · go_wp2_with fail
    go_ret2
    refine ⟨?_, HBE1.out⟩
    rw [← HR.out, show (if mi ≥ n then dy + 1 else dy) = dy + 1 from if_pos hm]
    rfl
  · go_wp2_with fail
    go_ret2
    refine ⟨?_, HBE1.out⟩
    rw [← HR.out, show (if mi ≥ n then dy + 1 else dy) = dy from if_neg (by omega)]
    rfl
set_option maxRecDepth 100000 in
theorem day4_any (c : Cal) (hv : Value) (l : List When) (ev : Value) (k n e : Int) (b : Bool) (kids : List Term) (tv kv : Value) (ds : List Int) (W : World) (hS : Setting W c hv l ev) (hk : Row W kv 1 (nums ds)) (d : Int) (hds : ds = [d]) (hd : 0 ≤ d) (hd1 : d ≤ 73048) (hn : 0 ≤ n) (hn1 : n ≤ 1000) :
    Calls Tryd.prog 73 #[.agg (sets c hv ev).toArray, .agg #[.int .i64 k, .int .i64 n, .int .i64 e, .bool b, tv], kv] W fun e' w' => e' = .returned (pairv (if b then add c d n else some (d + n))) ∧ Below W.heap.size W w' := by
  subst hds
  obtain ⟨w0, HW0⟩ : ∃ w0, Hid ((W.alloc (.cells (sets c hv ev).toArray 99)).alloc (.cells #[.int .i64 k, .int .i64 n, .int .i64 e, .bool b, tv] 31) = w0) := ⟨_, rfl⟩
  have HBE : Hid (Below W.heap.size W w0) := by rw [← HW0.out]; exact ((Below.refl _ W).alloc (Nat.le_refl _) _).alloc (by simp) _
  have HBX : Hid (w0.heap[W.heap.size]? = some (.cells (sets c hv ev).toArray 99 (0, 0))) := by rw [← HW0.out]; exact blk_alloc (blk_newn rfl) _
  have HBT : Hid (w0.heap[W.heap.size + 1]? = some (.cells #[.int .i64 k, .int .i64 n, .int .i64 e, .bool b, tv] 31 (0, 0))) := by rw [← HW0.out]; exact blk_newn (by simp)
  have HS := Lib.hid (hS.below HBE.out)
  have HK := Lib.hid (hk.below HBE.out)
  have HLE : Hid (W.heap.size ≤ w0.heap.size) := HBE.out.size
  clear hS hk
  have t1 : w0.cell? ⟨W.heap.size + 1, 1, none⟩ = some (.int .i64 n) := cell_of_blk HBT.out 1
  have t2 : w0.cell? ⟨W.heap.size + 1, 2, none⟩ = some (.int .i64 e) := cell_of_blk HBT.out 2
  have t3 : w0.cell? ⟨W.heap.size + 1, 3, none⟩ = some (.bool b) := cell_of_blk HBT.out 3
  have k8 := (sets_cells HBX.out).2.2
  obtain ⟨g, o, cap, rfl, hg, c0⟩ := one_day HK.out
  clear HK
  have HCL : Hid (∀ w, Below w0.heap.size w0 w → Calls Tryd.prog 50 #[.agg (ccs c hv).toArray, .int .i64 d, .int .i64 n] w fun e w' => e = .returned (srchv (add c d n)) ∧ Below w.heap.size w w') := fun w hb => add_any c hv d n w (HS.out.cal.below hb) HS.out.ok hd hd1 hn
  cases b <;> simp only [if_true, Bool.false_eq_true, if_false]
  · clear HCL
    dsimp only [pairv]
    have hwr : IntKind.i64.wrap (d + n) = d + n := IntWalk.i64_in _ (by omega)
    go_enter Tryd.func73, Tryd.ntmps73
    go_upto_region 1 with fail
    rw [HW0.out]
    clear HW0
    go_upto_region 2 with fail
    have HG := Lib.hid hg; have HC0 := Lib.hid c0
    have HBD : Hid (Below w0.heap.size w0 w0.drew) := (⟨rfl, rfl, rfl, Nat.le_refl _, fun k hk => rfl⟩ : Below w0.heap.size w0 w0.drew)
    clear c0 hg t1 t2 t3 k8
    refine Reg.G.start (by kernel_rfl) ?_
    refine' Reg.G.pure (i := 0) (v := _) rfl (by rfl) (by kernel_rfl) (by kernel_rfl) (by kernel_rfl) (fun _ _ _ h => h) ?hyp1 ?rehyp1
    case hyp1 => exact fun w => by first | (go_simp; done) | (go_simp; with_reducible rfl)
    simp only [Act.put, List.setIfInBounds_toArray, List.set_cons_zero, List.set_cons_succ]
    refine' Reg.G.pure (i := 1) (v := _) rfl (by rfl) (by kernel_rfl) (by kernel_rfl) (by kernel_rfl) (fun _ _ _ h => h) ?hyp2 ?rehyp2
    case hyp2 => exact fun w => by first | (go_simp; done) | (go_simp; with_reducible rfl)
    simp only [Act.put, List.setIfInBounds_toArray, List.set_cons_zero, List.set_cons_succ]
    refine' Reg.G.take (i := 2) (v := _) (F := (fun w => Below w0.heap.size w0 w)) rfl (by rfl) (by kernel_rfl) (by kernel_rfl) (by kernel_rfl) (fun _ _ _ h => h) (HBD.out) ?hyp3 ?rehyp3
    case hyp3 => intro w hw; have kc := (World.cell?_of_block (a := ⟨g, o, none⟩) (hw.block g HG.out)).trans HC0.out; clear hw; first | (go_simp; done) | (go_simp; with_reducible rfl)
    simp only [Act.put, List.setIfInBounds_toArray, List.set_cons_zero, List.set_cons_succ]
    refine' Reg.G.pure (i := 3) (v := _) rfl (by rfl) (by kernel_rfl) (by kernel_rfl) (by kernel_rfl) (fun _ _ _ h => h) ?hyp4 ?rehyp4
    case hyp4 => exact fun w => by first | (go_simp; done) | (go_simp; with_reducible rfl)
    simp only [Act.put, List.setIfInBounds_toArray, List.set_cons_zero, List.set_cons_succ]
    refine' Reg.G.take (i := 4) (v := _) (F := (fun w => Below w0.heap.size w0 w)) rfl (by rfl) (by kernel_rfl) (by kernel_rfl) (by kernel_rfl) (fun _ _ _ h => h) (HBD.out) ?hyp5 ?rehyp5
    case hyp5 => intro w hw; have kc := cell_of_blk ((hw.block _ (lt_of_blk HBT.out)).trans HBT.out) 1; clear hw; have kc : w.cell? ⟨W.heap.size + 1, 1, none⟩ = some (.int .i64 n) := kc; first | (go_simp; done) | (go_simp; with_reducible rfl)
    simp only [Act.put, List.setIfInBounds_toArray, List.set_cons_zero, List.set_cons_succ]
    refine' Reg.G.pure (i := 5) (v := _) rfl (by rfl) (by kernel_rfl) (by kernel_rfl) (by kernel_rfl) (fun _ _ _ h => h) ?hyp6 ?rehyp6
    case hyp6 => exact fun w => by first | (go_simp; done) | (go_simp; with_reducible rfl)
    simp only [Act.put, List.setIfInBounds_toArray, List.set_cons_zero, List.set_cons_succ]
    refine' Reg.G.pure (i := 6) (v := _) rfl (by rfl) (by kernel_rfl) (by kernel_rfl) (by kernel_rfl) (fun _ _ _ h => h) ?hyp7 ?rehyp7
    case hyp7 => exact fun w => by first | (go_simp; done) | (go_simp; with_reducible rfl)
    simp only [Act.put, List.setIfInBounds_toArray, List.set_cons_zero, List.set_cons_succ]
    refine' Reg.G.pure (i := 7) (v := _) rfl (by rfl) (by kernel_rfl) (by kernel_rfl) (by kernel_rfl) (fun _ _ _ h => h) ?hyp8 ?rehyp8
    case hyp8 => exact fun w => by first | (go_simp; done) | (go_simp; with_reducible rfl)
    simp only [Act.put, List.setIfInBounds_toArray, List.set_cons_zero, List.set_cons_succ]
    refine Reg.G.done (by kernel_rfl) ?_
    go_wp2_with fail
    go_ret2
    exact ⟨rfl, below_drewN HBE.out 1⟩
  · obtain ⟨r1, r2, hs, hp⟩ := srchv_form (add c d n)
    rw [hs] at HCL
    rw [hp]
    clear hs hp
    go_enter Tryd.func73, Tryd.ntmps73
    go_upto_region 1 with fail
    rw [HW0.out]
    clear HW0
    go_upto_region 3 with fail
    have HG := Lib.hid hg; have HC0 := Lib.hid c0
    have HBD : Hid (Below w0.heap.size w0 w0.drew) := (⟨rfl, rfl, rfl, Nat.le_refl _, fun k hk => rfl⟩ : Below w0.heap.size w0 w0.drew)
    clear c0 hg t1 t2 t3 k8
    refine Reg.G.start (by kernel_rfl) ?_
    refine' Reg.G.pure (i := 0) (v := _) rfl (by rfl) (by kernel_rfl) (by kernel_rfl) (by kernel_rfl) (fun _ _ _ h => h) ?hyq9 ?rehyq9
    case hyq9 => exact fun w => by first | (go_simp; done) | (go_simp; with_reducible rfl)
    simp only [Act.put, List.setIfInBounds_toArray, List.set_cons_zero, List.set_cons_succ]
    refine' Reg.G.take (i := 1) (v := _) (F := (fun w => Below w0.heap.size w0 w)) rfl (by rfl) (by kernel_rfl) (by kernel_rfl) (by kernel_rfl) (fun _ _ _ h => h) (HBD.out) ?hyq10 ?rehyq10
    case hyq10 => intro w hw; have kc := sets_cells ((hw.block _ (lt_of_blk HBX.out)).trans HBX.out); have k0 := kc.1 0 (by omega); have k1 := kc.1 1 (by omega); have k2 := kc.1 2 (by omega); have k3 := kc.1 3 (by omega); have k4 := kc.1 4 (by omega); have k5 := kc.1 5 (by omega); have k6 := kc.1 6 (by omega); have k7 := kc.2.1; clear hw kc; first | (go_simp; done) | (go_simp; with_reducible rfl)
    simp only [Act.put, List.setIfInBounds_toArray, List.set_cons_zero, List.set_cons_succ]
    refine' Reg.G.pure (i := 2) (v := _) rfl (by rfl) (by kernel_rfl) (by kernel_rfl) (by kernel_rfl) (fun _ _ _ h => h) ?hyq11 ?rehyq11
    case hyq11 => exact fun w => by first | (go_simp; done) | (go_simp; with_reducible rfl)
    simp only [Act.put, List.setIfInBounds_toArray, List.set_cons_zero, List.set_cons_succ]
    refine' Reg.G.pure (i := 3) (v := _) rfl (by rfl) (by kernel_rfl) (by kernel_rfl) (by kernel_rfl) (fun _ _ _ h => h) ?hyq12 ?rehyq12
    case hyq12 => exact fun w => by first | (go_simp; done) | (go_simp; with_reducible rfl)
    simp only [Act.put, List.setIfInBounds_toArray, List.set_cons_zero, List.set_cons_succ]
    refine' Reg.G.take (i := 4) (v := _) (F := (fun w => Below w0.heap.size w0 w)) rfl (by rfl) (by kernel_rfl) (by kernel_rfl) (by kernel_rfl) (fun _ _ _ h => h) (HBD.out) ?hyq13 ?rehyq13
    case hyq13 => intro w hw; have kc := (World.cell?_of_block (a := ⟨g, o, none⟩) (hw.block g HG.out)).trans HC0.out; clear hw; first | (go_simp; done) | (go_simp; with_reducible rfl)
    simp only [Act.put, List.setIfInBounds_toArray, List.set_cons_zero, List.set_cons_succ]
    refine' Reg.G.pure (i := 5) (v := _) rfl (by rfl) (by kernel_rfl) (by kernel_rfl) (by kernel_rfl) (fun _ _ _ h => h) ?hyq14 ?rehyq14
    case hyq14 => exact fun w => by first | (go_simp; done) | (go_simp; with_reducible rfl)
    simp only [Act.put, List.setIfInBounds_toArray, List.set_cons_zero, List.set_cons_succ]
    refine' Reg.G.take (i := 6) (v := _) (F := (fun w => Below w0.heap.size w0 w)) rfl (by rfl) (by kernel_rfl) (by kernel_rfl) (by kernel_rfl) (fun _ _ _ h => h) (HBD.out) ?hyq15 ?rehyq15
    case hyq15 => intro w hw; have kc := cell_of_blk ((hw.block _ (lt_of_blk HBT.out)).trans HBT.out) 1; clear hw; have kc : w.cell? ⟨W.heap.size + 1, 1, none⟩ = some (.int .i64 n) := kc; first | (go_simp; done) | (go_simp; with_reducible rfl)
    simp only [Act.put, List.setIfInBounds_toArray, List.set_cons_zero, List.set_cons_succ]
    refine Reg.G.step (j := 7) (m := [false, false, false]) [6, 4, 1] rfl (by kernel_rfl) rfl (by kernel_rfl) (fun K hK => ?_)
    go_simp
    refine (HCL.out _ HBD.out).mono ?_
    rintro e9 w1 ⟨rfl, hb1⟩
    have HB1 : Hid (Below w0.heap.size w0 w1) := (HBD.out).trans (hb1.mono (HBD.out).size)
    clear hb1
    refine hK.out _ _ trivial ?_
    clear hK K
    simp only [Act.put, List.setIfInBounds_toArray, List.set_cons_zero, List.set_cons_succ, Reg.Kept]
    refine' Reg.G.pure (i := 8) (v := _) rfl (by rfl) (by kernel_rfl) (by kernel_rfl) (by kernel_rfl) (fun _ _ _ h => h) ?hyq16 ?rehyq16
    case hyq16 => exact fun w => by first | (go_simp; done) | (go_simp; with_reducible rfl)
    simp only [Act.put, List.setIfInBounds_toArray, List.set_cons_zero, List.set_cons_succ]
    refine' Reg.G.pure (i := 9) (v := _) rfl (by rfl) (by kernel_rfl) (by kernel_rfl) (by kernel_rfl) (fun _ _ _ h => h) ?hyq17 ?rehyq17
    case hyq17 => exact fun w => by first | (go_simp; done) | (go_simp; with_reducible rfl)
    simp only [Act.put, List.setIfInBounds_toArray, List.set_cons_zero, List.set_cons_succ]
    refine' Reg.G.pure (i := 10) (v := _) rfl (by rfl) (by kernel_rfl) (by kernel_rfl) (by kernel_rfl) (fun _ _ _ h => h) ?hyq18 ?rehyq18
    case hyq18 => exact fun w => by first | (go_simp; done) | (go_simp; with_reducible rfl)
    simp only [Act.put, List.setIfInBounds_toArray, List.set_cons_zero, List.set_cons_succ]
    refine' Reg.G.pure (i := 11) (v := _) rfl (by rfl) (by kernel_rfl) (by kernel_rfl) (by kernel_rfl) (fun _ _ _ h => h) ?hyq19 ?rehyq19
    case hyq19 => exact fun w => by first | (go_simp; done) | (go_simp; with_reducible rfl)
    simp only [Act.put, List.setIfInBounds_toArray, List.set_cons_zero, List.set_cons_succ]
    refine' Reg.G.pure (i := 12) (v := _) rfl (by rfl) (by kernel_rfl) (by kernel_rfl) (by kernel_rfl) (fun _ _ _ h => h) ?hyq20 ?rehyq20
    case hyq20 => exact fun w => by first | (go_simp; done) | (go_simp; with_reducible rfl)
    simp only [Act.put, List.setIfInBounds_toArray, List.set_cons_zero, List.set_cons_succ]
    refine Reg.G.done (by kernel_rfl) ?_
    have HBE1 : Hid (Below W.heap.size W w1) := HBE.out.trans (HB1.out.mono HLE.out)
    clear HCL
    go_wp2_with fail
    go_ret2
    exact ⟨rfl, HBE1.out⟩
set_option maxRecDepth 100000 in
theorem day5_any (c : Cal) (hv : Value) (l : List When) (ev : Value) (k n e : Int) (b : Bool) (kids : List Term) (tv kv : Value) (ds : List Int) (W : World) (hS : Setting W c hv l ev) (hk : Row W kv 1 (nums ds)) (d : Int) (hds : ds = [d]) (hd : 0 ≤ d) (hd1 : d ≤ 73048) (hn : 0 ≤ n) (hn1 : n ≤ 120) :
    Calls Tryd.prog 75 #[.agg (sets c hv ev).toArray, .agg #[.int .i64 k, .int .i64 n, .int .i64 e, .bool b, tv], kv] W fun e' w' => e' = .returned (pairv (months d n)) ∧ Below W.heap.size W w' := by
  subst hds
  obtain ⟨w0, HW0⟩ : ∃ w0, Hid ((W.alloc (.cells (sets c hv ev).toArray 99)).alloc (.cells #[.int .i64 k, .int .i64 n, .int .i64 e, .bool b, tv] 31) = w0) := ⟨_, rfl⟩
  have HBE : Hid (Below W.heap.size W w0) := by rw [← HW0.out]; exact ((Below.refl _ W).alloc (Nat.le_refl _) _).alloc (by simp) _
  have HBX : Hid (w0.heap[W.heap.size]? = some (.cells (sets c hv ev).toArray 99 (0, 0))) := by rw [← HW0.out]; exact blk_alloc (blk_newn rfl) _
  have HBT : Hid (w0.heap[W.heap.size + 1]? = some (.cells #[.int .i64 k, .int .i64 n, .int .i64 e, .bool b, tv] 31 (0, 0))) := by rw [← HW0.out]; exact blk_newn (by simp)
  have HS := Lib.hid (hS.below HBE.out)
  have HK := Lib.hid (hk.below HBE.out)
  have HLE : Hid (W.heap.size ≤ w0.heap.size) := HBE.out.size
  clear hS hk
  have t1 : w0.cell? ⟨W.heap.size + 1, 1, none⟩ = some (.int .i64 n) := cell_of_blk HBT.out 1
  have t2 : w0.cell? ⟨W.heap.size + 1, 2, none⟩ = some (.int .i64 e) := cell_of_blk HBT.out 2
  have t3 : w0.cell? ⟨W.heap.size + 1, 3, none⟩ = some (.bool b) := cell_of_blk HBT.out 3
  have k8 := (sets_cells HBX.out).2.2
  obtain ⟨g, o, cap, rfl, hg, c0⟩ := one_day HK.out
  clear HK
  have HCL : Hid (∀ w, Below w0.heap.size w0 w → Calls Tryd.prog 95 #[.int .i64 d, .int .i64 n] w fun e w' => e = .returned (srchv (months d n)) ∧ Below w.heap.size w w') := fun w hb => months_any d n w (HS.out.bf.below hb) hd hd1 hn hn1
  obtain ⟨r1, r2, hs, hp⟩ := srchv_form (months d n)
  rw [hs] at HCL
  rw [hp]
  clear hs hp
  go_enter Tryd.func75, Tryd.ntmps75
  go_upto_region 1 with fail
  rw [HW0.out]
  clear HW0
  have HG := Lib.hid hg; have HC0 := Lib.hid c0
  have HBD : Hid (Below w0.heap.size w0 w0.drew) := (⟨rfl, rfl, rfl, Nat.le_refl _, fun k hk => rfl⟩ : Below w0.heap.size w0 w0.drew)
  clear c0 hg t1 t2 t3 k8
  refine Reg.G.start (by kernel_rfl) ?_
  refine' Reg.G.pure (i := 0) (v := _) rfl (by rfl) (by kernel_rfl) (by kernel_rfl) (by kernel_rfl) (fun _ _ _ h => h) ?hym21 ?rehym21
  case hym21 => exact fun w => by first | (go_simp; done) | (go_simp; with_reducible rfl)
  simp only [Act.put, List.setIfInBounds_toArray, List.set_cons_zero, List.set_cons_succ]
  refine' Reg.G.pure (i := 1) (v := _) rfl (by rfl) (by kernel_rfl) (by kernel_rfl) (by kernel_rfl) (fun _ _ _ h => h) ?hym22 ?rehym22
  case hym22 => exact fun w => by first | (go_simp; done) | (go_simp; with_reducible rfl)
  simp only [Act.put, List.setIfInBounds_toArray, List.set_cons_zero, List.set_cons_succ]
  refine' Reg.G.take (i := 2) (v := _) (F := (fun w => Below w0.heap.size w0 w)) rfl (by rfl) (by kernel_rfl) (by kernel_rfl) (by kernel_rfl) (fun _ _ _ h => h) (HBD.out) ?hym23 ?rehym23
  case hym23 => intro w hw; have kc := (World.cell?_of_block (a := ⟨g, o, none⟩) (hw.block g HG.out)).trans HC0.out; clear hw; first | (go_simp; done) | (go_simp; with_reducible rfl)
  simp only [Act.put, List.setIfInBounds_toArray, List.set_cons_zero, List.set_cons_succ]
  refine' Reg.G.pure (i := 3) (v := _) rfl (by rfl) (by kernel_rfl) (by kernel_rfl) (by kernel_rfl) (fun _ _ _ h => h) ?hym24 ?rehym24
  case hym24 => exact fun w => by first | (go_simp; done) | (go_simp; with_reducible rfl)
  simp only [Act.put, List.setIfInBounds_toArray, List.set_cons_zero, List.set_cons_succ]
  refine' Reg.G.take (i := 4) (v := _) (F := (fun w => Below w0.heap.size w0 w)) rfl (by rfl) (by kernel_rfl) (by kernel_rfl) (by kernel_rfl) (fun _ _ _ h => h) (HBD.out) ?hym25 ?rehym25
  case hym25 => intro w hw; have kc := cell_of_blk ((hw.block _ (lt_of_blk HBT.out)).trans HBT.out) 1; clear hw; have kc : w.cell? ⟨W.heap.size + 1, 1, none⟩ = some (.int .i64 n) := kc; first | (go_simp; done) | (go_simp; with_reducible rfl)
  simp only [Act.put, List.setIfInBounds_toArray, List.set_cons_zero, List.set_cons_succ]
  refine Reg.G.step (j := 5) (m := [false, false]) [4, 2] rfl (by kernel_rfl) rfl (by kernel_rfl) (fun K hK => ?_)
  go_simp
  refine (HCL.out _ HBD.out).mono ?_
  rintro e9 w1 ⟨rfl, hb1⟩
  have HB1 : Hid (Below w0.heap.size w0 w1) := (HBD.out).trans (hb1.mono (HBD.out).size)
  clear hb1
  refine hK.out _ _ trivial ?_
  clear hK K
  simp only [Act.put, List.setIfInBounds_toArray, List.set_cons_zero, List.set_cons_succ, Reg.Kept]
  refine' Reg.G.pure (i := 6) (v := _) rfl (by rfl) (by kernel_rfl) (by kernel_rfl) (by kernel_rfl) (fun _ _ _ h => h) ?hym26 ?rehym26
  case hym26 => exact fun w => by first | (go_simp; done) | (go_simp; with_reducible rfl)
  simp only [Act.put, List.setIfInBounds_toArray, List.set_cons_zero, List.set_cons_succ]
  refine' Reg.G.pure (i := 7) (v := _) rfl (by rfl) (by kernel_rfl) (by kernel_rfl) (by kernel_rfl) (fun _ _ _ h => h) ?hym27 ?rehym27
  case hym27 => exact fun w => by first | (go_simp; done) | (go_simp; with_reducible rfl)
  simp only [Act.put, List.setIfInBounds_toArray, List.set_cons_zero, List.set_cons_succ]
  refine' Reg.G.pure (i := 8) (v := _) rfl (by rfl) (by kernel_rfl) (by kernel_rfl) (by kernel_rfl) (fun _ _ _ h => h) ?hym28 ?rehym28
  case hym28 => exact fun w => by first | (go_simp; done) | (go_simp; with_reducible rfl)
  simp only [Act.put, List.setIfInBounds_toArray, List.set_cons_zero, List.set_cons_succ]
  refine' Reg.G.pure (i := 9) (v := _) rfl (by rfl) (by kernel_rfl) (by kernel_rfl) (by kernel_rfl) (fun _ _ _ h => h) ?hym29 ?rehym29
  case hym29 => exact fun w => by first | (go_simp; done) | (go_simp; with_reducible rfl)
  simp only [Act.put, List.setIfInBounds_toArray, List.set_cons_zero, List.set_cons_succ]
  refine' Reg.G.pure (i := 10) (v := _) rfl (by rfl) (by kernel_rfl) (by kernel_rfl) (by kernel_rfl) (fun _ _ _ h => h) ?hym30 ?rehym30
  case hym30 => exact fun w => by first | (go_simp; done) | (go_simp; with_reducible rfl)
  simp only [Act.put, List.setIfInBounds_toArray, List.set_cons_zero, List.set_cons_succ]
  refine Reg.G.done (by kernel_rfl) ?_
  have HBE1 : Hid (Below W.heap.size W w1) := HBE.out.trans (HB1.out.mono HLE.out)
  clear HCL
  go_wp2_with fail
  go_ret2
  exact ⟨rfl, HBE1.out⟩
set_option maxRecDepth 100000 in
theorem day6_any (c : Cal) (hv : Value) (l : List When) (ev : Value) (k n e : Int) (b : Bool) (kids : List Term) (tv kv : Value) (ds : List Int) (W : World) (hS : Setting W c hv l ev) (hk : Row W kv 1 (nums ds)) (d : Int) (hds : ds = [d]) (hd : 0 ≤ d) (hd1 : d ≤ 73048) :
    Calls Tryd.prog 77 #[.agg (sets c hv ev).toArray, .agg #[.int .i64 k, .int .i64 n, .int .i64 e, .bool b, tv], kv] W fun e' w' => e' = .returned (pairv (add c d 0)) ∧ Below W.heap.size W w' := by
  subst hds
  obtain ⟨w0, HW0⟩ : ∃ w0, Hid ((W.alloc (.cells (sets c hv ev).toArray 99)).alloc (.cells #[.int .i64 k, .int .i64 n, .int .i64 e, .bool b, tv] 31) = w0) := ⟨_, rfl⟩
  have HBE : Hid (Below W.heap.size W w0) := by rw [← HW0.out]; exact ((Below.refl _ W).alloc (Nat.le_refl _) _).alloc (by simp) _
  have HBX : Hid (w0.heap[W.heap.size]? = some (.cells (sets c hv ev).toArray 99 (0, 0))) := by rw [← HW0.out]; exact blk_alloc (blk_newn rfl) _
  have HBT : Hid (w0.heap[W.heap.size + 1]? = some (.cells #[.int .i64 k, .int .i64 n, .int .i64 e, .bool b, tv] 31 (0, 0))) := by rw [← HW0.out]; exact blk_newn (by simp)
  have HS := Lib.hid (hS.below HBE.out)
  have HK := Lib.hid (hk.below HBE.out)
  have HLE : Hid (W.heap.size ≤ w0.heap.size) := HBE.out.size
  clear hS hk
  have t1 : w0.cell? ⟨W.heap.size + 1, 1, none⟩ = some (.int .i64 n) := cell_of_blk HBT.out 1
  have t2 : w0.cell? ⟨W.heap.size + 1, 2, none⟩ = some (.int .i64 e) := cell_of_blk HBT.out 2
  have t3 : w0.cell? ⟨W.heap.size + 1, 3, none⟩ = some (.bool b) := cell_of_blk HBT.out 3
  have k8 := (sets_cells HBX.out).2.2
  obtain ⟨g, o, cap, rfl, hg, c0⟩ := one_day HK.out
  clear HK
  have HCL : Hid (∀ w, Below w0.heap.size w0 w → Calls Tryd.prog 23 #[.agg (ccs c hv).toArray, .int .i64 d] w fun e w' => e = .returned (srchv (add c d 0)) ∧ Below w.heap.size w w') := fun w hb => next_any c hv d w (HS.out.cal.below hb) HS.out.ok hd hd1
  obtain ⟨r1, r2, hs, hp⟩ := srchv_form (add c d 0)
  rw [hs] at HCL
  rw [hp]
  clear hs hp
  go_enter Tryd.func77, Tryd.ntmps77
  go_upto_region 1 with fail
  rw [HW0.out]
  clear HW0
  have HG := Lib.hid hg; have HC0 := Lib.hid c0
  have HBD : Hid (Below w0.heap.size w0 w0.drew) := (⟨rfl, rfl, rfl, Nat.le_refl _, fun k hk => rfl⟩ : Below w0.heap.size w0 w0.drew)
  clear c0 hg t1 t2 t3 k8
  refine Reg.G.start (by kernel_rfl) ?_
  refine' Reg.G.pure (i := 0) (v := _) rfl (by rfl) (by kernel_rfl) (by kernel_rfl) (by kernel_rfl) (fun _ _ _ h => h) ?hyn31 ?rehyn31
  case hyn31 => exact fun w => by first | (go_simp; done) | (go_simp; with_reducible rfl)
  simp only [Act.put, List.setIfInBounds_toArray, List.set_cons_zero, List.set_cons_succ]
  refine' Reg.G.take (i := 1) (v := _) (F := (fun w => Below w0.heap.size w0 w)) rfl (by rfl) (by kernel_rfl) (by kernel_rfl) (by kernel_rfl) (fun _ _ _ h => h) (HBD.out) ?hyn32 ?rehyn32
  case hyn32 => intro w hw; have kc := sets_cells ((hw.block _ (lt_of_blk HBX.out)).trans HBX.out); have k0 := kc.1 0 (by omega); have k1 := kc.1 1 (by omega); have k2 := kc.1 2 (by omega); have k3 := kc.1 3 (by omega); have k4 := kc.1 4 (by omega); have k5 := kc.1 5 (by omega); have k6 := kc.1 6 (by omega); have k7 := kc.2.1; clear hw kc; first | (go_simp; done) | (go_simp; with_reducible rfl)
  simp only [Act.put, List.setIfInBounds_toArray, List.set_cons_zero, List.set_cons_succ]
  refine' Reg.G.pure (i := 2) (v := _) rfl (by rfl) (by kernel_rfl) (by kernel_rfl) (by kernel_rfl) (fun _ _ _ h => h) ?hyn33 ?rehyn33
  case hyn33 => exact fun w => by first | (go_simp; done) | (go_simp; with_reducible rfl)
  simp only [Act.put, List.setIfInBounds_toArray, List.set_cons_zero, List.set_cons_succ]
  refine' Reg.G.pure (i := 3) (v := _) rfl (by rfl) (by kernel_rfl) (by kernel_rfl) (by kernel_rfl) (fun _ _ _ h => h) ?hyn34 ?rehyn34
  case hyn34 => exact fun w => by first | (go_simp; done) | (go_simp; with_reducible rfl)
  simp only [Act.put, List.setIfInBounds_toArray, List.set_cons_zero, List.set_cons_succ]
  refine' Reg.G.take (i := 4) (v := _) (F := (fun w => Below w0.heap.size w0 w)) rfl (by rfl) (by kernel_rfl) (by kernel_rfl) (by kernel_rfl) (fun _ _ _ h => h) (HBD.out) ?hyn35 ?rehyn35
  case hyn35 => intro w hw; have kc := (World.cell?_of_block (a := ⟨g, o, none⟩) (hw.block g HG.out)).trans HC0.out; clear hw; first | (go_simp; done) | (go_simp; with_reducible rfl)
  simp only [Act.put, List.setIfInBounds_toArray, List.set_cons_zero, List.set_cons_succ]
  refine Reg.G.step (j := 5) (m := [false, false]) [4, 1] rfl (by kernel_rfl) rfl (by kernel_rfl) (fun K hK => ?_)
  go_simp
  refine (HCL.out _ HBD.out).mono ?_
  rintro e9 w1 ⟨rfl, hb1⟩
  have HB1 : Hid (Below w0.heap.size w0 w1) := (HBD.out).trans (hb1.mono (HBD.out).size)
  clear hb1
  refine hK.out _ _ trivial ?_
  clear hK K
  simp only [Act.put, List.setIfInBounds_toArray, List.set_cons_zero, List.set_cons_succ, Reg.Kept]
  refine' Reg.G.pure (i := 6) (v := _) rfl (by rfl) (by kernel_rfl) (by kernel_rfl) (by kernel_rfl) (fun _ _ _ h => h) ?hyn36 ?rehyn36
  case hyn36 => exact fun w => by first | (go_simp; done) | (go_simp; with_reducible rfl)
  simp only [Act.put, List.setIfInBounds_toArray, List.set_cons_zero, List.set_cons_succ]
  refine' Reg.G.pure (i := 7) (v := _) rfl (by rfl) (by kernel_rfl) (by kernel_rfl) (by kernel_rfl) (fun _ _ _ h => h) ?hyn37 ?rehyn37
  case hyn37 => exact fun w => by first | (go_simp; done) | (go_simp; with_reducible rfl)
  simp only [Act.put, List.setIfInBounds_toArray, List.set_cons_zero, List.set_cons_succ]
  refine' Reg.G.pure (i := 8) (v := _) rfl (by rfl) (by kernel_rfl) (by kernel_rfl) (by kernel_rfl) (fun _ _ _ h => h) ?hyn38 ?rehyn38
  case hyn38 => exact fun w => by first | (go_simp; done) | (go_simp; with_reducible rfl)
  simp only [Act.put, List.setIfInBounds_toArray, List.set_cons_zero, List.set_cons_succ]
  refine' Reg.G.pure (i := 9) (v := _) rfl (by rfl) (by kernel_rfl) (by kernel_rfl) (by kernel_rfl) (fun _ _ _ h => h) ?hyn39 ?rehyn39
  case hyn39 => exact fun w => by first | (go_simp; done) | (go_simp; with_reducible rfl)
  simp only [Act.put, List.setIfInBounds_toArray, List.set_cons_zero, List.set_cons_succ]
  refine' Reg.G.pure (i := 10) (v := _) rfl (by rfl) (by kernel_rfl) (by kernel_rfl) (by kernel_rfl) (fun _ _ _ h => h) ?hyn40 ?rehyn40
  case hyn40 => exact fun w => by first | (go_simp; done) | (go_simp; with_reducible rfl)
  simp only [Act.put, List.setIfInBounds_toArray, List.set_cons_zero, List.set_cons_succ]
  refine Reg.G.done (by kernel_rfl) ?_
  have HBE1 : Hid (Below W.heap.size W w1) := HBE.out.trans (HB1.out.mono HLE.out)
  clear HCL
  go_wp2_with fail
  go_ret2
  exact ⟨rfl, HBE1.out⟩
set_option maxRecDepth 100000 in
theorem day7_any (c : Cal) (hv : Value) (l : List When) (ev : Value) (k n e : Int) (b : Bool) (kids : List Term) (tv kv : Value) (ds : List Int) (W : World) (hS : Setting W c hv l ev) (hk : Row W kv 1 (nums ds)) (hne : ds ≠ []) (hlen : ds.length ≤ 1000) :
    Calls Tryd.prog 79 #[.agg (sets c hv ev).toArray, .agg #[.int .i64 k, .int .i64 n, .int .i64 e, .bool b, tv], kv] W fun e' w' => e' = .returned (.tuple #[.int .i64 (least1 ds), .bool true]) ∧ Below W.heap.size W w' := by
  obtain ⟨w0, HW0⟩ : ∃ w0, Hid ((W.alloc (.cells (sets c hv ev).toArray 99)).alloc (.cells #[.int .i64 k, .int .i64 n, .int .i64 e, .bool b, tv] 31) = w0) := ⟨_, rfl⟩
  have HBE : Hid (Below W.heap.size W w0) := by rw [← HW0.out]; exact ((Below.refl _ W).alloc (Nat.le_refl _) _).alloc (by simp) _
  have HBX : Hid (w0.heap[W.heap.size]? = some (.cells (sets c hv ev).toArray 99 (0, 0))) := by rw [← HW0.out]; exact blk_alloc (blk_newn rfl) _
  have HBT : Hid (w0.heap[W.heap.size + 1]? = some (.cells #[.int .i64 k, .int .i64 n, .int .i64 e, .bool b, tv] 31 (0, 0))) := by rw [← HW0.out]; exact blk_newn (by simp)
  have HS := Lib.hid (hS.below HBE.out)
  have HK := Lib.hid (hk.below HBE.out)
  have HLE : Hid (W.heap.size ≤ w0.heap.size) := HBE.out.size
  clear hS hk
  have t1 : w0.cell? ⟨W.heap.size + 1, 1, none⟩ = some (.int .i64 n) := cell_of_blk HBT.out 1
  have t2 : w0.cell? ⟨W.heap.size + 1, 2, none⟩ = some (.int .i64 e) := cell_of_blk HBT.out 2
  have t3 : w0.cell? ⟨W.heap.size + 1, 3, none⟩ = some (.bool b) := cell_of_blk HBT.out 3
  have k8 := (sets_cells HBX.out).2.2
  obtain ⟨g, o, cap, rfl, hg, hc⟩ := days_at HK.out hne
  have HCL := Lib.hid (Tryd.slices_Min_int g o ds.length cap ds w0 (List.length_pos_iff.2 hne) (Nat.le_refl _) (by omega) hc)
  have hmm : Lib.minOf ds = least1 ds := by
    cases ds with
    | nil => exact absurd rfl hne
    | cons a r => show r.foldl min (min a a) = r.foldl min a; rw [Int.min_self]
  rw [List.take_length, hmm] at HCL
  clear hc HK hmm
  go_enter Tryd.func79, Tryd.ntmps79
  go_upto_region 1 with fail
  rw [HW0.out]
  clear HW0
  go_wp2_with fail
  refine HCL.out.mono ?_
  rintro e9 w1 ⟨rfl, hw1⟩
  subst hw1
  go_wp2_with fail
  go_ret2
  exact ⟨rfl, HBE.out⟩
set_option maxRecDepth 100000 in
theorem day8_any (c : Cal) (hv : Value) (l : List When) (ev : Value) (k n e : Int) (b : Bool) (kids : List Term) (tv kv : Value) (ds : List Int) (W : World) (hS : Setting W c hv l ev) (hk : Row W kv 1 (nums ds)) (hne : ds ≠ []) (hlen : ds.length ≤ 1000) :
    Calls Tryd.prog 81 #[.agg (sets c hv ev).toArray, .agg #[.int .i64 k, .int .i64 n, .int .i64 e, .bool b, tv], kv] W fun e' w' => e' = .returned (.tuple #[.int .i64 (most1 ds), .bool true]) ∧ Below W.heap.size W w' := by
  obtain ⟨w0, HW0⟩ : ∃ w0, Hid ((W.alloc (.cells (sets c hv ev).toArray 99)).alloc (.cells #[.int .i64 k, .int .i64 n, .int .i64 e, .bool b, tv] 31) = w0) := ⟨_, rfl⟩
  have HBE : Hid (Below W.heap.size W w0) := by rw [← HW0.out]; exact ((Below.refl _ W).alloc (Nat.le_refl _) _).alloc (by simp) _
  have HBX : Hid (w0.heap[W.heap.size]? = some (.cells (sets c hv ev).toArray 99 (0, 0))) := by rw [← HW0.out]; exact blk_alloc (blk_newn rfl) _
  have HBT : Hid (w0.heap[W.heap.size + 1]? = some (.cells #[.int .i64 k, .int .i64 n, .int .i64 e, .bool b, tv] 31 (0, 0))) := by rw [← HW0.out]; exact blk_newn (by simp)
  have HS := Lib.hid (hS.below HBE.out)
  have HK := Lib.hid (hk.below HBE.out)
  have HLE : Hid (W.heap.size ≤ w0.heap.size) := HBE.out.size
  clear hS hk
  have t1 : w0.cell? ⟨W.heap.size + 1, 1, none⟩ = some (.int .i64 n) := cell_of_blk HBT.out 1
  have t2 : w0.cell? ⟨W.heap.size + 1, 2, none⟩ = some (.int .i64 e) := cell_of_blk HBT.out 2
  have t3 : w0.cell? ⟨W.heap.size + 1, 3, none⟩ = some (.bool b) := cell_of_blk HBT.out 3
  have k8 := (sets_cells HBX.out).2.2
  obtain ⟨g, o, cap, rfl, hg, hc⟩ := days_at HK.out hne
  have HCL := Lib.hid (Tryd.slices_Max_int g o ds.length cap ds w0 (List.length_pos_iff.2 hne) (Nat.le_refl _) (by omega) hc)
  have hmm : Lib.maxOf ds = most1 ds := by
    cases ds with
    | nil => exact absurd rfl hne
    | cons a r => show r.foldl max (max a a) = r.foldl max a; rw [Int.max_self]
  rw [List.take_length, hmm] at HCL
  clear hc HK hmm
  go_enter Tryd.func81, Tryd.ntmps81
  go_upto_region 1 with fail
  rw [HW0.out]
  clear HW0
  go_wp2_with fail
  refine HCL.out.mono ?_
  rintro e9 w1 ⟨rfl, hw1⟩
  subst hw1
  go_wp2_with fail
  go_ret2
  exact ⟨rfl, HBE.out⟩
end Go.Proofs.YticlmkfifpkdpaaDoor.Dl
