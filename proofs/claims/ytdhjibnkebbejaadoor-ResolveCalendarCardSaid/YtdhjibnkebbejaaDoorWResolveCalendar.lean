/-
  The walk of the statement ResolveCalendar: it returns true for every source and day number.
-/
import Derived.Test.YtdhjibnkebbejaaDoorResLawW
import Derived.Test.YtdhjibnkebbejaaDoorResLawC
import Derived.Test.YtdhjibnkebbejaaDoorResCivil
namespace Go.Proofs.YtdhjibnkebbejaaDoor
open Go.RowKit Mem Vw Rs
set_option linter.unusedVariables false
set_option linter.unusedSimpArgs false

def ceq (a b : Rs.Civil) : Bool := a.y == b.y && a.m == b.m && a.d == b.d
theorem ceq_iff (a b : Rs.Civil) : ceq a b = true ↔ a = b := by
  obtain ⟨a1, a2, a3⟩ := a
  obtain ⟨b1, b2, b3⟩ := b
  simp [ceq, and_assoc]
theorem eq_civil (a b : Rs.Civil) (w : World) : (binOp .eql 23 (.agg #[.int .i64 a.y, .int .i64 a.m, .int .i64 a.d]) (.agg #[.int .i64 b.y, .int .i64 b.m, .int .i64 b.d])).run Tryd.prog w = .ok (.bool (ceq a b)) w := by
  obtain ⟨a1, a2, a3⟩ := a
  obtain ⟨b1, b2, b3⟩ := b
  unfold ceq
  dsimp only
  by_cases h1 : a1 = b1
  · by_cases h2 : a2 = b2
    · by_cases h3 : a3 = b3
      · subst h1 h2 h3; go_simp
      · subst h1 h2; have e : (a3 == b3) = false := by simpa using h3
        go_simp
    · subst h1; have e : (a2 == b2) = false := by simpa using h2
      go_simp
  · have e : (a1 == b1) = false := by simpa using h1
    go_simp
theorem eq_week (a : List Bool) (h : a.length = 7) (w : World) : (binOp .eql 29 (.agg (bools a)) (.agg (bools a))).run Tryd.prog w = .ok (.bool true) w := by
  obtain ⟨a0, a1, a2, a3, a4, a5, a6, rfl⟩ := seven h
  cases a0 <;> cases a1 <;> cases a2 <;> cases a3 <;> cases a4 <;> cases a5 <;> cases a6 <;> kernel_rfl
theorem eq_days (a b c d e f g : Bool) (W : World) : (binOp .eql 29 (.agg #[.bool a, .bool b, .bool c, .bool d, .bool e, .bool f, .bool g]) (.agg #[.bool a, .bool b, .bool c, .bool d, .bool e, .bool f, .bool g])).run Tryd.prog W = .ok (.bool true) W := by
  cases a <;> cases b <;> cases c <;> cases d <;> cases e <;> cases f <;> cases g <;> kernel_rfl
/-- Has an item the date? -/
def saidX (c : Rs.Civil) (x : Rs.Item) : Bool := decide (x.kind = 5) && x.dates.any (fun d => ceq d c)
theorem said_iff {l : List Rs.Item} {c : Rs.Civil} {d : Int} (hc : number c = some d) (h : (Rs.run l).2 = []) : (l.any (saidX c)) = (dsort (Rs.run l).1.hol).any (fun a => a == d) := by
  obtain ⟨_, h2, _⟩ := run_cal l h
  have hp : (dsort (Rs.run l).1.hol).Perm (Rs.run l).1.hol := List.mergeSort_perm _ _
  rw [Bool.eq_iff_iff, List.any_eq_true, List.any_eq_true]
  constructor
  · rintro ⟨x, hx, hs⟩
    unfold saidX at hs
    rw [Bool.and_eq_true, decide_eq_true_eq, List.any_eq_true] at hs
    obtain ⟨h5, e, he, hce⟩ := hs
    rw [ceq_iff] at hce
    subst hce
    exact ⟨d, hp.mem_iff.2 ((h2 d).2 ⟨x, hx, h5, e, he, hc⟩), by simp⟩
  · rintro ⟨a, ha, hd⟩
    obtain rfl : a = d := by simpa using hd
    obtain ⟨x, hx, h5, e, he, hn⟩ := (h2 a).1 (hp.mem_iff.1 ha)
    refine ⟨x, hx, ?_⟩
    unfold saidX
    rw [Bool.and_eq_true, decide_eq_true_eq, List.any_eq_true]
    exact ⟨h5, e, he, (ceq_iff _ _).2 (number_inj hn hc)⟩
theorem dsort_lt {l : List Int} (h : l.Nodup) : ∀ (j : Nat) (x y : Int), (dsort l)[j]? = some x → (dsort l)[j + 1]? = some y → x < y := by
  intro j x y hx hy
  have hp := dsort_pair l
  have hn : (dsort l).Nodup := (List.mergeSort_perm _ _).nodup_iff.2 h
  obtain ⟨hj, rfl⟩ := List.getElem?_eq_some_iff.1 hx
  obtain ⟨hj1, rfl⟩ := List.getElem?_eq_some_iff.1 hy
  have h1 := List.pairwise_iff_getElem.1 hp j (j + 1) hj hj1 (by omega)
  have h2 : (dsort l)[j] ≠ (dsort l)[j + 1] := List.pairwise_iff_getElem.1 hn j (j + 1) hj hj1 (by omega)
  omega
theorem fold_or_len (l : List Rs.Item) (h : ∀ x ∈ l, x.days.length = 7) : ∀ w : List Bool, w.length = 7 → (l.foldl orI w).length = 7 := by
  induction l with
  | nil => intro w hw; exact hw
  | cons x l ih =>
    intro w hw
    rw [List.foldl_cons]
    refine ih (fun y hy => h y (by simp [hy])) _ ?_
    unfold orI
    split
    · unfold orDays; rw [List.length_zipWith, hw, h x (by simp)]; rfl
    · exact hw
/-- The date, the weekend that is said, in memory. -/
structure CSt (cb wb : Nat) (c : Rs.Civil) (u : World) (wk : List Bool) (wr : World) : Prop where
  wkb : wr.heap[wb]? = some (.cells (bools wk) 29 (0, 0))
  cbk : wr.heap[cb]? = some (.cells #[.int .i64 c.y, .int .i64 c.m, .int .i64 c.d] 23 (0, 0))
  fr : Fr (fun k => k = wb) u wr
theorem CSt.keep {cb wb : Nat} {c : Rs.Civil} {u wr w : World} {wk : List Bool} (h : CSt cb wb c u wk wr) (hf : Fr (fun _ => False) wr w) : CSt cb wb c u wk w :=
  ⟨hf.blk h.wkb (fun h => h), hf.blk h.cbk (fun h => h), h.fr.trans' hf (fun _ _ h => h.elim)⟩
theorem CSt.set {cb wb : Nat} {c : Rs.Civil} {u wr : World} {wk : List Bool} (h : CSt cb wb c u wk wr) (hne : cb ≠ wb) (k : Nat) (b : Bool) : CSt cb wb c u (wk.set k b) (wr.setCell ⟨wb, k, none⟩ (.bool b)) :=
  ⟨by rw [← bools_set]; exact blk_set h.wkb k _, blk_farq h.cbk hne _, h.fr.setCell (p := ⟨wb, k, none⟩) (.inl rfl) _⟩
theorem bools_cell (l : List Bool) {t : Nat} (h : t < l.length) : (bools l)[t]? = some (.bool (l.getD t false)) := by
  simp [bools, List.getD, List.getElem?_eq_getElem h]
def CR (cb wb : Nat) (c : Rs.Civil) (l : List Rs.Item) (u : World) (sv iv : Value) (wr : World) : Prop := ∃ k : Nat, iv = .int .i64 (k : Int) ∧ k ≤ l.length ∧ sv = .bool ((l.take k).any (saidX c)) ∧ Hid (CSt cb wb c u ((l.take k).foldl orI sy0.weekend) wr)
def DR (c : Rs.Civil) (x : Rs.Item) (b0 : Bool) (u : World) (sv iv : Value) (wr : World) : Prop := ∃ j m : Nat, iv = .int .i64 (j : Int) ∧ j ≤ x.dates.length ∧ sv = .bool (b0 || (decide (x.kind = 5) && (x.dates.take j).any (fun d => ceq d c))) ∧ wr = u.drewN m
def WR (cb wb : Nat) (c : Rs.Civil) (x : Rs.Item) (wk : List Bool) (u u2 : World) (iv : Value) (wr : World) : Prop := ∃ j : Nat, iv = .int .i64 (j : Int) ∧ j ≤ 7 ∧ Hid (CSt cb wb c u (if x.kind = 4 then orK j wk x.days else wk) wr) ∧ Hid (Fr (fun k => k = wb) u2 wr)
def HR (d : Int) (l : List Int) (u : World) (sv iv : Value) (wr : World) : Prop := ∃ j m : Nat, iv = .int .i64 (j : Int) ∧ j ≤ l.length ∧ sv = .bool ((l.take j).any (fun a => a == d)) ∧ wr = u.drewN m
set_option maxRecDepth 100000 in
set_option maxHeartbeats 8000000 in
theorem walk_ResolveCalendar (s : Rs.Source) (si : Value) (hs : SourceOk s) (a1 : Int) (w1 : (Lit.int .u32 a1).wf = true) (W : World) (hbf : Bf W) (hi : Items W s.items si) :
    Calls Tryd.prog 9 #[.agg (scells s.name s.frm s.days si).toArray, .int .u32 a1] W fun e w' => e = .returned (.bool true) ∧ Below W.heap.size W w' := by
  have hra : 0 ≤ a1 ∧ a1 ≤ 4294967295 := by
    have h2 : (decide (IntKind.u32.min ≤ a1) && decide (a1 ≤ IntKind.u32.max)) = true := w1
    rw [Bool.and_eq_true, decide_eq_true_eq, decide_eq_true_eq] at h2
    exact h2
  obtain ⟨hra0, hra1⟩ := hra
  clear w1
  obtain ⟨z, hzs, hz⟩ := hi
  obtain ⟨Ai, ci, hv, hc1, hc2⟩ := hz.row.slice
  rw [List.length_map] at hv hc1
  subst hv
  have HZ := Lib.hid hz; have HZS := Lib.hid hzs; have HOK := Lib.hid hs; have HBF := Lib.hid hbf
  have hln : z.length ≤ maxLen := by have h := hs.len; rw [← hzs, List.length_map] at h; exact h
  have HLN := Lib.hid hln
  have HLZ : Hid (z.length = s.items.length) := by show _ = _; rw [← hzs, List.length_map]
  clear hz hzs hs hbf hc1 hc2 hln
  obtain ⟨w0, HW0⟩ : ∃ w0, Hid (W.alloc (.cells (scells s.name s.frm s.days (.slice Ai z.length ci)).toArray 26) = w0) := ⟨_, rfl⟩
  have HSB0 : Hid (w0.heap[W.heap.size]? = some (.cells (scells s.name s.frm s.days (.slice Ai z.length ci)).toArray 26 (0, 0))) := by rw [← HW0.out]; exact blk_newn rfl
  have HBA0 : Hid (Below W.heap.size W w0) := by rw [← HW0.out]; exact (Below.refl _ W).alloc (Nat.le_refl _) _
  have HHD := Lib.hid (head_any w0 (HBF.out.below HBA0.out))
  go_enter Tryd.func9, Tryd.ntmps9
  go_upto_region 1 with fail
  rw [HW0.out]
  go_wp2_with fail
  refine HHD.out.mono ?_
  rintro e w1 ⟨rfl, hb1⟩
  have HSB1 := Lib.hid ((hb1.block _ (lt_of_blk HSB0.out)).trans HSB0.out)
  have HBA1 : Hid (Below W.heap.size W w1) := HBA0.out.trans (hb1.mono HBA0.out.size)
  clear hb1 HHD HSB0 HBA0 HW0
  have s0 : w1.cell? ⟨W.heap.size, 0, none⟩ = some (.string ⟨s.name.toArray⟩) := (cell_of_blk HSB1.out 0).trans rfl
  have s1 : w1.cell? ⟨W.heap.size, 1, none⟩ = some (.int .i64 s.frm.y) := (cell_of_blk HSB1.out 1).trans rfl
  have s2 : w1.cell? ⟨W.heap.size, 2, none⟩ = some (.int .i64 s.frm.m) := (cell_of_blk HSB1.out 2).trans rfl
  have s3 : w1.cell? ⟨W.heap.size, 3, none⟩ = some (.int .i64 s.frm.d) := (cell_of_blk HSB1.out 3).trans rfl
  have s4 : w1.cell? ⟨W.heap.size, 4, none⟩ = some (.int .i64 s.days) := (cell_of_blk HSB1.out 4).trans rfl
  have s5 : w1.cell? ⟨W.heap.size, 5, none⟩ = some (.slice Ai z.length ci) := (cell_of_blk HSB1.out 5).trans rfl
  have HSM := Lib.hid (small_any s _ z w1 (HZ.out.below HBA1.out) HZS.out HLN.out)
  go_wp2_with fail
  refine HSM.out.mono ?_
  rintro e w2 ⟨b, rfl, hsm, hb2⟩
  have HSB2 := Lib.hid ((hb2.block _ (lt_of_blk HSB1.out)).trans HSB1.out)
  have HBA2 : Hid (Below W.heap.size W w2) := HBA1.out.trans (hb2.mono HBA1.out.size)
  have HSMA := Lib.hid hsm
  clear hb2 HSM HSB1 HBA1 s0 s1 s2 s3 s4 s5 hsm
  cases b
  · clear HSMA
    go_wp2_with fail
    go_ret
    exact ⟨rfl, HBA2.out⟩
  obtain ⟨h700, hall⟩ := HSMA.out rfl
  have H7 := Lib.hid h700; have HALL := Lib.hid hall
  have HWS2 : Hid (W.heap.size < w2.heap.size) := lt_of_blk HSB2.out
  clear HSMA h700 hall
  have s0 : w2.cell? ⟨W.heap.size, 0, none⟩ = some (.string ⟨s.name.toArray⟩) := (cell_of_blk HSB2.out 0).trans rfl
  have s1 : w2.cell? ⟨W.heap.size, 1, none⟩ = some (.int .i64 s.frm.y) := (cell_of_blk HSB2.out 1).trans rfl
  have s2 : w2.cell? ⟨W.heap.size, 2, none⟩ = some (.int .i64 s.frm.m) := (cell_of_blk HSB2.out 2).trans rfl
  have s3 : w2.cell? ⟨W.heap.size, 3, none⟩ = some (.int .i64 s.frm.d) := (cell_of_blk HSB2.out 3).trans rfl
  have s4 : w2.cell? ⟨W.heap.size, 4, none⟩ = some (.int .i64 s.days) := (cell_of_blk HSB2.out 4).trans rfl
  have s5 : w2.cell? ⟨W.heap.size, 5, none⟩ = some (.slice Ai z.length ci) := (cell_of_blk HSB2.out 5).trans rfl
  have HREA := Lib.hid (resolve_any s _ z w2 (HZ.out.below HBA2.out) HZS.out (by have := H7.out; omega) (fun y hy => ⟨HOK.out.items y hy, by have := (HALL.out y hy).conds; omega⟩) (HBF.out.below HBA2.out))
  go_wp2_with fail
  refine HREA.out.mono ?_
  rintro e rA ⟨vA, rfl, hro, hbr⟩
  obtain ⟨AA, hA⟩ : ∃ A, answer s = A := ⟨_, rfl⟩
  rw [ResOut, hA] at hro
  obtain ⟨saA, yaA, faA⟩ := AA
  obtain ⟨HaA, clA, fvA, rfl, hsy, hft, _⟩ := hro
  dsimp only at hsy hft
  have HONEA : Hid ((symc saA yaA.weekend HaA).toArray.all (·.oneCell') = true) := one_symc saA yaA.weekend HaA hsy.hol.form hsy.par.form hsy.rol.form hsy.uni.form hsy.act.form hsy.cla.form
  obtain ⟨AfA, cfA, hfe, _, _⟩ := hft.slice
  rw [List.length_map] at hfe
  subst hfe
  have HSYA := Lib.hid hsy; have HAA := Lib.hid hA; have HFTA := Lib.hid hft; have HBRA := Lib.hid hbr
  clear hsy hft hA hbr s0 s1 s2 s3 s4 s5 HREA
  dsimp only
  iterate 13 go_step
  refine wpList_store_row rfl 39 _ _ rfl rA.heap.size (symc saA yaA.weekend HaA).toArray rfl rfl 39 _ (blk_newn rfl) (info_symc _ _ _) rfl HONEA.out ?_
  simp only [Act.put, List.setIfInBounds_toArray, List.set_cons_zero, List.set_cons_succ]
  rw [World.setRow_alloc_new]
  obtain ⟨uA, hu⟩ : ∃ u, rA.alloc (.cells (symc saA yaA.weekend HaA).toArray 39) = u := ⟨_, rfl⟩
  rw [hu]
  have HQA : Hid (uA.heap[rA.heap.size]? = some (.cells (symc saA yaA.weekend HaA).toArray 39 (0, 0))) := by rw [← hu]; exact blk_newn rfl
  have HBUA : Hid (Below rA.heap.size rA uA) := by rw [← hu]; exact (Below.refl _ rA).alloc (Nat.le_refl _) _
  have HSUA : Hid (uA.heap.size = rA.heap.size + 1) := by show _ = _; rw [← hu]; simp
  clear hu HONEA
  have HBAA : Hid (Below W.heap.size W rA) := HBA2.out.trans (HBRA.out.mono HBA2.out.size)
  have HSBA := Lib.hid ((HBRA.out.block _ (lt_of_blk HSB2.out)).trans HSB2.out)
  have HSUB := Lib.hid ((HBUA.out.block _ (lt_of_blk HSBA.out)).trans HSBA.out)
  have HBUW : Hid (Below W.heap.size W uA) := HBAA.out.trans (HBUA.out.mono HBAA.out.size)
  have HWT : Hid (W.heap.size < rA.heap.size) := lt_of_blk HSBA.out
  clear HSB2 HBA2 HBRA
  rcases faA with _ | ⟨fa0, fal⟩
  case cons =>
    simp only [List.length_cons]
    go_wp2_with fail
    go_ret
    exact ⟨rfl, HBUW.out⟩
  simp only [List.length_nil]
  obtain ⟨f1, f2, f3⟩ := answer_fine HAA.out
  have HF1 := Lib.hid f1; have HF3 := Lib.hid f3
  clear f1 f2 f3
  obtain ⟨day, hday⟩ : ∃ day, a1.tmod 73049 = day := ⟨_, rfl⟩
  have hd01 : 0 ≤ day ∧ day ≤ 73048 := by
    rw [← hday, Int.tmod_eq_emod_of_nonneg hra0]; omega
  have hd0 := hd01.1
  have hd1 := hd01.2
  have HCV := Lib.hid (Civil_any day uA hd0 hd1 (HBF.out.below HBUW.out))
  go_wp2_with fail
  refine HCV.out.mono ?_
  rintro e w5 ⟨c, rfl, hcn, hb5⟩
  have HCN := Lib.hid hcn
  have HB5 : Hid (Below uA.heap.size uA w5) := hb5
  clear hcn hb5 hday hra0 hra1 hd01 HCV
  go_upto_region 11 with fail
  obtain ⟨u, hu⟩ : ∃ u, (w5.alloc (.cells #[.int .i64 c.y, .int .i64 c.m, .int .i64 c.d] 23)).alloc (.cells #[.bool false, .bool false, .bool false, .bool false, .bool false, .bool false, .bool false] 29) = u := ⟨_, rfl⟩
  rw [hu]
  have HCB5 : Hid (u.heap[w5.heap.size]? = some (.cells #[.int .i64 c.y, .int .i64 c.m, .int .i64 c.d] 23 (0, 0))) := by rw [← hu]; exact blk_alloc (blk_newn rfl) _
  have HWB5 : Hid (u.heap[w5.heap.size + 1]? = some (.cells (bools sy0.weekend) 29 (0, 0))) := by rw [← hu]; exact blk_newn (by simp)
  have HB5u : Hid (Below w5.heap.size w5 u) := by rw [← hu]; exact ((Below.refl _ w5).alloc (Nat.le_refl _) _).alloc (by simp) _
  have HBUu : Hid (Below uA.heap.size uA u) := HB5.out.trans (HB5u.out.mono HB5.out.size)
  have HBRu : Hid (Below rA.heap.size rA u) := HBUA.out.trans (HBUu.out.mono HBUA.out.size)
  have HBWu : Hid (Below W.heap.size W u) := HBAA.out.trans (HBRu.out.mono HBAA.out.size)
  have HSBu := Lib.hid ((HBUu.out.block _ (lt_of_blk HSUB.out)).trans HSUB.out)
  have HQu := Lib.hid ((HBUu.out.block _ (lt_of_blk HQA.out)).trans HQA.out)
  have HS5 : Hid (rA.heap.size < w5.heap.size) := by have h1 := HSUA.out; have h2 := HB5.out.size; show _ < _; omega
  have HC0 : Hid (CSt w5.heap.size (w5.heap.size + 1) c u sy0.weekend u) := ⟨HWB5.out, HCB5.out, Fr.refl _ u⟩
  clear hu HCB5 HWB5 HB5u HSUB HQA
  go_wp2_with fail
  go_loopw [11, 13] (fun sv iv wr => CR w5.heap.size (w5.heap.size + 1) c s.items u sv iv wr) (fun _ i _ => z.length - (intOf i).toNat)
  case atStart => exact ⟨0, rfl, Nat.zero_le _, rfl, HC0⟩
  case round =>
    obtain ⟨k, rfl, hk, rfl, HCS⟩ := hrel
    clear HC0
    generalize hb0 : (s.items.take k).any (saidX c) = b0
    obtain ⟨wk, hwk⟩ : ∃ wk, (s.items.take k).foldl orI sy0.weekend = wk := ⟨_, rfl⟩
    rw [hwk] at HCS
    have HB0 := Lib.hid hb0; have HWK := Lib.hid hwk
    clear hb0 hwk
    have hz7 : z.length ≤ 700 := H7.out
    have hkz : k ≤ z.length := by rw [HLZ.out]; exact hk
    have HKZ := Lib.hid hkz
    clear hk hkz
    have HSCk : Hid (wr.heap[W.heap.size]? = some (.cells (scells s.name s.frm s.days (.slice Ai z.length ci)).toArray 26 (0, 0))) := HCS.out.fr.blk HSBu.out (fun e => by have h1 := HWT.out; have h2 := HS5.out; omega)
    have k5 : wr.cell? ⟨W.heap.size, 5, none⟩ = some (.slice Ai z.length ci) := cell_of_blk HSCk.out 5
    have HBWr : Hid (Below W.heap.size W wr) := HBWu.out.trans (HCS.out.fr.below HBWu.out.size (fun j h => by have h1 := HWT.out; have h2 := HS5.out; omega))
    have HWL : Hid (wk.length = 7) := by
      show _ = _
      rw [← HWK.out]
      exact fold_or_len _ (fun x hx => (HOK.out.items x (List.mem_of_mem_take hx)).days) _ rfl
    have i1 : (0 : Int) ≤ (k : Int) := Int.natCast_nonneg _
    by_cases hlt : k < z.length
    · obtain ⟨g0, o, cap0, hs1, hgl, _, _, hat⟩ := HZ.out.row.at (by intro e; rw [List.map_eq_nil_iff] at e; rw [e] at hlt; simp at hlt)
      have hAi : Ai = some ⟨g0, o, none⟩ := by injection hs1
      subst hAi
      obtain ⟨p, hp⟩ : ∃ p, z[k]? = some p := ⟨_, List.getElem?_eq_getElem hlt⟩
      have HAT0 : Hid (At wr g0 (o + k * 33) (ic p)) := (hat k (ic p) (by rw [List.getElem?_map, hp]; rfl)).below hgl HBWr.out
      have hfl := HZ.out.flat p (List.mem_of_getElem? hp)
      have HONE : Hid ((ic p).toArray.all (·.oneCell') = true) := ic_one hfl.1 hfl.2
      have HPK : Hid (s.items[k]? = some p.1) := by show _ = _; rw [← HZS.out, List.getElem?_map, hp]; rfl
      clear hat hs1 hgl hp
      have i2 : (k : Int) < (z.length : Int) := by omega
      go_upto_region 14 with fail
      iterate 13 go_step
      refine wpList_load_mid rfl 55 _ rfl g0 (o + k * 33) rfl (ic p) _ HAT0.out Tryd.underlying55 rfl info_item ?_
      simp only [Act.put, List.setIfInBounds_toArray, List.set_cons_zero, List.set_cons_succ]
      iterate 3 go_step
      refine wpList_store_row rfl 55 _ _ rfl wr.heap.size (ic p).toArray rfl rfl 55 _ (blk_newn rfl) (info_icl p) rfl HONE.out ?_
      simp only [Act.put, List.setIfInBounds_toArray, List.set_cons_zero, List.set_cons_succ]
      rw [World.setRow_alloc_new]
      obtain ⟨u2, hu2⟩ : ∃ u2, wr.alloc (.cells (ic p).toArray 55) = u2 := ⟨_, rfl⟩
      rw [hu2]
      have HF2 : Hid (Fr (fun _ => False) wr u2) := by rw [← hu2]; exact (Fr.refl _ wr).alloc _
      have HXB : Hid (u2.heap[wr.heap.size]? = some (.cells (ic p).toArray 55 (0, 0))) := by rw [← hu2]; exact blk_newn rfl
      have HC2 : Hid (CSt w5.heap.size (w5.heap.size + 1) c u wk u2) := HCS.out.keep HF2.out
      have HBW2 : Hid (Below W.heap.size W u2) := HBWr.out.trans (HF2.out.below HBWr.out.size (fun _ h => h.elim))
      have HXW : Hid (w5.heap.size + 1 < wr.heap.size) := lt_of_blk HCS.out.wkb
      obtain ⟨x, sc, sd, sn, sx⟩ := p
      dsimp only at hfl HPK
      have hdt := hfl.1.dates
      obtain ⟨Ad, cd, hds, _, _⟩ := hdt.slice
      rw [List.length_map] at hds
      subst hds
      have HDT := Lib.hid hdt
      have HXD : Hid (x.days.length = 7) := (HOK.out.items x (List.mem_of_getElem? HPK.out)).days
      have c0 : u2.cell? ⟨wr.heap.size, 0, none⟩ = some (.int .i64 x.kind) := cell_of_blk HXB.out 0
      have c30 : u2.cell? ⟨wr.heap.size, 30, none⟩ = some (.slice Ad x.dates.length cd) := cell_of_blk HXB.out 30
      have d0 : u2.cell? ⟨w5.heap.size, 0, none⟩ = some (.int .i64 c.y) := cell_of_blk HC2.out.cbk 0
      have d1 : u2.cell? ⟨w5.heap.size, 1, none⟩ = some (.int .i64 c.m) := cell_of_blk HC2.out.cbk 1
      have d2 : u2.cell? ⟨w5.heap.size, 2, none⟩ = some (.int .i64 c.d) := cell_of_blk HC2.out.cbk 2
      have hdl : x.dates.length ≤ 9223372036854775807 := by have := HDT.out.len; rw [List.length_map] at this; exact this
      clear hu2 hfl hdt HAT0 HONE k5 HSCk
      go_wp2_with fail
      obtain ⟨wo, rfl⟩ : ∃ w : World, w = wr := ⟨_, rfl⟩
      go_loopw [11, 15] (fun sv iv wr => DR c x b0 u2 sv iv wr) (fun _ i _ => x.dates.length - (intOf i).toNat)
      case atStart => exact ⟨0, 0, rfl, Nat.zero_le _, by simp, rfl⟩
      case round =>
        obtain ⟨j, m, rfl, hj, rfl, rfl⟩ := hrel
        have j0 : (0 : Int) ≤ (j : Int) := Int.natCast_nonneg _
        by_cases h5 : x.kind = 5
        · have hb5 : (x.kind == 5) = true := by simpa using h5
          have hd5 : decide (x.kind = 5) = true := by simpa using h5
          rw [hd5, Bool.true_and]
          generalize hb1 : (b0 || (x.dates.take j).any fun d => ceq d c) = b1
          by_cases hjl : j < x.dates.length
          · obtain ⟨dg, dof, _, hda, hdg, _, _, hdat⟩ := HDT.out.at (by intro e; rw [List.map_eq_nil_iff] at e; rw [e] at hjl; simp at hjl)
            have hAd : Ad = some ⟨dg, dof, none⟩ := by injection hda
            subst hAd
            obtain ⟨e, he⟩ : ∃ e, x.dates[j]? = some e := ⟨_, List.getElem?_eq_getElem hjl⟩
            have hde := hdat j (civilc e) (by rw [List.getElem?_map, he]; rfl)
            have e0 : u2.cell? ⟨dg, dof + j * 3, none⟩ = some (.int .i64 e.y) := (HBW2.out.cell (p := ⟨dg, _, none⟩) hdg).trans (hde 0 _ rfl)
            have e1 : u2.cell? ⟨dg, dof + j * 3 + 1, none⟩ = some (.int .i64 e.m) := (HBW2.out.cell (p := ⟨dg, _, none⟩) hdg).trans (hde 1 _ rfl)
            have e2 : u2.cell? ⟨dg, dof + j * 3 + 2, none⟩ = some (.int .i64 e.d) := (HBW2.out.cell (p := ⟨dg, _, none⟩) hdg).trans (hde 2 _ rfl)
            have heq := eq_civil e c
            have HSN : Hid ((b0 || (decide (x.kind = 5) && (x.dates.take (j + 1)).any fun d => ceq d c)) = (b1 || ceq e c)) := by
              show _ = _
              rw [hd5, Bool.true_and, ← hb1, List.take_add_one, he, List.any_append, ← Bool.or_assoc]
              simp
            clear hda hdg hdat hde he hb1
            generalize ceq e c = be at *
            have j2 : (j : Int) < (x.dates.length : Int) := by omega
            cases b1
            · go_wp2_with fail
              go_quiet (fail)
              go_wp2_with fail
              go_roundw
              case rel => exact ⟨j + 1, m + nq, by go_num, hjl, by rw [HSN.out]; rfl, rfl⟩
              case measure => simp [intOf]; omega
            · go_wp2_with fail
              go_quiet (fail)
              go_wp2_with fail
              go_roundw
              case rel => exact ⟨j + 1, m + nq, by go_num, hjl, by rw [HSN.out]; rfl, rfl⟩
              case measure => simp [intOf]; omega
          · have hjd : j = x.dates.length := by omega
            have HSV : Hid (b1 = (s.items.take (k + 1)).any (saidX c)) := by
              show _ = _
              rw [← hb1, hjd, List.take_length, List.take_add_one, HPK.out, List.any_append, HB0.out]
              simp [saidX, h5]
            clear hb1
            have HC3 : Hid (CSt w5.heap.size (w5.heap.size + 1) c u (if x.kind = 4 then orK 0 wk x.days else wk) (u2.drewN m)) := by
              have e : (if x.kind = 4 then orK 0 wk x.days else wk) = wk := by split <;> simp [orK, orDays]
              rw [e]; exact HC2.out.keep ((Fr.refl _ u2).drewN m)
            have HX3 : Hid ((u2.drewN m).heap[wo.heap.size]? = some (.cells (ic (x, sc, .slice Ad x.dates.length cd, sn, sx)).toArray 55 (0, 0))) := HXB.out
            go_wp2_with fail
            clear c0 c30 d0 d1 d2
            go_loopw [16] (fun iv wr => WR w5.heap.size (w5.heap.size + 1) c x wk u (u2.drewN m) iv wr) (fun i _ => 7 - (intOf i).toNat)
            case atStart => exact ⟨0, rfl, by omega, HC3, Fr.refl _ _⟩
            case round =>
              obtain ⟨t, rfl, ht, HCt, HFt⟩ := hrel
              clear HC3
              have t0 : (0 : Int) ≤ (t : Int) := Int.natCast_nonneg _
              have HXt : Hid (wr.heap[wo.heap.size]? = some (.cells (ic (x, sc, .slice Ad x.dates.length cd, sn, sx)).toArray 55 (0, 0))) := HFt.out.blk HX3.out (fun e => by have := HXW.out; omega)
              have c0 : wr.cell? ⟨wo.heap.size, 0, none⟩ = some (.int .i64 x.kind) := cell_of_blk HXt.out 0
              by_cases h4 : x.kind = 4
              · exfalso; omega
              · have hb4 : (x.kind == 4) = false := by simpa using h4
                rw [if_neg h4] at HCt
                have HCN2 : Hid (CSt w5.heap.size (w5.heap.size + 1) c u ((s.items.take (k + 1)).foldl orI sy0.weekend) wr) := by
                  have e : (s.items.take (k + 1)).foldl orI sy0.weekend = wk := by
                    rw [List.take_add_one, HPK.out, List.foldl_append, HWK.out]
                    simp only [Option.toList_some, List.foldl_cons, List.foldl_nil, orI]
                    rw [if_neg h4]
                  rw [e]; exact HCt.out
                go_wp2_with fail
                all_goals (
                  go_roundw
                  case rel => exact ⟨k + 1, by go_num, by have := HLZ.out; omega, by rw [← HSV.out], HCN2⟩
                  case measure => simp [intOf]; omega)
        · have hb5 : (x.kind == 5) = false := by simpa using h5
          have hd5 : decide (x.kind = 5) = false := by simpa using h5
          rw [hd5, Bool.false_and, Bool.or_false]
          have HSV : Hid (b0 = (s.items.take (k + 1)).any (saidX c)) := by
            show _ = _
            rw [List.take_add_one, HPK.out, List.any_append, HB0.out]
            simp [saidX, h5]
          rcases (by omega : (j : Int) < (x.dates.length : Int) ∨ ¬ ((j : Int) < (x.dates.length : Int))) with hjj | hjj
          all_goals (
            have HC3 : Hid (CSt w5.heap.size (w5.heap.size + 1) c u (if x.kind = 4 then orK 0 wk x.days else wk) (u2.drewN m)) := by
              have e : (if x.kind = 4 then orK 0 wk x.days else wk) = wk := by split <;> simp [orK, orDays]
              rw [e]; exact HC2.out.keep ((Fr.refl _ u2).drewN m)
            have HX3 : Hid ((u2.drewN m).heap[wo.heap.size]? = some (.cells (ic (x, sc, .slice Ad x.dates.length cd, sn, sx)).toArray 55 (0, 0))) := HXB.out
            go_wp2_with fail
            clear c0 c30 d0 d1 d2
            go_loopw [16] (fun iv wr => WR w5.heap.size (w5.heap.size + 1) c x wk u (u2.drewN m) iv wr) (fun i _ => 7 - (intOf i).toNat)
            case atStart => exact ⟨0, rfl, by omega, HC3, Fr.refl _ _⟩
            case round =>
              obtain ⟨t, rfl, ht, HCt, HFt⟩ := hrel
              clear HC3
              have t0 : (0 : Int) ≤ (t : Int) := Int.natCast_nonneg _
              have HXt : Hid (wr.heap[wo.heap.size]? = some (.cells (ic (x, sc, .slice Ad x.dates.length cd, sn, sx)).toArray 55 (0, 0))) := HFt.out.blk HX3.out (fun e => by have := HXW.out; omega)
              have c0 : wr.cell? ⟨wo.heap.size, 0, none⟩ = some (.int .i64 x.kind) := cell_of_blk HXt.out 0
              by_cases h4 : x.kind = 4
              · have hb4 : (x.kind == 4) = true := by simpa using h4
                rw [if_pos h4] at HCt
                by_cases ht7 : t < 7
                · obtain ⟨r1, r2⟩ := orK_succ HWL.out HXD.out ht7
                  have hol : (orK t wk x.days).length = 7 := by
                    unfold orK orDays
                    rw [List.length_append, List.length_zipWith, List.length_take, List.length_take, List.length_drop, HWL.out, HXD.out]; omega
                  have wc : wr.cell? ⟨w5.heap.size + 1, t, none⟩ = some (.bool (wk.getD t false)) := by
                    rw [cell_of_blk HCt.out.wkb, ← r2]; exact bools_cell _ (by omega)
                  have wf : wr.frozen? ⟨w5.heap.size + 1, t, none⟩ = false := froz_of_blk HCt.out.wkb t
                  have xc : wr.cell? ⟨wo.heap.size, 23 + t, none⟩ = some (.bool (x.days.getD t false)) := by
                    rw [cell_of_blk HXt.out]; rcases seven_cases ht7 with rfl | rfl | rfl | rfl | rfl | rfl | rfl <;> rfl
                  have HNW : Hid (WR w5.heap.size (w5.heap.size + 1) c x wk u (u2.drewN m) (.int .i64 ((t : Int) + 1)) (wr.setCell ⟨w5.heap.size + 1, t, none⟩ (.bool (wk.getD t false || x.days.getD t false)))) :=
                    ⟨t + 1, rfl, ht7, by show CSt _ _ _ _ _ _; rw [if_pos h4, r1]; exact HCt.out.set (by omega) t _, HFt.out.setCell (p := ⟨w5.heap.size + 1, t, none⟩) (.inl rfl) _⟩
                  have tt : (t : Int) < 7 := by omega
                  clear r1 r2 hol
                  obtain ⟨ba, hba⟩ : ∃ ba, wk.getD t false = ba := ⟨_, rfl⟩
                  obtain ⟨bb, hbb⟩ : ∃ bb, x.days.getD t false = bb := ⟨_, rfl⟩
                  rw [hba] at wc HNW
                  rw [hbb] at xc HNW
                  clear hba hbb
                  cases ba
                  · go_wp2_with fail
                    go_roundw
                    case rel => exact HNW.out
                    case measure => simp [intOf]; omega
                  · go_wp2_with fail
                    go_roundw
                    case rel => exact HNW.out
                    case measure => simp [intOf]; omega
                · obtain rfl : t = 7 := by omega
                  rw [orK_seven HWL.out HXD.out] at HCt
                  have HCN2 : Hid (CSt w5.heap.size (w5.heap.size + 1) c u ((s.items.take (k + 1)).foldl orI sy0.weekend) wr) := by
                    have e : (s.items.take (k + 1)).foldl orI sy0.weekend = orDays wk x.days := by
                      rw [List.take_add_one, HPK.out, List.foldl_append, HWK.out]
                      simp only [Option.toList_some, List.foldl_cons, List.foldl_nil, orI]
                      rw [if_pos h4]
                    rw [e]; exact HCt.out
                  go_wp2_with fail
                  go_roundw
                  case rel => exact ⟨k + 1, by go_num, by have := HLZ.out; omega, by rw [← HSV.out], HCN2⟩
                  case measure => simp [intOf]; omega
              · have hb4 : (x.kind == 4) = false := by simpa using h4
                rw [if_neg h4] at HCt
                have HCN2 : Hid (CSt w5.heap.size (w5.heap.size + 1) c u ((s.items.take (k + 1)).foldl orI sy0.weekend) wr) := by
                  have e : (s.items.take (k + 1)).foldl orI sy0.weekend = wk := by
                    rw [List.take_add_one, HPK.out, List.foldl_append, HWK.out]
                    simp only [Option.toList_some, List.foldl_cons, List.foldl_nil, orI]
                    rw [if_neg h4]
                  rw [e]; exact HCt.out
                go_wp2_with fail
                all_goals (
                  go_roundw
                  case rel => exact ⟨k + 1, by go_num, by have := HLZ.out; omega, by rw [← HSV.out], HCN2⟩
                  case measure => simp [intOf]; omega))
    · have hki : k = s.items.length := by have h1 := HKZ.out; have h2 := HLZ.out; omega
      have HB9 : Hid (b0 = s.items.any (saidX c)) := by show _ = _; rw [← HB0.out, hki, List.take_length]
      have hcal := run_cal s.items HF1.out
      have hwy : wk = yaA.weekend := by
        rw [← HWK.out, hki, List.take_length, ← hcal.1, HF3.out]
      obtain ⟨y0, y1, y2, y3, y4, y5, y6, hw7⟩ := seven HSYA.out.wk
      have HQr := HCS.out.fr.blk HQu.out (fun e => by have h1 := HS5.out; omega)
      have HWr := HCS.out.wkb
      rw [hwy] at HWr
      rw [hw7] at HQr HWr
      obtain ⟨Ah, ch, hah, _, _⟩ := HSYA.out.hol.slice
      rw [List.length_map] at hah
      have hrow : Row rA (.slice Ah yaA.hol.length ch) 1 (yaA.hol.map fun d => [nv d]) := by rw [← hah]; exact HSYA.out.hol
      have HBRr : Hid (Below rA.heap.size rA wr) := HBRu.out.trans (HCS.out.fr.below HBRu.out.size (fun j h => by have h1 := HS5.out; omega))
      have HROW := Lib.hid (hrow.below HBRr.out)
      have hya : yaA.hol = dsort (Rs.run s.items).1.hol := by rw [HF3.out]
      have HLT : Hid (∀ (j : Nat) (x y : Int), yaA.hol[j]? = some x → yaA.hol[j + 1]? = some y → x < y) := by
        show ∀ (j : Nat) (x y : Int), yaA.hol[j]? = some x → yaA.hol[j + 1]? = some y → x < y
        rw [hya]; exact dsort_lt hcal.2.2
      have HSD : Hid (s.items.any (saidX c) = yaA.hol.any (fun a => a == day)) := by show _ = _; rw [hya]; exact said_iff HCN.out HF1.out
      have q12 : wr.cell? ⟨rA.heap.size, 12, none⟩ = some (.slice Ah yaA.hol.length ch) := (cell_of_blk HQr 12).trans (congrArg some hah)
      generalize yaA.hol = hl at *
      have hlen := hrow.len
      rw [List.length_map] at hlen
      have q5 : wr.cell? ⟨rA.heap.size, 5, none⟩ = some (.bool y0) := (cell_of_blk HQr 5).trans rfl
      have q6 : wr.cell? ⟨rA.heap.size, 6, none⟩ = some (.bool y1) := (cell_of_blk HQr 6).trans rfl
      have q7 : wr.cell? ⟨rA.heap.size, 7, none⟩ = some (.bool y2) := (cell_of_blk HQr 7).trans rfl
      have q8 : wr.cell? ⟨rA.heap.size, 8, none⟩ = some (.bool y3) := (cell_of_blk HQr 8).trans rfl
      have q9 : wr.cell? ⟨rA.heap.size, 9, none⟩ = some (.bool y4) := (cell_of_blk HQr 9).trans rfl
      have q10 : wr.cell? ⟨rA.heap.size, 10, none⟩ = some (.bool y5) := (cell_of_blk HQr 10).trans rfl
      have q11 : wr.cell? ⟨rA.heap.size, 11, none⟩ = some (.bool y6) := (cell_of_blk HQr 11).trans rfl
      have v0 : wr.cell? ⟨w5.heap.size + 1, 0, none⟩ = some (.bool y0) := (cell_of_blk HWr 0).trans rfl
      have v1 : wr.cell? ⟨w5.heap.size + 1, 1, none⟩ = some (.bool y1) := (cell_of_blk HWr 1).trans rfl
      have v2 : wr.cell? ⟨w5.heap.size + 1, 2, none⟩ = some (.bool y2) := (cell_of_blk HWr 2).trans rfl
      have v3 : wr.cell? ⟨w5.heap.size + 1, 3, none⟩ = some (.bool y3) := (cell_of_blk HWr 3).trans rfl
      have v4 : wr.cell? ⟨w5.heap.size + 1, 4, none⟩ = some (.bool y4) := (cell_of_blk HWr 4).trans rfl
      have v5 : wr.cell? ⟨w5.heap.size + 1, 5, none⟩ = some (.bool y5) := (cell_of_blk HWr 5).trans rfl
      have v6 : wr.cell? ⟨w5.heap.size + 1, 6, none⟩ = some (.bool y6) := (cell_of_blk HWr 6).trans rfl
      have i9 : ¬ ((k : Int) < (z.length : Int)) := by omega
      have hed := eq_days y0 y1 y2 y3 y4 y5 y6
      clear hwy hw7 hya hcal hki HQr HWr hah hrow
      go_wp2_with fail
      obtain ⟨wo, rfl⟩ : ∃ w : World, w = wr := ⟨_, rfl⟩
      go_loopw [17, 18] (fun sv iv wr => HR day hl wo sv iv wr) (fun _ i _ => hl.length - (intOf i).toNat)
      case atStart => exact ⟨0, 0, rfl, Nat.zero_le _, rfl, rfl⟩
      case round =>
        obtain ⟨j, m, rfl, hj, rfl, rfl⟩ := hrel
        generalize hb1 : (hl.take j).any (fun a => a == day) = b1
        by_cases hjl : j < hl.length
        · obtain ⟨hg, ho, _, hda, hgl, _, _, hat⟩ := HROW.out.at (by intro e; rw [List.map_eq_nil_iff] at e; rw [e] at hjl; simp at hjl)
          have hAh : Ah = some ⟨hg, ho, none⟩ := by injection hda
          subst hAh
          obtain ⟨e, he⟩ : ∃ e, hl[j]? = some e := ⟨_, List.getElem?_eq_getElem hjl⟩
          have e0 : wo.cell? ⟨hg, ho + j, none⟩ = some (.int .i64 e) := by
            have := hat j [nv e] (by rw [List.getElem?_map, he]; rfl) 0 _ rfl
            rw [Nat.mul_one] at this
            exact this
          have HSN : Hid ((hl.take (j + 1)).any (fun a => a == day) = (b1 || (e == day))) := by
            show _ = _
            rw [← hb1, List.take_add_one, he, List.any_append]
            simp
          rcases Nat.eq_zero_or_pos j with hj0 | hj0
          · subst hj0
            have j2 : (0 : Int) < (hl.length : Int) := by omega
            rw [Nat.add_zero] at e0
            clear hda hgl hat he hb1
            cases b1
            all_goals (
              go_wp2_with fail
              go_quiet (fail)
              go_wp2_with fail
              go_roundw
              case rel => exact ⟨1, m + nq, by go_num, by omega, by rw [HSN.out]; rfl, rfl⟩
              case measure => simp [intOf]; omega)
          · obtain ⟨i, rfl⟩ : ∃ i, j = i + 1 := ⟨j - 1, by omega⟩
            obtain ⟨f, hf⟩ : ∃ f, hl[i]? = some f := ⟨_, List.getElem?_eq_getElem (by omega)⟩
            have hfe := HLT.out i f e hf he
            have e1 : wo.cell? ⟨hg, ho + i, none⟩ = some (.int .i64 f) := by
              have := hat i [nv f] (by rw [List.getElem?_map, hf]; rfl) 0 _ rfl
              rw [Nat.mul_one] at this
              exact this
            have ii0 : (0 : Int) ≤ (i : Int) := Int.natCast_nonneg _
            have j2 : (i : Int) + 1 < (hl.length : Int) := by omega
            have ec : (((i + 1 : Nat)) : Int) = (i : Int) + 1 := by omega
            rw [ec]
            clear hda hgl hat he hb1 hf ec
            cases b1
            all_goals (
              go_wp2_with fail
              go_quiet (fail)
              go_wp2_with fail
              go_roundw
              case rel => exact ⟨i + 1 + 1, m + nq, by go_num, by omega, by rw [HSN.out]; rfl, rfl⟩
              case measure => simp [intOf]; omega)
        · have hjd : j = hl.length := by omega
          rw [hjd, List.take_length, ← HSD.out, ← HB9.out] at hb1
          subst hb1
          subst hjd
          go_wp2_with fail
          go_ret
          exact ⟨by simp, below_drewN HBWr.out m⟩
end Go.Proofs.YtdhjibnkebbejaaDoor
