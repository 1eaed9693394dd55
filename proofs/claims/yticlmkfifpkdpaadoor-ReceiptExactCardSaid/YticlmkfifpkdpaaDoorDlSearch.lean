/-
  date.search, Add, Next, Months, Business walked.
-/
import Derived.Test.YticlmkfifpkdpaaDoorDlCount
import Derived.Test.YticlmkfifpkdpaaDoorOwn
import Derived.Test.YticlmkfifpkdpaaDoorReg2
namespace Go.Proofs.YticlmkfifpkdpaaDoor.Dl
open Go.RowKit Mem Vw
set_option linter.unusedVariables false
set_option linter.unusedSimpArgs false

theorem info_cal (c : Cal) (hv : Value) : (Tryd.prog.info? 28).map (·.size) = some (ccs c hv).toArray.size := by kernel_rfl
/-- Three boxes of search: the calendar, the first day, the number. -/
structure Boxes (c : Cal) (hv : Value) (a n : Int) (p0 p1 p2 : Nat) (w : World) : Prop where
  b0 : w.heap[p0]? = some (.cells (ccs c hv).toArray 28 (0, 0))
  b1 : w.heap[p1]? = some (.cells #[.int .i64 a] 3 (0, 0))
  b2 : w.heap[p2]? = some (.cells #[.int .i64 n] 3 (0, 0))
  cal : CalAt w c hv
theorem Boxes.below {c : Cal} {hv : Value} {a n : Int} {p0 p1 p2 : Nat} {w w' : World} (h : Boxes c hv a n p0 p1 p2 w) (hb : Below w.heap.size w w') : Boxes c hv a n p0 p1 p2 w' :=
  ⟨(hb.block _ (lt_of_blk h.b0)).trans h.b0, (hb.block _ (lt_of_blk h.b1)).trans h.b1, (hb.block _ (lt_of_blk h.b2)).trans h.b2, h.cal.below hb⟩
set_option maxRecDepth 100000 in
theorem closure_any (c : Cal) (hv : Value) (a n : Int) (p0 p1 p2 : Nat) (i : Nat) (W : World) (hB : Boxes c hv a n p0 p1 p2 W) (hok : c.ok = true) (ha : 0 ≤ a) (hi : a + i + 1 ≤ 73049) :
    Calls Tryd.prog 97 #[.int .i64 i, .pointer (some ⟨p0, 0, none⟩), .pointer (some ⟨p1, 0, none⟩), .pointer (some ⟨p2, 0, none⟩)] W fun e w' => e = .returned (.bool (decide (n ≤ (num (biz c) a (i + 1) : Nat)))) ∧ Below W.heap.size W w' := by
  have HC : Hid (∀ w, Below W.heap.size W w → Calls Tryd.prog 98 #[.agg (ccs c hv).toArray, .int .i64 a, .int .i64 (a + i + 1)] w fun e w' => e = .returned (.int .i64 (num (biz c) a (i + 1) : Nat)) ∧ Below w.heap.size w w') := fun w hb => by
    have h := count_any c hv w (hB.cal.below hb) hok a (a + i + 1) ha (by omega) hi
    rwa [show (a + i + 1 - a).toNat = i + 1 by omega] at h
  have HBX := Lib.hid hB; clear hB
  have e1 : IntKind.i64.wrap (a + i) = a + i := IntWalk.i64_in _ (by omega)
  have e2 : IntKind.i64.wrap (a + i + 1) = a + i + 1 := IntWalk.i64_in _ (by omega)
  have HB0 : Hid (Below W.heap.size W W.drew) := (⟨rfl, rfl, rfl, Nat.le_refl _, fun k hk => rfl⟩ : Below W.heap.size W W.drew)
  go_enter Tryd.func97, Tryd.ntmps97
  go_upto_region 1 with fail
  refine Reg.G.start (by kernel_rfl) ?_
  refine' Reg.G.take (i := 0) (v := _) (F := (fun w => Below W.heap.size W w)) rfl (by rfl) (by kernel_rfl) (by kernel_rfl) (by kernel_rfl) (fun _ _ _ h => h) (HB0.out) ?hys1 ?rehys1
  case hys1 => intro w hw; refine run_load_row (P := Tryd.prog) 28 (.tmp 1) ?_ p0 ?_ 28 (ccs c hv).toArray _ ((hw.block _ (lt_of_blk HBX.out.b0)).trans HBX.out.b0) Tryd.underlying28 rfl (info_cal c hv) <;> rfl
  simp only [Act.put, List.setIfInBounds_toArray, List.set_cons_zero, List.set_cons_succ]
  refine' Reg.G.take (i := 1) (v := _) (F := (fun w => Below W.heap.size W w)) rfl (by rfl) (by kernel_rfl) (by kernel_rfl) (by kernel_rfl) (fun _ _ _ h => h) (HB0.out) ?hys2 ?rehys2
  case hys2 => intro w hw; have kc := (hw.block _ (lt_of_blk HBX.out.b1)).trans HBX.out.b1; have kd := cell_of_blk kc 0; clear hw kc; first | (go_simp; done) | (go_simp; with_reducible rfl)
  simp only [Act.put, List.setIfInBounds_toArray, List.set_cons_zero, List.set_cons_succ]
  refine' Reg.G.take (i := 2) (v := _) (F := (fun w => Below W.heap.size W w)) rfl (by rfl) (by kernel_rfl) (by kernel_rfl) (by kernel_rfl) (fun _ _ _ h => h) (HB0.out) ?hys3 ?rehys3
  case hys3 => intro w hw; have kc := (hw.block _ (lt_of_blk HBX.out.b1)).trans HBX.out.b1; have kd := cell_of_blk kc 0; clear hw kc; first | (go_simp; done) | (go_simp; with_reducible rfl)
  simp only [Act.put, List.setIfInBounds_toArray, List.set_cons_zero, List.set_cons_succ]
  refine' Reg.G.pure (i := 3) (v := _) rfl (by rfl) (by kernel_rfl) (by kernel_rfl) (by kernel_rfl) (fun _ _ _ h => h) ?hys4 ?rehys4
  case hys4 => exact fun w => by first | (go_simp; done) | (go_simp; with_reducible rfl)
  simp only [Act.put, List.setIfInBounds_toArray, List.set_cons_zero, List.set_cons_succ]
  refine' Reg.G.pure (i := 4) (v := _) rfl (by rfl) (by kernel_rfl) (by kernel_rfl) (by kernel_rfl) (fun _ _ _ h => h) ?hys5 ?rehys5
  case hys5 => exact fun w => by first | (go_simp; done) | (go_simp; with_reducible rfl)
  simp only [Act.put, List.setIfInBounds_toArray, List.set_cons_zero, List.set_cons_succ]
  refine' Reg.G.pure (i := 5) (v := _) rfl (by rfl) (by kernel_rfl) (by kernel_rfl) (by kernel_rfl) (fun _ _ _ h => h) ?hys6 ?rehys6
  case hys6 => exact fun w => by first | (go_simp; done) | (go_simp; with_reducible rfl)
  simp only [Act.put, List.setIfInBounds_toArray, List.set_cons_zero, List.set_cons_succ]
  refine' Reg.G.take (i := 7) (v := _) (F := (fun w => Below W.heap.size W w)) rfl (by rfl) (by kernel_rfl) (by kernel_rfl) (by kernel_rfl) (fun _ _ _ h => h) (HB0.out) ?hys7 ?rehys7
  case hys7 => intro w hw; have kc := (hw.block _ (lt_of_blk HBX.out.b2)).trans HBX.out.b2; have kd := cell_of_blk kc 0; clear hw kc; first | (go_simp; done) | (go_simp; with_reducible rfl)
  simp only [Act.put, List.setIfInBounds_toArray, List.set_cons_zero, List.set_cons_succ]
  refine Reg.G.step (j := 6) (m := [true, false, false, false]) [7, 2, 1, 0] rfl (by kernel_rfl) rfl (by kernel_rfl) (fun K hK => ?_)
  go_simp
  refine (HC.out _ (HB0.out)).mono ?_
  rintro e w1 ⟨rfl, hb1⟩
  have HB1 : Hid (Below W.heap.size W w1) := (HB0.out).trans (hb1.mono (HB0.out).size)
  clear hb1
  refine hK.out _ _ ⟨HB1.out, trivial⟩ ?_
  clear hK K
  simp only [Act.put, List.setIfInBounds_toArray, List.set_cons_zero, List.set_cons_succ, Reg.Kept]
  refine' Reg.G.pure (i := 8) (v := _) rfl (by rfl) (by kernel_rfl) (by kernel_rfl) (by kernel_rfl) (fun _ _ _ h => h) ?hys8 ?rehys8
  case hys8 => exact fun w => by first | (go_simp; done) | (go_simp; with_reducible rfl)
  simp only [Act.put, List.setIfInBounds_toArray, List.set_cons_zero, List.set_cons_succ]
  refine' Reg.G.pure (i := 9) (v := _) rfl (by rfl) (by kernel_rfl) (by kernel_rfl) (by kernel_rfl) (fun _ _ _ h => h) ?hys9 ?rehys9
  case hys9 => exact fun w => by first | (go_simp; done) | (go_simp; with_reducible rfl)
  simp only [Act.put, List.setIfInBounds_toArray, List.set_cons_zero, List.set_cons_succ]
  refine Reg.G.done (by kernel_rfl) ?_
  go_wp2_with fail
  go_ret
  refine ⟨?_, HB1.out⟩
  rfl
def SRel (p : Nat → Bool) (n : Nat) (W : World) (i j : Value) (wr : World) : Prop := ∃ lo hi : Nat, i = .int .i64 lo ∧ j = .int .i64 hi ∧ lo ≤ hi ∧ hi ≤ n ∧ Hid (∀ t, t < lo → p t = false) ∧ Hid (∀ t, hi ≤ t → t < n → p t = true) ∧ Hid (Below W.heap.size W wr)
set_option maxRecDepth 100000 in
theorem sortSearch_any (n : Nat) (p : Nat → Bool) (p0 p1 p2 : Nat) (W : World) (hn : n ≤ 73049)
    (hf : ∀ i w, i < n → Below W.heap.size W w → Calls Tryd.prog 97 #[.int .i64 i, .pointer (some ⟨p0, 0, none⟩), .pointer (some ⟨p1, 0, none⟩), .pointer (some ⟨p2, 0, none⟩)] w fun e w' => e = .returned (.bool (p i)) ∧ Below w.heap.size w w')
    (hm : ∀ i j, i ≤ j → j < n → p i = true → p j = true) :
    Calls Tryd.prog 96 #[.int .i64 n, .func (.func 97) #[] #[.pointer (some ⟨p0, 0, none⟩), .pointer (some ⟨p1, 0, none⟩), .pointer (some ⟨p2, 0, none⟩)]] W fun e w' => e = .returned (.int .i64 (least p n)) ∧ Below W.heap.size W w' := by
  have HF := Lib.hid hf; have HM := Lib.hid hm
  clear hf hm
  go_enter Tryd.func96, Tryd.ntmps96
  go_wp2_with fail
  go_loopw [5, 6] (fun i j wr => SRel p n W i j wr) (fun i j _ => (intOf j - intOf i).toNat)
  case atStart => exact ⟨0, n, rfl, rfl, by omega, Nat.le_refl _, (fun t ht => by omega), (fun t h1 h2 => by omega), Below.refl _ W⟩
  case round =>
    obtain ⟨lo, hi, rfl, rfl, hlh, hhn, HA, HB, HBE⟩ := hrel
    by_cases hlt : lo < hi
    · have HC := Lib.hid (HF.out ((lo + hi) / 2) wr (by omega) HBE.out)
      rw [show (((lo + hi) / 2 : Nat) : Int) = ((lo : Int) + (hi : Int)) / 2 by omega] at HC
      cases hp : p ((lo + hi) / 2)
      · rw [hp] at HC
        have HP := Lib.hid hp; clear hp
        go_wp2_with fail
        refine HC.out.mono ?_
        rintro e w1 ⟨rfl, hb1⟩
        have HBE1 : Hid (Below W.heap.size W w1) := HBE.out.trans (hb1.mono HBE.out.size)
        clear hb1
        go_wp2_with fail
        go_roundw
        case rel =>
          refine ⟨(lo + hi) / 2 + 1, hi, by rw [show ((lo : Int) + (hi : Int)) / 2 + 1 = (((lo + hi) / 2 + 1 : Nat) : Int) by omega], rfl, by omega, hhn, ?_, HB, HBE1⟩
          intro t ht
          cases hpt : p t
          · rfl
          · have := HM.out t ((lo + hi) / 2) (by omega) (by omega) hpt
            rw [HP.out] at this; cases this
        case measure => simp [intOf]; omega
      · rw [hp] at HC
        have HP := Lib.hid hp; clear hp
        go_wp2_with fail
        refine HC.out.mono ?_
        rintro e w1 ⟨rfl, hb1⟩
        have HBE1 : Hid (Below W.heap.size W w1) := HBE.out.trans (hb1.mono HBE.out.size)
        clear hb1
        go_wp2_with fail
        go_roundw
        case rel =>
          refine ⟨lo, (lo + hi) / 2, rfl, by rw [show ((lo : Int) + (hi : Int)) / 2 = (((lo + hi) / 2 : Nat) : Int) by omega], by omega, by omega, HA, ?_, HBE1⟩
          intro t h1 h2
          exact HM.out ((lo + hi) / 2) t h1 h2 HP.out
        case measure => simp [intOf]; omega
    · obtain rfl : hi = lo := by omega
      have HE : Hid (least p n = hi) := least_eq hhn HA.out (fun h => HB.out hi (Nat.le_refl _) h)
      go_wp2_with fail
      go_ret
      exact ⟨by rw [HE.out]; rfl, HBE.out⟩
/-- What date.search returns. -/
def srchv (o : Option Int) : Value := match o with | some r => .tuple #[.int .i64 r, .int .i64 0] | none => .tuple #[.int .i64 0, .int .i64 2]
set_option maxRecDepth 100000 in
theorem search_any (c : Cal) (hv : Value) (a n : Int) (W : World) (h : CalAt W c hv) (hok : c.ok = true) (ha : 0 ≤ a) (ha' : a ≤ 73049) :
    Calls Tryd.prog 84 #[.agg (ccs c hv).toArray, .int .i64 a, .int .i64 n] W fun e w' => e = .returned (srchv (search c a n)) ∧ Below W.heap.size W w' := by
  obtain ⟨w0, HW0⟩ : ∃ w0, Hid (((W.alloc (.cells (ccs c hv).toArray 28)).alloc (.cells #[.int .i64 a] 3)).alloc (.cells #[.int .i64 n] 3) = w0) := ⟨_, rfl⟩
  have HBE : Hid (Below W.heap.size W w0) := by rw [← HW0.out]; exact (((Below.refl _ W).alloc (Nat.le_refl _) _).alloc (by simp) _).alloc (by simp; omega) _
  have HBX : Hid (Boxes c hv a n W.heap.size (W.heap.size + 1) (W.heap.size + 1 + 1) w0) := by
    refine ⟨?_, ?_, ?_, h.below HBE.out⟩ <;> rw [← HW0.out]
    · exact blk_alloc (blk_alloc (blk_newn rfl) _) _
    · exact blk_alloc (blk_newn (by simp)) _
    · exact blk_newn (by simp)
  obtain ⟨k, hk⟩ : ∃ k : Nat, 73049 - a = k := ⟨(73049 - a).toNat, by omega⟩
  have HS : Hid (search c a n = if least (fun i => decide (n ≤ (num (biz c) a (i + 1) : Nat))) k = k then none else some (a + (least (fun i => decide (n ≤ (num (biz c) a (i + 1) : Nat))) k : Nat))) := by
    show _ = _
    unfold search
    rw [hk]
    rfl
  have hk2 : k ≤ 73049 := by omega
  have HSS := Lib.hid (sortSearch_any k (fun i => decide (n ≤ (num (biz c) a (i + 1) : Nat))) W.heap.size (W.heap.size + 1) (W.heap.size + 1 + 1) w0 hk2
    (fun i w hi hb => closure_any c hv a n _ _ _ i w (HBX.out.below hb) hok ha (by omega))
    (fun i j hij hj hp => by
      have h1 := num_mono (biz c) a (k := i + 1) (m := j + 1) (by omega)
      simp only [decide_eq_true_eq] at hp ⊢
      omega))
  have hle := least_le (fun i => decide (n ≤ (num (biz c) a (i + 1) : Nat))) k
  obtain ⟨l, hl⟩ : ∃ l, least (fun i => decide (n ≤ (num (biz c) a (i + 1) : Nat))) k = l := ⟨_, rfl⟩
  rw [hl] at HSS HS hle
  clear hl h
  have c1 := cell_of_blk HBX.out.b1 0
  have c1 : w0.cell? ⟨W.heap.size + 1, 0, none⟩ = some (.int .i64 a) := c1
  go_enter Tryd.func84, Tryd.ntmps84
  go_upto_region 1 with fail
  rw [HW0.out]
  clear HW0
  go_wp2_with fail
  refine HSS.out.mono ?_
  rintro e w1 ⟨rfl, hb1⟩
  have c1 : w1.cell? ⟨W.heap.size + 1, 0, none⟩ = some (.int .i64 a) := cell_of_blk (HBX.out.below hb1).b1 0
  have HBE1 : Hid (Below W.heap.size W w1) := HBE.out.trans (hb1.mono HBE.out.size)
  clear hb1 HSS
  by_cases he : l = k
  · go_wp2_with fail
    go_ret2
    exact ⟨by rw [HS.out, if_pos he]; rfl, HBE1.out⟩
  · go_wp2_with fail
    go_ret2
    exact ⟨by rw [HS.out, if_neg he]; rfl, HBE1.out⟩
end Go.Proofs.YticlmkfifpkdpaaDoor.Dl
