/-
  The walk of the statement ReceiptCutOff: it returns true for every input.
-/
import Derived.Test.YticlmkfifpkdpaaDoorRcRefs
namespace Go.Proofs.YticlmkfifpkdpaaDoor
open Go.RowKit Mem Vw Rc
open Dl (Bf bf_keep wf ccs C0 Cal CalAt add isDay srchv Box)
set_option linter.unusedVariables false
set_option linter.unusedSimpArgs false
namespace Rc
set_option maxRecDepth 100000 in
theorem addbad_any (c : Cal) (hv : Value) (d n : Int) (W : World) (h : CalAt W c hv) (hok : c.ok = true) (hd : isDay d = false) :
    Calls Tryd.prog 50 #[.agg (ccs c hv).toArray, .int .i64 d, .int .i64 n] W fun e w' => e = .returned (.tuple #[.int .i64 0, .int .i64 1]) ∧ Below W.heap.size W w' := by
  obtain ⟨w0, HW0⟩ : ∃ w0, Hid (W.alloc (.cells (ccs c hv).toArray 28) = w0) := ⟨_, rfl⟩
  have HB0 : Hid (Box W c hv W.heap.size w0) := by rw [← HW0.out]; exact Dl.Box.new h
  have HV := Lib.hid (Dl.cvalid_any c hv w0 HB0.out.cal)
  rw [hok] at HV
  have HD : Hid (∀ w, Calls Tryd.prog 56 #[.int .i64 d] w fun e w' => e = .returned (.bool false) ∧ w' = w) := fun w => by
    have h := Dl.isDay_any d w
    rwa [hd] at h
  clear h hok
  go_enter Tryd.func50, Tryd.ntmps50
  go_upto_region 1 with fail
  rw [HW0.out]
  clear HW0
  go_step
  refine Dl.load_rowG (by rfl) 28 _ rfl W.heap.size rfl 28 (ccs c hv).toArray (0, 0) _ HB0.out.bk Tryd.underlying28 rfl (Dl.info_cal c hv) ?_
  simp only [Act.put, List.setIfInBounds_toArray, List.set_cons_zero, List.set_cons_succ]
  go_wp2_with fail
  refine HV.out.mono ?_
  rintro e w1 ⟨rfl, hb1⟩
  have HB1 := Lib.hid (HB0.out.below hb1)
  clear hb1 HB0 HV
  go_wp2_with fail
  refine (HD.out w1).mono ?_
  rintro e w2 ⟨rfl, rfl⟩
  go_wp2_with fail
  go_ret2
  exact ⟨rfl, HB1.out.be⟩
set_option maxRecDepth 100000 in
theorem nextbad_any (c : Cal) (hv : Value) (d : Int) (W : World) (h : CalAt W c hv) (hok : c.ok = true) (hd : isDay d = false) :
    Calls Tryd.prog 23 #[.agg (ccs c hv).toArray, .int .i64 d] W fun e w' => e = .returned (.tuple #[.int .i64 0, .int .i64 1]) ∧ Below W.heap.size W w' := by
  obtain ⟨w0, HW0⟩ : ∃ w0, Hid (W.alloc (.cells (ccs c hv).toArray 28) = w0) := ⟨_, rfl⟩
  have HB0 : Hid (Box W c hv W.heap.size w0) := by rw [← HW0.out]; exact Dl.Box.new h
  have HS := Lib.hid (addbad_any c hv d 0 w0 HB0.out.cal hok hd)
  clear h hok
  go_enter Tryd.func23, Tryd.ntmps23
  go_upto_region 1 with fail
  rw [HW0.out]
  clear HW0
  go_step
  refine Dl.load_rowG (by rfl) 28 _ rfl W.heap.size rfl 28 (ccs c hv).toArray (0, 0) _ HB0.out.bk Tryd.underlying28 rfl (Dl.info_cal c hv) ?_
  simp only [Act.put, List.setIfInBounds_toArray, List.set_cons_zero, List.set_cons_succ]
  go_wp2_with fail
  refine HS.out.mono ?_
  rintro e w3 ⟨rfl, hb3⟩
  have HBE : Hid (Below W.heap.size W w3) := (HB0.out.below hb3).be
  clear hb3 HS
  go_wp2_with fail
  go_ret2
  exact ⟨rfl, HBE.out⟩
/-- What date.Next returns on the example's calendar. -/
def nextv (D : Int) : Int × Int := if isDay D then (match add C0 D 0 with | some d => (d, 0) | none => (0, 2)) else (0, 1)
theorem week_next (D : Int) (W : World) : Calls Tryd.prog 23 #[.agg #[.bool false, .bool false, .bool false, .bool false, .bool false, .bool true, .bool true, .slice none 0 0], .int .i64 D] W fun e w' => e = .returned (.tuple #[.int .i64 (nextv D).1, .int .i64 (nextv D).2]) ∧ Below W.heap.size W w' := by
  have hc : CalAt W C0 (.slice none 0 0) := ⟨rfl, Row.nil _ _, fun x hx => by cases hx⟩
  unfold nextv
  by_cases h : isDay D = true
  · have hr := (Dl.isDay_iff D).1 h
    have h2 := Dl.next_any C0 (.slice none 0 0) D W hc Dl.ok_C0 hr.1 hr.2
    rw [if_pos h]
    cases ha : add C0 D 0 with
    | none => rw [ha] at h2; exact h2
    | some d => rw [ha] at h2; exact h2
  · have h2 := nextbad_any C0 (.slice none 0 0) D W hc Dl.ok_C0 (by simpa using h)
    rw [if_neg h]
    exact h2
theorem cut_law (L m : Int) : ((nextv (cutDay L m)).2 ≠ 0 → two2 (cutEv L m) (cutEv L m) = (0, 0, 2)) ∧ ((nextv (cutDay L m)).2 = 0 → two2 (cutEv L m) (cutEv L m) = ((nextv (cutDay L m)).1, (nextv (cutDay L m)).1, 0)) := by
  unfold two2 cutEv nextv
  by_cases h : isDay (cutDay L m) = true
  · rw [if_pos h, if_pos h]
    cases add C0 (cutDay L m) 0 <;> simp
  · rw [if_neg h, if_neg h]; simp
end Rc
set_option maxRecDepth 100000 in
set_option maxHeartbeats 8000000 in
theorem walk_ReceiptCutOff (a0 : Int) (v0 : (Lit.int .i16 a0).wf = true) (a1 : Int) (v1 : (Lit.int .u16 a1).wf = true) (a2 : Int) (v2 : (Lit.int .u32 a2).wf = true) (W : World) (hbf : Bf W) :
    Calls Tryd.prog 6 #[.int .i16 a0, .int .u16 a1, .int .u32 a2] W fun e w' => e = .returned (.bool true) ∧ Below W.heap.size W w' := by
  have b0 := bounds_i16 v0
  have b1 := bounds_u16 v1
  have b2 := bounds_u32 v2
  clear v0 v1 v2
  obtain ⟨o, ho, ho0, ho1⟩ : ∃ o : Int, a0.tmod 841 = o ∧ -840 ≤ o ∧ o ≤ 840 := ⟨_, rfl, by have := Int.lt_tmod_of_pos a0 (b := 841) (by decide); omega, by have := Int.tmod_lt_of_pos a0 (b := 841) (by decide); omega⟩
  obtain ⟨m, hm, hm0, hm1⟩ : ∃ m : Int, a1 % 1441 = m ∧ 0 ≤ m ∧ m ≤ 1440 := ⟨_, rfl, by omega, by omega⟩
  obtain ⟨t, ht, ht0, ht1⟩ : ∃ t : Int, a2 % 105190560 = t ∧ 0 ≤ t ∧ t ≤ 105190559 := ⟨_, rfl, by omega, by omega⟩
  have HO := Lib.hid ho; have HM := Lib.hid hm; have HTT := Lib.hid ht; have HBF := Lib.hid hbf
  clear ho hm ht hbf
  have HHD := Lib.hid (Rc.head_any W HBF.out)
  go_enter Tryd.func6, Tryd.ntmps6
  go_wp2_with fail
  refine HHD.out.mono ?_
  rintro e9 w1 ⟨rfl, hb⟩
  have HB1 := Lib.hid hb
  clear hb HHD
  go_upto_region 3 with fail
  rw [HO.out, HM.out, HTT.out]
  clear b0 b1 b2
  obtain ⟨⟨fi, la, ee⟩, HDE⟩ : ∃ q, Hid (deemed (cutR o m) ⟨-1, t, 0⟩ = q) := ⟨_, rfl⟩
  have hde := HDE.out
  rw [deemed_cut (lo := t) (hi := t) ho0 ho1 hm0 hm1 ht0 ht1 (by decide) (by decide) (by omega) (by omega)] at hde
  have hC := Lib.hid (cut_any o m w1 (by unfold wf; omega) (by unfold wf; omega))
  go_wp2_with fail
  refine hC.out.mono ?_
  rintro e9 w2 ⟨g, rfl, hru, hb⟩
  have HRU := Lib.hid hru
  have HB2 : Hid (Below W.heap.size W w2) := HB1.out.trans (hb.mono HB1.out.size)
  clear hb hru hC
  have HD := Lib.hid (deemed_at (cutR o m) (cutP g) ⟨-1, t, 0⟩ HRU.out (bf_keep HBF.out HB2.out) rfl rfl HDE.out)
  have HDEL := Lib.hid hde
  clear hde
  go_wp2_with fail
  refine HD.out.mono ?_
  rintro e9 w3 ⟨rfl, hb⟩
  have HB3 : Hid (Below W.heap.size W w3) := HB2.out.trans (hb.mono HB2.out.size)
  clear hb HD HRU
  obtain ⟨L, hL⟩ : ∃ L, t + o = L := ⟨_, rfl⟩
  have hL0 : -840 ≤ L ∧ L ≤ 105191399 := by omega
  rw [hL] at HDEL
  have hde := HDEL.out
  by_cases hout : L < 0 ∨ 105190559 < L
  · rw [if_pos (by omega)] at hde
    injection hde with h1 h2
    injection h2 with h2 h3
    subst h1 h2 h3
    clear HDEL
    by_cases h0 : L < 0
    · go_wp2_with fail
      go_ret
      exact ⟨rfl, HB3.out⟩
    · have h1 : L > 105190559 := by omega
      go_wp2_with fail
      go_ret
      exact ⟨rfl, HB3.out⟩
  rw [if_neg (by omega)] at hde
  have hl0 : ¬ L < 0 := by omega
  have hl1 : ¬ L > 105190559 := by omega
  have hq : L.tdiv 1440 = L / 1440 := Int.tdiv_eq_ediv_of_nonneg (by omega)
  have hr : L.tmod 1440 = L % 1440 := Int.tmod_eq_emod_of_nonneg (by omega)
  obtain ⟨D, HDD⟩ : ∃ D, Hid (cutDay L m = D) := ⟨_, rfl⟩
  have hlaw := cut_law L m
  rw [HDD.out] at hlaw
  obtain ⟨⟨wa, fe⟩, HNV⟩ : ∃ q, Hid (nextv D = q) := ⟨_, rfl⟩
  rw [HNV.out] at hlaw
  rw [hde] at hlaw
  have HLAW := Lib.hid hlaw
  clear hlaw hde HDEL
  have HN : Hid (∀ X, Calls Tryd.prog 23 #[.agg #[.bool false, .bool false, .bool false, .bool false, .bool false, .bool true, .bool true, .slice none 0 0], .int .i64 D] X fun e w' => e = .returned (.tuple #[.int .i64 wa, .int .i64 fe]) ∧ Below X.heap.size X w') := fun X => by
    have h := week_next D X
    rw [HNV.out] at h
    exact h
  have hDv : (L % 1440 ≥ m ∧ L / 1440 + 1 = D) ∨ (¬ L % 1440 ≥ m ∧ L / 1440 = D) := by
    have h := HDD.out
    unfold cutDay at h
    by_cases h1 : L % 1440 ≥ m
    · rw [if_pos h1] at h; exact .inl ⟨h1, h⟩
    · rw [if_neg h1] at h; exact .inr ⟨h1, h⟩
  clear HDD HNV
  have hLD : 0 ≤ L / 1440 ∧ L / 1440 ≤ 73048 := by omega
  rcases hDv with ⟨h1, hD⟩ | ⟨h1, hD⟩
  all_goals
    go_wp2_with fail
    refine (week_any _).mono ?_
    rintro e9 w4 ⟨rfl, hb⟩
    have HB4 : Hid (Below W.heap.size W w4) := HB3.out.trans (hb.mono HB3.out.size)
    clear hb
    go_wp2_with fail
    refine (HN.out w4).mono ?_
    rintro e9 w5 ⟨rfl, hb⟩
    have HB5 : Hid (Below W.heap.size W w5) := HB4.out.trans (hb.mono HB4.out.size)
    clear hb HN
    by_cases hf : fe = 0
    · have h9 := HLAW.out.2 hf
      injection h9 with h2 h3
      injection h3 with h3 h4
      subst h2 h3 h4 hf
      clear HLAW
      go_wp2_with fail
      go_ret
      exact ⟨rfl, HB5.out⟩
    · have h9 := HLAW.out.1 hf
      have hfb : (fe != 0) = true := by simpa using hf
      injection h9 with h2 h3
      injection h3 with h3 h4
      subst h2 h3 h4
      clear HLAW
      go_wp2_with fail
      go_ret
      exact ⟨rfl, HB5.out⟩
end Go.Proofs.YticlmkfifpkdpaaDoor
