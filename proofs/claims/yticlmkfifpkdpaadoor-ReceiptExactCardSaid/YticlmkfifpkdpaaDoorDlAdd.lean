/-
  date.Add, Next, Business, Months walked.
-/
import Derived.Test.YticlmkfifpkdpaaDoorDlSearch
namespace Go.Proofs.YticlmkfifpkdpaaDoor.Dl
open Go.RowKit Mem Vw
set_option linter.unusedVariables false
set_option linter.unusedSimpArgs false

theorem load_rowG {P : Program} {ops : Array Oper} {rest : List Oper} {o : Oper} {a : Act} {w : World} {Q : Exit → Act → World → Prop} (hw : Region.wanted o (yielded ops a.tmps) = true) (ty : TypeId) (x : Operand) (ho : o.op = .load ty x)
    (g : Nat) (hx : a.eval x = .pointer (some ⟨g, 0, none⟩)) (t : TypeId) (cs : Array Value) (fr : Nat × Nat) (d : TypeDesc) (hg : w.heap[g]? = some (.cells cs t fr))
    (hu : P.underlying ty = some d) (hd : d.isRow = true) (hi : (P.info? ty).map (·.size) = some cs.size) (h : wpList P ops Q rest (a.put o.dst (.agg cs)) w) : wpList P ops Q (o :: rest) a w :=
  wpList_step fun _ hK => by rw [if_pos hw]; exact wp_load_row ty x ho g hx t cs fr d hg hu (by cases d <;> first | rfl | exact hd) hi (hK _ _ h)
/-- The box of a calendar. -/
structure Box (W : World) (c : Cal) (hv : Value) (g : Nat) (w : World) : Prop where
  bk : w.heap[g]? = some (.cells (ccs c hv).toArray 28 (0, 0))
  cal : CalAt w c hv
  be : Below W.heap.size W w
theorem Box.new {W : World} {c : Cal} {hv : Value} (h : CalAt W c hv) : Box W c hv W.heap.size (W.alloc (.cells (ccs c hv).toArray 28)) :=
  ⟨blk_newn rfl, h.below ((Below.refl _ W).alloc (Nat.le_refl _) _), (Below.refl _ W).alloc (Nat.le_refl _) _⟩
theorem Box.below {W : World} {c : Cal} {hv : Value} {g : Nat} {w w' : World} (h : Box W c hv g w) (hb : Below w.heap.size w w') : Box W c hv g w' :=
  ⟨(hb.block _ (lt_of_blk h.bk)).trans h.bk, h.cal.below hb, h.be.trans (hb.mono h.be.size)⟩
set_option maxRecDepth 100000 in
theorem add_any (c : Cal) (hv : Value) (d n : Int) (W : World) (h : CalAt W c hv) (hok : c.ok = true) (hd : 0 ≤ d) (hd' : d ≤ 73048) (hn : 0 ≤ n) :
    Calls Tryd.prog 50 #[.agg (ccs c hv).toArray, .int .i64 d, .int .i64 n] W fun e w' => e = .returned (srchv (add c d n)) ∧ Below W.heap.size W w' := by
  obtain ⟨w0, HW0⟩ : ∃ w0, Hid (W.alloc (.cells (ccs c hv).toArray 28) = w0) := ⟨_, rfl⟩
  have HB0 : Hid (Box W c hv W.heap.size w0) := by rw [← HW0.out]; exact Box.new h
  have HV := Lib.hid (cvalid_any c hv w0 HB0.out.cal)
  have HOK := Lib.hid hok
  rw [hok] at HV
  have HD : Hid (∀ w, Calls Tryd.prog 56 #[.int .i64 d] w fun e w' => e = .returned (.bool true) ∧ w' = w) := fun w => by
    have h := isDay_any d w
    rwa [(isDay_iff d).2 ⟨hd, hd'⟩] at h
  clear h hok
  go_enter Tryd.func50, Tryd.ntmps50
  go_upto_region 1 with fail
  rw [HW0.out]
  clear HW0
  go_step
  refine load_rowG (by rfl) 28 _ rfl W.heap.size rfl 28 (ccs c hv).toArray (0, 0) _ HB0.out.bk Tryd.underlying28 rfl (info_cal c hv) ?_
  simp only [Act.put, List.setIfInBounds_toArray, List.set_cons_zero, List.set_cons_succ]
  go_wp2_with fail
  refine HV.out.mono ?_
  rintro e w1 ⟨rfl, hb1⟩
  have HB1 := Lib.hid (HB0.out.below hb1)
  clear hb1 HB0 HV
  go_wp2_with fail
  refine (HD.out w1).mono ?_
  rintro e w2 ⟨rfl, rfl⟩
  by_cases hz : n = 0
  · subst hz
    go_upto_region 4 with fail
    go_step
    refine load_rowG (by rfl) 28 _ rfl W.heap.size rfl 28 (ccs c hv).toArray (0, 0) _ HB1.out.bk Tryd.underlying28 rfl (info_cal c hv) ?_
    simp only [Act.put, List.setIfInBounds_toArray, List.set_cons_zero, List.set_cons_succ]
    have HS := Lib.hid (search_any c hv d 1 w2 HB1.out.cal HOK.out hd (by omega))
    have HE : Hid (search c d 1 = add c d 0) := by show _ = _; unfold add; rw [if_pos rfl]
    rw [HE.out] at HS
    go_wp2_with fail
    refine HS.out.mono ?_
    rintro e w3 ⟨rfl, hb3⟩
    have HBE : Hid (Below W.heap.size W w3) := (HB1.out.below hb3).be
    clear hb3 HS HE
    cases ha : add c d 0 with
    | none =>
      have HA := Lib.hid ha; clear ha
      dsimp only [srchv]
      go_wp2_with fail
      go_ret2
      exact ⟨by rw [HA.out]; rfl, HBE.out⟩
    | some r =>
      have HA := Lib.hid ha; clear ha
      dsimp only [srchv]
      go_wp2_with fail
      go_ret2
      exact ⟨by rw [HA.out]; rfl, HBE.out⟩
  · go_upto_region 5 with fail
    go_step
    refine load_rowG (by rfl) 28 _ rfl W.heap.size rfl 28 (ccs c hv).toArray (0, 0) _ HB1.out.bk Tryd.underlying28 rfl (info_cal c hv) ?_
    simp only [Act.put, List.setIfInBounds_toArray, List.set_cons_zero, List.set_cons_succ]
    have HS := Lib.hid (search_any c hv (d + 1) n w2 HB1.out.cal HOK.out (by omega) (by omega))
    have HE : Hid (search c (d + 1) n = add c d n) := by show _ = _; unfold add; rw [if_neg hz]
    rw [HE.out] at HS
    go_wp2_with fail
    refine HS.out.mono ?_
    rintro e w3 ⟨rfl, hb3⟩
    have HBE : Hid (Below W.heap.size W w3) := (HB1.out.below hb3).be
    clear hb3 HS HE
    cases ha : add c d n with
    | none =>
      have HA := Lib.hid ha; clear ha
      dsimp only [srchv]
      go_wp2_with fail
      go_ret2
      exact ⟨by rw [HA.out]; rfl, HBE.out⟩
    | some r =>
      have HA := Lib.hid ha; clear ha
      dsimp only [srchv]
      go_wp2_with fail
      go_ret2
      exact ⟨by rw [HA.out]; rfl, HBE.out⟩
set_option maxRecDepth 100000 in
theorem next_any (c : Cal) (hv : Value) (d : Int) (W : World) (h : CalAt W c hv) (hok : c.ok = true) (hd : 0 ≤ d) (hd' : d ≤ 73048) :
    Calls Tryd.prog 23 #[.agg (ccs c hv).toArray, .int .i64 d] W fun e w' => e = .returned (srchv (add c d 0)) ∧ Below W.heap.size W w' := by
  obtain ⟨w0, HW0⟩ : ∃ w0, Hid (W.alloc (.cells (ccs c hv).toArray 28) = w0) := ⟨_, rfl⟩
  have HB0 : Hid (Box W c hv W.heap.size w0) := by rw [← HW0.out]; exact Box.new h
  have HS := Lib.hid (add_any c hv d 0 w0 HB0.out.cal hok hd hd' (Int.le_refl _))
  clear h hok
  go_enter Tryd.func23, Tryd.ntmps23
  go_upto_region 1 with fail
  rw [HW0.out]
  clear HW0
  go_step
  refine load_rowG (by rfl) 28 _ rfl W.heap.size rfl 28 (ccs c hv).toArray (0, 0) _ HB0.out.bk Tryd.underlying28 rfl (info_cal c hv) ?_
  simp only [Act.put, List.setIfInBounds_toArray, List.set_cons_zero, List.set_cons_succ]
  go_wp2_with fail
  refine HS.out.mono ?_
  rintro e w3 ⟨rfl, hb3⟩
  have HBE : Hid (Below W.heap.size W w3) := (HB0.out.below hb3).be
  clear hb3 HS
  cases ha : add c d 0 with
  | none =>
    have HA := Lib.hid ha; clear ha
    dsimp only [srchv]
    go_wp2_with fail
    go_ret2
    exact ⟨by rw [HA.out]; rfl, HBE.out⟩
  | some r =>
    have HA := Lib.hid ha; clear ha
    dsimp only [srchv]
    go_wp2_with fail
    go_ret2
    exact ⟨by rw [HA.out]; rfl, HBE.out⟩
set_option maxRecDepth 100000 in
theorem business_any (c : Cal) (hv : Value) (d : Int) (W : World) (h : CalAt W c hv) (hok : c.ok = true) (hd : 0 ≤ d) (hd' : d ≤ 73048) :
    Calls Tryd.prog 32 #[.agg (ccs c hv).toArray, .int .i64 d] W fun e w' => e = .returned (.bool (biz c d)) ∧ Below W.heap.size W w' := by
  have HOK := Lib.hid hok
  have HCH : Hid (chain (-1) c.hol = true) := by unfold Cal.ok at hok; simp only [Bool.and_eq_true] at hok; exact hok.2
  have HL4 : Hid (c.hol.length ≤ 400) := by unfold Cal.ok at hok; simp only [Bool.and_eq_true, decide_eq_true_eq] at hok; exact hok.1.2
  obtain ⟨w0, HW0⟩ : ∃ w0, Hid (W.alloc (.cells (ccs c hv).toArray 28) = w0) := ⟨_, rfl⟩
  have HB0 : Hid (Box W c hv W.heap.size w0) := by rw [← HW0.out]; exact Box.new h
  have HV := Lib.hid (cvalid_any c hv w0 HB0.out.cal)
  rw [hok] at HV
  have HD : Hid (∀ w, Calls Tryd.prog 56 #[.int .i64 d] w fun e w' => e = .returned (.bool true) ∧ w' = w) := fun w => by
    have h := isDay_any d w
    rwa [(isDay_iff d).2 ⟨hd, hd'⟩] at h
  clear h hok
  obtain ⟨r, hr, hr7⟩ : ∃ r : Nat, d % 7 = (r : Int) ∧ r < 7 := ⟨(d % 7).toNat, by omega, by omega⟩
  have HBZ : Hid (biz c d = (!c.wk.getD r false && !c.hol.contains d)) := by show _ = _; unfold biz off; rw [hr]; rfl
  go_enter Tryd.func32, Tryd.ntmps32
  go_upto_region 1 with fail
  rw [HW0.out]
  clear HW0
  go_wp2_with fail
  refine (HD.out w0).mono ?_
  rintro e w2 ⟨rfl, rfl⟩
  have hcc := ccs_cells HB0.out.bk
  have k0 := hcc.1 0 (by omega); have k1 := hcc.1 1 (by omega); have k2 := hcc.1 2 (by omega); have k3 := hcc.1 3 (by omega); have k4 := hcc.1 4 (by omega); have k5 := hcc.1 5 (by omega); have k6 := hcc.1 6 (by omega); have k7 := hcc.2
  clear hcc
  go_wp2_with fail
  refine HV.out.mono ?_
  rintro e w1 ⟨rfl, hb1⟩
  have HB1 := Lib.hid (HB0.out.below hb1)
  clear hb1 HB0 HV
  clear k0 k1 k2 k3 k4 k5 k6 k7
  have HCC := Lib.hid (ccs_cells HB1.out.bk).1
  have c7 := (ccs_cells HB1.out.bk).2
  have cr := HCC.out r hr7
  cases hw : c.wk.getD r false
  · rw [hw] at cr HBZ
    obtain ⟨A, n, rfl, hn1, hn2, hcell⟩ := HB1.out.cal.slice
    have HBS := Lib.hid (bs_any c.hol A n d w1 (chain_sorted HCH.out) HL4.out (fun k y hk => by
      obtain ⟨g, o, e, hg, h⟩ := hcell k y hk
      exact ⟨g, o, e, h⟩))
    clear hcell
    go_wp2_with fail
    refine HBS.out.mono ?_
    rintro e w3 ⟨rfl, m, hw3⟩
    have HBE : Hid (Below W.heap.size W w3) := by rw [hw3]; exact below_drewN HB1.out.be m
    clear hw3 HBS cr
    cases hct : c.hol.contains d
    · rw [hct] at HBZ
      go_wp2_with fail
      go_ret
      exact ⟨by rw [HBZ.out]; rfl, HBE.out⟩
    · rw [hct] at HBZ
      go_wp2_with fail
      go_ret
      exact ⟨by rw [HBZ.out]; rfl, HBE.out⟩
  · rw [hw] at cr HBZ
    go_wp2_with fail
    go_ret
    exact ⟨by rw [HBZ.out]; rfl, HB1.out.be⟩
end Go.Proofs.YticlmkfifpkdpaaDoor.Dl
