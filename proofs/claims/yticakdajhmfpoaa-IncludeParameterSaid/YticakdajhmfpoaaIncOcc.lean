/-
  Include: whether a name occurs in a template.
-/
import Derived.Test.YticakdajhmfpoaaIncSame
import Derived.Test.YticakdajhmfpoaaIncGuard
import Derived.Test.YticakdajhmfpoaaIncLaws3
namespace Go.Proofs.Yticakdajhmfpoaa.Ic
open Go.RowKit Mem Vw Rs
set_option linter.unusedVariables false
set_option linter.unusedSimpArgs false

theorem rindex_neg {l : List Rs.Bytes} {n : Rs.Bytes} (hn : n ≠ []) (h : ¬ 0 ≤ rindex l n) : n ∉ l := fun hm => by
  obtain ⟨j, hj⟩ := List.getElem?_of_mem hm
  unfold rindex at h
  rw [if_neg hn] at h
  cases e : l.findIdx? (· == n) with
  | some k => rw [e] at h; exact h (Int.natCast_nonneg k)
  | none =>
    rw [List.findIdx?_eq_none_iff] at e
    have := e n hm
    simp at this
/-- A name does not occur in an item. -/
def FreeI (g : Rs.Bytes) (x : Rs.Item) : Prop := x.of_ ≠ g ∧ x.act ≠ g ∧ x.by_ ≠ g ∧ x.til ≠ g ∧ x.unit ≠ g ∧ x.sum ≠ g ∧ x.to_ ≠ g ∧ x.within.name ≠ g ∧ x.grace.name ≠ g ∧ (∀ n ∈ x.names, n ≠ g) ∧ ∀ k ∈ x.conds, k.name ≠ g
theorem free_of {g : Rs.Bytes} {h : Rs.Item} {c d n i : Value} {l : List DT} (h1 : g ∉ h.names) (h2 : ∀ y ∈ l, FreeI g y.h) : Free g (DT.node h c d n i l).tree := ⟨by rw [DT.tree_h]; exact h1, fun y hy => by
  rw [DT.tree_l] at hy
  obtain ⟨z, hz, rfl⟩ := List.mem_map.1 hy
  rw [DT.tree_h]
  exact h2 z hz⟩
set_option maxRecDepth 100000 in
set_option maxHeartbeats 16000000 in
theorem occ_any {B : Nat → Prop} (t : DT) (nm : Rs.Bytes) (W : World) (hy : Lay B W t) (hn : nm ≠ []) (hcl : ∀ y ∈ t.l, ∀ c ∈ y.h.conds, c.name.length ≤ maxLen) :
    Calls Try.prog 17 #[.agg t.cells.toArray, .string ⟨nm.toArray⟩] W fun e w' => ∃ b, e = .returned (.bool b) ∧ Fr (fun _ => False) W w' ∧ (b = false → Free nm t.tree) := by
  obtain ⟨w0, HW0⟩ : ∃ w0, Hid (W.alloc (.cells t.cells.toArray 41) = w0) := ⟨_, rfl⟩
  have HF0 : Hid (Fr (fun _ => False) W w0) := by rw [← HW0.out]; exact (Fr.refl _ W).alloc _
  have HB : Hid (w0.heap[W.heap.size]? = some (.cells t.cells.toArray 41 (0, 0))) := by rw [← HW0.out]; exact blk_newn rfl
  have hL := hy.fr HF0.out (fun _ _ h => h)
  obtain ⟨h, c, d, n, i, l⟩ := t
  have HNA : Hid (Row w0 n 1 (h.names.map fun x => [sv x])) := hL.names.1
  have HIA : Hid (LayL B w0 l i) := hL.items
  obtain ⟨A, ci, e8, hia, hib⟩ := hL.items.slice
  obtain ⟨An, cn, e6, hna, _⟩ := hL.names.1
  simp only [DT.n, DT.i, DT.l, DT.h, List.length_map] at e6 e8
  subst e6; subst e8
  have HN := Lib.hid hn
  have HCL : Hid (∀ y ∈ l, ∀ c ∈ y.h.conds, c.name.length ≤ maxLen) := hcl
  have HFREE : Hid (nm ∉ h.names → (∀ y ∈ l, FreeI nm y.h) → Free nm (DT.node h c d (.slice An h.names.length cn) (.slice A l.length ci) l).tree) := free_of
  have hzl : l.length ≤ 9223372036854775807 := Nat.le_trans hia hib
  show Calls _ _ #[.agg (icells h c d (.slice An h.names.length cn) (.slice A l.length ci)).toArray, .string ⟨nm.toArray⟩] _ _
  have HW0 : Hid (W.alloc (.cells (icells h c d (.slice An h.names.length cn) (.slice A l.length ci)).toArray 41) = w0) := HW0
  have HB : Hid (w0.heap[W.heap.size]? = some (.cells (icells h c d (.slice An h.names.length cn) (.slice A l.length ci)).toArray 41 (0, 0))) := HB
  obtain ⟨gt, HGT⟩ : ∃ g, Hid (W.heap.size = g) := ⟨_, rfl⟩
  rw [HGT.out] at HB
  have x31 : w0.cell? ⟨gt, 31, none⟩ = some (.slice An h.names.length cn) := (cell_of_blk HB.out 31).trans rfl
  clear hy hn hcl hL hia hib hna
  go_enter Try.func17, Try.ntmps17
  go_upto_region 1 with fail
  rw [HW0.out, HGT.out]
  clear HW0
  go_wp2_with fail
  refine (rindex_any h.names _ nm _ HNA.out).mono ?_
  rintro e w1 ⟨rfl, rfl⟩
  obtain ⟨r, hr⟩ : ∃ r, rindex h.names nm = r := ⟨_, rfl⟩
  rw [hr]
  have HR := Lib.hid hr
  clear hr x31
  by_cases hr0 : 0 ≤ r
  · go_wp2_with fail
    go_ret
    exact ⟨true, rfl, HF0.out, fun e => by cases e⟩
  · have HNO : Hid (nm ∉ h.names) := rindex_neg HN.out (by rw [HR.out]; exact hr0)
    go_wp2_with fail
    go_loopw [5] (fun i wr => ∃ j : Nat, i = .int .i64 j ∧ j ≤ l.length ∧ Hid (Fr (fun _ => False) w1 wr) ∧ Hid (∀ y ∈ l.take j, FreeI nm y.h)) (fun i _ => l.length - (intOf i).toNat)
    case atStart => exact ⟨0, rfl, Nat.zero_le _, Fr.refl _ _, Lib.hid (fun y hy => by simp at hy)⟩
    case round =>
      clear hr0
      obtain ⟨j, rfl, hj, HF, HFR⟩ := hrel
      have i1 : (0 : Int) ≤ (j : Int) := Int.natCast_nonneg _
      have x32 : wr.cell? ⟨gt, 32, none⟩ = some (.slice A l.length ci) := (cell_of_blk (HF.out.blk HB.out (fun e => e)) 32).trans rfl
      by_cases hlt : j < l.length
      · have i2 : (j : Int) < (l.length : Int) := by omega
        obtain ⟨y, hy⟩ : ∃ y, l[j]? = some y := ⟨_, List.getElem?_eq_getElem hlt⟩
        have HLr : Hid (LayL B wr l (.slice A l.length ci)) := HIA.out.fr HF.out (fun _ _ h => h)
        obtain ⟨g, o, hA, hg, _, hat⟩ := HLr.out.at hy
        subst hA
        have HAT := Lib.hid hat
        have HM : Hid (y ∈ l) := List.mem_of_getElem? hy
        have HLX : Hid (Lay B wr y) := HLr.out.lay y HM.out
        have HY := Lib.hid hy
        have HLT := Lib.hid hlt
        clear hat hg hy hlt
        go_upto_region 6 with fail
        iterate 13 go_step
        refine wpList_load_mid rfl 41 _ rfl g (o + j * 33) rfl y.cells _ HAT.out Try.underlying41 rfl (info_itl y) ?_
        simp only [Act.put, List.setIfInBounds_toArray, List.set_cons_zero, List.set_cons_succ]
        iterate 3 go_step
        refine wpList_store_row rfl 41 _ _ rfl wr.heap.size y.cells.toArray rfl rfl 41 _ (blk_newn rfl) (info_it y) (cells_size y).symm HLX.out.one ?_
        simp only [Act.put, List.setIfInBounds_toArray, List.set_cons_zero, List.set_cons_succ]
        rw [World.setRow_alloc_new]
        obtain ⟨u, hu⟩ : ∃ u, wr.alloc (.cells y.cells.toArray 41) = u := ⟨_, rfl⟩
        rw [hu]
        obtain ⟨gq, hgq⟩ : ∃ g, wr.heap.size = g := ⟨_, rfl⟩
        have HFU1 : Hid (Fr (fun _ => False) wr u) := by rw [← hu]; exact (Fr.refl _ wr).alloc _
        have HYB : Hid (u.heap[gq]? = some (.cells y.cells.toArray 41 (0, 0))) := by rw [← hu]; exact blk_newn hgq.symm
        rw [hgq]
        clear hu hgq x32
        have HLU : Hid (Lay B u y) := HLX.out.fr HFU1.out (fun _ _ h => h)
        have HFU : Hid (Fr (fun _ => False) w1 u) := HF.out.trans HFU1.out
        obtain ⟨xh, xc, xd, xn, xi, xl⟩ := y
        have HXN : Hid (Row u xn 1 (xh.names.map fun x => [sv x])) := HLU.out.names.1
        have HXC : Hid (Row u xc 2 (xh.conds.map namedc)) := HLU.out.conds.1
        obtain ⟨Bn, bn, e6, hbn, _⟩ := HLU.out.names.1
        obtain ⟨Bc, bc, e7, hbc, _⟩ := HLU.out.conds.1
        simp only [DT.n, DT.c, DT.h, List.length_map] at e6 e7
        subst e6; subst e7
        have hzc := HLU.out.conds.1.len
        rw [List.length_map] at hzc
        have hzc : xh.conds.length ≤ 9223372036854775807 := hzc
        have HYB : Hid (u.heap[gq]? = some (.cells (icells xh (.slice Bc xh.conds.length bc) xd (.slice Bn xh.names.length bn) xi).toArray 41 (0, 0))) := HYB
        have c1 : u.cell? ⟨gq, 1, none⟩ = some (.string ⟨xh.name.toArray⟩) := (cell_of_blk HYB.out 1).trans rfl
        have c3 : u.cell? ⟨gq, 3, none⟩ = some (.string ⟨xh.of_.toArray⟩) := (cell_of_blk HYB.out 3).trans rfl
        have c4 : u.cell? ⟨gq, 4, none⟩ = some (.string ⟨xh.act.toArray⟩) := (cell_of_blk HYB.out 4).trans rfl
        have c14 : u.cell? ⟨gq, 14, none⟩ = some (.string ⟨xh.by_.toArray⟩) := (cell_of_blk HYB.out 14).trans rfl
        have c15 : u.cell? ⟨gq, 15, none⟩ = some (.string ⟨xh.til.toArray⟩) := (cell_of_blk HYB.out 15).trans rfl
        have c18 : u.cell? ⟨gq, 18, none⟩ = some (.string ⟨xh.unit.toArray⟩) := (cell_of_blk HYB.out 18).trans rfl
        have c19 : u.cell? ⟨gq, 19, none⟩ = some (.string ⟨xh.sum.toArray⟩) := (cell_of_blk HYB.out 19).trans rfl
        have c22 : u.cell? ⟨gq, 22, none⟩ = some (.string ⟨xh.to_.toArray⟩) := (cell_of_blk HYB.out 22).trans rfl
        have c9 : u.cell? ⟨gq, 9, none⟩ = some (.string ⟨xh.within.name.toArray⟩) := (cell_of_blk HYB.out 9).trans rfl
        have c12 : u.cell? ⟨gq, 12, none⟩ = some (.string ⟨xh.grace.name.toArray⟩) := (cell_of_blk HYB.out 12).trans rfl
        have c31 : u.cell? ⟨gq, 31, none⟩ = some (.slice Bn xh.names.length bn) := (cell_of_blk HYB.out 31).trans rfl
        have c13 : u.cell? ⟨gq, 13, none⟩ = some (.slice Bc xh.conds.length bc) := (cell_of_blk HYB.out 13).trans rfl
        clear hbn hbc
        cases t1 : (xh.name == nm)
        · cases t3 : (xh.of_ == nm)
          · cases t4 : (xh.act == nm)
            · cases t14 : (xh.by_ == nm)
              · cases t15 : (xh.til == nm)
                · cases t18 : (xh.unit == nm)
                  · cases t19 : (xh.sum == nm)
                    · cases t22 : (xh.to_ == nm)
                      · cases t9 : (xh.within.name == nm)
                        · cases t12 : (xh.grace.name == nm)
                          · go_wp2_with fail
                            refine (rindex_any xh.names _ nm _ HXN.out).mono ?_
                            rintro e w2 ⟨rfl, rfl⟩
                            obtain ⟨r2, hr2⟩ : ∃ r, rindex xh.names nm = r := ⟨_, rfl⟩
                            rw [hr2]
                            have HR2 := Lib.hid hr2
                            clear hr2
                            by_cases hr1 : 0 ≤ r2
                            · go_wp2_with fail
                              go_ret
                              exact ⟨true, rfl, HF0.out.trans HFU.out, fun e => by cases e⟩
                            · have HNO2 : Hid (nm ∉ xh.names) := rindex_neg HN.out (by rw [HR2.out]; exact hr1)
                              have HALL : Hid ((∀ k ∈ xh.conds, k.name ≠ nm) → FreeI nm xh) := fun hk => ⟨by intro e; rw [e] at t3; simp at t3, by intro e; rw [e] at t4; simp at t4, by intro e; rw [e] at t14; simp at t14, by intro e; rw [e] at t15; simp at t15, by intro e; rw [e] at t18; simp at t18, by intro e; rw [e] at t19; simp at t19, by intro e; rw [e] at t22; simp at t22, by intro e; rw [e] at t9; simp at t9, by intro e; rw [e] at t12; simp at t12, fun n hn e => HNO2.out (e ▸ hn), hk⟩
                              clear c1 t1 c3 t3 c4 t4 c14 t14 c15 t15 c18 t18 c19 t19 c22 t22 c9 t9 c12 t12 c31
                              go_wp2_with fail
                              go_loopw [7] (fun i wk => ∃ k : Nat, i = .int .i64 k ∧ k ≤ xh.conds.length ∧ wk = w2 ∧ Hid (∀ c ∈ xh.conds.take k, c.name ≠ nm)) (fun i _ => xh.conds.length - (intOf i).toNat)
                              case atStart => exact ⟨0, rfl, Nat.zero_le _, rfl, Lib.hid (fun y hy => by simp at hy)⟩
                              case round =>
                                clear hr1
                                obtain ⟨k, rfl, hk, rfl, HKR⟩ := hrel
                                have k1 : (0 : Int) ≤ (k : Int) := Int.natCast_nonneg _
                                by_cases hkl : k < xh.conds.length
                                · have k2 : (k : Int) < (xh.conds.length : Int) := by omega
                                  obtain ⟨z, hz⟩ : ∃ z, xh.conds[k]? = some z := ⟨_, List.getElem?_eq_getElem hkl⟩
                                  obtain ⟨g1, o1, q1, e1, _, _, _, hat⟩ := HXC.out.at (by intro e; rw [List.map_eq_nil_iff] at e; rw [e] at hkl; simp at hkl)
                                  have hA : Bc = some ⟨g1, o1, none⟩ := by injection e1
                                  subst hA
                                  have kc : World.cell? _ ⟨g1, o1 + k * 2, none⟩ = some (.string ⟨z.name.toArray⟩) := hat k (namedc z) (by rw [List.getElem?_map, hz]; rfl) 0 _ rfl
                                  have HZ := Lib.hid hz
                                  have HZL : Hid (z.name.length ≤ maxLen) := HCL.out _ HM.out z (List.mem_of_getElem? hz)
                                  have HKL := Lib.hid hkl
                                  clear hat e1 hz hkl
                                  cases hz1 : (z.name == nm)
                                  · go_wp2_with fail
                                    refine (rfirst_any z.name _ HZL.out).mono ?_
                                    rintro e w3 ⟨rfl, rfl⟩
                                    obtain ⟨q, HQ⟩ : ∃ q, Hid (rfirst z.name = q) := ⟨_, rfl⟩
                                    rw [HQ.out]
                                    cases hz2 : (q == nm)
                                    · go_wp2_with fail
                                      go_roundw
                                      case rel =>
                                        refine ⟨k + 1, by go_num, HKL.out, by first | trivial | rfl, Lib.hid fun c hc => ?_⟩
                                        rw [List.take_add_one, HZ.out] at hc
                                        rcases List.mem_append.1 hc with hc | hc
                                        · exact HKR.out c hc
                                        · simp only [Option.toList, List.mem_singleton] at hc
                                          rw [hc]; intro e; rw [e] at hz1; simp at hz1
                                      case measure => have := HKL.out; simp [intOf]; omega
                                    · go_wp2_with fail
                                      go_ret
                                      exact ⟨true, rfl, HF0.out.trans HFU.out, fun e => by cases e⟩
                                  · go_wp2_with fail
                                    go_ret
                                    exact ⟨true, rfl, HF0.out.trans HFU.out, fun e => by cases e⟩
                                · obtain rfl : k = xh.conds.length := by omega
                                  rw [List.take_length] at HKR
                                  go_wp2_with fail
                                  go_roundw
                                  case rel =>
                                    refine ⟨j + 1, by go_num, HLT.out, HFU.out, Lib.hid fun y hy => ?_⟩
                                    rw [List.take_add_one, HY.out] at hy
                                    rcases List.mem_append.1 hy with hy | hy
                                    · exact HFR.out y hy
                                    · simp only [Option.toList, List.mem_singleton] at hy
                                      rw [hy]; exact HALL.out HKR.out
                                  case measure => have := HLT.out; simp [intOf]; omega
                          · go_wp2_with fail
                            go_ret
                            exact ⟨true, rfl, HF0.out.trans HFU.out, fun e => by cases e⟩
                        · go_wp2_with fail
                          go_ret
                          exact ⟨true, rfl, HF0.out.trans HFU.out, fun e => by cases e⟩
                      · go_wp2_with fail
                        go_ret
                        exact ⟨true, rfl, HF0.out.trans HFU.out, fun e => by cases e⟩
                    · go_wp2_with fail
                      go_ret
                      exact ⟨true, rfl, HF0.out.trans HFU.out, fun e => by cases e⟩
                  · go_wp2_with fail
                    go_ret
                    exact ⟨true, rfl, HF0.out.trans HFU.out, fun e => by cases e⟩
                · go_wp2_with fail
                  go_ret
                  exact ⟨true, rfl, HF0.out.trans HFU.out, fun e => by cases e⟩
              · go_wp2_with fail
                go_ret
                exact ⟨true, rfl, HF0.out.trans HFU.out, fun e => by cases e⟩
            · go_wp2_with fail
              go_ret
              exact ⟨true, rfl, HF0.out.trans HFU.out, fun e => by cases e⟩
          · go_wp2_with fail
            go_ret
            exact ⟨true, rfl, HF0.out.trans HFU.out, fun e => by cases e⟩
        · go_wp2_with fail
          go_ret
          exact ⟨true, rfl, HF0.out.trans HFU.out, fun e => by cases e⟩
      · obtain rfl : j = l.length := by omega
        rw [List.take_length] at HFR
        go_wp2_with fail
        go_ret
        exact ⟨false, rfl, HF0.out.trans HF.out, fun _ => HFREE.out HNO.out HFR.out⟩
end Go.Proofs.Yticakdajhmfpoaa.Ic
