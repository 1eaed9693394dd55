/-
  What the function small of the law returns.
-/
import Derived.Test.YtdhjibnkebbejaaDoorResView
import Derived.Test.YtdhjibnkebbejaaDoorBlk
import Derived.Test.YtdhjibnkebbejaaDoorResLook
import Derived.Test.YtdhjibnkebbejaaDoorReg
import Derived.Deep.WholeRow
namespace Go.Proofs.YtdhjibnkebbejaaDoor.Rs
open Go.RowKit Mem Vw
set_option linter.unusedVariables false
set_option linter.unusedSimpArgs false

theorem ic_oneS {W : World} {p : Item × Sl} (h : Flat W p.1 p.2.1 p.2.2.1 p.2.2.2.1) (hs : IsSlice p.2.2.2.2) : (ic p).toArray.all (·.oneCell') = true := by
  obtain ⟨x, sc, sd, sn, si⟩ := p
  dsimp only at h hs
  obtain ⟨_, _, _, rfl⟩ := h.conds.form
  obtain ⟨_, _, _, rfl⟩ := h.dates.form
  obtain ⟨_, _, _, rfl⟩ := h.names.form
  obtain ⟨_, _, _, rfl⟩ := hs
  simp [ic, icells, Value.oneCell', sv, nv]
theorem info_itemS : (Tryd.prog.info? 55).map (·.size) = some 33 := by kernel_rfl
theorem info_iclS (p : Item × Sl) : (Tryd.prog.info? 55).map (·.size) = some (ic p).toArray.size := info_itemS
structure SmallI (x : Item) : Prop where
  conds : x.conds.length ≤ 20
  dates : x.dates.length ≤ 500
  name : x.name.length ≤ 60
  of_ : x.of_.length ≤ 60
  act : x.act.length ≤ 60
  unit : x.unit.length ≤ 60
  to_ : x.to_.length ≤ 60
  give : x.give.length ≤ 60
  by_ : x.by_.length ≤ 60
  til : x.til.length ≤ 60
structure MRel2 (src : Source) (v : Value) (W : World) (k : Nat) (wr : World) : Prop where
  ba : Below W.heap.size W wr
  sb : wr.heap[W.heap.size]? = some (.cells (scells src.name src.frm src.days v).toArray 26 (0, 0))
  sm : ∀ j x, j < k → src.items[j]? = some x → SmallI x
set_option maxRecDepth 100000 in
set_option maxHeartbeats 8000000 in
theorem small_any (src : Source) (v : Value) (z : List (Item × Sl)) (W : World) (hz : Lies W z v) (hs : z.map Prod.fst = src.items) (hlen : z.length ≤ maxLen) :
    Calls Tryd.prog 11 #[.agg (scells src.name src.frm src.days v).toArray] W fun e w' => ∃ b : Bool, e = .returned (.bool b) ∧ (b = true → z.length ≤ 700 ∧ ∀ x ∈ src.items, SmallI x) ∧ Below W.heap.size W w' := by
  obtain ⟨Ai, ci, hv, hc1, hc2⟩ := hz.row.slice
  rw [List.length_map] at hv hc1
  have hzl : z.length ≤ 9223372036854775807 := by unfold maxLen at hlen; omega
  obtain ⟨w0, HW0⟩ : ∃ w0, Hid (W.alloc (.cells (scells src.name src.frm src.days v).toArray 26) = w0) := ⟨_, rfl⟩
  have HSB0 : Hid (w0.heap[W.heap.size]? = some (.cells (scells src.name src.frm src.days v).toArray 26 (0, 0))) := by rw [← HW0.out]; exact blk_newn rfl
  have HBA0 : Hid (Below W.heap.size W w0) := by rw [← HW0.out]; exact (Below.refl _ W).alloc (Nat.le_refl _) _
  have k3 : w0.cell? ⟨W.heap.size, 5, none⟩ = some v := cell_of_blk HSB0.out 5
  have HM0 : Hid (MRel2 src v W 0 w0) := ⟨HBA0.out, HSB0.out, fun j x h => absurd h (Nat.not_lt_zero _)⟩
  have HV := Lib.hid hv
  rw [hv] at k3
  have HZ := Lib.hid hz; have HS := Lib.hid hs; clear hz hs hv
  go_enter Tryd.func11, Tryd.ntmps11
  go_upto_region 1 with fail
  rw [HW0.out]
  have hsz : z.length ≤ 700 ∨ 700 < z.length := by omega
  rcases hsz with h700 | h700
  · go_wp2_with fail
    go_loopw [3] (fun i wr => ∃ k : Nat, i = .int .i64 ((k : Nat) : Int) ∧ k ≤ z.length ∧ MRel2 src v W k wr) (fun i _ => z.length - (intOf i).toNat)
    case atStart => exact ⟨0, rfl, Nat.zero_le _, HM0.out⟩
    case round =>
      clear HM0 k3
      obtain ⟨k, rfl, hk, hR⟩ := hrel
      have HR := Lib.hid hR; clear hR
      have k5 : wr.cell? ⟨W.heap.size, 5, none⟩ = some (.slice Ai z.length ci) := by
        rw [← HV.out]
        exact cell_of_blk HR.out.sb 5
      by_cases hlt : k < z.length
      · obtain ⟨g0, o, cap, hs1, hgl, _, _, hat⟩ := (HZ.out.below HR.out.ba).row.at (by intro e; rw [List.map_eq_nil_iff] at e; rw [e] at hlt; simp at hlt)
        have hAi : Ai = some ⟨g0, o, none⟩ := by have := HV.out.symm.trans hs1; injection this
        subst hAi
        obtain ⟨p, hp⟩ : ∃ p, z[k]? = some p := ⟨_, List.getElem?_eq_getElem hlt⟩
        have HAT : Hid (At wr g0 (o + k * 33) (ic p)) := hat k _ (by rw [List.getElem?_map, hp]; rfl)
        have hfl := HZ.out.flat p (List.mem_of_getElem? hp)
        have HONE : Hid ((ic p).toArray.all (·.oneCell') = true) := ic_oneS hfl.1 hfl.2
        have HPK : Hid (src.items[k]? = some p.1) := by show _ = _; rw [← HS.out, List.getElem?_map, hp]; rfl
        obtain ⟨Ac, cc, hcs, _, _⟩ := hfl.1.conds
        obtain ⟨Ad, cd, hds, _, _⟩ := hfl.1.dates
        rw [List.length_map] at hcs hds
        clear hat hs1 hfl hgl hp
        have i1 : (0 : Int) ≤ (k : Int) := Int.natCast_nonneg _
        have i2 : (k : Int) < (z.length : Int) := by omega
        go_upto_region 6 with fail
        iterate 13 go_step
        refine wpList_load_mid rfl 55 _ rfl g0 (o + k * 33) rfl (ic p) _ HAT.out Tryd.underlying55 rfl info_itemS ?_
        simp only [Act.put, List.setIfInBounds_toArray, List.set_cons_zero, List.set_cons_succ]
        iterate 3 go_step
        refine wpList_store_row rfl 55 _ _ rfl wr.heap.size (ic p).toArray rfl rfl 55 _ (blk_newn rfl) (info_iclS p) rfl HONE.out ?_
        simp only [Act.put, List.setIfInBounds_toArray, List.set_cons_zero, List.set_cons_succ]
        rw [World.setRow_alloc_new]
        obtain ⟨u, hu⟩ : ∃ u, wr.alloc (.cells (ic p).toArray 55) = u := ⟨_, rfl⟩
        rw [hu]
        have hb : u.heap[wr.heap.size]? = some (.cells (ic p).toArray 55 (0, 0)) := by rw [← hu]; exact blk_newn rfl
        have HU : Hid (MRel2 src v W k u) := by rw [← hu]; exact ⟨HR.out.ba.alloc HR.out.ba.size _, blk_alloc HR.out.sb _, HR.out.sm⟩
        clear hu HR k5 HAT HONE HZ
        obtain ⟨x, sc, sd, sn, si⟩ := p
        dsimp only at hcs hds HPK hb
        subst hcs
        subst hds
        have c13 : u.cell? ⟨wr.heap.size, 13, none⟩ = some (.slice Ac x.conds.length cc) := cell_of_blk hb 13
        have c30 : u.cell? ⟨wr.heap.size, 30, none⟩ = some (.slice Ad x.dates.length cd) := cell_of_blk hb 30
        have c1 : u.cell? ⟨wr.heap.size, 1, none⟩ = some (.string ⟨x.name.toArray⟩) := cell_of_blk hb 1
        have c3 : u.cell? ⟨wr.heap.size, 3, none⟩ = some (.string ⟨x.of_.toArray⟩) := cell_of_blk hb 3
        have c4 : u.cell? ⟨wr.heap.size, 4, none⟩ = some (.string ⟨x.act.toArray⟩) := cell_of_blk hb 4
        have c18 : u.cell? ⟨wr.heap.size, 18, none⟩ = some (.string ⟨x.unit.toArray⟩) := cell_of_blk hb 18
        have c22 : u.cell? ⟨wr.heap.size, 22, none⟩ = some (.string ⟨x.to_.toArray⟩) := cell_of_blk hb 22
        have c21 : u.cell? ⟨wr.heap.size, 21, none⟩ = some (.string ⟨x.give.toArray⟩) := cell_of_blk hb 21
        have c14 : u.cell? ⟨wr.heap.size, 14, none⟩ = some (.string ⟨x.by_.toArray⟩) := cell_of_blk hb 14
        have c15 : u.cell? ⟨wr.heap.size, 15, none⟩ = some (.string ⟨x.til.toArray⟩) := cell_of_blk hb 15
        clear hb
        go_wp2_with fail
        all_goals (first | (go_ret; exact .inl ⟨rfl, HU.out.ba⟩) | (go_ret; exact ⟨false, rfl, (fun h => absurd h (by simp)), HU.out.ba⟩) | skip)
        · refine ⟨⟨k + 1, by go_num, by omega, HU.out.ba, HU.out.sb, fun j y hj hy => ?_⟩, by simp [intOf]; omega⟩
          by_cases hjk : j = k
          · subst hjk
            have e : y = x := Option.some.inj (hy.symm.trans HPK.out)
            subst e
            exact ⟨by omega, by omega, by omega, by omega, by omega, by omega, by omega, by omega, by omega, by omega⟩
          · exact HU.out.sm j y (by omega) hy
      · go_wp2_with fail
        go_ret
        refine ⟨true, rfl, fun _ => ⟨h700, fun x hx => ?_⟩, HR.out.ba⟩
        obtain ⟨j, hj⟩ := List.getElem?_of_mem hx
        have hl : j < src.items.length := (List.getElem?_eq_some_iff.1 hj).1
        have hl2 : z.length = src.items.length := by rw [← HS.out, List.length_map]
        exact HR.out.sm j x (by omega) hj
  · go_wp2_with fail
    go_ret
    exact ⟨false, rfl, fun h => absurd h (by simp), HBA0.out⟩
end Go.Proofs.YtdhjibnkebbejaaDoor.Rs
