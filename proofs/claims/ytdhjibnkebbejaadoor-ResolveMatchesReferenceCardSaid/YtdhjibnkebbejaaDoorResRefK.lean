/-
  What the reference's function unknown returns.
-/
import Derived.Test.YtdhjibnkebbejaaDoorResRefN
import Derived.Test.YtdhjibnkebbejaaDoorReg2
namespace Go.Proofs.YtdhjibnkebbejaaDoor.Rs
open Go.RowKit Mem Vw
set_option linter.unusedVariables false
set_option linter.unusedSimpArgs false

theorem rix_has2 (t : Tab) (g : Nat) (x : Bytes) : (has t g x = true ∧ 0 ≤ rix t g x) ∨ (has t g x = false ∧ rix t g x = -1) := by
  unfold has rix
  cases find t g x with
  | none => exact .inr ⟨rfl, rfl⟩
  | some i => exact .inl ⟨rfl, Int.natCast_nonneg _⟩
theorem needs_lt (x : Item) : ∀ p ∈ needs x, p.1 < 6 := by
  intro p hp
  unfold needs opt at hp
  repeat' split at hp
  all_goals (simp only [List.mem_append, List.mem_cons, List.mem_map, List.not_mem_nil, or_false, false_or, List.nil_append, List.append_nil] at hp)
  all_goals first
    | (rcases hp with hp | hp | hp | hp | hp | hp | hp | hp | hp <;> first | (subst hp; decide) | (obtain ⟨_, _, rfl⟩ := hp; decide))
    | (rcases hp with (((((hp | hp) | hp) | hp) | hp) | hp | hp) <;> first | (subst hp; decide) | (obtain ⟨_, _, rfl⟩ := hp; decide))
    | grind
set_option maxRecDepth 100000 in
set_option maxHeartbeats 8000000 in
theorem runknown_any (t : Tab) (vs : List Value) (p : Item × Sl) (W : World) (h : TV W t vs) (hrow : Row W p.2.1 2 (p.1.conds.map namedc)) (hlen : p.1.conds.length ≤ 1000000) :
    Calls Tryd.prog 33 #[.agg vs.toArray, .agg (ic p).toArray] W fun e w' => e = .returned (.bool (unknown t p.1)) ∧ Fr (fun _ => False) W w' := by
  have HNEE : Hid (∀ W', Fr (fun _ => False) W W' → Calls Tryd.prog 54 #[.agg (ic p).toArray] W' fun e w' => ∃ v, e = .returned v ∧ w'.ownsRow W'.heap.size 141 2 v (needs p.1).length ((needs p.1).flatMap needv) ∧ Fr (fun _ => False) W' w') := fun W' hf => rneeds_any p W' (hrow.below (hf.below (Nat.le_refl _) (fun _ h => h.elim))) hlen
  clear hrow hlen
  obtain ⟨x, sc, sd, sn, sx⟩ := p
  dsimp only at HNEE ⊢
  obtain ⟨u, hu⟩ : ∃ u, (W.alloc (.cells vs.toArray 100)).alloc (.cells (ic (x, sc, sd, sn, sx)).toArray 55) = u := ⟨_, rfl⟩
  have HX : Hid (u.heap[W.heap.size]? = some (.cells vs.toArray 100 (0, 0))) := by rw [← hu]; exact blk_alloc (blk_newn rfl) _
  have HY : Hid (u.heap[W.heap.size + 1]? = some (.cells (ic (x, sc, sd, sn, sx)).toArray 55 (0, 0))) := by rw [← hu]; exact blk_newn (by simp)
  have HFR : Hid (Fr (fun _ => False) W u) := by rw [← hu]; exact ((Fr.refl _ W).alloc _).alloc _
  have HU := Lib.hid hu
  have HT := Lib.hid h
  have HIX : Hid (∀ (g : Nat) (y : Bytes) (W' : World), g < 6 → Fr (fun _ => False) u W' → Calls Tryd.prog 34 #[.agg vs.toArray, .int .i64 (g : Int), .string ⟨y.toArray⟩] W' fun e w' => e = .returned (.int .i64 (rix t g y)) ∧ Fr (fun _ => False) W' w') := fun g y W' hg hb => rindex_any t vs g y W' hg ((HT.out.frb HFR.out).frb hb)
  have HK0 : Hid (u.cell? ⟨W.heap.size + 1, 0, none⟩ = some (.int .i64 x.kind)) := (cell_of_blk HY.out 0).trans rfl
  have HK9 : Hid (u.cell? ⟨W.heap.size + 1, 9, none⟩ = some (.string ⟨x.within.name.toArray⟩)) := (cell_of_blk HY.out 9).trans rfl
  have HK12 : Hid (u.cell? ⟨W.heap.size + 1, 12, none⟩ = some (.string ⟨x.grace.name.toArray⟩)) := (cell_of_blk HY.out 12).trans rfl
  have HK19 : Hid (u.cell? ⟨W.heap.size + 1, 19, none⟩ = some (.string ⟨x.sum.toArray⟩)) := (cell_of_blk HY.out 19).trans rfl
  obtain ⟨r, hr⟩ : ∃ r, unknown t x = r := ⟨_, rfl⟩
  rw [hr]
  have HR := Lib.hid hr
  obtain ⟨l, hl⟩ : ∃ l, needs x = l := ⟨_, rfl⟩
  rw [hl] at HNEE
  have HL := Lib.hid hl
  have HLT : Hid (∀ p ∈ l, p.1 < 6) := by rw [← hl]; exact needs_lt x
  clear hu h hr hl
  go_enter Tryd.func33, Tryd.ntmps33
  go_upto_region 1 with fail
  rw [HU.out]
  clear HU
  iterate 1 go_step
  refine wpList_load_row rfl 55 _ rfl (W.heap.size + 1) rfl 55 (ic (x, sc, sd, sn, sx)).toArray (0, 0) _ HY.out Tryd.underlying55 rfl (by kernel_rfl) ?_
  simp only [Act.put, List.setIfInBounds_toArray, List.set_cons_zero, List.set_cons_succ]
  have HCL := Lib.hid (HNEE.out u HFR.out)
  go_wp2_with fail
  refine HCL.out.mono ?_
  rintro e w1 ⟨v, rfl, ho, hf⟩
  have HROW : Hid (Row w1 v 2 (l.map needv)) := Row.of_own ho (fun _ _ => rfl)
  have HF1 := Lib.hid hf
  obtain ⟨A, c, hv, hle, hle2⟩ := HROW.out.slice
  rw [List.length_map] at hv hle
  subst hv
  have hll : l.length ≤ 9223372036854775807 := by omega
  clear ho hf HCL hle hle2
  go_wp2_with fail
  go_loopw [6] (fun vi wr => ∃ i : Nat, vi = .int .i64 (i : Int) ∧ i ≤ l.length ∧ Hid (Fr (fun _ => False) w1 wr) ∧ Hid ((l.take i).any (fun p => !has t p.1 p.2) = false)) (fun vi _ => l.length - (intOf vi).toNat)
  case atStart => exact ⟨0, rfl, Nat.zero_le _, Fr.refl _ _, rfl⟩
  case round =>
    obtain ⟨i, rfl, hi, HF, HANY⟩ := hrel
    have i1 : (0 : Int) ≤ (i : Int) := Int.natCast_nonneg _
    have HFu : Hid (Fr (fun _ => False) u wr) := HF1.out.trans HF.out
    by_cases hlt : i < l.length
    · have i2 : (i : Int) < (l.length : Int) := by omega
      obtain ⟨gc, oc, capc, hs1, hgl, _, _, hat⟩ := (HROW.out.below (HF.out.below (Nat.le_refl _) (fun _ h => h.elim))).at (by intro e; rw [List.map_eq_nil_iff] at e; rw [e] at hlt; simp at hlt)
      have hAc : A = some ⟨gc, oc, none⟩ := by injection hs1
      subst hAc
      obtain ⟨q, hq⟩ : ∃ q, l[i]? = some q := ⟨_, List.getElem?_eq_getElem hlt⟩
      have hck : At wr gc (oc + i * 2) (needv q) := hat i _ (by rw [List.getElem?_map, hq]; rfl)
      have HQ0 : Hid (wr.cell? ⟨gc, oc + i * 2, none⟩ = some (.int .i64 (q.1 : Int))) := hck.cell 0 rfl
      have HQ1 : Hid (wr.cell? ⟨gc, oc + i * 2 + 1, none⟩ = some (.string ⟨q.2.toArray⟩)) := hck.cell 1 rfl
      have HQ := Lib.hid hq
      have HQL : Hid (q.1 < 6) := HLT.out q (List.mem_of_getElem? hq)
      have HXr : Hid (wr.heap[W.heap.size]? = some (.cells vs.toArray 100 (0, 0))) := HFu.out.blk HX.out (fun h => h)
      clear hat hck hs1 hgl hq
      go_upto_region 5 with fail
      have HFD : Hid (Fr (fun _ => False) wr wr.drew) := (Fr.refl _ wr).drew
      refine Reg.G.start (by kernel_rfl) ?_
      refine' Reg.G.take (i := 0) (v := _) (F := (fun w => Fr (fun _ => False) wr w)) rfl (by rfl) (by kernel_rfl) (by kernel_rfl) (by kernel_rfl) (fun _ _ _ h => h) (HFD.out) ?hyk1 ?rehyk1
      case hyk1 => intro w hw; refine run_load_row (P := Tryd.prog) 100 (.tmp 2) ?_ W.heap.size ?_ 100 vs.toArray _ (hw.blk HXr.out (fun h => h)) Tryd.underlying100 rfl (by rw [show vs.toArray.size = 6 from HT.out.len]; kernel_rfl) <;> rfl
      simp only [Act.put, List.setIfInBounds_toArray, List.set_cons_zero, List.set_cons_succ]
      refine' Reg.G.pure (i := 1) (v := _) rfl (by rfl) (by kernel_rfl) (by kernel_rfl) (by kernel_rfl) (fun _ _ _ h => h) ?hyk2 ?rehyk2
      case hyk2 => exact fun w => by first | (go_simp; done) | (go_simp; with_reducible rfl)
      simp only [Act.put, List.setIfInBounds_toArray, List.set_cons_zero, List.set_cons_succ]
      refine' Reg.G.pure (i := 2) (v := _) rfl (by rfl) (by kernel_rfl) (by kernel_rfl) (by kernel_rfl) (fun _ _ _ h => h) ?hyk3 ?rehyk3
      case hyk3 => exact fun w => by first | (go_simp; done) | (go_simp; with_reducible rfl)
      simp only [Act.put, List.setIfInBounds_toArray, List.set_cons_zero, List.set_cons_succ]
      refine' Reg.G.pure (i := 3) (v := _) rfl (by rfl) (by kernel_rfl) (by kernel_rfl) (by kernel_rfl) (fun _ _ _ h => h) ?hyk4 ?rehyk4
      case hyk4 => exact fun w => by first | (go_simp; done) | (go_simp; with_reducible rfl)
      simp only [Act.put, List.setIfInBounds_toArray, List.set_cons_zero, List.set_cons_succ]
      refine' Reg.G.pure (i := 4) (v := _) rfl (by rfl) (by kernel_rfl) (by kernel_rfl) (by kernel_rfl) (fun _ _ _ h => h) ?hyk5 ?rehyk5
      case hyk5 => exact fun w => by first | (go_simp; done) | (go_simp; with_reducible rfl)
      simp only [Act.put, List.setIfInBounds_toArray, List.set_cons_zero, List.set_cons_succ]
      refine' Reg.G.take (i := 5) (v := _) (F := (fun w => Fr (fun _ => False) wr w)) rfl (by rfl) (by kernel_rfl) (by kernel_rfl) (by kernel_rfl) (fun _ _ _ h => h) (HFD.out) ?hyk6 ?rehyk6
      case hyk6 => intro w hw; have kc := cell_fr hw HQ0.out; clear hw; first | (go_simp; done) | (go_simp; with_reducible rfl)
      simp only [Act.put, List.setIfInBounds_toArray, List.set_cons_zero, List.set_cons_succ]
      refine' Reg.G.pure (i := 6) (v := _) rfl (by rfl) (by kernel_rfl) (by kernel_rfl) (by kernel_rfl) (fun _ _ _ h => h) ?hyk7 ?rehyk7
      case hyk7 => exact fun w => by first | (go_simp; done) | (go_simp; with_reducible rfl)
      simp only [Act.put, List.setIfInBounds_toArray, List.set_cons_zero, List.set_cons_succ]
      refine' Reg.G.pure (i := 7) (v := _) rfl (by rfl) (by kernel_rfl) (by kernel_rfl) (by kernel_rfl) (fun _ _ _ h => h) ?hyk8 ?rehyk8
      case hyk8 => exact fun w => by first | (go_simp; done) | (go_simp; with_reducible rfl)
      simp only [Act.put, List.setIfInBounds_toArray, List.set_cons_zero, List.set_cons_succ]
      refine' Reg.G.pure (i := 8) (v := _) rfl (by rfl) (by kernel_rfl) (by kernel_rfl) (by kernel_rfl) (fun _ _ _ h => h) ?hyk9 ?rehyk9
      case hyk9 => exact fun w => by first | (go_simp; done) | (go_simp; with_reducible rfl)
      simp only [Act.put, List.setIfInBounds_toArray, List.set_cons_zero, List.set_cons_succ]
      refine' Reg.G.pure (i := 9) (v := _) rfl (by rfl) (by kernel_rfl) (by kernel_rfl) (by kernel_rfl) (fun _ _ _ h => h) ?hyk10 ?rehyk10
      case hyk10 => exact fun w => by first | (go_simp; done) | (go_simp; with_reducible rfl)
      simp only [Act.put, List.setIfInBounds_toArray, List.set_cons_zero, List.set_cons_succ]
      refine' Reg.G.take (i := 10) (v := _) (F := (fun w => Fr (fun _ => False) wr w)) rfl (by rfl) (by kernel_rfl) (by kernel_rfl) (by kernel_rfl) (fun _ _ _ h => h) (HFD.out) ?hyk11 ?rehyk11
      case hyk11 => intro w hw; have kc := cell_fr hw HQ1.out; clear hw; first | (go_simp; done) | (go_simp; with_reducible rfl)
      simp only [Act.put, List.setIfInBounds_toArray, List.set_cons_zero, List.set_cons_succ]
      refine Reg.G.step (j := 11) (m := [false, false, false]) [10, 5, 0] rfl (by kernel_rfl) rfl (by kernel_rfl) (fun K hK => ?_)
      go_simp
      refine (HIX.out q.1 q.2 _ HQL.out (HFu.out.trans HFD.out)).mono ?_
      rintro e w5 ⟨rfl, hf⟩
      have HFE : Hid (Fr (fun _ => False) wr w5) := HFD.out.trans hf
      clear hf
      refine hK.out _ _ trivial ?_
      clear hK K
      simp only [Act.put, List.setIfInBounds_toArray, List.set_cons_zero, List.set_cons_succ, Reg.Kept]
      refine' Reg.G.pure (i := 12) (v := _) rfl (by rfl) (by kernel_rfl) (by kernel_rfl) (by kernel_rfl) (fun _ _ _ h => h) ?hyk12 ?rehyk12
      case hyk12 => exact fun w => by first | (go_simp; done) | (go_simp; with_reducible rfl)
      simp only [Act.put, List.setIfInBounds_toArray, List.set_cons_zero, List.set_cons_succ]
      refine Reg.G.done (by kernel_rfl) ?_
      rcases rix_has2 t q.1 q.2 with ⟨h1, h2⟩ | ⟨h1, h2⟩
      · have h3 : ¬ (rix t q.1 q.2 < 0) := by omega
        have HNX : Hid ((l.take (i + 1)).any (fun p => !has t p.1 p.2) = false) := by
          show _ = _
          rw [List.take_add_one, HQ.out, List.any_append, HANY.out]
          simp [h1]
        clear h1 h2
        go_wp2_with fail
        go_roundw
        case rel => exact ⟨i + 1, by go_num, hlt, HF.out.trans HFE.out, HNX⟩
        case measure => simp [intOf]; omega
      · have HRT : Hid (r = true) := by
          show _ = _
          rw [← HR.out]
          unfold unknown
          rw [HL.out, Bool.or_eq_true]
          left
          rw [List.any_eq_true]
          exact ⟨q, List.mem_of_getElem? HQ.out, by simp [h1]⟩
        rw [h2]
        clear h1 h2
        go_wp2_with fail
        go_ret
        exact ⟨ret_bool HRT.out.symm, (HFR.out.trans HFu.out).trans HFE.out⟩
    · obtain rfl : i = l.length := by omega
      have i2 : ¬ (l.length : Int) < (l.length : Int) := by omega
      have HRN : Hid (r = named x) := by
        show _ = _
        rw [← HR.out]
        unfold unknown
        have h0 := HANY.out
        rw [List.take_of_length_le (Nat.le_refl _)] at h0
        rw [HL.out, h0, Bool.false_or]
      have kc0 := cell_fr HFu.out HK0.out
      have HG := Lib.hid (rgroup_any x.kind wr)
      clear hlt hi i1
      have kc9 := cell_fr HFu.out HK9.out
      have kc12 := cell_fr HFu.out HK12.out
      have kc19 := cell_fr HFu.out HK19.out
      by_cases hg : group x.kind = 5
      · by_cases hw : x.within.name = []
        · rw [hw] at kc9
          replace kc9 : wr.cell? ⟨W.heap.size + 1, 9, none⟩ = some (.string ⟨#[]⟩) := kc9
          by_cases hgr : x.grace.name = []
          · rw [hgr] at kc12
            replace kc12 : wr.cell? ⟨W.heap.size + 1, 12, none⟩ = some (.string ⟨#[]⟩) := kc12
            by_cases hs : x.sum = []
            · rw [hs] at kc19
              replace kc19 : wr.cell? ⟨W.heap.size + 1, 19, none⟩ = some (.string ⟨#[]⟩) := kc19
              have HRE : Hid (r = false) := by show _ = _; rw [HRN.out]; unfold named; simp [hg, hw, hgr, hs]
              rw [hg] at HG
              clear hg hw hgr hs
              go_wp2_with fail
              refine HG.out.mono ?_
              rintro e w9 ⟨rfl, rfl⟩
              go_wp2_with fail
              go_ret
              exact ⟨ret_bool HRE.out.symm, HFR.out.trans HFu.out⟩
            · have kb : (x.sum != []) = true := by simpa using hs
              have kb2 : (x.sum == []) = false := by simpa using hs
              have HRE : Hid (r = true) := by show _ = _; rw [HRN.out]; unfold named; simp [hg, hw, hgr, hs]
              rw [hg] at HG
              clear hg hw hgr hs
              go_wp2_with fail
              refine HG.out.mono ?_
              rintro e w9 ⟨rfl, rfl⟩
              go_wp2_with fail
              go_ret
              exact ⟨ret_bool HRE.out.symm, HFR.out.trans HFu.out⟩
          · have kb : (x.grace.name != []) = true := by simpa using hgr
            have kb2 : (x.grace.name == []) = false := by simpa using hgr
            have HRE : Hid (r = true) := by show _ = _; rw [HRN.out]; unfold named; simp [hg, hw, hgr]
            have hs : True := trivial
            rw [hg] at HG
            clear hg hw hgr hs
            go_wp2_with fail
            refine HG.out.mono ?_
            rintro e w9 ⟨rfl, rfl⟩
            go_wp2_with fail
            go_ret
            exact ⟨ret_bool HRE.out.symm, HFR.out.trans HFu.out⟩
        · have kb : (x.within.name != []) = true := by simpa using hw
          have kb2 : (x.within.name == []) = false := by simpa using hw
          have HRE : Hid (r = true) := by show _ = _; rw [HRN.out]; unfold named; simp [hg, hw]
          have hs : True := trivial
          have hgr : True := trivial
          rw [hg] at HG
          clear hg hw hgr hs
          go_wp2_with fail
          refine HG.out.mono ?_
          rintro e w9 ⟨rfl, rfl⟩
          go_wp2_with fail
          go_ret
          exact ⟨ret_bool HRE.out.symm, HFR.out.trans HFu.out⟩
      · have HRE : Hid (r = false) := by show _ = _; rw [HRN.out]; unfold named; simp [hg]
        obtain ⟨g, hgg⟩ : ∃ g, group x.kind = g := ⟨_, rfl⟩
        rw [hgg] at hg HG
        have hg5 : ((g : Int) == 5) = false := by simp; omega
        clear hg hgg
        go_wp2_with fail
        refine HG.out.mono ?_
        rintro e w9 ⟨rfl, rfl⟩
        go_wp2_with fail
        go_ret
        exact ⟨ret_bool HRE.out.symm, HFR.out.trans HFu.out⟩
end Go.Proofs.YtdhjibnkebbejaaDoor.Rs
