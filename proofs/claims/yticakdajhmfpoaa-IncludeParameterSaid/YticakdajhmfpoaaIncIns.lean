/-
  Include: what an inclusion's closures capture.
-/
import Derived.Test.YticakdajhmfpoaaIncClos
import Derived.Test.YticakdajhmfpoaaIncLaws
import Derived.Carry
namespace Go.Proofs.Yticakdajhmfpoaa.Ic
open Go.RowKit Mem Vw Rs
open Go.ChangeMaps (setBlock)
set_option linter.unusedVariables false
set_option linter.unusedSimpArgs false

theorem hasC_step {l : List DT} {k : Nat} {y : DT} (hy : l[k]? = some y) (n : Rs.Bytes) : hasC (l.take (k + 1)) n = (hasC (l.take k) n || (isClause y.h.kind && decide (y.h.name = n))) := by
  unfold hasC
  rw [List.take_add_one, hy, List.any_append]
  simp
theorem hasI_step {l : List DT} {k : Nat} {y : DT} (hy : l[k]? = some y) (n : Rs.Bytes) : hasI (l.take (k + 1)) n = (hasI (l.take k) n || (decide (y.h.kind = 14) && decide (y.h.name = n))) := by
  unfold hasI
  rw [List.take_add_one, hy, List.any_append]
  simp
theorem boF_same {f g : Rs.Bytes → Bool} (h : ∀ n, g n = f n) : boF g = boF f := by
  have : g = f := funext h
  rw [this]
theorem boF_add {f g : Rs.Bytes → Bool} {x : Rs.Bytes} (h : ∀ n, g n = (f n || decide (x = n))) : boF g = fun n => if n = x then some (.bool true) else boF f n := by
  funext n
  unfold boF
  rw [h n]
  by_cases hn : n = x
  · rw [if_pos hn, if_pos (by simp [hn])]
  · have : decide (x = n) = false := by simp; exact fun e => hn e.symm
    rw [if_neg hn, this, Bool.or_false]
def LocR (l : List DT) (W : World) (iv : Value) (wr : World) : Prop := ∃ k : Nat, iv = .int .i64 k ∧ k ≤ l.length ∧ Hid (LocF (l.take k) (W.heap.size + 2) (W.heap.size + 4) (W.heap.size + 1) (W.heap.size + 3) wr) ∧ Hid (Fr (fun _ => False) W wr)
set_option maxRecDepth 100000 in
set_option maxHeartbeats 8000000 in
theorem locals_any (t : DT) (W : World) (ht : Lay (fun g => g < W.heap.size) W t) (hl : t.l.length ≤ 1000000) :
    Calls Try.prog 47 #[.agg t.cells.toArray] W fun e w' => e = .returned (.func (.func 50) #[] #[.pointer (some ⟨W.heap.size + 2, 0, none⟩), .pointer (some ⟨W.heap.size + 4, 0, none⟩)]) ∧ LocF t.l (W.heap.size + 2) (W.heap.size + 4) (W.heap.size + 1) (W.heap.size + 3) w' ∧ Fr (fun _ => False) W w' := by
  have hmm := @run_makeMap Try.prog
  obtain ⟨w0, HW0⟩ : ∃ w0, Hid (W.alloc (.cells t.cells.toArray 41) = w0) := ⟨_, rfl⟩
  have S0 : Hid (w0.heap.size = W.heap.size + 1) := by show _ = _; rw [← HW0.out]; simp
  have HF0 : Hid (Fr (fun _ => False) W w0) := by rw [← HW0.out]; exact (Fr.refl _ W).alloc _
  have HB0 : Hid (w0.heap[W.heap.size]? = some (.cells t.cells.toArray 41 (0, 0))) := by rw [← HW0.out]; exact blk_newn rfl
  have HT0 : Hid (Lay (fun g => g < W.heap.size) w0 t) := ht.fr HF0.out (fun _ _ h => h)
  obtain ⟨Ai, ci, hti, hi1, hi2⟩ := HT0.out.items.slice
  have HTI := Lib.hid hti
  have HLN := Lib.hid hl
  have HTW := Lib.hid ht.items
  have hzl : t.l.length ≤ 9223372036854775807 := by omega
  clear ht hti hl
  go_enter Try.func47, Try.ntmps47
  go_upto_region 1 with fail
  rw [HW0.out]
  go_upto_region 3 with fail
  clear hmm HW0
  rw [S0.out]
  obtain ⟨w4, hw4⟩ : ∃ w, (((w0.alloc (.map #[] 0)).alloc (.cells #[.map (some (W.heap.size + 1))] 70)).alloc (.map #[] 0)).alloc (.cells #[.map (some (W.heap.size + 1 + 1 + 1))] 70) = w := ⟨_, rfl⟩
  rw [hw4]
  have HF4 : Hid (Fr (fun _ => False) w0 w4) := by rw [← hw4]; exact ((((Fr.refl _ w0).alloc _).alloc _).alloc _).alloc _
  have HL4 : Hid (LocF (t.l.take 0) (W.heap.size + 2) (W.heap.size + 4) (W.heap.size + 1) (W.heap.size + 3) w4) := by
    have q := S0.out
    refine ⟨?_, ?_, ⟨#[], 0, [], ?_, rfl, List.nodup_nil, rfl⟩, ⟨#[], 0, [], ?_, rfl, List.nodup_nil, rfl⟩⟩
    · rw [← hw4]; exact blk_alloc (blk_alloc (blk_newn (by simp; omega)) _) _
    · rw [← hw4]; exact blk_newn (by simp; omega)
    · rw [← hw4]; exact blk_alloc (blk_alloc (blk_alloc (blk_newn (by omega)) _) _) _
    · rw [← hw4]; exact blk_alloc (blk_newn (by simp; omega)) _
  have HFW4 : Hid (Fr (fun _ => False) W w4) := HF0.out.trans HF4.out
  have k32 : w4.cell? ⟨W.heap.size, 32, none⟩ = some (.slice Ai t.l.length ci) := by rw [cell_of_blk (HF4.out.blk HB0.out (fun h => h)), DT.cells_eq, HTI.out]; rfl
  clear hw4
  go_wp2_with fail
  go_loopw [12] (fun iv wr => LocR t.l W iv wr) (fun i _ => t.l.length - (intOf i).toNat)
  case atStart => exact ⟨0, rfl, Nat.zero_le _, HL4, HFW4⟩
  case round =>
    clear k32 HL4 HFW4 HF4
    obtain ⟨k, rfl, hk, HL, HF⟩ := hrel
    have i1 : (0 : Int) ≤ (k : Int) := Int.natCast_nonneg _
    by_cases hlt : k < t.l.length
    · have i2 : (k : Int) < (t.l.length : Int) := by omega
      obtain ⟨y, hy⟩ : ∃ y, t.l[k]? = some y := ⟨_, List.getElem?_eq_getElem hlt⟩
      have hlay : LayL (fun g => g < W.heap.size) wr t.l (.slice Ai t.l.length ci) := by
        rw [← HTI.out]
        exact HTW.out.fr HF.out (fun _ _ h => h)
      obtain ⟨g, o, hA, hg, hgB, hat⟩ := hlay.at hy
      subst hA
      have HAT := Lib.hid hat
      have HLY : Hid (Lay (fun g => g < W.heap.size) wr y) := hlay.lay y (List.mem_of_getElem? hy)
      have HCS := Lib.hid (hasC_step hy); have HIS := Lib.hid (hasI_step hy)
      have HKK := Lib.hid hlt
      clear hat hg hgB hy hlay hlt
      go_upto_region 5 with fail
      iterate 4 go_step
      refine wpList_load_mid rfl 41 _ rfl g (o + k * 33) rfl y.cells _ HAT.out Try.underlying41 rfl (info_itl y) ?_
      simp only [Act.put, List.setIfInBounds_toArray, List.set_cons_zero, List.set_cons_succ]
      iterate 3 go_step
      refine wpList_store_row rfl 41 _ _ rfl wr.heap.size y.cells.toArray rfl rfl 41 _ (blk_newn rfl) (info_it y) (cells_size y).symm HLY.out.one ?_
      simp only [Act.put, List.setIfInBounds_toArray, List.set_cons_zero, List.set_cons_succ]
      rw [World.setRow_alloc_new]
      obtain ⟨u, hu⟩ : ∃ u, wr.alloc (.cells y.cells.toArray 41) = u := ⟨_, rfl⟩
      rw [hu]
      have HYB : Hid (u.heap[wr.heap.size]? = some (.cells y.cells.toArray 41 (0, 0))) := by rw [← hu]; exact blk_newn rfl
      have HFU : Hid (Fr (fun _ => False) wr u) := by rw [← hu]; exact (Fr.refl _ wr).alloc _
      have HLU : Hid (LocF (t.l.take k) (W.heap.size + 2) (W.heap.size + 4) (W.heap.size + 1) (W.heap.size + 3) u) := HL.out.fr HFU.out (fun h => h) (fun h => h) (fun h => h) (fun h => h)
      have HFW : Hid (Fr (fun _ => False) W u) := HF.out.trans HFU.out
      have k0 : u.cell? ⟨wr.heap.size, 0, none⟩ = some (.int .i64 y.h.kind) := by rw [cell_of_blk HYB.out, DT.cells_eq]; rfl
      have k1 : u.cell? ⟨wr.heap.size, 1, none⟩ = some (.string ⟨y.h.name.toArray⟩) := by rw [cell_of_blk HYB.out, DT.cells_eq]; rfl
      have HIC := Lib.hid (isClause_any y.h.kind u)
      obtain ⟨b, hb⟩ : ∃ b, isClause y.h.kind = b := ⟨_, rfl⟩
      have HBC := Lib.hid hb
      rw [hb] at HIC
      clear hu hb HAT HL HF
      go_wp2_with fail
      refine HIC.out.mono ?_
      rintro e wq ⟨rfl, hwq⟩
      have hwq := hwq.symm
      subst hwq
      clear HIC
      cases b with
      | true =>
        have h14 : y.h.kind ≠ 14 := (clause_not HBC.out).2
        have hm1 : u.cell? ⟨W.heap.size + 2, 0, none⟩ = some (.map (some (W.heap.size + 1))) := (cell_of_blk HLU.out.b1 0).trans rfl
        obtain ⟨ob, hrun, hmf⟩ := HLU.out.c.set (P := Try.prog) Try.underlying70 Try.underlying9 y.h.name (.bool true)
        have hrun : (Instr.mapUpdate 70 (.map (some (W.heap.size + 1))) (.string ⟨y.h.name.toArray⟩) (.bool true)).run Try.prog u = .ok () (setBlock u (W.heap.size + 1) ob) := hrun
        obtain ⟨w2, HW2⟩ : ∃ w, Hid (setBlock u (W.heap.size + 1) ob = w) := ⟨_, rfl⟩
        have HF2 : Hid (Fr (fun g => g = W.heap.size + 1) u w2) := by
          obtain ⟨o2, ho2⟩ := HLU.out.c.blk
          rw [← HW2.out]; exact fr_set ho2
        have HLN : Hid (LocF (t.l.take (k + 1)) (W.heap.size + 2) (W.heap.size + 4) (W.heap.size + 1) (W.heap.size + 3) w2) := by
          rw [HW2.out] at hmf
          refine ⟨HF2.out.blk HLU.out.b1 (by omega), HF2.out.blk HLU.out.b2 (by omega), ?_, ?_⟩
          · rw [boF_add (f := hasC (t.l.take k)) (g := hasC (t.l.take (k + 1))) (x := y.h.name) (fun n => by rw [HCS.out n, HBC.out, Bool.true_and])]; exact hmf
          · rw [boF_same (fun n => (by rw [HIS.out n]; simp [h14] : hasI (t.l.take (k + 1)) n = hasI (t.l.take k) n))]; exact HLU.out.i.fr HF2.out (by omega)
        have HFN : Hid (Fr (fun _ => False) W w2) := HFW.out.trans' HF2.out (fun g hg e => by omega)
        rw [HW2.out] at hrun
        clear hmf HW2 h14
        go_wp2_with fail
        go_roundw
        case rel => exact ⟨k + 1, by go_num, HKK.out, HLN, HFN⟩
        case measure => have := HKK.out; first | (simp [intOf]; done) | (simp [intOf]; omega)
      | false =>
        by_cases h14 : y.h.kind = 14
        · rw [h14] at k0
          have HK14 := Lib.hid h14
          have hm2 : u.cell? ⟨W.heap.size + 4, 0, none⟩ = some (.map (some (W.heap.size + 3))) := (cell_of_blk HLU.out.b2 0).trans rfl
          obtain ⟨ob, hrun, hmf⟩ := HLU.out.i.set (P := Try.prog) Try.underlying70 Try.underlying9 y.h.name (.bool true)
          have hrun : (Instr.mapUpdate 70 (.map (some (W.heap.size + 3))) (.string ⟨y.h.name.toArray⟩) (.bool true)).run Try.prog u = .ok () (setBlock u (W.heap.size + 3) ob) := hrun
          obtain ⟨w2, HW2⟩ : ∃ w, Hid (setBlock u (W.heap.size + 3) ob = w) := ⟨_, rfl⟩
          have HF2 : Hid (Fr (fun g => g = W.heap.size + 3) u w2) := by
            obtain ⟨o2, ho2⟩ := HLU.out.i.blk
            rw [← HW2.out]; exact fr_set ho2
          have HLN : Hid (LocF (t.l.take (k + 1)) (W.heap.size + 2) (W.heap.size + 4) (W.heap.size + 1) (W.heap.size + 3) w2) := by
            rw [HW2.out] at hmf
            refine ⟨HF2.out.blk HLU.out.b1 (by omega), HF2.out.blk HLU.out.b2 (by omega), ?_, ?_⟩
            · rw [boF_same (fun n => (by rw [HCS.out n, HBC.out]; simp : hasC (t.l.take (k + 1)) n = hasC (t.l.take k) n))]; exact HLU.out.c.fr HF2.out (by omega)
            · rw [boF_add (f := hasI (t.l.take k)) (g := hasI (t.l.take (k + 1))) (x := y.h.name) (fun n => by rw [HIS.out n, HK14.out]; simp)]; exact hmf
          have HFN : Hid (Fr (fun _ => False) W w2) := HFW.out.trans' HF2.out (fun g hg e => by omega)
          rw [HW2.out] at hrun
          clear hmf HW2 h14
          go_wp2_with fail
          go_roundw
          case rel => exact ⟨k + 1, by go_num, HKK.out, HLN, HFN⟩
          case measure => have := HKK.out; first | (simp [intOf]; done) | (simp [intOf]; omega)
        · have kb : (y.h.kind == 14) = false := by simpa using h14
          have HLN : Hid (LocF (t.l.take (k + 1)) (W.heap.size + 2) (W.heap.size + 4) (W.heap.size + 1) (W.heap.size + 3) u) := by
            refine ⟨HLU.out.b1, HLU.out.b2, ?_, ?_⟩
            · rw [boF_same (fun n => (by rw [HCS.out n, HBC.out]; simp : hasC (t.l.take (k + 1)) n = hasC (t.l.take k) n))]; exact HLU.out.c
            · rw [boF_same (fun n => (by rw [HIS.out n]; simp [h14] : hasI (t.l.take (k + 1)) n = hasI (t.l.take k) n))]; exact HLU.out.i
          clear h14
          go_wp2_with fail
          go_roundw
          case rel => exact ⟨k + 1, by go_num, HKK.out, HLN, HFW⟩
          case measure => have := HKK.out; first | (simp [intOf]; done) | (simp [intOf]; omega)
    · obtain rfl : k = t.l.length := by omega
      rw [List.take_length] at HL
      go_wp2_with fail
      go_ret
      exact ⟨rfl, HL.out, HF.out⟩
end Go.Proofs.Yticakdajhmfpoaa.Ic
