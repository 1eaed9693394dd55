/-
  Include: the reference's Renamed.
-/
import Derived.Test.YticakdajhmfpoaaIncRen2
namespace Go.Proofs.Yticakdajhmfpoaa.Ic
open Go.RowKit Mem Vw Rs
set_option linter.unusedVariables false
set_option linter.unusedSimpArgs false

set_option maxRecDepth 100000 in
set_option maxHeartbeats 16000000 in
theorem renamed_any {B : Nat → Prop} (t : DT) (f g : Rs.Bytes) (W : World) (hy0 : Lay B W t) (hn : (t.h.names.length + 1) * 16 ≤ 140737488355328) (hl : (t.l.length + 1) * 368 ≤ 140737488355328)
    (hc : ∀ y ∈ t.l, (y.h.conds.length + 1) * 24 ≤ 140737488355328 ∧ (y.h.names.length + 1) * 16 ≤ 140737488355328) :
    Calls Try.prog 18 #[.agg t.cells.toArray, .string ⟨f.toArray⟩, .string ⟨g.toArray⟩] W fun e w' => ∃ o : DT, e = .returned (.agg o.cells.toArray) ∧ o.tree = renamed f g t.tree ∧ Lay (fun q => B q ∨ W.heap.size ≤ q) w' o ∧ Fr (fun _ => False) W w' := by
  obtain ⟨w0, HW0⟩ : ∃ w0, Hid (W.alloc (.cells t.cells.toArray 41) = w0) := ⟨_, rfl⟩
  obtain ⟨w1, HW1⟩ : ∃ w1, Hid (w0.alloc (.cells #[.int .i64 0, .string ⟨#[]⟩, .int .i64 0, .string ⟨#[]⟩, .string ⟨#[]⟩, .int .i64 0, .int .i64 0, .int .i64 0, .bool false, .string ⟨#[]⟩, .int .i64 0, .bool false, .string ⟨#[]⟩, .slice none 0 0, .string ⟨#[]⟩, .string ⟨#[]⟩, .int .i64 0, .int .i64 0, .string ⟨#[]⟩, .string ⟨#[]⟩, .bool false, .string ⟨#[]⟩, .string ⟨#[]⟩, .bool false, .bool false, .bool false, .bool false, .bool false, .bool false, .bool false, .slice none 0 0, .slice none 0 0, .slice none 0 0] 41) = w1) := ⟨_, rfl⟩
  have HF1 : Hid (Fr (fun _ => False) W w1) := by rw [← HW1.out, ← HW0.out]; exact ((Fr.refl _ W).alloc _).alloc _
  have HT1 : Hid (w1.heap[W.heap.size]? = some (.cells t.cells.toArray 41 (0, 0))) := by rw [← HW1.out, ← HW0.out]; exact blk_alloc (blk_newn rfl) _
  have HR1 : Hid (w1.heap[W.heap.size + 1]? = some (.cells #[.int .i64 0, .string ⟨#[]⟩, .int .i64 0, .string ⟨#[]⟩, .string ⟨#[]⟩, .int .i64 0, .int .i64 0, .int .i64 0, .bool false, .string ⟨#[]⟩, .int .i64 0, .bool false, .string ⟨#[]⟩, .slice none 0 0, .string ⟨#[]⟩, .string ⟨#[]⟩, .int .i64 0, .int .i64 0, .string ⟨#[]⟩, .string ⟨#[]⟩, .bool false, .string ⟨#[]⟩, .string ⟨#[]⟩, .bool false, .bool false, .bool false, .bool false, .bool false, .bool false, .bool false, .slice none 0 0, .slice none 0 0, .slice none 0 0] 41 (0, 0))) := by rw [← HW1.out, ← HW0.out]; exact blk_newn (by simp)
  have HZ1 : Hid (w1.heap.size = W.heap.size + 2) := by show _ = _; rw [← HW1.out, ← HW0.out]; simp
  have HL0 : Hid (Lay (fun q => B q ∧ q < W.heap.size) W t) := hy0.mono (fun q a b => ⟨b, a⟩)
  have HLN := Lib.hid hn; have HLL := Lib.hid hl; have HLC := Lib.hid hc
  clear hy0 hn hl hc
  obtain ⟨gt, HGT⟩ : ∃ q, Hid (W.heap.size = q) := ⟨_, rfl⟩
  rw [HGT.out] at HT1 HR1 HZ1
  go_enter Try.func18, Try.ntmps18
  go_upto_region 1 with fail
  rw [HW0.out, HW1.out, HGT.out]
  clear HW0 HW1
  iterate 1 go_step
  refine wpList_load_row rfl 41 _ rfl gt rfl 41 t.cells.toArray (0, 0) _ HT1.out Try.underlying41 rfl (info_it t) ?_
  simp only [Act.put, List.setIfInBounds_toArray, List.set_cons_zero, List.set_cons_succ]
  iterate 3 go_step
  refine wpList_store_row rfl 41 _ _ rfl w1.heap.size t.cells.toArray rfl rfl 41 _ (blk_newn rfl) (info_it t) (cells_size t).symm HL0.out.one ?_
  simp only [Act.put, List.setIfInBounds_toArray, List.set_cons_zero, List.set_cons_succ]
  rw [World.setRow_alloc_new]
  obtain ⟨w2, hu⟩ : ∃ u, w1.alloc (.cells t.cells.toArray 41) = u := ⟨_, rfl⟩
  rw [hu, HZ1.out]
  have HF2 : Hid (Fr (fun _ => False) w1 w2) := by rw [← hu]; exact (Fr.refl _ w1).alloc _
  have HO2 : Hid (w2.heap[gt + 2]? = some (.cells t.cells.toArray 41 (0, 0))) := by rw [← hu]; exact blk_newn HZ1.out.symm
  have HZ2 : Hid (w2.heap.size = gt + 3) := by show _ = _; rw [← hu]; simp [HZ1.out]
  have HT2 : Hid (w2.heap[gt]? = some (.cells t.cells.toArray 41 (0, 0))) := HF2.out.blk HT1.out (fun e => e)
  have HR2 : Hid (w2.heap[gt + 1]? = some (.cells #[.int .i64 0, .string ⟨#[]⟩, .int .i64 0, .string ⟨#[]⟩, .string ⟨#[]⟩, .int .i64 0, .int .i64 0, .int .i64 0, .bool false, .string ⟨#[]⟩, .int .i64 0, .bool false, .string ⟨#[]⟩, .slice none 0 0, .string ⟨#[]⟩, .string ⟨#[]⟩, .int .i64 0, .int .i64 0, .string ⟨#[]⟩, .string ⟨#[]⟩, .bool false, .string ⟨#[]⟩, .string ⟨#[]⟩, .bool false, .bool false, .bool false, .bool false, .bool false, .bool false, .bool false, .slice none 0 0, .slice none 0 0, .slice none 0 0] 41 (0, 0))) := HF2.out.blk HR1.out (fun e => e)
  have HW2 : Hid (Fr (fun _ => False) W w2) := HF1.out.trans HF2.out
  clear hu HT1 HR1 HZ1 HF1 HF2
  obtain ⟨h, c, d, n, i, l⟩ := t
  obtain ⟨An, cn, e6, hn1, hn2⟩ := HL0.out.names.1.slice
  obtain ⟨A, ci, e8, hl1, hl2⟩ := HL0.out.items.slice
  simp only [DT.n, DT.i, DT.l, DT.h, List.length_map] at e6 e8 hn1 hl1
  subst e6; subst e8
  have hnl : h.names.length ≤ 9223372036854775807 := Nat.le_trans hn1 hn2
  have hll : l.length ≤ 9223372036854775807 := Nat.le_trans hl1 hl2
  have HLN : Hid ((h.names.length + 1) * 16 ≤ 140737488355328) := HLN.out
  have HLL : Hid ((l.length + 1) * 368 ≤ 140737488355328) := HLL.out
  have HLC : Hid (∀ y ∈ l, (y.h.conds.length + 1) * 24 ≤ 140737488355328 ∧ (y.h.names.length + 1) * 16 ≤ 140737488355328) := HLC.out
  clear hn1 hn2 hl1 hl2
  have HT2 : Hid (w2.heap[gt]? = some (.cells (icells h c d (.slice An h.names.length cn) (.slice A l.length ci)).toArray 41 (0, 0))) := HT2
  have HO2 : Hid (w2.heap[gt + 2]? = some (.cells (icells h c d (.slice An h.names.length cn) (.slice A l.length ci)).toArray 41 (0, 0))) := HO2
  have ko : w2.cell? ⟨gt + 2, 31, none⟩ = some (.slice An h.names.length cn) := (cell_of_blk HO2.out 31).trans rfl
  have fo : w2.frozen? ⟨gt + 2, 31, none⟩ = false := froz_of_blk HO2.out 31
  go_upto_region 3 with fail
  obtain ⟨w3, hu⟩ : ∃ u, w2.setCell ⟨gt + 2, 31, none⟩ (.slice none 0 0) = u := ⟨_, rfl⟩
  rw [hu]
  have HO3 : Hid (w3.heap[gt + 2]? = some (.cells (icells h c d (.slice none 0 0) (.slice A l.length ci)).toArray 41 (0, 0))) := by rw [← hu]; exact blk_set HO2.out 31 _
  have HF3 : Hid (Fr (fun q => q = gt + 2) w2 w3) := by rw [← hu]; exact (Fr.refl (fun q => q = gt + 2) w2).setb 31 _
  clear hu ko fo
  have HZ3 : Hid (gt + 3 ≤ w3.heap.size) := by have h1 := HF3.out.size; have h2 := HZ2.out; show _ ≤ _; omega
  have HT3 : Hid (w3.heap[gt]? = some (.cells (icells h c d (.slice An h.names.length cn) (.slice A l.length ci)).toArray 41 (0, 0))) := HF3.out.blk HT2.out (fun e => by omega)
  have HR3 : Hid (w3.heap[gt + 1]? = some (.cells #[.int .i64 0, .string ⟨#[]⟩, .int .i64 0, .string ⟨#[]⟩, .string ⟨#[]⟩, .int .i64 0, .int .i64 0, .int .i64 0, .bool false, .string ⟨#[]⟩, .int .i64 0, .bool false, .string ⟨#[]⟩, .slice none 0 0, .string ⟨#[]⟩, .string ⟨#[]⟩, .int .i64 0, .int .i64 0, .string ⟨#[]⟩, .string ⟨#[]⟩, .bool false, .string ⟨#[]⟩, .string ⟨#[]⟩, .bool false, .bool false, .bool false, .bool false, .bool false, .bool false, .bool false, .slice none 0 0, .slice none 0 0, .slice none 0 0] 41 (0, 0))) := HF3.out.blk HR2.out (fun e => by omega)
  have HW3 : Hid (Fr (fun _ => False) W w3) := HW2.out.trans' HF3.out (fun q hq e => by have h1 := HGT.out; have e : q = gt + 2 := e; have hq : q < W.heap.size := hq; omega)
  have HL3 : Hid (Lay (fun q => B q ∧ q < gt) w3 (DT.node h c d (.slice An h.names.length cn) (.slice A l.length ci) l)) := by rw [← HGT.out]; exact HL0.out.fr HW3.out (fun _ _ e => e)
  have HB0 : Hid (Nb (gt + 3) (gt + 2) h c d (.slice A l.length ci) ((h.names.take 0).map (change f g)) (.slice none 0 0) w3 w3) := ⟨HZ3.out, HO3.out, World.ownsRow_nil _ _ _ _, by simp [Value.ownBlock], Fr.refl _ _⟩
  clear HT2 HR2 HO2 HO3 HW2 HF3 HZ2
  go_wp2_with fail
  go_loopw [8] (fun i wr => ∃ (k : Nat) (nv : Value), i = .int .i64 k ∧ k ≤ h.names.length ∧ Hid (Nb (gt + 3) (gt + 2) h c d (.slice A l.length ci) ((h.names.take k).map (change f g)) nv w3 wr)) (fun i _ => h.names.length - (intOf i).toNat)
  case atStart => exact ⟨0, _, rfl, Nat.zero_le _, HB0⟩
  case round =>
    clear HB0
    obtain ⟨k, nv, rfl, hk, HB⟩ := hrel
    have i1 : (0 : Int) ≤ (k : Int) := Int.natCast_nonneg _
    have a31 : wr.cell? ⟨gt, 31, none⟩ = some (.slice An h.names.length cn) := (cell_of_blk (HB.out.fr.blk HT3.out (fun e => by omega)) 31).trans rfl
    by_cases hlt : k < h.names.length
    · have i2 : (k : Int) < (h.names.length : Int) := by omega
      obtain ⟨y, hy⟩ : ∃ y, h.names[k]? = some y := ⟨_, List.getElem?_eq_getElem hlt⟩
      obtain ⟨g0, o0, hA, hg, hb0, hat⟩ := HL3.out.names.at (k := k) (x := [sv y]) (by show (h.names.map fun x => [sv x])[k]? = _; rw [List.getElem?_map, hy]; rfl)
      subst hA
      have HY := Lib.hid hy
      have HAT : Hid (w3.cell? ⟨g0, o0 + k, none⟩ = some (.string ⟨y.toArray⟩)) := by have := hat 0 _ rfl; rw [Nat.mul_one] at this; exact this
      have HG0 : Hid (g0 < gt) := hb0.2
      have HLT := Lib.hid hlt
      have HTL : Hid (((h.names.take k).map (change f g)).length = k) := by show _ = _; rw [List.length_map, List.length_take]; omega
      clear hat hg hb0 hy hlt
      go_upto_region 6 with fail
      refine ren_r6 (by kernel_rfl) HB.out HT3.out ⟨by omega, by omega⟩ ⟨by have := HG0.out; omega, by have := HG0.out; omega⟩ HAT.out HLT.out (by rw [HTL.out]; have h1 : k < h.names.length := HLT.out; have h2 : (h.names.length + 1) * 16 ≤ 140737488355328 := HLN.out; omega) (fun _ _ _ _ _ h => h) ?_
      intro v24 v25 v26 v27 v28 v29 v30 v31 v32 v33 v34 v35 v36 wy hb2
      obtain ⟨nv2, hb2⟩ := hb2
      have HB2 : Hid (Nb (gt + 3) (gt + 2) h c d (.slice A l.length ci) ((h.names.take (k + 1)).map (change f g)) nv2 w3 wy) := by
        rw [List.take_add_one, HY.out, List.map_append]
        exact hb2
      clear hb2
      go_wp2_with fail
      go_roundw
      case rel => exact ⟨k + 1, nv2, by go_num, HLT.out, HB2⟩
      case measure => have := HLT.out; simp [intOf]; omega
    · obtain rfl : k = h.names.length := by omega
      rw [List.take_length] at HB
      have b32 : wr.cell? ⟨gt + 2, 32, none⟩ = some (.slice A l.length ci) := (cell_of_blk HB.out.blk 32).trans rfl
      have f32 : wr.frozen? ⟨gt + 2, 32, none⟩ = false := froz_of_blk HB.out.blk 32
      go_upto_region 8 with fail
      obtain ⟨w4, hu⟩ : ∃ u, wr.setCell ⟨gt + 2, 32, none⟩ (.slice none 0 0) = u := ⟨_, rfl⟩
      rw [hu]
      have HO4 : Hid (w4.heap[gt + 2]? = some (.cells (icells h c d nv (.slice none 0 0)).toArray 41 (0, 0))) := by rw [← hu]; exact blk_set HB.out.blk 32 _
      have HF4 : Hid (Fr (fun q => q = gt + 2) wr w4) := by rw [← hu]; exact (Fr.refl (fun q => q = gt + 2) wr).setb 32 _
      clear hu b32 f32 i1 hk a31
      have HF34 : Hid (Fr (fun q => q = gt + 2 ∨ gt + 3 ≤ q) w3 w4) := HB.out.fr.trans' HF4.out (fun q _ e => .inl e)
      have HOW4 : Hid (w4.ownsRow (gt + 3) 9 1 nv (h.names.map (change f g)).length ((h.names.map (change f g)).flatMap fun x => [sv x])) := own_frb HB.out.own HF4.out (fun q hq e => HB.out.ne (by rw [hq, e]))
      have HZ4 : Hid (gt + 3 ≤ w4.heap.size) := by have h1 := HF34.out.size; have h2 := HZ3.out; show _ ≤ _; omega
      have HT4 : Hid (w4.heap[gt]? = some (.cells (icells h c d (.slice An h.names.length cn) (.slice A l.length ci)).toArray 41 (0, 0))) := HF34.out.blk HT3.out (fun e => by omega)
      have HR4 : Hid (w4.heap[gt + 1]? = some (.cells #[.int .i64 0, .string ⟨#[]⟩, .int .i64 0, .string ⟨#[]⟩, .string ⟨#[]⟩, .int .i64 0, .int .i64 0, .int .i64 0, .bool false, .string ⟨#[]⟩, .int .i64 0, .bool false, .string ⟨#[]⟩, .slice none 0 0, .string ⟨#[]⟩, .string ⟨#[]⟩, .int .i64 0, .int .i64 0, .string ⟨#[]⟩, .string ⟨#[]⟩, .bool false, .string ⟨#[]⟩, .string ⟨#[]⟩, .bool false, .bool false, .bool false, .bool false, .bool false, .bool false, .bool false, .slice none 0 0, .slice none 0 0, .slice none 0 0] 41 (0, 0))) := HF34.out.blk HR3.out (fun e => by omega)
      have HW4 : Hid (Fr (fun _ => False) W w4) := HW3.out.trans' HF34.out (fun q hq e => by have h1 := HGT.out; have e : q = gt + 2 ∨ gt + 3 ≤ q := e; have hq : q < W.heap.size := hq; omega)
      have HL4 : Hid (LayL (fun q => B q ∧ q < gt) w4 l (.slice A l.length ci)) := HL3.out.items.fr HF34.out (fun q hq e => by have e : q = gt + 2 ∨ gt + 3 ≤ q := e; have h1 := hq.2; omega)
      have HLCD : Hid (RowB (fun q => B q ∧ q < gt) w4 c 2 (h.conds.map namedc) ∧ RowB (fun q => B q ∧ q < gt) w4 d 3 (h.dates.map civilc)) := by
        have h1 := HL3.out.fr HF34.out (fun q hq e => by have e : q = gt + 2 ∨ gt + 3 ≤ q := e; have h1 := hq.2; omega)
        exact ⟨h1.conds, h1.dates⟩
      obtain ⟨bo, HBO⟩ : ∃ b, Hid (w4.heap.size = b) := ⟨_, rfl⟩
      have HBG : Hid (gt + 3 ≤ bo) := by rw [← HBO.out]; exact HZ4.out
      have HI0 : Hid (It (fun q => (B q ∧ q < gt) ∨ gt + 3 ≤ q) bo (gt + 2) h c d nv f g l 0 [] (.slice none 0 0) w4 w4) := ⟨by rw [HBO.out]; exact Nat.le_refl _, HO4.out, World.ownsRow_nil _ _ _ _, by simp [Value.ownBlock], Fr.refl _ _, fun x hx => absurd hx List.not_mem_nil, rfl⟩
      clear HB HF4 HF34 HT3 HR3 HW3 HL3 HO4 HZ3 HZ4
      obtain ⟨wz, rfl⟩ : ∃ w : World, w = w4 := ⟨_, rfl⟩
      go_wp2_with fail
      go_loopw [9] (fun i wr => ∃ (k : Nat) (ts : List DT) (iv : Value), i = .int .i64 k ∧ k ≤ l.length ∧ Hid (It (fun q => (B q ∧ q < gt) ∨ gt + 3 ≤ q) bo (gt + 2) h c d nv f g l k ts iv wz wr)) (fun i _ => l.length - (intOf i).toNat)
      case atStart => exact ⟨0, [], _, rfl, Nat.zero_le _, HI0⟩
      case round =>
        clear HI0
        obtain ⟨k, ts, iv, rfl, hk, HI⟩ := hrel
        have i1 : (0 : Int) ≤ (k : Int) := Int.natCast_nonneg _
        have a32 : wr.cell? ⟨gt, 32, none⟩ = some (.slice A l.length ci) := (cell_of_blk (HI.out.fr.blk HT4.out (fun e => by have := HBG.out; omega)) 32).trans rfl
        by_cases hlt : k < l.length
        · have i2 : (k : Int) < (l.length : Int) := by omega
          obtain ⟨y, hy⟩ : ∃ y, l[k]? = some y := ⟨_, List.getElem?_eq_getElem hlt⟩
          have HLr : Hid (LayL (fun q => B q ∧ q < gt) wr l (.slice A l.length ci)) := HL4.out.fr HI.out.fr (fun q hq e => by have e : q = gt + 2 ∨ bo ≤ q := e; have h1 := hq.2; have h2 := HBG.out; omega)
          obtain ⟨q0, o0, hA, hg, _, hat⟩ := HLr.out.at hy
          subst hA
          have HAT := Lib.hid hat
          have HM : Hid (y ∈ l) := List.mem_of_getElem? hy
          have HLX : Hid (Lay (fun q => B q ∧ q < gt) wr y) := HLr.out.lay y HM.out
          have HY := Lib.hid hy
          have HLT := Lib.hid hlt
          have HTL : Hid (ts.length = k) := by
            have h1 := congrArg List.length HI.out.tr
            rw [List.length_map, List.length_map, List.length_take] at h1
            show _ = _
            omega
          clear hat hg hy hlt
          go_upto_region 11 with fail
          iterate 13 go_step
          refine wpList_load_mid rfl 41 _ rfl q0 (o0 + k * 33) rfl y.cells _ HAT.out Try.underlying41 rfl (info_itl y) ?_
          simp only [Act.put, List.setIfInBounds_toArray, List.set_cons_zero, List.set_cons_succ]
          iterate 3 go_step
          refine wpList_store_row rfl 41 _ _ rfl wr.heap.size y.cells.toArray rfl rfl 41 _ (blk_newn rfl) (info_it y) (cells_size y).symm HLX.out.one ?_
          simp only [Act.put, List.setIfInBounds_toArray, List.set_cons_zero, List.set_cons_succ]
          rw [World.setRow_alloc_new]
          obtain ⟨u, hu⟩ : ∃ u, wr.alloc (.cells y.cells.toArray 41) = u := ⟨_, rfl⟩
          rw [hu]
          obtain ⟨gx, hgx⟩ : ∃ q, wr.heap.size = q := ⟨_, rfl⟩
          have HGX : Hid (wr.heap.size ≤ gx) := by show _ ≤ _; omega
          have HFU : Hid (Fr (fun _ => False) wr u) := by rw [← hu]; exact (Fr.refl _ wr).alloc _
          have HBX : Hid (u.heap[gx]? = some (.cells y.cells.toArray 41 (0, 0))) := by rw [← hu]; exact blk_newn hgx.symm
          rw [hgx]
          clear hu hgx a32
          have HLU : Hid (Lay (fun q => B q ∧ q < gt) u y) := HLX.out.fr HFU.out (fun _ _ e => e)
          obtain ⟨K, hK⟩ : ∃ K, y.h.kind = K := ⟨_, rfl⟩
          have c0 : u.cell? ⟨gx, 0, none⟩ = some (.int .i64 K) := by rw [← hK]; exact (cell_of_blk HBX.out 0).trans (by rw [DT.cells_eq]; rfl)
          have HK := Lib.hid hK
          clear hK
          obtain ⟨Ao, co, hiv⟩ := own_form HI.out.own
          subst hiv
          cases hcl : isClause K
          · by_cases hk14 : K = 14
            · have HKK14 : Hid (y.h.kind = 14) := HK.out.trans hk14
              subst hk14
              obtain ⟨yh, yc, yd, yn, yi, yl⟩ := y
              obtain ⟨Ny, ny, e9, hq1, hq2⟩ := HLU.out.names.slice
              simp only [DT.n, DT.h, List.length_map] at e9 hq1
              subst e9
              have hyl : yh.names.length ≤ 9223372036854775807 := Nat.le_trans hq1 hq2
              clear hq1 hq2
              have HBX : Hid (u.heap[gx]? = some (.cells (icells yh yc yd (.slice Ny yh.names.length ny) yi).toArray 41 (0, 0))) := HBX
              obtain ⟨b2, HB2⟩ : ∃ b, Hid (u.heap.size = b) := ⟨_, rfl⟩
              have HGXB : Hid (gx < b2) := by rw [← HB2.out]; exact lt_of_blk HBX.out
              have HS0 : Hid (Sb b2 ((yh.names.take 0).map (change f g)) (.slice none 0 0) u u) := ⟨by rw [HB2.out]; exact Nat.le_refl _, World.ownsRow_nil _ _ _ _, Fr.refl _ _⟩
              have HLCY : Hid ((yh.names.length + 1) * 16 ≤ 140737488355328) := (HLC.out _ HM.out).2
              go_wp2_with fail
              refine (rClause_any 14 _).mono ?_
              rintro e wq ⟨rfl, hwq⟩
              have hwq := hwq.symm
              subst hwq
              rw [hcl]
              go_wp2_with fail
              clear c0
              obtain ⟨uz, rfl⟩ : ∃ w : World, w = u := ⟨_, rfl⟩
              obtain ⟨wo, rfl⟩ : ∃ w : World, w = wr := ⟨_, rfl⟩
              go_loopw [13, 14] (fun a i wk => ∃ (j : Nat) (A2 : Option Addr) (c2 : Nat), a = .slice A2 j c2 ∧ i = .int .i64 j ∧ j ≤ yh.names.length ∧ Hid (Sb b2 ((yh.names.take j).map (change f g)) (.slice A2 j c2) uz wk)) (fun a i _ => yh.names.length - (intOf i).toNat)
              case atStart => exact ⟨0, none, 0, rfl, rfl, Nat.zero_le _, HS0⟩
              case round =>
                clear HS0
                obtain ⟨j, A2, c2, rfl, rfl, hj, HS⟩ := hrel
                have j1 : (0 : Int) ≤ (j : Int) := Int.natCast_nonneg _
                have HBw : Hid (wr.heap[gx]? = some (.cells (icells yh yc yd (.slice Ny yh.names.length ny) yi).toArray 41 (0, 0))) := HS.out.fr.blk HBX.out (fun e => by have e : b2 ≤ gx := e; have h1 := HGXB.out; omega)
                have e31 : wr.cell? ⟨gx, 31, none⟩ = some (.slice Ny yh.names.length ny) := (cell_of_blk HBw.out 31).trans rfl
                by_cases hjl : j < yh.names.length
                · have j2 : (j : Int) < (yh.names.length : Int) := by omega
                  obtain ⟨s, hs⟩ : ∃ s, yh.names[j]? = some s := ⟨_, List.getElem?_eq_getElem hjl⟩
                  obtain ⟨p0, r0, hNy, hpg, _, hpat⟩ := HLU.out.names.at (k := j) (x := [sv s]) (by show (yh.names.map fun x => [sv x])[j]? = _; rw [List.getElem?_map, hs]; rfl)
                  subst hNy
                  have ec : wr.cell? ⟨p0, r0 + j, none⟩ = some (.string ⟨s.toArray⟩) := cell_frs HS.out.fr (fun e => by have e : b2 ≤ p0 := e; have h1 := HB2.out; omega) (by have := hpat 0 _ rfl; rw [Nat.mul_one] at this; exact this)
                  have HSS := Lib.hid hs
                  have HJL : Hid (j < yh.names.length) := hjl
                  have HTJ : Hid (((yh.names.take j).map (change f g)).length = j) := by show _ = _; rw [List.length_map, List.length_take]; omega
                  obtain ⟨ns, HNS⟩ : ∃ n, Hid ((yh.names.take j).map (change f g) = n) := ⟨_, rfl⟩
                  rw [HNS.out] at HS HTJ
                  clear hs hpg hpat hjl
                  go_wp2_with fail
                  refine (rchange_is s f g _).mono ?_
                  rintro e wq ⟨rfl, hwq⟩
                  have hwq := hwq.symm
                  subst hwq
                  obtain ⟨z, HZ⟩ : ∃ z, Hid (change f g s = z) := ⟨_, rfl⟩
                  rw [HZ.out]
                  dsimp only
                  iterate 4 go_step
                  obtain ⟨v6, hu⟩ : ∃ v, wr.alloc (.cells #[.string ⟨z.toArray⟩] 9) = v := ⟨_, rfl⟩
                  rw [hu]
                  have HFv : Hid (Fr (fun _ => False) wr v6) := by rw [← hu]; exact (Fr.refl _ wr).alloc _
                  have HNA : Hid (∀ q v, [sv z][q]? = some v → v6.cell? ((⟨wr.heap.size, 0, none⟩ : Addr).add q) = some v) := by rw [← hu]; exact cells_new wr [sv z] _ _ rfl
                  clear hu e31 ec
                  have HOA : Hid (v6.ownsRow b2 9 1 (.slice A2 j c2) ns.length (ns.flatMap fun x => [sv x])) := own_fr HS.out.own HFv.out (fun _ _ _ e => e)
                  obtain ⟨j0, hj0a, hj0, hj1, hj2⟩ := info_parts cinfo_str
                  have hts : (j + 1) * 16 ≤ 140737488355328 := by have h2 : j < yh.names.length := HJL.out; have h3 : (yh.names.length + 1) * 16 ≤ 140737488355328 := HLCY.out; omega
                  rw [HTJ.out] at HOA
                  refine wpList_append_lies v6 rfl (.tmp 149) (.tmp 158) 39 rfl b2 9 j0 _ 1 16 Try.underlying39 hj0a hj0 hj1 hj2 rfl (by decide) (.slice A2 j c2) j _ (by rfl) HOA.out ⟨wr.heap.size, 0, none⟩ 1 1 [sv z] (by rfl) rfl HNA.out (by intro v hv; simp only [List.mem_cons, List.not_mem_nil, or_false] at hv; subst hv; rfl) (by decide) (by simp only [maxLen]; omega) (by omega) (by have h1 := HS.out.lo; have h2 := HS.out.fr.size; have h3 := HFv.out.size; omega) (v6.heap.size) rfl ?_
                  intro gn cn3 u7 g1 g2 g3 _
                  have HS2 : Hid (Sb b2 ((yh.names.take (j + 1)).map (change f g)) (.slice (some ⟨gn, 0, none⟩) (j + 1) cn3) uz u7) := by
                    rw [List.take_add_one, HSS.out, List.map_append, HNS.out]
                    refine ⟨HS.out.lo, ?_, (HS.out.fr.trans' HFv.out (fun _ _ e => e.elim)).grown g2 (fun q hq => .inl (own_lt HOA.out q hq).1)⟩
                    have e1 : (ns ++ (some s).toList.map (change f g)).length = j + 1 := by rw [List.length_append, HTJ.out]; rfl
                    have e2 : ((ns ++ (some s).toList.map (change f g)).flatMap fun x => [sv x]) = (ns.flatMap fun x => [sv x]) ++ [sv z] := by rw [List.flatMap_append, ← HZ.out]; rfl
                    rw [e1, e2]
                    exact g1
                  clear g1 g2 g3 hts hj0a hj0 hj1 hj2
                  go_wp2_with fail
                  go_roundw
                  case rel => first | exact ⟨j + 1, _, _, rfl, by go_num, HJL.out, HS2⟩ | exact ⟨j + 1, _, _, by go_num, by go_num, HJL.out, HS2⟩
                  case measure => have := HJL.out; simp [intOf]; omega
                · obtain rfl : j = yh.names.length := by omega
                  rw [List.take_length] at HS
                  have f31 : wr.frozen? ⟨gx, 31, none⟩ = false := froz_of_blk HBw.out 31
                  go_upto_region 35 with fail
                  obtain ⟨v7, hu⟩ : ∃ v, wr.setCell ⟨gx, 31, none⟩ (.slice A2 yh.names.length c2) = v := ⟨_, rfl⟩
                  rw [hu]
                  have HF7 : Hid (Fr (fun q => q = gx) wr v7) := by rw [← hu]; exact (Fr.refl (fun q => q = gx) wr).setb 31 _
                  obtain ⟨x, HX⟩ : ∃ x, Hid (DT.node { yh with names := yh.names.map (change f g) } yc yd (.slice A2 yh.names.length c2) yi yl = x) := ⟨_, rfl⟩
                  have HBX7 : Hid (v7.heap[gx]? = some (.cells x.cells.toArray 41 (0, 0))) := by rw [← HX.out, ← hu]; exact blk_set HBw.out 31 _
                  clear hu e31 f31 hj j1
                  have HNN : Hid (gt + 3 ≤ bo ∧ bo ≤ wo.heap.size ∧ wo.heap.size ≤ gx ∧ gx < b2) := ⟨HBG.out, by have h1 := HI.out.fr.size; have h2 := HBO.out; omega, HGX.out, HGXB.out⟩
                  have HFS : Hid (Fr (fun q => q = gx ∨ b2 ≤ q) uz v7) := (HS.out.fr.mono (T := fun q => q = gx ∨ b2 ≤ q) (fun q _ e => .inr e)).trans' HF7.out (fun q _ e => .inl e)
                  have HFw : Hid (Fr (fun _ => False) wo v7) := HFU.out.trans' HFS.out (fun q hq e => by have e : q = gx ∨ b2 ≤ q := e; have hq : q < wo.heap.size := hq; have h1 := HNN.out; omega)
                  have HXT : Hid (x.tree = rename1 f g (DT.node yh yc yd (.slice Ny yh.names.length ny) yi yl).tree) := by
                    show _ = _
                    rw [← HX.out, rename1_incl HKK14.out, DT.tree, trees_map]
                    rfl
                  have HLV := HLU.out.fr HFS.out (fun q hq e => by have e : q = gx ∨ b2 ≤ q := e; have h0 := hq.2; have h1 := HNN.out; omega)
                  have HLVm : ∀ q, q < v7.heap.size → (B q ∧ q < gt) → (((B q ∧ q < gt) ∨ gt + 3 ≤ q) ∧ q ≠ gt + 2 ∧ (Value.slice Ao ts.length co).ownBlock ≠ some q) := fun q _ hq => ⟨.inl hq, by have h1 := hq.2; omega, fun e => by have h1 := hq.2; have h2 := (own_lt HI.out.own q e).1; have h3 := HBG.out; omega⟩
                  have HOV := own_frb HS.out.own HF7.out (fun q hq e => by have e : q = gx := e; have h1 := (own_lt HS.out.own q hq).1; have h2 := HNN.out; omega)
                  have HLXt : Hid (Lay (fun q => ((B q ∧ q < gt) ∨ gt + 3 ≤ q) ∧ q ≠ gt + 2 ∧ (Value.slice Ao ts.length co).ownBlock ≠ some q) v7 x) := by
                    rw [← HX.out]
                    refine .node _ _ _ _ _ _ (HLV.conds.mono HLVm) (HLV.dates.mono HLVm) ⟨Row.of_own HOV (fun x _ => rfl), fun q o n c e hne => ?_⟩ (HLV.items.row.mono HLVm) (fun z hz => (HLV.inner z hz).mono HLVm)
                    have h1 := (own_lt HOV q (by rw [e]; exact own_zero HOV e)).1
                    have h2 := HNN.out
                    exact ⟨.inr (by omega), by omega, fun e2 => by have h3 := (own_lt HI.out.own q e2).2; omega⟩
                  have HBX := HBX7
                  clear HLV HLVm HOV
                  have k32 : v7.cell? ⟨gt + 2, 32, none⟩ = some (.slice Ao ts.length co) := (cell_of_blk (HFw.out.blk HI.out.blk (fun e => e)) 32).trans rfl
                  iterate 7 go_step
                  refine wpList_load_row rfl 41 _ rfl gx rfl 41 x.cells.toArray (0, 0) _ HBX.out Try.underlying41 rfl (info_it x) ?_
                  simp only [Act.put, List.setIfInBounds_toArray, List.set_cons_zero, List.set_cons_succ]
                  refine wpList_bsl1_g (o := ⟨some 165, _, _, _, _, _⟩) ?hwbb 24 _ rfl (v0 := .agg x.cells.toArray) rfl (.slice (some ⟨v7.heap.size, 0, none⟩) 1 1) (v7.alloc (.cells x.cells.toArray 41)) ?hbb ?hqb
                  case hwbb => rfl
                  case hbb => exact bsl_one HLXt.out _
                  simp only [Act.put, List.setIfInBounds_toArray, List.set_cons_zero, List.set_cons_succ]
                  obtain ⟨u6, hu⟩ : ∃ v, v7.alloc (.cells x.cells.toArray 41) = v := ⟨_, rfl⟩
                  rw [hu]
                  have HF6 : Hid (Fr (fun _ => False) wo u6) := by rw [← hu]; exact HFw.out.alloc _
                  have HLX6 : Hid (Lay (fun q => ((B q ∧ q < gt) ∨ gt + 3 ≤ q) ∧ q ≠ gt + 2 ∧ (Value.slice Ao ts.length co).ownBlock ≠ some q) u6 x) := by rw [← hu]; exact HLXt.out.fr ((Fr.refl (fun _ => False) _).alloc _) (fun _ _ e => e)
                  have HNA : Hid (∀ j v, x.cells[j]? = some v → u6.cell? ((⟨v7.heap.size, 0, none⟩ : Addr).add j) = some v) := by rw [← hu]; exact cells_new v7 x.cells _ _ rfl
                  clear hu k32
                  have HOA : Hid (u6.ownsRow bo 41 33 (.slice Ao ts.length co) ts.length (ts.flatMap DT.cells)) := own_fr HI.out.own HF6.out (fun _ _ _ e => e)
                  obtain ⟨j0, hj, hj0, hj1, hj2⟩ := info_parts cinfo_item
                  have hts : (ts.length + 1) * 368 ≤ 140737488355328 := by have h1 : ts.length = k := HTL.out; have h2 : k < l.length := HLT.out; have h3 : (l.length + 1) * 368 ≤ 140737488355328 := HLL.out; omega
                  refine wpList_append_lies u6 rfl (.tmp 163) (.tmp 165) 24 rfl bo 41 j0 _ 33 368 Try.underlying24 hj hj0 hj1 hj2 rfl (by decide) (.slice Ao ts.length co) ts.length _ (by rfl) HOA.out ⟨v7.heap.size, 0, none⟩ 1 1 x.cells (by rfl) x.cells_len HNA.out (one_all HLXt.out.one) (by decide) (by simp only [maxLen]; omega) (by omega) (by have h1 := HI.out.sz; have h2 := HI.out.fr.size; have h3 := HF6.out.size; omega) (u6.heap.size) rfl ?_
                  intro g2 cn2 u7 k1 k2 k3 _
                  have HIN := Lib.hid (HI.out.next (by have := HBG.out; omega) HY.out HF6.out HLX6.out HXT.out k1 k2 k3)
                  have HB7 : Hid (u7.heap[gt + 2]? = some (.cells (icells h c d nv (.slice Ao ts.length co)).toArray 41 (0, 0))) := (Fr.of_grown k2).blk (HF6.out.blk HI.out.blk (fun e => e)) (fun e => HI.out.ne e)
                  have ko : u7.cell? ⟨gt + 2, 32, none⟩ = some (.slice Ao ts.length co) := (cell_of_blk HB7.out 32).trans rfl
                  have fo : u7.frozen? ⟨gt + 2, 32, none⟩ = false := froz_of_blk HB7.out 32
                  clear k1 k2 k3 hts hj hj0 hj1 hj2
                  go_wp2_with fail
                  go_roundw
                  case rel => first | exact ⟨k + 1, _, _, by go_num, HLT.out, HIN⟩ | exact ⟨_, _, _, _, _, _, _, _, _, _, _, _, _, _, _, _, _, _, _, _, _, _, _, _, _, _, _, _, _, _, _, _, _, _, _, _, _, _, _, _, _, _, _, _, _, _, _, _, _, _, _, _, _, _, _, _, _, _, _, _, _, _, _, _, _, _, _, _, _, _, _, _, _, _, _, _, _, _, _, _, _, _, _, _, _, _, _, _, _, _, _, _, _, _, _, _, _, _, _, _, _, _, _, _, _, _, _, _, _, _, _, _, _, _, _, _, _, _, _, _, ⟨k + 1, _, _, by go_num, HLT.out, HIN⟩, rfl⟩
                  case measure => have := HLT.out; simp [intOf]; omega
            · have HXT : Hid (y.tree = rename1 f g y.tree) := (rename1_rest (by rw [HK.out]; exact hcl) (by rw [HK.out]; exact hk14)).symm
              go_wp2_with fail
              refine (rClause_any K _).mono ?_
              rintro e wq ⟨rfl, hwq⟩
              have hwq := hwq.symm
              subst hwq
              rw [hcl]
              have HFw := HFU
              have HLXt : Hid (Lay (fun q => ((B q ∧ q < gt) ∨ gt + 3 ≤ q) ∧ q ≠ gt + 2 ∧ (Value.slice Ao ts.length co).ownBlock ≠ some q) u y) := HLU.out.mono (fun q _ hq => ⟨.inl hq, by have h1 := hq.2; omega, fun e => by have h1 := hq.2; have h2 := (own_lt HI.out.own q e).1; have h3 := HBG.out; omega⟩)
              have k32 : u.cell? ⟨gt + 2, 32, none⟩ = some (.slice Ao ts.length co) := (cell_of_blk (HFw.out.blk HI.out.blk (fun e => e)) 32).trans rfl
              go_upto_region 35 with fail
              iterate 7 go_step
              refine wpList_load_row rfl 41 _ rfl gx rfl 41 y.cells.toArray (0, 0) _ HBX.out Try.underlying41 rfl (info_it y) ?_
              simp only [Act.put, List.setIfInBounds_toArray, List.set_cons_zero, List.set_cons_succ]
              refine wpList_bsl1_g (o := ⟨some 165, _, _, _, _, _⟩) ?hwba 24 _ rfl (v0 := .agg y.cells.toArray) rfl (.slice (some ⟨u.heap.size, 0, none⟩) 1 1) (u.alloc (.cells y.cells.toArray 41)) ?hba ?hqa
              case hwba => rfl
              case hba => exact bsl_one HLXt.out _
              simp only [Act.put, List.setIfInBounds_toArray, List.set_cons_zero, List.set_cons_succ]
              obtain ⟨u6, hu⟩ : ∃ v, u.alloc (.cells y.cells.toArray 41) = v := ⟨_, rfl⟩
              rw [hu]
              have HF6 : Hid (Fr (fun _ => False) wr u6) := by rw [← hu]; exact HFw.out.alloc _
              have HLX6 : Hid (Lay (fun q => ((B q ∧ q < gt) ∨ gt + 3 ≤ q) ∧ q ≠ gt + 2 ∧ (Value.slice Ao ts.length co).ownBlock ≠ some q) u6 y) := by rw [← hu]; exact HLXt.out.fr ((Fr.refl (fun _ => False) _).alloc _) (fun _ _ e => e)
              have HNA : Hid (∀ j v, y.cells[j]? = some v → u6.cell? ((⟨u.heap.size, 0, none⟩ : Addr).add j) = some v) := by rw [← hu]; exact cells_new u y.cells _ _ rfl
              clear hu k32
              have HOA : Hid (u6.ownsRow bo 41 33 (.slice Ao ts.length co) ts.length (ts.flatMap DT.cells)) := own_fr HI.out.own HF6.out (fun _ _ _ e => e)
              obtain ⟨j0, hj, hj0, hj1, hj2⟩ := info_parts cinfo_item
              have hts : (ts.length + 1) * 368 ≤ 140737488355328 := by have h1 : ts.length = k := HTL.out; have h2 : k < l.length := HLT.out; have h3 : (l.length + 1) * 368 ≤ 140737488355328 := HLL.out; omega
              refine wpList_append_lies u6 rfl (.tmp 163) (.tmp 165) 24 rfl bo 41 j0 _ 33 368 Try.underlying24 hj hj0 hj1 hj2 rfl (by decide) (.slice Ao ts.length co) ts.length _ (by rfl) HOA.out ⟨u.heap.size, 0, none⟩ 1 1 y.cells (by rfl) y.cells_len HNA.out (one_all HLXt.out.one) (by decide) (by simp only [maxLen]; omega) (by omega) (by have h1 := HI.out.sz; have h2 := HI.out.fr.size; have h3 := HF6.out.size; omega) (u6.heap.size) rfl ?_
              intro g2 cn2 u7 k1 k2 k3 _
              have HIN := Lib.hid (HI.out.next (by have := HBG.out; omega) HY.out HF6.out HLX6.out HXT.out k1 k2 k3)
              have HB7 : Hid (u7.heap[gt + 2]? = some (.cells (icells h c d nv (.slice Ao ts.length co)).toArray 41 (0, 0))) := (Fr.of_grown k2).blk (HF6.out.blk HI.out.blk (fun e => e)) (fun e => HI.out.ne e)
              have ko : u7.cell? ⟨gt + 2, 32, none⟩ = some (.slice Ao ts.length co) := (cell_of_blk HB7.out 32).trans rfl
              have fo : u7.frozen? ⟨gt + 2, 32, none⟩ = false := froz_of_blk HB7.out 32
              clear k1 k2 k3 hts hj hj0 hj1 hj2
              go_wp2_with fail
              go_roundw
              case rel => first | exact ⟨k + 1, _, _, by go_num, HLT.out, HIN⟩ | exact ⟨_, _, _, _, _, _, _, _, _, _, _, _, _, _, _, _, _, _, _, _, _, _, _, _, _, _, _, _, _, _, _, _, _, _, _, _, _, _, _, _, _, _, _, _, _, _, _, _, _, _, _, _, _, _, _, _, _, _, _, _, _, _, _, _, _, _, _, _, _, _, _, _, _, _, _, _, _, _, _, _, _, _, _, _, _, _, _, _, _, _, _, _, _, _, _, _, _, _, _, _, _, _, _, _, _, _, _, _, _, _, _, _, _, _, _, _, _, _, _, _, ⟨k + 1, _, _, by go_num, HLT.out, HIN⟩, rfl⟩
              case measure => have := HLT.out; simp [intOf]; omega
          · have hk14 : ¬ K = 14 := (clause_not hcl).2
            obtain ⟨yh, yc, yd, yn, yi, yl⟩ := y
            obtain ⟨Cy, cy, e9, hq1, hq2⟩ := HLU.out.conds.slice
            simp only [DT.c, DT.h, List.length_map] at e9 hq1
            subst e9
            have hyl : yh.conds.length ≤ 9223372036854775807 := Nat.le_trans hq1 hq2
            clear hq1 hq2
            have HLCY : Hid ((yh.conds.length + 1) * 24 ≤ 140737488355328) := (HLC.out _ HM.out).1
            have HB_0 : Hid (u.heap[gx]? = some (.cells (icells yh (.slice Cy yh.conds.length cy) yd yn yi).toArray 41 (0, 0))) := HBX
            have HG_0 : Hid (Fr (fun q => q = gx) u u) := Fr.refl _ u
            obtain ⟨u0, hu0⟩ : ∃ v : World, u = v := ⟨_, rfl⟩
            rw [hu0] at HB_0 c0
            have HG_0 : Hid (Fr (fun q => q = gx) u u0) := by rw [← hu0]; exact Fr.refl _ u
            rw [hu0]
            clear hu0
            go_wp2_with fail
            refine (rClause_any K _).mono ?_
            rintro e wq ⟨rfl, hwq⟩
            have hwq := hwq.symm
            subst hwq
            rw [hcl]
            go_upto_region 13 with fail
            clear c0
            have q0 : u0.cell? ⟨gx, 3, none⟩ = some (.string ⟨yh.of_.toArray⟩) := (cell_of_blk HB_0.out 3).trans rfl
            have p0 : u0.frozen? ⟨gx, 3, none⟩ = false := froz_of_blk HB_0.out 3
            go_wp2_with fail
            refine (rchange_is yh.of_ f g _).mono ?_
            rintro e wq ⟨rfl, hwq⟩
            have hwq := hwq.symm
            subst hwq
            go_upto_region 14 with fail
            obtain ⟨u1, hu⟩ : ∃ v, u0.setCell ⟨gx, 3, none⟩ (.string ⟨(change f g yh.of_).toArray⟩) = v := ⟨_, rfl⟩
            rw [hu]
            have HB_1 : Hid (u1.heap[gx]? = some (.cells (icells ({ yh with of_ := change f g yh.of_ } : Rs.Item) (.slice Cy yh.conds.length cy) yd yn yi).toArray 41 (0, 0))) := by rw [← hu]; exact blk_set HB_0.out 3 _
            have HG_1 : Hid (Fr (fun q => q = gx) u u1) := by rw [← hu]; exact HG_0.out.setb 3 _
            clear hu q0 p0 HB_0 HG_0
            have q0 : u1.cell? ⟨gx, 4, none⟩ = some (.string ⟨yh.act.toArray⟩) := (cell_of_blk HB_1.out 4).trans rfl
            have p0 : u1.frozen? ⟨gx, 4, none⟩ = false := froz_of_blk HB_1.out 4
            go_wp2_with fail
            refine (rchange_is yh.act f g _).mono ?_
            rintro e wq ⟨rfl, hwq⟩
            have hwq := hwq.symm
            subst hwq
            go_upto_region 15 with fail
            obtain ⟨u2, hu⟩ : ∃ v, u1.setCell ⟨gx, 4, none⟩ (.string ⟨(change f g yh.act).toArray⟩) = v := ⟨_, rfl⟩
            rw [hu]
            have HB_2 : Hid (u2.heap[gx]? = some (.cells (icells ({ yh with of_ := change f g yh.of_, act := change f g yh.act } : Rs.Item) (.slice Cy yh.conds.length cy) yd yn yi).toArray 41 (0, 0))) := by rw [← hu]; exact blk_set HB_1.out 4 _
            have HG_2 : Hid (Fr (fun q => q = gx) u u2) := by rw [← hu]; exact HG_1.out.setb 4 _
            clear hu q0 p0 HB_1 HG_1
            have q0 : u2.cell? ⟨gx, 14, none⟩ = some (.string ⟨yh.by_.toArray⟩) := (cell_of_blk HB_2.out 14).trans rfl
            have p0 : u2.frozen? ⟨gx, 14, none⟩ = false := froz_of_blk HB_2.out 14
            go_wp2_with fail
            refine (rchange_is yh.by_ f g _).mono ?_
            rintro e wq ⟨rfl, hwq⟩
            have hwq := hwq.symm
            subst hwq
            go_upto_region 16 with fail
            obtain ⟨u3, hu⟩ : ∃ v, u2.setCell ⟨gx, 14, none⟩ (.string ⟨(change f g yh.by_).toArray⟩) = v := ⟨_, rfl⟩
            rw [hu]
            have HB_3 : Hid (u3.heap[gx]? = some (.cells (icells ({ yh with of_ := change f g yh.of_, act := change f g yh.act, by_ := change f g yh.by_ } : Rs.Item) (.slice Cy yh.conds.length cy) yd yn yi).toArray 41 (0, 0))) := by rw [← hu]; exact blk_set HB_2.out 14 _
            have HG_3 : Hid (Fr (fun q => q = gx) u u3) := by rw [← hu]; exact HG_2.out.setb 14 _
            clear hu q0 p0 HB_2 HG_2
            have q0 : u3.cell? ⟨gx, 15, none⟩ = some (.string ⟨yh.til.toArray⟩) := (cell_of_blk HB_3.out 15).trans rfl
            have p0 : u3.frozen? ⟨gx, 15, none⟩ = false := froz_of_blk HB_3.out 15
            go_wp2_with fail
            refine (rchange_is yh.til f g _).mono ?_
            rintro e wq ⟨rfl, hwq⟩
            have hwq := hwq.symm
            subst hwq
            go_upto_region 17 with fail
            obtain ⟨u4, hu⟩ : ∃ v, u3.setCell ⟨gx, 15, none⟩ (.string ⟨(change f g yh.til).toArray⟩) = v := ⟨_, rfl⟩
            rw [hu]
            have HB_4 : Hid (u4.heap[gx]? = some (.cells (icells ({ yh with of_ := change f g yh.of_, act := change f g yh.act, by_ := change f g yh.by_, til := change f g yh.til } : Rs.Item) (.slice Cy yh.conds.length cy) yd yn yi).toArray 41 (0, 0))) := by rw [← hu]; exact blk_set HB_3.out 15 _
            have HG_4 : Hid (Fr (fun q => q = gx) u u4) := by rw [← hu]; exact HG_3.out.setb 15 _
            clear hu q0 p0 HB_3 HG_3
            have q0 : u4.cell? ⟨gx, 18, none⟩ = some (.string ⟨yh.unit.toArray⟩) := (cell_of_blk HB_4.out 18).trans rfl
            have p0 : u4.frozen? ⟨gx, 18, none⟩ = false := froz_of_blk HB_4.out 18
            go_wp2_with fail
            refine (rchange_is yh.unit f g _).mono ?_
            rintro e wq ⟨rfl, hwq⟩
            have hwq := hwq.symm
            subst hwq
            go_upto_region 18 with fail
            obtain ⟨u5, hu⟩ : ∃ v, u4.setCell ⟨gx, 18, none⟩ (.string ⟨(change f g yh.unit).toArray⟩) = v := ⟨_, rfl⟩
            rw [hu]
            have HB_5 : Hid (u5.heap[gx]? = some (.cells (icells ({ yh with of_ := change f g yh.of_, act := change f g yh.act, by_ := change f g yh.by_, til := change f g yh.til, unit := change f g yh.unit } : Rs.Item) (.slice Cy yh.conds.length cy) yd yn yi).toArray 41 (0, 0))) := by rw [← hu]; exact blk_set HB_4.out 18 _
            have HG_5 : Hid (Fr (fun q => q = gx) u u5) := by rw [← hu]; exact HG_4.out.setb 18 _
            clear hu q0 p0 HB_4 HG_4
            have q0 : u5.cell? ⟨gx, 19, none⟩ = some (.string ⟨yh.sum.toArray⟩) := (cell_of_blk HB_5.out 19).trans rfl
            have p0 : u5.frozen? ⟨gx, 19, none⟩ = false := froz_of_blk HB_5.out 19
            go_wp2_with fail
            refine (rchange_is yh.sum f g _).mono ?_
            rintro e wq ⟨rfl, hwq⟩
            have hwq := hwq.symm
            subst hwq
            go_upto_region 19 with fail
            obtain ⟨u6, hu⟩ : ∃ v, u5.setCell ⟨gx, 19, none⟩ (.string ⟨(change f g yh.sum).toArray⟩) = v := ⟨_, rfl⟩
            rw [hu]
            have HB_6 : Hid (u6.heap[gx]? = some (.cells (icells ({ yh with of_ := change f g yh.of_, act := change f g yh.act, by_ := change f g yh.by_, til := change f g yh.til, unit := change f g yh.unit, sum := change f g yh.sum } : Rs.Item) (.slice Cy yh.conds.length cy) yd yn yi).toArray 41 (0, 0))) := by rw [← hu]; exact blk_set HB_5.out 19 _
            have HG_6 : Hid (Fr (fun q => q = gx) u u6) := by rw [← hu]; exact HG_5.out.setb 19 _
            clear hu q0 p0 HB_5 HG_5
            have q0 : u6.cell? ⟨gx, 22, none⟩ = some (.string ⟨yh.to_.toArray⟩) := (cell_of_blk HB_6.out 22).trans rfl
            have p0 : u6.frozen? ⟨gx, 22, none⟩ = false := froz_of_blk HB_6.out 22
            go_wp2_with fail
            refine (rchange_is yh.to_ f g _).mono ?_
            rintro e wq ⟨rfl, hwq⟩
            have hwq := hwq.symm
            subst hwq
            go_upto_region 20 with fail
            obtain ⟨u7, hu⟩ : ∃ v, u6.setCell ⟨gx, 22, none⟩ (.string ⟨(change f g yh.to_).toArray⟩) = v := ⟨_, rfl⟩
            rw [hu]
            have HB_7 : Hid (u7.heap[gx]? = some (.cells (icells ({ yh with of_ := change f g yh.of_, act := change f g yh.act, by_ := change f g yh.by_, til := change f g yh.til, unit := change f g yh.unit, sum := change f g yh.sum, to_ := change f g yh.to_ } : Rs.Item) (.slice Cy yh.conds.length cy) yd yn yi).toArray 41 (0, 0))) := by rw [← hu]; exact blk_set HB_6.out 22 _
            have HG_7 : Hid (Fr (fun q => q = gx) u u7) := by rw [← hu]; exact HG_6.out.setb 22 _
            clear hu q0 p0 HB_6 HG_6
            have q0 : u7.cell? ⟨gx, 9, none⟩ = some (.string ⟨yh.within.name.toArray⟩) := (cell_of_blk HB_7.out 9).trans rfl
            have p0 : u7.frozen? ⟨gx, 9, none⟩ = false := froz_of_blk HB_7.out 9
            go_wp2_with fail
            refine (rchange_is yh.within.name f g _).mono ?_
            rintro e wq ⟨rfl, hwq⟩
            have hwq := hwq.symm
            subst hwq
            go_upto_region 21 with fail
            obtain ⟨u8, hu⟩ : ∃ v, u7.setCell ⟨gx, 9, none⟩ (.string ⟨(change f g yh.within.name).toArray⟩) = v := ⟨_, rfl⟩
            rw [hu]
            have HB_8 : Hid (u8.heap[gx]? = some (.cells (icells ({ yh with of_ := change f g yh.of_, act := change f g yh.act, by_ := change f g yh.by_, til := change f g yh.til, unit := change f g yh.unit, sum := change f g yh.sum, to_ := change f g yh.to_, within := { yh.within with name := change f g yh.within.name } } : Rs.Item) (.slice Cy yh.conds.length cy) yd yn yi).toArray 41 (0, 0))) := by rw [← hu]; exact blk_set HB_7.out 9 _
            have HG_8 : Hid (Fr (fun q => q = gx) u u8) := by rw [← hu]; exact HG_7.out.setb 9 _
            clear hu q0 p0 HB_7 HG_7
            have q0 : u8.cell? ⟨gx, 12, none⟩ = some (.string ⟨yh.grace.name.toArray⟩) := (cell_of_blk HB_8.out 12).trans rfl
            have p0 : u8.frozen? ⟨gx, 12, none⟩ = false := froz_of_blk HB_8.out 12
            go_wp2_with fail
            refine (rchange_is yh.grace.name f g _).mono ?_
            rintro e wq ⟨rfl, hwq⟩
            have hwq := hwq.symm
            subst hwq
            go_upto_region 22 with fail
            obtain ⟨u9, hu⟩ : ∃ v, u8.setCell ⟨gx, 12, none⟩ (.string ⟨(change f g yh.grace.name).toArray⟩) = v := ⟨_, rfl⟩
            rw [hu]
            have HB_9 : Hid (u9.heap[gx]? = some (.cells (icells ({ yh with of_ := change f g yh.of_, act := change f g yh.act, by_ := change f g yh.by_, til := change f g yh.til, unit := change f g yh.unit, sum := change f g yh.sum, to_ := change f g yh.to_, within := { yh.within with name := change f g yh.within.name }, grace := { yh.grace with name := change f g yh.grace.name } } : Rs.Item) (.slice Cy yh.conds.length cy) yd yn yi).toArray 41 (0, 0))) := by rw [← hu]; exact blk_set HB_8.out 12 _
            have HG_9 : Hid (Fr (fun q => q = gx) u u9) := by rw [← hu]; exact HG_8.out.setb 12 _
            clear hu q0 p0 HB_8 HG_8
            obtain ⟨yg, HYG⟩ : ∃ q : Rs.Item, Hid (({ yh with of_ := change f g yh.of_, act := change f g yh.act, by_ := change f g yh.by_, til := change f g yh.til, unit := change f g yh.unit, sum := change f g yh.sum, to_ := change f g yh.to_, within := { yh.within with name := change f g yh.within.name }, grace := { yh.grace with name := change f g yh.grace.name } } : Rs.Item) = q) := ⟨_, rfl⟩
            rw [HYG.out] at HB_9
            have HYC : Hid (yg.conds = yh.conds) := by rw [← HYG.out]; rfl
            have HYK : Hid (yg.kind = K) := by rw [← HYG.out]; exact HK.out
            obtain ⟨uz, rfl⟩ : ∃ w : World, w = u9 := ⟨_, rfl⟩
            obtain ⟨wo, rfl⟩ : ∃ w : World, w = wr := ⟨_, rfl⟩
            obtain ⟨b2, HB2⟩ : ∃ b, Hid (uz.heap.size = b) := ⟨_, rfl⟩
            have HGXB : Hid (gx < b2) := by rw [← HB2.out]; exact lt_of_blk HB_9.out
            have HFZ : Hid (Fr (fun q => q = gx) wo uz) := (HFU.out.mono (fun _ _ e => e.elim)).trans HG_9.out
            have HLZ : Hid (Lay (fun q => B q ∧ q < gt) uz (DT.node yh (.slice Cy yh.conds.length cy) yd yn yi yl)) := HLU.out.fr HG_9.out (fun q hq e => by have e : q = gx := e; have h0 := hq.2; have h1 := HBG.out; have h2 := HI.out.fr.size; have h3 := HBO.out; have h4 := HGX.out; omega)
            have HS0 : Hid (Cb b2 ((yh.conds.take 0).map fun k => { k with name := change f g k.name }) (.slice none 0 0) uz uz) := ⟨by rw [HB2.out]; exact Nat.le_refl _, World.ownsRow_nil _ _ _ _, Fr.refl _ _⟩
            go_wp2_with fail
            go_loopw [11, 12] (fun a i wk => ∃ (j : Nat) (cv : Value), a = cv ∧ i = .int .i64 j ∧ j ≤ yh.conds.length ∧ Hid (Cb b2 ((yh.conds.take j).map fun k => { k with name := change f g k.name }) cv uz wk)) (fun a i _ => yh.conds.length - (intOf i).toNat)
            case atStart => exact ⟨0, _, rfl, rfl, Nat.zero_le _, HS0⟩
            case round =>
              clear HS0
              obtain ⟨j, cv, rfl, rfl, hj, HS⟩ := hrel
              have j1 : (0 : Int) ≤ (j : Int) := Int.natCast_nonneg _
              have HBw : Hid (wr.heap[gx]? = some (.cells (icells yg (.slice Cy yh.conds.length cy) yd yn yi).toArray 41 (0, 0))) := HS.out.fr.blk HB_9.out (fun e => by have e : b2 ≤ gx := e; have h1 := HGXB.out; omega)
              have e13 : wr.cell? ⟨gx, 13, none⟩ = some (.slice Cy yh.conds.length cy) := (cell_of_blk HBw.out 13).trans rfl
              by_cases hjl : j < yh.conds.length
              · have j2 : (j : Int) < (yh.conds.length : Int) := by omega
                obtain ⟨s, hs⟩ : ∃ s, yh.conds[j]? = some s := ⟨_, List.getElem?_eq_getElem hjl⟩
                obtain ⟨p0, r0, hNy, hpg, _, hpat⟩ := HLZ.out.conds.at (k := j) (x := namedc s) (by show (yh.conds.map namedc)[j]? = _; rw [List.getElem?_map, hs]; rfl)
                subst hNy
                have HSS := Lib.hid hs
                have HJL : Hid (j < yh.conds.length) := hjl
                have HPG : Hid (p0 < b2) := by rw [← HB2.out]; exact hpg
                have HPA := Lib.hid hpat
                have HTJ : Hid (((yh.conds.take j).map fun k => { k with name := change f g k.name }).length = j) := by show _ = _; rw [List.length_map, List.length_take]; omega
                clear hs hpg hpat hjl
                go_upto_region 26 with fail
                refine ren_r26 (by kernel_rfl) HS.out HB_9.out HGXB.out HPG.out HPA.out HJL.out (by rw [HTJ.out]; have h1 : j < yh.conds.length := HJL.out; have h2 : (yh.conds.length + 1) * 24 ≤ 140737488355328 := HLCY.out; omega) (fun _ _ _ _ _ h => h) ?_
                intro v11 v118 v119 v120 v121 v122 v123 v124 v125 v126 v127 v128 v129 v130 v131 v132 v133 v134 v135 v136 wy hb2
                have HS2 : Hid (Cb b2 ((yh.conds.take (j + 1)).map fun k => { k with name := change f g k.name }) v11 uz wy) := by
                  rw [List.take_add_one, HSS.out, List.map_append]
                  exact hb2
                clear hb2 e13
                go_wp2_with fail
                go_roundw
                case rel => first | exact ⟨j + 1, _, rfl, by go_num, HJL.out, HS2⟩ | exact ⟨j + 1, _, by go_num, by go_num, HJL.out, HS2⟩
                case measure => have := HJL.out; simp [intOf]; omega
              · obtain rfl : j = yh.conds.length := by omega
                rw [List.take_length] at HS
                obtain ⟨A2, c2, hcv⟩ := own_form HS.out.own
                rw [List.length_map] at hcv
                subst hcv
                have f13 : wr.frozen? ⟨gx, 13, none⟩ = false := froz_of_blk HBw.out 13
                go_upto_region 28 with fail
                obtain ⟨v7, hu⟩ : ∃ v, wr.setCell ⟨gx, 13, none⟩ (.slice A2 yh.conds.length c2) = v := ⟨_, rfl⟩
                rw [hu]
                have HF7 : Hid (Fr (fun q => q = gx) wr v7) := by rw [← hu]; exact (Fr.refl (fun q => q = gx) wr).setb 13 _
                obtain ⟨x, HX⟩ : ∃ x, Hid (DT.node { yg with conds := yh.conds.map fun k => { k with name := change f g k.name } } (.slice A2 yh.conds.length c2) yd yn yi yl = x) := ⟨_, rfl⟩
                have HBX7 : Hid (v7.heap[gx]? = some (.cells x.cells.toArray 41 (0, 0))) := by rw [← HX.out, ← hu]; exact blk_set HBw.out 13 _
                have HXK : Hid (v7.cell? ⟨gx, 0, none⟩ = some (.int .i64 K)) := by rw [← HYK.out]; exact (cell_of_blk HBX7.out 0).trans (by rw [← HX.out]; rfl)
                clear hu e13 f13 hj j1
                have HNN : Hid (gt + 3 ≤ bo ∧ bo ≤ wo.heap.size ∧ wo.heap.size ≤ gx ∧ gx < b2) := ⟨HBG.out, by have h1 := HI.out.fr.size; have h2 := HBO.out; omega, HGX.out, HGXB.out⟩
                have HFS : Hid (Fr (fun q => q = gx ∨ b2 ≤ q) uz v7) := (HS.out.fr.mono (T := fun q => q = gx ∨ b2 ≤ q) (fun q _ e => .inr e)).trans' HF7.out (fun q _ e => .inl e)
                have HFw : Hid (Fr (fun _ => False) wo v7) := (HFZ.out.trans' (S := fun q => q = gx) HFS.out (fun q hq e => by have e : q = gx ∨ b2 ≤ q := e; have hq : q < wo.heap.size := hq; have h1 := HNN.out; exact absurd hq (by omega))).mono (fun q hq e => by have e : q = gx := e; have h1 := HNN.out; exact absurd hq (by omega))
                have HXT : Hid (x.tree = rename1 f g (DT.node yh (.slice Cy yh.conds.length cy) yd yn yi yl).tree) := by
                  show _ = _
                  rw [← HX.out, rename1_clause (by have hk : yh.kind = K := HK.out; show isClause yh.kind = true; rw [hk]; exact hcl), ← HYG.out, DT.tree, trees_map]
                  rfl
                have HLV := HLZ.out.fr HFS.out (fun q hq e => by have e : q = gx ∨ b2 ≤ q := e; have h0 := hq.2; have h1 := HNN.out; omega)
                have HLVm : ∀ q, q < v7.heap.size → (B q ∧ q < gt) → (((B q ∧ q < gt) ∨ gt + 3 ≤ q) ∧ q ≠ gt + 2 ∧ (Value.slice Ao ts.length co).ownBlock ≠ some q) := fun q _ hq => ⟨.inl hq, by have h1 := hq.2; omega, fun e => by have h1 := hq.2; have h2 := (own_lt HI.out.own q e).1; have h3 := HBG.out; omega⟩
                have HOV := own_frb HS.out.own HF7.out (fun q hq e => by have e : q = gx := e; have h1 := (own_lt HS.out.own q hq).1; have h2 := HNN.out; omega)
                have HLXt : Hid (Lay (fun q => ((B q ∧ q < gt) ∨ gt + 3 ≤ q) ∧ q ≠ gt + 2 ∧ (Value.slice Ao ts.length co).ownBlock ≠ some q) v7 x) := by
                  rw [← HX.out, ← HYG.out]
                  refine .node _ _ _ _ _ _ ⟨Row.of_own HOV (fun x _ => rfl), fun q o n c e hne => ?_⟩ (HLV.dates.mono HLVm) (HLV.names.mono HLVm) (HLV.items.row.mono HLVm) (fun z hz => (HLV.inner z hz).mono HLVm)
                  have h1 := (own_lt HOV q (by rw [e]; exact own_zero HOV e)).1
                  have h2 := HNN.out
                  exact ⟨.inr (by omega), by omega, fun e2 => by have h3 := (own_lt HI.out.own q e2).2; omega⟩
                have HBX := HBX7
                have c0 := HXK.out
                clear HLV HLVm HOV
                go_upto_region 35 with fail
                clear c0
                have k32 : v7.cell? ⟨gt + 2, 32, none⟩ = some (.slice Ao ts.length co) := (cell_of_blk (HFw.out.blk HI.out.blk (fun e => e)) 32).trans rfl
                iterate 7 go_step
                refine wpList_load_row rfl 41 _ rfl gx rfl 41 x.cells.toArray (0, 0) _ HBX.out Try.underlying41 rfl (info_it x) ?_
                simp only [Act.put, List.setIfInBounds_toArray, List.set_cons_zero, List.set_cons_succ]
                refine wpList_bsl1_g (o := ⟨some 165, _, _, _, _, _⟩) ?hwbd 24 _ rfl (v0 := .agg x.cells.toArray) rfl (.slice (some ⟨v7.heap.size, 0, none⟩) 1 1) (v7.alloc (.cells x.cells.toArray 41)) ?hbd ?hqd
                case hwbd => rfl
                case hbd => exact bsl_one HLXt.out _
                simp only [Act.put, List.setIfInBounds_toArray, List.set_cons_zero, List.set_cons_succ]
                obtain ⟨u6, hu⟩ : ∃ v, v7.alloc (.cells x.cells.toArray 41) = v := ⟨_, rfl⟩
                rw [hu]
                have HF6 : Hid (Fr (fun _ => False) wo u6) := by rw [← hu]; exact HFw.out.alloc _
                have HLX6 : Hid (Lay (fun q => ((B q ∧ q < gt) ∨ gt + 3 ≤ q) ∧ q ≠ gt + 2 ∧ (Value.slice Ao ts.length co).ownBlock ≠ some q) u6 x) := by rw [← hu]; exact HLXt.out.fr ((Fr.refl (fun _ => False) _).alloc _) (fun _ _ e => e)
                have HNA : Hid (∀ j v, x.cells[j]? = some v → u6.cell? ((⟨v7.heap.size, 0, none⟩ : Addr).add j) = some v) := by rw [← hu]; exact cells_new v7 x.cells _ _ rfl
                clear hu k32
                have HOA : Hid (u6.ownsRow bo 41 33 (.slice Ao ts.length co) ts.length (ts.flatMap DT.cells)) := own_fr HI.out.own HF6.out (fun _ _ _ e => e)
                obtain ⟨j0, hj, hj0, hj1, hj2⟩ := info_parts cinfo_item
                have hts : (ts.length + 1) * 368 ≤ 140737488355328 := by have h1 : ts.length = k := HTL.out; have h2 : k < l.length := HLT.out; have h3 : (l.length + 1) * 368 ≤ 140737488355328 := HLL.out; omega
                refine wpList_append_lies u6 rfl (.tmp 163) (.tmp 165) 24 rfl bo 41 j0 _ 33 368 Try.underlying24 hj hj0 hj1 hj2 rfl (by decide) (.slice Ao ts.length co) ts.length _ (by rfl) HOA.out ⟨v7.heap.size, 0, none⟩ 1 1 x.cells (by rfl) x.cells_len HNA.out (one_all HLXt.out.one) (by decide) (by simp only [maxLen]; omega) (by omega) (by have h1 := HI.out.sz; have h2 := HI.out.fr.size; have h3 := HF6.out.size; omega) (u6.heap.size) rfl ?_
                intro g2 cn2 u7 k1 k2 k3 _
                have HIN := Lib.hid (HI.out.next (by have := HBG.out; omega) HY.out HF6.out HLX6.out HXT.out k1 k2 k3)
                have HB7 : Hid (u7.heap[gt + 2]? = some (.cells (icells h c d nv (.slice Ao ts.length co)).toArray 41 (0, 0))) := (Fr.of_grown k2).blk (HF6.out.blk HI.out.blk (fun e => e)) (fun e => HI.out.ne e)
                have ko : u7.cell? ⟨gt + 2, 32, none⟩ = some (.slice Ao ts.length co) := (cell_of_blk HB7.out 32).trans rfl
                have fo : u7.frozen? ⟨gt + 2, 32, none⟩ = false := froz_of_blk HB7.out 32
                clear k1 k2 k3 hts hj hj0 hj1 hj2
                go_wp2_with fail
                go_roundw
                case rel => first | exact ⟨k + 1, _, _, by go_num, HLT.out, HIN⟩ | exact ⟨_, _, _, _, _, _, _, _, _, _, _, _, _, _, _, _, _, _, _, _, _, _, _, _, _, _, _, _, _, _, _, _, _, _, _, _, _, _, _, _, _, _, _, _, _, _, _, _, _, _, _, _, _, _, _, _, _, _, _, _, _, _, _, _, _, _, _, _, _, _, _, _, _, _, _, _, _, _, _, _, _, _, _, _, _, _, _, _, _, _, _, _, _, _, _, _, _, _, _, _, _, _, _, _, _, _, _, _, _, _, _, _, _, _, _, _, _, _, _, _, ⟨k + 1, _, _, by go_num, HLT.out, HIN⟩, rfl⟩
                case measure => have := HLT.out; simp [intOf]; omega
        · obtain rfl : k = l.length := by omega
          obtain ⟨Ao, co, hiv⟩ := own_form HI.out.own
          subst hiv
          obtain ⟨o, HO⟩ : ∃ o, Hid (DT.node { h with names := h.names.map (change f g) } c d nv (.slice Ao ts.length co) ts = o) := ⟨_, rfl⟩
          have HOB : Hid (wr.heap[gt + 2]? = some (.cells o.cells.toArray 41 (0, 0))) := by rw [← HO.out]; exact HI.out.blk
          have HRr : Hid (wr.heap[gt + 1]? = some (.cells #[.int .i64 0, .string ⟨#[]⟩, .int .i64 0, .string ⟨#[]⟩, .string ⟨#[]⟩, .int .i64 0, .int .i64 0, .int .i64 0, .bool false, .string ⟨#[]⟩, .int .i64 0, .bool false, .string ⟨#[]⟩, .slice none 0 0, .string ⟨#[]⟩, .string ⟨#[]⟩, .int .i64 0, .int .i64 0, .string ⟨#[]⟩, .string ⟨#[]⟩, .bool false, .string ⟨#[]⟩, .string ⟨#[]⟩, .bool false, .bool false, .bool false, .bool false, .bool false, .bool false, .bool false, .slice none 0 0, .slice none 0 0, .slice none 0 0] 41 (0, 0))) := HI.out.fr.blk HR4.out (fun e => by have e : gt + 1 = gt + 2 ∨ bo ≤ gt + 1 := e; have h1 := HBG.out; omega)
          have HOT : Hid (o.tree = renamed f g (DT.node h c d (.slice An h.names.length cn) (.slice A l.length ci) l).tree) := by
            have h1 := HI.out.tr
            rw [List.take_length] at h1
            show _ = _
            rw [← HO.out, DT.tree, trees_map ts, h1]
            unfold renamed
            rw [DT.tree_h, DT.tree_l, List.map_map]
            rfl
          have HLT4 : Hid (∀ q, (fun q => q = gt + 2 ∨ bo ≤ q) q → ¬ (q < gt)) := fun q e => by have e : q = gt + 2 ∨ bo ≤ q := e; have h1 := HBG.out; omega
          have HOL : Hid (Lay (fun q => (B q ∧ q < gt) ∨ gt + 3 ≤ q) wr o) := by
            rw [← HO.out]
            refine .node _ _ _ _ _ _ ((HLCD.out.1.fr HI.out.fr (fun q hq e => HLT4.out q e hq.2)).mono (fun q _ hq => .inl hq)) ((HLCD.out.2.fr HI.out.fr (fun q hq e => HLT4.out q e hq.2)).mono (fun q _ hq => .inl hq)) ?_ ?_ (fun z hz => (HI.out.lay z hz).mono (fun q _ hq => hq.1))
            · have h1 := own_frb HOW4.out HI.out.fr (fun q hq e => by have e : q = gt + 2 ∨ bo ≤ q := e; have h2 := own_lt HOW4.out q hq; have h3 := HBO.out; omega)
              exact ⟨Row.of_own h1 (fun x _ => rfl), fun q o n c e hne => .inr (own_lt h1 q (by rw [e]; exact own_zero h1 e)).1⟩
            · exact ⟨Row.of_own HI.out.own (fun x _ => x.cells_len), fun q o n c e hne => .inr (by have h2 := (own_lt HI.out.own q (by rw [e]; exact own_zero HI.out.own e)).1; have h3 := HBG.out; omega)⟩
          go_upto_region 36 with fail
          iterate 1 go_step
          refine wpList_load_row rfl 41 _ rfl (gt + 2) rfl 41 o.cells.toArray (0, 0) _ HOB.out Try.underlying41 rfl (info_it o) ?_
          simp only [Act.put, List.setIfInBounds_toArray, List.set_cons_zero, List.set_cons_succ]
          refine wpList_store_row rfl 41 _ _ rfl (gt + 1) o.cells.toArray rfl rfl 41 _ HRr.out (info_it o) (cells_size o).symm HOL.out.one ?_
          simp only [Act.put, List.setIfInBounds_toArray, List.set_cons_zero, List.set_cons_succ]
          obtain ⟨u6, hu⟩ : ∃ v, wr.setRow (gt + 1) o.cells.toArray = v := ⟨_, rfl⟩
          rw [hu]
          have HB6 : Hid (u6.heap[gt + 1]? = some (.cells o.cells.toArray 41 (0, 0))) := by rw [← hu]; exact blk_row HRr.out _
          have HF6 : Hid (Fr (fun j => j = gt + 1) wr u6) := by rw [← hu]; exact (Fr.refl (fun j => j = gt + 1) wr).setRow (.inl rfl) _
          clear hu
          go_wp2_with fail
          refine bodyPost_ret (results_blk Try.results18 rfl HB6.out Try.underlying41 rfl (by first | exact info_it o | (rw [info_item]; rfl))) rfl ?_
          refine ⟨o, rfl, HOT.out, (HOL.out.fr HF6.out (fun q hq e => by have e : q = gt + 1 := e; rcases hq with hq | hq; · have := hq.2; omega
                                                                         · omega)).mono (fun q _ hq => hq.imp (fun h => h.1) (fun h => by have := HGT.out; omega)), ?_⟩
          exact (HW4.out.trans' HI.out.fr (fun q hq e => by have e : q = gt + 2 ∨ bo ≤ q := e; have h1 := HGT.out; have h2 := HBG.out; have hq : q < W.heap.size := hq; omega)).trans' HF6.out (fun q hq e => by have e : q = gt + 1 := e; have h1 := HGT.out; have hq : q < W.heap.size := hq; omega)
end Go.Proofs.Yticakdajhmfpoaa.Ic
