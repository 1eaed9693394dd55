/-
  Include: the reference's number of items, and small sources.
-/
import Derived.Test.YticakdajhmfpoaaIncNum
namespace Go.Proofs.Yticakdajhmfpoaa.Ic
open Go.RowKit Mem Vw Rs
set_option linter.unusedVariables false
set_option linter.unusedSimpArgs false

def CountS (l : List DT) (most c : Int) : Prop := ((tsz l : Int) ≤ most → c = tsz l) ∧ (most < (tsz l : Int) → most < c) ∧ c ≤ (tsz l : Int) ∧ 0 ≤ c
def CountR (l : List DT) (most : Int) (W : World) (nv iv : Value) (wr : World) : Prop := ∃ (k : Nat) (m : Int), iv = .int .i64 k ∧ k ≤ l.length ∧ nv = .int .i64 m ∧ Hid (CountS (l.take k) most m) ∧ wr = W
set_option maxRecDepth 100000 in
set_option maxHeartbeats 4000000 in
theorem count_any : ∀ (n : Nat) (l : List DT) (v : Value) (most : Int) (W : World) (B : Nat → Prop), tsz l ≤ n → LayL B W l v →
    Calls Try.prog 22 #[v, .int .i64 most] W fun e w' => ∃ c : Int, e = .returned (.int .i64 c) ∧ (tsz l ≤ 4611686018427387904 → 0 ≤ most → most ≤ 1000 → CountS l most c) ∧ w' = W := by
  intro n
  induction n using Nat.strongRecOn with
  | ind n ih =>
  intro l v most W B hn hL
  have HIH : Hid (∀ (y : DT) (most : Int), y ∈ l → LayL B W y.l y.i → Calls Try.prog 22 #[y.i, .int .i64 most] W fun e w' => ∃ c : Int, e = .returned (.int .i64 c) ∧ (tsz y.l ≤ 4611686018427387904 → 0 ≤ most → most ≤ 1000 → CountS y.l most c) ∧ w' = W) := fun y most hy h => ih (tsz y.l) (Nat.lt_of_lt_of_le (tsz_lt hy) hn) y.l y.i most W B (Nat.le_refl _) h
  clear ih hn
  obtain ⟨A, cp, rfl, hc1, hc2⟩ := hL.slice
  have HL := Lib.hid hL
  clear hL
  have hzl : l.length ≤ 9223372036854775807 := by omega
  by_cases hp : tsz l ≤ 4611686018427387904 ∧ 0 ≤ most ∧ most ≤ 1000
  · obtain ⟨p1, p2, p3⟩ := hp
    go_enter Try.func22, Try.ntmps22
    go_wp2_with fail
    go_loopw [5, 6] (fun nv iv wr => CountR l most W nv iv wr) (fun _ i _ => l.length - (intOf i).toNat)
    case atStart => exact ⟨0, 0, rfl, Nat.zero_le _, rfl, Lib.hid ⟨fun _ => by rw [List.take_zero, tsz_nil]; rfl, fun h => by rw [List.take_zero, tsz_nil] at h; omega, by rw [List.take_zero, tsz_nil]; omega, Int.le_refl _⟩, rfl⟩
    case round =>
      obtain ⟨k, m, rfl, hk, rfl, HS, rfl⟩ := hrel
      have i1 : (0 : Int) ≤ (k : Int) := Int.natCast_nonneg _
      have HTL0 := Lib.hid (tsz_take_le l k)
      by_cases hlt : k < l.length
      · have i2 : (k : Int) < (l.length : Int) := by omega
        by_cases hm : m ≤ most
        · obtain ⟨y, hy⟩ : ∃ y, l[k]? = some y := ⟨_, List.getElem?_eq_getElem hlt⟩
          obtain ⟨g, o, hA, hg, hgB, hat⟩ := HL.out.at hy
          subst hA
          have kc : wr.cell? ⟨g, o + k * 33 + 32, none⟩ = some y.i := hat 32 _ (by rw [DT.cells_eq]; rfl)
          have HYM : Hid (y ∈ l) := List.mem_of_getElem? hy
          have HTK := Lib.hid (tsz_take hy)
          have HTL := Lib.hid (tsz_take_le l (k + 1))
          have HCA := Lib.hid (HIH.out y (most - m) HYM.out (HL.out.lay y HYM.out).items)
          obtain ⟨Ay, cy, hyi, _, _⟩ := (HL.out.lay y HYM.out).items.slice
          rw [hyi] at kc HCA
          have HKK := Lib.hid hlt
          have m0 : 0 ≤ m := HS.out.2.2.2
          have m1 : m = (tsz (l.take k) : Int) := by
            obtain ⟨s1, s2, s3, s4⟩ := HS.out
            by_cases h : (tsz (l.take k) : Int) ≤ most
            · exact s1 h
            · have := s2 (by omega); omega
          have HM1 := Lib.hid m1
          clear hat hg hgB hy hyi hlt m1
          go_wp2_with fail
          refine HCA.out.mono ?_
          rintro e w1 ⟨c1, rfl, hc, rfl⟩
          have hcs : CountS y.l (most - m) c1 := by
            have t1 := HTK.out; have t2 := HTL.out
            exact hc (by omega) (by omega) (by omega)
          obtain ⟨d1, d2, d3, d4⟩ := hcs
          have d5 : m + 1 + c1 ≤ 4611686018427387904 := by
            have t1 := HTK.out; have t2 := HTL.out; have t3 := HM1.out
            omega
          have HN : Hid (CountS (l.take (k + 1)) most (m + 1 + c1)) := by
            have t1 := HTK.out; have t3 := HM1.out
            refine ⟨fun h => ?_, fun h => ?_, by omega, by omega⟩
            · have := d1 (by omega); omega
            · by_cases h5 : (tsz y.l : Int) ≤ most - m
              · have := d1 h5; omega
              · have := d2 (by omega); omega
          clear d1 d2 d3 hc
          go_wp2_with fail
          go_roundw
          case rel => exact ⟨k + 1, _, by go_num, HKK.out, by go_num, HN, rfl⟩
          case measure => have := HKK.out; simp [intOf]; omega
        · have hm2 : most < m := by omega
          go_wp2_with fail
          go_ret
          obtain ⟨s1, s2, s3, s4⟩ := HS.out
          have t := HTL0.out
          exact ⟨m, rfl, ⟨fun h => by omega, fun _ => hm2, by omega, s4⟩, rfl⟩
      · obtain rfl : k = l.length := by omega
        rw [List.take_length] at HS
        go_wp2_with fail
        go_ret
        exact ⟨m, rfl, fun _ _ _ => HS.out, rfl⟩
  · have HP := Lib.hid hp
    clear hp
    go_enter Try.func22, Try.ntmps22
    go_wp2_with fail
    go_loopw [5, 6] (fun nv iv wr => ∃ (k : Nat) (m : Int), iv = .int .i64 k ∧ k ≤ l.length ∧ nv = .int .i64 m ∧ wr = W) (fun _ i _ => l.length - (intOf i).toNat)
    case atStart => exact ⟨0, 0, rfl, Nat.zero_le _, rfl, rfl⟩
    case round =>
      obtain ⟨k, m, rfl, hk, rfl, rfl⟩ := hrel
      have i1 : (0 : Int) ≤ (k : Int) := Int.natCast_nonneg _
      by_cases hlt : k < l.length
      · have i2 : (k : Int) < (l.length : Int) := by omega
        by_cases hm : m ≤ most
        · obtain ⟨y, hy⟩ : ∃ y, l[k]? = some y := ⟨_, List.getElem?_eq_getElem hlt⟩
          obtain ⟨g, o, hA, hg, hgB, hat⟩ := HL.out.at hy
          subst hA
          have kc : wr.cell? ⟨g, o + k * 33 + 32, none⟩ = some y.i := hat 32 _ (by rw [DT.cells_eq]; rfl)
          have HYM : Hid (y ∈ l) := List.mem_of_getElem? hy
          have HCA := Lib.hid (HIH.out y (IntKind.i64.wrap (most - m)) HYM.out (HL.out.lay y HYM.out).items)
          obtain ⟨Ay, cy, hyi, _, _⟩ := (HL.out.lay y HYM.out).items.slice
          rw [hyi] at kc HCA
          have HKK := Lib.hid hlt
          clear hat hg hgB hy hyi hlt
          obtain ⟨d, hd⟩ : ∃ d, IntKind.i64.wrap (most - m) = d := ⟨_, rfl⟩
          rw [hd] at HCA
          obtain ⟨m1, hm1⟩ : ∃ d, IntKind.i64.wrap (m + 1) = d := ⟨_, rfl⟩
          go_wp2_with fail
          refine HCA.out.mono ?_
          rintro e w1 ⟨c1, rfl, hc, rfl⟩
          obtain ⟨m2, hm2⟩ : ∃ d, IntKind.i64.wrap (m1 + c1) = d := ⟨_, rfl⟩
          clear hc
          go_wp2_with fail
          go_roundw
          case rel => exact ⟨k + 1, _, by go_num, HKK.out, rfl, trivial⟩
          case measure => have := HKK.out; simp [intOf]; omega
        · have hm2 : most < m := by omega
          go_wp2_with fail
          go_ret
          exact ⟨m, rfl, fun h1 h2 h3 => absurd ⟨h1, h2, h3⟩ HP.out, rfl⟩
      · obtain rfl : k = l.length := by omega
        go_wp2_with fail
        go_ret
        exact ⟨m, rfl, fun h1 h2 h3 => absurd ⟨h1, h2, h3⟩ HP.out, rfl⟩
/-- An item with few names, conditions and dates, to any depth. -/
inductive Sh : DT → Prop where
  | node (x : DT) : x.h.names.length ≤ 30 → x.h.conds.length ≤ 30 → x.h.dates.length ≤ 30 → x.h.name.length ≤ 100 → (∀ y ∈ x.l, Sh y) → Sh x
theorem Sh.inner {x : DT} (h : Sh x) : ∀ y ∈ x.l, Sh y := by cases h with | node _ h1 h2 h3 h4 h5 => exact h5
theorem Sh.lens {x : DT} (h : Sh x) : x.h.names.length ≤ 30 ∧ x.h.conds.length ≤ 30 ∧ x.h.dates.length ≤ 30 ∧ x.h.name.length ≤ 100 := by cases h with | node _ h1 h2 h3 h4 h5 => exact ⟨h1, h2, h3, h4⟩
theorem Sh.short : ∀ (n : Nat) (x : DT), tsz x.l ≤ n → Sh x → n ≤ 1000000 → Short x := by
  intro n
  induction n using Nat.strongRecOn with
  | ind n ih =>
  intro x hn h hl
  obtain ⟨h1, h2, h3, h4⟩ := h.lens
  have h5 := h.inner
  have h6 : x.l.length ≤ tsz x.l := by
    have := length_sizes (trees x.l)
    rw [trees_map, List.length_map] at this
    unfold tsz
    rw [trees_map]; exact this
  cases x with
  | node hh c d n i l => exact .node hh c d n i l (by simp only [DT.h] at *; omega) (by simp only [DT.h] at *; omega) (by simp only [DT.h] at *; omega) (by simp only [DT.l] at *; omega) (fun y hy => ih (tsz y.l) (Nat.lt_of_lt_of_le (tsz_lt hy) hn) y (Nat.le_refl _) (h5 y hy) (by have := tsz_lt hy; simp only [DT.l] at *; omega))
set_option maxRecDepth 100000 in
set_option maxHeartbeats 4000000 in
theorem short_any : ∀ (n : Nat) (l : List DT) (v : Value) (W : World), tsz l ≤ n → LayL (fun g => g < W.heap.size) W l v →
    Calls Try.prog 23 #[v] W fun e w' => ∃ b : Bool, e = .returned (.bool b) ∧ (b = true → ∀ x ∈ l, Sh x) ∧ Fr (fun _ => False) W w' := by
  intro n
  induction n using Nat.strongRecOn with
  | ind n ih =>
  intro l v W hn hL
  have HIH : Hid (∀ (y : DT) (w : World), y ∈ l → LayL (fun g => g < w.heap.size) w y.l y.i → Calls Try.prog 23 #[y.i] w fun e w' => ∃ b : Bool, e = .returned (.bool b) ∧ (b = true → ∀ x ∈ y.l, Sh x) ∧ Fr (fun _ => False) w w') := fun y w hy h => ih (tsz y.l) (Nat.lt_of_lt_of_le (tsz_lt hy) hn) y.l y.i w (Nat.le_refl _) h
  clear ih hn
  obtain ⟨A, cp, rfl, hc1, hc2⟩ := hL.slice
  have HL := Lib.hid hL
  clear hL
  have hzl : l.length ≤ 9223372036854775807 := by omega
  go_enter Try.func23, Try.ntmps23
  go_wp2_with fail
  go_loopw [3] (fun iv wr => ∃ k : Nat, iv = .int .i64 k ∧ k ≤ l.length ∧ Hid (∀ j x, j < k → l[j]? = some x → Sh x) ∧ Hid (Fr (fun _ => False) W wr)) (fun i _ => l.length - (intOf i).toNat)
  case atStart => exact ⟨0, rfl, Nat.zero_le _, Lib.hid fun j x h => absurd h (Nat.not_lt_zero _), Fr.refl _ _⟩
  case round =>
    obtain ⟨k, rfl, hk, HSH, HF⟩ := hrel
    have i1 : (0 : Int) ≤ (k : Int) := Int.natCast_nonneg _
    by_cases hlt : k < l.length
    · have i2 : (k : Int) < (l.length : Int) := by omega
      obtain ⟨y, hy⟩ : ∃ y, l[k]? = some y := ⟨_, List.getElem?_eq_getElem hlt⟩
      have HLr : Hid (LayL (fun g => g < W.heap.size) wr l (.slice A l.length cp)) := HL.out.fr HF.out (fun _ _ h => h)
      obtain ⟨g, o, hA, hg, hgB, hat⟩ := HLr.out.at hy
      subst hA
      have HAT := Lib.hid hat
      have HLY : Hid (Lay (fun g => g < W.heap.size) wr y) := HLr.out.lay y (List.mem_of_getElem? hy)
      have HYM : Hid (y ∈ l) := List.mem_of_getElem? hy
      have HY := Lib.hid hy
      obtain ⟨Ay, cy, hyi, hi1, hi2⟩ := HLY.out.items.slice
      obtain ⟨An, cn, hyn, hn1, hn2⟩ := HLY.out.names.slice
      obtain ⟨Ac, cc, hyc, hc1', hc2'⟩ := HLY.out.conds.slice
      obtain ⟨Ad, cd, hyd, hd1, hd2⟩ := HLY.out.dates.slice
      rw [List.length_map] at hyn hyc hyd hn1 hc1' hd1
      have HYI := Lib.hid hyi
      have HKK := Lib.hid hlt
      clear hat hg hgB hy hlt HLr
      go_upto_region 4 with fail
      iterate 10 go_step
      refine wpList_load_mid rfl 41 _ rfl g (o + k * 33) rfl y.cells _ HAT.out Try.underlying41 rfl (info_itl y) ?_
      simp only [Act.put, List.setIfInBounds_toArray, List.set_cons_zero, List.set_cons_succ]
      iterate 3 go_step
      refine wpList_store_row rfl 41 _ _ rfl wr.heap.size y.cells.toArray rfl rfl 41 _ (blk_newn rfl) (info_it y) (cells_size y).symm HLY.out.one ?_
      simp only [Act.put, List.setIfInBounds_toArray, List.set_cons_zero, List.set_cons_succ]
      rw [World.setRow_alloc_new]
      obtain ⟨u, hu⟩ : ∃ u, wr.alloc (.cells y.cells.toArray 41) = u := ⟨_, rfl⟩
      rw [hu]
      have hyb : u.heap[wr.heap.size]? = some (.cells y.cells.toArray 41 (0, 0)) := by rw [← hu]; exact blk_newn rfl
      have HFU : Hid (Fr (fun _ => False) wr u) := by rw [← hu]; exact (Fr.refl _ wr).alloc _
      have k32 : u.cell? ⟨wr.heap.size, 32, none⟩ = some (.slice Ay y.l.length cy) := by
        rw [cell_of_blk hyb, DT.cells_eq, hyi]; rfl
      have k31 : u.cell? ⟨wr.heap.size, 31, none⟩ = some (.slice An y.h.names.length cn) := by
        rw [cell_of_blk hyb, DT.cells_eq, hyn]; rfl
      have k30 : u.cell? ⟨wr.heap.size, 30, none⟩ = some (.slice Ad y.h.dates.length cd) := by
        rw [cell_of_blk hyb, DT.cells_eq, hyd]; rfl
      have k13 : u.cell? ⟨wr.heap.size, 13, none⟩ = some (.slice Ac y.h.conds.length cc) := by
        rw [cell_of_blk hyb, DT.cells_eq, hyc]; rfl
      have k1 : u.cell? ⟨wr.heap.size, 1, none⟩ = some (.string ⟨y.h.name.toArray⟩) := by
        rw [cell_of_blk hyb, DT.cells_eq]; rfl
      have HFW : Hid (Fr (fun _ => False) W u) := HF.out.trans HFU.out
      clear hu hyb HAT hyi hyn hyc hyd
      by_cases q1 : 30 < y.h.names.length
      · go_wp2_with fail
        go_ret
        first | exact ⟨false, rfl, fun h => absurd h (by simp), HFW.out⟩ | exact .inl ⟨rfl, HFW.out⟩ | exact ⟨rfl, HFW.out⟩
      by_cases q2 : 30 < y.h.conds.length
      · go_wp2_with fail
        go_ret
        first | exact ⟨false, rfl, fun h => absurd h (by simp), HFW.out⟩ | exact .inl ⟨rfl, HFW.out⟩ | exact ⟨rfl, HFW.out⟩
      by_cases q3 : 30 < y.h.dates.length
      · go_wp2_with fail
        go_ret
        first | exact ⟨false, rfl, fun h => absurd h (by simp), HFW.out⟩ | exact .inl ⟨rfl, HFW.out⟩ | exact ⟨rfl, HFW.out⟩
      by_cases q4 : 100 < y.h.name.length
      · go_wp2_with fail
        go_ret
        first | exact ⟨false, rfl, fun h => absurd h (by simp), HFW.out⟩ | exact .inl ⟨rfl, HFW.out⟩ | exact ⟨rfl, HFW.out⟩
      have HCA := HIH.out y u HYM.out ((HLY.out.items.fr HFU.out (fun _ _ h => h)).mono (fun g hg _ => hg))
      rw [HYI.out] at HCA
      have HCA := Lib.hid HCA
      go_wp2_with fail
      refine HCA.out.mono ?_
      rintro e w1 ⟨b, rfl, hb, hf⟩
      have HB := Lib.hid hb
      have HF1 : Hid (Fr (fun _ => False) W w1) := HFW.out.trans hf
      clear hb hf HCA k1 k13 k30 k31 k32
      cases b with
      | false =>
        go_wp2_with fail
        go_ret
        first | exact ⟨false, rfl, fun h => absurd h (by simp), HF1.out⟩ | exact .inl ⟨rfl, HF1.out⟩ | exact ⟨rfl, HF1.out⟩
      | true =>
        have HN : Hid (∀ j x, j < k + 1 → l[j]? = some x → Sh x) := fun j x hj hx => by
          by_cases hjk : j = k
          · subst hjk
            obtain rfl : x = y := Option.some.inj (hx.symm.trans HY.out)
            exact .node x (by omega) (by omega) (by omega) (by omega) (HB.out rfl)
          · exact HSH.out j x (by omega) hx
        go_wp2_with fail
        go_roundw
        case rel => exact ⟨k + 1, by go_num, HKK.out, HN, HF1⟩
        case measure => have := HKK.out; simp [intOf]; omega
    · obtain rfl : k = l.length := by omega
      go_wp2_with fail
      go_ret
      refine ⟨true, rfl, fun _ x hx => ?_, HF.out⟩
      obtain ⟨j, hj⟩ := List.mem_iff_getElem?.1 hx
      exact HSH.out j x (List.getElem?_eq_some_iff.1 hj).1 hj
set_option maxRecDepth 100000 in
set_option maxHeartbeats 4000000 in
theorem small_any (s : Rs.Source) (l : List DT) (v : Value) (most : Int) (W : World) (hL : LayL (fun g => g < W.heap.size) W l v) (h0 : 0 ≤ most) (h1 : most ≤ 1000) :
    Calls Try.prog 10 #[.agg (scells s.name s.frm s.days v).toArray, .int .i64 most] W fun e w' => ∃ b : Bool, e = .returned (.bool b) ∧ (b = true → (∀ x ∈ l, Sh x) ∧ (tsz l ≤ 4611686018427387904 → (tsz l : Int) ≤ most)) ∧ Fr (fun _ => False) W w' := by
  obtain ⟨w0, HW0⟩ : ∃ w0, Hid (W.alloc (.cells (scells s.name s.frm s.days v).toArray 26) = w0) := ⟨_, rfl⟩
  have HB0 : Hid (w0.heap[W.heap.size]? = some (.cells (scells s.name s.frm s.days v).toArray 26 (0, 0))) := by rw [← HW0.out]; exact blk_newn rfl
  have HF0 : Hid (Fr (fun _ => False) W w0) := by rw [← HW0.out]; exact (Fr.refl _ W).alloc _
  have HL0 : Hid (LayL (fun g => g < w0.heap.size) w0 l v) := (hL.fr HF0.out (fun _ _ h => h)).mono (fun g hg _ => hg)
  have k5 : w0.cell? ⟨W.heap.size, 5, none⟩ = some v := (cell_of_blk HB0.out 5).trans rfl
  have HC := Lib.hid (count_any _ l v most w0 _ (Nat.le_refl _) HL0.out)
  have HS := Lib.hid (short_any _ l v w0 (Nat.le_refl _) HL0.out)
  have HM0 := Lib.hid h0; have HM1 := Lib.hid h1
  clear hL h0 h1
  go_enter Try.func10, Try.ntmps10
  go_upto_region 1 with fail
  rw [HW0.out]
  clear HW0
  go_wp2_with fail
  refine HC.out.mono ?_
  rintro e w1 ⟨c, rfl, hc, rfl⟩
  have HCC := Lib.hid hc
  clear hc HC
  by_cases hle : c ≤ most
  · have HLE := Lib.hid hle
    go_wp2_with fail
    refine HS.out.mono ?_
    rintro e w2 ⟨b, rfl, hb, hf⟩
    have HBB := Lib.hid hb
    have HF2 : Hid (Fr (fun _ => False) W w2) := HF0.out.trans hf
    clear hb hf HS
    go_wp2_with fail
    go_ret
    refine ⟨b, rfl, fun e => ⟨HBB.out e, fun h2 => ?_⟩, HF2.out⟩
    obtain ⟨c1, c2, _, _⟩ := HCC.out h2 HM0.out HM1.out
    have h3 := HLE.out
    by_cases h4 : (tsz l : Int) ≤ most
    · exact h4
    · have := c2 (by omega); omega
  · have hlt : most < c := by omega
    go_wp2_with fail
    go_ret
    first | exact ⟨false, rfl, fun h => absurd h (by simp), HF0.out⟩ | exact .inl ⟨rfl, HF0.out⟩
end Go.Proofs.Yticakdajhmfpoaa.Ic
