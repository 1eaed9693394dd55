/-
  What the function Moved of package estoppelref03 returns for a valid zone.
-/
import Derived.Test.YtmjidplondkomaaZoneRefA
import Derived.Deep.AppendLies
import Derived.Deep.RegionLaw
import Derived.BigRegion
namespace Go.Proofs.Ytmjidplondkomaa.Zn
open Go.RowKit Go.Shelf
set_option linter.unusedVariables false

/-- A zone whose offsets are all increased. -/
def moved (z : Zone) (n : Int) : Zone := ⟨z.off + n, z.chs.map fun c => (c.1, c.2 + n)⟩

theorem info_change : (Try.prog.info? 46).map (fun i => (i.zero, i.size, i.bytes)) = some (some (.agg #[.int .i64 0, .int .i64 0]), 2, 16) := by kernel_rfl

/-- The changes as cells. -/
def flat (l : List (Int × Int)) : List Value := l.flatMap fun c => [.int .i64 c.1, .int .i64 c.2]
theorem flat_snoc (l : List (Int × Int)) (c : Int × Int) : flat (l ++ [c]) = flat l ++ [.int .i64 c.1, .int .i64 c.2] := by simp [flat]
theorem flat_at (l : List (Int × Int)) (i : Nat) (h : i < l.length) : (flat l)[i * 2]? = some (.int .i64 l[i].1) ∧ (flat l)[i * 2 + 1]? = some (.int .i64 l[i].2) := by
  induction l generalizing i with
  | nil => simp at h
  | cons c l ih =>
    have e : flat (c :: l) = .int .i64 c.1 :: .int .i64 c.2 :: flat l := by simp [flat]
    rw [e]
    cases i with
    | zero => simp
    | succ i =>
      have := ih i (by simpa using h)
      rw [show (i + 1) * 2 = i * 2 + 1 + 1 by omega]
      simpa using this
theorem flat_len (l : List (Int × Int)) : (flat l).length = l.length * 2 := by
  induction l with
  | nil => rfl
  | cons c l ih =>
    have e : flat (c :: l) = .int .i64 c.1 :: .int .i64 c.2 :: flat l := by simp [flat]
    rw [e]; simp [ih]; omega
theorem chRow_of_own {w : World} {base : Nat} {B : Option Addr} {c : Nat} {l : List (Int × Int)} (h : w.ownsRow base 46 2 (.slice B l.length c) l.length (flat l)) : ChRow w B l := by
  intro hp
  rcases h.2 with ⟨_, h0⟩ | ⟨g, cap', cur, hv, hg, hh, hn, hm, hsz, ht⟩
  · omega
  · injection hv with hA _ _
    refine ⟨g, 0, hA, lt_of_blk hh, fun i hi => ?_⟩
    obtain ⟨f0, f1⟩ := flat_at l i hi
    rw [cell_of_blk hh, cell_of_blk hh]
    have h2 : ∀ k, k < l.length * 2 → cur[k]? = (flat l)[k]? := by
      intro k hk
      rw [← ht, List.getElem?_take, if_pos hk, Array.getElem?_toList]
    rw [Nat.zero_add, h2 _ (by omega), h2 _ (by omega)]
    exact ⟨f0, f1⟩
/-- What holds while the zone is made. -/
def MR (w : World) (z : Zone) (A : Option Addr) (cap : Nat) (n : Int) (j : Nat) (B : Option Addr) (c : Nat) (W : World) : Prop :=
  ZW w w.heap.size z A cap W ∧ W.heap[w.heap.size + 1 + 1]? = some (.cells #[.int .i64 (z.off + n), .slice B j c] 24 (0, 0)) ∧ W.heap[w.heap.size + 1]? = some (.cells #[.int .i64 0, .slice none 0 0] 24 (0, 0)) ∧ W.ownsRow (w.heap.size + 3) 46 2 (.slice B j c) j (flat ((moved z n).chs.take j))

theorem MR.step {w : World} {z : Zone} {A : Option Addr} {cap : Nat} {n : Int} {j : Nat} {B : Option Addr} {c : Nat} {wr w1 : World} {gg cap1 : Nat} {a o2 : Int} (hrow : ChRow w A z.chs) (h : MR w z A cap n j B c wr)
    (hb : (∀ k, k < w.heap.size + 3 → w1.heap[k]? = wr.heap[k]?) ∧ Below (w.heap.size + 3) wr w1)
    (ho : w1.ownsRow (w.heap.size + 3) 46 2 (.slice (some ⟨gg, 0, none⟩) (j + 1) cap1) (j + 1) (flat ((moved z n).chs.take j) ++ [.int .i64 a, .int .i64 (o2 + n)]))
    (hJ : (moved z n).chs.take (j + 1) = (moved z n).chs.take j ++ [(a, o2 + n)]) :
    MR w z A cap n (j + 1) (some ⟨gg, 0, none⟩) cap1 (w1.setCell ⟨w.heap.size + 1 + 1, 1, none⟩ (.slice (some ⟨gg, 0, none⟩) (j + 1) cap1)) := by
  obtain ⟨⟨hz1, hz2, hz3⟩, h2, h3, h4⟩ := h
  have hk : ∀ k, k < w.heap.size + 2 → (w1.setCell ⟨w.heap.size + 1 + 1, 1, none⟩ (.slice (some ⟨gg, 0, none⟩) (j + 1) cap1)).heap[k]? = wr.heap[k]? := fun k hk => (Below.heap_setCell _ _ _ _ (by show k ≠ w.heap.size + 1 + 1; omega)).trans (hb.1 k (by omega))
  have hbl : Below w.heap.size w (w1.setCell ⟨w.heap.size + 1 + 1, 1, none⟩ (.slice (some ⟨gg, 0, none⟩) (j + 1) cap1)) := (hz3.trans (hb.2.mono (by omega))).setCell (by show w.heap.size ≤ w.heap.size + 1 + 1; omega) _
  refine ⟨⟨(hk _ (by omega)).trans hz1, ?_, hbl⟩, ?_, (hk _ (by omega)).trans h3, ?_⟩
  · exact hrow.below hbl
  · have := blk_set ((hb.1 (w.heap.size + 1 + 1) (by omega)).trans h2) 1 (.slice (some ⟨gg, 0, none⟩) (j + 1) cap1)
    simpa using this
  · rw [hJ, flat_snoc]
    exact ownsRow_setCell_below ho (by show w.heap.size + 1 + 1 < w.heap.size + 3; omega) _

set_option maxHeartbeats 4000000 in
theorem moved_any (z : Zone) (A : Option Addr) (cap : Nat) (n : Int) (w : World) (hv : valid z = true) (hn : -1681 < n) (hn2 : n < 1681) (hrow : ChRow w A z.chs) :
    Calls Try.prog 22 #[.agg #[.int .i64 z.off, .slice A z.chs.length cap], .int .i64 n] w fun e w' => (∃ B c, e = .returned (.agg #[.int .i64 (moved z n).off, .slice B (moved z n).chs.length c]) ∧ ChRow w' B (moved z n).chs) ∧ Below w.heap.size w w' := by
  have hl := (valid_parts z hv).1
  have ho := ofs_bd z hv 0
  have hoff : -840 ≤ z.off ∧ z.off ≤ 840 := by simpa [ofs] using ho
  clear ho
  have Z0 := Lib.hid (ZW.start w z A cap hrow)
  have HROW := Lib.hid hrow; clear hrow
  have HV := Lib.hid hv; clear hv
  go_enter Try.func22, Try.ntmps22
  go_wp2_with fail
  go_loopw [6] (fun i wr => ∃ (j : Nat), i = .int .i64 j ∧ j ≤ z.chs.length ∧ Hid (∃ B c, MR w z A cap n j B c wr)) (fun i _ => z.chs.length - (intOf i).toNat)
  case atStart =>
    refine ⟨0, rfl, by omega, none, 0, ?_, ?_, ?_, ?_⟩
    · exact (Z0.out.below ((Below.refl _ _).alloc (Nat.le_refl _) _)).below ((Below.refl _ _).alloc (Nat.le_refl _) _)
    · have := heap_alloc_new ((w.alloc (.cells #[.int .i64 z.off, .slice A z.chs.length cap] 24)).alloc (.cells #[.int .i64 0, .slice none 0 0] 24)) (.cells #[.int .i64 (z.off + n), .slice none 0 0] 24)
      simpa only [World.size_alloc] using this
    · refine blk_alloc ?_ _
      have := heap_alloc_new (w.alloc (.cells #[.int .i64 z.off, .slice A z.chs.length cap] 24)) (.cells #[.int .i64 0, .slice none 0 0] 24)
      simpa only [World.size_alloc] using this
    · exact World.ownsRow_nil _ _ _ _
  case round =>
    obtain ⟨j, rfl, hj, HMR⟩ := hrel
    obtain ⟨B, c, hmr⟩ := HMR.out
    clear HMR
    have HMR := Lib.hid hmr; clear hmr
    obtain ⟨z0, z1⟩ := HMR.out.1.cells
    have x0 : wr.cell? ⟨w.heap.size + 1 + 1, 0, none⟩ = some (.int .i64 (z.off + n)) := cell_of_blk HMR.out.2.1 0
    have x1 : wr.cell? ⟨w.heap.size + 1 + 1, 1, none⟩ = some (.slice B j c) := cell_of_blk HMR.out.2.1 1
    have r0 : wr.cell? ⟨w.heap.size + 1, 0, none⟩ = some (.int .i64 0) := cell_of_blk HMR.out.2.2.1 0
    have r1 : wr.cell? ⟨w.heap.size + 1, 1, none⟩ = some (.slice none 0 0) := cell_of_blk HMR.out.2.2.1 1
    have r2 : wr.frozen? ⟨w.heap.size + 1, 0, none⟩ = false := froz_of_blk HMR.out.2.2.1 0
    have r3 : wr.frozen? ⟨w.heap.size + 1, 1, none⟩ = false := froz_of_blk HMR.out.2.2.1 1
    by_cases hlt : j < z.chs.length
    · obtain ⟨g, o, hA, hg, hc⟩ := HMR.out.1.2.1 (by omega)
      subst hA
      obtain ⟨c0, c1⟩ := hc j hlt
      have hob := ofs_bd z HV.out (j + 1)
      rw [ofs_succ z j hlt] at hob
      clear hc
      have hjm : (moved z n).chs.take (j + 1) = (moved z n).chs.take j ++ [(z.chs[j].1, z.chs[j].2 + n)] := by
        rw [List.take_succ_eq_append_getElem (by simpa [moved] using hlt)]
        simp [moved]
      have HJ := Lib.hid hjm; clear hjm
      generalize z.chs[j] = cv at *
      obtain ⟨a, o2⟩ := cv
      simp only at c0 c1 hob
      have hw1 : IntKind.i64.wrap (o2 + n) = o2 + n := IntWalk.i64_in _ (by omega)
      have i1 : (0 : Int) ≤ (j : Int) := Int.natCast_nonneg _
      have i2 : (j : Int) < (z.chs.length : Int) := by omega
      obtain ⟨i0, hi, hz0, hz1, hz2⟩ := info_parts info_change
      have hsz := lt_of_blk HMR.out.2.1
      have HG : Hid (∀ ob w1, ((wr.drew).alloc ob).grownBy w1 (Value.slice B j c).ownBlock → (∀ k, k < w.heap.size + 3 → w1.heap[k]? = wr.heap[k]?) ∧ Below (w.heap.size + 3) wr w1) := by
        intro ob w1 hgr
        have hk : ∀ k, k < w.heap.size + 3 → w1.heap[k]? = wr.heap[k]? := by
          intro k hk
          rw [hgr.block k (by simp only [World.size_alloc]; show k < wr.heap.size + 1; omega) (fun e => by
            have := (own_type HMR.out.2.2.2 e.symm).1; omega)]
          exact Below.heap_alloc wr.drew ob k (by show k < wr.heap.size; omega)
        exact ⟨hk, ⟨hgr.os, hgr.tape, hgr.output, by have := hgr.size; simp only [World.size_alloc] at this; have h2 : wr.drew.heap.size = wr.heap.size := rfl; omega, hk⟩⟩
      have HX0 : Hid (∀ w1 : World, (∀ k, k < w.heap.size + 3 → w1.heap[k]? = wr.heap[k]?) → w1.cell? ⟨w.heap.size + 1 + 1, 0, none⟩ = some (.int .i64 (z.off + n))) := fun w1 h => cell_of_blk ((h _ (by omega)).trans HMR.out.2.1) 0
      have HX1 : Hid (∀ w1 : World, (∀ k, k < w.heap.size + 3 → w1.heap[k]? = wr.heap[k]?) → w1.cell? ⟨w.heap.size + 1 + 1, 1, none⟩ = some (.slice B j c)) := fun w1 h => cell_of_blk ((h _ (by omega)).trans HMR.out.2.1) 1
      have HX2 : Hid (∀ w1 : World, (∀ k, k < w.heap.size + 3 → w1.heap[k]? = wr.heap[k]?) → w1.frozen? ⟨w.heap.size + 1 + 1, 1, none⟩ = false) := fun w1 h => froz_of_blk ((h _ (by omega)).trans HMR.out.2.1) 1
      go_wp2_with fail
      go_region_law (refine step_append_lies _ rfl (.tmp 20) (.tmp 36) 22 rfl (w.heap.size + 3) 46 i0 _ 2 16 Try.underlying22 hi hz0 hz1 hz2 rfl (by decide) (.slice B j c) j _ (by rfl) ((HMR.out.2.2.2.alloc _).drew) ⟨wr.heap.size, 0, none⟩ 1 1 [.int .i64 a, .int .i64 (o2 + n)] (by rfl) (by rfl) (World.news_of_block (cs := #[.int .i64 a, .int .i64 (o2 + n)]) (t := 46) (fr := (0, 0)) (heap_alloc_new wr _)) (by simp [Value.oneCell']) (by decide) (by simp only [maxLen]; omega) (by omega) (by show w.heap.size + 3 ≤ (wr.heap.push _).size; rw [Array.size_push]; omega) (wr.heap.size + 1) (by show (wr.heap.push _).size = _; rw [Array.size_push]) ?_; intro gg cap1 w1 hown1 hgrow hat hlt1; have hb1 := HG.out _ _ hgrow; have HB1 := Lib.hid hb1; clear hb1; have HO1 := Lib.hid hown1; clear hown1; have y0 := HX0.out w1 HB1.out.1; have y1 := HX1.out w1 HB1.out.1; have y2 := HX2.out w1 HB1.out.1; clear hgrow hat)
      all_goals
        go_wp2_with fail
        go_roundw
        case rel => exact ⟨j + 1, by go_num, by omega, _, _, MR.step HROW.out HMR.out HB1.out HO1.out HJ.out⟩
        case measure => simp [intOf]; omega
    · have hjl : j = (moved z n).chs.length := by show j = (z.chs.map _).length; rw [List.length_map]; omega
      have HJL := Lib.hid hjl; clear hjl
      go_wp2_with fail
      have hbk := blk_set (blk_set HMR.out.2.2.1 0 (.int .i64 (z.off + n))) 1 (.slice B j c)
      have hbl : Below w.heap.size w ((wr.setCell ⟨w.heap.size + 1, 0, none⟩ (.int .i64 (z.off + n))).setCell ⟨w.heap.size + 1, 1, none⟩ (.slice B j c)) := (HMR.out.1.2.2.setCell (by show w.heap.size ≤ w.heap.size + 1; omega) _).setCell (by show w.heap.size ≤ w.heap.size + 1; omega) _
      have how := ownsRow_setCell_below (ownsRow_setCell_below HMR.out.2.2.2 (a := ⟨w.heap.size + 1, 0, none⟩) (by show w.heap.size + 1 < w.heap.size + 3; omega) (.int .i64 (z.off + n))) (a := ⟨w.heap.size + 1, 1, none⟩) (by show w.heap.size + 1 < w.heap.size + 3; omega) (.slice B j c)
      rw [HJL.out, List.take_length] at how
      rw [HJL.out] at hbk hbl ⊢
      generalize (wr.setCell ⟨w.heap.size + 1, 0, none⟩ (.int .i64 (z.off + n))).setCell ⟨w.heap.size + 1, 1, none⟩ (.slice B (moved z n).chs.length c) = W2 at *
      have k0 : W2.cell? ⟨w.heap.size + 1, 0, none⟩ = some (.int .i64 (z.off + n)) := cell_of_blk hbk 0
      have k1 : W2.cell? ⟨w.heap.size + 1, 1, none⟩ = some (.slice B (moved z n).chs.length c) := cell_of_blk hbk 1
      refine bodyPost_ret (v := .agg #[.int .i64 (z.off + n), .slice B (moved z n).chs.length c]) (by simp [results, Try.results22, go_sem, k0, k1]) rfl ⟨⟨B, c, rfl, chRow_of_own how⟩, hbl⟩
end Go.Proofs.Ytmjidplondkomaa.Zn
