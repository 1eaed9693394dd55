/-
  The fixed examples of the statements about zones return true; the functions Few and Ints of package estoppelref03.
-/
import Derived.Test.YtmjidplondkomaaZoneSpan
import Derived.Deep.QuietTactic
import Derived.BigQuiet
namespace Go.Proofs.Ytmjidplondkomaa.Zn
open Go.RowKit Go.Shelf
set_option linter.unusedVariables false

theorem few_any (z : Zone) (A : Option Addr) (cap : Nat) (w : World) :
    Calls Try.prog 10 #[.agg #[.int .i64 z.off, .slice A z.chs.length cap]] w fun e w' => e = .returned (.bool (decide (z.chs.length ≤ 100))) ∧ Below w.heap.size w w' := by
  go_enter Try.func10, Try.ntmps10
  go_wp2_with fail
  go_ret
  exact ⟨ret_bool (by rw [Bool.eq_iff_iff]; simp; try omega), by go_grown⟩

/-- A slice of numbers that reads as a list. -/
def IRow (w : World) (A : Option Addr) (l : List Int) : Prop :=
  0 < l.length → ∃ g o, A = some ⟨g, o, none⟩ ∧ g < w.heap.size ∧ ∀ i (h : i < l.length), w.cell? ⟨g, o + i, none⟩ = some (.int .i64 l[i])
theorem iRow_of_own {w : World} {base : Nat} {B : Option Addr} {n c : Nat} {l : List Int} (h : w.ownsRow base 3 1 (.slice B n c) l.length (l.map (Value.int .i64))) : IRow w B l := by
  intro hp
  obtain ⟨g, rfl, _⟩ := own_cell1 h 0 hp
  rcases h.2 with ⟨_, h0⟩ | ⟨g', cap', cur, hv, hg, hh, _⟩
  · omega
  · injection hv with hA _ _
    injection hA with hA
    injection hA with hA _ _
    subst hA
    refine ⟨g, 0, rfl, lt_of_blk hh, fun i hi => ?_⟩
    obtain ⟨g2, e, hc⟩ := own_cell1 h i hi
    injection e with e
    injection e with e _ _
    subst e
    rw [Nat.zero_add, hc]
    simp [List.getD, List.getElem?_eq_getElem hi]
theorem IRow.below {w w' : World} {A : Option Addr} {l : List Int} (h : IRow w A l) (hb : Below w.heap.size w w') : IRow w' A l := by
  intro hp
  obtain ⟨g, o, hA, hg, hc⟩ := h hp
  exact ⟨g, o, hA, Nat.lt_of_lt_of_le hg hb.size, fun i hi => (hb.cell (p := ⟨g, _, none⟩) hg).trans (hc i hi)⟩
theorem below_drewN {B : Nat} {a w : World} (h : Below B a w) (n : Nat) : Below B a (w.drewN n) := ⟨h.os, h.tape, h.output, h.size, h.block⟩

set_option maxHeartbeats 2000000 in
theorem ints_true (l : List Int) (A B : Option Addr) (ca cb : Nat) (w : World) (hl : l.length ≤ 1000000) (ha : IRow w A l) (hb : IRow w B l) :
    Calls Try.prog 19 #[.slice A l.length ca, .slice B l.length cb] w fun e w' => e = .returned (.bool true) ∧ ∃ m, w' = w.drewN m := by
  have HA := Lib.hid ha; clear ha
  have HB := Lib.hid hb; clear hb
  go_enter Try.func19, Try.ntmps19
  go_wp2_with fail
  go_loopw [5] (fun i wr => ∃ (j m : Nat), i = .int .i64 j ∧ j ≤ l.length ∧ wr = w.drewN m) (fun i _ => l.length - (intOf i).toNat)
  case atStart => exact ⟨0, 0, rfl, by omega, rfl⟩
  case round =>
    obtain ⟨j, m, rfl, hj, rfl⟩ := hrel
    by_cases hlt : j < l.length
    · obtain ⟨g, o, rfl, hg, hc⟩ := HA.out (by omega)
      obtain ⟨g', o', rfl, hg', hc'⟩ := HB.out (by omega)
      have a0 := hc j hlt
      have b0 := hc' j hlt
      clear hc hc'
      generalize l[j] = x at *
      go_wp2_with fail
      go_quiet (fail)
      go_wp2_with fail
      go_roundw
      case rel => exact ⟨j + 1, m + nq, by go_num, by omega, rfl⟩
      case measure => simp [intOf]; omega
    · go_wp2_with fail
      go_ret
      exact ⟨rfl, m, rfl⟩

def ez : Zone := ⟨60, [(100000, 120), (200000, 60)]⟩
theorem ez1 : localOf ez 99999 = (69, 699, 0) := by kernel_rfl
theorem ez2 : localOf ez 100000 = (69, 760, 0) := by kernel_rfl
theorem ez3 : instantOf ez 69 730 false = (100000, 0) := by kernel_rfl
theorem ez4 : instOf ez 138 1370 = [199970, 200030] := by kernel_rfl
theorem ez5 : spanOf ez 1 = (1380, 2820, 0) := by kernel_rfl
theorem ez6 : instantOf ez 0 1440 false = (0, 1) := by kernel_rfl
theorem ez7 : localOf ⟨-1, []⟩ 0 = (0, 0, 2) := by kernel_rfl
theorem ez8 : valid ez = true := by kernel_rfl
theorem ez9 : instOf ez 69 730 = [] := by kernel_rfl

theorem ez_local (t a b c : Int) (h : localOf ez t = (a, b, c)) (A : Option Addr) (cap : Nat) (W : World) (hrow : ChRow W A ez.chs) :
    Calls Try.prog 11 #[.agg #[.int .i64 60, .slice A 2 cap], .int .i64 t] W fun e w' => e = .returned (.tuple #[.int .i64 a, .int .i64 b, .int .i64 c]) ∧ Below W.heap.size W w' := by
  have := local_any ez A cap t W (by decide) hrow; rw [h] at this; exact this
theorem ez_instant (d m : Int) (l : Bool) (a b : Int) (h : instantOf ez d m l = (a, b)) (A : Option Addr) (cap : Nat) (W : World) (hrow : ChRow W A ez.chs) :
    Calls Try.prog 13 #[.agg #[.int .i64 60, .slice A 2 cap], .int .i64 d, .int .i64 m, .bool l] W fun e w' => e = .returned (.tuple #[.int .i64 a, .int .i64 b]) ∧ Below W.heap.size W w' := by
  have := instant_any ez A cap d m l W (by decide) hrow; rw [h] at this; exact this
theorem ez_span (d a b c : Int) (h : spanOf ez d = (a, b, c)) (A : Option Addr) (cap : Nat) (W : World) (hrow : ChRow W A ez.chs) :
    Calls Try.prog 15 #[.agg #[.int .i64 60, .slice A 2 cap], .int .i64 d] W fun e w' => e = .returned (.tuple #[.int .i64 a, .int .i64 b, .int .i64 c]) ∧ Below W.heap.size W w' := by
  have := span_any ez A cap d W (by decide) hrow; rw [h] at this; exact this
theorem ez_instants (d m : Int) (l : List Int) (h : instOf ez d m = l) (A : Option Addr) (cap : Nat) (W : World) (hrow : ChRow W A ez.chs) :
    Calls Try.prog 20 #[.agg #[.int .i64 60, .slice A 2 cap], .int .i64 d, .int .i64 m] W fun e w' => (∃ B c, e = .returned (.slice B l.length c) ∧ IRow w' B l) ∧ Below W.heap.size W w' := by
  have := instants_any ez A cap d m W (by decide) hrow
  rw [h] at this
  exact this.mono fun e w' ⟨⟨B, c, he, ho⟩, hb⟩ => ⟨⟨B, c, he, iRow_of_own ho⟩, hb⟩
theorem ez_valid (A : Option Addr) (cap : Nat) (W : World) (hrow : ChRow W A ez.chs) :
    Calls Try.prog 17 #[.agg #[.int .i64 60, .slice A 2 cap]] W fun e w' => e = .returned (.bool true) ∧ Below W.heap.size W w' := by
  have := valid_any ez A cap W (by decide) hrow; rw [ez8] at this; exact this
/-- The example's zone lies in memory. -/
def EZ (w W : World) : Prop := W.heap[w.heap.size + 1]? = some (.cells #[.int .i64 60, .slice (some ⟨w.heap.size, 0, none⟩) 2 2] 24 (0, 0)) ∧ ChRow W (some ⟨w.heap.size, 0, none⟩) ez.chs ∧ Below w.heap.size w W
theorem EZ.below {w W W' : World} (h : EZ w W) (hb : Below W.heap.size W W') : EZ w W' :=
  ⟨(hb.block _ (lt_of_blk h.1)).trans h.1, h.2.1.below hb, h.2.2.trans (hb.mono h.2.2.size)⟩
theorem EZ.cells {w W : World} (h : EZ w W) : W.cell? ⟨w.heap.size + 1, 0, none⟩ = some (.int .i64 60) ∧ W.cell? ⟨w.heap.size + 1, 1, none⟩ = some (.slice (some ⟨w.heap.size, 0, none⟩) 2 2) :=
  ⟨cell_of_blk h.1 0, cell_of_blk h.1 1⟩
theorem EZ.start (w : World) : EZ w ((w.alloc (.cells #[.int .i64 100000, .int .i64 120, .int .i64 200000, .int .i64 60] 46)).alloc (.cells #[.int .i64 60, .slice (some ⟨w.heap.size, 0, none⟩) 2 2] 24)) := by
  refine ⟨?_, ?_, by go_grown⟩
  · have := heap_alloc_new (w.alloc (.cells #[.int .i64 100000, .int .i64 120, .int .i64 200000, .int .i64 60] 46)) (.cells #[.int .i64 60, .slice (some ⟨w.heap.size, 0, none⟩) 2 2] 24)
    rwa [World.size_alloc] at this
  · intro hp
    have hb : ((w.alloc (.cells #[.int .i64 100000, .int .i64 120, .int .i64 200000, .int .i64 60] 46)).alloc (.cells #[.int .i64 60, .slice (some ⟨w.heap.size, 0, none⟩) 2 2] 24)).heap[w.heap.size]? = some (.cells #[.int .i64 100000, .int .i64 120, .int .i64 200000, .int .i64 60] 46 (0, 0)) := blk_alloc (heap_alloc_new w _) _
    refine ⟨w.heap.size, 0, rfl, by simp only [World.size_alloc]; omega, fun i hi => ?_⟩
    have hi2 : i = 0 ∨ i = 1 := by have : i < 2 := hi; omega
    rcases hi2 with rfl | rfl
    · exact ⟨cell_of_blk hb 0, cell_of_blk hb 1⟩
    · exact ⟨cell_of_blk hb 2, cell_of_blk hb 3⟩

set_option maxRecDepth 100000 in
set_option maxHeartbeats 4000000 in
theorem head_any (w : World) : Calls Try.prog 9 #[] w fun e w' => e = .returned (.bool true) ∧ Below w.heap.size w w' := by
  have E0 := Lib.hid (EZ.start w)
  go_enter Try.func9, Try.ntmps9
  go_wp2_with fail
  refine (ez_local 99999 _ _ _ ez1 _ _ _ E0.out.2.1).mono ?_
  rintro e w1 ⟨rfl, hb⟩
  have E1 := Lib.hid (E0.out.below hb); clear hb
  obtain ⟨c0, c1⟩ := E1.out.cells
  go_wp2_with fail
  refine (ez_local 100000 _ _ _ ez2 _ _ _ E1.out.2.1).mono ?_
  rintro e w2 ⟨rfl, hb⟩
  have E2 := Lib.hid (E1.out.below hb); clear hb c0 c1
  obtain ⟨c0, c1⟩ := E2.out.cells
  go_wp2_with fail
  refine (ez_instant 69 730 false _ _ ez3 _ _ _ E2.out.2.1).mono ?_
  rintro e w3 ⟨rfl, hb⟩
  have E3 := Lib.hid (E2.out.below hb); clear hb c0 c1
  obtain ⟨c0, c1⟩ := E3.out.cells
  go_wp2_with fail
  refine (ez_instants 138 1370 _ ez4 _ _ _ E3.out.2.1).mono ?_
  rintro e w4 ⟨⟨B, c, rfl, hr4⟩, hb⟩
  have E4 := Lib.hid (E3.out.below hb); clear hb c0 c1
  have R4 := Lib.hid hr4; clear hr4
  obtain ⟨c0, c1⟩ := E4.out.cells
  go_wp2_with fail
  refine (ez_span 1 _ _ _ ez5 _ _ _ E4.out.2.1).mono ?_
  rintro e w5 ⟨rfl, hb⟩
  have R5 := Lib.hid (R4.out.below hb); clear R4
  have E5 := Lib.hid (E4.out.below hb); clear hb c0 c1
  obtain ⟨c0, c1⟩ := E5.out.cells
  go_wp2_with fail
  refine (ez_instant 0 1440 false _ _ ez6 _ _ _ E5.out.2.1).mono ?_
  rintro e w6 ⟨rfl, hb⟩
  have R6 := Lib.hid (R5.out.below hb); clear R5
  have E6 := Lib.hid (E5.out.below hb); clear hb c0 c1
  go_wp2_with fail
  refine (local_any ⟨-1, []⟩ none 0 0 _ (by decide) (fun h => by simp at h)).mono ?_
  rw [ez7]
  rintro e w7 ⟨rfl, hb⟩
  have R7 := Lib.hid (R6.out.below hb); clear R6
  have E7 := Lib.hid (E6.out.below hb); clear hb
  obtain ⟨c0, c1⟩ := E7.out.cells
  go_wp2_with fail
  refine (ez_valid _ _ _ E7.out.2.1).mono ?_
  rintro e w8 ⟨rfl, hb⟩
  have R8 := Lib.hid (R7.out.below hb); clear R7
  have E8 := Lib.hid (E7.out.below hb); clear hb c0 c1
  obtain ⟨c0, c1⟩ := E8.out.cells
  go_wp2_with fail
  refine (ez_instants 69 730 _ ez9 _ _ _ E8.out.2.1).mono ?_
  rintro e w9 ⟨⟨B9, c9, rfl, _⟩, hb⟩
  have R9 := Lib.hid (R8.out.below hb); clear R8
  have E9 := Lib.hid (E8.out.below hb); clear hb c0 c1
  go_wp2_with fail
  have hI : IRow (w9.alloc (.cells #[.int .i64 199970, .int .i64 200030] 3)) (some ⟨w9.heap.size, 0, none⟩) [199970, 200030] := by
    intro _
    refine ⟨w9.heap.size, 0, rfl, by simp only [World.size_alloc]; omega, fun i hi => ?_⟩
    have hb := heap_alloc_new w9 (.cells #[.int .i64 199970, .int .i64 200030] 3)
    have hi2 : i = 0 ∨ i = 1 := by have : i < 2 := hi; omega
    rcases hi2 with rfl | rfl
    · exact cell_of_blk hb 0
    · exact cell_of_blk hb 1
  refine (ints_true [199970, 200030] B (some ⟨w9.heap.size, 0, none⟩) c 2 _ (by decide) (R9.out.below (by go_grown)) hI).mono ?_
  rintro e w10 ⟨rfl, m, rfl⟩
  go_wp2_with fail
  go_ret
  exact ⟨rfl, below_drewN (E9.out.2.2.alloc E9.out.2.2.size _) _⟩
end Go.Proofs.Ytmjidplondkomaa.Zn
