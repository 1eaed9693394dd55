/-
  The walk of the statement ZoneFixed: it returns true for every offset and instant.
-/
import Derived.Test.YtmjidplondkomaaZoneHead
namespace Go.Proofs.Ytmjidplondkomaa
open Go.RowKit Zn
set_option linter.unusedVariables false
namespace Zn
theorem fix_bad (o t : Int) (h : o < -840 ∨ 840 < o) : valid ⟨o, []⟩ = false ∧ localOf ⟨o, []⟩ t = (0, 0, 1) := by
  have hv : valid ⟨o, []⟩ = false := by
    have : okOff o = false := by unfold okOff; rcases h with h | h <;> simp <;> omega
    unfold valid; rw [this]; rfl
  exact ⟨hv, by unfold localOf; rw [if_neg (by rw [hv]; simp)]⟩
theorem fix_valid (o : Int) (h : -840 ≤ o) (h2 : o ≤ 840) : valid ⟨o, []⟩ = true := by
  have : okOff o = true := by unfold okOff; simp; omega
  unfold valid; rw [this]; rfl
theorem fix_loc (o t : Int) (h : t < 105190560) : loc ⟨o, []⟩ t = t + o := by
  show t + (if t < 105190560 then o else _) = t + o
  rw [if_pos h]
theorem fix_range (o t : Int) (h : -840 ≤ o) (h2 : o ≤ 840) (h3 : 0 ≤ t) (h4 : t < 105190560) (h5 : t + o < 0 ∨ 105190560 ≤ t + o) : localOf ⟨o, []⟩ t = (0, 0, 2) := by
  unfold localOf; rw [if_pos ⟨fix_valid o h h2, h3, h4⟩, fix_loc o t h4, if_neg (by omega)]
theorem fix_ok (o t : Int) (h : -840 ≤ o) (h2 : o ≤ 840) (h3 : 0 ≤ t) (h4 : t < 105190560) (h5 : 0 ≤ t + o) (h6 : t + o < 105190560) : localOf ⟨o, []⟩ t = ((t + o) / 1440, (t + o) % 1440, 0) := by
  unfold localOf; rw [if_pos ⟨fix_valid o h h2, h3, h4⟩, fix_loc o t h4, if_pos ⟨h5, h6⟩]
theorem fix_inst (o t : Int) (h : -840 ≤ o) (h2 : o ≤ 840) (h3 : 0 ≤ t) (h4 : t < 105190560) (h5 : 0 ≤ t + o) (h6 : t + o < 105190560) : instOf ⟨o, []⟩ ((t + o) / 1440) ((t + o) % 1440) = [t] := by
  have hok : okLocal ⟨o, []⟩ ((t + o) / 1440) ((t + o) % 1440) = true := by
    unfold okLocal; rw [fix_valid o h h2]; simp; omega
  unfold instOf
  rw [if_pos hok]
  have e : (t + o) / 1440 * 1440 + (t + o) % 1440 - o = t := by omega
  generalize (t + o) / 1440 * 1440 + (t + o) % 1440 = L at e
  have e2 : L - (if 0 = 0 then o else 0) = t := by simpa using e
  show instTo ⟨o, []⟩ L 1 = [t]
  show [] ++ (if (0 : Int) ≤ L - o ∧ L - o < 105190560 then [L - o] else []) = [t]
  rw [if_pos (by omega), e]; rfl
end Zn
set_option maxRecDepth 100000 in
set_option maxHeartbeats 4000000 in
theorem walk_ZoneFixed (o : Int) (ho : (Lit.int .i64 o).wf = true) (u : Int) (hu : (Lit.int .u32 u).wf = true) (w : World) :
    Calls Try.prog 6 #[.int .i64 o, .int .u32 u] w fun e w' => e = .returned (.bool true) ∧ Below w.heap.size w w' := by
  have hu0 := bounds_u32 hu
  have ho0 := bounds_i64 ho
  clear hu ho
  obtain ⟨t, ht⟩ : ∃ t, u % 105190560 = t := ⟨_, rfl⟩
  have h3 : 0 ≤ t := by omega
  have h4 : t < 105190560 := by omega
  have hcase : (o < -840 ∨ (¬ o < -840 ∧ o > 840)) ∨ (¬ o < -840 ∧ ¬ o > 840 ∧ (t + o < 0 ∨ (¬ t + o < 0 ∧ t + o > 105190559))) ∨ (¬ o < -840 ∧ ¬ o > 840 ∧ ¬ t + o < 0 ∧ ¬ t + o > 105190559) := by omega
  have HT := Lib.hid ht; clear ht
  have HZ : Hid (∀ (W : World) (B : Option Addr), ChRow W B []) := fun W B h => by simp at h
  rcases hcase with hc | ⟨h1, h2, hc⟩ | ⟨h1, h2, h5, h6⟩
  · have HF := Lib.hid (fix_bad o t (by omega))
    rcases hc with hc | ⟨hc, hc2⟩
    all_goals
      go_enter Try.func6, Try.ntmps6
      go_wp2_with fail
      refine (head_any _).mono ?_
      rintro e w1 ⟨rfl, hb1⟩
      have HB1 := Lib.hid hb1; clear hb1
      go_wp2_with fail
      rw [HT.out]
      refine (local_any ⟨o, []⟩ none 0 t _ (by simp) (HZ.out _ _)).mono ?_
      rw [HF.out.2]
      rintro e w2 ⟨rfl, hb2⟩
      have hbz : w2.heap[w1.heap.size]? = some (.cells #[.int .i64 o, .slice none 0 0] 24 (0, 0)) := (hb2.block _ (by simp)).trans (heap_alloc_new w1 _)
      have HB2 : Hid (Below w.heap.size w w2) := (HB1.out.alloc HB1.out.size _).trans (hb2.mono (by have := HB1.out.size; simp only [World.size_alloc]; omega))
      clear hb2
      have c0 : w2.cell? ⟨w1.heap.size, 0, none⟩ = some (.int .i64 o) := cell_of_blk hbz 0
      have c1 : w2.cell? ⟨w1.heap.size, 1, none⟩ = some (.slice none 0 0) := cell_of_blk hbz 1
      clear hbz
      go_wp2_with fail
      refine (valid_any ⟨o, []⟩ none 0 _ (by simp) (HZ.out _ _)).mono ?_
      rw [HF.out.1]
      rintro e w3 ⟨rfl, hb3⟩
      have HB3 : Hid (Below w.heap.size w w3) := HB2.out.trans (hb3.mono HB2.out.size)
      clear hb3
      go_wp2_with fail
      go_ret
      exact ⟨rfl, HB3.out⟩
  · have HF := Lib.hid (fix_range o t (by omega) (by omega) h3 h4 (by omega))
    rcases hc with hc | ⟨hc, hc2⟩
    all_goals
      go_enter Try.func6, Try.ntmps6
      go_wp2_with fail
      refine (head_any _).mono ?_
      rintro e w1 ⟨rfl, hb1⟩
      have HB1 := Lib.hid hb1; clear hb1
      go_wp2_with fail
      rw [HT.out]
      refine (local_any ⟨o, []⟩ none 0 t _ (by simp) (HZ.out _ _)).mono ?_
      rw [HF.out]
      rintro e w2 ⟨rfl, hb2⟩
      have HB2 : Hid (Below w.heap.size w w2) := (HB1.out.alloc HB1.out.size _).trans (hb2.mono (by have := HB1.out.size; simp only [World.size_alloc]; omega))
      clear hb2
      go_wp2_with fail
      go_ret
      exact ⟨rfl, HB2.out⟩
  · have HF := Lib.hid (fix_ok o t (by omega) (by omega) h3 h4 (by omega) (by omega))
    have HI := Lib.hid (fix_inst o t (by omega) (by omega) h3 h4 (by omega) (by omega))
    obtain ⟨D, hD⟩ : ∃ D, (t + o) / 1440 = D := ⟨_, rfl⟩
    obtain ⟨M, hM⟩ : ∃ M, (t + o) % 1440 = M := ⟨_, rfl⟩
    rw [hD, hM] at HF HI
    have g1 : 0 ≤ M := by omega
    have g2 : M < 1440 := by omega
    have g5 : 0 ≤ D := by omega
    have g6 : D < 105190560 := by omega
    have g3 : D * 1440 + M = t + o := by omega
    clear hD hM
    have G3 := Lib.hid g3; clear g3
    go_enter Try.func6, Try.ntmps6
    go_wp2_with fail
    refine (head_any _).mono ?_
    rintro e w1 ⟨rfl, hb1⟩
    have HB1 := Lib.hid hb1; clear hb1
    go_wp2_with fail
    rw [HT.out]
    refine (local_any ⟨o, []⟩ none 0 t _ (by simp) (HZ.out _ _)).mono ?_
    rw [HF.out]
    rintro e w2 ⟨rfl, hb2⟩
    have hbz : w2.heap[w1.heap.size]? = some (.cells #[.int .i64 o, .slice none 0 0] 24 (0, 0)) := (hb2.block _ (by simp)).trans (heap_alloc_new w1 _)
    have HB2 : Hid (Below w.heap.size w w2) := (HB1.out.alloc HB1.out.size _).trans (hb2.mono (by have := HB1.out.size; simp only [World.size_alloc]; omega))
    clear hb2
    have c0 : w2.cell? ⟨w1.heap.size, 0, none⟩ = some (.int .i64 o) := cell_of_blk hbz 0
    have c1 : w2.cell? ⟨w1.heap.size, 1, none⟩ = some (.slice none 0 0) := cell_of_blk hbz 1
    clear hbz
    go_wp2_with fail
    refine (instants_any ⟨o, []⟩ none 0 D M _ (by simp) (HZ.out _ _)).mono ?_
    rw [HI.out]
    rintro e w3 ⟨⟨B, c, rfl, hr⟩, hb3⟩
    have R3 := Lib.hid (iRow_of_own hr); clear hr
    have HB3 : Hid (Below w.heap.size w w3) := HB2.out.trans (hb3.mono HB2.out.size)
    clear hb3
    go_wp2_with fail
    have hI : IRow (w3.alloc (.cells #[.int .i64 t] 3)) (some ⟨w3.heap.size, 0, none⟩) [t] := by
      intro _
      refine ⟨w3.heap.size, 0, rfl, by simp only [World.size_alloc]; omega, fun i hi => ?_⟩
      have hi2 : i = 0 := by have : i < 1 := hi; omega
      subst hi2
      exact cell_of_blk (heap_alloc_new w3 (.cells #[.int .i64 t] 3)) 0
    refine (ints_true [t] B (some ⟨w3.heap.size, 0, none⟩) c 1 _ (by simp) (R3.out.below (by go_grown)) hI).mono ?_
    rintro e w4 ⟨rfl, m, rfl⟩
    go_wp2_with fail
    go_ret
    exact ⟨rfl, below_drewN (HB3.out.alloc HB3.out.size _) _⟩
end Go.Proofs.Ytmjidplondkomaa
