/-
  What the function Span of package zone returns.
-/
import Derived.Test.YtmjidplondkomaaZoneInst4
namespace Go.Proofs.Ytmjidplondkomaa.Zn
open Go.RowKit Go.Shelf
set_option linter.unusedVariables false

/-- The first instant of a local day, the first one after it, and the error. -/
def spanOf (z : Zone) (d : Int) : Int × Int × Int :=
  if valid z = true ∧ 0 ≤ d ∧ d < 73048 then
    (if (instantOf z d 0 false).2 = 0 then (if (instantOf z (d + 1) 0 false).2 = 0 then ((instantOf z d 0 false).1, (instantOf z (d + 1) 0 false).1, 0) else (0, 0, (instantOf z (d + 1) 0 false).2)) else (0, 0, (instantOf z d 0 false).2))
  else (0, 0, 1)

set_option maxHeartbeats 4000000 in
theorem span_any (z : Zone) (A : Option Addr) (cap : Nat) (d : Int) (w : World) (hlen : z.chs.length ≤ 9223372036854775807) (hrow : ChRow w A z.chs) :
    Calls Try.prog 15 #[.agg #[.int .i64 z.off, .slice A z.chs.length cap], .int .i64 d] w fun e w' =>
      e = .returned (.tuple #[.int .i64 (spanOf z d).1, .int .i64 (spanOf z d).2.1, .int .i64 (spanOf z d).2.2]) ∧ Below w.heap.size w w' := by
  have HROW := Lib.hid hrow; clear hrow
  have hbz0 : Below w.heap.size w (w.alloc (.cells #[.int .i64 z.off, .slice A z.chs.length cap] 24)) := (Below.refl _ _).alloc (Nat.le_refl _) _
  have HBZ0 := Lib.hid hbz0; clear hbz0
  by_cases h : valid z = true ∧ 0 ≤ d ∧ d < 73048
  · obtain ⟨hv, h0, h1⟩ := h
    obtain ⟨a, ea, ha⟩ : ∃ a ea, instantOf z d 0 false = (a, ea) := ⟨_, _, rfl⟩
    obtain ⟨b, eb, hb⟩ : ∃ b eb, instantOf z (d + 1) 0 false = (b, eb) := ⟨_, _, rfl⟩
    have HV := Lib.hid hv
    have e : spanOf z d = if ea = 0 then (if eb = 0 then (a, b, 0) else (0, 0, eb)) else (0, 0, ea) := by unfold spanOf; rw [if_pos ⟨hv, h0, h1⟩, ha, hb]
    have HA := Lib.hid ha; have HB := Lib.hid hb
    clear hv ha hb
    have hcase : (ea ≠ 0 ∧ (ea != 0) = true ∧ spanOf z d = (0, 0, ea)) ∨ (ea = 0 ∧ eb ≠ 0 ∧ (eb != 0) = true ∧ spanOf z d = (0, 0, eb)) ∨ (ea = 0 ∧ eb = 0 ∧ spanOf z d = (a, b, 0)) := by
      by_cases h1 : ea = 0
      · right
        by_cases h2 : eb = 0
        · exact .inr ⟨h1, h2, by rw [e, if_pos h1, if_pos h2]⟩
        · exact .inl ⟨h1, h2, bne_iff_ne.2 h2, by rw [e, if_pos h1, if_neg h2]⟩
      · exact .inl ⟨h1, bne_iff_ne.2 h1, by rw [e, if_neg h1]⟩
    clear e
    rcases hcase with ⟨n1, b1, e⟩ | ⟨rfl, n1, b1, e⟩ | ⟨rfl, rfl, e⟩
    all_goals
      rw [e]
      clear e
      try clear n1
      go_enter Try.func15, Try.ntmps15
      go_wp2_with fail
      refine (valid_any z A cap _ (by omega) (HROW.out.below HBZ0.out)).mono ?_
      rw [HV.out]
      rintro e w1 ⟨rfl, hb1⟩
      have hz1 : w1.heap[w.heap.size]? = some (.cells #[.int .i64 z.off, .slice A z.chs.length cap] 24 (0, 0)) := (hb1.block _ (by simp)).trans (heap_alloc_new w _)
      have HB1 : Hid (Below w.heap.size w w1) := HBZ0.out.trans (hb1.mono (by simp only [World.size_alloc]; omega))
      have HZ1 := Lib.hid hz1
      have c0 : w1.cell? ⟨w.heap.size, 0, none⟩ = some (.int .i64 z.off) := cell_of_blk hz1 0
      have c1 : w1.cell? ⟨w.heap.size, 1, none⟩ = some (.slice A z.chs.length cap) := cell_of_blk hz1 1
      clear hb1 hz1
      go_wp2_with fail
      refine (instant_any z A cap d 0 false _ (by omega) (HROW.out.below HB1.out)).mono ?_
      rw [HA.out]
      rintro e w2 ⟨rfl, hb2⟩
      have hz2 : w2.heap[w.heap.size]? = some (.cells #[.int .i64 z.off, .slice A z.chs.length cap] 24 (0, 0)) := (hb2.block _ (lt_of_blk HZ1.out)).trans HZ1.out
      have HB2 : Hid (Below w.heap.size w w2) := HB1.out.trans (hb2.mono HB1.out.size)
      have d0 : w2.cell? ⟨w.heap.size, 0, none⟩ = some (.int .i64 z.off) := cell_of_blk hz2 0
      have d1 : w2.cell? ⟨w.heap.size, 1, none⟩ = some (.slice A z.chs.length cap) := cell_of_blk hz2 1
      clear hb2 hz2 c0 c1
      go_wp2_with fail
    · go_ret3
      exact ⟨rfl, HB2.out⟩
    · refine (instant_any z A cap (d + 1) 0 false _ (by omega) (HROW.out.below HB2.out)).mono ?_
      rw [HB.out]
      rintro e w3 ⟨rfl, hb3⟩
      have HB3 : Hid (Below w.heap.size w w3) := HB2.out.trans (hb3.mono HB2.out.size)
      clear hb3 d0 d1
      go_wp2_with fail
      go_ret3
      exact ⟨rfl, HB3.out⟩
    · refine (instant_any z A cap (d + 1) 0 false _ (by omega) (HROW.out.below HB2.out)).mono ?_
      rw [HB.out]
      rintro e w3 ⟨rfl, hb3⟩
      have HB3 : Hid (Below w.heap.size w w3) := HB2.out.trans (hb3.mono HB2.out.size)
      clear hb3 d0 d1
      go_wp2_with fail
      go_ret3
      exact ⟨rfl, HB3.out⟩
  · have e : spanOf z d = (0, 0, 1) := by unfold spanOf; rw [if_neg h]
    rw [e]
    clear e
    have hcase : valid z = false ∨ (valid z = true ∧ d < 0) ∨ (valid z = true ∧ 0 ≤ d ∧ 73048 ≤ d) := by
      cases hv : valid z with
      | false => exact .inl rfl
      | true =>
        right
        by_cases h0 : d < 0
        · exact .inl ⟨rfl, h0⟩
        · exact .inr ⟨rfl, by omega, by
            rcases Int.lt_or_le d 73048 with h1 | h1
            · exact absurd ⟨hv, by omega, h1⟩ h
            · exact h1⟩
    clear h
    rcases hcase with hv | ⟨hv, h0⟩ | ⟨hv, h0, h1⟩
    all_goals
      have HV := Lib.hid hv; clear hv
      go_enter Try.func15, Try.ntmps15
      go_wp2_with fail
      refine (valid_any z A cap _ (by omega) (HROW.out.below HBZ0.out)).mono ?_
      rw [HV.out]
      rintro e w1 ⟨rfl, hb1⟩
      have HB1 : Hid (Below w.heap.size w w1) := HBZ0.out.trans (hb1.mono (by simp only [World.size_alloc]; omega))
      clear hb1
      go_wp2_with fail
      go_ret3
      exact ⟨rfl, HB1.out⟩
end Go.Proofs.Ytmjidplondkomaa.Zn
