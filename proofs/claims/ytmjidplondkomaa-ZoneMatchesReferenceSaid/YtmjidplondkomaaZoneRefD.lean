/-
  What the functions Local and good of package estoppelref03 return.
-/
import Derived.Test.YtmjidplondkomaaZoneRefC
namespace Go.Proofs.Ytmjidplondkomaa.Zn
open Go.RowKit Go.Shelf
set_option linter.unusedVariables false

set_option maxHeartbeats 2000000 in
theorem refLocal_any (z : Zone) (A : Option Addr) (cap : Nat) (t : Int) (w : World) (hlen : z.chs.length ≤ 9223372036854775807) (hrow : ChRow w A z.chs) :
    Calls Try.prog 12 #[.agg #[.int .i64 z.off, .slice A z.chs.length cap], .int .i64 t] w fun e w' => e = .returned (.tuple #[.int .i64 (localOf z t).1, .int .i64 (localOf z t).2.1, .int .i64 (localOf z t).2.2]) ∧ Below w.heap.size w w' := by
  have Z0 := Lib.hid (ZW.start w z A cap hrow); clear hrow
  by_cases h : valid z = true ∧ 0 ≤ t ∧ t < 105190560
  · obtain ⟨hv, h0, h1⟩ := h
    obtain ⟨k, hk, el⟩ := at_loc z t h0 h1
    have hob := ofs_bd z hv k
    have e : localOf z t = if 0 ≤ loc z t ∧ loc z t < 105190560 then (loc z t / 1440, loc z t % 1440, 0) else (0, 0, 2) := by unfold localOf; rw [if_pos ⟨hv, h0, h1⟩]
    rw [el] at e
    generalize hL : t + ofs z k = L at e
    have hb : -840 ≤ L ∧ L ≤ 105191400 := by omega
    have HV := Lib.hid hv; clear hv
    have HK := Lib.hid hk; clear hk
    have HL := Lib.hid hL; clear hL el
    have hcase : (0 ≤ L ∧ L < 105190560 ∧ localOf z t = (L / 1440, L % 1440, 0)) ∨ (L < 0 ∧ localOf z t = (0, 0, 2)) ∨ (0 ≤ L ∧ 105190560 ≤ L ∧ localOf z t = (0, 0, 2)) := by
      by_cases g0 : 0 ≤ L
      · by_cases g1 : L < 105190560
        · exact .inl ⟨g0, g1, by rw [e, if_pos ⟨g0, g1⟩]⟩
        · exact .inr (.inr ⟨g0, by omega, by rw [e, if_neg (by omega)]⟩)
      · exact .inr (.inl ⟨by omega, by rw [e, if_neg (by omega)]⟩)
    clear e
    generalize localOf z t = R at *
    generalize hO : ofs z k = O at *
    have HO := Lib.hid hO; clear hO
    have hlo : -9223372036854775808 ≤ t + O ∧ t + O ≤ 9223372036854775807 := by omega
    clear hlo
    have HOFF : Hid (∀ W, Hid (ZW w w.heap.size z A cap W) → Calls Try.prog 24 #[.agg #[.int .i64 z.off, .slice A z.chs.length cap], .int .i64 k] W fun e w' => e = .returned (.int .i64 O) ∧ Hid (ZW w w.heap.size z A cap w')) := by
      intro W hW
      refine (refOffset_any z A cap k W (by omega) HK.out.1 hW.out.2.1).mono ?_
      rw [HO.out]
      rintro e w5 ⟨rfl, hb⟩
      exact ⟨rfl, hW.out.below hb⟩
    rcases hcase with ⟨g0, g1, rfl⟩ | ⟨g0, rfl⟩ | ⟨g0, g1, rfl⟩
    all_goals
      go_enter Try.func12, Try.ntmps12
      go_wp2_with fail
      refine (refValid_any z A cap _ (by omega) Z0.out.2.1).mono ?_
      rw [HV.out]
      rintro e w1 ⟨rfl, hb⟩
      have Z1 := Lib.hid (Z0.out.below hb); clear hb
      obtain ⟨c0, c1⟩ := Z1.out.cells
      have HSEG : Hid (Calls Try.prog 25 #[.agg #[.int .i64 z.off, .slice A z.chs.length cap], .int .i64 t] w1.drew fun e w' => e = .returned (.int .i64 k) ∧ Hid (ZW w w.heap.size z A cap w')) := by
        have hd : Below w1.heap.size w1 w1.drew := below_drewN (Below.refl _ _) 1
        refine (refSegment_any z A cap t k w1.drew HV.out HK.out (Z1.out.below hd).2.1).mono ?_
        rintro e w5 ⟨rfl, hb⟩
        exact ⟨rfl, (Z1.out.below hd).below hb⟩
      have hw : IntKind.i64.wrap (t + O) = L := by rw [IntWalk.i64_in _ (by omega)]; exact HL.out
      go_wp2_with fail
      go_region_with (first | (go_at_call 25; refine HSEG.out.mono ?_; rintro e w2 ⟨rfl, Z2⟩; have c2 := Z2.out.cells.1; have c3 := Z2.out.cells.2) | (go_at_call 24; refine (HOFF.out _ Z2).mono ?_; rintro e w3 ⟨rfl, Z3⟩))
      all_goals
        go_wp2_with fail
        go_ret3
        exact ⟨rfl, Z3.out.2.2⟩
  · have e : localOf z t = (0, 0, 1) := by unfold localOf; rw [if_neg h]
    rw [e]
    clear e
    have hcase : valid z = false ∨ (valid z = true ∧ t < 0) ∨ (valid z = true ∧ 0 ≤ t ∧ 105190560 ≤ t) := by
      cases hv : valid z with
      | false => exact .inl rfl
      | true =>
        right
        by_cases h0 : t < 0
        · exact .inl ⟨rfl, h0⟩
        · exact .inr ⟨rfl, by omega, by
            rcases Int.lt_or_le t 105190560 with h1 | h1
            · exact absurd ⟨hv, by omega, h1⟩ h
            · exact h1⟩
    clear h
    rcases hcase with hv | ⟨hv, h0⟩ | ⟨hv, h0, h1⟩
    all_goals
      have HV := Lib.hid hv; clear hv
      go_enter Try.func12, Try.ntmps12
      go_wp2_with fail
      refine (refValid_any z A cap _ (by omega) Z0.out.2.1).mono ?_
      rw [HV.out]
      rintro e w1 ⟨rfl, hb⟩
      have Z1 := Lib.hid (Z0.out.below hb); clear hb
      go_wp2_with fail
      go_ret3
      exact ⟨rfl, Z1.out.2.2⟩
end Go.Proofs.Ytmjidplondkomaa.Zn
