/-
  What the functions Valid, offset and segment of package estoppelref03 return. What the functions offset, segment, Local and good of package estoppelref03 return. What the functions Local and good of package estoppelref03 return.
-/
import Derived.Test.YticlmkfifpkdpaaDoorRcZone
import Derived.Deep.QuietTactic
import Derived.BigQuiet
import Derived.Deep.RegionWith
import Derived.BigRegion
namespace Go.Proofs.YticlmkfifpkdpaaDoor.Zn
open Go.RowKit Go.Shelf
set_option linter.unusedVariables false

theorem okOff_iff (o : Int) : okOff o = true ↔ -840 ≤ o ∧ o ≤ 840 := by unfold okOff; simp
theorem okOff_cases (o : Int) : (okOff o = true ∧ ¬ o < -840 ∧ ¬ o > 840) ∨ (okOff o = false ∧ o < -840) ∨ (okOff o = false ∧ ¬ o < -840 ∧ o > 840) := by
  unfold okOff
  by_cases h1 : o < -840
  · right; left; exact ⟨by simp; omega, h1⟩
  · by_cases h2 : o > 840
    · right; right; exact ⟨by simp; omega, h1, h2⟩
    · left; exact ⟨by simp; omega, h1, h2⟩

set_option maxHeartbeats 2000000 in
theorem refValid_any (z : Zone) (A : Option Addr) (cap : Nat) (w : World) (hlen : z.chs.length ≤ 9223372036854775807) (hrow : ChRow w A z.chs) :
    Calls Tryd.prog 91 #[.agg #[.int .i64 z.off, .slice A z.chs.length cap]] w fun e w' => e = .returned (.bool (valid z)) ∧ Below w.heap.size w w' := by
  have HROW := Lib.hid hrow; clear hrow
  have hcase : ((okOff z.off = false ∧ z.off < -840) ∨ (okOff z.off = false ∧ ¬ z.off < -840 ∧ z.off > 840)) ∨ (okOff z.off = true ∧ ¬ z.off < -840 ∧ ¬ z.off > 840) := by
    have := okOff_cases z.off; rcases this with h | h | h
    · exact .inr h
    · exact .inl (.inl h)
    · exact .inl (.inr h)
  rcases hcase with hcase | ⟨ho, ho1, ho2⟩
  · have hv : valid z = false := by rcases hcase with ⟨ho, _⟩ | ⟨ho, _⟩ <;> simp [valid, ho]
    rw [hv]
    clear hv
    rcases hcase with ⟨ho, h1⟩ | ⟨ho, h1, h2⟩
    all_goals
      clear ho
      go_enter Tryd.func91, Tryd.ntmps91
      go_wp2_with fail
      go_ret
      exact ⟨rfl, by go_grown⟩
  · by_cases h40 : 40 < z.chs.length
    · have HV : Hid (valid z = false) := by show _ = _; simp [valid]; omega
      rw [HV.out]
      clear ho
      go_enter Tryd.func91, Tryd.ntmps91
      go_wp2_with fail
      go_ret
      exact ⟨rfl, by go_grown⟩
    · have HV : Hid (valid z = okFrom 0 z.chs) := by show _ = _; simp [valid, ho, show z.chs.length ≤ 40 by omega]
      rw [HV.out]
      clear ho
      generalize hR : okFrom 0 z.chs = R
      have HR := Lib.hid hR; clear hR
      have Z0 := Lib.hid (ZW.start w z A cap HROW.out)
      go_enter Tryd.func91, Tryd.ntmps91
      go_wp2_with fail
      go_loopw [3, 4] (fun la i wr => ∃ (j : Nat) (l : Int), la = .int .i64 l ∧ i = .int .i64 j ∧ j ≤ z.chs.length ∧ 0 ≤ l ∧ l < 105190560 ∧ Hid (okFrom l (z.chs.drop j) = R) ∧ Hid (ZW w w.heap.size z A cap wr)) (fun _ i _ => z.chs.length - (intOf i).toNat)
      case atStart => exact ⟨0, 0, rfl, rfl, by omega, by omega, by omega, HR, Z0.out⟩
      case round =>
        obtain ⟨j, l, rfl, rfl, hj, hl0, hl1, HK, HZ⟩ := hrel
        obtain ⟨z0, z1⟩ := HZ.out.cells
        by_cases hlt : j < z.chs.length
        · obtain ⟨g, o, hA, hg, hc⟩ := HZ.out.2.1 (by omega)
          subst hA
          obtain ⟨c0, c1⟩ := hc j hlt
          have hkk := HK.out
          rw [List.drop_eq_getElem_cons hlt] at hkk
          clear hc hg
          generalize hcv : z.chs[j] = cv at *
          obtain ⟨a, o2⟩ := cv
          simp only at c0 c1
          rw [okFrom_cons] at hkk
          have HKK := Lib.hid hkk; clear hkk hcv
          have HZ2 : Hid (∀ ob, ZW w w.heap.size z (some ⟨g, o, none⟩) cap (wr.alloc ob)) := fun ob => HZ.out.below ((Below.refl _ _).alloc (Nat.le_refl _) _)
          rcases okOff_cases o2 with ⟨ho2, h3, h4⟩ | h | h
          · by_cases h2 : a < 105190560
            · by_cases h1 : l + 5760 < a
              · have HF : Hid (okFrom a (z.chs.drop (j + 1)) = R) := by show _ = _; have := HKK.out; rw [ho2, decide_eq_true h1, decide_eq_true h2] at this; simpa using this
                clear ho2
                have h2' : ¬ a > 105190559 := by omega
                have h1' : ¬ a ≤ l + 5760 := by omega
                go_wp2_with fail
                go_roundw
                case rel => exact ⟨j + 1, a, rfl, by go_num, by omega, by omega, by omega, HF, HZ2.out _⟩
                case measure => simp [intOf]; omega
              · have HF : Hid (false = R) := by show _ = _; have := HKK.out; rw [decide_eq_false h1] at this; simpa using this
                clear ho2
                have h2' : ¬ a > 105190559 := by omega
                have h1' : a ≤ l + 5760 := by omega
                go_wp2_with fail
                go_ret
                exact ⟨ret_bool HF.out, (HZ2.out _).2.2⟩
            · have HF : Hid (false = R) := by show _ = _; have := HKK.out; rw [decide_eq_false h2] at this; simpa using this
              clear ho2
              have h2' : a > 105190559 := by omega
              go_wp2_with fail
              go_ret
              exact ⟨ret_bool HF.out, (HZ2.out _).2.2⟩
          · obtain ⟨ho2, h3⟩ := h
            have HF : Hid (false = R) := by show _ = _; have := HKK.out; rw [ho2] at this; simpa using this
            clear ho2
            go_wp2_with fail
            go_ret
            exact ⟨ret_bool HF.out, (HZ2.out _).2.2⟩
          · obtain ⟨ho2, h3, h4⟩ := h
            have HF : Hid (false = R) := by show _ = _; have := HKK.out; rw [ho2] at this; simpa using this
            clear ho2
            go_wp2_with fail
            go_ret
            exact ⟨ret_bool HF.out, (HZ2.out _).2.2⟩
        · have HF : Hid (true = R) := by
            have := HK.out
            rw [List.drop_eq_nil_of_le (by omega)] at this
            exact this
          go_wp2_with fail
          go_ret
          exact ⟨ret_bool HF.out, HZ.out.2.2⟩
end Go.Proofs.YticlmkfifpkdpaaDoor.Zn
namespace Go.Proofs.YticlmkfifpkdpaaDoor.Zn
open Go.RowKit Go.Shelf
set_option linter.unusedVariables false

set_option maxHeartbeats 2000000 in
theorem refOffset_any (z : Zone) (A : Option Addr) (cap : Nat) (k : Nat) (w : World) (hlen : z.chs.length ≤ 9223372036854775807) (hk : k ≤ z.chs.length) (hrow : ChRow w A z.chs) :
    Calls Tryd.prog 92 #[.agg #[.int .i64 z.off, .slice A z.chs.length cap], .int .i64 k] w fun e w' => e = .returned (.int .i64 (ofs z k)) ∧ Below w.heap.size w w' := by
  have Z0 := Lib.hid (ZW.start w z A cap hrow)
  rcases Nat.eq_zero_or_pos k with h | h
  · subst h
    have HO : Hid (ofs z 0 = z.off) := rfl
    rw [HO.out]
    clear hrow
    go_enter Tryd.func92, Tryd.ntmps92
    go_wp2_with fail
    go_ret
    exact ⟨rfl, by go_grown⟩
  · obtain ⟨j, rfl⟩ : ∃ j, k = j + 1 := ⟨k - 1, by omega⟩
    have hj : j < z.chs.length := by omega
    have HO := Lib.hid (ofs_succ z j hj)
    rw [HO.out]
    obtain ⟨g, o, hA, hg, hc⟩ := Z0.out.2.1 (by omega)
    subst hA
    obtain ⟨c0, c1⟩ := hc j hj
    clear hc hrow
    generalize z.chs[j] = cv at *
    obtain ⟨a, o2⟩ := cv
    simp only at c0 c1
    have hk0 : (((j + 1 : Nat) : Int) == 0) = false := by rw [beq_eq_false_iff_ne]; omega
    have hk1 : ((j + 1 : Nat) : Int) - 1 = (j : Int) := by omega
    go_enter Tryd.func92, Tryd.ntmps92
    go_wp2_with fail
    go_ret
    exact ⟨rfl, by go_grown⟩

set_option maxHeartbeats 2000000 in
theorem refSegment_any (z : Zone) (A : Option Addr) (cap : Nat) (t : Int) (k : Nat) (w : World) (hv : valid z = true) (hk : At z k t) (hrow : ChRow w A z.chs) :
    Calls Tryd.prog 93 #[.agg #[.int .i64 z.off, .slice A z.chs.length cap], .int .i64 t] w fun e w' => e = .returned (.int .i64 k) ∧ Below w.heap.size w w' := by
  have hl := (valid_parts z hv).1
  have Z0 := Lib.hid (ZW.start w z A cap hrow); clear hrow
  have HV := Lib.hid hv; clear hv
  have hkl := hk.1
  have HK := Lib.hid hk; clear hk
  go_enter Tryd.func93, Tryd.ntmps93
  go_wp2_with fail
  go_loopw [5] (fun i wr => ∃ (j : Nat), i = .int .i64 j ∧ j ≤ k ∧ Hid (ZW w w.heap.size z A cap wr)) (fun i _ => z.chs.length - (intOf i).toNat)
  case atStart => exact ⟨0, rfl, by omega, Z0.out⟩
  case round =>
    obtain ⟨j, rfl, hj, HZ⟩ := hrel
    obtain ⟨z0, z1⟩ := HZ.out.cells
    by_cases hlt : j < z.chs.length
    · obtain ⟨g, o, hA, hg, hc⟩ := HZ.out.2.1 (by omega)
      subst hA
      obtain ⟨c0, c1⟩ := hc j hlt
      have ht := tto_lt z j hlt
      have hcase : (j < k ∧ z.chs[j].1 ≤ t) ∨ (j = k ∧ ¬ z.chs[j].1 ≤ t) := by
        have h1 := HK.out.2.1
        have h2 := HK.out.2.2
        rcases Nat.lt_or_ge j k with h | h
        · have := tto_frm z HV.out j k h hkl
          exact .inl ⟨h, by omega⟩
        · have e : j = k := by omega
          subst e
          exact .inr ⟨rfl, by omega⟩
      clear hc ht
      generalize z.chs[j] = cv at *
      obtain ⟨a, o2⟩ := cv
      simp only at c0 c1 hcase
      rcases hcase with ⟨h1, h2⟩ | ⟨h1, h2⟩
      · go_wp2_with fail
        go_roundw
        case rel => exact ⟨j + 1, by go_num, by omega, HZ.out⟩
        case measure => simp [intOf]; omega
      · have HJ := Lib.hid h1; clear h1
        have h3 : t < a := by omega
        go_wp2_with fail
        go_ret
        exact ⟨ret_int (by rw [HJ.out]), HZ.out.2.2⟩
    · have hjk : j = k := by omega
      have HJ := Lib.hid hjk; clear hjk
      go_wp2_with fail
      go_ret
      exact ⟨ret_int (by rw [HJ.out]), HZ.out.2.2⟩
end Go.Proofs.YticlmkfifpkdpaaDoor.Zn
namespace Go.Proofs.YticlmkfifpkdpaaDoor.Zn
open Go.RowKit Go.Shelf
set_option linter.unusedVariables false

set_option maxHeartbeats 2000000 in
theorem refLocal_any (z : Zone) (A : Option Addr) (cap : Nat) (t : Int) (w : World) (hlen : z.chs.length ≤ 9223372036854775807) (hrow : ChRow w A z.chs) :
    Calls Tryd.prog 61 #[.agg #[.int .i64 z.off, .slice A z.chs.length cap], .int .i64 t] w fun e w' => e = .returned (.tuple #[.int .i64 (localOf z t).1, .int .i64 (localOf z t).2.1, .int .i64 (localOf z t).2.2]) ∧ Below w.heap.size w w' := by
  have Z0 := Lib.hid (ZW.start w z A cap hrow); clear hrow
  by_cases h : valid z = true ∧ 0 ≤ t ∧ t < 105190560
  · obtain ⟨hv, h0, h1⟩ := h
    obtain ⟨k, hk, el⟩ := at_loc z t h0 h1
    have hob := ofs_bd z hv k
    have e : localOf z t = if 0 ≤ loc z t ∧ loc z t < 105190560 then (loc z t / 1440, loc z t % 1440, 0) else (0, 0, 2) := by unfold localOf; rw [if_pos ⟨hv, h0, h1⟩]
    rw [el] at e
    generalize hL : t + ofs z k = L at e
    have hb : -840 ≤ L ∧ L ≤ 105191400 := by omega
    have HV := Lib.hid hv; clear hv
    have HK := Lib.hid hk; clear hk
    have HL := Lib.hid hL; clear hL el
    have hcase : (0 ≤ L ∧ L < 105190560 ∧ localOf z t = (L / 1440, L % 1440, 0)) ∨ (L < 0 ∧ localOf z t = (0, 0, 2)) ∨ (0 ≤ L ∧ 105190560 ≤ L ∧ localOf z t = (0, 0, 2)) := by
      by_cases g0 : 0 ≤ L
      · by_cases g1 : L < 105190560
        · exact .inl ⟨g0, g1, by rw [e, if_pos ⟨g0, g1⟩]⟩
        · exact .inr (.inr ⟨g0, by omega, by rw [e, if_neg (by omega)]⟩)
      · exact .inr (.inl ⟨by omega, by rw [e, if_neg (by omega)]⟩)
    clear e
    generalize localOf z t = R at *
    generalize hO : ofs z k = O at *
    have HO := Lib.hid hO; clear hO
    have hlo : -9223372036854775808 ≤ t + O ∧ t + O ≤ 9223372036854775807 := by omega
    clear hlo
    have HOFF : Hid (∀ W, Hid (ZW w w.heap.size z A cap W) → Calls Tryd.prog 92 #[.agg #[.int .i64 z.off, .slice A z.chs.length cap], .int .i64 k] W fun e w' => e = .returned (.int .i64 O) ∧ Hid (ZW w w.heap.size z A cap w')) := by
      intro W hW
      refine (refOffset_any z A cap k W (by omega) HK.out.1 hW.out.2.1).mono ?_
      rw [HO.out]
      rintro e w5 ⟨rfl, hb⟩
      exact ⟨rfl, hW.out.below hb⟩
    rcases hcase with ⟨g0, g1, rfl⟩ | ⟨g0, rfl⟩ | ⟨g0, g1, rfl⟩
    all_goals
      go_enter Tryd.func61, Tryd.ntmps61
      go_wp2_with fail
      refine (refValid_any z A cap _ (by omega) Z0.out.2.1).mono ?_
      rw [HV.out]
      rintro e w1 ⟨rfl, hb⟩
      have Z1 := Lib.hid (Z0.out.below hb); clear hb
      obtain ⟨c0, c1⟩ := Z1.out.cells
      have HSEG : Hid (Calls Tryd.prog 93 #[.agg #[.int .i64 z.off, .slice A z.chs.length cap], .int .i64 t] w1.drew fun e w' => e = .returned (.int .i64 k) ∧ Hid (ZW w w.heap.size z A cap w')) := by
        have hd : Below w1.heap.size w1 w1.drew := below_drewN (Below.refl _ _) 1
        refine (refSegment_any z A cap t k w1.drew HV.out HK.out (Z1.out.below hd).2.1).mono ?_
        rintro e w5 ⟨rfl, hb⟩
        exact ⟨rfl, (Z1.out.below hd).below hb⟩
      have hw : IntKind.i64.wrap (t + O) = L := by rw [IntWalk.i64_in _ (by omega)]; exact HL.out
      go_wp2_with fail
      go_region_with (first | (go_at_call 93; refine HSEG.out.mono ?_; rintro e w2 ⟨rfl, Z2⟩; have c2 := Z2.out.cells.1; have c3 := Z2.out.cells.2) | (go_at_call 92; refine (HOFF.out _ Z2).mono ?_; rintro e w3 ⟨rfl, Z3⟩))
      all_goals
        go_wp2_with fail
        go_ret3
        exact ⟨rfl, Z3.out.2.2⟩
  · have e : localOf z t = (0, 0, 1) := by unfold localOf; rw [if_neg h]
    rw [e]
    clear e
    have hcase : valid z = false ∨ (valid z = true ∧ t < 0) ∨ (valid z = true ∧ 0 ≤ t ∧ 105190560 ≤ t) := by
      cases hv : valid z with
      | false => exact .inl rfl
      | true =>
        right
        by_cases h0 : t < 0
        · exact .inl ⟨rfl, h0⟩
        · exact .inr ⟨rfl, by omega, by
            rcases Int.lt_or_le t 105190560 with h1 | h1
            · exact absurd ⟨hv, by omega, h1⟩ h
            · exact h1⟩
    clear h
    rcases hcase with hv | ⟨hv, h0⟩ | ⟨hv, h0, h1⟩
    all_goals
      have HV := Lib.hid hv; clear hv
      go_enter Tryd.func61, Tryd.ntmps61
      go_wp2_with fail
      refine (refValid_any z A cap _ (by omega) Z0.out.2.1).mono ?_
      rw [HV.out]
      rintro e w1 ⟨rfl, hb⟩
      have Z1 := Lib.hid (Z0.out.below hb); clear hb
      go_wp2_with fail
      go_ret3
      exact ⟨rfl, Z1.out.2.2⟩
end Go.Proofs.YticlmkfifpkdpaaDoor.Zn
