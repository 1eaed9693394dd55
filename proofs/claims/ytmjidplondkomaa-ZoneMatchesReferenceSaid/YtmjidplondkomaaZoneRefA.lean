/-
  What the functions Valid, offset and segment of package estoppelref03 return.
-/
import Derived.Test.YtmjidplondkomaaZoneInv
import Derived.Deep.QuietTactic
import Derived.BigQuiet
namespace Go.Proofs.Ytmjidplondkomaa.Zn
open Go.RowKit Go.Shelf
set_option linter.unusedVariables false

theorem okOff_iff (o : Int) : okOff o = true ↔ -840 ≤ o ∧ o ≤ 840 := by unfold okOff; simp
theorem okOff_cases (o : Int) : (okOff o = true ∧ ¬ o < -840 ∧ ¬ o > 840) ∨ (okOff o = false ∧ o < -840) ∨ (okOff o = false ∧ ¬ o < -840 ∧ o > 840) := by
  unfold okOff
  by_cases h1 : o < -840
  · right; left; exact ⟨by simp; omega, h1⟩
  · by_cases h2 : o > 840
    · right; right; exact ⟨by simp; omega, h1, h2⟩
    · left; exact ⟨by simp; omega, h1, h2⟩

set_option maxHeartbeats 2000000 in
theorem refValid_any (z : Zone) (A : Option Addr) (cap : Nat) (w : World) (hlen : z.chs.length ≤ 9223372036854775807) (hrow : ChRow w A z.chs) :
    Calls Try.prog 18 #[.agg #[.int .i64 z.off, .slice A z.chs.length cap]] w fun e w' => e = .returned (.bool (valid z)) ∧ Below w.heap.size w w' := by
  have HROW := Lib.hid hrow; clear hrow
  have hcase : ((okOff z.off = false ∧ z.off < -840) ∨ (okOff z.off = false ∧ ¬ z.off < -840 ∧ z.off > 840)) ∨ (okOff z.off = true ∧ ¬ z.off < -840 ∧ ¬ z.off > 840) := by
    have := okOff_cases z.off; rcases this with h | h | h
    · exact .inr h
    · exact .inl (.inl h)
    · exact .inl (.inr h)
  rcases hcase with hcase | ⟨ho, ho1, ho2⟩
  · have hv : valid z = false := by rcases hcase with ⟨ho, _⟩ | ⟨ho, _⟩ <;> simp [valid, ho]
    rw [hv]
    clear hv
    rcases hcase with ⟨ho, h1⟩ | ⟨ho, h1, h2⟩
    all_goals
      clear ho
      go_enter Try.func18, Try.ntmps18
      go_wp2_with fail
      go_ret
      exact ⟨rfl, by go_grown⟩
  · by_cases h40 : 40 < z.chs.length
    · have HV : Hid (valid z = false) := by show _ = _; simp [valid]; omega
      rw [HV.out]
      clear ho
      go_enter Try.func18, Try.ntmps18
      go_wp2_with fail
      go_ret
      exact ⟨rfl, by go_grown⟩
    · have HV : Hid (valid z = okFrom 0 z.chs) := by show _ = _; simp [valid, ho, show z.chs.length ≤ 40 by omega]
      rw [HV.out]
      clear ho
      generalize hR : okFrom 0 z.chs = R
      have HR := Lib.hid hR; clear hR
      have Z0 := Lib.hid (ZW.start w z A cap HROW.out)
      go_enter Try.func18, Try.ntmps18
      go_wp2_with fail
      go_loopw [3, 4] (fun la i wr => ∃ (j : Nat) (l : Int), la = .int .i64 l ∧ i = .int .i64 j ∧ j ≤ z.chs.length ∧ 0 ≤ l ∧ l < 105190560 ∧ Hid (okFrom l (z.chs.drop j) = R) ∧ Hid (ZW w w.heap.size z A cap wr)) (fun _ i _ => z.chs.length - (intOf i).toNat)
      case atStart => exact ⟨0, 0, rfl, rfl, by omega, by omega, by omega, HR, Z0.out⟩
      case round =>
        obtain ⟨j, l, rfl, rfl, hj, hl0, hl1, HK, HZ⟩ := hrel
        obtain ⟨z0, z1⟩ := HZ.out.cells
        by_cases hlt : j < z.chs.length
        · obtain ⟨g, o, hA, hg, hc⟩ := HZ.out.2.1 (by omega)
          subst hA
          obtain ⟨c0, c1⟩ := hc j hlt
          have hkk := HK.out
          rw [List.drop_eq_getElem_cons hlt] at hkk
          clear hc hg
          generalize hcv : z.chs[j] = cv at *
          obtain ⟨a, o2⟩ := cv
          simp only at c0 c1
          rw [okFrom_cons] at hkk
          have HKK := Lib.hid hkk; clear hkk hcv
          have HZ2 : Hid (∀ ob, ZW w w.heap.size z (some ⟨g, o, none⟩) cap (wr.alloc ob)) := fun ob => HZ.out.below ((Below.refl _ _).alloc (Nat.le_refl _) _)
          rcases okOff_cases o2 with ⟨ho2, h3, h4⟩ | h | h
          · by_cases h2 : a < 105190560
            · by_cases h1 : l + 5760 < a
              · have HF : Hid (okFrom a (z.chs.drop (j + 1)) = R) := by show _ = _; have := HKK.out; rw [ho2, decide_eq_true h1, decide_eq_true h2] at this; simpa using this
                clear ho2
                have h2' : ¬ a > 105190559 := by omega
                have h1' : ¬ a ≤ l + 5760 := by omega
                go_wp2_with fail
                go_roundw
                case rel => exact ⟨j + 1, a, rfl, by go_num, by omega, by omega, by omega, HF, HZ2.out _⟩
                case measure => simp [intOf]; omega
              · have HF : Hid (false = R) := by show _ = _; have := HKK.out; rw [decide_eq_false h1] at this; simpa using this
                clear ho2
                have h2' : ¬ a > 105190559 := by omega
                have h1' : a ≤ l + 5760 := by omega
                go_wp2_with fail
                go_ret
                exact ⟨ret_bool HF.out, (HZ2.out _).2.2⟩
            · have HF : Hid (false = R) := by show _ = _; have := HKK.out; rw [decide_eq_false h2] at this; simpa using this
              clear ho2
              have h2' : a > 105190559 := by omega
              go_wp2_with fail
              go_ret
              exact ⟨ret_bool HF.out, (HZ2.out _).2.2⟩
          · obtain ⟨ho2, h3⟩ := h
            have HF : Hid (false = R) := by show _ = _; have := HKK.out; rw [ho2] at this; simpa using this
            clear ho2
            go_wp2_with fail
            go_ret
            exact ⟨ret_bool HF.out, (HZ2.out _).2.2⟩
          · obtain ⟨ho2, h3, h4⟩ := h
            have HF : Hid (false = R) := by show _ = _; have := HKK.out; rw [ho2] at this; simpa using this
            clear ho2
            go_wp2_with fail
            go_ret
            exact ⟨ret_bool HF.out, (HZ2.out _).2.2⟩
        · have HF : Hid (true = R) := by
            have := HK.out
            rw [List.drop_eq_nil_of_le (by omega)] at this
            exact this
          go_wp2_with fail
          go_ret
          exact ⟨ret_bool HF.out, HZ.out.2.2⟩
end Go.Proofs.Ytmjidplondkomaa.Zn
