/-
  What the functions isOffset, Valid and isLocal of package zone return.
-/
import Derived.Test.YtmjidplondkomaaZoneIter
import Derived.Handy
import Derived.WalkLawsBesides
namespace Go.Proofs.Ytmjidplondkomaa.Zn
open Go.RowKit
set_option linter.unusedVariables false

theorem ret_bool {a b : Bool} (h : a = b) : Ending.returned (.bool a) = .returned (.bool b) := by rw [h]
theorem ret_int {k : IntKind} {a b : Int} (h : a = b) : Ending.returned (.int k a) = .returned (.int k b) := by rw [h]

theorem isOffset_any (o : Int) (w : World) :
    Calls Try.prog 30 #[.int .i64 o] w fun e w' => e = .returned (.bool (okOff o)) ∧ w = w' := by
  go_enter Try.func30, Try.ntmps30
  go_wp2
  all_goals
    go_ret
    exact ⟨ret_bool (by unfold okOff; rw [Bool.eq_iff_iff]; simp; omega), rfl⟩

theorem ChRow.below {w w' : World} {A : Option Addr} {cs : List (Int × Int)} (h : ChRow w A cs) (hb : Below w.heap.size w w') : ChRow w' A cs :=
  chRow_keep h hb.size (fun g o e hp => by
    obtain ⟨g', o', hA, hg, _⟩ := h hp
    rw [e] at hA; injection hA with hA; injection hA with e1 _ _
    exact hb.block g (by omega))
theorem okFrom_cons (l a o : Int) (r : List (Int × Int)) : okFrom l ((a, o) :: r) = (okOff o && decide (l + 5760 < a) && decide (a < 105190560) && okFrom a r) := rfl

set_option maxHeartbeats 2000000 in
theorem valid_any (z : Zone) (A : Option Addr) (cap : Nat) (w : World) (hlen : z.chs.length ≤ 9223372036854775807) (hrow : ChRow w A z.chs) :
    Calls Try.prog 17 #[.agg #[.int .i64 z.off, .slice A z.chs.length cap]] w fun e w' => e = .returned (.bool (valid z)) ∧ Below w.heap.size w w' := by
  have HROW := Lib.hid hrow; clear hrow
  cases ho : okOff z.off with
  | false =>
    have HV : Hid (valid z = false) := by show _ = _; simp [valid, ho]
    rw [HV.out]
    go_enter Try.func17, Try.ntmps17
    go_wp2_with (go_at_call 30; refine (isOffset_any _ _).mono ?_; rintro e w' ⟨rfl, rfl⟩)
    go_ret
    exact ⟨rfl, by go_grown⟩
  | true =>
    by_cases h40 : 40 < z.chs.length
    · have HV : Hid (valid z = false) := by show _ = _; simp [valid]; omega
      rw [HV.out]
      go_enter Try.func17, Try.ntmps17
      go_wp2_with (go_at_call 30; refine (isOffset_any _ _).mono ?_; rintro e w' ⟨rfl, rfl⟩)
      go_ret
      exact ⟨rfl, by go_grown⟩
    · have HV : Hid (valid z = okFrom 0 z.chs) := by show _ = _; simp [valid, ho, show z.chs.length ≤ 40 by omega]
      rw [HV.out]
      generalize hR : okFrom 0 z.chs = R
      have HR := Lib.hid hR; clear hR
      go_enter Try.func17, Try.ntmps17
      go_wp2_with (go_at_call 30; refine (isOffset_any _ _).mono ?_; rintro e w' ⟨rfl, rfl⟩)
      go_loopw [3, 19] (fun la i wr => ∃ (j : Nat) (l : Int), la = .int .i64 l ∧ i = .int .i64 j ∧ j ≤ z.chs.length ∧ 0 ≤ l ∧ l < 105190560 ∧ Hid (okFrom l (z.chs.drop j) = R) ∧ Hid (ChRow wr A z.chs) ∧ Hid (Below w.heap.size w wr)) (fun _ i _ => z.chs.length - (intOf i).toNat)
      case atStart =>
        have hb : Below w.heap.size w (w.alloc (.cells #[.int .i64 z.off, .slice A z.chs.length cap] 24)) := (Below.refl _ _).alloc (Nat.le_refl _) _
        exact ⟨0, 0, rfl, rfl, by omega, by omega, by omega, HR, HROW.out.below hb, hb⟩
      case round =>
        obtain ⟨j, l, rfl, rfl, hj, hl0, hl1, HK, HC, HB⟩ := hrel
        by_cases hlt : j < z.chs.length
        · obtain ⟨g, o, hA, hg, hc⟩ := HC.out (by omega)
          subst hA
          obtain ⟨c0, c1⟩ := hc j hlt
          have hkk := HK.out
          rw [List.drop_eq_getElem_cons hlt] at hkk
          clear hc hg
          generalize hcv : z.chs[j] = cv at *
          obtain ⟨a, o2⟩ := cv
          simp only at c0 c1
          rw [okFrom_cons] at hkk
          have HKK := Lib.hid hkk; clear hkk hcv
          have hbs := HB.out.size
          cases ho2 : okOff o2 with
          | false =>
            have HF : Hid (false = R) := by show _ = _; have := HKK.out; rw [ho2] at this; simpa using this
            go_wp2_with (go_at_call 30; refine (isOffset_any _ _).mono ?_; rintro e w' ⟨rfl, rfl⟩)
            go_ret
            exact ⟨ret_bool HF.out, HB.out.alloc hbs _⟩
          | true =>
            by_cases h1 : l + 5760 < a
            · by_cases h2 : a < 105190560
              · have HF : Hid (okFrom a (z.chs.drop (j + 1)) = R) := by show _ = _; have := HKK.out; rw [ho2, decide_eq_true h1, decide_eq_true h2] at this; simpa using this
                go_wp2_with (go_at_call 30; refine (isOffset_any _ _).mono ?_; rintro e w' ⟨rfl, rfl⟩)
                go_roundw
                case rel => exact ⟨j + 1, a, rfl, by go_num, by omega, by omega, by omega, HF, HC.out.below ((Below.refl _ _).alloc (Nat.le_refl _) _), HB.out.alloc hbs _⟩
                case measure => simp [intOf]; omega
              · have HF : Hid (false = R) := by show _ = _; have := HKK.out; rw [ho2, decide_eq_true h1, decide_eq_false h2] at this; simpa using this
                go_wp2_with (go_at_call 30; refine (isOffset_any _ _).mono ?_; rintro e w' ⟨rfl, rfl⟩)
                go_ret
                exact ⟨ret_bool HF.out, HB.out.alloc hbs _⟩
            · have HF : Hid (false = R) := by show _ = _; have := HKK.out; rw [ho2, decide_eq_false h1] at this; simpa using this
              go_wp2_with (go_at_call 30; refine (isOffset_any _ _).mono ?_; rintro e w' ⟨rfl, rfl⟩)
              go_ret
              exact ⟨ret_bool HF.out, HB.out.alloc hbs _⟩
        · have HF : Hid (true = R) := by
            have := HK.out
            rw [List.drop_eq_nil_of_le (by omega)] at this
            exact this
          go_wp2_with fail
          go_ret
          exact ⟨ret_bool HF.out, HB.out⟩
end Go.Proofs.Ytmjidplondkomaa.Zn
