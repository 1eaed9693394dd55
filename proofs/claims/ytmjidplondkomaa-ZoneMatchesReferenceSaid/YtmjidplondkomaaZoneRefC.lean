/-
  What the functions offset, segment, Local and good of package estoppelref03 return.
-/
import Derived.Test.YtmjidplondkomaaZoneRefA
import Derived.Deep.RegionWith
import Derived.BigRegion
namespace Go.Proofs.Ytmjidplondkomaa.Zn
open Go.RowKit Go.Shelf
set_option linter.unusedVariables false

set_option maxHeartbeats 2000000 in
theorem refOffset_any (z : Zone) (A : Option Addr) (cap : Nat) (k : Nat) (w : World) (hlen : z.chs.length ≤ 9223372036854775807) (hk : k ≤ z.chs.length) (hrow : ChRow w A z.chs) :
    Calls Try.prog 24 #[.agg #[.int .i64 z.off, .slice A z.chs.length cap], .int .i64 k] w fun e w' => e = .returned (.int .i64 (ofs z k)) ∧ Below w.heap.size w w' := by
  have Z0 := Lib.hid (ZW.start w z A cap hrow)
  rcases Nat.eq_zero_or_pos k with h | h
  · subst h
    have HO : Hid (ofs z 0 = z.off) := rfl
    rw [HO.out]
    clear hrow
    go_enter Try.func24, Try.ntmps24
    go_wp2_with fail
    go_ret
    exact ⟨rfl, by go_grown⟩
  · obtain ⟨j, rfl⟩ : ∃ j, k = j + 1 := ⟨k - 1, by omega⟩
    have hj : j < z.chs.length := by omega
    have HO := Lib.hid (ofs_succ z j hj)
    rw [HO.out]
    obtain ⟨g, o, hA, hg, hc⟩ := Z0.out.2.1 (by omega)
    subst hA
    obtain ⟨c0, c1⟩ := hc j hj
    clear hc hrow
    generalize z.chs[j] = cv at *
    obtain ⟨a, o2⟩ := cv
    simp only at c0 c1
    have hk0 : (((j + 1 : Nat) : Int) == 0) = false := by rw [beq_eq_false_iff_ne]; omega
    have hk1 : ((j + 1 : Nat) : Int) - 1 = (j : Int) := by omega
    go_enter Try.func24, Try.ntmps24
    go_wp2_with fail
    go_ret
    exact ⟨rfl, by go_grown⟩

set_option maxHeartbeats 2000000 in
theorem refSegment_any (z : Zone) (A : Option Addr) (cap : Nat) (t : Int) (k : Nat) (w : World) (hv : valid z = true) (hk : At z k t) (hrow : ChRow w A z.chs) :
    Calls Try.prog 25 #[.agg #[.int .i64 z.off, .slice A z.chs.length cap], .int .i64 t] w fun e w' => e = .returned (.int .i64 k) ∧ Below w.heap.size w w' := by
  have hl := (valid_parts z hv).1
  have Z0 := Lib.hid (ZW.start w z A cap hrow); clear hrow
  have HV := Lib.hid hv; clear hv
  have hkl := hk.1
  have HK := Lib.hid hk; clear hk
  go_enter Try.func25, Try.ntmps25
  go_wp2_with fail
  go_loopw [5] (fun i wr => ∃ (j : Nat), i = .int .i64 j ∧ j ≤ k ∧ Hid (ZW w w.heap.size z A cap wr)) (fun i _ => z.chs.length - (intOf i).toNat)
  case atStart => exact ⟨0, rfl, by omega, Z0.out⟩
  case round =>
    obtain ⟨j, rfl, hj, HZ⟩ := hrel
    obtain ⟨z0, z1⟩ := HZ.out.cells
    by_cases hlt : j < z.chs.length
    · obtain ⟨g, o, hA, hg, hc⟩ := HZ.out.2.1 (by omega)
      subst hA
      obtain ⟨c0, c1⟩ := hc j hlt
      have ht := tto_lt z j hlt
      have hcase : (j < k ∧ z.chs[j].1 ≤ t) ∨ (j = k ∧ ¬ z.chs[j].1 ≤ t) := by
        have h1 := HK.out.2.1
        have h2 := HK.out.2.2
        rcases Nat.lt_or_ge j k with h | h
        · have := tto_frm z HV.out j k h hkl
          exact .inl ⟨h, by omega⟩
        · have e : j = k := by omega
          subst e
          exact .inr ⟨rfl, by omega⟩
      clear hc ht
      generalize z.chs[j] = cv at *
      obtain ⟨a, o2⟩ := cv
      simp only at c0 c1 hcase
      rcases hcase with ⟨h1, h2⟩ | ⟨h1, h2⟩
      · go_wp2_with fail
        go_roundw
        case rel => exact ⟨j + 1, by go_num, by omega, HZ.out⟩
        case measure => simp [intOf]; omega
      · have HJ := Lib.hid h1; clear h1
        have h3 : t < a := by omega
        go_wp2_with fail
        go_ret
        exact ⟨ret_int (by rw [HJ.out]), HZ.out.2.2⟩
    · have hjk : j = k := by omega
      have HJ := Lib.hid hjk; clear hjk
      go_wp2_with fail
      go_ret
      exact ⟨ret_int (by rw [HJ.out]), HZ.out.2.2⟩
end Go.Proofs.Ytmjidplondkomaa.Zn
