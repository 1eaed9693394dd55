/-
  What the function Gaps of package estoppelref06 returns.
-/
import Derived.Test.YtbehkkgdgfdkaaaLexHead
import Derived.Test.YtbehkkgdgfdkaaaLexToks
namespace Go.Proofs.Ytbehkkgdgfdkaaa.Lx
open Go.RowKit
set_option linter.unusedVariables false

theorem refGaps_any (x : ByteArray) (w : World) (hs : x.size ≤ 9223372036854775807) :
    Calls Try.prog 14 #[.string x] w fun e w' => e = .returned (.bool (decide (gapLen false (bs x) = x.size))) ∧ w' = w := by
  have hg := gapLen_le false (bs x)
  rw [bs_length] at hg
  obtain ⟨g, hgg⟩ : ∃ g, gapLen false (bs x) = g := ⟨_, rfl⟩
  rw [hgg] at hg ⊢
  have HG := Lib.hid hgg; clear hgg
  go_enter Try.func14, Try.ntmps14
  go_wp2_with fail
  refine (refGap_any x 0 _ hs (by omega)).mono ?_
  rintro e w1 ⟨rfl, rfl⟩
  rw [List.drop_zero, HG.out]
  go_wp2_with fail
  go_ret
  refine ⟨ret_bool ?_, rfl⟩
  rw [Bool.eq_iff_iff]; simp; omega
theorem refGaps_true (x : ByteArray) (w : World) (hs : x.size ≤ 9223372036854775807) (h : gapLen false (bs x) = x.size) :
    Calls Try.prog 14 #[.string x] w fun e w' => e = .returned (.bool true) ∧ w' = w := by
  have := refGaps_any x w hs
  rw [h] at this
  simpa using this
theorem refGaps_false (x : ByteArray) (w : World) (hs : x.size ≤ 9223372036854775807) (h : gapLen false (bs x) ≠ x.size) :
    Calls Try.prog 14 #[.string x] w fun e w' => e = .returned (.bool false) ∧ w' = w := by
  have := refGaps_any x w hs
  rw [decide_eq_false h] at this
  exact this
theorem lt_of_cellAt {w : World} {g : Nat} {o : Nat} {v : Value} (h : w.cell? ⟨g, o, none⟩ = some v) : g < w.heap.size := by
  rcases Nat.lt_or_ge g w.heap.size with hlt | hge
  · exact hlt
  · unfold World.cell? at h
    simp only [Array.getElem?_eq_none hge] at h
    cases h
theorem below_drewN {B : Nat} {a w : World} (h : Below B a w) (n : Nat) : Below B a (w.drewN n) := ⟨h.os, h.tape, h.output, h.size, h.block⟩
theorem TokRow.drewN {w : World} {A : Option Addr} {ts : List Tok} (h : TokRow w A ts) (n : Nat) : TokRow (w.drewN n) A ts := h.below (below_drewN (Below.refl _ _) n)
theorem mk_size (l : List UInt8) : (ByteArray.mk l.toArray).size = l.length := by simp [ByteArray.size]
theorem bs_mk (l : List UInt8) : bs (ByteArray.mk l.toArray) = l := by simp [bs]
end Go.Proofs.Ytbehkkgdgfdkaaa.Lx
