/-
  What the functions Instants, change and Instant of package zone return.
-/
import Derived.Test.YtmjidplondkomaaZoneInst2
namespace Go.Proofs.Ytmjidplondkomaa.Zn
open Go.RowKit Go.Shelf
set_option linter.unusedVariables false

theorem okLocal_parts (z : Zone) (d m : Int) (h : okLocal z d m = true) : valid z = true ∧ 0 ≤ d ∧ d ≤ 73048 ∧ 0 ≤ m ∧ m < 1440 := by
  unfold okLocal at h
  simp only [Bool.and_eq_true, decide_eq_true_eq] at h
  obtain ⟨⟨⟨⟨h1, h2⟩, h3⟩, h4⟩, h5⟩ := h
  exact ⟨h1, h2, h3, h4, h5⟩

set_option maxHeartbeats 2000000 in
theorem instants_any (z : Zone) (A : Option Addr) (cap : Nat) (d m : Int) (w : World) (hlen : z.chs.length ≤ 9223372036854775807) (hrow : ChRow w A z.chs) :
    Calls Try.prog 20 #[.agg #[.int .i64 z.off, .slice A z.chs.length cap], .int .i64 d, .int .i64 m] w fun e w' =>
      (∃ B c, e = .returned (.slice B (instOf z d m).length c) ∧ w'.ownsRow w.heap.size 3 1 (.slice B (instOf z d m).length c) (instOf z d m).length ((instOf z d m).map (Value.int .i64))) ∧ Below w.heap.size w w' := by
  cases hok : okLocal z d m with
  | true =>
    obtain ⟨hv, h0, h1, h2, h3⟩ := okLocal_parts z d m hok
    have e : instOf z d m = instTo z (d * 1440 + m) (cnt z) := by unfold instOf; rw [if_pos hok]
    rw [e]
    exact callsIn_wide.1 (instants_in z A cap d m w hrow hok (valid_parts z hv).1 h0 h1 h2 h3 (ofs_bd z hv))
  | false =>
    have e : instOf z d m = [] := by unfold instOf; rw [if_neg (by rw [hok]; simp)]
    rw [e]
    have HROW := Lib.hid hrow; clear hrow
    have HOK := Lib.hid hok; clear hok e
    go_enter Try.func20, Try.ntmps20
    go_wp2_with fail
    refine (isLocal_any z A cap d m _ (by omega) (HROW.out.below (by go_grown))).mono ?_
    rw [HOK.out]
    rintro e w1 ⟨rfl, hb1⟩
    have hw0 : Below w.heap.size w (((w.alloc (.cells #[.int .i64 z.off, .slice A z.chs.length cap] 24)).alloc (.cells #[.int .i64 d] 3)).alloc (.cells #[.int .i64 m] 3)) := by go_grown
    have HB1 : Hid (Below w.heap.size w w1) := hw0.trans (hb1.mono (by simp only [World.size_alloc]; omega))
    clear hb1 hw0
    go_wp2_with fail
    go_ret
    exact ⟨⟨none, 0, rfl, World.ownsRow_nil _ _ _ _⟩, HB1.out⟩

/-- The first change at which a local time is skipped. -/
def gapAt (z : Zone) (L : Int) : Nat → Nat → Option Int
  | 0, _ => none
  | f + 1, k => if tto z k + ofs z k ≤ L ∧ L < tto z k + ofs z (k + 1) then some (tto z k) else gapAt z L f (k + 1)
theorem gapAt_step (z : Zone) (L : Int) (k : Nat) (hk : k < z.chs.length) : gapAt z L (z.chs.length - k) k = if tto z k + ofs z k ≤ L ∧ L < tto z k + ofs z (k + 1) then some (tto z k) else gapAt z L (z.chs.length - (k + 1)) (k + 1) := by
  obtain ⟨f, hf⟩ : ∃ f, z.chs.length - k = f + 1 := ⟨z.chs.length - k - 1, by omega⟩
  rw [hf, show z.chs.length - (k + 1) = f by omega]; rfl
theorem okFrom_at (l : Int) (cs : List (Int × Int)) (h : okFrom l cs = true) (k : Nat) (hk : k < cs.length) : l + 5760 < cs[k].1 ∧ cs[k].1 < 105190560 := by
  induction cs generalizing l k with
  | nil => simp at hk
  | cons c cs ih =>
    obtain ⟨a, o⟩ := c
    rw [okFrom_cons] at h
    simp only [Bool.and_eq_true, decide_eq_true_eq] at h
    cases k with
    | zero => exact ⟨h.1.1.2, h.1.2⟩
    | succ k =>
      have := ih a h.2 k (by simpa using hk)
      simp only [List.getElem_cons_succ]
      have h2 := h.1.1.2
      omega
theorem tto_bd (z : Zone) (h : valid z = true) (k : Nat) (hk : k < z.chs.length) : 0 < tto z k ∧ tto z k < 105190560 := by
  rw [tto_lt z k hk]
  have := okFrom_at 0 z.chs (valid_parts z h).2.2 k hk
  omega

theorem enters_inst1 (args : Array Value) (W : World) : (callFunc 28 args).run Try.prog W = .ok (.enter 28 args) W := by kernel_rfl

set_option maxHeartbeats 2000000 in
theorem inst1_any (a o bf L : Int) (b : Nat) (w : World) (hc : w.cell? ⟨b, 0, none⟩ = some (.int .i64 L)) (hbl : b < w.heap.size) (ha : 0 ≤ a) (ha2 : a < 105190560) (ho : -840 ≤ o) (ho2 : o ≤ 840) (hb : -840 ≤ bf) (hb2 : bf ≤ 840) :
    Calls Try.prog 28 #[.agg #[.int .i64 a, .int .i64 o], .int .i64 bf, .pointer (some ⟨b, 0, none⟩)] w fun e w' => e = .returned (.bool (decide (a + bf ≤ L ∧ L < a + o))) ∧ Below w.heap.size w w' := by
  have hc' : ∀ ob, (w.alloc ob).cell? ⟨b, 0, none⟩ = some (.int .i64 L) := fun ob => (World.cell?_alloc_lt w ob ⟨b, 0, none⟩ hbl).trans hc
  have hcase : (a + bf ≤ L ∧ L < a + o ∧ decide (a + bf ≤ L ∧ L < a + o) = true) ∨ (a + bf ≤ L ∧ a + o ≤ L ∧ decide (a + bf ≤ L ∧ L < a + o) = false) ∨ (L < a + bf ∧ decide (a + bf ≤ L ∧ L < a + o) = false) := by
    by_cases h1 : a + bf ≤ L
    · by_cases h2 : L < a + o
      · exact .inl ⟨h1, h2, decide_eq_true ⟨h1, h2⟩⟩
      · exact .inr (.inl ⟨h1, by omega, decide_eq_false (by omega)⟩)
    · exact .inr (.inr ⟨by omega, decide_eq_false (by omega)⟩)
  rcases hcase with ⟨h1, h2, hd⟩ | ⟨h1, h2, hd⟩ | ⟨h1, hd⟩
  all_goals
    rw [hd]
    clear hd
    go_enter Try.func28, Try.ntmps28
    go_wp2_with fail
    go_ret
    first | exact ⟨rfl, by go_grown⟩ | exact ⟨ret_bool (by simp; omega), by go_grown⟩
end Go.Proofs.Ytmjidplondkomaa.Zn
