/-
  What the function Local of package zone returns, for every zone and instant.
-/
import Derived.Test.YtmjidplondkomaaZoneLocal
namespace Go.Proofs.Ytmjidplondkomaa.Zn
open Go.RowKit Go.Shelf
set_option linter.unusedVariables false

theorem okFrom_ofs (l : Int) (cs : List (Int × Int)) (h : okFrom l cs = true) : ∀ k, (cs.getD k (0, 0)).2 ≤ 840 ∧ -840 ≤ (cs.getD k (0, 0)).2 := by
  induction cs generalizing l with
  | nil => intro k; simp
  | cons c cs ih =>
    obtain ⟨a, o⟩ := c
    rw [okFrom_cons] at h
    simp only [Bool.and_eq_true] at h
    intro k
    cases k with
    | zero => have := h.1.1.1; unfold okOff at this; simp at this; simp; omega
    | succ k => simpa using ih a h.2 k
theorem valid_parts (z : Zone) (h : valid z = true) : z.chs.length ≤ 40 ∧ okOff z.off = true ∧ okFrom 0 z.chs = true := by
  unfold valid at h
  simp only [Bool.and_eq_true, decide_eq_true_eq] at h
  exact ⟨h.1.2, h.1.1, h.2⟩
theorem ofs_bd (z : Zone) (h : valid z = true) (k : Nat) : -840 ≤ ofs z k ∧ ofs z k ≤ 840 := by
  obtain ⟨_, h1, h2⟩ := valid_parts z h
  unfold ofs
  split
  · unfold okOff at h1; simp at h1; omega
  · have := okFrom_ofs 0 z.chs h2 (k - 1); omega
theorem offAt_bd (z : Zone) (t : Int) (h : valid z = true) (f k : Nat) : -840 ≤ offAt z t f k ∧ offAt z t f k ≤ 840 := by
  induction f generalizing k with
  | zero => simp [offAt]
  | succ f ih =>
    unfold offAt
    split
    · exact ofs_bd z h k
    · exact ih (k + 1)
/-- The local time of an instant, as a number of minutes. -/
def loc (z : Zone) (t : Int) : Int := t + offAt z t (cnt z) 0
/-- Day, minute and error of an instant. -/
def localOf (z : Zone) (t : Int) : Int × Int × Int :=
  if valid z = true ∧ 0 ≤ t ∧ t < 105190560 then (if 0 ≤ loc z t ∧ loc z t < 105190560 then (loc z t / 1440, loc z t % 1440, 0) else (0, 0, 2)) else (0, 0, 1)

set_option maxHeartbeats 2000000 in
theorem local_bad (z : Zone) (A : Option Addr) (cap : Nat) (t : Int) (w : World) (hlen : z.chs.length ≤ 9223372036854775807) (hrow : ChRow w A z.chs) (h : ¬ (valid z = true ∧ 0 ≤ t ∧ t < 105190560)) :
    Calls Try.prog 11 #[.agg #[.int .i64 z.off, .slice A z.chs.length cap], .int .i64 t] w fun e w' => e = .returned (.tuple #[.int .i64 0, .int .i64 0, .int .i64 1]) ∧ Below w.heap.size w w' := by
  have HROW := Lib.hid hrow; clear hrow
  have hcase : valid z = false ∨ (valid z = true ∧ t < 0) ∨ (valid z = true ∧ 0 ≤ t ∧ 105190560 ≤ t) := by
    cases hv : valid z with
    | false => exact .inl rfl
    | true =>
      right
      by_cases h0 : t < 0
      · exact .inl ⟨rfl, h0⟩
      · exact .inr ⟨rfl, by omega, by
          rcases Int.lt_or_le t 105190560 with h1 | h1
          · exact absurd ⟨hv, by omega, h1⟩ h
          · exact h1⟩
  clear h
  rcases hcase with hv | ⟨hv, h0⟩ | ⟨hv, h0, h1⟩
  all_goals
    have HV := Lib.hid hv; clear hv
    go_enter Try.func11, Try.ntmps11
    go_wp2_with fail
    refine (valid_any z A cap _ (by omega) (HROW.out.below (by go_grown))).mono ?_
    rw [HV.out]
    rintro e w1 ⟨rfl, hb1⟩
    have hw0 : Below w.heap.size w ((w.alloc (.cells #[.int .i64 z.off, .slice A z.chs.length cap] 24)).alloc (.cells #[.int .i64 t] 3)) := by go_grown
    have hbt : w1.heap[w.heap.size + 1]? = some (.cells #[.int .i64 t] 3 (0, 0)) := (hb1.block _ (by simp)).trans (by have := heap_alloc_new (w.alloc (.cells #[.int .i64 z.off, .slice A z.chs.length cap] 24)) (.cells #[.int .i64 t] 3); rwa [World.size_alloc] at this)
    simp only [World.size_alloc] at hb1
    have HB1 : Hid (Below w.heap.size w w1) := hw0.trans (hb1.mono (by omega))
    clear hb1 hw0
    have c2 : w1.cell? ⟨w.heap.size + 1, 0, none⟩ = some (.int .i64 t) := cell_of_blk hbt 0
    clear hbt
    go_wp2_with fail
    go_ret3
    exact ⟨rfl, HB1.out⟩

theorem local_any (z : Zone) (A : Option Addr) (cap : Nat) (t : Int) (w : World) (hlen : z.chs.length ≤ 9223372036854775807) (hrow : ChRow w A z.chs) :
    Calls Try.prog 11 #[.agg #[.int .i64 z.off, .slice A z.chs.length cap], .int .i64 t] w fun e w' => e = .returned (.tuple #[.int .i64 (localOf z t).1, .int .i64 (localOf z t).2.1, .int .i64 (localOf z t).2.2]) ∧ Below w.heap.size w w' := by
  by_cases h : valid z = true ∧ 0 ≤ t ∧ t < 105190560
  · obtain ⟨hv, h0, h1⟩ := h
    have hb := offAt_bd z t hv (cnt z) 0
    have e : localOf z t = if 0 ≤ loc z t ∧ loc z t < 105190560 then (loc z t / 1440, loc z t % 1440, 0) else (0, 0, 2) := by unfold localOf; rw [if_pos ⟨hv, h0, h1⟩]
    refine callsIn_wide.1 (local_in z A cap t w (valid_parts z hv).1 hrow hv h0 h1 (loc z t) rfl (by unfold loc; omega) (by unfold loc; omega) (ofs_bd z hv) (fun e => e = .returned (.tuple #[.int .i64 (localOf z t).1, .int .i64 (localOf z t).2.1, .int .i64 (localOf z t).2.2])) ?_ ?_)
    · intro hl; rw [e, if_neg (by omega)]
    · intro hl1 hl2; rw [e, if_pos ⟨hl1, hl2⟩]
  · have e : localOf z t = (0, 0, 1) := by unfold localOf; rw [if_neg h]
    rw [e]
    exact local_bad z A cap t w hlen hrow h
end Go.Proofs.Ytmjidplondkomaa.Zn
