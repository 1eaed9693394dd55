/-
  What the functions isLocal and Instants of package zone return.
-/
import Derived.Test.YtmjidplondkomaaZoneLocal2
import Derived.Maps.AppendAt
namespace Go.Proofs.Ytmjidplondkomaa.Zn
open Go.RowKit Go.Shelf
set_option linter.unusedVariables false

def okLocal (z : Zone) (d m : Int) : Bool := valid z && decide (0 ≤ d) && decide (d ≤ 73048) && decide (0 ≤ m) && decide (m < 1440)

set_option maxHeartbeats 2000000 in
theorem isLocal_any (z : Zone) (A : Option Addr) (cap : Nat) (d m : Int) (w : World) (hlen : z.chs.length ≤ 9223372036854775807) (hrow : ChRow w A z.chs) :
    Calls Try.prog 26 #[.agg #[.int .i64 z.off, .slice A z.chs.length cap], .int .i64 d, .int .i64 m] w fun e w' => e = .returned (.bool (okLocal z d m)) ∧ Below w.heap.size w w' := by
  have HROW := Lib.hid hrow; clear hrow
  have hcase : (∃ b, valid z = b ∧ b = false ∧ Hid (okLocal z d m = false)) ∨ (valid z = true ∧ d < 0 ∧ Hid (okLocal z d m = false)) ∨ (valid z = true ∧ 0 ≤ d ∧ 73048 < d ∧ Hid (okLocal z d m = false)) ∨
      (valid z = true ∧ 0 ≤ d ∧ d ≤ 73048 ∧ m < 0 ∧ Hid (okLocal z d m = false)) ∨ (valid z = true ∧ 0 ≤ d ∧ d ≤ 73048 ∧ 0 ≤ m ∧ 1440 ≤ m ∧ Hid (okLocal z d m = false)) ∨ (valid z = true ∧ 0 ≤ d ∧ d ≤ 73048 ∧ 0 ≤ m ∧ m < 1440 ∧ Hid (okLocal z d m = true)) := by
    cases hv : valid z with
    | false => exact .inl ⟨_, rfl, rfl, by show _ = _; simp [okLocal, hv]⟩
    | true =>
      right
      by_cases h1 : d < 0
      · exact .inl ⟨rfl, h1, by show _ = _; simp [okLocal, show ¬ 0 ≤ d by omega]⟩
      · right
        by_cases h2 : 73048 < d
        · exact .inl ⟨rfl, by omega, h2, by show _ = _; simp [okLocal, show ¬ d ≤ 73048 by omega]⟩
        · right
          by_cases h3 : m < 0
          · exact .inl ⟨rfl, by omega, by omega, h3, by show _ = _; simp [okLocal, show ¬ 0 ≤ m by omega]⟩
          · right
            by_cases h4 : m < 1440
            · exact .inr ⟨rfl, by omega, by omega, by omega, h4, by show _ = _; simp [okLocal, hv, h4]; omega⟩
            · exact .inl ⟨rfl, by omega, by omega, by omega, by omega, by show _ = _; simp [okLocal, h4]⟩
  rcases hcase with ⟨b, hv, rfl, HO⟩ | ⟨hv, h1, HO⟩ | ⟨hv, h1, h2, HO⟩ | ⟨hv, h1, h2, h3, HO⟩ | ⟨hv, h1, h2, h3, h4, HO⟩ | ⟨hv, h1, h2, h3, h4, HO⟩
  all_goals
    rw [HO.out]
    have HV := Lib.hid hv; clear hv
    go_enter Try.func26, Try.ntmps26
    go_wp2_with fail
    refine (valid_any z A cap _ (by omega) (HROW.out.below (by go_grown))).mono ?_
    rw [HV.out]
    rintro e w1 ⟨rfl, hb1⟩
    have HB1 : Hid (Below w.heap.size w w1) := ((Below.refl _ w).alloc (Nat.le_refl _) _).trans (hb1.mono (by simp))
    clear hb1
    go_wp2_with fail
    go_ret
    first | exact ⟨rfl, HB1.out⟩ | exact ⟨ret_bool (by simp; omega), HB1.out⟩

/-- The instants with a local time in the first stretches. -/
def instTo (z : Zone) (L : Int) : Nat → List Int
  | 0 => []
  | k + 1 => instTo z L k ++ (if frm z k ≤ L - ofs z k ∧ L - ofs z k < tto z k then [L - ofs z k] else [])
theorem instTo_len (z : Zone) (L : Int) (k : Nat) : (instTo z L k).length ≤ k := by
  induction k with
  | zero => simp [instTo]
  | succ k ih => unfold instTo; rw [List.length_append]; split <;> simp <;> omega
/-- All instants with a local time. -/
def instOf (z : Zone) (d m : Int) : List Int := if okLocal z d m = true then instTo z (d * 1440 + m) (cnt z) else []

theorem info_int : (Try.prog.info? 3).map (fun i => (i.zero, i.size, i.bytes)) = some (some (.int .i64 0), 1, 8) := by kernel_rfl
theorem own_put {w : World} {base : Nat} {e : TypeId} {size : Nat} {v : Value} {n : Nat} {xs : List Value} (h : w.ownsRow base e size v n xs) {i : Nat} (hi : i < base) (o : Obj) : (w.putObj i o).ownsRow base e size v n xs := by
  obtain ⟨h1, h2⟩ := h
  refine ⟨h1, ?_⟩
  rcases h2 with h2 | ⟨g, cap, cur, hv, hg, hh, r⟩
  · exact .inl h2
  · exact .inr ⟨g, cap, cur, hv, hg, by rw [World.putObj_heap_other (by omega)]; exact hh, r⟩
theorem own_base {w : World} {base base' : Nat} {e : TypeId} {size : Nat} {v : Value} {n : Nat} {xs : List Value} (h : w.ownsRow base e size v n xs) (hb : base' ≤ base) : w.ownsRow base' e size v n xs := by
  refine ⟨h.1, ?_⟩
  rcases h.2 with h2 | ⟨g, cap, cur, hv, hg, r⟩
  · exact .inl h2
  · exact .inr ⟨g, cap, cur, hv, by omega, r⟩
theorem own_form {w : World} {base : Nat} {e : TypeId} {size : Nat} {v : Value} {n : Nat} {xs : List Value} (h : w.ownsRow base e size v n xs) : ∃ A cap, v = .slice A n cap := by
  rcases h.2 with ⟨rfl, rfl⟩ | ⟨g, cap, cur, rfl, _⟩
  · exact ⟨_, _, rfl⟩
  · exact ⟨_, _, rfl⟩
theorem own_keep {w w1 : World} {base : Nat} {e : TypeId} {size : Nat} {v : Value} {n : Nat} {xs : List Value} (h : w.ownsRow base e size v n xs) (hb : Below w.heap.size w w1) : w1.ownsRow base e size v n xs := by
  refine ⟨h.1, ?_⟩
  rcases h.2 with h2 | ⟨g, cap, cur, hv, hg, hh, r⟩
  · exact .inl h2
  · exact .inr ⟨g, cap, cur, hv, hg, by rw [hb.block g (lt_of_blk hh)]; exact hh, r⟩
theorem own_type {w : World} {base : Nat} {e : TypeId} {size : Nat} {v : Value} {n : Nat} {xs : List Value} (h : w.ownsRow base e size v n xs) {g : Nat} (hg : v.ownBlock = some g) : base ≤ g ∧ ∃ cur, w.heap[g]? = some (.cells cur e (0, 0)) := by
  rcases h.2 with ⟨rfl, _⟩ | ⟨g', cap, cur, rfl, hb, hh, _⟩
  · cases hg
  · simp only [Value.ownBlock] at hg
    injection hg with hg
    subst hg
    exact ⟨hb, cur, hh⟩
end Go.Proofs.Ytmjidplondkomaa.Zn
