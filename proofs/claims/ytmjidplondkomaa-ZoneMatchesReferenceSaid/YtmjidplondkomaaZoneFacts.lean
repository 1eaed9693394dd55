/-
  Plain facts about valid zones: the stretches lie apart, every instant lies in one, the instants of a local time.
-/
import Derived.Test.YtmjidplondkomaaZoneSpan
namespace Go.Proofs.Ytmjidplondkomaa.Zn
set_option linter.unusedVariables false

theorem okFrom_step (l : Int) (cs : List (Int × Int)) (h : okFrom l cs = true) (k : Nat) (hk : k + 1 < cs.length) : cs[k].1 + 5760 < cs[k + 1].1 := by
  induction cs generalizing l k with
  | nil => simp at hk
  | cons c cs ih =>
    obtain ⟨a, o⟩ := c
    rw [okFrom_cons] at h
    simp only [Bool.and_eq_true, decide_eq_true_eq] at h
    cases k with
    | zero =>
      have := (okFrom_at a cs h.2 0 (by simpa using hk)).1
      simpa using this
    | succ k => exact ih a h.2 k (by simpa using hk)
theorem frm_tto (z : Zone) (hv : valid z = true) (k : Nat) (hk : k < z.chs.length) : frm z k + 5760 < tto z k := by
  have h := (valid_parts z hv).2.2
  rw [tto_lt z k hk]
  cases k with
  | zero => have := (okFrom_at 0 z.chs h 0 hk).1; simpa [frm] using this
  | succ j => rw [frm_succ z j (by omega)]; exact okFrom_step 0 z.chs h j hk
theorem frm_end (z : Zone) (hv : valid z = true) : frm z z.chs.length < 105190560 := by
  have h := (valid_parts z hv).2.2
  rcases Nat.eq_zero_or_pos z.chs.length with h0 | h0
  · rw [h0]; simp [frm]
  · obtain ⟨j, hj⟩ : ∃ j, z.chs.length = j + 1 := ⟨z.chs.length - 1, by omega⟩
    have := (okFrom_at 0 z.chs h j (by omega)).2
    rw [hj, frm_succ z j (by omega)]; exact this
theorem frm_next (z : Zone) (k : Nat) (hk : k < z.chs.length) : frm z (k + 1) = tto z k := by rw [frm_succ z k hk, tto_lt z k hk]
theorem tto_frm (z : Zone) (hv : valid z = true) (j k : Nat) (hj : j < k) (hk : k ≤ z.chs.length) : tto z j ≤ frm z k := by
  induction k with
  | zero => omega
  | succ k ih =>
    rw [frm_next z k (by omega)]
    rcases Nat.lt_or_ge j k with h | h
    · have h1 := ih h (by omega)
      have h2 := frm_tto z hv k (by omega)
      omega
    · have : j = k := by omega
      rw [this]; omega
theorem frm_pos (z : Zone) (hv : valid z = true) (k : Nat) (hk : k ≤ z.chs.length) : 0 ≤ frm z k := by
  cases k with
  | zero => simp [frm]
  | succ k => rw [frm_next z k (by omega)]; have := (tto_bd z hv k (by omega)).1; omega
/-- An instant lies in a stretch. -/
def At (z : Zone) (k : Nat) (x : Int) : Prop := k ≤ z.chs.length ∧ frm z k ≤ x ∧ x < tto z k
theorem At.range {z : Zone} {k : Nat} {x : Int} (h : At z k x) (hv : valid z = true) : 0 ≤ x ∧ x < 105190560 := by
  have h1 := frm_pos z hv k h.1
  refine ⟨by have := h.2.1; omega, ?_⟩
  rcases Nat.lt_or_ge k z.chs.length with h2 | h2
  · have := (tto_bd z hv k h2).2; have := h.2.2; omega
  · have e : k = z.chs.length := by have := h.1; omega
    have := h.2.2; rw [e, tto_end] at this; exact this
theorem at_lt {z : Zone} {j k : Nat} {x y : Int} (hv : valid z = true) (hx : At z j x) (hy : At z k y) (h : j < k) : x < y := by
  have := tto_frm z hv j k h hy.1
  have := hx.2.2; have := hy.2.1
  omega
theorem at_one {z : Zone} {j k : Nat} {x : Int} (hv : valid z = true) (hx : At z j x) (hy : At z k x) : j = k := by
  rcases Nat.lt_trichotomy j k with h | h | h
  · have := at_lt hv hx hy h; omega
  · exact h
  · have := at_lt hv hy hx h; omega
theorem at_offAt (z : Zone) (t : Int) (ht : t < 105190560) : ∀ (m k : Nat), m = z.chs.length - k → k ≤ z.chs.length → frm z k ≤ t → ∃ j, At z j t ∧ offAt z t (cnt z - k) k = ofs z j := by
  intro m
  induction m with
  | zero =>
    intro k hm hk hf
    have e : k = z.chs.length := by omega
    rw [offAt_step z t k (by unfold cnt; omega), if_pos (by rw [e, tto_end]; exact ht)]
    exact ⟨k, ⟨hk, hf, by rw [e, tto_end]; exact ht⟩, rfl⟩
  | succ m ih =>
    intro k hm hk hf
    rw [offAt_step z t k (by unfold cnt; omega)]
    split
    · rename_i h; exact ⟨k, ⟨hk, hf, h⟩, rfl⟩
    · rename_i h; exact ih (k + 1) (by omega) (by omega) (by rw [frm_next z k (by omega)]; omega)
theorem at_loc (z : Zone) (t : Int) (h0 : 0 ≤ t) (ht : t < 105190560) : ∃ j, At z j t ∧ loc z t = t + ofs z j := by
  obtain ⟨j, hj, e⟩ := at_offAt z t ht z.chs.length 0 rfl (by omega) (by simpa [frm] using h0)
  refine ⟨j, hj, ?_⟩
  unfold loc
  rw [Nat.sub_zero] at e
  rw [e]
theorem loc_at {z : Zone} {k : Nat} {x : Int} (hv : valid z = true) (h : At z k x) : loc z x = x + ofs z k := by
  obtain ⟨h0, h1⟩ := h.range hv
  obtain ⟨j, hj, e⟩ := at_loc z x h0 h1
  rw [e, at_one hv hj h]
theorem mem_instTo (z : Zone) (L x : Int) (k : Nat) : x ∈ instTo z L k ↔ ∃ j, j < k ∧ x = L - ofs z j ∧ frm z j ≤ x ∧ x < tto z j := by
  induction k with
  | zero => simp [instTo]
  | succ k ih =>
    unfold instTo
    rw [List.mem_append, ih]
    constructor
    · rintro (⟨j, h1, h2⟩ | h)
      · exact ⟨j, by omega, h2⟩
      · split at h
        · rename_i hc
          have e : x = L - ofs z k := by simpa using h
          exact ⟨k, by omega, e, by rw [e]; exact hc.1, by rw [e]; exact hc.2⟩
        · simp at h
    · rintro ⟨j, h1, h2, h3, h4⟩
      rcases Nat.lt_or_ge j k with h | h
      · exact .inl ⟨j, h, h2, h3, h4⟩
      · right
        have e : j = k := by omega
        subst e
        rw [if_pos ⟨by rw [← h2]; exact h3, by rw [← h2]; exact h4⟩]
        simp [h2]
theorem mem_inst (z : Zone) (L x : Int) : x ∈ instTo z L (cnt z) ↔ ∃ j, At z j x ∧ x = L - ofs z j := by
  rw [mem_instTo]
  constructor
  · rintro ⟨j, h1, h2, h3, h4⟩; exact ⟨j, ⟨by unfold cnt at h1; omega, h3, h4⟩, h2⟩
  · rintro ⟨j, ⟨h1, h3, h4⟩, h2⟩; exact ⟨j, by unfold cnt; omega, h2, h3, h4⟩
theorem inst_sorted (z : Zone) (hv : valid z = true) (L : Int) (k : Nat) (hk : k ≤ cnt z) : (instTo z L k).Pairwise (· < ·) := by
  induction k with
  | zero => simp [instTo]
  | succ k ih =>
    unfold instTo
    rw [List.pairwise_append]
    refine ⟨ih (by omega), by split <;> simp, ?_⟩
    intro a ha b hb
    split at hb
    · rename_i hc
      have e : b = L - ofs z k := by simpa using hb
      obtain ⟨j, h1, h2, h3, h4⟩ := (mem_instTo z L a k).1 ha
      have := tto_frm z hv j k h1 (by unfold cnt at hk; omega)
      have := hc.1
      omega
    · simp at hb
theorem inst_two (z : Zone) (hv : valid z = true) (L : Int) : (instTo z L (cnt z)).length ≤ 2 := by
  have hs := inst_sorted z hv L (cnt z) (Nat.le_refl _)
  have hm := mem_inst z L
  generalize instTo z L (cnt z) = l at hs hm
  rcases Nat.lt_or_ge 2 l.length with h | h
  · exfalso
    match l, h with
    | a :: b :: c :: r, _ =>
      simp only [List.pairwise_cons, List.mem_cons] at hs
      have hab := hs.1 b (by simp)
      have hbc := hs.2.1 c (by simp)
      obtain ⟨i, hi, ei⟩ := (hm a).1 (by simp)
      obtain ⟨j, hj, ej⟩ := (hm b).1 (by simp)
      obtain ⟨k, hk, ek⟩ := (hm c).1 (by simp)
      have o1 := ofs_bd z hv i
      have o2 := ofs_bd z hv k
      have hij : i < j := by
        rcases Nat.lt_trichotomy i j with h | h | h
        · exact h
        · subst h; omega
        · have := at_lt hv hj hi h; omega
      have hjk : j < k := by
        rcases Nat.lt_trichotomy j k with h | h | h
        · exact h
        · subst h; omega
        · have := at_lt hv hk hj h; omega
      have g1 := tto_frm z hv i j hij hj.1
      have g2 := tto_frm z hv j k hjk hk.1
      have hkl := hk.1
      have g3 := frm_tto z hv j (by omega)
      have := hi.2.2
      have := hk.2.1
      omega
  · exact h
/-- The local time of an instant of a local time. -/
theorem inst_loc (z : Zone) (hv : valid z = true) (L x : Int) (h : x ∈ instTo z L (cnt z)) : 0 ≤ x ∧ x < 105190560 ∧ loc z x = L := by
  obtain ⟨j, hj, e⟩ := (mem_inst z L x).1 h
  have hr := hj.range hv
  exact ⟨hr.1, hr.2, by rw [loc_at hv hj]; omega⟩
theorem loc_inst (z : Zone) (hv : valid z = true) (t : Int) (h0 : 0 ≤ t) (h1 : t < 105190560) : t ∈ instTo z (loc z t) (cnt z) := by
  obtain ⟨j, hj, e⟩ := at_loc z t h0 h1
  exact (mem_inst z _ t).2 ⟨j, hj, by rw [e]; omega⟩
theorem gapAt_some (z : Zone) (L a : Int) : ∀ (f k : Nat), k + f = z.chs.length → gapAt z L f k = some a → ∃ j, k ≤ j ∧ j < z.chs.length ∧ a = tto z j ∧ tto z j + ofs z j ≤ L ∧ L < tto z j + ofs z (j + 1) := by
  intro f
  induction f with
  | zero => intro k _ h; simp [gapAt] at h
  | succ f ih =>
    intro k hk h
    unfold gapAt at h
    split at h
    · rename_i hc
      injection h with h
      exact ⟨k, by omega, by omega, h.symm, hc.1, hc.2⟩
    · obtain ⟨j, h1, h2⟩ := ih (k + 1) (by omega) h
      exact ⟨j, by omega, h2⟩
theorem gap_some (z : Zone) (hv : valid z = true) (L a : Int) (h : gapAt z L z.chs.length 0 = some a) : ∃ j, j < z.chs.length ∧ a = tto z j ∧ tto z j + ofs z j ≤ L ∧ L < tto z j + ofs z (j + 1) ∧ At z (j + 1) a ∧ At z j (a - 1) := by
  obtain ⟨j, _, h1, h2, h3, h4⟩ := gapAt_some z L a z.chs.length 0 (by omega) h
  refine ⟨j, h1, h2, h3, h4, ⟨by omega, by rw [frm_next z j h1, h2]; omega, ?_⟩, ⟨by omega, ?_, ?_⟩⟩
  · rw [h2, ← frm_next z j h1]
    rcases Nat.lt_or_ge (j + 1) z.chs.length with h | h
    · have := frm_tto z hv (j + 1) h; omega
    · have e : j + 1 = z.chs.length := by omega
      rw [e, tto_end]; exact frm_end z hv
  · have := frm_tto z hv j h1; omega
  · omega
end Go.Proofs.Ytmjidplondkomaa.Zn
