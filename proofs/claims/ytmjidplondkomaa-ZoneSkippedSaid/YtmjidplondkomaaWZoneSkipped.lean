/-
  The walk of the statement ZoneSkipped: it returns true for every zone and local time.
-/
import Derived.Test.YtmjidplondkomaaZoneInv
import Derived.Deep.RegionWith
import Derived.BigRegion
import Derived.Deep.DeepCutAuto
namespace Go.Proofs.Ytmjidplondkomaa
open Go.RowKit Zn
set_option linter.unusedVariables false
namespace Zn
theorem irow_at {w : World} {g o : Nat} {l : List Int} (h : IRow w (some ⟨g, o, none⟩) l) {i : Nat} (hi : i < l.length) : w.cell? ⟨g, o + i, none⟩ = some (.int .i64 l[i]) := by
  obtain ⟨g', o', e, _, hc⟩ := h (by omega)
  injection e with e
  injection e with e1 e2 _
  subst e1 e2
  exact hc i hi
theorem localOf_side (z : Zone) (hv : valid z = true) (k : Nat) (x : Int) (h : At z k x) :
    ∃ p q f, localOf z x = (p, q, f) ∧ 0 ≤ p ∧ p < 105190560 ∧ 0 ≤ q ∧ q < 1440 ∧ (f = 2 ∨ (f = 0 ∧ p * 1440 + q = x + ofs z k)) := by
  obtain ⟨h0, h1⟩ := h.range hv
  have e := loc_at hv h
  unfold localOf
  rw [if_pos ⟨hv, h0, h1⟩, e]
  split
  · rename_i hc
    exact ⟨_, _, _, rfl, by omega, by omega, by omega, by omega, .inr ⟨rfl, by omega⟩⟩
  · exact ⟨0, 0, 2, rfl, by omega, by omega, by omega, by omega, .inl rfl⟩
/-- What the statement needs. -/
theorem skipped_facts (z : Zone) (d m : Int) (h0 : 0 ≤ d) (h1 : d ≤ 73048) (h2 : 0 ≤ m) (h3 : m < 1440) :
    (instOf z d m ≠ [] ∧ (instOf z d m).length ≤ 2 ∧ ∀ later, instantOf z d m later = (if later then (instOf z d m).getD ((instOf z d m).length - 1) 0 else (instOf z d m).getD 0 0, 0)) ∨
    (instOf z d m = [] ∧ ∃ e, (e = 1 ∨ e = 2) ∧ ∀ later, instantOf z d m later = (0, e)) ∨
    (instOf z d m = [] ∧ ∃ a, (∀ later, instantOf z d m later = (a, 0)) ∧ 1 ≤ a ∧ a < 105190560 ∧
      (∃ p q f, localOf z a = (p, q, f) ∧ 0 ≤ p ∧ p < 105190560 ∧ 0 ≤ q ∧ q < 1440 ∧ (f = 2 ∨ (f = 0 ∧ d * 1440 + m < p * 1440 + q))) ∧
      (∃ p q f, localOf z (a - 1) = (p, q, f) ∧ 0 ≤ p ∧ p < 105190560 ∧ 0 ≤ q ∧ q < 1440 ∧ (f = 2 ∨ (f = 0 ∧ p * 1440 + q < d * 1440 + m)))) := by
  cases hok : okLocal z d m with
  | false =>
    right; left
    refine ⟨by unfold instOf; rw [hok]; rfl, 1, .inl rfl, fun later => by unfold instantOf; rw [hok]; rfl⟩
  | true =>
    have hv := (okLocal_parts z d m hok).1
    by_cases hl : instOf z d m = []
    · right
      cases hg : gapAt z (d * 1440 + m) z.chs.length 0 with
      | none =>
        left
        refine ⟨hl, 2, .inr rfl, fun later => ?_⟩
        unfold instantOf
        rw [if_pos hok, if_pos hl, hg]
      | some a =>
        right
        obtain ⟨j, h1, h2, h3, h4, h5, h6⟩ := gap_some z hv _ a hg
        refine ⟨hl, a, fun later => ?_, ?_, (h5.range hv).2, ?_, ?_⟩
        · unfold instantOf
          rw [if_pos hok, if_pos hl, hg]
        · have := (h6.range hv).1; omega
        · obtain ⟨p, q, f, e, g1, g2, g3, g4, g5⟩ := localOf_side z hv _ _ h5
          exact ⟨p, q, f, e, g1, g2, g3, g4, by omega⟩
        · obtain ⟨p, q, f, e, g1, g2, g3, g4, g5⟩ := localOf_side z hv _ _ h6
          exact ⟨p, q, f, e, g1, g2, g3, g4, by omega⟩
    · left
      refine ⟨hl, ?_, fun later => ?_⟩
      · unfold instOf; rw [if_pos hok]; exact inst_two z hv _
      · unfold instantOf
        rw [if_pos hok, if_neg hl]
end Zn
set_option maxRecDepth 100000 in
set_option maxHeartbeats 4000000 in
theorem walk_ZoneSkipped (z : Zone) (A : Option Addr) (cap : Nat) (hm : z.chs.length ≤ maxLen) (hwf : (Lit.int .i64 z.off).wf = true ∧ ∀ i (h : i < z.chs.length), (Lit.int .i64 z.chs[i].1).wf = true ∧ (Lit.int .i64 z.chs[i].2).wf = true) (u : Int) (hu : (Lit.int .u32 u).wf = true) (v : Int) (hv : (Lit.int .u16 v).wf = true) (later : Bool) (w : World) (hrow : ChRow w A z.chs) :
    Calls Try.prog 5 #[.agg #[.int .i64 z.off, .slice A z.chs.length cap], .int .u32 u, .int .u16 v, .bool later] w fun e w' => e = .returned (.bool true) ∧ Below w.heap.size w w' := by
  have hu0 := bounds_u32 hu
  have hv0 := bounds_u16 hv
  unfold maxLen at hm
  clear hwf hu hv
  obtain ⟨d, hd⟩ : ∃ d, u % 73049 = d := ⟨_, rfl⟩
  obtain ⟨m, hmm⟩ : ∃ m, v % 1440 = m := ⟨_, rfl⟩
  have d0 : 0 ≤ d := by omega
  have d1 : d ≤ 73048 := by omega
  have m0 : 0 ≤ m := by omega
  have m1 : m < 1440 := by omega
  have HD := Lib.hid hd; clear hd
  have HM := Lib.hid hmm; clear hmm
  have Z0 := Lib.hid (ZW.start w z A cap hrow); clear hrow
  by_cases hf : z.chs.length ≤ 100
  · have HFEW := Lib.hid (decide_eq_true hf)
    rcases skipped_facts z d m d0 d1 m0 m1 with ⟨hn, hl2, hi⟩ | ⟨hn, e, he, hi⟩ | ⟨hn, a, hi, a0, a1, ⟨p, q, f, hla, p0, p1, q0, q1, hlb⟩, ⟨p', q', f', hla', p0', p1', q0', q1', hlb'⟩⟩
    · obtain ⟨l, hI⟩ : ∃ l, instOf z d m = l := ⟨_, rfl⟩
      have hi := hi later
      rw [hI] at hn hi hl2
      have hl0 : 0 < l.length := by rcases l with _ | ⟨x, l⟩; exact absurd rfl hn; simp
      have HI := Lib.hid hI; clear hI
      obtain ⟨x, hx⟩ : ∃ x, l[0] = x := ⟨_, rfl⟩
      obtain ⟨y, hy⟩ : ∃ y, l[l.length - 1] = y := ⟨_, rfl⟩
      have HX := Lib.hid hx
      have HY := Lib.hid hy
      have hi2 : instantOf z d m later = (if later then y else x, 0) := by
        rw [hi, ← hx, ← hy]
        simp [List.getD, List.getElem?_eq_getElem hl0, List.getElem?_eq_getElem (show l.length - 1 < l.length by omega)]
      have HT := Lib.hid hi2; clear hi hi2 hn hx hy
      have hk : ((l.length - 1 : Nat) : Int) = (l.length : Int) - 1 := by omega
      cases later
      all_goals
        go_enter Try.func5, Try.ntmps5
        go_wp2_with fail
        refine (head_any _).mono ?_
        rintro e w1 ⟨rfl, hb⟩
        have Z1 := Lib.hid (Z0.out.below hb); clear hb
        obtain ⟨c0, c1⟩ := Z1.out.cells
        go_wp2_with fail
        refine (few_any z A cap _).mono ?_
        rw [HFEW.out]
        rintro e w2 ⟨rfl, hb⟩
        have Z2 := Lib.hid (Z1.out.below hb); clear hb c0 c1
        obtain ⟨c0, c1⟩ := Z2.out.cells
        go_wp2_with fail
        rw [HD.out, HM.out]
        refine (instants_any z A cap d m _ (by omega) Z2.out.2.1).mono ?_
        rw [HI.out]
        rintro e w3 ⟨⟨B, c, rfl, hr⟩, hb⟩
        have Z3 := Lib.hid (Z2.out.below hb); clear hb c0 c1
        have R3 := Lib.hid (iRow_of_own hr); clear hr
        obtain ⟨c0, c1⟩ := Z3.out.cells
        go_wp2_with fail
        refine (instant_any z A cap d m _ _ (by omega) Z3.out.2.1).mono ?_
        rw [HT.out]
        rintro e w4 ⟨rfl, hb⟩
        have R4 := Lib.hid (R3.out.below hb); clear R3
        have Z4 := Lib.hid (Z3.out.below hb); clear hb c0 c1
        obtain ⟨g, o, rfl, hg, _⟩ := R4.out hl0
        have a0 := irow_at R4.out hl0
        have b0 := irow_at R4.out (show l.length - 1 < l.length by omega)
        rw [HX.out, Nat.add_zero] at a0
        rw [HY.out] at b0
        go_wp2_with fail
        go_ret
        exact ⟨rfl, Z4.out.2.2⟩
    · have hi := hi later
      have HI := Lib.hid hn; clear hn
      have HT := Lib.hid hi; clear hi
      rcases he with rfl | rfl
      all_goals
        go_enter Try.func5, Try.ntmps5
        go_wp2_with fail
        refine (head_any _).mono ?_
        rintro e w1 ⟨rfl, hb⟩
        have Z1 := Lib.hid (Z0.out.below hb); clear hb
        obtain ⟨c0, c1⟩ := Z1.out.cells
        go_wp2_with fail
        refine (few_any z A cap _).mono ?_
        rw [HFEW.out]
        rintro e w2 ⟨rfl, hb⟩
        have Z2 := Lib.hid (Z1.out.below hb); clear hb c0 c1
        obtain ⟨c0, c1⟩ := Z2.out.cells
        go_wp2_with fail
        rw [HD.out, HM.out]
        refine (instants_any z A cap d m _ (by omega) Z2.out.2.1).mono ?_
        rw [HI.out]
        rintro e w3 ⟨⟨B, c, rfl, hr⟩, hb⟩
        have Z3 := Lib.hid (Z2.out.below hb); clear hb c0 c1
        have R3 := Lib.hid (iRow_of_own hr); clear hr
        obtain ⟨c0, c1⟩ := Z3.out.cells
        go_wp2_with fail
        refine (instant_any z A cap d m later _ (by omega) Z3.out.2.1).mono ?_
        rw [HT.out]
        rintro e w4 ⟨rfl, hb⟩
        have R4 := Lib.hid (R3.out.below hb); clear R3
        have Z4 := Lib.hid (Z3.out.below hb); clear hb c0 c1
        go_wp2_with fail
        go_ret
        exact ⟨rfl, Z4.out.2.2⟩
    · have hi := hi later
      have HI := Lib.hid hn; clear hn
      have HT := Lib.hid hi; clear hi
      have HL1 := Lib.hid hla; clear hla
      have HL2 := Lib.hid hla'; clear hla'
      go_enter Try.func5, Try.ntmps5
      go_wp2_with fail
      refine (head_any _).mono ?_
      rintro e w1 ⟨rfl, hb⟩
      have Z1 := Lib.hid (Z0.out.below hb); clear hb
      obtain ⟨c0, c1⟩ := Z1.out.cells
      go_wp2_with fail
      refine (few_any z A cap _).mono ?_
      rw [HFEW.out]
      rintro e w2 ⟨rfl, hb⟩
      have Z2 := Lib.hid (Z1.out.below hb); clear hb c0 c1
      obtain ⟨c0, c1⟩ := Z2.out.cells
      go_wp2_with fail
      rw [HD.out, HM.out]
      refine (instants_any z A cap d m _ (by omega) Z2.out.2.1).mono ?_
      rw [HI.out]
      rintro e w3 ⟨⟨B, c, rfl, hr⟩, hb⟩
      have Z3 := Lib.hid (Z2.out.below hb); clear hb c0 c1
      have R3 := Lib.hid (iRow_of_own hr); clear hr
      obtain ⟨c0, c1⟩ := Z3.out.cells
      go_wp2_with fail
      refine (instant_any z A cap d m later _ (by omega) Z3.out.2.1).mono ?_
      rw [HT.out]
      rintro e w4 ⟨rfl, hb⟩
      have R4 := Lib.hid (R3.out.below hb); clear R3
      have Z4 := Lib.hid (Z3.out.below hb); clear hb c0 c1
      obtain ⟨c0, c1⟩ := Z4.out.cells
      go_wp2_with fail
      refine (local_any z A cap a _ (by omega) Z4.out.2.1).mono ?_
      rw [HL1.out]
      rintro e w5 ⟨rfl, hb⟩
      have Z5 := Lib.hid (Z4.out.below hb); clear hb c0 c1
      obtain ⟨c0, c1⟩ := Z5.out.cells
      go_wp2_with fail
      refine (local_any z A cap (a - 1) _ (by omega) Z5.out.2.1).mono ?_
      rw [HL2.out]
      rintro e w6 ⟨rfl, hb⟩
      have Z6 := Lib.hid (Z5.out.below hb); clear hb c0 c1
      rcases hlb with rfl | ⟨rfl, hlb⟩
      all_goals
        rcases hlb' with rfl | ⟨rfl, hlb'⟩
        all_goals
          go_wp2_with fail
          go_ret
          exact ⟨rfl, Z6.out.2.2⟩
  · have HFEW := Lib.hid (decide_eq_false hf)
    go_enter Try.func5, Try.ntmps5
    go_wp2_with fail
    refine (head_any _).mono ?_
    rintro e w1 ⟨rfl, hb⟩
    have Z1 := Lib.hid (Z0.out.below hb); clear hb
    obtain ⟨c0, c1⟩ := Z1.out.cells
    go_wp2_with fail
    refine (few_any z A cap _).mono ?_
    rw [HFEW.out]
    rintro e w2 ⟨rfl, hb⟩
    have Z2 := Lib.hid (Z1.out.below hb); clear hb c0 c1
    go_wp2_with fail
    go_ret
    exact ⟨rfl, Z2.out.2.2⟩
end Go.Proofs.Ytmjidplondkomaa
