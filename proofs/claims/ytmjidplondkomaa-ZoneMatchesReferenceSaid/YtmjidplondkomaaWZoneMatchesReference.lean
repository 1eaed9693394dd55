/-
  The walk of the statement ZoneMatchesReference: it returns true for every zone, instant and local time.
-/
import Derived.Test.YtmjidplondkomaaZoneRefD
import Derived.Test.YtmjidplondkomaaZoneRefF
import Derived.Deep.RegionHeld3
import Derived.Deep.DrawnRows
namespace Go.Proofs.Ytmjidplondkomaa
open Go.RowKit Zn
set_option linter.unusedVariables false
namespace Zn
theorem zs_mk {w W : World} {b : Nat} {z : Zone} {A : Option Addr} {cap : Nat} (h : Hid (ZW w b z A cap W)) : Hid (ZW w b z A cap W) ∧ W.cell? ⟨b, 0, none⟩ = some (.int .i64 z.off) ∧ W.cell? ⟨b, 1, none⟩ = some (.slice A z.chs.length cap) :=
  ⟨h, h.out.cells.1, h.out.cells.2⟩
theorem zs_drew {w W : World} {b : Nat} {z : Zone} {A : Option Addr} {cap : Nat} (h : Hid (ZW w b z A cap W)) : Hid (ZW w b z A cap W.drew) ∧ W.drew.cell? ⟨b, 0, none⟩ = some (.int .i64 z.off) ∧ W.drew.cell? ⟨b, 1, none⟩ = some (.slice A z.chs.length cap) :=
  zs_mk (h.out.drewN 1)
theorem valid_zw {w W : World} {b : Nat} {z : Zone} {A : Option Addr} {cap : Nat} (hlen : z.chs.length ≤ 9223372036854775807) (h : Hid (ZW w b z A cap W)) :
    Calls Try.prog 17 #[.agg #[.int .i64 z.off, .slice A z.chs.length cap]] W fun e w' => e = .returned (.bool (valid z)) ∧ Hid (ZW w b z A cap w') :=
  (valid_any z A cap W hlen h.out.2.1).mono fun e w' ⟨he, hb⟩ => ⟨he, h.out.below hb⟩
theorem refValid_zw {w W : World} {b : Nat} {z : Zone} {A : Option Addr} {cap : Nat} (hlen : z.chs.length ≤ 9223372036854775807) (h : Hid (ZW w b z A cap W)) :
    Calls Try.prog 18 #[.agg #[.int .i64 z.off, .slice A z.chs.length cap]] W fun e w' => e = .returned (.bool (valid z)) ∧ Hid (ZW w b z A cap w') :=
  (refValid_any z A cap W hlen h.out.2.1).mono fun e w' ⟨he, hb⟩ => ⟨he, h.out.below hb⟩
theorem instants_zw {w W : World} {b : Nat} {z : Zone} {A : Option Addr} {cap : Nat} (d m : Int) (hlen : z.chs.length ≤ 9223372036854775807) (h : Hid (ZW w b z A cap W)) :
    Calls Try.prog 20 #[.agg #[.int .i64 z.off, .slice A z.chs.length cap], .int .i64 d, .int .i64 m] W fun e w' => (∃ B c, e = .returned (.slice B (instOf z d m).length c) ∧ Hid (IRow w' B (instOf z d m))) ∧ Hid (ZW w b z A cap w') ∧ Hid (Below W.heap.size W w') :=
  (instants_any z A cap d m W hlen h.out.2.1).mono fun e w' ⟨⟨B, c, he, ho⟩, hb⟩ => ⟨⟨B, c, he, iRow_of_own ho⟩, h.out.below hb, hb⟩
theorem refInstants_zw {w W : World} {b : Nat} {z : Zone} {A : Option Addr} {cap : Nat} (d m : Int) (hlen : z.chs.length ≤ 9223372036854775807) (h : Hid (ZW w b z A cap W)) :
    Calls Try.prog 21 #[.agg #[.int .i64 z.off, .slice A z.chs.length cap], .int .i64 d, .int .i64 m] W fun e w' => (∃ B c, e = .returned (.slice B (instOf z d m).length c) ∧ Hid (IRow w' B (instOf z d m))) ∧ Hid (ZW w b z A cap w') ∧ Hid (Below W.heap.size W w') :=
  (refInstants_any z A cap d m W hlen h.out.2.1).mono fun e w' ⟨⟨B, c, he, ho⟩, hb⟩ => ⟨⟨B, c, he, iRow_of_own ho⟩, h.out.below hb, hb⟩
theorem ints_zw {w W : World} {b : Nat} {z : Zone} {A : Option Addr} {cap : Nat} (l : List Int) (B C : Option Addr) (cb cc : Nat) (hl : l.length ≤ 1000000) (h : Hid (ZW w b z A cap W)) (hB : IRow W B l) (hC : IRow W C l) :
    Calls Try.prog 19 #[.slice B l.length cb, .slice C l.length cc] W fun e w' => e = .returned (.bool true) ∧ Hid (ZW w b z A cap w') :=
  (ints_true l B C cb cc W hl hB hC).mono fun e w' ⟨he, m, hm⟩ => ⟨he, by subst hm; exact h.out.drewN m⟩
theorem instOf_len (z : Zone) (d m : Int) : (instOf z d m).length ≤ 1000000 := by
  unfold instOf
  split
  · rename_i h
    have := instTo_len z (d * 1440 + m) (cnt z)
    have := (valid_parts z (okLocal_parts z d m h).1).1
    unfold cnt at *
    omega
  · simp
end Zn
set_option maxRecDepth 100000 in
set_option maxHeartbeats 8000000 in
theorem walk_ZoneMatchesReference (z : Zone) (A : Option Addr) (cap : Nat) (hm : z.chs.length ≤ maxLen) (hwf : (Lit.int .i64 z.off).wf = true ∧ ∀ i (h : i < z.chs.length), (Lit.int .i64 z.chs[i].1).wf = true ∧ (Lit.int .i64 z.chs[i].2).wf = true) (t : Int) (ht : (Lit.int .i64 t).wf = true) (d : Int) (hd : (Lit.int .i64 d).wf = true) (m : Int) (hmi : (Lit.int .i64 m).wf = true) (later : Bool) (w : World) (hrow : ChRow w A z.chs) :
    Calls Try.prog 3 #[.agg #[.int .i64 z.off, .slice A z.chs.length cap], .int .i64 t, .int .i64 d, .int .i64 m, .bool later] w fun e w' => e = .returned (.bool true) ∧ Below w.heap.size w w' := by
  unfold maxLen at hm
  clear hwf ht hd hmi
  have Z0 := Lib.hid (ZW.start w z A cap hrow); clear hrow
  by_cases hf : z.chs.length ≤ 100
  · have HFEW := Lib.hid (decide_eq_true hf)
    go_enter Try.func3, Try.ntmps3
    go_wp2_with fail
    refine (head_any _).mono ?_
    rintro e w1 ⟨rfl, hb⟩
    have Z1 := Lib.hid (Z0.out.below hb); clear hb
    obtain ⟨c0, c1⟩ := Z1.out.cells
    go_wp2_with fail
    refine (few_any z A cap _).mono ?_
    rw [HFEW.out]
    rintro e w2 ⟨rfl, hb⟩
    have Z2 := Lib.hid (Z1.out.below hb); clear hb c0 c1
    obtain ⟨c0, c1⟩ := Z2.out.cells
    go_wp2_with fail
    refine (local_any z A cap t _ (by omega) Z2.out.2.1).mono ?_
    generalize hL : localOf z t = L
    obtain ⟨l1, l2, l3⟩ := L
    have HL := Lib.hid hL; clear hL
    rintro e w3 ⟨rfl, hb⟩
    have Z3 := Lib.hid (Z2.out.below hb); clear hb c0 c1
    obtain ⟨c0, c1⟩ := Z3.out.cells
    go_wp2_with fail
    refine (refLocal_any z A cap t _ (by omega) Z3.out.2.1).mono ?_
    rw [HL.out]
    rintro e w4 ⟨rfl, hb⟩
    have Z4 := Lib.hid (Z3.out.below hb); clear hb c0 c1
    obtain ⟨c0, c1⟩ := Z4.out.cells
    go_wp2_with fail
    refine (instant_any z A cap d m later _ (by omega) Z4.out.2.1).mono ?_
    generalize hI : instantOf z d m later = I
    obtain ⟨i1, i2⟩ := I
    have HI := Lib.hid hI; clear hI
    rintro e w5 ⟨rfl, hb⟩
    have Z5 := Lib.hid (Z4.out.below hb); clear hb c0 c1
    obtain ⟨c0, c1⟩ := Z5.out.cells
    go_wp2_with fail
    refine (refInstant_any z A cap d m later _ (by omega) Z5.out.2.1).mono ?_
    rw [HI.out]
    rintro e w6 ⟨rfl, hb⟩
    have Z6 := Lib.hid (Z5.out.below hb); clear hb c0 c1
    obtain ⟨c0, c1⟩ := Z6.out.cells
    go_wp2_with fail
    refine (span_any z A cap d _ (by omega) Z6.out.2.1).mono ?_
    generalize hS : spanOf z d = S
    obtain ⟨s1, s2, s3⟩ := S
    have HS := Lib.hid hS; clear hS
    rintro e w7 ⟨rfl, hb⟩
    have Z7 := Lib.hid (Z6.out.below hb); clear hb c0 c1
    obtain ⟨c0, c1⟩ := Z7.out.cells
    go_wp2_with fail
    refine (refSpan_any z A cap d _ (by omega) Z7.out.2.1).mono ?_
    rw [HS.out]
    rintro e w8 ⟨rfl, hb⟩
    have Z8 := Lib.hid (Z7.out.below hb); clear hb c0 c1
    obtain ⟨c0, c1⟩ := Z8.out.cells
    go_wp2_with fail
    clear Z0 Z1 Z2 Z3 Z4 Z5 Z6 Z7
    have hb1 : (l1 == l1) = true := beq_self_eq_true _
    have hb2 : (l2 == l2) = true := beq_self_eq_true _
    have hb3 : (l3 == l3) = true := beq_self_eq_true _
    have hb4 : (i1 == i1) = true := beq_self_eq_true _
    have hb5 : (i2 == i2) = true := beq_self_eq_true _
    have hb6 : (s1 == s1) = true := beq_self_eq_true _
    have hb7 : (s2 == s2) = true := beq_self_eq_true _
    have hb8 : (s3 == s3) = true := beq_self_eq_true _
    have hb9 : (valid z == valid z) = true := beq_self_eq_true _
    go_region_held3 (fun w' => Hid (ZW w w.heap.size z A cap w') ∧ w'.cell? ⟨w.heap.size, 0, none⟩ = some (.int .i64 z.off) ∧ w'.cell? ⟨w.heap.size, 1, none⟩ = some (.slice A z.chs.length cap)) (first | exact zs_mk (by assumption) | exact zs_drew (by assumption))
      (first | (go_at_call 17; refine (valid_zw (w := w) (b := w.heap.size) (by omega) ?_).mono ?_; (first | assumption | exact (zs_drew (by assumption)).1); rintro e wv ⟨rfl, ZV⟩) | (go_at_call 18; refine (refValid_zw (w := w) (b := w.heap.size) (by omega) ?_).mono ?_; (first | assumption | exact (zs_drew (by assumption)).1); rintro e wr ⟨rfl, ZR⟩))
    all_goals
      clear Z8 ZV
      have c2 := ZR.out.cells.1
      have c3 := ZR.out.cells.2
      go_wp2_with fail
      go_region_held3 (fun w' => Hid (ZW w w.heap.size z A cap w') ∧ w'.cell? ⟨w.heap.size, 0, none⟩ = some (.int .i64 z.off) ∧ w'.cell? ⟨w.heap.size, 1, none⟩ = some (.slice A z.chs.length cap)) (first | exact zs_mk (by assumption) | exact zs_drew (by assumption))
        (first | (go_at_call 20; refine (instants_zw (w := w) (b := w.heap.size) d m (by omega) ?_).mono ?_; (first | assumption | exact (zs_drew (by assumption)).1); rintro e wi ⟨⟨BI, cI, rfl, RI⟩, ZI, bI⟩) | (go_at_call 21; refine (refInstants_zw (w := w) (b := w.heap.size) d m (by omega) ?_).mono ?_; (first | assumption | exact (zs_drew (by assumption)).1); rintro e wj ⟨⟨BJ, cJ, rfl, RJ⟩, ZJ, bJ⟩) | (go_at_call 19; refine (ints_zw (w := w) (b := w.heap.size) (instOf z d m) BI BJ cI cJ (instOf_len z d m) ZJ (RI.out.below bJ.out) RJ.out).mono ?_; rintro e wk ⟨rfl, ZK⟩))
      all_goals
        go_wp2_with fail
        go_ret
        exact ⟨rfl, ZK.out.2.2⟩
  · have HFEW := Lib.hid (decide_eq_false hf)
    go_enter Try.func3, Try.ntmps3
    go_wp2_with fail
    refine (head_any _).mono ?_
    rintro e w1 ⟨rfl, hb⟩
    have Z1 := Lib.hid (Z0.out.below hb); clear hb
    obtain ⟨c0, c1⟩ := Z1.out.cells
    go_wp2_with fail
    refine (few_any z A cap _).mono ?_
    rw [HFEW.out]
    rintro e w2 ⟨rfl, hb⟩
    have Z2 := Lib.hid (Z1.out.below hb); clear hb c0 c1
    go_wp2_with fail
    go_ret
    exact ⟨rfl, Z2.out.2.2⟩
end Go.Proofs.Ytmjidplondkomaa
