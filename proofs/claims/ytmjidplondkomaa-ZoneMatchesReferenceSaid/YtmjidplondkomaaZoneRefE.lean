/-
  What the functions good and Instants of package estoppelref03 return.
-/
import Derived.Test.YtmjidplondkomaaZoneRefC
namespace Go.Proofs.Ytmjidplondkomaa.Zn
open Go.RowKit Go.Shelf
set_option linter.unusedVariables false

set_option maxHeartbeats 2000000 in
theorem refGood_any (z : Zone) (A : Option Addr) (cap : Nat) (d m : Int) (w : World) (hlen : z.chs.length ≤ 9223372036854775807) (hrow : ChRow w A z.chs) :
    Calls Try.prog 29 #[.agg #[.int .i64 z.off, .slice A z.chs.length cap], .int .i64 d, .int .i64 m] w fun e w' => e = .returned (.bool (okLocal z d m)) ∧ Below w.heap.size w w' := by
  have HROW := Lib.hid hrow; clear hrow
  have hcase : (∃ b, valid z = b ∧ b = false ∧ Hid (okLocal z d m = false)) ∨ (valid z = true ∧ d < 0 ∧ Hid (okLocal z d m = false)) ∨ (valid z = true ∧ 0 ≤ d ∧ 73048 < d ∧ Hid (okLocal z d m = false)) ∨
      (valid z = true ∧ 0 ≤ d ∧ d ≤ 73048 ∧ m < 0 ∧ Hid (okLocal z d m = false)) ∨ (valid z = true ∧ 0 ≤ d ∧ d ≤ 73048 ∧ 0 ≤ m ∧ 1440 ≤ m ∧ Hid (okLocal z d m = false)) ∨ (valid z = true ∧ 0 ≤ d ∧ d ≤ 73048 ∧ 0 ≤ m ∧ m < 1440 ∧ Hid (okLocal z d m = true)) := by
    cases hv : valid z with
    | false => exact .inl ⟨_, rfl, rfl, by show _ = _; simp [okLocal, hv]⟩
    | true =>
      right
      by_cases h1 : d < 0
      · exact .inl ⟨rfl, h1, by show _ = _; simp [okLocal, show ¬ 0 ≤ d by omega]⟩
      · right
        by_cases h2 : 73048 < d
        · exact .inl ⟨rfl, by omega, h2, by show _ = _; simp [okLocal, show ¬ d ≤ 73048 by omega]⟩
        · right
          by_cases h3 : m < 0
          · exact .inl ⟨rfl, by omega, by omega, h3, by show _ = _; simp [okLocal, show ¬ 0 ≤ m by omega]⟩
          · right
            by_cases h4 : m < 1440
            · exact .inr ⟨rfl, by omega, by omega, by omega, h4, by show _ = _; simp [okLocal, hv, h4]; omega⟩
            · exact .inl ⟨rfl, by omega, by omega, by omega, by omega, by show _ = _; simp [okLocal, h4]⟩
  rcases hcase with ⟨b, hv, rfl, HO⟩ | ⟨hv, h1, HO⟩ | ⟨hv, h1, h2, HO⟩ | ⟨hv, h1, h2, h3, HO⟩ | ⟨hv, h1, h2, h3, h4, HO⟩ | ⟨hv, h1, h2, h3, h4, HO⟩
  all_goals
    rw [HO.out]
    have HV := Lib.hid hv; clear hv
    go_enter Try.func29, Try.ntmps29
    go_wp2_with fail
    refine (refValid_any z A cap _ (by omega) (HROW.out.below (by go_grown))).mono ?_
    rw [HV.out]
    rintro e w1 ⟨rfl, hb1⟩
    have HB1 : Hid (Below w.heap.size w w1) := ((Below.refl _ w).alloc (Nat.le_refl _) _).trans (hb1.mono (by simp))
    clear hb1
    go_wp2_with fail
    go_ret
    first | exact ⟨rfl, HB1.out⟩ | exact ⟨ret_bool (by simp; omega), HB1.out⟩

theorem ZW.grown {w W W' : World} {z : Zone} {A : Option Addr} {cap : Nat} {v : Value} (h : ZW w w.heap.size z A cap W) (hrow : ChRow w A z.chs) (o : Obj) (hg : (W.alloc o).grownBy W' v.ownBlock) (hown : ∀ g, v.ownBlock = some g → w.heap.size + 1 ≤ g) : ZW w w.heap.size z A cap W' := by
  have hlt := lt_of_blk h.1
  have hb : Below w.heap.size w W' := (h.2.2.alloc (by omega) _).grown hg (by simp only [World.size_alloc]; omega) (fun k hk => by have := hown k hk; omega)
  refine ⟨?_, hrow.below hb, hb⟩
  rw [hg.block w.heap.size (by simp only [World.size_alloc]; omega) (fun e => by have := hown _ e.symm; omega)]
  exact blk_alloc h.1 o

theorem at_none (z : Zone) (hv : valid z = true) (j : Nat) (hj : j ≤ z.chs.length) (x : Int) (h : ¬ (0 ≤ x ∧ x ≤ 105190559)) : ¬ (frm z j ≤ x ∧ x < tto z j) := by
  intro hh
  have := (show At z j x from ⟨hj, hh.1, hh.2⟩).range hv
  omega
theorem at_other (z : Zone) (hv : valid z = true) (j k : Nat) (hj : j ≤ z.chs.length) (x : Int) (h : At z k x) (hne : k ≠ j) : ¬ (frm z j ≤ x ∧ x < tto z j) := by
  intro hh
  exact hne (at_one hv h ⟨hj, hh.1, hh.2⟩)

set_option maxHeartbeats 4000000 in
theorem refInstants_any (z : Zone) (A : Option Addr) (cap : Nat) (d m : Int) (w : World) (hlen : z.chs.length ≤ 9223372036854775807) (hrow : ChRow w A z.chs) :
    Calls Try.prog 21 #[.agg #[.int .i64 z.off, .slice A z.chs.length cap], .int .i64 d, .int .i64 m] w fun e w' =>
      (∃ B c, e = .returned (.slice B (instOf z d m).length c) ∧ w'.ownsRow w.heap.size 3 1 (.slice B (instOf z d m).length c) (instOf z d m).length ((instOf z d m).map (Value.int .i64))) ∧ Below w.heap.size w w' := by
  have Z0 := Lib.hid (ZW.start w z A cap hrow)
  have HROW := Lib.hid hrow; clear hrow
  cases hok : okLocal z d m with
  | false =>
    have e : instOf z d m = [] := by unfold instOf; rw [if_neg (by rw [hok]; simp)]
    rw [e]
    have HOK := Lib.hid hok; clear hok e
    go_enter Try.func21, Try.ntmps21
    go_wp2_with fail
    refine (refGood_any z A cap d m _ (by omega) Z0.out.2.1).mono ?_
    rw [HOK.out]
    rintro e w1 ⟨rfl, hb1⟩
    have Z1 := Lib.hid (Z0.out.below hb1); clear hb1
    go_wp2_with fail
    go_ret
    exact ⟨⟨none, 0, rfl, World.ownsRow_nil _ _ _ _⟩, Z1.out.2.2⟩
  | true =>
    obtain ⟨hv, h0, h1, h2, h3⟩ := okLocal_parts z d m hok
    have hl := (valid_parts z hv).1
    have HV := Lib.hid hv; clear hv
    have e : instOf z d m = instTo z (d * 1440 + m) (cnt z) := by unfold instOf; rw [if_pos hok]
    rw [e]
    have HOK := Lib.hid hok; clear hok e
    obtain ⟨i0, hi, hz0, hz1, hz2⟩ := info_parts info_int
    go_enter Try.func21, Try.ntmps21
    go_wp2_with fail
    refine (refGood_any z A cap d m _ (by omega) Z0.out.2.1).mono ?_
    rw [HOK.out]
    rintro e w1 ⟨rfl, hb1⟩
    have Z1 := Lib.hid (Z0.out.below hb1); clear hb1
    go_wp2_with fail
    go_loopw [7, 8] (fun v i wr => ∃ (j : Nat), i = .int .i64 j ∧ j ≤ z.chs.length + 1 ∧ Hid (ZW w w.heap.size z A cap wr) ∧ Hid (wr.ownsRow (w.heap.size + 1) 3 1 v (instTo z (d * 1440 + m) j).length ((instTo z (d * 1440 + m) j).map (Value.int .i64)))) (fun _ i _ => z.chs.length + 1 - (intOf i).toNat)
    case atStart => exact ⟨0, rfl, by omega, Z1, World.ownsRow_nil _ _ _ _⟩
    case round =>
      obtain ⟨j, rfl, hj, HZ, HO⟩ := hrel
      obtain ⟨B, c, rfl⟩ := own_form HO.out
      obtain ⟨z0, z1⟩ := HZ.out.cells
      have hll := instTo_len z (d * 1440 + m) j
      by_cases hlt : j ≤ z.chs.length
      · have hob := ofs_bd z HV.out j
        have hst : instTo z (d * 1440 + m) (j + 1) = instTo z (d * 1440 + m) j ++ (if frm z j ≤ d * 1440 + m - ofs z j ∧ d * 1440 + m - ofs z j < tto z j then [d * 1440 + m - ofs z j] else []) := rfl
        have HOF : Hid (∀ W, ChRow W A z.chs → Calls Try.prog 24 #[.agg #[.int .i64 z.off, .slice A z.chs.length cap], .int .i64 j] W fun e w' => e = .returned (.int .i64 (ofs z j)) ∧ Below W.heap.size W w') := fun W h => refOffset_any z A cap j W (by omega) hlt h
        obtain ⟨X, hX⟩ : ∃ X, d * 1440 + m - ofs z j = X := ⟨_, rfl⟩
        rw [hX] at hst
        generalize hofj : ofs z j = O at *
        clear hofj
        have HX := Lib.hid hX
        have hcase : (X < 0 ∧ Hid (instTo z (d * 1440 + m) (j + 1) = instTo z (d * 1440 + m) j)) ∨ (0 ≤ X ∧ 105190559 < X ∧ Hid (instTo z (d * 1440 + m) (j + 1) = instTo z (d * 1440 + m) j)) ∨
            (0 ≤ X ∧ X ≤ 105190559 ∧ ∃ k, Hid (At z k X) ∧ ((k ≠ j ∧ Hid (instTo z (d * 1440 + m) (j + 1) = instTo z (d * 1440 + m) j)) ∨ (k = j ∧ Hid (instTo z (d * 1440 + m) (j + 1) = instTo z (d * 1440 + m) j ++ [X])))) := by
          rcases Int.lt_or_le X 0 with g | g
          · exact .inl ⟨g, by show _ = _; rw [hst, if_neg (at_none z HV.out j hlt X (by omega)), List.append_nil]⟩
          · rcases Int.lt_or_le 105190559 X with g2 | g2
            · exact .inr (.inl ⟨g, g2, by show _ = _; rw [hst, if_neg (at_none z HV.out j hlt X (by omega)), List.append_nil]⟩)
            · obtain ⟨k, hk, _⟩ := at_loc z X g (by omega)
              refine .inr (.inr ⟨g, g2, k, hk, ?_⟩)
              by_cases hkj : k = j
              · exact .inr ⟨hkj, by show _ = _; rw [hst, if_pos (by rw [← hkj]; exact hk.2)]⟩
              · exact .inl ⟨hkj, by show _ = _; rw [hst, if_neg (at_other z HV.out j k hlt X hk hkj), List.append_nil]⟩
        clear hst hX
        rcases hcase with ⟨g, HST⟩ | ⟨g, g2, HST⟩ | ⟨g, g2, k, HK, ⟨hkj, HST⟩ | ⟨hkj, HST⟩⟩
        · go_wp2_with fail
          refine (HOF.out _ HZ.out.2.1).mono ?_
          rintro e w2 ⟨rfl, hb2⟩
          have Z2 := Lib.hid (HZ.out.below hb2)
          have HO2 := Lib.hid (own_keep HO.out hb2); clear hb2
          have hXw : d * 1440 + m - O = X := HX.out
          go_wp2_with fail
          go_roundw
          case rel => exact ⟨j + 1, by go_num, by omega, Z2, by rw [HST.out]; exact HO2.out⟩
          case measure => simp [intOf]; omega
        · go_wp2_with fail
          refine (HOF.out _ HZ.out.2.1).mono ?_
          rintro e w2 ⟨rfl, hb2⟩
          have Z2 := Lib.hid (HZ.out.below hb2)
          have HO2 := Lib.hid (own_keep HO.out hb2); clear hb2
          have hXw : d * 1440 + m - O = X := HX.out
          go_wp2_with fail
          go_roundw
          case rel => exact ⟨j + 1, by go_num, by omega, Z2, by rw [HST.out]; exact HO2.out⟩
          case measure => simp [intOf]; omega
        · go_wp2_with fail
          refine (HOF.out _ HZ.out.2.1).mono ?_
          rintro e w2 ⟨rfl, hb2⟩
          have Z2 := Lib.hid (HZ.out.below hb2)
          have HO2 := Lib.hid (own_keep HO.out hb2); clear hb2
          obtain ⟨x0, x1⟩ := Z2.out.cells
          have hXw : d * 1440 + m - O = X := HX.out
          go_wp2_with fail
          refine (refSegment_any z A cap X k _ HV.out HK.out Z2.out.2.1).mono ?_
          rintro e w3 ⟨rfl, hb3⟩
          have Z3 := Lib.hid (Z2.out.below hb3)
          have HO3 := Lib.hid (own_keep HO2.out hb3); clear hb3 hXw x0 x1
          have hkb : ((k : Int) == (j : Int)) = false := beq_eq_false_iff_ne.2 (by omega)
          go_wp2_with fail
          go_roundw
          case rel => exact ⟨j + 1, by go_num, by omega, Z3, by rw [HST.out]; exact HO3.out⟩
          case measure => simp [intOf]; omega
        · subst hkj
          go_wp2_with fail
          refine (HOF.out _ HZ.out.2.1).mono ?_
          rintro e w2 ⟨rfl, hb2⟩
          have Z2 := Lib.hid (HZ.out.below hb2)
          have HO2 := Lib.hid (own_keep HO.out hb2); clear hb2
          obtain ⟨x0, x1⟩ := Z2.out.cells
          have hXw : d * 1440 + m - O = X := HX.out
          go_wp2_with fail
          refine (refSegment_any z A cap X k _ HV.out HK.out Z2.out.2.1).mono ?_
          rintro e w3 ⟨rfl, hb3⟩
          have Z3 := Lib.hid (Z2.out.below hb3)
          have HO3 := Lib.hid (own_keep HO2.out hb3); clear hb3 hXw x0 x1
          have hkb : ((k : Int) == (k : Int)) = true := beq_self_eq_true _
          have hs3 := lt_of_blk Z3.out.1
          go_wp2_with (at_builtin; refine wpList_append_own_at _ rfl _ _ 33 rfl (w.heap.size + 1) 3 i0 _ 1 8 Try.underlying33 hi hz0 hz1 hz2 rfl (by decide) _ _ _ rfl (own_keep HO3.out ((Below.refl _ _).alloc (Nat.le_refl _) _)) ⟨w3.heap.size, 0, none⟩ 1 1 [.int .i64 X] rfl rfl ?c1 ?c2 ?c3 ?c4 ?c5 ?_)
          case c1 => exact cells_new1 _ _ _ _ rfl
          case c2 => intro u hu; simp at hu; subst hu; rfl
          case c3 => simp only [maxLen]; omega
          case c4 => omega
          case c5 => simp only [World.size_alloc]; omega
          intro v4 w4 hown4 hg4 hnil4 hat4
          have Z4 := Lib.hid (Z3.out.grown HROW.out _ hg4 (fun g hg => (own_type HO3.out hg).1))
          have HO4 : Hid (w4.ownsRow (w.heap.size + 1) 3 1 v4 (instTo z (d * 1440 + m) (k + 1)).length ((instTo z (d * 1440 + m) (k + 1)).map (Value.int .i64))) := by
            rw [HST.out, List.length_append, List.map_append]; exact hown4
          clear hown4 hg4 hnil4 hat4
          go_wp2_with fail
          go_roundw
          case rel => exact ⟨k + 1, by go_num, by omega, Z4, HO4⟩
          case measure => simp [intOf]; omega
      · have hjn : j = cnt z := by unfold cnt; omega
        have HJ := Lib.hid hjn; clear hjn
        go_wp2_with fail
        go_ret
        refine ⟨⟨B, c, ?_, ?_⟩, HZ.out.2.2⟩
        · rw [← HJ.out]; rfl
        · rw [← HJ.out]; exact own_base HO.out (by omega)
end Go.Proofs.Ytmjidplondkomaa.Zn
