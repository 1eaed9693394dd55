/-
  What the functions change, Instant and Span of package zone return.
-/
import Derived.Test.YtmjidplondkomaaZoneInst3
namespace Go.Proofs.Ytmjidplondkomaa.Zn
open Go.RowKit Go.Shelf
set_option linter.unusedVariables false

/-- An optional number as Go's pair. -/
def pairOf : Option Int → Int × Bool
  | some a => (a, true)
  | none => (0, false)

set_option maxHeartbeats 4000000 in
theorem change_any (z : Zone) (A : Option Addr) (cap : Nat) (L : Int) (b : Nat) (w : World) (hv : valid z = true) (hlen : z.chs.length ≤ 40) (hrow : ChRow w A z.chs) (hc : w.cell? ⟨b, 0, none⟩ = some (.int .i64 L)) (hbl : b < w.heap.size) :
    Calls Try.prog 27 #[.agg #[.int .i64 z.off, .slice A z.chs.length cap], .func (.func 28) #[] #[.pointer (some ⟨b, 0, none⟩)]] w fun e w' =>
      e = .returned (.tuple #[.int .i64 (pairOf (gapAt z L z.chs.length 0)).1, .bool (pairOf (gapAt z L z.chs.length 0)).2]) ∧ Below w.heap.size w w' := by
  have hF := enters_inst1
  have HROW := Lib.hid hrow; clear hrow
  have HV := Lib.hid hv; clear hv
  obtain ⟨G, hG⟩ : ∃ G, gapAt z L z.chs.length 0 = G := ⟨_, rfl⟩
  rw [hG]
  have HG := Lib.hid hG; clear hG
  have HCL := Lib.hid hc; clear hc
  go_enter Try.func27, Try.ntmps27
  go_wp2_with fail
  go_loopw [6, 14] (fun bf i wr => ∃ (j : Nat), i = .int .i64 j ∧ bf = .int .i64 (ofs z j) ∧ j ≤ z.chs.length ∧ Hid (gapAt z L (z.chs.length - j) j = G) ∧ Hid (ChRow wr A z.chs) ∧ Hid (Below w.heap.size w wr)) (fun _ i _ => z.chs.length - (intOf i).toNat)
  case atStart =>
    have hb : Below w.heap.size w (w.alloc (.cells #[.int .i64 z.off, .slice A z.chs.length cap] 24)) := (Below.refl _ _).alloc (Nat.le_refl _) _
    exact ⟨0, rfl, rfl, by omega, HG, HROW.out.below hb, hb⟩
  case round =>
    obtain ⟨j, rfl, rfl, hj, HK, HC, HB⟩ := hrel
    have hob := ofs_bd z HV.out j
    by_cases hlt : j < z.chs.length
    · obtain ⟨g, o, hA, hg, hcc⟩ := HC.out (by omega)
      subst hA
      obtain ⟨c0, c1⟩ := hcc j hlt
      have hob1 := ofs_bd z HV.out (j + 1)
      have htb := tto_bd z HV.out j hlt
      rw [← tto_lt z j hlt] at c0
      rw [← ofs_succ z j hlt] at c1
      have hgs := HK.out
      rw [gapAt_step z L j hlt] at hgs
      have HGS := Lib.hid hgs; clear hgs hcc
      have hbs := HB.out.size
      have hcl : ∀ ob, (wr.alloc ob).cell? ⟨b, 0, none⟩ = some (.int .i64 L) := fun ob => (World.cell?_alloc_lt wr ob ⟨b, 0, none⟩ (by show b < _; omega)).trans ((HB.out.cell (p := ⟨b, 0, none⟩) hbl).trans HCL.out)
      have HCL2 := Lib.hid hcl; clear hcl
      generalize htt : tto z j = a at *
      generalize hos : ofs z (j + 1) = o2 at *
      generalize hbf : ofs z j = bf at *
      have HOS := Lib.hid hos; clear htt hos hbf
      by_cases hyes : a + bf ≤ L ∧ L < a + o2
      · have HD := Lib.hid (decide_eq_true hyes)
        have HRES : Hid (some a = G) := by have := HGS.out; rw [if_pos hyes] at this; exact this
        clear hyes
        go_wp2_with fail
        refine (inst1_any a o2 bf L b _ (HCL2.out _) (by simp only [World.size_alloc]; omega) (by omega) (by omega) (by omega) (by omega) (by omega) (by omega)).mono ?_
        rw [HD.out]
        rintro e w2 ⟨rfl, hb2⟩
        have hcb : w2.heap[wr.heap.size]? = some (.cells #[.int .i64 a, .int .i64 o2] 46 (0, 0)) := (hb2.block _ (by simp)).trans (heap_alloc_new wr _)
        have q0 : w2.cell? ⟨wr.heap.size, 0, none⟩ = some (.int .i64 a) := cell_of_blk hcb 0
        have HB2 : Hid (Below w.heap.size w w2) := (HB.out.alloc hbs _).trans (hb2.mono (by simp only [World.size_alloc]; omega))
        clear hb2 hcb
        go_wp2_with fail
        go_ret2
        refine ⟨?_, HB2.out⟩
        rw [← HRES.out]
        rfl
      · have HD := Lib.hid (decide_eq_false hyes)
        have HRES : Hid (gapAt z L (z.chs.length - (j + 1)) (j + 1) = G) := by have := HGS.out; rw [if_neg hyes] at this; exact this
        clear hyes
        go_wp2_with fail
        refine (inst1_any a o2 bf L b _ (HCL2.out _) (by simp only [World.size_alloc]; omega) (by omega) (by omega) (by omega) (by omega) (by omega) (by omega)).mono ?_
        rw [HD.out]
        rintro e w2 ⟨rfl, hb2⟩
        have hcb : w2.heap[wr.heap.size]? = some (.cells #[.int .i64 a, .int .i64 o2] 46 (0, 0)) := (hb2.block _ (by simp)).trans (heap_alloc_new wr _)
        have q1 : w2.cell? ⟨wr.heap.size, 1, none⟩ = some (.int .i64 o2) := cell_of_blk hcb 1
        have HB2 : Hid (Below w.heap.size w w2) := (HB.out.alloc hbs _).trans (hb2.mono (by simp only [World.size_alloc]; omega))
        have HC2 : Hid (ChRow w2 (some ⟨g, o, none⟩) z.chs) := HC.out.below (((Below.refl _ wr).alloc (Nat.le_refl _) _).trans (hb2.mono (by simp only [World.size_alloc]; omega)))
        clear hb2 hcb
        go_wp2_with fail
        go_roundw
        case rel => exact ⟨j + 1, by go_num, by rw [HOS.out], by omega, HRES, HC2, HB2⟩
        case measure => simp [intOf]; omega
    · have HRES : Hid (none = G) := by
        have := HK.out
        rw [show z.chs.length - j = 0 by omega] at this
        exact this
      go_wp2_with fail
      go_ret2
      refine ⟨?_, HB.out⟩
      rw [← HRES.out]
      rfl

/-- The instant that stands for a local time, and the error. -/
def instantOf (z : Zone) (d m : Int) (later : Bool) : Int × Int :=
  if okLocal z d m = true then
    (if (instOf z d m) = [] then (match gapAt z (d * 1440 + m) z.chs.length 0 with | some a => (a, 0) | none => (0, 2))
     else (if later then (instOf z d m).getD ((instOf z d m).length - 1) 0 else (instOf z d m).getD 0 0, 0))
  else (0, 1)
theorem own_cell1 {w : World} {base : Nat} {B : Option Addr} {n c : Nat} {l : List Int} (h : w.ownsRow base 3 1 (.slice B n c) l.length (l.map (Value.int .i64))) (i : Nat) (hi : i < l.length) :
    ∃ g, B = some ⟨g, 0, none⟩ ∧ w.cell? ⟨g, i, none⟩ = some (.int .i64 (l.getD i 0)) := by
  rcases h.2 with ⟨_, h0⟩ | ⟨g, cap', cur, hv, hg, hh, hn, hm, hsz, ht⟩
  · omega
  · injection hv with hA _ _
    refine ⟨g, hA, ?_⟩
    rw [cell_of_blk hh i]
    have h2 : (cur.toList.take (l.length * 1))[i]? = (l.map (Value.int .i64))[i]? := by rw [ht]
    rw [List.getElem?_take, if_pos (by omega), List.getElem?_map, List.getElem?_eq_getElem hi] at h2
    simp only [Array.getElem?_toList] at h2
    rw [h2]
    simp [List.getD, List.getElem?_eq_getElem hi]

set_option maxHeartbeats 4000000 in
theorem instant_any (z : Zone) (A : Option Addr) (cap : Nat) (d m : Int) (later : Bool) (w : World) (hlen : z.chs.length ≤ 9223372036854775807) (hrow : ChRow w A z.chs) :
    Calls Try.prog 13 #[.agg #[.int .i64 z.off, .slice A z.chs.length cap], .int .i64 d, .int .i64 m, .bool later] w fun e w' =>
      e = .returned (.tuple #[.int .i64 (instantOf z d m later).1, .int .i64 (instantOf z d m later).2]) ∧ Below w.heap.size w w' := by
  have HROW := Lib.hid hrow; clear hrow
  have hmf := mkFunc
  have hbz0 : Below w.heap.size w (w.alloc (.cells #[.int .i64 z.off, .slice A z.chs.length cap] 24)) := (Below.refl _ _).alloc (Nat.le_refl _) _
  have HBZ0 := Lib.hid hbz0; clear hbz0
  cases hok : okLocal z d m with
  | false =>
    have e : instantOf z d m later = (0, 1) := by unfold instantOf; rw [if_neg (by rw [hok]; simp)]
    rw [e]
    have HOK := Lib.hid hok; clear hok e
    go_enter Try.func13, Try.ntmps13
    go_wp2_with fail
    refine (isLocal_any z A cap d m _ (by omega) (HROW.out.below HBZ0.out)).mono ?_
    rw [HOK.out]
    rintro e w1 ⟨rfl, hb1⟩
    have HB1 : Hid (Below w.heap.size w w1) := HBZ0.out.trans (hb1.mono (by simp only [World.size_alloc]; omega))
    clear hb1
    go_wp2_with fail
    go_ret2
    exact ⟨rfl, HB1.out⟩
  | true =>
    obtain ⟨hv, h0, h1, h2, h3⟩ := okLocal_parts z d m hok
    have hlen40 := (valid_parts z hv).1
    have HV := Lib.hid hv; clear hv
    have hlil : (instOf z d m).length ≤ 41 := by unfold instOf; rw [if_pos hok]; have := instTo_len z (d * 1440 + m) (cnt z); unfold cnt at this ⊢; omega
    have HOK := Lib.hid hok; clear hok
    by_cases hnil : instOf z d m = []
    · obtain ⟨x, er, b, e, hpg, hbe⟩ : ∃ (x er : Int) (b : Bool), instantOf z d m later = (x, er) ∧ pairOf (gapAt z (d * 1440 + m) z.chs.length 0) = (x, b) ∧ ((b = true ∧ er = 0) ∨ (b = false ∧ er = 2 ∧ x = 0)) := by
        cases hg : gapAt z (d * 1440 + m) z.chs.length 0 with
        | none => exact ⟨0, 2, false, by unfold instantOf; rw [if_pos HOK.out, if_pos hnil, hg], rfl, .inr ⟨rfl, rfl, rfl⟩⟩
        | some a => exact ⟨a, 0, true, by unfold instantOf; rw [if_pos HOK.out, if_pos hnil, hg], rfl, .inl ⟨rfl, rfl⟩⟩
      rw [e]
      clear e
      have HPG := Lib.hid hpg; clear hpg
      have HBE := Lib.hid hbe; clear hbe
      have HN := Lib.hid hnil; clear hnil
      go_enter Try.func13, Try.ntmps13
      go_wp2_with fail
      refine (isLocal_any z A cap d m _ (by omega) (HROW.out.below HBZ0.out)).mono ?_
      rw [HOK.out]
      rintro e w1 ⟨rfl, hb1⟩
      have hz1 : w1.heap[w.heap.size]? = some (.cells #[.int .i64 z.off, .slice A z.chs.length cap] 24 (0, 0)) := (hb1.block _ (by simp)).trans (heap_alloc_new w _)
      have HB1 : Hid (Below w.heap.size w w1) := HBZ0.out.trans (hb1.mono (by simp only [World.size_alloc]; omega))
      have HZ1 := Lib.hid hz1
      have c0 : w1.cell? ⟨w.heap.size, 0, none⟩ = some (.int .i64 z.off) := cell_of_blk hz1 0
      have c1 : w1.cell? ⟨w.heap.size, 1, none⟩ = some (.slice A z.chs.length cap) := cell_of_blk hz1 1
      clear hb1 hz1
      go_wp2_with fail
      refine (instants_any z A cap d m _ (by omega) (HROW.out.below HB1.out)).mono ?_
      rw [HN.out]
      rintro e w2 ⟨⟨B, c, rfl, ho⟩, hb2⟩
      have hz2 : w2.heap[w.heap.size]? = some (.cells #[.int .i64 z.off, .slice A z.chs.length cap] 24 (0, 0)) := (hb2.block _ (lt_of_blk HZ1.out)).trans HZ1.out
      have HB2 : Hid (Below w.heap.size w w2) := HB1.out.trans (hb2.mono HB1.out.size)
      have HZ2 := Lib.hid hz2
      have d0 : ∀ ob, (w2.alloc ob).cell? ⟨w.heap.size, 0, none⟩ = some (.int .i64 z.off) := fun ob => cell_of_blk (blk_alloc HZ2.out ob) 0
      have d1 : ∀ ob, (w2.alloc ob).cell? ⟨w.heap.size, 1, none⟩ = some (.slice A z.chs.length cap) := fun ob => cell_of_blk (blk_alloc HZ2.out ob) 1
      clear hb2 hz2 ho c0 c1
      go_wp2_with fail
      refine (change_any z A cap (d * 1440 + m) w2.heap.size _ HV.out hlen40 (HROW.out.below (HB2.out.alloc HB2.out.size _)) (by simp) (by simp)).mono ?_
      rw [HPG.out]
      rintro e w3 ⟨rfl, hb3⟩
      have HB3 : Hid (Below w.heap.size w w3) := (HB2.out.alloc HB2.out.size _).trans (hb3.mono (by simp only [World.size_alloc]; have := HB2.out.size; omega))
      clear hb3 d0 d1
      rcases HBE.out with ⟨rfl, rfl⟩ | ⟨rfl, rfl, rfl⟩
      · go_wp2_with fail
        go_ret2
        exact ⟨rfl, HB3.out⟩
      · go_wp2_with fail
        go_ret2
        exact ⟨rfl, HB3.out⟩
    · have hpos : 0 < (instOf z d m).length := List.length_pos_iff.2 hnil
      obtain ⟨x, hx, e⟩ : ∃ x, x = (if later then (instOf z d m).getD ((instOf z d m).length - 1) 0 else (instOf z d m).getD 0 0) ∧ instantOf z d m later = (x, 0) := ⟨_, rfl, by unfold instantOf; rw [if_pos HOK.out, if_neg hnil]⟩
      rw [e]
      clear e hnil
      generalize hl : instOf z d m = l at *
      have HL := Lib.hid hl; clear hl
      cases later
      all_goals
        simp only [Bool.false_eq_true, if_false, if_true] at hx
        have HX := Lib.hid hx; clear hx
        go_enter Try.func13, Try.ntmps13
        go_wp2_with fail
        refine (isLocal_any z A cap d m _ (by omega) (HROW.out.below HBZ0.out)).mono ?_
        rw [HOK.out]
        rintro e w1 ⟨rfl, hb1⟩
        have hz1 : w1.heap[w.heap.size]? = some (.cells #[.int .i64 z.off, .slice A z.chs.length cap] 24 (0, 0)) := (hb1.block _ (by simp)).trans (heap_alloc_new w _)
        have HB1 : Hid (Below w.heap.size w w1) := HBZ0.out.trans (hb1.mono (by simp only [World.size_alloc]; omega))
        have c0 : w1.cell? ⟨w.heap.size, 0, none⟩ = some (.int .i64 z.off) := cell_of_blk hz1 0
        have c1 : w1.cell? ⟨w.heap.size, 1, none⟩ = some (.slice A z.chs.length cap) := cell_of_blk hz1 1
        clear hb1 hz1
        go_wp2_with fail
        refine (instants_any z A cap d m _ (by omega) (HROW.out.below HB1.out)).mono ?_
        rw [HL.out]
        rintro e w2 ⟨⟨B, c, rfl, ho⟩, hb2⟩
        obtain ⟨g, rfl, q0⟩ := own_cell1 ho 0 hpos
        obtain ⟨g2, hgg, q1⟩ := own_cell1 ho (l.length - 1) (by omega)
        injection hgg with hgg
        injection hgg with hgg _ _
        subst hgg
        first | rw [← HX.out] at q0 | rw [← HX.out] at q1
        have HB2 : Hid (Below w.heap.size w w2) := HB1.out.trans (hb2.mono HB1.out.size)
        clear hb2 ho c0 c1
        go_wp2_with fail
        go_ret2
        exact ⟨rfl, HB2.out⟩
end Go.Proofs.Ytmjidplondkomaa.Zn
