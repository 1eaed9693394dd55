/-
  The walk of the statement DeadlineNeeds: it returns true for every input.
-/
import Derived.Test.YticlmkfifpkdpaaDoorDlMake
import Derived.Deep.DeepCutAuto
namespace Go.Proofs.YticlmkfifpkdpaaDoor
open Go.RowKit Mem Vw Dl
set_option linter.unusedVariables false
set_option linter.unusedSimpArgs false
theorem take_known {l : List When} {es : List Int} {i : Nat} {x : Int} {b a : Bool} (hx : es[i]? = some x) (hb : b = true ↔ ∀ e ∈ es.take i, (evAt l e).known = true) (ha : (evAt l x).known = a) : (b && a) = true ↔ ∀ e ∈ es.take (i + 1), (evAt l e).known = true := by
  obtain ⟨hi, e⟩ := List.getElem?_eq_some_iff.1 hx
  rw [List.take_succ_eq_append_getElem hi, e, Bool.and_eq_true, hb]
  constructor
  · rintro ⟨h1, h2⟩ y hy
    rcases List.mem_append.1 hy with hy | hy
    · exact h1 y hy
    · rw [List.mem_singleton] at hy; subst hy; rw [ha, h2]
  · intro h
    exact ⟨fun y hy => h y (List.mem_append_left _ hy), by rw [← ha]; exact h x (List.mem_append_right _ (by simp))⟩
/-- What the loop holds. -/
def NR (l : List When) (es : List Int) (W X : World) (g : Nat) (av iv : Value) (wr : World) : Prop :=
  ∃ (i : Nat) (b : Bool), iv = .int .i64 i ∧ i ≤ es.length ∧ av = .bool b ∧ Hid (b = true ↔ ∀ e ∈ es.take i, (evAt l e).known = true) ∧ Hid (Below X.heap.size X wr) ∧ Hid (wr.heap[g]? = some (.cells (evcells (only l (es.take i))) 67 (0, 0)))
set_option maxRecDepth 100000 in
set_option maxHeartbeats 8000000 in
theorem walk_DeadlineNeeds (x0 : Term × Value) (c : Cal) (hv : Value) (l : List When) (lv : Value)  (W : World) (hbf : Bf W) (hT : Tree W x0.1 x0.2) (hC : CalAt W c hv) (hl : EvsAt W l lv) :
    Calls Tryd.prog 9 #[.agg (tc x0).toArray, .agg (ccs c hv).toArray, lv] W fun e w' => e = .returned (.bool true) ∧ Below W.heap.size W w' := by
  obtain ⟨t, tv⟩ := x0
  obtain ⟨A, cp, hv1, hc1, hc2⟩ := hT.slice
  dsimp only at hv1
  subst hv1
  obtain ⟨Al, nl, hlv, hl1, hl2, hlc⟩ := hl.slice
  subst hlv
  have HEl := Lib.hid hl; have HCl := Lib.hid hlc
  have HBF := Lib.hid hbf
  have HG := Lib.hid (GV.mk hbf hC); have HT := Lib.hid hT
  clear hbf hT hC hl hlc
  obtain ⟨k, n, e, b, kids⟩ := t
  have HS0 := Lib.hid (LS.start (W := W) (x := (.mk k n e b kids, .slice A kids.length cp)) (c := c) (hv := hv))
  obtain ⟨w0, HW0⟩ : ∃ w0, Hid ((W.alloc (.cells #[.int .i64 k, .int .i64 n, .int .i64 e, .bool b, .slice A kids.length cp] 31)).alloc (.cells (ccs c hv).toArray 28) = w0) := ⟨_, rfl⟩
  have HS0 : Hid (LS W (.mk k n e b kids, .slice A kids.length cp) c hv W.heap.size (W.heap.size + 1) w0) := by rw [← HW0.out]; exact HS0.out
  show Calls Tryd.prog 9 #[.agg #[.int .i64 k, .int .i64 n, .int .i64 e, .bool b, .slice A kids.length cp], .agg (ccs c hv).toArray, .slice Al l.length nl] W _

  have HHD := Lib.hid (head_any w0 (bf_keep HBF.out HS0.out.be))
  go_enter Tryd.func9, Tryd.ntmps9
  go_upto_region 1 with fail
  rw [HW0.out]
  clear HW0
  go_wp2_with fail
  refine HHD.out.mono ?_
  rintro e9 w1 ⟨rfl, hb1⟩
  have HS1 := Lib.hid (HS0.out.keep hb1)
  clear hb1 HHD HS0
  obtain ⟨t0, t1, t2, t3, t4⟩ := HS1.out.t
  have HSM := Lib.hid (small_any (.mk k n e b kids) (.slice A kids.length cp) l Al nl w1 (HT.out.keep HS1.out.be))
  go_wp2_with fail
  refine HSM.out.mono ?_
  rintro e9 w2 ⟨⟨b2, rfl, hsm⟩, hb⟩
  have HS2 := Lib.hid (HS1.out.keep hb)
  clear hb HSM t0 t1 t2 t3 t4
  have HSM2 := Lib.hid hsm
  clear hsm
  cases b2
  · clear HSM2
    go_wp2_with fail
    go_ret
    exact ⟨rfl, HS2.out.be⟩
  obtain ⟨⟨d1, k1, e1⟩, HR1⟩ : ∃ r, Hid (eval (.mk k n e b kids) c l = r) := ⟨_, rfl⟩
  obtain ⟨t0, t1, t2, t3, t4⟩ := HS2.out.t
  obtain ⟨⟨c0, c1, c2, c3⟩, c4, c5, c6, c7⟩ := HS2.out.c
  have HEV := Lib.hid (eval_at HG.out HS2.out.be (.mk k n e b kids, .slice A kids.length cp) (HT.out.keep HS2.out.be) l _ (HEl.out.below HS2.out.be) rfl HR1.out)
  go_wp2_with fail
  refine HEV.out.mono ?_
  rintro e9 w3 ⟨rfl, hb⟩
  have HS3 := Lib.hid (HS2.out.keep hb)
  clear hb HEV t0 t1 t2 t3 t4 c0 c1 c2 c3 c4 c5 c6 c7
  have HLEN := Lib.hid (show l.length ≤ 40 by have h := HSM2.out; simpa using h)
  by_cases he1 : e1 = 1
  · subst he1
    obtain ⟨hd0, hk0⟩ := eval_zero HR1.out (.inl (by decide))
    subst hd0 hk0
    clear HSM2
    go_wp2_with fail
    go_ret
    exact ⟨rfl, HS3.out.be⟩
  have heb : (e1 == 1) = false := beq_eq_false_iff_ne.2 he1
  have hlaw := law_needs (t := .mk k n e b kids) (c := c) (l := l) HLEN.out (by rw [HR1.out]; exact he1) (evs_ok (.mk k n e b kids))
  have hvl : valid (.mk k n e b kids) 1000 = true := by
    rcases eval_cases (.mk k n e b kids) c l with h | ⟨⟨_, h, _⟩, _⟩
    · rw [HR1.out] at h; exact absurd (by injection h with _ h; injection h with _ h) he1
    · exact valid_more (by have := HLEN.out; omega) (by decide) h
  rw [HR1.out] at hlaw
  dsimp only at hlaw
  have HINC := Lib.hid (evs_ok (.mk k n e b kids)).inc
  obtain ⟨t0, t1, t2, t3, t4⟩ := HS3.out.t
  have HEV := Lib.hid (events_any (.mk k n e b kids) (.slice A kids.length cp) w3 (HT.out.keep HS3.out.be))
  go_wp2_with fail
  refine HEV.out.mono ?_
  rintro e9 w4 ⟨v, es, rfl, hes, _, hown, hb⟩
  have hes := hes hvl
  have HS4 := Lib.hid (HS3.out.keep hb)
  rw [← hes] at hlaw HINC
  obtain ⟨hl1, hl2, hl3, hl4, hl5⟩ := hlaw
  have HL1 := Lib.hid hl1; have HL2 := Lib.hid hl2; have HL3 := Lib.hid hl3; have HL4 := Lib.hid hl4; have HL5 := Lib.hid hl5
  have hrow : Row w4 v 1 (es.map fun x => [nv x]) := Row.of_own (f := fun x => [nv x]) (z := 1) (l := es) (by rw [flat_one]; exact hown) (fun x _ => rfl)
  obtain ⟨An, cn, hv9, hn1, hn2⟩ := hrow.slice
  rw [List.length_map] at hv9 hn1
  subst hv9
  have HROW := Lib.hid hrow
  clear hl1 hl2 hl3 hl4 hl5 hes hown hb hrow HEV t0 t1 t2 t3 t4 hvl he1
  go_upto_region 9 with fail
  go_cut [13] (fun s13 wx => s13 = .slice (some ⟨w4.heap.size, 0, none⟩) l.length l.length ∧ Hid (Below w4.heap.size w4 wx) ∧ Hid (wx.heap[w4.heap.size]? = some (.cells (evcells (List.replicate l.length noev)) 67 (0, 0))))
  case first =>
    go_wp2_with (refine wpList_make_when rfl _ _ rfl l.length rfl rfl (by have := HLEN.out; omega) ?_; intro w5 hb5 _ hc5)
    go_meet
    exact ⟨rfl, hb5, hc5⟩
  case rest =>
  obtain ⟨rfl, HB5, HC5⟩ := hcut
  rw [← only_nil] at HC5
  obtain ⟨w5, hw5⟩ : ∃ X, X = wc := ⟨_, rfl⟩
  subst hw5
  go_wp2_with fail
  go_loopw [12, 14] (fun av iv wr => NR l es W w4 w4.heap.size av iv wr) (fun _ iv _ => es.length - (intOf iv).toNat)
  case atStart => exact ⟨0, true, rfl, by omega, rfl, (by show _ ↔ _; simp), HB5, HC5⟩
  case round =>
    obtain ⟨i, b9, rfl, hi, rfl, HK, HB, HC⟩ := hrel
    have HSr := Lib.hid (HS4.out.keep HB.out)
    by_cases hlt : i < es.length
    · obtain ⟨x, hx⟩ : ∃ x, es[i]? = some x := ⟨_, List.getElem?_eq_getElem hlt⟩
      obtain ⟨hx0, hx1⟩ := HL1.out x (List.mem_of_getElem? hx)
      obtain ⟨q, rfl⟩ : ∃ q : Nat, x = (q : Int) := ⟨x.toNat, by omega⟩
      have hq : q < l.length := by omega
      obtain ⟨ev, hev⟩ : ∃ ev, l[q]? = some ev := ⟨_, List.getElem?_eq_getElem hq⟩
      obtain ⟨gl, ol, hAl, hgl, c0, c1, c2⟩ := HCl.out q ev hev
      subst hAl
      have HEVA : Hid ((evAt l (q : Int)).known = ev.known) := by show _ = _; unfold evAt; rw [List.getD_eq_getElem?_getD, Int.toNat_natCast, hev]; rfl
      obtain ⟨go, oo, co, hs1, hgo, _, _, hat⟩ := HROW.out.at (by intro h; rw [List.map_eq_nil_iff] at h; rw [h] at hlt; simp at hlt)
      have hAn : An = some ⟨go, oo, none⟩ := by injection hs1
      subst hAn
      have n0 : wr.cell? ⟨go, oo + i, none⟩ = some (.int .i64 (q : Int)) := (HB.out.cell (p := ⟨go, _, none⟩) hgo).trans (by have := hat i _ (by rw [List.getElem?_map, hx]; rfl) 0 _ rfl; rw [Nat.mul_one, Nat.add_zero] at this; exact this)
      have c0 := (World.cell?_of_block (a := ⟨gl, ol + q * 3, none⟩) (HSr.out.be.block gl hgl)).trans c0
      have c1 := (World.cell?_of_block (a := ⟨gl, ol + q * 3 + 1, none⟩) (HSr.out.be.block gl hgl)).trans c1
      have c2 := (World.cell?_of_block (a := ⟨gl, ol + q * 3 + 2, none⟩) (HSr.out.be.block gl hgl)).trans c2
      have hX := HS4.out.be.size
      have glr : gl < wr.heap.size := by have := HB.out.size; omega
      have hlo : (only l (es.take i)).length = l.length := only_len _ _
      have o0 : ∃ z, wr.cell? ⟨w4.heap.size, q * 3, none⟩ = some z := ⟨_, by rw [cell_of_blk HC.out, Array.getElem?_eq_getElem (by unfold evcells; rw [List.size_toArray, flat_len, hlo]; omega)]⟩
      have o1 : ∃ z, wr.cell? ⟨w4.heap.size, q * 3 + 1, none⟩ = some z := ⟨_, by rw [cell_of_blk HC.out, Array.getElem?_eq_getElem (by unfold evcells; rw [List.size_toArray, flat_len, hlo]; omega)]⟩
      have o2 : ∃ z, wr.cell? ⟨w4.heap.size, q * 3 + 2, none⟩ = some z := ⟨_, by rw [cell_of_blk HC.out, Array.getElem?_eq_getElem (by unfold evcells; rw [List.size_toArray, flat_len, hlo]; omega)]⟩
      obtain ⟨z0, o0⟩ := o0
      obtain ⟨z1, o1⟩ := o1
      obtain ⟨z2, o2⟩ := o2
      have f0 := froz_of_blk HC.out (q * 3); have f1 := froz_of_blk HC.out (q * 3 + 1); have f2 := froz_of_blk HC.out (q * 3 + 2)
      have HKN := Lib.hid (take_known hx HK.out HEVA.out)
      have HTK : Hid (only l (es.take (i + 1)) = (only l (es.take i)).set q ev) := by
        show _ = _
        rw [List.take_succ_eq_append_getElem hlt, (List.getElem?_eq_some_iff.1 hx).2]
        exact only_step l _ q ev hev
      have HCN : Hid ((((wr.setCell ⟨w4.heap.size, q * 3, none⟩ (.bool ev.known)).setCell ⟨w4.heap.size, q * 3 + 1, none⟩ (.int .i64 ev.day)).setCell ⟨w4.heap.size, q * 3 + 2, none⟩ (.int .i64 ev.min)).heap[w4.heap.size]? = some (.cells (evcells (only l (es.take (i + 1)))) 67 (0, 0))) := by
        show _ = _
        rw [HTK.out, ← evcells_set _ _ _ (by rw [hlo]; exact hq)]
        exact blk_set (blk_set (blk_set HC.out _ _) _ _) _ _
      have HBN : Hid (Below w4.heap.size w4 (((wr.setCell ⟨w4.heap.size, q * 3, none⟩ (.bool ev.known)).setCell ⟨w4.heap.size, q * 3 + 1, none⟩ (.int .i64 ev.day)).setCell ⟨w4.heap.size, q * 3 + 2, none⟩ (.int .i64 ev.min))) :=
        ((HB.out.setCell (Nat.le_refl _) _).setCell (Nat.le_refl _) _).setCell (Nat.le_refl _) _
      have HINCq : Hid (0 < i → ∀ y, es[i - 1]? = some y → y < (q : Int)) := by
        intro h0 y hy
        have h1 := HINC.out (i - 1) i (by omega) hlt
        rw [List.getD_eq_getElem?_getD, List.getD_eq_getElem?_getD, hx, hy] at h1
        exact h1
      obtain ⟨ek, ed, em⟩ := ev
      dsimp only at c0 c1 c2 HKN HCN HBN
      have hgo2 : go < wr.heap.size := Nat.lt_of_lt_of_le hgo HB.out.size
      rcases Nat.eq_zero_or_pos i with h0 | h0
      · subst h0
        have n0' : wr.cell? ⟨go, oo, none⟩ = some (.int .i64 (q : Int)) := n0
        clear hat hs1 hx hev HEVA HTK hX HINCq HL1 HL2 HL3 HL4 HL5
        cases b9
        · go_wp2_with fail
          go_roundw
          case rel => exact ⟨1, false, rfl, by omega, rfl, HKN, HBN, HCN⟩
          case measure => simp [intOf]; omega
        · go_wp2_with fail
          go_roundw
          case rel => exact ⟨1, ek, rfl, by omega, rfl, HKN, HBN, HCN⟩
          case measure => simp [intOf]; omega
      · obtain ⟨j, rfl⟩ : ∃ j, i = j + 1 := ⟨i - 1, by omega⟩
        obtain ⟨y, hy⟩ : ∃ y, es[j]? = some y := ⟨_, List.getElem?_eq_getElem (by omega)⟩
        have hyq : ¬ ((q : Int) ≤ y) := by have := HINCq.out h0 y hy; omega
        have n1 : wr.cell? ⟨go, oo + j, none⟩ = some (.int .i64 y) := (HB.out.cell (p := ⟨go, _, none⟩) hgo).trans (by have := hat j _ (by rw [List.getElem?_map, hy]; rfl) 0 _ rfl; rw [Nat.mul_one, Nat.add_zero] at this; exact this)
        clear hat hs1 hx hy hev HEVA HTK hX HINCq HL1 HL2 HL3 HL4 HL5
        cases b9
        · go_wp2_with fail
          go_roundw
          case rel => exact ⟨j + 1 + 1, false, by go_num, by omega, rfl, HKN, HBN, HCN⟩
          case measure => simp [intOf]; omega
        · go_wp2_with fail
          go_roundw
          case rel => exact ⟨j + 1 + 1, ek, by go_num, by omega, rfl, HKN, HBN, HCN⟩
          case measure => simp [intOf]; omega
    · have hie : i = es.length := by omega
      subst hie
      rw [List.take_length] at HK HC
      have hall : b9 = true ↔ allKnown l (.mk k n e b kids) = true := HK.out.trans HL2.out
      have hb9 : b9 = allKnown l (.mk k n e b kids) := Bool.eq_iff_iff.2 hall
      have HEO : Hid (EvsAt wr (only l es) (.slice (some ⟨w4.heap.size, 0, none⟩) l.length l.length)) := evs_of_cells _ HC.out (only_len _ _) (Nat.le_refl _) (by have := HLEN.out; omega) (only_wf HEl.out.wf es)
      have HR2 : Hid (eval (.mk k n e b kids) c (only l es) = (d1, k1, e1)) := HL5.out
      have HEV := Lib.hid (eval_at HG.out HSr.out.be (.mk k n e b kids, .slice A kids.length cp) (HT.out.keep HSr.out.be) (only l es) _ HEO.out rfl HR2.out)
      by_cases he0 : e1 = 0
      · subst he0
        have hk := HL3.out rfl
        rw [← hb9] at hk
        subst hk
        clear hall hb9 HK HC HL1 HL2 HL3 HL4 HL5 HROW
        obtain ⟨t0, t1, t2, t3, t4⟩ := HSr.out.t
        obtain ⟨⟨c0, c1, c2, c3⟩, c4, c5, c6, c7⟩ := HSr.out.c
        cases k1
        · go_wp2_with fail
          refine HEV.out.mono ?_
          rintro e9 w7 ⟨rfl, hb⟩
          have HS7 := Lib.hid (HSr.out.keep hb)
          clear hb HEV t0 t1 t2 t3 t4 c0 c1 c2 c3 c4 c5 c6 c7
          go_wp2_with fail
          go_ret
          exact ⟨rfl, HS7.out.be⟩
        · go_wp2_with fail
          refine HEV.out.mono ?_
          rintro e9 w7 ⟨rfl, hb⟩
          have HS7 := Lib.hid (HSr.out.keep hb)
          clear hb HEV t0 t1 t2 t3 t4 c0 c1 c2 c3 c4 c5 c6 c7
          go_wp2_with fail
          go_ret
          exact ⟨rfl, HS7.out.be⟩
      · have hk := HL4.out he0
        rw [← hb9] at hk
        subst hk
        have he0b : (e1 != 0) = true := by simpa using he0
        clear hall hb9 HK HC HL1 HL2 HL3 HL4 HL5 HROW
        obtain ⟨t0, t1, t2, t3, t4⟩ := HSr.out.t
        obtain ⟨⟨c0, c1, c2, c3⟩, c4, c5, c6, c7⟩ := HSr.out.c
        go_wp2_with fail
        refine HEV.out.mono ?_
        rintro e9 w7 ⟨rfl, hb⟩
        have HS7 := Lib.hid (HSr.out.keep hb)
        clear hb HEV t0 t1 t2 t3 t4 c0 c1 c2 c3 c4 c5 c6 c7
        go_wp2_with fail
        go_ret
        exact ⟨rfl, HS7.out.be⟩
end Go.Proofs.YticlmkfifpkdpaaDoor
