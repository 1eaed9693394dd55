/-
  The walk of the statement ParserBeginnings: it returns true for every text and number.
-/
import Derived.Test.YtfaflipphkoiiaaDoorParBegin
import Derived.Test.YtfaflipphkoiiaaDoorParSame
import Derived.Test.YtfaflipphkoiiaaDoorParHead
import Derived.StillTailTactics
import Derived.OpenShut
namespace Go.Proofs.YtfaflipphkoiiaaDoor
open Go.RowKit Mem Pr
open Lx (bs bs_length)
set_option linter.unusedVariables false

theorem sl_to (s : ByteArray) (i : Nat) (h : i ≤ s.size) (W : World) :
    (Instr.slice 9 (.string s) none (some (.int .i64 (i : Int))) none).run Tryd.prog W = .ok (.string (s.extract 0 i)) W := by
  have := run_slice_string_h (P := Tryd.prog) W 9 s Tryd.underlying9 .i64 (i : Int) (by omega) (by omega)
  simpa using this
theorem bs_pre (s : ByteArray) (i : Nat) : bs (s.extract 0 i) = (bs s).take i := by rw [Lx.bs_extract]; simp

theorem Pr.VItems.pos_cell {u : World} {l : List Pr.Item} {A : Option Addr} {n cap : Nat} (h : VItems u l (.slice A n cap)) (i : Nat) (hi : i < l.length) : ∃ g o, A = some ⟨g, o, none⟩ ∧ g < u.heap.size ∧ u.cell? ⟨g, o + i * 33 + 2, none⟩ = some (.int .i64 (l[i].flat.pos : Int)) := by
  obtain ⟨vs, hvl, ⟨A', cap', he, hc, hr⟩, hf⟩ := h
  injection he with he1 he2 he3
  subst he1
  have hz : i < (l.zip vs).length := by rw [zip_len hvl]; exact hi
  have hzne : (l.zip vs).map (fun p => icells p.1.flat p.2.1 p.2.2.1 p.2.2.2.1 p.2.2.2.2) ≠ [] := by
    intro e
    rw [List.map_eq_nil_iff] at e
    rw [e] at hz
    simp at hz
  obtain ⟨g, o, rfl, hg, hr⟩ := hr.resolve_left hzne
  exact ⟨g, o, rfl, hg, hr i _ (by rw [List.getElem?_map, List.getElem?_eq_getElem hz]; rfl) 2 (.int .i64 (l[i].flat.pos : Int)) (by rw [List.getElem_zip]; rfl)⟩

set_option maxRecDepth 100000 in
set_option maxHeartbeats 4000000 in
theorem walk_ParserBeginnings (s : ByteArray) (hs : s.size ≤ maxLen) (a : Int) (ha : (Lit.int .u16 a).wf = true) (w : World) (hw : Wks w) :
    Calls Tryd.prog 9 #[.string s, .int .u16 a] w fun e w' => e = .returned (.bool true) ∧ Below w.heap.size w w' := by
  unfold maxLen at hs
  have hbd := bounds_u16 ha
  obtain ⟨k, rfl⟩ := Int.eq_ofNat_of_zero_le hbd.1
  have HW := Lib.hid hw; clear hw
  by_cases h3 : 8000 < s.size
  · go_enter Tryd.func9, Tryd.ntmps9
    go_wp2_with fail
    refine (head_any _ HW.out).mono ?_
    rintro e w1 ⟨rfl, hb1⟩
    have HB1 := Lib.hid hb1; clear hb1
    go_wp2_with fail
    go_ret
    exact ⟨rfl, HB1.out⟩
  · cases hl : parse (bs s) with
    | error x =>
      obtain ⟨er, p⟩ := x
      have hne : er ≠ 0 := parse_err_ne hl
      have be : ((er : Int) != 0) = true := by rw [bne_iff_ne]; omega
      have HL := Lib.hid hl; clear hl
      go_enter Tryd.func9, Tryd.ntmps9
      go_wp2_with fail
      refine (head_any _ HW.out).mono ?_
      rintro e w1 ⟨rfl, hb1⟩
      have HB1 := Lib.hid hb1; clear hb1
      go_wp2_with fail
      refine (parse_no s _ (by omega) (HW.out.below HB1.out) er p HL.out).mono ?_
      rintro e w2 ⟨rfl, hb2⟩
      have HB2 := Lib.hid (HB1.out.trans (hb2.mono HB1.out.size)); clear hb2 HB1
      have HB3 : Hid (Below w.heap.size w (w2.alloc (.cells (srcells [] civ0 0 Pr.nil).toArray 27))) := HB2.out.alloc HB2.out.size _
      go_wp2_with (refine wpList_store_new rfl 27 _ _ rfl rfl (srcells [] civ0 0 Pr.nil).toArray rfl info_src (srcells_one _ _ _ _ ⟨_, _, _, rfl⟩) (by rfl) ?_)
      go_ret
      exact ⟨rfl, HB3.out⟩
    | ok src =>
      have HL := Lib.hid hl
      by_cases hn0 : src.items.length = 0
      · clear hl
        have hn0' : src.items.length ≤ 0 := by omega
        have dz : ((src.items.length : Int) == 0) = true := by rw [beq_iff_eq]; omega
        clear hn0
        go_enter Tryd.func9, Tryd.ntmps9
        go_wp2_with fail
        refine (head_any _ HW.out).mono ?_
        rintro e w1 ⟨rfl, hb1⟩
        have HB1 := Lib.hid hb1; clear hb1
        go_wp2_with fail
        refine (parse_okv s _ (by omega) (HW.out.below HB1.out) src HL.out).mono ?_
        rintro e w2 ⟨⟨si, rfl, hv⟩, hb2⟩
        obtain ⟨A, cap, rfl, _⟩ := hv.form
        clear hv
        have HB2 := Lib.hid (HB1.out.trans (hb2.mono HB1.out.size)); clear hb2 HB1
        have HB3 : Hid (Below w.heap.size w (w2.alloc (.cells (srcells src.name src.frm src.days (.slice A src.items.length cap)).toArray 27))) := HB2.out.alloc HB2.out.size _
        have HS : Hid (SB w2.heap.size src.name src.frm src.days (.slice A src.items.length cap) (w2.alloc (.cells (srcells src.name src.frm src.days (.slice A src.items.length cap)).toArray 27))) := blk_newn rfl
        have c5 : (w2.alloc (.cells (srcells src.name src.frm src.days (.slice A src.items.length cap)).toArray 27)).cell? ⟨w2.heap.size, 5, none⟩ = some (.slice A src.items.length cap) := cell_of_blk HS.out 5
        go_wp2_with (refine wpList_store_new rfl 27 _ _ rfl rfl (srcells src.name src.frm src.days (.slice A src.items.length cap)).toArray rfl info_src (srcells_one _ _ _ _ ⟨_, _, _, rfl⟩) (by rfl) ?_)
        go_ret
        exact ⟨rfl, HB3.out⟩
      · obtain ⟨i, hi⟩ : ∃ i, k % src.items.length = i := ⟨_, rfl⟩
        have hil : i < src.items.length := by rw [← hi]; exact Nat.mod_lt _ (by omega)
        have hia : (k : Int) % (src.items.length : Int) = (i : Int) := by rw [← hi]; rfl
        obtain ⟨hp1, hp2⟩ := parse_begin (by rw [bs_length]; omega) hl i hil
        rw [bs_length] at hp1
        rw [← bs_pre] at hp2
        have HP2 := Lib.hid hp2; clear hp2
        obtain ⟨P, hP⟩ : ∃ P, src.items[i].flat.pos = P := ⟨_, rfl⟩
        rw [hP] at hp1 HP2
        have HPP := Lib.hid hP; clear hP
        have HIA := Lib.hid hia; clear hia hi
        clear hl
        have hn0' : 0 < src.items.length := by omega
        have dz : ((src.items.length : Int) == 0) = false := by rw [beq_eq_false_iff_ne]; omega
        clear hn0
        go_enter Tryd.func9, Tryd.ntmps9
        go_wp2_with fail
        refine (head_any _ HW.out).mono ?_
        rintro e w1 ⟨rfl, hb1⟩
        have HB1 := Lib.hid hb1; clear hb1
        go_wp2_with fail
        refine (parse_okv s _ (by omega) (HW.out.below HB1.out) src HL.out).mono ?_
        rintro e w2 ⟨⟨si, rfl, hv⟩, hb2⟩
        obtain ⟨A, cap, rfl, hcap⟩ := hv.form
        have HB2 := Lib.hid (HB1.out.trans (hb2.mono HB1.out.size)); clear hb2 HB1
        have HB3 : Hid (Below w.heap.size w (w2.alloc (.cells (srcells src.name src.frm src.days (.slice A src.items.length cap)).toArray 27))) := HB2.out.alloc HB2.out.size _
        have HS : Hid (SB w2.heap.size src.name src.frm src.days (.slice A src.items.length cap) (w2.alloc (.cells (srcells src.name src.frm src.days (.slice A src.items.length cap)).toArray 27))) := blk_newn rfl
        have HV : Hid (VItems (w2.alloc (.cells (srcells src.name src.frm src.days (.slice A src.items.length cap)).toArray 27)) src.items (.slice A src.items.length cap)) := hv.below ((Below.refl _ w2).alloc (Nat.le_refl _) _)
        clear hv
        go_upto_region 5 with (refine wpList_store_new rfl 27 _ _ rfl rfl (srcells src.name src.frm src.days (.slice A src.items.length cap)).toArray rfl info_src (srcells_one _ _ _ _ ⟨_, _, _, rfl⟩) (by rfl) ?_)
        generalize (w2.alloc (.cells (srcells src.name src.frm src.days (.slice A src.items.length cap)).toArray 27)) = u at *
        have c5 : u.cell? ⟨w2.heap.size, 5, none⟩ = some (.slice A src.items.length cap) := cell_of_blk HS.out 5
        obtain ⟨g, o, rfl, hg, cP⟩ := HV.out.pos_cell i hil
        rw [HPP.out] at cP
        have hia := HIA.out
        have hsl := sl_to s P hp1
        have dP : decide ((P : Int) < 0) = false := by simp
        have dP2 : decide ((s.size : Int) < (P : Int)) = false := by simp; omega
        go_wp2_with fail
        clear hia hsl dP dP2 cP c5
        refine (parse_okv (s.extract 0 P) _ (by rw [ByteArray.size_extract]; omega) ((HW.out.below HB3.out)) _ HP2.out).mono ?_
        rintro e w4 ⟨⟨ti, rfl, hv4⟩, hb4⟩
        obtain ⟨B, m, d, rfl⟩ := hv4.slice
        simp only at hv4 ⊢
        have HB5 : Hid (Below w.heap.size w (w4.alloc (.cells (srcells src.name src.frm src.days (.slice B m d)).toArray 27))) := (HB3.out.trans (hb4.mono HB3.out.size)).alloc (HB3.out.trans (hb4.mono HB3.out.size)).size _
        have HS5 : Hid (SB w2.heap.size src.name src.frm src.days (.slice (some ⟨g, o, none⟩) src.items.length cap) (w4.alloc (.cells (srcells src.name src.frm src.days (.slice B m d)).toArray 27))) := blk_alloc ((hb4.block _ (lt_of_blk HS.out)).trans HS.out) _
        have HT5 : Hid (SB w4.heap.size src.name src.frm src.days (.slice B m d) (w4.alloc (.cells (srcells src.name src.frm src.days (.slice B m d)).toArray 27))) := blk_newn rfl
        have HV5 : Hid (VItems (w4.alloc (.cells (srcells src.name src.frm src.days (.slice B m d)).toArray 27)) (src.items.take i) (.slice (some ⟨g, o, none⟩) i cap)) := ((HV.out.below hb4).below ((Below.refl _ w4).alloc (Nat.le_refl _) _)).take i (by omega)
        have HV6 : Hid (VItems (w4.alloc (.cells (srcells src.name src.frm src.days (.slice B m d)).toArray 27)) (src.items.take i) (.slice B m d)) := hv4.below ((Below.refl _ w4).alloc (Nat.le_refl _) _)
        clear hv4 hb4 HB3 HS HV HB2 HP2 HPP HL
        go_upto_region 12 with (refine wpList_store_new rfl 27 _ _ rfl rfl (srcells src.name src.frm src.days (.slice B m d)).toArray rfl info_src (srcells_one _ _ _ _ ⟨_, _, _, rfl⟩) (by rfl) ?_)
        generalize (w4.alloc (.cells (srcells src.name src.frm src.days (.slice B m d)).toArray 27)) = v at *
        have x0 : v.cell? ⟨w2.heap.size, 0, none⟩ = some (.string ⟨src.name.toArray⟩) := cell_of_blk HS5.out 0
        have y0 : v.cell? ⟨w4.heap.size, 0, none⟩ = some (.string ⟨src.name.toArray⟩) := cell_of_blk HT5.out 0
        have x1 : v.cell? ⟨w2.heap.size, 1, none⟩ = some (.int .i64 (src.frm.y : Int)) := cell_of_blk HS5.out 1
        have y1 : v.cell? ⟨w4.heap.size, 1, none⟩ = some (.int .i64 (src.frm.y : Int)) := cell_of_blk HT5.out 1
        have x2 : v.cell? ⟨w2.heap.size, 2, none⟩ = some (.int .i64 (src.frm.m : Int)) := cell_of_blk HS5.out 2
        have y2 : v.cell? ⟨w4.heap.size, 2, none⟩ = some (.int .i64 (src.frm.m : Int)) := cell_of_blk HT5.out 2
        have x3 : v.cell? ⟨w2.heap.size, 3, none⟩ = some (.int .i64 (src.frm.d : Int)) := cell_of_blk HS5.out 3
        have y3 : v.cell? ⟨w4.heap.size, 3, none⟩ = some (.int .i64 (src.frm.d : Int)) := cell_of_blk HT5.out 3
        have x4 : v.cell? ⟨w2.heap.size, 4, none⟩ = some (.int .i64 (src.days : Int)) := cell_of_blk HS5.out 4
        have y4 : v.cell? ⟨w4.heap.size, 4, none⟩ = some (.int .i64 (src.days : Int)) := cell_of_blk HT5.out 4
        have x5 : v.cell? ⟨w2.heap.size, 5, none⟩ = some (.slice (some ⟨g, o, none⟩) src.items.length cap) := cell_of_blk HS5.out 5
        have y5 : v.cell? ⟨w4.heap.size, 5, none⟩ = some (.slice B m d) := cell_of_blk HT5.out 5
        have hq := eq_civil (src.frm.y : Int) (src.frm.m : Int) (src.frm.d : Int)
        clear HS5 HT5
        rw [HIA.out]
        have hic : (i : Int) ≤ (cap : Int) := by omega
        have hic' : i ≤ cap := by omega
        clear HIA
        go_still_tail 33, (by kernel_rfl)
        change wpList _ _ _ _ _ v.drew
        clear x0 y0 x1 y1 x2 y2 x3 y3 x4 y4 x5 y5 hq hic hic'
        have HB7 : Hid (Below w.heap.size w v.drew) := below_drewN HB5.out 1
        have HV7 := Lib.hid (HV5.out.below (below_drewN (Below.refl _ v) 1))
        have HV8 := Lib.hid (HV6.out.below (below_drewN (Below.refl _ v) 1))
        clear HV5 HV6 HB5
        change Hid (VItems v.drew _ _) at HV7
        change Hid (VItems v.drew _ _) at HV8
        generalize v.drew = z at *
        go_wp2_with fail
        refine (items_eq true (src.items.take i) (src.items.take i) _ _ z (All2.refl (EqI.refl _) _) HV8.out HV7.out).mono ?_
        rintro e w9 ⟨rfl, hb9⟩
        have HB9 : Hid (Below w.heap.size w w9) := HB7.out.trans (hb9.mono HB7.out.size)
        clear hb9
        go_wp2_with fail
        go_ret
        exact ⟨rfl, HB9.out⟩
end Go.Proofs.YtfaflipphkoiiaaDoor
