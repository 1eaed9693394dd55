/-
  The walk of the statement ParserNames: it returns true for every five texts, number and bool.
-/
import Derived.Test.YtfaflipphkoiiaaDoorParWant
import Derived.Deep.DeepCutAuto
import Derived.Deep.DeepMust
namespace Go.Proofs.YtfaflipphkoiiaaDoor
open Go.RowKit Mem Pr
open Lx (bs bs_length)
set_option linter.unusedVariables false
set_option linter.unusedSimpArgs false

theorem nature_yes (x : Bytes) (h : x = [110, 97, 116, 117, 114, 101]) : nature x = [] := by unfold nature; rw [if_pos h]
theorem nature_no (x : Bytes) (h : x ≠ [110, 97, 116, 117, 114, 101]) : nature x = x := by unfold nature; rw [if_neg h]
/-- The names in memory, and what has been written since. -/
def NBW (w : World) (nm : List Bytes) (u : World) : Prop := Below w.heap.size w u ∧ NB w.heap.size nm u
def SN (w : World) (l0 l1 l2 l3 l4 : Bytes) (u : World) : Prop := Hid (NBW w [l0, l1, l2, l3, l4] u) ∧ u.cell? ⟨w.heap.size, 0, none⟩ = some (.string ⟨l0.toArray⟩) ∧ u.cell? ⟨w.heap.size, 1, none⟩ = some (.string ⟨l1.toArray⟩) ∧ u.cell? ⟨w.heap.size, 2, none⟩ = some (.string ⟨l2.toArray⟩) ∧ u.cell? ⟨w.heap.size, 3, none⟩ = some (.string ⟨l3.toArray⟩) ∧ u.cell? ⟨w.heap.size, 4, none⟩ = some (.string ⟨l4.toArray⟩)
theorem sn_mk {w : World} {l0 l1 l2 l3 l4 : Bytes} {u : World} (h : Hid (NBW w [l0, l1, l2, l3, l4] u)) : SN w l0 l1 l2 l3 l4 u :=
  ⟨h, h.out.2.cell 0 (by simp), h.out.2.cell 1 (by simp), h.out.2.cell 2 (by simp), h.out.2.cell 3 (by simp), h.out.2.cell 4 (by simp)⟩
theorem nbw_drew {w : World} {nm : List Bytes} {u : World} (h : Hid (NBW w nm u)) : Hid (NBW w nm u.drew) := ⟨below_drewN h.out.1 1, h.out.2.below (below_drewN (Below.refl _ _) 1)⟩
theorem sn_drew {w : World} {l0 l1 l2 l3 l4 : Bytes} {u : World} (h : Hid (NBW w [l0, l1, l2, l3, l4] u)) : SN w l0 l1 l2 l3 l4 u.drew := sn_mk (nbw_drew h)
theorem nbw_below {w : World} {nm : List Bytes} {u u' : World} (h : NBW w nm u) (hb : Below u.heap.size u u') : NBW w nm u' := ⟨h.1.trans (hb.mono h.1.size), h.2.below hb⟩
theorem decimal_nb (w : World) (nm : List Bytes) (n : Nat) (hn : n < 1000000) (u : World) (h : Hid (NBW w nm u)) : Calls Tryd.prog 20 #[.int .i64 (n : Int)] u fun e w' => e = .returned (.string ⟨(dec 11 n).toArray⟩) ∧ Hid (NBW w nm w') :=
  (decimal_any 11 n u (by omega) (by omega) (by omega)).mono fun e w' ⟨he, hb⟩ => ⟨he, h.out.1.trans (hb.mono h.out.1.size), h.out.2.below hb⟩
theorem want_all (w : World) (l0 l1 l2 l3 l4 : Bytes) (fin : Bool) : ∃ u : World, Hid (((w.alloc (.cells #[.string ⟨l4.toArray⟩, .int .i64 1] 59)).alloc (.cells (icells { flat0 with kind := 1, name := l1 } nil nil nil nil ++ icells { flat0 with kind := 2, name := l2, of_ := l1 } nil nil nil nil ++ icells { flat0 with kind := 8, name := l3, of_ := nature l2, word := 1, to_ := l1 } nil nil nil nil ++ icells { flat0 with kind := 9, name := l4, of_ := l2, act := l3, times := 1, within := ⟨0, false, l0⟩, conds := [⟨l4, 1⟩], by_ := l3, til := l0, sum := l1, to_ := l2, fin := fin } (.slice (some ⟨w.heap.size, 0, none⟩) 1 1) nil nil nil).toArray 57)) = u) ∧ Hid (VItems u (namesWant l0 l1 l2 l3 l4 fin) (.slice (some ⟨w.heap.size + 1, 0, none⟩) 4 4)) ∧ Hid (Below w.heap.size w u) :=
  ⟨_, rfl, want_view (g := w.heap.size) (blk_alloc (blk_newn rfl) _) (blk_newn (by simp)), ((Below.refl _ w).alloc (Nat.le_refl _) _).alloc (by simp) _⟩
theorem str_yes {l : Bytes} (h : (l == [110, 97, 116, 117, 114, 101]) = true) : nature l = [] := nature_yes _ (by simpa using h)
theorem str_no {l : Bytes} (h : (l == [110, 97, 116, 117, 114, 101]) = false) : nature l = l := nature_no _ (by simpa using h)
theorem add_ex (a b : ByteArray) (n m : Nat) (ha : a.size ≤ n) (hb : b.size ≤ m) (h : n + m ≤ 1000000) : ∃ s : ByteArray, Hid (s = a ++ b) ∧ (∀ w : World, (Op.stringOp .add a b).run Tryd.prog w = .ok (.string s) w) ∧ s.size ≤ n + m :=
  ⟨a ++ b, rfl, fun w => run_string_add_sum w a b (by omega), by rw [ByteArray.size_append]; omega⟩
set_option maxRecDepth 100000 in
set_option maxHeartbeats 4000000 in
theorem names_yes (l0 l1 l2 l3 l4 : Bytes) (h0 : okName l0 = true) (h1 : okName l1 = true) (h2 : okName l2 = true) (h3 : okName l3 = true) (h4 : okName l4 = true) (m : Nat) (hm : m ≤ 4294967295) (fin : Bool) (w : World) (hw : Wks w) :
    Calls Tryd.prog 7 #[.agg #[.string ⟨l0.toArray⟩, .string ⟨l1.toArray⟩, .string ⟨l2.toArray⟩, .string ⟨l3.toArray⟩, .string ⟨l4.toArray⟩], .int .u32 (m : Int), .bool fin] w fun e w' => e = .returned (.bool true) ∧ Below w.heap.size w w' := by
  obtain ⟨n, hn⟩ : ∃ n, m % 1000000 = n := ⟨_, rfl⟩
  have hn6 : n < 1000000 := by omega
  have hmn : (m : Int) % 1000000 = (n : Int) := by omega
  obtain ⟨q0, i0⟩ := okName_iff h0
  obtain ⟨q1, i1⟩ := okName_iff h1
  obtain ⟨q2, i2⟩ := okName_iff h2
  obtain ⟨q3, i3⟩ := okName_iff h3
  obtain ⟨q4, i4⟩ := okName_iff h4
  obtain ⟨src, hsrc, e1, e2, e3, hall⟩ := names_parse i0 i1 i2 i3 i4 q0 q1 q2 q3 q4 n hn6 fin
  have HSRC := Lib.hid hsrc; have HE1 := Lib.hid e1; have HE2 := Lib.hid e2; have HE3 := Lib.hid e3; have HALL := Lib.hid hall
  have HMN := Lib.hid hmn
  clear hsrc e1 e2 e3 hall hmn hn i0 i1 i2 i3 i4
  have HW := Lib.hid hw; clear hw
  have HYES : Hid (∀ x ∈ [l0, l1, l2, l3, l4], okName x = true) := by
    intro x hx
    simp only [List.mem_cons, List.not_mem_nil, or_false] at hx
    rcases hx with rfl | rfl | rfl | rfl | rfl <;> assumption
  clear h0 h1 h2 h3 h4
  have HB0 : Hid (Below w.heap.size w (w.alloc (.cells ([l0, l1, l2, l3, l4].map sv).toArray 45))) := (Below.refl _ w).alloc (Nat.le_refl _) _
  have HN0 : Hid (NB w.heap.size [l0, l1, l2, l3, l4] (w.alloc (.cells ([l0, l1, l2, l3, l4].map sv).toArray 45))) := blk_newn rfl
  go_enter Tryd.func7, Tryd.ntmps7
  go_upto_region 1 with fail
  change Code.wp _ _ _ _ (w.alloc (.cells ([l0, l1, l2, l3, l4].map sv).toArray 45))
  generalize (w.alloc (.cells ([l0, l1, l2, l3, l4].map sv).toArray 45)) = u0 at *
  obtain ⟨nm, HNM⟩ : ∃ nm, Hid ([l0, l1, l2, l3, l4] = nm) := ⟨_, rfl⟩
  have hlen : nm.length = 5 := by rw [← HNM.out]; rfl
  rw [HNM.out] at HN0
  go_wp2_with fail
  refine (head_any _ (HW.out.below HB0.out)).mono ?_
  rintro e w1 ⟨rfl, hb1⟩
  have HB1 := Lib.hid (HB0.out.trans (hb1.mono HB0.out.size))
  have HN1 := Lib.hid (HN0.out.below hb1)
  clear hb1 HB0 HN0
  have HLEN := Lib.hid hlen; clear hlen
  go_wp2_with fail
  go_loopw [8] (fun i wr => ∃ k : Nat, i = .int .i64 k ∧ k ≤ 5 ∧ Hid (Below w.heap.size w wr) ∧ Hid (NB w.heap.size nm wr)) (fun i _ => 5 - (intOf i).toNat)
  case atStart => exact ⟨0, rfl, by omega, HB1, HN1⟩
  case round =>
    obtain ⟨k, rfl, hk, HB, HN⟩ := hrel
    by_cases hkj : k < 5
    · have hkn : k < nm.length := by rw [HLEN.out]; omega
      have ck := HN.out.cell k hkn
      obtain ⟨x, hx⟩ : ∃ x, nm[k] = x := ⟨_, rfl⟩
      have HX := Lib.hid hx; clear hx
      rw [HX.out] at ck
      have hk5 : (k : Int) < 5 := by omega
      have hok : okName x = true := HYES.out x (by rw [HNM.out, ← HX.out]; exact List.getElem_mem _)
      obtain ⟨hl, hn⟩ := okName_iff hok
      clear hok
      have hz : (⟨x.toArray⟩ : ByteArray).size ≤ 100 := by rw [size_mk]; exact hl
      obtain ⟨y, HY⟩ : ∃ y : ByteArray, Hid ((⟨x.toArray⟩ : ByteArray) = y) := ⟨_, rfl⟩
      have ha := alone_any x wr (by omega)
      rw [hn, HY.out] at ha
      rw [HY.out] at ck hz
      have HA := Lib.hid ha; clear ha hn
      go_wp2_with fail
      refine HA.out.mono ?_
      rintro e w2 ⟨rfl, hb2⟩
      have HB2 := Lib.hid (HB.out.trans (hb2.mono HB.out.size))
      have HN2 := Lib.hid (HN.out.below hb2)
      clear hb2
      go_wp2_with fail
      go_roundw
      case rel => exact ⟨k + 1, by go_num, by omega, HB2, HN2⟩
      case measure => simp [intOf]; omega
    · as_aux_lemma =>
        obtain rfl : k = 5 := by omega
        rw [← HNM.out] at HN
        clear hkj hk HNM HLEN HB1 HN1 HYES
        have c0 : wr.cell? ⟨w.heap.size, 0, none⟩ = some (.string ⟨l0.toArray⟩) := HN.out.cell 0 (by simp)
        have z0 := size_mk l0; have z1 := size_mk l1; have z2 := size_mk l2; have z3 := size_mk l3; have z4 := size_mk l4
        have b0 : (⟨l0.toArray⟩ : ByteArray).size ≤ 100 := by omega
        have b1 : (⟨l1.toArray⟩ : ByteArray).size ≤ 100 := by omega
        have b2 : (⟨l2.toArray⟩ : ByteArray).size ≤ 100 := by omega
        have b3 : (⟨l3.toArray⟩ : ByteArray).size ≤ 100 := by omega
        have b4 : (⟨l4.toArray⟩ : ByteArray).size ≤ 100 := by omega
        clear z0 z1 z2 z3 z4
        have HZ : Hid (NBW w [l0, l1, l2, l3, l4] wr) := ⟨HB.out, HN.out⟩
        have bd : (⟨(dec 11 n).toArray⟩ : ByteArray).size ≤ 12 := by rw [size_mk]; exact dec_len 11 n
        clear HB HN c0
        obtain ⟨s1, H1, e1, z1⟩ := add_ex ⟨#[99, 111, 110, 116, 114, 97, 99, 116, 32]⟩ ⟨l0.toArray⟩ 9 100 (by decide) b0 (by decide)
        obtain ⟨s2, H2, e2, z2⟩ := add_ex s1 ⟨#[32, 102, 114, 111, 109, 32, 49, 45, 50, 45, 51, 32, 102, 111, 114, 32]⟩ 109 16 z1 (by decide) (by decide)
        obtain ⟨s3, H3, e3, z3⟩ := add_ex s2 ⟨(dec 11 n).toArray⟩ 125 12 z2 bd (by decide)
        obtain ⟨s4, H4, e4, z4⟩ := add_ex s3 ⟨#[32, 100, 97, 121, 115, 59, 32, 112, 97, 114, 116, 121, 32]⟩ 137 13 z3 (by decide) (by decide)
        obtain ⟨s5, H5, e5, z5⟩ := add_ex s4 ⟨l1.toArray⟩ 150 100 z4 b1 (by decide)
        obtain ⟨s6, H6, e6, z6⟩ := add_ex s5 ⟨#[59, 32, 114, 111, 108, 101, 32]⟩ 250 7 z5 (by decide) (by decide)
        obtain ⟨s7, H7, e7, z7⟩ := add_ex s6 ⟨l2.toArray⟩ 257 100 z6 b2 (by decide)
        obtain ⟨s8, H8, e8, z8⟩ := add_ex s7 ⟨#[32, 111, 102, 32]⟩ 357 4 z7 (by decide) (by decide)
        obtain ⟨s9, H9, e9, z9⟩ := add_ex s8 ⟨l1.toArray⟩ 361 100 z8 b1 (by decide)
        obtain ⟨s10, H10, e10, z10⟩ := add_ex s9 ⟨#[59, 32, 97, 99, 116, 32]⟩ 461 6 z9 (by decide) (by decide)
        obtain ⟨s11, H11, e11, z11⟩ := add_ex s10 ⟨l3.toArray⟩ 467 100 z10 b3 (by decide)
        obtain ⟨s12, H12, e12, z12⟩ := add_ex s11 ⟨#[32, 98, 121, 32]⟩ 567 4 z11 (by decide) (by decide)
        obtain ⟨s13, H13, e13, z13⟩ := add_ex s12 ⟨l2.toArray⟩ 571 100 z12 b2 (by decide)
        obtain ⟨s14, H14, e14, z14⟩ := add_ex s13 ⟨#[32, 116, 111, 32]⟩ 671 4 z13 (by decide) (by decide)
        obtain ⟨s15, H15, e15, z15⟩ := add_ex s14 ⟨l1.toArray⟩ 675 100 z14 b1 (by decide)
        obtain ⟨s16, H16, e16, z16⟩ := add_ex s15 ⟨#[59, 32, 100, 117, 116, 121, 32]⟩ 775 7 z15 (by decide) (by decide)
        obtain ⟨s17, H17, e17, z17⟩ := add_ex s16 ⟨l4.toArray⟩ 782 100 z16 b4 (by decide)
        obtain ⟨s18, H18, e18, z18⟩ := add_ex s17 ⟨#[32, 111, 102, 32]⟩ 882 4 z17 (by decide) (by decide)
        obtain ⟨s19, H19, e19, z19⟩ := add_ex s18 ⟨l2.toArray⟩ 886 100 z18 b2 (by decide)
        obtain ⟨s20, H20, e20, z20⟩ := add_ex s19 ⟨#[32, 58, 32]⟩ 986 3 z19 (by decide) (by decide)
        obtain ⟨s21, H21, e21, z21⟩ := add_ex s20 ⟨l3.toArray⟩ 989 100 z20 b3 (by decide)
        obtain ⟨s22, H22, e22, z22⟩ := add_ex s21 ⟨#[32, 119, 105, 116, 104, 105, 110, 32]⟩ 1089 8 z21 (by decide) (by decide)
        obtain ⟨s23, H23, e23, z23⟩ := add_ex s22 ⟨l0.toArray⟩ 1097 100 z22 b0 (by decide)
        obtain ⟨s24, H24, e24, z24⟩ := add_ex s23 ⟨#[32, 105, 102, 32]⟩ 1197 4 z23 (by decide) (by decide)
        obtain ⟨s25, H25, e25, z25⟩ := add_ex s24 ⟨l4.toArray⟩ 1201 100 z24 b4 (by decide)
        obtain ⟨s26, H26, e26, z26⟩ := add_ex s25 ⟨#[32, 115, 116, 97, 114, 116, 101, 100, 32, 112, 97, 117, 115, 101, 100, 32, 98, 121, 32]⟩ 1301 19 z25 (by decide) (by decide)
        obtain ⟨s27, H27, e27, z27⟩ := add_ex s26 ⟨l3.toArray⟩ 1320 100 z26 b3 (by decide)
        obtain ⟨s28, H28, e28, z28⟩ := add_ex s27 ⟨#[32, 117, 110, 116, 105, 108, 32]⟩ 1420 7 z27 (by decide) (by decide)
        obtain ⟨s29, H29, e29, z29⟩ := add_ex s28 ⟨l0.toArray⟩ 1427 100 z28 b0 (by decide)
        obtain ⟨s30, H30, e30, z30⟩ := add_ex s29 ⟨#[32, 118, 97, 108, 117, 101, 32]⟩ 1527 7 z29 (by decide) (by decide)
        obtain ⟨s31, H31, e31, z31⟩ := add_ex s30 ⟨l1.toArray⟩ 1534 100 z30 b1 (by decide)
        obtain ⟨s32, H32, e32, z32⟩ := add_ex s31 ⟨#[32, 116, 111, 32]⟩ 1634 4 z31 (by decide) (by decide)
        obtain ⟨s33, H33, e33, z33⟩ := add_ex s32 ⟨l2.toArray⟩ 1638 100 z32 b2 (by decide)
        obtain ⟨sf, Hf, ef, zf⟩ := add_ex s33 ⟨#[32, 102, 105, 110, 97, 108]⟩ 1738 6 z33 (by decide) (by decide)
        obtain ⟨sg, Hg, eg, zg⟩ := add_ex s33 ⟨#[59]⟩ 1738 1 z33 (by decide) (by decide)
        obtain ⟨sh, Hh, eh, zh⟩ := add_ex sf ⟨#[59]⟩ 1744 1 zf (by decide) (by decide)
        have HTG : Hid (bs sg = ptext (namesPieces l0 l1 l2 l3 l4 n false)) := by
          show bs sg = _
          rw [Hg.out, H33.out, H32.out, H31.out, H30.out, H29.out, H28.out, H27.out, H26.out, H25.out, H24.out, H23.out, H22.out, H21.out, H20.out, H19.out, H18.out, H17.out, H16.out, H15.out, H14.out, H13.out, H12.out, H11.out, H10.out, H9.out, H8.out, H7.out, H6.out, H5.out, H4.out, H3.out, H2.out, H1.out]; exact names_text l0 l1 l2 l3 l4 n
        have HTH : Hid (bs sh = ptext (namesPieces l0 l1 l2 l3 l4 n true)) := by
          show bs sh = _
          rw [Hh.out, Hf.out, H33.out, H32.out, H31.out, H30.out, H29.out, H28.out, H27.out, H26.out, H25.out, H24.out, H23.out, H22.out, H21.out, H20.out, H19.out, H18.out, H17.out, H16.out, H15.out, H14.out, H13.out, H12.out, H11.out, H10.out, H9.out, H8.out, H7.out, H6.out, H5.out, H4.out, H3.out, H2.out, H1.out]; exact names_textf l0 l1 l2 l3 l4 n
        clear zf z1 z2 z3 z4 z5 z6 z7 z8 z9 z10 z11 z12 z13 z14 z15 z16 z17 z18 z19 z20 z21 z22 z23 z24 z25 z26 z27 z28 z29 z30 z31 z32 z33 Hf Hg Hh H1 H2 H3 H4 H5 H6 H7 H8 H9 H10 H11 H12 H13 H14 H15 H16 H17 H18 H19 H20 H21 H22 H23 H24 H25 H26 H27 H28 H29 H30 H31 H32 H33
        go_upto_region 8 with fail
        rw [HMN.out]
        simp only [List.cons_append, List.nil_append, List.append_eq]
        go_cut [10] (fun s10 wx => s10 = .string s33 ∧ Hid (NBW w [l0, l1, l2, l3, l4] wx))
        case first =>
          go_region_held3 (fun w' => Hid (NBW w [l0, l1, l2, l3, l4] w') ∧ w'.cell? ⟨w.heap.size, 0, none⟩ = some (.string ⟨l0.toArray⟩) ∧ w'.cell? ⟨w.heap.size, 1, none⟩ = some (.string ⟨l1.toArray⟩) ∧ w'.cell? ⟨w.heap.size, 2, none⟩ = some (.string ⟨l2.toArray⟩) ∧ w'.cell? ⟨w.heap.size, 3, none⟩ = some (.string ⟨l3.toArray⟩) ∧ w'.cell? ⟨w.heap.size, 4, none⟩ = some (.string ⟨l4.toArray⟩)) (first | exact sn_mk (by assumption) | exact sn_drew (by assumption))
            ((go_at_call 20; refine (decimal_nb w [l0, l1, l2, l3, l4] n hn6 _ (by first | assumption | exact nbw_drew (by assumption))).mono ?_; rintro e wd ⟨rfl, ZD⟩))
          go_wp2_with fail
          go_meet
          exact ⟨rfl, ZD⟩
        case rest =>
          obtain ⟨rfl, ZD⟩ := hcut
          clear e1 e2 e3 e4 e5 e6 e7 e8 e9 e10 e11 e12 e13 e14 e15 e16 e17 e18 e19 e20 e21 e22 e23 e24 e25 e26 e27 e28 e29 e30 e31 e32 e33
          obtain ⟨sx, sy, ex, HT, zx, q0, q1⟩ : ∃ sx sy : ByteArray, (∀ w : World, (Op.stringOp .add sx ⟨#[59]⟩).run Tryd.prog w = .ok (.string sy) w) ∧ Hid (bs sy = ptext (namesPieces l0 l1 l2 l3 l4 n fin)) ∧ sy.size ≤ 1000000 ∧ (fin = false → sx = s33) ∧ (fin = true → sx = sf) := by
            cases fin
            · exact ⟨s33, sg, eg, HTG, by omega, fun _ => rfl, (fun h => by cases h)⟩
            · exact ⟨sf, sh, eh, HTH, by omega, (fun h => by cases h), fun _ => rfl⟩
          have Q0 := Lib.hid q0; have Q1 := Lib.hid q1
          clear q0 q1 eg eh HTG HTH zg zh
          go_upto_if 104 with fail
          go_cut [10] (fun s10 wx => s10 = .string sx ∧ wx = wc)
          case first =>
            go_wp2_with fail
            · go_meet
              exact ⟨by rw [Q1.out (by assumption)], rfl⟩
            · go_meet
              exact ⟨by rw [Q0.out (by assumption)], rfl⟩
          case rest =>
            obtain ⟨rfl, rfl⟩ := hcut
            clear ef Q0 Q1
            go_wp2_with fail
            refine (parse_okv sy wc (by omega) (HW.out.below ZD.out.1) src (by rw [HT.out]; exact HSRC.out)).mono ?_
            rintro e w2 ⟨⟨si, rfl, hv⟩, hb2⟩
            obtain ⟨A1, c1, rfl, _⟩ := hv.form
            have Z2 : Hid (NBW w [l0, l1, l2, l3, l4] w2) := nbw_below ZD.out hb2
            clear hb2 HT ex zx ZD
            have Z3 : Hid (NBW w [l0, l1, l2, l3, l4] (w2.alloc (.cells (srcells src.name src.frm src.days (.slice A1 src.items.length c1)).toArray 27))) := nbw_below Z2.out ((Below.refl _ w2).alloc (Nat.le_refl _) _)
            have HS3 : Hid (SB w2.heap.size src.name src.frm src.days (.slice A1 src.items.length c1) (w2.alloc (.cells (srcells src.name src.frm src.days (.slice A1 src.items.length c1)).toArray 27))) := blk_newn rfl
            have HV3 := Lib.hid (hv.below ((Below.refl _ w2).alloc (Nat.le_refl _) (.cells (srcells src.name src.frm src.days (.slice A1 src.items.length c1)).toArray 27)))
            clear hv Z2
            go_upto_region 12 with (refine wpList_store_new rfl 27 _ _ rfl rfl (srcells src.name src.frm src.days (.slice A1 src.items.length c1)).toArray rfl info_src (srcells_one _ _ _ _ ⟨_, _, _, rfl⟩) (by rfl) ?_)
            generalize (w2.alloc (.cells (srcells src.name src.frm src.days (.slice A1 src.items.length c1)).toArray 27)) = u3 at *
            rw [HE1.out, HE2.out, HE3.out] at HS3
            obtain ⟨HZ3, d0, d1, d2, d3, d4⟩ := sn_mk Z3
            clear Z3
            go_upto_if 117 with fail
            go_cut [14] (fun s14 wx => s14 = .string ⟨(nature l2).toArray⟩ ∧ wx = u3)
            case first =>
              go_wp2_with fail
              · rename_i hnn
                have hl2 := str_yes hnn
                go_meet
                exact ⟨by rw [hl2], rfl⟩
              · rename_i hnn
                have hl2 := str_no hnn
                go_meet
                exact ⟨by rw [hl2], rfl⟩
            case rest =>
              obtain ⟨rfl, rfl⟩ := hcut
              have lw : w.heap.size < wc.heap.size := World.block_lt_of_cell? wc _ d0
              have n0 : (wc.alloc (.cells #[.string ⟨l4.toArray⟩, .int .i64 1] 59)).cell? ⟨w.heap.size, 0, none⟩ = some (.string ⟨l0.toArray⟩) := (World.cell?_alloc_lt wc _ _ lw).trans d0
              have n1 : (wc.alloc (.cells #[.string ⟨l4.toArray⟩, .int .i64 1] 59)).cell? ⟨w.heap.size, 1, none⟩ = some (.string ⟨l1.toArray⟩) := (World.cell?_alloc_lt wc _ _ lw).trans d1
              have n2 : (wc.alloc (.cells #[.string ⟨l4.toArray⟩, .int .i64 1] 59)).cell? ⟨w.heap.size, 2, none⟩ = some (.string ⟨l2.toArray⟩) := (World.cell?_alloc_lt wc _ _ lw).trans d2
              have n3 : (wc.alloc (.cells #[.string ⟨l4.toArray⟩, .int .i64 1] 59)).cell? ⟨w.heap.size, 3, none⟩ = some (.string ⟨l3.toArray⟩) := (World.cell?_alloc_lt wc _ _ lw).trans d3
              go_upto_region 15 with fail
              go_cut [15] (fun s15 wx => ∃ b : Nat, s15 = .slice (some ⟨b, 0, none⟩) 4 4 ∧ Hid (VItems wx (namesWant l0 l1 l2 l3 l4 fin) (.slice (some ⟨b, 0, none⟩) 4 4)) ∧ Hid (Below w.heap.size w wx) ∧ Hid (SB w2.heap.size l0 ⟨1, 2, 3⟩ n (.slice A1 src.items.length c1) wx) ∧ Hid (VItems wx src.items (.slice A1 src.items.length c1)) ∧ wx.cell? ⟨w.heap.size, 0, none⟩ = some (.string ⟨l0.toArray⟩))
              case first =>
                iterate 7 go_step
                refine Pr.wpList_build rfl 57 _ rfl #[(0, .int .i64 1), (1, .string ⟨l1.toArray⟩)] ?_ _ (build_1 l1 _) ?_
                · first | rfl | simp [Act.eval, Act.put]
                iterate 12 go_step
                refine Pr.wpList_build rfl 57 _ rfl #[(0, .int .i64 2), (1, .string ⟨l2.toArray⟩), (3, .string ⟨l1.toArray⟩)] ?_ _ (build_2 l2 l1 _) ?_
                · first | rfl | simp [Act.eval, Act.put]
                iterate 15 go_step
                refine Pr.wpList_build rfl 57 _ rfl #[(0, .int .i64 8), (1, .string ⟨l3.toArray⟩), (5, .int .i64 1), (3, .string ⟨(nature l2).toArray⟩), (17, .string ⟨l1.toArray⟩)] ?_ _ (build_3 l3 (nature l2) l1 _) ?_
                · first | rfl | simp [Act.eval, Act.put]
                iterate 66 go_step
                refine Pr.wpList_build rfl 57 _ rfl #[(0, .int .i64 9), (1, .string ⟨l4.toArray⟩), (3, .string ⟨l2.toArray⟩), (4, .string ⟨l3.toArray⟩), (6, .int .i64 1), (7, .agg #[.int .i64 0, .bool false, .string ⟨l0.toArray⟩]), (9, .slice (some ⟨wc.heap.size, 0, none⟩) 1 1), (10, .string ⟨l3.toArray⟩), (11, .string ⟨l0.toArray⟩), (14, .string ⟨l1.toArray⟩), (17, .string ⟨l2.toArray⟩), (15, .bool fin)] ?_ _ (build_4 l0 l1 l2 l3 l4 wc.heap.size fin _) ?_
                · first | rfl | simp [Act.eval, Act.put]
                refine wpList_buildSlice rfl 25 4 _ rfl #[(0, .agg (icells { flat0 with kind := 1, name := l1 } nil nil nil nil).toArray), (1, .agg (icells { flat0 with kind := 2, name := l2, of_ := l1 } nil nil nil nil).toArray), (2, .agg (icells { flat0 with kind := 8, name := l3, of_ := nature l2, word := 1, to_ := l1 } nil nil nil nil).toArray), (3, .agg (icells { flat0 with kind := 9, name := l4, of_ := l2, act := l3, times := 1, within := ⟨0, false, l0⟩, conds := [⟨l4, 1⟩], by_ := l3, til := l0, sum := l1, to_ := l2, fin := fin } (.slice (some ⟨wc.heap.size, 0, none⟩) 1 1) nil nil nil).toArray)] ?_ _ (build_all { flat0 with kind := 1, name := l1 } { flat0 with kind := 2, name := l2, of_ := l1 } { flat0 with kind := 8, name := l3, of_ := nature l2, word := 1, to_ := l1 } { flat0 with kind := 9, name := l4, of_ := l2, act := l3, times := 1, within := ⟨0, false, l0⟩, conds := [⟨l4, 1⟩], by_ := l3, til := l0, sum := l1, to_ := l2, fin := fin } (.slice (some ⟨wc.heap.size, 0, none⟩) 1 1) _) ?_
                · first | rfl | simp [Act.eval, Act.put]
                obtain ⟨u6, E6, V6, B6⟩ := want_all wc l0 l1 l2 l3 l4 fin
                rw [E6.out]
                go_wp2_with fail
                go_meet
                exact ⟨wc.heap.size + 1, rfl, V6, HZ3.out.1.trans (B6.out.mono HZ3.out.1.size), (B6.out.block _ (lt_of_blk HS3.out)).trans HS3.out, HV3.out.below B6.out, (B6.out.cell (p := ⟨w.heap.size, 0, none⟩) lw).trans d0⟩
              case rest =>
                obtain ⟨b, rfl, HWT, HBW, HS, HVB, e0⟩ := hcut
                clear d0 d1 d2 d3 d4 n0 n1 n2 n3 HS3 HV3 HZ3
                have x0 : wc.cell? ⟨w2.heap.size, 0, none⟩ = some (.string ⟨l0.toArray⟩) := cell_of_blk HS.out 0
                have x1 : wc.cell? ⟨w2.heap.size, 1, none⟩ = some (.int .i64 1) := cell_of_blk HS.out 1
                have x2 : wc.cell? ⟨w2.heap.size, 2, none⟩ = some (.int .i64 2) := cell_of_blk HS.out 2
                have x3 : wc.cell? ⟨w2.heap.size, 3, none⟩ = some (.int .i64 3) := cell_of_blk HS.out 3
                have x4 : wc.cell? ⟨w2.heap.size, 4, none⟩ = some (.int .i64 (n : Int)) := cell_of_blk HS.out 4
                have x5 : wc.cell? ⟨w2.heap.size, 5, none⟩ = some (.slice A1 src.items.length c1) := cell_of_blk HS.out 5
                have hq := eq_civil 1 2 3
                go_wp2_with fail
                refine (items_eq false src.items (namesWant l0 l1 l2 l3 l4 fin) _ _ wc (All2.symm (fun _ _ h => h.symm) HALL.out) HVB.out HWT.out).mono ?_
                rintro e wz ⟨rfl, hbz⟩
                have HBZ : Hid (Below w.heap.size w wz) := HBW.out.trans (hbz.mono HBW.out.size)
                clear hbz
                go_wp2_with fail
                go_ret
                exact ⟨rfl, HBZ.out⟩
end Go.Proofs.YtfaflipphkoiiaaDoor
