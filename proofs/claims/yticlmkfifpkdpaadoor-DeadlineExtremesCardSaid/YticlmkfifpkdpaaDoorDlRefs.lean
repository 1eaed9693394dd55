/-
  The law's helpers of chapter 5 walked: Nodes, small, Ordered, on, of.
-/
import Derived.Test.YticlmkfifpkdpaaDoorDlBounds
import Derived.Deep.QuietTactic
namespace Go.Proofs.YticlmkfifpkdpaaDoor.Dl
open Go.RowKit Mem Vw
set_option linter.unusedVariables false
set_option linter.unusedSimpArgs false

def NR (kids : List Term) (W : World) (sv iv : Value) (wr : World) : Prop := ∃ (m : Int) (i : Nat), sv = .int .i64 m ∧ iv = .int .i64 i ∧ i ≤ kids.length ∧ Hid (Below W.heap.size W wr)
set_option maxRecDepth 100000 in
theorem refNodes_any : ∀ (t : Term) (tv : Value) (W : World), Tree W t tv → Calls Tryd.prog 52 #[.agg (tc (t, tv)).toArray] W fun e w' => (∃ m : Int, e = .returned (.int .i64 m)) ∧ Below W.heap.size W w' := by
  refine Term.ind ?_
  intro k n e b kids ih tv W hT
  obtain ⟨ks, hks, hrow, htree⟩ := hT.kids
  have hks : ks.map Prod.fst = kids := hks
  have HKS := Lib.hid hks
  obtain ⟨A, cp, hv1, hc1, hc2⟩ := hT.slice
  have hv1 : tv = .slice A kids.length cp := hv1
  have hc1 : kids.length ≤ cp := hc1
  subst hv1
  have HIH := Lib.hid ih
  show Calls Tryd.prog 52 #[.agg #[.int .i64 k, .int .i64 n, .int .i64 e, .bool b, .slice A kids.length cp]] W _
  obtain ⟨w0, HW0⟩ : ∃ w0, Hid (W.alloc (.cells #[.int .i64 k, .int .i64 n, .int .i64 e, .bool b, .slice A kids.length cp] 31) = w0) := ⟨_, rfl⟩
  have HB0 : Hid (w0.heap[W.heap.size]? = some (.cells #[.int .i64 k, .int .i64 n, .int .i64 e, .bool b, .slice A kids.length cp] 31 (0, 0))) := by rw [← HW0.out]; exact blk_newn rfl
  have HBE : Hid (Below W.heap.size W w0) := by rw [← HW0.out]; exact (Below.refl _ W).alloc (Nat.le_refl _) _
  have HROW := Lib.hid hrow; have HTR := Lib.hid htree
  clear hks hrow htree hT ih
  go_enter Tryd.func52, Tryd.ntmps52
  go_upto_region 1 with fail
  rw [HW0.out]
  clear HW0
  go_wp2_with fail
  go_loopw [3, 4] (fun sv iv wr => NR kids W sv iv wr ∧ Hid (wr.heap[W.heap.size]? = some (.cells #[.int .i64 k, .int .i64 n, .int .i64 e, .bool b, .slice A kids.length cp] 31 (0, 0)))) (fun _ iv _ => kids.length - (intOf iv).toNat)
  case atStart => exact ⟨⟨1, 0, rfl, rfl, by omega, HBE.out⟩, HB0.out⟩
  case round =>
    obtain ⟨⟨m, i, rfl, rfl, hi, HBW⟩, HBT⟩ := hrel
    have t4 : wr.cell? ⟨W.heap.size, 4, none⟩ = some (.slice A kids.length cp) := cell_of_blk HBT.out 4
    by_cases hlt : i < kids.length
    · have hkl2 : i < ks.length := by rw [← HKS.out, List.length_map] at hlt; exact hlt
      obtain ⟨x, hx⟩ : ∃ x, ks[i]? = some x := ⟨_, List.getElem?_eq_getElem hkl2⟩
      have HXM : Hid (x ∈ ks) := List.mem_of_getElem? hx
      have HXK : Hid (kids[i]? = some x.1) := by show _ = _; rw [← HKS.out, List.getElem?_map, hx]; rfl
      obtain ⟨g, o, cg, hvv, hg, _, _, hrr⟩ := HROW.out.at (by intro h; have h2 := congrArg List.length h; rw [List.length_map] at h2; simp at h2; rw [h2] at hkl2; exact absurd hkl2 (by simp))
      injection hvv with hvv1 hvv2 hvv3
      subst hvv1 hvv3
      have hat := hrr i (tc x) (by rw [List.getElem?_map, hx]; rfl)
      have hcell : ∀ j v, (tc x)[j]? = some v → wr.cell? ⟨g, o + i * 5 + j, none⟩ = some v := fun j v hj => (World.cell?_of_block (a := ⟨g, o + i * 5 + j, none⟩) (HBW.out.block g hg)).trans (hat j v hj)
      have q0 := hcell 0 _ rfl; have q1 := hcell 1 _ rfl; have q2 := hcell 2 _ rfl; have q3 := hcell 3 _ rfl; have q5 := hcell 4 _ rfl
      rw [Nat.add_zero] at q0
      clear hrr hat hcell hx hvv2
      obtain ⟨x, xv⟩ := x
      have HXT := Lib.hid (HTR.out _ HXM.out)
      obtain ⟨xk, xn, xe, xb, xl⟩ := x
      dsimp only [Term.kind, Term.n, Term.ev, Term.bus, nv] at q0 q1 q2 q3 q5
      have HC := Lib.hid (HIH.out (.mk xk xn xe xb xl) (List.mem_of_getElem? HXK.out) xv wr (HXT.out.keep HBW.out))
      go_wp2_with fail
      refine HC.out.mono ?_
      rintro e9 w1 ⟨⟨m1, rfl⟩, hb1⟩
      have HBW1 : Hid (Below W.heap.size W w1) := HBW.out.trans (hb1.mono HBW.out.size)
      have HBT1 := Lib.hid ((hb1.block _ (lt_of_blk HBT.out)).trans HBT.out)
      clear hb1 HC q0 q1 q2 q3 q5 t4
      go_wp2_with fail
      go_roundw
      case rel => exact ⟨⟨_, i + 1, rfl, by go_num, by omega, HBW1⟩, HBT1⟩
      case measure => simp [intOf]; omega
    · go_wp2_with fail
      go_ret
      exact ⟨⟨_, rfl⟩, HBW.out⟩
/-- What small returns. -/
def SmOk (l : List When) (e : Ending) : Prop := ∃ b, e = .returned (.bool b) ∧ (b = true → l.length ≤ 40)
set_option maxRecDepth 100000 in
theorem small_any (t : Term) (tv : Value) (l : List When) (A : Option Addr) (n : Nat) (W : World) (hT : Tree W t tv) :
    Calls Tryd.prog 26 #[.agg (tc (t, tv)).toArray, .slice A l.length n] W fun e w' => SmOk l e ∧ Below W.heap.size W w' := by
  obtain ⟨Ak, cp, hv1, hc1, hc2⟩ := hT.slice
  subst hv1
  have HT := Lib.hid hT; clear hT
  obtain ⟨k, m, e, b, kids⟩ := t
  show Calls Tryd.prog 26 #[.agg #[.int .i64 k, .int .i64 m, .int .i64 e, .bool b, .slice Ak kids.length cp], .slice A l.length n] W _
  obtain ⟨w0, HW0⟩ : ∃ w0, Hid (W.alloc (.cells #[.int .i64 k, .int .i64 m, .int .i64 e, .bool b, .slice Ak kids.length cp] 31) = w0) := ⟨_, rfl⟩
  have HB0 : Hid (w0.heap[W.heap.size]? = some (.cells #[.int .i64 k, .int .i64 m, .int .i64 e, .bool b, .slice Ak kids.length cp] 31 (0, 0))) := by rw [← HW0.out]; exact blk_newn rfl
  have HBE : Hid (Below W.heap.size W w0) := by rw [← HW0.out]; exact (Below.refl _ W).alloc (Nat.le_refl _) _
  have t0 : w0.cell? ⟨W.heap.size, 0, none⟩ = some (.int .i64 k) := cell_of_blk HB0.out 0
  have t1 : w0.cell? ⟨W.heap.size, 1, none⟩ = some (.int .i64 m) := cell_of_blk HB0.out 1
  have t2 : w0.cell? ⟨W.heap.size, 2, none⟩ = some (.int .i64 e) := cell_of_blk HB0.out 2
  have t3 : w0.cell? ⟨W.heap.size, 3, none⟩ = some (.bool b) := cell_of_blk HB0.out 3
  have t4 : w0.cell? ⟨W.heap.size, 4, none⟩ = some (.slice Ak kids.length cp) := cell_of_blk HB0.out 4
  have HN := Lib.hid (refNodes_any (.mk k m e b kids) (.slice Ak kids.length cp) w0 (HT.out.keep HBE.out))
  go_enter Tryd.func26, Tryd.ntmps26
  go_upto_region 1 with fail
  rw [HW0.out]
  clear HW0
  go_wp2_with fail
  refine HN.out.mono ?_
  rintro e9 w1 ⟨⟨q, rfl⟩, hb1⟩
  have HB1 : Hid (Below W.heap.size W w1) := HBE.out.trans (hb1.mono HBE.out.size)
  clear hb1 HN t0 t1 t2 t3 t4
  by_cases hq : q ≤ 60
  · by_cases hl : l.length ≤ 40
    · have HL := Lib.hid hl
      have hlf : decide ((l.length : Int) ≤ 40) = true := decide_eq_true (by omega)
      clear hl
      go_wp2_with fail
      go_ret
      exact ⟨⟨true, rfl, fun _ => HL.out⟩, HB1.out⟩
    · have hlf : decide ((l.length : Int) ≤ 40) = false := decide_eq_false (by omega)
      clear hl
      go_wp2_with fail
      go_ret
      exact ⟨⟨false, rfl, fun h => by cases h⟩, HB1.out⟩
  · go_wp2_with fail
    go_ret
    exact ⟨⟨false, rfl, fun h => by cases h⟩, HB1.out⟩
def OR_ (x y : List When) (W : World) (iv : Value) (wr : World) : Prop := ∃ k : Nat, iv = .int .i64 k ∧ k ≤ x.length ∧ Hid (ordered x y = ordered (x.drop k) (y.drop k)) ∧ Hid (∃ m, wr = W.drewN m)
set_option maxRecDepth 100000 in
set_option maxHeartbeats 4000000 in
theorem refOrdered_any (x : List When) (xv : Value) (y : List When) (yv : Value) (W : World) (hX : EvsAt W x xv) (hY : EvsAt W y yv) : Calls Tryd.prog 27 #[xv, yv] W fun e w' => e = .returned (.bool (ordered x y)) ∧ Below W.heap.size W w' := by
  obtain ⟨Ax, nx, hxv, hx1, hx2, hxc⟩ := hX.slice
  subst hxv
  obtain ⟨Ay, ny, hyv, hy1, hy2, hyc⟩ := hY.slice
  subst hyv
  have HXC := Lib.hid hxc; have HYC := Lib.hid hyc
  clear hX hY hxc hyc
  obtain ⟨res, HRES⟩ : ∃ r, Hid (ordered x y = r) := ⟨_, rfl⟩
  rw [HRES.out]
  by_cases hl : x.length = y.length
  case neg =>
    have HR : Hid (res = false) := by
      show _ = _
      rw [← HRES.out]
      cases h : ordered x y
      · rfl
      · exact absurd (ordered_len h) hl
    have hbn : ((x.length : Int) != (y.length : Int)) = true := by simp; omega
    go_enter Tryd.func27, Tryd.ntmps27
    go_wp2_with fail
    go_ret
    exact ⟨by rw [HR.out]; rfl, Below.refl _ _⟩
  have HL := Lib.hid hl
  have hbn : ((x.length : Int) != (y.length : Int)) = false := by simp; omega
  clear hl
  go_enter Tryd.func27, Tryd.ntmps27
  go_wp2_with fail
  go_loopw [5] (fun iv wr => OR_ x y W iv wr) (fun iv _ => x.length - (intOf iv).toNat)
  case atStart => exact ⟨0, rfl, by omega, rfl, ⟨0, rfl⟩⟩
  case round =>
    obtain ⟨i, rfl, hi, HO, HDW⟩ := hrel
    by_cases hlt : i < x.length
    · obtain ⟨a, ha⟩ : ∃ a, x[i]? = some a := ⟨_, List.getElem?_eq_getElem hlt⟩
      obtain ⟨d, hd⟩ : ∃ d, y[i]? = some d := ⟨_, List.getElem?_eq_getElem (by have := HL.out; omega)⟩
      have HST := Lib.hid (ordered_drop ha hd)
      obtain ⟨gx, ox, hAx, hgx, a0, a1, a2⟩ := HXC.out i a ha
      obtain ⟨gy, oy, hAy, hgy, d0, d1, d2⟩ := HYC.out i d hd
      subst hAx hAy
      obtain ⟨mm, hmm⟩ := HDW.out
      have HMM := Lib.hid hmm
      have a0 : wr.cell? ⟨gx, ox + i * 3, none⟩ = some (.bool a.known) := by rw [hmm]; exact a0
      have a1 : wr.cell? ⟨gx, ox + i * 3 + 1, none⟩ = some (.int .i64 a.day) := by rw [hmm]; exact a1
      have a2 : wr.cell? ⟨gx, ox + i * 3 + 2, none⟩ = some (.int .i64 a.min) := by rw [hmm]; exact a2
      have d0 : wr.cell? ⟨gy, oy + i * 3, none⟩ = some (.bool d.known) := by rw [hmm]; exact d0
      have d1 : wr.cell? ⟨gy, oy + i * 3 + 1, none⟩ = some (.int .i64 d.day) := by rw [hmm]; exact d1
      have d2 : wr.cell? ⟨gy, oy + i * 3 + 2, none⟩ = some (.int .i64 d.min) := by rw [hmm]; exact d2
      have hly : i < y.length := by have := HL.out; omega
      clear ha hd hgx hgy hmm
      obtain ⟨ak, ad, am⟩ := a
      obtain ⟨dk, dd, dm⟩ := d
      dsimp only at a0 a1 a2 d0 d1 d2
      have HPO : Hid (pairOk ⟨ak, ad, am⟩ ⟨dk, dd, dm⟩ = (decide (ak = dk) && (!ak || !(decide (ad > dd) || decide (ad = dd) && decide (am > dm))))) := rfl
      have no : pairOk ⟨ak, ad, am⟩ ⟨dk, dd, dm⟩ = false → res = false := fun h => by rw [← HRES.out, HO.out, HST.out, h]; rfl
      have yes : pairOk ⟨ak, ad, am⟩ ⟨dk, dd, dm⟩ = true → ordered x y = ordered (x.drop (i + 1)) (y.drop (i + 1)) := fun h => by rw [HO.out, HST.out, h]; rfl
      have HNOO := Lib.hid no; have HYES := Lib.hid yes
      clear no yes
      have HBY : Hid (∀ m, Below W.heap.size W (wr.drewN m)) := fun m => by
        obtain ⟨j, hj⟩ := HDW.out
        rw [hj]
        exact below_drewN (below_drewN (Below.refl _ W) j) m
      cases ak <;> cases dk
      · have HNX := Lib.hid (HYES.out (by rw [HPO.out]; simp))
        go_upto_region 6 with fail
        go_quiet (fail)
        go_upto_region 8 with fail
        go_quiet (fail)
        go_wp2_with fail
        go_roundw
        case rel => exact ⟨i + 1, by go_num, by omega, HNX, by obtain ⟨j, hj⟩ := HDW.out; exact ⟨_, by rw [hj, World.drewN_drewN]⟩⟩
        case measure => simp [intOf]; omega
      · have HNO := Lib.hid (HNOO.out (by rw [HPO.out]; simp))
        go_upto_region 6 with fail
        go_quiet (fail)
        go_wp2_with fail
        go_ret
        exact ⟨by rw [HNO.out]; rfl, HBY.out _⟩
      · have HNO := Lib.hid (HNOO.out (by rw [HPO.out]; simp))
        go_upto_region 6 with fail
        go_quiet (fail)
        go_wp2_with fail
        go_ret
        exact ⟨by rw [HNO.out]; rfl, HBY.out _⟩
      · by_cases hgt : dd < ad
        · have HNO := Lib.hid (HNOO.out (by rw [HPO.out]; simp; omega))
          go_upto_region 6 with fail
          go_quiet (fail)
          go_upto_region 8 with fail
          go_quiet (fail)
          go_wp2_with fail
          go_ret
          exact ⟨by rw [HNO.out]; rfl, HBY.out _⟩
        · have hgf : decide (dd < ad) = false := decide_eq_false hgt
          by_cases heq : ad = dd
          · subst heq
            by_cases hm : dm < am
            · have HNO := Lib.hid (HNOO.out (by rw [HPO.out]; simp; omega))
              go_upto_region 6 with fail
              go_quiet (fail)
              go_upto_region 8 with fail
              go_quiet (fail)
              go_wp2_with fail
              go_ret
              exact ⟨by rw [HNO.out]; rfl, HBY.out _⟩
            · have hmf : decide (dm < am) = false := decide_eq_false hm
              have HNX := Lib.hid (HYES.out (by rw [HPO.out]; simp; omega))
              go_upto_region 6 with fail
              go_quiet (fail)
              go_upto_region 8 with fail
              go_quiet (fail)
              go_wp2_with fail
              go_roundw
              case rel => exact ⟨i + 1, by go_num, by omega, HNX, by obtain ⟨j, hj⟩ := HDW.out; exact ⟨_, by rw [hj, World.drewN_drewN]⟩⟩
              case measure => simp [intOf]; omega
          · have hne : (ad == dd) = false := beq_eq_false_iff_ne.2 heq
            have HNX := Lib.hid (HYES.out (by rw [HPO.out]; simp; omega))
            go_upto_region 6 with fail
            go_quiet (fail)
            go_upto_region 8 with fail
            go_quiet (fail)
            go_wp2_with fail
            go_roundw
            case rel => exact ⟨i + 1, by go_num, by omega, HNX, by obtain ⟨j, hj⟩ := HDW.out; exact ⟨_, by rw [hj, World.drewN_drewN]⟩⟩
            case measure => simp [intOf]; omega
    · have HYS : Hid (res = true) := by
        have hie : i = x.length := by omega
        show _ = _
        rw [← HRES.out, HO.out, hie, List.drop_length, List.drop_of_length_le (by have := HL.out; omega)]
        rfl
      have HBY : Hid (Below W.heap.size W wr) := by
        obtain ⟨j, hj⟩ := HDW.out
        rw [hj]
        exact below_drewN (Below.refl _ W) j
      go_wp2_with fail
      go_ret
      exact ⟨by rw [HYS.out]; rfl, HBY.out⟩
end Go.Proofs.YticlmkfifpkdpaaDoor.Dl
