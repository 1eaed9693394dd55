/-
  estoppelref33.Small, few, Formed walked. What the walks of chapter 33's laws share: the boxes of the rule and the notice.
-/
import Derived.Test.YticlmkfifpkdpaaDoorRcHead
namespace Go.Proofs.YticlmkfifpkdpaaDoor.Rc
open Go.RowKit Go.Shelf Mem Vw
open Dl (When Term Cal noev whenc nv tc ccs Tree CalAt wf C0 Bf bf_keep)
set_option linter.unusedVariables false
set_option linter.unusedSimpArgs false
def IsBool (e : Ending) : Prop := ∃ b, e = .returned (.bool b)
def FR (kids : List Term) (W : World) (iv : Value) (wr : World) : Prop := ∃ (i : Nat), iv = .int .i64 i ∧ i ≤ kids.length ∧ Hid (Below W.heap.size W wr)
set_option maxRecDepth 100000 in
set_option maxHeartbeats 4000000 in
theorem few_any : ∀ (t : Term) (tv : Value) (d : Int) (W : World), Tree W t tv → 0 ≤ d → d ≤ 100 → Calls Tryd.prog 36 #[.agg (tc (t, tv)).toArray, .int .i64 d] W fun e w' => IsBool e ∧ Below W.heap.size W w' := by
  refine Term.ind ?_
  intro k n e b kids ih tv d W hT hd0 hd1
  obtain ⟨ks, hks, hrow, htree⟩ := hT.kids
  have hks : ks.map Prod.fst = kids := hks
  have HKS := Lib.hid hks
  obtain ⟨A, cp, hv1, hc1, hc2⟩ := hT.slice
  have hv1 : tv = .slice A kids.length cp := hv1
  have hc1 : kids.length ≤ cp := hc1
  subst hv1
  have HIH := Lib.hid ih
  show Calls Tryd.prog 36 #[.agg #[.int .i64 k, .int .i64 n, .int .i64 e, .bool b, .slice A kids.length cp], .int .i64 d] W _
  obtain ⟨w0, HW0⟩ : ∃ w0, Hid (W.alloc (.cells #[.int .i64 k, .int .i64 n, .int .i64 e, .bool b, .slice A kids.length cp] 31) = w0) := ⟨_, rfl⟩
  have HB0 : Hid (w0.heap[W.heap.size]? = some (.cells #[.int .i64 k, .int .i64 n, .int .i64 e, .bool b, .slice A kids.length cp] 31 (0, 0))) := by rw [← HW0.out]; exact blk_newn rfl
  have HBE : Hid (Below W.heap.size W w0) := by rw [← HW0.out]; exact (Below.refl _ W).alloc (Nat.le_refl _) _
  have HROW := Lib.hid hrow; have HTR := Lib.hid htree
  clear hks hrow htree hT ih
  have t4 : w0.cell? ⟨W.heap.size, 4, none⟩ = some (.slice A kids.length cp) := Mem.cell_of_blk HB0.out 4
  go_enter Tryd.func36, Tryd.ntmps36
  go_upto_region 1 with fail
  rw [HW0.out]
  clear HW0
  by_cases hd : d = 0
  · subst hd
    go_wp2_with fail
    go_ret
    exact ⟨⟨_, rfl⟩, HBE.out⟩
  have hdb : (d == 0) = false := beq_eq_false_iff_ne.2 hd
  by_cases hk45 : (kids.length : Int) > 45
  · go_wp2_with fail
    go_ret
    exact ⟨⟨_, rfl⟩, HBE.out⟩
  clear t4
  have t4 : w0.cell? ⟨W.heap.size, 4, none⟩ = some (.slice A kids.length cp) := Mem.cell_of_blk HB0.out 4
  go_wp2_with fail
  go_loopw [5] (fun iv wr => FR kids W iv wr ∧ Hid (wr.heap[W.heap.size]? = some (.cells #[.int .i64 k, .int .i64 n, .int .i64 e, .bool b, .slice A kids.length cp] 31 (0, 0)))) (fun iv _ => kids.length - (intOf iv).toNat)
  case atStart => exact ⟨⟨0, rfl, by omega, HBE.out⟩, HB0.out⟩
  case round =>
    clear t4
    obtain ⟨⟨i, rfl, hi, HBW⟩, HBT⟩ := hrel
    have t4 : wr.cell? ⟨W.heap.size, 4, none⟩ = some (.slice A kids.length cp) := Mem.cell_of_blk HBT.out 4
    by_cases hlt : i < kids.length
    · have hkl2 : i < ks.length := by rw [← HKS.out, List.length_map] at hlt; exact hlt
      obtain ⟨x, hx⟩ : ∃ x, ks[i]? = some x := ⟨_, List.getElem?_eq_getElem hkl2⟩
      have HXM : Hid (x ∈ ks) := List.mem_of_getElem? hx
      have HXK : Hid (kids[i]? = some x.1) := by show _ = _; rw [← HKS.out, List.getElem?_map, hx]; rfl
      obtain ⟨g, o, cg, hvv, hg, _, _, hrr⟩ := HROW.out.at (by intro h; have h2 := congrArg List.length h; rw [List.length_map] at h2; simp at h2; rw [h2] at hkl2; exact absurd hkl2 (by simp))
      injection hvv with hvv1 hvv2 hvv3
      subst hvv1 hvv3
      have hat := hrr i (tc x) (by rw [List.getElem?_map, hx]; rfl)
      have hcell : ∀ j v, (tc x)[j]? = some v → wr.cell? ⟨g, o + i * 5 + j, none⟩ = some v := fun j v hj => (World.cell?_of_block (a := ⟨g, o + i * 5 + j, none⟩) (HBW.out.block g hg)).trans (hat j v hj)
      have q0 := hcell 0 _ rfl; have q1 := hcell 1 _ rfl; have q2 := hcell 2 _ rfl; have q3 := hcell 3 _ rfl; have q5 := hcell 4 _ rfl
      rw [Nat.add_zero] at q0
      clear hrr hat hcell hx hvv2
      obtain ⟨x, xv⟩ := x
      have HXT := Lib.hid (HTR.out _ HXM.out)
      obtain ⟨xk, xn, xe, xb, xl⟩ := x
      dsimp only [Term.kind, Term.n, Term.ev, Term.bus, nv] at q0 q1 q2 q3 q5
      have HC := Lib.hid (HIH.out (.mk xk xn xe xb xl) (List.mem_of_getElem? HXK.out) xv (d - 1) wr (HXT.out.keep HBW.out) (by omega) (by omega))
      go_wp2_with fail
      refine HC.out.mono ?_
      rintro e9 w1 ⟨⟨m1, rfl⟩, hb1⟩
      have HBW1 : Hid (Below W.heap.size W w1) := HBW.out.trans (hb1.mono HBW.out.size)
      have HBT1 := Lib.hid ((hb1.block _ (lt_of_blk HBT.out)).trans HBT.out)
      clear hb1 HC q0 q1 q2 q3 q5 t4
      cases m1
      · go_wp2_with fail
        go_ret
        exact ⟨⟨_, rfl⟩, HBW1.out⟩
      · go_wp2_with fail
        go_roundw
        case rel => exact ⟨⟨i + 1, by go_num, by omega, HBW1⟩, HBT1⟩
        case measure => simp [intOf]; omega
    · go_wp2_with fail
      go_ret
      exact ⟨⟨_, rfl⟩, HBW.out⟩
set_option maxRecDepth 100000 in
theorem rsmall_any (r : Rule) (p : RP) (W : World) (h : RuleAt W r p) : Calls Tryd.prog 14 #[.agg (rcs r p).toArray] W fun e w' => IsBool e ∧ Below W.heap.size W w' := by
  have H := Lib.hid h; clear h
  obtain ⟨w0, HW0⟩ : ∃ w0, Hid (W.alloc (.cells (rcs r p).toArray 33) = w0) := ⟨_, rfl⟩
  have HB0 : Hid (w0.heap[W.heap.size]? = some (.cells (rcs r p).toArray 33 (0, 0))) := by rw [← HW0.out]; exact blk_newn rfl
  have HBE0 : Hid (Below W.heap.size W w0) := by rw [← HW0.out]; exact (Below.refl _ W).alloc (Nat.le_refl _) _
  have HZ := Lib.hid (Zn.few_any r.zone p.A p.cap w0)
  have HT : Hid (∀ X, Below W.heap.size W X → Calls Tryd.prog 36 #[.agg #[.int .i64 r.term.kind, .int .i64 r.term.n, .int .i64 r.term.ev, .bool r.term.bus, .slice p.T r.term.kids.length p.tcap], .int .i64 12] X fun e w' => IsBool e ∧ Below X.heap.size X w') := fun X hb => few_any r.term _ 12 X (H.out.tr.keep hb) (by decide) (by decide)
  obtain ⟨Ah, ch, hhv, hh1, hh2⟩ := H.out.cal.hol.slice
  have HHV := Lib.hid hhv
  obtain ⟨hl, HHL⟩ : ∃ n, Hid ((Dl.nums r.cal.hol).length = n) := ⟨_, rfl⟩
  rw [HHL.out] at HHV hh1
  clear hhv
  obtain ⟨⟨z0, z1⟩, -, -⟩ := rule_cells HB0.out
  show Calls Tryd.prog 14 #[.agg (rcs r p).toArray] W _
  go_enter Tryd.func14, Tryd.ntmps14
  go_upto_region 1 with fail
  rw [HW0.out]
  clear HW0
  go_wp2_with fail
  refine HZ.out.mono ?_
  rintro e9 w1 ⟨rfl, hb1⟩
  have HBE1 : Hid (Below W.heap.size W w1) := HBE0.out.trans (hb1.mono HBE0.out.size)
  have HB1 := Lib.hid ((hb1.block _ (lt_of_blk HB0.out)).trans HB0.out)
  clear hb1 z0 z1 HZ
  by_cases hz : r.zone.chs.length ≤ 100
  case neg =>
    have hzd : decide (r.zone.chs.length ≤ 100) = false := decide_eq_false hz
    rw [hzd]
    go_wp2_with fail
    go_ret
    exact ⟨⟨_, rfl⟩, HBE1.out⟩
  have hzd : decide (r.zone.chs.length ≤ 100) = true := decide_eq_true hz
  rw [hzd]
  have c7 : w1.cell? ⟨W.heap.size, 9, none⟩ = some (.slice Ah hl ch) := by rw [← HHV.out]; exact (rule_cells HB1.out).2.1.2.2.2.2
  by_cases h500 : (hl : Int) ≤ 500
  case neg =>
    have h5b : decide ((hl : Int) ≤ 500) = false := decide_eq_false h500
    go_wp2_with fail
    go_ret
    exact ⟨⟨_, rfl⟩, HBE1.out⟩
  obtain ⟨-, -, t0, t1, t2, t3, t4⟩ := rule_cells HB1.out
  go_wp2_with fail
  refine (HT.out w1 HBE1.out).mono ?_
  rintro e9 w2 ⟨⟨b2, rfl⟩, hb2⟩
  have HBE2 : Hid (Below W.heap.size W w2) := HBE1.out.trans (hb2.mono HBE1.out.size)
  clear hb2 t0 t1 t2 t3 t4 c7
  go_wp2_with fail
  go_ret
  exact ⟨⟨_, rfl⟩, HBE2.out⟩
set_option maxRecDepth 100000 in
set_option maxHeartbeats 4000000 in
theorem rformed_any (n : Notice) (W : World) : Calls Tryd.prog 21 #[.agg (ncs n).toArray] W fun e w' => e = .returned (.bool (formed n)) ∧ Below W.heap.size W w' := by
  obtain ⟨s, g, k⟩ := n
  show Calls Tryd.prog 21 #[.agg #[.int .i64 s, .int .i64 g, .int .i64 k]] W _
  have HF : Hid (formed ⟨s, g, k⟩ = decide ((-1 ≤ s ∧ s ≤ 105190559) ∧ (-1 ≤ g ∧ g ≤ 105190559) ∧ 0 ≤ k ∧ k ≤ 2880)) := by
    show _ = _
    rw [Bool.eq_iff_iff]
    unfold formed dated lastI
    simp only [Bool.and_eq_true, Bool.or_eq_true, decide_eq_true_eq]
    omega
  rw [HF.out]
  have hb : Below W.heap.size W (W.alloc (.cells #[.int .i64 s, .int .i64 g, .int .i64 k] 35)) := (Below.refl _ W).alloc (Nat.le_refl _) _
  have HB := Lib.hid hb
  clear hb HF
  by_cases h1 : -1 ≤ s
  case neg =>
    rw [decide_eq_false (show ¬ ((-1 ≤ s ∧ s ≤ 105190559) ∧ (-1 ≤ g ∧ g ≤ 105190559) ∧ 0 ≤ k ∧ k ≤ 2880) by omega)]
    have e1 : decide (-1 ≤ s) = false := decide_eq_false h1
    go_enter Tryd.func21, Tryd.ntmps21
    go_wp2_with fail
    go_ret
    exact ⟨rfl, HB.out⟩
  by_cases h2 : s ≤ 105190559
  case neg =>
    rw [decide_eq_false (show ¬ ((-1 ≤ s ∧ s ≤ 105190559) ∧ (-1 ≤ g ∧ g ≤ 105190559) ∧ 0 ≤ k ∧ k ≤ 2880) by omega)]
    have e1 : decide (s ≤ 105190559) = false := decide_eq_false h2
    go_enter Tryd.func21, Tryd.ntmps21
    go_wp2_with fail
    go_ret
    exact ⟨rfl, HB.out⟩
  by_cases h3 : -1 ≤ g
  case neg =>
    rw [decide_eq_false (show ¬ ((-1 ≤ s ∧ s ≤ 105190559) ∧ (-1 ≤ g ∧ g ≤ 105190559) ∧ 0 ≤ k ∧ k ≤ 2880) by omega)]
    have e1 : decide (-1 ≤ g) = false := decide_eq_false h3
    go_enter Tryd.func21, Tryd.ntmps21
    go_wp2_with fail
    go_ret
    exact ⟨rfl, HB.out⟩
  by_cases h4 : g ≤ 105190559
  case neg =>
    rw [decide_eq_false (show ¬ ((-1 ≤ s ∧ s ≤ 105190559) ∧ (-1 ≤ g ∧ g ≤ 105190559) ∧ 0 ≤ k ∧ k ≤ 2880) by omega)]
    have e1 : decide (g ≤ 105190559) = false := decide_eq_false h4
    go_enter Tryd.func21, Tryd.ntmps21
    go_wp2_with fail
    go_ret
    exact ⟨rfl, HB.out⟩
  by_cases h5 : 0 ≤ k
  case neg =>
    rw [decide_eq_false (show ¬ ((-1 ≤ s ∧ s ≤ 105190559) ∧ (-1 ≤ g ∧ g ≤ 105190559) ∧ 0 ≤ k ∧ k ≤ 2880) by omega)]
    have e1 : decide (0 ≤ k) = false := decide_eq_false h5
    go_enter Tryd.func21, Tryd.ntmps21
    go_wp2_with fail
    go_ret
    exact ⟨rfl, HB.out⟩
  by_cases h6 : k ≤ 2880
  case neg =>
    rw [decide_eq_false (show ¬ ((-1 ≤ s ∧ s ≤ 105190559) ∧ (-1 ≤ g ∧ g ≤ 105190559) ∧ 0 ≤ k ∧ k ≤ 2880) by omega)]
    have e1 : decide (k ≤ 2880) = false := decide_eq_false h6
    go_enter Tryd.func21, Tryd.ntmps21
    go_wp2_with fail
    go_ret
    exact ⟨rfl, HB.out⟩
  rw [decide_eq_true (show ((-1 ≤ s ∧ s ≤ 105190559) ∧ (-1 ≤ g ∧ g ≤ 105190559) ∧ 0 ≤ k ∧ k ≤ 2880) by omega)]
  go_enter Tryd.func21, Tryd.ntmps21
  go_wp2_with fail
  go_ret
  exact ⟨rfl, HB.out⟩
end Go.Proofs.YticlmkfifpkdpaaDoor.Rc
namespace Go.Proofs.YticlmkfifpkdpaaDoor.Rc
open Go.RowKit Mem Vw
open Dl (Bf bf_keep)
set_option linter.unusedVariables false
set_option linter.unusedSimpArgs false
structure LW (W : World) (r : Rule) (p : RP) (n : Notice) (gr gn : Nat) (X : World) : Prop where
  be : Below W.heap.size W X
  rb : X.heap[gr]? = some (.cells (rcs r p).toArray 33 (0, 0))
  nb : X.heap[gn]? = some (.cells (ncs n).toArray 35 (0, 0))
theorem LW.keep {W : World} {r : Rule} {p : RP} {n : Notice} {gr gn : Nat} {X X' : World} (h : LW W r p n gr gn X) (hb : Below X.heap.size X X') : LW W r p n gr gn X' :=
  ⟨h.be.trans (hb.mono h.be.size), (hb.block _ (lt_of_blk h.rb)).trans h.rb, (hb.block _ (lt_of_blk h.nb)).trans h.nb⟩
theorem LW.start {W : World} {r : Rule} {p : RP} {n : Notice} : LW W r p n W.heap.size (W.heap.size + 1) ((W.alloc (.cells (rcs r p).toArray 33)).alloc (.cells (ncs n).toArray 35)) :=
  ⟨((Below.refl _ W).alloc (Nat.le_refl _) _).alloc (by simp) _, blk_alloc (blk_newn rfl) _, blk_newn (by simp)⟩
theorem LW.n {W : World} {r : Rule} {p : RP} {n : Notice} {gr gn : Nat} {X : World} (h : LW W r p n gr gn X) : X.cell? ⟨gn, 0, none⟩ = some (.int .i64 n.sent) ∧ X.cell? ⟨gn, 1, none⟩ = some (.int .i64 n.got) ∧ X.cell? ⟨gn, 2, none⟩ = some (.int .i64 n.slack) :=
  ⟨cell_of_blk h.nb 0, cell_of_blk h.nb 1, cell_of_blk h.nb 2⟩
end Go.Proofs.YticlmkfifpkdpaaDoor.Rc
