/-
  The walk of the statement ReceiptContradicts: it returns true for every input.
-/
import Derived.Test.YticlmkfifpkdpaaDoorRcRefs
import Derived.Test.YticlmkfifpkdpaaDoorRcLawC
namespace Go.Proofs.YticlmkfifpkdpaaDoor
open Go.RowKit Mem Vw Rc
open Dl (Bf bf_keep wf tc ccs)
set_option linter.unusedVariables false
set_option linter.unusedSimpArgs false
set_option maxRecDepth 100000 in
set_option maxHeartbeats 8000000 in
theorem walk_ReceiptContradicts (x : Rule × RP) (n : Notice) (W : World) (hbf : Bf W) (hr : RuleAt W x.1 x.2) (hn : NoticeOk n) :
    Calls Tryd.prog 5 #[.agg (rcs x.1 x.2).toArray, .agg (ncs n).toArray] W fun e w' => e = .returned (.bool true) ∧ Below W.heap.size W w' := by
  obtain ⟨r, p⟩ := x
  dsimp only at hr ⊢
  have HR := Lib.hid hr; have HBF := Lib.hid hbf
  obtain ⟨wn0, wn1, wn2⟩ := hn
  clear hr hbf
  have HS0 := Lib.hid (LW.start (W := W) (r := r) (p := p) (n := n))
  obtain ⟨w0, HW0⟩ : ∃ w0, Hid ((W.alloc (.cells (rcs r p).toArray 33)).alloc (.cells (ncs n).toArray 35) = w0) := ⟨_, rfl⟩
  rw [HW0.out] at HS0
  have HHD := Lib.hid (Rc.head_any w0 (bf_keep HBF.out HS0.out.be))
  go_enter Tryd.func5, Tryd.ntmps5
  go_upto_region 1 with fail
  rw [HW0.out]
  clear HW0
  go_wp2_with fail
  refine HHD.out.mono ?_
  rintro e9 w1 ⟨rfl, hb1⟩
  have HS1 := Lib.hid (HS0.out.keep hb1)
  clear hb1 HHD HS0
  obtain ⟨⟨z0, z1⟩, ⟨⟨c0, c1, c2, c3⟩, c4, c5, c6, c7⟩, t0, t1, t2, t3, t4⟩ := rule_cells HS1.out.rb
  have HSM := Lib.hid (rsmall_any r p w1 (HR.out.below HS1.out.be))
  go_wp2_with fail
  refine HSM.out.mono ?_
  rintro e9 w2 ⟨⟨b2, rfl⟩, hb⟩
  have HS2 := Lib.hid (HS1.out.keep hb)
  clear hb HSM z0 z1 c0 c1 c2 c3 c4 c5 c6 c7 t0 t1 t2 t3 t4
  cases b2
  · go_wp2_with fail
    go_ret
    exact ⟨rfl, HS2.out.be⟩
  obtain ⟨⟨fi, la, ee⟩, HDE⟩ : ∃ q, Hid (deemed r n = q) := ⟨_, rfl⟩
  obtain ⟨⟨z0, z1⟩, ⟨⟨c0, c1, c2, c3⟩, c4, c5, c6, c7⟩, t0, t1, t2, t3, t4⟩ := rule_cells HS2.out.rb
  obtain ⟨n0, n1, n2⟩ := HS2.out.n
  have HD := Lib.hid (deemed_at r p n (HR.out.below HS2.out.be) (bf_keep HBF.out HS2.out.be) rfl rfl HDE.out)
  go_wp2_with fail
  refine HD.out.mono ?_
  rintro e9 w3 ⟨rfl, hb⟩
  have HS3 := Lib.hid (HS2.out.keep hb)
  clear hb HD z0 z1 c0 c1 c2 c3 c4 c5 c6 c7 t0 t1 t2 t3 t4 n0 n1 n2
  obtain ⟨⟨z0, z1⟩, ⟨⟨c0, c1, c2, c3⟩, c4, c5, c6, c7⟩, t0, t1, t2, t3, t4⟩ := rule_cells HS3.out.rb
  have HV := Lib.hid (rvalid_any r p w3 (HR.out.below HS3.out.be))
  go_wp2_with fail
  refine HV.out.mono ?_
  rintro e9 w4 ⟨rfl, hb⟩
  have HS4 := Lib.hid (HS3.out.keep hb)
  clear hb HV z0 z1 c0 c1 c2 c3 c4 c5 c6 c7 t0 t1 t2 t3 t4
  cases hok : ruleOk r
  · have hd := deemed_bad (n := n) (.inl hok)
    rw [HDE.out] at hd
    injection hd with hd1 hd2
    injection hd2 with hd2 hd3
    subst hd1 hd2 hd3
    clear hok
    go_wp2_with fail
    go_ret
    exact ⟨rfl, HS4.out.be⟩
  have HOK := Lib.hid hok
  clear hok
  obtain ⟨n0, n1, n2⟩ := HS4.out.n
  have HF := Lib.hid (rformed_any n w4)
  go_wp2_with fail
  refine HF.out.mono ?_
  rintro e9 w5 ⟨rfl, hb⟩
  have HS5 := Lib.hid (HS4.out.keep hb)
  clear hb HF n0 n1 n2
  cases hfo : formed n
  · have hd := deemed_bad (r := r) (.inr hfo)
    rw [HDE.out] at hd
    injection hd with hd1 hd2
    injection hd2 with hd2 hd3
    subst hd1 hd2 hd3
    clear hfo
    go_wp2_with fail
    go_ret
    exact ⟨rfl, HS5.out.be⟩
  have hlaw := law_contra HOK.out hfo
  rw [HDE.out] at hlaw
  have hb : (n.sent = -1 ∨ 0 ≤ n.sent ∧ n.sent ≤ 105190559) ∧ (n.got = -1 ∨ 0 ≤ n.got ∧ n.got ≤ 105190559) ∧ 0 ≤ n.slack ∧ n.slack ≤ 2880 := by
    have hf := hfo
    unfold formed dated lastI at hf
    simp only [Bool.and_eq_true, Bool.or_eq_true, decide_eq_true_eq] at hf
    exact ⟨hf.1.1.1, hf.1.1.2, hf.1.2, hf.2⟩
  obtain ⟨s, g, k⟩ := n
  dsimp only at hlaw hb
  have HLAW := Lib.hid hlaw
  clear hlaw hfo wn0 wn1 wn2
  obtain ⟨hs, hg, hk0, hk1⟩ := hb
  obtain ⟨n0, n1, n2⟩ := HS5.out.n
  dsimp only at n0 n1 n2
  by_cases h23 : ee = 23
  · obtain ⟨g0, g1, g2⟩ := HLAW.out.1 h23
    subst h23
    clear HLAW
    go_wp2_with fail
    go_ret
    exact ⟨rfl, HS5.out.be⟩
  · have h23b : (ee == 23) = false := beq_eq_false_iff_ne.2 h23
    have hno : ¬ (0 ≤ s ∧ 0 ≤ g ∧ s - g > 2 * k) := fun h => h23 (HLAW.out.2 h)
    by_cases h1 : 0 ≤ s
    · by_cases h2 : 0 ≤ g
      · have h3 : ¬ (s - g > 2 * k) := fun h => hno ⟨h1, h2, h⟩
        have h3b : decide (2 * k < s - g) = false := decide_eq_false (by omega)
        have h3c : decide (s - g > 2 * k) = false := decide_eq_false (by omega)
        clear hno HLAW
        go_wp2_with fail
        go_ret
        exact ⟨rfl, HS5.out.be⟩
      · have h3b : decide (0 ≤ g) = false := decide_eq_false h2
        clear hno HLAW
        go_wp2_with fail
        go_ret
        exact ⟨rfl, HS5.out.be⟩
    · have h3b : decide (0 ≤ s) = false := decide_eq_false h1
      clear hno HLAW
      go_wp2_with fail
      go_ret
      exact ⟨rfl, HS5.out.be⟩
end Go.Proofs.YticlmkfifpkdpaaDoor
