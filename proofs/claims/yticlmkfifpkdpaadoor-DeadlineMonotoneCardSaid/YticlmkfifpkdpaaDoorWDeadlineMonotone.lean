/-
  The walk of the statement DeadlineMonotone: it returns true for every input.
-/
import Derived.Test.YticlmkfifpkdpaaDoorDlLawW
namespace Go.Proofs.YticlmkfifpkdpaaDoor
open Go.RowKit Mem Vw Dl
set_option linter.unusedVariables false
set_option linter.unusedSimpArgs false
set_option maxRecDepth 100000 in
set_option maxHeartbeats 8000000 in
theorem walk_DeadlineMonotone (x0 : Term × Value) (c : Cal) (hv : Value) (l : List When) (lv : Value) (m : List When) (mv : Value)  (W : World) (hbf : Bf W) (hT : Tree W x0.1 x0.2) (hC : CalAt W c hv) (hl : EvsAt W l lv) (hm : EvsAt W m mv) :
    Calls Tryd.prog 7 #[.agg (tc x0).toArray, .agg (ccs c hv).toArray, lv, mv] W fun e w' => e = .returned (.bool true) ∧ Below W.heap.size W w' := by
  obtain ⟨t, tv⟩ := x0
  obtain ⟨A, cp, hv1, hc1, hc2⟩ := hT.slice
  dsimp only at hv1
  subst hv1
  obtain ⟨Al, nl, hlv, hl1, hl2, hlc⟩ := hl.slice
  subst hlv
  have HEl := Lib.hid hl; have HCl := Lib.hid hlc
  obtain ⟨Am, nm, hmv, hm1, hm2, hmc⟩ := hm.slice
  subst hmv
  have HEm := Lib.hid hm; have HCm := Lib.hid hmc
  have HBF := Lib.hid hbf
  have HG := Lib.hid (GV.mk hbf hC); have HT := Lib.hid hT
  clear hbf hT hC hl hlc hm hmc
  obtain ⟨k, n, e, b, kids⟩ := t
  have HS0 := Lib.hid (LS.start (W := W) (x := (.mk k n e b kids, .slice A kids.length cp)) (c := c) (hv := hv))
  obtain ⟨w0, HW0⟩ : ∃ w0, Hid ((W.alloc (.cells #[.int .i64 k, .int .i64 n, .int .i64 e, .bool b, .slice A kids.length cp] 31)).alloc (.cells (ccs c hv).toArray 28) = w0) := ⟨_, rfl⟩
  have HS0 : Hid (LS W (.mk k n e b kids, .slice A kids.length cp) c hv W.heap.size (W.heap.size + 1) w0) := by rw [← HW0.out]; exact HS0.out
  show Calls Tryd.prog 7 #[.agg #[.int .i64 k, .int .i64 n, .int .i64 e, .bool b, .slice A kids.length cp], .agg (ccs c hv).toArray, .slice Al l.length nl, .slice Am m.length nm] W _

  have HHD := Lib.hid (head_any w0 (bf_keep HBF.out HS0.out.be))
  go_enter Tryd.func7, Tryd.ntmps7
  go_upto_region 1 with fail
  rw [HW0.out]
  clear HW0
  go_wp2_with fail
  refine HHD.out.mono ?_
  rintro e9 w1 ⟨rfl, hb1⟩
  have HS1 := Lib.hid (HS0.out.keep hb1)
  clear hb1 HHD HS0
  obtain ⟨t0, t1, t2, t3, t4⟩ := HS1.out.t
  have HSM := Lib.hid (small_any (.mk k n e b kids) (.slice A kids.length cp) l Al nl w1 (HT.out.keep HS1.out.be))
  go_wp2_with fail
  refine HSM.out.mono ?_
  rintro e9 w2 ⟨⟨b2, rfl, hsm⟩, hb⟩
  have HS2 := Lib.hid (HS1.out.keep hb)
  clear hb HSM t0 t1 t2 t3 t4
  have HSM2 := Lib.hid hsm
  clear hsm
  cases b2
  · clear HSM2
    go_wp2_with fail
    go_ret
    exact ⟨rfl, HS2.out.be⟩
  have HOR := Lib.hid (refOrdered_any l (.slice Al l.length nl) m (.slice Am m.length nm) w2 (HEl.out.below HS2.out.be) (HEm.out.below HS2.out.be))
  go_wp2_with fail
  refine HOR.out.mono ?_
  rintro e9 w3 ⟨rfl, hb⟩
  have HS3 := Lib.hid (HS2.out.keep hb)
  clear hb HOR
  cases ho : ordered l m
  · go_wp2_with fail
    go_ret
    exact ⟨rfl, HS3.out.be⟩
  have HO := Lib.hid ho
  clear ho
  obtain ⟨⟨d1, k1, e1⟩, HR1⟩ : ∃ r, Hid (eval (.mk k n e b kids) c l = r) := ⟨_, rfl⟩
  obtain ⟨⟨d2, k2, e2⟩, HR2⟩ : ∃ r, Hid (eval (.mk k n e b kids) c m = r) := ⟨_, rfl⟩
  obtain ⟨t0, t1, t2, t3, t4⟩ := HS3.out.t
  obtain ⟨⟨c0, c1, c2, c3⟩, c4, c5, c6, c7⟩ := HS3.out.c
  have HEV := Lib.hid (eval_at HG.out HS3.out.be (.mk k n e b kids, .slice A kids.length cp) (HT.out.keep HS3.out.be) l _ (HEl.out.below HS3.out.be) rfl HR1.out)
  go_wp2_with fail
  refine HEV.out.mono ?_
  rintro e9 w4 ⟨rfl, hb⟩
  have HS4 := Lib.hid (HS3.out.keep hb)
  clear hb HEV t0 t1 t2 t3 t4 c0 c1 c2 c3 c4 c5 c6 c7
  obtain ⟨t0, t1, t2, t3, t4⟩ := HS4.out.t
  obtain ⟨⟨c0, c1, c2, c3⟩, c4, c5, c6, c7⟩ := HS4.out.c
  have HEV := Lib.hid (eval_at HG.out HS4.out.be (.mk k n e b kids, .slice A kids.length cp) (HT.out.keep HS4.out.be) m _ (HEm.out.below HS4.out.be) rfl HR2.out)
  go_wp2_with fail
  refine HEV.out.mono ?_
  rintro e9 w5 ⟨rfl, hb⟩
  have HS5 := Lib.hid (HS4.out.keep hb)
  clear hb HEV t0 t1 t2 t3 t4 c0 c1 c2 c3 c4 c5 c6 c7
  by_cases h1 : e2 = 0
  case neg =>
    have hb1 : (e2 != 0) = true := by simpa using h1
    go_wp2_with fail
    go_ret
    exact ⟨rfl, HS5.out.be⟩
  subst h1
  by_cases h2 : e1 = 1
  · subst h2
    go_wp2_with fail
    go_ret
    exact ⟨rfl, HS5.out.be⟩
  have hlaw := law_mono (t := .mk k n e b kids) (c := c) HO.out (by rw [HR2.out]) (by rw [HR1.out]; exact h2)
  rw [HR1.out, HR2.out] at hlaw
  dsimp only at hlaw
  obtain ⟨h3, h4, h5⟩ := hlaw
  subst h3 h4
  clear h2
  go_wp2_with fail
  go_ret
  exact ⟨rfl, HS5.out.be⟩
end Go.Proofs.YticlmkfifpkdpaaDoor
