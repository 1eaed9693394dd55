/-
  The walk of the statement DeadlineBounds: it returns true for every input.
-/
import Derived.Test.YticlmkfifpkdpaaDoorDlLawW
namespace Go.Proofs.YticlmkfifpkdpaaDoor
open Go.RowKit Mem Vw Dl
set_option linter.unusedVariables false
set_option linter.unusedSimpArgs false
set_option maxRecDepth 100000 in
set_option maxHeartbeats 8000000 in
theorem walk_DeadlineBounds (x0 : Term × Value) (c : Cal) (hv : Value) (l : List When) (lv : Value) (m : List When) (mv : Value) (q : List When) (qv : Value)  (W : World) (hbf : Bf W) (hT : Tree W x0.1 x0.2) (hC : CalAt W c hv) (hl : EvsAt W l lv) (hm : EvsAt W m mv) (hq : EvsAt W q qv) :
    Calls Tryd.prog 8 #[.agg (tc x0).toArray, .agg (ccs c hv).toArray, lv, mv, qv] W fun e w' => e = .returned (.bool true) ∧ Below W.heap.size W w' := by
  obtain ⟨t, tv⟩ := x0
  obtain ⟨A, cp, hv1, hc1, hc2⟩ := hT.slice
  dsimp only at hv1
  subst hv1
  obtain ⟨Al, nl, hlv, hl1, hl2, hlc⟩ := hl.slice
  subst hlv
  have HEl := Lib.hid hl; have HCl := Lib.hid hlc
  obtain ⟨Am, nm, hmv, hm1, hm2, hmc⟩ := hm.slice
  subst hmv
  have HEm := Lib.hid hm; have HCm := Lib.hid hmc
  obtain ⟨Aq, nq, hqv, hq1, hq2, hqc⟩ := hq.slice
  subst hqv
  have HEq := Lib.hid hq; have HCq := Lib.hid hqc
  have HBF := Lib.hid hbf
  have HG := Lib.hid (GV.mk hbf hC); have HT := Lib.hid hT
  clear hbf hT hC hl hlc hm hmc hq hqc
  obtain ⟨k, n, e, b, kids⟩ := t
  have HS0 := Lib.hid (LS.start (W := W) (x := (.mk k n e b kids, .slice A kids.length cp)) (c := c) (hv := hv))
  obtain ⟨w0, HW0⟩ : ∃ w0, Hid ((W.alloc (.cells #[.int .i64 k, .int .i64 n, .int .i64 e, .bool b, .slice A kids.length cp] 31)).alloc (.cells (ccs c hv).toArray 28) = w0) := ⟨_, rfl⟩
  have HS0 : Hid (LS W (.mk k n e b kids, .slice A kids.length cp) c hv W.heap.size (W.heap.size + 1) w0) := by rw [← HW0.out]; exact HS0.out
  show Calls Tryd.prog 8 #[.agg #[.int .i64 k, .int .i64 n, .int .i64 e, .bool b, .slice A kids.length cp], .agg (ccs c hv).toArray, .slice Al l.length nl, .slice Am m.length nm, .slice Aq q.length nq] W _

  have HHD := Lib.hid (head_any w0 (bf_keep HBF.out HS0.out.be))
  go_enter Tryd.func8, Tryd.ntmps8
  go_upto_region 1 with fail
  rw [HW0.out]
  clear HW0
  go_wp2_with fail
  refine HHD.out.mono ?_
  rintro e9 w1 ⟨rfl, hb1⟩
  have HS1 := Lib.hid (HS0.out.keep hb1)
  clear hb1 HHD HS0
  obtain ⟨t0, t1, t2, t3, t4⟩ := HS1.out.t
  have HSM := Lib.hid (small_any (.mk k n e b kids) (.slice A kids.length cp) l Al nl w1 (HT.out.keep HS1.out.be))
  go_wp2_with fail
  refine HSM.out.mono ?_
  rintro e9 w2 ⟨⟨b2, rfl, hsm⟩, hb⟩
  have HS2 := Lib.hid (HS1.out.keep hb)
  clear hb HSM t0 t1 t2 t3 t4
  have HSM2 := Lib.hid hsm
  clear hsm
  cases b2
  · clear HSM2
    go_wp2_with fail
    go_ret
    exact ⟨rfl, HS2.out.be⟩
  obtain ⟨t0, t1, t2, t3, t4⟩ := HS2.out.t
  have HSM := Lib.hid (small_any (.mk k n e b kids) (.slice A kids.length cp) q Aq nq w2 (HT.out.keep HS2.out.be))
  go_wp2_with fail
  refine HSM.out.mono ?_
  rintro e9 w3 ⟨⟨b3, rfl, hsm⟩, hb⟩
  have HS3 := Lib.hid (HS2.out.keep hb)
  clear hb HSM t0 t1 t2 t3 t4
  have HSM3 := Lib.hid hsm
  clear hsm
  cases b3
  · clear HSM3
    go_wp2_with fail
    go_ret
    exact ⟨rfl, HS3.out.be⟩
  obtain ⟨⟨fi, la, kn, eb⟩, HRB⟩ : ∃ r, Hid (bounds (.mk k n e b kids) c l q = r) := ⟨_, rfl⟩
  obtain ⟨⟨d1, k1, e1⟩, HR1⟩ : ∃ r, Hid (eval (.mk k n e b kids) c l = r) := ⟨_, rfl⟩
  obtain ⟨⟨d2, k2, e2⟩, HR2⟩ : ∃ r, Hid (eval (.mk k n e b kids) c q = r) := ⟨_, rfl⟩
  obtain ⟨⟨d3, k3, e3⟩, HR3⟩ : ∃ r, Hid (eval (.mk k n e b kids) c m = r) := ⟨_, rfl⟩
  obtain ⟨t0, t1, t2, t3, t4⟩ := HS3.out.t
  obtain ⟨⟨c0, c1, c2, c3⟩, c4, c5, c6, c7⟩ := HS3.out.c
  have HBO := Lib.hid (bounds_at HG.out HS3.out.be (.mk k n e b kids, .slice A kids.length cp) (HT.out.keep HS3.out.be) l _ q _ (HEl.out.below HS3.out.be) (HEq.out.below HS3.out.be) rfl HRB.out)
  go_wp2_with fail
  refine HBO.out.mono ?_
  rintro e9 w4 ⟨rfl, hb⟩
  have HS4 := Lib.hid (HS3.out.keep hb)
  clear hb HBO t0 t1 t2 t3 t4 c0 c1 c2 c3 c4 c5 c6 c7
  have HZ := Lib.hid (bounds_zero HRB.out)
  by_cases he0 : eb = 0
  case neg =>
    obtain ⟨rfl, rfl, rfl⟩ := HZ.out (.inl he0)
    have hb : (eb != 0) = true := by simpa using he0
    go_wp2_with fail
    go_ret
    exact ⟨rfl, HS4.out.be⟩
  subst he0
  cases kn
  · obtain ⟨rfl, rfl, -⟩ := HZ.out (.inr rfl)
    go_wp2_with fail
    go_ret
    exact ⟨rfl, HS4.out.be⟩
  have hlaw := law_bounds (t := .mk k n e b kids) (c := c) (x := l) (y := q) (by rw [HRB.out]) (by rw [HRB.out])
  rw [HR1.out, HR2.out, HRB.out] at hlaw
  obtain ⟨h1, h2, h3, h4, hle, hm⟩ := hlaw
  have hm3 := hm m
  rw [HR3.out] at hm3
  dsimp only at h1 h2 h3 h4 hle hm3
  subst h1 h2 h3 h4
  have HLE := Lib.hid hle; have HM3 := Lib.hid hm3
  clear hle hm hm3 HZ
  obtain ⟨t0, t1, t2, t3, t4⟩ := HS4.out.t
  obtain ⟨⟨c0, c1, c2, c3⟩, c4, c5, c6, c7⟩ := HS4.out.c
  have HEV := Lib.hid (eval_at HG.out HS4.out.be (.mk k n e b kids, .slice A kids.length cp) (HT.out.keep HS4.out.be) l _ (HEl.out.below HS4.out.be) rfl HR1.out)
  go_wp2_with fail
  refine HEV.out.mono ?_
  rintro e9 w5 ⟨rfl, hb⟩
  have HS5 := Lib.hid (HS4.out.keep hb)
  clear hb HEV t0 t1 t2 t3 t4 c0 c1 c2 c3 c4 c5 c6 c7
  obtain ⟨t0, t1, t2, t3, t4⟩ := HS5.out.t
  obtain ⟨⟨c0, c1, c2, c3⟩, c4, c5, c6, c7⟩ := HS5.out.c
  have HEV := Lib.hid (eval_at HG.out HS5.out.be (.mk k n e b kids, .slice A kids.length cp) (HT.out.keep HS5.out.be) q _ (HEq.out.below HS5.out.be) rfl HR2.out)
  go_wp2_with fail
  refine HEV.out.mono ?_
  rintro e9 w6 ⟨rfl, hb⟩
  have HS6 := Lib.hid (HS5.out.keep hb)
  clear hb HEV t0 t1 t2 t3 t4 c0 c1 c2 c3 c4 c5 c6 c7
  have hle : d1 ≤ d2 := HLE.out
  have hle2 : ¬ (d1 > d2) := by omega
  obtain ⟨t0, t1, t2, t3, t4⟩ := HS6.out.t
  obtain ⟨⟨c0, c1, c2, c3⟩, c4, c5, c6, c7⟩ := HS6.out.c
  have HEV := Lib.hid (eval_at HG.out HS6.out.be (.mk k n e b kids, .slice A kids.length cp) (HT.out.keep HS6.out.be) m _ (HEm.out.below HS6.out.be) rfl HR3.out)
  go_wp2_with fail
  refine HEV.out.mono ?_
  rintro e9 w7 ⟨rfl, hb⟩
  have HS7 := Lib.hid (HS6.out.keep hb)
  clear hb HEV t0 t1 t2 t3 t4 c0 c1 c2 c3 c4 c5 c6 c7
  have HOR := Lib.hid (refOrdered_any l (.slice Al l.length nl) m (.slice Am m.length nm) w7 (HEl.out.below HS7.out.be) (HEm.out.below HS7.out.be))
  go_wp2_with fail
  refine HOR.out.mono ?_
  rintro e9 w8 ⟨rfl, hb⟩
  have HS8 := Lib.hid (HS7.out.keep hb)
  clear hb HOR
  cases ho : ordered l m
  · go_wp2_with fail
    go_ret
    exact ⟨rfl, HS8.out.be⟩
  have HO := Lib.hid ho
  clear ho
  have HOR := Lib.hid (refOrdered_any m (.slice Am m.length nm) q (.slice Aq q.length nq) w8 (HEm.out.below HS8.out.be) (HEq.out.below HS8.out.be))
  go_wp2_with fail
  refine HOR.out.mono ?_
  rintro e9 w9 ⟨rfl, hb⟩
  have HS9 := Lib.hid (HS8.out.keep hb)
  clear hb HOR
  cases ho : ordered m q
  · go_wp2_with fail
    go_ret
    exact ⟨rfl, HS9.out.be⟩
  have HO2 := Lib.hid ho
  clear ho
  by_cases h2 : e3 = 1
  · subst h2
    go_wp2_with fail
    go_ret
    exact ⟨rfl, HS9.out.be⟩
  obtain ⟨h3, h4, h5, h6⟩ := HM3.out HO.out HO2.out h2
  subst h3 h4
  clear h2
  go_wp2_with fail
  go_ret
  exact ⟨rfl, HS9.out.be⟩
end Go.Proofs.YticlmkfifpkdpaaDoor
