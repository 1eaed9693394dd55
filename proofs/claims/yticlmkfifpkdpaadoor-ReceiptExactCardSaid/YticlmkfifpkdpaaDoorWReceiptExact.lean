/-
  The walk of the statement ReceiptExact: it returns true for every input.
-/
import Derived.Test.YticlmkfifpkdpaaDoorRcRefs
import Derived.Test.YticlmkfifpkdpaaDoorRcEv
import Derived.Test.YticlmkfifpkdpaaDoorRcLawE
import Derived.Test.YticlmkfifpkdpaaDoorRcSend
namespace Go.Proofs.YticlmkfifpkdpaaDoor
open Go.RowKit Mem Vw Rc
open Dl (Bf bf_keep wf tc ccs)
set_option linter.unusedVariables false
set_option linter.unusedSimpArgs false
namespace Rc
theorem str_ends {s g k : Int} (hf : inDay s g k) {sa sb : Stretch} (hs : str ⟨s, g, k⟩ = some (sa, sb)) {a b c d : Int}
    (h1 : (s = -1 ∧ a = -1 ∧ b = -1) ∨ (s ≠ -1 ∧ a = max (s - k) 0 ∧ ((g = -1 ∧ b = min (s + k) 105190559) ∨ (g ≠ -1 ∧ b = min (s + k) (min 105190559 (g + k))))))
    (h2 : (g = -1 ∧ c = -1 ∧ d = -1) ∨ (g ≠ -1 ∧ d = min (g + k) 105190559 ∧ ((s = -1 ∧ c = max (g - k) 0) ∨ (s ≠ -1 ∧ c = max (g - k) (max 0 (s - k)))))) :
    (if sa.given then sa.lo = a ∧ sa.hi = b ∧ 0 ≤ a ∧ a ≤ b ∧ b < 105190560 else a < 0 ∧ b < 0) ∧ (if sb.given then sb.lo = c ∧ sb.hi = d ∧ 0 ≤ c ∧ c ≤ d ∧ d < 105190560 else c < 0 ∧ d < 0) := by
  obtain ⟨f1, f2, f3, f4⟩ := hf
  unfold str at hs
  dsimp only at hs
  by_cases h : s = -1 ∨ g = -1
  · rw [if_pos h] at hs
    injection hs with hs
    injection hs with e1 e2
    subst e1 e2
    unfold str1 lastI
    constructor
    · by_cases g1 : s = -1
      · rw [if_pos g1]; show a < 0 ∧ b < 0; omega
      · rw [if_neg g1]; show max 0 (s - k) = a ∧ min 105190559 (s + k) = b ∧ 0 ≤ a ∧ a ≤ b ∧ b < 105190560; omega
    · by_cases g1 : g = -1
      · rw [if_pos g1]; show c < 0 ∧ d < 0; omega
      · rw [if_neg g1]; show max 0 (g - k) = c ∧ min 105190559 (g + k) = d ∧ 0 ≤ c ∧ c ≤ d ∧ d < 105190560; omega
  · rw [if_neg h] at hs
    by_cases h3 : g + k < s - k
    · rw [if_pos h3] at hs; cases hs
    · rw [if_neg h3] at hs
      injection hs with hs
      injection hs with e1 e2
      subst e1 e2
      unfold lastI
      constructor
      · show max 0 (s - k) = a ∧ min (min 105190559 (s + k)) (min 105190559 (g + k)) = b ∧ 0 ≤ a ∧ a ≤ b ∧ b < 105190560
        omega
      · show max (max 0 (g - k)) (max 0 (s - k)) = c ∧ min 105190559 (g + k) = d ∧ 0 ≤ c ∧ c ≤ d ∧ d < 105190560
        omega
end Rc
set_option maxRecDepth 100000 in
set_option maxHeartbeats 8000000 in
theorem walk_ReceiptExact (x : Rule × RP) (n : Notice) (W : World) (hbf : Bf W) (hr : RuleAt W x.1 x.2) (hn : NoticeOk n) :
    Calls Tryd.prog 4 #[.agg (rcs x.1 x.2).toArray, .agg (ncs n).toArray] W fun e w' => e = .returned (.bool true) ∧ Below W.heap.size W w' := by
  obtain ⟨r, p⟩ := x
  dsimp only at hr ⊢
  have HR := Lib.hid hr; have HBF := Lib.hid hbf
  obtain ⟨wn0, wn1, wn2⟩ := hn
  clear hr hbf
  have HS0 := Lib.hid (LW.start (W := W) (r := r) (p := p) (n := n))
  obtain ⟨w0, HW0⟩ : ∃ w0, Hid ((W.alloc (.cells (rcs r p).toArray 33)).alloc (.cells (ncs n).toArray 35) = w0) := ⟨_, rfl⟩
  rw [HW0.out] at HS0
  have HHD := Lib.hid (Rc.head_any w0 (bf_keep HBF.out HS0.out.be))
  go_enter Tryd.func4, Tryd.ntmps4
  go_upto_region 1 with fail
  rw [HW0.out]
  clear HW0
  go_wp2_with fail
  refine HHD.out.mono ?_
  rintro e9 w1 ⟨rfl, hb1⟩
  have HS1 := Lib.hid (HS0.out.keep hb1)
  clear hb1 HHD HS0
  obtain ⟨⟨z0, z1⟩, ⟨⟨c0, c1, c2, c3⟩, c4, c5, c6, c7⟩, t0, t1, t2, t3, t4⟩ := rule_cells HS1.out.rb
  have HSM := Lib.hid (rsmall_any r p w1 (HR.out.below HS1.out.be))
  go_wp2_with fail
  refine HSM.out.mono ?_
  rintro e9 w2 ⟨⟨b2, rfl⟩, hb⟩
  have HS2 := Lib.hid (HS1.out.keep hb)
  clear hb HSM z0 z1 c0 c1 c2 c3 c4 c5 c6 c7 t0 t1 t2 t3 t4
  cases b2
  · go_wp2_with fail
    go_ret
    exact ⟨rfl, HS2.out.be⟩
  obtain ⟨⟨z0, z1⟩, -, -⟩ := rule_cells HS2.out.rb
  by_cases hc0 : (r.zone.chs.length : Int) > 0
  · go_wp2_with fail
    go_ret
    exact ⟨rfl, HS2.out.be⟩
  have HC : Hid (r.zone.chs = []) := List.eq_nil_of_length_eq_zero (by omega)
  go_upto_region 4 with fail
  clear z0 z1 wn0 wn1 wn2 hc0
  obtain ⟨s, g, k⟩ := n
  obtain ⟨⟨fi, la, ee⟩, HDE⟩ : ∃ q, Hid (deemed r ⟨s, g, k⟩ = q) := ⟨_, rfl⟩
  obtain ⟨⟨z0, z1⟩, ⟨⟨c0, c1, c2, c3⟩, c4, c5, c6, c7⟩, t0, t1, t2, t3, t4⟩ := rule_cells HS2.out.rb
  obtain ⟨n0, n1, n2⟩ := HS2.out.n
  dsimp only at n0 n1 n2
  have HD := Lib.hid (deemed_at r p ⟨s, g, k⟩ (HR.out.below HS2.out.be) (bf_keep HBF.out HS2.out.be) rfl rfl HDE.out)
  go_wp2_with fail
  refine HD.out.mono ?_
  rintro e9 w3 ⟨rfl, hb⟩
  have HS3 := Lib.hid (HS2.out.keep hb)
  clear hb HD z0 z1 c0 c1 c2 c3 c4 c5 c6 c7 t0 t1 t2 t3 t4 n0 n1 n2
  by_cases hee : ee = 0
  case neg =>
    have heb : (ee != 0) = true := by simpa using hee
    go_wp2_with fail
    go_ret
    exact ⟨rfl, HS3.out.be⟩
  subst hee
  obtain ⟨hok, hfo, -⟩ := deemed_inv HDE.out
  have hb : inDay s g k := by
    have hf := hfo
    unfold formed dated lastI at hf
    simp only [Bool.and_eq_true, Bool.or_eq_true, decide_eq_true_eq] at hf
    exact ⟨hf.1.1.1, hf.1.1.2, hf.1.2, hf.2⟩
  have HBS := Lib.hid hb
  clear hok hfo
  obtain ⟨hs, hg, hk0, hk1⟩ := hb
  by_cases hs1 : 0 ≤ s
  · by_cases hg1 : 0 ≤ g
    · obtain ⟨n0, n1, n2⟩ := HS3.out.n
      dsimp only at n0 n1 n2
      have hS := sendings_any s g k w3 HBS.out
      rw [if_pos hg1] at hS
      have HS_ := Lib.hid hS
      clear hS
      go_wp2_with fail
      refine HS_.out.mono ?_
      rintro e9 w4 ⟨rfl, hb⟩
      have HS4 := Lib.hid (HS3.out.keep hb)
      clear hb HS_ n0 n1 n2
      obtain ⟨n0, n1, n2⟩ := HS4.out.n
      dsimp only at n0 n1 n2
      have hR := receipts_any s g k w4 HBS.out
      rw [if_pos hs1] at hR
      have HR_ := Lib.hid hR
      clear hR
      go_wp2_with fail
      refine HR_.out.mono ?_
      rintro e9 w5 ⟨rfl, hb⟩
      have HS5 := Lib.hid (HS4.out.keep hb)
      clear hb HR_ n0 n1 n2
      have hends := law_exact (a := (max (s - k) 0)) (b := (min (s + k) (min 105190559 (g + k)))) (c := (max (g - k) (max 0 (s - k)))) (d := (min (g + k) 105190559)) HDE.out HC.out (fun sa sb hst => str_ends HBS.out hst (by omega) (by omega))
      obtain ⟨⟨e1, e2, e3, e4⟩, hv1, hv2, hle⟩ := hends
      have HV1 := Lib.hid hv1; have HV2 := Lib.hid hv2; have HLE := Lib.hid hle; have HE2 := Lib.hid e2; have HE4 := Lib.hid e4
      have HE := Lib.hid (Rc.events_any r.zone p.A p.cap (max (s - k) 0) (max (g - k) (max 0 (s - k))) w5 HR.out.len (HR.out.row.below HS5.out.be) e1 e3)
      clear hv1 hv2 hle e1 e2 e3 e4
      go_upto_region 13 with fail
      obtain ⟨⟨z0, z1⟩, -, -⟩ := rule_cells HS5.out.rb
      go_wp2_with fail
      refine HE.out.mono ?_
      rintro e9 v1 ⟨g1, rfl, hev, hb⟩
      have HT1 := Lib.hid (HS5.out.keep hb)
      have HEV1 := Lib.hid hev
      clear hb hev HE z0 z1
      have HE := Lib.hid (Rc.events_any r.zone p.A p.cap (min (s + k) (min 105190559 (g + k))) (min (g + k) 105190559) v1 HR.out.len (HR.out.row.below HT1.out.be) HE2.out HE4.out)
      obtain ⟨⟨z0, z1⟩, -, -⟩ := rule_cells HT1.out.rb
      go_wp2_with fail
      refine HE.out.mono ?_
      rintro e9 v2 ⟨g2, rfl, hev, hb⟩
      have HT2 := Lib.hid (HT1.out.keep hb)
      have HEV2 := Lib.hid hev
      have HEV1 := Lib.hid (HEV1.out.below hb)
      clear hb hev HE z0 z1
      have hEV := Dl.eval_any r.term (.slice p.T r.term.kids.length p.tcap) r.cal p.hv _ _ v2 (HR.out.below HT2.out.be).tr (HR.out.below HT2.out.be).cal HEV1.out (bf_keep HBF.out HT2.out.be)
      rw [HV1.out] at hEV
      have HEC : Hid (Calls Tryd.prog 17 #[.agg #[.int .i64 r.term.kind, .int .i64 r.term.n, .int .i64 r.term.ev, .bool r.term.bus, .slice p.T r.term.kids.length p.tcap], .agg (ccs r.cal p.hv).toArray, .slice (some ⟨g1, 0, none⟩) 2 2] v2 fun e w' => e = .returned (.tuple #[.int .i64 fi, .bool true, .int .i64 0]) ∧ Below v2.heap.size v2 w') := hEV
      clear hEV
      obtain ⟨-, ⟨⟨c0, c1, c2, c3⟩, c4, c5, c6, c7⟩, t0, t1, t2, t3, t4⟩ := rule_cells HT2.out.rb
      go_wp2_with fail
      refine HEC.out.mono ?_
      rintro e9 v3 ⟨rfl, hb⟩
      have HT3 := Lib.hid (HT2.out.keep hb)
      have HEV2 := Lib.hid (HEV2.out.below hb)
      clear hb HEC c0 c1 c2 c3 c4 c5 c6 c7 t0 t1 t2 t3 t4
      have hEV := Dl.eval_any r.term (.slice p.T r.term.kids.length p.tcap) r.cal p.hv _ _ v3 (HR.out.below HT3.out.be).tr (HR.out.below HT3.out.be).cal HEV2.out (bf_keep HBF.out HT3.out.be)
      rw [HV2.out] at hEV
      have HEC : Hid (Calls Tryd.prog 17 #[.agg #[.int .i64 r.term.kind, .int .i64 r.term.n, .int .i64 r.term.ev, .bool r.term.bus, .slice p.T r.term.kids.length p.tcap], .agg (ccs r.cal p.hv).toArray, .slice (some ⟨g2, 0, none⟩) 2 2] v3 fun e w' => e = .returned (.tuple #[.int .i64 la, .bool true, .int .i64 0]) ∧ Below v3.heap.size v3 w') := hEV
      clear hEV
      obtain ⟨-, ⟨⟨c0, c1, c2, c3⟩, c4, c5, c6, c7⟩, t0, t1, t2, t3, t4⟩ := rule_cells HT3.out.rb
      go_wp2_with fail
      refine HEC.out.mono ?_
      rintro e9 v4 ⟨rfl, hb⟩
      have HT4 := Lib.hid (HT3.out.keep hb)
      clear hb HEC c0 c1 c2 c3 c4 c5 c6 c7 t0 t1 t2 t3 t4
      have hle : fi ≤ la := HLE.out
      go_wp2_with fail
      go_ret
      exact ⟨rfl, HT4.out.be⟩
    · obtain ⟨n0, n1, n2⟩ := HS3.out.n
      dsimp only at n0 n1 n2
      have hS := sendings_any s g k w3 HBS.out
      rw [if_neg hg1] at hS
      have HS_ := Lib.hid hS
      clear hS
      go_wp2_with fail
      refine HS_.out.mono ?_
      rintro e9 w4 ⟨rfl, hb⟩
      have HS4 := Lib.hid (HS3.out.keep hb)
      clear hb HS_ n0 n1 n2
      obtain ⟨n0, n1, n2⟩ := HS4.out.n
      dsimp only at n0 n1 n2
      have hends := law_exact (a := (max (s - k) 0)) (b := (min (s + k) 105190559)) (c := (-1)) (d := (-1)) HDE.out HC.out (fun sa sb hst => str_ends HBS.out hst (by omega) (by omega))
      obtain ⟨⟨e1, e2, e3, e4⟩, hv1, hv2, hle⟩ := hends
      have HV1 := Lib.hid hv1; have HV2 := Lib.hid hv2; have HLE := Lib.hid hle; have HE2 := Lib.hid e2; have HE4 := Lib.hid e4
      have HE := Lib.hid (Rc.events_any r.zone p.A p.cap (max (s - k) 0) (-1) w4 HR.out.len (HR.out.row.below HS4.out.be) e1 e3)
      clear hv1 hv2 hle e1 e2 e3 e4
      go_upto_region 13 with fail
      obtain ⟨⟨z0, z1⟩, -, -⟩ := rule_cells HS4.out.rb
      go_wp2_with fail
      refine HE.out.mono ?_
      rintro e9 v1 ⟨g1, rfl, hev, hb⟩
      have HT1 := Lib.hid (HS4.out.keep hb)
      have HEV1 := Lib.hid hev
      clear hb hev HE z0 z1
      have HE := Lib.hid (Rc.events_any r.zone p.A p.cap (min (s + k) 105190559) (-1) v1 HR.out.len (HR.out.row.below HT1.out.be) HE2.out HE4.out)
      obtain ⟨⟨z0, z1⟩, -, -⟩ := rule_cells HT1.out.rb
      go_wp2_with fail
      refine HE.out.mono ?_
      rintro e9 v2 ⟨g2, rfl, hev, hb⟩
      have HT2 := Lib.hid (HT1.out.keep hb)
      have HEV2 := Lib.hid hev
      have HEV1 := Lib.hid (HEV1.out.below hb)
      clear hb hev HE z0 z1
      have hEV := Dl.eval_any r.term (.slice p.T r.term.kids.length p.tcap) r.cal p.hv _ _ v2 (HR.out.below HT2.out.be).tr (HR.out.below HT2.out.be).cal HEV1.out (bf_keep HBF.out HT2.out.be)
      rw [HV1.out] at hEV
      have HEC : Hid (Calls Tryd.prog 17 #[.agg #[.int .i64 r.term.kind, .int .i64 r.term.n, .int .i64 r.term.ev, .bool r.term.bus, .slice p.T r.term.kids.length p.tcap], .agg (ccs r.cal p.hv).toArray, .slice (some ⟨g1, 0, none⟩) 2 2] v2 fun e w' => e = .returned (.tuple #[.int .i64 fi, .bool true, .int .i64 0]) ∧ Below v2.heap.size v2 w') := hEV
      clear hEV
      obtain ⟨-, ⟨⟨c0, c1, c2, c3⟩, c4, c5, c6, c7⟩, t0, t1, t2, t3, t4⟩ := rule_cells HT2.out.rb
      go_wp2_with fail
      refine HEC.out.mono ?_
      rintro e9 v3 ⟨rfl, hb⟩
      have HT3 := Lib.hid (HT2.out.keep hb)
      have HEV2 := Lib.hid (HEV2.out.below hb)
      clear hb HEC c0 c1 c2 c3 c4 c5 c6 c7 t0 t1 t2 t3 t4
      have hEV := Dl.eval_any r.term (.slice p.T r.term.kids.length p.tcap) r.cal p.hv _ _ v3 (HR.out.below HT3.out.be).tr (HR.out.below HT3.out.be).cal HEV2.out (bf_keep HBF.out HT3.out.be)
      rw [HV2.out] at hEV
      have HEC : Hid (Calls Tryd.prog 17 #[.agg #[.int .i64 r.term.kind, .int .i64 r.term.n, .int .i64 r.term.ev, .bool r.term.bus, .slice p.T r.term.kids.length p.tcap], .agg (ccs r.cal p.hv).toArray, .slice (some ⟨g2, 0, none⟩) 2 2] v3 fun e w' => e = .returned (.tuple #[.int .i64 la, .bool true, .int .i64 0]) ∧ Below v3.heap.size v3 w') := hEV
      clear hEV
      obtain ⟨-, ⟨⟨c0, c1, c2, c3⟩, c4, c5, c6, c7⟩, t0, t1, t2, t3, t4⟩ := rule_cells HT3.out.rb
      go_wp2_with fail
      refine HEC.out.mono ?_
      rintro e9 v4 ⟨rfl, hb⟩
      have HT4 := Lib.hid (HT3.out.keep hb)
      clear hb HEC c0 c1 c2 c3 c4 c5 c6 c7 t0 t1 t2 t3 t4
      have hle : fi ≤ la := HLE.out
      go_wp2_with fail
      go_ret
      exact ⟨rfl, HT4.out.be⟩
  · by_cases hg1 : 0 ≤ g
    · obtain ⟨n0, n1, n2⟩ := HS3.out.n
      dsimp only at n0 n1 n2
      have hR := receipts_any s g k w3 HBS.out
      rw [if_neg hs1] at hR
      have HR_ := Lib.hid hR
      clear hR
      go_wp2_with fail
      refine HR_.out.mono ?_
      rintro e9 w4 ⟨rfl, hb⟩
      have HS4 := Lib.hid (HS3.out.keep hb)
      clear hb HR_ n0 n1 n2
      have hends := law_exact (a := (-1)) (b := (-1)) (c := (max (g - k) 0)) (d := (min (g + k) 105190559)) HDE.out HC.out (fun sa sb hst => str_ends HBS.out hst (by omega) (by omega))
      obtain ⟨⟨e1, e2, e3, e4⟩, hv1, hv2, hle⟩ := hends
      have HV1 := Lib.hid hv1; have HV2 := Lib.hid hv2; have HLE := Lib.hid hle; have HE2 := Lib.hid e2; have HE4 := Lib.hid e4
      have HE := Lib.hid (Rc.events_any r.zone p.A p.cap (-1) (max (g - k) 0) w4 HR.out.len (HR.out.row.below HS4.out.be) e1 e3)
      clear hv1 hv2 hle e1 e2 e3 e4
      go_upto_region 13 with fail
      obtain ⟨⟨z0, z1⟩, -, -⟩ := rule_cells HS4.out.rb
      go_wp2_with fail
      refine HE.out.mono ?_
      rintro e9 v1 ⟨g1, rfl, hev, hb⟩
      have HT1 := Lib.hid (HS4.out.keep hb)
      have HEV1 := Lib.hid hev
      clear hb hev HE z0 z1
      have HE := Lib.hid (Rc.events_any r.zone p.A p.cap (-1) (min (g + k) 105190559) v1 HR.out.len (HR.out.row.below HT1.out.be) HE2.out HE4.out)
      obtain ⟨⟨z0, z1⟩, -, -⟩ := rule_cells HT1.out.rb
      go_wp2_with fail
      refine HE.out.mono ?_
      rintro e9 v2 ⟨g2, rfl, hev, hb⟩
      have HT2 := Lib.hid (HT1.out.keep hb)
      have HEV2 := Lib.hid hev
      have HEV1 := Lib.hid (HEV1.out.below hb)
      clear hb hev HE z0 z1
      have hEV := Dl.eval_any r.term (.slice p.T r.term.kids.length p.tcap) r.cal p.hv _ _ v2 (HR.out.below HT2.out.be).tr (HR.out.below HT2.out.be).cal HEV1.out (bf_keep HBF.out HT2.out.be)
      rw [HV1.out] at hEV
      have HEC : Hid (Calls Tryd.prog 17 #[.agg #[.int .i64 r.term.kind, .int .i64 r.term.n, .int .i64 r.term.ev, .bool r.term.bus, .slice p.T r.term.kids.length p.tcap], .agg (ccs r.cal p.hv).toArray, .slice (some ⟨g1, 0, none⟩) 2 2] v2 fun e w' => e = .returned (.tuple #[.int .i64 fi, .bool true, .int .i64 0]) ∧ Below v2.heap.size v2 w') := hEV
      clear hEV
      obtain ⟨-, ⟨⟨c0, c1, c2, c3⟩, c4, c5, c6, c7⟩, t0, t1, t2, t3, t4⟩ := rule_cells HT2.out.rb
      go_wp2_with fail
      refine HEC.out.mono ?_
      rintro e9 v3 ⟨rfl, hb⟩
      have HT3 := Lib.hid (HT2.out.keep hb)
      have HEV2 := Lib.hid (HEV2.out.below hb)
      clear hb HEC c0 c1 c2 c3 c4 c5 c6 c7 t0 t1 t2 t3 t4
      have hEV := Dl.eval_any r.term (.slice p.T r.term.kids.length p.tcap) r.cal p.hv _ _ v3 (HR.out.below HT3.out.be).tr (HR.out.below HT3.out.be).cal HEV2.out (bf_keep HBF.out HT3.out.be)
      rw [HV2.out] at hEV
      have HEC : Hid (Calls Tryd.prog 17 #[.agg #[.int .i64 r.term.kind, .int .i64 r.term.n, .int .i64 r.term.ev, .bool r.term.bus, .slice p.T r.term.kids.length p.tcap], .agg (ccs r.cal p.hv).toArray, .slice (some ⟨g2, 0, none⟩) 2 2] v3 fun e w' => e = .returned (.tuple #[.int .i64 la, .bool true, .int .i64 0]) ∧ Below v3.heap.size v3 w') := hEV
      clear hEV
      obtain ⟨-, ⟨⟨c0, c1, c2, c3⟩, c4, c5, c6, c7⟩, t0, t1, t2, t3, t4⟩ := rule_cells HT3.out.rb
      go_wp2_with fail
      refine HEC.out.mono ?_
      rintro e9 v4 ⟨rfl, hb⟩
      have HT4 := Lib.hid (HT3.out.keep hb)
      clear hb HEC c0 c1 c2 c3 c4 c5 c6 c7 t0 t1 t2 t3 t4
      have hle : fi ≤ la := HLE.out
      go_wp2_with fail
      go_ret
      exact ⟨rfl, HT4.out.be⟩
    · obtain ⟨n0, n1, n2⟩ := HS3.out.n
      dsimp only at n0 n1 n2
      have hends := law_exact (a := (-1)) (b := (-1)) (c := (-1)) (d := (-1)) HDE.out HC.out (fun sa sb hst => str_ends HBS.out hst (by omega) (by omega))
      obtain ⟨⟨e1, e2, e3, e4⟩, hv1, hv2, hle⟩ := hends
      have HV1 := Lib.hid hv1; have HV2 := Lib.hid hv2; have HLE := Lib.hid hle; have HE2 := Lib.hid e2; have HE4 := Lib.hid e4
      have HE := Lib.hid (Rc.events_any r.zone p.A p.cap (-1) (-1) w3 HR.out.len (HR.out.row.below HS3.out.be) e1 e3)
      clear hv1 hv2 hle e1 e2 e3 e4
      go_upto_region 13 with fail
      obtain ⟨⟨z0, z1⟩, -, -⟩ := rule_cells HS3.out.rb
      go_wp2_with fail
      refine HE.out.mono ?_
      rintro e9 v1 ⟨g1, rfl, hev, hb⟩
      have HT1 := Lib.hid (HS3.out.keep hb)
      have HEV1 := Lib.hid hev
      clear hb hev HE z0 z1
      have HE := Lib.hid (Rc.events_any r.zone p.A p.cap (-1) (-1) v1 HR.out.len (HR.out.row.below HT1.out.be) HE2.out HE4.out)
      obtain ⟨⟨z0, z1⟩, -, -⟩ := rule_cells HT1.out.rb
      go_wp2_with fail
      refine HE.out.mono ?_
      rintro e9 v2 ⟨g2, rfl, hev, hb⟩
      have HT2 := Lib.hid (HT1.out.keep hb)
      have HEV2 := Lib.hid hev
      have HEV1 := Lib.hid (HEV1.out.below hb)
      clear hb hev HE z0 z1
      have hEV := Dl.eval_any r.term (.slice p.T r.term.kids.length p.tcap) r.cal p.hv _ _ v2 (HR.out.below HT2.out.be).tr (HR.out.below HT2.out.be).cal HEV1.out (bf_keep HBF.out HT2.out.be)
      rw [HV1.out] at hEV
      have HEC : Hid (Calls Tryd.prog 17 #[.agg #[.int .i64 r.term.kind, .int .i64 r.term.n, .int .i64 r.term.ev, .bool r.term.bus, .slice p.T r.term.kids.length p.tcap], .agg (ccs r.cal p.hv).toArray, .slice (some ⟨g1, 0, none⟩) 2 2] v2 fun e w' => e = .returned (.tuple #[.int .i64 fi, .bool true, .int .i64 0]) ∧ Below v2.heap.size v2 w') := hEV
      clear hEV
      obtain ⟨-, ⟨⟨c0, c1, c2, c3⟩, c4, c5, c6, c7⟩, t0, t1, t2, t3, t4⟩ := rule_cells HT2.out.rb
      go_wp2_with fail
      refine HEC.out.mono ?_
      rintro e9 v3 ⟨rfl, hb⟩
      have HT3 := Lib.hid (HT2.out.keep hb)
      have HEV2 := Lib.hid (HEV2.out.below hb)
      clear hb HEC c0 c1 c2 c3 c4 c5 c6 c7 t0 t1 t2 t3 t4
      have hEV := Dl.eval_any r.term (.slice p.T r.term.kids.length p.tcap) r.cal p.hv _ _ v3 (HR.out.below HT3.out.be).tr (HR.out.below HT3.out.be).cal HEV2.out (bf_keep HBF.out HT3.out.be)
      rw [HV2.out] at hEV
      have HEC : Hid (Calls Tryd.prog 17 #[.agg #[.int .i64 r.term.kind, .int .i64 r.term.n, .int .i64 r.term.ev, .bool r.term.bus, .slice p.T r.term.kids.length p.tcap], .agg (ccs r.cal p.hv).toArray, .slice (some ⟨g2, 0, none⟩) 2 2] v3 fun e w' => e = .returned (.tuple #[.int .i64 la, .bool true, .int .i64 0]) ∧ Below v3.heap.size v3 w') := hEV
      clear hEV
      obtain ⟨-, ⟨⟨c0, c1, c2, c3⟩, c4, c5, c6, c7⟩, t0, t1, t2, t3, t4⟩ := rule_cells HT3.out.rb
      go_wp2_with fail
      refine HEC.out.mono ?_
      rintro e9 v4 ⟨rfl, hb⟩
      have HT4 := Lib.hid (HT3.out.keep hb)
      clear hb HEC c0 c1 c2 c3 c4 c5 c6 c7 t0 t1 t2 t3 t4
      have hle : fi ≤ la := HLE.out
      go_wp2_with fail
      go_ret
      exact ⟨rfl, HT4.out.be⟩
end Go.Proofs.YticlmkfifpkdpaaDoor
