/-
  The walk of the statement ReceiptBounds: it returns true for every input.
-/
import Derived.Test.YticlmkfifpkdpaaDoorRcRefs
import Derived.Test.YticlmkfifpkdpaaDoorRcEv
namespace Go.Proofs.YticlmkfifpkdpaaDoor
open Go.RowKit Mem Vw Rc
open Dl (Bf bf_keep wf tc ccs)
set_option linter.unusedVariables false
set_option linter.unusedSimpArgs false
namespace Rc
theorem str_in {s g k : Int} (hf : (s = -1 ∨ 0 ≤ s ∧ s ≤ 105190559) ∧ (g = -1 ∨ 0 ≤ g ∧ g ≤ 105190559) ∧ 0 ≤ k ∧ k ≤ 2880) {a b : Stretch} (hs : str ⟨s, g, k⟩ = some (a, b)) {x y : Int}
    (hx : (s = -1 ∧ x = -1) ∨ (s ≠ -1 ∧ s - k ≤ x ∧ x ≤ s + k ∧ 0 ≤ x ∧ x ≤ 105190559)) (hy : (g = -1 ∧ y = -1) ∨ (g ≠ -1 ∧ g - k ≤ y ∧ y ≤ g + k ∧ 0 ≤ y ∧ y ≤ 105190559 ∧ x ≤ y)) : inStr a x ∧ inStr b y := by
  unfold str at hs
  dsimp only at hs
  by_cases h : s = -1 ∨ g = -1
  · rw [if_pos h] at hs
    injection hs with hs
    injection hs with h1 h2
    subst h1 h2
    unfold str1 lastI
    constructor
    · by_cases h1 : s = -1
      · rw [if_pos h1]; show x < 0; omega
      · rw [if_neg h1]; show max 0 (s - k) ≤ x ∧ x ≤ min 105190559 (s + k) ∧ 0 ≤ max 0 (s - k) ∧ min 105190559 (s + k) < 105190560; omega
    · by_cases h1 : g = -1
      · rw [if_pos h1]; show y < 0; omega
      · rw [if_neg h1]; show max 0 (g - k) ≤ y ∧ y ≤ min 105190559 (g + k) ∧ 0 ≤ max 0 (g - k) ∧ min 105190559 (g + k) < 105190560; omega
  · rw [if_neg h] at hs
    by_cases h2 : g + k < s - k
    · rw [if_pos h2] at hs; cases hs
    · rw [if_neg h2] at hs
      injection hs with hs
      injection hs with h3 h4
      subst h3 h4
      unfold lastI
      constructor
      · show max 0 (s - k) ≤ x ∧ x ≤ min (min 105190559 (s + k)) (min 105190559 (g + k)) ∧ 0 ≤ max 0 (s - k) ∧ min (min 105190559 (s + k)) (min 105190559 (g + k)) < 105190560
        omega
      · show max (max 0 (g - k)) (max 0 (s - k)) ≤ y ∧ y ≤ min 105190559 (g + k) ∧ 0 ≤ max (max 0 (g - k)) (max 0 (s - k)) ∧ min 105190559 (g + k) < 105190560
        omega
theorem deemed_zero {r : Rule} {n : Notice} {f l e : Int} (h : deemed r n = (f, l, e)) (he : e ≠ 0) : f = 0 ∧ l = 0 := by
  unfold deemed at h
  split at h
  · injection h with h1 h2; injection h2 with h2 _; exact ⟨h1.symm, h2.symm⟩
  · split at h
    · injection h with h1 h2; injection h2 with h2 _; exact ⟨h1.symm, h2.symm⟩
    · split at h
      · injection h with h1 h2; injection h2 with h2 _; exact ⟨h1.symm, h2.symm⟩
      · unfold fin at h
        split at h
        · injection h with h1 h2; injection h2 with h2 _; exact ⟨h1.symm, h2.symm⟩
        · split at h
          · injection h with h1 h2; injection h2 with h2 _; exact ⟨h1.symm, h2.symm⟩
          · injection h with h1 h2; injection h2 with _ h3; exact absurd h3.symm he
end Rc
set_option maxRecDepth 100000 in
set_option maxHeartbeats 8000000 in
theorem walk_ReceiptBounds (x : Rule × RP) (n : Notice) (u : Int) (wu : (Lit.int .u32 u).wf = true) (v : Int) (wv : (Lit.int .u32 v).wf = true) (W : World) (hbf : Bf W) (hr : RuleAt W x.1 x.2) (hn : NoticeOk n) :
    Calls Tryd.prog 3 #[.agg (rcs x.1 x.2).toArray, .agg (ncs n).toArray, .int .u32 u, .int .u32 v] W fun e w' => e = .returned (.bool true) ∧ Below W.heap.size W w' := by
  obtain ⟨r, p⟩ := x
  dsimp only at hr ⊢
  have HR := Lib.hid hr; have HBF := Lib.hid hbf
  obtain ⟨wn0, wn1, wn2⟩ := hn
  clear hr hbf
  have HS0 := Lib.hid (LW.start (W := W) (r := r) (p := p) (n := n))
  obtain ⟨w0, HW0⟩ : ∃ w0, Hid ((W.alloc (.cells (rcs r p).toArray 33)).alloc (.cells (ncs n).toArray 35) = w0) := ⟨_, rfl⟩
  rw [HW0.out] at HS0
  have HHD := Lib.hid (Rc.head_any w0 (bf_keep HBF.out HS0.out.be))
  go_enter Tryd.func3, Tryd.ntmps3
  go_upto_region 1 with fail
  rw [HW0.out]
  clear HW0
  go_wp2_with fail
  refine HHD.out.mono ?_
  rintro e9 w1 ⟨rfl, hb1⟩
  have HS1 := Lib.hid (HS0.out.keep hb1)
  clear hb1 HHD HS0
  obtain ⟨⟨z0, z1⟩, ⟨⟨c0, c1, c2, c3⟩, c4, c5, c6, c7⟩, t0, t1, t2, t3, t4⟩ := rule_cells HS1.out.rb
  have HSM := Lib.hid (rsmall_any r p w1 (HR.out.below HS1.out.be))
  go_wp2_with fail
  refine HSM.out.mono ?_
  rintro e9 w2 ⟨⟨b2, rfl⟩, hb⟩
  have HS2 := Lib.hid (HS1.out.keep hb)
  clear hb HSM z0 z1 c0 c1 c2 c3 c4 c5 c6 c7 t0 t1 t2 t3 t4
  cases b2
  · go_wp2_with fail
    go_ret
    exact ⟨rfl, HS2.out.be⟩
  have hbu := bounds_u32 wu
  have hbv := bounds_u32 wv
  clear wu wv wn0 wn1 wn2
  obtain ⟨s, g, k⟩ := n
  obtain ⟨⟨fi, la, ee⟩, HDE⟩ : ∃ q, Hid (deemed r ⟨s, g, k⟩ = q) := ⟨_, rfl⟩
  obtain ⟨⟨z0, z1⟩, ⟨⟨c0, c1, c2, c3⟩, c4, c5, c6, c7⟩, t0, t1, t2, t3, t4⟩ := rule_cells HS2.out.rb
  obtain ⟨n0, n1, n2⟩ := HS2.out.n
  dsimp only at n0 n1 n2
  have HD := Lib.hid (deemed_at r p ⟨s, g, k⟩ (HR.out.below HS2.out.be) (bf_keep HBF.out HS2.out.be) rfl rfl HDE.out)
  go_wp2_with fail
  refine HD.out.mono ?_
  rintro e9 w3 ⟨rfl, hb⟩
  have HS3 := Lib.hid (HS2.out.keep hb)
  clear hb HD z0 z1 c0 c1 c2 c3 c4 c5 c6 c7 t0 t1 t2 t3 t4 n0 n1 n2
  by_cases hee : ee = 0
  case neg =>
    have heb : (ee != 0) = true := by simpa using hee
    obtain ⟨hz1, hz2⟩ := deemed_zero HDE.out hee
    subst hz1 hz2
    go_wp2_with fail
    go_ret
    exact ⟨rfl, HS3.out.be⟩
  subst hee
  obtain ⟨hok, hfo, -⟩ := deemed_inv HDE.out
  have hb : (s = -1 ∨ 0 ≤ s ∧ s ≤ 105190559) ∧ (g = -1 ∨ 0 ≤ g ∧ g ≤ 105190559) ∧ 0 ≤ k ∧ k ≤ 2880 := by
    have hf := hfo
    unfold formed dated lastI at hf
    simp only [Bool.and_eq_true, Bool.or_eq_true, decide_eq_true_eq] at hf
    exact ⟨hf.1.1.1, hf.1.1.2, hf.1.2, hf.2⟩
  have HBS := Lib.hid hb
  clear hok hfo
  obtain ⟨hs, hg, hk0, hk1⟩ := hb
  obtain ⟨n0, n1, n2⟩ := HS3.out.n
  dsimp only at n0 n1 n2
  by_cases hs1 : s < 0
  · have hsm : s = -1 := by omega
    by_cases hg1 : g < 0
    · have hgm : g = -1 := by omega
      obtain ⟨e1, e2, e3, e4, e5, e6⟩ := law_between (x := (-1)) (y := (-1)) HDE.out (fun a b hst => str_in HBS.out hst (by omega) (by omega))
      obtain ⟨⟨d, kn, ef⟩, HEV⟩ : ∃ q, Hid (Dl.eval r.term r.cal (evl r.zone (-1) (-1)) = q) := ⟨_, rfl⟩
      rw [HEV.out] at e3 e4 e5 e6
      dsimp only at e3 e4 e5 e6
      subst e3 e4
      have HE := Lib.hid (Rc.events_any r.zone p.A p.cap (-1) (-1) w3 HR.out.len (HR.out.row.below HS3.out.be) e1 e2)
      have H5 := Lib.hid e5; have H6 := Lib.hid e6
      clear e1 e2 e5 e6
      obtain ⟨⟨z0, z1⟩, -, -⟩ := rule_cells HS3.out.rb
      go_wp2_with fail
      refine HE.out.mono ?_
      rintro e9 w4 ⟨gl, rfl, hev, hb⟩
      have HS4 := Lib.hid (HS3.out.keep hb)
      have HEVS := Lib.hid hev
      clear hb hev HE z0 z1 n0 n1 n2
      have hEV := Dl.eval_any r.term (.slice p.T r.term.kids.length p.tcap) r.cal p.hv _ _ w4 (HR.out.below HS4.out.be).tr (HR.out.below HS4.out.be).cal HEVS.out (bf_keep HBF.out HS4.out.be)
      rw [HEV.out] at hEV
      have HEC : Hid (Calls Tryd.prog 17 #[.agg #[.int .i64 r.term.kind, .int .i64 r.term.n, .int .i64 r.term.ev, .bool r.term.bus, .slice p.T r.term.kids.length p.tcap], .agg (ccs r.cal p.hv).toArray, .slice (some ⟨gl, 0, none⟩) 2 2] w4 fun e w' => e = .returned (.tuple #[.int .i64 d, .bool true, .int .i64 0]) ∧ Below w4.heap.size w4 w') := hEV
      clear hEV
      obtain ⟨-, ⟨⟨c0, c1, c2, c3⟩, c4, c5, c6, c7⟩, t0, t1, t2, t3, t4⟩ := rule_cells HS4.out.rb
      go_wp2_with fail
      refine HEC.out.mono ?_
      rintro e9 w5 ⟨rfl, hb⟩
      have HS5 := Lib.hid (HS4.out.keep hb)
      clear hb HEC c0 c1 c2 c3 c4 c5 c6 c7 t0 t1 t2 t3 t4
      have h5 : fi ≤ d := H5.out
      have h6 : d ≤ la := H6.out
      go_wp2_with fail
      go_ret
      exact ⟨rfl, HS5.out.be⟩
    by_cases d1 : v < g - k
    · go_wp2_with fail
      go_ret
      exact ⟨rfl, HS3.out.be⟩
    by_cases d2 : v > g + k
    · go_wp2_with fail
      go_ret
      exact ⟨rfl, HS3.out.be⟩
    by_cases d3 : v > 105190559
    · go_wp2_with fail
      go_ret
      exact ⟨rfl, HS3.out.be⟩
    have d4 : ¬ v < (-1) := by omega
    obtain ⟨e1, e2, e3, e4, e5, e6⟩ := law_between (x := (-1)) (y := v) HDE.out (fun a b hst => str_in HBS.out hst (by omega) (by omega))
    obtain ⟨⟨d, kn, ef⟩, HEV⟩ : ∃ q, Hid (Dl.eval r.term r.cal (evl r.zone (-1) v) = q) := ⟨_, rfl⟩
    rw [HEV.out] at e3 e4 e5 e6
    dsimp only at e3 e4 e5 e6
    subst e3 e4
    have HE := Lib.hid (Rc.events_any r.zone p.A p.cap (-1) v w3 HR.out.len (HR.out.row.below HS3.out.be) e1 e2)
    have H5 := Lib.hid e5; have H6 := Lib.hid e6
    clear e1 e2 e5 e6
    obtain ⟨⟨z0, z1⟩, -, -⟩ := rule_cells HS3.out.rb
    go_wp2_with fail
    refine HE.out.mono ?_
    rintro e9 w4 ⟨gl, rfl, hev, hb⟩
    have HS4 := Lib.hid (HS3.out.keep hb)
    have HEVS := Lib.hid hev
    clear hb hev HE z0 z1 n0 n1 n2
    have hEV := Dl.eval_any r.term (.slice p.T r.term.kids.length p.tcap) r.cal p.hv _ _ w4 (HR.out.below HS4.out.be).tr (HR.out.below HS4.out.be).cal HEVS.out (bf_keep HBF.out HS4.out.be)
    rw [HEV.out] at hEV
    have HEC : Hid (Calls Tryd.prog 17 #[.agg #[.int .i64 r.term.kind, .int .i64 r.term.n, .int .i64 r.term.ev, .bool r.term.bus, .slice p.T r.term.kids.length p.tcap], .agg (ccs r.cal p.hv).toArray, .slice (some ⟨gl, 0, none⟩) 2 2] w4 fun e w' => e = .returned (.tuple #[.int .i64 d, .bool true, .int .i64 0]) ∧ Below w4.heap.size w4 w') := hEV
    clear hEV
    obtain ⟨-, ⟨⟨c0, c1, c2, c3⟩, c4, c5, c6, c7⟩, t0, t1, t2, t3, t4⟩ := rule_cells HS4.out.rb
    go_wp2_with fail
    refine HEC.out.mono ?_
    rintro e9 w5 ⟨rfl, hb⟩
    have HS5 := Lib.hid (HS4.out.keep hb)
    clear hb HEC c0 c1 c2 c3 c4 c5 c6 c7 t0 t1 t2 t3 t4
    have h5 : fi ≤ d := H5.out
    have h6 : d ≤ la := H6.out
    go_wp2_with fail
    go_ret
    exact ⟨rfl, HS5.out.be⟩
  by_cases c1 : u < s - k
  · go_wp2_with fail
    go_ret
    exact ⟨rfl, HS3.out.be⟩
  by_cases c2 : u > s + k
  · go_wp2_with fail
    go_ret
    exact ⟨rfl, HS3.out.be⟩
  by_cases c3 : u > 105190559
  · go_wp2_with fail
    go_ret
    exact ⟨rfl, HS3.out.be⟩
  by_cases hg1 : g < 0
  · have hgm : g = -1 := by omega
    obtain ⟨e1, e2, e3, e4, e5, e6⟩ := law_between (x := u) (y := (-1)) HDE.out (fun a b hst => str_in HBS.out hst (by omega) (by omega))
    obtain ⟨⟨d, kn, ef⟩, HEV⟩ : ∃ q, Hid (Dl.eval r.term r.cal (evl r.zone u (-1)) = q) := ⟨_, rfl⟩
    rw [HEV.out] at e3 e4 e5 e6
    dsimp only at e3 e4 e5 e6
    subst e3 e4
    have HE := Lib.hid (Rc.events_any r.zone p.A p.cap u (-1) w3 HR.out.len (HR.out.row.below HS3.out.be) e1 e2)
    have H5 := Lib.hid e5; have H6 := Lib.hid e6
    clear e1 e2 e5 e6
    obtain ⟨⟨z0, z1⟩, -, -⟩ := rule_cells HS3.out.rb
    go_wp2_with fail
    refine HE.out.mono ?_
    rintro e9 w4 ⟨gl, rfl, hev, hb⟩
    have HS4 := Lib.hid (HS3.out.keep hb)
    have HEVS := Lib.hid hev
    clear hb hev HE z0 z1 n0 n1 n2
    have hEV := Dl.eval_any r.term (.slice p.T r.term.kids.length p.tcap) r.cal p.hv _ _ w4 (HR.out.below HS4.out.be).tr (HR.out.below HS4.out.be).cal HEVS.out (bf_keep HBF.out HS4.out.be)
    rw [HEV.out] at hEV
    have HEC : Hid (Calls Tryd.prog 17 #[.agg #[.int .i64 r.term.kind, .int .i64 r.term.n, .int .i64 r.term.ev, .bool r.term.bus, .slice p.T r.term.kids.length p.tcap], .agg (ccs r.cal p.hv).toArray, .slice (some ⟨gl, 0, none⟩) 2 2] w4 fun e w' => e = .returned (.tuple #[.int .i64 d, .bool true, .int .i64 0]) ∧ Below w4.heap.size w4 w') := hEV
    clear hEV
    obtain ⟨-, ⟨⟨c0, c1, c2, c3⟩, c4, c5, c6, c7⟩, t0, t1, t2, t3, t4⟩ := rule_cells HS4.out.rb
    go_wp2_with fail
    refine HEC.out.mono ?_
    rintro e9 w5 ⟨rfl, hb⟩
    have HS5 := Lib.hid (HS4.out.keep hb)
    clear hb HEC c0 c1 c2 c3 c4 c5 c6 c7 t0 t1 t2 t3 t4
    have h5 : fi ≤ d := H5.out
    have h6 : d ≤ la := H6.out
    go_wp2_with fail
    go_ret
    exact ⟨rfl, HS5.out.be⟩
  by_cases d1 : v < g - k
  · go_wp2_with fail
    go_ret
    exact ⟨rfl, HS3.out.be⟩
  by_cases d2 : v > g + k
  · go_wp2_with fail
    go_ret
    exact ⟨rfl, HS3.out.be⟩
  by_cases d3 : v > 105190559
  · go_wp2_with fail
    go_ret
    exact ⟨rfl, HS3.out.be⟩
  by_cases d4 : v < u
  · go_wp2_with fail
    go_ret
    exact ⟨rfl, HS3.out.be⟩
  obtain ⟨e1, e2, e3, e4, e5, e6⟩ := law_between (x := u) (y := v) HDE.out (fun a b hst => str_in HBS.out hst (by omega) (by omega))
  obtain ⟨⟨d, kn, ef⟩, HEV⟩ : ∃ q, Hid (Dl.eval r.term r.cal (evl r.zone u v) = q) := ⟨_, rfl⟩
  rw [HEV.out] at e3 e4 e5 e6
  dsimp only at e3 e4 e5 e6
  subst e3 e4
  have HE := Lib.hid (Rc.events_any r.zone p.A p.cap u v w3 HR.out.len (HR.out.row.below HS3.out.be) e1 e2)
  have H5 := Lib.hid e5; have H6 := Lib.hid e6
  clear e1 e2 e5 e6
  obtain ⟨⟨z0, z1⟩, -, -⟩ := rule_cells HS3.out.rb
  go_wp2_with fail
  refine HE.out.mono ?_
  rintro e9 w4 ⟨gl, rfl, hev, hb⟩
  have HS4 := Lib.hid (HS3.out.keep hb)
  have HEVS := Lib.hid hev
  clear hb hev HE z0 z1 n0 n1 n2
  have hEV := Dl.eval_any r.term (.slice p.T r.term.kids.length p.tcap) r.cal p.hv _ _ w4 (HR.out.below HS4.out.be).tr (HR.out.below HS4.out.be).cal HEVS.out (bf_keep HBF.out HS4.out.be)
  rw [HEV.out] at hEV
  have HEC : Hid (Calls Tryd.prog 17 #[.agg #[.int .i64 r.term.kind, .int .i64 r.term.n, .int .i64 r.term.ev, .bool r.term.bus, .slice p.T r.term.kids.length p.tcap], .agg (ccs r.cal p.hv).toArray, .slice (some ⟨gl, 0, none⟩) 2 2] w4 fun e w' => e = .returned (.tuple #[.int .i64 d, .bool true, .int .i64 0]) ∧ Below w4.heap.size w4 w') := hEV
  clear hEV
  obtain ⟨-, ⟨⟨c0, c1, c2, c3⟩, c4, c5, c6, c7⟩, t0, t1, t2, t3, t4⟩ := rule_cells HS4.out.rb
  go_wp2_with fail
  refine HEC.out.mono ?_
  rintro e9 w5 ⟨rfl, hb⟩
  have HS5 := Lib.hid (HS4.out.keep hb)
  clear hb HEC c0 c1 c2 c3 c4 c5 c6 c7 t0 t1 t2 t3 t4
  have h5 : fi ≤ d := H5.out
  have h6 : d ≤ la := H6.out
  go_wp2_with fail
  go_ret
  exact ⟨rfl, HS5.out.be⟩
end Go.Proofs.YticlmkfifpkdpaaDoor
