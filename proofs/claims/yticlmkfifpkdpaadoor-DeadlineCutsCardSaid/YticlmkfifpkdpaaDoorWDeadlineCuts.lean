/-
  The walk of the statement DeadlineCuts: it returns true for every input.
-/
import Derived.Test.YticlmkfifpkdpaaDoorDlLawW
namespace Go.Proofs.YticlmkfifpkdpaaDoor
open Go.RowKit Mem Vw Dl
set_option linter.unusedVariables false
set_option linter.unusedSimpArgs false
set_option maxRecDepth 100000 in
set_option maxHeartbeats 8000000 in
theorem walk_DeadlineCuts (c : Cal) (hv : Value) (l : List When) (lv : Value) (a2 : Int) (w2 : (Lit.int .u8 a2).wf = true) (n : Int) (w3 : (Lit.int .i64 n).wf = true) (W : World) (hbf : Bf W) (hC : CalAt W c hv) (hl : EvsAt W l lv) :
    Calls Tryd.prog 11 #[.agg (ccs c hv).toArray, lv, .int .u8 a2, .int .i64 n] W fun e w' => e = .returned (.bool true) ∧ Below W.heap.size W w' := by
  obtain ⟨Al, nl, hlv, hl1, hl2, hlc⟩ := hl.slice
  subst hlv
  have HEl := Lib.hid hl; have HCl := Lib.hid hlc
  have HBF := Lib.hid hbf
  have HG := Lib.hid (GV.mk hbf hC)
  have hb2 := bounds_u8 w2
  have hb3 := bounds_i64 w3
  clear hbf hC hl hlc w2 w3
  have HS0 := Lib.hid (CS.start (W := W) (c := c) (hv := hv))
  obtain ⟨w0, HW0⟩ : ∃ w0, Hid (W.alloc (.cells (ccs c hv).toArray 28) = w0) := ⟨_, rfl⟩
  rw [HW0.out] at HS0
  have HHD := Lib.hid (head_any w0 (bf_keep HBF.out HS0.out.be))
  go_enter Tryd.func11, Tryd.ntmps11
  go_upto_region 1 with fail
  rw [HW0.out]
  clear HW0
  go_wp2_with fail
  refine HHD.out.mono ?_
  rintro e9 w1 ⟨rfl, hb1⟩
  have HS1 := Lib.hid (HS0.out.keep hb1)
  clear hb1 HHD HS0
  by_cases h0 : l.length = 0
  · have h0' : ((l.length : Int) == 0) = true := by rw [h0]; rfl
    go_wp2_with fail
    go_ret
    exact ⟨rfl, HS1.out.be⟩
  have h0' : ((l.length : Int) == 0) = false := beq_eq_false_iff_ne.2 (by omega)
  by_cases h40 : (l.length : Int) > 40
  · go_wp2_with fail
    go_ret
    exact ⟨rfl, HS1.out.be⟩
  obtain ⟨i, hi, hil⟩ : ∃ i : Nat, a2 % (l.length : Int) = (i : Int) ∧ i < l.length := ⟨(a2 % (l.length : Int)).toNat, by have := Int.emod_nonneg a2 (b := (l.length : Int)) (by omega); omega, by have := Int.emod_lt_of_pos a2 (b := (l.length : Int)) (by omega); have := Int.emod_nonneg a2 (b := (l.length : Int)) (by omega); omega⟩
  have hl0 : (l.length : Int) ≠ 0 := by omega
  have HI := Lib.hid hi
  clear hi
  obtain ⟨a, ha⟩ : ∃ a, l[i]? = some a := ⟨_, List.getElem?_eq_getElem hil⟩
  have HEV : Hid (evAt l (i : Int) = a) := by show _ = _; unfold evAt; rw [List.getD_eq_getElem?_getD, Int.toNat_natCast, ha]; rfl
  obtain ⟨g, og, hAl, hg, q0, q1, q2⟩ := HCl.out i a ha
  subst hAl
  obtain ⟨ak, ad, am⟩ := a
  dsimp only at q0 q1 q2
  have HQ1 := Lib.hid q1; have HQ2 := Lib.hid q2; have HGL := Lib.hid hg
  clear q0 q1 q2 hg ha
  have wi : wf (i : Int) := by unfold wf; omega
  have wn : wf n := by unfold wf; omega
  obtain ⟨⟨d0, k0, e0⟩, HR0⟩ : ∃ r, Hid (eval (event (i : Int)) c l = r) := ⟨_, rfl⟩
  obtain ⟨⟨d1, k1, e1⟩, HR1⟩ : ∃ r, Hid (eval (cut 1440 (i : Int)) c l = r) := ⟨_, rfl⟩
  obtain ⟨⟨d2, k2, e2⟩, HR2⟩ : ∃ r, Hid (eval (cut 0 (i : Int)) c l = r) := ⟨_, rfl⟩
  obtain ⟨⟨d3, k3, e3⟩, HR3⟩ : ∃ r, Hid (eval (cut n (i : Int)) c l = r) := ⟨_, rfl⟩
  go_upto_region 5 with fail
  rw [HI.out]
  obtain ⟨⟨c0, c1, c2, c3⟩, c4, c5, c6, c7⟩ := HS1.out.c
  have HEVC := Lib.hid (eval_at HG.out HS1.out.be (event (i : Int), .slice none 0 0) (tree_leaf _ _ _ _ _ (by unfold wf; decide) wi) l _ (HEl.out.below HS1.out.be) (cs := #[.int .i64 2, .int .i64 0, .int .i64 (i : Int), .bool false, .slice none 0 0]) rfl HR0.out)
  go_wp2_with fail
  refine HEVC.out.mono ?_
  rintro e9 w2 ⟨rfl, hb⟩
  have HS2 := Lib.hid (HS1.out.keep hb)
  clear hb HEVC c0 c1 c2 c3 c4 c5 c6 c7
  have HZ := Lib.hid (eval_zero HR0.out)
  by_cases he0 : e0 = 0
  case neg =>
    obtain ⟨rfl, rfl⟩ := HZ.out (.inl he0)
    have hb : (e0 != 0) = true := by simpa using he0
    go_wp2_with fail
    go_ret
    exact ⟨rfl, HS2.out.be⟩
  subst he0
  cases k0
  · obtain ⟨rfl, -⟩ := HZ.out (.inr rfl)
    go_wp2_with fail
    go_ret
    exact ⟨rfl, HS2.out.be⟩
  have hlaw := law_cuts (c := c) (l := l) (e := (i : Int)) (by rw [HR0.out]) (by rw [HR0.out]) n
  rw [HR0.out, HR1.out, HR2.out, HR3.out, HEV.out] at hlaw
  obtain ⟨HV, HY⟩ := hlaw
  have HV := Lib.hid HV; have HY := Lib.hid HY
  clear HZ
  by_cases hn0 : n < 0
  · have hv := valid_any (cut n (i : Int)) (.slice none 0 0) l.length w2 (tree_leaf _ _ _ _ _ wn wi)
    rw [HV.out (.inl hn0)] at hv
    have HVA : Hid (Calls Tryd.prog 30 #[.agg #[.int .i64 3, .int .i64 n, .int .i64 (i : Int), .bool false, .slice none 0 0], .int .i64 (l.length : Int)] w2 fun e w' => e = .returned (.bool false) ∧ Below w2.heap.size w2 w') := hv
    clear hv
    go_wp2_with fail
    refine HVA.out.mono ?_
    rintro e9 w3 ⟨rfl, hb⟩
    have HS3 := Lib.hid (HS2.out.keep hb)
    clear hb HVA
    go_wp2_with fail
    go_ret
    exact ⟨rfl, HS3.out.be⟩
  by_cases hn1 : n > 1440
  · have hv := valid_any (cut n (i : Int)) (.slice none 0 0) l.length w2 (tree_leaf _ _ _ _ _ wn wi)
    rw [HV.out (.inr hn1)] at hv
    have HVA : Hid (Calls Tryd.prog 30 #[.agg #[.int .i64 3, .int .i64 n, .int .i64 (i : Int), .bool false, .slice none 0 0], .int .i64 (l.length : Int)] w2 fun e w' => e = .returned (.bool false) ∧ Below w2.heap.size w2 w') := hv
    clear hv
    go_wp2_with fail
    refine HVA.out.mono ?_
    rintro e9 w3 ⟨rfl, hb⟩
    have HS3 := Lib.hid (HS2.out.keep hb)
    clear hb HVA
    go_wp2_with fail
    go_ret
    exact ⟨rfl, HS3.out.be⟩
  obtain ⟨hd, hr1, hmax, hno⟩ := HY.out (by omega) (by omega)
  injection hr1 with hr1 hr1b
  injection hr1b with hr1b hr1c
  dsimp only at hd hmax hno
  subst hd hr1 hr1b hr1c
  have HMAX := Lib.hid hmax; have HNO := Lib.hid hno
  clear hmax hno HY HV
  obtain ⟨⟨c0, c1, c2, c3⟩, c4, c5, c6, c7⟩ := HS2.out.c
  have HEVC := Lib.hid (eval_at HG.out HS2.out.be (cut 1440 (i : Int), .slice none 0 0) (tree_leaf _ _ _ _ _ (by unfold wf; decide) wi) l _ (HEl.out.below HS2.out.be) (cs := #[.int .i64 3, .int .i64 1440, .int .i64 (i : Int), .bool false, .slice none 0 0]) rfl HR1.out)
  go_wp2_with fail
  refine HEVC.out.mono ?_
  rintro e9 w3 ⟨rfl, hb⟩
  have HS3 := Lib.hid (HS2.out.keep hb)
  clear hb HEVC c0 c1 c2 c3 c4 c5 c6 c7
  obtain ⟨⟨c0, c1, c2, c3⟩, c4, c5, c6, c7⟩ := HS3.out.c
  have HEVC := Lib.hid (eval_at HG.out HS3.out.be (cut 0 (i : Int), .slice none 0 0) (tree_leaf _ _ _ _ _ (by unfold wf; decide) wi) l _ (HEl.out.below HS3.out.be) (cs := #[.int .i64 3, .int .i64 0, .int .i64 (i : Int), .bool false, .slice none 0 0]) rfl HR2.out)
  go_wp2_with fail
  refine HEVC.out.mono ?_
  rintro e9 w4 ⟨rfl, hb⟩
  have HS4 := Lib.hid (HS3.out.keep hb)
  clear hb HEVC c0 c1 c2 c3 c4 c5 c6 c7
  obtain ⟨⟨c0, c1, c2, c3⟩, c4, c5, c6, c7⟩ := HS4.out.c
  have HEVC := Lib.hid (eval_at HG.out HS4.out.be (cut n (i : Int), .slice none 0 0) (tree_leaf _ _ _ _ _ wn wi) l _ (HEl.out.below HS4.out.be) (cs := #[.int .i64 3, .int .i64 n, .int .i64 (i : Int), .bool false, .slice none 0 0]) rfl HR3.out)
  go_wp2_with fail
  refine HEVC.out.mono ?_
  rintro e9 w5 ⟨rfl, hb⟩
  have HS5 := Lib.hid (HS4.out.keep hb)
  clear hb HEVC c0 c1 c2 c3 c4 c5 c6 c7
  have q1 := (World.cell?_of_block (a := ⟨g, og + i * 3 + 1, none⟩) (HS5.out.be.block g HGL.out)).trans HQ1.out
  have q2 := (World.cell?_of_block (a := ⟨g, og + i * 3 + 2, none⟩) (HS5.out.be.block g HGL.out)).trans HQ2.out
  obtain ⟨dr0, dr1⟩ := eval_rng HR0.out
  clear HR0 HR1 HR2 HR3 HEV HI HG
  by_cases hx : d1 = 73048
  · subst hx
    obtain ⟨h1, h2⟩ := HMAX.out rfl
    injection h1 with h1 h1b
    injection h1b with h1b h1c
    subst h1 h1b h1c
    by_cases hm : am ≥ n
    · have hm1 : decide (n ≤ am) = true := decide_eq_true hm
      rw [if_pos hm] at h2
      injection h2 with h2 h2b
      injection h2b with h2b h2c
      subst h2 h2b h2c
      clear HMAX HNO
      go_wp2_with fail
      go_ret
      exact ⟨rfl, HS5.out.be⟩
    · have hm1 : decide (n ≤ am) = false := decide_eq_false (by omega)
      rw [if_neg hm] at h2
      injection h2 with h2 h2b
      injection h2b with h2b h2c
      subst h2 h2b h2c
      clear HMAX HNO
      go_wp2_with fail
      go_ret
      exact ⟨rfl, HS5.out.be⟩
  · obtain ⟨h1, h2⟩ := HNO.out hx
    obtain ⟨D, hD⟩ : ∃ D, d1 + 1 = D := ⟨_, rfl⟩
    have hD1 : (D == d1) = false := beq_eq_false_iff_ne.2 (by omega)
    have hD2 : (d1 == D) = false := beq_eq_false_iff_ne.2 (by omega)
    rw [hD] at h1 h2
    have hxb : (d1 == 73048) = false := beq_eq_false_iff_ne.2 hx
    injection h1 with h1 h1b
    injection h1b with h1b h1c
    subst h1 h1b h1c
    by_cases hm : am ≥ n
    · have hm1 : decide (n ≤ am) = true := decide_eq_true hm
      rw [if_pos hm] at h2
      injection h2 with h2 h2b
      injection h2b with h2b h2c
      subst h2 h2b h2c
      clear HMAX HNO
      go_wp2_with fail
      go_ret
      exact ⟨rfl, HS5.out.be⟩
    · have hm1 : decide (n ≤ am) = false := decide_eq_false (by omega)
      rw [if_neg hm] at h2
      injection h2 with h2 h2b
      injection h2b with h2b h2c
      subst h2 h2b h2c
      clear HMAX HNO
      go_wp2_with fail
      go_ret
      exact ⟨rfl, HS5.out.be⟩
end Go.Proofs.YticlmkfifpkdpaaDoor
