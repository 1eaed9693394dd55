/-
  The walk of the statement DeadlineExtremes: it returns true for every input.
-/
import Derived.Test.YticlmkfifpkdpaaDoorDlExtA
namespace Go.Proofs.YticlmkfifpkdpaaDoor
open Go.RowKit Mem Vw Dl
set_option linter.unusedVariables false
set_option linter.unusedSimpArgs false
set_option maxRecDepth 100000 in
set_option maxHeartbeats 8000000 in
theorem walk_DeadlineExtremes (ks : List (Term × Value)) (lv : Value) (c : Cal) (hv : Value) (l : List When) (ev : Value) (W : World) (hbf : Bf W) (hrow : Row W lv 5 (ks.map tc)) (htree : ∀ x ∈ ks, Tree W x.1 x.2) (hlen : ks.length ≤ maxLen) (hC : CalAt W c hv) (hl : EvsAt W l ev) :
    Calls Tryd.prog 10 #[lv, .agg (ccs c hv).toArray, ev] W fun e w' => e = .returned (.bool true) ∧ Below W.heap.size W w' := by
  obtain ⟨Al, nl, hlv, hl1, hl2, hlc⟩ := hl.slice
  subst hlv
  obtain ⟨Ak, nk, hkv, hk1, hk2⟩ := hrow.slice
  rw [List.length_map] at hkv hk1
  subst hkv
  have HEl := Lib.hid hl; have HROW := Lib.hid hrow; have HTR := Lib.hid htree
  have HBF := Lib.hid hbf
  have HG := Lib.hid (GV.mk hbf hC)
  obtain ⟨ts, HTS⟩ : ∃ ts, Hid (ks.map Prod.fst = ts) := ⟨_, rfl⟩
  have HTL : Hid (ts.length = ks.length) := by show _ = _; rw [← HTS.out, List.length_map]
  have HML := Lib.hid hlen
  have HT7 : Hid (∀ X, Below W.heap.size W X → ∀ q, Tree X (.mk q 0 0 false ts) (.slice Ak ks.length nk)) := fun X hb q => .mk ks (by show ks.map Prod.fst = ts; exact HTS.out) (HROW.out.below hb) (fun x hx => (HTR.out x hx).keep hb) (by show ts.length ≤ _; have h1 := HML.out; have h2 := HTL.out; unfold maxLen at h1; omega) ⟨by show wf 0; unfold wf; decide, by show wf 0; unfold wf; decide⟩
  clear hbf hC hl hlc hrow htree hlen
  have HS0 := Lib.hid (CS.start (W := W) (c := c) (hv := hv))
  obtain ⟨w0, HW0⟩ : ∃ w0, Hid (W.alloc (.cells (ccs c hv).toArray 28) = w0) := ⟨_, rfl⟩
  rw [HW0.out] at HS0
  have HHD := Lib.hid (head_any w0 (bf_keep HBF.out HS0.out.be))
  go_enter Tryd.func10, Tryd.ntmps10
  go_upto_region 1 with fail
  rw [HW0.out]
  clear HW0
  go_wp2_with fail
  refine HHD.out.mono ?_
  rintro e9 w1 ⟨rfl, hb1⟩
  have HS1 := Lib.hid (HS0.out.keep hb1)
  clear hb1 HHD HS0
  obtain ⟨w2, HW2⟩ : ∃ Y, Hid ((w1.alloc (.cells #[.int .i64 7, .int .i64 0, .int .i64 0, .bool false, .slice Ak ks.length nk] 31)).alloc (.cells #[.int .i64 8, .int .i64 0, .int .i64 0, .bool false, .slice Ak ks.length nk] 31) = Y) := ⟨_, rfl⟩
  have HS2 : Hid (XS W c hv W.heap.size w1.heap.size (w1.heap.size + 1) (.slice Ak ks.length nk) w2) := by
    rw [← HW2.out]
    have h1 : Below w1.heap.size w1 ((w1.alloc (.cells #[.int .i64 7, .int .i64 0, .int .i64 0, .bool false, .slice Ak ks.length nk] 31)).alloc (.cells #[.int .i64 8, .int .i64 0, .int .i64 0, .bool false, .slice Ak ks.length nk] 31)) := ((Below.refl _ w1).alloc (Nat.le_refl _) _).alloc (by simp) _
    exact ⟨(HS1.out.keep h1).be, (HS1.out.keep h1).cb, blk_alloc (blk_newn rfl) _, blk_newn (by simp)⟩
  clear HS1
  go_upto_region 4 with fail
  rw [HW2.out]
  clear HW2
  obtain ⟨⟨f0, f1, f2, f3, f4⟩, m0, m1, m2, m3, m4⟩ := HS2.out.f
  have hsm := small_any (.mk 7 0 0 false ts) (.slice Ak ks.length nk) l Al nl w2 (HT7.out w2 HS2.out.be 7)
  have HSM : Hid (Calls Tryd.prog 26 #[.agg #[.int .i64 7, .int .i64 0, .int .i64 0, .bool false, .slice Ak ks.length nk], .slice Al l.length nl] w2 fun e w' => SmOk l e ∧ Below w2.heap.size w2 w') := hsm
  clear hsm
  go_wp2_with fail
  refine HSM.out.mono ?_
  rintro e9 w3 ⟨⟨b3, rfl, hsm⟩, hb⟩
  have HS3 := Lib.hid (HS2.out.keep hb)
  clear hb HSM hsm f0 f1 f2 f3 f4 m0 m1 m2 m3 m4
  cases b3
  · go_wp2_with fail
    go_ret
    exact ⟨rfl, HS3.out.be⟩
  obtain ⟨⟨d1, k1, e1⟩, HR1⟩ : ∃ r, Hid (eval (.mk 7 0 0 false ts) c l = r) := ⟨_, rfl⟩
  obtain ⟨⟨d2, k2, e2⟩, HR2⟩ : ∃ r, Hid (eval (.mk 8 0 0 false ts) c l = r) := ⟨_, rfl⟩
  have hlaw := law_ext ts c l
  have h7 : eval (tmin ts) c l = (d1, k1, e1) := HR1.out
  have h8 : eval (tmax ts) c l = (d2, k2, e2) := HR2.out
  have hfew := kids_few (l := ts) (c := c) (evs := l)
  rw [h7] at hfew
  rw [h7, h8] at hlaw
  dsimp only at hlaw hfew
  obtain ⟨hl1, hl2, hl3⟩ := hlaw
  subst hl1
  have HL2 := Lib.hid hl2; have HL3 := Lib.hid hl3; have HFEW := Lib.hid hfew
  clear hl2 hl3 h7 h8 hfew
  obtain ⟨⟨f0, f1, f2, f3, f4⟩, m0, m1, m2, m3, m4⟩ := HS3.out.f
  obtain ⟨⟨c0, c1, c2, c3⟩, c4, c5, c6, c7⟩ := HS3.out.c
  have HEV := Lib.hid (eval_at HG.out HS3.out.be (.mk 7 0 0 false ts, .slice Ak ks.length nk) (HT7.out w3 HS3.out.be 7) l _ (HEl.out.below HS3.out.be) (cs := #[.int .i64 7, .int .i64 0, .int .i64 0, .bool false, .slice Ak ks.length nk]) rfl HR1.out)
  go_wp2_with fail
  refine HEV.out.mono ?_
  rintro e9 w4 ⟨rfl, hb⟩
  have HS4 := Lib.hid (HS3.out.keep hb)
  clear hb HEV f0 f1 f2 f3 f4 m0 m1 m2 m3 m4 c0 c1 c2 c3 c4 c5 c6 c7
  obtain ⟨⟨f0, f1, f2, f3, f4⟩, m0, m1, m2, m3, m4⟩ := HS4.out.f
  obtain ⟨⟨c0, c1, c2, c3⟩, c4, c5, c6, c7⟩ := HS4.out.c
  have HEV := Lib.hid (eval_at HG.out HS4.out.be (.mk 8 0 0 false ts, .slice Ak ks.length nk) (HT7.out w4 HS4.out.be 8) l _ (HEl.out.below HS4.out.be) (cs := #[.int .i64 8, .int .i64 0, .int .i64 0, .bool false, .slice Ak ks.length nk]) rfl HR2.out)
  go_wp2_with fail
  refine HEV.out.mono ?_
  rintro e9 w5 ⟨rfl, hb⟩
  have HS5 := Lib.hid (HS4.out.keep hb)
  clear hb HEV f0 f1 f2 f3 f4 m0 m1 m2 m3 m4 c0 c1 c2 c3 c4 c5 c6 c7
  by_cases he0 : e1 = 0
  case neg =>
    obtain ⟨rfl, rfl⟩ := HL2.out (.inl he0)
    have hb : (e1 != 0) = true := by simpa using he0
    go_wp2_with fail
    go_ret
    exact ⟨rfl, HS5.out.be⟩
  subst he0
  cases k1
  · obtain ⟨rfl, rfl⟩ := HL2.out (.inr rfl)
    go_wp2_with fail
    go_ret
    exact ⟨rfl, HS5.out.be⟩
  obtain ⟨ds, hdl, hl0, hde, hmin, hmax, hturn⟩ := HL3.out rfl rfl
  have h40 := HFEW.out rfl
  have hn40 : ks.length ≤ 40 := by have := HTL.out; omega
  have hn0 : 0 < ks.length := by have := HTL.out; omega
  have hdk : ds.length = ks.length := by have := HTL.out; omega
  have hdne : ds ≠ [] := by intro h; rw [h] at hdk; simp at hdk; omega
  have HDE := Lib.hid hde; have HTURN := Lib.hid hturn; have HDK := Lib.hid hdk
  obtain ⟨sp1, sp2⟩ := least1_spec hdne
  obtain ⟨sp3, sp4⟩ := most1_spec hdne
  rw [← hmin] at sp1 sp2
  rw [← hmax] at sp3 sp4
  rw [← hmin, ← hmax] at HTURN
  have HP1 := Lib.hid sp1; have HP2 := Lib.hid sp2; have HP3 := Lib.hid sp3; have HP4 := Lib.hid sp4
  obtain ⟨g, og, ck, hs1, hgl, _, _, hat⟩ := HROW.out.at (by intro h; rw [List.map_eq_nil_iff] at h; rw [h] at hn0; simp at hn0)
  have hAk : Ak = some ⟨g, og, none⟩ := by injection hs1
  subst hAk
  have HTC : Hid (∀ (j : Nat) (k n e : Int) (b : Bool) (kids : List Term) (v : Value), ks[j]? = some (.mk k n e b kids, v) → TCells W g (og + j * 5) k n e b v) := fun j k n e b kids v hj => tcells_of hgl hat hj
  clear hdl hl0 hde hturn hmin hmax sp1 sp2 sp3 sp4 hat hs1 hgl hdne h40 HL2 HL3 HFEW
  go_wp2_with fail
  go_loopw [16, 17, 18, 19] (fun lov hiv tv iv wr => ∃ (i : Nat) (lo hi : Bool) (K : List (Term × Value)) (Ad : Option Addr) (cd : Nat), lov = .bool lo ∧ hiv = .bool hi ∧ tv = .slice Ad K.length cd ∧ iv = .int .i64 i ∧ Hid (XL W w5 w5.heap.size ks ds d1 d2 i lo hi K (.slice Ad K.length cd) wr)) (fun _ _ _ iv _ => ks.length - (intOf iv).toNat)
  case atStart => exact ⟨0, false, false, [], none, 0, rfl, rfl, rfl, rfl, by omega, by simp, by simp, by simp, ⟨rfl, .inl ⟨rfl, rfl⟩⟩, Below.refl _ _⟩
  case round =>
    obtain ⟨i, lo, hi, K, Ad, cd, rfl, rfl, rfl, rfl, HX⟩ := hrel
    have HSr := Lib.hid (HS5.out.keep HX.out.be)
    have hi9 := HX.out.le
    by_cases hlt : i < ks.length
    · obtain ⟨x, hx⟩ : ∃ x, ks[i]? = some x := ⟨_, List.getElem?_eq_getElem hlt⟩
      obtain ⟨⟨k, n, e, b, kids⟩, kv⟩ := x
      have htr := HTR.out _ (List.mem_of_getElem? hx)
      obtain ⟨A, cp, hv1, _, _⟩ := htr.slice
      dsimp only at hv1 htr
      subst hv1
      have HKT := Lib.hid htr
      have HTCi := Lib.hid (HTC.out i k n e b kids _ hx)
      have hid : i < ds.length := by have := HDK.out; omega
      have hdi : ds.getD i 0 = ds[i] := by rw [List.getD_eq_getElem?_getD, List.getElem?_eq_getElem hid]; rfl
      have hti : ts[i]? = some (.mk k n e b kids) := by rw [← HTS.out, List.getElem?_map, hx]; rfl
      have hri := HDE.out i _ hti
      have hst1 := any_step hid lo HX.out.lo
      have hst2 := any_step hid hi HX.out.hi
      have hmem : ds[i] ∈ ds := List.getElem_mem hid
      have q1 := HP2.out _ hmem
      have q2 := HP4.out _ hmem
      rw [hdi] at hri
      obtain ⟨d, hd⟩ : ∃ d, ds[i] = d := ⟨_, rfl⟩
      rw [hd] at hri hst1 hst2 q1 q2
      have HRI := Lib.hid hri; have HST1 := Lib.hid hst1; have HST2 := Lib.hid hst2
      obtain ⟨j, hj⟩ : ∃ j, i + j + 1 = ks.length := ⟨ks.length - 1 - i, by omega⟩
      obtain ⟨y, hy⟩ : ∃ y, ks[j]? = some y := ⟨_, List.getElem?_eq_getElem (by omega)⟩
      have HKN : Hid (K ++ [y] = ks.reverse.take (i + 1)) := by
        show _ = _
        have hri : i < ks.reverse.length := by rw [List.length_reverse]; exact hlt
        rw [List.take_succ_eq_append_getElem hri, ← HX.out.kk, List.getElem_reverse]
        have : ks.length - 1 - i = j := by omega
        have hyy := (List.getElem?_eq_some_iff.1 hy).2
        simp only [this, hyy]
      have HKL : Hid (K.length = i) := by
        show _ = _
        rw [HX.out.kk, List.length_take, List.length_reverse]; omega
      obtain ⟨⟨k', n', e', b', kids'⟩, kv'⟩ := y
      obtain ⟨A', cp', hv2, _, _⟩ := (HTR.out _ (List.mem_of_getElem? hy)).slice
      dsimp only at hv2
      subst hv2
      have HTCj := Lib.hid (HTC.out j k' n' e' b' kids' _ hy)
      clear hx htr hid hdi hti hri hst1 hst2 hmem hd hy
      have hd1 : ¬ (d < d1) := by omega
      have hd2 : ¬ (d > d2) := by omega
      go_upto_region 17 with fail
      refine ext_r17 (by kernel_rfl) HG HEl HSr HKT HTCi hlt hn40 HRI (fun _ _ _ _ _ h => h) ?_
      intro v79 v80 v81 v82 v83 v84 v85 v86 v87 v88 v89 w7 hs hbw
      have HS7 := Lib.hid hs
      have HB7 : Hid (Below wr.heap.size wr w7) := hbw
      clear hs hbw
      go_upto_region 20 with fail
      refine ext_r20 (by kernel_rfl) ?_
      intro v106 v107 v108 v109 v110 v111 w8 hw8
      subst hw8
      go_upto_region 21 with fail
      refine ext_r21 (by kernel_rfl) ?_
      intro v112 v113 v114 v115 v116 v117 w9 hw9
      subst hw9
      have HO7 : Hid (w7.ownsRow w5.heap.size 31 5 (.slice Ad K.length cd) K.length (K.flatMap tc)) := own_fr HX.out.own (Fr.of_below (S := fun _ => False) HB7.out) (fun _ _ _ h => h)
      have HB57 : Hid (Below w5.heap.size w5 w7) := HX.out.be.trans (HB7.out.mono HX.out.be.size)
      go_upto_region 22 with fail
      refine ext_r22 (by kernel_rfl) HTCj HS7.out.be HO7 HB57.out.size (by have := HKL.out; omega) hn40 (by omega) (by omega) ?_
      intro v118 v119 v120 v121 v122 v123 v124 v125 v126 v127 v128 w10 gn cn hr
      obtain ⟨hr1, hr2⟩ := hr
      have HR10 := Lib.hid hr1
      have HB10 : Hid (Below w5.heap.size w5 w10) := HB57.out.trans hr2
      clear hr1 hr2
      go_wp2_with fail
      go_roundw
      case rel => exact ⟨i + 1, _, _, K ++ [(.mk k' n' e' b' kids', .slice A' kids'.length cp')], _, cn, rfl, rfl, by rw [List.length_append]; rfl, by go_num, by omega, HST1.out, HST2.out, HKN.out, by rw [List.length_append] at *; exact HR10.out, HB10.out⟩
      case measure => simp [intOf]; omega
    · have hie : i = ks.length := by omega
      subst hie
      have hlo : lo = true := HX.out.lo.2 (by rw [← HDK.out, List.take_length]; exact HP1.out)
      have hhi : hi = true := HX.out.hi.2 (by rw [← HDK.out, List.take_length]; exact HP3.out)
      subst hlo hhi
      have hkk : K = ks.reverse := by rw [HX.out.kk]; exact List.take_of_length_le (by rw [List.length_reverse]; exact Nat.le_refl _)
      have HKL : Hid (K.length = ks.length) := by show _ = _; rw [hkk, List.length_reverse]
      obtain ⟨y, hy⟩ : ∃ y, ks[0]? = some y := ⟨_, List.getElem?_eq_getElem hn0⟩
      have HKT1 : Hid ((K ++ [y]).map Prod.fst = ts.reverse ++ ts.take 1) := by
        show _ = _
        rw [List.map_append, hkk, List.map_reverse, HTS.out, ← HTS.out]
        cases ks with
        | nil => simp at hn0
        | cons a r => simp at hy; subst hy; rfl
      have HKM : Hid (∀ z ∈ K ++ [y], z ∈ ks) := by
        intro z hz
        rcases List.mem_append.1 hz with hz | hz
        · rw [hkk] at hz; exact List.mem_reverse.1 hz
        · rw [List.mem_singleton] at hz; subst hz; exact List.mem_of_getElem? hy
      obtain ⟨⟨k', n', e', b', kids'⟩, kv'⟩ := y
      obtain ⟨A', cp', hv2, _, _⟩ := (HTR.out _ (List.mem_of_getElem? hy)).slice
      dsimp only at hv2
      subst hv2
      have HTCj := Lib.hid (HTC.out 0 k' n' e' b' kids' _ hy)
      clear hy hkk
      go_upto_region 23 with fail
      refine ext_r23 (by kernel_rfl) (o := og) (i := 0) (j := 0) HTCj HSr.out.be (Lib.hid HX.out.own) HX.out.be.size (by have := HKL.out; omega) hn40 hn0 ?_
      intro v129 v130 v131 v132 v133 v134 w10 gn cn hr
      obtain ⟨hr1, hr2⟩ := hr
      have HS10 : Hid (XS W c hv W.heap.size w1.heap.size (w1.heap.size + 1) (.slice (some ⟨g, og, none⟩) ks.length nk) w10) := HS5.out.keep (HX.out.be.trans hr2)
      have HROWT := Lib.hid (Row.of_own (f := tc) (z := 5) hr1 (fun _ _ => rfl))
      have HNT : Hid ((K ++ [(Term.mk k' n' e' b' kids', Value.slice A' kids'.length cp')]).length = K.length + 1) := by show _ = _; simp
      have HT10 : Hid (∀ X, Below w10.heap.size w10 X → ∀ q, Tree X (.mk q 0 0 false (ts.reverse ++ ts.take 1)) (.slice (some ⟨gn, 0, none⟩) (K.length + 1) cn)) := fun X hb q =>
        .mk _ HKT1.out (HROWT.out.below hb) (fun z hz => (HTR.out z (HKM.out z hz)).keep (HS10.out.keep hb).be) (by show (ts.reverse ++ ts.take 1).length ≤ _; rw [← HKT1.out, List.length_map, List.length_append]; have := HKL.out; show K.length + 1 ≤ _; omega) ⟨by show wf 0; unfold wf; decide, by show wf 0; unfold wf; decide⟩
      obtain ⟨⟨d3, k3, e3⟩, HR3⟩ : ∃ r, Hid (eval (.mk 7 0 0 false (ts.reverse ++ ts.take 1)) c l = r) := ⟨_, rfl⟩
      obtain ⟨⟨d4, k4, e4⟩, HR4⟩ : ∃ r, Hid (eval (.mk 8 0 0 false (ts.reverse ++ ts.take 1)) c l = r) := ⟨_, rfl⟩
      have hturn := HTURN.out
      have h3 : eval (tmin (ts.reverse ++ ts.take 1)) c l = (d3, k3, e3) := HR3.out
      have h4 : eval (tmax (ts.reverse ++ ts.take 1)) c l = (d4, k4, e4) := HR4.out
      rw [h3, h4] at hturn
      have HTURN := Lib.hid hturn
      clear hr1 hr2 hturn h3 h4 HROWT HKT1 HKM HX
      obtain ⟨⟨c0, c1, c2, c3⟩, c4, c5, c6, c7⟩ := HS10.out.c
      have HEV := Lib.hid (eval_at HG.out HS10.out.be (.mk 7 0 0 false (ts.reverse ++ ts.take 1), .slice (some ⟨gn, 0, none⟩) (K.length + 1) cn) (HT10.out w10 (Below.refl _ _) 7) l _ (HEl.out.below HS10.out.be) (cs := #[.int .i64 7, .int .i64 0, .int .i64 0, .bool false, .slice (some ⟨gn, 0, none⟩) (K.length + 1) cn]) rfl HR3.out)
      go_wp2_with fail
      refine HEV.out.mono ?_
      rintro e9 w11 ⟨rfl, hb⟩
      have HS11 := Lib.hid (HS10.out.keep hb)
      have HB11 := Lib.hid hb
      clear hb HEV c0 c1 c2 c3 c4 c5 c6 c7
      obtain ⟨⟨c0, c1, c2, c3⟩, c4, c5, c6, c7⟩ := HS11.out.c
      have HEV := Lib.hid (eval_at HG.out HS11.out.be (.mk 8 0 0 false (ts.reverse ++ ts.take 1), .slice (some ⟨gn, 0, none⟩) (K.length + 1) cn) (HT10.out w11 HB11.out 8) l _ (HEl.out.below HS11.out.be) (cs := #[.int .i64 8, .int .i64 0, .int .i64 0, .bool false, .slice (some ⟨gn, 0, none⟩) (K.length + 1) cn]) rfl HR4.out)
      go_wp2_with fail
      refine HEV.out.mono ?_
      rintro e9 w12 ⟨rfl, hb⟩
      have HS12 := Lib.hid (HS11.out.keep hb)
      clear hb HEV c0 c1 c2 c3 c4 c5 c6 c7
      rcases HTURN.out with h | ⟨h1, h2⟩
      · have h : e3 = 1 := h
        subst h
        go_wp2_with fail
        go_ret
        exact ⟨rfl, HS12.out.be⟩
      · injection h1 with h1 h1b
        injection h1b with h1b h1c
        injection h2 with h2 h2b
        injection h2b with h2b h2c
        subst h1 h1b h1c h2 h2b h2c
        go_wp2_with fail
        go_ret
        exact ⟨rfl, HS12.out.be⟩
end Go.Proofs.YticlmkfifpkdpaaDoor
