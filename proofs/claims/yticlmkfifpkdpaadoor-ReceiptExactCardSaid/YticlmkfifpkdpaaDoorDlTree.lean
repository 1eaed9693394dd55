/-
  The day of a term: (setting).day walked.
-/
import Derived.Test.YticlmkfifpkdpaaDoorDlRules
import Derived.Test.YticlmkfifpkdpaaDoorDlLaws3
import Derived.Test.YticlmkfifpkdpaaDoorApp
namespace Go.Proofs.YticlmkfifpkdpaaDoor.Dl
open Go.RowKit Mem Vw
set_option linter.unusedVariables false
set_option linter.unusedSimpArgs false

theorem info_int : (Tryd.prog.info? 3).map (fun i => (i.zero, i.size, i.bytes)) = some (some (.int .i64 0), 1, 8) := by kernel_rfl
theorem wpList_make {ops : Array Oper} {rest : List Oper} {o : Oper} {a : Act} {w : World} {Q : Exit → Act → World → Prop} (hg : o.guard = none) (c0 x : Operand) (hop : o.op = .makeSlice 26 c0 x) (n : Nat) (h0 : a.eval c0 = .int .i64 0) (hx : a.eval x = .int .i64 n) (hn : n ≤ 1000)
    (h : ∀ w', w'.ownsRow w.heap.size 3 1 (.slice (some ⟨w.heap.size, 0, none⟩) 0 n) 0 [] → Below w.heap.size w w' → wpList Tryd.prog ops Q rest (a.put o.dst (.slice (some ⟨w.heap.size, 0, none⟩) 0 n)) w') : wpList Tryd.prog ops Q (o :: rest) a w := by
  obtain ⟨i0, hi, hz0, hz1, hz2⟩ := info_parts info_int
  obtain ⟨w', hr, ho, hgr⟩ := run_makeSlice_owned (P := Tryd.prog) (w := w) w.heap.size 26 3 i0 _ 1 Tryd.underlying26 hi hz0 hz1 .i64 .i64 n (by omega) (by rw [hz2]; omega) (by unfold maxLen; omega) (Nat.le_refl _)
  refine wpList_plain hg fun K hK => ?_
  unfold Oper.wp
  simp [execOp, hop, h0, hx, hr, Result.andThen]
  exact hK _ _ (h _ ho ((Below.refl _ w).grown hgr (Nat.le_refl _) (fun k hk => by cases hk)))
def DayRes (o : Option Int) (v : Value) : Prop := (∃ d, o = some d ∧ v = .tuple #[.int .i64 d, .bool true]) ∨ (o = none ∧ ∃ d, v = .tuple #[.int .i64 d, .bool false])
theorem pairv_form (o : Option Int) : ∃ (r : Int) (ok : Bool), pairv o = .tuple #[.int .i64 r, .bool ok] ∧ (ok = true → o = some r) ∧ (ok = false → o = none) := by
  cases o with
  | none => exact ⟨0, false, rfl, (fun h => by cases h), fun _ => rfl⟩
  | some r => exact ⟨r, true, rfl, fun _ => rfl, (fun h => by cases h)⟩
theorem dayL_none {c : Cal} {l : List When} : ∀ {r : List Term} {t : Term}, t ∈ r → day c l t = none → dayL c l r = none := by
  intro r
  induction r with
  | nil => intro t h; cases h
  | cons u r ih =>
    intro t h hd
    rw [dayL]
    rcases List.mem_cons.1 h with rfl | h
    · rw [hd]
    · rw [ih h hd]
      cases day c l u <;> rfl
/-- What the loop over the kids holds. -/
def KR (c : Cal) (l : List When) (kids : List Term) (B : Nat) (w0 : World) (sv iv : Value) (wr : World) : Prop :=
  ∃ (i : Nat) (ds : List Int) (A : Option Addr) (cap : Nat), iv = .int .i64 i ∧ i ≤ kids.length ∧ sv = .slice A ds.length cap ∧ Hid (dayL c l (kids.take i) = some ds) ∧ Hid (wr.ownsRow B 3 1 (.slice A ds.length cap) ds.length (ds.flatMap fun d => [nv d])) ∧ Hid (Below B w0 wr)
/-- The rule of a kind, and what its day function returns. -/
theorem rule_at {c : Cal} {hv : Value} {l : List When} {ev : Value} {k n e : Int} {b : Bool} {kids : List Term} (hfit : fits l.length (.mk k n e b kids) = true) (hlen : kids.length ≤ 1000) (hev : evsOk l = true) (hkn : hasEv (.mk k n e b kids) = true → (evAt l e).known = true) {ds : List Int} (hds : ds.length = kids.length) (hrg : ∀ i, 0 ≤ ds.getD i 0 ∧ ds.getD i 0 ≤ 73048) :
    ∃ (i : Nat) (f : Value) (g : FuncId), Instr.findNow (.int .i64) (.int .i64 k) ruleEnts.toList 0 = some (some (i, .agg #[f, .func (.func g) #[] #[]])) ∧ (∀ args w, (callFunc g args).run Tryd.prog w = .ok (.enter g args) w) ∧
      ∀ (tv kv : Value) (w : World), Setting w c hv l ev → Row w kv 1 (nums ds) → Calls Tryd.prog g #[.agg (sets c hv ev).toArray, .agg #[.int .i64 k, .int .i64 n, .int .i64 e, .bool b, tv], kv] w fun e' w' => e' = .returned (pairv (node c l (.mk k n e b kids) ds)) ∧ Below w.heap.size w w' := by
  rw [fits_mk] at hfit
  have one : kids.length = 1 → ∃ d, ds = [d] ∧ 0 ≤ d ∧ d ≤ 73048 := by
    intro h1
    rw [h1] at hds
    match ds, hds, hrg with
    | [d], _, hr => exact ⟨d, rfl, hr 0⟩
  by_cases k1 : k = 1
  · subst k1
    exact ⟨_, _, _, find1, (fun args w => by kernel_rfl), fun tv kv w hS hk => day1_any c hv l ev 1 n e b kids tv kv ds w hS hk⟩
  rw [if_neg k1] at hfit
  by_cases k2 : k = 2
  · subst k2
    simp only [if_true, Bool.and_eq_true, decide_eq_true_eq] at hfit
    exact ⟨_, _, _, find2, (fun args w => by kernel_rfl), fun tv kv w hS hk => day2_any c hv l ev 2 n e b kids tv kv ds w hS hk (by omega) (by omega)⟩
  rw [if_neg k2] at hfit
  by_cases k3 : k = 3
  · subst k3
    simp only [if_true, Bool.and_eq_true, decide_eq_true_eq] at hfit
    have he := (evsOk_ev hev e (hkn rfl)).1
    exact ⟨_, _, _, find3, (fun args w => by kernel_rfl), fun tv kv w hS hk => day3_any c hv l ev 3 n e b kids tv kv ds w hS hk (by omega) (by omega) he.1 he.2⟩
  rw [if_neg k3] at hfit
  by_cases k4 : k = 4
  · subst k4
    simp only [if_true, Bool.and_eq_true, decide_eq_true_eq] at hfit
    obtain ⟨d, rfl, hd, hd1⟩ := one hfit.2
    exact ⟨_, _, _, find4, (fun args w => by kernel_rfl), fun tv kv w hS hk => day4_any c hv l ev 4 n e b kids tv kv [d] w hS hk d rfl hd hd1 (by omega) (by omega)⟩
  rw [if_neg k4] at hfit
  by_cases k5 : k = 5
  · subst k5
    simp only [if_true, Bool.and_eq_true, decide_eq_true_eq] at hfit
    obtain ⟨d, rfl, hd, hd1⟩ := one hfit.2
    exact ⟨_, _, _, find5, (fun args w => by kernel_rfl), fun tv kv w hS hk => day5_any c hv l ev 5 n e b kids tv kv [d] w hS hk d rfl hd hd1 (by omega) (by omega)⟩
  rw [if_neg k5] at hfit
  by_cases k6 : k = 6
  · subst k6
    simp only [if_true, Bool.and_eq_true, decide_eq_true_eq] at hfit
    obtain ⟨d, rfl, hd, hd1⟩ := one hfit.2
    exact ⟨_, _, _, find6, (fun args w => by kernel_rfl), fun tv kv w hS hk => day6_any c hv l ev 6 n e b kids tv kv [d] w hS hk d rfl hd hd1⟩
  rw [if_neg k6] at hfit
  by_cases k78 : k = 7 ∨ k = 8
  case neg => rw [if_neg k78] at hfit; cases hfit
  rw [if_pos k78] at hfit
  simp only [Bool.and_eq_true, decide_eq_true_eq] at hfit
  have hne : ds ≠ [] := by intro h; rw [h] at hds; simp at hds; omega
  rcases k78 with rfl | rfl
  · exact ⟨_, _, _, find7, (fun args w => by kernel_rfl), fun tv kv w hS hk => day7_any c hv l ev 7 n e b kids tv kv ds w hS hk hne (by omega)⟩
  · exact ⟨_, _, _, find8, (fun args w => by kernel_rfl), fun tv kv w hS hk => day8_any c hv l ev 8 n e b kids tv kv ds w hS hk hne (by omega)⟩
set_option maxRecDepth 100000 in
set_option maxHeartbeats 4000000 in
theorem tday_any (c : Cal) (hv : Value) (l : List When) (ev : Value) (hev : evsOk l = true) : ∀ (t : Term) (tv : Value) (dp r : Nat) (W : World), Setting W c hv l ev → Tree W t tv → W.heap[r]? = some (.map ruleEnts 8) →
    (∀ u ∈ nodes dp t, fits l.length u.2 = true ∧ (hasEv u.2 = true → (evAt l u.2.ev).known = true)) → (nodes dp t).length ≤ 1000 →
    Calls Tryd.prog 47 #[.agg (sets c hv ev).toArray, .map (some r), .agg (tc (t, tv)).toArray] W fun e w' => (∃ v, e = .returned v ∧ DayRes (day c l t) v) ∧ Below W.heap.size W w' := by
  refine Term.ind ?_
  intro k n e b kids ih tv dp r W hS hT hM hn hlen
  obtain ⟨ks, hks, hrow, htree⟩ := hT.kids
  have hks : ks.map Prod.fst = kids := hks
  have HKS := Lib.hid hks
  obtain ⟨A, cp, hv1, hc1, hc2⟩ := hT.slice
  have hv1 : tv = .slice A kids.length cp := hv1
  subst hv1
  have HIH := Lib.hid ih; clear ih
  have HN := Lib.hid hn; have HLEN := Lib.hid hlen; have HEV := Lib.hid hev
  have hkl : kids.length ≤ 1000 := by
    have h1 := hlen
    rw [nodes_mk, List.length_cons] at h1
    have h2 : ∀ (q : List Term) (d : Nat), q.length ≤ (nodesL d q).length := by
      intro q
      induction q with
      | nil => intro d; exact Nat.le_refl _
      | cons u q ihq => intro d; rw [nodesL, List.length_append, nodes_mk, List.length_cons, List.length_cons]; have := ihq d; omega
    have := h2 kids (dp + 1)
    have h3 : (nodesL (dp + 1) (Term.mk k n e b kids).kids).length = (nodesL (dp + 1) kids).length := rfl
    omega
  clear hks hn hlen hev hT
  show Calls Tryd.prog 47 #[.agg (sets c hv ev).toArray, .map (some r), .agg #[.int .i64 k, .int .i64 n, .int .i64 e, .bool b, .slice A kids.length cp]] W _
  obtain ⟨w0, HW0⟩ : ∃ w0, Hid ((W.alloc (.cells (sets c hv ev).toArray 99)).alloc (.cells #[.int .i64 k, .int .i64 n, .int .i64 e, .bool b, .slice A kids.length cp] 31) = w0) := ⟨_, rfl⟩
  have HBE : Hid (Below W.heap.size W w0) := by rw [← HW0.out]; exact ((Below.refl _ W).alloc (Nat.le_refl _) _).alloc (by simp) _
  have HBX : Hid (w0.heap[W.heap.size]? = some (.cells (sets c hv ev).toArray 99 (0, 0))) := by rw [← HW0.out]; exact blk_alloc (blk_newn rfl) _
  have HBT : Hid (w0.heap[W.heap.size + 1]? = some (.cells #[.int .i64 k, .int .i64 n, .int .i64 e, .bool b, .slice A kids.length cp] 31 (0, 0))) := by rw [← HW0.out]; exact blk_newn (by simp)
  have HS := Lib.hid (hS.below HBE.out)
  have HM : Hid (w0.heap[r]? = some (.map ruleEnts 8)) := (HBE.out.block r (lt_of_blk hM)).trans hM
  have HROW := Lib.hid (hrow.below HBE.out)
  have HTR : Hid (∀ x ∈ ks, Tree w0 x.1 x.2) := fun x hx => (htree x hx).keep HBE.out
  have HLE : Hid (W.heap.size ≤ w0.heap.size) := HBE.out.size
  clear hS hM hrow htree
  have t4 : w0.cell? ⟨W.heap.size + 1, 4, none⟩ = some (.slice A kids.length cp) := cell_of_blk HBT.out 4
  go_enter Tryd.func47, Tryd.ntmps47
  go_upto_region 1 with fail
  rw [HW0.out]
  clear HW0
  go_upto_region 2 with (refine wpList_make rfl _ _ rfl kids.length rfl rfl hkl ?_; intro w1 ho1 hb1)
  have HO1 := Lib.hid ho1; have HB1 := Lib.hid hb1
  have t4 : w1.cell? ⟨W.heap.size + 1, 4, none⟩ = some (.slice A kids.length cp) := cell_of_blk ((HB1.out.block _ (lt_of_blk HBT.out)).trans HBT.out) 4
  clear ho1 hb1
  obtain ⟨B, hB⟩ : ∃ B, w0.heap.size = B := ⟨_, rfl⟩
  rw [hB] at HO1 HB1
  rw [hB]
  have HBB := Lib.hid hB; clear hB
  go_wp2_with fail
  go_loopw [8, 22] (fun sv iv wr => KR c l kids B w0 sv iv wr) (fun _ iv _ => kids.length - (intOf iv).toNat)
  case atStart => exact ⟨0, [], _, _, rfl, by omega, rfl, rfl, HO1.out, HB1.out⟩
  case round =>
    obtain ⟨i, ds, Ad, cd, rfl, hi, rfl, HDS, HO, HBW⟩ := hrel
    have HDL : Hid (ds.length = i) := by
      show _ = _
      rw [dayL_len HDS.out, List.length_take]; omega
    have HBW0 : Hid (Below w0.heap.size w0 wr) := by rw [HBB.out]; exact HBW.out
    have HLW : Hid (B ≤ wr.heap.size) := by have h := HBW0.out.size; rw [HBB.out] at h; exact h
    by_cases hlt : i < kids.length
    · have hkl2 : i < ks.length := by rw [← HKS.out, List.length_map] at hlt; exact hlt
      obtain ⟨x, hx⟩ : ∃ x, ks[i]? = some x := ⟨_, List.getElem?_eq_getElem hkl2⟩
      have HX := Lib.hid hx
      have HXM : Hid (x ∈ ks) := List.mem_of_getElem? hx
      have HXK : Hid (kids[i]? = some x.1) := by show _ = _; rw [← HKS.out, List.getElem?_map, hx]; rfl
      obtain ⟨g, o, cg, hvv, hg, _, _, hrr⟩ := HROW.out.at (by intro h; have h2 := congrArg List.length h; rw [List.length_map] at h2; simp at h2; rw [h2] at hkl2; exact absurd hkl2 (by simp))
      injection hvv with hvv1 hvv2 hvv3
      subst hvv1 hvv3
      have hat := hrr i (tc x) (by rw [List.getElem?_map, hx]; rfl)
      have hcell : ∀ j v, (tc x)[j]? = some v → wr.cell? ⟨g, o + i * 5 + j, none⟩ = some v := fun j v hj => (World.cell?_of_block (a := ⟨g, o + i * 5 + j, none⟩) (HBW0.out.block g hg)).trans (hat j v hj)
      have q0 := hcell 0 _ rfl; have q1 := hcell 1 _ rfl; have q2 := hcell 2 _ rfl; have q3 := hcell 3 _ rfl; have q4 := hcell 4 _ rfl
      rw [Nat.add_zero] at q0
      clear hrr hat hcell hx hvv2
      obtain ⟨x, xv⟩ := x
      obtain ⟨xk, xn, xe, xb, xl⟩ := x
      dsimp only [Term.kind, Term.n, Term.ev, Term.bus, nv] at q0 q1 q2 q3 q4
      obtain ⟨Ax, cx, hxv, hxc1, hxc2⟩ := (HTR.out _ HXM.out).slice
      have hxv : xv = .slice Ax xl.length cx := hxv
      subst hxv
      go_upto_region 5 with fail
      obtain ⟨w2, HW2⟩ : ∃ w2, Hid (wr.alloc (.cells #[.int .i64 xk, .int .i64 xn, .int .i64 xe, .bool xb, .slice Ax xl.length cx] 31) = w2) := ⟨_, rfl⟩
      have HB2 : Hid (Below wr.heap.size wr w2) := by rw [← HW2.out]; exact (Below.refl _ wr).alloc (Nat.le_refl _) _
      have HC2 : Hid (w2.heap[wr.heap.size]? = some (.cells #[.int .i64 xk, .int .i64 xn, .int .i64 xe, .bool xb, .slice Ax xl.length cx] 31 (0, 0))) := by rw [← HW2.out]; exact blk_newn rfl
      rw [HW2.out]
      clear HW2 q0 q1 q2 q3 q4
      have HB02 : Hid (Below w0.heap.size w0 w2) := HBW0.out.trans (HB2.out.mono HBW0.out.size)
      have q0 : w2.cell? ⟨wr.heap.size, 0, none⟩ = some (.int .i64 xk) := cell_of_blk HC2.out 0
      have q1 : w2.cell? ⟨wr.heap.size, 1, none⟩ = some (.int .i64 xn) := cell_of_blk HC2.out 1
      have q2 : w2.cell? ⟨wr.heap.size, 2, none⟩ = some (.int .i64 xe) := cell_of_blk HC2.out 2
      have q3 : w2.cell? ⟨wr.heap.size, 3, none⟩ = some (.bool xb) := cell_of_blk HC2.out 3
      have q4 : w2.cell? ⟨wr.heap.size, 4, none⟩ = some (.slice Ax xl.length cx) := cell_of_blk HC2.out 4
      have hbx2 : w2.heap[W.heap.size]? = some (.cells (sets c hv ev).toArray 99 (0, 0)) := (HB02.out.block _ (lt_of_blk HBX.out)).trans HBX.out
      have hcc := sets_cells hbx2
      have k0 := hcc.1 0 (by omega); have k1 := hcc.1 1 (by omega); have k2 := hcc.1 2 (by omega); have k3 := hcc.1 3 (by omega); have k4 := hcc.1 4 (by omega); have k5 := hcc.1 5 (by omega); have k6 := hcc.1 6 (by omega); have k7 := hcc.2.1; have k8 := hcc.2.2
      clear hcc hbx2
      have HCALL := Lib.hid (HIH.out (.mk xk xn xe xb xl) (List.mem_of_getElem? HXK.out) (.slice Ax xl.length cx) (dp + 1) r w2 (HS.out.below HB02.out) ((HTR.out _ HXM.out).keep HB02.out) ((HB02.out.block r (lt_of_blk HM.out)).trans HM.out)
        (fun u hu => HN.out u (nodes_kid (t := .mk k n e b kids) (List.mem_of_getElem? HXK.out) hu))
        (by
          have h1 := HLEN.out
          rw [nodes_mk, List.length_cons] at h1
          obtain ⟨a1, a2, ha⟩ := List.append_of_mem (List.mem_of_getElem? HXK.out)
          have h3 : (nodesL (dp + 1) (Term.mk k n e b kids).kids).length = (nodesL (dp + 1) kids).length := rfl
          rw [h3, ha, nodesL_app, nodesL, List.length_append, List.length_append] at h1
          dsimp only at h1
          omega))
      go_wp2_with fail
      refine HCALL.out.mono ?_
      rintro e9 w3 ⟨⟨v9, rfl, hdr⟩, hb3⟩
      have HB23 := Lib.hid hb3
      have HB03 : Hid (Below w0.heap.size w0 w3) := HB02.out.trans (hb3.mono HB02.out.size)
      clear hb3 HCALL q0 q1 q2 q3 q4 k0 k1 k2 k3 k4 k5 k6 k7 k8
      rcases hdr with ⟨d9, hd9, rfl⟩ | ⟨hd9, d9, rfl⟩
      · have HD9 := Lib.hid hd9; clear hd9
        have HO3 : Hid (w3.ownsRow B 3 1 (.slice Ad ds.length cd) ds.length (ds.flatMap fun d => [nv d])) := own_fr HO.out ((Fr.of_below (S := fun _ => False) HB2.out).trans (Fr.of_below (S := fun _ => False) HB23.out)) (fun _ _ _ h => h)
        obtain ⟨i0, hi0, hz0, hz1, hz2⟩ := info_parts info_int
        go_upto_region 8 with fail
        iterate 10 go_step
        obtain ⟨w4, HW4⟩ : ∃ w4, Hid (w3.alloc (.cells #[.int .i64 d9] 3) = w4) := ⟨_, rfl⟩
        have HB34 : Hid (Below w3.heap.size w3 w4) := by rw [← HW4.out]; exact (Below.refl _ w3).alloc (Nat.le_refl _) _
        have HO4 : Hid (w4.ownsRow B 3 1 (.slice Ad ds.length cd) ds.length (ds.flatMap fun d => [nv d])) := own_fr HO3.out (Fr.of_below (S := fun _ => False) HB34.out) (fun _ _ _ h => h)
        have HN4 : Hid (∀ j y, ([.int .i64 d9] : List Value)[j]? = some y → w4.cell? ((⟨w3.heap.size, 0, none⟩ : Addr).add j) = some y) := by rw [← HW4.out]; exact cells_new w3 [.int .i64 d9] _ _ rfl
        have HS4 : Hid (w4.heap.size = w3.heap.size + 1) := by show _ = _; rw [← HW4.out]; simp
        have hB3 : B ≤ w3.heap.size := by have := HB03.out.size; have := HBB.out; omega
        rw [HW4.out]
        clear HW4
        refine wpList_append_lies w4 rfl (.tmp 35) (.tmp 37) 26 rfl B 3 i0 _ 1 8 Tryd.underlying26 hi0 hz0 hz1 hz2 rfl (by decide) (.slice Ad ds.length cd) ds.length _ (by rfl) HO4.out ⟨w3.heap.size, 0, none⟩ 1 1 [.int .i64 d9] (by rfl) rfl HN4.out (by simp [Value.oneCell']) (by decide) (by have := HDL.out; simp only [maxLen]; omega) (by have := HDL.out; omega) (by have := HS4.out; omega) (w3.heap.size + 1) HS4.out ?_
        intro gn cn w5 g1 g2 g3 _
        simp only [Act.put, List.setIfInBounds_toArray, List.set_cons_zero, List.set_cons_succ]
        have HO5 := Lib.hid g1
        have HB45 : Hid (Below B w4 w5) := (Below.refl _ w4).grown g2 (by have := HS4.out; omega) (fun k hk => (own_lt HO4.out k hk).1)
        have HB5 : Hid (Below B w0 w5) := by
          have h1 := HB03.out
          rw [HBB.out] at h1
          exact (h1.trans (HB34.out.mono hB3)).trans HB45.out
        have HD5 : Hid (dayL c l (kids.take (i + 1)) = some (ds ++ [d9])) := by
          show _ = _
          rw [List.take_add_one, HXK.out]
          exact dayL_app HDS.out (dayL_one HD9.out)
        clear g1 g2 g3
        go_wp2_with fail
        go_roundw
        case rel => exact ⟨i + 1, ds ++ [d9], some ⟨gn, 0, none⟩, cn, by go_num, by omega, by rw [List.length_append]; rfl, HD5, by rw [List.length_append, List.flatMap_append]; exact HO5, HB5⟩
        case measure => simp [intOf]; omega
      · have HD9 := Lib.hid hd9; clear hd9
        have HRES : Hid (day c l (.mk k n e b kids) = none) := by
          show _ = _
          rw [day_mk]
          show (match dayL c l kids with | none => none | some ds => _) = _
          rw [dayL_none (List.mem_of_getElem? HXK.out) HD9.out]
        have HBF : Hid (Below W.heap.size W w3) := HBE.out.trans (HB03.out.mono HLE.out)
        go_wp2_with fail
        go_ret2
        exact ⟨⟨_, rfl, .inr ⟨HRES.out, _, rfl⟩⟩, HBF.out⟩
    · have hie : i = kids.length := by omega
      subst hie
      have HDA : Hid (dayL c l kids = some ds) := by show _ = _; rw [← HDS.out, List.take_length]
      have HSW := Lib.hid (HS.out.below HBW0.out)
      have HMW : Hid (wr.heap[r]? = some (.map ruleEnts 8)) := (HBW0.out.block r (lt_of_blk HM.out)).trans HM.out
      have HRK : Hid (Row wr (.slice Ad ds.length cd) 1 (nums ds)) := Row.of_own HO.out (fun _ _ => rfl)
      obtain ⟨j, f, gg, hfind, henter, hcall⟩ := rule_at (hv := hv) (ev := ev) (HN.out _ (nodes_self dp _)).1 hkl HEV.out (HN.out _ (nodes_self dp _)).2 HDL.out (dayL_rng HDA.out)
      have HCL := Lib.hid (hcall (.slice A kids.length cp) (.slice Ad ds.length cd) wr HSW.out HRK.out)
      have hlook := run_look1 HMW.out hfind
      have hfield : ∀ w, (Instr.field 111 (.agg #[f, .func (.func gg) #[] #[]]) 1).run Tryd.prog w = .ok (.func (.func gg) #[] #[]) w := fun _ => by kernel_rfl
      clear hfind hcall
      obtain ⟨r1, ok1, hpv, hpt, hpf⟩ := pairv_form (node c l (.mk k n e b kids) ds)
      rw [hpv] at HCL
      have HPT := Lib.hid hpt; have HPF := Lib.hid hpf
      clear hpv hpt hpf
      have HDM : Hid (day c l (.mk k n e b kids) = inRange (node c l (.mk k n e b kids) ds)) := by
        show _ = _
        rw [day_mk]
        show (match dayL c l kids with | none => none | some ds => _) = _
        rw [HDA.out]
      have hbt : wr.heap[W.heap.size + 1]? = some (.cells #[.int .i64 k, .int .i64 n, .int .i64 e, .bool b, .slice A kids.length cp] 31 (0, 0)) := (HBW0.out.block _ (lt_of_blk HBT.out)).trans HBT.out
      have q0 : wr.cell? ⟨W.heap.size + 1, 0, none⟩ = some (.int .i64 k) := cell_of_blk hbt 0
      have q1 : wr.cell? ⟨W.heap.size + 1, 1, none⟩ = some (.int .i64 n) := cell_of_blk hbt 1
      have q2 : wr.cell? ⟨W.heap.size + 1, 2, none⟩ = some (.int .i64 e) := cell_of_blk hbt 2
      have q3 : wr.cell? ⟨W.heap.size + 1, 3, none⟩ = some (.bool b) := cell_of_blk hbt 3
      have q4 : wr.cell? ⟨W.heap.size + 1, 4, none⟩ = some (.slice A kids.length cp) := cell_of_blk hbt 4
      have hbx : wr.heap[W.heap.size]? = some (.cells (sets c hv ev).toArray 99 (0, 0)) := (HBW0.out.block _ (lt_of_blk HBX.out)).trans HBX.out
      have hcc := sets_cells hbx
      have k0 := hcc.1 0 (by omega); have k1 := hcc.1 1 (by omega); have k2 := hcc.1 2 (by omega); have k3 := hcc.1 3 (by omega); have k4 := hcc.1 4 (by omega); have k5 := hcc.1 5 (by omega); have k6 := hcc.1 6 (by omega); have k7 := hcc.2.1; have k8 := hcc.2.2
      clear hcc hbx hbt
      go_wp2_with fail
      refine HCL.out.mono ?_
      rintro e9 w9 ⟨rfl, hb9⟩
      have HBF : Hid (Below W.heap.size W w9) := HBE.out.trans ((HBW0.out.trans (hb9.mono HBW0.out.size)).mono HLE.out)
      clear hb9 HCL hlook hfield henter q0 q1 q2 q3 q4 k0 k1 k2 k3 k4 k5 k6 k7 k8
      cases ok1
      · have HNO : Hid (day c l (.mk k n e b kids) = none) := by show _ = _; rw [HDM.out, HPF.out rfl]; rfl
        go_wp2_with fail
        go_ret2
        exact ⟨⟨_, rfl, .inr ⟨HNO.out, _, rfl⟩⟩, HBF.out⟩
      · have HIS := Lib.hid (ddIsDay_any r1 w9)
        have HYES : Hid (day c l (.mk k n e b kids) = inRange (some r1)) := by show _ = _; rw [HDM.out, HPT.out rfl]
        cases hr : isDay r1
        · rw [hr] at HIS
          have HNO : Hid (day c l (.mk k n e b kids) = none) := by show _ = _; rw [HYES.out]; unfold inRange; dsimp only; rw [if_neg (by rw [hr]; exact Bool.false_ne_true)]
          clear hr
          go_wp2_with fail
          refine HIS.out.mono ?_
          rintro e8 w8 ⟨rfl, rfl⟩
          go_wp2_with fail
          go_ret2
          exact ⟨⟨_, rfl, .inr ⟨HNO.out, _, rfl⟩⟩, HBF.out⟩
        · rw [hr] at HIS
          have HNO : Hid (day c l (.mk k n e b kids) = some r1) := by show _ = _; rw [HYES.out]; unfold inRange; dsimp only; rw [if_pos hr]
          clear hr
          go_wp2_with fail
          refine HIS.out.mono ?_
          rintro e8 w8 ⟨rfl, rfl⟩
          go_wp2_with fail
          go_ret2
          exact ⟨⟨_, rfl, .inl ⟨_, HNO.out, rfl⟩⟩, HBF.out⟩
end Go.Proofs.YticlmkfifpkdpaaDoor.Dl
