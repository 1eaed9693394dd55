/-
  The walk of the statement ResolveNames: it returns true for every source.
-/
import Derived.Test.YtdhjibnkebbejaaDoorResClauseT
namespace Go.Proofs.YtdhjibnkebbejaaDoor
open Go.RowKit Mem Vw Rs
set_option linter.unusedVariables false
set_option linter.unusedSimpArgs false

theorem answer_bad {src sa : Rs.Source} {ya : Sy} {f : Fault} {fs : List Fault} (h : answer src = (sa, ya, f :: fs)) : ya = sy0 := by
  unfold answer at h
  by_cases h0 : (Rs.run src.items).2 = []
  · rw [if_pos h0] at h; simp only [Prod.mk.injEq] at h; exact absurd h.2.2 (by simp)
  · rw [if_neg h0] at h
    simp only [Prod.mk.injEq] at h
    exact h.2.1.symm
/-- How many of the first k items belong to a group. -/
def cnt (l : List Rs.Item) (k g : Nat) : Nat := ((l.take k).filter fun x => group x.kind == g).length
theorem cnt_at {α : Type} (f : Rs.Item → α) (l : List Rs.Item) (g : Nat) : ∀ (k : Nat) (x : Rs.Item), l[k]? = some x → group x.kind = g → ((l.filter fun x => group x.kind == g).map f)[cnt l k g]? = some (f x) := by
  induction l with
  | nil => intro k x h; simp at h
  | cons a l ih =>
    intro k x h hg
    cases k with
    | zero =>
      simp only [List.getElem?_cons_zero, Option.some.injEq] at h
      subst h
      unfold cnt
      rw [List.take_zero, List.filter_nil, List.filter_cons]
      simp [hg]
    | succ k =>
      have := ih k x (by simpa using h) hg
      unfold cnt at *
      rw [List.take_succ_cons, List.filter_cons, List.filter_cons]
      by_cases ha : group a.kind = g
      · simp only [ha, beq_self_eq_true, if_true, List.length_cons, List.map_cons, List.getElem?_cons_succ]
        exact this
      · have hb : (group a.kind == g) = false := by simpa using ha
        simp only [hb, Bool.false_eq_true, if_false]
        exact this
theorem cnt_succ {l : List Rs.Item} {k : Nat} {x : Rs.Item} (h : l[k]? = some x) (g : Nat) : cnt l (k + 1) g = cnt l k g + if group x.kind = g then 1 else 0 := by
  unfold cnt
  rw [List.take_add_one, h, List.filter_append, List.length_append]
  by_cases hg : group x.kind = g <;> simp [hg]
theorem cnt_le (l : List Rs.Item) (k g : Nat) : cnt l k g ≤ k := by
  unfold cnt
  refine Nat.le_trans (List.length_filter_le _ _) ?_
  rw [List.length_take]; omega
def cnts6 (l : List Rs.Item) (k : Nat) : List Value := (List.range 6).map fun g => .int .i64 ((cnt l k g : Nat) : Int)
theorem cnts6_get (l : List Rs.Item) (k : Nat) {g : Nat} (hg : g < 6) : (cnts6 l k)[g]? = some (.int .i64 ((cnt l k g : Nat) : Int)) := by
  unfold cnts6
  rw [List.getElem?_map, List.getElem?_range hg]; rfl
theorem cnts6_set {l : List Rs.Item} {k : Nat} {x : Rs.Item} (h : l[k]? = some x) : (cnts6 l k).set (group x.kind) (.int .i64 (((cnt l k (group x.kind) : Nat) : Int) + 1)) = cnts6 l (k + 1) := by
  apply List.ext_getElem?
  intro j
  rcases Nat.lt_or_ge j 6 with hj | hj
  · rw [cnts6_get _ _ hj, cnt_succ h]
    by_cases hgj : group x.kind = j
    · subst hgj
      rw [List.getElem?_set_self (by unfold cnts6; simp; omega)]
      simp
    · rw [List.getElem?_set_ne hgj, cnts6_get _ _ hj, if_neg hgj]; rfl
  · have h1 : (cnts6 l (k + 1)).length ≤ j := by unfold cnts6; simpa using hj
    have h2 : ((cnts6 l k).set (group x.kind) (.int .i64 (((cnt l k (group x.kind) : Nat) : Int) + 1))).length ≤ j := by unfold cnts6; simpa using hj
    rw [List.getElem?_eq_none h1, List.getElem?_eq_none h2]
def MR (nb : Nat) (l : List Rs.Item) (u : World) (iv : Value) (wr : World) : Prop := ∃ k : Nat, iv = .int .i64 (k : Int) ∧ k ≤ l.length ∧ Hid (wr.heap[nb]? = some (.cells (cnts6 l k).toArray 47 (0, 0))) ∧ Hid (Fr (fun j => j = nb) u wr)
structure ActF (T : Tab) (x : Rs.Item) (t : ActType) : Prop where
  kind : t.kind = x.word
  role : Ind (T 2) t.role x.of_ true
  g1 : gives x = true → Ind (T 2) t.give x.give false ∧ Ind (T 1) t.to_ x.to_ false ∧ t.unit = -1
  g0 : gives x = false → Ind (T 2) t.to_ x.to_ true ∧ Ind (T 3) t.unit x.unit true
theorem actf_of {T : Tab} {x : Rs.Item} (h : actOk T x = true) : ActF T x (actOf T x) := by
  unfold actOk at h
  obtain ⟨h1, h2⟩ := and_split h
  have hr := ind_o h1
  by_cases hg : gives x = true
  · rw [if_pos hg] at h2
    obtain ⟨h3, h4⟩ := and_split h2
    unfold actOf
    rw [if_pos hg]
    exact ⟨rfl, hr, fun _ => ⟨ind_f h3, ind_f h4, rfl⟩, fun h => by rw [hg] at h; cases h⟩
  · have hg' : gives x = false := by simpa using hg
    rw [hg'] at h2
    simp only [Bool.false_eq_true, if_false] at h2
    obtain ⟨h3, h4⟩ := and_split h2
    have hu := ind_o h4
    unfold ixo at hu
    unfold actOf
    rw [hg']
    simp only [Bool.false_eq_true, if_false]
    by_cases hue : x.unit = []
    · rw [if_pos hue] at hu ⊢
      exact ⟨rfl, hr, (fun h => by rw [hg'] at h; cases h), fun _ => ⟨ind_o h3, hu⟩⟩
    · rw [if_neg hue] at hu ⊢
      exact ⟨rfl, hr, (fun h => by rw [hg'] at h; cases h), fun _ => ⟨ind_o h3, hu⟩⟩
theorem info_actv (t : ActType) : (Tryd.prog.info? 63).map (·.size) = some (actv t).length := by kernel_rfl
theorem info_actva (t : ActType) : (Tryd.prog.info? 63).map (·.size) = some (actv t).toArray.size := by kernel_rfl
theorem one_actv (t : ActType) : (actv t).toArray.all (·.oneCell') = true := by simp [actv, nv, Value.oneCell']
def GR (u : World) (iv : Value) (wr : World) : Prop := ∃ g m : Nat, iv = .int .i64 (g : Int) ∧ 1 ≤ g ∧ g ≤ 6 ∧ wr = u.drewN m
set_option maxRecDepth 100000 in
set_option maxHeartbeats 8000000 in
theorem walk_ResolveNames (s : Rs.Source) (si : Value) (hs : SourceOk s) (W : World) (hbf : Bf W) (hi : Items W s.items si) :
    Calls Tryd.prog 4 #[.agg (scells s.name s.frm s.days si).toArray] W fun e w' => e = .returned (.bool true) ∧ Below W.heap.size W w' := by
  obtain ⟨z, hzs, hz⟩ := hi
  obtain ⟨Ai, ci, hv, hc1, hc2⟩ := hz.row.slice
  rw [List.length_map] at hv hc1
  subst hv
  have HZ := Lib.hid hz; have HZS := Lib.hid hzs; have HOK := Lib.hid hs; have HBF := Lib.hid hbf
  have hln : z.length ≤ maxLen := by have h := hs.len; rw [← hzs, List.length_map] at h; exact h
  have HLN := Lib.hid hln
  have HLZ : Hid (z.length = s.items.length) := by show _ = _; rw [← hzs, List.length_map]
  clear hz hzs hs hbf hc1 hc2 hln
  obtain ⟨w0, HW0⟩ : ∃ w0, Hid (W.alloc (.cells (scells s.name s.frm s.days (.slice Ai z.length ci)).toArray 26) = w0) := ⟨_, rfl⟩
  have HSB0 : Hid (w0.heap[W.heap.size]? = some (.cells (scells s.name s.frm s.days (.slice Ai z.length ci)).toArray 26 (0, 0))) := by rw [← HW0.out]; exact blk_newn rfl
  have HBA0 : Hid (Below W.heap.size W w0) := by rw [← HW0.out]; exact (Below.refl _ W).alloc (Nat.le_refl _) _
  have HHD := Lib.hid (head_any w0 (HBF.out.below HBA0.out))
  go_enter Tryd.func4, Tryd.ntmps4
  go_upto_region 1 with fail
  rw [HW0.out]
  go_wp2_with fail
  refine HHD.out.mono ?_
  rintro e w1 ⟨rfl, hb1⟩
  have HSB1 := Lib.hid ((hb1.block _ (lt_of_blk HSB0.out)).trans HSB0.out)
  have HBA1 : Hid (Below W.heap.size W w1) := HBA0.out.trans (hb1.mono HBA0.out.size)
  clear hb1 HHD HSB0 HBA0 HW0
  have s0 : w1.cell? ⟨W.heap.size, 0, none⟩ = some (.string ⟨s.name.toArray⟩) := (cell_of_blk HSB1.out 0).trans rfl
  have s1 : w1.cell? ⟨W.heap.size, 1, none⟩ = some (.int .i64 s.frm.y) := (cell_of_blk HSB1.out 1).trans rfl
  have s2 : w1.cell? ⟨W.heap.size, 2, none⟩ = some (.int .i64 s.frm.m) := (cell_of_blk HSB1.out 2).trans rfl
  have s3 : w1.cell? ⟨W.heap.size, 3, none⟩ = some (.int .i64 s.frm.d) := (cell_of_blk HSB1.out 3).trans rfl
  have s4 : w1.cell? ⟨W.heap.size, 4, none⟩ = some (.int .i64 s.days) := (cell_of_blk HSB1.out 4).trans rfl
  have s5 : w1.cell? ⟨W.heap.size, 5, none⟩ = some (.slice Ai z.length ci) := (cell_of_blk HSB1.out 5).trans rfl
  have HSM := Lib.hid (small_any s _ z w1 (HZ.out.below HBA1.out) HZS.out HLN.out)
  go_wp2_with fail
  refine HSM.out.mono ?_
  rintro e w2 ⟨b, rfl, hsm, hb2⟩
  have HSB2 := Lib.hid ((hb2.block _ (lt_of_blk HSB1.out)).trans HSB1.out)
  have HBA2 : Hid (Below W.heap.size W w2) := HBA1.out.trans (hb2.mono HBA1.out.size)
  have HSMA := Lib.hid hsm
  clear hb2 HSM HSB1 HBA1 s0 s1 s2 s3 s4 s5 hsm
  cases b
  · clear HSMA
    go_wp2_with fail
    go_ret
    exact ⟨rfl, HBA2.out⟩
  obtain ⟨h700, hall⟩ := HSMA.out rfl
  have H7 := Lib.hid h700; have HALL := Lib.hid hall
  have HWS2 : Hid (W.heap.size < w2.heap.size) := lt_of_blk HSB2.out
  clear HSMA h700 hall
  have s0 : w2.cell? ⟨W.heap.size, 0, none⟩ = some (.string ⟨s.name.toArray⟩) := (cell_of_blk HSB2.out 0).trans rfl
  have s1 : w2.cell? ⟨W.heap.size, 1, none⟩ = some (.int .i64 s.frm.y) := (cell_of_blk HSB2.out 1).trans rfl
  have s2 : w2.cell? ⟨W.heap.size, 2, none⟩ = some (.int .i64 s.frm.m) := (cell_of_blk HSB2.out 2).trans rfl
  have s3 : w2.cell? ⟨W.heap.size, 3, none⟩ = some (.int .i64 s.frm.d) := (cell_of_blk HSB2.out 3).trans rfl
  have s4 : w2.cell? ⟨W.heap.size, 4, none⟩ = some (.int .i64 s.days) := (cell_of_blk HSB2.out 4).trans rfl
  have s5 : w2.cell? ⟨W.heap.size, 5, none⟩ = some (.slice Ai z.length ci) := (cell_of_blk HSB2.out 5).trans rfl
  have HREA := Lib.hid (resolve_any s _ z w2 (HZ.out.below HBA2.out) HZS.out (by have := H7.out; omega) (fun y hy => ⟨HOK.out.items y hy, by have := (HALL.out y hy).conds; omega⟩) (HBF.out.below HBA2.out))
  go_wp2_with fail
  refine HREA.out.mono ?_
  rintro e rA ⟨vA, rfl, hro, hbr⟩
  obtain ⟨AA, hA⟩ : ∃ A, answer s = A := ⟨_, rfl⟩
  rw [ResOut, hA] at hro
  obtain ⟨saA, yaA, faA⟩ := AA
  obtain ⟨HaA, clA, fvA, rfl, hsy, hft, _⟩ := hro
  dsimp only at hsy hft
  have HONEA : Hid ((symc saA yaA.weekend HaA).toArray.all (·.oneCell') = true) := one_symc saA yaA.weekend HaA hsy.hol.form hsy.par.form hsy.rol.form hsy.uni.form hsy.act.form hsy.cla.form
  obtain ⟨AfA, cfA, hfe, _, _⟩ := hft.slice
  rw [List.length_map] at hfe
  subst hfe
  have HSYA := Lib.hid hsy; have HAA := Lib.hid hA; have HFTA := Lib.hid hft; have HBRA := Lib.hid hbr
  clear hsy hft hA hbr s0 s1 s2 s3 s4 s5 HREA
  dsimp only
  iterate 13 go_step
  refine wpList_store_row rfl 39 _ _ rfl rA.heap.size (symc saA yaA.weekend HaA).toArray rfl rfl 39 _ (blk_newn rfl) (info_symc _ _ _) rfl HONEA.out ?_
  simp only [Act.put, List.setIfInBounds_toArray, List.set_cons_zero, List.set_cons_succ]
  rw [World.setRow_alloc_new]
  obtain ⟨uA, hu⟩ : ∃ u, rA.alloc (.cells (symc saA yaA.weekend HaA).toArray 39) = u := ⟨_, rfl⟩
  rw [hu]
  have HQA : Hid (uA.heap[rA.heap.size]? = some (.cells (symc saA yaA.weekend HaA).toArray 39 (0, 0))) := by rw [← hu]; exact blk_newn rfl
  have HBUA : Hid (Below rA.heap.size rA uA) := by rw [← hu]; exact (Below.refl _ rA).alloc (Nat.le_refl _) _
  have HSUA : Hid (uA.heap.size = rA.heap.size + 1) := by show _ = _; rw [← hu]; simp
  clear hu HONEA
  have HBAA : Hid (Below W.heap.size W rA) := HBA2.out.trans (HBRA.out.mono HBA2.out.size)
  have HSBA := Lib.hid ((HBRA.out.block _ (lt_of_blk HSB2.out)).trans HSB2.out)
  have HSUB := Lib.hid ((HBUA.out.block _ (lt_of_blk HSBA.out)).trans HSBA.out)
  have HBUW : Hid (Below W.heap.size W uA) := HBAA.out.trans (HBUA.out.mono HBAA.out.size)
  have HWT : Hid (W.heap.size < rA.heap.size) := lt_of_blk HSBA.out
  clear HSB2 HBA2 HBRA
  have HYU : Hid (SyRows uA yaA HaA clA) := HSYA.out.below HBUA.out
  obtain ⟨Ap, cp, ep, _⟩ := HYU.out.par.slice
  obtain ⟨Ar, cr, er, _⟩ := HYU.out.rol.slice
  obtain ⟨Au, cu, eu, _⟩ := HYU.out.uni.slice
  obtain ⟨Aa, ca, ea, _⟩ := HYU.out.act.slice
  obtain ⟨Ac, cc, ec, _⟩ := HYU.out.cla.slice
  rw [List.length_map] at ep er eu ea ec
  have hclen : clA.length = yaA.clauses.length := by rw [← HYU.out.cls, List.length_map]
  rw [hclen] at ec
  clear hclen
  rcases faA with _ | ⟨fa0, fal⟩
  case cons =>
    simp only [List.length_cons]
    have hya := answer_bad HAA.out
    have q13 : uA.cell? ⟨rA.heap.size, 13, none⟩ = some (.slice Ap 0 cp) := by rw [cell_of_blk HQA.out 13]; exact congrArg some (ep.trans (by rw [hya]; rfl))
    have q14 : uA.cell? ⟨rA.heap.size, 14, none⟩ = some (.slice Ar 0 cr) := by rw [cell_of_blk HQA.out 14]; exact congrArg some (er.trans (by rw [hya]; rfl))
    have q15 : uA.cell? ⟨rA.heap.size, 15, none⟩ = some (.slice Au 0 cu) := by rw [cell_of_blk HQA.out 15]; exact congrArg some (eu.trans (by rw [hya]; rfl))
    have q16 : uA.cell? ⟨rA.heap.size, 16, none⟩ = some (.slice Aa 0 ca) := by rw [cell_of_blk HQA.out 16]; exact congrArg some (ea.trans (by rw [hya]; rfl))
    have q17 : uA.cell? ⟨rA.heap.size, 17, none⟩ = some (.slice Ac 0 cc) := by rw [cell_of_blk HQA.out 17]; exact congrArg some (ec.trans (by rw [hya]; rfl))
    clear hya ep er eu ea ec
    go_wp2_with fail
    go_ret
    exact ⟨rfl, HBUW.out⟩
  simp only [List.length_nil]
  obtain ⟨f1, f2, f3⟩ := answer_fine HAA.out
  have HF1 := Lib.hid f1; have HF3 := Lib.hid f3
  clear f1 f2 f3
  have HTL : Hid (total yaA ≤ 1000000) := by
    have h := run_total s.items
    have h2 := H7.out
    have h3 := HLZ.out
    have e : total yaA = total (Rs.run s.items).1 := by rw [HF3.out]; rfl
    show _ ≤ _
    omega
  have EP := Lib.hid ep; have ER := Lib.hid er; have EU := Lib.hid eu; have EA := Lib.hid ea; have EC := Lib.hid ec
  clear ep er eu ea ec
  have HNM := Lib.hid (names_any saA yaA.weekend yaA HaA clA uA HYU.out HTL.out)
  go_upto_region 7 with fail
  iterate 1 go_step
  refine wpList_load_mid rfl 39 _ rfl rA.heap.size 0 rfl (symc saA yaA.weekend HaA) _ (range_of_blk HQA.out) Tryd.underlying39 rfl (info_symcl _ _ _) ?_
  simp only [Act.put, List.setIfInBounds_toArray, List.set_cons_zero, List.set_cons_succ]
  go_wp2_with fail
  refine HNM.out.mono ?_
  rintro e w5 ⟨v0, v1, v2, v3, v4, rfl, hr0, hr1, hr2, hr3, hr4, hb5⟩
  have HVO : Hid (([v0, v1, v2, v3, v4] : List Value).toArray.all (·.oneCell') = true) := by
    obtain ⟨_, _, _, e0⟩ := hr0.form
    obtain ⟨_, _, _, e1⟩ := hr1.form
    obtain ⟨_, _, _, e2⟩ := hr2.form
    obtain ⟨_, _, _, e3⟩ := hr3.form
    obtain ⟨_, _, _, e4⟩ := hr4.form
    show _ = _
    rw [e0, e1, e2, e3, e4]; simp [Value.oneCell']
  have HR0 := Lib.hid hr0; have HR1 := Lib.hid hr1; have HR2 := Lib.hid hr2; have HR3 := Lib.hid hr3; have HR4 := Lib.hid hr4
  have HB5 := Lib.hid hb5
  clear hr0 hr1 hr2 hr3 hr4 hb5 HNM
  dsimp only
  iterate 4 go_step
  refine wpList_store_row rfl 45 _ _ rfl w5.heap.size ([v0, v1, v2, v3, v4] : List Value).toArray rfl rfl 45 _ (blk_newn rfl) (by kernel_rfl) rfl HVO.out ?_
  simp only [Act.put, List.setIfInBounds_toArray, List.set_cons_zero, List.set_cons_succ]
  rw [World.setRow_alloc_new]
  go_upto_region 9 with fail
  obtain ⟨u, hu⟩ : ∃ u, (w5.alloc (.cells #[v0, v1, v2, v3, v4] 45)).alloc (.cells #[.int .i64 0, .int .i64 0, .int .i64 0, .int .i64 0, .int .i64 0, .int .i64 0] 47) = u := ⟨_, rfl⟩
  rw [hu]
  have HTB : Hid (u.heap[w5.heap.size]? = some (.cells #[v0, v1, v2, v3, v4] 45 (0, 0))) := by rw [← hu]; exact blk_alloc (blk_newn rfl) _
  have HNB : Hid (u.heap[w5.heap.size + 1]? = some (.cells (cnts6 s.items 0).toArray 47 (0, 0))) := by rw [← hu]; exact blk_newn (by simp)
  have HB5u : Hid (Below w5.heap.size w5 u) := by rw [← hu]; exact ((Below.refl _ w5).alloc (Nat.le_refl _) _).alloc (by simp) _
  have HBUu : Hid (Below uA.heap.size uA u) := HB5.out.trans (HB5u.out.mono HB5.out.size)
  have HBWu : Hid (Below W.heap.size W u) := HBUW.out.trans (HBUu.out.mono HBUW.out.size)
  have HSBu := Lib.hid ((HBUu.out.block _ (lt_of_blk HSUB.out)).trans HSUB.out)
  have HQu := Lib.hid ((HBUu.out.block _ (lt_of_blk HQA.out)).trans HQA.out)
  have HS5 : Hid (rA.heap.size < w5.heap.size) := by have h1 := HSUA.out; have h2 := HB5.out.size; show _ < _; omega
  clear hu HSUB HQA
  obtain ⟨tb, htb⟩ : ∃ tb, w5.heap.size = tb := ⟨_, rfl⟩
  rw [htb] at HTB HNB HS5 ⊢
  have HTBE := Lib.hid htb
  clear htb
  obtain ⟨fin, tnm, tpar, trol, tuni, tact, tcla⟩ := run_fine s.items HF1.out
  have hy1 : yaA.parties = (Rs.run s.items).1.parties := by rw [HF3.out]
  have hy2 : yaA.roles = (Rs.run s.items).1.roles := by rw [HF3.out]
  have hy3 : yaA.units = (Rs.run s.items).1.units := by rw [HF3.out]
  have hy4 : yaA.acts = (Rs.run s.items).1.acts := by rw [HF3.out]
  have hy5 : yaA.clauses = (Rs.run s.items).1.clauses := by rw [HF3.out]
  have HFIN := Lib.hid fin; have HTNM := Lib.hid tnm
  have HP1 := Lib.hid (hy1.trans tpar); have HP2 := Lib.hid (hy2.trans trol); have HP3 := Lib.hid (hy3.trans tuni); have HP4 := Lib.hid (hy4.trans tact); have HP5 := Lib.hid (hy5.trans tcla)
  have HE2 : Hid (yaA.roles.map Prod.fst = tabs tab0 s.items 2) := by show _ = _; rw [HP2.out, List.map_map, HTNM.out 2 (by omega)]; rfl
  have HE3 : Hid (yaA.units.map Unit_.name = tabs tab0 s.items 3) := by
    show _ = _
    rw [HP3.out, List.map_map, HTNM.out 3 (by omega)]
    congr 1
    funext x
    show (unitOf _ x).name = x.name
    unfold unitOf; split <;> rfl
  have HE4 : Hid (yaA.acts.map ActSym.name = tabs tab0 s.items 4) := by show _ = _; rw [HP4.out, List.map_map, HTNM.out 4 (by omega)]; rfl
  have HE5 : Hid (yaA.clauses.map ClauseSym.name = tabs tab0 s.items 5) := by show _ = _; rw [HP5.out, List.map_map, HTNM.out 5 (by omega)]; rfl
  clear fin tnm tpar trol tuni tact tcla hy1 hy2 hy3 hy4 hy5
  go_wp2_with fail
  go_loopw [8] (fun iv wr => MR (tb + 1) s.items u iv wr) (fun i _ => z.length - (intOf i).toNat)
  case atStart => exact ⟨0, rfl, Nat.zero_le _, HNB, Fr.refl _ _⟩
  case round =>
    obtain ⟨k, rfl, hk, HNX, HFR⟩ := hrel
    clear HNB
    have hz7 : z.length ≤ 700 := H7.out
    have hkz : k ≤ z.length := by rw [HLZ.out]; exact hk
    have HKZ := Lib.hid hkz
    clear hk hkz
    have HSCk : Hid (wr.heap[W.heap.size]? = some (.cells (scells s.name s.frm s.days (.slice Ai z.length ci)).toArray 26 (0, 0))) := HFR.out.blk HSBu.out (fun e => by have h1 := HWT.out; have h2 := HS5.out; omega)
    have k5 : wr.cell? ⟨W.heap.size, 5, none⟩ = some (.slice Ai z.length ci) := cell_of_blk HSCk.out 5
    have HBWr : Hid (Below W.heap.size W wr) := HBWu.out.trans (HFR.out.below HBWu.out.size (fun j h => by have h1 := HWT.out; have h2 := HS5.out; omega))
    have i1 : (0 : Int) ≤ (k : Int) := Int.natCast_nonneg _
    by_cases hlt : k < z.length
    · obtain ⟨g0, o, cap0, hs1, hgl, _, _, hat⟩ := HZ.out.row.at (by intro e; rw [List.map_eq_nil_iff] at e; rw [e] at hlt; simp at hlt)
      have hAi : Ai = some ⟨g0, o, none⟩ := by injection hs1
      subst hAi
      obtain ⟨p, hp⟩ : ∃ p, z[k]? = some p := ⟨_, List.getElem?_eq_getElem hlt⟩
      have HAT0 : Hid (At wr g0 (o + k * 33) (ic p)) := (hat k (ic p) (by rw [List.getElem?_map, hp]; rfl)).below hgl HBWr.out
      have hfl := HZ.out.flat p (List.mem_of_getElem? hp)
      have HFLT := Lib.hid hfl
      have HONE : Hid ((ic p).toArray.all (·.oneCell') = true) := ic_one hfl.1 hfl.2
      have HPK : Hid (s.items[k]? = some p.1) := by show _ = _; rw [← HZS.out, List.getElem?_map, hp]; rfl
      clear hat hs1 hgl hp hfl
      have i2 : (k : Int) < (z.length : Int) := by omega
      go_upto_region 12 with fail
      iterate 13 go_step
      refine wpList_load_mid rfl 55 _ rfl g0 (o + k * 33) rfl (ic p) _ HAT0.out Tryd.underlying55 rfl info_item ?_
      simp only [Act.put, List.setIfInBounds_toArray, List.set_cons_zero, List.set_cons_succ]
      iterate 3 go_step
      refine wpList_store_row rfl 55 _ _ rfl wr.heap.size (ic p).toArray rfl rfl 55 _ (blk_newn rfl) (info_icl p) rfl HONE.out ?_
      simp only [Act.put, List.setIfInBounds_toArray, List.set_cons_zero, List.set_cons_succ]
      rw [World.setRow_alloc_new]
      obtain ⟨u2, hu2⟩ : ∃ u2, wr.alloc (.cells (ic p).toArray 55) = u2 := ⟨_, rfl⟩
      rw [hu2]
      have HF2 : Hid (Fr (fun _ => False) wr u2) := by rw [← hu2]; exact (Fr.refl _ wr).alloc _
      have HXB : Hid (u2.heap[wr.heap.size]? = some (.cells (ic p).toArray 55 (0, 0))) := by rw [← hu2]; exact blk_newn rfl
      have HXW : Hid (tb + 1 < wr.heap.size) := lt_of_blk HNX.out
      have HGC := Lib.hid (Group_any p u2)
      clear hu2 HAT0 HONE k5 HSCk
      go_upto_region 13 with fail
      iterate 1 go_step
      refine wpList_load_mid rfl 55 _ rfl wr.heap.size 0 rfl (ic p) _ (range_of_blk HXB.out) Tryd.underlying55 rfl info_item ?_
      simp only [Act.put, List.setIfInBounds_toArray, List.set_cons_zero, List.set_cons_succ]
      go_wp2_with fail
      refine HGC.out.mono ?_
      rintro e w6 ⟨rfl, hb6⟩
      have HF6 : Hid (Fr (fun _ => False) wr w6) := HF2.out.trans' (Fr.of_below (S := fun _ => False) hb6) (fun _ _ h => h)
      have HX6 := Lib.hid ((hb6.block _ (lt_of_blk HXB.out)).trans HXB.out)
      have HN6 := Lib.hid (HF6.out.blk HNX.out (fun h => h))
      clear hb6 HGC HXB
      obtain ⟨x, sc, sd, sn, sx⟩ := p
      dsimp only at HPK HFLT ⊢
      obtain ⟨gk, hgk⟩ : ∃ gk, group x.kind = gk := ⟨_, rfl⟩
      have hg6 : gk < 6 := by rw [← hgk]; exact group_lt6 x.kind
      have hset := cnts6_set HPK.out
      rw [hgk] at hset ⊢
      have hcl : cnt s.items k gk ≤ 700 := by have := cnt_le s.items k gk; omega
      have HGK := Lib.hid hgk; have HSET := Lib.hid hset
      clear hgk hset
      obtain ⟨ci', hci⟩ : ∃ c, cnt s.items k gk = c := ⟨_, rfl⟩
      have hn1 : w6.cell? ⟨tb + 1, gk, none⟩ = some (.int .i64 ((ci' : Nat) : Int)) := by rw [cell_of_blk HN6.out, ← hci]; simpa using cnts6_get s.items k hg6
      have hnf : w6.frozen? ⟨tb + 1, gk, none⟩ = false := froz_of_blk HN6.out gk
      rw [hci] at HSET hcl
      have HCI := Lib.hid hci; clear hci
      have gk0 : (0 : Int) ≤ (gk : Int) := Int.natCast_nonneg _
      have gk6 : (gk : Int) < 6 := by omega
      have cc0 : (0 : Int) ≤ (ci' : Int) := Int.natCast_nonneg _
      have cc7 : (ci' : Int) ≤ 700 := by omega
      go_upto_region 16 with fail
      obtain ⟨w7, hw7⟩ : ∃ w7, w6.setCell ⟨tb + 1, gk, none⟩ (.int .i64 ((ci' : Int) + 1)) = w7 := ⟨_, rfl⟩
      rw [hw7]
      have HF7 : Hid (Fr (fun j => j = tb + 1) wr w7) := by rw [← hw7]; exact (HF6.out.mono (fun _ _ h => h.elim) : Fr (fun j => j = tb + 1) wr w6).setCell (p := ⟨tb + 1, gk, none⟩) (.inl rfl) _
      have HN7 : Hid (w7.heap[tb + 1]? = some (.cells (cnts6 s.items (k + 1)).toArray 47 (0, 0))) := by
        have h := blk_set HN6.out gk (.int .i64 ((ci' : Int) + 1))
        rw [List.setIfInBounds_toArray, HSET.out] at h
        rw [← hw7]; exact h
      have HX7 : Hid (w7.heap[wr.heap.size]? = some (.cells (ic (x, sc, sd, sn, sx)).toArray 55 (0, 0))) := by rw [← hw7]; exact blk_farq HX6.out (by have := HXW.out; omega) _
      have HFU : Hid (Fr (fun j => j = tb + 1) u w7) := HFR.out.trans HF7.out
      have HT7 := Lib.hid (HFU.out.blk HTB.out (by omega))
      have HQ7 := Lib.hid (HFU.out.blk HQu.out (by have := HS5.out; omega))
      have HBW7 : Hid (Below W.heap.size W w7) := HBWu.out.trans (HFU.out.below HBWu.out.size (fun j h => by have h1 := HWT.out; have h2 := HS5.out; omega))
      have HB57 : Hid (Below w5.heap.size w5 w7) := HB5u.out.trans (HFU.out.below HB5u.out.size (fun j h => by have := HTBE.out; omega))
      have HB17 : Hid (Below uA.heap.size uA w7) := HBUu.out.trans (HFU.out.below HBUu.out.size (fun j h => by have h1 := HTBE.out; have h2 := HB5.out.size; omega))
      have HKL : Hid (k + 1 ≤ s.items.length) := by have := HLZ.out; show _ ≤ _; omega
      have HEND : Hid (∀ wf, Fr (fun _ => False) w7 wf → MR (tb + 1) s.items u (.int .i64 ((k : Int) + 1)) wf) := fun wf h => ⟨k + 1, rfl, HKL.out, h.blk HN7.out (fun h => h), HFU.out.trans' h (fun _ _ h => h.elim)⟩
      have HT0 : Hid (w7.cell? ⟨tb, 0, none⟩ = some v0) := cell_of_blk HT7.out 0
      have HT1 : Hid (w7.cell? ⟨tb, 1, none⟩ = some v1) := cell_of_blk HT7.out 1
      have HT2 : Hid (w7.cell? ⟨tb, 2, none⟩ = some v2) := cell_of_blk HT7.out 2
      have HT3 : Hid (w7.cell? ⟨tb, 3, none⟩ = some v3) := cell_of_blk HT7.out 3
      have HT4 : Hid (w7.cell? ⟨tb, 4, none⟩ = some v4) := cell_of_blk HT7.out 4
      have HXN : Hid (w7.cell? ⟨wr.heap.size, 1, none⟩ = some (.string ⟨x.name.toArray⟩)) := cell_of_blk HX7.out 1
      clear hw7 HN6 HX6 HF6 HF2 hn1 hnf
      rcases (by omega : gk = 0 ∨ gk = 1 ∨ gk = 2 ∨ gk = 3 ∨ gk = 4 ∨ gk = 5) with rfl | rfl | rfl | rfl | rfl | rfl
      · go_quiet (fail)
        go_wp2_with fail
        go_roundw
        case rel => exact HEND.out _ ((Fr.refl _ w7).drewN _)
        case measure => simp [intOf]; omega
      · as_aux_lemma =>
          have HCL1 := Lib.hid (called_true yaA.parties v0 (ci' : Int) x.name false w7.drew (HR0.out.below (below_drewN HB57.out 1)) (.inr ⟨by simp, ci', rfl, by rw [HP1.out, ← HCI.out]; exact cnt_at Rs.Item.name s.items 1 k x HPK.out HGK.out⟩))
          have hw1 : IntKind.i64.wrap 0 = 0 := IntWalk.i64_in _ (by omega)
          refine Reg.G.start (by kernel_rfl) ?_
          refine' Reg.G.pure (i := 0) (v := _) rfl (by rfl) (by kernel_rfl) (by kernel_rfl) (by kernel_rfl) (fun _ _ _ h => h) ?hyr161_0 ?rer161_0
          case hyr161_0 => exact fun w => by first | (go_simp; done) | (go_simp; with_reducible rfl)
          simp only [Act.put, List.setIfInBounds_toArray, List.set_cons_zero, List.set_cons_succ]
          refine' Reg.G.pure (i := 1) (v := _) rfl (by rfl) (by kernel_rfl) (by kernel_rfl) (by kernel_rfl) (fun _ _ _ h => h) ?hyr161_1 ?rer161_1
          case hyr161_1 => exact fun w => by first | (go_simp; done) | (go_simp; with_reducible rfl)
          simp only [Act.put, List.setIfInBounds_toArray, List.set_cons_zero, List.set_cons_succ]
          refine' Reg.G.pure (i := 2) (v := _) rfl (by rfl) (by kernel_rfl) (by kernel_rfl) (by kernel_rfl) (fun _ _ _ h => h) ?hyr161_2 ?rer161_2
          case hyr161_2 => exact fun w => by first | (go_simp; done) | (go_simp; with_reducible rfl)
          simp only [Act.put, List.setIfInBounds_toArray, List.set_cons_zero, List.set_cons_succ]
          refine' Reg.G.pure (i := 3) (v := _) rfl (by rfl) (by kernel_rfl) (by kernel_rfl) (by kernel_rfl) (fun _ _ _ h => h) ?hyr161_3 ?rer161_3
          case hyr161_3 => exact fun w => by first | (go_simp; done) | (go_simp; with_reducible rfl)
          simp only [Act.put, List.setIfInBounds_toArray, List.set_cons_zero, List.set_cons_succ]
          refine' Reg.G.pure (i := 4) (v := _) rfl (by rfl) (by kernel_rfl) (by kernel_rfl) (by kernel_rfl) (fun _ _ _ h => h) ?hyr161_4 ?rer161_4
          case hyr161_4 => exact fun w => by first | (go_simp; done) | (go_simp; with_reducible rfl)
          simp only [Act.put, List.setIfInBounds_toArray, List.set_cons_zero, List.set_cons_succ]
          refine' Reg.G.pure (i := 5) (v := _) rfl (by rfl) (by kernel_rfl) (by kernel_rfl) (by kernel_rfl) (fun _ _ _ h => h) ?hyr161_5 ?rer161_5
          case hyr161_5 => exact fun w => by first | (go_simp; done) | (go_simp; with_reducible rfl)
          simp only [Act.put, List.setIfInBounds_toArray, List.set_cons_zero, List.set_cons_succ]
          refine' Reg.G.take (i := 6) (v := _) (F := (fun w => w.cell? ⟨tb, 0, none⟩ = some v0)) rfl (by rfl) (by kernel_rfl) (by kernel_rfl) (by kernel_rfl) (fun _ _ _ h => h) (HT0.out) ?hyr161_6 ?rer161_6
          case hyr161_6 => intro w hw; first | (go_simp; done) | (go_simp; with_reducible rfl)
          simp only [Act.put, List.setIfInBounds_toArray, List.set_cons_zero, List.set_cons_succ]
          refine' Reg.G.pure (i := 7) (v := _) rfl (by rfl) (by kernel_rfl) (by kernel_rfl) (by kernel_rfl) (fun _ _ _ h => h) ?hyr161_7 ?rer161_7
          case hyr161_7 => exact fun w => by first | (go_simp; done) | (go_simp; with_reducible rfl)
          simp only [Act.put, List.setIfInBounds_toArray, List.set_cons_zero, List.set_cons_succ]
          refine' Reg.G.pure (i := 8) (v := _) rfl (by rfl) (by kernel_rfl) (by kernel_rfl) (by kernel_rfl) (fun _ _ _ h => h) ?hyr161_8 ?rer161_8
          case hyr161_8 => exact fun w => by first | (go_simp; done) | (go_simp; with_reducible rfl)
          simp only [Act.put, List.setIfInBounds_toArray, List.set_cons_zero, List.set_cons_succ]
          refine' Reg.G.take (i := 9) (v := _) (F := (fun w => w.cell? ⟨wr.heap.size, 1, none⟩ = some (.string ⟨x.name.toArray⟩))) rfl (by rfl) (by kernel_rfl) (by kernel_rfl) (by kernel_rfl) (fun _ _ _ h => h) (HXN.out) ?hyr161_9 ?rer161_9
          case hyr161_9 => intro w hw; first | (go_simp; done) | (go_simp; with_reducible rfl)
          simp only [Act.put, List.setIfInBounds_toArray, List.set_cons_zero, List.set_cons_succ]
          refine Reg.G.step (j := 10) (m := [false, false]) [9, 6] rfl (by kernel_rfl) rfl (by kernel_rfl) (fun K hK => ?_)
          -- Op.call { callee := Callee.value (func 18), args := #[t81, t82, t84, const (bool false)], argTypes := #[33, 3, 9, 4] }
          rw [if_pos (by rfl)]
          go_simp
          refine HCL1.out.mono ?_
          rintro e wg ⟨rfl, rfl⟩
          refine hK.out _ _ trivial ?_
          clear hK K
          simp only [Act.put, List.setIfInBounds_toArray, List.set_cons_zero, List.set_cons_succ, Reg.Kept]
          refine' Reg.G.pure (i := 11) (v := _) rfl (by rfl) (by kernel_rfl) (by kernel_rfl) (by kernel_rfl) (fun _ _ _ h => h) ?hyr161_11 ?rer161_11
          case hyr161_11 => exact fun w => by first | (go_simp; done) | (go_simp; with_reducible rfl)
          simp only [Act.put, List.setIfInBounds_toArray, List.set_cons_zero, List.set_cons_succ]
          refine' Reg.G.pure (i := 12) (v := _) rfl (by rfl) (by kernel_rfl) (by kernel_rfl) (by kernel_rfl) (fun _ _ _ h => h) ?hyr161_12 ?rer161_12
          case hyr161_12 => exact fun w => by first | (go_simp; done) | (go_simp; with_reducible rfl)
          simp only [Act.put, List.setIfInBounds_toArray, List.set_cons_zero, List.set_cons_succ]
          refine Reg.G.done (by kernel_rfl) ?_
          go_wp2_with fail
          go_roundw
          case rel => exact HEND.out _ (Fr.refl _ w7).drew
          case measure => simp [intOf]; omega
      · as_aux_lemma =>
          have HCL2 := Lib.hid (called_true (yaA.roles.map Prod.fst) v1 (ci' : Int) x.name false w7.drew (HR1.out.below (below_drewN HB57.out 1)) (.inr ⟨by simp, ci', rfl, by rw [HP2.out, List.map_map, ← HCI.out]; exact cnt_at _ s.items 2 k x HPK.out HGK.out⟩))
          have hw2 : IntKind.i64.wrap 1 = 1 := IntWalk.i64_in _ (by omega)
          refine Reg.G.start (by kernel_rfl) ?_
          refine' Reg.G.pure (i := 0) (v := _) rfl (by rfl) (by kernel_rfl) (by kernel_rfl) (by kernel_rfl) (fun _ _ _ h => h) ?hyr162_0 ?rer162_0
          case hyr162_0 => exact fun w => by first | (go_simp; done) | (go_simp; with_reducible rfl)
          simp only [Act.put, List.setIfInBounds_toArray, List.set_cons_zero, List.set_cons_succ]
          refine' Reg.G.pure (i := 1) (v := _) rfl (by rfl) (by kernel_rfl) (by kernel_rfl) (by kernel_rfl) (fun _ _ _ h => h) ?hyr162_1 ?rer162_1
          case hyr162_1 => exact fun w => by first | (go_simp; done) | (go_simp; with_reducible rfl)
          simp only [Act.put, List.setIfInBounds_toArray, List.set_cons_zero, List.set_cons_succ]
          refine' Reg.G.pure (i := 2) (v := _) rfl (by rfl) (by kernel_rfl) (by kernel_rfl) (by kernel_rfl) (fun _ _ _ h => h) ?hyr162_2 ?rer162_2
          case hyr162_2 => exact fun w => by first | (go_simp; done) | (go_simp; with_reducible rfl)
          simp only [Act.put, List.setIfInBounds_toArray, List.set_cons_zero, List.set_cons_succ]
          refine' Reg.G.pure (i := 3) (v := _) rfl (by rfl) (by kernel_rfl) (by kernel_rfl) (by kernel_rfl) (fun _ _ _ h => h) ?hyr162_3 ?rer162_3
          case hyr162_3 => exact fun w => by first | (go_simp; done) | (go_simp; with_reducible rfl)
          simp only [Act.put, List.setIfInBounds_toArray, List.set_cons_zero, List.set_cons_succ]
          refine' Reg.G.pure (i := 4) (v := _) rfl (by rfl) (by kernel_rfl) (by kernel_rfl) (by kernel_rfl) (fun _ _ _ h => h) ?hyr162_4 ?rer162_4
          case hyr162_4 => exact fun w => by first | (go_simp; done) | (go_simp; with_reducible rfl)
          simp only [Act.put, List.setIfInBounds_toArray, List.set_cons_zero, List.set_cons_succ]
          refine' Reg.G.pure (i := 5) (v := _) rfl (by rfl) (by kernel_rfl) (by kernel_rfl) (by kernel_rfl) (fun _ _ _ h => h) ?hyr162_5 ?rer162_5
          case hyr162_5 => exact fun w => by first | (go_simp; done) | (go_simp; with_reducible rfl)
          simp only [Act.put, List.setIfInBounds_toArray, List.set_cons_zero, List.set_cons_succ]
          refine' Reg.G.take (i := 6) (v := _) (F := (fun w => w.cell? ⟨tb, 1, none⟩ = some v1)) rfl (by rfl) (by kernel_rfl) (by kernel_rfl) (by kernel_rfl) (fun _ _ _ h => h) (HT1.out) ?hyr162_6 ?rer162_6
          case hyr162_6 => intro w hw; first | (go_simp; done) | (go_simp; with_reducible rfl)
          simp only [Act.put, List.setIfInBounds_toArray, List.set_cons_zero, List.set_cons_succ]
          refine' Reg.G.pure (i := 7) (v := _) rfl (by rfl) (by kernel_rfl) (by kernel_rfl) (by kernel_rfl) (fun _ _ _ h => h) ?hyr162_7 ?rer162_7
          case hyr162_7 => exact fun w => by first | (go_simp; done) | (go_simp; with_reducible rfl)
          simp only [Act.put, List.setIfInBounds_toArray, List.set_cons_zero, List.set_cons_succ]
          refine' Reg.G.pure (i := 8) (v := _) rfl (by rfl) (by kernel_rfl) (by kernel_rfl) (by kernel_rfl) (fun _ _ _ h => h) ?hyr162_8 ?rer162_8
          case hyr162_8 => exact fun w => by first | (go_simp; done) | (go_simp; with_reducible rfl)
          simp only [Act.put, List.setIfInBounds_toArray, List.set_cons_zero, List.set_cons_succ]
          refine' Reg.G.take (i := 9) (v := _) (F := (fun w => w.cell? ⟨wr.heap.size, 1, none⟩ = some (.string ⟨x.name.toArray⟩))) rfl (by rfl) (by kernel_rfl) (by kernel_rfl) (by kernel_rfl) (fun _ _ _ h => h) (HXN.out) ?hyr162_9 ?rer162_9
          case hyr162_9 => intro w hw; first | (go_simp; done) | (go_simp; with_reducible rfl)
          simp only [Act.put, List.setIfInBounds_toArray, List.set_cons_zero, List.set_cons_succ]
          refine Reg.G.step (j := 10) (m := [false, false]) [9, 6] rfl (by kernel_rfl) rfl (by kernel_rfl) (fun K hK => ?_)
          -- Op.call { callee := Callee.value (func 18), args := #[t81, t82, t84, const (bool false)], argTypes := #[33, 3, 9, 4] }
          rw [if_pos (by rfl)]
          go_simp
          refine HCL2.out.mono ?_
          rintro e wg ⟨rfl, rfl⟩
          refine hK.out _ _ trivial ?_
          clear hK K
          simp only [Act.put, List.setIfInBounds_toArray, List.set_cons_zero, List.set_cons_succ, Reg.Kept]
          refine' Reg.G.pure (i := 11) (v := _) rfl (by rfl) (by kernel_rfl) (by kernel_rfl) (by kernel_rfl) (fun _ _ _ h => h) ?hyr162_11 ?rer162_11
          case hyr162_11 => exact fun w => by first | (go_simp; done) | (go_simp; with_reducible rfl)
          simp only [Act.put, List.setIfInBounds_toArray, List.set_cons_zero, List.set_cons_succ]
          refine' Reg.G.pure (i := 12) (v := _) rfl (by rfl) (by kernel_rfl) (by kernel_rfl) (by kernel_rfl) (fun _ _ _ h => h) ?hyr162_12 ?rer162_12
          case hyr162_12 => exact fun w => by first | (go_simp; done) | (go_simp; with_reducible rfl)
          simp only [Act.put, List.setIfInBounds_toArray, List.set_cons_zero, List.set_cons_succ]
          refine Reg.G.done (by kernel_rfl) ?_
          have hrow := HYU.out.rol.below HB17.out
          rw [ER.out] at hrow
          have hx := cnt_at (fun x => (x.name, ix (tabs tab0 s.items) 1 x.of_)) s.items 2 k x HPK.out HGK.out
          rw [← HP2.out, HCI.out] at hx
          have hlen := (List.getElem?_eq_some_iff.1 hx).1
          obtain ⟨rg, ro, _, hda, hgl, _, _, hat⟩ := hrow.at (by intro e; rw [List.map_eq_nil_iff] at e; rw [e] at hlen; simp at hlen)
          have hAr : Ar = some ⟨rg, ro, none⟩ := by injection hda
          subst hAr
          have HD1 : Hid (w7.cell? ⟨rg, ro + ci' * 2 + 1, none⟩ = some (.int .i64 (ix (tabs tab0 s.items) 1 x.of_))) := hat ci' _ (by rw [List.getElem?_map, hx]; rfl) 1 _ rfl
          have HD2 : Hid (w7.cell? ⟨rA.heap.size, 14, none⟩ = some (.slice (some ⟨rg, ro, none⟩) yaA.roles.length cr)) := (cell_of_blk HQ7.out 14).trans (congrArg some ER.out)
          have HD3 : Hid (w7.cell? ⟨wr.heap.size, 3, none⟩ = some (.string ⟨x.of_.toArray⟩)) := cell_of_blk HX7.out 3
          have HCX := Lib.hid (called_true yaA.parties v0 (ix (tabs tab0 s.items) 1 x.of_) x.of_ false w7.drew.drew (HR0.out.below (below_drewN (below_drewN HB57.out 1) 1)) (by
            have h := ind_f ((HFIN.out x (List.mem_of_getElem? HPK.out)).role HGK.out)
            rw [HTNM.out 1 (by omega), ← HP1.out] at h
            exact h))
          have c2 : (ci' : Int) < (yaA.roles.length : Int) := by omega
          have c3 : ¬ ((yaA.roles.length : Int) ≤ (ci' : Int)) := by omega
          have c4 : decide ((yaA.roles.length : Int) ≤ (ci' : Int)) = false := decide_eq_false c3
          have c5 : ¬ (yaA.roles.length ≤ ci') := by omega
          have c6 : decide (yaA.roles.length ≤ ci') = false := decide_eq_false c5
          clear hrow hx hda hgl hat hlen
          go_upto_region 20 with fail
          refine Reg.G.start (by kernel_rfl) ?_
          refine' Reg.G.pure (i := 0) (v := _) rfl (by rfl) (by kernel_rfl) (by kernel_rfl) (by kernel_rfl) (fun _ _ _ h => h) ?hyr20_0 ?rer20_0
          case hyr20_0 => exact fun w => by first | (go_simp; done) | (go_simp; with_reducible rfl)
          simp only [Act.put, List.setIfInBounds_toArray, List.set_cons_zero, List.set_cons_succ]
          refine' Reg.G.pure (i := 1) (v := _) rfl (by rfl) (by kernel_rfl) (by kernel_rfl) (by kernel_rfl) (fun _ _ _ h => h) ?hyr20_1 ?rer20_1
          case hyr20_1 => exact fun w => by first | (go_simp; done) | (go_simp; with_reducible rfl)
          simp only [Act.put, List.setIfInBounds_toArray, List.set_cons_zero, List.set_cons_succ]
          refine' Reg.G.take (i := 2) (v := _) (F := (fun w => w.cell? ⟨rA.heap.size, 14, none⟩ = some (.slice (some ⟨rg, ro, none⟩) yaA.roles.length cr))) rfl (by rfl) (by kernel_rfl) (by kernel_rfl) (by kernel_rfl) (fun _ _ _ h => h) (HD2.out) ?hyr20_2 ?rer20_2
          case hyr20_2 => intro w hw; first | (go_simp; done) | (go_simp; with_reducible rfl)
          simp only [Act.put, List.setIfInBounds_toArray, List.set_cons_zero, List.set_cons_succ]
          refine' Reg.G.pure (i := 3) (v := _) rfl (by rfl) (by kernel_rfl) (by kernel_rfl) (by kernel_rfl) (fun _ _ _ h => h) ?hyr20_3 ?rer20_3
          case hyr20_3 => exact fun w => by first | (go_simp; done) | (go_simp; with_reducible rfl)
          simp only [Act.put, List.setIfInBounds_toArray, List.set_cons_zero, List.set_cons_succ]
          refine' Reg.G.pure (i := 4) (v := _) rfl (by rfl) (by kernel_rfl) (by kernel_rfl) (by kernel_rfl) (fun _ _ _ h => h) ?hyr20_4 ?rer20_4
          case hyr20_4 => exact fun w => by first | (go_simp; done) | (go_simp; with_reducible rfl)
          simp only [Act.put, List.setIfInBounds_toArray, List.set_cons_zero, List.set_cons_succ]
          refine' Reg.G.pure (i := 5) (v := _) rfl (by rfl) (by kernel_rfl) (by kernel_rfl) (by kernel_rfl) (fun _ _ _ h => h) ?hyr20_5 ?rer20_5
          case hyr20_5 => exact fun w => by first | (go_simp; done) | (go_simp; with_reducible rfl)
          simp only [Act.put, List.setIfInBounds_toArray, List.set_cons_zero, List.set_cons_succ]
          refine' Reg.G.pure (i := 6) (v := _) rfl (by rfl) (by kernel_rfl) (by kernel_rfl) (by kernel_rfl) (fun _ _ _ h => h) ?hyr20_6 ?rer20_6
          case hyr20_6 => exact fun w => by first | (go_simp; done) | (go_simp; with_reducible rfl)
          simp only [Act.put, List.setIfInBounds_toArray, List.set_cons_zero, List.set_cons_succ]
          refine' Reg.G.take (i := 7) (v := _) (F := (fun w => w.cell? ⟨tb, 0, none⟩ = some (v0))) rfl (by rfl) (by kernel_rfl) (by kernel_rfl) (by kernel_rfl) (fun _ _ _ h => h) (HT0.out) ?hyr20_7 ?rer20_7
          case hyr20_7 => intro w hw; first | (go_simp; done) | (go_simp; with_reducible rfl)
          simp only [Act.put, List.setIfInBounds_toArray, List.set_cons_zero, List.set_cons_succ]
          refine' Reg.G.pure (i := 8) (v := _) rfl (by rfl) (by kernel_rfl) (by kernel_rfl) (by kernel_rfl) (fun _ _ _ h => h) ?hyr20_8 ?rer20_8
          case hyr20_8 => exact fun w => by first | (go_simp; done) | (go_simp; with_reducible rfl)
          simp only [Act.put, List.setIfInBounds_toArray, List.set_cons_zero, List.set_cons_succ]
          refine' Reg.G.take (i := 9) (v := _) (F := (fun w => w.cell? ⟨rA.heap.size, 14, none⟩ = some (.slice (some ⟨rg, ro, none⟩) yaA.roles.length cr))) rfl (by rfl) (by kernel_rfl) (by kernel_rfl) (by kernel_rfl) (fun _ _ _ h => h) (HD2.out) ?hyr20_9 ?rer20_9
          case hyr20_9 => intro w hw; first | (go_simp; done) | (go_simp; with_reducible rfl)
          simp only [Act.put, List.setIfInBounds_toArray, List.set_cons_zero, List.set_cons_succ]
          refine' Reg.G.pure (i := 10) (v := _) rfl (by rfl) (by kernel_rfl) (by kernel_rfl) (by kernel_rfl) (fun _ _ _ h => h) ?hyr20_10 ?rer20_10
          case hyr20_10 => exact fun w => by first | (go_simp; done) | (go_simp; with_reducible rfl)
          simp only [Act.put, List.setIfInBounds_toArray, List.set_cons_zero, List.set_cons_succ]
          refine' Reg.G.pure (i := 11) (v := _) rfl (by rfl) (by kernel_rfl) (by kernel_rfl) (by kernel_rfl) (fun _ _ _ h => h) ?hyr20_11 ?rer20_11
          case hyr20_11 => exact fun w => by first | (go_simp; done) | (go_simp; with_reducible rfl)
          simp only [Act.put, List.setIfInBounds_toArray, List.set_cons_zero, List.set_cons_succ]
          refine' Reg.G.pure (i := 12) (v := _) rfl (by rfl) (by kernel_rfl) (by kernel_rfl) (by kernel_rfl) (fun _ _ _ h => h) ?hyr20_12 ?rer20_12
          case hyr20_12 => exact fun w => by first | (go_simp; done) | (go_simp; with_reducible rfl)
          simp only [Act.put, List.setIfInBounds_toArray, List.set_cons_zero, List.set_cons_succ]
          refine' Reg.G.take (i := 13) (v := _) (F := (fun w => w.cell? ⟨rg, ro + ci' * 2 + 1, none⟩ = some (.int .i64 (ix (tabs tab0 s.items) 1 x.of_)))) rfl (by rfl) (by kernel_rfl) (by kernel_rfl) (by kernel_rfl) (fun _ _ _ h => h) (HD1.out) ?hyr20_13 ?rer20_13
          case hyr20_13 => intro w hw; first | (go_simp; done) | (go_simp; with_reducible rfl)
          simp only [Act.put, List.setIfInBounds_toArray, List.set_cons_zero, List.set_cons_succ]
          refine' Reg.G.pure (i := 14) (v := _) rfl (by rfl) (by kernel_rfl) (by kernel_rfl) (by kernel_rfl) (fun _ _ _ h => h) ?hyr20_14 ?rer20_14
          case hyr20_14 => exact fun w => by first | (go_simp; done) | (go_simp; with_reducible rfl)
          simp only [Act.put, List.setIfInBounds_toArray, List.set_cons_zero, List.set_cons_succ]
          refine' Reg.G.take (i := 15) (v := _) (F := (fun w => w.cell? ⟨wr.heap.size, 3, none⟩ = some (.string ⟨x.of_.toArray⟩))) rfl (by rfl) (by kernel_rfl) (by kernel_rfl) (by kernel_rfl) (fun _ _ _ h => h) (HD3.out) ?hyr20_15 ?rer20_15
          case hyr20_15 => intro w hw; first | (go_simp; done) | (go_simp; with_reducible rfl)
          simp only [Act.put, List.setIfInBounds_toArray, List.set_cons_zero, List.set_cons_succ]
          refine Reg.G.step (j := 16) (m := [false, false, false, false, false]) [15, 13, 9, 7, 2] rfl (by kernel_rfl) rfl (by kernel_rfl) (fun K hK => ?_)
          -- Op.call { callee := Callee.value (func 18), args := #[t98, t104, t106, const (bool false)], argTypes := #[33, 3, 9, 4] }
          rw [if_pos (by rfl)]
          go_simp
          refine HCX.out.mono ?_
          rintro e wg ⟨rfl, rfl⟩
          refine hK.out _ _ trivial ?_
          clear hK K
          simp only [Act.put, List.setIfInBounds_toArray, List.set_cons_zero, List.set_cons_succ, Reg.Kept]
          refine' Reg.G.pure (i := 17) (v := _) rfl (by rfl) (by kernel_rfl) (by kernel_rfl) (by kernel_rfl) (fun _ _ _ h => h) ?hyr20_17 ?rer20_17
          case hyr20_17 => exact fun w => by first | (go_simp; done) | (go_simp; with_reducible rfl)
          simp only [Act.put, List.setIfInBounds_toArray, List.set_cons_zero, List.set_cons_succ]
          refine' Reg.G.pure (i := 18) (v := _) rfl (by rfl) (by kernel_rfl) (by kernel_rfl) (by kernel_rfl) (fun _ _ _ h => h) ?hyr20_18 ?rer20_18
          case hyr20_18 => exact fun w => by first | (go_simp; done) | (go_simp; with_reducible rfl)
          simp only [Act.put, List.setIfInBounds_toArray, List.set_cons_zero, List.set_cons_succ]
          refine Reg.G.done (by kernel_rfl) ?_
          go_wp2_with fail
          go_roundw
          case rel => exact HEND.out _ (Fr.refl _ w7).drew.drew
          case measure => simp [intOf]; omega
      · as_aux_lemma =>
          have HCL3 := Lib.hid (called_true (yaA.units.map Unit_.name) v2 (ci' : Int) x.name false w7.drew (HR2.out.below (below_drewN HB57.out 1)) (.inr ⟨by simp, ci', rfl, by rw [HP3.out, List.map_map, ← HCI.out, cnt_at _ s.items 3 k x HPK.out HGK.out]; show some (unitOf _ x).name = _; unfold unitOf; split <;> rfl⟩))
          have hw3 : IntKind.i64.wrap 2 = 2 := IntWalk.i64_in _ (by omega)
          refine Reg.G.start (by kernel_rfl) ?_
          refine' Reg.G.pure (i := 0) (v := _) rfl (by rfl) (by kernel_rfl) (by kernel_rfl) (by kernel_rfl) (fun _ _ _ h => h) ?hyr163_0 ?rer163_0
          case hyr163_0 => exact fun w => by first | (go_simp; done) | (go_simp; with_reducible rfl)
          simp only [Act.put, List.setIfInBounds_toArray, List.set_cons_zero, List.set_cons_succ]
          refine' Reg.G.pure (i := 1) (v := _) rfl (by rfl) (by kernel_rfl) (by kernel_rfl) (by kernel_rfl) (fun _ _ _ h => h) ?hyr163_1 ?rer163_1
          case hyr163_1 => exact fun w => by first | (go_simp; done) | (go_simp; with_reducible rfl)
          simp only [Act.put, List.setIfInBounds_toArray, List.set_cons_zero, List.set_cons_succ]
          refine' Reg.G.pure (i := 2) (v := _) rfl (by rfl) (by kernel_rfl) (by kernel_rfl) (by kernel_rfl) (fun _ _ _ h => h) ?hyr163_2 ?rer163_2
          case hyr163_2 => exact fun w => by first | (go_simp; done) | (go_simp; with_reducible rfl)
          simp only [Act.put, List.setIfInBounds_toArray, List.set_cons_zero, List.set_cons_succ]
          refine' Reg.G.pure (i := 3) (v := _) rfl (by rfl) (by kernel_rfl) (by kernel_rfl) (by kernel_rfl) (fun _ _ _ h => h) ?hyr163_3 ?rer163_3
          case hyr163_3 => exact fun w => by first | (go_simp; done) | (go_simp; with_reducible rfl)
          simp only [Act.put, List.setIfInBounds_toArray, List.set_cons_zero, List.set_cons_succ]
          refine' Reg.G.pure (i := 4) (v := _) rfl (by rfl) (by kernel_rfl) (by kernel_rfl) (by kernel_rfl) (fun _ _ _ h => h) ?hyr163_4 ?rer163_4
          case hyr163_4 => exact fun w => by first | (go_simp; done) | (go_simp; with_reducible rfl)
          simp only [Act.put, List.setIfInBounds_toArray, List.set_cons_zero, List.set_cons_succ]
          refine' Reg.G.pure (i := 5) (v := _) rfl (by rfl) (by kernel_rfl) (by kernel_rfl) (by kernel_rfl) (fun _ _ _ h => h) ?hyr163_5 ?rer163_5
          case hyr163_5 => exact fun w => by first | (go_simp; done) | (go_simp; with_reducible rfl)
          simp only [Act.put, List.setIfInBounds_toArray, List.set_cons_zero, List.set_cons_succ]
          refine' Reg.G.take (i := 6) (v := _) (F := (fun w => w.cell? ⟨tb, 2, none⟩ = some v2)) rfl (by rfl) (by kernel_rfl) (by kernel_rfl) (by kernel_rfl) (fun _ _ _ h => h) (HT2.out) ?hyr163_6 ?rer163_6
          case hyr163_6 => intro w hw; first | (go_simp; done) | (go_simp; with_reducible rfl)
          simp only [Act.put, List.setIfInBounds_toArray, List.set_cons_zero, List.set_cons_succ]
          refine' Reg.G.pure (i := 7) (v := _) rfl (by rfl) (by kernel_rfl) (by kernel_rfl) (by kernel_rfl) (fun _ _ _ h => h) ?hyr163_7 ?rer163_7
          case hyr163_7 => exact fun w => by first | (go_simp; done) | (go_simp; with_reducible rfl)
          simp only [Act.put, List.setIfInBounds_toArray, List.set_cons_zero, List.set_cons_succ]
          refine' Reg.G.pure (i := 8) (v := _) rfl (by rfl) (by kernel_rfl) (by kernel_rfl) (by kernel_rfl) (fun _ _ _ h => h) ?hyr163_8 ?rer163_8
          case hyr163_8 => exact fun w => by first | (go_simp; done) | (go_simp; with_reducible rfl)
          simp only [Act.put, List.setIfInBounds_toArray, List.set_cons_zero, List.set_cons_succ]
          refine' Reg.G.take (i := 9) (v := _) (F := (fun w => w.cell? ⟨wr.heap.size, 1, none⟩ = some (.string ⟨x.name.toArray⟩))) rfl (by rfl) (by kernel_rfl) (by kernel_rfl) (by kernel_rfl) (fun _ _ _ h => h) (HXN.out) ?hyr163_9 ?rer163_9
          case hyr163_9 => intro w hw; first | (go_simp; done) | (go_simp; with_reducible rfl)
          simp only [Act.put, List.setIfInBounds_toArray, List.set_cons_zero, List.set_cons_succ]
          refine Reg.G.step (j := 10) (m := [false, false]) [9, 6] rfl (by kernel_rfl) rfl (by kernel_rfl) (fun K hK => ?_)
          -- Op.call { callee := Callee.value (func 18), args := #[t81, t82, t84, const (bool false)], argTypes := #[33, 3, 9, 4] }
          rw [if_pos (by rfl)]
          go_simp
          refine HCL3.out.mono ?_
          rintro e wg ⟨rfl, rfl⟩
          refine hK.out _ _ trivial ?_
          clear hK K
          simp only [Act.put, List.setIfInBounds_toArray, List.set_cons_zero, List.set_cons_succ, Reg.Kept]
          refine' Reg.G.pure (i := 11) (v := _) rfl (by rfl) (by kernel_rfl) (by kernel_rfl) (by kernel_rfl) (fun _ _ _ h => h) ?hyr163_11 ?rer163_11
          case hyr163_11 => exact fun w => by first | (go_simp; done) | (go_simp; with_reducible rfl)
          simp only [Act.put, List.setIfInBounds_toArray, List.set_cons_zero, List.set_cons_succ]
          refine' Reg.G.pure (i := 12) (v := _) rfl (by rfl) (by kernel_rfl) (by kernel_rfl) (by kernel_rfl) (fun _ _ _ h => h) ?hyr163_12 ?rer163_12
          case hyr163_12 => exact fun w => by first | (go_simp; done) | (go_simp; with_reducible rfl)
          simp only [Act.put, List.setIfInBounds_toArray, List.set_cons_zero, List.set_cons_succ]
          refine Reg.G.done (by kernel_rfl) ?_
          have hrow := HYU.out.uni.below HB17.out
          rw [EU.out] at hrow
          have hx := cnt_at (unitOf (tabs tab0 s.items)) s.items 3 k x HPK.out HGK.out
          rw [← HP3.out, HCI.out] at hx
          have hlen := (List.getElem?_eq_some_iff.1 hx).1
          obtain ⟨rg, ro, _, hda, hgl, _, _, hat⟩ := hrow.at (by intro e; rw [List.map_eq_nil_iff] at e; rw [e] at hlen; simp at hlen)
          have hAr : Au = some ⟨rg, ro, none⟩ := by injection hda
          subst hAr
          have HUO := (HFIN.out x (List.mem_of_getElem? HPK.out)).unit HGK.out
          have HD4 : Hid (w7.cell? ⟨rg, ro + ci' * 5 + 1, none⟩ = some (.int .i64 x.word)) := by
            have h := hat ci' _ (by rw [List.getElem?_map, hx]; rfl) 1 _ rfl
            have e : (unitOf (tabs tab0 s.items) x).kind = x.word := by unfold unitOf; split <;> rfl
            rw [← e]; exact h
          have HD1 : Hid (w7.cell? ⟨rg, ro + ci' * 5 + 2, none⟩ = some (.int .i64 (unitOf (tabs tab0 s.items) x).base)) := hat ci' _ (by rw [List.getElem?_map, hx]; rfl) 2 _ rfl
          have HD2 : Hid (w7.cell? ⟨rA.heap.size, 15, none⟩ = some (.slice (some ⟨rg, ro, none⟩) yaA.units.length cu)) := (cell_of_blk HQ7.out 15).trans (congrArg some EU.out)
          have HD5 : Hid (w7.cell? ⟨wr.heap.size, 5, none⟩ = some (.int .i64 x.word)) := cell_of_blk HX7.out 5
          have hxu : w7.cell? ⟨wr.heap.size, 18, none⟩ = some (.string ⟨x.unit.toArray⟩) := cell_of_blk HX7.out 18
          have hxn : w7.cell? ⟨wr.heap.size, 1, none⟩ = some (.string ⟨x.name.toArray⟩) := HXN.out
          have c2 : (ci' : Int) < (yaA.units.length : Int) := by omega
          have c3 : ¬ ((yaA.units.length : Int) ≤ (ci' : Int)) := by omega
          have c4 : decide ((yaA.units.length : Int) ≤ (ci' : Int)) = false := decide_eq_false c3
          have c5 : ¬ (yaA.units.length ≤ ci') := by omega
          have c6 : decide (yaA.units.length ≤ ci') = false := decide_eq_false c5
          clear hrow hx hda hgl hat hlen
          by_cases hue : x.unit = []
          · have HIN : Hid (Ind (tabs tab0 s.items 3) (unitOf (tabs tab0 s.items) x).base x.name false) := by
              unfold unitOk at HUO
              rw [if_pos hue] at HUO
              have e : (unitOf (tabs tab0 s.items) x).base = ix (tabs tab0 s.items) 3 x.name := by unfold unitOf; rw [if_pos hue]
              show Ind _ _ _ _
              rw [e]; exact ind_f HUO
            rw [hue] at hxu
            have hxu0 : w7.cell? ⟨wr.heap.size, 18, none⟩ = some (.string ⟨#[]⟩) := hxu
            clear hxu HUO hue
            have HCX := Lib.hid (called_true (tabs tab0 s.items 3) v2 (unitOf (tabs tab0 s.items) x).base x.name false w7.drew.drew (by rw [← HE3.out]; exact HR2.out.below (below_drewN (below_drewN HB57.out 1) 1)) HIN.out)
            go_upto_region 26 with fail
            refine Reg.G.start (by kernel_rfl) ?_
            refine' Reg.G.pure (i := 0) (v := _) rfl (by rfl) (by kernel_rfl) (by kernel_rfl) (by kernel_rfl) (fun _ _ _ h => h) ?hyr26a_0 ?rer26a_0
            case hyr26a_0 => exact fun w => by first | (go_simp; done) | (go_simp; with_reducible rfl)
            simp only [Act.put, List.setIfInBounds_toArray, List.set_cons_zero, List.set_cons_succ]
            refine' Reg.G.pure (i := 1) (v := _) rfl (by rfl) (by kernel_rfl) (by kernel_rfl) (by kernel_rfl) (fun _ _ _ h => h) ?hyr26a_1 ?rer26a_1
            case hyr26a_1 => exact fun w => by first | (go_simp; done) | (go_simp; with_reducible rfl)
            simp only [Act.put, List.setIfInBounds_toArray, List.set_cons_zero, List.set_cons_succ]
            refine' Reg.G.take (i := 2) (v := _) (F := (fun w => w.cell? ⟨rA.heap.size, 15, none⟩ = some (.slice (some ⟨rg, ro, none⟩) yaA.units.length cu))) rfl (by rfl) (by kernel_rfl) (by kernel_rfl) (by kernel_rfl) (fun _ _ _ h => h) (HD2.out) ?hyr26a_2 ?rer26a_2
            case hyr26a_2 => intro w hw; first | (go_simp; done) | (go_simp; with_reducible rfl)
            simp only [Act.put, List.setIfInBounds_toArray, List.set_cons_zero, List.set_cons_succ]
            refine' Reg.G.pure (i := 3) (v := _) rfl (by rfl) (by kernel_rfl) (by kernel_rfl) (by kernel_rfl) (fun _ _ _ h => h) ?hyr26a_3 ?rer26a_3
            case hyr26a_3 => exact fun w => by first | (go_simp; done) | (go_simp; with_reducible rfl)
            simp only [Act.put, List.setIfInBounds_toArray, List.set_cons_zero, List.set_cons_succ]
            refine' Reg.G.pure (i := 4) (v := _) rfl (by rfl) (by kernel_rfl) (by kernel_rfl) (by kernel_rfl) (fun _ _ _ h => h) ?hyr26a_4 ?rer26a_4
            case hyr26a_4 => exact fun w => by first | (go_simp; done) | (go_simp; with_reducible rfl)
            simp only [Act.put, List.setIfInBounds_toArray, List.set_cons_zero, List.set_cons_succ]
            refine' Reg.G.pure (i := 5) (v := _) rfl (by rfl) (by kernel_rfl) (by kernel_rfl) (by kernel_rfl) (fun _ _ _ h => h) ?hyr26a_5 ?rer26a_5
            case hyr26a_5 => exact fun w => by first | (go_simp; done) | (go_simp; with_reducible rfl)
            simp only [Act.put, List.setIfInBounds_toArray, List.set_cons_zero, List.set_cons_succ]
            refine' Reg.G.pure (i := 6) (v := _) rfl (by rfl) (by kernel_rfl) (by kernel_rfl) (by kernel_rfl) (fun _ _ _ h => h) ?hyr26a_6 ?rer26a_6
            case hyr26a_6 => exact fun w => by first | (go_simp; done) | (go_simp; with_reducible rfl)
            simp only [Act.put, List.setIfInBounds_toArray, List.set_cons_zero, List.set_cons_succ]
            refine' Reg.G.take (i := 7) (v := _) (F := (fun w => w.cell? ⟨tb, 2, none⟩ = some (v2))) rfl (by rfl) (by kernel_rfl) (by kernel_rfl) (by kernel_rfl) (fun _ _ _ h => h) (HT2.out) ?hyr26a_7 ?rer26a_7
            case hyr26a_7 => intro w hw; first | (go_simp; done) | (go_simp; with_reducible rfl)
            simp only [Act.put, List.setIfInBounds_toArray, List.set_cons_zero, List.set_cons_succ]
            refine' Reg.G.pure (i := 8) (v := _) rfl (by rfl) (by kernel_rfl) (by kernel_rfl) (by kernel_rfl) (fun _ _ _ h => h) ?hyr26a_8 ?rer26a_8
            case hyr26a_8 => exact fun w => by first | (go_simp; done) | (go_simp; with_reducible rfl)
            simp only [Act.put, List.setIfInBounds_toArray, List.set_cons_zero, List.set_cons_succ]
            refine' Reg.G.take (i := 9) (v := _) (F := (fun w => w.cell? ⟨rA.heap.size, 15, none⟩ = some (.slice (some ⟨rg, ro, none⟩) yaA.units.length cu))) rfl (by rfl) (by kernel_rfl) (by kernel_rfl) (by kernel_rfl) (fun _ _ _ h => h) (HD2.out) ?hyr26a_9 ?rer26a_9
            case hyr26a_9 => intro w hw; first | (go_simp; done) | (go_simp; with_reducible rfl)
            simp only [Act.put, List.setIfInBounds_toArray, List.set_cons_zero, List.set_cons_succ]
            refine' Reg.G.pure (i := 10) (v := _) rfl (by rfl) (by kernel_rfl) (by kernel_rfl) (by kernel_rfl) (fun _ _ _ h => h) ?hyr26a_10 ?rer26a_10
            case hyr26a_10 => exact fun w => by first | (go_simp; done) | (go_simp; with_reducible rfl)
            simp only [Act.put, List.setIfInBounds_toArray, List.set_cons_zero, List.set_cons_succ]
            refine' Reg.G.pure (i := 11) (v := _) rfl (by rfl) (by kernel_rfl) (by kernel_rfl) (by kernel_rfl) (fun _ _ _ h => h) ?hyr26a_11 ?rer26a_11
            case hyr26a_11 => exact fun w => by first | (go_simp; done) | (go_simp; with_reducible rfl)
            simp only [Act.put, List.setIfInBounds_toArray, List.set_cons_zero, List.set_cons_succ]
            refine' Reg.G.pure (i := 12) (v := _) rfl (by rfl) (by kernel_rfl) (by kernel_rfl) (by kernel_rfl) (fun _ _ _ h => h) ?hyr26a_12 ?rer26a_12
            case hyr26a_12 => exact fun w => by first | (go_simp; done) | (go_simp; with_reducible rfl)
            simp only [Act.put, List.setIfInBounds_toArray, List.set_cons_zero, List.set_cons_succ]
            refine' Reg.G.take (i := 13) (v := _) (F := (fun w => w.cell? ⟨rg, ro + ci' * 5 + 2, none⟩ = some (.int .i64 (unitOf (tabs tab0 s.items) x).base))) rfl (by rfl) (by kernel_rfl) (by kernel_rfl) (by kernel_rfl) (fun _ _ _ h => h) (HD1.out) ?hyr26a_13 ?rer26a_13
            case hyr26a_13 => intro w hw; first | (go_simp; done) | (go_simp; with_reducible rfl)
            simp only [Act.put, List.setIfInBounds_toArray, List.set_cons_zero, List.set_cons_succ]
            refine' Reg.G.pure (i := 14) (v := _) rfl (by rfl) (by kernel_rfl) (by kernel_rfl) (by kernel_rfl) (fun _ _ _ h => h) ?hyr26a_14 ?rer26a_14
            case hyr26a_14 => exact fun w => by first | (go_simp; done) | (go_simp; with_reducible rfl)
            simp only [Act.put, List.setIfInBounds_toArray, List.set_cons_zero, List.set_cons_succ]
            refine Reg.G.step (j := 15) (m := [false, false, false, false]) [13, 9, 7, 2] rfl (by kernel_rfl) rfl (by kernel_rfl) (fun K hK => ?_)
            -- Op.call { callee := Callee.value (func 18), args := #[t125, t131, t132, const (bool false)], argTypes := #[33, 3, 9, 4] }
            rw [if_pos (by rfl)]
            go_simp
            refine HCX.out.mono ?_
            rintro e wg ⟨rfl, rfl⟩
            refine hK.out _ _ trivial ?_
            clear hK K
            simp only [Act.put, List.setIfInBounds_toArray, List.set_cons_zero, List.set_cons_succ, Reg.Kept]
            refine' Reg.G.pure (i := 16) (v := _) rfl (by rfl) (by kernel_rfl) (by kernel_rfl) (by kernel_rfl) (fun _ _ _ h => h) ?hyr26a_16 ?rer26a_16
            case hyr26a_16 => exact fun w => by first | (go_simp; done) | (go_simp; with_reducible rfl)
            simp only [Act.put, List.setIfInBounds_toArray, List.set_cons_zero, List.set_cons_succ]
            refine' Reg.G.pure (i := 17) (v := _) rfl (by rfl) (by kernel_rfl) (by kernel_rfl) (by kernel_rfl) (fun _ _ _ h => h) ?hyr26a_17 ?rer26a_17
            case hyr26a_17 => exact fun w => by first | (go_simp; done) | (go_simp; with_reducible rfl)
            simp only [Act.put, List.setIfInBounds_toArray, List.set_cons_zero, List.set_cons_succ]
            refine' Reg.G.pure (i := 18) (v := _) rfl (by rfl) (by kernel_rfl) (by kernel_rfl) (by kernel_rfl) (fun _ _ _ h => h) ?hyr26a_18 ?rer26a_18
            case hyr26a_18 => exact fun w => by first | (go_simp; done) | (go_simp; with_reducible rfl)
            simp only [Act.put, List.setIfInBounds_toArray, List.set_cons_zero, List.set_cons_succ]
            refine' Reg.G.pure (i := 19) (v := _) rfl (by rfl) (by kernel_rfl) (by kernel_rfl) (by kernel_rfl) (fun _ _ _ h => h) ?hyr26a_19 ?rer26a_19
            case hyr26a_19 => exact fun w => by first | (go_simp; done) | (go_simp; with_reducible rfl)
            simp only [Act.put, List.setIfInBounds_toArray, List.set_cons_zero, List.set_cons_succ]
            refine' Reg.G.take (i := 20) (v := _) (F := (fun w => w.cell? ⟨rA.heap.size, 15, none⟩ = some (.slice (some ⟨rg, ro, none⟩) yaA.units.length cu))) rfl (by rfl) (by kernel_rfl) (by kernel_rfl) (by kernel_rfl) (fun _ _ _ h => h) (HD2.out) ?hyr26a_20 ?rer26a_20
            case hyr26a_20 => intro w hw; first | (go_simp; done) | (go_simp; with_reducible rfl)
            simp only [Act.put, List.setIfInBounds_toArray, List.set_cons_zero, List.set_cons_succ]
            refine' Reg.G.pure (i := 21) (v := _) rfl (by rfl) (by kernel_rfl) (by kernel_rfl) (by kernel_rfl) (fun _ _ _ h => h) ?hyr26a_21 ?rer26a_21
            case hyr26a_21 => exact fun w => by first | (go_simp; done) | (go_simp; with_reducible rfl)
            simp only [Act.put, List.setIfInBounds_toArray, List.set_cons_zero, List.set_cons_succ]
            refine' Reg.G.pure (i := 22) (v := _) rfl (by rfl) (by kernel_rfl) (by kernel_rfl) (by kernel_rfl) (fun _ _ _ h => h) ?hyr26a_22 ?rer26a_22
            case hyr26a_22 => exact fun w => by first | (go_simp; done) | (go_simp; with_reducible rfl)
            simp only [Act.put, List.setIfInBounds_toArray, List.set_cons_zero, List.set_cons_succ]
            refine' Reg.G.pure (i := 23) (v := _) rfl (by rfl) (by kernel_rfl) (by kernel_rfl) (by kernel_rfl) (fun _ _ _ h => h) ?hyr26a_23 ?rer26a_23
            case hyr26a_23 => exact fun w => by first | (go_simp; done) | (go_simp; with_reducible rfl)
            simp only [Act.put, List.setIfInBounds_toArray, List.set_cons_zero, List.set_cons_succ]
            refine' Reg.G.take (i := 24) (v := _) (F := (fun w => w.cell? ⟨rg, ro + ci' * 5 + 1, none⟩ = some (.int .i64 x.word))) rfl (by rfl) (by kernel_rfl) (by kernel_rfl) (by kernel_rfl) (fun _ _ _ h => h) (HD4.out) ?hyr26a_24 ?rer26a_24
            case hyr26a_24 => intro w hw; first | (go_simp; done) | (go_simp; with_reducible rfl)
            simp only [Act.put, List.setIfInBounds_toArray, List.set_cons_zero, List.set_cons_succ]
            refine' Reg.G.pure (i := 25) (v := _) rfl (by rfl) (by kernel_rfl) (by kernel_rfl) (by kernel_rfl) (fun _ _ _ h => h) ?hyr26a_25 ?rer26a_25
            case hyr26a_25 => exact fun w => by first | (go_simp; done) | (go_simp; with_reducible rfl)
            simp only [Act.put, List.setIfInBounds_toArray, List.set_cons_zero, List.set_cons_succ]
            refine' Reg.G.take (i := 26) (v := _) (F := (fun w => w.cell? ⟨wr.heap.size, 5, none⟩ = some (.int .i64 x.word))) rfl (by rfl) (by kernel_rfl) (by kernel_rfl) (by kernel_rfl) (fun _ _ _ h => h) (HD5.out) ?hyr26a_26 ?rer26a_26
            case hyr26a_26 => intro w hw; first | (go_simp; done) | (go_simp; with_reducible rfl)
            simp only [Act.put, List.setIfInBounds_toArray, List.set_cons_zero, List.set_cons_succ]
            refine' Reg.G.pure (i := 27) (v := _) rfl (by rfl) (by kernel_rfl) (by kernel_rfl) (by kernel_rfl) (fun _ _ _ h => h) ?hyr26a_27 ?rer26a_27
            case hyr26a_27 => exact fun w => by first | (go_simp; done) | (go_simp; with_reducible rfl)
            simp only [Act.put, List.setIfInBounds_toArray, List.set_cons_zero, List.set_cons_succ]
            refine' Reg.G.pure (i := 28) (v := _) rfl (by rfl) (by kernel_rfl) (by kernel_rfl) (by kernel_rfl) (fun _ _ _ h => h) ?hyr26a_28 ?rer26a_28
            case hyr26a_28 => exact fun w => by first | (go_simp; done) | (go_simp; with_reducible rfl)
            simp only [Act.put, List.setIfInBounds_toArray, List.set_cons_zero, List.set_cons_succ]
            refine Reg.G.done (by kernel_rfl) ?_
            go_wp2_with fail
            go_roundw
            case rel => exact HEND.out _ (Fr.refl _ w7).drew.drew
            case measure => simp [intOf]; omega
          · have HIN : Hid (Ind (tabs tab0 s.items 3) (unitOf (tabs tab0 s.items) x).base x.unit false) := by
              unfold unitOk at HUO
              rw [if_neg hue] at HUO
              have e : (unitOf (tabs tab0 s.items) x).base = ix (tabs tab0 s.items) 3 x.unit := by unfold unitOf; rw [if_neg hue]
              show Ind _ _ _ _
              rw [e]; exact ind_f HUO
            have hub : (x.unit == []) = false := by simpa using hue
            clear HUO hue
            have HCX := Lib.hid (called_true (tabs tab0 s.items 3) v2 (unitOf (tabs tab0 s.items) x).base x.unit false w7.drew.drew (by rw [← HE3.out]; exact HR2.out.below (below_drewN (below_drewN HB57.out 1) 1)) HIN.out)
            go_upto_region 26 with fail
            refine Reg.G.start (by kernel_rfl) ?_
            refine' Reg.G.pure (i := 0) (v := _) rfl (by rfl) (by kernel_rfl) (by kernel_rfl) (by kernel_rfl) (fun _ _ _ h => h) ?hyr26b_0 ?rer26b_0
            case hyr26b_0 => exact fun w => by first | (go_simp; done) | (go_simp; with_reducible rfl)
            simp only [Act.put, List.setIfInBounds_toArray, List.set_cons_zero, List.set_cons_succ]
            refine' Reg.G.pure (i := 1) (v := _) rfl (by rfl) (by kernel_rfl) (by kernel_rfl) (by kernel_rfl) (fun _ _ _ h => h) ?hyr26b_1 ?rer26b_1
            case hyr26b_1 => exact fun w => by first | (go_simp; done) | (go_simp; with_reducible rfl)
            simp only [Act.put, List.setIfInBounds_toArray, List.set_cons_zero, List.set_cons_succ]
            refine' Reg.G.take (i := 2) (v := _) (F := (fun w => w.cell? ⟨rA.heap.size, 15, none⟩ = some (.slice (some ⟨rg, ro, none⟩) yaA.units.length cu))) rfl (by rfl) (by kernel_rfl) (by kernel_rfl) (by kernel_rfl) (fun _ _ _ h => h) (HD2.out) ?hyr26b_2 ?rer26b_2
            case hyr26b_2 => intro w hw; first | (go_simp; done) | (go_simp; with_reducible rfl)
            simp only [Act.put, List.setIfInBounds_toArray, List.set_cons_zero, List.set_cons_succ]
            refine' Reg.G.pure (i := 3) (v := _) rfl (by rfl) (by kernel_rfl) (by kernel_rfl) (by kernel_rfl) (fun _ _ _ h => h) ?hyr26b_3 ?rer26b_3
            case hyr26b_3 => exact fun w => by first | (go_simp; done) | (go_simp; with_reducible rfl)
            simp only [Act.put, List.setIfInBounds_toArray, List.set_cons_zero, List.set_cons_succ]
            refine' Reg.G.pure (i := 4) (v := _) rfl (by rfl) (by kernel_rfl) (by kernel_rfl) (by kernel_rfl) (fun _ _ _ h => h) ?hyr26b_4 ?rer26b_4
            case hyr26b_4 => exact fun w => by first | (go_simp; done) | (go_simp; with_reducible rfl)
            simp only [Act.put, List.setIfInBounds_toArray, List.set_cons_zero, List.set_cons_succ]
            refine' Reg.G.pure (i := 5) (v := _) rfl (by rfl) (by kernel_rfl) (by kernel_rfl) (by kernel_rfl) (fun _ _ _ h => h) ?hyr26b_5 ?rer26b_5
            case hyr26b_5 => exact fun w => by first | (go_simp; done) | (go_simp; with_reducible rfl)
            simp only [Act.put, List.setIfInBounds_toArray, List.set_cons_zero, List.set_cons_succ]
            refine' Reg.G.pure (i := 6) (v := _) rfl (by rfl) (by kernel_rfl) (by kernel_rfl) (by kernel_rfl) (fun _ _ _ h => h) ?hyr26b_6 ?rer26b_6
            case hyr26b_6 => exact fun w => by first | (go_simp; done) | (go_simp; with_reducible rfl)
            simp only [Act.put, List.setIfInBounds_toArray, List.set_cons_zero, List.set_cons_succ]
            refine' Reg.G.take (i := 7) (v := _) (F := (fun w => w.cell? ⟨tb, 2, none⟩ = some (v2))) rfl (by rfl) (by kernel_rfl) (by kernel_rfl) (by kernel_rfl) (fun _ _ _ h => h) (HT2.out) ?hyr26b_7 ?rer26b_7
            case hyr26b_7 => intro w hw; first | (go_simp; done) | (go_simp; with_reducible rfl)
            simp only [Act.put, List.setIfInBounds_toArray, List.set_cons_zero, List.set_cons_succ]
            refine' Reg.G.pure (i := 8) (v := _) rfl (by rfl) (by kernel_rfl) (by kernel_rfl) (by kernel_rfl) (fun _ _ _ h => h) ?hyr26b_8 ?rer26b_8
            case hyr26b_8 => exact fun w => by first | (go_simp; done) | (go_simp; with_reducible rfl)
            simp only [Act.put, List.setIfInBounds_toArray, List.set_cons_zero, List.set_cons_succ]
            refine' Reg.G.take (i := 9) (v := _) (F := (fun w => w.cell? ⟨rA.heap.size, 15, none⟩ = some (.slice (some ⟨rg, ro, none⟩) yaA.units.length cu))) rfl (by rfl) (by kernel_rfl) (by kernel_rfl) (by kernel_rfl) (fun _ _ _ h => h) (HD2.out) ?hyr26b_9 ?rer26b_9
            case hyr26b_9 => intro w hw; first | (go_simp; done) | (go_simp; with_reducible rfl)
            simp only [Act.put, List.setIfInBounds_toArray, List.set_cons_zero, List.set_cons_succ]
            refine' Reg.G.pure (i := 10) (v := _) rfl (by rfl) (by kernel_rfl) (by kernel_rfl) (by kernel_rfl) (fun _ _ _ h => h) ?hyr26b_10 ?rer26b_10
            case hyr26b_10 => exact fun w => by first | (go_simp; done) | (go_simp; with_reducible rfl)
            simp only [Act.put, List.setIfInBounds_toArray, List.set_cons_zero, List.set_cons_succ]
            refine' Reg.G.pure (i := 11) (v := _) rfl (by rfl) (by kernel_rfl) (by kernel_rfl) (by kernel_rfl) (fun _ _ _ h => h) ?hyr26b_11 ?rer26b_11
            case hyr26b_11 => exact fun w => by first | (go_simp; done) | (go_simp; with_reducible rfl)
            simp only [Act.put, List.setIfInBounds_toArray, List.set_cons_zero, List.set_cons_succ]
            refine' Reg.G.pure (i := 12) (v := _) rfl (by rfl) (by kernel_rfl) (by kernel_rfl) (by kernel_rfl) (fun _ _ _ h => h) ?hyr26b_12 ?rer26b_12
            case hyr26b_12 => exact fun w => by first | (go_simp; done) | (go_simp; with_reducible rfl)
            simp only [Act.put, List.setIfInBounds_toArray, List.set_cons_zero, List.set_cons_succ]
            refine' Reg.G.take (i := 13) (v := _) (F := (fun w => w.cell? ⟨rg, ro + ci' * 5 + 2, none⟩ = some (.int .i64 (unitOf (tabs tab0 s.items) x).base))) rfl (by rfl) (by kernel_rfl) (by kernel_rfl) (by kernel_rfl) (fun _ _ _ h => h) (HD1.out) ?hyr26b_13 ?rer26b_13
            case hyr26b_13 => intro w hw; first | (go_simp; done) | (go_simp; with_reducible rfl)
            simp only [Act.put, List.setIfInBounds_toArray, List.set_cons_zero, List.set_cons_succ]
            refine' Reg.G.pure (i := 14) (v := _) rfl (by rfl) (by kernel_rfl) (by kernel_rfl) (by kernel_rfl) (fun _ _ _ h => h) ?hyr26b_14 ?rer26b_14
            case hyr26b_14 => exact fun w => by first | (go_simp; done) | (go_simp; with_reducible rfl)
            simp only [Act.put, List.setIfInBounds_toArray, List.set_cons_zero, List.set_cons_succ]
            refine Reg.G.step (j := 15) (m := [false, false, false, false]) [13, 9, 7, 2] rfl (by kernel_rfl) rfl (by kernel_rfl) (fun K hK => ?_)
            -- Op.call { callee := Callee.value (func 18), args := #[t125, t131, t132, const (bool false)], argTypes := #[33, 3, 9, 4] }
            rw [if_pos (by rfl)]
            go_simp
            refine HCX.out.mono ?_
            rintro e wg ⟨rfl, rfl⟩
            refine hK.out _ _ trivial ?_
            clear hK K
            simp only [Act.put, List.setIfInBounds_toArray, List.set_cons_zero, List.set_cons_succ, Reg.Kept]
            refine' Reg.G.pure (i := 16) (v := _) rfl (by rfl) (by kernel_rfl) (by kernel_rfl) (by kernel_rfl) (fun _ _ _ h => h) ?hyr26b_16 ?rer26b_16
            case hyr26b_16 => exact fun w => by first | (go_simp; done) | (go_simp; with_reducible rfl)
            simp only [Act.put, List.setIfInBounds_toArray, List.set_cons_zero, List.set_cons_succ]
            refine' Reg.G.pure (i := 17) (v := _) rfl (by rfl) (by kernel_rfl) (by kernel_rfl) (by kernel_rfl) (fun _ _ _ h => h) ?hyr26b_17 ?rer26b_17
            case hyr26b_17 => exact fun w => by first | (go_simp; done) | (go_simp; with_reducible rfl)
            simp only [Act.put, List.setIfInBounds_toArray, List.set_cons_zero, List.set_cons_succ]
            refine' Reg.G.pure (i := 18) (v := _) rfl (by rfl) (by kernel_rfl) (by kernel_rfl) (by kernel_rfl) (fun _ _ _ h => h) ?hyr26b_18 ?rer26b_18
            case hyr26b_18 => exact fun w => by first | (go_simp; done) | (go_simp; with_reducible rfl)
            simp only [Act.put, List.setIfInBounds_toArray, List.set_cons_zero, List.set_cons_succ]
            refine' Reg.G.pure (i := 19) (v := _) rfl (by rfl) (by kernel_rfl) (by kernel_rfl) (by kernel_rfl) (fun _ _ _ h => h) ?hyr26b_19 ?rer26b_19
            case hyr26b_19 => exact fun w => by first | (go_simp; done) | (go_simp; with_reducible rfl)
            simp only [Act.put, List.setIfInBounds_toArray, List.set_cons_zero, List.set_cons_succ]
            refine' Reg.G.take (i := 20) (v := _) (F := (fun w => w.cell? ⟨rA.heap.size, 15, none⟩ = some (.slice (some ⟨rg, ro, none⟩) yaA.units.length cu))) rfl (by rfl) (by kernel_rfl) (by kernel_rfl) (by kernel_rfl) (fun _ _ _ h => h) (HD2.out) ?hyr26b_20 ?rer26b_20
            case hyr26b_20 => intro w hw; first | (go_simp; done) | (go_simp; with_reducible rfl)
            simp only [Act.put, List.setIfInBounds_toArray, List.set_cons_zero, List.set_cons_succ]
            refine' Reg.G.pure (i := 21) (v := _) rfl (by rfl) (by kernel_rfl) (by kernel_rfl) (by kernel_rfl) (fun _ _ _ h => h) ?hyr26b_21 ?rer26b_21
            case hyr26b_21 => exact fun w => by first | (go_simp; done) | (go_simp; with_reducible rfl)
            simp only [Act.put, List.setIfInBounds_toArray, List.set_cons_zero, List.set_cons_succ]
            refine' Reg.G.pure (i := 22) (v := _) rfl (by rfl) (by kernel_rfl) (by kernel_rfl) (by kernel_rfl) (fun _ _ _ h => h) ?hyr26b_22 ?rer26b_22
            case hyr26b_22 => exact fun w => by first | (go_simp; done) | (go_simp; with_reducible rfl)
            simp only [Act.put, List.setIfInBounds_toArray, List.set_cons_zero, List.set_cons_succ]
            refine' Reg.G.pure (i := 23) (v := _) rfl (by rfl) (by kernel_rfl) (by kernel_rfl) (by kernel_rfl) (fun _ _ _ h => h) ?hyr26b_23 ?rer26b_23
            case hyr26b_23 => exact fun w => by first | (go_simp; done) | (go_simp; with_reducible rfl)
            simp only [Act.put, List.setIfInBounds_toArray, List.set_cons_zero, List.set_cons_succ]
            refine' Reg.G.take (i := 24) (v := _) (F := (fun w => w.cell? ⟨rg, ro + ci' * 5 + 1, none⟩ = some (.int .i64 x.word))) rfl (by rfl) (by kernel_rfl) (by kernel_rfl) (by kernel_rfl) (fun _ _ _ h => h) (HD4.out) ?hyr26b_24 ?rer26b_24
            case hyr26b_24 => intro w hw; first | (go_simp; done) | (go_simp; with_reducible rfl)
            simp only [Act.put, List.setIfInBounds_toArray, List.set_cons_zero, List.set_cons_succ]
            refine' Reg.G.pure (i := 25) (v := _) rfl (by rfl) (by kernel_rfl) (by kernel_rfl) (by kernel_rfl) (fun _ _ _ h => h) ?hyr26b_25 ?rer26b_25
            case hyr26b_25 => exact fun w => by first | (go_simp; done) | (go_simp; with_reducible rfl)
            simp only [Act.put, List.setIfInBounds_toArray, List.set_cons_zero, List.set_cons_succ]
            refine' Reg.G.take (i := 26) (v := _) (F := (fun w => w.cell? ⟨wr.heap.size, 5, none⟩ = some (.int .i64 x.word))) rfl (by rfl) (by kernel_rfl) (by kernel_rfl) (by kernel_rfl) (fun _ _ _ h => h) (HD5.out) ?hyr26b_26 ?rer26b_26
            case hyr26b_26 => intro w hw; first | (go_simp; done) | (go_simp; with_reducible rfl)
            simp only [Act.put, List.setIfInBounds_toArray, List.set_cons_zero, List.set_cons_succ]
            refine' Reg.G.pure (i := 27) (v := _) rfl (by rfl) (by kernel_rfl) (by kernel_rfl) (by kernel_rfl) (fun _ _ _ h => h) ?hyr26b_27 ?rer26b_27
            case hyr26b_27 => exact fun w => by first | (go_simp; done) | (go_simp; with_reducible rfl)
            simp only [Act.put, List.setIfInBounds_toArray, List.set_cons_zero, List.set_cons_succ]
            refine' Reg.G.pure (i := 28) (v := _) rfl (by rfl) (by kernel_rfl) (by kernel_rfl) (by kernel_rfl) (fun _ _ _ h => h) ?hyr26b_28 ?rer26b_28
            case hyr26b_28 => exact fun w => by first | (go_simp; done) | (go_simp; with_reducible rfl)
            simp only [Act.put, List.setIfInBounds_toArray, List.set_cons_zero, List.set_cons_succ]
            refine Reg.G.done (by kernel_rfl) ?_
            go_wp2_with fail
            go_roundw
            case rel => exact HEND.out _ (Fr.refl _ w7).drew.drew
            case measure => simp [intOf]; omega
      · as_aux_lemma =>
          have HCL4 := Lib.hid (called_true (yaA.acts.map ActSym.name) v3 (ci' : Int) x.name false w7.drew (HR3.out.below (below_drewN HB57.out 1)) (.inr ⟨by simp, ci', rfl, by rw [HP4.out, List.map_map, ← HCI.out]; exact cnt_at _ s.items 4 k x HPK.out HGK.out⟩))
          have hw4 : IntKind.i64.wrap 3 = 3 := IntWalk.i64_in _ (by omega)
          refine Reg.G.start (by kernel_rfl) ?_
          refine' Reg.G.pure (i := 0) (v := _) rfl (by rfl) (by kernel_rfl) (by kernel_rfl) (by kernel_rfl) (fun _ _ _ h => h) ?hyr164_0 ?rer164_0
          case hyr164_0 => exact fun w => by first | (go_simp; done) | (go_simp; with_reducible rfl)
          simp only [Act.put, List.setIfInBounds_toArray, List.set_cons_zero, List.set_cons_succ]
          refine' Reg.G.pure (i := 1) (v := _) rfl (by rfl) (by kernel_rfl) (by kernel_rfl) (by kernel_rfl) (fun _ _ _ h => h) ?hyr164_1 ?rer164_1
          case hyr164_1 => exact fun w => by first | (go_simp; done) | (go_simp; with_reducible rfl)
          simp only [Act.put, List.setIfInBounds_toArray, List.set_cons_zero, List.set_cons_succ]
          refine' Reg.G.pure (i := 2) (v := _) rfl (by rfl) (by kernel_rfl) (by kernel_rfl) (by kernel_rfl) (fun _ _ _ h => h) ?hyr164_2 ?rer164_2
          case hyr164_2 => exact fun w => by first | (go_simp; done) | (go_simp; with_reducible rfl)
          simp only [Act.put, List.setIfInBounds_toArray, List.set_cons_zero, List.set_cons_succ]
          refine' Reg.G.pure (i := 3) (v := _) rfl (by rfl) (by kernel_rfl) (by kernel_rfl) (by kernel_rfl) (fun _ _ _ h => h) ?hyr164_3 ?rer164_3
          case hyr164_3 => exact fun w => by first | (go_simp; done) | (go_simp; with_reducible rfl)
          simp only [Act.put, List.setIfInBounds_toArray, List.set_cons_zero, List.set_cons_succ]
          refine' Reg.G.pure (i := 4) (v := _) rfl (by rfl) (by kernel_rfl) (by kernel_rfl) (by kernel_rfl) (fun _ _ _ h => h) ?hyr164_4 ?rer164_4
          case hyr164_4 => exact fun w => by first | (go_simp; done) | (go_simp; with_reducible rfl)
          simp only [Act.put, List.setIfInBounds_toArray, List.set_cons_zero, List.set_cons_succ]
          refine' Reg.G.pure (i := 5) (v := _) rfl (by rfl) (by kernel_rfl) (by kernel_rfl) (by kernel_rfl) (fun _ _ _ h => h) ?hyr164_5 ?rer164_5
          case hyr164_5 => exact fun w => by first | (go_simp; done) | (go_simp; with_reducible rfl)
          simp only [Act.put, List.setIfInBounds_toArray, List.set_cons_zero, List.set_cons_succ]
          refine' Reg.G.take (i := 6) (v := _) (F := (fun w => w.cell? ⟨tb, 3, none⟩ = some v3)) rfl (by rfl) (by kernel_rfl) (by kernel_rfl) (by kernel_rfl) (fun _ _ _ h => h) (HT3.out) ?hyr164_6 ?rer164_6
          case hyr164_6 => intro w hw; first | (go_simp; done) | (go_simp; with_reducible rfl)
          simp only [Act.put, List.setIfInBounds_toArray, List.set_cons_zero, List.set_cons_succ]
          refine' Reg.G.pure (i := 7) (v := _) rfl (by rfl) (by kernel_rfl) (by kernel_rfl) (by kernel_rfl) (fun _ _ _ h => h) ?hyr164_7 ?rer164_7
          case hyr164_7 => exact fun w => by first | (go_simp; done) | (go_simp; with_reducible rfl)
          simp only [Act.put, List.setIfInBounds_toArray, List.set_cons_zero, List.set_cons_succ]
          refine' Reg.G.pure (i := 8) (v := _) rfl (by rfl) (by kernel_rfl) (by kernel_rfl) (by kernel_rfl) (fun _ _ _ h => h) ?hyr164_8 ?rer164_8
          case hyr164_8 => exact fun w => by first | (go_simp; done) | (go_simp; with_reducible rfl)
          simp only [Act.put, List.setIfInBounds_toArray, List.set_cons_zero, List.set_cons_succ]
          refine' Reg.G.take (i := 9) (v := _) (F := (fun w => w.cell? ⟨wr.heap.size, 1, none⟩ = some (.string ⟨x.name.toArray⟩))) rfl (by rfl) (by kernel_rfl) (by kernel_rfl) (by kernel_rfl) (fun _ _ _ h => h) (HXN.out) ?hyr164_9 ?rer164_9
          case hyr164_9 => intro w hw; first | (go_simp; done) | (go_simp; with_reducible rfl)
          simp only [Act.put, List.setIfInBounds_toArray, List.set_cons_zero, List.set_cons_succ]
          refine Reg.G.step (j := 10) (m := [false, false]) [9, 6] rfl (by kernel_rfl) rfl (by kernel_rfl) (fun K hK => ?_)
          -- Op.call { callee := Callee.value (func 18), args := #[t81, t82, t84, const (bool false)], argTypes := #[33, 3, 9, 4] }
          rw [if_pos (by rfl)]
          go_simp
          refine HCL4.out.mono ?_
          rintro e wg ⟨rfl, rfl⟩
          refine hK.out _ _ trivial ?_
          clear hK K
          simp only [Act.put, List.setIfInBounds_toArray, List.set_cons_zero, List.set_cons_succ, Reg.Kept]
          refine' Reg.G.pure (i := 11) (v := _) rfl (by rfl) (by kernel_rfl) (by kernel_rfl) (by kernel_rfl) (fun _ _ _ h => h) ?hyr164_11 ?rer164_11
          case hyr164_11 => exact fun w => by first | (go_simp; done) | (go_simp; with_reducible rfl)
          simp only [Act.put, List.setIfInBounds_toArray, List.set_cons_zero, List.set_cons_succ]
          refine' Reg.G.pure (i := 12) (v := _) rfl (by rfl) (by kernel_rfl) (by kernel_rfl) (by kernel_rfl) (fun _ _ _ h => h) ?hyr164_12 ?rer164_12
          case hyr164_12 => exact fun w => by first | (go_simp; done) | (go_simp; with_reducible rfl)
          simp only [Act.put, List.setIfInBounds_toArray, List.set_cons_zero, List.set_cons_succ]
          refine Reg.G.done (by kernel_rfl) ?_
          have hrow := HYU.out.act.below HB17.out
          rw [EA.out] at hrow
          have hx := cnt_at (fun x => (⟨x.name, x.pos, actOf (tabs tab0 s.items) x⟩ : ActSym)) s.items 4 k x HPK.out HGK.out
          rw [← HP4.out, HCI.out] at hx
          have hlen := (List.getElem?_eq_some_iff.1 hx).1
          obtain ⟨rg, ro, _, hda, hgl, _, _, hat⟩ := hrow.at (by intro e; rw [List.map_eq_nil_iff] at e; rw [e] at hlen; simp at hlen)
          have hAr : Aa = some ⟨rg, ro, none⟩ := by injection hda
          subst hAr
          have HAF := Lib.hid (actf_of ((HFIN.out x (List.mem_of_getElem? HPK.out)).act HGK.out))
          have hat2 := hat ci' _ (by rw [List.getElem?_map, hx]; rfl)
          obtain ⟨t, ht⟩ : ∃ t, actOf (tabs tab0 s.items) x = t := ⟨_, rfl⟩
          rw [ht] at HAF hat2
          have HAC : Hid (At w7 rg (ro + ci' * 9 + 2) (actv t)) := fun j v hj => by
            have h := hat2 (2 + j) v (by show ([sv x.name, nv x.pos] ++ actv t)[2 + j]? = some v; rw [List.getElem?_append_right (by simp)]; simpa using hj)
            rw [Nat.add_assoc]; exact h
          have HD6 : Hid (w7.cell? ⟨rg, ro + ci' * 9 + 1, none⟩ = some (.int .i64 x.pos)) := hat2 1 _ rfl
          have hd2 : w7.cell? ⟨rA.heap.size, 16, none⟩ = some (.slice (some ⟨rg, ro, none⟩) yaA.acts.length ca) := (cell_of_blk HQ7.out 16).trans (congrArg some EA.out)
          have HD2 := Lib.hid hd2
          have c2 : (ci' : Int) < (yaA.acts.length : Int) := by omega
          have c3 : ¬ ((yaA.acts.length : Int) ≤ (ci' : Int)) := by omega
          clear hrow hx hda hgl hat hat2 hlen ht
          go_upto_region 31 with fail
          iterate 16 go_step
          refine wpList_load_mid rfl 63 _ rfl rg (ro + ci' * 9 + 2) rfl (actv t) _ HAC.out Tryd.underlying63 rfl (info_actv t) ?_
          simp only [Act.put, List.setIfInBounds_toArray, List.set_cons_zero, List.set_cons_succ]
          iterate 3 go_step
          refine wpList_store_row rfl 63 _ _ rfl w7.heap.size (actv t).toArray rfl rfl 63 _ (blk_newn rfl) (info_actva t) rfl (one_actv t) ?_
          simp only [Act.put, List.setIfInBounds_toArray, List.set_cons_zero, List.set_cons_succ]
          obtain ⟨w8, hw8⟩ : ∃ w8, ((w7.alloc (.cells #[.int .i64 0, .int .i64 0, .int .i64 0, .int .i64 0, .int .i64 0, .int .i64 0, .int .i64 0] 63)).drew).setRow w7.heap.size (actv t).toArray = w8 := ⟨_, rfl⟩
          rw [hw8]
          have HF8 : Hid (Fr (fun _ => False) w7 w8) := by rw [← hw8]; exact (((Fr.refl (fun _ => False) w7).alloc _).drew).setRow (.inr (Nat.le_refl _)) _
          have HAB : Hid (w8.heap[w7.heap.size]? = some (.cells (actv t).toArray 63 (0, 0))) := by
            have h0 : ((w7.alloc (.cells #[.int .i64 0, .int .i64 0, .int .i64 0, .int .i64 0, .int .i64 0, .int .i64 0, .int .i64 0] 63)).drew).heap[w7.heap.size]? = some (.cells #[.int .i64 0, .int .i64 0, .int .i64 0, .int .i64 0, .int .i64 0, .int .i64 0, .int .i64 0] 63 (0, 0)) := blk_newn rfl
            rw [← hw8]; exact blk_row h0 _
          have HX8 := Lib.hid (HF8.out.blk HX7.out (fun h => h))
          have HT8 := Lib.hid (HF8.out.blk HT7.out (fun h => h))
          have HB58 : Hid (Below w5.heap.size w5 w8) := HB57.out.trans (HF8.out.below HB57.out.size (fun _ h => h.elim))
          have HD28 : Hid (w8.cell? ⟨rA.heap.size, 16, none⟩ = some (.slice (some ⟨rg, ro, none⟩) yaA.acts.length ca)) := cell_of_blk (HF8.out.blk HQ7.out (fun h => h)) 16 |>.trans (congrArg some EA.out)
          have HD68 : Hid (w8.cell? ⟨rg, ro + ci' * 9 + 1, none⟩ = some (.int .i64 x.pos)) := (World.cell?_of_block (a := ⟨rg, _, none⟩) (HF8.out.block rg (lt_of_cell HD6.out) (fun h => h))).trans HD6.out
          clear hw8 hd2
          have HK0 : Hid (w8.cell? ⟨w7.heap.size, 0, none⟩ = some (.int .i64 x.word)) := by rw [← HAF.out.kind]; exact cell_of_blk HAB.out 0
          have HK1 : Hid (w8.cell? ⟨w7.heap.size, 1, none⟩ = some (.int .i64 t.role)) := cell_of_blk HAB.out 1
          have HC1 := Lib.hid (called_true (tabs tab0 s.items 2) v1 t.role x.of_ true w8.drew (by rw [← HE2.out]; exact HR1.out.below (below_drewN HB58.out 1)) HAF.out.role)
          go_upto_region 32 with fail
          refine Reg.G.start (by kernel_rfl) ?_
          refine' Reg.G.pure (i := 0) (v := _) rfl (by rfl) (by kernel_rfl) (by kernel_rfl) (by kernel_rfl) (fun _ _ _ h => h) ?hyr32_0 ?rer32_0
          case hyr32_0 => exact fun w => by first | (go_simp; done) | (go_simp; with_reducible rfl)
          simp only [Act.put, List.setIfInBounds_toArray, List.set_cons_zero, List.set_cons_succ]
          refine' Reg.G.take (i := 1) (v := _) (F := (fun w => w.cell? ⟨tb, 1, none⟩ = some (v1))) rfl (by rfl) (by kernel_rfl) (by kernel_rfl) (by kernel_rfl) (fun _ _ _ h => h) (cell_of_blk HT8.out 1) ?hyr32_1 ?rer32_1
          case hyr32_1 => intro w hw; first | (go_simp; done) | (go_simp; with_reducible rfl)
          simp only [Act.put, List.setIfInBounds_toArray, List.set_cons_zero, List.set_cons_succ]
          refine' Reg.G.pure (i := 2) (v := _) rfl (by rfl) (by kernel_rfl) (by kernel_rfl) (by kernel_rfl) (fun _ _ _ h => h) ?hyr32_2 ?rer32_2
          case hyr32_2 => exact fun w => by first | (go_simp; done) | (go_simp; with_reducible rfl)
          simp only [Act.put, List.setIfInBounds_toArray, List.set_cons_zero, List.set_cons_succ]
          refine' Reg.G.take (i := 3) (v := _) (F := (fun w => w.cell? ⟨w7.heap.size, 1, none⟩ = some (.int .i64 t.role))) rfl (by rfl) (by kernel_rfl) (by kernel_rfl) (by kernel_rfl) (fun _ _ _ h => h) (HK1.out) ?hyr32_3 ?rer32_3
          case hyr32_3 => intro w hw; first | (go_simp; done) | (go_simp; with_reducible rfl)
          simp only [Act.put, List.setIfInBounds_toArray, List.set_cons_zero, List.set_cons_succ]
          refine' Reg.G.pure (i := 4) (v := _) rfl (by rfl) (by kernel_rfl) (by kernel_rfl) (by kernel_rfl) (fun _ _ _ h => h) ?hyr32_4 ?rer32_4
          case hyr32_4 => exact fun w => by first | (go_simp; done) | (go_simp; with_reducible rfl)
          simp only [Act.put, List.setIfInBounds_toArray, List.set_cons_zero, List.set_cons_succ]
          refine' Reg.G.take (i := 5) (v := _) (F := (fun w => w.cell? ⟨wr.heap.size, 3, none⟩ = some (.string ⟨x.of_.toArray⟩))) rfl (by rfl) (by kernel_rfl) (by kernel_rfl) (by kernel_rfl) (fun _ _ _ h => h) (cell_of_blk HX8.out 3) ?hyr32_5 ?rer32_5
          case hyr32_5 => intro w hw; first | (go_simp; done) | (go_simp; with_reducible rfl)
          simp only [Act.put, List.setIfInBounds_toArray, List.set_cons_zero, List.set_cons_succ]
          refine Reg.G.step (j := 6) (m := [false, false, false]) [5, 3, 1] rfl (by kernel_rfl) rfl (by kernel_rfl) (fun K hK => ?_)
          -- Op.call { callee := Callee.value (func 18), args := #[t161, t163, t165, const (bool true)], argTypes := #[33, 3, 9, 4] }
          rw [if_pos (by rfl)]
          go_simp
          refine HC1.out.mono ?_
          rintro e wg ⟨rfl, rfl⟩
          refine hK.out _ _ trivial ?_
          clear hK K
          simp only [Act.put, List.setIfInBounds_toArray, List.set_cons_zero, List.set_cons_succ, Reg.Kept]
          refine' Reg.G.pure (i := 7) (v := _) rfl (by rfl) (by kernel_rfl) (by kernel_rfl) (by kernel_rfl) (fun _ _ _ h => h) ?hyr32_7 ?rer32_7
          case hyr32_7 => exact fun w => by first | (go_simp; done) | (go_simp; with_reducible rfl)
          simp only [Act.put, List.setIfInBounds_toArray, List.set_cons_zero, List.set_cons_succ]
          refine' Reg.G.pure (i := 8) (v := _) rfl (by rfl) (by kernel_rfl) (by kernel_rfl) (by kernel_rfl) (fun _ _ _ h => h) ?hyr32_8 ?rer32_8
          case hyr32_8 => exact fun w => by first | (go_simp; done) | (go_simp; with_reducible rfl)
          simp only [Act.put, List.setIfInBounds_toArray, List.set_cons_zero, List.set_cons_succ]
          refine' Reg.G.pure (i := 9) (v := _) rfl (by rfl) (by kernel_rfl) (by kernel_rfl) (by kernel_rfl) (fun _ _ _ h => h) ?hyr32_9 ?rer32_9
          case hyr32_9 => exact fun w => by first | (go_simp; done) | (go_simp; with_reducible rfl)
          simp only [Act.put, List.setIfInBounds_toArray, List.set_cons_zero, List.set_cons_succ]
          refine' Reg.G.take (i := 10) (v := _) (F := (fun w => w.cell? ⟨w7.heap.size, 0, none⟩ = some (.int .i64 x.word))) rfl (by rfl) (by kernel_rfl) (by kernel_rfl) (by kernel_rfl) (fun _ _ _ h => h) (HK0.out) ?hyr32_10 ?rer32_10
          case hyr32_10 => intro w hw; first | (go_simp; done) | (go_simp; with_reducible rfl)
          simp only [Act.put, List.setIfInBounds_toArray, List.set_cons_zero, List.set_cons_succ]
          refine' Reg.G.pure (i := 11) (v := _) rfl (by rfl) (by kernel_rfl) (by kernel_rfl) (by kernel_rfl) (fun _ _ _ h => h) ?hyr32_11 ?rer32_11
          case hyr32_11 => exact fun w => by first | (go_simp; done) | (go_simp; with_reducible rfl)
          simp only [Act.put, List.setIfInBounds_toArray, List.set_cons_zero, List.set_cons_succ]
          refine' Reg.G.take (i := 12) (v := _) (F := (fun w => w.cell? ⟨wr.heap.size, 5, none⟩ = some (.int .i64 x.word))) rfl (by rfl) (by kernel_rfl) (by kernel_rfl) (by kernel_rfl) (fun _ _ _ h => h) (cell_of_blk HX8.out 5) ?hyr32_12 ?rer32_12
          case hyr32_12 => intro w hw; first | (go_simp; done) | (go_simp; with_reducible rfl)
          simp only [Act.put, List.setIfInBounds_toArray, List.set_cons_zero, List.set_cons_succ]
          refine' Reg.G.pure (i := 13) (v := _) rfl (by rfl) (by kernel_rfl) (by kernel_rfl) (by kernel_rfl) (fun _ _ _ h => h) ?hyr32_13 ?rer32_13
          case hyr32_13 => exact fun w => by first | (go_simp; done) | (go_simp; with_reducible rfl)
          simp only [Act.put, List.setIfInBounds_toArray, List.set_cons_zero, List.set_cons_succ]
          refine' Reg.G.pure (i := 14) (v := _) rfl (by rfl) (by kernel_rfl) (by kernel_rfl) (by kernel_rfl) (fun _ _ _ h => h) ?hyr32_14 ?rer32_14
          case hyr32_14 => exact fun w => by first | (go_simp; done) | (go_simp; with_reducible rfl)
          simp only [Act.put, List.setIfInBounds_toArray, List.set_cons_zero, List.set_cons_succ]
          refine' Reg.G.pure (i := 15) (v := _) rfl (by rfl) (by kernel_rfl) (by kernel_rfl) (by kernel_rfl) (fun _ _ _ h => h) ?hyr32_15 ?rer32_15
          case hyr32_15 => exact fun w => by first | (go_simp; done) | (go_simp; with_reducible rfl)
          simp only [Act.put, List.setIfInBounds_toArray, List.set_cons_zero, List.set_cons_succ]
          refine' Reg.G.pure (i := 16) (v := _) rfl (by rfl) (by kernel_rfl) (by kernel_rfl) (by kernel_rfl) (fun _ _ _ h => h) ?hyr32_16 ?rer32_16
          case hyr32_16 => exact fun w => by first | (go_simp; done) | (go_simp; with_reducible rfl)
          simp only [Act.put, List.setIfInBounds_toArray, List.set_cons_zero, List.set_cons_succ]
          refine' Reg.G.take (i := 17) (v := _) (F := (fun w => w.cell? ⟨rA.heap.size, 16, none⟩ = some (.slice (some ⟨rg, ro, none⟩) yaA.acts.length ca))) rfl (by rfl) (by kernel_rfl) (by kernel_rfl) (by kernel_rfl) (fun _ _ _ h => h) (HD28.out) ?hyr32_17 ?rer32_17
          case hyr32_17 => intro w hw; first | (go_simp; done) | (go_simp; with_reducible rfl)
          simp only [Act.put, List.setIfInBounds_toArray, List.set_cons_zero, List.set_cons_succ]
          refine' Reg.G.pure (i := 18) (v := _) rfl (by rfl) (by kernel_rfl) (by kernel_rfl) (by kernel_rfl) (fun _ _ _ h => h) ?hyr32_18 ?rer32_18
          case hyr32_18 => exact fun w => by first | (go_simp; done) | (go_simp; with_reducible rfl)
          simp only [Act.put, List.setIfInBounds_toArray, List.set_cons_zero, List.set_cons_succ]
          refine' Reg.G.pure (i := 19) (v := _) rfl (by rfl) (by kernel_rfl) (by kernel_rfl) (by kernel_rfl) (fun _ _ _ h => h) ?hyr32_19 ?rer32_19
          case hyr32_19 => exact fun w => by first | (go_simp; done) | (go_simp; with_reducible rfl)
          simp only [Act.put, List.setIfInBounds_toArray, List.set_cons_zero, List.set_cons_succ]
          refine' Reg.G.pure (i := 20) (v := _) rfl (by rfl) (by kernel_rfl) (by kernel_rfl) (by kernel_rfl) (fun _ _ _ h => h) ?hyr32_20 ?rer32_20
          case hyr32_20 => exact fun w => by first | (go_simp; done) | (go_simp; with_reducible rfl)
          simp only [Act.put, List.setIfInBounds_toArray, List.set_cons_zero, List.set_cons_succ]
          refine' Reg.G.take (i := 21) (v := _) (F := (fun w => w.cell? ⟨rg, ro + ci' * 9 + 1, none⟩ = some (.int .i64 x.pos))) rfl (by rfl) (by kernel_rfl) (by kernel_rfl) (by kernel_rfl) (fun _ _ _ h => h) (HD68.out) ?hyr32_21 ?rer32_21
          case hyr32_21 => intro w hw; first | (go_simp; done) | (go_simp; with_reducible rfl)
          simp only [Act.put, List.setIfInBounds_toArray, List.set_cons_zero, List.set_cons_succ]
          refine' Reg.G.pure (i := 22) (v := _) rfl (by rfl) (by kernel_rfl) (by kernel_rfl) (by kernel_rfl) (fun _ _ _ h => h) ?hyr32_22 ?rer32_22
          case hyr32_22 => exact fun w => by first | (go_simp; done) | (go_simp; with_reducible rfl)
          simp only [Act.put, List.setIfInBounds_toArray, List.set_cons_zero, List.set_cons_succ]
          refine' Reg.G.take (i := 23) (v := _) (F := (fun w => w.cell? ⟨wr.heap.size, 2, none⟩ = some (.int .i64 x.pos))) rfl (by rfl) (by kernel_rfl) (by kernel_rfl) (by kernel_rfl) (fun _ _ _ h => h) (cell_of_blk HX8.out 2) ?hyr32_23 ?rer32_23
          case hyr32_23 => intro w hw; first | (go_simp; done) | (go_simp; with_reducible rfl)
          simp only [Act.put, List.setIfInBounds_toArray, List.set_cons_zero, List.set_cons_succ]
          refine' Reg.G.pure (i := 24) (v := _) rfl (by rfl) (by kernel_rfl) (by kernel_rfl) (by kernel_rfl) (fun _ _ _ h => h) ?hyr32_24 ?rer32_24
          case hyr32_24 => exact fun w => by first | (go_simp; done) | (go_simp; with_reducible rfl)
          simp only [Act.put, List.setIfInBounds_toArray, List.set_cons_zero, List.set_cons_succ]
          refine' Reg.G.pure (i := 25) (v := _) rfl (by rfl) (by kernel_rfl) (by kernel_rfl) (by kernel_rfl) (fun _ _ _ h => h) ?hyr32_25 ?rer32_25
          case hyr32_25 => exact fun w => by first | (go_simp; done) | (go_simp; with_reducible rfl)
          simp only [Act.put, List.setIfInBounds_toArray, List.set_cons_zero, List.set_cons_succ]
          refine Reg.G.done (by kernel_rfl) ?_
          have k0 : w8.cell? ⟨w7.heap.size, 0, none⟩ = some (.int .i64 x.word) := HK0.out
          have k2 : w8.cell? ⟨w7.heap.size, 2, none⟩ = some (.int .i64 t.give) := cell_of_blk HAB.out 2
          have k3 : w8.cell? ⟨w7.heap.size, 3, none⟩ = some (.int .i64 t.to_) := cell_of_blk HAB.out 3
          have k4 : w8.cell? ⟨w7.heap.size, 4, none⟩ = some (.int .i64 t.unit) := cell_of_blk HAB.out 4
          have n0 : w8.cell? ⟨tb, 0, none⟩ = some v0 := cell_of_blk HT8.out 0
          have n1 : w8.cell? ⟨tb, 1, none⟩ = some v1 := cell_of_blk HT8.out 1
          have n2 : w8.cell? ⟨tb, 2, none⟩ = some v2 := cell_of_blk HT8.out 2
          have x21 : w8.cell? ⟨wr.heap.size, 21, none⟩ = some (.string ⟨x.give.toArray⟩) := cell_of_blk HX8.out 21
          have x22 : w8.cell? ⟨wr.heap.size, 22, none⟩ = some (.string ⟨x.to_.toArray⟩) := cell_of_blk HX8.out 22
          have x18 : w8.cell? ⟨wr.heap.size, 18, none⟩ = some (.string ⟨x.unit.toArray⟩) := cell_of_blk HX8.out 18
          have HE1 : Hid (yaA.parties = tabs tab0 s.items 1) := by show _ = _; rw [HP1.out, HTNM.out 1 (by omega)]
          have HFE : Hid (Fr (fun _ => False) w7 w8.drew) := HF8.out.drew
          by_cases hgv : gives x = true
          · obtain ⟨a1, a2, a3⟩ := HAF.out.g1 hgv
            rw [a3] at k4
            have HCA := Lib.hid (called_true (tabs tab0 s.items 2) v1 t.give x.give false w8.drew (by rw [← HE2.out]; exact HR1.out.below (below_drewN HB58.out 1)) a1)
            have HCB := Lib.hid (called_true (tabs tab0 s.items 1) v0 t.to_ x.to_ false w8.drew (by rw [← HE1.out]; exact HR0.out.below (below_drewN HB58.out 1)) a2)
            have hwd : x.word = 2 ∨ x.word = 3 := by simpa [gives] using hgv
            clear a1 a2 a3 hgv
            rcases hwd with h | h
            all_goals (
              rw [h] at k0
              clear h
              go_wp2_with fail
              refine HCA.out.mono ?_
              rintro e wg ⟨rfl, rfl⟩
              go_wp2_with fail
              refine HCB.out.mono ?_
              rintro e wg ⟨rfl, rfl⟩
              go_wp2_with fail
              go_roundw
              case rel => exact HEND.out _ HFE.out
              case measure => simp [intOf]; omega)
          · have hgv' : gives x = false := by simpa using hgv
            obtain ⟨a1, a2⟩ := HAF.out.g0 hgv'
            have HCA := Lib.hid (called_true (tabs tab0 s.items 2) v1 t.to_ x.to_ true w8.drew (by rw [← HE2.out]; exact HR1.out.below (below_drewN HB58.out 1)) a1)
            have HCB := Lib.hid (called_true (tabs tab0 s.items 3) v2 t.unit x.unit true w8.drew (by rw [← HE3.out]; exact HR2.out.below (below_drewN HB58.out 1)) a2)
            have hw2 : ¬ x.word = 2 ∧ ¬ x.word = 3 := by simpa [gives] using hgv'
            have b2 : (x.word == 2) = false := by simpa using hw2.1
            have b3 : (x.word == 3) = false := by simpa using hw2.2
            clear a1 a2 hgv hgv' hw2
            go_wp2_with fail
            refine HCA.out.mono ?_
            rintro e wg ⟨rfl, rfl⟩
            go_wp2_with fail
            refine HCB.out.mono ?_
            rintro e wg ⟨rfl, rfl⟩
            go_wp2_with fail
            go_roundw
            case rel => exact HEND.out _ HFE.out
            case measure => simp [intOf]; omega
      · as_aux_lemma =>
          have HCL5 := Lib.hid (called_true (yaA.clauses.map ClauseSym.name) v4 (ci' : Int) x.name false w7.drew (HR4.out.below (below_drewN HB57.out 1)) (.inr ⟨by simp, ci', rfl, by rw [HP5.out, List.map_map, ← HCI.out]; exact cnt_at _ s.items 5 k x HPK.out HGK.out⟩))
          have hw5 : IntKind.i64.wrap 4 = 4 := IntWalk.i64_in _ (by omega)
          refine Reg.G.start (by kernel_rfl) ?_
          refine' Reg.G.pure (i := 0) (v := _) rfl (by rfl) (by kernel_rfl) (by kernel_rfl) (by kernel_rfl) (fun _ _ _ h => h) ?hyr165_0 ?rer165_0
          case hyr165_0 => exact fun w => by first | (go_simp; done) | (go_simp; with_reducible rfl)
          simp only [Act.put, List.setIfInBounds_toArray, List.set_cons_zero, List.set_cons_succ]
          refine' Reg.G.pure (i := 1) (v := _) rfl (by rfl) (by kernel_rfl) (by kernel_rfl) (by kernel_rfl) (fun _ _ _ h => h) ?hyr165_1 ?rer165_1
          case hyr165_1 => exact fun w => by first | (go_simp; done) | (go_simp; with_reducible rfl)
          simp only [Act.put, List.setIfInBounds_toArray, List.set_cons_zero, List.set_cons_succ]
          refine' Reg.G.pure (i := 2) (v := _) rfl (by rfl) (by kernel_rfl) (by kernel_rfl) (by kernel_rfl) (fun _ _ _ h => h) ?hyr165_2 ?rer165_2
          case hyr165_2 => exact fun w => by first | (go_simp; done) | (go_simp; with_reducible rfl)
          simp only [Act.put, List.setIfInBounds_toArray, List.set_cons_zero, List.set_cons_succ]
          refine' Reg.G.pure (i := 3) (v := _) rfl (by rfl) (by kernel_rfl) (by kernel_rfl) (by kernel_rfl) (fun _ _ _ h => h) ?hyr165_3 ?rer165_3
          case hyr165_3 => exact fun w => by first | (go_simp; done) | (go_simp; with_reducible rfl)
          simp only [Act.put, List.setIfInBounds_toArray, List.set_cons_zero, List.set_cons_succ]
          refine' Reg.G.pure (i := 4) (v := _) rfl (by rfl) (by kernel_rfl) (by kernel_rfl) (by kernel_rfl) (fun _ _ _ h => h) ?hyr165_4 ?rer165_4
          case hyr165_4 => exact fun w => by first | (go_simp; done) | (go_simp; with_reducible rfl)
          simp only [Act.put, List.setIfInBounds_toArray, List.set_cons_zero, List.set_cons_succ]
          refine' Reg.G.pure (i := 5) (v := _) rfl (by rfl) (by kernel_rfl) (by kernel_rfl) (by kernel_rfl) (fun _ _ _ h => h) ?hyr165_5 ?rer165_5
          case hyr165_5 => exact fun w => by first | (go_simp; done) | (go_simp; with_reducible rfl)
          simp only [Act.put, List.setIfInBounds_toArray, List.set_cons_zero, List.set_cons_succ]
          refine' Reg.G.take (i := 6) (v := _) (F := (fun w => w.cell? ⟨tb, 4, none⟩ = some v4)) rfl (by rfl) (by kernel_rfl) (by kernel_rfl) (by kernel_rfl) (fun _ _ _ h => h) (HT4.out) ?hyr165_6 ?rer165_6
          case hyr165_6 => intro w hw; first | (go_simp; done) | (go_simp; with_reducible rfl)
          simp only [Act.put, List.setIfInBounds_toArray, List.set_cons_zero, List.set_cons_succ]
          refine' Reg.G.pure (i := 7) (v := _) rfl (by rfl) (by kernel_rfl) (by kernel_rfl) (by kernel_rfl) (fun _ _ _ h => h) ?hyr165_7 ?rer165_7
          case hyr165_7 => exact fun w => by first | (go_simp; done) | (go_simp; with_reducible rfl)
          simp only [Act.put, List.setIfInBounds_toArray, List.set_cons_zero, List.set_cons_succ]
          refine' Reg.G.pure (i := 8) (v := _) rfl (by rfl) (by kernel_rfl) (by kernel_rfl) (by kernel_rfl) (fun _ _ _ h => h) ?hyr165_8 ?rer165_8
          case hyr165_8 => exact fun w => by first | (go_simp; done) | (go_simp; with_reducible rfl)
          simp only [Act.put, List.setIfInBounds_toArray, List.set_cons_zero, List.set_cons_succ]
          refine' Reg.G.take (i := 9) (v := _) (F := (fun w => w.cell? ⟨wr.heap.size, 1, none⟩ = some (.string ⟨x.name.toArray⟩))) rfl (by rfl) (by kernel_rfl) (by kernel_rfl) (by kernel_rfl) (fun _ _ _ h => h) (HXN.out) ?hyr165_9 ?rer165_9
          case hyr165_9 => intro w hw; first | (go_simp; done) | (go_simp; with_reducible rfl)
          simp only [Act.put, List.setIfInBounds_toArray, List.set_cons_zero, List.set_cons_succ]
          refine Reg.G.step (j := 10) (m := [false, false]) [9, 6] rfl (by kernel_rfl) rfl (by kernel_rfl) (fun K hK => ?_)
          -- Op.call { callee := Callee.value (func 18), args := #[t81, t82, t84, const (bool false)], argTypes := #[33, 3, 9, 4] }
          rw [if_pos (by rfl)]
          go_simp
          refine HCL5.out.mono ?_
          rintro e wg ⟨rfl, rfl⟩
          refine hK.out _ _ trivial ?_
          clear hK K
          simp only [Act.put, List.setIfInBounds_toArray, List.set_cons_zero, List.set_cons_succ, Reg.Kept]
          refine' Reg.G.pure (i := 11) (v := _) rfl (by rfl) (by kernel_rfl) (by kernel_rfl) (by kernel_rfl) (fun _ _ _ h => h) ?hyr165_11 ?rer165_11
          case hyr165_11 => exact fun w => by first | (go_simp; done) | (go_simp; with_reducible rfl)
          simp only [Act.put, List.setIfInBounds_toArray, List.set_cons_zero, List.set_cons_succ]
          refine' Reg.G.pure (i := 12) (v := _) rfl (by rfl) (by kernel_rfl) (by kernel_rfl) (by kernel_rfl) (fun _ _ _ h => h) ?hyr165_12 ?rer165_12
          case hyr165_12 => exact fun w => by first | (go_simp; done) | (go_simp; with_reducible rfl)
          simp only [Act.put, List.setIfInBounds_toArray, List.set_cons_zero, List.set_cons_succ]
          refine Reg.G.done (by kernel_rfl) ?_
          have hrow := HYU.out.cla.below HB17.out
          rw [EC.out] at hrow
          have hx := cnt_at (fun x => (⟨x.name, x.pos, x.within, x.grace, clauseOf (tabs tab0 s.items) x⟩ : ClauseSym)) s.items 5 k x HPK.out HGK.out
          rw [← HP5.out, ← HYU.out.cls, HCI.out, List.getElem?_map] at hx
          obtain ⟨pc, hpc, hpe⟩ := Option.map_eq_some_iff.1 hx
          obtain ⟨cs, st⟩ := pc
          dsimp only at hpe
          subst hpe
          have hlen := (List.getElem?_eq_some_iff.1 hpc).1
          have hlen2 : ci' < yaA.clauses.length := by rw [← HYU.out.cls, List.length_map]; exact hlen
          obtain ⟨rg, ro, _, hda, hgl, _, _, hat⟩ := hrow.at (by intro e; rw [List.map_eq_nil_iff] at e; rw [e] at hlen; simp at hlen)
          have hAr : Ac = some ⟨rg, ro, none⟩ := by injection hda
          subst hAr
          have HD1 : Hid (At w7 rg (ro + ci' * 24) (csymv ⟨x.name, x.pos, x.within, x.grace, clauseOf (tabs tab0 s.items) x⟩ st)) := hat ci' _ (by rw [List.getElem?_map, hpc]; rfl)
          have HD2 : Hid (w7.cell? ⟨rA.heap.size, 17, none⟩ = some (.slice (some ⟨rg, ro, none⟩) yaA.clauses.length cc)) := (cell_of_blk HQ7.out 17).trans (congrArg some EC.out)
          have hst := HYU.out.cnd _ (List.mem_of_getElem? hpc)
          have HCX := Lib.hid (clause_true (tabs tab0 s.items) x (sc, sd, sn, sx) (clauseOf (tabs tab0 s.items) x) st v0 v1 v2 v3 v4 w7.drew.drew (clf_of ((HFIN.out x (List.mem_of_getElem? HPK.out)).clause HGK.out)) (by rw [← HE2.out]; exact HR1.out.below (below_drewN (below_drewN HB57.out 1) 1)) (by rw [← HE3.out]; exact HR2.out.below (below_drewN (below_drewN HB57.out 1) 1)) (by rw [← HE4.out]; exact HR3.out.below (below_drewN (below_drewN HB57.out 1) 1)) (by rw [← HE5.out]; exact HR4.out.below (below_drewN (below_drewN HB57.out 1) 1)) (hst.below (below_drewN (below_drewN HB17.out 1) 1)) (HFLT.out.1.below (below_drewN (below_drewN HBW7.out 1) 1)))
          have c2 : (ci' : Int) < (yaA.clauses.length : Int) := by omega
          have c3 : ¬ ((yaA.clauses.length : Int) ≤ (ci' : Int)) := by omega
          have c4 : decide ((yaA.clauses.length : Int) ≤ (ci' : Int)) = false := decide_eq_false c3
          have c5 : ¬ (yaA.clauses.length ≤ ci') := by omega
          have c6 : decide (yaA.clauses.length ≤ ci') = false := decide_eq_false c5
          clear hrow hx hda hgl hat hlen hlen2 hpc hst
          go_upto_region 40 with fail
          refine Reg.G.start (by kernel_rfl) ?_
          refine' Reg.G.pure (i := 0) (v := _) rfl (by rfl) (by kernel_rfl) (by kernel_rfl) (by kernel_rfl) (fun _ _ _ h => h) ?hyr40_0 ?rer40_0
          case hyr40_0 => exact fun w => by first | (go_simp; done) | (go_simp; with_reducible rfl)
          simp only [Act.put, List.setIfInBounds_toArray, List.set_cons_zero, List.set_cons_succ]
          refine' Reg.G.pure (i := 1) (v := _) rfl (by rfl) (by kernel_rfl) (by kernel_rfl) (by kernel_rfl) (fun _ _ _ h => h) ?hyr40_1 ?rer40_1
          case hyr40_1 => exact fun w => by first | (go_simp; done) | (go_simp; with_reducible rfl)
          simp only [Act.put, List.setIfInBounds_toArray, List.set_cons_zero, List.set_cons_succ]
          refine' Reg.G.take (i := 2) (v := _) (F := (fun w => w.cell? ⟨rA.heap.size, 17, none⟩ = some (.slice (some ⟨rg, ro, none⟩) yaA.clauses.length cc))) rfl (by rfl) (by kernel_rfl) (by kernel_rfl) (by kernel_rfl) (fun _ _ _ h => h) (HD2.out) ?hyr40_2 ?rer40_2
          case hyr40_2 => intro w hw; first | (go_simp; done) | (go_simp; with_reducible rfl)
          simp only [Act.put, List.setIfInBounds_toArray, List.set_cons_zero, List.set_cons_succ]
          refine' Reg.G.pure (i := 3) (v := _) rfl (by rfl) (by kernel_rfl) (by kernel_rfl) (by kernel_rfl) (fun _ _ _ h => h) ?hyr40_3 ?rer40_3
          case hyr40_3 => exact fun w => by first | (go_simp; done) | (go_simp; with_reducible rfl)
          simp only [Act.put, List.setIfInBounds_toArray, List.set_cons_zero, List.set_cons_succ]
          refine' Reg.G.pure (i := 4) (v := _) rfl (by rfl) (by kernel_rfl) (by kernel_rfl) (by kernel_rfl) (fun _ _ _ h => h) ?hyr40_4 ?rer40_4
          case hyr40_4 => exact fun w => by first | (go_simp; done) | (go_simp; with_reducible rfl)
          simp only [Act.put, List.setIfInBounds_toArray, List.set_cons_zero, List.set_cons_succ]
          refine' Reg.G.pure (i := 5) (v := _) rfl (by rfl) (by kernel_rfl) (by kernel_rfl) (by kernel_rfl) (fun _ _ _ h => h) ?hyr40_5 ?rer40_5
          case hyr40_5 => exact fun w => by first | (go_simp; done) | (go_simp; with_reducible rfl)
          simp only [Act.put, List.setIfInBounds_toArray, List.set_cons_zero, List.set_cons_succ]
          refine' Reg.G.take (i := 6) (v := _) (F := (fun w => w.heap[tb]? = some (.cells #[v0, v1, v2, v3, v4] 45 (0, 0)))) rfl (by rfl) (by kernel_rfl) (by kernel_rfl) (by kernel_rfl) (fun _ _ _ h => h) (HT7.out) ?hyr40_6 ?rer40_6
          case hyr40_6 => intro w hw; refine run_load_row (P := Tryd.prog) 45 (.tmp 6) ?_ tb ?_ 45 #[v0, v1, v2, v3, v4] _ hw Tryd.underlying45 rfl (by kernel_rfl) <;> rfl
          simp only [Act.put, List.setIfInBounds_toArray, List.set_cons_zero, List.set_cons_succ]
          refine' Reg.G.pure (i := 7) (v := _) rfl (by rfl) (by kernel_rfl) (by kernel_rfl) (by kernel_rfl) (fun _ _ _ h => h) ?hyr40_7 ?rer40_7
          case hyr40_7 => exact fun w => by first | (go_simp; done) | (go_simp; with_reducible rfl)
          simp only [Act.put, List.setIfInBounds_toArray, List.set_cons_zero, List.set_cons_succ]
          refine' Reg.G.take (i := 8) (v := _) (F := (fun w => w.cell? ⟨rA.heap.size, 17, none⟩ = some (.slice (some ⟨rg, ro, none⟩) yaA.clauses.length cc))) rfl (by rfl) (by kernel_rfl) (by kernel_rfl) (by kernel_rfl) (fun _ _ _ h => h) (HD2.out) ?hyr40_8 ?rer40_8
          case hyr40_8 => intro w hw; first | (go_simp; done) | (go_simp; with_reducible rfl)
          simp only [Act.put, List.setIfInBounds_toArray, List.set_cons_zero, List.set_cons_succ]
          refine' Reg.G.pure (i := 9) (v := _) rfl (by rfl) (by kernel_rfl) (by kernel_rfl) (by kernel_rfl) (fun _ _ _ h => h) ?hyr40_9 ?rer40_9
          case hyr40_9 => exact fun w => by first | (go_simp; done) | (go_simp; with_reducible rfl)
          simp only [Act.put, List.setIfInBounds_toArray, List.set_cons_zero, List.set_cons_succ]
          refine' Reg.G.pure (i := 10) (v := _) rfl (by rfl) (by kernel_rfl) (by kernel_rfl) (by kernel_rfl) (fun _ _ _ h => h) ?hyr40_10 ?rer40_10
          case hyr40_10 => exact fun w => by first | (go_simp; done) | (go_simp; with_reducible rfl)
          simp only [Act.put, List.setIfInBounds_toArray, List.set_cons_zero, List.set_cons_succ]
          refine' Reg.G.take (i := 11) (v := _) (F := (fun w => At w rg (ro + ci' * 24) (csymv ⟨x.name, x.pos, x.within, x.grace, clauseOf (tabs tab0 s.items) x⟩ st))) rfl (by rfl) (by kernel_rfl) (by kernel_rfl) (by kernel_rfl) (fun _ _ _ h => h) (HD1.out) ?hyr40_11 ?rer40_11
          case hyr40_11 => intro w hw; refine run_load_range (P := Tryd.prog) 71 (.tmp 247) ?_ rg (ro + ci' * 24) ?_ (csymv ⟨x.name, x.pos, x.within, x.grace, clauseOf (tabs tab0 s.items) x⟩ st) _ hw Tryd.underlying71 rfl (info_csymv _ _) <;> rfl
          simp only [Act.put, List.setIfInBounds_toArray, List.set_cons_zero, List.set_cons_succ]
          refine' Reg.G.take (i := 12) (v := _) (F := (fun w => w.heap[wr.heap.size]? = some (.cells (ic (x, sc, sd, sn, sx)).toArray 55 (0, 0)))) rfl (by rfl) (by kernel_rfl) (by kernel_rfl) (by kernel_rfl) (fun _ _ _ h => h) (HX7.out) ?hyr40_12 ?rer40_12
          case hyr40_12 => intro w hw; refine run_load_row (P := Tryd.prog) 55 (.tmp 9) ?_ wr.heap.size ?_ 55 (ic (x, sc, sd, sn, sx)).toArray _ hw Tryd.underlying55 rfl (info_icl _) <;> rfl
          simp only [Act.put, List.setIfInBounds_toArray, List.set_cons_zero, List.set_cons_succ]
          refine Reg.G.step (j := 13) (m := [false, false, false, false, false]) [12, 11, 8, 6, 2] rfl (by kernel_rfl) rfl (by kernel_rfl) (fun K hK => ?_)
          -- Op.call { callee := Callee.value (func 19), args := #[t243, t248, t249], argTypes := #[45, 71, 55] }
          rw [if_pos (by rfl)]
          go_simp
          refine HCX.out.mono ?_
          rintro e wg ⟨rfl, hbg⟩
          have HFG : Hid (Fr (fun _ => False) w7 wg) := (Fr.refl (fun _ => False) w7).drew.drew.trans (Fr.of_below hbg)
          clear hbg
          refine hK.out _ _ trivial ?_
          clear hK K
          simp only [Act.put, List.setIfInBounds_toArray, List.set_cons_zero, List.set_cons_succ, Reg.Kept]
          refine' Reg.G.pure (i := 14) (v := _) rfl (by rfl) (by kernel_rfl) (by kernel_rfl) (by kernel_rfl) (fun _ _ _ h => h) ?hyr40_14 ?rer40_14
          case hyr40_14 => exact fun w => by first | (go_simp; done) | (go_simp; with_reducible rfl)
          simp only [Act.put, List.setIfInBounds_toArray, List.set_cons_zero, List.set_cons_succ]
          refine' Reg.G.pure (i := 15) (v := _) rfl (by rfl) (by kernel_rfl) (by kernel_rfl) (by kernel_rfl) (fun _ _ _ h => h) ?hyr40_15 ?rer40_15
          case hyr40_15 => exact fun w => by first | (go_simp; done) | (go_simp; with_reducible rfl)
          simp only [Act.put, List.setIfInBounds_toArray, List.set_cons_zero, List.set_cons_succ]
          refine Reg.G.done (by kernel_rfl) ?_
          go_wp2_with fail
          go_roundw
          case rel => exact HEND.out _ HFG.out
          case measure => simp [intOf]; omega
    · as_aux_lemma =>
        have hki : k = s.items.length := by have h1 := HKZ.out; have h2 := HLZ.out; omega
        have HT7 := Lib.hid (HFR.out.blk HTB.out (by omega))
        have HB57 : Hid (Below w5.heap.size w5 wr) := HB5u.out.trans (HFR.out.below HB5u.out.size (fun j h => by have := HTBE.out; omega))
        have hcn : ∀ g, cnt s.items k g = (s.items.filter fun x => group x.kind == g).length := fun g => by unfold cnt; rw [hki, List.take_length]
        have l0 : yaA.parties.length = cnt s.items k 1 := by rw [HP1.out, List.length_map, hcn]
        have l1 : yaA.roles.length = cnt s.items k 2 := by rw [HP2.out, List.length_map, hcn]
        have l2 : yaA.units.length = cnt s.items k 3 := by rw [HP3.out, List.length_map, hcn]
        have l3 : yaA.acts.length = cnt s.items k 4 := by rw [HP4.out, List.length_map, hcn]
        have l4 : yaA.clauses.length = cnt s.items k 5 := by rw [HP5.out, List.length_map, hcn]
        obtain ⟨B0, d0, e0, _⟩ := HR0.out.slice
        obtain ⟨B1, d1, e1, _⟩ := HR1.out.slice
        obtain ⟨B2, d2, e2, _⟩ := HR2.out.slice
        obtain ⟨B3, d3, e3, _⟩ := HR3.out.slice
        obtain ⟨B4, d4, e4, _⟩ := HR4.out.slice
        rw [List.length_map, l0] at e0
        rw [List.length_map, List.length_map, l1] at e1
        rw [List.length_map, List.length_map, l2] at e2
        rw [List.length_map, List.length_map, l3] at e3
        rw [List.length_map, List.length_map, l4] at e4
        have t0 : wr.cell? ⟨tb, 0, none⟩ = some (.slice B0 (cnt s.items k 1) d0) := (cell_of_blk HT7.out 0).trans (congrArg some e0)
        have t1 : wr.cell? ⟨tb, 1, none⟩ = some (.slice B1 (cnt s.items k 2) d1) := (cell_of_blk HT7.out 1).trans (congrArg some e1)
        have t2 : wr.cell? ⟨tb, 2, none⟩ = some (.slice B2 (cnt s.items k 3) d2) := (cell_of_blk HT7.out 2).trans (congrArg some e2)
        have t3 : wr.cell? ⟨tb, 3, none⟩ = some (.slice B3 (cnt s.items k 4) d3) := (cell_of_blk HT7.out 3).trans (congrArg some e3)
        have t4 : wr.cell? ⟨tb, 4, none⟩ = some (.slice B4 (cnt s.items k 5) d4) := (cell_of_blk HT7.out 4).trans (congrArg some e4)
        have x1 : wr.cell? ⟨tb + 1, 1, none⟩ = some (.int .i64 ((cnt s.items k 1 : Nat) : Int)) := by rw [cell_of_blk HNX.out]; simpa using cnts6_get s.items k (g := 1) (by omega)
        have x2 : wr.cell? ⟨tb + 1, 2, none⟩ = some (.int .i64 ((cnt s.items k 2 : Nat) : Int)) := by rw [cell_of_blk HNX.out]; simpa using cnts6_get s.items k (g := 2) (by omega)
        have x3 : wr.cell? ⟨tb + 1, 3, none⟩ = some (.int .i64 ((cnt s.items k 3 : Nat) : Int)) := by rw [cell_of_blk HNX.out]; simpa using cnts6_get s.items k (g := 3) (by omega)
        have x4 : wr.cell? ⟨tb + 1, 4, none⟩ = some (.int .i64 ((cnt s.items k 4 : Nat) : Int)) := by rw [cell_of_blk HNX.out]; simpa using cnts6_get s.items k (g := 4) (by omega)
        have x5 : wr.cell? ⟨tb + 1, 5, none⟩ = some (.int .i64 ((cnt s.items k 5 : Nat) : Int)) := by rw [cell_of_blk HNX.out]; simpa using cnts6_get s.items k (g := 5) (by omega)
        have i9 : ¬ ((k : Int) < (z.length : Int)) := by omega
        clear hcn l0 l1 l2 l3 l4 e0 e1 e2 e3 e4 hki
        generalize cnt s.items k 1 = m1 at *
        generalize cnt s.items k 2 = m2 at *
        generalize cnt s.items k 3 = m3 at *
        generalize cnt s.items k 4 = m4 at *
        generalize cnt s.items k 5 = m5 at *
        go_wp2_with fail
        obtain ⟨wo, rfl⟩ : ∃ w : World, w = wr := ⟨_, rfl⟩
        go_loopw [14] (fun iv wr => GR wo iv wr) (fun i _ => (10 - intOf i).toNat)
        case atStart => exact ⟨1, 0, rfl, by omega, by omega, rfl⟩
        case round =>
          obtain ⟨g, m, rfl, hg1, hg7, rfl⟩ := hrel
          have hw0 : IntKind.i64.wrap 0 = 0 := IntWalk.i64_in _ (by omega)
          have hw1 : IntKind.i64.wrap 1 = 1 := IntWalk.i64_in _ (by omega)
          have hw2 : IntKind.i64.wrap 2 = 2 := IntWalk.i64_in _ (by omega)
          have hw3 : IntKind.i64.wrap 3 = 3 := IntWalk.i64_in _ (by omega)
          have hw4 : IntKind.i64.wrap 4 = 4 := IntWalk.i64_in _ (by omega)
          rcases (by omega : g = 1 ∨ g = 2 ∨ g = 3 ∨ g = 4 ∨ g = 5 ∨ g = 6) with rfl | rfl | rfl | rfl | rfl | rfl
          rotate_left 5
          · go_wp2_with fail
            go_ret
            exact ⟨rfl, below_drewN HBWr.out m⟩
          · go_wp2_with fail
            go_quiet (fail)
            go_wp2_with fail
            go_roundw
            case rel => exact ⟨2, m + nq, rfl, by omega, by omega, rfl⟩
            case measure => simp [intOf]
          · go_wp2_with fail
            go_quiet (fail)
            go_wp2_with fail
            go_roundw
            case rel => exact ⟨3, m + nq, rfl, by omega, by omega, rfl⟩
            case measure => simp [intOf]
          · go_wp2_with fail
            go_quiet (fail)
            go_wp2_with fail
            go_roundw
            case rel => exact ⟨4, m + nq, rfl, by omega, by omega, rfl⟩
            case measure => simp [intOf]
          · go_wp2_with fail
            go_quiet (fail)
            go_wp2_with fail
            go_roundw
            case rel => exact ⟨5, m + nq, rfl, by omega, by omega, rfl⟩
            case measure => simp [intOf]
          · go_wp2_with fail
            go_quiet (fail)
            go_wp2_with fail
            go_roundw
            case rel => exact ⟨6, m + nq, rfl, by omega, by omega, rfl⟩
            case measure => simp [intOf]
end Go.Proofs.YtdhjibnkebbejaaDoor
