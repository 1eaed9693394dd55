/-
  Include: the reference's Later.
-/
import Derived.Test.YticakdajhmfpoaaIncBld
namespace Go.Proofs.Yticakdajhmfpoaa.Ic
open Go.RowKit Mem Vw Rs
set_option linter.unusedVariables false
set_option linter.unusedSimpArgs false

theorem inc_get {l : List DT} {k : Nat} {x : DT} (h : l[k]? = some x) : k < l.length := (List.getElem?_eq_some_iff.1 h).1
def isDef (x : DT) : Bool := defines x.h.kind
def sel (p : DT → Bool) (l : List DT) (k : Nat) : List DT := (l.take k).filter p
theorem sel_zero (p : DT → Bool) (l : List DT) : sel p l 0 = [] := rfl
theorem sel_next {p : DT → Bool} {l : List DT} {k : Nat} {x : DT} (h : l[k]? = some x) : sel p l (k + 1) = if p x = true then sel p l k ++ [x] else sel p l k := by
  unfold sel
  rw [List.take_add_one, h, List.filter_append]
  by_cases hp : p x = true
  · rw [if_pos hp]; simp [hp]
  · rw [if_neg hp]; simp [hp]
theorem sel_all (p : DT → Bool) (l : List DT) : sel p l l.length = l.filter p := by unfold sel; rw [List.take_length]
theorem sel_le (p : DT → Bool) (l : List DT) (k : Nat) : (sel p l k).length ≤ k := by
  unfold sel
  exact Nat.le_trans (List.length_filter_le _ _) (by rw [List.length_take]; exact Nat.min_le_left _ _)
theorem sel_filter (p : DT → Bool) (l : List DT) (k : Nat) : (sel p l k).length ≤ (l.filter p).length := by
  have h : l.filter p = sel p l k ++ (l.drop k).filter p := by
    unfold sel
    rw [← List.filter_append, List.take_append_drop]
  rw [h, List.length_append]; omega
theorem fil_split (l : List DT) : (l.filter fun x => !isDef x).length + (l.filter isDef).length = l.length := by
  induction l with
  | nil => rfl
  | cons x l ih =>
    cases h : isDef x with
    | true => simp [h]; omega
    | false => simp [h]; omega
theorem sel_mem {p : DT → Bool} {l : List DT} {k : Nat} {x : DT} (h : x ∈ sel p l k) : x ∈ l := List.mem_of_mem_take (List.mem_filter.1 h).1
/-- The items with the definitions behind. -/
def laterL (l : List DT) : List DT := (l.filter fun x => !isDef x) ++ l.filter isDef
theorem later_tree (s : Rs.Source) (l : List DT) : srcT s (laterL l) = later (srcT s l) := by
  have key : ∀ (p : Int → Bool), (l.filter fun x => p x.h.kind).map DT.tree = (l.map DT.tree).filter fun x => p x.h.kind := fun p => by
    rw [List.filter_map]
    congr 1
    apply List.filter_congr
    intro x _
    show _ = p x.tree.h.kind
    rw [DT.tree_h]
  unfold srcT later laterL
  rw [List.map_append]
  congr 2
  · exact key fun k => !defines k
  · exact key defines
theorem later_mem {l : List DT} {x : DT} (h : x ∈ laterL l) : x ∈ l := by
  rcases List.mem_append.1 h with h | h
  · exact (List.mem_filter.1 h).1
  · exact (List.mem_filter.1 h).1
set_option maxRecDepth 100000 in
set_option maxHeartbeats 16000000 in
theorem later_r6 {Wb X : World} {bo go gs g o k cp : Nat} {l ds : List DT} {s2 s : Rs.Source} {iv : Value} {x : DT} {u0 u2 u5 u6 u7 u8 u9 u10 u11 u12 u13 u14 u15 u16 u17 u18 u19 u20 u21 u22 u23 u24 u25 u26 u27 u28 u29 u30 u31 u32 u33 u34 u35 u36 u37 u38 u39 u40 u41 u42 u43 u44 u45 u46 u47 u48 u49 u50 u51 u52 u53 u54 u55 u56 u57 u58 u59 u60 u61 u62 : Value} {Q : Exit → Act → World → Prop} {C : Code} (hC : C = Cut.region Try.f15 6) (hb : Bld bo go s2 ds iv Wb X) (hs : Wb.heap[gs]? = some (.cells (scells s.name s.frm s.days (.slice (some ⟨g, o, none⟩) l.length cp)).toArray 26 (0, 0))) (hgs : gs < bo ∧ gs ≠ go) (hL : LayL (fun g => g < bo ∧ g ≠ go) Wb l (.slice (some ⟨g, o, none⟩) l.length cp)) (hx : l[k]? = some x) (hd : (ds.length + 1) * 368 ≤ 140737488355328) (hP : Cut.Blind Q)
    (hQ : ∀ (v28 v29 v30 v31 v32 v33 v34 v35 v36 v37 : Value) (wx : World), (∃ iv2, Bld bo go s2 (ds ++ [x]) iv2 Wb wx) → Q .normal ⟨#[u0, .pointer (some ⟨gs, 0, none⟩), u2, .pointer (some ⟨go, 0, none⟩), .int .i64 ((k : Nat) : Int), u5, u6, u7, u8, u9, u10, u11, u12, u13, u14, u15, u16, u17, u18, u19, u20, u21, u22, u23, u24, u25, u26, u27, v28, v29, v30, v31, v32, v33, v34, v35, v36, v37, u38, u39, u40, u41, u42, u43, u44, u45, u46, u47, u48, u49, u50, u51, u52, u53, u54, u55, u56, u57, u58, u59, u60, u61, u62], []⟩ wx) :
    Code.wp Try.prog C Q ⟨#[u0, .pointer (some ⟨gs, 0, none⟩), u2, .pointer (some ⟨go, 0, none⟩), .int .i64 ((k : Nat) : Int), u5, u6, u7, u8, u9, u10, u11, u12, u13, u14, u15, u16, u17, u18, u19, u20, u21, u22, u23, u24, u25, u26, u27, u28, u29, u30, u31, u32, u33, u34, u35, u36, u37, u38, u39, u40, u41, u42, u43, u44, u45, u46, u47, u48, u49, u50, u51, u52, u53, u54, u55, u56, u57, u58, u59, u60, u61, u62], []⟩ X := by
  subst hC
  conv => arg 2; whnf
  refine Reg.G.start (by kernel_rfl) ?_
  obtain ⟨Xd, HXd⟩ : ∃ Y, Hid (X.drew = Y) := ⟨_, rfl⟩
  have HFD : Hid (Fr (fun _ => False) X Xd) := by rw [← HXd.out]; exact (Fr.refl _ X).drew
  obtain ⟨Ao, co, hao⟩ := own_form hb.own
  subst hao
  obtain ⟨j0, hj, hj0, hj1, hj2⟩ := info_parts cinfo_item
  have hLX := hL.fr hb.fr (fun g hg e => by have := hg.1; omega)
  have HLX : Hid (Lay _ X x) := hLX.lay x (List.mem_of_getElem? hx)
  have HSB : Hid (X.heap[gs]? = some (.cells (scells s.name s.frm s.days (.slice (some ⟨g, o, none⟩) l.length cp)).toArray 26 (0, 0))) := hb.fr.blk hs (fun e => by omega)
  obtain ⟨g0, o0, e0, hg0, _, hax⟩ := hLX.at hx
  injection e0 with e0; injection e0 with e1 e2 _; subst e1; subst e2
  have HAT : Hid (∀ w, Fr (fun _ => False) X w → At w g (o + k * 33) x.cells) := fun w hw => At.fr hax hg0 hw (fun h => h)
  have hlt : k < l.length := (List.getElem?_eq_some_iff.1 hx).1
  have i1 : (0 : Int) ≤ (k : Int) := Int.natCast_nonneg _
  have i2 : (k : Int) < (l.length : Int) := by omega
  have n1 : (0 : Int) ≤ (ds.length : Int) := Int.natCast_nonneg _
  clear hax hLX
  rw [HXd.out]
  clear HXd
  refine' Reg.G.pure (i := 0) (v := _) rfl (by rfl) (by kernel_rfl) (by kernel_rfl) (by kernel_rfl) (fun _ _ _ h => hP _ _ _ _ _ h) ?hye1 ?rehye1
  case hye1 => exact fun w => by first | (go_simp; done) | (go_simp; with_reducible rfl)
  simp only [Act.put, List.setIfInBounds_toArray, List.set_cons_zero, List.set_cons_succ]
  refine' Reg.G.take (i := 1) (v := _) (F := (fun w => Fr (fun _ => False) X w)) rfl (by rfl) (by kernel_rfl) (by kernel_rfl) (by kernel_rfl) (fun _ _ _ h => hP _ _ _ _ _ h) (HFD.out) ?hye2 ?rehye2
  case hye2 => intro w hw; have kc : w.cell? ⟨go, 5, none⟩ = some (.slice Ao ds.length co) := (cell_of_blk (hw.blk hb.blk (fun h => h)) 5).trans rfl; clear hw; first | (go_simp; done) | (go_simp; with_reducible rfl)
  simp only [Act.put, List.setIfInBounds_toArray, List.set_cons_zero, List.set_cons_succ]
  refine' Reg.G.pure (i := 2) (v := _) rfl (by rfl) (by kernel_rfl) (by kernel_rfl) (by kernel_rfl) (fun _ _ _ h => hP _ _ _ _ _ h) ?hye3 ?rehye3
  case hye3 => exact fun w => by first | (go_simp; done) | (go_simp; with_reducible rfl)
  simp only [Act.put, List.setIfInBounds_toArray, List.set_cons_zero, List.set_cons_succ]
  refine' Reg.G.take (i := 3) (v := _) (F := (fun w => Fr (fun _ => False) X w)) rfl (by rfl) (by kernel_rfl) (by kernel_rfl) (by kernel_rfl) (fun _ _ _ h => hP _ _ _ _ _ h) (HFD.out) ?hye4 ?rehye4
  case hye4 => intro w hw; have kc : w.cell? ⟨gs, 5, none⟩ = some (.slice (some ⟨g, o, none⟩) l.length cp) := (cell_of_blk (hw.blk HSB.out (fun h => h)) 5).trans rfl; clear hw; first | (go_simp; done) | (go_simp; with_reducible rfl)
  simp only [Act.put, List.setIfInBounds_toArray, List.set_cons_zero, List.set_cons_succ]
  refine' Reg.G.pure (i := 4) (v := _) rfl (by rfl) (by kernel_rfl) (by kernel_rfl) (by kernel_rfl) (fun _ _ _ h => hP _ _ _ _ _ h) ?hye5 ?rehye5
  case hye5 => exact fun w => by first | (go_simp; done) | (go_simp; with_reducible rfl)
  simp only [Act.put, List.setIfInBounds_toArray, List.set_cons_zero, List.set_cons_succ]
  refine' Reg.G.pure (i := 5) (v := _) rfl (by rfl) (by kernel_rfl) (by kernel_rfl) (by kernel_rfl) (fun _ _ _ h => hP _ _ _ _ _ h) ?hye6 ?rehye6
  case hye6 => exact fun w => by first | (go_simp; done) | (go_simp; with_reducible rfl)
  simp only [Act.put, List.setIfInBounds_toArray, List.set_cons_zero, List.set_cons_succ]
  refine' Reg.G.take (i := 6) (v := _) (F := (fun w => Fr (fun _ => False) X w)) rfl (by rfl) (by kernel_rfl) (by kernel_rfl) (by kernel_rfl) (fun _ _ _ h => hP _ _ _ _ _ h) (HFD.out) ?hye7 ?rehye7
  case hye7 => intro w hw; refine run_load_at 41 (.tmp 33) ?_ g (o + k * 33) ?_ x.cells _ (HAT.out w hw) Try.underlying41 rfl (info_itl x) <;> rfl
  simp only [Act.put, List.setIfInBounds_toArray, List.set_cons_zero, List.set_cons_succ]
  refine Reg.G.step (j := 7) (m := [false, false, true]) [6, 3, 1] rfl (by kernel_rfl) rfl (by kernel_rfl) (fun K hK => ?_)
  refine wp_bsl1 24 _ rfl (v0 := .agg x.cells.toArray) rfl (.slice (some ⟨Xd.heap.size, 0, none⟩) 1 1) (Xd.alloc (.cells x.cells.toArray 41)) ?hb1 ?hq1
  case hb1 => exact bsl_one HLX.out _
  obtain ⟨y1, hu⟩ : ∃ u, Xd.alloc (.cells x.cells.toArray 41) = u := ⟨_, rfl⟩
  rw [hu]
  have HG1 : Hid (Fr (fun _ => False) X y1) := by rw [← hu]; exact HFD.out.alloc _
  have HNA : Hid (∀ j y, x.cells[j]? = some y → y1.cell? ((⟨Xd.heap.size, 0, none⟩ : Addr).add j) = some y) := by rw [← hu]; exact cells_new Xd x.cells _ _ rfl
  clear hu
  refine hK.out _ _ ⟨HG1.out, trivial⟩ ?_
  clear hK K
  simp only [Act.put, List.setIfInBounds_toArray, List.set_cons_zero, List.set_cons_succ, Reg.Kept]
  refine Reg.G.step (j := 8) (m := [false]) [1] rfl (by kernel_rfl) rfl (by kernel_rfl) (fun K hK => ?_)
  have HOA : Hid (y1.ownsRow bo 41 33 (.slice Ao ds.length co) ds.length (ds.flatMap DT.cells)) := own_fr hb.own HG1.out (fun _ _ _ e => e)
  refine wp_append_lies y1 (.tmp 29) (.tmp 35) 24 rfl bo 41 j0 _ 33 368 Try.underlying24 hj hj0 hj1 hj2 rfl (by decide) (.slice Ao ds.length co) ds.length _ (by rfl) HOA.out ⟨Xd.heap.size, 0, none⟩ 1 1 x.cells (by rfl) x.cells_len HNA.out (one_all HLX.out.one) (by decide) (by simp only [maxLen]; omega) (by omega) (by have h1 := hb.lo; have h2 := hb.fr.size; have h3 := HG1.out.size; omega) (y1.heap.size) rfl ?_
  intro gn cn y2 g1 g2 g3 _
  have HOW : Hid (y2.ownsRow bo 41 33 (.slice (some ⟨gn, 0, none⟩) (ds.length + 1) cn) (ds ++ [x]).length ((ds ++ [x]).flatMap DT.cells)) := by
    have e1 : (ds ++ [x]).length = ds.length + 1 := by simp
    have e2 : (ds ++ [x]).flatMap DT.cells = ds.flatMap DT.cells ++ x.cells := by simp [List.flatMap_append]
    rw [e1, e2]
    exact g1
  have HLO : Hid (∀ k, (Value.slice Ao ds.length co).ownBlock = some k → bo ≤ k) := fun k hk => (own_lt HOA.out k hk).1
  have HGR : Hid (Fr (fun g => g = go ∨ bo ≤ g) Wb y2) := (hb.fr.trans' HG1.out (fun _ _ h => h.elim)).grown g2 (fun k hk => .inl (.inr (HLO.out k hk)))
  have HBK : Hid (y2.heap[go]? = some (.cells (scells s2.name s2.frm s2.days (.slice Ao ds.length co)).toArray 26 (0, 0))) := (Fr.of_grown g2).blk (HG1.out.blk hb.blk (fun h => h)) (fun e => hb.ne e)
  have HNE : Hid ((Value.slice (some ⟨gn, 0, none⟩) (ds.length + 1) cn).ownBlock ≠ some go) := fun e => by
    have e1 : gn = go := by simpa [Value.ownBlock] using e
    rcases g3 with g3 | g3
    · exact hb.ne (by rw [← e1]; exact g3)
    · have h1 := lt_of_blk hb.blk; have h2 := HG1.out.size; omega
  clear g1 g2 g3
  refine hK.out _ _ trivial ?_
  clear hK K
  simp only [Act.put, List.setIfInBounds_toArray, List.set_cons_zero, List.set_cons_succ, Reg.Kept]
  refine' Reg.G.pure (i := 9) (v := _) rfl (by rfl) (by kernel_rfl) (by kernel_rfl) (by kernel_rfl) (fun _ _ _ h => hP _ _ _ _ _ h) ?hye8 ?rehye8
  case hye8 => exact fun w => by first | (go_simp; done) | (go_simp; with_reducible rfl)
  simp only [Act.put, List.setIfInBounds_toArray, List.set_cons_zero, List.set_cons_succ]
  refine Reg.G.step (j := 10) (m := []) [] rfl (by kernel_rfl) rfl (by kernel_rfl) (fun K hK => ?_)
  have ko : y2.cell? ⟨go, 5, none⟩ = some (.slice Ao ds.length co) := (cell_of_blk HBK.out 5).trans rfl
  have fo : y2.frozen? ⟨go, 5, none⟩ = false := froz_of_blk HBK.out 5
  go_simp
  obtain ⟨y3, hu⟩ : ∃ u, y2.setCell ⟨go, 5, none⟩ (.slice (some ⟨gn, 0, none⟩) (ds.length + 1) cn) = u := ⟨_, rfl⟩
  rw [hu]
  have HBK2 : Hid (y3.heap[go]? = some (.cells (scells s2.name s2.frm s2.days (.slice (some ⟨gn, 0, none⟩) (ds.length + 1) cn)).toArray 26 (0, 0))) := by rw [← hu]; exact blk_set HBK.out 5 _
  have HFL : Hid (Fr (fun g => g = go) y2 y3) := by rw [← hu]; exact (Fr.refl (fun g => g = go) y2).setb 5 _
  have HBD : Hid (Bld bo go s2 (ds ++ [x]) (.slice (some ⟨gn, 0, none⟩) (ds.length + 1) cn) Wb y3) := ⟨hb.lo, HBK2.out, own_frb HOW.out HFL.out (fun k hk e => HNE.out (by rw [hk, e])), HNE.out, HGR.out.trans' HFL.out (fun g _ e => .inl e)⟩
  clear hu ko fo
  refine hK.out _ _ trivial ?_
  clear hK K
  simp only [Act.put, List.setIfInBounds_toArray, List.set_cons_zero, List.set_cons_succ, Reg.Kept]
  refine Reg.G.done (by kernel_rfl) ?_
  exact hQ _ _ _ _ _ _ _ _ _ _ _ ⟨_, HBD.out⟩
set_option maxRecDepth 100000 in
set_option maxHeartbeats 16000000 in
theorem later_r11 {Wb X : World} {bo go gs g o k cp : Nat} {l ds : List DT} {s2 s : Rs.Source} {iv : Value} {x : DT} {u0 u2 u4 u6 u7 u8 u9 u10 u11 u12 u13 u14 u15 u16 u17 u18 u19 u20 u21 u22 u23 u24 u25 u26 u27 u28 u29 u30 u31 u32 u33 u34 u35 u36 u37 u38 u39 u40 u41 u42 u43 u44 u45 u46 u47 u48 u49 u50 u51 u52 u53 u54 u55 u56 u57 u58 u59 u60 u61 u62 : Value} {Q : Exit → Act → World → Prop} {C : Code} (hC : C = Cut.region Try.f15 11) (hb : Bld bo go s2 ds iv Wb X) (hs : Wb.heap[gs]? = some (.cells (scells s.name s.frm s.days (.slice (some ⟨g, o, none⟩) l.length cp)).toArray 26 (0, 0))) (hgs : gs < bo ∧ gs ≠ go) (hL : LayL (fun g => g < bo ∧ g ≠ go) Wb l (.slice (some ⟨g, o, none⟩) l.length cp)) (hx : l[k]? = some x) (hd : (ds.length + 1) * 368 ≤ 140737488355328) (hP : Cut.Blind Q)
    (hQ : ∀ (v52 v53 v54 v55 v56 v57 v58 v59 v60 v61 : Value) (wx : World), (∃ iv2, Bld bo go s2 (ds ++ [x]) iv2 Wb wx) → Q .normal ⟨#[u0, .pointer (some ⟨gs, 0, none⟩), u2, .pointer (some ⟨go, 0, none⟩), u4, .int .i64 ((k : Nat) : Int), u6, u7, u8, u9, u10, u11, u12, u13, u14, u15, u16, u17, u18, u19, u20, u21, u22, u23, u24, u25, u26, u27, u28, u29, u30, u31, u32, u33, u34, u35, u36, u37, u38, u39, u40, u41, u42, u43, u44, u45, u46, u47, u48, u49, u50, u51, v52, v53, v54, v55, v56, v57, v58, v59, v60, v61, u62], []⟩ wx) :
    Code.wp Try.prog C Q ⟨#[u0, .pointer (some ⟨gs, 0, none⟩), u2, .pointer (some ⟨go, 0, none⟩), u4, .int .i64 ((k : Nat) : Int), u6, u7, u8, u9, u10, u11, u12, u13, u14, u15, u16, u17, u18, u19, u20, u21, u22, u23, u24, u25, u26, u27, u28, u29, u30, u31, u32, u33, u34, u35, u36, u37, u38, u39, u40, u41, u42, u43, u44, u45, u46, u47, u48, u49, u50, u51, u52, u53, u54, u55, u56, u57, u58, u59, u60, u61, u62], []⟩ X := by
  subst hC
  conv => arg 2; whnf
  refine Reg.G.start (by kernel_rfl) ?_
  obtain ⟨Xd, HXd⟩ : ∃ Y, Hid (X.drew = Y) := ⟨_, rfl⟩
  have HFD : Hid (Fr (fun _ => False) X Xd) := by rw [← HXd.out]; exact (Fr.refl _ X).drew
  obtain ⟨Ao, co, hao⟩ := own_form hb.own
  subst hao
  obtain ⟨j0, hj, hj0, hj1, hj2⟩ := info_parts cinfo_item
  have hLX := hL.fr hb.fr (fun g hg e => by have := hg.1; omega)
  have HLX : Hid (Lay _ X x) := hLX.lay x (List.mem_of_getElem? hx)
  have HSB : Hid (X.heap[gs]? = some (.cells (scells s.name s.frm s.days (.slice (some ⟨g, o, none⟩) l.length cp)).toArray 26 (0, 0))) := hb.fr.blk hs (fun e => by omega)
  obtain ⟨g0, o0, e0, hg0, _, hax⟩ := hLX.at hx
  injection e0 with e0; injection e0 with e1 e2 _; subst e1; subst e2
  have HAT : Hid (∀ w, Fr (fun _ => False) X w → At w g (o + k * 33) x.cells) := fun w hw => At.fr hax hg0 hw (fun h => h)
  have hlt : k < l.length := (List.getElem?_eq_some_iff.1 hx).1
  have i1 : (0 : Int) ≤ (k : Int) := Int.natCast_nonneg _
  have i2 : (k : Int) < (l.length : Int) := by omega
  have n1 : (0 : Int) ≤ (ds.length : Int) := Int.natCast_nonneg _
  clear hax hLX
  rw [HXd.out]
  clear HXd
  refine' Reg.G.pure (i := 0) (v := _) rfl (by rfl) (by kernel_rfl) (by kernel_rfl) (by kernel_rfl) (fun _ _ _ h => hP _ _ _ _ _ h) ?hyf9 ?rehyf9
  case hyf9 => exact fun w => by first | (go_simp; done) | (go_simp; with_reducible rfl)
  simp only [Act.put, List.setIfInBounds_toArray, List.set_cons_zero, List.set_cons_succ]
  refine' Reg.G.take (i := 1) (v := _) (F := (fun w => Fr (fun _ => False) X w)) rfl (by rfl) (by kernel_rfl) (by kernel_rfl) (by kernel_rfl) (fun _ _ _ h => hP _ _ _ _ _ h) (HFD.out) ?hyf10 ?rehyf10
  case hyf10 => intro w hw; have kc : w.cell? ⟨go, 5, none⟩ = some (.slice Ao ds.length co) := (cell_of_blk (hw.blk hb.blk (fun h => h)) 5).trans rfl; clear hw; first | (go_simp; done) | (go_simp; with_reducible rfl)
  simp only [Act.put, List.setIfInBounds_toArray, List.set_cons_zero, List.set_cons_succ]
  refine' Reg.G.pure (i := 2) (v := _) rfl (by rfl) (by kernel_rfl) (by kernel_rfl) (by kernel_rfl) (fun _ _ _ h => hP _ _ _ _ _ h) ?hyf11 ?rehyf11
  case hyf11 => exact fun w => by first | (go_simp; done) | (go_simp; with_reducible rfl)
  simp only [Act.put, List.setIfInBounds_toArray, List.set_cons_zero, List.set_cons_succ]
  refine' Reg.G.take (i := 3) (v := _) (F := (fun w => Fr (fun _ => False) X w)) rfl (by rfl) (by kernel_rfl) (by kernel_rfl) (by kernel_rfl) (fun _ _ _ h => hP _ _ _ _ _ h) (HFD.out) ?hyf12 ?rehyf12
  case hyf12 => intro w hw; have kc : w.cell? ⟨gs, 5, none⟩ = some (.slice (some ⟨g, o, none⟩) l.length cp) := (cell_of_blk (hw.blk HSB.out (fun h => h)) 5).trans rfl; clear hw; first | (go_simp; done) | (go_simp; with_reducible rfl)
  simp only [Act.put, List.setIfInBounds_toArray, List.set_cons_zero, List.set_cons_succ]
  refine' Reg.G.pure (i := 4) (v := _) rfl (by rfl) (by kernel_rfl) (by kernel_rfl) (by kernel_rfl) (fun _ _ _ h => hP _ _ _ _ _ h) ?hyf13 ?rehyf13
  case hyf13 => exact fun w => by first | (go_simp; done) | (go_simp; with_reducible rfl)
  simp only [Act.put, List.setIfInBounds_toArray, List.set_cons_zero, List.set_cons_succ]
  refine' Reg.G.pure (i := 5) (v := _) rfl (by rfl) (by kernel_rfl) (by kernel_rfl) (by kernel_rfl) (fun _ _ _ h => hP _ _ _ _ _ h) ?hyf14 ?rehyf14
  case hyf14 => exact fun w => by first | (go_simp; done) | (go_simp; with_reducible rfl)
  simp only [Act.put, List.setIfInBounds_toArray, List.set_cons_zero, List.set_cons_succ]
  refine' Reg.G.take (i := 6) (v := _) (F := (fun w => Fr (fun _ => False) X w)) rfl (by rfl) (by kernel_rfl) (by kernel_rfl) (by kernel_rfl) (fun _ _ _ h => hP _ _ _ _ _ h) (HFD.out) ?hyf15 ?rehyf15
  case hyf15 => intro w hw; refine run_load_at 41 (.tmp 57) ?_ g (o + k * 33) ?_ x.cells _ (HAT.out w hw) Try.underlying41 rfl (info_itl x) <;> rfl
  simp only [Act.put, List.setIfInBounds_toArray, List.set_cons_zero, List.set_cons_succ]
  refine Reg.G.step (j := 7) (m := [false, false, true]) [6, 3, 1] rfl (by kernel_rfl) rfl (by kernel_rfl) (fun K hK => ?_)
  refine wp_bsl1 24 _ rfl (v0 := .agg x.cells.toArray) rfl (.slice (some ⟨Xd.heap.size, 0, none⟩) 1 1) (Xd.alloc (.cells x.cells.toArray 41)) ?hb1 ?hq1
  case hb1 => exact bsl_one HLX.out _
  obtain ⟨y1, hu⟩ : ∃ u, Xd.alloc (.cells x.cells.toArray 41) = u := ⟨_, rfl⟩
  rw [hu]
  have HG1 : Hid (Fr (fun _ => False) X y1) := by rw [← hu]; exact HFD.out.alloc _
  have HNA : Hid (∀ j y, x.cells[j]? = some y → y1.cell? ((⟨Xd.heap.size, 0, none⟩ : Addr).add j) = some y) := by rw [← hu]; exact cells_new Xd x.cells _ _ rfl
  clear hu
  refine hK.out _ _ ⟨HG1.out, trivial⟩ ?_
  clear hK K
  simp only [Act.put, List.setIfInBounds_toArray, List.set_cons_zero, List.set_cons_succ, Reg.Kept]
  refine Reg.G.step (j := 8) (m := [false]) [1] rfl (by kernel_rfl) rfl (by kernel_rfl) (fun K hK => ?_)
  have HOA : Hid (y1.ownsRow bo 41 33 (.slice Ao ds.length co) ds.length (ds.flatMap DT.cells)) := own_fr hb.own HG1.out (fun _ _ _ e => e)
  refine wp_append_lies y1 (.tmp 53) (.tmp 59) 24 rfl bo 41 j0 _ 33 368 Try.underlying24 hj hj0 hj1 hj2 rfl (by decide) (.slice Ao ds.length co) ds.length _ (by rfl) HOA.out ⟨Xd.heap.size, 0, none⟩ 1 1 x.cells (by rfl) x.cells_len HNA.out (one_all HLX.out.one) (by decide) (by simp only [maxLen]; omega) (by omega) (by have h1 := hb.lo; have h2 := hb.fr.size; have h3 := HG1.out.size; omega) (y1.heap.size) rfl ?_
  intro gn cn y2 g1 g2 g3 _
  have HOW : Hid (y2.ownsRow bo 41 33 (.slice (some ⟨gn, 0, none⟩) (ds.length + 1) cn) (ds ++ [x]).length ((ds ++ [x]).flatMap DT.cells)) := by
    have e1 : (ds ++ [x]).length = ds.length + 1 := by simp
    have e2 : (ds ++ [x]).flatMap DT.cells = ds.flatMap DT.cells ++ x.cells := by simp [List.flatMap_append]
    rw [e1, e2]
    exact g1
  have HLO : Hid (∀ k, (Value.slice Ao ds.length co).ownBlock = some k → bo ≤ k) := fun k hk => (own_lt HOA.out k hk).1
  have HGR : Hid (Fr (fun g => g = go ∨ bo ≤ g) Wb y2) := (hb.fr.trans' HG1.out (fun _ _ h => h.elim)).grown g2 (fun k hk => .inl (.inr (HLO.out k hk)))
  have HBK : Hid (y2.heap[go]? = some (.cells (scells s2.name s2.frm s2.days (.slice Ao ds.length co)).toArray 26 (0, 0))) := (Fr.of_grown g2).blk (HG1.out.blk hb.blk (fun h => h)) (fun e => hb.ne e)
  have HNE : Hid ((Value.slice (some ⟨gn, 0, none⟩) (ds.length + 1) cn).ownBlock ≠ some go) := fun e => by
    have e1 : gn = go := by simpa [Value.ownBlock] using e
    rcases g3 with g3 | g3
    · exact hb.ne (by rw [← e1]; exact g3)
    · have h1 := lt_of_blk hb.blk; have h2 := HG1.out.size; omega
  clear g1 g2 g3
  refine hK.out _ _ trivial ?_
  clear hK K
  simp only [Act.put, List.setIfInBounds_toArray, List.set_cons_zero, List.set_cons_succ, Reg.Kept]
  refine' Reg.G.pure (i := 9) (v := _) rfl (by rfl) (by kernel_rfl) (by kernel_rfl) (by kernel_rfl) (fun _ _ _ h => hP _ _ _ _ _ h) ?hyf16 ?rehyf16
  case hyf16 => exact fun w => by first | (go_simp; done) | (go_simp; with_reducible rfl)
  simp only [Act.put, List.setIfInBounds_toArray, List.set_cons_zero, List.set_cons_succ]
  refine Reg.G.step (j := 10) (m := []) [] rfl (by kernel_rfl) rfl (by kernel_rfl) (fun K hK => ?_)
  have ko : y2.cell? ⟨go, 5, none⟩ = some (.slice Ao ds.length co) := (cell_of_blk HBK.out 5).trans rfl
  have fo : y2.frozen? ⟨go, 5, none⟩ = false := froz_of_blk HBK.out 5
  go_simp
  obtain ⟨y3, hu⟩ : ∃ u, y2.setCell ⟨go, 5, none⟩ (.slice (some ⟨gn, 0, none⟩) (ds.length + 1) cn) = u := ⟨_, rfl⟩
  rw [hu]
  have HBK2 : Hid (y3.heap[go]? = some (.cells (scells s2.name s2.frm s2.days (.slice (some ⟨gn, 0, none⟩) (ds.length + 1) cn)).toArray 26 (0, 0))) := by rw [← hu]; exact blk_set HBK.out 5 _
  have HFL : Hid (Fr (fun g => g = go) y2 y3) := by rw [← hu]; exact (Fr.refl (fun g => g = go) y2).setb 5 _
  have HBD : Hid (Bld bo go s2 (ds ++ [x]) (.slice (some ⟨gn, 0, none⟩) (ds.length + 1) cn) Wb y3) := ⟨hb.lo, HBK2.out, own_frb HOW.out HFL.out (fun k hk e => HNE.out (by rw [hk, e])), HNE.out, HGR.out.trans' HFL.out (fun g _ e => .inl e)⟩
  clear hu ko fo
  refine hK.out _ _ trivial ?_
  clear hK K
  simp only [Act.put, List.setIfInBounds_toArray, List.set_cons_zero, List.set_cons_succ, Reg.Kept]
  refine Reg.G.done (by kernel_rfl) ?_
  exact hQ _ _ _ _ _ _ _ _ _ _ _ ⟨_, HBD.out⟩
set_option maxRecDepth 100000 in
set_option maxHeartbeats 8000000 in
theorem later_any (s : Rs.Source) (l : List DT) (v : Value) (W : World) (hL : LayL (fun g => g < W.heap.size) W l v) (hlb : l.length * 368 ≤ 140737488351232) :
    Calls Try.prog 15 #[.agg (scells s.name s.frm s.days v).toArray] W fun e w' => ∃ iv, e = .returned (.agg (scells s.name s.frm s.days iv).toArray) ∧ LayL (fun g => g < w'.heap.size) w' (laterL l) iv ∧ Fr (fun _ => False) W w' := by
  obtain ⟨A, cp, hv, _, _⟩ := hL.slice
  subst hv
  obtain ⟨w0, HW0⟩ : ∃ w0, Hid (W.alloc (.cells (scells s.name s.frm s.days (.slice A l.length cp)).toArray 26) = w0) := ⟨_, rfl⟩
  obtain ⟨w1, HW1⟩ : ∃ w1, Hid (w0.alloc (.cells #[.string ⟨#[]⟩, .int .i64 0, .int .i64 0, .int .i64 0, .int .i64 0, .slice none 0 0] 26) = w1) := ⟨_, rfl⟩
  have HF1 : Hid (Fr (fun _ => False) W w1) := by rw [← HW1.out, ← HW0.out]; exact ((Fr.refl _ W).alloc _).alloc _
  have HS1 : Hid (w1.heap[W.heap.size]? = some (.cells (scells s.name s.frm s.days (.slice A l.length cp)).toArray 26 (0, 0))) := by rw [← HW1.out, ← HW0.out]; exact blk_alloc (blk_newn rfl) _
  have HR1 : Hid (w1.heap[W.heap.size + 1]? = some (.cells #[.string ⟨#[]⟩, .int .i64 0, .int .i64 0, .int .i64 0, .int .i64 0, .slice none 0 0] 26 (0, 0))) := by rw [← HW1.out, ← HW0.out]; exact blk_newn (by simp)
  have HZ1 : Hid (w1.heap.size = W.heap.size + 2) := by show _ = _; rw [← HW1.out, ← HW0.out]; simp
  have HL1 : Hid (LayL (fun g => g < W.heap.size) w1 l (.slice A l.length cp)) := hL.fr HF1.out (fun _ _ h => h)
  have HLB := Lib.hid hlb
  have hz : l.length ≤ 9223372036854775807 := by omega
  have k0 : w1.cell? ⟨W.heap.size, 0, none⟩ = some (.string ⟨s.name.toArray⟩) := (cell_of_blk HS1.out 0).trans rfl
  have k1 : w1.cell? ⟨W.heap.size, 1, none⟩ = some (.int .i64 s.frm.y) := (cell_of_blk HS1.out 1).trans rfl
  have k2 : w1.cell? ⟨W.heap.size, 2, none⟩ = some (.int .i64 s.frm.m) := (cell_of_blk HS1.out 2).trans rfl
  have k3 : w1.cell? ⟨W.heap.size, 3, none⟩ = some (.int .i64 s.frm.d) := (cell_of_blk HS1.out 3).trans rfl
  have k4 : w1.cell? ⟨W.heap.size, 4, none⟩ = some (.int .i64 s.days) := (cell_of_blk HS1.out 4).trans rfl
  have k5 : w1.cell? ⟨W.heap.size, 5, none⟩ = some (.slice A l.length cp) := (cell_of_blk HS1.out 5).trans rfl
  clear hL hlb
  go_enter Try.func15, Try.ntmps15
  go_upto_region 1 with fail
  rw [HW0.out, HW1.out]
  clear HW0 HW1
  iterate 25 go_step
  refine wpList_store_row rfl 26 _ _ rfl w1.heap.size (scells s.name s.frm s.days (.slice none 0 0)).toArray rfl rfl 26 _ (blk_newn rfl) (info_src _ _ _ _) rfl (one_src _ _ _ _ _ _) ?_
  simp only [Act.put, List.setIfInBounds_toArray, List.set_cons_zero, List.set_cons_succ]
  rw [World.setRow_alloc_new]
  obtain ⟨w2, hn⟩ : ∃ u, w1.alloc (.cells (scells s.name s.frm s.days (.slice none 0 0)).toArray 26) = u := ⟨_, rfl⟩
  rw [hn]
  have HFB : Hid (Fr (fun _ => False) w1 w2) := by rw [← hn]; exact (Fr.refl _ w1).alloc _
  obtain ⟨go, hgo⟩ : ∃ g, w1.heap.size = g := ⟨_, rfl⟩
  rw [hgo]
  have HBG : Hid (w2.heap[go]? = some (.cells (scells s.name s.frm s.days (.slice none 0 0)).toArray 26 (0, 0))) := by rw [← hn, ← hgo]; exact blk_newn rfl
  have HSZ : Hid (go = W.heap.size + 2 ∧ w2.heap.size = go + 1) := by
    refine ⟨by rw [← hgo]; exact HZ1.out, ?_⟩
    rw [← hn, ← hgo]; simp
  clear hn hgo
  have HS2 : Hid (w2.heap[W.heap.size]? = some (.cells (scells s.name s.frm s.days (.slice A l.length cp)).toArray 26 (0, 0))) := HFB.out.blk HS1.out (fun h => h)
  have HR2 : Hid (w2.heap[W.heap.size + 1]? = some (.cells #[.string ⟨#[]⟩, .int .i64 0, .int .i64 0, .int .i64 0, .int .i64 0, .slice none 0 0] 26 (0, 0))) := HFB.out.blk HR1.out (fun h => h)
  have HL2 : Hid (LayL (fun g => g < W.heap.size) w2 l (.slice A l.length cp)) := HL1.out.fr HFB.out (fun _ _ h => h)
  have HF2 : Hid (Fr (fun _ => False) W w2) := HF1.out.trans HFB.out
  have HB0 : Hid (Bld (go + 1) go s (([] : List DT) ++ sel (fun x => !isDef x) l 0) (.slice none 0 0) w2 w2) := ⟨by have := HSZ.out; omega, HBG.out, World.ownsRow_nil _ _ _ _, by simp [Value.ownBlock], Fr.refl _ _⟩
  clear HFB HBG HS1 HR1 HL1 HF1 HZ1
  clear k0 k1 k2 k3 k4 k5
  go_wp2_with fail
  go_loopw [4] (fun i wr => ∃ (k : Nat) (iv : Value), i = .int .i64 k ∧ k ≤ l.length ∧ Hid (Bld (go + 1) go s (([] : List DT) ++ sel (fun x => !isDef x) l k) iv w2 wr)) (fun i _ => l.length - (intOf i).toNat)
  case atStart => exact ⟨0, _, rfl, Nat.zero_le _, HB0⟩
  case round =>
    clear HB0
    obtain ⟨k, iv, rfl, hk, HB⟩ := hrel
    have i1 : (0 : Int) ≤ (k : Int) := Int.natCast_nonneg _
    have HSr : Hid (wr.heap[W.heap.size]? = some (.cells (scells s.name s.frm s.days (.slice A l.length cp)).toArray 26 (0, 0))) := HB.out.fr.blk HS2.out (fun e => by have := HSZ.out; omega)
    have k5 : wr.cell? ⟨W.heap.size, 5, none⟩ = some (.slice A l.length cp) := (cell_of_blk HSr.out 5).trans rfl
    by_cases hlt : k < l.length
    · have i2 : (k : Int) < (l.length : Int) := by omega
      obtain ⟨x, hx⟩ : ∃ x, l[k]? = some x := ⟨_, List.getElem?_eq_getElem hlt⟩
      have HLr : Hid (LayL (fun g => g < W.heap.size) wr l (.slice A l.length cp)) := (HL2.out.fr HB.out.fr (fun g hg e => by have := HSZ.out; omega))
      obtain ⟨g, o, hA, hg, _, hat⟩ := HLr.out.at hx
      subst hA
      have c0 : wr.cell? ⟨g, o + k * 33, none⟩ = some (.int .i64 x.h.kind) := hat 0 _ (by rw [DT.cells_eq]; rfl)
      have HX := Lib.hid hx
      have HLT := Lib.hid hlt
      have HCD := Lib.hid (rDefines_any x.h.kind wr)
      have HNX := Lib.hid (sel_next (p := (fun x => !isDef x)) hx)
      clear hat hg hx hlt
      cases hd : defines x.h.kind with
      | false =>
        rw [hd] at HCD
        have HP : Hid (sel (fun x => !isDef x) l (k + 1) = sel (fun x => !isDef x) l k ++ [x]) := HNX.out.trans (if_pos (by simp [isDef, hd]))
        have HKL : Hid (([] : List DT).length + (sel (fun x => !isDef x) l k).length + 1 ≤ l.length) := by
          have h1 := sel_filter (fun x => !isDef x) l (k + 1)
          rw [HP.out, List.length_append] at h1
          have h2 := fil_split l
          simp only [List.length_cons, List.length_nil] at h1 ⊢
          show _ ≤ _
          omega
        clear hd
        go_wp2_with fail
        refine HCD.out.mono ?_
        rintro e wq ⟨rfl, hwq⟩
        have hwq := hwq.symm
        subst hwq
        clear HCD k5 c0
        go_upto_region 6 with fail
        refine later_r6 (by kernel_rfl) HB.out HS2.out ⟨by have := HSZ.out; omega, by have := HSZ.out; omega⟩ (HL2.out.mono (fun g _ hg => ⟨by have := HSZ.out; omega, by have := HSZ.out; omega⟩)) HX.out (by have h1 := HKL.out; have h2 := HLB.out; rw [List.length_append]; omega) (fun _ _ _ _ _ h => h) ?_
        intro v28 v29 v30 v31 v32 v33 v34 v35 v36 v37 wy hb2
        obtain ⟨iv2, hb2⟩ := hb2
        rw [List.append_assoc, ← HP.out] at hb2
        have HB2 := Lib.hid hb2
        clear hb2
        go_wp2_with fail
        go_roundw
        case rel => exact (⟨k + 1, iv2, by go_num, HLT.out, HB2⟩)
        case measure => have := HLT.out; simp [intOf]; omega
      | true =>
        rw [hd] at HCD
        have HP : Hid (sel (fun x => !isDef x) l (k + 1) = sel (fun x => !isDef x) l k) := HNX.out.trans (if_neg (by simp [isDef, hd]))
        clear hd
        go_wp2_with fail
        refine HCD.out.mono ?_
        rintro e wq ⟨rfl, hwq⟩
        have hwq := hwq.symm
        subst hwq
        clear HCD k5 c0
        have HB2 : Hid (Bld (go + 1) go s (([] : List DT) ++ sel (fun x => !isDef x) l (k + 1)) iv w2 wr) := by rw [HP.out]; exact HB.out
        go_wp2_with fail
        go_roundw
        case rel => exact (⟨k + 1, iv, by go_num, HLT.out, HB2⟩)
        case measure => have := HLT.out; simp [intOf]; omega
    · obtain rfl : k = l.length := by omega
      have HBE : Hid (Bld (go + 1) go s (([] : List DT) ++ l.filter (fun x => !isDef x)) iv w2 wr) := by rw [← sel_all (fun x => !isDef x) l]; exact HB.out
      clear HB hk i1
      have k5 : wr.cell? ⟨W.heap.size, 5, none⟩ = some (.slice A l.length cp) := by assumption
      have HB0 : Hid (Bld (go + 1) go s ((l.filter fun x => !isDef x) ++ sel isDef l 0) iv w2 wr) := by rw [sel_zero, List.append_nil]; exact HBE.out
      clear HBE HSr k5
      go_wp2_with fail
      obtain ⟨wz, rfl⟩ : ∃ w : World, w = wr := ⟨_, rfl⟩
      go_loopw [5] (fun i wr => ∃ (k : Nat) (iv : Value), i = .int .i64 k ∧ k ≤ l.length ∧ Hid (Bld (go + 1) go s ((l.filter fun x => !isDef x) ++ sel isDef l k) iv w2 wr)) (fun i _ => l.length - (intOf i).toNat)
      case atStart => exact ⟨0, _, rfl, Nat.zero_le _, HB0⟩
      case round =>
        clear HB0
        obtain ⟨k, iv, rfl, hk, HB⟩ := hrel
        have i1 : (0 : Int) ≤ (k : Int) := Int.natCast_nonneg _
        have HSr : Hid (wr.heap[W.heap.size]? = some (.cells (scells s.name s.frm s.days (.slice A l.length cp)).toArray 26 (0, 0))) := HB.out.fr.blk HS2.out (fun e => by have := HSZ.out; omega)
        have k5 : wr.cell? ⟨W.heap.size, 5, none⟩ = some (.slice A l.length cp) := (cell_of_blk HSr.out 5).trans rfl
        by_cases hlt : k < l.length
        · have i2 : (k : Int) < (l.length : Int) := by omega
          obtain ⟨x, hx⟩ : ∃ x, l[k]? = some x := ⟨_, List.getElem?_eq_getElem hlt⟩
          have HLr : Hid (LayL (fun g => g < W.heap.size) wr l (.slice A l.length cp)) := (HL2.out.fr HB.out.fr (fun g hg e => by have := HSZ.out; omega))
          obtain ⟨g, o, hA, hg, _, hat⟩ := HLr.out.at hx
          subst hA
          have c0 : wr.cell? ⟨g, o + k * 33, none⟩ = some (.int .i64 x.h.kind) := hat 0 _ (by rw [DT.cells_eq]; rfl)
          have HX := Lib.hid hx
          have HLT := Lib.hid hlt
          have HCD := Lib.hid (rDefines_any x.h.kind wr)
          have HNX := Lib.hid (sel_next (p := isDef) hx)
          clear hat hg hx hlt
          cases hd : defines x.h.kind with
          | true =>
            rw [hd] at HCD
            have HP : Hid (sel isDef l (k + 1) = sel isDef l k ++ [x]) := HNX.out.trans (if_pos (by simp [isDef, hd]))
            have HKL : Hid ((l.filter fun x => !isDef x).length + (sel isDef l k).length + 1 ≤ l.length) := by
              have h1 := sel_filter isDef l (k + 1)
              rw [HP.out, List.length_append] at h1
              have h2 := fil_split l
              simp only [List.length_cons, List.length_nil] at h1 ⊢
              show _ ≤ _
              omega
            clear hd
            go_wp2_with fail
            refine HCD.out.mono ?_
            rintro e wq ⟨rfl, hwq⟩
            have hwq := hwq.symm
            subst hwq
            clear HCD k5 c0
            go_upto_region 11 with fail
            refine later_r11 (by kernel_rfl) HB.out HS2.out ⟨by have := HSZ.out; omega, by have := HSZ.out; omega⟩ (HL2.out.mono (fun g _ hg => ⟨by have := HSZ.out; omega, by have := HSZ.out; omega⟩)) HX.out (by have h1 := HKL.out; have h2 := HLB.out; rw [List.length_append]; omega) (fun _ _ _ _ _ h => h) ?_
            intro v52 v53 v54 v55 v56 v57 v58 v59 v60 v61 wy hb2
            obtain ⟨iv2, hb2⟩ := hb2
            rw [List.append_assoc, ← HP.out] at hb2
            have HB2 := Lib.hid hb2
            clear hb2
            go_wp2_with fail
            go_roundw
            case rel => exact (⟨k + 1, iv2, by go_num, HLT.out, HB2⟩)
            case measure => have := HLT.out; simp [intOf]; omega
          | false =>
            rw [hd] at HCD
            have HP : Hid (sel isDef l (k + 1) = sel isDef l k) := HNX.out.trans (if_neg (by simp [isDef, hd]))
            clear hd
            go_wp2_with fail
            refine HCD.out.mono ?_
            rintro e wq ⟨rfl, hwq⟩
            have hwq := hwq.symm
            subst hwq
            clear HCD k5 c0
            have HB2 : Hid (Bld (go + 1) go s ((l.filter fun x => !isDef x) ++ sel isDef l (k + 1)) iv w2 wr) := by rw [HP.out]; exact HB.out
            go_wp2_with fail
            go_roundw
            case rel => exact (⟨k + 1, iv, by go_num, HLT.out, HB2⟩)
            case measure => have := HLT.out; simp [intOf]; omega
        · obtain rfl : k = l.length := by omega
          have HBE : Hid (Bld (go + 1) go s ((l.filter fun x => !isDef x) ++ l.filter isDef) iv w2 wr) := by rw [← sel_all isDef l]; exact HB.out
          clear HB hk i1
          obtain ⟨Ao, co, hiv⟩ := own_form HBE.out.own
          subst hiv
          have HBE : Hid (Bld (go + 1) go s (laterL l) (.slice Ao (laterL l).length co) w2 wr) := HBE
          have HRr : Hid (wr.heap[W.heap.size + 1]? = some (.cells #[.string ⟨#[]⟩, .int .i64 0, .int .i64 0, .int .i64 0, .int .i64 0, .slice none 0 0] 26 (0, 0))) := HBE.out.fr.blk HR2.out (fun e => by have := HSZ.out; omega)
          have b0 : wr.cell? ⟨go, 0, none⟩ = some (.string ⟨s.name.toArray⟩) := (cell_of_blk HBE.out.blk 0).trans rfl
          have b1 : wr.cell? ⟨go, 1, none⟩ = some (.int .i64 s.frm.y) := (cell_of_blk HBE.out.blk 1).trans rfl
          have b2 : wr.cell? ⟨go, 2, none⟩ = some (.int .i64 s.frm.m) := (cell_of_blk HBE.out.blk 2).trans rfl
          have b3 : wr.cell? ⟨go, 3, none⟩ = some (.int .i64 s.frm.d) := (cell_of_blk HBE.out.blk 3).trans rfl
          have b4 : wr.cell? ⟨go, 4, none⟩ = some (.int .i64 s.days) := (cell_of_blk HBE.out.blk 4).trans rfl
          have b5 : wr.cell? ⟨go, 5, none⟩ = some (.slice Ao (laterL l).length co) := (cell_of_blk HBE.out.blk 5).trans rfl
          go_upto_region 12 with fail
          iterate 4 go_step
          refine wpList_store_row rfl 26 _ _ rfl (W.heap.size + 1) (scells s.name s.frm s.days (.slice Ao (laterL l).length co)).toArray rfl rfl 26 _ HRr.out (info_src _ _ _ _) rfl (one_src _ _ _ _ _ _) ?_
          simp only [Act.put, List.setIfInBounds_toArray, List.set_cons_zero, List.set_cons_succ]
          obtain ⟨w9, hw9⟩ : ∃ w9, wr.setRow (W.heap.size + 1) (scells s.name s.frm s.days (.slice Ao (laterL l).length co)).toArray = w9 := ⟨_, rfl⟩
          rw [hw9]
          have HB9 : Hid (w9.heap[W.heap.size + 1]? = some (.cells (scells s.name s.frm s.days (.slice Ao (laterL l).length co)).toArray 26 (0, 0))) := by rw [← hw9]; exact blk_row HRr.out _
          have HF9 : Hid (Fr (fun j => j = W.heap.size + 1) wr w9) := by rw [← hw9]; exact (Fr.refl (fun j => j = W.heap.size + 1) wr).setRow (.inl rfl) _
          clear hw9
          go_wp2_with fail
          refine bodyPost_ret (results_blk Try.results15 rfl HB9.out Try.underlying26 rfl (info_src _ _ _ _)) rfl ?_
          have hsz := HSZ.out
          have hlay := HBE.out.lay (l := l) (B := fun g => g < W.heap.size) (fun g hg => ⟨by omega, by omega⟩) (fun x hx => HL2.out.lay x (later_mem hx))
          refine ⟨_, rfl, (hlay.fr HF9.out (fun g hg e => by omega)).mono (fun g hg _ => hg), ?_⟩
          exact HF2.out.trans' ((HBE.out.fr.mono (T := fun g => g = W.heap.size + 1 ∨ (g = go ∨ go + 1 ≤ g)) (fun g _ h => .inr h)).trans (HF9.out.mono (fun g _ e => .inl e))) (fun g hg e => by omega)
end Go.Proofs.Yticakdajhmfpoaa.Ic
