/-
  The walk of IncludePrefix.
-/
import Derived.Test.YticakdajhmfpoaaIncLaws4
import Derived.Test.YticakdajhmfpoaaIncLater
import Derived.Test.YticakdajhmfpoaaIncLaws2
import Derived.Test.YticakdajhmfpoaaIncHead2
import Derived.Laws.StructEq
namespace Go.Proofs.Yticakdajhmfpoaa
open Go.RowKit Mem Vw Rs Ic
set_option linter.unusedVariables false
set_option linter.unusedSimpArgs false

theorem wpList_load_row_g {P : Program} {ops : Array Oper} {rest : List Oper} {op : Oper} {a : Act} {w : World} {Q : Exit → Act → World → Prop} (hw : Region.wanted op (yielded ops a.tmps) = true) (ty : TypeId) (x : Operand) (ho : op.op = .load ty x)
    (b : Nat) (hx : a.eval x = .pointer (some ⟨b, 0, none⟩)) (cs : List Value) (t : TypeId) (d : TypeDesc) (hc : w.heap[b]? = some (.cells cs.toArray t (0, 0)))
    (hu : P.underlying ty = some d) (hd : d.isRow = true) (hi : (P.info? ty).map (·.size) = some cs.length)
    (h : wpList P ops Q rest (a.put op.dst (.agg cs.toArray)) w) : wpList P ops Q (op :: rest) a w :=
  wpList_step fun _ hK => by rw [if_pos hw]; exact wp_load_mid ty x ho b 0 hx cs d (At.of_blk hc) hu hd hi (hK _ _ h)
theorem wpList_bsl1_g {ops : Array Oper} {rest : List Oper} {o : Oper} {a : Act} {w : World} {Q : Exit → Act → World → Prop} (hw : Region.wanted o (yielded ops a.tmps) = true) (t : TypeId) (x : Operand) (hop : o.op = .buildSlice t 1 #[(0, x)]) {v0 : Value} (hx : a.eval x = v0) (v : Value) (w' : World) (hb : (Instr.buildSlice t 1 #[(0, v0)]).run Try.prog w = .ok v w') (h : wpList Try.prog ops Q rest (a.put o.dst v) w') : wpList Try.prog ops Q (o :: rest) a w :=
  wpList_step fun _ hK => by rw [if_pos hw]; exact wp_bsl1 t x hop hx v w' hb (hK _ _ h)
/-- An item that is made an inclusion without items. -/
def asIncl (x : DT) : DT := .node { x.h with kind := 14 } x.c x.d x.n Vw.nil []
theorem asIncl_lay {B : Nat → Prop} {w : World} {x : DT} (h : Lay B w x) : Lay B w (asIncl x) := .node _ _ _ _ _ _ h.conds h.dates h.names (RowB.nil B w 33) (fun y hy => absurd hy List.not_mem_nil)
theorem asIncl_cells (x : DT) : (x.cells.set 0 (.int .i64 14)).set 32 (.slice none 0 0) = (asIncl x).cells := by
  cases x; rfl
theorem asIncl_tsz (x : DT) : tsz [asIncl x] = 1 := rfl
set_option maxRecDepth 100000 in
set_option maxHeartbeats 16000000 in
theorem prefix_r11 {Wb X : World} {bo go gs g o k cp : Nat} {l ds : List DT} {s2 s : Rs.Source} {iv : Value} {x : DT} {u0 u1 u3 u4 u5 u8 u9 u10 u11 u12 u13 u14 u15 u16 u17 u18 u19 u20 u21 u22 u23 u24 u25 u26 u27 u28 u29 u30 u31 u32 u33 u34 u35 u36 u37 u38 u39 u40 u41 u42 u43 u44 u45 u46 u47 u48 u49 u50 u51 u52 u53 u54 u55 u56 u57 u58 u59 u60 u61 u62 u63 u64 u65 u66 u67 u68 u69 u70 u71 u72 u73 u74 u75 u76 u77 u78 u79 u80 u81 u82 u83 u84 u85 u86 u87 u88 u89 u90 u91 u92 u93 u94 u95 u96 u97 u98 u99 u100 u101 u102 u103 u104 u105 : Value} {Q : Exit → Act → World → Prop} {C : Code} (hC : C = Cut.region Try.f5 11) (hb : Bld bo go s2 ds iv Wb X) (hs : Wb.heap[gs]? = some (.cells (scells s.name s.frm s.days (.slice (some ⟨g, o, none⟩) l.length cp)).toArray 26 (0, 0))) (hgs : gs < bo ∧ gs ≠ go) (hL : LayL (fun g => g < bo ∧ g ≠ go) Wb l (.slice (some ⟨g, o, none⟩) l.length cp)) (hx : l[k]? = some x) (hd : (ds.length + 1) * 368 ≤ 140737488355328) (hP : Cut.Blind Q)
    (hQ : ∀ (v43 v44 v45 v46 v47 v48 v49 v50 v51 v52 : Value) (wx : World), (∃ iv2, Bld bo go s2 (ds ++ [x]) iv2 Wb wx) → Q .normal ⟨#[u0, u1, .pointer (some ⟨gs, 0, none⟩), u3, u4, u5, .pointer (some ⟨go, 0, none⟩), .int .i64 ((k : Nat) : Int), u8, u9, u10, u11, u12, u13, u14, u15, u16, u17, u18, u19, u20, u21, u22, u23, u24, u25, u26, u27, u28, u29, u30, u31, u32, u33, u34, u35, u36, u37, u38, u39, u40, u41, u42, v43, v44, v45, v46, v47, v48, v49, v50, v51, v52, u53, u54, u55, u56, u57, u58, u59, u60, u61, u62, u63, u64, u65, u66, u67, u68, u69, u70, u71, u72, u73, u74, u75, u76, u77, u78, u79, u80, u81, u82, u83, u84, u85, u86, u87, u88, u89, u90, u91, u92, u93, u94, u95, u96, u97, u98, u99, u100, u101, u102, u103, u104, u105], []⟩ wx) :
    Code.wp Try.prog C Q ⟨#[u0, u1, .pointer (some ⟨gs, 0, none⟩), u3, u4, u5, .pointer (some ⟨go, 0, none⟩), .int .i64 ((k : Nat) : Int), u8, u9, u10, u11, u12, u13, u14, u15, u16, u17, u18, u19, u20, u21, u22, u23, u24, u25, u26, u27, u28, u29, u30, u31, u32, u33, u34, u35, u36, u37, u38, u39, u40, u41, u42, u43, u44, u45, u46, u47, u48, u49, u50, u51, u52, u53, u54, u55, u56, u57, u58, u59, u60, u61, u62, u63, u64, u65, u66, u67, u68, u69, u70, u71, u72, u73, u74, u75, u76, u77, u78, u79, u80, u81, u82, u83, u84, u85, u86, u87, u88, u89, u90, u91, u92, u93, u94, u95, u96, u97, u98, u99, u100, u101, u102, u103, u104, u105], []⟩ X := by
  subst hC
  conv => arg 2; whnf
  refine Reg.G.start (by kernel_rfl) ?_
  obtain ⟨Xd, HXd⟩ : ∃ Y, Hid (X.drew = Y) := ⟨_, rfl⟩
  have HFD : Hid (Fr (fun _ => False) X Xd) := by rw [← HXd.out]; exact (Fr.refl _ X).drew
  obtain ⟨Ao, co, hao⟩ := own_form hb.own
  subst hao
  obtain ⟨j0, hj, hj0, hj1, hj2⟩ := info_parts cinfo_item
  have hLX := hL.fr hb.fr (fun g hg e => by have := hg.1; omega)
  have HLX : Hid (Lay _ X x) := hLX.lay x (List.mem_of_getElem? hx)
  have HSB : Hid (X.heap[gs]? = some (.cells (scells s.name s.frm s.days (.slice (some ⟨g, o, none⟩) l.length cp)).toArray 26 (0, 0))) := hb.fr.blk hs (fun e => by omega)
  obtain ⟨g0, o0, e0, hg0, _, hax⟩ := hLX.at hx
  injection e0 with e0; injection e0 with e1 e2 _; subst e1; subst e2
  have HAT : Hid (∀ w, Fr (fun _ => False) X w → At w g (o + k * 33) x.cells) := fun w hw => At.fr hax hg0 hw (fun h => h)
  have hlt : k < l.length := (List.getElem?_eq_some_iff.1 hx).1
  have i1 : (0 : Int) ≤ (k : Int) := Int.natCast_nonneg _
  have i2 : (k : Int) < (l.length : Int) := by omega
  have n1 : (0 : Int) ≤ (ds.length : Int) := Int.natCast_nonneg _
  clear hax hLX
  rw [HXd.out]
  clear HXd
  refine' Reg.G.pure (i := 0) (v := _) rfl (by rfl) (by kernel_rfl) (by kernel_rfl) (by kernel_rfl) (fun _ _ _ h => hP _ _ _ _ _ h) ?hye17 ?rehye17
  case hye17 => exact fun w => by first | (go_simp; done) | (go_simp; with_reducible rfl)
  simp only [Act.put, List.setIfInBounds_toArray, List.set_cons_zero, List.set_cons_succ]
  refine' Reg.G.take (i := 1) (v := _) (F := (fun w => Fr (fun _ => False) X w)) rfl (by rfl) (by kernel_rfl) (by kernel_rfl) (by kernel_rfl) (fun _ _ _ h => hP _ _ _ _ _ h) (HFD.out) ?hye18 ?rehye18
  case hye18 => intro w hw; have kc : w.cell? ⟨go, 5, none⟩ = some (.slice Ao ds.length co) := (cell_of_blk (hw.blk hb.blk (fun h => h)) 5).trans rfl; clear hw; first | (go_simp; done) | (go_simp; with_reducible rfl)
  simp only [Act.put, List.setIfInBounds_toArray, List.set_cons_zero, List.set_cons_succ]
  refine' Reg.G.pure (i := 2) (v := _) rfl (by rfl) (by kernel_rfl) (by kernel_rfl) (by kernel_rfl) (fun _ _ _ h => hP _ _ _ _ _ h) ?hye19 ?rehye19
  case hye19 => exact fun w => by first | (go_simp; done) | (go_simp; with_reducible rfl)
  simp only [Act.put, List.setIfInBounds_toArray, List.set_cons_zero, List.set_cons_succ]
  refine' Reg.G.take (i := 3) (v := _) (F := (fun w => Fr (fun _ => False) X w)) rfl (by rfl) (by kernel_rfl) (by kernel_rfl) (by kernel_rfl) (fun _ _ _ h => hP _ _ _ _ _ h) (HFD.out) ?hye20 ?rehye20
  case hye20 => intro w hw; have kc : w.cell? ⟨gs, 5, none⟩ = some (.slice (some ⟨g, o, none⟩) l.length cp) := (cell_of_blk (hw.blk HSB.out (fun h => h)) 5).trans rfl; clear hw; first | (go_simp; done) | (go_simp; with_reducible rfl)
  simp only [Act.put, List.setIfInBounds_toArray, List.set_cons_zero, List.set_cons_succ]
  refine' Reg.G.pure (i := 4) (v := _) rfl (by rfl) (by kernel_rfl) (by kernel_rfl) (by kernel_rfl) (fun _ _ _ h => hP _ _ _ _ _ h) ?hye21 ?rehye21
  case hye21 => exact fun w => by first | (go_simp; done) | (go_simp; with_reducible rfl)
  simp only [Act.put, List.setIfInBounds_toArray, List.set_cons_zero, List.set_cons_succ]
  refine' Reg.G.pure (i := 5) (v := _) rfl (by rfl) (by kernel_rfl) (by kernel_rfl) (by kernel_rfl) (fun _ _ _ h => hP _ _ _ _ _ h) ?hye22 ?rehye22
  case hye22 => exact fun w => by first | (go_simp; done) | (go_simp; with_reducible rfl)
  simp only [Act.put, List.setIfInBounds_toArray, List.set_cons_zero, List.set_cons_succ]
  refine' Reg.G.take (i := 6) (v := _) (F := (fun w => Fr (fun _ => False) X w)) rfl (by rfl) (by kernel_rfl) (by kernel_rfl) (by kernel_rfl) (fun _ _ _ h => hP _ _ _ _ _ h) (HFD.out) ?hye23 ?rehye23
  case hye23 => intro w hw; refine run_load_at 41 (.tmp 48) ?_ g (o + k * 33) ?_ x.cells _ (HAT.out w hw) Try.underlying41 rfl (info_itl x) <;> rfl
  simp only [Act.put, List.setIfInBounds_toArray, List.set_cons_zero, List.set_cons_succ]
  refine Reg.G.step (j := 7) (m := [false, false, true]) [6, 3, 1] rfl (by kernel_rfl) rfl (by kernel_rfl) (fun K hK => ?_)
  refine wp_bsl1 24 _ rfl (v0 := .agg x.cells.toArray) rfl (.slice (some ⟨Xd.heap.size, 0, none⟩) 1 1) (Xd.alloc (.cells x.cells.toArray 41)) ?hb1 ?hq1
  case hb1 => exact bsl_one HLX.out _
  obtain ⟨y1, hu⟩ : ∃ u, Xd.alloc (.cells x.cells.toArray 41) = u := ⟨_, rfl⟩
  rw [hu]
  have HG1 : Hid (Fr (fun _ => False) X y1) := by rw [← hu]; exact HFD.out.alloc _
  have HNA : Hid (∀ j y, x.cells[j]? = some y → y1.cell? ((⟨Xd.heap.size, 0, none⟩ : Addr).add j) = some y) := by rw [← hu]; exact cells_new Xd x.cells _ _ rfl
  clear hu
  refine hK.out _ _ ⟨HG1.out, trivial⟩ ?_
  clear hK K
  simp only [Act.put, List.setIfInBounds_toArray, List.set_cons_zero, List.set_cons_succ, Reg.Kept]
  refine Reg.G.step (j := 8) (m := [false]) [1] rfl (by kernel_rfl) rfl (by kernel_rfl) (fun K hK => ?_)
  have HOA : Hid (y1.ownsRow bo 41 33 (.slice Ao ds.length co) ds.length (ds.flatMap DT.cells)) := own_fr hb.own HG1.out (fun _ _ _ e => e)
  refine wp_append_lies y1 (.tmp 44) (.tmp 50) 24 rfl bo 41 j0 _ 33 368 Try.underlying24 hj hj0 hj1 hj2 rfl (by decide) (.slice Ao ds.length co) ds.length _ (by rfl) HOA.out ⟨Xd.heap.size, 0, none⟩ 1 1 x.cells (by rfl) x.cells_len HNA.out (one_all HLX.out.one) (by decide) (by simp only [maxLen]; omega) (by omega) (by have h1 := hb.lo; have h2 := hb.fr.size; have h3 := HG1.out.size; omega) (y1.heap.size) rfl ?_
  intro gn cn y2 g1 g2 g3 _
  have HOW : Hid (y2.ownsRow bo 41 33 (.slice (some ⟨gn, 0, none⟩) (ds.length + 1) cn) (ds ++ [x]).length ((ds ++ [x]).flatMap DT.cells)) := by
    have e1 : (ds ++ [x]).length = ds.length + 1 := by simp
    have e2 : (ds ++ [x]).flatMap DT.cells = ds.flatMap DT.cells ++ x.cells := by simp [List.flatMap_append]
    rw [e1, e2]
    exact g1
  have HLO : Hid (∀ k, (Value.slice Ao ds.length co).ownBlock = some k → bo ≤ k) := fun k hk => (own_lt HOA.out k hk).1
  have HGR : Hid (Fr (fun g => g = go ∨ bo ≤ g) Wb y2) := (hb.fr.trans' HG1.out (fun _ _ h => h.elim)).grown g2 (fun k hk => .inl (.inr (HLO.out k hk)))
  have HBK : Hid (y2.heap[go]? = some (.cells (scells s2.name s2.frm s2.days (.slice Ao ds.length co)).toArray 26 (0, 0))) := (Fr.of_grown g2).blk (HG1.out.blk hb.blk (fun h => h)) (fun e => hb.ne e)
  have HNE : Hid ((Value.slice (some ⟨gn, 0, none⟩) (ds.length + 1) cn).ownBlock ≠ some go) := fun e => by
    have e1 : gn = go := by simpa [Value.ownBlock] using e
    rcases g3 with g3 | g3
    · exact hb.ne (by rw [← e1]; exact g3)
    · have h1 := lt_of_blk hb.blk; have h2 := HG1.out.size; omega
  clear g1 g2 g3
  refine hK.out _ _ trivial ?_
  clear hK K
  simp only [Act.put, List.setIfInBounds_toArray, List.set_cons_zero, List.set_cons_succ, Reg.Kept]
  refine' Reg.G.pure (i := 9) (v := _) rfl (by rfl) (by kernel_rfl) (by kernel_rfl) (by kernel_rfl) (fun _ _ _ h => hP _ _ _ _ _ h) ?hye24 ?rehye24
  case hye24 => exact fun w => by first | (go_simp; done) | (go_simp; with_reducible rfl)
  simp only [Act.put, List.setIfInBounds_toArray, List.set_cons_zero, List.set_cons_succ]
  refine Reg.G.step (j := 10) (m := []) [] rfl (by kernel_rfl) rfl (by kernel_rfl) (fun K hK => ?_)
  have ko : y2.cell? ⟨go, 5, none⟩ = some (.slice Ao ds.length co) := (cell_of_blk HBK.out 5).trans rfl
  have fo : y2.frozen? ⟨go, 5, none⟩ = false := froz_of_blk HBK.out 5
  go_simp
  obtain ⟨y3, hu⟩ : ∃ u, y2.setCell ⟨go, 5, none⟩ (.slice (some ⟨gn, 0, none⟩) (ds.length + 1) cn) = u := ⟨_, rfl⟩
  rw [hu]
  have HBK2 : Hid (y3.heap[go]? = some (.cells (scells s2.name s2.frm s2.days (.slice (some ⟨gn, 0, none⟩) (ds.length + 1) cn)).toArray 26 (0, 0))) := by rw [← hu]; exact blk_set HBK.out 5 _
  have HFL : Hid (Fr (fun g => g = go) y2 y3) := by rw [← hu]; exact (Fr.refl (fun g => g = go) y2).setb 5 _
  have HBD : Hid (Bld bo go s2 (ds ++ [x]) (.slice (some ⟨gn, 0, none⟩) (ds.length + 1) cn) Wb y3) := ⟨hb.lo, HBK2.out, own_frb HOW.out HFL.out (fun k hk e => HNE.out (by rw [hk, e])), HNE.out, HGR.out.trans' HFL.out (fun g _ e => .inl e)⟩
  clear hu ko fo
  refine hK.out _ _ trivial ?_
  clear hK K
  simp only [Act.put, List.setIfInBounds_toArray, List.set_cons_zero, List.set_cons_succ, Reg.Kept]
  refine Reg.G.done (by kernel_rfl) ?_
  exact hQ _ _ _ _ _ _ _ _ _ _ _ ⟨_, HBD.out⟩
set_option maxRecDepth 100000 in
set_option maxHeartbeats 8000000 in
theorem walk_IncludePrefix (s : Rs.Source) (l : List DT) (si : Value) (x : DT) (W : World) (hL : LayL All W l si) (hok : ∀ x ∈ l, DOk x) (hlen : l.length * 368 ≤ 140737488351232) (hx : Lay All W x) (hxo : DOk x) :
    Calls Try.prog 5 #[.agg (scells s.name s.frm s.days si).toArray, .agg x.cells.toArray] W fun e w' => e = .returned (.bool true) ∧ Below W.heap.size W w' := by
  obtain ⟨A, cp, hsi, _, _⟩ := hL.slice
  subst hsi
  obtain ⟨w0, HW0⟩ : ∃ w0, Hid ((W.alloc (.cells (scells s.name s.frm s.days (.slice A l.length cp)).toArray 26)).alloc (.cells x.cells.toArray 41) = w0) := ⟨_, rfl⟩
  have HB0 : Hid (w0.heap[W.heap.size]? = some (.cells (scells s.name s.frm s.days (.slice A l.length cp)).toArray 26 (0, 0))) := by rw [← HW0.out]; exact blk_alloc (blk_newn rfl) _
  have HX0 : Hid (w0.heap[W.heap.size + 1]? = some (.cells x.cells.toArray 41 (0, 0))) := by rw [← HW0.out]; exact blk_newn (by simp)
  have HF0 : Hid (Fr (fun _ => False) W w0) := by rw [← HW0.out]; exact ((Fr.refl _ W).alloc _).alloc _
  have HL0 : Hid (LayL (fun g => g < W.heap.size) W l (.slice A l.length cp)) := hL.mono (fun g hg _ => hg)
  have HLX : Hid (Lay (fun g => g < W.heap.size) W (asIncl x)) := asIncl_lay (hx.mono (fun g hg _ => hg))
  have HOK := Lib.hid hok; have HLEN := Lib.hid hlen
  clear hL hok hlen hx hxo
  go_enter Try.func5, Try.ntmps5
  go_upto_region 1 with fail
  rw [HW0.out]
  clear HW0
  go_wp2_with fail
  refine (head_any _).mono ?_
  rintro e w1 ⟨rfl, hf1⟩
  have HF1 : Hid (Fr (fun _ => False) W w1) := HF0.out.trans hf1
  have HB1 : Hid (w1.heap[W.heap.size]? = some (.cells (scells s.name s.frm s.days (.slice A l.length cp)).toArray 26 (0, 0))) := hf1.blk HB0.out (fun h => h)
  have HX1 : Hid (w1.heap[W.heap.size + 1]? = some (.cells x.cells.toArray 41 (0, 0))) := hf1.blk HX0.out (fun h => h)
  clear hf1 HB0 HX0 HF0
  have c0 : w1.cell? ⟨W.heap.size + 1, 0, none⟩ = some (.int .i64 x.h.kind) := by rw [cell_of_blk HX1.out, DT.cells_eq]; rfl
  have f0 : w1.frozen? ⟨W.heap.size + 1, 0, none⟩ = false := froz_of_blk HX1.out 0
  obtain ⟨u1, hu1⟩ : ∃ u, w1.setCell ⟨W.heap.size + 1, 0, none⟩ (.int .i64 14) = u := ⟨_, rfl⟩
  have HU1 : Hid (u1.heap[W.heap.size + 1]? = some (.cells (x.cells.set 0 (.int .i64 14)).toArray 41 (0, 0))) := by
    rw [← hu1]
    have h := blk_set HX1.out 0 (.int .i64 14)
    rw [List.setIfInBounds_toArray] at h
    exact h
  have HFu1 : Hid (Fr (fun g => g = W.heap.size + 1) w1 u1) := by rw [← hu1]; exact (Fr.refl (fun g => g = W.heap.size + 1) w1).setb 0 _
  have c32 : u1.cell? ⟨W.heap.size + 1, 32, none⟩ = some x.i := by rw [cell_of_blk HU1.out, DT.cells_eq]; rfl
  have f32 : u1.frozen? ⟨W.heap.size + 1, 32, none⟩ = false := froz_of_blk HU1.out 32
  obtain ⟨w2, hw2⟩ : ∃ u, u1.setCell ⟨W.heap.size + 1, 32, none⟩ (.slice none 0 0) = u := ⟨_, rfl⟩
  have HX2 : Hid (w2.heap[W.heap.size + 1]? = some (.cells (asIncl x).cells.toArray 41 (0, 0))) := by
    rw [← hw2]
    have h := blk_set HU1.out 32 (.slice none 0 0)
    rw [List.setIfInBounds_toArray, asIncl_cells] at h
    exact h
  have HF2 : Hid (Fr (fun _ => False) W w2) := by
    rw [← hw2]
    have h := (Fr.refl (fun g => g = W.heap.size + 1) u1).setb 32 (.slice none 0 0)
    exact HF1.out.trans' (HFu1.out.trans h) (fun g hg e => by omega)
  have HB2 : Hid (w2.heap[W.heap.size]? = some (.cells (scells s.name s.frm s.days (.slice A l.length cp)).toArray 26 (0, 0))) := by
    rw [← hw2]
    have h := (Fr.refl (fun g => g = W.heap.size + 1) u1).setb 32 (.slice none 0 0)
    exact (HFu1.out.trans h).blk HB1.out (fun e => by omega)
  have HLX2 : Hid (Lay (fun g => g < W.heap.size) w2 (asIncl x)) := HLX.out.fr HF2.out (fun _ _ h => h)
  have HL2 : Hid (LayL (fun g => g < W.heap.size) w2 l (.slice A l.length cp)) := HL0.out.fr HF2.out (fun _ _ h => h)
  clear HFu1 HX1 HB1 HF1
  go_upto_region 4 with fail
  clear c0 f0 c32 f32 HU1 hu1 hw2
  have k0 : w2.cell? ⟨W.heap.size, 0, none⟩ = some (.string ⟨s.name.toArray⟩) := (cell_of_blk HB2.out 0).trans rfl
  have k1 : w2.cell? ⟨W.heap.size, 1, none⟩ = some (.int .i64 s.frm.y) := (cell_of_blk HB2.out 1).trans rfl
  have k2 : w2.cell? ⟨W.heap.size, 2, none⟩ = some (.int .i64 s.frm.m) := (cell_of_blk HB2.out 2).trans rfl
  have k3 : w2.cell? ⟨W.heap.size, 3, none⟩ = some (.int .i64 s.frm.d) := (cell_of_blk HB2.out 3).trans rfl
  have k4 : w2.cell? ⟨W.heap.size, 4, none⟩ = some (.int .i64 s.days) := (cell_of_blk HB2.out 4).trans rfl
  have k5 : w2.cell? ⟨W.heap.size, 5, none⟩ = some (.slice A l.length cp) := (cell_of_blk HB2.out 5).trans rfl
  have HSM := Lib.hid (small_any s l _ 200 w2 (HL2.out.mono (fun g hg _ => hg)) (by omega) (by omega))
  go_wp2_with fail
  refine HSM.out.mono ?_
  rintro e w3 ⟨b, rfl, hb, hf3⟩
  have HSB := Lib.hid hb
  have HFe3 := Lib.hid hf3
  have HF3 : Hid (Fr (fun _ => False) W w3) := HF2.out.trans hf3
  have HB3 : Hid (w3.heap[W.heap.size]? = some (.cells (scells s.name s.frm s.days (.slice A l.length cp)).toArray 26 (0, 0))) := hf3.blk HB2.out (fun h => h)
  have HX3 : Hid (w3.heap[W.heap.size + 1]? = some (.cells (asIncl x).cells.toArray 41 (0, 0))) := hf3.blk HX2.out (fun h => h)
  have HL3 : Hid (LayL (fun g => g < W.heap.size) w3 l (.slice A l.length cp)) := HL2.out.fr hf3 (fun _ _ h => h)
  have HLX3 : Hid (Lay (fun g => g < W.heap.size) w3 (asIncl x)) := HLX2.out.fr hf3 (fun _ _ h => h)
  clear hb hf3 HSM k0 k1 k2 k3 k4 k5 HB2 HX2 HL2 HLX2
  cases b with
  | false =>
    go_wp2_with fail
    go_ret
    exact ⟨rfl, HF3.out.below (Nat.le_refl _) (fun _ h => h.elim)⟩
  | true =>
  have HSH : Hid (∀ x ∈ l, Sh x) := (HSB.out rfl).1
  have HCD : Hid (∀ z ∈ l, z.h.kind = 13 → ∀ y ∈ z.l, ∀ c ∈ y.h.conds, c.name.length ≤ 140737488355328) := fun z hz _ y hy c hc => ((HOK.out z hz).inner y hy).cond c hc
  dsimp only
  iterate 7 go_step
  refine wpList_load_row_g (op := ⟨some 19, _, _, _, _, _⟩) ?hwl 41 _ rfl (W.heap.size + 1) rfl (asIncl x).cells _ _ HX3.out Try.underlying41 rfl (info_itl (asIncl x)) ?_
  case hwl => rfl
  simp only [Act.put, List.setIfInBounds_toArray, List.set_cons_zero, List.set_cons_succ]
  refine wpList_bsl1_g (o := ⟨some 20, _, _, _, _, _⟩) ?hwb 24 _ rfl (v0 := .agg (asIncl x).cells.toArray) rfl (.slice (some ⟨w3.heap.size, 0, none⟩) 1 1) (w3.alloc (.cells (asIncl x).cells.toArray 41)) ?hb ?hq
  case hwb => rfl
  case hb => exact bsl_one HLX3.out _
  simp only [Act.put, List.setIfInBounds_toArray, List.set_cons_zero, List.set_cons_succ]
  obtain ⟨w4, hn⟩ : ∃ u, w3.alloc (.cells (asIncl x).cells.toArray 41) = u := ⟨_, rfl⟩
  rw [hn]
  have HFe4 : Hid (Fr (fun _ => False) w3 w4) := by rw [← hn]; exact (Fr.refl _ w3).alloc _
  have hbx : w4.heap[w3.heap.size]? = some (.cells ([asIncl x].map DT.cells).flatten.toArray 41 (0, 0)) := by
    have e1 : ([asIncl x].map DT.cells).flatten = (asIncl x).cells := by simp
    rw [← hn, e1]; exact blk_newn rfl
  have HLy : Hid (LayL (fun g => g < w4.heap.size) w4 [asIncl x] (.slice (some ⟨w3.heap.size, 0, none⟩) 1 1)) := lay_row (l := [asIncl x]) (by show 1 ≤ _; decide) hbx (lt_of_blk hbx) (fun y hy => by
    simp only [List.mem_cons, List.not_mem_nil, or_false] at hy
    subst hy
    exact (HLX3.out.fr HFe4.out (fun _ _ h => h)).mono (fun g hg _ => hg))
  clear hn hbx
  have HSM2 := Lib.hid (small_any src0 [asIncl x] _ 1 w4 HLy.out (by omega) (by omega))
  go_wp2_with fail
  refine HSM2.out.mono ?_
  rintro e w5 ⟨b2, rfl, hb2, hf5⟩
  have HSB2 := Lib.hid hb2
  have HFe5 := Lib.hid (HFe4.out.trans hf5)
  have HF5 : Hid (Fr (fun _ => False) W w5) := HF3.out.trans HFe5.out
  clear hb2 hf5 HSM2 HLy HFe4
  cases b2 with
  | false =>
    go_wp2_with fail
    go_ret
    exact ⟨rfl, HF5.out.below (Nat.le_refl _) (fun _ h => h.elim)⟩
  | true =>
  have HSX : Hid (Sh (asIncl x)) := (HSB2.out rfl).1 _ (by simp)
  have HS5 : Hid (w5.heap[W.heap.size]? = some (.cells (scells s.name s.frm s.days (.slice A l.length cp)).toArray 26 (0, 0))) := HFe5.out.blk HB3.out (fun h => h)
  have HX5 : Hid (w5.heap[W.heap.size + 1]? = some (.cells (asIncl x).cells.toArray 41 (0, 0))) := HFe5.out.blk HX3.out (fun h => h)
  have HL5 : Hid (LayL (fun g => g < W.heap.size) w5 l (.slice A l.length cp)) := HL3.out.fr HFe5.out (fun _ _ h => h)
  have HLX5 : Hid (Lay (fun g => g < W.heap.size) w5 (asIncl x)) := HLX3.out.fr HFe5.out (fun _ _ h => h)
  clear HB3 HX3 HL3 HLX3 HSB2 HSB HFe5 HFe3 HF3
  go_upto_region 6 with fail
  go_step
  refine wpList_load_row rfl 41 _ rfl (W.heap.size + 1) rfl 41 (asIncl x).cells.toArray (0, 0) _ HX5.out Try.underlying41 rfl (info_it (asIncl x)) ?_
  simp only [Act.put, List.setIfInBounds_toArray, List.set_cons_zero, List.set_cons_succ]
  refine wpList_bsl1_g (o := ⟨some 27, _, _, _, _, _⟩) ?hwb2 24 _ rfl (v0 := .agg (asIncl x).cells.toArray) rfl (.slice (some ⟨w5.heap.size, 0, none⟩) 1 1) (w5.alloc (.cells (asIncl x).cells.toArray 41)) ?hb2 ?hq2
  case hwb2 => rfl
  case hb2 => exact bsl_one HLX5.out _
  simp only [Act.put, List.setIfInBounds_toArray, List.set_cons_zero, List.set_cons_succ]
  obtain ⟨u6, hn⟩ : ∃ u, w5.alloc (.cells (asIncl x).cells.toArray 41) = u := ⟨_, rfl⟩
  rw [hn]
  obtain ⟨gl, hgl⟩ : ∃ g, w5.heap.size = g := ⟨_, rfl⟩
  rw [hgl]
  have HFu6 : Hid (Fr (fun _ => False) w5 u6) := by rw [← hn]; exact (Fr.refl _ w5).alloc _
  have HBu6 : Hid (u6.heap[gl]? = some (.cells (asIncl x).cells.toArray 41 (0, 0))) := by rw [← hn, ← hgl]; exact blk_newn rfl
  have HZ6 : Hid (u6.heap.size = gl + 1) := by show _ = _; rw [← hn, ← hgl]; simp
  have HGL : Hid (w5.heap.size = gl) := hgl
  have HSZ : Hid (W.heap.size + 1 < gl) := by show _ < _; rw [← hgl]; exact lt_of_blk HX5.out
  clear hn hgl
  iterate 6 go_step
  refine wpList_store_row rfl 26 _ _ rfl u6.heap.size (scells [] ⟨0, 0, 0⟩ 0 (.slice (some ⟨gl, 0, none⟩) 1 1)).toArray rfl rfl 26 _ (blk_newn rfl) (info_src _ _ _ _) rfl (one_src _ _ _ _ _ _) ?_
  simp only [Act.put, List.setIfInBounds_toArray, List.set_cons_zero, List.set_cons_succ]
  rw [World.setRow_alloc_new, HZ6.out]
  obtain ⟨w7, hn⟩ : ∃ u, u6.alloc (.cells (scells [] ⟨0, 0, 0⟩ 0 (.slice (some ⟨gl, 0, none⟩) 1 1)).toArray 26) = u := ⟨_, rfl⟩
  rw [hn]
  have HB7 : Hid (w7.heap[gl + 1]? = some (.cells (scells [] ⟨0, 0, 0⟩ 0 (.slice (some ⟨gl, 0, none⟩) 1 1)).toArray 26 (0, 0))) := by rw [← hn]; exact blk_newn HZ6.out.symm
  have HFe7 : Hid (Fr (fun _ => False) w5 w7) := by rw [← hn]; exact HFu6.out.alloc _
  have HX7 : Hid (w7.heap[gl]? = some (.cells (asIncl x).cells.toArray 41 (0, 0))) := by rw [← hn]; exact blk_alloc HBu6.out _
  clear hn HFu6 HBu6 HZ6
  have HB0 : Hid (Bld gl (gl + 1) src0 ([asIncl x] ++ sel isDef l 0) (.slice (some ⟨gl, 0, none⟩) 1 1) w5 w7) := by
    rw [sel_zero, List.append_nil]
    refine ⟨by have := HGL.out; omega, HB7.out, ?_, by simp [Value.ownBlock], HFe7.out.mono (fun _ _ h => h.elim)⟩
    have e1 : [asIncl x].flatMap DT.cells = (asIncl x).cells := by simp
    rw [e1]
    exact own_new HX7.out (Nat.le_refl _) (asIncl x).cells_len
  have hz : l.length ≤ 9223372036854775807 := by have := HLEN.out; omega
  have HLB := HLEN
  clear HB7 HX7 HFe7
  go_wp2_with fail
  go_loopw [7] (fun i wr => ∃ (k : Nat) (iv : Value), i = .int .i64 k ∧ k ≤ l.length ∧ Hid (Bld gl (gl + 1) src0 ([asIncl x] ++ sel isDef l k) iv w5 wr)) (fun i _ => l.length - (intOf i).toNat)
  case atStart => exact ⟨0, _, rfl, Nat.zero_le _, HB0⟩
  case round =>
    clear HB0
    obtain ⟨k, iv, rfl, hk, HB⟩ := hrel
    have i1 : (0 : Int) ≤ (k : Int) := Int.natCast_nonneg _
    have HSr : Hid (wr.heap[W.heap.size]? = some (.cells (scells s.name s.frm s.days (.slice A l.length cp)).toArray 26 (0, 0))) := HB.out.fr.blk HS5.out (fun e => by have := HSZ.out; omega)
    have k5 : wr.cell? ⟨W.heap.size, 5, none⟩ = some (.slice A l.length cp) := (cell_of_blk HSr.out 5).trans rfl
    by_cases hlt : k < l.length
    · have i2 : (k : Int) < (l.length : Int) := by omega
      obtain ⟨z, hx⟩ : ∃ z, l[k]? = some z := ⟨_, List.getElem?_eq_getElem hlt⟩
      have HLr : Hid (LayL (fun g => g < W.heap.size) wr l (.slice A l.length cp)) := (HL5.out.fr HB.out.fr (fun g hg e => by have := HSZ.out; omega))
      obtain ⟨g, o, hA, hg, _, hat⟩ := HLr.out.at hx
      subst hA
      have c0 : wr.cell? ⟨g, o + k * 33, none⟩ = some (.int .i64 z.h.kind) := hat 0 _ (by rw [DT.cells_eq]; rfl)
      have HX := Lib.hid hx
      have HLT := Lib.hid hlt
      have HCD := Lib.hid (rDefines_any z.h.kind wr)
      have HNX := Lib.hid (sel_next (p := isDef) hx)
      clear hat hg hx hlt
      cases hd : defines z.h.kind with
      | true =>
        rw [hd] at HCD
        have HP : Hid (sel isDef l (k + 1) = sel isDef l k ++ [z]) := HNX.out.trans (if_pos (by simp [isDef, hd]))
        have HKL : Hid ([asIncl x].length + (sel isDef l k).length + 1 ≤ l.length + 1) := by
          have h1 := sel_filter isDef l (k + 1)
          rw [HP.out, List.length_append] at h1
          have h2 := List.length_filter_le isDef l
          simp only [List.length_cons, List.length_nil] at h1 ⊢
          show _ ≤ _
          omega
        clear hd
        go_wp2_with fail
        refine HCD.out.mono ?_
        rintro e wq ⟨rfl, hwq⟩
        have hwq := hwq.symm
        subst hwq
        clear HCD k5 c0
        go_upto_region 11 with fail
        refine prefix_r11 (by kernel_rfl) HB.out HS5.out ⟨by have := HSZ.out; omega, by have := HSZ.out; omega⟩ (HL5.out.mono (fun g _ hg => ⟨by have := HSZ.out; omega, by have := HSZ.out; omega⟩)) HX.out (by have h1 := HKL.out; have h2 := HLB.out; rw [List.length_append]; omega) (fun _ _ _ _ _ h => h) ?_
        intro v43 v44 v45 v46 v47 v48 v49 v50 v51 v52 wy hb2
        obtain ⟨iv2, hb2⟩ := hb2
        rw [List.append_assoc, ← HP.out] at hb2
        have HB2 := Lib.hid hb2
        clear hb2
        go_wp2_with fail
        go_roundw
        case rel => exact (⟨k + 1, iv2, by go_num, HLT.out, HB2⟩)
        case measure => have := HLT.out; simp [intOf]; omega
      | false =>
        rw [hd] at HCD
        have HP : Hid (sel isDef l (k + 1) = sel isDef l k) := HNX.out.trans (if_neg (by simp [isDef, hd]))
        clear hd
        go_wp2_with fail
        refine HCD.out.mono ?_
        rintro e wq ⟨rfl, hwq⟩
        have hwq := hwq.symm
        subst hwq
        clear HCD k5 c0
        have HB2 : Hid (Bld gl (gl + 1) src0 ([asIncl x] ++ sel isDef l (k + 1)) iv w5 wr) := by rw [HP.out]; exact HB.out
        go_wp2_with fail
        go_roundw
        case rel => exact (⟨k + 1, iv, by go_num, HLT.out, HB2⟩)
        case measure => have := HLT.out; simp [intOf]; omega
    · obtain rfl : k = l.length := by omega
      have HBE : Hid (Bld gl (gl + 1) src0 ([asIncl x] ++ l.filter isDef) iv w5 wr) := by rw [← sel_all isDef l]; exact HB.out
      clear HB hk i1
      obtain ⟨Ao, co, hiv⟩ := own_form HBE.out.own
      subst hiv
      obtain ⟨ds, hds⟩ : ∃ ds, [asIncl x] ++ l.filter isDef = ds := ⟨_, rfl⟩
      rw [hds] at HBE
      have HDS := Lib.hid hds
      have HFwr : Hid (Fr (fun _ => False) W wr) := HF5.out.trans' HBE.out.fr (fun g hg e => by have := HSZ.out; omega)
      have HMEM : Hid (∀ y ∈ ds, y = asIncl x ∨ (y ∈ l ∧ isDef y = true)) := fun y hy => by
        rw [← HDS.out] at hy
        rcases List.mem_append.1 hy with hy | hy
        · exact .inl (by simpa using hy)
        · exact .inr (List.mem_filter.1 hy)
      have HLD : Hid (LayL (fun g => g < wr.heap.size) wr ds (.slice Ao ds.length co)) := (HBE.out.lay (l := l) (B := fun g => g < W.heap.size) (fun g hg => ⟨by have := HSZ.out; omega, by have := HSZ.out; omega⟩) (fun y hy => by
        rcases HMEM.out y hy with rfl | ⟨hy, _⟩
        · exact HLX5.out
        · exact HL5.out.lay y hy)).mono (fun g hg _ => hg)
      have HSD : Hid (∀ y ∈ ds, Sh y) := fun y hy => by
        rcases HMEM.out y hy with rfl | ⟨hy, _⟩
        · exact HSX.out
        · exact HSH.out y hy
      have HCE : Hid (∀ z ∈ ds, z.h.kind = 13 → ∀ y ∈ z.l, ∀ c ∈ y.h.conds, c.name.length ≤ 140737488355328) := fun y hy hk => by
        rcases HMEM.out y hy with rfl | ⟨hy, _⟩
        · exact absurd hk (show ¬ (14 : Int) = 13 by decide)
        · exact HCD.out y hy hk
      have HXr : Hid (wr.heap[W.heap.size + 1]? = some (.cells (asIncl x).cells.toArray 41 (0, 0))) := HBE.out.fr.blk HX5.out (fun e => by have := HSZ.out; omega)
      clear hds
      have b0 : wr.cell? ⟨gl + 1, 0, none⟩ = some (.string ⟨src0.name.toArray⟩) := (cell_of_blk HBE.out.blk 0).trans rfl
      have b1 : wr.cell? ⟨gl + 1, 1, none⟩ = some (.int .i64 src0.frm.y) := (cell_of_blk HBE.out.blk 1).trans rfl
      have b2 : wr.cell? ⟨gl + 1, 2, none⟩ = some (.int .i64 src0.frm.m) := (cell_of_blk HBE.out.blk 2).trans rfl
      have b3 : wr.cell? ⟨gl + 1, 3, none⟩ = some (.int .i64 src0.frm.d) := (cell_of_blk HBE.out.blk 3).trans rfl
      have b4 : wr.cell? ⟨gl + 1, 4, none⟩ = some (.int .i64 src0.days) := (cell_of_blk HBE.out.blk 4).trans rfl
      have b5 : wr.cell? ⟨gl + 1, 5, none⟩ = some (.slice Ao ds.length co) := (cell_of_blk HBE.out.blk 5).trans rfl
      have HEX := Lib.hid (expand_any src0 ds _ wr HLD.out HSD.out HCE.out)
      unfold ExpR at HEX
      obtain ⟨r1, hr1⟩ : ∃ r, (expand (srcT src0 ds)).1 = r := ⟨_, rfl⟩
      obtain ⟨r2, hr2⟩ : ∃ r, (expand (srcT src0 ds)).2 = r := ⟨_, rfl⟩
      have HRr1 := Lib.hid hr1; have HRr2 := Lib.hid hr2
      rw [hr1, hr2] at HEX
      clear hr1 hr2
      go_wp2_with fail
      refine HEX.out.mono ?_
      rintro e w8 ⟨iv, fv, es, rfl, h1, h2, h3, h4⟩
      obtain ⟨Aes, ces, hiv, _, _⟩ := h2.slice
      subst hiv
      obtain ⟨Ar2, cr2, hfv, _, _⟩ := h3.slice
      rw [List.length_map] at hfv
      subst hfv
      have HDes := Lib.hid h1
      have HFew8 : Hid (Fr (fun _ => False) wr w8) := h4
      have HFw8 : Hid (Fr (fun _ => False) W w8) := HFwr.out.trans h4
      have HLes : Hid (LayL All w8 es (.slice Aes es.length ces)) := h2.mono (fun _ _ _ => trivial)
      have HTr2 : Hid (RowB All w8 (.slice Ar2 r2.length cr2) 2 (r2.map faultc)) := h3.mono (fun _ _ _ => trivial)
      clear h1 h2 h3 h4 HEX
      dsimp only
      iterate 13 go_step
      refine wpList_store_row rfl 26 _ _ rfl w8.heap.size (scells r1.name r1.frm r1.days (.slice Aes es.length ces)).toArray rfl rfl 26 _ (blk_newn rfl) (info_src _ _ _ _) rfl (one_src _ _ _ _ _ _) ?_
      simp only [Act.put, List.setIfInBounds_toArray, List.set_cons_zero, List.set_cons_succ]
      rw [World.setRow_alloc_new]
      obtain ⟨w9, hn⟩ : ∃ u, w8.alloc (.cells (scells r1.name r1.frm r1.days (.slice Aes es.length ces)).toArray 26) = u := ⟨_, rfl⟩
      rw [hn]
      have HFsw9 : Hid (Fr (fun _ => False) w8 w9) := by rw [← hn]; exact (Fr.refl _ w8).alloc _
      obtain ⟨ga, hblk⟩ : ∃ g, w8.heap.size = g := ⟨_, rfl⟩
      rw [hblk]
      have HBw9 : Hid (w9.heap[ga]? = some (.cells (scells r1.name r1.frm r1.days (.slice Aes es.length ces)).toArray 26 (0, 0))) := by rw [← hn, ← hblk]; exact blk_newn rfl
      have HZw9 : Hid (w8.heap.size = ga) := hblk
      have HFw9 : Hid (Fr (fun _ => False) W w9) := HFw8.out.trans HFsw9.out
      clear hn hblk
      clear b0 b1 b2 b3 b4 b5
      have HX9 : Hid (w9.heap[W.heap.size + 1]? = some (.cells (asIncl x).cells.toArray 41 (0, 0))) := HFsw9.out.blk (HFew8.out.blk HXr.out (fun h => h)) (fun h => h)
      have HLE9 : Hid (LayL All w9 es (.slice Aes es.length ces)) := HLes.out.fr HFsw9.out (fun _ _ h => h)
      have a0 : w9.cell? ⟨ga, 0, none⟩ = some (.string ⟨r1.name.toArray⟩) := (cell_of_blk HBw9.out 0).trans rfl
      have a1 : w9.cell? ⟨ga, 1, none⟩ = some (.int .i64 r1.frm.y) := (cell_of_blk HBw9.out 1).trans rfl
      have a2 : w9.cell? ⟨ga, 2, none⟩ = some (.int .i64 r1.frm.m) := (cell_of_blk HBw9.out 2).trans rfl
      have a3 : w9.cell? ⟨ga, 3, none⟩ = some (.int .i64 r1.frm.d) := (cell_of_blk HBw9.out 3).trans rfl
      have a4 : w9.cell? ⟨ga, 4, none⟩ = some (.int .i64 r1.days) := (cell_of_blk HBw9.out 4).trans rfl
      have a5 : w9.cell? ⟨ga, 5, none⟩ = some (.slice Aes es.length ces) := (cell_of_blk HBw9.out 5).trans rfl
      by_cases hf : r2 = []
      case neg =>
        have i1 : (0 : Int) < (r2.length : Int) := by have := List.length_pos_iff.2 hf; omega
        have hz : r1 = zero := by rw [← HRr1.out]; exact expand_zero _ (by rw [HRr2.out]; exact hf)
        subst hz
        obtain rfl : es = [] := List.map_eq_nil_iff.1 HDes.out
        have a5 : w9.cell? ⟨ga, 5, none⟩ = some (.slice Aes 0 ces) := (cell_of_blk HBw9.out 5).trans rfl
        clear hf
        go_wp2_with fail
        go_ret
        exact ⟨rfl, HFw9.out.below (Nat.le_refl _) (fun _ h => h.elim)⟩
      subst hf
      have hpre := law_prefix (s := srcT src0 ds) (x := (asIncl x).tree) (l := (l.filter isDef).map DT.tree) (by rw [DT.tree_h]; rfl) (fun y hy => by
        obtain ⟨z, hz, rfl⟩ := List.mem_map.1 hy
        rw [DT.tree_h]
        exact (List.mem_filter.1 hz).2) (by rw [← HDS.out]; rfl) HRr2.out
      rw [HRr1.out, DT.tree_h] at hpre
      have HPRE : Hid (∀ e ∈ es, Pre x.h.name x.h.pos e.tree) := fun e he => hpre _ (by rw [← HDes.out]; exact List.mem_map_of_mem he)
      have hle : es.length ≤ 600 := by
        have := (law_plain HRr2.out).2.2.2.2.1
        rw [HRr1.out, ← HDes.out, List.length_map] at this
        exact this
      have hez : es.length ≤ 9223372036854775807 := by omega
      clear hpre hle a0 a1 a2 a3 a4
      go_wp2_with fail
      obtain ⟨wz, rfl⟩ : ∃ w : World, w = wr := ⟨_, rfl⟩
      go_loopw [10] (fun i wr => ∃ k : Nat, i = .int .i64 k ∧ k ≤ es.length ∧ Hid (Fr (fun _ => False) w9 wr)) (fun i _ => es.length - (intOf i).toNat)
      case atStart => exact ⟨0, rfl, Nat.zero_le _, Fr.refl _ _⟩
      case round =>
        clear a5
        obtain ⟨k, rfl, hk, HFr⟩ := hrel
        have i1 : (0 : Int) ≤ (k : Int) := Int.natCast_nonneg _
        have a5 : wr.cell? ⟨ga, 5, none⟩ = some (.slice Aes es.length ces) := (cell_of_blk (HFr.out.blk HBw9.out (fun h => h)) 5).trans rfl
        by_cases hlt : k < es.length
        · have i2 : (k : Int) < (es.length : Int) := by omega
          obtain ⟨y, hy⟩ : ∃ y, es[k]? = some y := ⟨_, List.getElem?_eq_getElem hlt⟩
          have HLr : Hid (LayL All wr es (.slice Aes es.length ces)) := HLE9.out.fr HFr.out (fun _ _ h => h)
          obtain ⟨g, o, hA, hg, _, hat⟩ := HLr.out.at hy
          subst hA
          have HAT := Lib.hid hat
          have HLX : Hid (Lay All wr y) := HLr.out.lay y (List.mem_of_getElem? hy)
          have hp := HPRE.out y (List.mem_of_getElem? hy)
          unfold Pre at hp
          rw [DT.tree_h] at hp
          obtain ⟨hp1, ⟨r, hp2⟩, hp3, hp4⟩ := hp
          obtain ⟨n, hn⟩ : ∃ n, y.h.name = n := ⟨_, rfl⟩
          rw [hn] at hp2 hp4
          have HLT := Lib.hid hlt
          have l24 : (n.length : Int) ≤ 24 := by omega
          have HNL : Hid (n.length ≤ 24) := hp4
          have HN := Lib.hid hn; have HP2 := Lib.hid hp2; have HP1 := Lib.hid hp1; have HP3 := Lib.hid hp3
          clear hat hg hy hlt hp1 hp2 hp3 hp4 hn
          go_upto_region 18 with fail
          iterate 13 go_step
          refine wpList_load_mid rfl 41 _ rfl g (o + k * 33) rfl y.cells _ HAT.out Try.underlying41 rfl (info_itl y) ?_
          simp only [Act.put, List.setIfInBounds_toArray, List.set_cons_zero, List.set_cons_succ]
          iterate 3 go_step
          refine wpList_store_row rfl 41 _ _ rfl wr.heap.size y.cells.toArray rfl rfl 41 _ (blk_newn rfl) (info_it y) (cells_size y).symm HLX.out.one ?_
          simp only [Act.put, List.setIfInBounds_toArray, List.set_cons_zero, List.set_cons_succ]
          rw [World.setRow_alloc_new]
          obtain ⟨u, hu⟩ : ∃ u, wr.alloc (.cells y.cells.toArray 41) = u := ⟨_, rfl⟩
          rw [hu]
          have HYB : Hid (u.heap[wr.heap.size]? = some (.cells y.cells.toArray 41 (0, 0))) := by rw [← hu]; exact blk_newn rfl
          have HFU : Hid (Fr (fun _ => False) w9 u) := by rw [← hu]; exact HFr.out.alloc _
          have HXU : Hid (u.heap[W.heap.size + 1]? = some (.cells (asIncl x).cells.toArray 41 (0, 0))) := HFU.out.blk HX9.out (fun h => h)
          have c0 : u.cell? ⟨wr.heap.size, 0, none⟩ = some (.int .i64 y.h.kind) := by rw [cell_of_blk HYB.out, DT.cells_eq]; rfl
          have c1 : u.cell? ⟨wr.heap.size, 1, none⟩ = some (.string ⟨n.toArray⟩) := by rw [cell_of_blk HYB.out, DT.cells_eq, ← HN.out]; rfl
          have c2 : u.cell? ⟨wr.heap.size, 2, none⟩ = some (.int .i64 x.h.pos) := by rw [cell_of_blk HYB.out, DT.cells_eq, ← HP3.out]; rfl
          have x1 : u.cell? ⟨W.heap.size + 1, 1, none⟩ = some (.string ⟨x.h.name.toArray⟩) := by rw [cell_of_blk HXU.out, DT.cells_eq]; rfl
          have x2 : u.cell? ⟨W.heap.size + 1, 2, none⟩ = some (.int .i64 x.h.pos) := by rw [cell_of_blk HXU.out, DT.cells_eq]; rfl
          have HCC := rClause_any y.h.kind u
          rw [show isClause y.h.kind = true from HP1.out] at HCC
          have HCC := Lib.hid HCC
          have HBG := begins_any x.h.name r u (by rw [← HP2.out]; have := HNL.out; unfold maxLen; omega)
          rw [← HP2.out] at HBG
          have HBG := Lib.hid HBG
          clear hu a5
          go_wp2_with fail
          refine HCC.out.mono ?_
          rintro e wq ⟨rfl, hwq⟩
          have hwq := hwq.symm
          subst hwq
          clear HCC c0
          go_wp2_with fail
          refine HBG.out.mono ?_
          rintro e wq ⟨rfl, hwq⟩
          have hwq := hwq.symm
          subst hwq
          clear HBG
          go_wp2_with fail
          go_roundw
          case rel => exact ⟨_, _, _, _, _, _, _, _, _, _, _, _, _, _, _, _, _, _, _, _, _, _, _, _, _, _, _, _, _, _, _, _, _, _, _, _, _, _, _, _, ⟨k + 1, by go_num, HLT.out, HFU⟩, rfl⟩
          case measure => have := HLT.out; simp [intOf]; omega
        · obtain rfl : k = es.length := by omega
          go_wp2_with fail
          go_ret
          exact ⟨rfl, (HFw9.out.trans HFr.out).below (Nat.le_refl _) (fun _ h => h.elim)⟩
end Go.Proofs.Yticakdajhmfpoaa
