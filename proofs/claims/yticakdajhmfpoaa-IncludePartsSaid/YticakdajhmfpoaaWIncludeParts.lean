/-
  The walk of IncludeParts.
-/
import Derived.Test.YticakdajhmfpoaaIncLaws4
import Derived.Test.YticakdajhmfpoaaIncLater
import Derived.Test.YticakdajhmfpoaaIncLaws2
import Derived.Test.YticakdajhmfpoaaIncGuard
import Derived.Test.YticakdajhmfpoaaIncSame
import Derived.Test.YticakdajhmfpoaaIncHead2
import Derived.Laws.StructEq
namespace Go.Proofs.Yticakdajhmfpoaa
open Go.RowKit Mem Vw Rs Ic
set_option linter.unusedVariables false
set_option linter.unusedSimpArgs false

theorem parts_tree1 (s : Rs.Source) (l : List DT) (x : DT) : ({ srcT s l with items := (srcT s l).items ++ [x.tree] } : Src) = srcT s (l ++ [x]) := by
  unfold srcT
  simp only [List.map_append, List.map_cons, List.map_nil]
theorem parts_tree2 (s : Rs.Source) (l : List DT) (x : DT) : ({ srcT s l with items := ((srcT s l).items.filter fun y => defines y.h.kind) ++ [x.tree] } : Src) = srcT s (l.filter isDef ++ [x]) := by
  have key : (l.filter isDef).map DT.tree = (l.map DT.tree).filter fun x => defines x.h.kind := by
    rw [List.filter_map]
    congr 1
    apply List.filter_congr
    intro y _
    show _ = defines y.tree.h.kind
    rw [DT.tree_h]; rfl
  unfold srcT
  simp only [List.map_append, List.map_cons, List.map_nil, key]
set_option maxRecDepth 100000 in
set_option maxHeartbeats 16000000 in
theorem parts_r12 {Wb X : World} {bo go gs g o k cp : Nat} {l ds : List DT} {s2 s : Rs.Source} {iv : Value} {x : DT} {u0 u1 u3 u4 u5 u6 u9 u10 u11 u12 u13 u14 u15 u16 u17 u18 u19 u20 u21 u22 u23 u24 u25 u26 u27 u28 u29 u30 u31 u32 u33 u34 u35 u36 u37 u38 u39 u40 u41 u42 u43 u44 u45 u46 u47 u48 u49 u50 u51 u52 u53 u54 u55 u56 u57 u58 u59 u60 u61 u62 u63 u64 u65 u66 u67 u68 u69 u70 u71 u72 u73 u74 u75 u76 u77 u78 u79 u80 u81 u82 u83 u84 u85 u86 u87 u88 u89 u90 u91 u92 u93 u94 u95 u96 u97 u98 u99 u100 u101 u102 u103 u104 u105 u106 u107 u108 u109 u110 u111 u112 u113 u114 u115 u116 u117 u118 u119 u120 u121 u122 u123 u124 u125 u126 u127 u128 u129 u130 u131 u132 u133 u134 u135 u136 u137 u138 u139 u140 u141 u142 u143 u144 u145 u146 u147 u148 u149 u150 u151 u152 u153 u154 u155 u156 u157 u158 : Value} {Q : Exit → Act → World → Prop} {C : Code} (hC : C = Cut.region Try.f7 12) (hb : Bld bo go s2 ds iv Wb X) (hs : Wb.heap[gs]? = some (.cells (scells s.name s.frm s.days (.slice (some ⟨g, o, none⟩) l.length cp)).toArray 26 (0, 0))) (hgs : gs < bo ∧ gs ≠ go) (hL : LayL (fun g => g < bo ∧ g ≠ go) Wb l (.slice (some ⟨g, o, none⟩) l.length cp)) (hx : l[k]? = some x) (hd : (ds.length + 1) * 368 ≤ 140737488355328) (hP : Cut.Blind Q)
    (hQ : ∀ (v70 v71 v72 v73 v74 v75 v76 v77 v78 v79 : Value) (wx : World), (∃ iv2, Bld bo go s2 (ds ++ [x]) iv2 Wb wx) → Q .normal ⟨#[u0, u1, .pointer (some ⟨gs, 0, none⟩), u3, u4, u5, u6, .pointer (some ⟨go, 0, none⟩), .int .i64 ((k : Nat) : Int), u9, u10, u11, u12, u13, u14, u15, u16, u17, u18, u19, u20, u21, u22, u23, u24, u25, u26, u27, u28, u29, u30, u31, u32, u33, u34, u35, u36, u37, u38, u39, u40, u41, u42, u43, u44, u45, u46, u47, u48, u49, u50, u51, u52, u53, u54, u55, u56, u57, u58, u59, u60, u61, u62, u63, u64, u65, u66, u67, u68, u69, v70, v71, v72, v73, v74, v75, v76, v77, v78, v79, u80, u81, u82, u83, u84, u85, u86, u87, u88, u89, u90, u91, u92, u93, u94, u95, u96, u97, u98, u99, u100, u101, u102, u103, u104, u105, u106, u107, u108, u109, u110, u111, u112, u113, u114, u115, u116, u117, u118, u119, u120, u121, u122, u123, u124, u125, u126, u127, u128, u129, u130, u131, u132, u133, u134, u135, u136, u137, u138, u139, u140, u141, u142, u143, u144, u145, u146, u147, u148, u149, u150, u151, u152, u153, u154, u155, u156, u157, u158], []⟩ wx) :
    Code.wp Try.prog C Q ⟨#[u0, u1, .pointer (some ⟨gs, 0, none⟩), u3, u4, u5, u6, .pointer (some ⟨go, 0, none⟩), .int .i64 ((k : Nat) : Int), u9, u10, u11, u12, u13, u14, u15, u16, u17, u18, u19, u20, u21, u22, u23, u24, u25, u26, u27, u28, u29, u30, u31, u32, u33, u34, u35, u36, u37, u38, u39, u40, u41, u42, u43, u44, u45, u46, u47, u48, u49, u50, u51, u52, u53, u54, u55, u56, u57, u58, u59, u60, u61, u62, u63, u64, u65, u66, u67, u68, u69, u70, u71, u72, u73, u74, u75, u76, u77, u78, u79, u80, u81, u82, u83, u84, u85, u86, u87, u88, u89, u90, u91, u92, u93, u94, u95, u96, u97, u98, u99, u100, u101, u102, u103, u104, u105, u106, u107, u108, u109, u110, u111, u112, u113, u114, u115, u116, u117, u118, u119, u120, u121, u122, u123, u124, u125, u126, u127, u128, u129, u130, u131, u132, u133, u134, u135, u136, u137, u138, u139, u140, u141, u142, u143, u144, u145, u146, u147, u148, u149, u150, u151, u152, u153, u154, u155, u156, u157, u158], []⟩ X := by
  subst hC
  conv => arg 2; whnf
  refine Reg.G.start (by kernel_rfl) ?_
  obtain ⟨Xd, HXd⟩ : ∃ Y, Hid (X.drew = Y) := ⟨_, rfl⟩
  have HFD : Hid (Fr (fun _ => False) X Xd) := by rw [← HXd.out]; exact (Fr.refl _ X).drew
  obtain ⟨Ao, co, hao⟩ := own_form hb.own
  subst hao
  obtain ⟨j0, hj, hj0, hj1, hj2⟩ := info_parts cinfo_item
  have hLX := hL.fr hb.fr (fun g hg e => by have := hg.1; omega)
  have HLX : Hid (Lay _ X x) := hLX.lay x (List.mem_of_getElem? hx)
  have HSB : Hid (X.heap[gs]? = some (.cells (scells s.name s.frm s.days (.slice (some ⟨g, o, none⟩) l.length cp)).toArray 26 (0, 0))) := hb.fr.blk hs (fun e => by omega)
  obtain ⟨g0, o0, e0, hg0, _, hax⟩ := hLX.at hx
  injection e0 with e0; injection e0 with e1 e2 _; subst e1; subst e2
  have HAT : Hid (∀ w, Fr (fun _ => False) X w → At w g (o + k * 33) x.cells) := fun w hw => At.fr hax hg0 hw (fun h => h)
  have hlt : k < l.length := (List.getElem?_eq_some_iff.1 hx).1
  have i1 : (0 : Int) ≤ (k : Int) := Int.natCast_nonneg _
  have i2 : (k : Int) < (l.length : Int) := by omega
  have n1 : (0 : Int) ≤ (ds.length : Int) := Int.natCast_nonneg _
  clear hax hLX
  rw [HXd.out]
  clear HXd
  refine' Reg.G.pure (i := 0) (v := _) rfl (by rfl) (by kernel_rfl) (by kernel_rfl) (by kernel_rfl) (fun _ _ _ h => hP _ _ _ _ _ h) ?hye17 ?rehye17
  case hye17 => exact fun w => by first | (go_simp; done) | (go_simp; with_reducible rfl)
  simp only [Act.put, List.setIfInBounds_toArray, List.set_cons_zero, List.set_cons_succ]
  refine' Reg.G.take (i := 1) (v := _) (F := (fun w => Fr (fun _ => False) X w)) rfl (by rfl) (by kernel_rfl) (by kernel_rfl) (by kernel_rfl) (fun _ _ _ h => hP _ _ _ _ _ h) (HFD.out) ?hye18 ?rehye18
  case hye18 => intro w hw; have kc : w.cell? ⟨go, 5, none⟩ = some (.slice Ao ds.length co) := (cell_of_blk (hw.blk hb.blk (fun h => h)) 5).trans rfl; clear hw; first | (go_simp; done) | (go_simp; with_reducible rfl)
  simp only [Act.put, List.setIfInBounds_toArray, List.set_cons_zero, List.set_cons_succ]
  refine' Reg.G.pure (i := 2) (v := _) rfl (by rfl) (by kernel_rfl) (by kernel_rfl) (by kernel_rfl) (fun _ _ _ h => hP _ _ _ _ _ h) ?hye19 ?rehye19
  case hye19 => exact fun w => by first | (go_simp; done) | (go_simp; with_reducible rfl)
  simp only [Act.put, List.setIfInBounds_toArray, List.set_cons_zero, List.set_cons_succ]
  refine' Reg.G.take (i := 3) (v := _) (F := (fun w => Fr (fun _ => False) X w)) rfl (by rfl) (by kernel_rfl) (by kernel_rfl) (by kernel_rfl) (fun _ _ _ h => hP _ _ _ _ _ h) (HFD.out) ?hye20 ?rehye20
  case hye20 => intro w hw; have kc : w.cell? ⟨gs, 5, none⟩ = some (.slice (some ⟨g, o, none⟩) l.length cp) := (cell_of_blk (hw.blk HSB.out (fun h => h)) 5).trans rfl; clear hw; first | (go_simp; done) | (go_simp; with_reducible rfl)
  simp only [Act.put, List.setIfInBounds_toArray, List.set_cons_zero, List.set_cons_succ]
  refine' Reg.G.pure (i := 4) (v := _) rfl (by rfl) (by kernel_rfl) (by kernel_rfl) (by kernel_rfl) (fun _ _ _ h => hP _ _ _ _ _ h) ?hye21 ?rehye21
  case hye21 => exact fun w => by first | (go_simp; done) | (go_simp; with_reducible rfl)
  simp only [Act.put, List.setIfInBounds_toArray, List.set_cons_zero, List.set_cons_succ]
  refine' Reg.G.pure (i := 5) (v := _) rfl (by rfl) (by kernel_rfl) (by kernel_rfl) (by kernel_rfl) (fun _ _ _ h => hP _ _ _ _ _ h) ?hye22 ?rehye22
  case hye22 => exact fun w => by first | (go_simp; done) | (go_simp; with_reducible rfl)
  simp only [Act.put, List.setIfInBounds_toArray, List.set_cons_zero, List.set_cons_succ]
  refine' Reg.G.take (i := 6) (v := _) (F := (fun w => Fr (fun _ => False) X w)) rfl (by rfl) (by kernel_rfl) (by kernel_rfl) (by kernel_rfl) (fun _ _ _ h => hP _ _ _ _ _ h) (HFD.out) ?hye23 ?rehye23
  case hye23 => intro w hw; refine run_load_at 41 (.tmp 75) ?_ g (o + k * 33) ?_ x.cells _ (HAT.out w hw) Try.underlying41 rfl (info_itl x) <;> rfl
  simp only [Act.put, List.setIfInBounds_toArray, List.set_cons_zero, List.set_cons_succ]
  refine Reg.G.step (j := 7) (m := [false, false, true]) [6, 3, 1] rfl (by kernel_rfl) rfl (by kernel_rfl) (fun K hK => ?_)
  refine wp_bsl1 24 _ rfl (v0 := .agg x.cells.toArray) rfl (.slice (some ⟨Xd.heap.size, 0, none⟩) 1 1) (Xd.alloc (.cells x.cells.toArray 41)) ?hb1 ?hq1
  case hb1 => exact bsl_one HLX.out _
  obtain ⟨y1, hu⟩ : ∃ u, Xd.alloc (.cells x.cells.toArray 41) = u := ⟨_, rfl⟩
  rw [hu]
  have HG1 : Hid (Fr (fun _ => False) X y1) := by rw [← hu]; exact HFD.out.alloc _
  have HNA : Hid (∀ j y, x.cells[j]? = some y → y1.cell? ((⟨Xd.heap.size, 0, none⟩ : Addr).add j) = some y) := by rw [← hu]; exact cells_new Xd x.cells _ _ rfl
  clear hu
  refine hK.out _ _ ⟨HG1.out, trivial⟩ ?_
  clear hK K
  simp only [Act.put, List.setIfInBounds_toArray, List.set_cons_zero, List.set_cons_succ, Reg.Kept]
  refine Reg.G.step (j := 8) (m := [false]) [1] rfl (by kernel_rfl) rfl (by kernel_rfl) (fun K hK => ?_)
  have HOA : Hid (y1.ownsRow bo 41 33 (.slice Ao ds.length co) ds.length (ds.flatMap DT.cells)) := own_fr hb.own HG1.out (fun _ _ _ e => e)
  refine wp_append_lies y1 (.tmp 71) (.tmp 77) 24 rfl bo 41 j0 _ 33 368 Try.underlying24 hj hj0 hj1 hj2 rfl (by decide) (.slice Ao ds.length co) ds.length _ (by rfl) HOA.out ⟨Xd.heap.size, 0, none⟩ 1 1 x.cells (by rfl) x.cells_len HNA.out (one_all HLX.out.one) (by decide) (by simp only [maxLen]; omega) (by omega) (by have h1 := hb.lo; have h2 := hb.fr.size; have h3 := HG1.out.size; omega) (y1.heap.size) rfl ?_
  intro gn cn y2 g1 g2 g3 _
  have HOW : Hid (y2.ownsRow bo 41 33 (.slice (some ⟨gn, 0, none⟩) (ds.length + 1) cn) (ds ++ [x]).length ((ds ++ [x]).flatMap DT.cells)) := by
    have e1 : (ds ++ [x]).length = ds.length + 1 := by simp
    have e2 : (ds ++ [x]).flatMap DT.cells = ds.flatMap DT.cells ++ x.cells := by simp [List.flatMap_append]
    rw [e1, e2]
    exact g1
  have HLO : Hid (∀ k, (Value.slice Ao ds.length co).ownBlock = some k → bo ≤ k) := fun k hk => (own_lt HOA.out k hk).1
  have HGR : Hid (Fr (fun g => g = go ∨ bo ≤ g) Wb y2) := (hb.fr.trans' HG1.out (fun _ _ h => h.elim)).grown g2 (fun k hk => .inl (.inr (HLO.out k hk)))
  have HBK : Hid (y2.heap[go]? = some (.cells (scells s2.name s2.frm s2.days (.slice Ao ds.length co)).toArray 26 (0, 0))) := (Fr.of_grown g2).blk (HG1.out.blk hb.blk (fun h => h)) (fun e => hb.ne e)
  have HNE : Hid ((Value.slice (some ⟨gn, 0, none⟩) (ds.length + 1) cn).ownBlock ≠ some go) := fun e => by
    have e1 : gn = go := by simpa [Value.ownBlock] using e
    rcases g3 with g3 | g3
    · exact hb.ne (by rw [← e1]; exact g3)
    · have h1 := lt_of_blk hb.blk; have h2 := HG1.out.size; omega
  clear g1 g2 g3
  refine hK.out _ _ trivial ?_
  clear hK K
  simp only [Act.put, List.setIfInBounds_toArray, List.set_cons_zero, List.set_cons_succ, Reg.Kept]
  refine' Reg.G.pure (i := 9) (v := _) rfl (by rfl) (by kernel_rfl) (by kernel_rfl) (by kernel_rfl) (fun _ _ _ h => hP _ _ _ _ _ h) ?hye24 ?rehye24
  case hye24 => exact fun w => by first | (go_simp; done) | (go_simp; with_reducible rfl)
  simp only [Act.put, List.setIfInBounds_toArray, List.set_cons_zero, List.set_cons_succ]
  refine Reg.G.step (j := 10) (m := []) [] rfl (by kernel_rfl) rfl (by kernel_rfl) (fun K hK => ?_)
  have ko : y2.cell? ⟨go, 5, none⟩ = some (.slice Ao ds.length co) := (cell_of_blk HBK.out 5).trans rfl
  have fo : y2.frozen? ⟨go, 5, none⟩ = false := froz_of_blk HBK.out 5
  go_simp
  obtain ⟨y3, hu⟩ : ∃ u, y2.setCell ⟨go, 5, none⟩ (.slice (some ⟨gn, 0, none⟩) (ds.length + 1) cn) = u := ⟨_, rfl⟩
  rw [hu]
  have HBK2 : Hid (y3.heap[go]? = some (.cells (scells s2.name s2.frm s2.days (.slice (some ⟨gn, 0, none⟩) (ds.length + 1) cn)).toArray 26 (0, 0))) := by rw [← hu]; exact blk_set HBK.out 5 _
  have HFL : Hid (Fr (fun g => g = go) y2 y3) := by rw [← hu]; exact (Fr.refl (fun g => g = go) y2).setb 5 _
  have HBD : Hid (Bld bo go s2 (ds ++ [x]) (.slice (some ⟨gn, 0, none⟩) (ds.length + 1) cn) Wb y3) := ⟨hb.lo, HBK2.out, own_frb HOW.out HFL.out (fun k hk e => HNE.out (by rw [hk, e])), HNE.out, HGR.out.trans' HFL.out (fun g _ e => .inl e)⟩
  clear hu ko fo
  refine hK.out _ _ trivial ?_
  clear hK K
  simp only [Act.put, List.setIfInBounds_toArray, List.set_cons_zero, List.set_cons_succ, Reg.Kept]
  refine Reg.G.done (by kernel_rfl) ?_
  exact hQ _ _ _ _ _ _ _ _ _ _ _ ⟨_, HBD.out⟩
set_option maxRecDepth 100000 in
set_option maxHeartbeats 16000000 in
theorem parts_r6 {Wb X : World} {bo go gs gx cp : Nat} {A : Option Addr} {l : List DT} {s2 s : Rs.Source} {x : DT} {u0 u1 u4 u5 u7 u8 u9 u10 u11 u12 u13 u14 u15 u16 u17 u18 u19 u20 u21 u22 u23 u24 u25 u26 u27 u28 u29 u30 u31 u32 u33 u34 u35 u36 u37 u38 u39 u40 u41 u42 u43 u44 u45 u46 u47 u48 u49 u50 u51 u52 u53 u54 u55 u56 u57 u58 u59 u60 u61 u62 u63 u64 u65 u66 u67 u68 u69 u70 u71 u72 u73 u74 u75 u76 u77 u78 u79 u80 u81 u82 u83 u84 u85 u86 u87 u88 u89 u90 u91 u92 u93 u94 u95 u96 u97 u98 u99 u100 u101 u102 u103 u104 u105 u106 u107 u108 u109 u110 u111 u112 u113 u114 u115 u116 u117 u118 u119 u120 u121 u122 u123 u124 u125 u126 u127 u128 u129 u130 u131 u132 u133 u134 u135 u136 u137 u138 u139 u140 u141 u142 u143 u144 u145 u146 u147 u148 u149 u150 u151 u152 u153 u154 u155 u156 u157 u158 : Value} {Q : Exit → Act → World → Prop} {C : Code} (hC : C = Cut.region Try.f7 6) (hb : Bld bo go s2 [] (.slice none 0 0) Wb X) (hs : Wb.heap[gs]? = some (.cells (scells s.name s.frm s.days (.slice A l.length cp)).toArray 26 (0, 0))) (hgs : gs < bo ∧ gs ≠ go) (hL : LayL (fun g => g < bo ∧ g ≠ go) Wb l (.slice A l.length cp)) (hx : Wb.heap[gx]? = some (.cells x.cells.toArray 41 (0, 0))) (hgx : gx < bo ∧ gx ≠ go) (hxl : Lay (fun g => g < bo ∧ g ≠ go) Wb x) (hd : (l.length + 1) * 368 ≤ 140737488355328) (hP : Cut.Blind Q)
    (hQ : ∀ (v40 v41 v42 v43 v44 v45 v46 v47 v48 : Value) (wx : World), (∃ iv2, Bld bo go s2 (l ++ [x]) iv2 Wb wx) → Q .normal ⟨#[u0, u1, .pointer (some ⟨gs, 0, none⟩), .pointer (some ⟨gx, 0, none⟩), u4, u5, .pointer (some ⟨go, 0, none⟩), u7, u8, u9, u10, u11, u12, u13, u14, u15, u16, u17, u18, u19, u20, u21, u22, u23, u24, u25, u26, u27, u28, u29, u30, u31, u32, u33, u34, u35, u36, u37, u38, u39, v40, v41, v42, v43, v44, v45, v46, v47, v48, u49, u50, u51, u52, u53, u54, u55, u56, u57, u58, u59, u60, u61, u62, u63, u64, u65, u66, u67, u68, u69, u70, u71, u72, u73, u74, u75, u76, u77, u78, u79, u80, u81, u82, u83, u84, u85, u86, u87, u88, u89, u90, u91, u92, u93, u94, u95, u96, u97, u98, u99, u100, u101, u102, u103, u104, u105, u106, u107, u108, u109, u110, u111, u112, u113, u114, u115, u116, u117, u118, u119, u120, u121, u122, u123, u124, u125, u126, u127, u128, u129, u130, u131, u132, u133, u134, u135, u136, u137, u138, u139, u140, u141, u142, u143, u144, u145, u146, u147, u148, u149, u150, u151, u152, u153, u154, u155, u156, u157, u158], []⟩ wx) :
    Code.wp Try.prog C Q ⟨#[u0, u1, .pointer (some ⟨gs, 0, none⟩), .pointer (some ⟨gx, 0, none⟩), u4, u5, .pointer (some ⟨go, 0, none⟩), u7, u8, u9, u10, u11, u12, u13, u14, u15, u16, u17, u18, u19, u20, u21, u22, u23, u24, u25, u26, u27, u28, u29, u30, u31, u32, u33, u34, u35, u36, u37, u38, u39, u40, u41, u42, u43, u44, u45, u46, u47, u48, u49, u50, u51, u52, u53, u54, u55, u56, u57, u58, u59, u60, u61, u62, u63, u64, u65, u66, u67, u68, u69, u70, u71, u72, u73, u74, u75, u76, u77, u78, u79, u80, u81, u82, u83, u84, u85, u86, u87, u88, u89, u90, u91, u92, u93, u94, u95, u96, u97, u98, u99, u100, u101, u102, u103, u104, u105, u106, u107, u108, u109, u110, u111, u112, u113, u114, u115, u116, u117, u118, u119, u120, u121, u122, u123, u124, u125, u126, u127, u128, u129, u130, u131, u132, u133, u134, u135, u136, u137, u138, u139, u140, u141, u142, u143, u144, u145, u146, u147, u148, u149, u150, u151, u152, u153, u154, u155, u156, u157, u158], []⟩ X := by
  subst hC
  conv => arg 2; whnf
  refine Reg.G.start (by kernel_rfl) ?_
  obtain ⟨Xd, HXd⟩ : ∃ Y, Hid (X.drew = Y) := ⟨_, rfl⟩
  have HFD : Hid (Fr (fun _ => False) X Xd) := by rw [← HXd.out]; exact (Fr.refl _ X).drew
  obtain ⟨j0, hj, hj0, hj1, hj2⟩ := info_parts cinfo_item
  have hLX := hL.fr hb.fr (fun g hg e => by have := hg.1; omega)
  have hxX := hxl.fr hb.fr (fun g hg e => by have := hg.1; omega)
  have HSB : Hid (X.heap[gs]? = some (.cells (scells s.name s.frm s.days (.slice A l.length cp)).toArray 26 (0, 0))) := hb.fr.blk hs (fun e => by omega)
  have HXB : Hid (X.heap[gx]? = some (.cells x.cells.toArray 41 (0, 0))) := hb.fr.blk hx (fun e => by omega)
  rw [HXd.out]
  clear HXd
  refine' Reg.G.pure (i := 0) (v := _) rfl (by rfl) (by kernel_rfl) (by kernel_rfl) (by kernel_rfl) (fun _ _ _ h => hP _ _ _ _ _ h) ?hyg25 ?rehyg25
  case hyg25 => exact fun w => by first | (go_simp; done) | (go_simp; with_reducible rfl)
  simp only [Act.put, List.setIfInBounds_toArray, List.set_cons_zero, List.set_cons_succ]
  refine' Reg.G.take (i := 1) (v := _) (F := (fun w => Fr (fun _ => False) X w)) rfl (by rfl) (by kernel_rfl) (by kernel_rfl) (by kernel_rfl) (fun _ _ _ h => hP _ _ _ _ _ h) (HFD.out) ?hyg26 ?rehyg26
  case hyg26 => intro w hw; have kc : w.cell? ⟨go, 5, none⟩ = some (.slice none 0 0) := (cell_of_blk (hw.blk hb.blk (fun e => e)) 5).trans rfl; clear hw; first | (go_simp; done) | (go_simp; with_reducible rfl)
  simp only [Act.put, List.setIfInBounds_toArray, List.set_cons_zero, List.set_cons_succ]
  refine' Reg.G.pure (i := 2) (v := _) rfl (by rfl) (by kernel_rfl) (by kernel_rfl) (by kernel_rfl) (fun _ _ _ h => hP _ _ _ _ _ h) ?hyg27 ?rehyg27
  case hyg27 => exact fun w => by first | (go_simp; done) | (go_simp; with_reducible rfl)
  simp only [Act.put, List.setIfInBounds_toArray, List.set_cons_zero, List.set_cons_succ]
  refine' Reg.G.take (i := 3) (v := _) (F := (fun w => Fr (fun _ => False) X w)) rfl (by rfl) (by kernel_rfl) (by kernel_rfl) (by kernel_rfl) (fun _ _ _ h => hP _ _ _ _ _ h) (HFD.out) ?hyg28 ?rehyg28
  case hyg28 => intro w hw; have kc : w.cell? ⟨gs, 5, none⟩ = some (.slice A l.length cp) := (cell_of_blk (hw.blk HSB.out (fun e => e)) 5).trans rfl; clear hw; first | (go_simp; done) | (go_simp; with_reducible rfl)
  simp only [Act.put, List.setIfInBounds_toArray, List.set_cons_zero, List.set_cons_succ]
  refine' Reg.G.take (i := 5) (v := _) (F := (fun w => Fr (fun _ => False) X w)) rfl (by rfl) (by kernel_rfl) (by kernel_rfl) (by kernel_rfl) (fun _ _ _ h => hP _ _ _ _ _ h) (HFD.out) ?hyg29 ?rehyg29
  case hyg29 => intro w hw; refine run_load_row (P := Try.prog) 41 (.tmp 3) ?_ gx ?_ 41 x.cells.toArray _ (hw.blk HXB.out (fun e => e)) Try.underlying41 rfl (info_it x) <;> rfl
  simp only [Act.put, List.setIfInBounds_toArray, List.set_cons_zero, List.set_cons_succ]
  refine Reg.G.two (j1 := 4) (j2 := 6) (m1 := [true, false, false]) (m2 := [false, true, true]) [5, 3, 1] rfl rfl (by kernel_rfl) rfl (by kernel_rfl) (by kernel_rfl) (fun K hK => ?_) (fun K hK => ?_)
  · have HOA : Hid (Xd.ownsRow bo 41 33 (.slice none 0 0) 0 []) := own_fr hb.own HFD.out (fun _ _ _ e => e)
    have HRW : Hid (Row Xd (.slice A l.length cp) 33 (l.map DT.cells)) := (hLX.fr HFD.out (fun _ _ e => e)).row.1
    refine wp_append_row (.tmp 41) (.tmp 43) 24 rfl bo 41 j0 _ 33 368 Try.underlying24 hj hj0 hj1 hj2 rfl (by decide) (.slice none 0 0) 0 [] (by rfl) HOA.out (.slice A l.length cp) (by rfl) DT.cells l HRW.out (fun y _ => y.cells_len) (fun y hy => one_all (hLX.lay y hy).one) (by simp only [maxLen]; omega) (by omega) (by have h1 := hb.lo; have h2 := hb.fr.size; have h3 := HFD.out.size; omega) ?_
    intro v1 y1 g1 g2 g3
    have HF1 : Hid (Fr (fun _ => False) X y1) := HFD.out.trans ((Fr.of_grown g2).mono (fun g _ h => by simp [Value.ownBlock] at h))
    have HO1 : Hid (y1.ownsRow bo 41 33 v1 l.length (l.flatMap DT.cells)) := by
      rw [Nat.zero_add, List.nil_append] at g1
      exact g1
    have HN1 : Hid (∀ g, v1.ownBlock = some g → X.heap.size ≤ g) := fun g hg => by
      rcases g3 with g3 | g3
      · rw [g3] at hg; simp [Value.ownBlock] at hg
      · rw [g3] at hg; injection hg with hg; have := HFD.out.size; omega
    clear g1 g2 g3
    refine hK.out _ _ ⟨HF1.out, trivial⟩ ?_
    clear hK K
    simp only [Act.put, List.setIfInBounds_toArray, List.set_cons_zero, List.set_cons_succ, Reg.Kept]
    refine Reg.G.step (j := 6) (m := [false]) [5] rfl (by kernel_rfl) rfl (by kernel_rfl) (fun K hK => ?_)
    refine wp_bsl1 24 _ rfl (v0 := .agg x.cells.toArray) rfl (.slice (some ⟨y1.heap.size, 0, none⟩) 1 1) (y1.alloc (.cells x.cells.toArray 41)) ?hb2 ?hq2
    case hb2 => exact bsl_one hxX _
    obtain ⟨y2, hu⟩ : ∃ u, y1.alloc (.cells x.cells.toArray 41) = u := ⟨_, rfl⟩
    rw [hu]
    have HF2 : Hid (Fr (fun _ => False) X y2) := by rw [← hu]; exact HF1.out.alloc _
    have HA2 : Hid (∀ j y, x.cells[j]? = some y → y2.cell? ((⟨y1.heap.size, 0, none⟩ : Addr).add j) = some y) := by rw [← hu]; exact cells_new y1 x.cells _ _ rfl
    have HO2 : Hid (y2.ownsRow bo 41 33 v1 l.length (l.flatMap DT.cells)) := by rw [← hu]; exact own_fr HO1.out ((Fr.refl (fun _ => False) _).alloc _) (fun _ _ _ e => e)
    clear hu
    refine hK.out _ _ trivial ?_
    clear hK K
    simp only [Act.put, List.setIfInBounds_toArray, List.set_cons_zero, List.set_cons_succ, Reg.Kept]
    refine Reg.G.step (j := 7) (m := []) [] rfl (by kernel_rfl) rfl (by kernel_rfl) (fun K hK => ?_)
    refine wp_append_lies y2 (.tmp 44) (.tmp 46) 24 rfl bo 41 j0 _ 33 368 Try.underlying24 hj hj0 hj1 hj2 rfl (by decide) v1 l.length _ (by rfl) HO2.out ⟨y1.heap.size, 0, none⟩ 1 1 x.cells (by rfl) x.cells_len HA2.out (one_all hxX.one) (by decide) (by simp only [maxLen]; omega) (by omega) (by have h1 := hb.lo; have h2 := hb.fr.size; have h3 := HF2.out.size; omega) (y2.heap.size) rfl ?_
    intro gn cn y3 g1 g2 g3 _
    have HOW : Hid (y3.ownsRow bo 41 33 (.slice (some ⟨gn, 0, none⟩) (l.length + 1) cn) (l ++ [x]).length ((l ++ [x]).flatMap DT.cells)) := by
      have e1 : (l ++ [x]).length = l.length + 1 := by simp
      have e2 : (l ++ [x]).flatMap DT.cells = l.flatMap DT.cells ++ x.cells := by simp [List.flatMap_append]
      rw [e1, e2]
      exact g1
    have HGR : Hid (Fr (fun g => g = go ∨ bo ≤ g) Wb y3) := (hb.fr.trans' HF2.out (fun _ _ e => e.elim)).grown g2 (fun k hk => .inl (.inr (own_lt HO2.out k hk).1))
    have HBK : Hid (y3.heap[go]? = some (.cells (scells s2.name s2.frm s2.days (.slice none 0 0)).toArray 26 (0, 0))) := (Fr.of_grown g2).blk (HF2.out.blk hb.blk (fun e => e)) (fun e => by have h1 := HN1.out _ e; have h2 := lt_of_blk hb.blk; omega)
    have HNE : Hid ((Value.slice (some ⟨gn, 0, none⟩) (l.length + 1) cn).ownBlock ≠ some go) := fun e => by
      have e1 : gn = go := by simpa [Value.ownBlock] using e
      have h2 := lt_of_blk hb.blk
      rcases g3 with g3 | g3
      · have h1 := HN1.out _ g3; omega
      · have h3 := HF2.out.size; omega
    clear g1 g2 g3
    refine hK.out _ _ trivial ?_
    clear hK K
    simp only [Act.put, List.setIfInBounds_toArray, List.set_cons_zero, List.set_cons_succ, Reg.Kept]
    refine' Reg.G.pure (i := 8) (v := _) rfl (by rfl) (by kernel_rfl) (by kernel_rfl) (by kernel_rfl) (fun _ _ _ h => hP _ _ _ _ _ h) ?hyg30 ?rehyg30
    case hyg30 => exact fun w => by first | (go_simp; done) | (go_simp; with_reducible rfl)
    simp only [Act.put, List.setIfInBounds_toArray, List.set_cons_zero, List.set_cons_succ]
    refine Reg.G.step (j := 9) (m := []) [] rfl (by kernel_rfl) rfl (by kernel_rfl) (fun K hK => ?_)
    have ko : y3.cell? ⟨go, 5, none⟩ = some (.slice none 0 0) := (cell_of_blk HBK.out 5).trans rfl
    have fo : y3.frozen? ⟨go, 5, none⟩ = false := froz_of_blk HBK.out 5
    go_simp
    obtain ⟨y4, hu⟩ : ∃ u, y3.setCell ⟨go, 5, none⟩ (.slice (some ⟨gn, 0, none⟩) (l.length + 1) cn) = u := ⟨_, rfl⟩
    rw [hu]
    have HBK2 : Hid (y4.heap[go]? = some (.cells (scells s2.name s2.frm s2.days (.slice (some ⟨gn, 0, none⟩) (l.length + 1) cn)).toArray 26 (0, 0))) := by rw [← hu]; exact blk_set HBK.out 5 _
    have HFL : Hid (Fr (fun g => g = go) y3 y4) := by rw [← hu]; exact (Fr.refl (fun g => g = go) y3).setb 5 _
    have HBD : Hid (Bld bo go s2 (l ++ [x]) (.slice (some ⟨gn, 0, none⟩) (l.length + 1) cn) Wb y4) := ⟨hb.lo, HBK2.out, own_frb HOW.out HFL.out (fun k hk e => HNE.out (by rw [hk, e])), HNE.out, HGR.out.trans' HFL.out (fun g _ e => .inl e)⟩
    clear hu ko fo
    refine hK.out _ _ trivial ?_
    clear hK K
    simp only [Act.put, List.setIfInBounds_toArray, List.set_cons_zero, List.set_cons_succ, Reg.Kept]
    refine Reg.G.done (by kernel_rfl) ?_
    exact hQ _ _ _ _ _ _ _ _ _ _ ⟨_, HBD.out⟩
  · refine wp_bsl1 24 _ rfl (v0 := .agg x.cells.toArray) rfl (.slice (some ⟨Xd.heap.size, 0, none⟩) 1 1) (Xd.alloc (.cells x.cells.toArray 41)) ?hb5 ?hq5
    case hb5 => exact bsl_one hxX _
    obtain ⟨y5, hu⟩ : ∃ u, Xd.alloc (.cells x.cells.toArray 41) = u := ⟨_, rfl⟩
    rw [hu]
    have HF5 : Hid (Fr (fun _ => False) X y5) := by rw [← hu]; exact HFD.out.alloc _
    have HA5 : Hid (∀ j y, x.cells[j]? = some y → y5.cell? ((⟨Xd.heap.size, 0, none⟩ : Addr).add j) = some y) := by rw [← hu]; exact cells_new Xd x.cells _ _ rfl
    clear hu
    refine hK.out _ _ ⟨HF5.out, HF5.out, trivial⟩ ?_
    clear hK K
    simp only [Act.put, List.setIfInBounds_toArray, List.set_cons_zero, List.set_cons_succ, Reg.Kept]
    refine Reg.G.step (j := 4) (m := [false, false]) [3, 1] rfl (by kernel_rfl) rfl (by kernel_rfl) (fun K hK => ?_)
    have HOA : Hid (y5.ownsRow bo 41 33 (.slice none 0 0) 0 []) := own_fr hb.own HF5.out (fun _ _ _ e => e)
    have HRW : Hid (Row y5 (.slice A l.length cp) 33 (l.map DT.cells)) := (hLX.fr HF5.out (fun _ _ e => e)).row.1
    refine wp_append_row (.tmp 41) (.tmp 43) 24 rfl bo 41 j0 _ 33 368 Try.underlying24 hj hj0 hj1 hj2 rfl (by decide) (.slice none 0 0) 0 [] (by rfl) HOA.out (.slice A l.length cp) (by rfl) DT.cells l HRW.out (fun y _ => y.cells_len) (fun y hy => one_all (hLX.lay y hy).one) (by simp only [maxLen]; omega) (by omega) (by have h1 := hb.lo; have h2 := hb.fr.size; have h3 := HF5.out.size; omega) ?_
    intro v1 y6 g1 g2 g3
    have HF6 : Hid (Fr (fun _ => False) X y6) := HF5.out.trans ((Fr.of_grown g2).mono (fun g _ h => by simp [Value.ownBlock] at h))
    have HO6 : Hid (y6.ownsRow bo 41 33 v1 l.length (l.flatMap DT.cells)) := by
      rw [Nat.zero_add, List.nil_append] at g1
      exact g1
    have HN1 : Hid (∀ g, v1.ownBlock = some g → X.heap.size ≤ g) := fun g hg => by
      rcases g3 with g3 | g3
      · rw [g3] at hg; simp [Value.ownBlock] at hg
      · rw [g3] at hg; injection hg with hg; have := HF5.out.size; omega
    have HA6 : Hid (∀ j y, x.cells[j]? = some y → y6.cell? ((⟨Xd.heap.size, 0, none⟩ : Addr).add j) = some y) := fun j y hj => by
      have h := HA5.out j y hj
      rw [Go.WideShapes.add_plain] at h ⊢
      exact cell_fr ((Fr.of_grown g2).mono (fun g _ h => by simp [Value.ownBlock] at h)) h
    clear g1 g2 g3
    refine hK.out _ _ trivial ?_
    clear hK K
    simp only [Act.put, List.setIfInBounds_toArray, List.set_cons_zero, List.set_cons_succ, Reg.Kept]
    refine Reg.G.step (j := 7) (m := []) [] rfl (by kernel_rfl) rfl (by kernel_rfl) (fun K hK => ?_)
    refine wp_append_lies y6 (.tmp 44) (.tmp 46) 24 rfl bo 41 j0 _ 33 368 Try.underlying24 hj hj0 hj1 hj2 rfl (by decide) v1 l.length _ (by rfl) HO6.out ⟨Xd.heap.size, 0, none⟩ 1 1 x.cells (by rfl) x.cells_len HA6.out (one_all hxX.one) (by decide) (by simp only [maxLen]; omega) (by omega) (by have h1 := hb.lo; have h2 := hb.fr.size; have h3 := HF6.out.size; omega) (y6.heap.size) rfl ?_
    intro gn cn y7 g1 g2 g3 _
    have HOW : Hid (y7.ownsRow bo 41 33 (.slice (some ⟨gn, 0, none⟩) (l.length + 1) cn) (l ++ [x]).length ((l ++ [x]).flatMap DT.cells)) := by
      have e1 : (l ++ [x]).length = l.length + 1 := by simp
      have e2 : (l ++ [x]).flatMap DT.cells = l.flatMap DT.cells ++ x.cells := by simp [List.flatMap_append]
      rw [e1, e2]
      exact g1
    have HGR : Hid (Fr (fun g => g = go ∨ bo ≤ g) Wb y7) := (hb.fr.trans' HF6.out (fun _ _ e => e.elim)).grown g2 (fun k hk => .inl (.inr (own_lt HO6.out k hk).1))
    have HBK : Hid (y7.heap[go]? = some (.cells (scells s2.name s2.frm s2.days (.slice none 0 0)).toArray 26 (0, 0))) := (Fr.of_grown g2).blk (HF6.out.blk hb.blk (fun e => e)) (fun e => by have h1 := HN1.out _ e; have h2 := lt_of_blk hb.blk; omega)
    have HNE : Hid ((Value.slice (some ⟨gn, 0, none⟩) (l.length + 1) cn).ownBlock ≠ some go) := fun e => by
      have e1 : gn = go := by simpa [Value.ownBlock] using e
      have h2 := lt_of_blk hb.blk
      rcases g3 with g3 | g3
      · have h1 := HN1.out _ g3; omega
      · have h3 := HF6.out.size; omega
    clear g1 g2 g3
    refine hK.out _ _ trivial ?_
    clear hK K
    simp only [Act.put, List.setIfInBounds_toArray, List.set_cons_zero, List.set_cons_succ, Reg.Kept]
    refine' Reg.G.pure (i := 8) (v := _) rfl (by rfl) (by kernel_rfl) (by kernel_rfl) (by kernel_rfl) (fun _ _ _ h => hP _ _ _ _ _ h) ?hyg31 ?rehyg31
    case hyg31 => exact fun w => by first | (go_simp; done) | (go_simp; with_reducible rfl)
    simp only [Act.put, List.setIfInBounds_toArray, List.set_cons_zero, List.set_cons_succ]
    refine Reg.G.step (j := 9) (m := []) [] rfl (by kernel_rfl) rfl (by kernel_rfl) (fun K hK => ?_)
    have ko : y7.cell? ⟨go, 5, none⟩ = some (.slice none 0 0) := (cell_of_blk HBK.out 5).trans rfl
    have fo : y7.frozen? ⟨go, 5, none⟩ = false := froz_of_blk HBK.out 5
    go_simp
    obtain ⟨y8, hu⟩ : ∃ u, y7.setCell ⟨go, 5, none⟩ (.slice (some ⟨gn, 0, none⟩) (l.length + 1) cn) = u := ⟨_, rfl⟩
    rw [hu]
    have HBK2 : Hid (y8.heap[go]? = some (.cells (scells s2.name s2.frm s2.days (.slice (some ⟨gn, 0, none⟩) (l.length + 1) cn)).toArray 26 (0, 0))) := by rw [← hu]; exact blk_set HBK.out 5 _
    have HFL : Hid (Fr (fun g => g = go) y7 y8) := by rw [← hu]; exact (Fr.refl (fun g => g = go) y7).setb 5 _
    have HBD : Hid (Bld bo go s2 (l ++ [x]) (.slice (some ⟨gn, 0, none⟩) (l.length + 1) cn) Wb y8) := ⟨hb.lo, HBK2.out, own_frb HOW.out HFL.out (fun k hk e => HNE.out (by rw [hk, e])), HNE.out, HGR.out.trans' HFL.out (fun g _ e => .inl e)⟩
    clear hu ko fo
    refine hK.out _ _ trivial ?_
    clear hK K
    simp only [Act.put, List.setIfInBounds_toArray, List.set_cons_zero, List.set_cons_succ, Reg.Kept]
    refine Reg.G.done (by kernel_rfl) ?_
    exact hQ _ _ _ _ _ _ _ _ _ _ ⟨_, HBD.out⟩
set_option maxRecDepth 100000 in
set_option maxHeartbeats 16000000 in
theorem parts_r21 {X : World} {gA gB gC : Nat} {es fs hs : List DT} {Ae Af Ah : Option Addr} {ce cf ch : Nat} {sa sb sc : Src} {u0 u1 u2 u3 u4 u6 u7 u8 u10 u12 u14 u15 u16 u17 u18 u19 u20 u21 u22 u23 u24 u25 u26 u27 u28 u29 u30 u31 u32 u33 u34 u35 u36 u37 u38 u39 u40 u41 u42 u43 u44 u45 u46 u47 u48 u49 u50 u51 u52 u53 u54 u55 u56 u57 u58 u59 u60 u61 u62 u63 u64 u65 u66 u67 u68 u69 u70 u71 u72 u73 u74 u75 u76 u77 u78 u79 u80 u81 u82 u83 u84 u85 u86 u87 u88 u89 u90 u91 u92 u93 u94 u95 u96 u97 u98 u99 u100 u101 u102 u103 u104 u105 u106 u107 u108 u109 u110 u111 u112 u113 u114 u115 u116 u117 u118 u119 u120 u121 u122 u123 u124 u125 u126 u127 u128 u129 u130 u131 u132 u133 u134 u135 u136 u137 u138 u139 u140 u141 u142 u143 u144 u145 u146 u147 u148 u149 u150 u151 u152 u153 u154 u155 u156 u157 u158 : Value} {Q : Exit → Act → World → Prop} {C : Code} (hC : C = Cut.region Try.f7 21) (hba : X.heap[gA]? = some (.cells (scells sa.name sa.frm sa.days (.slice Ae es.length ce)).toArray 26 (0, 0))) (hbb : X.heap[gB]? = some (.cells (scells sb.name sb.frm sb.days (.slice Af fs.length cf)).toArray 26 (0, 0))) (hbc : X.heap[gC]? = some (.cells (scells sc.name sc.frm sc.days (.slice Ah hs.length ch)).toArray 26 (0, 0))) (hes : LayL All X es (.slice Ae es.length ce)) (hfs2 : LayL All X fs (.slice Af fs.length cf)) (hhs : LayL All X hs (.slice Ah hs.length ch)) (htr : fs.map DT.tree = es.map DT.tree ++ hs.map DT.tree) (hln : es.length ≤ fs.length) (hP : Cut.Blind Q)
    (hQ : ∀ (v136 v137 v138 v139 v140 v141 v142 v143 v144 v145 v146 v147 v148 v149 v150 v151 v152 v153 v154 v155 v156 v157 v158 : Value) (wx : World), Fr (fun _ => False) X wx → Q .normal ⟨#[u0, u1, u2, u3, .bool true, .bool true, u6, u7, u8, .pointer (some ⟨gA, 0, none⟩), u10, .pointer (some ⟨gB, 0, none⟩), u12, .pointer (some ⟨gC, 0, none⟩), u14, u15, u16, u17, u18, u19, u20, u21, u22, u23, u24, u25, u26, u27, u28, u29, u30, u31, u32, u33, u34, u35, u36, u37, u38, u39, u40, u41, u42, u43, u44, u45, u46, u47, u48, u49, u50, u51, u52, u53, u54, u55, u56, u57, u58, u59, u60, u61, u62, u63, u64, u65, u66, u67, u68, u69, u70, u71, u72, u73, u74, u75, u76, u77, u78, u79, u80, u81, u82, u83, u84, u85, u86, u87, u88, u89, u90, u91, u92, u93, u94, u95, u96, u97, u98, u99, u100, u101, u102, u103, u104, u105, u106, u107, u108, u109, u110, u111, u112, u113, u114, u115, u116, u117, u118, u119, u120, u121, u122, u123, u124, u125, u126, u127, u128, u129, u130, u131, u132, u133, u134, u135, v136, v137, v138, v139, v140, v141, v142, v143, v144, v145, v146, v147, v148, v149, v150, v151, v152, v153, v154, v155, v156, v157, v158], []⟩ wx) :
    Code.wp Try.prog C Q ⟨#[u0, u1, u2, u3, u4, .bool true, u6, u7, u8, .pointer (some ⟨gA, 0, none⟩), u10, .pointer (some ⟨gB, 0, none⟩), u12, .pointer (some ⟨gC, 0, none⟩), u14, u15, u16, u17, u18, u19, u20, u21, u22, u23, u24, u25, u26, u27, u28, u29, u30, u31, u32, u33, u34, u35, u36, u37, u38, u39, u40, u41, u42, u43, u44, u45, u46, u47, u48, u49, u50, u51, u52, u53, u54, u55, u56, u57, u58, u59, u60, u61, u62, u63, u64, u65, u66, u67, u68, u69, u70, u71, u72, u73, u74, u75, u76, u77, u78, u79, u80, u81, u82, u83, u84, u85, u86, u87, u88, u89, u90, u91, u92, u93, u94, u95, u96, u97, u98, u99, u100, u101, u102, u103, u104, u105, u106, u107, u108, u109, u110, u111, u112, u113, u114, u115, u116, u117, u118, u119, u120, u121, u122, u123, u124, u125, u126, u127, u128, u129, u130, u131, u132, u133, u134, u135, u136, u137, u138, u139, u140, u141, u142, u143, u144, u145, u146, u147, u148, u149, u150, u151, u152, u153, u154, u155, u156, u157, u158], []⟩ X := by
  subst hC
  conv => arg 2; whnf
  refine Reg.G.start (by kernel_rfl) ?_
  obtain ⟨Xd, HXd⟩ : ∃ Y, Hid (X.drew = Y) := ⟨_, rfl⟩
  have HFD : Hid (Fr (fun _ => False) X Xd) := by rw [← HXd.out]; exact (Fr.refl _ X).drew
  obtain ⟨Ae', ce', he, hec1, hec2⟩ := hes.slice
  injection he with q1 _ q3; subst q1; subst q3
  obtain ⟨Af', cf', he, hfc1, hfc2⟩ := hfs2.slice
  injection he with q1 _ q3; subst q1; subst q3
  have ht1 : es.map DT.tree = (fs.take es.length).map DT.tree := by rw [List.map_take, htr, List.take_left' (by rw [List.length_map])]
  have ht2 : hs.map DT.tree = (fs.drop es.length).map DT.tree := by rw [List.map_drop, htr, List.drop_left' (by rw [List.length_map])]
  have i0 : (0 : Int) ≤ (es.length : Int) := Int.natCast_nonneg _
  have i1 : (es.length : Int) ≤ (fs.length : Int) := by omega
  have i2 : (fs.length : Int) ≤ (cf : Int) := by omega
  have i3 : (es.length : Int) ≤ (cf : Int) := by omega
  have i4 : ¬ ((cf : Int) < (es.length : Int)) := by omega
  rw [HXd.out]
  clear HXd
  refine' Reg.G.pure (i := 0) (v := _) rfl (by rfl) (by kernel_rfl) (by kernel_rfl) (by kernel_rfl) (fun _ _ _ h => hP _ _ _ _ _ h) ?hym32 ?rehym32
  case hym32 => exact fun w => by first | (go_simp; done) | (go_simp; with_reducible rfl)
  simp only [Act.put, List.setIfInBounds_toArray, List.set_cons_zero, List.set_cons_succ]
  refine' Reg.G.pure (i := 1) (v := _) rfl (by rfl) (by kernel_rfl) (by kernel_rfl) (by kernel_rfl) (fun _ _ _ h => hP _ _ _ _ _ h) ?hym33 ?rehym33
  case hym33 => exact fun w => by first | (go_simp; done) | (go_simp; with_reducible rfl)
  simp only [Act.put, List.setIfInBounds_toArray, List.set_cons_zero, List.set_cons_succ]
  refine' Reg.G.pure (i := 2) (v := _) rfl (by rfl) (by kernel_rfl) (by kernel_rfl) (by kernel_rfl) (fun _ _ _ h => hP _ _ _ _ _ h) ?hym34 ?rehym34
  case hym34 => exact fun w => by first | (go_simp; done) | (go_simp; with_reducible rfl)
  simp only [Act.put, List.setIfInBounds_toArray, List.set_cons_zero, List.set_cons_succ]
  refine' Reg.G.take (i := 3) (v := _) (F := (fun w => Fr (fun _ => False) X w)) rfl (by rfl) (by kernel_rfl) (by kernel_rfl) (by kernel_rfl) (fun _ _ _ h => hP _ _ _ _ _ h) (HFD.out) ?hym35 ?rehym35
  case hym35 => intro w hw; have kc : w.cell? ⟨gA, 5, none⟩ = some (.slice Ae es.length ce) := (cell_of_blk (hw.blk hba (fun e => e)) 5).trans rfl; clear hw; first | (go_simp; done) | (go_simp; with_reducible rfl)
  simp only [Act.put, List.setIfInBounds_toArray, List.set_cons_zero, List.set_cons_succ]
  refine' Reg.G.pure (i := 4) (v := _) rfl (by rfl) (by kernel_rfl) (by kernel_rfl) (by kernel_rfl) (fun _ _ _ h => hP _ _ _ _ _ h) ?hym36 ?rehym36
  case hym36 => exact fun w => by first | (go_simp; done) | (go_simp; with_reducible rfl)
  simp only [Act.put, List.setIfInBounds_toArray, List.set_cons_zero, List.set_cons_succ]
  refine' Reg.G.take (i := 5) (v := _) (F := (fun w => Fr (fun _ => False) X w)) rfl (by rfl) (by kernel_rfl) (by kernel_rfl) (by kernel_rfl) (fun _ _ _ h => hP _ _ _ _ _ h) (HFD.out) ?hym37 ?rehym37
  case hym37 => intro w hw; have kc : w.cell? ⟨gB, 5, none⟩ = some (.slice Af fs.length cf) := (cell_of_blk (hw.blk hbb (fun e => e)) 5).trans rfl; clear hw; first | (go_simp; done) | (go_simp; with_reducible rfl)
  simp only [Act.put, List.setIfInBounds_toArray, List.set_cons_zero, List.set_cons_succ]
  refine' Reg.G.pure (i := 6) (v := _) rfl (by rfl) (by kernel_rfl) (by kernel_rfl) (by kernel_rfl) (fun _ _ _ h => hP _ _ _ _ _ h) ?hym38 ?rehym38
  case hym38 => exact fun w => by first | (go_simp; done) | (go_simp; with_reducible rfl)
  simp only [Act.put, List.setIfInBounds_toArray, List.set_cons_zero, List.set_cons_succ]
  refine' Reg.G.take (i := 7) (v := _) (F := (fun w => Fr (fun _ => False) X w)) rfl (by rfl) (by kernel_rfl) (by kernel_rfl) (by kernel_rfl) (fun _ _ _ h => hP _ _ _ _ _ h) (HFD.out) ?hym39 ?rehym39
  case hym39 => intro w hw; have kc : w.cell? ⟨gA, 5, none⟩ = some (.slice Ae es.length ce) := (cell_of_blk (hw.blk hba (fun e => e)) 5).trans rfl; clear hw; first | (go_simp; done) | (go_simp; with_reducible rfl)
  simp only [Act.put, List.setIfInBounds_toArray, List.set_cons_zero, List.set_cons_succ]
  refine' Reg.G.pure (i := 8) (v := _) rfl (by rfl) (by kernel_rfl) (by kernel_rfl) (by kernel_rfl) (fun _ _ _ h => hP _ _ _ _ _ h) ?hym40 ?rehym40
  case hym40 => exact fun w => by first | (go_simp; done) | (go_simp; with_reducible rfl)
  simp only [Act.put, List.setIfInBounds_toArray, List.set_cons_zero, List.set_cons_succ]
  refine' Reg.G.pure (i := 9) (v := _) rfl (by rfl) (by kernel_rfl) (by kernel_rfl) (by kernel_rfl) (fun _ _ _ h => hP _ _ _ _ _ h) ?hym41 ?rehym41
  case hym41 => exact fun w => by first | (go_simp; done) | (go_simp; with_reducible rfl)
  simp only [Act.put, List.setIfInBounds_toArray, List.set_cons_zero, List.set_cons_succ]
  refine Reg.G.step (j := 10) (m := [false, false, false]) [7, 5, 3] rfl (by kernel_rfl) rfl (by kernel_rfl) (fun K hK => ?_)
  go_simp
  refine (items_true _ es (fs.take es.length) _ _ Xd All All (Nat.le_refl _) ht1 (hes.fr HFD.out (fun _ _ e => e)) ((hfs2.take (by omega)).fr HFD.out (fun _ _ e => e))).mono ?_
  rintro e y9 ⟨rfl, hf⟩
  have HF9 : Hid (Fr (fun _ => False) X y9) := HFD.out.trans hf
  clear hf
  refine hK.out _ _ trivial ?_
  clear hK K
  simp only [Act.put, List.setIfInBounds_toArray, List.set_cons_zero, List.set_cons_succ, Reg.Kept]
  refine' Reg.G.pure (i := 11) (v := _) rfl (by rfl) (by kernel_rfl) (by kernel_rfl) (by kernel_rfl) (fun _ _ _ h => hP _ _ _ _ _ h) ?hym42 ?rehym42
  case hym42 => exact fun w => by first | (go_simp; done) | (go_simp; with_reducible rfl)
  simp only [Act.put, List.setIfInBounds_toArray, List.set_cons_zero, List.set_cons_succ]
  refine' Reg.G.pure (i := 12) (v := _) rfl (by rfl) (by kernel_rfl) (by kernel_rfl) (by kernel_rfl) (fun _ _ _ h => hP _ _ _ _ _ h) ?hym43 ?rehym43
  case hym43 => exact fun w => by first | (go_simp; done) | (go_simp; with_reducible rfl)
  simp only [Act.put, List.setIfInBounds_toArray, List.set_cons_zero, List.set_cons_succ]
  refine' Reg.G.pure (i := 13) (v := _) rfl (by rfl) (by kernel_rfl) (by kernel_rfl) (by kernel_rfl) (fun _ _ _ h => hP _ _ _ _ _ h) ?hym44 ?rehym44
  case hym44 => exact fun w => by first | (go_simp; done) | (go_simp; with_reducible rfl)
  simp only [Act.put, List.setIfInBounds_toArray, List.set_cons_zero, List.set_cons_succ]
  refine' Reg.G.take (i := 14) (v := _) (F := (fun w => Fr (fun _ => False) X w)) rfl (by rfl) (by kernel_rfl) (by kernel_rfl) (by kernel_rfl) (fun _ _ _ h => hP _ _ _ _ _ h) (HF9.out) ?hym45 ?rehym45
  case hym45 => intro w hw; have kc : w.cell? ⟨gC, 5, none⟩ = some (.slice Ah hs.length ch) := (cell_of_blk (hw.blk hbc (fun e => e)) 5).trans rfl; clear hw; first | (go_simp; done) | (go_simp; with_reducible rfl)
  simp only [Act.put, List.setIfInBounds_toArray, List.set_cons_zero, List.set_cons_succ]
  refine' Reg.G.pure (i := 15) (v := _) rfl (by rfl) (by kernel_rfl) (by kernel_rfl) (by kernel_rfl) (fun _ _ _ h => hP _ _ _ _ _ h) ?hym46 ?rehym46
  case hym46 => exact fun w => by first | (go_simp; done) | (go_simp; with_reducible rfl)
  simp only [Act.put, List.setIfInBounds_toArray, List.set_cons_zero, List.set_cons_succ]
  refine' Reg.G.take (i := 16) (v := _) (F := (fun w => Fr (fun _ => False) X w)) rfl (by rfl) (by kernel_rfl) (by kernel_rfl) (by kernel_rfl) (fun _ _ _ h => hP _ _ _ _ _ h) (HF9.out) ?hym47 ?rehym47
  case hym47 => intro w hw; have kc : w.cell? ⟨gB, 5, none⟩ = some (.slice Af fs.length cf) := (cell_of_blk (hw.blk hbb (fun e => e)) 5).trans rfl; clear hw; first | (go_simp; done) | (go_simp; with_reducible rfl)
  simp only [Act.put, List.setIfInBounds_toArray, List.set_cons_zero, List.set_cons_succ]
  refine' Reg.G.pure (i := 17) (v := _) rfl (by rfl) (by kernel_rfl) (by kernel_rfl) (by kernel_rfl) (fun _ _ _ h => hP _ _ _ _ _ h) ?hym48 ?rehym48
  case hym48 => exact fun w => by first | (go_simp; done) | (go_simp; with_reducible rfl)
  simp only [Act.put, List.setIfInBounds_toArray, List.set_cons_zero, List.set_cons_succ]
  refine' Reg.G.take (i := 18) (v := _) (F := (fun w => Fr (fun _ => False) X w)) rfl (by rfl) (by kernel_rfl) (by kernel_rfl) (by kernel_rfl) (fun _ _ _ h => hP _ _ _ _ _ h) (HF9.out) ?hym49 ?rehym49
  case hym49 => intro w hw; have kc : w.cell? ⟨gA, 5, none⟩ = some (.slice Ae es.length ce) := (cell_of_blk (hw.blk hba (fun e => e)) 5).trans rfl; clear hw; first | (go_simp; done) | (go_simp; with_reducible rfl)
  simp only [Act.put, List.setIfInBounds_toArray, List.set_cons_zero, List.set_cons_succ]
  refine' Reg.G.pure (i := 19) (v := _) rfl (by rfl) (by kernel_rfl) (by kernel_rfl) (by kernel_rfl) (fun _ _ _ h => hP _ _ _ _ _ h) ?hym50 ?rehym50
  case hym50 => exact fun w => by first | (go_simp; done) | (go_simp; with_reducible rfl)
  simp only [Act.put, List.setIfInBounds_toArray, List.set_cons_zero, List.set_cons_succ]
  refine' Reg.G.pure (i := 20) (v := _) rfl (by rfl) (by kernel_rfl) (by kernel_rfl) (by kernel_rfl) (fun _ _ _ h => hP _ _ _ _ _ h) ?hym51 ?rehym51
  case hym51 => exact fun w => by first | (go_simp; done) | (go_simp; with_reducible rfl)
  simp only [Act.put, List.setIfInBounds_toArray, List.set_cons_zero, List.set_cons_succ]
  refine Reg.G.step (j := 21) (m := [false, false, false]) [18, 16, 14] rfl (by kernel_rfl) rfl (by kernel_rfl) (fun K hK => ?_)
  go_simp
  refine (items_true _ hs (fs.drop es.length) _ _ y9 All All (Nat.le_refl _) ht2 (hhs.fr HF9.out (fun _ _ e => e)) ((hfs2.drop (by omega)).fr HF9.out (fun _ _ e => e))).mono ?_
  rintro e y10 ⟨rfl, hf⟩
  have HF10 : Hid (Fr (fun _ => False) X y10) := HF9.out.trans hf
  clear hf
  refine hK.out _ _ trivial ?_
  clear hK K
  simp only [Act.put, List.setIfInBounds_toArray, List.set_cons_zero, List.set_cons_succ, Reg.Kept]
  refine' Reg.G.pure (i := 22) (v := _) rfl (by rfl) (by kernel_rfl) (by kernel_rfl) (by kernel_rfl) (fun _ _ _ h => hP _ _ _ _ _ h) ?hym52 ?rehym52
  case hym52 => exact fun w => by first | (go_simp; done) | (go_simp; with_reducible rfl)
  simp only [Act.put, List.setIfInBounds_toArray, List.set_cons_zero, List.set_cons_succ]
  refine' Reg.G.pure (i := 23) (v := _) rfl (by rfl) (by kernel_rfl) (by kernel_rfl) (by kernel_rfl) (fun _ _ _ h => hP _ _ _ _ _ h) ?hym53 ?rehym53
  case hym53 => exact fun w => by first | (go_simp; done) | (go_simp; with_reducible rfl)
  simp only [Act.put, List.setIfInBounds_toArray, List.set_cons_zero, List.set_cons_succ]
  refine Reg.G.done (by kernel_rfl) ?_
  exact hQ _ _ _ _ _ _ _ _ _ _ _ _ _ _ _ _ _ _ _ _ _ _ _ _ HF10.out
set_option maxRecDepth 100000 in
set_option maxHeartbeats 16000000 in
theorem walk_IncludeParts (s : Rs.Source) (l : List DT) (si : Value) (x : DT) (W : World) (hL : LayL All W l si) (hok : ∀ x ∈ l, DOk x) (hlen : l.length * 368 ≤ 140737488351232) (hx : Lay All W x) (hxo : DOk x) :
    Calls Try.prog 7 #[.agg (scells s.name s.frm s.days si).toArray, .agg x.cells.toArray] W fun e w' => e = .returned (.bool true) ∧ Below W.heap.size W w' := by
  obtain ⟨A, cp, hsi, _, _⟩ := hL.slice
  subst hsi
  obtain ⟨w0, HW0⟩ : ∃ w0, Hid ((W.alloc (.cells (scells s.name s.frm s.days (.slice A l.length cp)).toArray 26)).alloc (.cells x.cells.toArray 41) = w0) := ⟨_, rfl⟩
  have HB0 : Hid (w0.heap[W.heap.size]? = some (.cells (scells s.name s.frm s.days (.slice A l.length cp)).toArray 26 (0, 0))) := by rw [← HW0.out]; exact blk_alloc (blk_newn rfl) _
  have HX0 : Hid (w0.heap[W.heap.size + 1]? = some (.cells x.cells.toArray 41 (0, 0))) := by rw [← HW0.out]; exact blk_newn (by simp)
  have HF0 : Hid (Fr (fun _ => False) W w0) := by rw [← HW0.out]; exact ((Fr.refl _ W).alloc _).alloc _
  have HL0 : Hid (LayL (fun g => g < W.heap.size) W l (.slice A l.length cp)) := hL.mono (fun g hg _ => hg)
  have HLX : Hid (Lay (fun g => g < W.heap.size) W (bare x)) := bare_lay (hx.mono (fun g hg _ => hg))
  have HOK := Lib.hid hok; have HLEN := Lib.hid hlen; have HXO := Lib.hid hxo
  clear hL hok hlen hx hxo
  go_enter Try.func7, Try.ntmps7
  go_upto_region 1 with fail
  rw [HW0.out]
  clear HW0
  go_wp2_with fail
  refine (head_any _).mono ?_
  rintro e w1 ⟨rfl, hf1⟩
  have HF1 : Hid (Fr (fun _ => False) W w1) := HF0.out.trans hf1
  have HB1 : Hid (w1.heap[W.heap.size]? = some (.cells (scells s.name s.frm s.days (.slice A l.length cp)).toArray 26 (0, 0))) := hf1.blk HB0.out (fun h => h)
  have HX1 : Hid (w1.heap[W.heap.size + 1]? = some (.cells x.cells.toArray 41 (0, 0))) := hf1.blk HX0.out (fun h => h)
  clear hf1 HB0 HX0 HF0
  have c32 : w1.cell? ⟨W.heap.size + 1, 32, none⟩ = some x.i := by rw [cell_of_blk HX1.out, DT.cells_eq]; rfl
  have f32 : w1.frozen? ⟨W.heap.size + 1, 32, none⟩ = false := froz_of_blk HX1.out 32
  obtain ⟨w2, hw2⟩ : ∃ u, w1.setCell ⟨W.heap.size + 1, 32, none⟩ (.slice none 0 0) = u := ⟨_, rfl⟩
  have HX2 : Hid (w2.heap[W.heap.size + 1]? = some (.cells (bare x).cells.toArray 41 (0, 0))) := by
    rw [← hw2]
    have h := blk_set HX1.out 32 (.slice none 0 0)
    rw [List.setIfInBounds_toArray, bare_cells] at h
    exact h
  have HFu : Hid (Fr (fun g => g = W.heap.size + 1) w1 w2) := by rw [← hw2]; exact (Fr.refl (fun g => g = W.heap.size + 1) w1).setb 32 (.slice none 0 0)
  have HF2 : Hid (Fr (fun _ => False) W w2) := HF1.out.trans' HFu.out (fun g hg e => by omega)
  have HB2 : Hid (w2.heap[W.heap.size]? = some (.cells (scells s.name s.frm s.days (.slice A l.length cp)).toArray 26 (0, 0))) := HFu.out.blk HB1.out (fun e => by omega)
  have HLX2 : Hid (Lay (fun g => g < W.heap.size) w2 (bare x)) := HLX.out.fr HF2.out (fun _ _ h => h)
  have HL2 : Hid (LayL (fun g => g < W.heap.size) w2 l (.slice A l.length cp)) := HL0.out.fr HF2.out (fun _ _ h => h)
  clear HFu HX1 HB1 HF1
  go_upto_region 3 with fail
  clear c32 f32 hw2
  have k0 : w2.cell? ⟨W.heap.size, 0, none⟩ = some (.string ⟨s.name.toArray⟩) := (cell_of_blk HB2.out 0).trans rfl
  have k1 : w2.cell? ⟨W.heap.size, 1, none⟩ = some (.int .i64 s.frm.y) := (cell_of_blk HB2.out 1).trans rfl
  have k2 : w2.cell? ⟨W.heap.size, 2, none⟩ = some (.int .i64 s.frm.m) := (cell_of_blk HB2.out 2).trans rfl
  have k3 : w2.cell? ⟨W.heap.size, 3, none⟩ = some (.int .i64 s.frm.d) := (cell_of_blk HB2.out 3).trans rfl
  have k4 : w2.cell? ⟨W.heap.size, 4, none⟩ = some (.int .i64 s.days) := (cell_of_blk HB2.out 4).trans rfl
  have k5 : w2.cell? ⟨W.heap.size, 5, none⟩ = some (.slice A l.length cp) := (cell_of_blk HB2.out 5).trans rfl
  have HSM := Lib.hid (small_any s l _ 200 w2 (HL2.out.mono (fun g hg _ => hg)) (by omega) (by omega))
  go_wp2_with fail
  refine HSM.out.mono ?_
  rintro e w3 ⟨b, rfl, hb, hf3⟩
  have HSB := Lib.hid hb
  have HF3 : Hid (Fr (fun _ => False) W w3) := HF2.out.trans hf3
  have HB3 : Hid (w3.heap[W.heap.size]? = some (.cells (scells s.name s.frm s.days (.slice A l.length cp)).toArray 26 (0, 0))) := hf3.blk HB2.out (fun h => h)
  have HX3 : Hid (w3.heap[W.heap.size + 1]? = some (.cells (bare x).cells.toArray 41 (0, 0))) := hf3.blk HX2.out (fun h => h)
  have HL3 : Hid (LayL (fun g => g < W.heap.size) w3 l (.slice A l.length cp)) := HL2.out.fr hf3 (fun _ _ h => h)
  have HLX3 : Hid (Lay (fun g => g < W.heap.size) w3 (bare x)) := HLX2.out.fr hf3 (fun _ _ h => h)
  clear hb hf3 HSM k0 k1 k2 k3 k4 k5 HB2 HX2 HL2 HLX2
  cases b with
  | false =>
    go_wp2_with fail
    go_ret
    exact ⟨rfl, HF3.out.below (Nat.le_refl _) (fun _ h => h.elim)⟩
  | true =>
  have HSH : Hid (∀ x ∈ l, Sh x) := (HSB.out rfl).1
  have HCD : Hid (∀ z ∈ l, z.h.kind = 13 → ∀ y ∈ z.l, ∀ c ∈ y.h.conds, c.name.length ≤ 140737488355328) := fun z hz _ y hy c hc => ((HOK.out z hz).inner y hy).cond c hc
  dsimp only
  iterate 7 go_step
  refine wpList_load_row_g (op := ⟨some 21, _, _, _, _, _⟩) ?hwl 41 _ rfl (W.heap.size + 1) rfl (bare x).cells _ _ HX3.out Try.underlying41 rfl (info_itl (bare x)) ?_
  case hwl => rfl
  simp only [Act.put, List.setIfInBounds_toArray, List.set_cons_zero, List.set_cons_succ]
  refine wpList_bsl1_g (o := ⟨some 22, _, _, _, _, _⟩) ?hwb 24 _ rfl (v0 := .agg (bare x).cells.toArray) rfl (.slice (some ⟨w3.heap.size, 0, none⟩) 1 1) (w3.alloc (.cells (bare x).cells.toArray 41)) ?hb ?hq
  case hwb => rfl
  case hb => exact bsl_one HLX3.out _
  simp only [Act.put, List.setIfInBounds_toArray, List.set_cons_zero, List.set_cons_succ]
  obtain ⟨w4, hn⟩ : ∃ u, w3.alloc (.cells (bare x).cells.toArray 41) = u := ⟨_, rfl⟩
  rw [hn]
  have HFe4 : Hid (Fr (fun _ => False) w3 w4) := by rw [← hn]; exact (Fr.refl _ w3).alloc _
  have hbx : w4.heap[w3.heap.size]? = some (.cells ([bare x].map DT.cells).flatten.toArray 41 (0, 0)) := by
    have e1 : ([bare x].map DT.cells).flatten = (bare x).cells := by simp
    rw [← hn, e1]; exact blk_newn rfl
  have HLy : Hid (LayL (fun g => g < w4.heap.size) w4 [bare x] (.slice (some ⟨w3.heap.size, 0, none⟩) 1 1)) := lay_row (l := [bare x]) (by show 1 ≤ _; decide) hbx (lt_of_blk hbx) (fun y hy => by
    simp only [List.mem_cons, List.not_mem_nil, or_false] at hy
    subst hy
    exact (HLX3.out.fr HFe4.out (fun _ _ h => h)).mono (fun g hg _ => hg))
  clear hn hbx
  have HSM2 := Lib.hid (small_any src0 [bare x] _ 1 w4 HLy.out (by omega) (by omega))
  go_wp2_with fail
  refine HSM2.out.mono ?_
  rintro e w5 ⟨b2, rfl, hb2, hf5⟩
  have HSB2 := Lib.hid hb2
  have HFe5 := Lib.hid (HFe4.out.trans hf5)
  have HF5 : Hid (Fr (fun _ => False) W w5) := HF3.out.trans HFe5.out
  have HB5 : Hid (w5.heap[W.heap.size]? = some (.cells (scells s.name s.frm s.days (.slice A l.length cp)).toArray 26 (0, 0))) := HFe5.out.blk HB3.out (fun h => h)
  have HX5 : Hid (w5.heap[W.heap.size + 1]? = some (.cells (bare x).cells.toArray 41 (0, 0))) := HFe5.out.blk HX3.out (fun h => h)
  have HL5 : Hid (LayL (fun g => g < W.heap.size) w5 l (.slice A l.length cp)) := HL3.out.fr HFe5.out (fun _ _ h => h)
  have HLX5 : Hid (Lay (fun g => g < W.heap.size) w5 (bare x)) := HLX3.out.fr HFe5.out (fun _ _ h => h)
  clear hb2 hf5 HSM2 HLy HFe4 HB3 HX3 HL3 HLX3
  cases b2 with
  | false =>
    go_wp2_with fail
    go_ret
    exact ⟨rfl, HF5.out.below (Nat.le_refl _) (fun _ h => h.elim)⟩
  | true =>
  have HSX : Hid (Sh (bare x)) := (HSB2.out rfl).1 _ (by simp)
  have c0 : w5.cell? ⟨W.heap.size + 1, 0, none⟩ = some (.int .i64 x.h.kind) := by rw [cell_of_blk HX5.out, DT.cells_eq]; rfl
  have HDX := Lib.hid (rDefines_any x.h.kind w5)
  cases hdk : defines x.h.kind with
  | true =>
    rw [hdk] at HDX
    go_wp2_with fail
    refine HDX.out.mono ?_
    rintro e wq ⟨rfl, hwq⟩
    have hwq := hwq.symm
    subst hwq
    go_wp2_with fail
    go_ret
    exact ⟨rfl, HF5.out.below (Nat.le_refl _) (fun _ h => h.elim)⟩
  | false =>
  rw [hdk] at HDX
  have HDK := Lib.hid hdk
  clear hdk
  go_wp2_with fail
  refine HDX.out.mono ?_
  rintro e wq ⟨rfl, hwq⟩
  have hwq := hwq.symm
  subst hwq
  clear HDX c0 HSB HSB2 HFe5 HF3
  have k0 : w5.cell? ⟨W.heap.size, 0, none⟩ = some (.string ⟨s.name.toArray⟩) := (cell_of_blk HB5.out 0).trans rfl
  have k1 : w5.cell? ⟨W.heap.size, 1, none⟩ = some (.int .i64 s.frm.y) := (cell_of_blk HB5.out 1).trans rfl
  have k2 : w5.cell? ⟨W.heap.size, 2, none⟩ = some (.int .i64 s.frm.m) := (cell_of_blk HB5.out 2).trans rfl
  have k3 : w5.cell? ⟨W.heap.size, 3, none⟩ = some (.int .i64 s.frm.d) := (cell_of_blk HB5.out 3).trans rfl
  have k4 : w5.cell? ⟨W.heap.size, 4, none⟩ = some (.int .i64 s.days) := (cell_of_blk HB5.out 4).trans rfl
  have k5 : w5.cell? ⟨W.heap.size, 5, none⟩ = some (.slice A l.length cp) := (cell_of_blk HB5.out 5).trans rfl
  go_upto_region 5 with fail
  iterate 25 go_step
  refine wpList_store_row rfl 26 _ _ rfl w5.heap.size (scells s.name s.frm s.days (.slice none 0 0)).toArray rfl rfl 26 _ (blk_newn rfl) (info_src _ _ _ _) rfl (one_src _ _ _ _ _ _) ?_
  simp only [Act.put, List.setIfInBounds_toArray, List.set_cons_zero, List.set_cons_succ]
  rw [World.setRow_alloc_new]
  obtain ⟨w6, hn⟩ : ∃ u, w5.alloc (.cells (scells s.name s.frm s.days (.slice none 0 0)).toArray 26) = u := ⟨_, rfl⟩
  rw [hn]
  obtain ⟨go, hgo⟩ : ∃ g, w5.heap.size = g := ⟨_, rfl⟩
  rw [hgo]
  have HFe6 : Hid (Fr (fun _ => False) w5 w6) := by rw [← hn]; exact (Fr.refl _ w5).alloc _
  have HBG : Hid (w6.heap[go]? = some (.cells (scells s.name s.frm s.days (.slice none 0 0)).toArray 26 (0, 0))) := by rw [← hn, ← hgo]; exact blk_newn rfl
  have HSZ6 : Hid (W.heap.size + 1 < go ∧ w6.heap.size = go + 1) := by
    refine ⟨by rw [← hgo]; exact lt_of_blk HX5.out, ?_⟩
    rw [← hn, ← hgo]; simp
  clear hn hgo k0 k1 k2 k3 k4 k5
  have HS6 : Hid (w6.heap[W.heap.size]? = some (.cells (scells s.name s.frm s.days (.slice A l.length cp)).toArray 26 (0, 0))) := HFe6.out.blk HB5.out (fun h => h)
  have HX6 : Hid (w6.heap[W.heap.size + 1]? = some (.cells (bare x).cells.toArray 41 (0, 0))) := HFe6.out.blk HX5.out (fun h => h)
  have HL6 : Hid (LayL (fun g => g < W.heap.size) w6 l (.slice A l.length cp)) := HL5.out.fr HFe6.out (fun _ _ h => h)
  have HLX6 : Hid (Lay (fun g => g < W.heap.size) w6 (bare x)) := HLX5.out.fr HFe6.out (fun _ _ h => h)
  have HF6 : Hid (Fr (fun _ => False) W w6) := HF5.out.trans HFe6.out
  have HBM0 : Hid (Bld (go + 1) go s [] (.slice none 0 0) w6 w6) := ⟨by have := HSZ6.out; omega, HBG.out, World.ownsRow_nil _ _ _ _, by simp [Value.ownBlock], Fr.refl _ _⟩
  clear HB5 HX5 HL5 HLX5 HBG HFe6
  go_upto_region 6 with fail
  refine parts_r6 (by kernel_rfl) HBM0.out HS6.out ⟨by have := HSZ6.out; omega, by have := HSZ6.out; omega⟩ (HL6.out.mono (fun g _ hg => ⟨by have := HSZ6.out; omega, by have := HSZ6.out; omega⟩)) HX6.out ⟨by have := HSZ6.out; omega, by have := HSZ6.out; omega⟩ (HLX6.out.mono (fun g _ hg => ⟨by have := HSZ6.out; omega, by have := HSZ6.out; omega⟩)) (by have := HLEN.out; omega) (fun _ _ _ _ _ h => h) ?_
  intro v40 v41 v42 v43 v44 v45 v46 v47 v48 w7 hbm
  obtain ⟨ivm, hbm⟩ := hbm
  obtain ⟨ml, hml⟩ : ∃ m, l ++ [bare x] = m := ⟨_, rfl⟩
  rw [hml] at hbm
  have HML := Lib.hid hml
  clear hml
  have HBM := Lib.hid hbm
  clear hbm
  have HS7 : Hid (w7.heap[W.heap.size]? = some (.cells (scells s.name s.frm s.days (.slice A l.length cp)).toArray 26 (0, 0))) := HBM.out.fr.blk HS6.out (fun e => by have := HSZ6.out; omega)
  have HX7 : Hid (w7.heap[W.heap.size + 1]? = some (.cells (bare x).cells.toArray 41 (0, 0))) := HBM.out.fr.blk HX6.out (fun e => by have := HSZ6.out; omega)
  have HL7 : Hid (LayL (fun g => g < W.heap.size) w7 l (.slice A l.length cp)) := HL6.out.fr HBM.out.fr (fun g hg e => by have := HSZ6.out; omega)
  have HLX7 : Hid (Lay (fun g => g < W.heap.size) w7 (bare x)) := HLX6.out.fr HBM.out.fr (fun g hg e => by have := HSZ6.out; omega)
  have HF7 : Hid (Fr (fun _ => False) W w7) := HF6.out.trans' HBM.out.fr (fun g hg e => by have := HSZ6.out; omega)
  obtain ⟨Am, cm, hivm⟩ := own_form HBM.out.own
  subst hivm
  have HLM7 : Hid (LayL (fun g => g < w7.heap.size) w7 ml (.slice Am ml.length cm)) := (HBM.out.lay (l := l) (B := fun g => g < W.heap.size) (fun g hg => ⟨by have := HSZ6.out; omega, by have := HSZ6.out; omega⟩) (fun y hy => by
    rcases List.mem_append.1 (by rw [HML.out]; exact hy) with hy | hy
    · exact HL6.out.lay y hy
    · simp only [List.mem_cons, List.not_mem_nil, or_false] at hy
      subst hy
      exact HLX6.out)).mono (fun g hg _ => hg)
  have HM7 : Hid (w7.heap[go]? = some (.cells (scells s.name s.frm s.days (.slice Am ml.length cm)).toArray 26 (0, 0))) := HBM.out.blk
  clear HBM0 HBM HS6 HX6 HL6 HLX6
  have k0 : w7.cell? ⟨W.heap.size, 0, none⟩ = some (.string ⟨s.name.toArray⟩) := (cell_of_blk HS7.out 0).trans rfl
  have k1 : w7.cell? ⟨W.heap.size, 1, none⟩ = some (.int .i64 s.frm.y) := (cell_of_blk HS7.out 1).trans rfl
  have k2 : w7.cell? ⟨W.heap.size, 2, none⟩ = some (.int .i64 s.frm.m) := (cell_of_blk HS7.out 2).trans rfl
  have k3 : w7.cell? ⟨W.heap.size, 3, none⟩ = some (.int .i64 s.frm.d) := (cell_of_blk HS7.out 3).trans rfl
  have k4 : w7.cell? ⟨W.heap.size, 4, none⟩ = some (.int .i64 s.days) := (cell_of_blk HS7.out 4).trans rfl
  have k5 : w7.cell? ⟨W.heap.size, 5, none⟩ = some (.slice A l.length cp) := (cell_of_blk HS7.out 5).trans rfl
  go_upto_region 7 with fail
  iterate 25 go_step
  refine wpList_store_row rfl 26 _ _ rfl w7.heap.size (scells s.name s.frm s.days (.slice none 0 0)).toArray rfl rfl 26 _ (blk_newn rfl) (info_src _ _ _ _) rfl (one_src _ _ _ _ _ _) ?_
  simp only [Act.put, List.setIfInBounds_toArray, List.set_cons_zero, List.set_cons_succ]
  rw [World.setRow_alloc_new]
  obtain ⟨w8, hn⟩ : ∃ u, w7.alloc (.cells (scells s.name s.frm s.days (.slice none 0 0)).toArray 26) = u := ⟨_, rfl⟩
  rw [hn]
  obtain ⟨ga, hga⟩ : ∃ g, w7.heap.size = g := ⟨_, rfl⟩
  rw [hga]
  have HFe8 : Hid (Fr (fun _ => False) w7 w8) := by rw [← hn]; exact (Fr.refl _ w7).alloc _
  have HBG : Hid (w8.heap[ga]? = some (.cells (scells s.name s.frm s.days (.slice none 0 0)).toArray 26 (0, 0))) := by rw [← hn, ← hga]; exact blk_newn rfl
  have HSZ : Hid (W.heap.size + 1 < go ∧ go < ga ∧ w8.heap.size = ga + 1) := by
    refine ⟨HSZ6.out.1, by rw [← hga]; exact lt_of_blk HM7.out, ?_⟩
    rw [← hn, ← hga]; simp
  have HLM8 : Hid (LayL (fun g => g < ga) w8 ml (.slice Am ml.length cm)) := by rw [← hga]; exact HLM7.out.fr HFe8.out (fun _ _ h => h)
  clear hn hga k0 k1 k2 k3 k4 k5
  have HS8 : Hid (w8.heap[W.heap.size]? = some (.cells (scells s.name s.frm s.days (.slice A l.length cp)).toArray 26 (0, 0))) := HFe8.out.blk HS7.out (fun h => h)
  have HX8 : Hid (w8.heap[W.heap.size + 1]? = some (.cells (bare x).cells.toArray 41 (0, 0))) := HFe8.out.blk HX7.out (fun h => h)
  have HM8 : Hid (w8.heap[go]? = some (.cells (scells s.name s.frm s.days (.slice Am ml.length cm)).toArray 26 (0, 0))) := HFe8.out.blk HM7.out (fun h => h)
  have HL8 : Hid (LayL (fun g => g < W.heap.size) w8 l (.slice A l.length cp)) := HL7.out.fr HFe8.out (fun _ _ h => h)
  have HLX8 : Hid (Lay (fun g => g < W.heap.size) w8 (bare x)) := HLX7.out.fr HFe8.out (fun _ _ h => h)
  have HF8 : Hid (Fr (fun _ => False) W w8) := HF7.out.trans HFe8.out
  have HB0 : Hid (Bld (ga + 1) ga s (([] : List DT) ++ sel isDef l 0) (.slice none 0 0) w8 w8) := ⟨by have := HSZ.out; omega, HBG.out, World.ownsRow_nil _ _ _ _, by simp [Value.ownBlock], Fr.refl _ _⟩
  clear HS7 HX7 HM7 HL7 HLX7 HLM7 HBG HFe8 HSZ6 HF6 HF7
  have hz : l.length ≤ 9223372036854775807 := by have := HLEN.out; omega
  have HLB := HLEN
  go_wp2_with fail
  go_loopw [8] (fun i wr => ∃ (k : Nat) (iv : Value), i = .int .i64 k ∧ k ≤ l.length ∧ Hid (Bld (ga + 1) ga s (([] : List DT) ++ sel isDef l k) iv w8 wr)) (fun i _ => l.length - (intOf i).toNat)
  case atStart => exact ⟨0, _, rfl, Nat.zero_le _, HB0⟩
  case round =>
    clear HB0
    obtain ⟨k, iv, rfl, hk, HB⟩ := hrel
    have i1 : (0 : Int) ≤ (k : Int) := Int.natCast_nonneg _
    have HSr : Hid (wr.heap[W.heap.size]? = some (.cells (scells s.name s.frm s.days (.slice A l.length cp)).toArray 26 (0, 0))) := HB.out.fr.blk HS8.out (fun e => by have := HSZ.out; omega)
    have k5 : wr.cell? ⟨W.heap.size, 5, none⟩ = some (.slice A l.length cp) := (cell_of_blk HSr.out 5).trans rfl
    by_cases hlt : k < l.length
    · have i2 : (k : Int) < (l.length : Int) := by omega
      obtain ⟨z, hx⟩ : ∃ z, l[k]? = some z := ⟨_, List.getElem?_eq_getElem hlt⟩
      have HLr : Hid (LayL (fun g => g < W.heap.size) wr l (.slice A l.length cp)) := (HL8.out.fr HB.out.fr (fun g hg e => by have := HSZ.out; omega))
      obtain ⟨g, o, hA, hg, _, hat⟩ := HLr.out.at hx
      subst hA
      have c0 : wr.cell? ⟨g, o + k * 33, none⟩ = some (.int .i64 z.h.kind) := hat 0 _ (by rw [DT.cells_eq]; rfl)
      have HX := Lib.hid hx
      have HLT := Lib.hid hlt
      have HCD := Lib.hid (rDefines_any z.h.kind wr)
      have HNX := Lib.hid (sel_next (p := isDef) hx)
      clear hat hg hx hlt
      cases hd : defines z.h.kind with
      | true =>
        rw [hd] at HCD
        have HP : Hid (sel isDef l (k + 1) = sel isDef l k ++ [z]) := HNX.out.trans (if_pos (by simp [isDef, hd]))
        have HKL : Hid (([] : List DT).length + (sel isDef l k).length + 1 ≤ l.length) := by
          have h1 := sel_filter isDef l (k + 1)
          rw [HP.out, List.length_append] at h1
          have h2 := List.length_filter_le isDef l
          simp only [List.length_cons, List.length_nil] at h1 ⊢
          show _ ≤ _
          omega
        clear hd
        go_wp2_with fail
        refine HCD.out.mono ?_
        rintro e wq ⟨rfl, hwq⟩
        have hwq := hwq.symm
        subst hwq
        clear HCD k5 c0
        go_upto_region 12 with fail
        refine parts_r12 (by kernel_rfl) HB.out HS8.out ⟨by have := HSZ.out; omega, by have := HSZ.out; omega⟩ (HL8.out.mono (fun g _ hg => ⟨by have := HSZ.out; omega, by have := HSZ.out; omega⟩)) HX.out (by have h1 := HKL.out; have h2 := HLB.out; rw [List.length_append]; omega) (fun _ _ _ _ _ h => h) ?_
        intro v70 v71 v72 v73 v74 v75 v76 v77 v78 v79 wy hb2
        obtain ⟨iv2, hb2⟩ := hb2
        rw [List.append_assoc, ← HP.out] at hb2
        have HB2 := Lib.hid hb2
        clear hb2
        go_wp2_with fail
        go_roundw
        case rel => exact (⟨k + 1, iv2, by go_num, HLT.out, HB2⟩)
        case measure => have := HLT.out; simp [intOf]; omega
      | false =>
        rw [hd] at HCD
        have HP : Hid (sel isDef l (k + 1) = sel isDef l k) := HNX.out.trans (if_neg (by simp [isDef, hd]))
        clear hd
        go_wp2_with fail
        refine HCD.out.mono ?_
        rintro e wq ⟨rfl, hwq⟩
        have hwq := hwq.symm
        subst hwq
        clear HCD k5 c0
        have HB2 : Hid (Bld (ga + 1) ga s (([] : List DT) ++ sel isDef l (k + 1)) iv w8 wr) := by rw [HP.out]; exact HB.out
        go_wp2_with fail
        go_roundw
        case rel => exact (⟨k + 1, iv, by go_num, HLT.out, HB2⟩)
        case measure => have := HLT.out; simp [intOf]; omega
    · obtain rfl : k = l.length := by omega
      have HBE : Hid (Bld (ga + 1) ga s (([] : List DT) ++ l.filter isDef) iv w8 wr) := by rw [← sel_all isDef l]; exact HB.out
      clear HB hk i1
      obtain ⟨dl, hdl⟩ : ∃ dl, l.filter isDef = dl := ⟨_, rfl⟩
      rw [List.nil_append, hdl] at HBE
      have HDL := Lib.hid hdl
      clear hdl
      obtain ⟨Ao, co, hiv⟩ := own_form HBE.out.own
      subst hiv
      have HXr : Hid (wr.heap[W.heap.size + 1]? = some (.cells (bare x).cells.toArray 41 (0, 0))) := HBE.out.fr.blk HX8.out (fun e => by have := HSZ.out; omega)
      have HLXr : Hid (Lay (fun g => g < W.heap.size) wr (bare x)) := HLX8.out.fr HBE.out.fr (fun g hg e => by have := HSZ.out; omega)
      have kd : wr.cell? ⟨ga, 5, none⟩ = some (.slice Ao dl.length co) := (cell_of_blk HBE.out.blk 5).trans rfl
      go_upto_region 13 with fail
      iterate 7 go_step
      refine wpList_load_row rfl 41 _ rfl (W.heap.size + 1) rfl 41 (bare x).cells.toArray (0, 0) _ HXr.out Try.underlying41 rfl (info_it (bare x)) ?_
      simp only [Act.put, List.setIfInBounds_toArray, List.set_cons_zero, List.set_cons_succ]
      refine wpList_bsl1_g (o := ⟨some 83, _, _, _, _, _⟩) ?hwb3 24 _ rfl (v0 := .agg (bare x).cells.toArray) rfl (.slice (some ⟨wr.heap.size, 0, none⟩) 1 1) (wr.alloc (.cells (bare x).cells.toArray 41)) ?hb3 ?hq3
      case hwb3 => rfl
      case hb3 => exact bsl_one HLXr.out _
      simp only [Act.put, List.setIfInBounds_toArray, List.set_cons_zero, List.set_cons_succ]
      obtain ⟨u1, hu⟩ : ∃ u, wr.alloc (.cells (bare x).cells.toArray 41) = u := ⟨_, rfl⟩
      rw [hu]
      have HFu1 : Hid (Fr (fun _ => False) wr u1) := by rw [← hu]; exact (Fr.refl _ wr).alloc _
      have HNA : Hid (∀ j y, (bare x).cells[j]? = some y → u1.cell? ((⟨wr.heap.size, 0, none⟩ : Addr).add j) = some y) := by rw [← hu]; exact cells_new wr (bare x).cells _ _ rfl
      clear hu
      have HOA : Hid (u1.ownsRow (ga + 1) 41 33 (.slice Ao dl.length co) dl.length (dl.flatMap DT.cells)) := own_fr HBE.out.own HFu1.out (fun _ _ _ e => e)
      obtain ⟨j0, hj, hj0, hj1, hj2⟩ := info_parts cinfo_item
      have hdl : dl.length ≤ l.length := by rw [← HDL.out]; exact List.length_filter_le _ _
      refine wpList_append_lies u1 rfl (.tmp 81) (.tmp 83) 24 rfl (ga + 1) 41 j0 _ 33 368 Try.underlying24 hj hj0 hj1 hj2 rfl (by decide) (.slice Ao dl.length co) dl.length _ (by rfl) HOA.out ⟨wr.heap.size, 0, none⟩ 1 1 (bare x).cells (by rfl) (bare x).cells_len HNA.out (one_all HLXr.out.one) (by decide) (by have := HLEN.out; simp only [maxLen]; omega) (by have := HLEN.out; omega) (by have h1 := HBE.out.lo; have h2 := HBE.out.fr.size; have h3 := HFu1.out.size; omega) (u1.heap.size) rfl ?_
      intro gn cn u2 g1 g2 g3 _
      have HOW : Hid (u2.ownsRow (ga + 1) 41 33 (.slice (some ⟨gn, 0, none⟩) (dl.length + 1) cn) (dl ++ [bare x]).length ((dl ++ [bare x]).flatMap DT.cells)) := by
        have e1 : (dl ++ [bare x]).length = dl.length + 1 := by simp
        have e2 : (dl ++ [bare x]).flatMap DT.cells = dl.flatMap DT.cells ++ (bare x).cells := by simp [List.flatMap_append]
        rw [e1, e2]
        exact g1
      have HGR : Hid (Fr (fun g => g = ga ∨ ga + 1 ≤ g) w8 u2) := (HBE.out.fr.trans' HFu1.out (fun _ _ e => e.elim)).grown g2 (fun k hk => .inl (.inr (own_lt HOA.out k hk).1))
      have HBK : Hid (u2.heap[ga]? = some (.cells (scells s.name s.frm s.days (.slice Ao dl.length co)).toArray 26 (0, 0))) := (Fr.of_grown g2).blk (HFu1.out.blk HBE.out.blk (fun e => e)) (fun e => HBE.out.ne e)
      have HNE : Hid ((Value.slice (some ⟨gn, 0, none⟩) (dl.length + 1) cn).ownBlock ≠ some ga) := fun e => by
        have e1 : gn = ga := by simpa [Value.ownBlock] using e
        rcases g3 with g3 | g3
        · exact HBE.out.ne (by rw [← e1]; exact g3)
        · have h1 := lt_of_blk HBE.out.blk; have h2 := HFu1.out.size; omega
      clear g1 g2 g3
      have ko : u2.cell? ⟨ga, 5, none⟩ = some (.slice Ao dl.length co) := (cell_of_blk HBK.out 5).trans rfl
      have fo : u2.frozen? ⟨ga, 5, none⟩ = false := froz_of_blk HBK.out 5
      obtain ⟨w9, hu⟩ : ∃ u, u2.setCell ⟨ga, 5, none⟩ (.slice (some ⟨gn, 0, none⟩) (dl.length + 1) cn) = u := ⟨_, rfl⟩
      have HBK2 : Hid (w9.heap[ga]? = some (.cells (scells s.name s.frm s.days (.slice (some ⟨gn, 0, none⟩) (dl.length + 1) cn)).toArray 26 (0, 0))) := by rw [← hu]; exact blk_set HBK.out 5 _
      have HFL : Hid (Fr (fun g => g = ga) u2 w9) := by rw [← hu]; exact (Fr.refl (fun g => g = ga) u2).setb 5 _
      have HB9 : Hid (Bld (ga + 1) ga s (dl ++ [bare x]) (.slice (some ⟨gn, 0, none⟩) (dl.length + 1) cn) w8 w9) := ⟨HBE.out.lo, HBK2.out, own_frb HOW.out HFL.out (fun k hk e => HNE.out (by rw [hk, e])), HNE.out, HGR.out.trans' HFL.out (fun g _ e => .inl e)⟩
      clear HBK HBK2 HOW HGR HNE HFL HOA HNA HFu1 hdl
      go_upto_region 14 with fail
      clear ko fo hu kd
      obtain ⟨al, hal⟩ : ∃ m, dl ++ [bare x] = m := ⟨_, rfl⟩
      rw [hal] at HB9
      have e1 : al.length = dl.length + 1 := by rw [← hal]; simp
      have HAL := Lib.hid hal
      clear hal
      have HS9 : Hid (w9.heap[W.heap.size]? = some (.cells (scells s.name s.frm s.days (.slice A l.length cp)).toArray 26 (0, 0))) := HB9.out.fr.blk HS8.out (fun e => by have := HSZ.out; omega)
      have HM9 : Hid (w9.heap[go]? = some (.cells (scells s.name s.frm s.days (.slice Am ml.length cm)).toArray 26 (0, 0))) := HB9.out.fr.blk HM8.out (fun e => by have := HSZ.out; omega)
      have HLM9 : Hid (LayL (fun g => g < w9.heap.size) w9 ml (.slice Am ml.length cm)) := (HLM8.out.fr HB9.out.fr (fun g hg e => by omega)).mono (fun g hg _ => hg)
      have HL9 : Hid (LayL (fun g => g < w9.heap.size) w9 l (.slice A l.length cp)) := (HL8.out.fr HB9.out.fr (fun g hg e => by have := HSZ.out; omega)).mono (fun g hg _ => hg)
      have HF9 : Hid (Fr (fun _ => False) W w9) := HF8.out.trans' HB9.out.fr (fun g hg e => by have := HSZ.out; omega)
      have HLA9 : Hid (LayL (fun g => g < w9.heap.size) w9 al (.slice (some ⟨gn, 0, none⟩) al.length cn)) := by
        rw [e1]
        exact (HB9.out.lay (l := l) (B := fun g => g < W.heap.size) (fun g hg => ⟨by have := HSZ.out; omega, by have := HSZ.out; omega⟩) (fun y hy => by
          rcases List.mem_append.1 (by rw [HAL.out]; exact hy) with hy | hy
          · exact HL8.out.lay y (by rw [← HDL.out] at hy; exact (List.mem_filter.1 hy).1)
          · simp only [List.mem_cons, List.not_mem_nil, or_false] at hy
            subst hy
            exact HLX8.out)).mono (fun g hg _ => hg)
      have HA9 : Hid (w9.heap[ga]? = some (.cells (scells s.name s.frm s.days (.slice (some ⟨gn, 0, none⟩) al.length cn)).toArray 26 (0, 0))) := by
        rw [e1]
        exact HB9.out.blk
      have HCX : Hid (∀ y ∈ (bare x).l, ∀ c ∈ y.h.conds, c.name.length ≤ 140737488355328) := fun y hy => absurd hy List.not_mem_nil
      have HSHM : Hid (∀ y ∈ ml, Sh y) := fun y hy => by
        rcases List.mem_append.1 (by rw [HML.out]; exact hy) with hy | hy
        · exact HSH.out y hy
        · simp only [List.mem_cons, List.not_mem_nil, or_false] at hy
          subst hy
          exact HSX.out
      have HCDM : Hid (∀ z ∈ ml, z.h.kind = 13 → ∀ y ∈ z.l, ∀ c ∈ y.h.conds, c.name.length ≤ 140737488355328) := fun z hz hk => by
        rcases List.mem_append.1 (by rw [HML.out]; exact hz) with hz | hz
        · exact HCD.out z hz hk
        · simp only [List.mem_cons, List.not_mem_nil, or_false] at hz
          subst hz
          exact HCX.out
      have HDM : Hid (∀ y ∈ al, y ∈ ml) := fun y hy => by
        rw [← HML.out]
        rcases List.mem_append.1 (by rw [HAL.out]; exact hy) with hy | hy
        · exact List.mem_append_left _ (by rw [← HDL.out] at hy; exact (List.mem_filter.1 hy).1)
        · exact List.mem_append_right _ hy
      clear e1
      clear HBE HB9 HS8 HM8 HLM8 HL8 HLX8 HXr HLXr HX8
      have k0 : w9.cell? ⟨W.heap.size, 0, none⟩ = some (.string ⟨s.name.toArray⟩) := (cell_of_blk HS9.out 0).trans rfl
      have k1 : w9.cell? ⟨W.heap.size, 1, none⟩ = some (.int .i64 s.frm.y) := (cell_of_blk HS9.out 1).trans rfl
      have k2 : w9.cell? ⟨W.heap.size, 2, none⟩ = some (.int .i64 s.frm.m) := (cell_of_blk HS9.out 2).trans rfl
      have k3 : w9.cell? ⟨W.heap.size, 3, none⟩ = some (.int .i64 s.frm.d) := (cell_of_blk HS9.out 3).trans rfl
      have k4 : w9.cell? ⟨W.heap.size, 4, none⟩ = some (.int .i64 s.days) := (cell_of_blk HS9.out 4).trans rfl
      have k5 : w9.cell? ⟨W.heap.size, 5, none⟩ = some (.slice A l.length cp) := (cell_of_blk HS9.out 5).trans rfl
      have HEX := Lib.hid (expand_any s l _ w9 HL9.out HSH.out HCD.out)
      unfold ExpR at HEX
      obtain ⟨r1, hr1⟩ : ∃ r, (expand (srcT s l)).1 = r := ⟨_, rfl⟩
      obtain ⟨r2, hr2⟩ : ∃ r, (expand (srcT s l)).2 = r := ⟨_, rfl⟩
      have HRr1 := Lib.hid hr1; have HRr2 := Lib.hid hr2
      rw [hr1, hr2] at HEX
      clear hr1 hr2
      go_wp2_with fail
      refine HEX.out.mono ?_
      rintro e wa ⟨iv, fv, es, rfl, h1, h2, h3, h4⟩
      obtain ⟨Aes, ces, hiv, _, _⟩ := h2.slice
      subst hiv
      obtain ⟨Ar2, cr2, hfv, _, _⟩ := h3.slice
      rw [List.length_map] at hfv
      subst hfv
      have HDes := Lib.hid h1
      have HFewa : Hid (Fr (fun _ => False) w9 wa) := h4
      have HFwa : Hid (Fr (fun _ => False) W wa) := HF9.out.trans h4
      have HLes : Hid (LayL All wa es (.slice Aes es.length ces)) := h2.mono (fun _ _ _ => trivial)
      have HTr2 : Hid (RowB All wa (.slice Ar2 r2.length cr2) 2 (r2.map faultc)) := h3.mono (fun _ _ _ => trivial)
      clear h1 h2 h3 h4 HEX
      dsimp only
      iterate 13 go_step
      refine wpList_store_row rfl 26 _ _ rfl wa.heap.size (scells r1.name r1.frm r1.days (.slice Aes es.length ces)).toArray rfl rfl 26 _ (blk_newn rfl) (info_src _ _ _ _) rfl (one_src _ _ _ _ _ _) ?_
      simp only [Act.put, List.setIfInBounds_toArray, List.set_cons_zero, List.set_cons_succ]
      rw [World.setRow_alloc_new]
      obtain ⟨wb, hn⟩ : ∃ u, wa.alloc (.cells (scells r1.name r1.frm r1.days (.slice Aes es.length ces)).toArray 26) = u := ⟨_, rfl⟩
      rw [hn]
      have HFswb : Hid (Fr (fun _ => False) wa wb) := by rw [← hn]; exact (Fr.refl _ wa).alloc _
      obtain ⟨gA, hblk⟩ : ∃ g, wa.heap.size = g := ⟨_, rfl⟩
      rw [hblk]
      have HBwb : Hid (wb.heap[gA]? = some (.cells (scells r1.name r1.frm r1.days (.slice Aes es.length ces)).toArray 26 (0, 0))) := by rw [← hn, ← hblk]; exact blk_newn rfl
      have HZwb : Hid (wa.heap.size = gA) := hblk
      have HFwb : Hid (Fr (fun _ => False) W wb) := HFwa.out.trans HFswb.out
      clear hn hblk
      have HM10 : Hid (wb.heap[go]? = some (.cells (scells s.name s.frm s.days (.slice Am ml.length cm)).toArray 26 (0, 0))) := HFswb.out.blk (HFewa.out.blk HM9.out (fun h => h)) (fun h => h)
      have HLM10 : Hid (LayL (fun g => g < wb.heap.size) wb ml (.slice Am ml.length cm)) := ((HLM9.out.fr HFewa.out (fun _ _ h => h)).fr HFswb.out (fun _ _ h => h)).mono (fun g hg _ => hg)
      have HA10 : Hid (wb.heap[ga]? = some (.cells (scells s.name s.frm s.days (.slice (some ⟨gn, 0, none⟩) al.length cn)).toArray 26 (0, 0))) := HFswb.out.blk (HFewa.out.blk HA9.out (fun h => h)) (fun h => h)
      have HLA10 : Hid (LayL All wb al (.slice (some ⟨gn, 0, none⟩) al.length cn)) := ((HLA9.out.fr HFewa.out (fun _ _ h => h)).fr HFswb.out (fun _ _ h => h)).mono (fun _ _ _ => trivial)
      have HLe10 : Hid (LayL All wb es (.slice Aes es.length ces)) := HLes.out.fr HFswb.out (fun _ _ h => h)
      clear k0 k1 k2 k3 k4 k5 HM9 HLM9 HA9 HLA9 HL9 HLes HS9
      have k0 : wb.cell? ⟨go, 0, none⟩ = some (.string ⟨s.name.toArray⟩) := (cell_of_blk HM10.out 0).trans rfl
      have k1 : wb.cell? ⟨go, 1, none⟩ = some (.int .i64 s.frm.y) := (cell_of_blk HM10.out 1).trans rfl
      have k2 : wb.cell? ⟨go, 2, none⟩ = some (.int .i64 s.frm.m) := (cell_of_blk HM10.out 2).trans rfl
      have k3 : wb.cell? ⟨go, 3, none⟩ = some (.int .i64 s.frm.d) := (cell_of_blk HM10.out 3).trans rfl
      have k4 : wb.cell? ⟨go, 4, none⟩ = some (.int .i64 s.days) := (cell_of_blk HM10.out 4).trans rfl
      have k5 : wb.cell? ⟨go, 5, none⟩ = some (.slice Am ml.length cm) := (cell_of_blk HM10.out 5).trans rfl
      have HEX := Lib.hid (expand_any s ml _ wb HLM10.out HSHM.out HCDM.out)
      unfold ExpR at HEX
      obtain ⟨q1, hr1⟩ : ∃ r, (expand (srcT s ml)).1 = r := ⟨_, rfl⟩
      obtain ⟨q2, hr2⟩ : ∃ r, (expand (srcT s ml)).2 = r := ⟨_, rfl⟩
      have HRq1 := Lib.hid hr1; have HRq2 := Lib.hid hr2
      rw [hr1, hr2] at HEX
      clear hr1 hr2
      go_wp2_with fail
      refine HEX.out.mono ?_
      rintro e wc ⟨iv, fv, fs, rfl, h1, h2, h3, h4⟩
      obtain ⟨Afs, cfs, hiv, _, _⟩ := h2.slice
      subst hiv
      obtain ⟨Aq2, cq2, hfv, _, _⟩ := h3.slice
      rw [List.length_map] at hfv
      subst hfv
      have HDfs := Lib.hid h1
      have HFewc : Hid (Fr (fun _ => False) wb wc) := h4
      have HFwc : Hid (Fr (fun _ => False) W wc) := HFwb.out.trans h4
      have HLfs : Hid (LayL All wc fs (.slice Afs fs.length cfs)) := h2.mono (fun _ _ _ => trivial)
      have HTq2 : Hid (RowB All wc (.slice Aq2 q2.length cq2) 2 (q2.map faultc)) := h3.mono (fun _ _ _ => trivial)
      clear h1 h2 h3 h4 HEX
      dsimp only
      iterate 13 go_step
      refine wpList_store_row rfl 26 _ _ rfl wc.heap.size (scells q1.name q1.frm q1.days (.slice Afs fs.length cfs)).toArray rfl rfl 26 _ (blk_newn rfl) (info_src _ _ _ _) rfl (one_src _ _ _ _ _ _) ?_
      simp only [Act.put, List.setIfInBounds_toArray, List.set_cons_zero, List.set_cons_succ]
      rw [World.setRow_alloc_new]
      obtain ⟨wd, hn⟩ : ∃ u, wc.alloc (.cells (scells q1.name q1.frm q1.days (.slice Afs fs.length cfs)).toArray 26) = u := ⟨_, rfl⟩
      rw [hn]
      have HFswd : Hid (Fr (fun _ => False) wc wd) := by rw [← hn]; exact (Fr.refl _ wc).alloc _
      obtain ⟨gB, hblk⟩ : ∃ g, wc.heap.size = g := ⟨_, rfl⟩
      rw [hblk]
      have HBwd : Hid (wd.heap[gB]? = some (.cells (scells q1.name q1.frm q1.days (.slice Afs fs.length cfs)).toArray 26 (0, 0))) := by rw [← hn, ← hblk]; exact blk_newn rfl
      have HZwd : Hid (wc.heap.size = gB) := hblk
      have HFwd : Hid (Fr (fun _ => False) W wd) := HFwc.out.trans HFswd.out
      clear hn hblk
      have HA11 : Hid (wd.heap[ga]? = some (.cells (scells s.name s.frm s.days (.slice (some ⟨gn, 0, none⟩) al.length cn)).toArray 26 (0, 0))) := HFswd.out.blk (HFewc.out.blk HA10.out (fun h => h)) (fun h => h)
      have HLA11 : Hid (LayL (fun g => g < wd.heap.size) wd al (.slice (some ⟨gn, 0, none⟩) al.length cn)) := ((HLA10.out.fr HFewc.out (fun _ _ h => h)).fr HFswd.out (fun _ _ h => h)).mono (fun g hg _ => hg)
      have HLe11 : Hid (LayL All wd es (.slice Aes es.length ces)) := (HLe10.out.fr HFewc.out (fun _ _ h => h)).fr HFswd.out (fun _ _ h => h)
      have HLf11 : Hid (LayL All wd fs (.slice Afs fs.length cfs)) := HLfs.out.fr HFswd.out (fun _ _ h => h)
      have HBa11 : Hid (wd.heap[gA]? = some (.cells (scells r1.name r1.frm r1.days (.slice Aes es.length ces)).toArray 26 (0, 0))) := HFswd.out.blk (HFewc.out.blk HBwb.out (fun h => h)) (fun h => h)
      clear k0 k1 k2 k3 k4 k5 HA10 HLA10 HLe10 HM10 HLM10 HLfs
      have k0 : wd.cell? ⟨ga, 0, none⟩ = some (.string ⟨s.name.toArray⟩) := (cell_of_blk HA11.out 0).trans rfl
      have k1 : wd.cell? ⟨ga, 1, none⟩ = some (.int .i64 s.frm.y) := (cell_of_blk HA11.out 1).trans rfl
      have k2 : wd.cell? ⟨ga, 2, none⟩ = some (.int .i64 s.frm.m) := (cell_of_blk HA11.out 2).trans rfl
      have k3 : wd.cell? ⟨ga, 3, none⟩ = some (.int .i64 s.frm.d) := (cell_of_blk HA11.out 3).trans rfl
      have k4 : wd.cell? ⟨ga, 4, none⟩ = some (.int .i64 s.days) := (cell_of_blk HA11.out 4).trans rfl
      have k5 : wd.cell? ⟨ga, 5, none⟩ = some (.slice (some ⟨gn, 0, none⟩) al.length cn) := (cell_of_blk HA11.out 5).trans rfl
      have HEX := Lib.hid (expand_any s al _ wd HLA11.out (fun y hy => HSHM.out y (HDM.out y hy)) (fun y hy => HCDM.out y (HDM.out y hy)))
      unfold ExpR at HEX
      obtain ⟨p1, hr1⟩ : ∃ r, (expand (srcT s al)).1 = r := ⟨_, rfl⟩
      obtain ⟨p2, hr2⟩ : ∃ r, (expand (srcT s al)).2 = r := ⟨_, rfl⟩
      have HRp1 := Lib.hid hr1; have HRp2 := Lib.hid hr2
      rw [hr1, hr2] at HEX
      clear hr1 hr2
      go_wp2_with fail
      refine HEX.out.mono ?_
      rintro e we ⟨iv, fv, hs, rfl, h1, h2, h3, h4⟩
      obtain ⟨Ahs, chs, hiv, _, _⟩ := h2.slice
      subst hiv
      obtain ⟨Ap2, cp2, hfv, _, _⟩ := h3.slice
      rw [List.length_map] at hfv
      subst hfv
      have HDhs := Lib.hid h1
      have HFewe : Hid (Fr (fun _ => False) wd we) := h4
      have HFwe : Hid (Fr (fun _ => False) W we) := HFwd.out.trans h4
      have HLhs : Hid (LayL All we hs (.slice Ahs hs.length chs)) := h2.mono (fun _ _ _ => trivial)
      have HTp2 : Hid (RowB All we (.slice Ap2 p2.length cp2) 2 (p2.map faultc)) := h3.mono (fun _ _ _ => trivial)
      clear h1 h2 h3 h4 HEX
      dsimp only
      iterate 13 go_step
      refine wpList_store_row rfl 26 _ _ rfl we.heap.size (scells p1.name p1.frm p1.days (.slice Ahs hs.length chs)).toArray rfl rfl 26 _ (blk_newn rfl) (info_src _ _ _ _) rfl (one_src _ _ _ _ _ _) ?_
      simp only [Act.put, List.setIfInBounds_toArray, List.set_cons_zero, List.set_cons_succ]
      rw [World.setRow_alloc_new]
      obtain ⟨wf, hn⟩ : ∃ u, we.alloc (.cells (scells p1.name p1.frm p1.days (.slice Ahs hs.length chs)).toArray 26) = u := ⟨_, rfl⟩
      rw [hn]
      have HFswf : Hid (Fr (fun _ => False) we wf) := by rw [← hn]; exact (Fr.refl _ we).alloc _
      obtain ⟨gC, hblk⟩ : ∃ g, we.heap.size = g := ⟨_, rfl⟩
      rw [hblk]
      have HBwf : Hid (wf.heap[gC]? = some (.cells (scells p1.name p1.frm p1.days (.slice Ahs hs.length chs)).toArray 26 (0, 0))) := by rw [← hn, ← hblk]; exact blk_newn rfl
      have HZwf : Hid (we.heap.size = gC) := hblk
      have HFwf : Hid (Fr (fun _ => False) W wf) := HFwe.out.trans HFswf.out
      clear hn hblk
      have HLe : Hid (LayL All wf es (.slice Aes es.length ces)) := (HLe11.out.fr HFewe.out (fun _ _ h => h)).fr HFswf.out (fun _ _ h => h)
      have HLf : Hid (LayL All wf fs (.slice Afs fs.length cfs)) := (HLf11.out.fr HFewe.out (fun _ _ h => h)).fr HFswf.out (fun _ _ h => h)
      have HLh : Hid (LayL All wf hs (.slice Ahs hs.length chs)) := HLhs.out.fr HFswf.out (fun _ _ h => h)
      have HBa : Hid (wf.heap[gA]? = some (.cells (scells r1.name r1.frm r1.days (.slice Aes es.length ces)).toArray 26 (0, 0))) := HFswf.out.blk (HFewe.out.blk HBa11.out (fun h => h)) (fun h => h)
      have HBb : Hid (wf.heap[gB]? = some (.cells (scells q1.name q1.frm q1.days (.slice Afs fs.length cfs)).toArray 26 (0, 0))) := HFswf.out.blk (HFewe.out.blk HBwd.out (fun h => h)) (fun h => h)
      clear k0 k1 k2 k3 k4 k5 HA11 HLA11 HLe11 HLf11 HLhs HBa11
      have hlaw := law_parts (srcT s l) (bare x).tree (by rw [DT.tree_h]; exact HDK.out) rfl
      rw [parts_tree1, parts_tree2, HDL.out, HML.out, HAL.out, HRq2.out, HRr2.out, HRp2.out, HRq1.out, HRr1.out, HRp1.out] at hlaw
      by_cases hq : q2 = []
      case neg =>
        obtain ⟨n2, hn2⟩ : ∃ n, q2.length = n + 1 := ⟨q2.length - 1, by have := List.length_pos_iff.2 hq; omega⟩
        obtain ⟨m2, hm2⟩ : ∃ m, n2 + 1 = m := ⟨_, rfl⟩
        rw [hn2, hm2]
        have i2 : (0 : Int) < (m2 : Int) := by omega
        have i4 : ((m2 : Int) == 0) = false := by simp; omega
        have i5 : decide ((0 : Int) < (m2 : Int)) = true := by simp; omega
        have i6 : decide (0 < m2) = true := by simp; omega
        clear hlaw hm2 hn2 hq
        by_cases hr : r2 = []
        · subst hr
          go_wp2_with fail
          go_ret
          exact ⟨rfl, HFwf.out.below (Nat.le_refl _) (fun _ h => h.elim)⟩
        · obtain ⟨n1, hn1⟩ : ∃ n, r2.length = n + 1 := ⟨r2.length - 1, by have := List.length_pos_iff.2 hr; omega⟩
          obtain ⟨m1, hm1⟩ : ∃ m, n1 + 1 = m := ⟨_, rfl⟩
          rw [hn1, hm1]
          have i1 : (0 : Int) < (m1 : Int) := by omega
          have i3 : ((m1 : Int) == 0) = false := by simp; omega
          clear hr hn1 hm1
          go_wp2_with fail
          go_ret
          exact ⟨rfl, HFwf.out.below (Nat.le_refl _) (fun _ h => h.elim)⟩
      have hr := hlaw.1 hq
      have hp := hlaw.2 hq
      subst hq
      subst hr
      obtain ⟨hp1, hp2⟩ := hp
      subst hp1
      have hfs : fs.map DT.tree = es.map DT.tree ++ hs.map DT.tree := by rw [HDfs.out, HDes.out, HDhs.out]; exact hp2
      have hlen : fs.length = es.length + hs.length := by have := congrArg List.length hfs; simpa using this
      have hf6 : fs.length ≤ 600 := by
        have h := (law_plain HRq2.out).2.2.2.2.1
        rw [HRq1.out, ← HDfs.out, List.length_map] at h
        exact h
      have HFS := Lib.hid hfs
      clear hlaw hp2 hfs
      have j1 : ((fs.length : Int) != (es.length : Int) + (hs.length : Int)) = false := by rw [hlen]; simp
      have j2 : (es.length : Int) + (hs.length : Int) ≤ 600 := by omega
      have j3 : (0 : Int) ≤ (es.length : Int) := Int.natCast_nonneg _
      have j4 : (0 : Int) ≤ (hs.length : Int) := Int.natCast_nonneg _
      have HLN := Lib.hid hlen
      clear hlen hf6
      have a5 : wf.cell? ⟨gA, 5, none⟩ = some (.slice Aes es.length ces) := (cell_of_blk HBa.out 5).trans rfl
      have b5 : wf.cell? ⟨gB, 5, none⟩ = some (.slice Afs fs.length cfs) := (cell_of_blk HBb.out 5).trans rfl
      have c5 : wf.cell? ⟨gC, 5, none⟩ = some (.slice Ahs hs.length chs) := (cell_of_blk HBwf.out 5).trans rfl
      go_upto_region 21 with fail
      refine parts_r21 (by kernel_rfl) HBa.out HBb.out HBwf.out HLe.out HLf.out HLh.out HFS.out (by have := HLN.out; omega) (fun _ _ _ _ _ h => h) ?_
      intro v136 v137 v138 v139 v140 v141 v142 v143 v144 v145 v146 v147 v148 v149 v150 v151 v152 v153 v154 v155 v156 v157 v158 wz hfz
      have HFZ := Lib.hid (HFwf.out.trans hfz)
      clear hfz
      go_wp2_with fail
      go_ret
      exact ⟨rfl, HFZ.out.below (Nat.le_refl _) (fun _ h => h.elim)⟩
end Go.Proofs.Yticakdajhmfpoaa
