/-
  Include: the rows that the reference's Renamed builds.
-/
import Derived.Test.YticakdajhmfpoaaIncGuard
import Derived.Test.YticakdajhmfpoaaRow
import Derived.Test.YticakdajhmfpoaaIncSame
import Derived.Test.YticakdajhmfpoaaIncBld
import Derived.Test.YticakdajhmfpoaaIncLaws3
namespace Go.Proofs.Yticakdajhmfpoaa.Ic
open Go.RowKit Mem Vw Rs
set_option linter.unusedVariables false
set_option linter.unusedSimpArgs false

theorem rchange_is (n f g : Rs.Bytes) (W : World) : Calls Try.prog 29 #[.string ⟨n.toArray⟩, .string ⟨f.toArray⟩, .string ⟨g.toArray⟩] W fun e w' => e = .returned (.string ⟨(change f g n).toArray⟩) ∧ w' = W := rchange_any n f g W
theorem cell_frs {S : Nat → Prop} {w w' : World} {g o : Nat} {v : Value} (hf : Fr S w w') (hs : ¬ S g) (h : w.cell? ⟨g, o, none⟩ = some v) : w'.cell? ⟨g, o, none⟩ = some v := by
  have hg := lt_of_cell h
  have hb := hf.block g hg hs
  unfold World.cell? at h ⊢
  simpa only [hb] using h
/-- An item's block whose names' row is being built. -/
structure Nb (bo go : Nat) (h : Rs.Item) (c d i : Value) (ns : List Rs.Bytes) (nv : Value) (Wb w : World) : Prop where
  lo : bo ≤ Wb.heap.size
  blk : w.heap[go]? = some (.cells (icells h c d nv i).toArray 41 (0, 0))
  own : w.ownsRow bo 9 1 nv ns.length (ns.flatMap fun x => [sv x])
  ne : nv.ownBlock ≠ some go
  fr : Fr (fun g => g = go ∨ bo ≤ g) Wb w
set_option maxRecDepth 100000 in
set_option maxHeartbeats 16000000 in
theorem ren_r6 {Wb X : World} {bo go gs g0 o0 k nl cp : Nat} {h : Rs.Item} {c d i i2 nv : Value} {ns : List Rs.Bytes} {f g y : Rs.Bytes} {u0 u4 u5 u6 u9 u10 u11 u12 u13 u14 u15 u16 u17 u18 u19 u20 u21 u22 u23 u24 u25 u26 u27 u28 u29 u30 u31 u32 u33 u34 u35 u36 u37 u38 u39 u40 u41 u42 u43 u44 u45 u46 u47 u48 u49 u50 u51 u52 u53 u54 u55 u56 u57 u58 u59 u60 u61 u62 u63 u64 u65 u66 u67 u68 u69 u70 u71 u72 u73 u74 u75 u76 u77 u78 u79 u80 u81 u82 u83 u84 u85 u86 u87 u88 u89 u90 u91 u92 u93 u94 u95 u96 u97 u98 u99 u100 u101 u102 u103 u104 u105 u106 u107 u108 u109 u110 u111 u112 u113 u114 u115 u116 u117 u118 u119 u120 u121 u122 u123 u124 u125 u126 u127 u128 u129 u130 u131 u132 u133 u134 u135 u136 u137 u138 u139 u140 u141 u142 u143 u144 u145 u146 u147 u148 u149 u150 u151 u152 u153 u154 u155 u156 u157 u158 u159 u160 u161 u162 u163 u164 u165 u166 u167 u168 : Value} {Q : Exit → Act → World → Prop} {C : Code} (hC : C = Cut.region Try.f18 6) (hb : Nb bo go h c d i ns nv Wb X) (hs : Wb.heap[gs]? = some (.cells (icells h c d (.slice (some ⟨g0, o0, none⟩) nl cp) i2).toArray 41 (0, 0))) (hgs : gs < bo ∧ gs ≠ go) (hg0 : g0 < bo ∧ g0 ≠ go) (hy : Wb.cell? ⟨g0, o0 + k, none⟩ = some (.string ⟨y.toArray⟩)) (hk : k < nl) (hd : (ns.length + 1) * 16 ≤ 140737488355328) (hP : Cut.Blind Q)
    (hQ : ∀ (v24 v25 v26 v27 v28 v29 v30 v31 v32 v33 v34 v35 v36 : Value) (wx : World), (∃ nv2, Nb bo go h c d i (ns ++ [change f g y]) nv2 Wb wx) → Q .normal ⟨#[u0, .string ⟨f.toArray⟩, .string ⟨g.toArray⟩, .pointer (some ⟨gs, 0, none⟩), u4, u5, u6, .pointer (some ⟨go, 0, none⟩), .int .i64 k, u9, u10, u11, u12, u13, u14, u15, u16, u17, u18, u19, u20, u21, u22, u23, v24, v25, v26, v27, v28, v29, v30, v31, v32, v33, v34, v35, v36, u37, u38, u39, u40, u41, u42, u43, u44, u45, u46, u47, u48, u49, u50, u51, u52, u53, u54, u55, u56, u57, u58, u59, u60, u61, u62, u63, u64, u65, u66, u67, u68, u69, u70, u71, u72, u73, u74, u75, u76, u77, u78, u79, u80, u81, u82, u83, u84, u85, u86, u87, u88, u89, u90, u91, u92, u93, u94, u95, u96, u97, u98, u99, u100, u101, u102, u103, u104, u105, u106, u107, u108, u109, u110, u111, u112, u113, u114, u115, u116, u117, u118, u119, u120, u121, u122, u123, u124, u125, u126, u127, u128, u129, u130, u131, u132, u133, u134, u135, u136, u137, u138, u139, u140, u141, u142, u143, u144, u145, u146, u147, u148, u149, u150, u151, u152, u153, u154, u155, u156, u157, u158, u159, u160, u161, u162, u163, u164, u165, u166, u167, u168], []⟩ wx) :
    Code.wp Try.prog C Q ⟨#[u0, .string ⟨f.toArray⟩, .string ⟨g.toArray⟩, .pointer (some ⟨gs, 0, none⟩), u4, u5, u6, .pointer (some ⟨go, 0, none⟩), .int .i64 k, u9, u10, u11, u12, u13, u14, u15, u16, u17, u18, u19, u20, u21, u22, u23, u24, u25, u26, u27, u28, u29, u30, u31, u32, u33, u34, u35, u36, u37, u38, u39, u40, u41, u42, u43, u44, u45, u46, u47, u48, u49, u50, u51, u52, u53, u54, u55, u56, u57, u58, u59, u60, u61, u62, u63, u64, u65, u66, u67, u68, u69, u70, u71, u72, u73, u74, u75, u76, u77, u78, u79, u80, u81, u82, u83, u84, u85, u86, u87, u88, u89, u90, u91, u92, u93, u94, u95, u96, u97, u98, u99, u100, u101, u102, u103, u104, u105, u106, u107, u108, u109, u110, u111, u112, u113, u114, u115, u116, u117, u118, u119, u120, u121, u122, u123, u124, u125, u126, u127, u128, u129, u130, u131, u132, u133, u134, u135, u136, u137, u138, u139, u140, u141, u142, u143, u144, u145, u146, u147, u148, u149, u150, u151, u152, u153, u154, u155, u156, u157, u158, u159, u160, u161, u162, u163, u164, u165, u166, u167, u168], []⟩ X := by
  subst hC
  conv => arg 2; whnf
  refine Reg.G.start (by kernel_rfl) ?_
  obtain ⟨Xd, HXd⟩ : ∃ Y, Hid (X.drew = Y) := ⟨_, rfl⟩
  have HFD : Hid (Fr (fun _ => False) X Xd) := by rw [← HXd.out]; exact (Fr.refl _ X).drew
  obtain ⟨Ao, co, hao⟩ := own_form hb.own
  subst hao
  obtain ⟨j0, hj, hj0, hj1, hj2⟩ := info_parts cinfo_str
  have HSB : Hid (X.heap[gs]? = some (.cells (icells h c d (.slice (some ⟨g0, o0, none⟩) nl cp) i2).toArray 41 (0, 0))) := hb.fr.blk hs (fun e => by omega)
  have HAT : Hid (∀ w, Fr (fun _ => False) X w → w.cell? ⟨g0, o0 + k, none⟩ = some (.string ⟨y.toArray⟩)) := fun w hw => cell_fr hw (cell_frs hb.fr (fun e => by omega) hy)
  have i1 : (0 : Int) ≤ (k : Int) := Int.natCast_nonneg _
  have i2 : (k : Int) < (nl : Int) := by omega
  have n1 : (0 : Int) ≤ (ns.length : Int) := Int.natCast_nonneg _
  rw [HXd.out]
  clear HXd
  refine' Reg.G.pure (i := 0) (v := _) rfl (by rfl) (by kernel_rfl) (by kernel_rfl) (by kernel_rfl) (fun _ _ _ h => hP _ _ _ _ _ h) ?hyn1 ?rehyn1
  case hyn1 => exact fun w => by first | (go_simp; done) | (go_simp; with_reducible rfl)
  simp only [Act.put, List.setIfInBounds_toArray, List.set_cons_zero, List.set_cons_succ]
  refine' Reg.G.take (i := 1) (v := _) (F := (fun w => Fr (fun _ => False) X w)) rfl (by rfl) (by kernel_rfl) (by kernel_rfl) (by kernel_rfl) (fun _ _ _ h => hP _ _ _ _ _ h) (HFD.out) ?hyn2 ?rehyn2
  case hyn2 => intro w hw; have kc : w.cell? ⟨go, 31, none⟩ = some (.slice Ao ns.length co) := (cell_of_blk (hw.blk hb.blk (fun h => h)) 31).trans rfl; clear hw; first | (go_simp; done) | (go_simp; with_reducible rfl)
  simp only [Act.put, List.setIfInBounds_toArray, List.set_cons_zero, List.set_cons_succ]
  refine' Reg.G.pure (i := 2) (v := _) rfl (by rfl) (by kernel_rfl) (by kernel_rfl) (by kernel_rfl) (fun _ _ _ h => hP _ _ _ _ _ h) ?hyn3 ?rehyn3
  case hyn3 => exact fun w => by first | (go_simp; done) | (go_simp; with_reducible rfl)
  simp only [Act.put, List.setIfInBounds_toArray, List.set_cons_zero, List.set_cons_succ]
  refine' Reg.G.take (i := 3) (v := _) (F := (fun w => Fr (fun _ => False) X w)) rfl (by rfl) (by kernel_rfl) (by kernel_rfl) (by kernel_rfl) (fun _ _ _ h => hP _ _ _ _ _ h) (HFD.out) ?hyn4 ?rehyn4
  case hyn4 => intro w hw; have kc : w.cell? ⟨gs, 31, none⟩ = some (.slice (some ⟨g0, o0, none⟩) nl cp) := (cell_of_blk (hw.blk HSB.out (fun h => h)) 31).trans rfl; clear hw; first | (go_simp; done) | (go_simp; with_reducible rfl)
  simp only [Act.put, List.setIfInBounds_toArray, List.set_cons_zero, List.set_cons_succ]
  refine' Reg.G.pure (i := 4) (v := _) rfl (by rfl) (by kernel_rfl) (by kernel_rfl) (by kernel_rfl) (fun _ _ _ h => hP _ _ _ _ _ h) ?hyn5 ?rehyn5
  case hyn5 => exact fun w => by first | (go_simp; done) | (go_simp; with_reducible rfl)
  simp only [Act.put, List.setIfInBounds_toArray, List.set_cons_zero, List.set_cons_succ]
  refine' Reg.G.pure (i := 5) (v := _) rfl (by rfl) (by kernel_rfl) (by kernel_rfl) (by kernel_rfl) (fun _ _ _ h => hP _ _ _ _ _ h) ?hyn6 ?rehyn6
  case hyn6 => exact fun w => by first | (go_simp; done) | (go_simp; with_reducible rfl)
  simp only [Act.put, List.setIfInBounds_toArray, List.set_cons_zero, List.set_cons_succ]
  refine' Reg.G.take (i := 6) (v := _) (F := (fun w => Fr (fun _ => False) X w)) rfl (by rfl) (by kernel_rfl) (by kernel_rfl) (by kernel_rfl) (fun _ _ _ h => hP _ _ _ _ _ h) (HFD.out) ?hyn7 ?rehyn7
  case hyn7 => intro w hw; have kc := HAT.out w hw; clear hw; first | (go_simp; done) | (go_simp; with_reducible rfl)
  simp only [Act.put, List.setIfInBounds_toArray, List.set_cons_zero, List.set_cons_succ]
  refine' Reg.G.pure (i := 7) (v := _) rfl (by rfl) (by kernel_rfl) (by kernel_rfl) (by kernel_rfl) (fun _ _ _ h => hP _ _ _ _ _ h) ?hyn8 ?rehyn8
  case hyn8 => exact fun w => by first | (go_simp; done) | (go_simp; with_reducible rfl)
  simp only [Act.put, List.setIfInBounds_toArray, List.set_cons_zero, List.set_cons_succ]
  refine' Reg.G.pure (i := 8) (v := _) rfl (by rfl) (by kernel_rfl) (by kernel_rfl) (by kernel_rfl) (fun _ _ _ h => hP _ _ _ _ _ h) ?hyn9 ?rehyn9
  case hyn9 => exact fun w => by first | (go_simp; done) | (go_simp; with_reducible rfl)
  simp only [Act.put, List.setIfInBounds_toArray, List.set_cons_zero, List.set_cons_succ]
  refine Reg.G.step (j := 9) (m := [false, false, true]) [6, 3, 1] rfl (by kernel_rfl) rfl (by kernel_rfl) (fun K hK => ?_)
  go_simp
  refine (rchange_is y f g _).mono ?_
  rintro e y1 ⟨rfl, he⟩
  obtain ⟨z, HZ⟩ : ∃ z, Hid (change f g y = z) := ⟨_, rfl⟩
  rw [HZ.out]
  have he := he.symm
  subst he
  refine hK.out _ _ ⟨HFD.out, trivial⟩ ?_
  clear hK K
  simp only [Act.put, List.setIfInBounds_toArray, List.set_cons_zero, List.set_cons_succ, Reg.Kept]
  refine Reg.G.step (j := 10) (m := [true]) [1] rfl (by kernel_rfl) rfl (by kernel_rfl) (fun K hK => ?_)
  go_simp
  obtain ⟨y2, hu⟩ : ∃ u, Xd.alloc (.cells #[.string ⟨z.toArray⟩] 9) = u := ⟨_, rfl⟩
  rw [hu]
  have HG2 : Hid (Fr (fun _ => False) X y2) := by rw [← hu]; exact HFD.out.alloc _
  have HNA : Hid (∀ j y, [sv z][j]? = some y → y2.cell? ((⟨Xd.heap.size, 0, none⟩ : Addr).add j) = some y) := by rw [← hu]; exact cells_new Xd [sv z] _ _ rfl
  clear hu
  refine hK.out _ _ ⟨HG2.out, trivial⟩ ?_
  clear hK K
  simp only [Act.put, List.setIfInBounds_toArray, List.set_cons_zero, List.set_cons_succ, Reg.Kept]
  refine Reg.G.step (j := 11) (m := [false]) [1] rfl (by kernel_rfl) rfl (by kernel_rfl) (fun K hK => ?_)
  have HOA : Hid (y2.ownsRow bo 9 1 (.slice Ao ns.length co) ns.length (ns.flatMap fun x => [sv x])) := own_fr hb.own HG2.out (fun _ _ _ e => e)
  refine wp_append_lies y2 (.tmp 25) (.tmp 34) 39 rfl bo 9 j0 _ 1 16 Try.underlying39 hj hj0 hj1 hj2 rfl (by decide) (.slice Ao ns.length co) ns.length _ (by rfl) HOA.out ⟨Xd.heap.size, 0, none⟩ 1 1 [sv z] (by rfl) rfl HNA.out (by intro v hv; simp only [List.mem_cons, List.not_mem_nil, or_false] at hv; subst hv; rfl) (by decide) (by simp only [maxLen]; omega) (by omega) (by have h1 := hb.lo; have h2 := hb.fr.size; have h3 := HG2.out.size; omega) (y2.heap.size) rfl ?_
  intro gn cn y3 g1 g2 g3 _
  have HOW : Hid (y3.ownsRow bo 9 1 (.slice (some ⟨gn, 0, none⟩) (ns.length + 1) cn) (ns ++ [z]).length ((ns ++ [z]).flatMap fun x => [sv x])) := by
    have e1 : (ns ++ [z]).length = ns.length + 1 := by simp
    have e2 : ((ns ++ [z]).flatMap fun x => [sv x]) = (ns.flatMap fun x => [sv x]) ++ [sv z] := by simp [List.flatMap_append]
    rw [e1, e2]
    exact g1
  have HLO : Hid (∀ k, (Value.slice Ao ns.length co).ownBlock = some k → bo ≤ k) := fun k hk => (own_lt HOA.out k hk).1
  have HGR : Hid (Fr (fun g => g = go ∨ bo ≤ g) Wb y3) := (hb.fr.trans' HG2.out (fun _ _ h => h.elim)).grown g2 (fun k hk => .inl (.inr (HLO.out k hk)))
  have HBK : Hid (y3.heap[go]? = some (.cells (icells h c d (.slice Ao ns.length co) i).toArray 41 (0, 0))) := (Fr.of_grown g2).blk (HG2.out.blk hb.blk (fun h => h)) (fun e => hb.ne e)
  have HNE : Hid ((Value.slice (some ⟨gn, 0, none⟩) (ns.length + 1) cn).ownBlock ≠ some go) := fun e => by
    have e1 : gn = go := by simpa [Value.ownBlock] using e
    rcases g3 with g3 | g3
    · exact hb.ne (by rw [← e1]; exact g3)
    · have h1 := lt_of_blk hb.blk; have h2 := HG2.out.size; omega
  clear g1 g2 g3
  refine hK.out _ _ trivial ?_
  clear hK K
  simp only [Act.put, List.setIfInBounds_toArray, List.set_cons_zero, List.set_cons_succ, Reg.Kept]
  refine' Reg.G.pure (i := 12) (v := _) rfl (by rfl) (by kernel_rfl) (by kernel_rfl) (by kernel_rfl) (fun _ _ _ h => hP _ _ _ _ _ h) ?hyn10 ?rehyn10
  case hyn10 => exact fun w => by first | (go_simp; done) | (go_simp; with_reducible rfl)
  simp only [Act.put, List.setIfInBounds_toArray, List.set_cons_zero, List.set_cons_succ]
  refine Reg.G.step (j := 13) (m := []) [] rfl (by kernel_rfl) rfl (by kernel_rfl) (fun K hK => ?_)
  have ko : y3.cell? ⟨go, 31, none⟩ = some (.slice Ao ns.length co) := (cell_of_blk HBK.out 31).trans rfl
  have fo : y3.frozen? ⟨go, 31, none⟩ = false := froz_of_blk HBK.out 31
  go_simp
  obtain ⟨y4, hu⟩ : ∃ u, y3.setCell ⟨go, 31, none⟩ (.slice (some ⟨gn, 0, none⟩) (ns.length + 1) cn) = u := ⟨_, rfl⟩
  rw [hu]
  have HBK2 : Hid (y4.heap[go]? = some (.cells (icells h c d (.slice (some ⟨gn, 0, none⟩) (ns.length + 1) cn) i).toArray 41 (0, 0))) := by rw [← hu]; exact blk_set HBK.out 31 _
  have HFL : Hid (Fr (fun g => g = go) y3 y4) := by rw [← hu]; exact (Fr.refl (fun g => g = go) y3).setb 31 _
  have HBD : Hid (Nb bo go h c d i (ns ++ [change f g y]) (.slice (some ⟨gn, 0, none⟩) (ns.length + 1) cn) Wb y4) := by rw [HZ.out]; exact ⟨hb.lo, HBK2.out, own_frb HOW.out HFL.out (fun k hk e => HNE.out (by rw [hk, e])), HNE.out, HGR.out.trans' HFL.out (fun g _ e => .inl e)⟩
  clear hu ko fo
  refine hK.out _ _ trivial ?_
  clear hK K
  simp only [Act.put, List.setIfInBounds_toArray, List.set_cons_zero, List.set_cons_succ, Reg.Kept]
  refine Reg.G.done (by kernel_rfl) ?_
  exact hQ _ _ _ _ _ _ _ _ _ _ _ _ _ _ ⟨_, HBD.out⟩
/-- A row of conditions that is being built. -/
structure Cb (bo : Nat) (cs : List Named) (cv : Value) (Wb w : World) : Prop where
  lo : bo ≤ Wb.heap.size
  own : w.ownsRow bo 57 2 cv cs.length (cs.flatMap namedc)
  fr : Fr (fun g => bo ≤ g) Wb w
/-- A row of names that is being built. -/
structure Sb (bo : Nat) (ns : List Rs.Bytes) (nv : Value) (Wb w : World) : Prop where
  lo : bo ≤ Wb.heap.size
  own : w.ownsRow bo 9 1 nv ns.length (ns.flatMap fun x => [sv x])
  fr : Fr (fun g => bo ≤ g) Wb w
set_option maxRecDepth 100000 in
set_option maxHeartbeats 16000000 in
theorem ren_r26 {Wb X : World} {bo gx g0 o0 k nl cp : Nat} {h : Rs.Item} {d n i cv : Value} {cs : List Named} {f g : Rs.Bytes} {y : Named} {u0 u3 u4 u5 u6 u7 u8 u9 u13 u14 u15 u16 u17 u18 u19 u20 u21 u22 u23 u24 u25 u26 u27 u28 u29 u30 u31 u32 u33 u34 u35 u36 u37 u38 u39 u40 u41 u42 u43 u44 u45 u46 u47 u48 u49 u50 u51 u52 u53 u54 u55 u56 u57 u58 u59 u60 u61 u62 u63 u64 u65 u66 u67 u68 u69 u70 u71 u72 u73 u74 u75 u76 u77 u78 u79 u80 u81 u82 u83 u84 u85 u86 u87 u88 u89 u90 u91 u92 u93 u94 u95 u96 u97 u98 u99 u100 u101 u102 u103 u104 u105 u106 u107 u108 u109 u110 u111 u112 u113 u114 u115 u116 u117 u118 u119 u120 u121 u122 u123 u124 u125 u126 u127 u128 u129 u130 u131 u132 u133 u134 u135 u136 u137 u138 u139 u140 u141 u142 u143 u144 u145 u146 u147 u148 u149 u150 u151 u152 u153 u154 u155 u156 u157 u158 u159 u160 u161 u162 u163 u164 u165 u166 u167 u168 : Value} {Q : Exit → Act → World → Prop} {C : Code} (hC : C = Cut.region Try.f18 26) (hb : Cb bo cs cv Wb X) (hs : Wb.heap[gx]? = some (.cells (icells h (.slice (some ⟨g0, o0, none⟩) nl cp) d n i).toArray 41 (0, 0))) (hgx : gx < bo) (hg0 : g0 < bo) (hy : At Wb g0 (o0 + k * 2) (namedc y)) (hk : k < nl) (hd : (cs.length + 1) * 24 ≤ 140737488355328) (hP : Cut.Blind Q)
    (hQ : ∀ (v11 v118 v119 v120 v121 v122 v123 v124 v125 v126 v127 v128 v129 v130 v131 v132 v133 v134 v135 v136 : Value) (wx : World), (Cb bo (cs ++ [(⟨change f g y.name, y.is_⟩ : Named)]) v11 Wb wx) → Q .normal ⟨#[u0, .string ⟨f.toArray⟩, .string ⟨g.toArray⟩, u3, u4, u5, u6, u7, u8, u9, .pointer (some ⟨gx, 0, none⟩), v11, .int .i64 k, u13, u14, u15, u16, u17, u18, u19, u20, u21, u22, u23, u24, u25, u26, u27, u28, u29, u30, u31, u32, u33, u34, u35, u36, u37, u38, u39, u40, u41, u42, u43, u44, u45, u46, u47, u48, u49, u50, u51, u52, u53, u54, u55, u56, u57, u58, u59, u60, u61, u62, u63, u64, u65, u66, u67, u68, u69, u70, u71, u72, u73, u74, u75, u76, u77, u78, u79, u80, u81, u82, u83, u84, u85, u86, u87, u88, u89, u90, u91, u92, u93, u94, u95, u96, u97, u98, u99, u100, u101, u102, u103, u104, u105, u106, u107, u108, u109, u110, u111, u112, u113, u114, u115, u116, u117, v118, v119, v120, v121, v122, v123, v124, v125, v126, v127, v128, v129, v130, v131, v132, v133, v134, v135, v136, u137, u138, u139, u140, u141, u142, u143, u144, u145, u146, u147, u148, u149, u150, u151, u152, u153, u154, u155, u156, u157, u158, u159, u160, u161, u162, u163, u164, u165, u166, u167, u168], []⟩ wx) :
    Code.wp Try.prog C Q ⟨#[u0, .string ⟨f.toArray⟩, .string ⟨g.toArray⟩, u3, u4, u5, u6, u7, u8, u9, .pointer (some ⟨gx, 0, none⟩), cv, .int .i64 k, u13, u14, u15, u16, u17, u18, u19, u20, u21, u22, u23, u24, u25, u26, u27, u28, u29, u30, u31, u32, u33, u34, u35, u36, u37, u38, u39, u40, u41, u42, u43, u44, u45, u46, u47, u48, u49, u50, u51, u52, u53, u54, u55, u56, u57, u58, u59, u60, u61, u62, u63, u64, u65, u66, u67, u68, u69, u70, u71, u72, u73, u74, u75, u76, u77, u78, u79, u80, u81, u82, u83, u84, u85, u86, u87, u88, u89, u90, u91, u92, u93, u94, u95, u96, u97, u98, u99, u100, u101, u102, u103, u104, u105, u106, u107, u108, u109, u110, u111, u112, u113, u114, u115, u116, u117, u118, u119, u120, u121, u122, u123, u124, u125, u126, u127, u128, u129, u130, u131, u132, u133, u134, u135, u136, u137, u138, u139, u140, u141, u142, u143, u144, u145, u146, u147, u148, u149, u150, u151, u152, u153, u154, u155, u156, u157, u158, u159, u160, u161, u162, u163, u164, u165, u166, u167, u168], []⟩ X := by
  subst hC
  conv => arg 2; whnf
  refine Reg.G.start (by kernel_rfl) ?_
  obtain ⟨Xd, HXd⟩ : ∃ Y, Hid (X.drew = Y) := ⟨_, rfl⟩
  have HFD : Hid (Fr (fun _ => False) X Xd) := by rw [← HXd.out]; exact (Fr.refl _ X).drew
  obtain ⟨Ao, co, hao⟩ := own_form hb.own
  subst hao
  obtain ⟨j0, hj, hj0, hj1, hj2⟩ := info_parts cinfo_named
  have HSB : Hid (X.heap[gx]? = some (.cells (icells h (.slice (some ⟨g0, o0, none⟩) nl cp) d n i).toArray 41 (0, 0))) := hb.fr.blk hs (fun e => by omega)
  have HAT : Hid (∀ w, Fr (fun _ => False) X w → w.cell? ⟨g0, o0 + k * 2, none⟩ = some (.string ⟨y.name.toArray⟩)) := fun w hw => cell_fr hw (cell_frs hb.fr (fun e => by omega) (hy 0 _ rfl))
  have HAS : Hid (∀ w, Fr (fun _ => False) X w → w.cell? ⟨g0, o0 + k * 2 + 1, none⟩ = some (.int .i64 y.is_)) := fun w hw => cell_fr hw (cell_frs hb.fr (fun e => by omega) (hy 1 _ rfl))
  have i1 : (0 : Int) ≤ (k : Int) := Int.natCast_nonneg _
  have i2 : (k : Int) < (nl : Int) := by omega
  have n1 : (0 : Int) ≤ (cs.length : Int) := Int.natCast_nonneg _
  rw [HXd.out]
  clear HXd
  refine' Reg.G.pure (i := 0) (v := _) rfl (by rfl) (by kernel_rfl) (by kernel_rfl) (by kernel_rfl) (fun _ _ _ h => hP _ _ _ _ _ h) ?hyc11 ?rehyc11
  case hyc11 => exact fun w => by first | (go_simp; done) | (go_simp; with_reducible rfl)
  simp only [Act.put, List.setIfInBounds_toArray, List.set_cons_zero, List.set_cons_succ]
  refine' Reg.G.pure (i := 1) (v := _) rfl (by rfl) (by kernel_rfl) (by kernel_rfl) (by kernel_rfl) (fun _ _ _ h => hP _ _ _ _ _ h) ?hyc12 ?rehyc12
  case hyc12 => exact fun w => by first | (go_simp; done) | (go_simp; with_reducible rfl)
  simp only [Act.put, List.setIfInBounds_toArray, List.set_cons_zero, List.set_cons_succ]
  refine' Reg.G.take (i := 2) (v := _) (F := (fun w => Fr (fun _ => False) X w)) rfl (by rfl) (by kernel_rfl) (by kernel_rfl) (by kernel_rfl) (fun _ _ _ h => hP _ _ _ _ _ h) (HFD.out) ?hyc13 ?rehyc13
  case hyc13 => intro w hw; have kc : w.cell? ⟨gx, 13, none⟩ = some (.slice (some ⟨g0, o0, none⟩) nl cp) := (cell_of_blk (hw.blk HSB.out (fun h => h)) 13).trans rfl; clear hw; first | (go_simp; done) | (go_simp; with_reducible rfl)
  simp only [Act.put, List.setIfInBounds_toArray, List.set_cons_zero, List.set_cons_succ]
  refine' Reg.G.pure (i := 3) (v := _) rfl (by rfl) (by kernel_rfl) (by kernel_rfl) (by kernel_rfl) (fun _ _ _ h => hP _ _ _ _ _ h) ?hyc14 ?rehyc14
  case hyc14 => exact fun w => by first | (go_simp; done) | (go_simp; with_reducible rfl)
  simp only [Act.put, List.setIfInBounds_toArray, List.set_cons_zero, List.set_cons_succ]
  refine' Reg.G.pure (i := 4) (v := _) rfl (by rfl) (by kernel_rfl) (by kernel_rfl) (by kernel_rfl) (fun _ _ _ h => hP _ _ _ _ _ h) ?hyc15 ?rehyc15
  case hyc15 => exact fun w => by first | (go_simp; done) | (go_simp; with_reducible rfl)
  simp only [Act.put, List.setIfInBounds_toArray, List.set_cons_zero, List.set_cons_succ]
  refine' Reg.G.pure (i := 5) (v := _) rfl (by rfl) (by kernel_rfl) (by kernel_rfl) (by kernel_rfl) (fun _ _ _ h => hP _ _ _ _ _ h) ?hyc16 ?rehyc16
  case hyc16 => exact fun w => by first | (go_simp; done) | (go_simp; with_reducible rfl)
  simp only [Act.put, List.setIfInBounds_toArray, List.set_cons_zero, List.set_cons_succ]
  refine' Reg.G.take (i := 6) (v := _) (F := (fun w => Fr (fun _ => False) X w)) rfl (by rfl) (by kernel_rfl) (by kernel_rfl) (by kernel_rfl) (fun _ _ _ h => hP _ _ _ _ _ h) (HFD.out) ?hyc17 ?rehyc17
  case hyc17 => intro w hw; have kc := HAT.out w hw; clear hw; first | (go_simp; done) | (go_simp; with_reducible rfl)
  simp only [Act.put, List.setIfInBounds_toArray, List.set_cons_zero, List.set_cons_succ]
  refine' Reg.G.pure (i := 7) (v := _) rfl (by rfl) (by kernel_rfl) (by kernel_rfl) (by kernel_rfl) (fun _ _ _ h => hP _ _ _ _ _ h) ?hyc18 ?rehyc18
  case hyc18 => exact fun w => by first | (go_simp; done) | (go_simp; with_reducible rfl)
  simp only [Act.put, List.setIfInBounds_toArray, List.set_cons_zero, List.set_cons_succ]
  refine' Reg.G.pure (i := 8) (v := _) rfl (by rfl) (by kernel_rfl) (by kernel_rfl) (by kernel_rfl) (fun _ _ _ h => hP _ _ _ _ _ h) ?hyc19 ?rehyc19
  case hyc19 => exact fun w => by first | (go_simp; done) | (go_simp; with_reducible rfl)
  simp only [Act.put, List.setIfInBounds_toArray, List.set_cons_zero, List.set_cons_succ]
  refine' Reg.G.pure (i := 10) (v := _) rfl (by rfl) (by kernel_rfl) (by kernel_rfl) (by kernel_rfl) (fun _ _ _ h => hP _ _ _ _ _ h) ?hyc20 ?rehyc20
  case hyc20 => exact fun w => by first | (go_simp; done) | (go_simp; with_reducible rfl)
  simp only [Act.put, List.setIfInBounds_toArray, List.set_cons_zero, List.set_cons_succ]
  refine' Reg.G.take (i := 11) (v := _) (F := (fun w => Fr (fun _ => False) X w)) rfl (by rfl) (by kernel_rfl) (by kernel_rfl) (by kernel_rfl) (fun _ _ _ h => hP _ _ _ _ _ h) (HFD.out) ?hyc21 ?rehyc21
  case hyc21 => intro w hw; have kc : w.cell? ⟨gx, 13, none⟩ = some (.slice (some ⟨g0, o0, none⟩) nl cp) := (cell_of_blk (hw.blk HSB.out (fun h => h)) 13).trans rfl; clear hw; first | (go_simp; done) | (go_simp; with_reducible rfl)
  simp only [Act.put, List.setIfInBounds_toArray, List.set_cons_zero, List.set_cons_succ]
  refine' Reg.G.pure (i := 12) (v := _) rfl (by rfl) (by kernel_rfl) (by kernel_rfl) (by kernel_rfl) (fun _ _ _ h => hP _ _ _ _ _ h) ?hyc22 ?rehyc22
  case hyc22 => exact fun w => by first | (go_simp; done) | (go_simp; with_reducible rfl)
  simp only [Act.put, List.setIfInBounds_toArray, List.set_cons_zero, List.set_cons_succ]
  refine' Reg.G.pure (i := 13) (v := _) rfl (by rfl) (by kernel_rfl) (by kernel_rfl) (by kernel_rfl) (fun _ _ _ h => hP _ _ _ _ _ h) ?hyc23 ?rehyc23
  case hyc23 => exact fun w => by first | (go_simp; done) | (go_simp; with_reducible rfl)
  simp only [Act.put, List.setIfInBounds_toArray, List.set_cons_zero, List.set_cons_succ]
  refine' Reg.G.pure (i := 14) (v := _) rfl (by rfl) (by kernel_rfl) (by kernel_rfl) (by kernel_rfl) (fun _ _ _ h => hP _ _ _ _ _ h) ?hyc24 ?rehyc24
  case hyc24 => exact fun w => by first | (go_simp; done) | (go_simp; with_reducible rfl)
  simp only [Act.put, List.setIfInBounds_toArray, List.set_cons_zero, List.set_cons_succ]
  refine' Reg.G.take (i := 15) (v := _) (F := (fun w => Fr (fun _ => False) X w)) rfl (by rfl) (by kernel_rfl) (by kernel_rfl) (by kernel_rfl) (fun _ _ _ h => hP _ _ _ _ _ h) (HFD.out) ?hyc25 ?rehyc25
  case hyc25 => intro w hw; have kc := HAS.out w hw; clear hw; first | (go_simp; done) | (go_simp; with_reducible rfl)
  simp only [Act.put, List.setIfInBounds_toArray, List.set_cons_zero, List.set_cons_succ]
  refine Reg.G.step (j := 9) (m := [true, true, false, false]) [15, 11, 6, 2] rfl (by kernel_rfl) rfl (by kernel_rfl) (fun K hK => ?_)
  go_simp
  refine (rchange_is y.name f g _).mono ?_
  rintro e y5 ⟨rfl, he⟩
  obtain ⟨z, HZ⟩ : ∃ z, Hid (change f g y.name = z) := ⟨_, rfl⟩
  rw [HZ.out]
  have he := he.symm
  subst he
  refine hK.out _ _ ⟨HFD.out, HFD.out, trivial⟩ ?_
  clear hK K
  simp only [Act.put, List.setIfInBounds_toArray, List.set_cons_zero, List.set_cons_succ, Reg.Kept]
  refine' Reg.G.pure (i := 16) (v := _) rfl (by rfl) (by kernel_rfl) (by kernel_rfl) (by kernel_rfl) (fun _ _ _ h => hP _ _ _ _ _ h) ?hyc26 ?rehyc26
  case hyc26 => exact fun w => by first | (go_simp; done) | (go_simp; with_reducible rfl)
  simp only [Act.put, List.setIfInBounds_toArray, List.set_cons_zero, List.set_cons_succ]
  refine Reg.G.step (j := 17) (m := [false, false]) [15, 11] rfl (by kernel_rfl) rfl (by kernel_rfl) (fun K hK => ?_)
  go_simp
  obtain ⟨y6, hu⟩ : ∃ u, Xd.alloc (.cells #[.string ⟨z.toArray⟩, .int .i64 y.is_] 57) = u := ⟨_, rfl⟩
  rw [hu]
  have HG6 : Hid (Fr (fun _ => False) X y6) := by rw [← hu]; exact HFD.out.alloc _
  have HNA : Hid (∀ j v, [sv z, nv y.is_][j]? = some v → y6.cell? ((⟨Xd.heap.size, 0, none⟩ : Addr).add j) = some v) := by rw [← hu]; exact cells_new Xd [sv z, nv y.is_] _ _ rfl
  clear hu
  refine hK.out _ _ trivial ?_
  clear hK K
  simp only [Act.put, List.setIfInBounds_toArray, List.set_cons_zero, List.set_cons_succ, Reg.Kept]
  refine Reg.G.step (j := 18) (m := []) [] rfl (by kernel_rfl) rfl (by kernel_rfl) (fun K hK => ?_)
  have HOA : Hid (y6.ownsRow bo 57 2 (.slice Ao cs.length co) cs.length (cs.flatMap namedc)) := own_fr hb.own HG6.out (fun _ _ _ e => e)
  refine wp_append_lies y6 (.tmp 118) (.tmp 135) 34 rfl bo 57 j0 _ 2 24 Try.underlying34 hj hj0 hj1 hj2 rfl (by decide) (.slice Ao cs.length co) cs.length _ (by rfl) HOA.out ⟨Xd.heap.size, 0, none⟩ 1 1 [sv z, nv y.is_] (by rfl) rfl HNA.out (by intro v hv; simp only [List.mem_cons, List.not_mem_nil, or_false] at hv; rcases hv with rfl | rfl <;> rfl) (by decide) (by simp only [maxLen]; omega) (by omega) (by have h1 := hb.lo; have h2 := hb.fr.size; have h3 := HG6.out.size; omega) (y6.heap.size) rfl ?_
  intro gn cn y7 g1 g2 g3 _
  have HOW : Hid (y7.ownsRow bo 57 2 (.slice (some ⟨gn, 0, none⟩) (cs.length + 1) cn) (cs ++ [(⟨z, y.is_⟩ : Named)]).length ((cs ++ [(⟨z, y.is_⟩ : Named)]).flatMap namedc)) := by
    have e1 : (cs ++ [(⟨z, y.is_⟩ : Named)]).length = cs.length + 1 := by simp
    have e2 : (cs ++ [(⟨z, y.is_⟩ : Named)]).flatMap namedc = cs.flatMap namedc ++ [sv z, nv y.is_] := by simp [List.flatMap_append, namedc]
    rw [e1, e2]
    exact g1
  have HLO : Hid (∀ k, (Value.slice Ao cs.length co).ownBlock = some k → bo ≤ k) := fun k hk => (own_lt HOA.out k hk).1
  have HGR : Hid (Fr (fun g => bo ≤ g) Wb y7) := (hb.fr.trans' HG6.out (fun _ _ h => h.elim)).grown g2 (fun k hk => .inl (HLO.out k hk))
  have HBD : Hid (Cb bo (cs ++ [(⟨change f g y.name, y.is_⟩ : Named)]) (.slice (some ⟨gn, 0, none⟩) (cs.length + 1) cn) Wb y7) := by rw [HZ.out]; exact ⟨hb.lo, HOW.out, HGR.out⟩
  clear g1 g2 g3
  refine hK.out _ _ trivial ?_
  clear hK K
  simp only [Act.put, List.setIfInBounds_toArray, List.set_cons_zero, List.set_cons_succ, Reg.Kept]
  refine' Reg.G.pure (i := 19) (v := _) rfl (by rfl) (by kernel_rfl) (by kernel_rfl) (by kernel_rfl) (fun _ _ _ h => hP _ _ _ _ _ h) ?hyc27 ?rehyc27
  case hyc27 => exact fun w => by first | (go_simp; done) | (go_simp; with_reducible rfl)
  simp only [Act.put, List.setIfInBounds_toArray, List.set_cons_zero, List.set_cons_succ]
  refine Reg.G.done (by kernel_rfl) ?_
  exact hQ _ _ _ _ _ _ _ _ _ _ _ _ _ _ _ _ _ _ _ _ _ HBD.out
end Go.Proofs.Yticakdajhmfpoaa.Ic
