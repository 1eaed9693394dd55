/-
  The walk of IncludeParameter.
-/
import Derived.Test.YticakdajhmfpoaaIncLaws3
import Derived.Test.YticakdajhmfpoaaIncOcc
import Derived.Test.YticakdajhmfpoaaIncRen
import Derived.Test.YticakdajhmfpoaaIncBld
import Derived.Test.YticakdajhmfpoaaIncHead2
import Derived.Laws.StructEq
namespace Go.Proofs.Yticakdajhmfpoaa
open Go.RowKit Mem Vw Rs Ic
set_option linter.unusedVariables false
set_option linter.unusedSimpArgs false

theorem wf8 {z : Int} (h : (Lit.int .u8 z).wf = true) : 0 ≤ z ∧ z ≤ 255 := by
  have h2 : (decide (IntKind.u8.min ≤ z) && decide (z ≤ IntKind.u8.max)) = true := h
  rw [Bool.and_eq_true, decide_eq_true_eq, decide_eq_true_eq] at h2
  exact h2
theorem wf16 {z : Int} (h : (Lit.int .u16 z).wf = true) : 0 ≤ z ∧ z ≤ 65535 := by
  have h2 : (decide (IntKind.u16.min ≤ z) && decide (z ≤ IntKind.u16.max)) = true := h
  rw [Bool.and_eq_true, decide_eq_true_eq, decide_eq_true_eq] at h2
  exact h2
/-- One element of an own row is replaced. -/
theorem own_set {w : World} {base k : Nat} {e : TypeId} {gn cn : Nat} {l : List DT} {x o : DT} (h : w.ownsRow base e 33 (.slice (some ⟨gn, 0, none⟩) l.length cn) l.length (l.flatMap DT.cells)) (hx : l[k]? = some x) : (w.setCells gn (k * 33) o.cells).ownsRow base e 33 (.slice (some ⟨gn, 0, none⟩) l.length cn) l.length ((l.set k o).flatMap DT.cells) := by
  have hk : k < l.length := (List.getElem?_eq_some_iff.1 hx).1
  have hsp : l = l.take k ++ x :: l.drop (k + 1) := by
    have h1 : x = l[k] := (List.getElem?_eq_some_iff.1 hx).2.symm
    rw [h1, ← List.drop_eq_getElem_cons hk, List.take_append_drop]
  have hset : l.set k o = l.take k ++ o :: l.drop (k + 1) := by
    rw [List.set_eq_take_append_cons_drop, if_pos hk]
  have hfl : ∀ m : List DT, (m.flatMap DT.cells).length = m.length * 33 := by
    intro m
    induction m with
    | nil => rfl
    | cons y m ih => rw [List.flatMap_cons, List.length_append, ih, y.cells_len, List.length_cons]; omega
  have ht : (l.take k).length = k := by rw [List.length_take]; omega
  obtain ⟨h1, h2⟩ := h
  rcases h2 with ⟨h2, _⟩ | ⟨g, cap, cur, h3, h4, h5, h6, h7, h8, h9⟩
  · cases h2
  · injection h3 with h3 _ h3c; injection h3 with h3; injection h3 with h3 _ _
    subst h3 h3c
    have hcur : cur.toList = l.flatMap DT.cells ++ cur.toList.drop (l.length * 33) := by
      have h10 := (List.take_append_drop (l.length * 33) cur.toList).symm
      rw [h9] at h10
      exact h10
    have hc2 : cur = ((l.take k).flatMap DT.cells ++ x.cells ++ ((l.drop (k + 1)).flatMap DT.cells ++ cur.toList.drop (l.length * 33))).toArray := by
      have h10 : l.flatMap DT.cells = (l.take k).flatMap DT.cells ++ x.cells ++ (l.drop (k + 1)).flatMap DT.cells := by
        conv => lhs; rw [hsp]
        rw [List.flatMap_append, List.flatMap_cons, List.append_assoc]
      rw [h10] at hcur
      rw [← List.append_assoc, ← hcur]
    rw [hc2] at h5
    have h10 := blk_cells o.cells (k * 33) w ((l.take k).flatMap DT.cells) x.cells _ h5 (by rw [hfl, ht]) (by rw [x.cells_len, o.cells_len])
    have h11 : (l.set k o).flatMap DT.cells = (l.take k).flatMap DT.cells ++ o.cells ++ (l.drop (k + 1)).flatMap DT.cells := by rw [hset, List.flatMap_append, List.flatMap_cons, List.append_assoc]
    have h12 : ((l.set k o).flatMap DT.cells).length = l.length * 33 := by rw [hfl, List.length_set]
    refine ⟨h12, .inr ⟨gn, cn, _, rfl, h4, h10, h6, h7, ?_, ?_⟩⟩
    · rw [← h8]
      have h13 := congrArg List.length hcur
      simp only [List.length_append, Array.length_toList, List.size_toArray, hfl, x.cells_len, o.cells_len, ht, List.length_drop] at h13 ⊢
      omega
    · have h14 : ((l.take k).flatMap DT.cells ++ o.cells ++ ((l.drop (k + 1)).flatMap DT.cells ++ cur.toList.drop (l.length * 33))).toArray.toList = (l.set k o).flatMap DT.cells ++ cur.toList.drop (l.length * 33) := by rw [h11]; simp
      rw [h14]
      rw [List.take_append_of_le_length (by omega)]
      exact List.take_of_length_le (by omega)
theorem own_there2 {w : World} {base n k : Nat} {e : TypeId} {gn cn : Nat} {xs : List Value} (h : w.ownsRow base e 33 (.slice (some ⟨gn, 0, none⟩) n cn) n xs) (hk : k < n) : w.there gn (k * 33) 33 := by
  obtain ⟨h1, h2⟩ := h
  rcases h2 with ⟨h2, _⟩ | ⟨g, cap, cur, h3, h4, h5, h6, h7, h8, h9⟩
  · cases h2
  · injection h3 with h3 _ _; injection h3 with h3; injection h3 with h3 _ _
    subst h3
    intro j hj
    refine ⟨?_, froz_of_blk h5 _⟩
    rw [cell_of_blk h5, Array.getElem?_eq_getElem (by rw [h8]; have : (k + 1) * 33 ≤ cap * 33 := Nat.mul_le_mul_right _ (by omega); omega)]
    rfl
theorem own_some {w : World} {base n : Nat} {e : TypeId} {A : Option Addr} {c : Nat} {xs : List Value} (h : w.ownsRow base e 33 (.slice A n c) n xs) (hn : 0 < n) : ∃ g, A = some ⟨g, 0, none⟩ := by
  rcases h.2 with ⟨h2, _⟩ | ⟨g, cap, cur, h3, _⟩
  · injection h2 with _ h3 _; omega
  · injection h3 with h3 _ _
    exact ⟨g, h3⟩
theorem sh_tree {x : DT} (h : Sh x) : ∀ {y : DT}, y.tree = x.tree → Sh y := by
  induction h with
  | node x h1 h2 h3 h4 _ ih =>
    intro y e
    have e1 : y.h = x.h := by rw [← DT.tree_h, ← DT.tree_h, e]
    have e2 : y.l.map DT.tree = x.l.map DT.tree := by rw [← DT.tree_l, ← DT.tree_l, e]
    refine .node y (by rw [e1]; exact h1) (by rw [e1]; exact h2) (by rw [e1]; exact h3) (by rw [e1]; exact h4) (fun z hz => ?_)
    have h5 : z.tree ∈ x.l.map DT.tree := by rw [← e2]; exact List.mem_map_of_mem hz
    obtain ⟨u, hu, e3⟩ := List.mem_map.1 h5
    exact ih u hu e3.symm
theorem ren1_h {f g : Rs.Bytes} (y : Tree) : (rename1 f g y).h.names.length = y.h.names.length ∧ (rename1 f g y).h.conds.length = y.h.conds.length ∧ (rename1 f g y).h.dates.length = y.h.dates.length ∧ (rename1 f g y).h.name = y.h.name ∧ (rename1 f g y).l = y.l ∧ ∀ c ∈ (rename1 f g y).h.conds, ∃ d ∈ y.h.conds, c.name = d.name ∨ c.name = change f g d.name := by
  unfold rename1
  dsimp only
  split
  · refine ⟨rfl, by simp [Tree.h], rfl, rfl, rfl, fun c hc => ?_⟩
    obtain ⟨d, hd, rfl⟩ := List.mem_map.1 hc
    exact ⟨d, hd, .inr rfl⟩
  · split
    · exact ⟨by simp [Tree.h], rfl, rfl, rfl, rfl, fun c hc => ⟨c, hc, .inl rfl⟩⟩
    · exact ⟨rfl, rfl, rfl, rfl, rfl, fun c hc => ⟨c, hc, .inl rfl⟩⟩
theorem change_len {f g : Rs.Bytes} {M : Nat} (hg : g.length ≤ M) {n : Rs.Bytes} (hn : n.length ≤ M) : (change f g n).length ≤ M := by
  unfold change
  split <;> assumption
theorem ren_inner {f g : Rs.Bytes} {x z : DT} (e : z.tree = renamed f g x.tree) {y : DT} (hy : y ∈ z.l) : ∃ u ∈ x.l, y.tree = rename1 f g u.tree := by
  have h1 : y.tree ∈ z.tree.l := by rw [DT.tree_l]; exact List.mem_map_of_mem hy
  rw [e] at h1
  have h2 : y.tree ∈ (x.tree.l).map (rename1 f g) := h1
  rw [DT.tree_l, List.map_map] at h2
  obtain ⟨u, hu, e2⟩ := List.mem_map.1 h2
  exact ⟨u, hu, e2.symm⟩
theorem sh_renamed {f g : Rs.Bytes} {x z : DT} (h : Sh x) (e : z.tree = renamed f g x.tree) : Sh z := by
  have e1 : z.h = { x.h with names := x.h.names.map (change f g) } := by rw [← DT.tree_h, e, ← DT.tree_h x]; rfl
  obtain ⟨h1, h2, h3, h4⟩ := h.lens
  refine .node z (by rw [e1]; simpa using h1) (by rw [e1]; exact h2) (by rw [e1]; exact h3) (by rw [e1]; exact h4) (fun y hy => ?_)
  obtain ⟨u, hu, e2⟩ := ren_inner e hy
  have h5 := h.inner u hu
  obtain ⟨q1, q2, q3, q4, q5, _⟩ := ren1_h (f := f) (g := g) u.tree
  rw [← e2, DT.tree_h, DT.tree_h] at q1 q2 q3 q4
  rw [← e2, DT.tree_l, DT.tree_l] at q5
  obtain ⟨g1, g2, g3, g4⟩ := h5.lens
  refine .node y (by omega) (by omega) (by omega) (by rw [q4]; exact g4) (fun w hw => ?_)
  have h6 : w.tree ∈ u.l.map DT.tree := by rw [← q5]; exact List.mem_map_of_mem hw
  obtain ⟨v, hv, e3⟩ := List.mem_map.1 h6
  exact sh_tree (h5.inner v hv) e3.symm
theorem cond_renamed {f g : Rs.Bytes} {x z : DT} (hg : g.length ≤ 140737488355328) (e : z.tree = renamed f g x.tree) (h : ∀ y ∈ x.l, ∀ c ∈ y.h.conds, c.name.length ≤ 140737488355328) : ∀ y ∈ z.l, ∀ c ∈ y.h.conds, c.name.length ≤ 140737488355328 := by
  intro y hy c hc
  obtain ⟨u, hu, e2⟩ := ren_inner e hy
  obtain ⟨_, _, _, _, _, q⟩ := ren1_h (f := f) (g := g) u.tree
  rw [← e2, DT.tree_h, DT.tree_h] at q
  obtain ⟨d, hd, e3 | e3⟩ := q c hc
  · rw [e3]; exact h u hu d hd
  · rw [e3]; exact change_len hg (h u hu d hd)
/-- What the other source's step leaves. -/
def R13 (go bo gn cn k : Nat) (l : List DT) (s2 : Rs.Source) (x : DT) (f g : Rs.Bytes) (Wb X w : World) : Prop := ∃ o : DT, o.tree = renamed f g x.tree ∧ Bld bo go s2 (l.set k o) (.slice (some ⟨gn, 0, none⟩) l.length cn) Wb w ∧ Lay (fun q => q < bo ∧ q ≠ go ∨ X.heap.size ≤ q) w o
set_option maxRecDepth 100000 in
set_option maxHeartbeats 16000000 in
theorem param_r8 {X : World} {gx p0 r0 n cn j : Nat} {x : DT} {p : Int} {f : Rs.Bytes} {u0 u1 u3 u4 u5 u6 u7 u8 u9 u10 u12 u13 u14 u15 u16 u17 u18 u19 u20 u21 u22 u23 u24 u25 u26 u27 u28 u29 u30 u31 u32 u33 u34 u35 u36 u37 u38 u39 u40 u41 u42 u43 u44 u45 u46 u47 u48 u49 u50 u51 u52 u53 u54 u55 u56 u57 u58 u59 u60 u61 u62 u63 u64 u65 u66 u67 u68 u69 u70 u71 u72 u73 u74 u75 u76 u77 u78 u79 u80 u81 u82 u83 u84 u85 u86 u87 u88 u89 u90 u91 u92 u93 u94 u95 u96 u97 u98 u99 u100 u101 u102 u103 u104 u105 u106 u107 u108 u109 u110 u111 u112 u113 u114 u115 u116 u117 u118 : Value} {Q : Exit → Act → World → Prop} {C : Code} (hC : C = Cut.region Try.f6 8) (ht : X.heap[gx]? = some (.cells x.cells.toArray 41 (0, 0))) (hx31 : x.cells.toArray[31]? = some (.slice (some ⟨p0, r0, none⟩) n cn)) (hy : X.cell? ⟨p0, r0 + j, none⟩ = some (.string ⟨f.toArray⟩)) (hp0 : 0 ≤ p) (hp1 : p ≤ 255) (hj : p.tmod (n : Int) = (j : Int)) (hjn : j < n) (hj2 : j ≤ 255) (hP : Cut.Blind Q)
    (hQ : ∀ (v64 v65 v66 v67 v68 v69 v70 v71 v72 v73 : Value) (wx : World), Fr (fun _ => False) X wx → Q .normal ⟨#[u0, u1, .int .u8 p, u3, u4, u5, u6, u7, u8, u9, u10, .pointer (some ⟨gx, 0, none⟩), .string ⟨f.toArray⟩, u13, u14, u15, u16, u17, u18, u19, u20, u21, u22, u23, u24, u25, u26, u27, u28, u29, u30, u31, u32, u33, u34, u35, u36, u37, u38, u39, u40, u41, u42, u43, u44, u45, u46, u47, u48, u49, u50, u51, u52, u53, u54, u55, u56, u57, u58, u59, u60, u61, u62, u63, v64, v65, v66, v67, v68, v69, v70, v71, v72, v73, u74, u75, u76, u77, u78, u79, u80, u81, u82, u83, u84, u85, u86, u87, u88, u89, u90, u91, u92, u93, u94, u95, u96, u97, u98, u99, u100, u101, u102, u103, u104, u105, u106, u107, u108, u109, u110, u111, u112, u113, u114, u115, u116, u117, u118], []⟩ wx) :
    Code.wp Try.prog C Q ⟨#[u0, u1, .int .u8 p, u3, u4, u5, u6, u7, u8, u9, u10, .pointer (some ⟨gx, 0, none⟩), u12, u13, u14, u15, u16, u17, u18, u19, u20, u21, u22, u23, u24, u25, u26, u27, u28, u29, u30, u31, u32, u33, u34, u35, u36, u37, u38, u39, u40, u41, u42, u43, u44, u45, u46, u47, u48, u49, u50, u51, u52, u53, u54, u55, u56, u57, u58, u59, u60, u61, u62, u63, u64, u65, u66, u67, u68, u69, u70, u71, u72, u73, u74, u75, u76, u77, u78, u79, u80, u81, u82, u83, u84, u85, u86, u87, u88, u89, u90, u91, u92, u93, u94, u95, u96, u97, u98, u99, u100, u101, u102, u103, u104, u105, u106, u107, u108, u109, u110, u111, u112, u113, u114, u115, u116, u117, u118], []⟩ X := by
  subst hC
  conv => arg 2; whnf
  refine Reg.G.start (by kernel_rfl) ?_
  obtain ⟨Xd, HXd⟩ : ∃ Y, Hid (X.drew = Y) := ⟨_, rfl⟩
  have HFD : Hid (Fr (fun _ => False) X Xd) := by rw [← HXd.out]; exact (Fr.refl _ X).drew
  have j1 : (0 : Int) ≤ (j : Int) := Int.natCast_nonneg _
  have j2 : (j : Int) < (n : Int) := by omega
  have n0 : (0 : Int) < (n : Int) := by omega
  have n1 : ((n : Int) == 0) = false := beq_eq_false_iff_ne.2 (by omega)
  have n2 : ¬ n = 0 := by omega
  have q1 : IntKind.i64.wrap p = p := Go.IntWalk.i64_in _ (by omega)
  have q2 : IntKind.i64.wrap (j : Int) = (j : Int) := Go.IntWalk.i64_in _ (by omega)
  rw [HXd.out]
  clear HXd
  refine' Reg.G.pure (i := 0) (v := _) rfl (by rfl) (by kernel_rfl) (by kernel_rfl) (by kernel_rfl) (fun _ _ _ h => hP _ _ _ _ _ h) ?hyo8 ?rehyo8
  case hyo8 => exact fun w => by first | (go_simp; done) | (go_simp; with_reducible rfl)
  simp only [Act.put, List.setIfInBounds_toArray, List.set_cons_zero, List.set_cons_succ]
  refine' Reg.G.take (i := 1) (v := _) (F := (fun w => Fr (fun _ => False) X w)) rfl (by rfl) (by kernel_rfl) (by kernel_rfl) (by kernel_rfl) (fun _ _ _ h => hP _ _ _ _ _ h) (HFD.out) ?hyo9 ?rehyo9
  case hyo9 => intro w hw; have kc : w.cell? ⟨gx, 31, none⟩ = some (.slice (some ⟨p0, r0, none⟩) n cn) := (cell_of_blk (hw.blk ht (fun e => e)) 31).trans hx31; clear hw; first | (go_simp; done) | (go_simp; with_reducible rfl)
  simp only [Act.put, List.setIfInBounds_toArray, List.set_cons_zero, List.set_cons_succ]
  refine' Reg.G.pure (i := 2) (v := _) rfl (by rfl) (by kernel_rfl) (by kernel_rfl) (by kernel_rfl) (fun _ _ _ h => hP _ _ _ _ _ h) ?hyo10 ?rehyo10
  case hyo10 => exact fun w => by first | (go_simp; done) | (go_simp; with_reducible rfl)
  simp only [Act.put, List.setIfInBounds_toArray, List.set_cons_zero, List.set_cons_succ]
  refine' Reg.G.pure (i := 3) (v := _) rfl (by rfl) (by kernel_rfl) (by kernel_rfl) (by kernel_rfl) (fun _ _ _ h => hP _ _ _ _ _ h) ?hyo11 ?rehyo11
  case hyo11 => exact fun w => by first | (go_simp; done) | (go_simp; with_reducible rfl)
  simp only [Act.put, List.setIfInBounds_toArray, List.set_cons_zero, List.set_cons_succ]
  refine' Reg.G.pure (i := 4) (v := _) rfl (by rfl) (by kernel_rfl) (by kernel_rfl) (by kernel_rfl) (fun _ _ _ h => hP _ _ _ _ _ h) ?hyo12 ?rehyo12
  case hyo12 => exact fun w => by first | (go_simp; done) | (go_simp; with_reducible rfl)
  simp only [Act.put, List.setIfInBounds_toArray, List.set_cons_zero, List.set_cons_succ]
  refine' Reg.G.take (i := 5) (v := _) (F := (fun w => Fr (fun _ => False) X w)) rfl (by rfl) (by kernel_rfl) (by kernel_rfl) (by kernel_rfl) (fun _ _ _ h => hP _ _ _ _ _ h) (HFD.out) ?hyo13 ?rehyo13
  case hyo13 => intro w hw; have kc : w.cell? ⟨gx, 31, none⟩ = some (.slice (some ⟨p0, r0, none⟩) n cn) := (cell_of_blk (hw.blk ht (fun e => e)) 31).trans hx31; clear hw; first | (go_simp; done) | (go_simp; with_reducible rfl)
  simp only [Act.put, List.setIfInBounds_toArray, List.set_cons_zero, List.set_cons_succ]
  refine' Reg.G.pure (i := 6) (v := _) rfl (by rfl) (by kernel_rfl) (by kernel_rfl) (by kernel_rfl) (fun _ _ _ h => hP _ _ _ _ _ h) ?hyo14 ?rehyo14
  case hyo14 => exact fun w => by first | (go_simp; done) | (go_simp; with_reducible rfl)
  simp only [Act.put, List.setIfInBounds_toArray, List.set_cons_zero, List.set_cons_succ]
  refine' Reg.G.pure (i := 7) (v := _) rfl (by rfl) (by kernel_rfl) (by kernel_rfl) (by kernel_rfl) (fun _ _ _ h => hP _ _ _ _ _ h) ?hyo15 ?rehyo15
  case hyo15 => exact fun w => by first | (go_simp; done) | (go_simp; with_reducible rfl)
  simp only [Act.put, List.setIfInBounds_toArray, List.set_cons_zero, List.set_cons_succ]
  refine' Reg.G.pure (i := 8) (v := _) rfl (by rfl) (by kernel_rfl) (by kernel_rfl) (by kernel_rfl) (fun _ _ _ h => hP _ _ _ _ _ h) ?hyo16 ?rehyo16
  case hyo16 => exact fun w => by first | (go_simp; done) | (go_simp; with_reducible rfl)
  simp only [Act.put, List.setIfInBounds_toArray, List.set_cons_zero, List.set_cons_succ]
  refine' Reg.G.take (i := 9) (v := _) (F := (fun w => Fr (fun _ => False) X w)) rfl (by rfl) (by kernel_rfl) (by kernel_rfl) (by kernel_rfl) (fun _ _ _ h => hP _ _ _ _ _ h) (HFD.out) ?hyo17 ?rehyo17
  case hyo17 => intro w hw; have kc := cell_fr hw hy; clear hw; first | (go_simp; done) | (go_simp; with_reducible rfl)
  simp only [Act.put, List.setIfInBounds_toArray, List.set_cons_zero, List.set_cons_succ]
  refine' Reg.G.pure (i := 10) (v := _) rfl (by rfl) (by kernel_rfl) (by kernel_rfl) (by kernel_rfl) (fun _ _ _ h => hP _ _ _ _ _ h) ?hyo18 ?rehyo18
  case hyo18 => exact fun w => by first | (go_simp; done) | (go_simp; with_reducible rfl)
  simp only [Act.put, List.setIfInBounds_toArray, List.set_cons_zero, List.set_cons_succ]
  refine Reg.G.done (by kernel_rfl) ?_
  exact hQ _ _ _ _ _ _ _ _ _ _ _ HFD.out
set_option maxRecDepth 100000 in
set_option maxHeartbeats 16000000 in
theorem param_r13 {Wb X : World} {bo go gx gn cn k : Nat} {l : List DT} {s2 : Rs.Source} {x : DT} {f g : Rs.Bytes} {u0 u1 u2 u4 u5 u6 u7 u8 u9 u14 u15 u16 u17 u18 u19 u20 u21 u22 u23 u24 u25 u26 u27 u28 u29 u30 u31 u32 u33 u34 u35 u36 u37 u38 u39 u40 u41 u42 u43 u44 u45 u46 u47 u48 u49 u50 u51 u52 u53 u54 u55 u56 u57 u58 u59 u60 u61 u62 u63 u64 u65 u66 u67 u68 u69 u70 u71 u72 u73 u74 u75 u76 u77 u78 u79 u80 u81 u82 u83 u84 u85 u86 u87 u88 u89 u90 u91 u92 u93 u94 u95 u96 u97 u98 u99 u100 u101 u102 u103 u104 u105 u106 u107 u108 u109 u110 u111 u112 u113 u114 u115 u116 u117 u118 : Value} {Q : Exit → Act → World → Prop} {C : Code} (hC : C = Cut.region Try.f6 13) (hb : Bld bo go s2 l (.slice (some ⟨gn, 0, none⟩) l.length cn) Wb X) (ht : X.heap[gx]? = some (.cells x.cells.toArray 41 (0, 0))) (hx : l[k]? = some x) (hlx : Lay (fun q => q < bo ∧ q ≠ go) X x) (hn1 : (x.h.names.length + 1) * 16 ≤ 140737488355328) (hn2 : (x.l.length + 1) * 368 ≤ 140737488355328) (hn3 : ∀ y ∈ x.l, (y.h.conds.length + 1) * 24 ≤ 140737488355328 ∧ (y.h.names.length + 1) * 16 ≤ 140737488355328) (hP : Cut.Blind Q)
    (hQ : ∀ (v90 v91 v92 v93 v94 v95 v96 v97 : Value) (wx : World), R13 go bo gn cn k l s2 x f g Wb X wx → Q .normal ⟨#[u0, u1, u2, .string ⟨g.toArray⟩, u4, u5, u6, u7, u8, u9, .int .i64 ((k : Nat) : Int), .pointer (some ⟨gx, 0, none⟩), .string ⟨f.toArray⟩, .pointer (some ⟨go, 0, none⟩), u14, u15, u16, u17, u18, u19, u20, u21, u22, u23, u24, u25, u26, u27, u28, u29, u30, u31, u32, u33, u34, u35, u36, u37, u38, u39, u40, u41, u42, u43, u44, u45, u46, u47, u48, u49, u50, u51, u52, u53, u54, u55, u56, u57, u58, u59, u60, u61, u62, u63, u64, u65, u66, u67, u68, u69, u70, u71, u72, u73, u74, u75, u76, u77, u78, u79, u80, u81, u82, u83, u84, u85, u86, u87, u88, u89, v90, v91, v92, v93, v94, v95, v96, v97, u98, u99, u100, u101, u102, u103, u104, u105, u106, u107, u108, u109, u110, u111, u112, u113, u114, u115, u116, u117, u118], []⟩ wx) :
    Code.wp Try.prog C Q ⟨#[u0, u1, u2, .string ⟨g.toArray⟩, u4, u5, u6, u7, u8, u9, .int .i64 ((k : Nat) : Int), .pointer (some ⟨gx, 0, none⟩), .string ⟨f.toArray⟩, .pointer (some ⟨go, 0, none⟩), u14, u15, u16, u17, u18, u19, u20, u21, u22, u23, u24, u25, u26, u27, u28, u29, u30, u31, u32, u33, u34, u35, u36, u37, u38, u39, u40, u41, u42, u43, u44, u45, u46, u47, u48, u49, u50, u51, u52, u53, u54, u55, u56, u57, u58, u59, u60, u61, u62, u63, u64, u65, u66, u67, u68, u69, u70, u71, u72, u73, u74, u75, u76, u77, u78, u79, u80, u81, u82, u83, u84, u85, u86, u87, u88, u89, u90, u91, u92, u93, u94, u95, u96, u97, u98, u99, u100, u101, u102, u103, u104, u105, u106, u107, u108, u109, u110, u111, u112, u113, u114, u115, u116, u117, u118], []⟩ X := by
  subst hC
  conv => arg 2; whnf
  refine Reg.G.start (by kernel_rfl) ?_
  obtain ⟨Xd, HXd⟩ : ∃ Y, Hid (X.drew = Y) := ⟨_, rfl⟩
  have HFD : Hid (Fr (fun _ => False) X Xd) := by rw [← HXd.out]; exact (Fr.refl _ X).drew
  have hkl : k < l.length := (List.getElem?_eq_some_iff.1 hx).1
  have i1 : (0 : Int) ≤ (k : Int) := Int.natCast_nonneg _
  have i2 : (k : Int) < (l.length : Int) := by omega
  rw [HXd.out]
  clear HXd
  refine' Reg.G.pure (i := 0) (v := _) rfl (by rfl) (by kernel_rfl) (by kernel_rfl) (by kernel_rfl) (fun _ _ _ h => hP _ _ _ _ _ h) ?hyp1 ?rehyp1
  case hyp1 => exact fun w => by first | (go_simp; done) | (go_simp; with_reducible rfl)
  simp only [Act.put, List.setIfInBounds_toArray, List.set_cons_zero, List.set_cons_succ]
  refine' Reg.G.take (i := 1) (v := _) (F := (fun w => Fr (fun _ => False) X w)) rfl (by rfl) (by kernel_rfl) (by kernel_rfl) (by kernel_rfl) (fun _ _ _ h => hP _ _ _ _ _ h) (HFD.out) ?hyp2 ?rehyp2
  case hyp2 => intro w hw; have kc : w.cell? ⟨go, 5, none⟩ = some (.slice (some ⟨gn, 0, none⟩) l.length cn) := (cell_of_blk (hw.blk hb.blk (fun e => e)) 5).trans rfl; clear hw; first | (go_simp; done) | (go_simp; with_reducible rfl)
  simp only [Act.put, List.setIfInBounds_toArray, List.set_cons_zero, List.set_cons_succ]
  refine' Reg.G.pure (i := 2) (v := _) rfl (by rfl) (by kernel_rfl) (by kernel_rfl) (by kernel_rfl) (fun _ _ _ h => hP _ _ _ _ _ h) ?hyp3 ?rehyp3
  case hyp3 => exact fun w => by first | (go_simp; done) | (go_simp; with_reducible rfl)
  simp only [Act.put, List.setIfInBounds_toArray, List.set_cons_zero, List.set_cons_succ]
  refine' Reg.G.take (i := 3) (v := _) (F := (fun w => Fr (fun _ => False) X w)) rfl (by rfl) (by kernel_rfl) (by kernel_rfl) (by kernel_rfl) (fun _ _ _ h => hP _ _ _ _ _ h) (HFD.out) ?hyp4 ?rehyp4
  case hyp4 => intro w hw; refine run_load_row (P := Try.prog) 41 (.tmp 11) ?_ gx ?_ 41 x.cells.toArray _ (hw.blk ht (fun e => e)) Try.underlying41 rfl (info_it x) <;> rfl
  simp only [Act.put, List.setIfInBounds_toArray, List.set_cons_zero, List.set_cons_succ]
  refine' Reg.G.pure (i := 4) (v := _) rfl (by rfl) (by kernel_rfl) (by kernel_rfl) (by kernel_rfl) (fun _ _ _ h => hP _ _ _ _ _ h) ?hyp5 ?rehyp5
  case hyp5 => exact fun w => by first | (go_simp; done) | (go_simp; with_reducible rfl)
  simp only [Act.put, List.setIfInBounds_toArray, List.set_cons_zero, List.set_cons_succ]
  refine' Reg.G.pure (i := 5) (v := _) rfl (by rfl) (by kernel_rfl) (by kernel_rfl) (by kernel_rfl) (fun _ _ _ h => hP _ _ _ _ _ h) ?hyp6 ?rehyp6
  case hyp6 => exact fun w => by first | (go_simp; done) | (go_simp; with_reducible rfl)
  simp only [Act.put, List.setIfInBounds_toArray, List.set_cons_zero, List.set_cons_succ]
  refine Reg.G.step (j := 6) (m := [false, true]) [3, 1] rfl (by kernel_rfl) rfl (by kernel_rfl) (fun K hK => ?_)
  go_simp
  refine (renamed_any (B := fun q => q < bo ∧ q ≠ go) x f g _ (hlx.fr HFD.out (fun _ _ e => e)) hn1 hn2 hn3).mono ?_
  rintro e y1 ⟨o, rfl, h1, h2, h3⟩
  have HF1 : Hid (Fr (fun _ => False) X y1) := HFD.out.trans h3
  have HTR := Lib.hid h1
  have HLO : Hid (Lay (fun q => q < bo ∧ q ≠ go ∨ X.heap.size ≤ q) y1 o) := h2.mono (fun q _ e => e.imp id (fun e => Nat.le_trans HFD.out.size e))
  clear h1 h2 h3
  refine hK.out _ _ ⟨HF1.out, trivial⟩ ?_
  clear hK K
  simp only [Act.put, List.setIfInBounds_toArray, List.set_cons_zero, List.set_cons_succ, Reg.Kept]
  refine' Reg.G.pure (i := 7) (v := _) rfl (by rfl) (by kernel_rfl) (by kernel_rfl) (by kernel_rfl) (fun _ _ _ h => hP _ _ _ _ _ h) ?hyp7 ?rehyp7
  case hyp7 => exact fun w => by first | (go_simp; done) | (go_simp; with_reducible rfl)
  simp only [Act.put, List.setIfInBounds_toArray, List.set_cons_zero, List.set_cons_succ]
  refine Reg.G.step (j := 8) (m := [false]) [1] rfl (by kernel_rfl) rfl (by kernel_rfl) (fun K hK => ?_)
  have HOW : Hid (y1.ownsRow bo 41 33 (.slice (some ⟨gn, 0, none⟩) l.length cn) l.length (l.flatMap DT.cells)) := own_fr hb.own HF1.out (fun _ _ _ e => e)
  have hth : y1.there gn (k * 33) o.cells.toArray.size := by rw [cells_size]; exact own_there2 HOW.out hkl
  refine wp_store_mid 41 _ _ rfl gn (k * 33) o.cells.toArray rfl rfl hth (info_it o) HLO.out.one ?_
  obtain ⟨y2, hwe⟩ : ∃ w, y1.setCells gn (k * 33) o.cells.toArray.toList = w := ⟨_, rfl⟩
  rw [hwe]
  have HFC : Hid (Fr (fun g => g = gn) y1 y2) := by rw [← hwe]; exact fr_cells (S := fun g => g = gn) (.inl rfl) _ _ _ (Fr.refl _ _)
  have HOS : Hid (y2.ownsRow bo 41 33 (.slice (some ⟨gn, 0, none⟩) l.length cn) l.length ((l.set k o).flatMap DT.cells)) := by rw [← hwe]; exact own_set HOW.out hx
  have HGN : Hid (bo ≤ gn ∧ gn < X.heap.size) := own_lt hb.own gn rfl
  have HGO : Hid (gn ≠ go) := fun e => hb.ne (by rw [e]; rfl)
  have HBD : Hid (Bld bo go s2 (l.set k o) (.slice (some ⟨gn, 0, none⟩) l.length cn) Wb y2) := by
    refine ⟨hb.lo, HFC.out.blk (HF1.out.blk hb.blk (fun e => e)) (fun e => HGO.out e.symm), ?_, hb.ne, (hb.fr.trans' HF1.out (fun _ _ e => e.elim)).trans' HFC.out (fun q _ e => by have e : q = gn := e; have := HGN.out; exact .inr (by omega))⟩
    rw [List.length_set]
    exact HOS.out
  have HLP : Hid (Lay (fun q => q < bo ∧ q ≠ go ∨ X.heap.size ≤ q) y2 o) := HLO.out.fr HFC.out (fun q hq e => by have e : q = gn := e; have := HGN.out; rcases hq with hq | hq <;> omega)
  clear hwe hth
  refine hK.out _ _ trivial ?_
  clear hK K
  simp only [Act.put, List.setIfInBounds_toArray, List.set_cons_zero, List.set_cons_succ, Reg.Kept]
  refine Reg.G.done (by kernel_rfl) ?_
  exact hQ _ _ _ _ _ _ _ _ _ ⟨o, HTR.out, HBD.out, HLP.out⟩
set_option maxRecDepth 100000 in
set_option maxHeartbeats 16000000 in
theorem walk_IncludeParameter (s : Rs.Source) (l : List DT) (si : Value) (a : Int) (ha : (Lit.int .u16 a).wf = true) (p : Int) (hp : (Lit.int .u8 p).wf = true) (na : ByteArray) (hna : na.size ≤ maxLen) (W : World) (hL : LayL All W l si) (hok : ∀ x ∈ l, DOk x) (hlen : l.length * 368 ≤ 140737488351232) :
    Calls Try.prog 6 #[.agg (scells s.name s.frm s.days si).toArray, .int .u16 a, .int .u8 p, .string na] W fun e w' => e = .returned (.bool true) ∧ Below W.heap.size W w' := by
  obtain ⟨nm, hnm⟩ : ∃ l : Rs.Bytes, na = ⟨l.toArray⟩ := ⟨na.data.toList, by simp⟩
  subst hnm
  have hna : nm.length ≤ 9223372036854775807 := hna
  have ha0 : 0 ≤ a ∧ a ≤ 65535 := wf16 ha
  have hp0 : 0 ≤ p ∧ p ≤ 255 := wf8 hp
  clear ha hp
  obtain ⟨A, cp, hsi, _, _⟩ := hL.slice
  subst hsi
  obtain ⟨w0, HW0⟩ : ∃ w0, Hid (W.alloc (.cells (scells s.name s.frm s.days (.slice A l.length cp)).toArray 26) = w0) := ⟨_, rfl⟩
  have HB0 : Hid (w0.heap[W.heap.size]? = some (.cells (scells s.name s.frm s.days (.slice A l.length cp)).toArray 26 (0, 0))) := by rw [← HW0.out]; exact blk_newn rfl
  have HF0 : Hid (Fr (fun _ => False) W w0) := by rw [← HW0.out]; exact (Fr.refl _ W).alloc _
  have HL0 : Hid (LayL All w0 l (.slice A l.length cp)) := hL.fr HF0.out (fun _ _ h => h)
  have HOK := Lib.hid hok; have HLEN := Lib.hid hlen
  clear hL hok hlen
  go_enter Try.func6, Try.ntmps6
  go_upto_region 1 with fail
  rw [HW0.out]
  clear HW0
  go_wp2_with fail
  refine (head_any _).mono ?_
  rintro e w1 ⟨rfl, hf1⟩
  have HF1 : Hid (Fr (fun _ => False) W w1) := HF0.out.trans hf1
  have HB1 : Hid (w1.heap[W.heap.size]? = some (.cells (scells s.name s.frm s.days (.slice A l.length cp)).toArray 26 (0, 0))) := hf1.blk HB0.out (fun h => h)
  have HL1 : Hid (LayL (fun g => g < w1.heap.size) w1 l (.slice A l.length cp)) := (HL0.out.fr hf1 (fun _ _ h => h)).mono (fun g hg _ => hg)
  clear hf1 HB0 HF0 HL0
  have k0 : w1.cell? ⟨W.heap.size, 0, none⟩ = some (.string ⟨s.name.toArray⟩) := (cell_of_blk HB1.out 0).trans rfl
  have k1 : w1.cell? ⟨W.heap.size, 1, none⟩ = some (.int .i64 s.frm.y) := (cell_of_blk HB1.out 1).trans rfl
  have k2 : w1.cell? ⟨W.heap.size, 2, none⟩ = some (.int .i64 s.frm.m) := (cell_of_blk HB1.out 2).trans rfl
  have k3 : w1.cell? ⟨W.heap.size, 3, none⟩ = some (.int .i64 s.frm.d) := (cell_of_blk HB1.out 3).trans rfl
  have k4 : w1.cell? ⟨W.heap.size, 4, none⟩ = some (.int .i64 s.days) := (cell_of_blk HB1.out 4).trans rfl
  have k5 : w1.cell? ⟨W.heap.size, 5, none⟩ = some (.slice A l.length cp) := (cell_of_blk HB1.out 5).trans rfl
  have HSM := Lib.hid (small_any s l _ 200 w1 HL1.out (by omega) (by omega))
  go_wp2_with fail
  refine HSM.out.mono ?_
  rintro e w2 ⟨b, rfl, hb, hf2⟩
  have HSB := Lib.hid hb
  have HF2 : Hid (Fr (fun _ => False) W w2) := HF1.out.trans hf2
  have HB2 : Hid (w2.heap[W.heap.size]? = some (.cells (scells s.name s.frm s.days (.slice A l.length cp)).toArray 26 (0, 0))) := hf2.blk HB1.out (fun h => h)
  have HL2 : Hid (LayL (fun g => g < w2.heap.size) w2 l (.slice A l.length cp)) := (HL1.out.fr hf2 (fun _ _ h => h)).mono (fun g hg _ => hg)
  clear hb hf2 HSM HB1 HL1 k0 k1 k2 k3 k4 k5
  cases b with
  | false =>
    go_wp2_with fail
    go_ret
    exact ⟨rfl, HF2.out.below (Nat.le_refl _) (fun _ h => h.elim)⟩
  | true =>
  have HSH : Hid (∀ x ∈ l, Sh x) := (HSB.out rfl).1
  have HCD : Hid (∀ z ∈ l, z.h.kind = 13 → ∀ y ∈ z.l, ∀ c ∈ y.h.conds, c.name.length ≤ 140737488355328) := fun z hz _ y hy c hc => ((HOK.out z hz).inner y hy).cond c hc
  have k0 : w2.cell? ⟨W.heap.size, 0, none⟩ = some (.string ⟨s.name.toArray⟩) := (cell_of_blk HB2.out 0).trans rfl
  have k1 : w2.cell? ⟨W.heap.size, 1, none⟩ = some (.int .i64 s.frm.y) := (cell_of_blk HB2.out 1).trans rfl
  have k2 : w2.cell? ⟨W.heap.size, 2, none⟩ = some (.int .i64 s.frm.m) := (cell_of_blk HB2.out 2).trans rfl
  have k3 : w2.cell? ⟨W.heap.size, 3, none⟩ = some (.int .i64 s.frm.d) := (cell_of_blk HB2.out 3).trans rfl
  have k4 : w2.cell? ⟨W.heap.size, 4, none⟩ = some (.int .i64 s.days) := (cell_of_blk HB2.out 4).trans rfl
  have k5 : w2.cell? ⟨W.heap.size, 5, none⟩ = some (.slice A l.length cp) := (cell_of_blk HB2.out 5).trans rfl
  by_cases hl0 : l = []
  · subst hl0
    go_wp2_with fail
    go_ret
    exact ⟨rfl, HF2.out.below (Nat.le_refl _) (fun _ h => h.elim)⟩
  have hlp : 0 < l.length := List.length_pos_iff.2 hl0
  have i0 : (0 : Int) < (l.length : Int) := by omega
  have e0 : ((l.length : Int) == 0) = false := beq_eq_false_iff_ne.2 (by omega)
  by_cases hn1 : 100 < nm.length
  · have i1 : (100 : Int) < (nm.length : Int) := by omega
    go_wp2_with fail
    go_ret
    exact ⟨rfl, HF2.out.below (Nat.le_refl _) (fun _ h => h.elim)⟩
  have i1 : ¬ (100 : Int) < (nm.length : Int) := by omega
  have i1b : decide ((100 : Int) < (nm.length : Int)) = false := decide_eq_false i1
  by_cases hn2 : nm = []
  · subst hn2
    go_wp2_with fail
    go_ret
    exact ⟨rfl, HF2.out.below (Nat.le_refl _) (fun _ h => h.elim)⟩
  have i2 : (nm == []) = false := by simpa using hn2
  go_upto_region 4 with fail
  obtain ⟨k, hk⟩ : ∃ k : Nat, a.tmod (l.length : Int) = (k : Int) := ⟨(a.tmod (l.length : Int)).toNat, by rw [Int.toNat_of_nonneg (Int.tmod_nonneg _ ha0.1)]⟩
  have hkl : k < l.length := by have := Int.tmod_lt_of_pos a i0; omega
  have j1 : (0 : Int) ≤ (k : Int) := Int.natCast_nonneg _
  have j2 : (k : Int) < (l.length : Int) := by omega
  have j3 : IntKind.i64.wrap (k : Int) = (k : Int) := Go.IntWalk.i64_in _ (by have := HLEN.out; omega)
  have j4 : IntKind.i64.wrap a = a := Go.IntWalk.i64_in _ (by omega)
  obtain ⟨x, hx⟩ : ∃ x, l[k]? = some x := ⟨_, List.getElem?_eq_getElem hkl⟩
  obtain ⟨g, o, hA, hg, _, hat⟩ := HL2.out.at hx
  subst hA
  have HAT := Lib.hid hat
  have HX := Lib.hid hx
  have HKL := Lib.hid hkl
  have HLX : Hid (Lay (fun g => g < w2.heap.size) w2 x) := HL2.out.lay x (List.mem_of_getElem? hx)
  have HNN := Lib.hid hn2
  clear hat hg hx hkl hn2
  go_upto_region 5 with fail
  clear hk
  iterate 13 go_step
  refine wpList_load_mid rfl 41 _ rfl g (o + k * 33) rfl x.cells _ HAT.out Try.underlying41 rfl (info_itl x) ?_
  simp only [Act.put, List.setIfInBounds_toArray, List.set_cons_zero, List.set_cons_succ]
  iterate 3 go_step
  refine wpList_store_row rfl 41 _ _ rfl w2.heap.size x.cells.toArray rfl rfl 41 _ (blk_newn rfl) (info_it x) (cells_size x).symm HLX.out.one ?_
  simp only [Act.put, List.setIfInBounds_toArray, List.set_cons_zero, List.set_cons_succ]
  rw [World.setRow_alloc_new]
  obtain ⟨w3, hu⟩ : ∃ u, w2.alloc (.cells x.cells.toArray 41) = u := ⟨_, rfl⟩
  rw [hu]
  obtain ⟨gx, hgx⟩ : ∃ q, w2.heap.size = q := ⟨_, rfl⟩
  rw [hgx]
  have HXB3 : Hid (w3.heap[gx]? = some (.cells x.cells.toArray 41 (0, 0))) := by rw [← hu, ← hgx]; exact blk_newn rfl
  have HFe3 : Hid (Fr (fun _ => False) w2 w3) := by rw [← hu]; exact (Fr.refl _ w2).alloc _
  have HF3 : Hid (Fr (fun _ => False) W w3) := HF2.out.trans HFe3.out
  have HB3 : Hid (w3.heap[W.heap.size]? = some (.cells (scells s.name s.frm s.days (.slice (some ⟨g, o, none⟩) l.length cp)).toArray 26 (0, 0))) := HFe3.out.blk HB2.out (fun h => h)
  have HGX : Hid (W.heap.size < gx ∧ gx < w3.heap.size) := ⟨by rw [← hgx]; exact lt_of_blk HB2.out, lt_of_blk HXB3.out⟩
  have HL3 : Hid (LayL (fun q => q < gx) w3 l (.slice (some ⟨g, o, none⟩) l.length cp)) := by rw [← hgx]; exact HL2.out.fr HFe3.out (fun _ _ h => h)
  have HLX3 : Hid (Lay (fun q => q < gx) w3 x) := by rw [← hgx]; exact HLX.out.fr HFe3.out (fun _ _ h => h)
  clear hu hgx k0 k1 k2 k3 k4 k5 HB2 HL2 HLX HAT HFe3
  have c0 : w3.cell? ⟨gx, 0, none⟩ = some (.int .i64 x.h.kind) := by rw [cell_of_blk HXB3.out, DT.cells_eq]; rfl
  obtain ⟨An, cn, hxn, _, _⟩ := HLX3.out.names.slice
  rw [List.length_map] at hxn
  have c31 : w3.cell? ⟨gx, 31, none⟩ = some (.slice An x.h.names.length cn) := by rw [cell_of_blk HXB3.out, DT.cells_eq, hxn]; rfl
  have HXN := Lib.hid hxn
  clear hxn
  by_cases hk13 : x.h.kind = 13
  case neg =>
    have q13 : (x.h.kind != 13) = true := by simpa using hk13
    have q13b : (x.h.kind == 13) = false := by simpa using hk13
    go_wp2_with fail
    go_ret
    exact ⟨rfl, HF3.out.below (Nat.le_refl _) (fun _ h => h.elim)⟩
  have HK13 := Lib.hid hk13
  rw [hk13] at c0
  clear hk13
  by_cases hnn : x.h.names = []
  · rw [hnn] at c31
    have c31 : w3.cell? ⟨gx, 31, none⟩ = some (.slice An 0 cn) := c31
    clear hnn
    go_wp2_with fail
    go_ret
    exact ⟨rfl, HF3.out.below (Nat.le_refl _) (fun _ h => h.elim)⟩
  have hnp : 0 < x.h.names.length := List.length_pos_iff.2 hnn
  have n0 : (0 : Int) < (x.h.names.length : Int) := by omega
  have n1 : ((x.h.names.length : Int) == 0) = false := beq_eq_false_iff_ne.2 (by omega)
  clear hnn
  have HOC := Lib.hid (occ_any x nm w3 (HLX3.out) HNN.out (fun y hy c hc => by have := ((HOK.out x (List.mem_of_getElem? HX.out)).inner y hy).cond c hc; unfold maxLen; omega))
  iterate 32 go_step
  refine wpList_load_row_g (op := ⟨some 59, _, _, _, _, _⟩) ?hwl 41 _ rfl gx rfl x.cells _ _ HXB3.out Try.underlying41 rfl (info_itl x) ?_
  case hwl => rfl
  simp only [Act.put, List.setIfInBounds_toArray, List.set_cons_zero, List.set_cons_succ]
  go_wp2_with fail
  refine HOC.out.mono ?_
  rintro e w4 ⟨b, rfl, hf4, hfree⟩
  have HF4 : Hid (Fr (fun _ => False) W w4) := HF3.out.trans hf4
  have HFe4 := Lib.hid hf4
  have HFR := Lib.hid hfree
  clear HOC c0 c31 hf4 hfree
  cases b with
  | true =>
    go_wp2_with fail
    go_ret
    exact ⟨rfl, HF4.out.below (Nat.le_refl _) (fun _ h => h.elim)⟩
  | false =>
  have HFREE : Hid (Free nm x.tree) := HFR.out rfl
  have HB4 : Hid (w4.heap[W.heap.size]? = some (.cells (scells s.name s.frm s.days (.slice (some ⟨g, o, none⟩) l.length cp)).toArray 26 (0, 0))) := HFe4.out.blk HB3.out (fun h => h)
  have HXB4 : Hid (w4.heap[gx]? = some (.cells x.cells.toArray 41 (0, 0))) := HFe4.out.blk HXB3.out (fun h => h)
  have HL4 : Hid (LayL (fun q => q < gx) w4 l (.slice (some ⟨g, o, none⟩) l.length cp)) := HL3.out.fr HFe4.out (fun _ _ h => h)
  have HLX4 : Hid (Lay (fun q => q < gx) w4 x) := HLX3.out.fr HFe4.out (fun _ _ h => h)
  have HGX4 : Hid (gx < w4.heap.size) := lt_of_blk HXB4.out
  clear HB3 HXB3 HL3 HLX3 HFR HFe4
  obtain ⟨j, hj⟩ : ∃ j : Nat, p.tmod (x.h.names.length : Int) = (j : Int) := ⟨(p.tmod (x.h.names.length : Int)).toNat, by rw [Int.toNat_of_nonneg (Int.tmod_nonneg _ hp0.1)]⟩
  have hjn : j < x.h.names.length := by have := Int.tmod_lt_of_pos p n0; omega
  have hj2 : j ≤ 255 := by have := (HSH.out x (List.mem_of_getElem? HX.out)).lens.1; omega
  obtain ⟨f, hf⟩ : ∃ f, x.h.names[j]? = some f := ⟨_, List.getElem?_eq_getElem hjn⟩
  have HFM : Hid (f ∈ x.h.names) := List.mem_of_getElem? hf
  have hxr := HLX4.out.names
  rw [HXN.out] at hxr
  obtain ⟨p0, r0, hAn, _, _, hpa⟩ := hxr.at (k := j) (x := [sv f]) (by rw [List.getElem?_map, hf]; rfl)
  subst hAn
  have hca : w4.cell? ⟨p0, r0 + j, none⟩ = some (.string ⟨f.toArray⟩) := by have := hpa 0 _ rfl; rw [Nat.mul_one] at this; exact this
  go_upto_region 8 with fail
  refine param_r8 (by kernel_rfl) HXB4.out (by rw [DT.cells_eq, HXN.out]; rfl) hca hp0.1 hp0.2 hj hjn hj2 (fun _ _ _ _ _ h => h) ?_
  intro v64 v65 v66 v67 v68 v69 v70 v71 v72 v73 w5 hf5
  have HFe5 := Lib.hid hf5
  clear hf5 hj hjn hj2 hf hxr hpa hca
  have HF5 : Hid (Fr (fun _ => False) W w5) := HF4.out.trans HFe5.out
  have HB5 : Hid (w5.heap[W.heap.size]? = some (.cells (scells s.name s.frm s.days (.slice (some ⟨g, o, none⟩) l.length cp)).toArray 26 (0, 0))) := HFe5.out.blk HB4.out (fun h => h)
  have HXB5 : Hid (w5.heap[gx]? = some (.cells x.cells.toArray 41 (0, 0))) := HFe5.out.blk HXB4.out (fun h => h)
  have HL5 : Hid (LayL (fun q => q < gx) w5 l (.slice (some ⟨g, o, none⟩) l.length cp)) := HL4.out.fr HFe5.out (fun _ _ h => h)
  have HLX5 : Hid (Lay (fun q => q < gx) w5 x) := HLX4.out.fr HFe5.out (fun _ _ h => h)
  have HGX5 : Hid (W.heap.size < gx ∧ gx < w5.heap.size) := ⟨HGX.out.1, lt_of_blk HXB5.out⟩
  clear HB4 HXB4 HL4 HLX4 HFe5 HGX HGX4 HF4
  by_cases hfe : f = []
  · subst hfe
    go_wp2_with fail
    go_ret
    exact ⟨rfl, HF5.out.below (Nat.le_refl _) (fun _ h => h.elim)⟩
  have q9 : (f == []) = false := by simpa using hfe
  have HFE := Lib.hid hfe
  clear hfe
  have k0 : w5.cell? ⟨W.heap.size, 0, none⟩ = some (.string ⟨s.name.toArray⟩) := (cell_of_blk HB5.out 0).trans rfl
  have k1 : w5.cell? ⟨W.heap.size, 1, none⟩ = some (.int .i64 s.frm.y) := (cell_of_blk HB5.out 1).trans rfl
  have k2 : w5.cell? ⟨W.heap.size, 2, none⟩ = some (.int .i64 s.frm.m) := (cell_of_blk HB5.out 2).trans rfl
  have k3 : w5.cell? ⟨W.heap.size, 3, none⟩ = some (.int .i64 s.frm.d) := (cell_of_blk HB5.out 3).trans rfl
  have k4 : w5.cell? ⟨W.heap.size, 4, none⟩ = some (.int .i64 s.days) := (cell_of_blk HB5.out 4).trans rfl
  have k5 : w5.cell? ⟨W.heap.size, 5, none⟩ = some (.slice (some ⟨g, o, none⟩) l.length cp) := (cell_of_blk HB5.out 5).trans rfl
  go_upto_region 11 with fail
  iterate 25 go_step
  refine wpList_store_row rfl 26 _ _ rfl w5.heap.size (scells s.name s.frm s.days (.slice none 0 0)).toArray rfl rfl 26 _ (blk_newn rfl) (info_src _ _ _ _) rfl (one_src _ _ _ _ _ _) ?_
  simp only [Act.put, List.setIfInBounds_toArray, List.set_cons_zero, List.set_cons_succ]
  rw [World.setRow_alloc_new]
  obtain ⟨w6, hn⟩ : ∃ u, w5.alloc (.cells (scells s.name s.frm s.days (.slice none 0 0)).toArray 26) = u := ⟨_, rfl⟩
  rw [hn]
  obtain ⟨go, hgo⟩ : ∃ g, w5.heap.size = g := ⟨_, rfl⟩
  rw [hgo]
  have HFe6 : Hid (Fr (fun _ => False) w5 w6) := by rw [← hn]; exact (Fr.refl _ w5).alloc _
  have HBG : Hid (w6.heap[go]? = some (.cells (scells s.name s.frm s.days (.slice none 0 0)).toArray 26 (0, 0))) := by rw [← hn, ← hgo]; exact blk_newn rfl
  have HSZ6 : Hid (W.heap.size < gx ∧ gx < go ∧ w6.heap.size = go + 1) := by
    refine ⟨HGX5.out.1, by rw [← hgo]; exact HGX5.out.2, ?_⟩
    rw [← hn, ← hgo]; simp
  clear hn hgo k0 k1 k2 k3 k4 k5 q9
  have HS6 : Hid (w6.heap[W.heap.size]? = some (.cells (scells s.name s.frm s.days (.slice (some ⟨g, o, none⟩) l.length cp)).toArray 26 (0, 0))) := HFe6.out.blk HB5.out (fun h => h)
  have HX6 : Hid (w6.heap[gx]? = some (.cells x.cells.toArray 41 (0, 0))) := HFe6.out.blk HXB5.out (fun h => h)
  have HL6 : Hid (LayL (fun q => q < gx) w6 l (.slice (some ⟨g, o, none⟩) l.length cp)) := HL5.out.fr HFe6.out (fun _ _ h => h)
  have HLX6 : Hid (Lay (fun q => q < gx) w6 x) := HLX5.out.fr HFe6.out (fun _ _ h => h)
  have HF6 : Hid (Fr (fun _ => False) W w6) := HF5.out.trans HFe6.out
  clear HB5 HXB5 HL5 HLX5 HFe6 HF5 HGX5
  have k5 : w6.cell? ⟨W.heap.size, 5, none⟩ = some (.slice (some ⟨g, o, none⟩) l.length cp) := (cell_of_blk HS6.out 5).trans rfl
  have g5 : w6.cell? ⟨go, 5, none⟩ = some (.slice none 0 0) := (cell_of_blk HBG.out 5).trans rfl
  obtain ⟨j0, hj, hj0, hj1, hj2⟩ := info_parts cinfo_item
  have HRW : Hid (Row w6 (.slice (some ⟨g, o, none⟩) l.length cp) 33 (l.map DT.cells)) := HL6.out.row.1
  go_upto_region 12 with fail
  iterate 13 go_step
  refine wpList_append_row rfl (.tmp 85) (.tmp 87) 24 rfl (go + 1) 41 j0 _ 33 368 Try.underlying24 hj hj0 hj1 hj2 rfl (by decide) (.slice none 0 0) 0 [] (by rfl) (World.ownsRow_nil _ _ _ _) (.slice (some ⟨g, o, none⟩) l.length cp) (by rfl) DT.cells l HRW.out (fun y _ => y.cells_len) (fun y hy => one_all (HL6.out.lay y hy).one) (by have := HLEN.out; simp only [maxLen]; omega) (by have := HLEN.out; omega) (by have := HSZ6.out; omega) ?_
  intro v1 w7 g1 g2 g3
  rw [Nat.zero_add, List.nil_append] at g1
  obtain ⟨A1, c1, hv1⟩ := own_form g1
  subst hv1
  obtain ⟨gn, hA1⟩ := own_some g1 hlp
  subst hA1
  have HOW := Lib.hid g1
  have HFe7 : Hid (Fr (fun _ => False) w6 w7) := (Fr.of_grown g2).mono (fun q _ h => by simp [Value.ownBlock] at h)
  have HGN : Hid (go + 1 ≤ gn) := (own_lt g1 gn rfl).1
  have HBG7 : Hid (w7.heap[go]? = some (.cells (scells s.name s.frm s.days (.slice none 0 0)).toArray 26 (0, 0))) := HFe7.out.blk HBG.out (fun h => h)
  clear g1 g2 g3 k5 g5 hj hj0 hj1 hj2 HRW
  have ko : w7.cell? ⟨go, 5, none⟩ = some (.slice none 0 0) := (cell_of_blk HBG7.out 5).trans rfl
  have fo : w7.frozen? ⟨go, 5, none⟩ = false := froz_of_blk HBG7.out 5
  go_upto_region 13 with fail
  obtain ⟨w8, hu⟩ : ∃ u, w7.setCell ⟨go, 5, none⟩ (.slice (some ⟨gn, 0, none⟩) l.length c1) = u := ⟨_, rfl⟩
  rw [hu]
  have HFL : Hid (Fr (fun q => q = go) w7 w8) := by rw [← hu]; exact (Fr.refl (fun q => q = go) w7).setb 5 _
  have HBK : Hid (w8.heap[go]? = some (.cells (scells s.name s.frm s.days (.slice (some ⟨gn, 0, none⟩) l.length c1)).toArray 26 (0, 0))) := by rw [← hu]; exact blk_set HBG7.out 5 _
  have HFB8 : Hid (Fr (fun q => q = go ∨ go + 1 ≤ q) w6 w8) := (HFe7.out.mono (fun _ _ e => e.elim)).trans (HFL.out.mono (T := fun q => q = go ∨ go + 1 ≤ q) (fun q _ e => .inl e))
  have HNG : Hid (∀ q, (Value.slice (some ⟨gn, 0, none⟩) l.length c1).ownBlock = some q → q = gn) := fun q hq => by
    have h2 : gn = q := by simpa [Value.ownBlock] using hq
    exact h2.symm
  have HOW8 : Hid (w8.ownsRow (go + 1) 41 33 (.slice (some ⟨gn, 0, none⟩) l.length c1) l.length (l.flatMap DT.cells)) := own_frb HOW.out HFL.out (fun q hq e => by have e : q = go := e; have h1 := HGN.out; have h2 := HNG.out q hq; omega)
  have HBM : Hid (Bld (go + 1) go s l (.slice (some ⟨gn, 0, none⟩) l.length c1) w6 w8) := ⟨by have := HSZ6.out; omega, HBK.out, HOW8.out, fun e => by have h1 := HGN.out; have h2 := HNG.out go e; omega, HFB8.out⟩
  clear hu ko fo HFe7 HBG7 HOW HBG HFL
  have HS8 : Hid (w8.heap[W.heap.size]? = some (.cells (scells s.name s.frm s.days (.slice (some ⟨g, o, none⟩) l.length cp)).toArray 26 (0, 0))) := HFB8.out.blk HS6.out (fun e => by have := HSZ6.out; omega)
  have HX8 : Hid (w8.heap[gx]? = some (.cells x.cells.toArray 41 (0, 0))) := HFB8.out.blk HX6.out (fun e => by have := HSZ6.out; omega)
  have HL8 : Hid (LayL (fun q => q < gx) w8 l (.slice (some ⟨g, o, none⟩) l.length cp)) := HL6.out.fr HFB8.out (fun q hq e => by have := HSZ6.out; omega)
  have HLX8 : Hid (Lay (fun q => q < gx) w8 x) := HLX6.out.fr HFB8.out (fun q hq e => by have := HSZ6.out; omega)
  have HF8 : Hid (Fr (fun _ => False) W w8) := HF6.out.trans' HFB8.out (fun q hq e => by have := HSZ6.out; omega)
  have HZ8 : Hid (W.heap.size < gx ∧ gx < go ∧ go < w8.heap.size) := ⟨HSZ6.out.1, HSZ6.out.2.1, lt_of_blk HBK.out⟩
  clear HX6 HLX6 HFB8 HS8 HL8 HF8
  have HSX : Hid (Sh x) := HSH.out x (List.mem_of_getElem? HX.out)
  have HDX : Hid (DOk x) := HOK.out x (List.mem_of_getElem? HX.out)
  refine param_r13 (by kernel_rfl) HBM.out HX8.out HX.out (HLX8.out.mono (fun q _ hq => by have hq : q < gx := hq; have := HZ8.out; exact ⟨by omega, by omega⟩)) (by have := HSX.out.lens.1; omega) (by have := HDX.out.len; omega) (fun y hy => by have h1 := (HSX.out.inner y hy).lens; exact ⟨by omega, by omega⟩) (fun _ _ _ _ _ h => h) ?_
  intro v90 v91 v92 v93 v94 v95 v96 v97 w9 hr
  obtain ⟨z, hzt, hzb, hzl⟩ := hr
  have HZT := Lib.hid hzt
  have HZL := Lib.hid hzl
  have HBZ := Lib.hid hzb
  clear hzt hzb hzl HBM
  have HBW : Hid (∀ q, (q = go ∨ go + 1 ≤ q) → ¬ q < gx ∧ q ≠ W.heap.size ∧ ¬ q < W.heap.size) := fun q e => by have h1 := HSZ6.out; omega
  have HS9 : Hid (w9.heap[W.heap.size]? = some (.cells (scells s.name s.frm s.days (.slice (some ⟨g, o, none⟩) l.length cp)).toArray 26 (0, 0))) := HBZ.out.fr.blk HS6.out (fun e => (HBW.out _ e).2.1 rfl)
  have HL9 : Hid (LayL (fun q => q < gx) w9 l (.slice (some ⟨g, o, none⟩) l.length cp)) := HL6.out.fr HBZ.out.fr (fun q hq e => (HBW.out _ e).1 hq)
  have HF9 : Hid (Fr (fun _ => False) W w9) := HF6.out.trans' HBZ.out.fr (fun q hq e => (HBW.out _ e).2.2 hq)
  have HG9 : Hid (w9.heap[go]? = some (.cells (scells s.name s.frm s.days (.slice (some ⟨gn, 0, none⟩) l.length c1)).toArray 26 (0, 0))) := HBZ.out.blk
  have HLM9 : Hid (LayL (fun q => q < w9.heap.size) w9 l (.slice (some ⟨g, o, none⟩) l.length cp)) := HL9.out.mono (fun q hq _ => hq)
  obtain ⟨ls, hls⟩ : ∃ m, l.set k z = m := ⟨_, rfl⟩
  have hll : l.length = ls.length := by rw [← hls, List.length_set]
  rw [hls] at HBZ
  have HLS := Lib.hid hls
  have HMEM : Hid (∀ y ∈ ls, y = z ∨ y ∈ l) := fun y hy => by
    rw [← HLS.out] at hy
    exact (List.mem_or_eq_of_mem_set hy).symm
  rw [hll] at HBZ HG9
  have HLL := Lib.hid hll
  clear hls hll
  have HLO9 : Hid (LayL (fun q => q < w9.heap.size) w9 ls (.slice (some ⟨gn, 0, none⟩) ls.length c1)) := by
    refine ⟨⟨Row.of_own HBZ.out.own (fun x _ => x.cells_len), fun q o n c e hne => ?_⟩, fun y hy => ?_⟩
    · exact (own_lt HBZ.out.own q (by rw [e]; exact own_zero HBZ.out.own e)).2
    · rcases HMEM.out y hy with rfl | hy
      · exact HZL.out.mono (fun q hq _ => hq)
      · exact (HL9.out.lay y hy).mono (fun q hq _ => hq)
  have HTZ : Hid (ls.map DT.tree = (l.map DT.tree).set k (renamed f nm x.tree)) := by show _ = _; rw [← HLS.out, List.map_set, HZT.out]
  have HSZL : Hid (∀ y ∈ ls, Sh y) := fun y hy => by
    rcases HMEM.out y hy with rfl | hy
    · exact sh_renamed HSX.out HZT.out
    · exact HSH.out y hy
  have HCDL : Hid (∀ z ∈ ls, z.h.kind = 13 → ∀ y ∈ z.l, ∀ c ∈ y.h.conds, c.name.length ≤ 140737488355328) := fun y hy hk => by
    rcases HMEM.out y hy with rfl | hy
    · exact cond_renamed (by omega) HZT.out (HCD.out x (List.mem_of_getElem? HX.out) HK13.out)
    · exact HCD.out y hy hk
  have HLAW : Hid (expand (srcT s ls) = expand (srcT s l)) := by
    have h := law_parameter (srcT s l) (k := k) (t := x.tree) (f := f) (g := nm) (by show (l.map DT.tree)[k]? = _; rw [List.getElem?_map, HX.out]; rfl) (by rw [DT.tree_h]; exact HK13.out) HFE.out HNN.out (by rw [DT.tree_h]; exact HFM.out) HFREE.out
    have h2 : srcT s ls = ⟨s.name, s.frm, s.days, (l.map DT.tree).set k (renamed f nm x.tree)⟩ := by unfold srcT; rw [HTZ.out]
    show expand (srcT s ls) = _
    rw [h2]
    exact h
  clear HBZ HZL HZT HTZ HS6 HL6 HF6 HL9 HX8 HLX8 HSX HDX HFREE HFE HFM HNN HMEM HLS HBW
  have k0 : w9.cell? ⟨W.heap.size, 0, none⟩ = some (.string ⟨s.name.toArray⟩) := (cell_of_blk HS9.out 0).trans rfl
  have k1 : w9.cell? ⟨W.heap.size, 1, none⟩ = some (.int .i64 s.frm.y) := (cell_of_blk HS9.out 1).trans rfl
  have k2 : w9.cell? ⟨W.heap.size, 2, none⟩ = some (.int .i64 s.frm.m) := (cell_of_blk HS9.out 2).trans rfl
  have k3 : w9.cell? ⟨W.heap.size, 3, none⟩ = some (.int .i64 s.frm.d) := (cell_of_blk HS9.out 3).trans rfl
  have k4 : w9.cell? ⟨W.heap.size, 4, none⟩ = some (.int .i64 s.days) := (cell_of_blk HS9.out 4).trans rfl
  have k5 : w9.cell? ⟨W.heap.size, 5, none⟩ = some (.slice (some ⟨g, o, none⟩) l.length cp) := (cell_of_blk HS9.out 5).trans rfl
  have HEX := Lib.hid (expand_any s l _ w9 HLM9.out HSH.out HCD.out)
  unfold ExpR at HEX
  obtain ⟨r1, hr1⟩ : ∃ r, (expand (srcT s l)).1 = r := ⟨_, rfl⟩
  obtain ⟨r2, hr2⟩ : ∃ r, (expand (srcT s l)).2 = r := ⟨_, rfl⟩
  have HRr1 := Lib.hid hr1; have HRr2 := Lib.hid hr2
  rw [hr1, hr2] at HEX
  clear hr1 hr2
  go_wp2_with fail
  refine HEX.out.mono ?_
  rintro e w10 ⟨iv, fv, ds, rfl, h1, h2, h3, h4⟩
  obtain ⟨Ads, cds, hiv, _, _⟩ := h2.slice
  subst hiv
  obtain ⟨Ar2, cr2, hfv, _, _⟩ := h3.slice
  rw [List.length_map] at hfv
  subst hfv
  have HDds := Lib.hid h1
  have HFew10 : Hid (Fr (fun _ => False) w9 w10) := h4
  have HFw10 : Hid (Fr (fun _ => False) W w10) := HF9.out.trans h4
  have HLds : Hid (LayL All w10 ds (.slice Ads ds.length cds)) := h2.mono (fun _ _ _ => trivial)
  have HTr2 : Hid (RowB All w10 (.slice Ar2 r2.length cr2) 2 (r2.map faultc)) := h3.mono (fun _ _ _ => trivial)
  clear h1 h2 h3 h4 HEX
  dsimp only
  iterate 13 go_step
  refine wpList_store_row rfl 26 _ _ rfl w10.heap.size (scells r1.name r1.frm r1.days (.slice Ads ds.length cds)).toArray rfl rfl 26 _ (blk_newn rfl) (info_src _ _ _ _) rfl (one_src _ _ _ _ _ _) ?_
  simp only [Act.put, List.setIfInBounds_toArray, List.set_cons_zero, List.set_cons_succ]
  rw [World.setRow_alloc_new]
  obtain ⟨w11, hn⟩ : ∃ u, w10.alloc (.cells (scells r1.name r1.frm r1.days (.slice Ads ds.length cds)).toArray 26) = u := ⟨_, rfl⟩
  rw [hn]
  have HFsw11 : Hid (Fr (fun _ => False) w10 w11) := by rw [← hn]; exact (Fr.refl _ w10).alloc _
  obtain ⟨ga, hblk⟩ : ∃ g, w10.heap.size = g := ⟨_, rfl⟩
  rw [hblk]
  have HBw11 : Hid (w11.heap[ga]? = some (.cells (scells r1.name r1.frm r1.days (.slice Ads ds.length cds)).toArray 26 (0, 0))) := by rw [← hn, ← hblk]; exact blk_newn rfl
  have HZw11 : Hid (w10.heap.size = ga) := hblk
  have HFw11 : Hid (Fr (fun _ => False) W w11) := HFw10.out.trans HFsw11.out
  clear hn hblk
  have HS11 : Hid (w11.heap[go]? = some (.cells (scells s.name s.frm s.days (.slice (some ⟨gn, 0, none⟩) ls.length c1)).toArray 26 (0, 0))) := HFsw11.out.blk (HFew10.out.blk HG9.out (fun h => h)) (fun h => h)
  have HLO11 : Hid (LayL (fun q => q < w11.heap.size) w11 ls (.slice (some ⟨gn, 0, none⟩) ls.length c1)) := ((HLO9.out.fr HFew10.out (fun _ _ h => h)).fr HFsw11.out (fun _ _ h => h)).mono (fun q hq _ => by have h1 := HFew10.out.size; have h2 := HFsw11.out.size; omega)
  clear k0 k1 k2 k3 k4 k5 HS9 HG9 HLO9
  have b0 : w11.cell? ⟨go, 0, none⟩ = some (.string ⟨s.name.toArray⟩) := (cell_of_blk HS11.out 0).trans rfl
  have b1 : w11.cell? ⟨go, 1, none⟩ = some (.int .i64 s.frm.y) := (cell_of_blk HS11.out 1).trans rfl
  have b2 : w11.cell? ⟨go, 2, none⟩ = some (.int .i64 s.frm.m) := (cell_of_blk HS11.out 2).trans rfl
  have b3 : w11.cell? ⟨go, 3, none⟩ = some (.int .i64 s.frm.d) := (cell_of_blk HS11.out 3).trans rfl
  have b4 : w11.cell? ⟨go, 4, none⟩ = some (.int .i64 s.days) := (cell_of_blk HS11.out 4).trans rfl
  have b5 : w11.cell? ⟨go, 5, none⟩ = some (.slice (some ⟨gn, 0, none⟩) ls.length c1) := (cell_of_blk HS11.out 5).trans rfl
  have HEX := Lib.hid (expand_any s ls _ w11 HLO11.out HSZL.out HCDL.out)
  unfold ExpR at HEX
  obtain ⟨q1, hr1⟩ : ∃ r, (expand (srcT s ls)).1 = r := ⟨_, rfl⟩
  obtain ⟨q2, hr2⟩ : ∃ r, (expand (srcT s ls)).2 = r := ⟨_, rfl⟩
  have HRq1 := Lib.hid hr1; have HRq2 := Lib.hid hr2
  rw [hr1, hr2] at HEX
  clear hr1 hr2
  go_wp2_with fail
  refine HEX.out.mono ?_
  rintro e w12 ⟨iv, fv, es, rfl, h1, h2, h3, h4⟩
  obtain ⟨Aes, ces, hiv, _, _⟩ := h2.slice
  subst hiv
  obtain ⟨Aq2, cq2, hfv, _, _⟩ := h3.slice
  rw [List.length_map] at hfv
  subst hfv
  have HDes := Lib.hid h1
  have HFew12 : Hid (Fr (fun _ => False) w11 w12) := h4
  have HFw12 : Hid (Fr (fun _ => False) W w12) := HFw11.out.trans h4
  have HLes : Hid (LayL All w12 es (.slice Aes es.length ces)) := h2.mono (fun _ _ _ => trivial)
  have HTq2 : Hid (RowB All w12 (.slice Aq2 q2.length cq2) 2 (q2.map faultc)) := h3.mono (fun _ _ _ => trivial)
  clear h1 h2 h3 h4 HEX
  dsimp only
  iterate 13 go_step
  refine wpList_store_row rfl 26 _ _ rfl w12.heap.size (scells q1.name q1.frm q1.days (.slice Aes es.length ces)).toArray rfl rfl 26 _ (blk_newn rfl) (info_src _ _ _ _) rfl (one_src _ _ _ _ _ _) ?_
  simp only [Act.put, List.setIfInBounds_toArray, List.set_cons_zero, List.set_cons_succ]
  rw [World.setRow_alloc_new]
  obtain ⟨w13, hn⟩ : ∃ u, w12.alloc (.cells (scells q1.name q1.frm q1.days (.slice Aes es.length ces)).toArray 26) = u := ⟨_, rfl⟩
  rw [hn]
  have HFsw13 : Hid (Fr (fun _ => False) w12 w13) := by rw [← hn]; exact (Fr.refl _ w12).alloc _
  obtain ⟨gb, hblk⟩ : ∃ g, w12.heap.size = g := ⟨_, rfl⟩
  rw [hblk]
  have HBw13 : Hid (w13.heap[gb]? = some (.cells (scells q1.name q1.frm q1.days (.slice Aes es.length ces)).toArray 26 (0, 0))) := by rw [← hn, ← hblk]; exact blk_newn rfl
  have HZw13 : Hid (w12.heap.size = gb) := hblk
  have HFw13 : Hid (Fr (fun _ => False) W w13) := HFw12.out.trans HFsw13.out
  clear hn hblk
  have HR12 : Hid (q1 = r1 ∧ q2 = r2) := by rw [← HRq1.out, ← HRq2.out, ← HRr1.out, ← HRr2.out, HLAW.out]; exact ⟨rfl, rfl⟩
  clear HRq1 HRq2 HRr1 HRr2
  obtain ⟨rfl, rfl⟩ := HR12.out
  have HFW13 : Hid (Fr (fun _ => False) w11 w13) := HFew12.out.trans HFsw13.out
  have HFT : Hid (Row w13 (.slice Ar2 q2.length cr2) 2 (q2.map faultc)) := (HTr2.out.fr (HFsw11.out.trans HFW13.out) (fun _ _ h => h)).1
  have HFT2 : Hid (Row w13 (.slice Aq2 q2.length cq2) 2 (q2.map faultc)) := (HTq2.out.fr HFsw13.out (fun _ _ h => h)).1
  have HSF := Lib.hid (faults_true q2 _ _ w13 HFT.out HFT2.out)
  clear b0 b1 b2 b3 b4 b5
  go_wp2_with fail
  refine HSF.out.mono ?_
  rintro e w14 ⟨rfl, m, hm⟩
  have HFe14 : Hid (Fr (fun _ => False) w13 w14) := by rw [hm]; exact (Fr.refl _ _).drewN m
  clear hm HSF
  have HB14 : Hid (w14.heap[ga]? = some (.cells (scells q1.name q1.frm q1.days (.slice Ads ds.length cds)).toArray 26 (0, 0))) := HFe14.out.blk (HFW13.out.blk HBw11.out (fun h => h)) (fun h => h)
  have HC14 : Hid (w14.heap[gb]? = some (.cells (scells q1.name q1.frm q1.days (.slice Aes es.length ces)).toArray 26 (0, 0))) := HFe14.out.blk HBw13.out (fun h => h)
  have HLA : Hid (LayL All w14 ds (.slice Ads ds.length cds)) := ((HLds.out.fr HFsw11.out (fun _ _ h => h)).fr HFW13.out (fun _ _ h => h)).fr HFe14.out (fun _ _ h => h)
  have HLB : Hid (LayL All w14 es (.slice Aes es.length ces)) := (HLes.out.fr HFsw13.out (fun _ _ h => h)).fr HFe14.out (fun _ _ h => h)
  have HDS : Hid (ds.map DT.tree = es.map DT.tree) := by show _ = _; rw [HDds.out, HDes.out]
  have HSA := Lib.hid (same_true ⟨q1.name, q1.frm, q1.days, []⟩ ds es _ _ w14 All All HDS.out HLA.out HLB.out)
  have HFW14 : Hid (Fr (fun _ => False) W w14) := HFw13.out.trans HFe14.out
  have a0 : w14.cell? ⟨ga, 0, none⟩ = some (.string ⟨q1.name.toArray⟩) := (cell_of_blk HB14.out 0).trans rfl
  have a1 : w14.cell? ⟨ga, 1, none⟩ = some (.int .i64 q1.frm.y) := (cell_of_blk HB14.out 1).trans rfl
  have a2 : w14.cell? ⟨ga, 2, none⟩ = some (.int .i64 q1.frm.m) := (cell_of_blk HB14.out 2).trans rfl
  have a3 : w14.cell? ⟨ga, 3, none⟩ = some (.int .i64 q1.frm.d) := (cell_of_blk HB14.out 3).trans rfl
  have a4 : w14.cell? ⟨ga, 4, none⟩ = some (.int .i64 q1.days) := (cell_of_blk HB14.out 4).trans rfl
  have a5 : w14.cell? ⟨ga, 5, none⟩ = some (.slice Ads ds.length cds) := (cell_of_blk HB14.out 5).trans rfl
  have b0 : w14.cell? ⟨gb, 0, none⟩ = some (.string ⟨q1.name.toArray⟩) := (cell_of_blk HC14.out 0).trans rfl
  have b1 : w14.cell? ⟨gb, 1, none⟩ = some (.int .i64 q1.frm.y) := (cell_of_blk HC14.out 1).trans rfl
  have b2 : w14.cell? ⟨gb, 2, none⟩ = some (.int .i64 q1.frm.m) := (cell_of_blk HC14.out 2).trans rfl
  have b3 : w14.cell? ⟨gb, 3, none⟩ = some (.int .i64 q1.frm.d) := (cell_of_blk HC14.out 3).trans rfl
  have b4 : w14.cell? ⟨gb, 4, none⟩ = some (.int .i64 q1.days) := (cell_of_blk HC14.out 4).trans rfl
  have b5 : w14.cell? ⟨gb, 5, none⟩ = some (.slice Aes es.length ces) := (cell_of_blk HC14.out 5).trans rfl
  go_wp2_with fail
  refine HSA.out.mono ?_
  rintro e w15 ⟨rfl, hf15⟩
  have HFZ := Lib.hid (HFW14.out.trans hf15)
  clear hf15
  go_wp2_with fail
  go_ret
  exact ⟨rfl, HFZ.out.below (Nat.le_refl _) (fun _ h => h.elim)⟩
end Go.Proofs.Yticakdajhmfpoaa
