/-
  Regions of the law DeadlineExtremes; what its loop gathers.
-/
import Derived.Test.YticlmkfifpkdpaaDoorDlLawW
import Derived.Test.YticlmkfifpkdpaaDoorDlLaws3
import Derived.Test.YticlmkfifpkdpaaDoorCut
import Derived.Test.YticlmkfifpkdpaaDoorReg2
import Derived.Deep.AppendLies
import Derived.Deep.DeepCutAuto
import Derived.Deep.QuietTactic
namespace Go.Proofs.YticlmkfifpkdpaaDoor.Dl
open Go.RowKit Mem Vw
set_option linter.unusedVariables false
set_option linter.unusedSimpArgs false
theorem info_term5 : (Tryd.prog.info? 31).map (fun i => (i.zero, i.size, i.bytes)) = some (some (.agg #[.int .i64 0, .int .i64 0, .int .i64 0, .bool false, .slice none 0 0]), 5, 56) := by kernel_rfl
/-- The boxes of the law: the calendar, the two terms. -/
structure XS (W : World) (c : Cal) (hv : Value) (gc g8 g9 : Nat) (lv : Value) (X : World) : Prop where
  be : Below W.heap.size W X
  cb : X.heap[gc]? = some (.cells (ccs c hv).toArray 28 (0, 0))
  f8 : X.heap[g8]? = some (.cells #[.int .i64 7, .int .i64 0, .int .i64 0, .bool false, lv] 31 (0, 0))
  f9 : X.heap[g9]? = some (.cells #[.int .i64 8, .int .i64 0, .int .i64 0, .bool false, lv] 31 (0, 0))
theorem XS.keep {W : World} {c : Cal} {hv : Value} {gc g8 g9 : Nat} {lv : Value} {X X' : World} (h : XS W c hv gc g8 g9 lv X) (hb : Below X.heap.size X X') : XS W c hv gc g8 g9 lv X' :=
  ⟨h.be.trans (hb.mono h.be.size), (hb.block _ (lt_of_blk h.cb)).trans h.cb, (hb.block _ (lt_of_blk h.f8)).trans h.f8, (hb.block _ (lt_of_blk h.f9)).trans h.f9⟩
theorem XS.c {W : World} {c : Cal} {hv : Value} {gc g8 g9 : Nat} {lv : Value} {X : World} (h : XS W c hv gc g8 g9 lv X) :
    (X.cell? ⟨gc, 0, none⟩ = some (.bool (c.wk.getD 0 false)) ∧ X.cell? ⟨gc, 1, none⟩ = some (.bool (c.wk.getD 1 false)) ∧ X.cell? ⟨gc, 2, none⟩ = some (.bool (c.wk.getD 2 false)) ∧ X.cell? ⟨gc, 3, none⟩ = some (.bool (c.wk.getD 3 false))) ∧ X.cell? ⟨gc, 4, none⟩ = some (.bool (c.wk.getD 4 false)) ∧ X.cell? ⟨gc, 5, none⟩ = some (.bool (c.wk.getD 5 false)) ∧ X.cell? ⟨gc, 6, none⟩ = some (.bool (c.wk.getD 6 false)) ∧ X.cell? ⟨gc, 7, none⟩ = some hv :=
  CS.c (W := W) ⟨h.be, h.cb⟩
theorem XS.f {W : World} {c : Cal} {hv : Value} {gc g8 g9 : Nat} {lv : Value} {X : World} (h : XS W c hv gc g8 g9 lv X) :
    (X.cell? ⟨g8, 0, none⟩ = some (.int .i64 7) ∧ X.cell? ⟨g8, 1, none⟩ = some (.int .i64 0) ∧ X.cell? ⟨g8, 2, none⟩ = some (.int .i64 0) ∧ X.cell? ⟨g8, 3, none⟩ = some (.bool false) ∧ X.cell? ⟨g8, 4, none⟩ = some lv) ∧
    (X.cell? ⟨g9, 0, none⟩ = some (.int .i64 8) ∧ X.cell? ⟨g9, 1, none⟩ = some (.int .i64 0) ∧ X.cell? ⟨g9, 2, none⟩ = some (.int .i64 0) ∧ X.cell? ⟨g9, 3, none⟩ = some (.bool false) ∧ X.cell? ⟨g9, 4, none⟩ = some lv) :=
  ⟨⟨cell_of_blk h.f8 0, cell_of_blk h.f8 1, cell_of_blk h.f8 2, cell_of_blk h.f8 3, cell_of_blk h.f8 4⟩, cell_of_blk h.f9 0, cell_of_blk h.f9 1, cell_of_blk h.f9 2, cell_of_blk h.f9 3, cell_of_blk h.f9 4⟩
/-- The cells of a term in a row, in any later world. -/
def TCells (W : World) (g p : Nat) (k n e : Int) (b : Bool) (v : Value) : Prop :=
  ∀ X, Below W.heap.size W X → X.cell? ⟨g, p, none⟩ = some (.int .i64 k) ∧ X.cell? ⟨g, p + 1, none⟩ = some (.int .i64 n) ∧ X.cell? ⟨g, p + 2, none⟩ = some (.int .i64 e) ∧ X.cell? ⟨g, p + 3, none⟩ = some (.bool b) ∧ X.cell? ⟨g, p + 4, none⟩ = some v
theorem tcells_of {W : World} {g o : Nat} {ks : List (Term × Value)} (hg : g < W.heap.size) (hat : ∀ i x, (ks.map tc)[i]? = some x → At W g (o + i * 5) x) {j : Nat} {k n e : Int} {b : Bool} {kids : List Term} {v : Value} (hj : ks[j]? = some (.mk k n e b kids, v)) : TCells W g (o + j * 5) k n e b v := by
  intro X hb
  have h := hat j (tc (.mk k n e b kids, v)) (by rw [List.getElem?_map, hj]; rfl)
  have key : ∀ r u, (tc (.mk k n e b kids, v))[r]? = some u → X.cell? ⟨g, o + j * 5 + r, none⟩ = some u := fun r u hu => (World.cell?_of_block (a := ⟨g, o + j * 5 + r, none⟩) (hb.block g hg)).trans (h r u hu)
  exact ⟨key 0 _ rfl, key 1 _ rfl, key 2 _ rfl, key 3 _ rfl, key 4 _ rfl⟩
theorem nodesL_le : ∀ (q : List Term) (d : Nat), q.length ≤ (nodesL d q).length := by
  intro q
  induction q with
  | nil => intro d; exact Nat.le_refl _
  | cons u q ihq => intro d; rw [nodesL, List.length_append, nodes_mk, List.length_cons, List.length_cons]; have := ihq d; omega
theorem kids_few {l : List Term} {c : Cal} {evs : List When} (h : (eval (tmin l) c evs).2.2 = 0) : l.length ≤ 40 := by
  rcases eval_cases (tmin l) c evs with h1 | ⟨⟨_, hv, _⟩, _⟩
  · rw [h1] at h; cases h
  · have h2 := ((valid_iff _ _).1 hv).2.1
    have e : nodes 1 (tmin l) = (1, tmin l) :: nodesL 2 l := nodes_kids 1 7 0 0 false l
    rw [e, List.length_cons] at h2
    have := nodesL_le l 2
    omega
theorem any_step {ds : List Int} {i : Nat} {a : Int} (hi : i < ds.length) (lo : Bool) (h : lo = true ↔ a ∈ ds.take i) : (lo || (ds[i] == a)) = true ↔ a ∈ ds.take (i + 1) := by
  rw [List.take_succ_eq_append_getElem hi, Bool.or_eq_true, h, List.mem_append, List.mem_singleton, beq_iff_eq, eq_comm (a := a)]
/-- What the loop holds. -/
structure XL (W X0 : World) (B : Nat) (ks : List (Term × Value)) (ds : List Int) (a d : Int) (i : Nat) (lo hi : Bool) (K : List (Term × Value)) (v : Value) (wr : World) : Prop where
  le : i ≤ ks.length
  lo : lo = true ↔ a ∈ ds.take i
  hi : hi = true ↔ d ∈ ds.take i
  kk : K = ks.reverse.take i
  own : wr.ownsRow B 31 5 v K.length (K.flatMap tc)
  be : Below X0.heap.size X0 wr
set_option maxRecDepth 100000 in
set_option maxHeartbeats 16000000 in
theorem ext_r17 {W X : World} {c : Cal} {hv : Value} {gc g8 g9 : Nat} {lv : Value} {k n e : Int} {b : Bool} {kids : List Term} {A : Option Addr} {cp : Nat} {l : List When} {Al : Option Addr} {nl : Nat} {g o nn cc i : Nat} {d : Int} {u1 u3 u5 u6 u7 u8 u9 u10 u11 u12 u13 u14 u15 u16 u17 u18 u20 u21 u22 u23 u24 u25 u26 u27 u28 u29 u30 u31 u32 u33 u34 u35 u36 u37 u38 u39 u40 u41 u42 u43 u44 u45 u46 u47 u48 u49 u50 u51 u52 u53 u54 u55 u56 u57 u58 u59 u60 u61 u62 u63 u64 u65 u66 u67 u68 u69 u70 u71 u72 u73 u74 u75 u76 u77 u78 u79 u80 u81 u82 u83 u84 u85 u86 u87 u88 u89 u90 u91 u92 u93 u94 u95 u96 u97 u98 u99 u100 u101 u102 u103 u104 u105 u106 u107 u108 u109 u110 u111 u112 u113 u114 u115 u116 u117 u118 u119 u120 u121 u122 u123 u124 u125 u126 u127 u128 u129 u130 u131 u132 u133 u134 u135 u136 u137 u138 u139 u140 u141 u142 u143 u144 u145 u146 u147 u148 u149 u150 u151 u152 u153 u154 u155 u156 u157 u158 u159 u160 u161 u162 u163 u164 u165 u166 u167 u168 u169 u170 u171 u172 u173 u174 u175 u176 u177 u178 u179 u180 u181 : Value} {Q : Exit → Act → World → Prop} {C : Code} (hC : C = Cut.region Tryd.f10 17) (HG : Hid (GV W c hv)) (HEl : Hid (EvsAt W l (.slice Al l.length nl))) (HS : Hid (XS W c hv gc g8 g9 lv X)) (HKT : Hid (Tree W (.mk k n e b kids) (.slice A kids.length cp))) (HTC : Hid (TCells W g (o + i * 5) k n e b (.slice A kids.length cp))) (hi : i < nn) (hn : nn ≤ 40) (HR : Hid (eval (.mk k n e b kids) c l = (d, true, 0))) (hP : Cut.Blind Q)
    (hQ : ∀ (v79 v80 v81 v82 v83 v84 v85 v86 v87 v88 v89 : Value) (wx : World), XS W c hv gc g8 g9 lv wx → Below X.heap.size X wx →  Q .normal ⟨#[.slice (some ⟨g, o, none⟩) nn cc, u1, .slice Al l.length nl, u3, .pointer (some ⟨gc, 0, none⟩), u5, u6, u7, u8, u9, u10, u11, u12, u13, u14, u15, u16, u17, u18, .int .i64 (i : Int), .int .i64 d, .bool true, .int .i64 0, u23, u24, u25, u26, u27, u28, u29, u30, u31, u32, u33, u34, u35, u36, u37, u38, u39, u40, u41, u42, u43, u44, u45, u46, u47, u48, u49, u50, u51, u52, u53, u54, u55, u56, u57, u58, u59, u60, u61, u62, u63, u64, u65, u66, u67, u68, u69, u70, u71, u72, u73, u74, u75, u76, u77, u78, v79, v80, v81, v82, v83, v84, v85, v86, v87, v88, v89, u90, u91, u92, u93, u94, u95, u96, u97, u98, u99, u100, u101, u102, u103, u104, u105, u106, u107, u108, u109, u110, u111, u112, u113, u114, u115, u116, u117, u118, u119, u120, u121, u122, u123, u124, u125, u126, u127, u128, u129, u130, u131, u132, u133, u134, u135, u136, u137, u138, u139, u140, u141, u142, u143, u144, u145, u146, u147, u148, u149, u150, u151, u152, u153, u154, u155, u156, u157, u158, u159, u160, u161, u162, u163, u164, u165, u166, u167, u168, u169, u170, u171, u172, u173, u174, u175, u176, u177, u178, u179, u180, u181], []⟩ wx) :
    Code.wp Tryd.prog C Q ⟨#[.slice (some ⟨g, o, none⟩) nn cc, u1, .slice Al l.length nl, u3, .pointer (some ⟨gc, 0, none⟩), u5, u6, u7, u8, u9, u10, u11, u12, u13, u14, u15, u16, u17, u18, .int .i64 (i : Int), u20, u21, u22, u23, u24, u25, u26, u27, u28, u29, u30, u31, u32, u33, u34, u35, u36, u37, u38, u39, u40, u41, u42, u43, u44, u45, u46, u47, u48, u49, u50, u51, u52, u53, u54, u55, u56, u57, u58, u59, u60, u61, u62, u63, u64, u65, u66, u67, u68, u69, u70, u71, u72, u73, u74, u75, u76, u77, u78, u79, u80, u81, u82, u83, u84, u85, u86, u87, u88, u89, u90, u91, u92, u93, u94, u95, u96, u97, u98, u99, u100, u101, u102, u103, u104, u105, u106, u107, u108, u109, u110, u111, u112, u113, u114, u115, u116, u117, u118, u119, u120, u121, u122, u123, u124, u125, u126, u127, u128, u129, u130, u131, u132, u133, u134, u135, u136, u137, u138, u139, u140, u141, u142, u143, u144, u145, u146, u147, u148, u149, u150, u151, u152, u153, u154, u155, u156, u157, u158, u159, u160, u161, u162, u163, u164, u165, u166, u167, u168, u169, u170, u171, u172, u173, u174, u175, u176, u177, u178, u179, u180, u181], []⟩ X := by
  subst hC
  conv => arg 2; whnf
  refine Reg.G.start (by kernel_rfl) ?_
  obtain ⟨Xd, HXd⟩ : ∃ Y, Hid (X.drew = Y) := ⟨_, rfl⟩
  have HBXd : Hid (Below X.heap.size X Xd) := by rw [← HXd.out]; exact ⟨rfl, rfl, rfl, Nat.le_refl _, fun k hk => rfl⟩
  have HSd := Lib.hid (HS.out.keep HBXd.out)
  rw [HXd.out]
  clear HXd
  refine' Reg.G.pure (i := 0) (v := _) rfl (by rfl) (by kernel_rfl) (by kernel_rfl) (by kernel_rfl) (fun _ _ _ h => hP _ _ _ _ _ h) ?hyp63 ?rehyp63
  case hyp63 => exact fun w => by first | (go_simp; done) | (go_simp; with_reducible rfl)
  simp only [Act.put, List.setIfInBounds_toArray, List.set_cons_zero, List.set_cons_succ]
  refine' Reg.G.pure (i := 1) (v := _) rfl (by rfl) (by kernel_rfl) (by kernel_rfl) (by kernel_rfl) (fun _ _ _ h => hP _ _ _ _ _ h) ?hyp64 ?rehyp64
  case hyp64 => exact fun w => by first | (go_simp; done) | (go_simp; with_reducible rfl)
  simp only [Act.put, List.setIfInBounds_toArray, List.set_cons_zero, List.set_cons_succ]
  refine' Reg.G.pure (i := 2) (v := _) rfl (by rfl) (by kernel_rfl) (by kernel_rfl) (by kernel_rfl) (fun _ _ _ h => hP _ _ _ _ _ h) ?hyp65 ?rehyp65
  case hyp65 => exact fun w => by first | (go_simp; done) | (go_simp; with_reducible rfl)
  simp only [Act.put, List.setIfInBounds_toArray, List.set_cons_zero, List.set_cons_succ]
  refine' Reg.G.take (i := 3) (v := _) (F := (fun w => Below Xd.heap.size Xd w)) rfl (by rfl) (by kernel_rfl) (by kernel_rfl) (by kernel_rfl) (fun _ _ _ h => hP _ _ _ _ _ h) (Below.refl Xd.heap.size Xd) ?hyp66 ?rehyp66
  case hyp66 => intro w hw; obtain ⟨t0, t1, t2, t3, t4⟩ := HTC.out w (HSd.out.keep hw).be; clear hw; first | (go_simp; done) | (go_simp; with_reducible rfl)
  simp only [Act.put, List.setIfInBounds_toArray, List.set_cons_zero, List.set_cons_succ]
  refine' Reg.G.take (i := 4) (v := _) (F := (fun w => Below Xd.heap.size Xd w)) rfl (by rfl) (by kernel_rfl) (by kernel_rfl) (by kernel_rfl) (fun _ _ _ h => hP _ _ _ _ _ h) (Below.refl Xd.heap.size Xd) ?hyp67 ?rehyp67
  case hyp67 => intro w hw; obtain ⟨⟨c0, c1, c2, c3⟩, c4, c5, c6, c7⟩ := (HSd.out.keep hw).c; clear hw; first | (go_simp; done) | (go_simp; with_reducible rfl)
  simp only [Act.put, List.setIfInBounds_toArray, List.set_cons_zero, List.set_cons_succ]
  refine' Reg.G.pure (i := 5) (v := _) rfl (by rfl) (by kernel_rfl) (by kernel_rfl) (by kernel_rfl) (fun _ _ _ h => hP _ _ _ _ _ h) ?hyp68 ?rehyp68
  case hyp68 => exact fun w => by first | (go_simp; done) | (go_simp; with_reducible rfl)
  simp only [Act.put, List.setIfInBounds_toArray, List.set_cons_zero, List.set_cons_succ]
  refine Reg.G.step (j := 6) (m := [false, false]) [4, 3] rfl (by kernel_rfl) rfl (by kernel_rfl) (fun K hK => ?_)
  go_simp
  refine (eval_at HG.out (HSd.out.keep (Below.refl Xd.heap.size Xd)).be (Term.mk k n e b kids, Value.slice A kids.length cp) (HKT.out.keep (HSd.out.keep (Below.refl Xd.heap.size Xd)).be) l _ (HEl.out.below (HSd.out.keep (Below.refl Xd.heap.size Xd)).be) (cs := #[.int .i64 k, .int .i64 n, .int .i64 e, .bool b, .slice A kids.length cp]) rfl HR.out).mono ?_
  rintro e9 Z109 ⟨rfl, hb110⟩
  have HZ111 := Lib.hid hb110
  clear hb110
  have HB112 : Hid (Below Xd.heap.size Xd Z109) := (Below.refl Xd.heap.size Xd).trans (HZ111.out.mono (Below.refl Xd.heap.size Xd).size)
  refine hK.out _ _ trivial ?_
  clear hK K
  simp only [Act.put, List.setIfInBounds_toArray, List.set_cons_zero, List.set_cons_succ, Reg.Kept]
  refine' Reg.G.pure (i := 7) (v := _) rfl (by rfl) (by kernel_rfl) (by kernel_rfl) (by kernel_rfl) (fun _ _ _ h => hP _ _ _ _ _ h) ?hyp69 ?rehyp69
  case hyp69 => exact fun w => by first | (go_simp; done) | (go_simp; with_reducible rfl)
  simp only [Act.put, List.setIfInBounds_toArray, List.set_cons_zero, List.set_cons_succ]
  refine' Reg.G.pure (i := 8) (v := _) rfl (by rfl) (by kernel_rfl) (by kernel_rfl) (by kernel_rfl) (fun _ _ _ h => hP _ _ _ _ _ h) ?hyp70 ?rehyp70
  case hyp70 => exact fun w => by first | (go_simp; done) | (go_simp; with_reducible rfl)
  simp only [Act.put, List.setIfInBounds_toArray, List.set_cons_zero, List.set_cons_succ]
  refine' Reg.G.pure (i := 9) (v := _) rfl (by rfl) (by kernel_rfl) (by kernel_rfl) (by kernel_rfl) (fun _ _ _ h => hP _ _ _ _ _ h) ?hyp71 ?rehyp71
  case hyp71 => exact fun w => by first | (go_simp; done) | (go_simp; with_reducible rfl)
  simp only [Act.put, List.setIfInBounds_toArray, List.set_cons_zero, List.set_cons_succ]
  refine' Reg.G.pure (i := 10) (v := _) rfl (by rfl) (by kernel_rfl) (by kernel_rfl) (by kernel_rfl) (fun _ _ _ h => hP _ _ _ _ _ h) ?hyp72 ?rehyp72
  case hyp72 => exact fun w => by first | (go_simp; done) | (go_simp; with_reducible rfl)
  simp only [Act.put, List.setIfInBounds_toArray, List.set_cons_zero, List.set_cons_succ]
  refine' Reg.G.pure (i := 11) (v := _) rfl (by rfl) (by kernel_rfl) (by kernel_rfl) (by kernel_rfl) (fun _ _ _ h => hP _ _ _ _ _ h) ?hyp73 ?rehyp73
  case hyp73 => exact fun w => by first | (go_simp; done) | (go_simp; with_reducible rfl)
  simp only [Act.put, List.setIfInBounds_toArray, List.set_cons_zero, List.set_cons_succ]
  refine' Reg.G.pure (i := 12) (v := _) rfl (by rfl) (by kernel_rfl) (by kernel_rfl) (by kernel_rfl) (fun _ _ _ h => hP _ _ _ _ _ h) ?hyp74 ?rehyp74
  case hyp74 => exact fun w => by first | (go_simp; done) | (go_simp; with_reducible rfl)
  simp only [Act.put, List.setIfInBounds_toArray, List.set_cons_zero, List.set_cons_succ]
  refine' Reg.G.pure (i := 13) (v := _) rfl (by rfl) (by kernel_rfl) (by kernel_rfl) (by kernel_rfl) (fun _ _ _ h => hP _ _ _ _ _ h) ?hyp75 ?rehyp75
  case hyp75 => exact fun w => by first | (go_simp; done) | (go_simp; with_reducible rfl)
  simp only [Act.put, List.setIfInBounds_toArray, List.set_cons_zero, List.set_cons_succ]
  refine Reg.G.done (by kernel_rfl) ?_
  exact hQ _ _ _ _ _ _ _ _ _ _ _ _ (HSd.out.keep (HB112.out)) (HBXd.out.trans ((HB112.out).mono HBXd.out.size))
set_option maxRecDepth 100000 in
set_option maxHeartbeats 16000000 in
theorem ext_r20 {X : World} {lo : Bool} {d a : Int} {u0 u1 u2 u3 u4 u5 u6 u7 u8 u9 u11 u12 u13 u14 u15 u17 u18 u19 u21 u22 u23 u24 u25 u26 u27 u28 u29 u30 u31 u32 u33 u34 u35 u36 u37 u38 u39 u40 u41 u42 u43 u44 u45 u46 u47 u48 u49 u50 u51 u52 u53 u54 u55 u56 u57 u58 u59 u60 u61 u62 u63 u64 u65 u66 u67 u68 u69 u70 u71 u72 u73 u74 u75 u76 u77 u78 u79 u80 u81 u82 u83 u84 u85 u86 u87 u88 u89 u90 u91 u92 u93 u94 u95 u96 u97 u98 u99 u100 u101 u102 u103 u104 u105 u106 u107 u108 u109 u110 u111 u112 u113 u114 u115 u116 u117 u118 u119 u120 u121 u122 u123 u124 u125 u126 u127 u128 u129 u130 u131 u132 u133 u134 u135 u136 u137 u138 u139 u140 u141 u142 u143 u144 u145 u146 u147 u148 u149 u150 u151 u152 u153 u154 u155 u156 u157 u158 u159 u160 u161 u162 u163 u164 u165 u166 u167 u168 u169 u170 u171 u172 u173 u174 u175 u176 u177 u178 u179 u180 u181 : Value} {Q : Exit → Act → World → Prop} {C : Code} (hC : C = Cut.region Tryd.f10 20) 
    (hQ : ∀ (v106 v107 v108 v109 v110 v111 : Value) (wx : World), X = wx → Q .normal ⟨#[u0, u1, u2, u3, u4, u5, u6, u7, u8, u9, .int .i64 a, u11, u12, u13, u14, u15, .bool (lo || (d == a)), u17, u18, u19, .int .i64 d, u21, u22, u23, u24, u25, u26, u27, u28, u29, u30, u31, u32, u33, u34, u35, u36, u37, u38, u39, u40, u41, u42, u43, u44, u45, u46, u47, u48, u49, u50, u51, u52, u53, u54, u55, u56, u57, u58, u59, u60, u61, u62, u63, u64, u65, u66, u67, u68, u69, u70, u71, u72, u73, u74, u75, u76, u77, u78, u79, u80, u81, u82, u83, u84, u85, u86, u87, u88, u89, u90, u91, u92, u93, u94, u95, u96, u97, u98, u99, u100, u101, u102, u103, u104, u105, v106, v107, v108, v109, v110, v111, u112, u113, u114, u115, u116, u117, u118, u119, u120, u121, u122, u123, u124, u125, u126, u127, u128, u129, u130, u131, u132, u133, u134, u135, u136, u137, u138, u139, u140, u141, u142, u143, u144, u145, u146, u147, u148, u149, u150, u151, u152, u153, u154, u155, u156, u157, u158, u159, u160, u161, u162, u163, u164, u165, u166, u167, u168, u169, u170, u171, u172, u173, u174, u175, u176, u177, u178, u179, u180, u181], []⟩ wx) :
    Code.wp Tryd.prog C Q ⟨#[u0, u1, u2, u3, u4, u5, u6, u7, u8, u9, .int .i64 a, u11, u12, u13, u14, u15, .bool lo, u17, u18, u19, .int .i64 d, u21, u22, u23, u24, u25, u26, u27, u28, u29, u30, u31, u32, u33, u34, u35, u36, u37, u38, u39, u40, u41, u42, u43, u44, u45, u46, u47, u48, u49, u50, u51, u52, u53, u54, u55, u56, u57, u58, u59, u60, u61, u62, u63, u64, u65, u66, u67, u68, u69, u70, u71, u72, u73, u74, u75, u76, u77, u78, u79, u80, u81, u82, u83, u84, u85, u86, u87, u88, u89, u90, u91, u92, u93, u94, u95, u96, u97, u98, u99, u100, u101, u102, u103, u104, u105, u106, u107, u108, u109, u110, u111, u112, u113, u114, u115, u116, u117, u118, u119, u120, u121, u122, u123, u124, u125, u126, u127, u128, u129, u130, u131, u132, u133, u134, u135, u136, u137, u138, u139, u140, u141, u142, u143, u144, u145, u146, u147, u148, u149, u150, u151, u152, u153, u154, u155, u156, u157, u158, u159, u160, u161, u162, u163, u164, u165, u166, u167, u168, u169, u170, u171, u172, u173, u174, u175, u176, u177, u178, u179, u180, u181], []⟩ X := by
  subst hC
  conv => arg 2; whnf
  have HQ := Lib.hid hQ
  clear hQ
  cases lo
  · go_wp2_with fail
    exact HQ.out _ _ _ _ _ _ _ rfl
  · go_wp2_with fail
    exact HQ.out _ _ _ _ _ _ _ rfl
set_option maxRecDepth 100000 in
set_option maxHeartbeats 16000000 in
theorem ext_r21 {X : World} {lo : Bool} {d a : Int} {u0 u1 u2 u3 u4 u5 u6 u7 u8 u9 u10 u11 u12 u14 u15 u16 u18 u19 u21 u22 u23 u24 u25 u26 u27 u28 u29 u30 u31 u32 u33 u34 u35 u36 u37 u38 u39 u40 u41 u42 u43 u44 u45 u46 u47 u48 u49 u50 u51 u52 u53 u54 u55 u56 u57 u58 u59 u60 u61 u62 u63 u64 u65 u66 u67 u68 u69 u70 u71 u72 u73 u74 u75 u76 u77 u78 u79 u80 u81 u82 u83 u84 u85 u86 u87 u88 u89 u90 u91 u92 u93 u94 u95 u96 u97 u98 u99 u100 u101 u102 u103 u104 u105 u106 u107 u108 u109 u110 u111 u112 u113 u114 u115 u116 u117 u118 u119 u120 u121 u122 u123 u124 u125 u126 u127 u128 u129 u130 u131 u132 u133 u134 u135 u136 u137 u138 u139 u140 u141 u142 u143 u144 u145 u146 u147 u148 u149 u150 u151 u152 u153 u154 u155 u156 u157 u158 u159 u160 u161 u162 u163 u164 u165 u166 u167 u168 u169 u170 u171 u172 u173 u174 u175 u176 u177 u178 u179 u180 u181 : Value} {Q : Exit → Act → World → Prop} {C : Code} (hC : C = Cut.region Tryd.f10 21) 
    (hQ : ∀ (v112 v113 v114 v115 v116 v117 : Value) (wx : World), X = wx → Q .normal ⟨#[u0, u1, u2, u3, u4, u5, u6, u7, u8, u9, u10, u11, u12, .int .i64 a, u14, u15, u16, .bool (lo || (d == a)), u18, u19, .int .i64 d, u21, u22, u23, u24, u25, u26, u27, u28, u29, u30, u31, u32, u33, u34, u35, u36, u37, u38, u39, u40, u41, u42, u43, u44, u45, u46, u47, u48, u49, u50, u51, u52, u53, u54, u55, u56, u57, u58, u59, u60, u61, u62, u63, u64, u65, u66, u67, u68, u69, u70, u71, u72, u73, u74, u75, u76, u77, u78, u79, u80, u81, u82, u83, u84, u85, u86, u87, u88, u89, u90, u91, u92, u93, u94, u95, u96, u97, u98, u99, u100, u101, u102, u103, u104, u105, u106, u107, u108, u109, u110, u111, v112, v113, v114, v115, v116, v117, u118, u119, u120, u121, u122, u123, u124, u125, u126, u127, u128, u129, u130, u131, u132, u133, u134, u135, u136, u137, u138, u139, u140, u141, u142, u143, u144, u145, u146, u147, u148, u149, u150, u151, u152, u153, u154, u155, u156, u157, u158, u159, u160, u161, u162, u163, u164, u165, u166, u167, u168, u169, u170, u171, u172, u173, u174, u175, u176, u177, u178, u179, u180, u181], []⟩ wx) :
    Code.wp Tryd.prog C Q ⟨#[u0, u1, u2, u3, u4, u5, u6, u7, u8, u9, u10, u11, u12, .int .i64 a, u14, u15, u16, .bool lo, u18, u19, .int .i64 d, u21, u22, u23, u24, u25, u26, u27, u28, u29, u30, u31, u32, u33, u34, u35, u36, u37, u38, u39, u40, u41, u42, u43, u44, u45, u46, u47, u48, u49, u50, u51, u52, u53, u54, u55, u56, u57, u58, u59, u60, u61, u62, u63, u64, u65, u66, u67, u68, u69, u70, u71, u72, u73, u74, u75, u76, u77, u78, u79, u80, u81, u82, u83, u84, u85, u86, u87, u88, u89, u90, u91, u92, u93, u94, u95, u96, u97, u98, u99, u100, u101, u102, u103, u104, u105, u106, u107, u108, u109, u110, u111, u112, u113, u114, u115, u116, u117, u118, u119, u120, u121, u122, u123, u124, u125, u126, u127, u128, u129, u130, u131, u132, u133, u134, u135, u136, u137, u138, u139, u140, u141, u142, u143, u144, u145, u146, u147, u148, u149, u150, u151, u152, u153, u154, u155, u156, u157, u158, u159, u160, u161, u162, u163, u164, u165, u166, u167, u168, u169, u170, u171, u172, u173, u174, u175, u176, u177, u178, u179, u180, u181], []⟩ X := by
  subst hC
  conv => arg 2; whnf
  have HQ := Lib.hid hQ
  clear hQ
  cases lo
  · go_wp2_with fail
    exact HQ.out _ _ _ _ _ _ _ rfl
  · go_wp2_with fail
    exact HQ.out _ _ _ _ _ _ _ rfl
set_option maxRecDepth 100000 in
set_option maxHeartbeats 16000000 in
theorem ext_r22 {W X : World} {k n e : Int} {b : Bool} {kids : List Term} {A : Option Addr} {cp : Nat} {g o nn cc i j B : Nat} {K : List (Term × Value)} {Ad : Option Addr} {cd : Nat} {u1 u2 u3 u4 u5 u6 u7 u8 u9 u10 u11 u12 u13 u14 u15 u16 u17 u20 u21 u22 u23 u24 u25 u26 u27 u28 u29 u30 u31 u32 u33 u34 u35 u36 u37 u38 u39 u40 u41 u42 u43 u44 u45 u46 u47 u48 u49 u50 u51 u52 u53 u54 u55 u56 u57 u58 u59 u60 u61 u62 u63 u64 u65 u66 u67 u68 u69 u70 u71 u72 u73 u74 u75 u76 u77 u78 u79 u80 u81 u82 u83 u84 u85 u86 u87 u88 u89 u90 u91 u92 u93 u94 u95 u96 u97 u98 u99 u100 u101 u102 u103 u104 u105 u106 u107 u108 u109 u110 u111 u112 u113 u114 u115 u116 u117 u118 u119 u120 u121 u122 u123 u124 u125 u126 u127 u128 u129 u130 u131 u132 u133 u134 u135 u136 u137 u138 u139 u140 u141 u142 u143 u144 u145 u146 u147 u148 u149 u150 u151 u152 u153 u154 u155 u156 u157 u158 u159 u160 u161 u162 u163 u164 u165 u166 u167 u168 u169 u170 u171 u172 u173 u174 u175 u176 u177 u178 u179 u180 u181 : Value} {Q : Exit → Act → World → Prop} {C : Code} (hC : C = Cut.region Tryd.f10 22) (HTC : Hid (TCells W g (o + j * 5) k n e b (.slice A kids.length cp))) (HB : Hid (Below W.heap.size W X)) (HO : Hid (X.ownsRow B 31 5 (.slice Ad K.length cd) K.length (K.flatMap tc))) (hbs : B ≤ X.heap.size) (hk : K.length ≤ 41) (hn : nn ≤ 40) (hij : (nn : Int) - 1 - (i : Int) = (j : Int)) (hj : j < nn)
    (hQ : ∀ (v118 v119 v120 v121 v122 v123 v124 v125 v126 v127 v128 : Value) (wx : World), ∀ (gn cn : Nat), wx.ownsRow B 31 5 (.slice (some ⟨gn, 0, none⟩) (K.length + 1) cn) (K ++ [(Term.mk k n e b kids, Value.slice A kids.length cp)]).length ((K ++ [(Term.mk k n e b kids, Value.slice A kids.length cp)]).flatMap tc) ∧ Below B X wx → Q .normal ⟨#[.slice (some ⟨g, o, none⟩) nn cc, u1, u2, u3, u4, u5, u6, u7, u8, u9, u10, u11, u12, u13, u14, u15, u16, u17, .slice (some ⟨gn, 0, none⟩) (K.length + 1) cn, .int .i64 (i : Int), u20, u21, u22, u23, u24, u25, u26, u27, u28, u29, u30, u31, u32, u33, u34, u35, u36, u37, u38, u39, u40, u41, u42, u43, u44, u45, u46, u47, u48, u49, u50, u51, u52, u53, u54, u55, u56, u57, u58, u59, u60, u61, u62, u63, u64, u65, u66, u67, u68, u69, u70, u71, u72, u73, u74, u75, u76, u77, u78, u79, u80, u81, u82, u83, u84, u85, u86, u87, u88, u89, u90, u91, u92, u93, u94, u95, u96, u97, u98, u99, u100, u101, u102, u103, u104, u105, u106, u107, u108, u109, u110, u111, u112, u113, u114, u115, u116, u117, v118, v119, v120, v121, v122, v123, v124, v125, v126, v127, v128, u129, u130, u131, u132, u133, u134, u135, u136, u137, u138, u139, u140, u141, u142, u143, u144, u145, u146, u147, u148, u149, u150, u151, u152, u153, u154, u155, u156, u157, u158, u159, u160, u161, u162, u163, u164, u165, u166, u167, u168, u169, u170, u171, u172, u173, u174, u175, u176, u177, u178, u179, u180, u181], []⟩ wx) :
    Code.wp Tryd.prog C Q ⟨#[.slice (some ⟨g, o, none⟩) nn cc, u1, u2, u3, u4, u5, u6, u7, u8, u9, u10, u11, u12, u13, u14, u15, u16, u17, .slice Ad K.length cd, .int .i64 (i : Int), u20, u21, u22, u23, u24, u25, u26, u27, u28, u29, u30, u31, u32, u33, u34, u35, u36, u37, u38, u39, u40, u41, u42, u43, u44, u45, u46, u47, u48, u49, u50, u51, u52, u53, u54, u55, u56, u57, u58, u59, u60, u61, u62, u63, u64, u65, u66, u67, u68, u69, u70, u71, u72, u73, u74, u75, u76, u77, u78, u79, u80, u81, u82, u83, u84, u85, u86, u87, u88, u89, u90, u91, u92, u93, u94, u95, u96, u97, u98, u99, u100, u101, u102, u103, u104, u105, u106, u107, u108, u109, u110, u111, u112, u113, u114, u115, u116, u117, u118, u119, u120, u121, u122, u123, u124, u125, u126, u127, u128, u129, u130, u131, u132, u133, u134, u135, u136, u137, u138, u139, u140, u141, u142, u143, u144, u145, u146, u147, u148, u149, u150, u151, u152, u153, u154, u155, u156, u157, u158, u159, u160, u161, u162, u163, u164, u165, u166, u167, u168, u169, u170, u171, u172, u173, u174, u175, u176, u177, u178, u179, u180, u181], []⟩ X := by
  subst hC
  conv => arg 2; whnf
  have HQ := Lib.hid hQ
  clear hQ
  obtain ⟨t0, t1, t2, t3, t4⟩ := HTC.out X HB.out
  clear HTC
  obtain ⟨i0, hi0, hz0, hz1, hz2⟩ := info_parts info_term5
  have HOA : Hid ((X.alloc (.cells #[.int .i64 k, .int .i64 n, .int .i64 e, .bool b, .slice A kids.length cp] 31)).ownsRow B 31 5 (.slice Ad K.length cd) K.length (K.flatMap tc)) := own_fr HO.out (Fr.of_below (S := fun _ => False) ((Below.refl _ X).alloc (Nat.le_refl _) _)) (fun _ _ _ h => h)
  have HNW : Hid (∀ j y, ([.int .i64 k, .int .i64 n, .int .i64 e, .bool b, .slice A kids.length cp] : List Value)[j]? = some y → (X.alloc (.cells #[.int .i64 k, .int .i64 n, .int .i64 e, .bool b, .slice A kids.length cp] 31)).cell? ((⟨X.heap.size, 0, none⟩ : Addr).add j) = some y) := cells_new X [.int .i64 k, .int .i64 n, .int .i64 e, .bool b, .slice A kids.length cp] _ _ rfl
  have HBS := Lib.hid hbs
  have HK4 := Lib.hid hk
  clear hbs hk
  go_wp2_with (at_builtin; (refine wpList_append_lies (X.alloc (.cells #[.int .i64 k, .int .i64 n, .int .i64 e, .bool b, .slice A kids.length cp] 31)) rfl (.tmp 118) (.tmp 127) 29 rfl B 31 i0 _ 5 56 Tryd.underlying29 hi0 hz0 hz1 hz2 rfl (by decide) (.slice Ad K.length cd) K.length _ (by rfl) HOA.out ⟨X.heap.size, 0, none⟩ 1 1 [.int .i64 k, .int .i64 n, .int .i64 e, .bool b, .slice A kids.length cp] (by rfl) rfl HNW.out (by simp [Value.oneCell']) (by decide) (by have := HK4.out; simp only [maxLen]; omega) (by have := HK4.out; omega) (by have := HBS.out; simp; omega) (X.heap.size + 1) (by simp) ?_; intro gn cn w5 g1 g2 g3 _; simp only [Act.put, List.setIfInBounds_toArray, List.set_cons_zero, List.set_cons_succ]))
  refine HQ.out _ _ _ _ _ _ _ _ _ _ _ _ gn cn ⟨?_, ?_⟩
  · rw [List.length_append, List.flatMap_append]; exact g1
  · exact (((Below.refl _ X).alloc (Nat.le_refl _) _).mono HBS.out).trans ((Below.refl _ _).grown g2 (by have := HBS.out; simp; omega) (fun k hk => (own_lt HOA.out k hk).1))
set_option maxRecDepth 100000 in
set_option maxHeartbeats 16000000 in
theorem ext_r23 {W X : World} {k n e : Int} {b : Bool} {kids : List Term} {A : Option Addr} {cp : Nat} {g o nn cc i j B : Nat} {K : List (Term × Value)} {Ad : Option Addr} {cd : Nat} {u1 u2 u3 u4 u5 u6 u7 u8 u9 u10 u11 u12 u13 u14 u15 u16 u17 u19 u20 u21 u22 u23 u24 u25 u26 u27 u28 u29 u30 u31 u32 u33 u34 u35 u36 u37 u38 u39 u40 u41 u42 u43 u44 u45 u46 u47 u48 u49 u50 u51 u52 u53 u54 u55 u56 u57 u58 u59 u60 u61 u62 u63 u64 u65 u66 u67 u68 u69 u70 u71 u72 u73 u74 u75 u76 u77 u78 u79 u80 u81 u82 u83 u84 u85 u86 u87 u88 u89 u90 u91 u92 u93 u94 u95 u96 u97 u98 u99 u100 u101 u102 u103 u104 u105 u106 u107 u108 u109 u110 u111 u112 u113 u114 u115 u116 u117 u118 u119 u120 u121 u122 u123 u124 u125 u126 u127 u128 u129 u130 u131 u132 u133 u134 u135 u136 u137 u138 u139 u140 u141 u142 u143 u144 u145 u146 u147 u148 u149 u150 u151 u152 u153 u154 u155 u156 u157 u158 u159 u160 u161 u162 u163 u164 u165 u166 u167 u168 u169 u170 u171 u172 u173 u174 u175 u176 u177 u178 u179 u180 u181 : Value} {Q : Exit → Act → World → Prop} {C : Code} (hC : C = Cut.region Tryd.f10 23) (HTC : Hid (TCells W g (o + 0 * 5) k n e b (.slice A kids.length cp))) (HB : Hid (Below W.heap.size W X)) (HO : Hid (X.ownsRow B 31 5 (.slice Ad K.length cd) K.length (K.flatMap tc))) (hbs : B ≤ X.heap.size) (hk : K.length ≤ 41) (hn : nn ≤ 40) (h0 : 0 < nn)
    (hQ : ∀ (v129 v130 v131 v132 v133 v134 : Value) (wx : World), ∀ (gn cn : Nat), wx.ownsRow B 31 5 (.slice (some ⟨gn, 0, none⟩) (K.length + 1) cn) (K ++ [(Term.mk k n e b kids, Value.slice A kids.length cp)]).length ((K ++ [(Term.mk k n e b kids, Value.slice A kids.length cp)]).flatMap tc) ∧ Below B X wx → Q .normal ⟨#[.slice (some ⟨g, o, none⟩) nn cc, u1, u2, u3, u4, u5, u6, u7, u8, u9, u10, u11, u12, u13, u14, u15, u16, u17, .slice (some ⟨gn, 0, none⟩) (K.length + 1) cn, u19, u20, u21, u22, u23, u24, u25, u26, u27, u28, u29, u30, u31, u32, u33, u34, u35, u36, u37, u38, u39, u40, u41, u42, u43, u44, u45, u46, u47, u48, u49, u50, u51, u52, u53, u54, u55, u56, u57, u58, u59, u60, u61, u62, u63, u64, u65, u66, u67, u68, u69, u70, u71, u72, u73, u74, u75, u76, u77, u78, u79, u80, u81, u82, u83, u84, u85, u86, u87, u88, u89, u90, u91, u92, u93, u94, u95, u96, u97, u98, u99, u100, u101, u102, u103, u104, u105, u106, u107, u108, u109, u110, u111, u112, u113, u114, u115, u116, u117, u118, u119, u120, u121, u122, u123, u124, u125, u126, u127, u128, v129, v130, v131, v132, v133, v134, u135, u136, u137, u138, u139, u140, u141, u142, u143, u144, u145, u146, u147, u148, u149, u150, u151, u152, u153, u154, u155, u156, u157, u158, u159, u160, u161, u162, u163, u164, u165, u166, u167, u168, u169, u170, u171, u172, u173, u174, u175, u176, u177, u178, u179, u180, u181], []⟩ wx) :
    Code.wp Tryd.prog C Q ⟨#[.slice (some ⟨g, o, none⟩) nn cc, u1, u2, u3, u4, u5, u6, u7, u8, u9, u10, u11, u12, u13, u14, u15, u16, u17, .slice Ad K.length cd, u19, u20, u21, u22, u23, u24, u25, u26, u27, u28, u29, u30, u31, u32, u33, u34, u35, u36, u37, u38, u39, u40, u41, u42, u43, u44, u45, u46, u47, u48, u49, u50, u51, u52, u53, u54, u55, u56, u57, u58, u59, u60, u61, u62, u63, u64, u65, u66, u67, u68, u69, u70, u71, u72, u73, u74, u75, u76, u77, u78, u79, u80, u81, u82, u83, u84, u85, u86, u87, u88, u89, u90, u91, u92, u93, u94, u95, u96, u97, u98, u99, u100, u101, u102, u103, u104, u105, u106, u107, u108, u109, u110, u111, u112, u113, u114, u115, u116, u117, u118, u119, u120, u121, u122, u123, u124, u125, u126, u127, u128, u129, u130, u131, u132, u133, u134, u135, u136, u137, u138, u139, u140, u141, u142, u143, u144, u145, u146, u147, u148, u149, u150, u151, u152, u153, u154, u155, u156, u157, u158, u159, u160, u161, u162, u163, u164, u165, u166, u167, u168, u169, u170, u171, u172, u173, u174, u175, u176, u177, u178, u179, u180, u181], []⟩ X := by
  subst hC
  conv => arg 2; whnf
  have HQ := Lib.hid hQ
  clear hQ
  obtain ⟨t0, t1, t2, t3, t4⟩ := HTC.out X HB.out
  rw [Nat.zero_mul, Nat.add_zero] at t0 t1 t2 t3 t4
  clear HTC
  obtain ⟨i0, hi0, hz0, hz1, hz2⟩ := info_parts info_term5
  have HOA : Hid ((X.alloc (.cells #[.int .i64 k, .int .i64 n, .int .i64 e, .bool b, .slice A kids.length cp] 31)).ownsRow B 31 5 (.slice Ad K.length cd) K.length (K.flatMap tc)) := own_fr HO.out (Fr.of_below (S := fun _ => False) ((Below.refl _ X).alloc (Nat.le_refl _) _)) (fun _ _ _ h => h)
  have HNW : Hid (∀ j y, ([.int .i64 k, .int .i64 n, .int .i64 e, .bool b, .slice A kids.length cp] : List Value)[j]? = some y → (X.alloc (.cells #[.int .i64 k, .int .i64 n, .int .i64 e, .bool b, .slice A kids.length cp] 31)).cell? ((⟨X.heap.size, 0, none⟩ : Addr).add j) = some y) := cells_new X [.int .i64 k, .int .i64 n, .int .i64 e, .bool b, .slice A kids.length cp] _ _ rfl
  have HBS := Lib.hid hbs
  have HK4 := Lib.hid hk
  clear hbs hk
  go_wp2_with (at_builtin; (refine wpList_append_lies (X.alloc (.cells #[.int .i64 k, .int .i64 n, .int .i64 e, .bool b, .slice A kids.length cp] 31)) rfl (.tmp 129) (.tmp 133) 29 rfl B 31 i0 _ 5 56 Tryd.underlying29 hi0 hz0 hz1 hz2 rfl (by decide) (.slice Ad K.length cd) K.length _ (by rfl) HOA.out ⟨X.heap.size, 0, none⟩ 1 1 [.int .i64 k, .int .i64 n, .int .i64 e, .bool b, .slice A kids.length cp] (by rfl) rfl HNW.out (by simp [Value.oneCell']) (by decide) (by have := HK4.out; simp only [maxLen]; omega) (by have := HK4.out; omega) (by have := HBS.out; simp; omega) (X.heap.size + 1) (by simp) ?_; intro gn cn w5 g1 g2 g3 _; simp only [Act.put, List.setIfInBounds_toArray, List.set_cons_zero, List.set_cons_succ]))
  refine HQ.out _ _ _ _ _ _ _ gn cn ⟨?_, ?_⟩
  · rw [List.length_append, List.flatMap_append]; exact g1
  · exact (((Below.refl _ X).alloc (Nat.le_refl _) _).mono HBS.out).trans ((Below.refl _ _).grown g2 (by have := HBS.out; simp; omega) (fun k hk => (own_lt HOA.out k hk).1))
end Go.Proofs.YticlmkfifpkdpaaDoor.Dl
