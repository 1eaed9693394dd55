/-
  The walk of IncludeCopies.
-/
import Derived.Test.YticakdajhmfpoaaIncCopies
import Derived.Test.YticakdajhmfpoaaIncGuard
import Derived.Test.YticakdajhmfpoaaRow
import Derived.Test.YticakdajhmfpoaaIncSame
import Derived.Test.YticakdajhmfpoaaIncHead2
import Derived.Laws.StructEq
namespace Go.Proofs.Yticakdajhmfpoaa
open Go.RowKit Mem Vw Rs Ic
set_option linter.unusedVariables false
set_option linter.unusedSimpArgs false

theorem let_at : ∀ i, i < 26 → (⟨#[97, 98, 99, 100, 101, 102, 103, 104, 105, 106, 107, 108, 109, 110, 111, 112, 113, 114, 115, 116, 117, 118, 119, 120, 121, 122]⟩ : ByteArray).extract i (i + 1) = ⟨#[letter i]⟩ := by decide +kernel
theorem slice_let (i : Nat) (h : i < 26) (w : World) : (Instr.slice 9 (.string ⟨#[97, 98, 99, 100, 101, 102, 103, 104, 105, 106, 107, 108, 109, 110, 111, 112, 113, 114, 115, 116, 117, 118, 119, 120, 121, 122]⟩) (some (.int .i64 (i : Int))) (some (.int .i64 ((i : Int) + 1))) none).run Try.prog w = .ok (.string ⟨#[letter i]⟩) w := by
  rw [run_slice_string w 9 _ .i64  .i64 (i : Int) ((i : Int) + 1) Try.underlying9 (by omega) (by omega) (by show _ ≤ ((26 : Nat) : Int); omega)]
  rw [show ((i : Int) + 1).toNat = i + 1 by omega, Int.toNat_natCast, let_at i h]
def copX (a : Int) (i : Nat) (d : Int) (f : Bool) : Rs.Item := { itC with kind := a, name := [letter i], of_ := qr, act := qa, times := i, within := ⟨d, false, []⟩, fin := f }
theorem cop_cells (ks ds : List Int) (i : Nat) (a b c d : Value) : icells (copX (9 + (ks.getD i 0).tmod 4) i (ds.getD i 0) (decide (99 < ks.getD i 0))) a b c d = icells (cop ks ds i) a b c d := rfl
theorem build_cop (a : Int) (i : Nat) (d : Int) (f : Bool) (w : World) : (Instr.build 41 #[(0, .int .i64 a), (1, .string ⟨#[letter i]⟩), (3, .string ⟨#[63, 114]⟩), (4, .string ⟨#[63, 97]⟩), (6, .int .i64 i), (7, .agg #[.int .i64 d, .bool false, .string ⟨#[]⟩]), (15, .bool f)]).run Try.prog w = .ok (.agg (icells (copX a i d f) Vw.nil Vw.nil Vw.nil Vw.nil).toArray) w := by kernel_rfl
theorem build_tm (b : Nat) (w : World) : (Instr.build 41 #[(0, .int .i64 13), (1, .string ⟨#[116]⟩), (20, .slice (some ⟨b, 0, none⟩) 2 2)]).run Try.prog w = .ok (.agg (icells tmplI Vw.nil Vw.nil (two b) Vw.nil).toArray) w := by kernel_rfl
theorem build_in (role act : Rs.Bytes) (b : Nat) (w : World) : (Instr.build 41 #[(0, .int .i64 14), (3, .string ⟨#[116]⟩), (1, .string ⟨#[112]⟩), (20, .slice (some ⟨b, 0, none⟩) 2 2), (2, .int .i64 5)]).run Try.prog w = .ok (.agg (icells (inclI role act) Vw.nil Vw.nil (two b) Vw.nil).toArray) w := by kernel_rfl
theorem run_build {P : Program} {ev : Operand → Value} {o : Oper} {w : World} (t : TypeId) (parts : Array (Nat × Operand)) (hop : o.op = .build t parts) (ps : Array (Nat × Value)) (hp : parts.map (fun (i, x) => (i, ev x)) = ps) (v : Value) (hb : (Instr.build t ps).run P w = .ok v w) : (execOp ev o).run P w = .ok (.value v) w := by
  simp [execOp, hop, hp, hb, Result.andThen]
theorem one_cop (h : Rs.Item) (A : Option Addr) (n c : Nat) : (icells h (.slice A n c) Vw.nil Vw.nil Vw.nil).toArray.all (·.oneCell') = true := by simp [icells, Value.oneCell', sv, nv, Vw.nil]
theorem one_tm (h : Rs.Item) (b : Nat) (A : Option Addr) (n c : Nat) : (icells h Vw.nil Vw.nil (two b) (.slice A n c)).toArray.all (·.oneCell') = true := by simp [icells, two, Value.oneCell', sv, nv, Vw.nil]
def V9 (k : Nat) (kk dd : Int) (v13 : Value) (X X' : World) : Prop := ∃ gx, v13 = .pointer (some ⟨gx, 0, none⟩) ∧ X.heap.size ≤ gx ∧ Fr (fun _ => False) X X' ∧ X'.heap[gx]? = some (.cells (icells (copX (9 + kk.tmod 4) k dd (decide (99 < kk))) Vw.nil Vw.nil Vw.nil Vw.nil).toArray 41 (0, 0))
/-- The template being built. -/
structure Tb (gn bo : Nat) (ks ds : List Int) (k : Nat) (ts : List DT) (iv : Value) (Wb w : World) : Prop where
  sz : bo ≤ Wb.heap.size
  blk : w.heap[gn + 1]? = some (.cells (icells tmplI Vw.nil Vw.nil (two gn) iv).toArray 41 (0, 0))
  own : w.ownsRow bo 41 33 iv ts.length (ts.flatMap DT.cells)
  ne : iv.ownBlock ≠ some (gn + 1)
  fr : Fr (fun g => g = gn + 1 ∨ bo ≤ g) Wb w
  lay : ∀ x ∈ ts, Lay (fun g => bo ≤ g ∧ iv.ownBlock ≠ some g) w x
  tr : ts.map DT.tree = copTs ks ds k
def inclD (role act : Rs.Bytes) (g : Nat) : DT := .node (inclI role act) Vw.nil Vw.nil (two g) Vw.nil []
def tmplD (gn : Nat) (A : Option Addr) (c : Nat) (ts : List DT) : DT := .node tmplI Vw.nil Vw.nil (two gn) (.slice A ts.length c) ts
theorem bsl_cop (role act : Rs.Bytes) (g gn : Nat) (A : Option Addr) (c : Nat) (ts : List DT) (w : World) : (Instr.buildSlice 24 2 #[(0, .agg (inclD role act g).cells.toArray), (1, .agg (tmplD gn A c ts).cells.toArray)]).run Try.prog w = .ok (.slice (some ⟨w.heap.size, 0, none⟩) 2 2) (w.alloc (.cells ([inclD role act g, tmplD gn A c ts].map DT.cells).flatten.toArray 41)) := by kernel_rfl
theorem wf8 {z : Int} (h : (Lit.int .u8 z).wf = true) : 0 ≤ z ∧ z ≤ 255 := by
  have h2 : (decide (IntKind.u8.min ≤ z) && decide (z ≤ IntKind.u8.max)) = true := h
  rw [Bool.and_eq_true, decide_eq_true_eq, decide_eq_true_eq] at h2
  exact h2
theorem wf16 {z : Int} (h : (Lit.int .u16 z).wf = true) : 0 ≤ z ∧ z ≤ 65535 := by
  have h2 : (decide (IntKind.u16.min ≤ z) && decide (z ≤ IntKind.u16.max)) = true := h
  rw [Bool.and_eq_true, decide_eq_true_eq, decide_eq_true_eq] at h2
  exact h2
theorem copTs_next (ks ds : List Int) (k : Nat) : copTs ks ds (k + 1) = copTs ks ds k ++ [.node (cop ks ds k) []] := by
  unfold copTs
  rw [List.range_succ, List.map_append]
  rfl
theorem Tb.next {gn bo : Nat} {ks ds : List Int} {k : Nat} {ts : List DT} {iv : Value} {Wb wr w5 w6 : World} {x : DT} {g2 cn : Nat} (h : Tb gn bo ks ds k ts iv Wb wr) (hg : gn + 1 < bo) (hf : Fr (fun _ => False) wr w5) (hx : Lay (fun g => wr.heap.size ≤ g) w5 x) (hxt : x.tree = .node (cop ks ds k) [])
    (k1 : w6.ownsRow bo 41 33 (.slice (some ⟨g2, 0, none⟩) (ts.length + 1) cn) (ts.length + 1) (ts.flatMap DT.cells ++ x.cells)) (k2 : w5.grownBy w6 iv.ownBlock) (k3 : iv.ownBlock = some g2 ∨ g2 = w5.heap.size) :
    Tb gn bo ks ds (k + 1) (ts ++ [x]) (.slice (some ⟨g2, 0, none⟩) (ts.length + 1) cn) Wb (w6.setCell ⟨gn + 1, 32, none⟩ (.slice (some ⟨g2, 0, none⟩) (ts.length + 1) cn)) := by
  have hgt := lt_of_blk h.blk
  have hne : g2 ≠ gn + 1 := fun e => by
    rcases k3 with k3 | k3
    · exact h.ne (by rw [k3, e])
    · have := hf.size; omega
  have hgr := Fr.of_grown k2
  have hb6 : w6.heap[gn + 1]? = some (.cells (icells tmplI Vw.nil Vw.nil (two gn) iv).toArray 41 (0, 0)) := hgr.blk (hf.blk h.blk (fun e => e)) (fun e => h.ne e)
  have hfs : Fr (fun g => g = gn + 1) w6 (w6.setCell ⟨gn + 1, 32, none⟩ (.slice (some ⟨g2, 0, none⟩) (ts.length + 1) cn)) := (Fr.refl (fun g => g = gn + 1) w6).setb 32 _
  have ho : ∀ g, iv.ownBlock = some g → bo ≤ g ∧ g < wr.heap.size := fun g e => own_lt h.own g e
  have e1 : (ts ++ [x]).length = ts.length + 1 := by simp
  have e2 : (ts ++ [x]).flatMap DT.cells = ts.flatMap DT.cells ++ x.cells := by simp [List.flatMap_append]
  have key : ∀ d : DT, Lay (fun g => (bo ≤ g ∧ iv.ownBlock ≠ some g) ∧ g < w5.heap.size) w5 d → Lay (fun g => bo ≤ g ∧ (Value.slice (some ⟨g2, 0, none⟩) (ts.length + 1) cn).ownBlock ≠ some g) (w6.setCell ⟨gn + 1, 32, none⟩ (.slice (some ⟨g2, 0, none⟩) (ts.length + 1) cn)) d := fun d hd => by
    refine ((hd.fr hgr (fun g hg2 e => hg2.1.2 e)).fr hfs (fun g hg2 e => by omega)).mono (fun g _ h4 => ⟨h4.1.1, fun e => ?_⟩)
    have : g2 = g := by simpa [Value.ownBlock] using e
    subst this
    rcases k3 with k3 | k3
    · exact h4.1.2 k3
    · omega
  refine ⟨h.sz, ?_, ?_, by simpa [Value.ownBlock] using hne, ?_, fun d hd => ?_, ?_⟩
  · have := blk_set hb6 32 (.slice (some ⟨g2, 0, none⟩) (ts.length + 1) cn)
    exact this
  · rw [e1, e2]
    exact own_frb k1 hfs (fun k hk e => by
      have : g2 = k := by simpa [Value.ownBlock] using hk
      omega)
  · exact ((h.fr.trans' hf (fun _ _ e => e.elim)).grown k2 (fun g e => .inl (.inr (ho g e).1))).trans' hfs (fun g _ e => .inl e)
  · rcases List.mem_append.1 hd with hd | hd
    · exact key d (((h.lay d hd).mono (C := fun g => (bo ≤ g ∧ iv.ownBlock ≠ some g) ∧ g < wr.heap.size) (fun g a b => ⟨b, a⟩)).fr hf (fun _ _ e => e) |>.mono (fun g _ hg2 => ⟨hg2.1, by have := hf.size; omega⟩))
    · simp only [List.mem_cons, List.not_mem_nil, or_false] at hd
      subst hd
      exact key d (hx.mono (fun g a b => ⟨⟨by have := h.fr.size; have := h.sz; omega, fun e => by have := ho g e; omega⟩, a⟩))
  · rw [List.map_append, h.tr, List.map_cons, List.map_nil, hxt, copTs_next]
set_option maxRecDepth 100000 in
set_option maxHeartbeats 16000000 in
theorem copies_r9 {X : World} {g0 o0 g1 o1 n m cn cm k : Nat} {kk dd : Int} {u2 u3 u4 u5 u6 u7 u8 u9 u10 u13 u14 u15 u16 u17 u18 u19 u20 u21 u22 u23 u24 u25 u26 u27 u28 u29 u30 u31 u32 u33 u34 u35 u36 u37 u38 u39 u40 u41 u42 u43 u44 u45 u46 u47 u48 u49 u50 u51 u52 u53 u54 u55 u56 u57 u58 u59 u60 u61 u62 u63 u64 u65 u66 u67 u68 u69 u70 u71 u72 u73 u74 u75 u76 u77 u78 u79 u80 u81 u82 u83 u84 u85 u86 u87 u88 u89 u90 u91 u92 u93 u94 u95 u96 u97 u98 u99 u100 u101 u102 u103 u104 u105 u106 u107 u108 u109 u110 u111 u112 u113 u114 u115 u116 u117 u118 u119 u120 u121 u122 u123 u124 u125 u126 u127 u128 u129 u130 u131 u132 u133 u134 u135 u136 u137 u138 u139 u140 u141 u142 u143 u144 u145 u146 u147 u148 u149 u150 u151 u152 u153 u154 u155 u156 u157 u158 u159 u160 u161 u162 u163 u164 u165 u166 u167 u168 u169 u170 u171 u172 u173 u174 u175 u176 u177 u178 u179 u180 u181 u182 u183 u184 u185 u186 u187 u188 u189 u190 u191 u192 u193 u194 u195 u196 u197 u198 u199 u200 u201 u202 u203 u204 u205 u206 u207 u208 u209 u210 u211 u212 u213 u214 u215 u216 u217 u218 u219 u220 u221 u222 u223 u224 u225 u226 u227 u228 u229 u230 u231 u232 u233 u234 : Value} {Q : Exit → Act → World → Prop} {C : Code} (hC : C = Cut.region Try.f8 9) (hc0 : X.cell? ⟨g0, o0 + k, none⟩ = some (.int .u8 kk)) (hc1 : X.cell? ⟨g1, o1 + k, none⟩ = some (.int .u16 dd)) (hkn : k < n) (hkm : k < m) (hn : n ≤ 20) (hm : m ≤ 9223372036854775807) (hk0 : 0 ≤ kk) (hk1 : kk ≤ 255) (hd0 : 0 ≤ dd) (hd1 : dd ≤ 65535) (hP : Cut.Blind Q)
    (hQ : ∀ (v13 v56 v57 v58 v59 v60 v61 v62 v63 v64 v65 v66 v67 v68 v69 v70 v71 v72 v73 v74 v75 v76 v77 v78 v79 v80 : Value) (wx : World), V9 k kk dd v13 X wx → Q .normal ⟨#[.slice (some ⟨g0, o0, none⟩) n cn, .slice (some ⟨g1, o1, none⟩) m cm, u2, u3, u4, u5, u6, u7, u8, u9, u10, .string ⟨#[97, 98, 99, 100, 101, 102, 103, 104, 105, 106, 107, 108, 109, 110, 111, 112, 113, 114, 115, 116, 117, 118, 119, 120, 121, 122]⟩, .int .i64 ((k : Nat) : Int), v13, u14, u15, u16, u17, u18, u19, u20, u21, u22, u23, u24, u25, u26, u27, u28, u29, u30, u31, u32, u33, u34, u35, u36, u37, u38, u39, u40, u41, u42, u43, u44, u45, u46, u47, u48, u49, u50, u51, u52, u53, u54, u55, v56, v57, v58, v59, v60, v61, v62, v63, v64, v65, v66, v67, v68, v69, v70, v71, v72, v73, v74, v75, v76, v77, v78, v79, v80, u81, u82, u83, u84, u85, u86, u87, u88, u89, u90, u91, u92, u93, u94, u95, u96, u97, u98, u99, u100, u101, u102, u103, u104, u105, u106, u107, u108, u109, u110, u111, u112, u113, u114, u115, u116, u117, u118, u119, u120, u121, u122, u123, u124, u125, u126, u127, u128, u129, u130, u131, u132, u133, u134, u135, u136, u137, u138, u139, u140, u141, u142, u143, u144, u145, u146, u147, u148, u149, u150, u151, u152, u153, u154, u155, u156, u157, u158, u159, u160, u161, u162, u163, u164, u165, u166, u167, u168, u169, u170, u171, u172, u173, u174, u175, u176, u177, u178, u179, u180, u181, u182, u183, u184, u185, u186, u187, u188, u189, u190, u191, u192, u193, u194, u195, u196, u197, u198, u199, u200, u201, u202, u203, u204, u205, u206, u207, u208, u209, u210, u211, u212, u213, u214, u215, u216, u217, u218, u219, u220, u221, u222, u223, u224, u225, u226, u227, u228, u229, u230, u231, u232, u233, u234], []⟩ wx) :
    Code.wp Try.prog C Q ⟨#[.slice (some ⟨g0, o0, none⟩) n cn, .slice (some ⟨g1, o1, none⟩) m cm, u2, u3, u4, u5, u6, u7, u8, u9, u10, .string ⟨#[97, 98, 99, 100, 101, 102, 103, 104, 105, 106, 107, 108, 109, 110, 111, 112, 113, 114, 115, 116, 117, 118, 119, 120, 121, 122]⟩, .int .i64 ((k : Nat) : Int), u13, u14, u15, u16, u17, u18, u19, u20, u21, u22, u23, u24, u25, u26, u27, u28, u29, u30, u31, u32, u33, u34, u35, u36, u37, u38, u39, u40, u41, u42, u43, u44, u45, u46, u47, u48, u49, u50, u51, u52, u53, u54, u55, u56, u57, u58, u59, u60, u61, u62, u63, u64, u65, u66, u67, u68, u69, u70, u71, u72, u73, u74, u75, u76, u77, u78, u79, u80, u81, u82, u83, u84, u85, u86, u87, u88, u89, u90, u91, u92, u93, u94, u95, u96, u97, u98, u99, u100, u101, u102, u103, u104, u105, u106, u107, u108, u109, u110, u111, u112, u113, u114, u115, u116, u117, u118, u119, u120, u121, u122, u123, u124, u125, u126, u127, u128, u129, u130, u131, u132, u133, u134, u135, u136, u137, u138, u139, u140, u141, u142, u143, u144, u145, u146, u147, u148, u149, u150, u151, u152, u153, u154, u155, u156, u157, u158, u159, u160, u161, u162, u163, u164, u165, u166, u167, u168, u169, u170, u171, u172, u173, u174, u175, u176, u177, u178, u179, u180, u181, u182, u183, u184, u185, u186, u187, u188, u189, u190, u191, u192, u193, u194, u195, u196, u197, u198, u199, u200, u201, u202, u203, u204, u205, u206, u207, u208, u209, u210, u211, u212, u213, u214, u215, u216, u217, u218, u219, u220, u221, u222, u223, u224, u225, u226, u227, u228, u229, u230, u231, u232, u233, u234], []⟩ X := by
  subst hC
  conv => arg 2; whnf
  refine Reg.G.start (by kernel_rfl) ?_
  obtain ⟨Xd, HXd⟩ : ∃ Y, Hid (X.drew = Y) := ⟨_, rfl⟩
  have HFD : Hid (Fr (fun _ => False) X Xd) := by rw [← HXd.out]; exact (Fr.refl _ X).drew
  have hsl := slice_let k (by omega)
  obtain ⟨t1, t2⟩ := tmod4 hk0
  have j0 : (0 : Int) ≤ (k : Int) := Int.natCast_nonneg _
  have j1 : (k : Int) < (n : Int) := by omega
  have j2 : (k : Int) < (m : Int) := by omega
  have j3 : (k : Int) + 1 ≤ 26 := by omega
  have q1 : IntKind.i64.wrap ((k : Int) + 1) = (k : Int) + 1 := Go.IntWalk.i64_in _ (by omega)
  have q2 : IntKind.i64.wrap (kk.tmod 4) = kk.tmod 4 := Go.IntWalk.i64_in _ (by omega)
  have q3 : IntKind.i64.wrap (9 + kk.tmod 4) = 9 + kk.tmod 4 := Go.IntWalk.i64_in _ (by omega)
  have q4 : IntKind.i64.wrap dd = dd := Go.IntWalk.i64_in _ (by omega)
  rw [HXd.out]
  clear HXd
  refine' Reg.G.pure (i := 0) (v := _) rfl (by rfl) (by kernel_rfl) (by kernel_rfl) (by kernel_rfl) (fun _ _ _ h => hP _ _ _ _ _ h) ?hyn1 ?rehyn1
  case hyn1 => exact fun w => by first | (go_simp; done) | (go_simp; with_reducible rfl)
  simp only [Act.put, List.setIfInBounds_toArray, List.set_cons_zero, List.set_cons_succ]
  refine' Reg.G.pure (i := 1) (v := _) rfl (by rfl) (by kernel_rfl) (by kernel_rfl) (by kernel_rfl) (fun _ _ _ h => hP _ _ _ _ _ h) ?hyn2 ?rehyn2
  case hyn2 => exact fun w => by first | (go_simp; done) | (go_simp; with_reducible rfl)
  simp only [Act.put, List.setIfInBounds_toArray, List.set_cons_zero, List.set_cons_succ]
  refine' Reg.G.pure (i := 2) (v := _) rfl (by rfl) (by kernel_rfl) (by kernel_rfl) (by kernel_rfl) (fun _ _ _ h => hP _ _ _ _ _ h) ?hyn3 ?rehyn3
  case hyn3 => exact fun w => by first | (go_simp; done) | (go_simp; with_reducible rfl)
  simp only [Act.put, List.setIfInBounds_toArray, List.set_cons_zero, List.set_cons_succ]
  refine' Reg.G.take (i := 3) (v := _) (F := (fun w => Fr (fun _ => False) X w)) rfl (by rfl) (by kernel_rfl) (by kernel_rfl) (by kernel_rfl) (fun _ _ _ h => hP _ _ _ _ _ h) (HFD.out) ?hyn4 ?rehyn4
  case hyn4 => intro w hw; have kc : w.cell? ⟨g0, o0 + k, none⟩ = some (.int .u8 kk) := cell_fr hw hc0; clear hw; first | (go_simp; done) | (go_simp; with_reducible rfl)
  simp only [Act.put, List.setIfInBounds_toArray, List.set_cons_zero, List.set_cons_succ]
  refine' Reg.G.pure (i := 4) (v := _) rfl (by rfl) (by kernel_rfl) (by kernel_rfl) (by kernel_rfl) (fun _ _ _ h => hP _ _ _ _ _ h) ?hyn5 ?rehyn5
  case hyn5 => exact fun w => by first | (go_simp; done) | (go_simp; with_reducible rfl)
  simp only [Act.put, List.setIfInBounds_toArray, List.set_cons_zero, List.set_cons_succ]
  refine' Reg.G.pure (i := 5) (v := _) rfl (by rfl) (by kernel_rfl) (by kernel_rfl) (by kernel_rfl) (fun _ _ _ h => hP _ _ _ _ _ h) ?hyn6 ?rehyn6
  case hyn6 => exact fun w => by first | (go_simp; done) | (go_simp; with_reducible rfl)
  simp only [Act.put, List.setIfInBounds_toArray, List.set_cons_zero, List.set_cons_succ]
  refine' Reg.G.pure (i := 6) (v := _) rfl (by rfl) (by kernel_rfl) (by kernel_rfl) (by kernel_rfl) (fun _ _ _ h => hP _ _ _ _ _ h) ?hyn7 ?rehyn7
  case hyn7 => exact fun w => by first | (go_simp; done) | (go_simp; with_reducible rfl)
  simp only [Act.put, List.setIfInBounds_toArray, List.set_cons_zero, List.set_cons_succ]
  refine' Reg.G.pure (i := 7) (v := _) rfl (by rfl) (by kernel_rfl) (by kernel_rfl) (by kernel_rfl) (fun _ _ _ h => hP _ _ _ _ _ h) ?hyn8 ?rehyn8
  case hyn8 => exact fun w => by first | (go_simp; done) | (go_simp; with_reducible rfl)
  simp only [Act.put, List.setIfInBounds_toArray, List.set_cons_zero, List.set_cons_succ]
  refine' Reg.G.pure (i := 8) (v := _) rfl (by rfl) (by kernel_rfl) (by kernel_rfl) (by kernel_rfl) (fun _ _ _ h => hP _ _ _ _ _ h) ?hyn9 ?rehyn9
  case hyn9 => exact fun w => by first | (go_simp; done) | (go_simp; with_reducible rfl)
  simp only [Act.put, List.setIfInBounds_toArray, List.set_cons_zero, List.set_cons_succ]
  refine' Reg.G.pure (i := 9) (v := _) rfl (by rfl) (by kernel_rfl) (by kernel_rfl) (by kernel_rfl) (fun _ _ _ h => hP _ _ _ _ _ h) ?hyn10 ?rehyn10
  case hyn10 => exact fun w => by first | (go_simp; done) | (go_simp; with_reducible rfl)
  simp only [Act.put, List.setIfInBounds_toArray, List.set_cons_zero, List.set_cons_succ]
  refine' Reg.G.pure (i := 10) (v := _) rfl (by rfl) (by kernel_rfl) (by kernel_rfl) (by kernel_rfl) (fun _ _ _ h => hP _ _ _ _ _ h) ?hyn11 ?rehyn11
  case hyn11 => exact fun w => by first | (go_simp; done) | (go_simp; with_reducible rfl)
  simp only [Act.put, List.setIfInBounds_toArray, List.set_cons_zero, List.set_cons_succ]
  refine' Reg.G.pure (i := 11) (v := _) rfl (by rfl) (by kernel_rfl) (by kernel_rfl) (by kernel_rfl) (fun _ _ _ h => hP _ _ _ _ _ h) ?hyn12 ?rehyn12
  case hyn12 => exact fun w => by first | (go_simp; done) | (go_simp; with_reducible rfl)
  simp only [Act.put, List.setIfInBounds_toArray, List.set_cons_zero, List.set_cons_succ]
  refine' Reg.G.pure (i := 12) (v := _) rfl (by rfl) (by kernel_rfl) (by kernel_rfl) (by kernel_rfl) (fun _ _ _ h => hP _ _ _ _ _ h) ?hyn13 ?rehyn13
  case hyn13 => exact fun w => by first | (go_simp; done) | (go_simp; with_reducible rfl)
  simp only [Act.put, List.setIfInBounds_toArray, List.set_cons_zero, List.set_cons_succ]
  refine' Reg.G.pure (i := 13) (v := _) rfl (by rfl) (by kernel_rfl) (by kernel_rfl) (by kernel_rfl) (fun _ _ _ h => hP _ _ _ _ _ h) ?hyn14 ?rehyn14
  case hyn14 => exact fun w => by first | (go_simp; done) | (go_simp; with_reducible rfl)
  simp only [Act.put, List.setIfInBounds_toArray, List.set_cons_zero, List.set_cons_succ]
  refine' Reg.G.pure (i := 14) (v := _) rfl (by rfl) (by kernel_rfl) (by kernel_rfl) (by kernel_rfl) (fun _ _ _ h => hP _ _ _ _ _ h) ?hyn15 ?rehyn15
  case hyn15 => exact fun w => by first | (go_simp; done) | (go_simp; with_reducible rfl)
  simp only [Act.put, List.setIfInBounds_toArray, List.set_cons_zero, List.set_cons_succ]
  refine' Reg.G.pure (i := 15) (v := _) rfl (by rfl) (by kernel_rfl) (by kernel_rfl) (by kernel_rfl) (fun _ _ _ h => hP _ _ _ _ _ h) ?hyn16 ?rehyn16
  case hyn16 => exact fun w => by first | (go_simp; done) | (go_simp; with_reducible rfl)
  simp only [Act.put, List.setIfInBounds_toArray, List.set_cons_zero, List.set_cons_succ]
  refine' Reg.G.take (i := 16) (v := _) (F := (fun w => Fr (fun _ => False) X w)) rfl (by rfl) (by kernel_rfl) (by kernel_rfl) (by kernel_rfl) (fun _ _ _ h => hP _ _ _ _ _ h) (HFD.out) ?hyn17 ?rehyn17
  case hyn17 => intro w hw; have kc : w.cell? ⟨g1, o1 + k, none⟩ = some (.int .u16 dd) := cell_fr hw hc1; clear hw; first | (go_simp; done) | (go_simp; with_reducible rfl)
  simp only [Act.put, List.setIfInBounds_toArray, List.set_cons_zero, List.set_cons_succ]
  refine' Reg.G.pure (i := 17) (v := _) rfl (by rfl) (by kernel_rfl) (by kernel_rfl) (by kernel_rfl) (fun _ _ _ h => hP _ _ _ _ _ h) ?hyn18 ?rehyn18
  case hyn18 => exact fun w => by first | (go_simp; done) | (go_simp; with_reducible rfl)
  simp only [Act.put, List.setIfInBounds_toArray, List.set_cons_zero, List.set_cons_succ]
  refine' Reg.G.pure (i := 18) (v := _) rfl (by rfl) (by kernel_rfl) (by kernel_rfl) (by kernel_rfl) (fun _ _ _ h => hP _ _ _ _ _ h) ?hyn19 ?rehyn19
  case hyn19 => exact fun w => by first | (go_simp; done) | (go_simp; with_reducible rfl)
  simp only [Act.put, List.setIfInBounds_toArray, List.set_cons_zero, List.set_cons_succ]
  refine' Reg.G.pure (i := 19) (v := _) rfl (by rfl) (by kernel_rfl) (by kernel_rfl) (by kernel_rfl) (fun _ _ _ h => hP _ _ _ _ _ h) ?hyn20 ?rehyn20
  case hyn20 => exact fun w => by first | (go_simp; done) | (go_simp; with_reducible rfl)
  simp only [Act.put, List.setIfInBounds_toArray, List.set_cons_zero, List.set_cons_succ]
  refine' Reg.G.pure (i := 20) (v := _) rfl (by rfl) (by kernel_rfl) (by kernel_rfl) (by kernel_rfl) (fun _ _ _ h => hP _ _ _ _ _ h) ?hyn21 ?rehyn21
  case hyn21 => exact fun w => by first | (go_simp; done) | (go_simp; with_reducible rfl)
  simp only [Act.put, List.setIfInBounds_toArray, List.set_cons_zero, List.set_cons_succ]
  refine' Reg.G.pure (i := 21) (v := _) rfl (by rfl) (by kernel_rfl) (by kernel_rfl) (by kernel_rfl) (fun _ _ _ h => hP _ _ _ _ _ h) ?hyn22 ?rehyn22
  case hyn22 => exact fun w => by first | (go_simp; done) | (go_simp; with_reducible rfl)
  simp only [Act.put, List.setIfInBounds_toArray, List.set_cons_zero, List.set_cons_succ]
  refine' Reg.G.take (i := 22) (v := _) (F := (fun w => Fr (fun _ => False) X w)) rfl (by rfl) (by kernel_rfl) (by kernel_rfl) (by kernel_rfl) (fun _ _ _ h => hP _ _ _ _ _ h) (HFD.out) ?hyn23 ?rehyn23
  case hyn23 => intro w hw; have kc : w.cell? ⟨g0, o0 + k, none⟩ = some (.int .u8 kk) := cell_fr hw hc0; clear hw; first | (go_simp; done) | (go_simp; with_reducible rfl)
  simp only [Act.put, List.setIfInBounds_toArray, List.set_cons_zero, List.set_cons_succ]
  refine' Reg.G.pure (i := 23) (v := _) rfl (by rfl) (by kernel_rfl) (by kernel_rfl) (by kernel_rfl) (fun _ _ _ h => hP _ _ _ _ _ h) ?hyn24 ?rehyn24
  case hyn24 => exact fun w => by first | (go_simp; done) | (go_simp; with_reducible rfl)
  simp only [Act.put, List.setIfInBounds_toArray, List.set_cons_zero, List.set_cons_succ]
  refine' Reg.G.pure (i := 24) (v := .agg (icells (copX (9 + kk.tmod 4) k dd (decide (99 < kk))) Vw.nil Vw.nil Vw.nil Vw.nil).toArray) rfl (by rfl) (by kernel_rfl) (by kernel_rfl) (by kernel_rfl) (fun _ _ _ h => hP _ _ _ _ _ h) ?hyn25 ?rehyn25
  case hyn25 => exact fun w => run_build 41 _ rfl #[(0, .int .i64 (9 + kk.tmod 4)), (1, .string ⟨#[letter k]⟩), (3, .string ⟨#[63, 114]⟩), (4, .string ⟨#[63, 97]⟩), (6, .int .i64 k), (7, .agg #[.int .i64 dd, .bool false, .string ⟨#[]⟩]), (15, .bool (decide (99 < kk)))] (by go_simp) _ (build_cop _ _ _ _ _)
  simp only [Act.put, List.setIfInBounds_toArray, List.set_cons_zero, List.set_cons_succ]
  refine Reg.G.step (j := 25) (m := [true, true, true]) [22, 16, 3] rfl (by kernel_rfl) rfl (by kernel_rfl) (fun K hK => ?_)
  go_simp
  obtain ⟨y1, hu⟩ : ∃ u, Xd.alloc (.cells #[.int .i64 0, .string ⟨#[]⟩, .int .i64 0, .string ⟨#[]⟩, .string ⟨#[]⟩, .int .i64 0, .int .i64 0, .int .i64 0, .bool false, .string ⟨#[]⟩, .int .i64 0, .bool false, .string ⟨#[]⟩, .slice none 0 0, .string ⟨#[]⟩, .string ⟨#[]⟩, .int .i64 0, .int .i64 0, .string ⟨#[]⟩, .string ⟨#[]⟩, .bool false, .string ⟨#[]⟩, .string ⟨#[]⟩, .bool false, .bool false, .bool false, .bool false, .bool false, .bool false, .bool false, .slice none 0 0, .slice none 0 0, .slice none 0 0] 41) = u := ⟨_, rfl⟩
  rw [hu]
  have HF1 : Hid (Fr (fun _ => False) X y1) := by rw [← hu]; exact HFD.out.alloc _
  obtain ⟨gx, hgx⟩ : ∃ g, Xd.heap.size = g := ⟨_, rfl⟩
  rw [hgx]
  have HGX : Hid (X.heap.size ≤ gx) := by rw [← hgx]; exact HFD.out.size
  have HBX : Hid (y1.heap[gx]? = some (.cells #[.int .i64 0, .string ⟨#[]⟩, .int .i64 0, .string ⟨#[]⟩, .string ⟨#[]⟩, .int .i64 0, .int .i64 0, .int .i64 0, .bool false, .string ⟨#[]⟩, .int .i64 0, .bool false, .string ⟨#[]⟩, .slice none 0 0, .string ⟨#[]⟩, .string ⟨#[]⟩, .int .i64 0, .int .i64 0, .string ⟨#[]⟩, .string ⟨#[]⟩, .bool false, .string ⟨#[]⟩, .string ⟨#[]⟩, .bool false, .bool false, .bool false, .bool false, .bool false, .bool false, .bool false, .slice none 0 0, .slice none 0 0, .slice none 0 0] 41 (0, 0))) := by rw [← hu, ← hgx]; exact blk_newn rfl
  clear hu hgx
  refine hK.out _ _ ⟨HF1.out, HF1.out, HF1.out, trivial⟩ ?_
  clear hK K
  simp only [Act.put, List.setIfInBounds_toArray, List.set_cons_zero, List.set_cons_succ, Reg.Kept]
  refine Reg.G.step (j := 26) (m := [false, false, false]) [22, 16, 3] rfl (by kernel_rfl) rfl (by kernel_rfl) (fun K hK => ?_)
  refine wp_store_row 41 _ _ rfl gx (icells (copX (9 + kk.tmod 4) k dd (decide (99 < kk))) Vw.nil Vw.nil Vw.nil Vw.nil).toArray rfl rfl 41 _ HBX.out (by rw [info_item]; rfl) rfl (one_cop _ _ _ _) ?_
  obtain ⟨y2, hu⟩ : ∃ u, y1.setRow gx (icells (copX (9 + kk.tmod 4) k dd (decide (99 < kk))) Vw.nil Vw.nil Vw.nil Vw.nil).toArray = u := ⟨_, rfl⟩
  rw [hu]
  have HBY : Hid (y2.heap[gx]? = some (.cells (icells (copX (9 + kk.tmod 4) k dd (decide (99 < kk))) Vw.nil Vw.nil Vw.nil Vw.nil).toArray 41 (0, 0))) := by rw [← hu]; exact blk_row HBX.out _
  have HF2 : Hid (Fr (fun _ => False) X y2) := by rw [← hu]; exact HF1.out.setRow (.inr HGX.out) _
  clear hu
  refine hK.out _ _ trivial ?_
  clear hK K
  simp only [Act.put, List.setIfInBounds_toArray, List.set_cons_zero, List.set_cons_succ, Reg.Kept]
  refine Reg.G.done (by kernel_rfl) ?_
  exact hQ _ _ _ _ _ _ _ _ _ _ _ _ _ _ _ _ _ _ _ _ _ _ _ _ _ _ _ ⟨gx, rfl, HGX.out, HF2.out, HBY.out⟩
set_option maxRecDepth 100000 in
set_option maxHeartbeats 16000000 in
theorem walk_IncludeCopies (A0 : Option Addr) (c0 : Nat) (ks : List Int) (hks : ks.length ≤ maxLen) (A1 : Option Addr) (c1 : Nat) (dz : List Int) (hdz : dz.length ≤ maxLen) (ra : ByteArray) (hra : ra.size ≤ maxLen) (aa : ByteArray) (haa : aa.size ≤ maxLen) (W : World) (hr0 : IntRow .u8 W A0 ks) (hr1 : IntRow .u16 W A1 dz) :
    Calls Try.prog 8 #[.slice A0 ks.length c0, .slice A1 dz.length c1, .string ra, .string aa] W fun e w' => e = .returned (.bool true) ∧ Below W.heap.size W w' := by
  obtain ⟨role, hrole⟩ : ∃ l : Rs.Bytes, ra = ⟨l.toArray⟩ := ⟨ra.data.toList, by simp⟩
  obtain ⟨act, hact⟩ : ∃ l : Rs.Bytes, aa = ⟨l.toArray⟩ := ⟨aa.data.toList, by simp⟩
  subst hrole
  subst hact
  have hks : ks.length ≤ 9223372036854775807 := hks
  have hdz : dz.length ≤ 9223372036854775807 := hdz
  have hra : role.length ≤ 9223372036854775807 := hra
  have haa : act.length ≤ 9223372036854775807 := haa
  have HR0 := Lib.hid hr0; have HR1 := Lib.hid hr1
  clear hr0 hr1
  go_enter Try.func8, Try.ntmps8
  go_wp2_with fail
  refine (head_any _).mono ?_
  rintro e w1 ⟨rfl, hf1⟩
  have HF1 := Lib.hid hf1
  clear hf1
  go_upto_region 2 with fail
  by_cases q1 : 20 < ks.length
  · have i1 : (20 : Int) < (ks.length : Int) := by omega
    go_wp2_with fail
    go_ret
    exact ⟨rfl, HF1.out.below (Nat.le_refl _) (fun _ h => h.elim)⟩
  have i1 : ¬ (20 : Int) < (ks.length : Int) := by omega
  by_cases q2 : dz.length < ks.length
  · have i2 : (dz.length : Int) < (ks.length : Int) := by omega
    go_wp2_with fail
    go_ret
    exact ⟨rfl, HF1.out.below (Nat.le_refl _) (fun _ h => h.elim)⟩
  have i2 : ¬ (dz.length : Int) < (ks.length : Int) := by omega
  by_cases q3 : role = []
  · subst q3
    go_wp2_with fail
    go_ret
    exact ⟨rfl, HF1.out.below (Nat.le_refl _) (fun _ h => h.elim)⟩
  have k3 : (role == []) = false := by simpa using q3
  by_cases q4 : 24 < role.length
  · have i4 : (24 : Int) < (role.length : Int) := by omega
    go_wp2_with fail
    go_ret
    exact ⟨rfl, HF1.out.below (Nat.le_refl _) (fun _ h => h.elim)⟩
  have i4 : ¬ (24 : Int) < (role.length : Int) := by omega
  by_cases q5 : act = []
  · subst q5
    go_wp2_with fail
    go_ret
    exact ⟨rfl, HF1.out.below (Nat.le_refl _) (fun _ h => h.elim)⟩
  have k5 : (act == []) = false := by simpa using q5
  by_cases q6 : 24 < act.length
  · have i6 : (24 : Int) < (act.length : Int) := by omega
    go_wp2_with fail
    go_ret
    exact ⟨rfl, HF1.out.below (Nat.le_refl _) (fun _ h => h.elim)⟩
  have i6 : ¬ (24 : Int) < (act.length : Int) := by omega
  go_upto_region 4 with fail
  have HN20 : Hid (ks.length ≤ 20) := by show _ ≤ _; omega
  have HNM : Hid (ks.length ≤ dz.length) := by show _ ≤ _; omega
  clear i1 i2 k3 i4 k5 i6 q1 q2 q3 q4 q5 q6
  iterate 4 go_step
  obtain ⟨gn, hgn⟩ : ∃ g, w1.heap.size = g := ⟨_, rfl⟩
  rw [hgn]
  obtain ⟨w2, hu⟩ : ∃ u, w1.alloc (.cells #[.string ⟨#[63, 114]⟩, .string ⟨#[63, 97]⟩] 9) = u := ⟨_, rfl⟩
  rw [hu]
  have HB2 : Hid (w2.heap[gn]? = some (.cells #[.string ⟨#[63, 114]⟩, .string ⟨#[63, 97]⟩] 9 (0, 0))) := by rw [← hu]; exact blk_newn hgn.symm
  have HF2 : Hid (Fr (fun _ => False) w1 w2) := by rw [← hu]; exact (Fr.refl _ w1).alloc _
  have HS2 : Hid (w2.heap.size = gn + 1) := by show _ = _; rw [← hu, ← hgn]; simp
  have HGN : Hid (w1.heap.size = gn) := hgn
  clear hu hgn
  refine wpList_built rfl 41 _ rfl #[(0, .int .i64 13), (1, .string ⟨#[116]⟩), (20, .slice (some ⟨gn, 0, none⟩) 2 2)] (by go_simp) (.agg (icells tmplI Vw.nil Vw.nil (two gn) Vw.nil).toArray) (build_tm gn _) ?_
  simp only [Act.put, List.setIfInBounds_toArray, List.set_cons_zero, List.set_cons_succ]
  iterate 3 go_step
  refine wpList_store_row rfl 41 _ _ rfl w2.heap.size (icells tmplI Vw.nil Vw.nil (two gn) Vw.nil).toArray rfl rfl 41 _ (blk_newn rfl) (by rw [info_item]; rfl) rfl (one_tm _ _ _ _ _) ?_
  simp only [Act.put, List.setIfInBounds_toArray, List.set_cons_zero, List.set_cons_succ]
  rw [World.setRow_alloc_new, HS2.out]
  obtain ⟨w4, hn⟩ : ∃ u, w2.alloc (.cells (icells tmplI Vw.nil Vw.nil (two gn) Vw.nil).toArray 41) = u := ⟨_, rfl⟩
  rw [hn]
  have HB4 : Hid (w4.heap[gn + 1]? = some (.cells (icells tmplI Vw.nil Vw.nil (two gn) Vw.nil).toArray 41 (0, 0))) := by rw [← hn]; exact blk_newn HS2.out.symm
  have HF24 : Hid (Fr (fun _ => False) w2 w4) := by rw [← hn]; exact (Fr.refl _ w2).alloc _
  have HS4 : Hid (w4.heap.size = gn + 2) := by show _ = _; rw [← hn]; simp [HS2.out]
  clear hn
  have HNM4 : Hid (w4.heap[gn]? = some (.cells #[.string ⟨#[63, 114]⟩, .string ⟨#[63, 97]⟩] 9 (0, 0))) := HF24.out.blk HB2.out (fun h => h)
  have HFW4 : Hid (Fr (fun _ => False) W w4) := (HF1.out.trans HF2.out).trans HF24.out
  have HWG : Hid (W.heap.size ≤ gn) := by have h := HF1.out.size; have h2 := HGN.out; show _ ≤ _; omega
  have HT0 : Hid (Tb gn (gn + 2) ks dz 0 [] (.slice none 0 0) w4 w4) := ⟨by rw [HS4.out]; exact Nat.le_refl _, HB4.out, World.ownsRow_nil _ _ _ _, by simp [Value.ownBlock], Fr.refl _ _, fun x hx => absurd hx List.not_mem_nil, rfl⟩
  clear HB2 HF2 HS2 HB4 HF24 HF1 HGN
  go_wp2_with fail
  go_loopw [12] (fun i wr => ∃ (k : Nat) (ts : List DT) (iv : Value), i = .int .i64 k ∧ k ≤ ks.length ∧ Hid (Tb gn (gn + 2) ks dz k ts iv w4 wr)) (fun i _ => ks.length - (intOf i).toNat)
  case atStart => exact ⟨0, [], _, rfl, Nat.zero_le _, HT0⟩
  case round =>
    clear HT0
    obtain ⟨k, ts, iv, rfl, hk, HT⟩ := hrel
    have j0 : (0 : Int) ≤ (k : Int) := Int.natCast_nonneg _
    have HTL : Hid (ts.length = k) := by
      have h := congrArg List.length HT.out.tr
      rw [List.length_map] at h
      show _ = _
      rw [h]; unfold copTs; simp
    obtain ⟨Ao, co, hiv⟩ := own_form HT.out.own
    subst hiv
    by_cases hlt : k < ks.length
    · have j1 : (k : Int) < (ks.length : Int) := by omega
      obtain ⟨g0, o0, hA0, hg0, hc0⟩ := HR0.out.1 (by omega)
      obtain ⟨g1, o1, hA1, hg1, hc1⟩ := HR1.out.1 (by have := HNM.out; omega)
      subst hA0
      subst hA1
      have HKK := Lib.hid hlt
      have hkd : k < dz.length := by have := HNM.out; omega
      have e0 : ks[k] = ks.getD k 0 := by rw [List.getD_eq_getElem?_getD, List.getElem?_eq_getElem hlt]; rfl
      have e1 : dz[k] = dz.getD k 0 := by rw [List.getD_eq_getElem?_getD, List.getElem?_eq_getElem hkd]; rfl
      have hbel : Below W.heap.size W wr := ((HFW4.out.mono (T := fun g => W.heap.size ≤ g) (fun _ _ h => h.elim)).trans' HT.out.fr (fun g hg e => by have := HWG.out; omega)).below (Nat.le_refl _) (fun g hg => hg)
      have b0 : (Lit.int .u8 (ks.getD k 0)).wf = true := by rw [← e0]; exact HR0.out.2 _ (List.getElem_mem hlt)
      have b1 : (Lit.int .u16 (dz.getD k 0)).wf = true := by rw [← e1]; exact HR1.out.2 _ (List.getElem_mem hkd)
      have hc0 : wr.cell? ⟨g0, o0 + k, none⟩ = some (.int .u8 (ks.getD k 0)) := by rw [hbel.cell (p := ⟨g0, _, none⟩) hg0, hc0 k hlt]; exact congrArg (fun z => some (Value.int .u8 z)) e0
      have hc1 : wr.cell? ⟨g1, o1 + k, none⟩ = some (.int .u16 (dz.getD k 0)) := by rw [hbel.cell (p := ⟨g1, _, none⟩) hg1, hc1 k hkd]; exact congrArg (fun z => some (Value.int .u16 z)) e1
      obtain ⟨b2, b3⟩ := wf8 b0
      obtain ⟨b4, b5⟩ := wf16 b1
      have HC0 := Lib.hid hc0; have HC1 := Lib.hid hc1
      have HB2 := Lib.hid b2; have HB3 := Lib.hid b3; have HB4 := Lib.hid b4; have HB5 := Lib.hid b5
      clear hc0 hc1 b0 b1 b2 b3 b4 b5 e0 e1 hbel hg0 hg1
      go_upto_region 9 with fail
      refine copies_r9 (by kernel_rfl) HC0.out HC1.out HKK.out hkd HN20.out hdz HB2.out HB3.out HB4.out HB5.out (fun _ _ _ _ _ h => h) ?_
      intro v13 v56 v57 v58 v59 v60 v61 v62 v63 v64 v65 v66 v67 v68 v69 v70 v71 v72 v73 v74 v75 v76 v77 v78 v79 v80 w5 hv9
      obtain ⟨gx, rfl, hgx, hf5, hb5⟩ := hv9
      rw [cop_cells] at hb5
      have HGX := Lib.hid hgx
      have HF5a := Lib.hid hf5
      have HB5a := Lib.hid hb5
      dsimp only
      clear hgx hf5 hb5 HC0 HC1 HB2 HB3 HB4 HB5 hkd hlt
      by_cases hk0 : k = 0
      · have z1 : ¬ (0 : Int) < (k : Int) := by omega
        obtain ⟨x, hx⟩ : ∃ x, DT.node (cop ks dz k) Vw.nil Vw.nil Vw.nil Vw.nil [] = x := ⟨_, rfl⟩
        have HXT : Hid (x.tree = .node (cop ks dz k) []) := by show _ = _; rw [← hx, DT.tree]; rfl
        have HBX : Hid (w5.heap[gx]? = some (.cells x.cells.toArray 41 (0, 0))) := by rw [← hx]; exact HB5a.out
        have HLX : Hid (Lay (fun g => wr.heap.size ≤ g) w5 x) := by
          rw [← hx]
          exact lay_flat (by show (if k = 0 then _ else _) = _; rw [if_pos hk0]) rfl rfl
        have HF5 := HF5a
        clear hx hk0
        have k32 : w5.cell? ⟨gn + 1, 32, none⟩ = some (.slice Ao ts.length co) := (cell_of_blk (HF5.out.blk HT.out.blk (fun e => e)) 32).trans rfl
        go_upto_region 12 with fail
        iterate 7 go_step
        refine wpList_load_row rfl 41 _ rfl gx rfl 41 x.cells.toArray (0, 0) _ HBX.out Try.underlying41 rfl (info_it x) ?_
        simp only [Act.put, List.setIfInBounds_toArray, List.set_cons_zero, List.set_cons_succ]
        refine wpList_bsl1_g (o := ⟨some 95, _, _, _, _, _⟩) ?hwbw5 24 _ rfl (v0 := .agg x.cells.toArray) rfl (.slice (some ⟨w5.heap.size, 0, none⟩) 1 1) (w5.alloc (.cells x.cells.toArray 41)) ?hbw5 ?hqw5
        case hwbw5 => rfl
        case hbw5 => exact bsl_one HLX.out _
        simp only [Act.put, List.setIfInBounds_toArray, List.set_cons_zero, List.set_cons_succ]
        obtain ⟨u6, hu⟩ : ∃ u, w5.alloc (.cells x.cells.toArray 41) = u := ⟨_, rfl⟩
        rw [hu]
        have HF6 : Hid (Fr (fun _ => False) wr u6) := by rw [← hu]; exact HF5.out.alloc _
        have HLX6 : Hid (Lay (fun g => wr.heap.size ≤ g) u6 x) := by rw [← hu]; exact HLX.out.fr ((Fr.refl (fun _ => False) _).alloc _) (fun _ _ e => e)
        have HNA : Hid (∀ j y, x.cells[j]? = some y → u6.cell? ((⟨w5.heap.size, 0, none⟩ : Addr).add j) = some y) := by rw [← hu]; exact cells_new w5 x.cells _ _ rfl
        clear hu k32
        have HOA : Hid (u6.ownsRow (gn + 2) 41 33 (.slice Ao ts.length co) ts.length (ts.flatMap DT.cells)) := own_fr HT.out.own HF6.out (fun _ _ _ e => e)
        obtain ⟨j0, hj, hj0, hj1, hj2⟩ := info_parts cinfo_item
        have hts : ts.length ≤ 20 := by have h1 := HTL.out; have h2 := HKK.out; have h3 := HN20.out; omega
        refine wpList_append_lies u6 rfl (.tmp 93) (.tmp 95) 24 rfl (gn + 2) 41 j0 _ 33 368 Try.underlying24 hj hj0 hj1 hj2 rfl (by decide) (.slice Ao ts.length co) ts.length _ (by rfl) HOA.out ⟨w5.heap.size, 0, none⟩ 1 1 x.cells (by rfl) x.cells_len HNA.out (one_all HLX.out.one) (by decide) (by simp only [maxLen]; omega) (by omega) (by have h1 := HT.out.sz; have h2 := HT.out.fr.size; have h3 := HF6.out.size; omega) (u6.heap.size) rfl ?_
        intro g2 cn u7 k1 k2 k3 _
        have HTN := Lib.hid (HT.out.next (by omega) HF6.out HLX6.out HXT.out k1 k2 k3)
        have HB7 : Hid (u7.heap[gn + 1]? = some (.cells (icells tmplI Vw.nil Vw.nil (two gn) (.slice Ao ts.length co)).toArray 41 (0, 0))) := (Fr.of_grown k2).blk (HF6.out.blk HT.out.blk (fun e => e)) (fun e => HT.out.ne e)
        have ko : u7.cell? ⟨gn + 1, 32, none⟩ = some (.slice Ao ts.length co) := (cell_of_blk HB7.out 32).trans rfl
        have fo : u7.frozen? ⟨gn + 1, 32, none⟩ = false := froz_of_blk HB7.out 32
        clear k1 k2 k3 hts
        go_wp2_with fail
        go_roundw
        case rel => exact ⟨k + 1, _, _, by go_num, HKK.out, HTN⟩
        case measure => have := HKK.out; simp [intOf]; omega
      · have z1 : (0 : Int) < (k : Int) := by omega
        have z2 : IntKind.i64.wrap ((k : Int) - 1) = (k : Int) - 1 := Go.IntWalk.i64_in _ (by omega)
        have hsl : ∀ w, (Instr.slice 9 (.string ⟨#[97, 98, 99, 100, 101, 102, 103, 104, 105, 106, 107, 108, 109, 110, 111, 112, 113, 114, 115, 116, 117, 118, 119, 120, 121, 122]⟩) (some (.int .i64 ((k : Int) - 1))) (some (.int .i64 (k : Int))) none).run Try.prog w = .ok (.string ⟨#[letter (k - 1)]⟩) w := fun w => by
          have h := slice_let (k - 1) (by have := HN20.out; have := HKK.out; omega) w
          have e1 : ((k - 1 : Nat) : Int) = (k : Int) - 1 := by omega
          rw [e1, Int.sub_add_cancel] at h
          exact h
        go_upto_region 11 with fail
        iterate 25 go_step
        obtain ⟨gc, hgc⟩ : ∃ g, w5.heap.size = g := ⟨_, rfl⟩
        rw [hgc]
        obtain ⟨w6, hu⟩ : ∃ u, w5.alloc (.cells #[.string ⟨#[letter (k - 1)]⟩, .int .i64 2, .string ⟨#[122, 57]⟩, .int .i64 3] 57) = u := ⟨_, rfl⟩
        rw [hu]
        have HC6 : Hid (w6.heap[gc]? = some (.cells #[.string ⟨#[letter (k - 1)]⟩, .int .i64 2, .string ⟨#[122, 57]⟩, .int .i64 3] 57 (0, 0))) := by rw [← hu]; exact blk_newn hgc.symm
        have HF6a : Hid (Fr (fun _ => False) wr w6) := by rw [← hu]; exact HF5a.out.alloc _
        have HB6a : Hid (w6.heap[gx]? = some (.cells (icells (cop ks dz k) Vw.nil Vw.nil Vw.nil Vw.nil).toArray 41 (0, 0))) := by rw [← hu]; exact blk_alloc HB5a.out _
        have HXC : Hid (gx < gc ∧ wr.heap.size ≤ gc) := ⟨by rw [← hgc]; exact lt_of_blk HB5a.out, by rw [← hgc]; exact HF5a.out.size⟩
        clear hu hgc
        have kx : w6.cell? ⟨gx, 13, none⟩ = some (.slice none 0 0) := (cell_of_blk HB6a.out 13).trans rfl
        have fx : w6.frozen? ⟨gx, 13, none⟩ = false := froz_of_blk HB6a.out 13
        obtain ⟨w7, hw7⟩ : ∃ u, w6.setCell ⟨gx, 13, none⟩ (.slice (some ⟨gc, 0, none⟩) 2 2) = u := ⟨_, rfl⟩
        obtain ⟨x, hx⟩ : ∃ x, DT.node (cop ks dz k) (two gc) Vw.nil Vw.nil Vw.nil [] = x := ⟨_, rfl⟩
        have HXT : Hid (x.tree = .node (cop ks dz k) []) := by show _ = _; rw [← hx, DT.tree]; rfl
        have HBX : Hid (w7.heap[gx]? = some (.cells x.cells.toArray 41 (0, 0))) := by
          rw [← hw7, ← hx]
          exact blk_set HB6a.out 13 (.slice (some ⟨gc, 0, none⟩) 2 2)
        have HF5 : Hid (Fr (fun _ => False) wr w7) := by rw [← hw7]; exact HF6a.out.setCell (.inr HGX.out) _
        have HLX : Hid (Lay (fun g => wr.heap.size ≤ g) w7 x) := by
          rw [← hx]
          have hc7 : w7.heap[gc]? = some (.cells ([[sv [letter (k - 1)], nv 2], [sv z9, nv 3]] : List (List Value)).flatten.toArray 57 (0, 0)) := by
            rw [← hw7]
            exact blk_farq HC6.out (by have := HXC.out; omega) _
          refine .node _ _ _ _ _ _ ?_ (RowB.nil _ _ 3) (RowB.nil _ _ 1) (RowB.nil _ _ 33) (fun y hy => absurd hy List.not_mem_nil)
          have e1 : (cop ks dz k).conds.map namedc = [[sv [letter (k - 1)], nv 2], [sv z9, nv 3]] := by
            show (if k = 0 then _ else _ : List Named).map namedc = _
            rw [if_neg hk0]; rfl
          rw [e1]
          exact RowB.new (xs := [[sv [letter (k - 1)], nv 2], [sv z9, nv 3]]) (fun y hy => by
            simp only [List.mem_cons, List.not_mem_nil, or_false] at hy
            rcases hy with rfl | rfl <;> rfl) (by show 2 ≤ _; decide) hc7 HXC.out.2
        clear hx hk0 z1 z2 hsl
        have k32 : w7.cell? ⟨gn + 1, 32, none⟩ = some (.slice Ao ts.length co) := (cell_of_blk (HF5.out.blk HT.out.blk (fun e => e)) 32).trans rfl
        go_upto_region 12 with fail
        iterate 7 go_step
        refine wpList_load_row rfl 41 _ rfl gx rfl 41 x.cells.toArray (0, 0) _ HBX.out Try.underlying41 rfl (info_it x) ?_
        simp only [Act.put, List.setIfInBounds_toArray, List.set_cons_zero, List.set_cons_succ]
        refine wpList_bsl1_g (o := ⟨some 95, _, _, _, _, _⟩) ?hwbw7 24 _ rfl (v0 := .agg x.cells.toArray) rfl (.slice (some ⟨w7.heap.size, 0, none⟩) 1 1) (w7.alloc (.cells x.cells.toArray 41)) ?hbw7 ?hqw7
        case hwbw7 => rfl
        case hbw7 => exact bsl_one HLX.out _
        simp only [Act.put, List.setIfInBounds_toArray, List.set_cons_zero, List.set_cons_succ]
        obtain ⟨u6, hu⟩ : ∃ u, w7.alloc (.cells x.cells.toArray 41) = u := ⟨_, rfl⟩
        rw [hu]
        have HF6 : Hid (Fr (fun _ => False) wr u6) := by rw [← hu]; exact HF5.out.alloc _
        have HLX6 : Hid (Lay (fun g => wr.heap.size ≤ g) u6 x) := by rw [← hu]; exact HLX.out.fr ((Fr.refl (fun _ => False) _).alloc _) (fun _ _ e => e)
        have HNA : Hid (∀ j y, x.cells[j]? = some y → u6.cell? ((⟨w7.heap.size, 0, none⟩ : Addr).add j) = some y) := by rw [← hu]; exact cells_new w7 x.cells _ _ rfl
        clear hu k32
        have HOA : Hid (u6.ownsRow (gn + 2) 41 33 (.slice Ao ts.length co) ts.length (ts.flatMap DT.cells)) := own_fr HT.out.own HF6.out (fun _ _ _ e => e)
        obtain ⟨j0, hj, hj0, hj1, hj2⟩ := info_parts cinfo_item
        have hts : ts.length ≤ 20 := by have h1 := HTL.out; have h2 := HKK.out; have h3 := HN20.out; omega
        refine wpList_append_lies u6 rfl (.tmp 93) (.tmp 95) 24 rfl (gn + 2) 41 j0 _ 33 368 Try.underlying24 hj hj0 hj1 hj2 rfl (by decide) (.slice Ao ts.length co) ts.length _ (by rfl) HOA.out ⟨w7.heap.size, 0, none⟩ 1 1 x.cells (by rfl) x.cells_len HNA.out (one_all HLX.out.one) (by decide) (by simp only [maxLen]; omega) (by omega) (by have h1 := HT.out.sz; have h2 := HT.out.fr.size; have h3 := HF6.out.size; omega) (u6.heap.size) rfl ?_
        intro g2 cn u7 k1 k2 k3 _
        have HTN := Lib.hid (HT.out.next (by omega) HF6.out HLX6.out HXT.out k1 k2 k3)
        have HB7 : Hid (u7.heap[gn + 1]? = some (.cells (icells tmplI Vw.nil Vw.nil (two gn) (.slice Ao ts.length co)).toArray 41 (0, 0))) := (Fr.of_grown k2).blk (HF6.out.blk HT.out.blk (fun e => e)) (fun e => HT.out.ne e)
        have ko : u7.cell? ⟨gn + 1, 32, none⟩ = some (.slice Ao ts.length co) := (cell_of_blk HB7.out 32).trans rfl
        have fo : u7.frozen? ⟨gn + 1, 32, none⟩ = false := froz_of_blk HB7.out 32
        clear k1 k2 k3 hts
        go_wp2_with fail
        go_roundw
        case rel => exact ⟨k + 1, _, _, by go_num, HKK.out, HTN⟩
        case measure => have := HKK.out; simp [intOf]; omega
    · obtain rfl : k = ks.length := by omega
      clear hk j0
      have HNMr : Hid (wr.heap[gn]? = some (.cells #[.string ⟨#[63, 114]⟩, .string ⟨#[63, 97]⟩] 9 (0, 0))) := HT.out.fr.blk HNM4.out (fun e => by omega)
      have HWr : Hid (Fr (fun _ => False) W wr) := HFW4.out.trans' HT.out.fr (fun g hg e => by have := HWG.out; omega)
      go_upto_region 13 with fail
      iterate 10 go_step
      obtain ⟨gr, hgr⟩ : ∃ g, wr.heap.size = g := ⟨_, rfl⟩
      rw [hgr]
      obtain ⟨w8, hu⟩ : ∃ u, wr.alloc (.cells #[.string ⟨role.toArray⟩, .string ⟨act.toArray⟩] 9) = u := ⟨_, rfl⟩
      rw [hu]
      have HR8 : Hid (w8.heap[gr]? = some (.cells #[.string ⟨role.toArray⟩, .string ⟨act.toArray⟩] 9 (0, 0))) := by rw [← hu]; exact blk_newn hgr.symm
      have HF8 : Hid (Fr (fun _ => False) wr w8) := by rw [← hu]; exact (Fr.refl _ wr).alloc _
      clear hu hgr
      refine wpList_built rfl 41 _ rfl #[(0, .int .i64 14), (3, .string ⟨#[116]⟩), (1, .string ⟨#[112]⟩), (20, .slice (some ⟨gr, 0, none⟩) 2 2), (2, .int .i64 5)] (by go_simp) (.agg (inclD role act gr).cells.toArray) (build_in role act gr _) ?_
      simp only [Act.put, List.setIfInBounds_toArray, List.set_cons_zero, List.set_cons_succ]
      have HT8 : Hid (w8.heap[gn + 1]? = some (.cells (tmplD gn Ao co ts).cells.toArray 41 (0, 0))) := HF8.out.blk HT.out.blk (fun e => e)
      refine wpList_load_row rfl 41 _ rfl (gn + 1) rfl 41 (tmplD gn Ao co ts).cells.toArray (0, 0) _ HT8.out Try.underlying41 rfl (info_it (tmplD gn Ao co ts)) ?_
      simp only [Act.put, List.setIfInBounds_toArray, List.set_cons_zero, List.set_cons_succ]
      refine wpList_bsl rfl 24 2 _ rfl #[(0, .agg (inclD role act gr).cells.toArray), (1, .agg (tmplD gn Ao co ts).cells.toArray)] (by go_simp) (.slice (some ⟨w8.heap.size, 0, none⟩) 2 2) (w8.alloc (.cells ([inclD role act gr, tmplD gn Ao co ts].map DT.cells).flatten.toArray 41)) (bsl_cop role act gr gn Ao co ts w8) ?_
      simp only [Act.put, List.setIfInBounds_toArray, List.set_cons_zero, List.set_cons_succ]
      obtain ⟨gl, hgl⟩ : ∃ g, w8.heap.size = g := ⟨_, rfl⟩
      rw [hgl]
      obtain ⟨w9, hu⟩ : ∃ u, w8.alloc (.cells ([inclD role act gr, tmplD gn Ao co ts].map DT.cells).flatten.toArray 41) = u := ⟨_, rfl⟩
      rw [hu]
      have HL9b : Hid (w9.heap[gl]? = some (.cells ([inclD role act gr, tmplD gn Ao co ts].map DT.cells).flatten.toArray 41 (0, 0))) := by rw [← hu]; exact blk_newn hgl.symm
      have HF9 : Hid (Fr (fun _ => False) wr w9) := by rw [← hu]; exact HF8.out.alloc _
      have HR9 : Hid (w9.heap[gr]? = some (.cells ([[sv role], [sv act]] : List (List Value)).flatten.toArray 9 (0, 0))) := by rw [← hu]; exact blk_alloc HR8.out _
      clear hu hgl
      have HTH : Hid (∀ z ∈ ts, ∃ i, i < ks.length ∧ z.h = cop ks dz i ∧ z.l.map DT.tree = []) := fun z hz => by
        have h1 : z.tree ∈ ts.map DT.tree := List.mem_map_of_mem hz
        rw [HT.out.tr] at h1
        obtain ⟨i, hi, h2⟩ := List.mem_map.1 h1
        exact ⟨i, List.mem_range.1 hi, by rw [← DT.tree_h, ← h2]; rfl, by rw [← DT.tree_l, ← h2]; rfl⟩
      have HLT9 : Hid (LayL (fun g => g < w9.heap.size) w9 ts (.slice Ao ts.length co)) := by
        have h1 := own_fr HT.out.own HF9.out (fun _ _ _ e => e)
        refine ⟨⟨Row.of_own h1 (fun x _ => x.cells_len), fun g o n c e hne => (own_lt h1 g (by rw [e]; exact own_zero h1 e)).2⟩, fun x hx => ((HT.out.lay x hx).fr HF9.out (fun _ _ e => e)).mono (fun g hg _ => hg)⟩
      have HLL : Hid (LayL (fun g => g < w9.heap.size) w9 [inclD role act gr, tmplD gn Ao co ts] (.slice (some ⟨gl, 0, none⟩) 2 2)) := lay_row (l := [inclD role act gr, tmplD gn Ao co ts]) (by show 2 ≤ _; decide) HL9b.out (lt_of_blk HL9b.out) (fun z hz => by
        simp only [List.mem_cons, List.not_mem_nil, or_false] at hz
        rcases hz with rfl | rfl
        · exact .node _ _ _ _ _ _ (RowB.nil _ _ 2) (RowB.nil _ _ 3) (RowB.new (xs := [[sv role], [sv act]]) (fun y hy => by
            simp only [List.mem_cons, List.not_mem_nil, or_false] at hy
            rcases hy with rfl | rfl <;> rfl) (by show 2 ≤ _; decide) HR9.out (lt_of_blk HR9.out)) (RowB.nil _ _ 33) (fun y hy => absurd hy List.not_mem_nil)
        · have hn : w9.heap[gn]? = some (.cells ([[sv qr], [sv qa]] : List (List Value)).flatten.toArray 9 (0, 0)) := HF9.out.blk HNMr.out (fun e => e)
          exact .node _ _ _ _ _ _ (RowB.nil _ _ 2) (RowB.nil _ _ 3) (RowB.new (xs := [[sv qr], [sv qa]]) (fun y hy => by
            simp only [List.mem_cons, List.not_mem_nil, or_false] at hy
            rcases hy with rfl | rfl <;> rfl) (by show 2 ≤ _; decide) hn (lt_of_blk hn)) HLT9.out.row HLT9.out.lay)
      have HSHT : Hid (∀ z ∈ [inclD role act gr, tmplD gn Ao co ts], Sh z) := fun z hz => by
        simp only [List.mem_cons, List.not_mem_nil, or_false] at hz
        rcases hz with rfl | rfl
        · exact sh_flat (by show 2 ≤ 30; decide) (by show 0 ≤ 30; decide) (by show 0 ≤ 30; decide) (by show 1 ≤ 100; decide)
        · refine .node _ (by show 2 ≤ 30; decide) (by show 0 ≤ 30; decide) (by show 0 ≤ 30; decide) (by show 1 ≤ 100; decide) (fun y hy => ?_)
          obtain ⟨i, _, h1, h2⟩ := HTH.out y hy
          obtain ⟨yh, yc, yd, yn, yi, yl⟩ := y
          obtain rfl : yl = [] := List.map_eq_nil_iff.1 h2
          obtain rfl : yh = cop ks dz i := h1
          refine sh_flat (by show 0 ≤ 30; decide) ?_ (by show 0 ≤ 30; decide) (by show 1 ≤ 100; decide)
          show (if i = 0 then ([] : List Named) else _).length ≤ 30
          split
          · decide
          · show 2 ≤ 30; decide
      have HCT : Hid (∀ z ∈ [inclD role act gr, tmplD gn Ao co ts], z.h.kind = 13 → ∀ y ∈ z.l, ∀ c ∈ y.h.conds, c.name.length ≤ 140737488355328) := fun z hz hk y hy c hc => by
        simp only [List.mem_cons, List.not_mem_nil, or_false] at hz
        rcases hz with rfl | rfl
        · exact absurd hy List.not_mem_nil
        · obtain ⟨i, _, h1, _⟩ := HTH.out y hy
          rw [h1] at hc
          have hc : c ∈ (if i = 0 then ([] : List Named) else [⟨[letter (i - 1)], 2⟩, ⟨z9, 3⟩]) := hc
          split at hc
          · exact absurd hc List.not_mem_nil
          · simp only [List.mem_cons, List.not_mem_nil, or_false] at hc
            rcases hc with rfl | rfl
            · show 1 ≤ 140737488355328; decide
            · show 2 ≤ 140737488355328; decide
      have HKP : Hid (∀ z ∈ ks, 0 ≤ z) := fun z hz => (wf8 (HR0.out.2 z hz)).1
      have HEXC : Hid (expand (srcT src0 [inclD role act gr, tmplD gn Ao co ts]) = (⟨[], ⟨0, 0, 0⟩, 0, (List.range ks.length).map fun i => .node (copO ks dz role act i) []⟩, [])) := by
        have h := copies_law (ks := ks) (ds := dz) HKP.out role act HN20.out
        have e1 : srcT src0 [inclD role act gr, tmplD gn Ao co ts] = ⟨[], ⟨0, 0, 0⟩, 0, [.node (inclI role act) [], tmplT ks dz ks.length]⟩ := by
          unfold srcT inclD tmplD tmplT
          rw [List.map_cons, List.map_cons, List.map_nil, DT.tree, DT.tree, trees_map [], trees_map ts, HT.out.tr]
          rfl
        rw [e1]; exact h
      have HF9W : Hid (Fr (fun _ => False) W w9) := HWr.out.trans HF9.out
      iterate 3 go_step
      have HEX := Lib.hid (expand_any src0 [inclD role act gr, tmplD gn Ao co ts] _ w9 HLL.out HSHT.out HCT.out)
      unfold ExpR at HEX
      obtain ⟨r1, hr1⟩ : ∃ r, (expand (srcT src0 [inclD role act gr, tmplD gn Ao co ts])).1 = r := ⟨_, rfl⟩
      obtain ⟨r2, hr2⟩ : ∃ r, (expand (srcT src0 [inclD role act gr, tmplD gn Ao co ts])).2 = r := ⟨_, rfl⟩
      have HRr1 := Lib.hid hr1; have HRr2 := Lib.hid hr2
      rw [hr1, hr2] at HEX
      clear hr1 hr2
      go_wp2_with fail
      refine HEX.out.mono ?_
      rintro e w10 ⟨iv, fv, es, rfl, h1, h2, h3, h4⟩
      obtain ⟨Aes, ces, hiv, _, _⟩ := h2.slice
      subst hiv
      obtain ⟨Ar2, cr2, hfv, _, _⟩ := h3.slice
      rw [List.length_map] at hfv
      subst hfv
      have HDes := Lib.hid h1
      have HFew10 : Hid (Fr (fun _ => False) w9 w10) := h4
      have HFw10 : Hid (Fr (fun _ => False) W w10) := HF9W.out.trans h4
      have HLes : Hid (LayL All w10 es (.slice Aes es.length ces)) := h2.mono (fun _ _ _ => trivial)
      have HTr2 : Hid (RowB All w10 (.slice Ar2 r2.length cr2) 2 (r2.map faultc)) := h3.mono (fun _ _ _ => trivial)
      clear h1 h2 h3 h4 HEX
      dsimp only
      iterate 13 go_step
      refine wpList_store_row rfl 26 _ _ rfl w10.heap.size (scells r1.name r1.frm r1.days (.slice Aes es.length ces)).toArray rfl rfl 26 _ (blk_newn rfl) (info_src _ _ _ _) rfl (one_src _ _ _ _ _ _) ?_
      simp only [Act.put, List.setIfInBounds_toArray, List.set_cons_zero, List.set_cons_succ]
      rw [World.setRow_alloc_new]
      obtain ⟨w11, hn⟩ : ∃ u, w10.alloc (.cells (scells r1.name r1.frm r1.days (.slice Aes es.length ces)).toArray 26) = u := ⟨_, rfl⟩
      rw [hn]
      have HFsw11 : Hid (Fr (fun _ => False) w10 w11) := by rw [← hn]; exact (Fr.refl _ w10).alloc _
      obtain ⟨ga, hblk⟩ : ∃ g, w10.heap.size = g := ⟨_, rfl⟩
      rw [hblk]
      have HBw11 : Hid (w11.heap[ga]? = some (.cells (scells r1.name r1.frm r1.days (.slice Aes es.length ces)).toArray 26 (0, 0))) := by rw [← hn, ← hblk]; exact blk_newn rfl
      have HZw11 : Hid (w10.heap.size = ga) := hblk
      have HFw11 : Hid (Fr (fun _ => False) W w11) := HFw10.out.trans HFsw11.out
      clear hn hblk
      have hr1 := HRr1.out
      have hr2 := HRr2.out
      rw [HEXC.out] at hr1 hr2
      have hr2 : [] = r2 := hr2
      subst hr2
      have HES : Hid (es.map DT.tree = (List.range ks.length).map fun i => .node (copO ks dz role act i) []) := by show _ = _; rw [HDes.out, ← hr1]
      have hel : es.length = ks.length := by have := congrArg List.length HES.out; simpa using this
      have HEL := Lib.hid hel
      have htl : ts.length = ks.length := HTL.out
      have HF11 : Hid (Fr (fun _ => False) wr w11) := (HF9.out.trans HFew10.out).trans HFsw11.out
      have HT11 : Hid (w11.heap[gn + 1]? = some (.cells (icells tmplI Vw.nil Vw.nil (two gn) (.slice Ao ts.length co)).toArray 41 (0, 0))) := HF11.out.blk HT.out.blk (fun e => e)
      have HLT11 : Hid (LayL All w11 ts (.slice Ao ts.length co)) := ((HLT9.out.fr HFew10.out (fun _ _ h => h)).fr HFsw11.out (fun _ _ h => h)).mono (fun _ _ _ => trivial)
      have HLE11 : Hid (LayL All w11 es (.slice Aes es.length ces)) := HLes.out.fr HFsw11.out (fun _ _ h => h)
      have a5 : w11.cell? ⟨ga, 5, none⟩ = some (.slice Aes es.length ces) := (cell_of_blk HBw11.out 5).trans rfl
      have j1 : ((es.length : Int) != (ks.length : Int)) = false := by rw [hel]; simp
      have hez : es.length ≤ 9223372036854775807 := by omega
      clear hr1 hel
      go_wp2_with fail
      obtain ⟨wz, rfl⟩ : ∃ w : World, w = wr := ⟨_, rfl⟩
      go_loopw [16] (fun i wr => ∃ k : Nat, i = .int .i64 k ∧ k ≤ es.length ∧ Hid (Fr (fun _ => False) w11 wr)) (fun i _ => es.length - (intOf i).toNat)
      case atStart => exact ⟨0, rfl, Nat.zero_le _, Fr.refl _ _⟩
      case round =>
        clear a5
        obtain ⟨k, rfl, hk, HFr⟩ := hrel
        have i1 : (0 : Int) ≤ (k : Int) := Int.natCast_nonneg _
        have a5 : wr.cell? ⟨ga, 5, none⟩ = some (.slice Aes es.length ces) := (cell_of_blk (HFr.out.blk HBw11.out (fun h => h)) 5).trans rfl
        by_cases hlt : k < es.length
        · have i2 : (k : Int) < (es.length : Int) := by omega
          have hkn : k < ks.length := by have := HEL.out; omega
          obtain ⟨y, hy⟩ : ∃ y, es[k]? = some y := ⟨_, List.getElem?_eq_getElem hlt⟩
          obtain ⟨z, hz⟩ : ∃ z, ts[k]? = some z := ⟨_, List.getElem?_eq_getElem (by omega)⟩
          have hyh : y.h = copO ks dz role act k := by
            have h1 : (es.map DT.tree)[k]? = some y.tree := by rw [List.getElem?_map, hy]; rfl
            rw [HES.out, List.getElem?_map, List.getElem?_range hkn] at h1
            rw [← DT.tree_h, ← Option.some.inj h1]; rfl
          have hzh : z.h = cop ks dz k := by
            have h1 : (ts.map DT.tree)[k]? = some z.tree := by rw [List.getElem?_map, hz]; rfl
            rw [HT.out.tr] at h1
            unfold copTs at h1
            rw [List.getElem?_map, List.getElem?_range hkn] at h1
            rw [← DT.tree_h, ← Option.some.inj h1]; rfl
          have HLr : Hid (LayL All wr es (.slice Aes es.length ces)) := HLE11.out.fr HFr.out (fun _ _ h => h)
          obtain ⟨g, o, hA, hg, _, hat⟩ := HLr.out.at hy
          subst hA
          have HAT := Lib.hid hat
          have HLX : Hid (Lay All wr y) := HLr.out.lay y (List.mem_of_getElem? hy)
          have HLZ : Hid (LayL All wr ts (.slice Ao ts.length co)) := HLT11.out.fr HFr.out (fun _ _ h => h)
          have HTr : Hid (wr.heap[gn + 1]? = some (.cells (icells tmplI Vw.nil Vw.nil (two gn) (.slice Ao ts.length co)).toArray 41 (0, 0))) := HFr.out.blk HT11.out (fun e => e)
          obtain ⟨g2, o2, hA2, hg2, _, hat2⟩ := HLZ.out.at hz
          have hyc := HLX.out.conds
          have hzc := (HLZ.out.lay z (List.mem_of_getElem? hz)).conds
          rw [hyh] at hyc
          rw [hzh] at hzc
          obtain ⟨Ay, cy, hyi, _, _⟩ := hyc.slice
          obtain ⟨Az, cz, hzi, _, _⟩ := hzc.slice
          rw [hyi] at hyc
          have hm : (copO ks dz role act k).conds.length = (cop ks dz k).conds.length := by
            show (if k = 0 then _ else _ : List Named).length = (if k = 0 then _ else _ : List Named).length
            split <;> rfl
          rw [List.length_map] at hyi hzi hyc
          rw [hm] at hyi hyc
          obtain ⟨m, hmm⟩ : ∃ m, (cop ks dz k).conds.length = m := ⟨_, rfl⟩
          rw [hmm] at hyi hzi hyc
          have HYC : Hid (y.cells = icells (copO ks dz role act k) (.slice Ay m cy) y.d y.n y.i) := by show _ = _; rw [DT.cells_eq, hyh, hyi]
          have HZC : Hid (z.cells = icells (cop ks dz k) (.slice Az m cz) z.d z.n z.i) := by show _ = _; rw [DT.cells_eq, hzh, hzi]
          have HAT2 : Hid (At wr g2 (o2 + k * 33) z.cells) := hat2
          have HG2 : Hid (g2 < wr.heap.size) := hg2
          have HAO : Hid (Ao = some ⟨g2, o2, none⟩) := hA2
          have HYR := Lib.hid hyc
          have HMM := Lib.hid hmm
          have HLT := Lib.hid hlt
          have HKN : Hid (k < 20) := by have := HN20.out; show _ < _; omega
          clear hat hg hy hz hlt hkn hyh hzh hat2 hg2 hA2 hyc hzc hyi hzi hm hmm
          go_upto_region 19 with fail
          iterate 13 go_step
          refine wpList_load_mid rfl 41 _ rfl g (o + k * 33) rfl y.cells _ HAT.out Try.underlying41 rfl (info_itl y) ?_
          simp only [Act.put, List.setIfInBounds_toArray, List.set_cons_zero, List.set_cons_succ]
          iterate 3 go_step
          refine wpList_store_row rfl 41 _ _ rfl wr.heap.size y.cells.toArray rfl rfl 41 _ (blk_newn rfl) (info_it y) (cells_size y).symm HLX.out.one ?_
          simp only [Act.put, List.setIfInBounds_toArray, List.set_cons_zero, List.set_cons_succ]
          rw [World.setRow_alloc_new]
          obtain ⟨u, hu⟩ : ∃ u, wr.alloc (.cells y.cells.toArray 41) = u := ⟨_, rfl⟩
          rw [hu]
          obtain ⟨gq, hgq⟩ : ∃ g, wr.heap.size = g := ⟨_, rfl⟩
          have HYB : Hid (u.heap[gq]? = some (.cells (icells (copO ks dz role act k) (.slice Ay m cy) y.d y.n y.i).toArray 41 (0, 0))) := by rw [← hu, ← HYC.out]; exact blk_newn hgq.symm
          rw [hgq]
          have HFU1 : Hid (Fr (fun _ => False) wr u) := by rw [← hu]; exact (Fr.refl _ wr).alloc _
          have HFU : Hid (Fr (fun _ => False) w11 u) := HFr.out.trans HFU1.out
          have HATU : Hid (At u g2 (o2 + k * 33) (icells (cop ks dz k) (.slice Az m cz) z.d z.n z.i)) := by rw [← HZC.out]; exact At.fr HAT2.out HG2.out HFU1.out (fun e => e)
          have HTu : Hid (u.heap[gn + 1]? = some (.cells (icells tmplI Vw.nil Vw.nil (two gn) (.slice (some ⟨g2, o2, none⟩) ts.length co)).toArray 41 (0, 0))) := by rw [← HAO.out]; exact HFU1.out.blk HTr.out (fun e => e)
          clear hu hgq a5
          obtain ⟨K, hK⟩ : ∃ K, (cop ks dz k).kind = K := ⟨_, rfl⟩
          obtain ⟨D, hD⟩ : ∃ D, dz.getD k 0 = D := ⟨_, rfl⟩
          obtain ⟨Fb, hFb⟩ : ∃ Fb, (cop ks dz k).fin = Fb := ⟨_, rfl⟩
          have c0 : u.cell? ⟨gq, 0, none⟩ = some (.int .i64 K) := by rw [← hK]; exact (cell_of_blk HYB.out 0).trans rfl
          have c1 : u.cell? ⟨gq, 1, none⟩ = some (.string ⟨#[112, 46, letter k]⟩) := (cell_of_blk HYB.out 1).trans rfl
          have c2 : u.cell? ⟨gq, 2, none⟩ = some (.int .i64 5) := (cell_of_blk HYB.out 2).trans rfl
          have c3 : u.cell? ⟨gq, 3, none⟩ = some (.string ⟨role.toArray⟩) := (cell_of_blk HYB.out 3).trans rfl
          have c4 : u.cell? ⟨gq, 4, none⟩ = some (.string ⟨act.toArray⟩) := (cell_of_blk HYB.out 4).trans rfl
          have c6 : u.cell? ⟨gq, 6, none⟩ = some (.int .i64 k) := (cell_of_blk HYB.out 6).trans rfl
          have c7 : u.cell? ⟨gq, 7, none⟩ = some (.int .i64 D) := by rw [← hD]; exact (cell_of_blk HYB.out 7).trans rfl
          have c8 : u.cell? ⟨gq, 8, none⟩ = some (.bool false) := (cell_of_blk HYB.out 8).trans rfl
          have c9 : u.cell? ⟨gq, 9, none⟩ = some (.string ⟨#[]⟩) := (cell_of_blk HYB.out 9).trans rfl
          have c13 : u.cell? ⟨gq, 13, none⟩ = some (.slice Ay m cy) := (cell_of_blk HYB.out 13).trans rfl
          have c20 : u.cell? ⟨gq, 20, none⟩ = some (.bool Fb) := by rw [← hFb]; exact (cell_of_blk HYB.out 20).trans rfl
          have t32 : u.cell? ⟨gn + 1, 32, none⟩ = some (.slice (some ⟨g2, o2, none⟩) ts.length co) := (cell_of_blk HTu.out 32).trans rfl
          have d0 : u.cell? ⟨g2, o2 + k * 33, none⟩ = some (.int .i64 K) := by rw [← hK]; exact HATU.out 0 _ rfl
          have d7 : u.cell? ⟨g2, o2 + k * 33 + 7, none⟩ = some (.int .i64 D) := by rw [← hD]; exact HATU.out 7 _ rfl
          have d8 : u.cell? ⟨g2, o2 + k * 33 + 7 + 1, none⟩ = some (.bool false) := HATU.out 8 _ rfl
          have d9 : u.cell? ⟨g2, o2 + k * 33 + 7 + 2, none⟩ = some (.string ⟨#[]⟩) := HATU.out 9 _ rfl
          have d13 : u.cell? ⟨g2, o2 + k * 33 + 13, none⟩ = some (.slice Az m cz) := HATU.out 13 _ rfl
          have d20 : u.cell? ⟨g2, o2 + k * 33 + 20, none⟩ = some (.bool Fb) := by rw [← hFb]; exact HATU.out 20 _ rfl
          have i3 : (k : Int) < (ts.length : Int) := by have := HEL.out; omega
          have w1 : IntKind.i64.wrap ((k : Int) + 1) = (k : Int) + 1 := Go.IntWalk.i64_in _ (by have := HKN.out; omega)
          have hsl := slice_let k (by have := HKN.out; omega)
          have hcat : (⟨#[112, 46]⟩ : ByteArray) ++ ⟨#[letter k]⟩ = ⟨#[112, 46, letter k]⟩ := ba_app [112, 46] [letter k]
          have hne := ne_span D false ⟨#[]⟩
          clear hK hD hFb
          go_upto_region 20 with fail
          go_quiet (fail)
          clear c0 c1 c2 c3 c4 c6 c7 c8 c9 c20 t32 d0 d7 d8 d9 d13 d20 w1 hsl hcat hne i3
          by_cases hk0 : k = 0
          · have z1 : ¬ (0 : Int) < (k : Int) := by omega
            have z3 : decide ((0 : Int) < (k : Int)) = false := decide_eq_false z1
            have z4 : decide (0 < k) = false := decide_eq_false (by omega)
            clear hk0
            go_upto_region 22 with fail
            go_quiet (fail)
            go_wp2_with fail
            go_roundw
            case rel => first | exact ⟨k + 1, by go_num, HLT.out, Lib.hid (HFU.out.drewN _)⟩ | exact ⟨_, _, _, _, _, _, _, _, _, _, _, _, _, _, _, _, _, _, _, _, _, _, _, _, _, _, _, _, _, _, _, _, _, _, _, _, _, _, _, _, _, _, _, _, _, _, _, _, _, _, _, _, _, _, _, _, _, _, _, _, _, _, _, _, _, _, _, _, _, _, _, _, _, _, _, _, _, _, _, _, _, _, _, _, _, _, _, _, _, _, _, _, _, _, _, _, _, _, _, _, _, _, _, _, _, _, _, _, _, _, ⟨k + 1, by go_num, HLT.out, Lib.hid (HFU.out.drewN _)⟩, rfl⟩ | exact ⟨k + 1, by go_num, HLT.out, Lib.hid ((HFU.out.drewN _).drewN _)⟩ | exact ⟨_, _, _, _, _, _, _, _, _, _, _, _, _, _, _, _, _, _, _, _, _, _, _, _, _, _, _, _, _, _, _, _, _, _, _, _, _, _, _, _, _, _, _, _, _, _, _, _, _, _, _, _, _, _, _, _, _, _, _, _, _, _, _, _, _, _, _, _, _, _, _, _, _, _, _, _, _, _, _, _, _, _, _, _, _, _, _, _, _, _, _, _, _, _, _, _, _, _, _, _, _, _, _, _, _, _, _, _, _, _, ⟨k + 1, by go_num, HLT.out, Lib.hid ((HFU.out.drewN _).drewN _)⟩, rfl⟩
            case measure => have := HLT.out; simp [intOf]; omega
          · have z1 : (0 : Int) < (k : Int) := by omega
            have z3 : decide ((0 : Int) < (k : Int)) = true := decide_eq_true z1
            have z4 : decide (0 < k) = true := decide_eq_true (by omega)
            have z2 : IntKind.i64.wrap ((k : Int) - 1) = (k : Int) - 1 := Go.IntWalk.i64_in _ (by omega)
            have hsl : ∀ w, (Instr.slice 9 (.string ⟨#[97, 98, 99, 100, 101, 102, 103, 104, 105, 106, 107, 108, 109, 110, 111, 112, 113, 114, 115, 116, 117, 118, 119, 120, 121, 122]⟩) (some (.int .i64 ((k : Int) - 1))) (some (.int .i64 (k : Int))) none).run Try.prog w = .ok (.string ⟨#[letter (k - 1)]⟩) w := fun w => by
              have h := slice_let (k - 1) (by have := HKN.out; omega) w
              have e1 : ((k - 1 : Nat) : Int) = (k : Int) - 1 := by omega
              rw [e1, Int.sub_add_cancel] at h
              exact h
            have hcat : (⟨#[112, 46]⟩ : ByteArray) ++ ⟨#[letter (k - 1)]⟩ = ⟨#[112, 46, letter (k - 1)]⟩ := ba_app [112, 46] [letter (k - 1)]
            have hn1 := ne_named ⟨#[112, 46, letter (k - 1)]⟩ 2
            have hn2 := ne_named ⟨#[122, 57]⟩ 3
            have hmm := HMM.out
            have hcl : (cop ks dz k).conds = [⟨[letter (k - 1)], 2⟩, ⟨z9, 3⟩] := if_neg hk0
            rw [hcl] at hmm
            have hmm : 2 = m := hmm
            subst hmm
            have hyr := HYR.out
            have e1 : (copO ks dz role act k).conds.map namedc = [[sv (pdot (k - 1)), nv 2], [sv z9, nv 3]] := by
              show (if k = 0 then _ else _ : List Named).map namedc = _
              rw [if_neg hk0]; rfl
            rw [e1] at hyr
            obtain ⟨gy, oy, hay, hgy, _, hat0⟩ := hyr.at (k := 0) rfl
            subst hay
            obtain ⟨gy', oy', hay, _, _, hat1⟩ := hyr.at (k := 1) rfl
            injection hay with hay; injection hay with e2 e3 _; subst e2; subst e3
            have f0 : u.cell? ⟨gy, oy, none⟩ = some (.string ⟨#[112, 46, letter (k - 1)]⟩) := by have := At.fr hat0 hgy HFU1.out (fun e => e) 0 _ rfl; rw [Nat.zero_mul] at this; exact this
            have f1 : u.cell? ⟨gy, oy + 1, none⟩ = some (.int .i64 2) := by have := At.fr hat0 hgy HFU1.out (fun e => e) 1 _ rfl; rw [Nat.zero_mul] at this; exact this
            have f2 : u.cell? ⟨gy, oy + 2, none⟩ = some (.string ⟨#[122, 57]⟩) := by have := At.fr hat1 hgy HFU1.out (fun e => e) 0 _ rfl; rw [Nat.one_mul] at this; exact this
            have f3 : u.cell? ⟨gy, oy + 2 + 1, none⟩ = some (.int .i64 3) := At.fr hat1 hgy HFU1.out (fun e => e) 1 _ rfl
            clear hk0 hat0 hat1 hgy hyr hcl e1
            go_upto_region 22 with fail
            go_quiet (fail)
            go_wp2_with fail
            go_roundw
            case rel => first | exact ⟨k + 1, by go_num, HLT.out, Lib.hid (HFU.out.drewN _)⟩ | exact ⟨_, _, _, _, _, _, _, _, _, _, _, _, _, _, _, _, _, _, _, _, _, _, _, _, _, _, _, _, _, _, _, _, _, _, _, _, _, _, _, _, _, _, _, _, _, _, _, _, _, _, _, _, _, _, _, _, _, _, _, _, _, _, _, _, _, _, _, _, _, _, _, _, _, _, _, _, _, _, _, _, _, _, _, _, _, _, _, _, _, _, _, _, _, _, _, _, _, _, _, _, _, _, _, _, _, _, _, _, _, _, ⟨k + 1, by go_num, HLT.out, Lib.hid (HFU.out.drewN _)⟩, rfl⟩ | exact ⟨k + 1, by go_num, HLT.out, Lib.hid ((HFU.out.drewN _).drewN _)⟩ | exact ⟨_, _, _, _, _, _, _, _, _, _, _, _, _, _, _, _, _, _, _, _, _, _, _, _, _, _, _, _, _, _, _, _, _, _, _, _, _, _, _, _, _, _, _, _, _, _, _, _, _, _, _, _, _, _, _, _, _, _, _, _, _, _, _, _, _, _, _, _, _, _, _, _, _, _, _, _, _, _, _, _, _, _, _, _, _, _, _, _, _, _, _, _, _, _, _, _, _, _, _, _, _, _, _, _, _, _, _, _, _, _, ⟨k + 1, by go_num, HLT.out, Lib.hid ((HFU.out.drewN _).drewN _)⟩, rfl⟩
            case measure => have := HLT.out; simp [intOf]; omega
        · obtain rfl : k = es.length := by omega
          go_wp2_with fail
          go_ret
          exact ⟨rfl, (HFw11.out.trans HFr.out).below (Nat.le_refl _) (fun _ h => h.elim)⟩
end Go.Proofs.Yticakdajhmfpoaa
