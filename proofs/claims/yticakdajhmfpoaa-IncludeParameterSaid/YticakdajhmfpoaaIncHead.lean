/-
  Include: the example of the statements.
-/
import Derived.Test.YticakdajhmfpoaaIncExp
namespace Go.Proofs.Yticakdajhmfpoaa.Ic
open Go.RowKit Mem Vw Rs
set_option linter.unusedVariables false
set_option linter.unusedSimpArgs false

def itZ : Rs.Item := ⟨0, [], 0, [], [], 0, 0, ⟨0, false, []⟩, ⟨0, false, []⟩, [], [], [], ⟨0, 0⟩, [], [], false, [], [], [false, false, false, false, false, false, false], [], []⟩
def payI : Rs.Item := { itZ with kind := 9, name := [112, 97, 121], of_ := [120], act := [112, 97, 121, 109, 101, 110, 116], times := 1, within := ⟨0, false, [116, 101, 114, 109]⟩, conds := [⟨[103, 105, 118, 101], 2⟩] }
def giveI : Rs.Item := { itZ with kind := 9, name := [103, 105, 118, 101], of_ := [115, 101, 108, 108, 101, 114], act := [100, 101, 108, 105, 118, 101, 114, 121], times := 1, within := ⟨3, false, []⟩ }
def saleI : Rs.Item := { itZ with kind := 13, name := [115, 97, 108, 101], names := [[120]] }
def one (g : Nat) : Value := .slice (some ⟨g, 0, none⟩) 1 1
def two (g : Nat) : Value := .slice (some ⟨g, 0, none⟩) 2 2
def payD (b : Nat) : DT := .node payI (one (b + 1)) Vw.nil Vw.nil Vw.nil []
def giveD : DT := .node giveI Vw.nil Vw.nil Vw.nil Vw.nil []
def saleD (b : Nat) : DT := .node saleI Vw.nil Vw.nil (one (b + 4)) (two (b + 5)) [payD b, giveD]
theorem build_pay (b : Nat) (w : World) : (Instr.build 41 #[(0, .int .i64 9), (1, .string ⟨#[112, 97, 121]⟩), (3, .string ⟨#[120]⟩), (4, .string ⟨#[112, 97, 121, 109, 101, 110, 116]⟩), (6, .int .i64 1), (7, .agg #[.int .i64 0, .bool false, .string ⟨#[116, 101, 114, 109]⟩]), (9, .slice (some ⟨b + 1, 0, none⟩) 1 1)]).run Try.prog w = .ok (.agg (payD b).cells.toArray) w := by kernel_rfl
theorem build_give (w : World) : (Instr.build 41 #[(0, .int .i64 9), (1, .string ⟨#[103, 105, 118, 101]⟩), (3, .string ⟨#[115, 101, 108, 108, 101, 114]⟩), (4, .string ⟨#[100, 101, 108, 105, 118, 101, 114, 121]⟩), (6, .int .i64 1), (7, .agg #[.int .i64 3, .bool false, .string ⟨#[]⟩])]).run Try.prog w = .ok (.agg giveD.cells.toArray) w := by kernel_rfl
theorem build_sale (b : Nat) (w : World) : (Instr.build 41 #[(0, .int .i64 13), (1, .string ⟨#[115, 97, 108, 101]⟩), (20, .slice (some ⟨b + 4, 0, none⟩) 1 1), (21, .slice (some ⟨b + 5, 0, none⟩) 2 2)]).run Try.prog w = .ok (.agg (saleD b).cells.toArray) w := by kernel_rfl
theorem bsl_sale (b : Nat) (w : World) : (Instr.buildSlice 24 2 #[(0, .agg (payD b).cells.toArray), (1, .agg giveD.cells.toArray)]).run Try.prog w = .ok (.slice (some ⟨w.heap.size, 0, none⟩) 2 2) (w.alloc (.cells ([payD b, giveD].map DT.cells).flatten.toArray 41)) := by kernel_rfl
theorem one_pay (b : Nat) : (payD b).cells.toArray.all (·.oneCell') = true := by simp [payD, one, DT.cells, icells, Value.oneCell', sv, nv, Vw.nil]
theorem one_give : giveD.cells.toArray.all (·.oneCell') = true := by simp [giveD, DT.cells, icells, Value.oneCell', sv, nv, Vw.nil]
theorem one_sale (b : Nat) : (saleD b).cells.toArray.all (·.oneCell') = true := by simp [saleD, one, two, DT.cells, icells, Value.oneCell', sv, nv, Vw.nil]
theorem wpList_bsl {ops : Array Oper} {rest : List Oper} {o : Oper} {a : Act} {w : World} {Q : Exit → Act → World → Prop} (hg : o.guard = none) (t : TypeId) (n : Nat) (parts : Array (Nat × Operand)) (hop : o.op = .buildSlice t n parts) (ps : Array (Nat × Value))
    (hp : parts.map (fun (i, x) => (i, a.eval x)) = ps) (v : Value) (w' : World) (hb : (Instr.buildSlice t n ps).run Try.prog w = .ok v w') (h : wpList Try.prog ops Q rest (a.put o.dst v) w') : wpList Try.prog ops Q (o :: rest) a w := by
  refine wpList_plain hg fun K hK => ?_
  unfold Oper.wp
  simp [execOp, hop, hp, hb, Result.andThen]
  exact hK _ _ h
theorem nilrow (B : Nat → Prop) (W : World) (z : Nat) : RowB B W Vw.nil z [] := RowB.nil B W z
theorem lay_flat {B : Nat → Prop} {W : World} {h : Rs.Item} (h1 : h.conds = []) (h2 : h.dates = []) (h3 : h.names = []) : Lay B W (.node h Vw.nil Vw.nil Vw.nil Vw.nil []) :=
  .node h _ _ _ _ _ (by rw [h1]; exact RowB.nil B W 2) (by rw [h2]; exact RowB.nil B W 3) (by rw [h3]; exact RowB.nil B W 1) (RowB.nil B W 33) (fun x hx => absurd hx List.not_mem_nil)
theorem sale_lay {b : Nat} {w : World} (h1 : w.heap[b + 1]? = some (.cells #[.string ⟨#[103, 105, 118, 101]⟩, .int .i64 2] 57 (0, 0))) (h4 : w.heap[b + 4]? = some (.cells #[.string ⟨#[120]⟩] 9 (0, 0))) (h5 : w.heap[b + 5]? = some (.cells ([payD b, giveD].map DT.cells).flatten.toArray 41 (0, 0))) : Lay (fun g => b ≤ g) w (saleD b) := by
  refine .node _ _ _ _ _ _ (RowB.nil _ _ 2) (RowB.nil _ _ 3) ?_ ?_ ?_
  · exact RowB.new (xs := [[sv [120]]]) (fun x hx => by simp only [List.mem_cons, List.not_mem_nil, or_false] at hx; subst hx; rfl) (by decide) h4 (by omega)
  · exact RowB.new (xs := [payD b, giveD].map DT.cells) (fun x hx => by obtain ⟨y, _, rfl⟩ := List.mem_map.1 hx; exact y.cells_len) (by show 2 ≤ _; decide) h5 (by omega)
  · intro x hx
    simp only [List.mem_cons, List.not_mem_nil, or_false] at hx
    rcases hx with rfl | rfl
    · exact .node _ _ _ _ _ _ (RowB.new (xs := [[sv [103, 105, 118, 101], nv 2]]) (fun x hx => by simp only [List.mem_cons, List.not_mem_nil, or_false] at hx; subst hx; rfl) (by decide) h1 (by omega)) (RowB.nil _ _ 3) (RowB.nil _ _ 1) (RowB.nil _ _ 33) (fun x hx => absurd hx List.not_mem_nil)
    · exact lay_flat rfl rfl rfl
set_option maxRecDepth 100000 in
set_option maxHeartbeats 4000000 in
theorem sale_any (W : World) : Calls Try.prog 21 #[] W fun e w' => e = .returned (.agg (saleD W.heap.size).cells.toArray) ∧ Lay (fun g => W.heap.size ≤ g) w' (saleD W.heap.size) ∧ Fr (fun _ => False) W w' := by
  go_enter Try.func21, Try.ntmps21
  go_upto_region 1 with fail
  obtain ⟨b, hb⟩ : ∃ b, W.heap.size = b := ⟨_, rfl⟩
  obtain ⟨u0, hu0⟩ : ∃ u, W.alloc (.cells #[.int .i64 0, .string ⟨#[]⟩, .int .i64 0, .string ⟨#[]⟩, .string ⟨#[]⟩, .int .i64 0, .int .i64 0, .int .i64 0, .bool false, .string ⟨#[]⟩, .int .i64 0, .bool false, .string ⟨#[]⟩, .slice none 0 0, .string ⟨#[]⟩, .string ⟨#[]⟩, .int .i64 0, .int .i64 0, .string ⟨#[]⟩, .string ⟨#[]⟩, .bool false, .string ⟨#[]⟩, .string ⟨#[]⟩, .bool false, .bool false, .bool false, .bool false, .bool false, .bool false, .bool false, .slice none 0 0, .slice none 0 0, .slice none 0 0] 41) = u := ⟨_, rfl⟩
  rw [hb, hu0]
  have HB0 : Hid (u0.heap[b]? = some (.cells #[.int .i64 0, .string ⟨#[]⟩, .int .i64 0, .string ⟨#[]⟩, .string ⟨#[]⟩, .int .i64 0, .int .i64 0, .int .i64 0, .bool false, .string ⟨#[]⟩, .int .i64 0, .bool false, .string ⟨#[]⟩, .slice none 0 0, .string ⟨#[]⟩, .string ⟨#[]⟩, .int .i64 0, .int .i64 0, .string ⟨#[]⟩, .string ⟨#[]⟩, .bool false, .string ⟨#[]⟩, .string ⟨#[]⟩, .bool false, .bool false, .bool false, .bool false, .bool false, .bool false, .bool false, .slice none 0 0, .slice none 0 0, .slice none 0 0] 41 (0, 0))) := by rw [← hu0, ← hb]; exact blk_newn rfl
  have HF0 : Hid (Fr (fun _ => False) W u0) := by rw [← hu0]; exact (Fr.refl _ W).alloc _
  have HS0 : Hid (u0.heap.size = b + 1) := by show _ = _; rw [← hu0, ← hb]; simp
  have HBB := Lib.hid hb
  clear hu0 hb
  iterate 10 go_step
  rw [HS0.out]
  obtain ⟨u1, hu1⟩ : ∃ u, u0.alloc (.cells #[.string ⟨#[103, 105, 118, 101]⟩, .int .i64 2] 57) = u := ⟨_, rfl⟩
  rw [hu1]
  have HC1 : Hid (u1.heap[b + 1]? = some (.cells #[.string ⟨#[103, 105, 118, 101]⟩, .int .i64 2] 57 (0, 0))) := by rw [← hu1]; exact blk_newn HS0.out.symm
  have HF1 : Hid (Fr (fun _ => False) u0 u1) := by rw [← hu1]; exact (Fr.refl _ u0).alloc _
  have HS1 : Hid (u1.heap.size = b + 2) := by show _ = _; rw [← hu1]; simp [HS0.out]
  clear hu1
  refine wpList_built rfl 41 _ rfl #[(0, .int .i64 9), (1, .string ⟨#[112, 97, 121]⟩), (3, .string ⟨#[120]⟩), (4, .string ⟨#[112, 97, 121, 109, 101, 110, 116]⟩), (6, .int .i64 1), (7, .agg #[.int .i64 0, .bool false, .string ⟨#[116, 101, 114, 109]⟩]), (9, .slice (some ⟨b + 1, 0, none⟩) 1 1)] (by go_simp) (.agg (payD b).cells.toArray) (build_pay b _) ?_
  simp only [Act.put, List.setIfInBounds_toArray, List.set_cons_zero, List.set_cons_succ]
  iterate 3 go_step
  refine wpList_store_row rfl 41 _ _ rfl u1.heap.size (payD b).cells.toArray rfl rfl 41 _ (blk_newn rfl) (info_it (payD b)) (cells_size (payD b)).symm (one_pay b) ?_
  simp only [Act.put, List.setIfInBounds_toArray, List.set_cons_zero, List.set_cons_succ]
  rw [World.setRow_alloc_new, HS1.out]
  obtain ⟨u2, hn⟩ : ∃ u, u1.alloc (.cells (payD b).cells.toArray 41) = u := ⟨_, rfl⟩
  rw [hn]
  have HB2 : Hid (u2.heap[b + 2]? = some (.cells (payD b).cells.toArray 41 (0, 0))) := by rw [← hn]; exact blk_newn HS1.out.symm
  have HF2 : Hid (Fr (fun _ => False) u1 u2) := by rw [← hn]; exact (Fr.refl _ u1).alloc _
  have HS2 : Hid (u2.heap.size = b + 3) := by show _ = _; rw [← hn]; simp [HS1.out]
  clear hn
  go_upto_region 2 with fail
  iterate 4 go_step
  refine wpList_built rfl 41 _ rfl #[(0, .int .i64 9), (1, .string ⟨#[103, 105, 118, 101]⟩), (3, .string ⟨#[115, 101, 108, 108, 101, 114]⟩), (4, .string ⟨#[100, 101, 108, 105, 118, 101, 114, 121]⟩), (6, .int .i64 1), (7, .agg #[.int .i64 3, .bool false, .string ⟨#[]⟩])] (by go_simp) (.agg giveD.cells.toArray) (build_give _) ?_
  simp only [Act.put, List.setIfInBounds_toArray, List.set_cons_zero, List.set_cons_succ]
  iterate 3 go_step
  refine wpList_store_row rfl 41 _ _ rfl u2.heap.size giveD.cells.toArray rfl rfl 41 _ (blk_newn rfl) (info_it giveD) (cells_size giveD).symm one_give ?_
  simp only [Act.put, List.setIfInBounds_toArray, List.set_cons_zero, List.set_cons_succ]
  rw [World.setRow_alloc_new, HS2.out]
  obtain ⟨u3, hn⟩ : ∃ u, u2.alloc (.cells giveD.cells.toArray 41) = u := ⟨_, rfl⟩
  rw [hn]
  have HB3 : Hid (u3.heap[b + 3]? = some (.cells giveD.cells.toArray 41 (0, 0))) := by rw [← hn]; exact blk_newn HS2.out.symm
  have HF3 : Hid (Fr (fun _ => False) u2 u3) := by rw [← hn]; exact (Fr.refl _ u2).alloc _
  have HS3 : Hid (u3.heap.size = b + 4) := by show _ = _; rw [← hn]; simp [HS2.out]
  clear hn
  go_upto_region 3 with fail
  iterate 4 go_step
  rw [HS3.out]
  obtain ⟨u4, hu4⟩ : ∃ u, u3.alloc (.cells #[.string ⟨#[120]⟩] 9) = u := ⟨_, rfl⟩
  rw [hu4]
  have HB4 : Hid (u4.heap[b + 4]? = some (.cells #[.string ⟨#[120]⟩] 9 (0, 0))) := by rw [← hu4]; exact blk_newn HS3.out.symm
  have HF4 : Hid (Fr (fun _ => False) u3 u4) := by rw [← hu4]; exact (Fr.refl _ u3).alloc _
  have HS4 : Hid (u4.heap.size = b + 5) := by show _ = _; rw [← hu4]; simp [HS3.out]
  clear hu4
  have HP4 : Hid (u4.heap[b + 2]? = some (.cells (payD b).cells.toArray 41 (0, 0))) := HF4.out.blk (HF3.out.blk HB2.out (fun h => h)) (fun h => h)
  have HG4 : Hid (u4.heap[b + 3]? = some (.cells giveD.cells.toArray 41 (0, 0))) := HF4.out.blk HB3.out (fun h => h)
  refine wpList_load_row rfl 41 _ rfl (b + 2) rfl 41 (payD b).cells.toArray (0, 0) _ HP4.out Try.underlying41 rfl (info_it (payD b)) ?_
  simp only [Act.put, List.setIfInBounds_toArray, List.set_cons_zero, List.set_cons_succ]
  refine wpList_load_row rfl 41 _ rfl (b + 3) rfl 41 giveD.cells.toArray (0, 0) _ HG4.out Try.underlying41 rfl (info_it giveD) ?_
  simp only [Act.put, List.setIfInBounds_toArray, List.set_cons_zero, List.set_cons_succ]
  refine wpList_bsl rfl 24 2 _ rfl #[(0, .agg (payD b).cells.toArray), (1, .agg giveD.cells.toArray)] (by go_simp) (.slice (some ⟨u4.heap.size, 0, none⟩) 2 2) (u4.alloc (.cells ([payD b, giveD].map DT.cells).flatten.toArray 41)) (bsl_sale b u4) ?_
  simp only [Act.put, List.setIfInBounds_toArray, List.set_cons_zero, List.set_cons_succ]
  rw [HS4.out]
  obtain ⟨u5, hu5⟩ : ∃ u, u4.alloc (.cells ([payD b, giveD].map DT.cells).flatten.toArray 41) = u := ⟨_, rfl⟩
  rw [hu5]
  have HB5 : Hid (u5.heap[b + 5]? = some (.cells ([payD b, giveD].map DT.cells).flatten.toArray 41 (0, 0))) := by rw [← hu5]; exact blk_newn HS4.out.symm
  have HF5 : Hid (Fr (fun _ => False) u4 u5) := by rw [← hu5]; exact (Fr.refl _ u4).alloc _
  clear hu5
  refine wpList_built rfl 41 _ rfl #[(0, .int .i64 13), (1, .string ⟨#[115, 97, 108, 101]⟩), (20, .slice (some ⟨b + 4, 0, none⟩) 1 1), (21, .slice (some ⟨b + 5, 0, none⟩) 2 2)] (by go_simp) (.agg (saleD b).cells.toArray) (build_sale b _) ?_
  simp only [Act.put, List.setIfInBounds_toArray, List.set_cons_zero, List.set_cons_succ]
  have HF05 : Hid (Fr (fun _ => False) u0 u5) := (((HF1.out.trans HF2.out).trans HF3.out).trans HF4.out).trans HF5.out
  refine wpList_store_row rfl 41 _ _ rfl b (saleD b).cells.toArray rfl rfl 41 _ (HF05.out.blk HB0.out (fun h => h)) (info_it (saleD b)) rfl (one_sale b) ?_
  simp only [Act.put, List.setIfInBounds_toArray, List.set_cons_zero, List.set_cons_succ]
  obtain ⟨u6, hu6⟩ : ∃ u, u5.setRow b (saleD b).cells.toArray = u := ⟨_, rfl⟩
  rw [hu6]
  have HB6 : Hid (u6.heap[b]? = some (.cells (saleD b).cells.toArray 41 (0, 0))) := by rw [← hu6]; exact blk_row (HF05.out.blk HB0.out (fun h => h)) _
  have HF6 : Hid (Fr (fun j => j = b) u5 u6) := by rw [← hu6]; exact (Fr.refl (fun j => j = b) u5).setRow (.inl rfl) _
  clear hu6
  go_wp2_with fail
  refine bodyPost_ret (results_blk Try.results21 rfl HB6.out Try.underlying41 rfl (by rw [info_item]; rfl)) rfl ?_
  rw [HBB.out]
  refine ⟨rfl, sale_lay (HF6.out.blk ((((HF2.out.trans HF3.out).trans HF4.out).trans HF5.out).blk HC1.out (fun h => h)) (by omega)) (HF6.out.blk (HF5.out.blk HB4.out (fun h => h)) (by omega)) (HF6.out.blk HB5.out (by omega)), ?_⟩
  exact (HF0.out.trans HF05.out).trans' HF6.out (fun g hg e => by have := HBB.out; omega)
def termI : Rs.Item := { itZ with kind := 6, name := [116, 101, 114, 109], within := ⟨5, false, []⟩ }
def goodI : Rs.Item := { itZ with kind := 14, of_ := [115, 97, 108, 101], name := [115, 49], names := [[98, 117, 121, 101, 114]], pos := 7 }
def wrongI : Rs.Item := { itZ with kind := 14, of_ := [115, 97, 108, 101], name := [115, 50], pos := 8 }
def lostI : Rs.Item := { itZ with kind := 14, of_ := [108, 101, 97, 115, 101], name := [115, 51], names := [[98, 117, 121, 101, 114]], pos := 9 }
def termD : DT := .node termI Vw.nil Vw.nil Vw.nil Vw.nil []
def goodD (b : Nat) : DT := .node goodI Vw.nil Vw.nil (one b) Vw.nil []
def wrongD : DT := .node wrongI Vw.nil Vw.nil Vw.nil Vw.nil []
def lostD (b : Nat) : DT := .node lostI Vw.nil Vw.nil (one b) Vw.nil []
def payO : Rs.Item := { itZ with kind := 9, name := [115, 49, 46, 112, 97, 121], pos := 7, of_ := [98, 117, 121, 101, 114], act := [112, 97, 121, 109, 101, 110, 116], times := 1, within := ⟨5, false, []⟩, conds := [⟨[115, 49, 46, 103, 105, 118, 101], 2⟩] }
def giveO : Rs.Item := { itZ with kind := 9, name := [115, 49, 46, 103, 105, 118, 101], pos := 7, of_ := [115, 101, 108, 108, 101, 114], act := [100, 101, 108, 105, 118, 101, 114, 121], times := 1, within := ⟨3, false, []⟩ }
def src0 : Rs.Source := ⟨[], ⟨0, 0, 0⟩, 0, []⟩
theorem ex1 (b n : Nat) : expand (srcT src0 [goodD b, saleD n, termD]) = (⟨[], ⟨0, 0, 0⟩, 0, [.node payO [], .node giveO []]⟩, []) := by kernel_rfl
theorem ex2 (b n : Nat) : expand (srcT src0 [wrongD, lostD b, saleD n, termD]) = (zero, [⟨1, 8⟩, ⟨8, 9⟩]) := by kernel_rfl
theorem build_term (w : World) : (Instr.build 41 #[(0, .int .i64 6), (1, .string ⟨#[116, 101, 114, 109]⟩), (7, .agg #[.int .i64 5, .bool false, .string ⟨#[]⟩])]).run Try.prog w = .ok (.agg termD.cells.toArray) w := by kernel_rfl
theorem build_good (b : Nat) (w : World) : (Instr.build 41 #[(0, .int .i64 14), (3, .string ⟨#[115, 97, 108, 101]⟩), (1, .string ⟨#[115, 49]⟩), (20, .slice (some ⟨b, 0, none⟩) 1 1), (2, .int .i64 7)]).run Try.prog w = .ok (.agg (goodD b).cells.toArray) w := by kernel_rfl
theorem build_wrong (w : World) : (Instr.build 41 #[(0, .int .i64 14), (3, .string ⟨#[115, 97, 108, 101]⟩), (1, .string ⟨#[115, 50]⟩), (2, .int .i64 8)]).run Try.prog w = .ok (.agg wrongD.cells.toArray) w := by kernel_rfl
theorem build_lost (b : Nat) (w : World) : (Instr.build 41 #[(0, .int .i64 14), (3, .string ⟨#[108, 101, 97, 115, 101]⟩), (1, .string ⟨#[115, 51]⟩), (20, .slice (some ⟨b, 0, none⟩) 1 1), (2, .int .i64 9)]).run Try.prog w = .ok (.agg (lostD b).cells.toArray) w := by kernel_rfl
theorem one_term : termD.cells.toArray.all (·.oneCell') = true := by simp [termD, DT.cells, icells, Value.oneCell', sv, nv, Vw.nil]
theorem one_good (b : Nat) : (goodD b).cells.toArray.all (·.oneCell') = true := by simp [goodD, one, DT.cells, icells, Value.oneCell', sv, nv, Vw.nil]
theorem one_wrong : wrongD.cells.toArray.all (·.oneCell') = true := by simp [wrongD, DT.cells, icells, Value.oneCell', sv, nv, Vw.nil]
theorem one_lost (b : Nat) : (lostD b).cells.toArray.all (·.oneCell') = true := by simp [lostD, one, DT.cells, icells, Value.oneCell', sv, nv, Vw.nil]
theorem bsl_3 (b n : Nat) (w : World) : (Instr.buildSlice 24 3 #[(0, .agg (goodD b).cells.toArray), (1, .agg (saleD n).cells.toArray), (2, .agg termD.cells.toArray)]).run Try.prog w = .ok (.slice (some ⟨w.heap.size, 0, none⟩) 3 3) (w.alloc (.cells ([goodD b, saleD n, termD].map DT.cells).flatten.toArray 41)) := by kernel_rfl
theorem bsl_4 (b n : Nat) (w : World) : (Instr.buildSlice 24 4 #[(0, .agg wrongD.cells.toArray), (1, .agg (lostD b).cells.toArray), (2, .agg (saleD n).cells.toArray), (3, .agg termD.cells.toArray)]).run Try.prog w = .ok (.slice (some ⟨w.heap.size, 0, none⟩) 4 4) (w.alloc (.cells ([wrongD, lostD b, saleD n, termD].map DT.cells).flatten.toArray 41)) := by kernel_rfl
/-- What head holds: its items in memory. -/
structure HI (W X : World) : Prop where
  fr : Fr (fun _ => False) W X
  t : X.heap[W.heap.size]? = some (.cells termD.cells.toArray 41 (0, 0))
  nb : X.heap[W.heap.size + 1]? = some (.cells #[.string ⟨#[98, 117, 121, 101, 114]⟩] 9 (0, 0))
  g : X.heap[W.heap.size + 2]? = some (.cells (goodD (W.heap.size + 1)).cells.toArray 41 (0, 0))
  w : X.heap[W.heap.size + 3]? = some (.cells wrongD.cells.toArray 41 (0, 0))
  nl : X.heap[W.heap.size + 4]? = some (.cells #[.string ⟨#[98, 117, 121, 101, 114]⟩] 9 (0, 0))
  l : X.heap[W.heap.size + 5]? = some (.cells (lostD (W.heap.size + 4)).cells.toArray 41 (0, 0))
theorem HI.keep {S : Nat → Prop} {W X X' : World} (h : HI W X) (hf : Fr S X X') (hs : ∀ g, g < W.heap.size + 6 → ¬ S g) : HI W X' :=
  ⟨h.fr.trans' hf (fun g hg e => hs g (by omega) e), hf.blk h.t (hs _ (by omega)), hf.blk h.nb (hs _ (by omega)), hf.blk h.g (hs _ (by omega)), hf.blk h.w (hs _ (by omega)), hf.blk h.nl (hs _ (by omega)), hf.blk h.l (hs _ (by omega))⟩
theorem HI.size {W X : World} (h : HI W X) : W.heap.size + 6 ≤ X.heap.size := lt_of_blk h.l
theorem lay_names {B : Nat → Prop} {W : World} {h : Rs.Item} {g : Nat} {x : Rs.Bytes} (hb : W.heap[g]? = some (.cells #[sv x] 9 (0, 0))) (hB : B g) (h1 : h.conds = []) (h2 : h.dates = []) (h3 : h.names = [x]) : Lay B W (.node h Vw.nil Vw.nil (one g) Vw.nil []) :=
  .node h _ _ _ _ _ (by rw [h1]; exact RowB.nil B W 2) (by rw [h2]; exact RowB.nil B W 3) (by rw [h3]; exact RowB.new (xs := [[sv x]]) (fun x hx => by simp only [List.mem_cons, List.not_mem_nil, or_false] at hx; subst hx; rfl) (by show 1 ≤ _; decide) hb hB) (RowB.nil B W 33) (fun x hx => absurd hx List.not_mem_nil)
theorem lay_row {B : Nat → Prop} {W : World} {l : List DT} {g : Nat} (hl : l.length ≤ 1000) (hb : W.heap[g]? = some (.cells (l.map DT.cells).flatten.toArray 41 (0, 0))) (hB : B g) (h : ∀ x ∈ l, Lay B W x) : LayL B W l (.slice (some ⟨g, 0, none⟩) l.length l.length) := by
  have := RowB.new (xs := l.map DT.cells) (B := B) (fun x hx => by obtain ⟨y, _, rfl⟩ := List.mem_map.1 hx; exact y.cells_len) (by rw [List.length_map]; omega) hb hB
  rw [List.length_map] at this
  exact ⟨this, h⟩
theorem sh_flat {h : Rs.Item} {c d n i : Value} (h1 : h.names.length ≤ 30) (h2 : h.conds.length ≤ 30) (h3 : h.dates.length ≤ 30) (h4 : h.name.length ≤ 100) : Sh (.node h c d n i []) := .node _ h1 h2 h3 h4 (fun y hy => absurd hy List.not_mem_nil)
theorem sh_sale (n : Nat) : Sh (saleD n) := .node _ (by show 1 ≤ 30; decide) (by show 0 ≤ 30; decide) (by show 0 ≤ 30; decide) (by show 4 ≤ 100; decide) (fun y hy => by
  have hy : y ∈ [payD n, giveD] := hy
  simp only [List.mem_cons, List.not_mem_nil, or_false] at hy
  rcases hy with rfl | rfl
  · exact sh_flat (by decide) (by decide) (by decide) (by decide)
  · exact sh_flat (by decide) (by decide) (by decide) (by decide))
theorem cond_sale (n : Nat) : ∀ y ∈ (saleD n).l, ∀ c ∈ y.h.conds, c.name.length ≤ 140737488355328 := fun y hy c hc => by
  have hy : y ∈ [payD n, giveD] := hy
  simp only [List.mem_cons, List.not_mem_nil, or_false] at hy
  rcases hy with rfl | rfl
  · have hc : c ∈ [(⟨[103, 105, 118, 101], 2⟩ : Named)] := hc
    simp only [List.mem_cons, List.not_mem_nil, or_false] at hc
    subst hc
    decide
  · exact absurd hc List.not_mem_nil
/-- The first example is expanded. -/
theorem call1 (W X : World) (n g : Nat) (h : HI W X) (hs : Lay (fun g => W.heap.size ≤ g) X (saleD n)) (hb : X.heap[g]? = some (.cells ([goodD (W.heap.size + 1), saleD n, termD].map DT.cells).flatten.toArray 41 (0, 0))) :
    Calls Try.prog 11 #[.agg (scells [] ⟨0, 0, 0⟩ 0 (.slice (some ⟨g, 0, none⟩) 3 3)).toArray] X fun e w' => ∃ (iv : Value) (A : Option Addr) (c : Nat) (ds : List DT), e = .returned (.tuple #[.agg (scells [] ⟨0, 0, 0⟩ 0 iv).toArray, .slice A 0 c]) ∧ ds.map DT.tree = [.node payO [], .node giveO []] ∧ LayL (fun g => X.heap.size ≤ g) w' ds iv ∧ Fr (fun _ => False) X w' := by
  have hL : LayL (fun g => g < X.heap.size) X [goodD (W.heap.size + 1), saleD n, termD] (.slice (some ⟨g, 0, none⟩) 3 3) := lay_row (l := [goodD (W.heap.size + 1), saleD n, termD]) (by show 3 ≤ _; decide) hb (lt_of_blk hb) (fun x hx => by
    simp only [List.mem_cons, List.not_mem_nil, or_false] at hx
    rcases hx with rfl | rfl | rfl
    · exact lay_names h.nb (lt_of_blk h.nb) rfl rfl rfl
    · exact hs.mono (fun g hg _ => hg)
    · exact lay_flat rfl rfl rfl)
  have hx := expand_any src0 _ _ X hL (fun x hx => by
    simp only [List.mem_cons, List.not_mem_nil, or_false] at hx
    rcases hx with rfl | rfl | rfl
    · exact sh_flat (by decide) (by decide) (by decide) (by decide)
    · exact sh_sale n
    · exact sh_flat (by decide) (by decide) (by decide) (by decide)) (fun z hz hk => by
    simp only [List.mem_cons, List.not_mem_nil, or_false] at hz
    rcases hz with rfl | rfl | rfl
    · exact absurd hk (show ¬ (14 : Int) = 13 by decide)
    · exact cond_sale n
    · exact absurd hk (show ¬ (6 : Int) = 13 by decide))
  unfold ExpR at hx
  rw [ex1] at hx
  refine hx.mono ?_
  rintro e w' ⟨iv, fv, ds, rfl, h1, h2, h3, h4⟩
  obtain ⟨A, c, rfl, _, _⟩ := h3.slice
  exact ⟨iv, A, c, ds, rfl, h1, h2, h4⟩
theorem call2 (W X : World) (n g : Nat) (h : HI W X) (hs : Lay (fun g => W.heap.size ≤ g) X (saleD n)) (hb : X.heap[g]? = some (.cells ([wrongD, lostD (W.heap.size + 4), saleD n, termD].map DT.cells).flatten.toArray 41 (0, 0))) :
    Calls Try.prog 11 #[.agg (scells [] ⟨0, 0, 0⟩ 0 (.slice (some ⟨g, 0, none⟩) 4 4)).toArray] X fun e w' => ∃ (A : Option Addr) (n2 c : Nat) (fv : Value), e = .returned (.tuple #[.agg (scells [] ⟨0, 0, 0⟩ 0 (.slice A n2 c)).toArray, fv]) ∧ RowB (fun g => X.heap.size ≤ g) w' fv 2 [[.int .i64 1, .int .i64 8], [.int .i64 8, .int .i64 9]] ∧ Fr (fun _ => False) X w' := by
  have hL : LayL (fun g => g < X.heap.size) X [wrongD, lostD (W.heap.size + 4), saleD n, termD] (.slice (some ⟨g, 0, none⟩) 4 4) := lay_row (l := [wrongD, lostD (W.heap.size + 4), saleD n, termD]) (by show 4 ≤ _; decide) hb (lt_of_blk hb) (fun x hx => by
    simp only [List.mem_cons, List.not_mem_nil, or_false] at hx
    rcases hx with rfl | rfl | rfl | rfl
    · exact lay_flat rfl rfl rfl
    · exact lay_names h.nl (lt_of_blk h.nl) rfl rfl rfl
    · exact hs.mono (fun g hg _ => hg)
    · exact lay_flat rfl rfl rfl)
  have hx := expand_any src0 _ _ X hL (fun x hx => by
    simp only [List.mem_cons, List.not_mem_nil, or_false] at hx
    rcases hx with rfl | rfl | rfl | rfl
    · exact sh_flat (by decide) (by decide) (by decide) (by decide)
    · exact sh_flat (by decide) (by decide) (by decide) (by decide)
    · exact sh_sale n
    · exact sh_flat (by decide) (by decide) (by decide) (by decide)) (fun z hz hk => by
    simp only [List.mem_cons, List.not_mem_nil, or_false] at hz
    rcases hz with rfl | rfl | rfl | rfl
    · exact absurd hk (show ¬ (14 : Int) = 13 by decide)
    · exact absurd hk (show ¬ (14 : Int) = 13 by decide)
    · exact cond_sale n
    · exact absurd hk (show ¬ (6 : Int) = 13 by decide))
  unfold ExpR at hx
  rw [ex2] at hx
  refine hx.mono ?_
  rintro e w' ⟨iv, fv, ds, rfl, h1, h2, h3, h4⟩
  obtain ⟨A, c, rfl, _, _⟩ := h2.slice
  exact ⟨A, _, c, fv, rfl, h3, h4⟩
end Go.Proofs.Yticakdajhmfpoaa.Ic
