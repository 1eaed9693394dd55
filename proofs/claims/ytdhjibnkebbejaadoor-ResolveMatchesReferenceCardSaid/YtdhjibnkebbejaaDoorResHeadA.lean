/-
  The example of the law: its source in memory.
-/
import Derived.Test.YtdhjibnkebbejaaDoorResTop
namespace Go.Proofs.YtdhjibnkebbejaaDoor.Rs
open Go.RowKit Mem Vw
set_option linter.unusedVariables false
set_option linter.unusedSimpArgs false

def it0 : Item := ⟨0, [], 0, [], [], 0, 0, ⟨0, false, []⟩, ⟨0, false, []⟩, [], [], [], ⟨0, 0⟩, [], [], false, [], [], [false, false, false, false, false, false, false], [], []⟩
def sl0 : Sl := (Vw.nil, Vw.nil, Vw.nil, Vw.nil)
def sl6 (b : Nat) : Sl := (.slice (some ⟨b, 0, none⟩) 1 1, Vw.nil, Vw.nil, Vw.nil)
def ex1 : Item := { it0 with kind := 2, name := [115], pos := 1, of_ := [97] }
def ex2 : Item := { it0 with kind := 1, name := [97], pos := 2 }
def ex3 : Item := { it0 with kind := 3, name := [107, 103], pos := 3, word := 1, num := ⟨1, 1000⟩, unit := [116] }
def ex4 : Item := { it0 with kind := 3, name := [116], pos := 4, word := 1 }
def ex5 : Item := { it0 with kind := 8, name := [103, 105, 118, 101], pos := 5, word := 1, of_ := [115], num := ⟨5, 1⟩, unit := [107, 103] }
def ex6 : Item := { it0 with kind := 9, name := [100], pos := 6, of_ := [115], act := [103, 105, 118, 101], times := 2, within := ⟨3, false, []⟩, conds := [⟨[100], 4⟩], fin := true }
def ex7 : Item := { it0 with kind := 1, name := [97], pos := 9 }
def ex8 : Item := { it0 with kind := 2, name := [114], of_ := [98], pos := 10 }
/-- The example's items, with their slices; b: the block of the conditions. -/
def exz (b : Nat) : List (Item × Sl) := [(ex1, sl0), (ex2, sl0), (ex3, sl0), (ex4, sl0), (ex5, sl0), (ex6, sl6 b)]
def exz2 : List (Item × Sl) := [(ex7, sl0), (ex8, sl0)]
def exs : Source := ⟨[99], ⟨2026, 1, 5⟩, 30, [ex1, ex2, ex3, ex4, ex5, ex6]⟩
def exs2 : Source := ⟨[99], ⟨2026, 1, 5⟩, 30, [ex1, ex2, ex3, ex4, ex5, ex6, ex7, ex8]⟩
theorem build_ex1 (w : World) : (Instr.build 55 #[(0, .int .i64 2), (1, .string ⟨#[115]⟩), (2, .int .i64 1), (3, .string ⟨#[97]⟩)]).run Tryd.prog w = .ok (.agg (ic (ex1, sl0)).toArray) w := by kernel_rfl
theorem build_ex2 (w : World) : (Instr.build 55 #[(0, .int .i64 1), (1, .string ⟨#[97]⟩), (2, .int .i64 2)]).run Tryd.prog w = .ok (.agg (ic (ex2, sl0)).toArray) w := by kernel_rfl
theorem build_ex3 (w : World) : (Instr.build 55 #[(0, .int .i64 3), (1, .string ⟨#[107, 103]⟩), (2, .int .i64 3), (5, .int .i64 1), (12, .agg #[.int .i64 1, .int .i64 1000]), (13, .string ⟨#[116]⟩)]).run Tryd.prog w = .ok (.agg (ic (ex3, sl0)).toArray) w := by kernel_rfl
theorem build_ex4 (w : World) : (Instr.build 55 #[(0, .int .i64 3), (1, .string ⟨#[116]⟩), (2, .int .i64 4), (5, .int .i64 1)]).run Tryd.prog w = .ok (.agg (ic (ex4, sl0)).toArray) w := by kernel_rfl
theorem build_ex5 (w : World) : (Instr.build 55 #[(0, .int .i64 8), (1, .string ⟨#[103, 105, 118, 101]⟩), (2, .int .i64 5), (5, .int .i64 1), (3, .string ⟨#[115]⟩), (12, .agg #[.int .i64 5, .int .i64 1]), (13, .string ⟨#[107, 103]⟩)]).run Tryd.prog w = .ok (.agg (ic (ex5, sl0)).toArray) w := by kernel_rfl
theorem build_ex6 (b : Nat) (w : World) : (Instr.build 55 #[(0, .int .i64 9), (1, .string ⟨#[100]⟩), (2, .int .i64 6), (3, .string ⟨#[115]⟩), (4, .string ⟨#[103, 105, 118, 101]⟩), (6, .int .i64 2), (7, .agg #[.int .i64 3, .bool false, .string ⟨#[]⟩]), (9, .slice (some ⟨b, 0, none⟩) 1 1), (15, .bool true)]).run Tryd.prog w = .ok (.agg (ic (ex6, (sl6 b))).toArray) w := by kernel_rfl
theorem build_ex7 (w : World) : (Instr.build 55 #[(0, .int .i64 1), (1, .string ⟨#[97]⟩), (2, .int .i64 9)]).run Tryd.prog w = .ok (.agg (ic (ex7, sl0)).toArray) w := by kernel_rfl
theorem build_ex8 (w : World) : (Instr.build 55 #[(0, .int .i64 2), (1, .string ⟨#[114]⟩), (3, .string ⟨#[98]⟩), (2, .int .i64 10)]).run Tryd.prog w = .ok (.agg (ic (ex8, sl0)).toArray) w := by kernel_rfl
def aggs (l : List (Item × Sl)) : Array (Nat × Value) := (l.zipIdx.map fun p => (p.2, Value.agg (ic p.1).toArray)).toArray
theorem bslice6 (b : Nat) (w : World) : (Instr.buildSlice 24 6 #[(0, .agg (ic (ex1, sl0)).toArray), (1, .agg (ic (ex2, sl0)).toArray), (2, .agg (ic (ex3, sl0)).toArray), (3, .agg (ic (ex4, sl0)).toArray), (4, .agg (ic (ex5, sl0)).toArray), (5, .agg (ic (ex6, sl6 b)).toArray)]).run Tryd.prog w = .ok (.slice (some ⟨w.heap.size, 0, none⟩) 6 6) (w.alloc (.cells ((exz b).flatMap ic).toArray 55)) := by kernel_rfl
theorem bslice2 (w : World) : (Instr.buildSlice 24 2 #[(0, .agg (ic (ex7, sl0)).toArray), (1, .agg (ic (ex8, sl0)).toArray)]).run Tryd.prog w = .ok (.slice (some ⟨w.heap.size, 0, none⟩) 2 2) (w.alloc (.cells (exz2.flatMap ic).toArray 55)) := by kernel_rfl
theorem bslice1 (w : World) : (Instr.buildSlice 50 1 #[(0, .agg #[.string ⟨#[100]⟩, .int .i64 4])]).run Tryd.prog w = .ok (.slice (some ⟨w.heap.size, 0, none⟩) 1 1) (w.alloc (.cells #[.string ⟨#[100]⟩, .int .i64 4] 116)) := by kernel_rfl
theorem wpList_builtS {ops : Array Oper} {rest : List Oper} {o : Oper} {a : Act} {w : World} {Q : Exit → Act → World → Prop} (hg : o.guard = none) (t : TypeId) (n : Nat) (parts : Array (Nat × Operand)) (hop : o.op = .buildSlice t n parts) (ps : Array (Nat × Value))
    (hp : parts.map (fun (i, x) => (i, a.eval x)) = ps) (v : Value) (w' : World) (hb : (Instr.buildSlice t n ps).run Tryd.prog w = .ok v w') (h : wpList Tryd.prog ops Q rest (a.put o.dst v) w') : wpList Tryd.prog ops Q (o :: rest) a w := by
  refine wpList_plain hg fun K hK => ?_
  unfold Oper.wp
  simp [execOp, hop, hp, hb, Result.andThen]
  exact hK _ _ h
set_option maxRecDepth 100000 in
set_option maxHeartbeats 4000000 in
theorem example_any (W : World) : Calls Tryd.prog 26 #[] W fun e w' => ∃ b, e = .returned (.agg (scells exs.name exs.frm exs.days (.slice (some ⟨W.heap.size + 1 + 1, 0, none⟩) 6 6)).toArray) ∧ b = W.heap.size + 1 ∧ w'.heap.size = W.heap.size + 3 ∧
    w'.heap[W.heap.size + 1]? = some (.cells #[.string ⟨#[100]⟩, .int .i64 4] 116 (0, 0)) ∧ w'.heap[W.heap.size + 1 + 1]? = some (.cells ((exz b).flatMap ic).toArray 55 (0, 0)) ∧ Below W.heap.size W w' := by
  go_enter Tryd.func26, Tryd.ntmps26
  go_upto_region 1 with fail
  iterate 4 go_step
  refine wpList_built rfl 55 _ rfl #[(0, .int .i64 2), (1, .string ⟨#[115]⟩), (2, .int .i64 1), (3, .string ⟨#[97]⟩)] (by go_simp) _ (build_ex1 _) ?_
  simp only [Act.put, List.setIfInBounds_toArray, List.set_cons_zero, List.set_cons_succ]
  refine wpList_built rfl 55 _ rfl #[(0, .int .i64 1), (1, .string ⟨#[97]⟩), (2, .int .i64 2)] (by go_simp) _ (build_ex2 _) ?_
  simp only [Act.put, List.setIfInBounds_toArray, List.set_cons_zero, List.set_cons_succ]
  iterate 3 go_step
  refine wpList_built rfl 55 _ rfl #[(0, .int .i64 3), (1, .string ⟨#[107, 103]⟩), (2, .int .i64 3), (5, .int .i64 1), (12, .agg #[.int .i64 1, .int .i64 1000]), (13, .string ⟨#[116]⟩)] (by go_simp) _ (build_ex3 _) ?_
  simp only [Act.put, List.setIfInBounds_toArray, List.set_cons_zero, List.set_cons_succ]
  refine wpList_built rfl 55 _ rfl #[(0, .int .i64 3), (1, .string ⟨#[116]⟩), (2, .int .i64 4), (5, .int .i64 1)] (by go_simp) _ (build_ex4 _) ?_
  simp only [Act.put, List.setIfInBounds_toArray, List.set_cons_zero, List.set_cons_succ]
  iterate 3 go_step
  refine wpList_built rfl 55 _ rfl #[(0, .int .i64 8), (1, .string ⟨#[103, 105, 118, 101]⟩), (2, .int .i64 5), (5, .int .i64 1), (3, .string ⟨#[115]⟩), (12, .agg #[.int .i64 5, .int .i64 1]), (13, .string ⟨#[107, 103]⟩)] (by go_simp) _ (build_ex5 _) ?_
  simp only [Act.put, List.setIfInBounds_toArray, List.set_cons_zero, List.set_cons_succ]
  iterate 6 go_step
  refine wpList_builtS rfl 50 1 _ rfl #[(0, .agg #[.string ⟨#[100]⟩, .int .i64 4])] (by go_simp) _ _ (bslice1 _) ?_
  simp only [Act.put, List.setIfInBounds_toArray, List.set_cons_zero, List.set_cons_succ, World.size_alloc]
  obtain ⟨u, hu⟩ : ∃ u, ((W.alloc (.cells #[.string ⟨#[]⟩, .int .i64 0, .int .i64 0, .int .i64 0, .int .i64 0, .slice none 0 0] 26)).alloc (.cells #[.string ⟨#[100]⟩, .int .i64 4] 116)) = u := ⟨_, rfl⟩
  rw [hu]
  have hsz : u.heap.size = W.heap.size + 1 + 1 := by rw [← hu]; simp
  have HRB : Hid (u.heap[W.heap.size]? = some (.cells #[.string ⟨#[]⟩, .int .i64 0, .int .i64 0, .int .i64 0, .int .i64 0, .slice none 0 0] 26 (0, 0))) := by rw [← hu]; exact blk_alloc (blk_newn rfl) _
  have HCB : Hid (u.heap[W.heap.size + 1]? = some (.cells #[.string ⟨#[100]⟩, .int .i64 4] 116 (0, 0))) := by rw [← hu]; exact blk_newn (by simp)
  have HBL : Hid (Below W.heap.size W u) := by rw [← hu]; exact ((Below.refl _ W).alloc (Nat.le_refl _) _).alloc (by simp) _
  clear hu
  refine wpList_built rfl 55 _ rfl #[(0, .int .i64 9), (1, .string ⟨#[100]⟩), (2, .int .i64 6), (3, .string ⟨#[115]⟩), (4, .string ⟨#[103, 105, 118, 101]⟩), (6, .int .i64 2), (7, .agg #[.int .i64 3, .bool false, .string ⟨#[]⟩]), (9, .slice (some ⟨(W.heap.size + 1), 0, none⟩) 1 1), (15, .bool true)] (by go_simp) _ (build_ex6 _ _) ?_
  simp only [Act.put, List.setIfInBounds_toArray, List.set_cons_zero, List.set_cons_succ]
  refine wpList_builtS rfl 24 6 _ rfl #[(0, .agg (ic (ex1, sl0)).toArray), (1, .agg (ic (ex2, sl0)).toArray), (2, .agg (ic (ex3, sl0)).toArray), (3, .agg (ic (ex4, sl0)).toArray), (4, .agg (ic (ex5, sl0)).toArray), (5, .agg (ic (ex6, sl6 (W.heap.size + 1))).toArray)] (by go_simp) _ _ (bslice6 _ _) ?_
  simp only [Act.put, List.setIfInBounds_toArray, List.set_cons_zero, List.set_cons_succ, hsz]
  obtain ⟨u2, hu2⟩ : ∃ u2, u.alloc (.cells ((exz (W.heap.size + 1)).flatMap ic).toArray 55) = u2 := ⟨_, rfl⟩
  rw [hu2]
  have HRB2 : Hid (u2.heap[W.heap.size]? = some (.cells #[.string ⟨#[]⟩, .int .i64 0, .int .i64 0, .int .i64 0, .int .i64 0, .slice none 0 0] 26 (0, 0))) := by rw [← hu2]; exact blk_alloc HRB.out _
  have HCB2 : Hid (u2.heap[W.heap.size + 1]? = some (.cells #[.string ⟨#[100]⟩, .int .i64 4] 116 (0, 0))) := by rw [← hu2]; exact blk_alloc HCB.out _
  have HIB2 : Hid (u2.heap[W.heap.size + 1 + 1]? = some (.cells ((exz (W.heap.size + 1)).flatMap ic).toArray 55 (0, 0))) := by rw [← hu2, ← hsz]; exact blk_newn rfl
  have HBL2 : Hid (Below W.heap.size W u2) := by rw [← hu2]; exact HBL.out.alloc (by omega) _
  have HSZ2 : Hid (u2.heap.size = W.heap.size + 3) := by show u2.heap.size = _; rw [← hu2]; simp [hsz]
  clear hu2 hsz
  iterate 3 go_step
  refine wpList_store_row rfl 26 _ _ rfl W.heap.size (scells exs.name exs.frm exs.days (.slice (some ⟨W.heap.size + 1 + 1, 0, none⟩) 6 6)).toArray rfl rfl 26 _ HRB2.out (by kernel_rfl) rfl (by simp [scells, sv, nv, Value.oneCell']) ?_
  simp only [Act.put, List.setIfInBounds_toArray, List.set_cons_zero, List.set_cons_succ]
  obtain ⟨w9, hw9⟩ : ∃ w9, u2.setRow W.heap.size (scells exs.name exs.frm exs.days (.slice (some ⟨W.heap.size + 1 + 1, 0, none⟩) 6 6)).toArray = w9 := ⟨_, rfl⟩
  rw [hw9]
  have hfr : Fr (fun j => j = W.heap.size) u2 w9 := by rw [← hw9]; exact (Fr.refl (fun j => j = W.heap.size) u2).setRow (.inl rfl) _
  have HB9 : Hid (w9.heap[W.heap.size]? = some (.cells (scells exs.name exs.frm exs.days (.slice (some ⟨W.heap.size + 1 + 1, 0, none⟩) 6 6)).toArray 26 (0, 0))) := by rw [← hw9]; exact blk_row HRB2.out _
  have hs9 : w9.heap.size = u2.heap.size := by rw [← hw9]; simp
  have HF9 := Lib.hid hfr; have HS9 := Lib.hid hs9
  clear hw9 hfr hs9
  go_wp2_with fail
  refine bodyPost_ret (v := .agg (scells exs.name exs.frm exs.days (.slice (some ⟨W.heap.size + 1 + 1, 0, none⟩) 6 6)).toArray) (results_blk Tryd.results26 rfl HB9.out Tryd.underlying26 rfl (by kernel_rfl)) rfl ⟨W.heap.size + 1, rfl, rfl, HS9.out.trans HSZ2.out, HF9.out.blk HCB2.out (by omega), HF9.out.blk HIB2.out (by omega), HBL2.out.trans (HF9.out.below HBL2.out.size (fun j hj => by omega))⟩
end Go.Proofs.YtdhjibnkebbejaaDoor.Rs
