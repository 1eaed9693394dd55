/-
  Blocks that are loaded and stored whole, in the walk.
-/
import Derived.Test.YticakdajhmfpoaaVw
import Derived.Test.YticakdajhmfpoaaProg
import Derived.Laws.Rows
import Derived.Laws.Tables
import Derived.Deep.MidRow
namespace Go.Proofs.Yticakdajhmfpoaa.Mem
open Go.RowKit
set_option linter.unusedVariables false

theorem blk_row {w : World} {g : Nat} {old : Array Value} {t : TypeId} (h : w.heap[g]? = some (.cells old t (0, 0))) (cs : Array Value) : (w.setRow g cs).heap[g]? = some (.cells cs t (0, 0)) := setRow_heap w g old cs t (0, 0) h
theorem blk_row_far {w : World} {g k : Nat} {o : Obj} (h : w.heap[k]? = some o) (hk : k ≠ g) (cs : Array Value) : (w.setRow g cs).heap[k]? = some o := by
  rw [setRow_other w g k cs hk]; exact h
theorem Fr.setRow {S : Nat → Prop} {A B : World} (h : Fr S A B) {g : Nat} (hg : S g ∨ A.heap.size ≤ g) (cs : Array Value) : Fr S A (B.setRow g cs) := by
  refine h.trans' (T := fun k => k = g) ⟨rfl, rfl, rfl, by simp, fun k hk hs => ?_⟩ ?_
  · exact setRow_other _ _ _ _ hs
  · rintro i hi rfl
    rcases hg with hg | hg
    · exact hg
    · omega
theorem wpList_built {ops : Array Oper} {rest : List Oper} {o : Oper} {a : Act} {w : World} {Q : Exit → Act → World → Prop} (hg : o.guard = none) (t : TypeId) (parts : Array (Nat × Operand)) (hop : o.op = .build t parts) (ps : Array (Nat × Value))
    (hp : parts.map (fun (i, x) => (i, a.eval x)) = ps) (v : Value) (hb : (Instr.build t ps).run Try.prog w = .ok v w) (h : wpList Try.prog ops Q rest (a.put o.dst v) w) : wpList Try.prog ops Q (o :: rest) a w := by
  refine wpList_plain hg fun K hK => ?_
  unfold Oper.wp
  simp [execOp, hop, hp, hb, Result.andThen]
  exact hK _ _ h
theorem results_blk {fn : Func} {r : Nat} {T : TypeId} (hf : fn.results = #[.cell r T]) {tmps : Array Value} {w : World} {g : Nat} {cs : Array Value} {t : TypeId} {d : TypeDesc} (ht : tmps.getD r undef = .pointer (some ⟨g, 0, none⟩)) (hg : w.heap[g]? = some (.cells cs t (0, 0)))
    (hu : Try.prog.underlying T = some d) (hd : d.isRow = true) (hi : (Try.prog.info? T).map (·.size) = some cs.size) : (results fn tmps).run Try.prog w = .ok (.agg cs) w := by
  have ht' : tmps[r]?.getD undef = .pointer (some ⟨g, 0, none⟩) := by simpa using ht
  have hl := run_loadVar_row (P := Try.prog) w g t T cs (0, 0) d hg hu (by cases d <;> first | rfl | exact hd) hi
  unfold results
  rw [hf]
  simp [ht', asAddr, hl]
end Go.Proofs.Yticakdajhmfpoaa.Mem
