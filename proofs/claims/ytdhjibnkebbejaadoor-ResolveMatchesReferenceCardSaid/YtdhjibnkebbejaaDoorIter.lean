/-
  A range over a map: the iterator in whatever block; its step; the round's entry.
-/
import Derived.Test.YtdhjibnkebbejaaDoorBlk
import Derived.Laws.IdiomRangeMap
import Derived.OpenShut
import Derived.OwnWalk
namespace Go.Proofs.YtdhjibnkebbejaaDoor.Mem
open Go.RowKit
set_option linter.unusedVariables false

/-- A block's object in another's place. -/
def setb (w : World) (r : Nat) (o : Obj) : World := { w with heap := w.heap.setIfInBounds r o }
theorem setb_blk {w : World} {r : Nat} {o0 : Obj} (o : Obj) (h : w.heap[r]? = some o0) : (setb w r o).heap[r]? = some o := by
  have hlt := lt_of_blk h
  simp [setb, hlt]
theorem setb_far {w : World} {r k : Nat} (o : Obj) (hk : k ≠ r) : (setb w r o).heap[k]? = w.heap[k]? := by
  simp only [setb]
  rw [Array.getElem?_setIfInBounds, if_neg (fun e => hk e.symm)]
theorem setb_fr {w w1 : World} {r : Nat} (o : Obj) (hal : w1 = w ∨ w1 = w.drew) (S : Nat → Prop) (hS : S r) : Fr S w (setb w1 r o) := by
  have hb : ∀ k, ¬ S k → (setb w1 r o).heap[k]? = w.heap[k]? := by
    intro k hs
    rw [setb_far o (by rintro rfl; exact hs hS)]
    rcases hal with rfl | rfl <;> rfl
  rcases hal with rfl | rfl <;> exact ⟨rfl, rfl, rfl, by simp [setb], fun k hk hs => hb k hs⟩
theorem run_next_at {P : Program} (w : World) (ty : TypeId) (r bm since c0 : Nat) (seen : Array Nat) (es : Array MapEntry) (clock : Nat) (hr : w.heap[r]? = some (.mapIter (some bm) since seen c0)) (hb : w.heap[bm]? = some (.map es clock)) (hold : ∀ x ∈ es.toList, x.born < since) (hsc : since ≤ c0) :
    ((leftOf es seen).size = 0 ∧ (Instr.next (.pointer (some ⟨r, 0, none⟩)) false ty).run P w = .ok (.tuple #[.bool false]) w) ∨
    ∃ e ∈ (leftOf es seen).toList, ∃ w1 : World, (w1 = w ∨ w1 = w.drew) ∧ (Instr.next (.pointer (some ⟨r, 0, none⟩)) false ty).run P w = .ok (.tuple #[.bool true, e.key, e.val]) (setb w1 r (.mapIter (some bm) since (seen.push e.born) clock)) := by
  simp only [Instr.next, getObj, Sem.run_bind, Sem.run, hr, hb, Result.andThen, next_test_false seen es since c0 hold hsc, Bool.false_eq_true, if_false]
  unfold leftOf
  have hmem : ∀ x ∈ (Array.filter (fun e => !seen.contains e.born) es).toList, x.born < since := fun x hx => hold x (by simp at hx ⊢; exact hx.1)
  generalize Array.filter (fun e => !seen.contains e.born) es = L at hmem ⊢
  have e1 : L.filter (fun x => decide (x.born < since)) = L := Array.filter_eq_self.2 (fun x hx => by simpa using hmem x (by simpa using hx))
  have e2 : L.filter (fun x => decide (x.born ≥ since)) = #[] := by
    rw [Array.filter_eq_empty_iff]
    intro x hx
    have := hmem x (by simpa using hx)
    simp
    omega
  simp only [e1, e2, Array.append_empty]
  by_cases h0 : L.size = 0
  · left
    have : L = #[] := Array.eq_empty_of_size_eq_zero h0
    subst this
    refine ⟨rfl, ?_⟩
    simp [choose, Sem.run, Question.forced]
  · right
    have hne : L.isEmpty = false := by simp [Array.isEmpty, h0]
    simp only [hne, Bool.false_eq_true, if_false, Array.empty_append, Array.size_map]
    have hch : ∃ (j : Nat) (w1 : World), j < L.size ∧ (w1 = w ∨ w1 = w.drew) ∧ (choose (Question.mapNext L.size)).run P w = .ok j w1 := by
      by_cases hf : L.size ≤ 1
      · exact ⟨0, w, by omega, .inl rfl, by simp [choose, Sem.run, Question.forced, hf]⟩
      · exact ⟨_, w.drew, Nat.mod_lt _ (by omega), .inr rfl, by
          simp only [choose, Sem.run, Question.forced, decide_eq_true_eq, hf, if_false, Question.cut]
          rfl⟩
    obtain ⟨j, w1, hj, hal, hrun⟩ := hch
    have hr1 : w1.heap[r]? = some (.mapIter (some bm) since seen c0) := by rcases hal with rfl | rfl <;> exact hr
    refine ⟨L[j], by simp, w1, hal, ?_⟩
    have hset : ∀ o' : Obj, (setObj r o').run P w1 = .ok () (setb w1 r o') := fun o' => by
      simp only [setObj, Sem.run, hr1]
      rfl
    simp only [hrun, Array.getElem?_map, Array.getElem?_eq_getElem hj, Option.map_some, Sem.run_bind, hset, Result.andThen]
    rfl
theorem run_entry_at {P : Program} (w : World) (r bm since : Nat) (seen : Array Nat) (es : Array MapEntry) (clock : Nat) (e : MapEntry) (hr : w.heap[r]? = some (.mapIter (some bm) since (seen.push e.born) clock)) (hb : w.heap[bm]? = some (.map es clock)) (he : e ∈ es.toList) (hn : (es.toList.map (·.born)).Nodup) :
    (Instr.entry (.pointer (some ⟨r, 0, none⟩))).run P w = .ok (.tuple #[e.key, e.val]) w := by
  have hf : es.find? (·.born == e.born) = some e := by rw [← Array.find?_toList]; exact find_born e es.toList hn he
  simp only [Instr.entry, getObj, Sem.run_bind, Sem.run, hr, hb, Result.andThen, Array.back?_push, bne_self_eq_false, Bool.false_eq_true, if_false, hf]
  rfl
/-- The step, at an operation. -/
theorem wpList_next_at {P : Program} (w : World) {ops : Array Oper} {rest : List Oper} {o : Oper} {a : Act} {Q : Exit → Act → World → Prop} (hg : o.guard = none) (it : Operand) (hop : o.op = Op.next it false)
    (r bm since c0 : Nat) (seen : Array Nat) (es : Array MapEntry) (clock : Nat) (hit : a.eval it = .pointer (some ⟨r, 0, none⟩)) (hr : w.heap[r]? = some (.mapIter (some bm) since seen c0)) (hb : w.heap[bm]? = some (.map es clock)) (hold : ∀ x ∈ es.toList, x.born < since) (hsc : since ≤ c0)
    (hDone : (leftOf es seen).size = 0 → wpList P ops Q rest (a.put o.dst (.tuple #[.bool false])) w)
    (hMore : ∀ e ∈ (leftOf es seen).toList, ∀ w1 : World, (w1 = w ∨ w1 = w.drew) → wpList P ops Q rest (a.put o.dst (.tuple #[.bool true, e.key, e.val])) (setb w1 r (.mapIter (some bm) since (seen.push e.born) clock))) :
    wpList P ops Q (o :: rest) a w := by
  refine wpList_plain hg fun K' hK' => ?_
  unfold Oper.wp
  rcases run_next_at (P := P) w o.type r bm since c0 seen es clock hr hb hold hsc with ⟨h0, hrun⟩ | ⟨e, he, w1, hal, hrun⟩
  · simp [execOp, hop, hit, hrun, Result.andThen]
    exact hK' _ _ (hDone h0)
  · simp [execOp, hop, hit, hrun, Result.andThen]
    exact hK' _ _ (hMore e he w1 hal)
theorem results_blk2 {fn : Func} {r k : Nat} {T : TypeId} (hf : fn.results = #[.cell r T, .tmp k]) {tmps : Array Value} {w : World} {g : Nat} {cs : Array Value} {t : TypeId} {d : TypeDesc} {v2 : Value} (ht : tmps.getD r undef = .pointer (some ⟨g, 0, none⟩)) (hk : tmps.getD k undef = v2) (hg : w.heap[g]? = some (.cells cs t (0, 0)))
    (hu : Tryd.prog.underlying T = some d) (hd : d.isRow = true) (hi : (Tryd.prog.info? T).map (·.size) = some cs.size) : (results fn tmps).run Tryd.prog w = .ok (.tuple #[.agg cs, v2]) w := by
  have ht' : tmps[r]?.getD undef = .pointer (some ⟨g, 0, none⟩) := by simpa using ht
  have hk' : tmps[k]?.getD undef = v2 := by simpa using hk
  have hl := run_loadVar_row (P := Tryd.prog) w g t T cs (0, 0) d hg hu (by cases d <;> first | rfl | exact hd) hi
  unfold results
  rw [hf]
  simp [ht', hk', asAddr, hl]
end Go.Proofs.YtdhjibnkebbejaaDoor.Mem
