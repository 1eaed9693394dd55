/-
  Operations on maps in walks.
-/
import Derived.Test.YticakdajhmfpoaaMapS
import Derived.Test.YticakdajhmfpoaaMem
namespace Go.Proofs.Yticakdajhmfpoaa.Mp
open Go.RowKit Mem Go.ChangeMaps
set_option linter.unusedVariables false
variable {P : Program}
/-- 'm[k] = v', at the operation. -/
theorem wp_up {o : Oper} {a : Act} {w w' : World} {K : Act → World → Prop} {Q : Exit → Act → World → Prop} (T : TypeId) (m k x : Operand) (ho : o.op = .mapUpdate T m k x ∨ o.op = .insert T m k x)
    {mv kv xv : Value} (hm : a.eval m = mv) (hk : a.eval k = kv) (hx : a.eval x = xv) (hr : (Instr.mapUpdate T mv kv xv).run P w = .ok () w') (h : K (a.put o.dst undef) w') : o.wp P a w K Q := by
  subst hm hk hx
  unfold Oper.wp
  rcases ho with ho | ho <;> (simp [execOp, ho, hr, Result.andThen]; exact h)
theorem wpList_up {ops : Array Oper} {rest : List Oper} {o : Oper} {a : Act} {w w' : World} {Q : Exit → Act → World → Prop} (hg : o.guard = none) (T : TypeId) (m k x : Operand) (ho : o.op = .mapUpdate T m k x ∨ o.op = .insert T m k x)
    {mv kv xv : Value} (hm : a.eval m = mv) (hk : a.eval k = kv) (hx : a.eval x = xv) (hr : (Instr.mapUpdate T mv kv xv).run P w = .ok () w') (h : wpList P ops Q rest (a.put o.dst undef) w') : wpList P ops Q (o :: rest) a w :=
  wpList_plain hg fun _ hK => wp_up T m k x ho hm hk hx hr (hK _ _ h)
theorem Fr.setBlock {S : Nat → Prop} {A B : World} (h : Fr S A B) {g : Nat} {o o' : Obj} (hb : B.heap[g]? = some o) (hg : S g ∨ A.heap.size ≤ g) : Fr S A (ChangeMaps.setBlock B g o') := by
  have hlt : g < B.heap.size := lt_of_blk hb
  refine ⟨h.os, h.tape, h.output, ?_, fun k hk hs => ?_⟩
  · show _ ≤ (B.heap.setIfInBounds g o').size
    rw [Array.size_setIfInBounds]; exact h.size
  · have hne : g ≠ k := fun e => by
      rcases hg with hg | hg
      · exact hs (e ▸ hg)
      · omega
    show (B.heap.setIfInBounds g o')[k]? = _
    rw [Array.getElem?_setIfInBounds_ne hne]
    exact h.block k hk hs
theorem blk_setBlock {w : World} {g k : Nat} {o o' : Obj} (h : w.heap[k]? = some o) (hk : k ≠ g) : (ChangeMaps.setBlock w g o').heap[k]? = some o := by
  show (w.heap.setIfInBounds g o')[k]? = _
  rw [Array.getElem?_setIfInBounds_ne (Ne.symm hk)]
  exact h
theorem MapF.blk {w : World} {r : Nat} {f : Bytes → Option Value} (h : MapF w r f) : ∃ o, w.heap[r]? = some o := by
  obtain ⟨es, clock, l, h1, _⟩ := h
  exact ⟨_, h1⟩
theorem MapF.fr {S : Nat → Prop} {w w' : World} {r : Nat} {f : Bytes → Option Value} (h : MapF w r f) (hf : Fr S w w') (hs : ¬ S r) : MapF w' r f := h.of_heap (hf.block r h.lt hs)
end Go.Proofs.Yticakdajhmfpoaa.Mp
