/-
  The rules of package deadline: a map with the keys 1 to 8.
-/
import Derived.Test.YticlmkfifpkdpaaDoorDlDay
import Derived.WideMake
namespace Go.Proofs.YticlmkfifpkdpaaDoor.Dl
open Go.RowKit Mem Vw Go.ChangeMaps
set_option linter.unusedVariables false
set_option linter.unusedSimpArgs false

theorem run_put {w : World} {r clock : Nat} {es : Array MapEntry} {s : Int} {val : Value} (hb : w.heap[r]? = some (.map es clock)) (hf : Instr.findNow (.int .i64) (.int .i64 s) es.toList 0 = some none) :
    (Instr.mapUpdate 101 (.map (some r)) (.int .i64 s) val).run Tryd.prog w = .ok () (setBlock w r (.map (es.push { key := .int .i64 s, val := val, born := clock }) (clock + 1))) := by
  have hc : (Instr.checkKey false 10000 3 (.int .i64 s)).run Tryd.prog w = .ok () w := MapKept.run_checkKey (k := .int .i64 s) Tryd.underlying3 (by simp [MapKept.IsKey]) false 9999
  simp [Instr.mapUpdate, run_underlying Tryd.underlying101, MapKept.run_getObj_map hb, hc, MapKept.run_findKey Tryd.underlying3 hf, MapKept.run_setObj_map _ hb, Result.andThen, setBlock]
theorem run_look {w : World} {r clock : Nat} {es : Array MapEntry} {s : Int} {i : Nat} {v : Value} (hb : w.heap[r]? = some (.map es clock)) (hf : Instr.findNow (.int .i64) (.int .i64 s) es.toList 0 = some (some (i, v))) :
    (Instr.lookup 101 (.map (some r)) (.int .i64 s) true).run Tryd.prog w = .ok (.tuple #[v, .bool true]) w := by
  have hc : ∀ e, (Instr.checkKey e 10000 3 (.int .i64 s)).run Tryd.prog w = .ok () w := fun e => MapKept.run_checkKey (k := .int .i64 s) Tryd.underlying3 (by simp [MapKept.IsKey]) e 9999
  simp [Instr.lookup, run_underlying Tryd.underlying101, MapKept.run_getObj_map hb, hc, MapKept.run_findKey Tryd.underlying3 hf, Result.andThen]
theorem run_look1 {w : World} {r clock : Nat} {es : Array MapEntry} {s : Int} {i : Nat} {v : Value} (hb : w.heap[r]? = some (.map es clock)) (hf : Instr.findNow (.int .i64) (.int .i64 s) es.toList 0 = some (some (i, v))) :
    (Instr.lookup 101 (.map (some r)) (.int .i64 s) false).run Tryd.prog w = .ok v w := by
  have hc : ∀ e, (Instr.checkKey e 10000 3 (.int .i64 s)).run Tryd.prog w = .ok () w := fun e => MapKept.run_checkKey (k := .int .i64 s) Tryd.underlying3 (by simp [MapKept.IsKey]) e 9999
  simp [Instr.lookup, run_underlying Tryd.underlying101, MapKept.run_getObj_map hb, hc, MapKept.run_findKey Tryd.underlying3 hf, Result.andThen]
theorem run_look_no {w : World} {r clock : Nat} {es : Array MapEntry} {s : Int} (hb : w.heap[r]? = some (.map es clock)) (hf : Instr.findNow (.int .i64) (.int .i64 s) es.toList 0 = some none) :
    (Instr.lookup 101 (.map (some r)) (.int .i64 s) true).run Tryd.prog w = .ok (.tuple #[.agg #[.nilFunc, .nilFunc], .bool false]) w := by
  have hc : ∀ e, (Instr.checkKey e 10000 3 (.int .i64 s)).run Tryd.prog w = .ok () w := fun e => MapKept.run_checkKey (k := .int .i64 s) Tryd.underlying3 (by simp [MapKept.IsKey]) e 9999
  have hz : (zeroValue 111).run Tryd.prog w = .ok (.agg #[.nilFunc, .nilFunc]) w := by kernel_rfl
  simp [Instr.lookup, run_underlying Tryd.underlying101, MapKept.run_getObj_map hb, hc, MapKept.run_findKey Tryd.underlying3 hf, hz, Result.andThen]
theorem put_fr {w : World} {r : Nat} {o o2 : Obj} (h : w.heap[r]? = some o) : (setBlock w r o2).heap[r]? = some o2 ∧ Fr (fun k => k = r) w (setBlock w r o2) := by
  refine ⟨?_, rfl, rfl, rfl, by simp [setBlock], fun k hk hs => ?_⟩
  · have := lt_of_blk h
    simp [setBlock, this]
  · simp only [setBlock]
    rw [Array.getElem?_setIfInBounds, if_neg (fun e => hs e.symm)]
theorem wpList_insert {ops : Array Oper} {rest : List Oper} {o : Oper} {a : Act} {w : World} {Q : Exit → Act → World → Prop} (hg : o.guard = none) (m : Operand) (s : Int) (x : Operand) (hop : o.op = .insert 101 m (.const (.int .i64 s)) x) (r clock : Nat) (es : Array MapEntry) (hm : a.eval m = .map (some r)) (val : Value) (hx : a.eval x = val)
    (hb : w.heap[r]? = some (.map es clock)) (hf : Instr.findNow (.int .i64) (.int .i64 s) es.toList 0 = some none)
    (h : ∀ w', w'.heap[r]? = some (.map (es.push { key := .int .i64 s, val := val, born := clock }) (clock + 1)) → Fr (fun k => k = r) w w' → wpList Tryd.prog ops Q rest (a.put o.dst undef) w') : wpList Tryd.prog ops Q (o :: rest) a w := by
  refine wpList_plain hg fun K hK => ?_
  unfold Oper.wp
  have hc : a.eval (.const (.int .i64 s)) = .int .i64 s := rfl
  simp [execOp, hop, hm, hx, hc, run_put hb hf, Result.andThen]
  exact hK _ _ (h _ (put_fr hb).1 (put_fr hb).2)
def ruleEnts : Array MapEntry := #[⟨.int .i64 1, .agg #[.func (.func 66) #[] #[], .func (.func 67) #[] #[]], 0⟩, ⟨.int .i64 2, .agg #[.func (.func 68) #[] #[], .func (.func 69) #[] #[]], 1⟩, ⟨.int .i64 3, .agg #[.func (.func 70) #[] #[], .func (.func 71) #[] #[]], 2⟩, ⟨.int .i64 4, .agg #[.func (.func 72) #[] #[], .func (.func 73) #[] #[]], 3⟩, ⟨.int .i64 5, .agg #[.func (.func 74) #[] #[], .func (.func 75) #[] #[]], 4⟩, ⟨.int .i64 6, .agg #[.func (.func 76) #[] #[], .func (.func 77) #[] #[]], 5⟩, ⟨.int .i64 7, .agg #[.func (.func 78) #[] #[], .func (.func 79) #[] #[]], 6⟩, ⟨.int .i64 8, .agg #[.func (.func 78) #[] #[], .func (.func 81) #[] #[]], 7⟩]
set_option maxRecDepth 100000 in
set_option maxHeartbeats 2000000 in
theorem rules_any (W : World) : Calls Tryd.prog 48 #[] W fun e w' => e = .returned (.map (some W.heap.size)) ∧ w'.heap[W.heap.size]? = some (.map ruleEnts 8) ∧ Below W.heap.size W w' := by
  have hmm := @run_makeMap Tryd.prog
  go_enter Tryd.func48, Tryd.ntmps48
  go_wp2_with (first | (refine wpList_insert rfl _ 1 _ rfl W.heap.size 0 #[] rfl _ rfl (blk_new W _) (by kernel_rfl) ?_; intro w1 hb hfr; have hb1 := Lib.hid hb; have hf1 := Lib.hid ((Fr.refl (fun k => k = W.heap.size) (W.alloc (.map #[] 0))).trans hfr); clear hb hfr) | (refine wpList_insert rfl _ 2 _ rfl W.heap.size 1 #[⟨.int .i64 1, .agg #[.func (.func 66) #[] #[], .func (.func 67) #[] #[]], 0⟩] rfl _ rfl hb1.out (by kernel_rfl) ?_; intro w2 hb hfr; have hb2 := Lib.hid hb; have hf2 := Lib.hid (hf1.out.trans hfr); clear hb hfr) | (refine wpList_insert rfl _ 3 _ rfl W.heap.size 2 #[⟨.int .i64 1, .agg #[.func (.func 66) #[] #[], .func (.func 67) #[] #[]], 0⟩, ⟨.int .i64 2, .agg #[.func (.func 68) #[] #[], .func (.func 69) #[] #[]], 1⟩] rfl _ rfl hb2.out (by kernel_rfl) ?_; intro w3 hb hfr; have hb3 := Lib.hid hb; have hf3 := Lib.hid (hf2.out.trans hfr); clear hb hfr) | (refine wpList_insert rfl _ 4 _ rfl W.heap.size 3 #[⟨.int .i64 1, .agg #[.func (.func 66) #[] #[], .func (.func 67) #[] #[]], 0⟩, ⟨.int .i64 2, .agg #[.func (.func 68) #[] #[], .func (.func 69) #[] #[]], 1⟩, ⟨.int .i64 3, .agg #[.func (.func 70) #[] #[], .func (.func 71) #[] #[]], 2⟩] rfl _ rfl hb3.out (by kernel_rfl) ?_; intro w4 hb hfr; have hb4 := Lib.hid hb; have hf4 := Lib.hid (hf3.out.trans hfr); clear hb hfr) | (refine wpList_insert rfl _ 5 _ rfl W.heap.size 4 #[⟨.int .i64 1, .agg #[.func (.func 66) #[] #[], .func (.func 67) #[] #[]], 0⟩, ⟨.int .i64 2, .agg #[.func (.func 68) #[] #[], .func (.func 69) #[] #[]], 1⟩, ⟨.int .i64 3, .agg #[.func (.func 70) #[] #[], .func (.func 71) #[] #[]], 2⟩, ⟨.int .i64 4, .agg #[.func (.func 72) #[] #[], .func (.func 73) #[] #[]], 3⟩] rfl _ rfl hb4.out (by kernel_rfl) ?_; intro w5 hb hfr; have hb5 := Lib.hid hb; have hf5 := Lib.hid (hf4.out.trans hfr); clear hb hfr) | (refine wpList_insert rfl _ 6 _ rfl W.heap.size 5 #[⟨.int .i64 1, .agg #[.func (.func 66) #[] #[], .func (.func 67) #[] #[]], 0⟩, ⟨.int .i64 2, .agg #[.func (.func 68) #[] #[], .func (.func 69) #[] #[]], 1⟩, ⟨.int .i64 3, .agg #[.func (.func 70) #[] #[], .func (.func 71) #[] #[]], 2⟩, ⟨.int .i64 4, .agg #[.func (.func 72) #[] #[], .func (.func 73) #[] #[]], 3⟩, ⟨.int .i64 5, .agg #[.func (.func 74) #[] #[], .func (.func 75) #[] #[]], 4⟩] rfl _ rfl hb5.out (by kernel_rfl) ?_; intro w6 hb hfr; have hb6 := Lib.hid hb; have hf6 := Lib.hid (hf5.out.trans hfr); clear hb hfr) | (refine wpList_insert rfl _ 7 _ rfl W.heap.size 6 #[⟨.int .i64 1, .agg #[.func (.func 66) #[] #[], .func (.func 67) #[] #[]], 0⟩, ⟨.int .i64 2, .agg #[.func (.func 68) #[] #[], .func (.func 69) #[] #[]], 1⟩, ⟨.int .i64 3, .agg #[.func (.func 70) #[] #[], .func (.func 71) #[] #[]], 2⟩, ⟨.int .i64 4, .agg #[.func (.func 72) #[] #[], .func (.func 73) #[] #[]], 3⟩, ⟨.int .i64 5, .agg #[.func (.func 74) #[] #[], .func (.func 75) #[] #[]], 4⟩, ⟨.int .i64 6, .agg #[.func (.func 76) #[] #[], .func (.func 77) #[] #[]], 5⟩] rfl _ rfl hb6.out (by kernel_rfl) ?_; intro w7 hb hfr; have hb7 := Lib.hid hb; have hf7 := Lib.hid (hf6.out.trans hfr); clear hb hfr) | (refine wpList_insert rfl _ 8 _ rfl W.heap.size 7 #[⟨.int .i64 1, .agg #[.func (.func 66) #[] #[], .func (.func 67) #[] #[]], 0⟩, ⟨.int .i64 2, .agg #[.func (.func 68) #[] #[], .func (.func 69) #[] #[]], 1⟩, ⟨.int .i64 3, .agg #[.func (.func 70) #[] #[], .func (.func 71) #[] #[]], 2⟩, ⟨.int .i64 4, .agg #[.func (.func 72) #[] #[], .func (.func 73) #[] #[]], 3⟩, ⟨.int .i64 5, .agg #[.func (.func 74) #[] #[], .func (.func 75) #[] #[]], 4⟩, ⟨.int .i64 6, .agg #[.func (.func 76) #[] #[], .func (.func 77) #[] #[]], 5⟩, ⟨.int .i64 7, .agg #[.func (.func 78) #[] #[], .func (.func 79) #[] #[]], 6⟩] rfl _ rfl hb7.out (by kernel_rfl) ?_; intro w8 hb hfr; have hb8 := Lib.hid hb; have hf8 := Lib.hid (hf7.out.trans hfr); clear hb hfr))
  go_ret
  refine ⟨rfl, hb8.out, ?_⟩
  exact (((Fr.refl (fun _ => False) W).alloc (.map #[] 0)).trans' hf8.out (fun i hi e => by omega)).below (Nat.le_refl _) (fun _ h => h.elim)
theorem find1 : Instr.findNow (.int .i64) (.int .i64 1) ruleEnts.toList 0 = some (some (0, .agg #[.func (.func 66) #[] #[], .func (.func 67) #[] #[]])) := by kernel_rfl
theorem find2 : Instr.findNow (.int .i64) (.int .i64 2) ruleEnts.toList 0 = some (some (1, .agg #[.func (.func 68) #[] #[], .func (.func 69) #[] #[]])) := by kernel_rfl
theorem find3 : Instr.findNow (.int .i64) (.int .i64 3) ruleEnts.toList 0 = some (some (2, .agg #[.func (.func 70) #[] #[], .func (.func 71) #[] #[]])) := by kernel_rfl
theorem find4 : Instr.findNow (.int .i64) (.int .i64 4) ruleEnts.toList 0 = some (some (3, .agg #[.func (.func 72) #[] #[], .func (.func 73) #[] #[]])) := by kernel_rfl
theorem find5 : Instr.findNow (.int .i64) (.int .i64 5) ruleEnts.toList 0 = some (some (4, .agg #[.func (.func 74) #[] #[], .func (.func 75) #[] #[]])) := by kernel_rfl
theorem find6 : Instr.findNow (.int .i64) (.int .i64 6) ruleEnts.toList 0 = some (some (5, .agg #[.func (.func 76) #[] #[], .func (.func 77) #[] #[]])) := by kernel_rfl
theorem find7 : Instr.findNow (.int .i64) (.int .i64 7) ruleEnts.toList 0 = some (some (6, .agg #[.func (.func 78) #[] #[], .func (.func 79) #[] #[]])) := by kernel_rfl
theorem find8 : Instr.findNow (.int .i64) (.int .i64 8) ruleEnts.toList 0 = some (some (7, .agg #[.func (.func 78) #[] #[], .func (.func 81) #[] #[]])) := by kernel_rfl
theorem find_no {k : Int} (h : k < 1 ∨ 8 < k) : Instr.findNow (.int .i64) (.int .i64 k) ruleEnts.toList 0 = some none := by
  rcases MapKept.findNow_spec (d := .int .i64) (k := .int .i64 k) rfl ruleEnts.toList 0 (by intro x hx; simp [ruleEnts] at hx; rcases hx with rfl | rfl | rfl | rfl | rfl | rfl | rfl | rfl <;> rfl) with ⟨h1, _⟩ | ⟨j, e, _, h2, h3⟩
  · exact h1
  · exfalso
    have hm := List.mem_of_getElem? h2
    simp [ruleEnts] at hm
    rcases hm with rfl | rfl | rfl | rfl | rfl | rfl | rfl | rfl <;> (injection h3 with _ h3; omega)
end Go.Proofs.YticlmkfifpkdpaaDoor.Dl
