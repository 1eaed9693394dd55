/-
  The tables of the parsers of items: maps with constant keys.
-/
import Derived.Test.YtfaflipphkoiiaaDoorParCirc
import Derived.WideMake
namespace Go.Proofs.YtfaflipphkoiiaaDoor.Pr
open Go.RowKit Mem Go.ChangeMaps
open Lx (Tok)
set_option linter.unusedVariables false

theorem run_put {w : World} {r clock : Nat} {es : Array MapEntry} {s : ByteArray} {val : Value} (hb : w.heap[r]? = some (.map es clock)) (hf : Instr.findNow .string (.string s) es.toList 0 = some none) :
    (Instr.mapUpdate 89 (.map (some r)) (.string s) val).run Tryd.prog w = .ok () (setBlock w r (.map (es.push { key := .string s, val := val, born := clock }) (clock + 1))) := by
  have hc : (Instr.checkKey false 10000 9 (.string s)).run Tryd.prog w = .ok () w := MapKept.run_checkKey (k := .string s) Tryd.underlying9 (by simp [MapKept.IsKey]) false 9999
  simp [Instr.mapUpdate, run_underlying Tryd.underlying89, MapKept.run_getObj_map hb, hc, MapKept.run_findKey Tryd.underlying9 hf, MapKept.run_setObj_map _ hb, Result.andThen, setBlock]
theorem run_look {w : World} {r clock : Nat} {es : Array MapEntry} {s : ByteArray} {i : Nat} {v : Value} (hb : w.heap[r]? = some (.map es clock)) (hf : Instr.findNow .string (.string s) es.toList 0 = some (some (i, v))) :
    (Instr.lookup 89 (.map (some r)) (.string s) true).run Tryd.prog w = .ok (.tuple #[v, .bool true]) w := by
  have hc : ∀ e, (Instr.checkKey e 10000 9 (.string s)).run Tryd.prog w = .ok () w := fun e => MapKept.run_checkKey (k := .string s) Tryd.underlying9 (by simp [MapKept.IsKey]) e 9999
  simp [Instr.lookup, run_underlying Tryd.underlying89, MapKept.run_getObj_map hb, hc, MapKept.run_findKey Tryd.underlying9 hf, Result.andThen]
theorem run_look_no {w : World} {r clock : Nat} {es : Array MapEntry} {s : ByteArray} (hb : w.heap[r]? = some (.map es clock)) (hf : Instr.findNow .string (.string s) es.toList 0 = some none) :
    (Instr.lookup 89 (.map (some r)) (.string s) true).run Tryd.prog w = .ok (.tuple #[.nilFunc, .bool false]) w := by
  have hc : ∀ e, (Instr.checkKey e 10000 9 (.string s)).run Tryd.prog w = .ok () w := fun e => MapKept.run_checkKey (k := .string s) Tryd.underlying9 (by simp [MapKept.IsKey]) e 9999
  have hz : (zeroValue 107).run Tryd.prog w = .ok .nilFunc w := by kernel_rfl
  simp [Instr.lookup, run_underlying Tryd.underlying89, MapKept.run_getObj_map hb, hc, MapKept.run_findKey Tryd.underlying9 hf, hz, Result.andThen]
theorem put_fr {w : World} {r : Nat} {o o2 : Obj} (h : w.heap[r]? = some o) : (setBlock w r o2).heap[r]? = some o2 ∧ Fr (fun k => k = r) w (setBlock w r o2) := by
  refine ⟨?_, rfl, rfl, rfl, by simp [setBlock], fun k hk hs => ?_⟩
  · have := lt_of_blk h
    simp [setBlock, this]
  · simp only [setBlock]
    rw [Array.getElem?_setIfInBounds, if_neg (fun e => hs e.symm)]
theorem wpList_insert {ops : Array Oper} {rest : List Oper} {o : Oper} {a : Act} {w : World} {Q : Exit → Act → World → Prop} (hg : o.guard = none) (m : Operand) (s : ByteArray) (x : Operand) (hop : o.op = .insert 89 m (.const (.string s)) x) (r clock : Nat) (es : Array MapEntry) (hm : a.eval m = .map (some r)) (val : Value) (hx : a.eval x = val)
    (hb : w.heap[r]? = some (.map es clock)) (hf : Instr.findNow .string (.string s) es.toList 0 = some none)
    (h : ∀ w', w'.heap[r]? = some (.map (es.push { key := .string s, val := val, born := clock }) (clock + 1)) → Fr (fun k => k = r) w w' → wpList Tryd.prog ops Q rest (a.put o.dst undef) w') : wpList Tryd.prog ops Q (o :: rest) a w := by
  refine wpList_plain hg fun K hK => ?_
  unfold Oper.wp
  have hc : a.eval (.const (.string s)) = .string s := rfl
  simp [execOp, hop, hm, hx, hc, run_put hb hf, Result.andThen]
  exact hK _ _ (h _ (put_fr hb).1 (put_fr hb).2)
theorem wpList_put {ops : Array Oper} {rest : List Oper} {o : Oper} {a : Act} {w : World} {Q : Exit → Act → World → Prop} (hg : o.guard = none) (m : Operand) (s : ByteArray) (x : Operand) (hop : o.op = .mapUpdate 89 m (.const (.string s)) x) (r clock : Nat) (es : Array MapEntry) (hm : a.eval m = .map (some r)) (val : Value) (hx : a.eval x = val)
    (hb : w.heap[r]? = some (.map es clock)) (hf : Instr.findNow .string (.string s) es.toList 0 = some none)
    (h : ∀ w', w'.heap[r]? = some (.map (es.push { key := .string s, val := val, born := clock }) (clock + 1)) → Fr (fun k => k = r) w w' → wpList Tryd.prog ops Q rest (a.put o.dst undef) w') : wpList Tryd.prog ops Q (o :: rest) a w := by
  refine wpList_plain hg fun K hK => ?_
  unfold Oper.wp
  have hc : a.eval (.const (.string s)) = .string s := rfl
  simp [execOp, hop, hm, hx, hc, run_put hb hf, Result.andThen]
  exact hK _ _ (h _ (put_fr hb).1 (put_fr hb).2)
def innerEnts : Array MapEntry := #[⟨.string ⟨#[100, 117, 116, 121]⟩, .func (.func 88) #[] #[], 0⟩,
  ⟨.string ⟨#[98, 97, 110]⟩, .func (.func 89) #[] #[], 1⟩,
  ⟨.string ⟨#[111, 112, 116, 105, 111, 110]⟩, .func (.func 90) #[] #[], 2⟩,
  ⟨.string ⟨#[119, 97, 116, 99, 104]⟩, .func (.func 91) #[] #[], 3⟩,
  ⟨.string ⟨#[105, 110, 99, 108, 117, 100, 101]⟩, .func (.func 92) #[] #[], 4⟩]
def allEnts : Array MapEntry := #[⟨.string ⟨#[100, 117, 116, 121]⟩, .func (.func 88) #[] #[], 0⟩,
  ⟨.string ⟨#[98, 97, 110]⟩, .func (.func 89) #[] #[], 1⟩,
  ⟨.string ⟨#[111, 112, 116, 105, 111, 110]⟩, .func (.func 90) #[] #[], 2⟩,
  ⟨.string ⟨#[119, 97, 116, 99, 104]⟩, .func (.func 91) #[] #[], 3⟩,
  ⟨.string ⟨#[105, 110, 99, 108, 117, 100, 101]⟩, .func (.func 92) #[] #[], 4⟩,
  ⟨.string ⟨#[112, 97, 114, 116, 121]⟩, .func (.func 61) #[] #[], 5⟩,
  ⟨.string ⟨#[114, 111, 108, 101]⟩, .func (.func 62) #[] #[], 6⟩,
  ⟨.string ⟨#[117, 110, 105, 116]⟩, .func (.func 63) #[] #[], 7⟩,
  ⟨.string ⟨#[119, 101, 101, 107, 101, 110, 100]⟩, .func (.func 64) #[] #[], 8⟩,
  ⟨.string ⟨#[104, 111, 108, 105, 100, 97, 121]⟩, .func (.func 65) #[] #[], 9⟩,
  ⟨.string ⟨#[115, 112, 97, 110]⟩, .func (.func 66) #[] #[], 10⟩,
  ⟨.string ⟨#[115, 117, 109]⟩, .func (.func 67) #[] #[], 11⟩,
  ⟨.string ⟨#[97, 99, 116]⟩, .func (.func 68) #[] #[], 12⟩,
  ⟨.string ⟨#[116, 101, 109, 112, 108, 97, 116, 101]⟩, .func (.func 69) #[] #[], 13⟩]
set_option maxRecDepth 100000 in
set_option maxHeartbeats 1000000 in
theorem innerKinds_any (W : World) : Calls Tryd.prog 60 #[] W fun e w' => e = .returned (.map (some W.heap.size)) ∧ w'.heap[W.heap.size]? = some (.map innerEnts 5) ∧ Fr (fun _ => False) W w' := by
  have hmm := @run_makeMap Tryd.prog
  go_enter Tryd.func60, Tryd.ntmps60
  go_wp2_with (first | (refine wpList_insert rfl _ ⟨#[100, 117, 116, 121]⟩ _ rfl W.heap.size 0 #[] rfl _ rfl (blk_new W _) (by kernel_rfl) ?_; intro w1 hb hfr; have hb1 := Lib.hid hb; have hf1 := Lib.hid ((Fr.refl (fun k => k = W.heap.size) (W.alloc (.map #[] 0))).trans hfr); clear hb hfr) | (refine wpList_insert rfl _ ⟨#[98, 97, 110]⟩ _ rfl W.heap.size 1 #[⟨.string ⟨#[100, 117, 116, 121]⟩, .func (.func 88) #[] #[], 0⟩] rfl _ rfl hb1.out (by kernel_rfl) ?_; intro w2 hb hfr; have hb2 := Lib.hid hb; have hf2 := Lib.hid (hf1.out.trans hfr); clear hb hfr) | (refine wpList_insert rfl _ ⟨#[111, 112, 116, 105, 111, 110]⟩ _ rfl W.heap.size 2 #[⟨.string ⟨#[100, 117, 116, 121]⟩, .func (.func 88) #[] #[], 0⟩, ⟨.string ⟨#[98, 97, 110]⟩, .func (.func 89) #[] #[], 1⟩] rfl _ rfl hb2.out (by kernel_rfl) ?_; intro w3 hb hfr; have hb3 := Lib.hid hb; have hf3 := Lib.hid (hf2.out.trans hfr); clear hb hfr) | (refine wpList_insert rfl _ ⟨#[119, 97, 116, 99, 104]⟩ _ rfl W.heap.size 3 #[⟨.string ⟨#[100, 117, 116, 121]⟩, .func (.func 88) #[] #[], 0⟩, ⟨.string ⟨#[98, 97, 110]⟩, .func (.func 89) #[] #[], 1⟩, ⟨.string ⟨#[111, 112, 116, 105, 111, 110]⟩, .func (.func 90) #[] #[], 2⟩] rfl _ rfl hb3.out (by kernel_rfl) ?_; intro w4 hb hfr; have hb4 := Lib.hid hb; have hf4 := Lib.hid (hf3.out.trans hfr); clear hb hfr) | (refine wpList_insert rfl _ ⟨#[105, 110, 99, 108, 117, 100, 101]⟩ _ rfl W.heap.size 4 #[⟨.string ⟨#[100, 117, 116, 121]⟩, .func (.func 88) #[] #[], 0⟩, ⟨.string ⟨#[98, 97, 110]⟩, .func (.func 89) #[] #[], 1⟩, ⟨.string ⟨#[111, 112, 116, 105, 111, 110]⟩, .func (.func 90) #[] #[], 2⟩, ⟨.string ⟨#[119, 97, 116, 99, 104]⟩, .func (.func 91) #[] #[], 3⟩] rfl _ rfl hb4.out (by kernel_rfl) ?_; intro w5 hb hfr; have hb5 := Lib.hid hb; have hf5 := Lib.hid (hf4.out.trans hfr); clear hb hfr))
  go_ret
  refine ⟨rfl, hb5.out, ?_⟩
  exact ((Fr.refl (fun _ => False) W).alloc (.map #[] 0)).trans' hf5.out (fun i hi e => by omega)
set_option maxRecDepth 100000 in
set_option maxHeartbeats 1000000 in
theorem allKinds_any (W : World) : Calls Tryd.prog 37 #[] W fun e w' => e = .returned (.map (some W.heap.size)) ∧ w'.heap[W.heap.size]? = some (.map allEnts 14) ∧ Fr (fun _ => False) W w' := by
  go_enter Tryd.func37, Tryd.ntmps37
  go_wp2_with fail
  refine (innerKinds_any _).mono ?_
  rintro e w0 ⟨rfl, hb, hfr⟩
  have hb0 := Lib.hid hb; have hf0 := Lib.hid hfr
  clear hb hfr
  go_wp2_with (first | (refine wpList_put rfl _ ⟨#[112, 97, 114, 116, 121]⟩ _ rfl W.heap.size 5 #[⟨.string ⟨#[100, 117, 116, 121]⟩, .func (.func 88) #[] #[], 0⟩, ⟨.string ⟨#[98, 97, 110]⟩, .func (.func 89) #[] #[], 1⟩, ⟨.string ⟨#[111, 112, 116, 105, 111, 110]⟩, .func (.func 90) #[] #[], 2⟩, ⟨.string ⟨#[119, 97, 116, 99, 104]⟩, .func (.func 91) #[] #[], 3⟩, ⟨.string ⟨#[105, 110, 99, 108, 117, 100, 101]⟩, .func (.func 92) #[] #[], 4⟩] rfl _ rfl hb0.out (by kernel_rfl) ?_; intro w1 hb hfr; have hb1 := Lib.hid hb; have hf1 := Lib.hid ((Fr.refl (fun k => k = W.heap.size) w0).trans hfr); clear hb hfr) | (refine wpList_put rfl _ ⟨#[114, 111, 108, 101]⟩ _ rfl W.heap.size 6 #[⟨.string ⟨#[100, 117, 116, 121]⟩, .func (.func 88) #[] #[], 0⟩, ⟨.string ⟨#[98, 97, 110]⟩, .func (.func 89) #[] #[], 1⟩, ⟨.string ⟨#[111, 112, 116, 105, 111, 110]⟩, .func (.func 90) #[] #[], 2⟩, ⟨.string ⟨#[119, 97, 116, 99, 104]⟩, .func (.func 91) #[] #[], 3⟩, ⟨.string ⟨#[105, 110, 99, 108, 117, 100, 101]⟩, .func (.func 92) #[] #[], 4⟩, ⟨.string ⟨#[112, 97, 114, 116, 121]⟩, .func (.func 61) #[] #[], 5⟩] rfl _ rfl hb1.out (by kernel_rfl) ?_; intro w2 hb hfr; have hb2 := Lib.hid hb; have hf2 := Lib.hid (hf1.out.trans hfr); clear hb hfr) | (refine wpList_put rfl _ ⟨#[117, 110, 105, 116]⟩ _ rfl W.heap.size 7 #[⟨.string ⟨#[100, 117, 116, 121]⟩, .func (.func 88) #[] #[], 0⟩, ⟨.string ⟨#[98, 97, 110]⟩, .func (.func 89) #[] #[], 1⟩, ⟨.string ⟨#[111, 112, 116, 105, 111, 110]⟩, .func (.func 90) #[] #[], 2⟩, ⟨.string ⟨#[119, 97, 116, 99, 104]⟩, .func (.func 91) #[] #[], 3⟩, ⟨.string ⟨#[105, 110, 99, 108, 117, 100, 101]⟩, .func (.func 92) #[] #[], 4⟩, ⟨.string ⟨#[112, 97, 114, 116, 121]⟩, .func (.func 61) #[] #[], 5⟩, ⟨.string ⟨#[114, 111, 108, 101]⟩, .func (.func 62) #[] #[], 6⟩] rfl _ rfl hb2.out (by kernel_rfl) ?_; intro w3 hb hfr; have hb3 := Lib.hid hb; have hf3 := Lib.hid (hf2.out.trans hfr); clear hb hfr) | (refine wpList_put rfl _ ⟨#[119, 101, 101, 107, 101, 110, 100]⟩ _ rfl W.heap.size 8 #[⟨.string ⟨#[100, 117, 116, 121]⟩, .func (.func 88) #[] #[], 0⟩, ⟨.string ⟨#[98, 97, 110]⟩, .func (.func 89) #[] #[], 1⟩, ⟨.string ⟨#[111, 112, 116, 105, 111, 110]⟩, .func (.func 90) #[] #[], 2⟩, ⟨.string ⟨#[119, 97, 116, 99, 104]⟩, .func (.func 91) #[] #[], 3⟩, ⟨.string ⟨#[105, 110, 99, 108, 117, 100, 101]⟩, .func (.func 92) #[] #[], 4⟩, ⟨.string ⟨#[112, 97, 114, 116, 121]⟩, .func (.func 61) #[] #[], 5⟩, ⟨.string ⟨#[114, 111, 108, 101]⟩, .func (.func 62) #[] #[], 6⟩, ⟨.string ⟨#[117, 110, 105, 116]⟩, .func (.func 63) #[] #[], 7⟩] rfl _ rfl hb3.out (by kernel_rfl) ?_; intro w4 hb hfr; have hb4 := Lib.hid hb; have hf4 := Lib.hid (hf3.out.trans hfr); clear hb hfr) | (refine wpList_put rfl _ ⟨#[104, 111, 108, 105, 100, 97, 121]⟩ _ rfl W.heap.size 9 #[⟨.string ⟨#[100, 117, 116, 121]⟩, .func (.func 88) #[] #[], 0⟩, ⟨.string ⟨#[98, 97, 110]⟩, .func (.func 89) #[] #[], 1⟩, ⟨.string ⟨#[111, 112, 116, 105, 111, 110]⟩, .func (.func 90) #[] #[], 2⟩, ⟨.string ⟨#[119, 97, 116, 99, 104]⟩, .func (.func 91) #[] #[], 3⟩, ⟨.string ⟨#[105, 110, 99, 108, 117, 100, 101]⟩, .func (.func 92) #[] #[], 4⟩, ⟨.string ⟨#[112, 97, 114, 116, 121]⟩, .func (.func 61) #[] #[], 5⟩, ⟨.string ⟨#[114, 111, 108, 101]⟩, .func (.func 62) #[] #[], 6⟩, ⟨.string ⟨#[117, 110, 105, 116]⟩, .func (.func 63) #[] #[], 7⟩, ⟨.string ⟨#[119, 101, 101, 107, 101, 110, 100]⟩, .func (.func 64) #[] #[], 8⟩] rfl _ rfl hb4.out (by kernel_rfl) ?_; intro w5 hb hfr; have hb5 := Lib.hid hb; have hf5 := Lib.hid (hf4.out.trans hfr); clear hb hfr) | (refine wpList_put rfl _ ⟨#[115, 112, 97, 110]⟩ _ rfl W.heap.size 10 #[⟨.string ⟨#[100, 117, 116, 121]⟩, .func (.func 88) #[] #[], 0⟩, ⟨.string ⟨#[98, 97, 110]⟩, .func (.func 89) #[] #[], 1⟩, ⟨.string ⟨#[111, 112, 116, 105, 111, 110]⟩, .func (.func 90) #[] #[], 2⟩, ⟨.string ⟨#[119, 97, 116, 99, 104]⟩, .func (.func 91) #[] #[], 3⟩, ⟨.string ⟨#[105, 110, 99, 108, 117, 100, 101]⟩, .func (.func 92) #[] #[], 4⟩, ⟨.string ⟨#[112, 97, 114, 116, 121]⟩, .func (.func 61) #[] #[], 5⟩, ⟨.string ⟨#[114, 111, 108, 101]⟩, .func (.func 62) #[] #[], 6⟩, ⟨.string ⟨#[117, 110, 105, 116]⟩, .func (.func 63) #[] #[], 7⟩, ⟨.string ⟨#[119, 101, 101, 107, 101, 110, 100]⟩, .func (.func 64) #[] #[], 8⟩, ⟨.string ⟨#[104, 111, 108, 105, 100, 97, 121]⟩, .func (.func 65) #[] #[], 9⟩] rfl _ rfl hb5.out (by kernel_rfl) ?_; intro w6 hb hfr; have hb6 := Lib.hid hb; have hf6 := Lib.hid (hf5.out.trans hfr); clear hb hfr) | (refine wpList_put rfl _ ⟨#[115, 117, 109]⟩ _ rfl W.heap.size 11 #[⟨.string ⟨#[100, 117, 116, 121]⟩, .func (.func 88) #[] #[], 0⟩, ⟨.string ⟨#[98, 97, 110]⟩, .func (.func 89) #[] #[], 1⟩, ⟨.string ⟨#[111, 112, 116, 105, 111, 110]⟩, .func (.func 90) #[] #[], 2⟩, ⟨.string ⟨#[119, 97, 116, 99, 104]⟩, .func (.func 91) #[] #[], 3⟩, ⟨.string ⟨#[105, 110, 99, 108, 117, 100, 101]⟩, .func (.func 92) #[] #[], 4⟩, ⟨.string ⟨#[112, 97, 114, 116, 121]⟩, .func (.func 61) #[] #[], 5⟩, ⟨.string ⟨#[114, 111, 108, 101]⟩, .func (.func 62) #[] #[], 6⟩, ⟨.string ⟨#[117, 110, 105, 116]⟩, .func (.func 63) #[] #[], 7⟩, ⟨.string ⟨#[119, 101, 101, 107, 101, 110, 100]⟩, .func (.func 64) #[] #[], 8⟩, ⟨.string ⟨#[104, 111, 108, 105, 100, 97, 121]⟩, .func (.func 65) #[] #[], 9⟩, ⟨.string ⟨#[115, 112, 97, 110]⟩, .func (.func 66) #[] #[], 10⟩] rfl _ rfl hb6.out (by kernel_rfl) ?_; intro w7 hb hfr; have hb7 := Lib.hid hb; have hf7 := Lib.hid (hf6.out.trans hfr); clear hb hfr) | (refine wpList_put rfl _ ⟨#[97, 99, 116]⟩ _ rfl W.heap.size 12 #[⟨.string ⟨#[100, 117, 116, 121]⟩, .func (.func 88) #[] #[], 0⟩, ⟨.string ⟨#[98, 97, 110]⟩, .func (.func 89) #[] #[], 1⟩, ⟨.string ⟨#[111, 112, 116, 105, 111, 110]⟩, .func (.func 90) #[] #[], 2⟩, ⟨.string ⟨#[119, 97, 116, 99, 104]⟩, .func (.func 91) #[] #[], 3⟩, ⟨.string ⟨#[105, 110, 99, 108, 117, 100, 101]⟩, .func (.func 92) #[] #[], 4⟩, ⟨.string ⟨#[112, 97, 114, 116, 121]⟩, .func (.func 61) #[] #[], 5⟩, ⟨.string ⟨#[114, 111, 108, 101]⟩, .func (.func 62) #[] #[], 6⟩, ⟨.string ⟨#[117, 110, 105, 116]⟩, .func (.func 63) #[] #[], 7⟩, ⟨.string ⟨#[119, 101, 101, 107, 101, 110, 100]⟩, .func (.func 64) #[] #[], 8⟩, ⟨.string ⟨#[104, 111, 108, 105, 100, 97, 121]⟩, .func (.func 65) #[] #[], 9⟩, ⟨.string ⟨#[115, 112, 97, 110]⟩, .func (.func 66) #[] #[], 10⟩, ⟨.string ⟨#[115, 117, 109]⟩, .func (.func 67) #[] #[], 11⟩] rfl _ rfl hb7.out (by kernel_rfl) ?_; intro w8 hb hfr; have hb8 := Lib.hid hb; have hf8 := Lib.hid (hf7.out.trans hfr); clear hb hfr) | (refine wpList_put rfl _ ⟨#[116, 101, 109, 112, 108, 97, 116, 101]⟩ _ rfl W.heap.size 13 #[⟨.string ⟨#[100, 117, 116, 121]⟩, .func (.func 88) #[] #[], 0⟩, ⟨.string ⟨#[98, 97, 110]⟩, .func (.func 89) #[] #[], 1⟩, ⟨.string ⟨#[111, 112, 116, 105, 111, 110]⟩, .func (.func 90) #[] #[], 2⟩, ⟨.string ⟨#[119, 97, 116, 99, 104]⟩, .func (.func 91) #[] #[], 3⟩, ⟨.string ⟨#[105, 110, 99, 108, 117, 100, 101]⟩, .func (.func 92) #[] #[], 4⟩, ⟨.string ⟨#[112, 97, 114, 116, 121]⟩, .func (.func 61) #[] #[], 5⟩, ⟨.string ⟨#[114, 111, 108, 101]⟩, .func (.func 62) #[] #[], 6⟩, ⟨.string ⟨#[117, 110, 105, 116]⟩, .func (.func 63) #[] #[], 7⟩, ⟨.string ⟨#[119, 101, 101, 107, 101, 110, 100]⟩, .func (.func 64) #[] #[], 8⟩, ⟨.string ⟨#[104, 111, 108, 105, 100, 97, 121]⟩, .func (.func 65) #[] #[], 9⟩, ⟨.string ⟨#[115, 112, 97, 110]⟩, .func (.func 66) #[] #[], 10⟩, ⟨.string ⟨#[115, 117, 109]⟩, .func (.func 67) #[] #[], 11⟩, ⟨.string ⟨#[97, 99, 116]⟩, .func (.func 68) #[] #[], 12⟩] rfl _ rfl hb8.out (by kernel_rfl) ?_; intro w9 hb hfr; have hb9 := Lib.hid hb; have hf9 := Lib.hid (hf8.out.trans hfr); clear hb hfr))
  go_ret
  exact ⟨rfl, hb9.out, hf0.out.trans' hf9.out (fun i hi e => by omega)⟩
end Go.Proofs.YtfaflipphkoiiaaDoor.Pr
