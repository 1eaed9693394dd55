/-
  Include: the expander of a source.
-/
import Derived.Test.YticakdajhmfpoaaIncItem
import Derived.Test.YticakdajhmfpoaaMapW
import Derived.Carry
namespace Go.Proofs.Yticakdajhmfpoaa.Ic
open Go.RowKit Mem Vw Rs
open Go.ChangeMaps (setBlock)
set_option linter.unusedVariables false
set_option linter.unusedSimpArgs false

def kv (k : Int) : Value := .int .i64 k
/-- The first item with a kind and a name. -/
def fst (l : List DT) (k : Int) (n : Rs.Bytes) : Option DT := l.find? fun x => decide (x.h.kind = k ∧ x.h.name = n)
theorem fst_cons (x : DT) (l : List DT) (k : Int) (n : Rs.Bytes) : fst (x :: l) k n = if x.h.kind = k ∧ x.h.name = n then some x else fst l k n := by
  unfold fst
  rw [List.find?_cons]
  by_cases h : x.h.kind = k ∧ x.h.name = n
  · rw [if_pos h]; simp [h]
  · rw [if_neg h]; simp only [decide_eq_false h]
theorem first_cons' (x : Tree) (l : List Tree) (k : Int) (n : Rs.Bytes) : first (x :: l) k n = if x.h.kind = k ∧ x.h.name = n then some x else first l k n := by
  unfold first
  rw [List.find?_cons]
  by_cases h : x.h.kind = k ∧ x.h.name = n
  · rw [if_pos h]; simp [h]
  · rw [if_neg h]; simp only [decide_eq_false h]
theorem fst_first (k : Int) (n : Rs.Bytes) : ∀ l : List DT, first (l.map DT.tree) k n = (fst l k n).map DT.tree
  | [] => rfl
  | x :: l => by
    rw [List.map_cons, first_cons', fst_cons, DT.tree_h, fst_first k n l]
    split <;> rfl
def tmF (l : List DT) (n : Rs.Bytes) : Option Value := (fst l 13 n).map fun x => .agg x.cells.toArray
def spF (l : List DT) (n : Rs.Bytes) : Option Value := (fst l 6 n).map fun x => .agg (spanc x.h.within).toArray
def suF (l : List DT) (n : Rs.Bytes) : Option Value := (fst l 7 n).map fun x => .agg x.cells.toArray
def opF (op : List Rs.Bytes) (n : Rs.Bytes) : Option Value := if n ∈ op then some (.bool true) else none
def snF (k : Int) (l : List DT) (n : Rs.Bytes) : Option Value := if (fst l k n).isSome then some (.bool true) else none
def ents3 (B : Nat) : Array MapEntry := #[{ key := kv 13, val := .map (some (B + 5)), born := 0 }, { key := kv 6, val := .map (some (B + 6)), born := 1 }, { key := kv 7, val := .map (some (B + 7)), born := 2 }]
def xcells (B : Nat) (cnt : Int) (iv : Value) : Array Value := #[.map (some B), .map (some (B + 1)), .map (some (B + 2)), .map (some (B + 3)), .map (some (B + 4)), .int .i64 cnt, iv]
/-- An expander in memory: its tables, what is being included, the names that were declared, the number, the items. -/
structure Ex (B : Nat) (tm sp su : Rs.Bytes → Option Value) (op : List Rs.Bytes) (sn : List DT) (cnt : Int) (iv : Value) (w : World) : Prop where
  blk : w.heap[B + 8]? = some (.cells (xcells B cnt iv) 73 (0, 0))
  tm : Mp.MapF w B tm
  sp : Mp.MapF w (B + 1) sp
  su : Mp.MapF w (B + 2) su
  inc : Mp.MapF w (B + 3) (opF op)
  seen : w.heap[B + 4]? = some (.map (ents3 B) 3)
  e13 : Mp.MapF w (B + 5) (snF 13 sn)
  e6 : Mp.MapF w (B + 6) (snF 6 sn)
  e7 : Mp.MapF w (B + 7) (snF 7 sn)
theorem Ex.fr {S : Nat → Prop} {B : Nat} {tm sp su : Rs.Bytes → Option Value} {op : List Rs.Bytes} {sn : List DT} {cnt : Int} {iv : Value} {w w' : World} (h : Ex B tm sp su op sn cnt iv w) (hf : Fr S w w') (hs : ∀ g, B ≤ g → g ≤ B + 8 → ¬ S g) : Ex B tm sp su op sn cnt iv w' :=
  ⟨hf.blk h.blk (hs _ (by omega) (by omega)), h.tm.fr hf (hs _ (by omega) (by omega)), h.sp.fr hf (hs _ (by omega) (by omega)), h.su.fr hf (hs _ (by omega) (by omega)), h.inc.fr hf (hs _ (by omega) (by omega)), hf.blk h.seen (hs _ (by omega) (by omega)), h.e13.fr hf (hs _ (by omega) (by omega)), h.e6.fr hf (hs _ (by omega) (by omega)), h.e7.fr hf (hs _ (by omega) (by omega))⟩
theorem fr_set {w : World} {g : Nat} {o o' : Obj} (hb : w.heap[g]? = some o) : Fr (fun k => k = g) w (setBlock w g o') := Mp.Fr.setBlock (Fr.refl _ w) hb (.inl rfl)
theorem Ex.setTm {B : Nat} {tm tm' sp su : Rs.Bytes → Option Value} {op : List Rs.Bytes} {sn : List DT} {cnt : Int} {iv : Value} {w : World} {o : Obj} (h : Ex B tm sp su op sn cnt iv w) (hm : Mp.MapF (setBlock w B o) B tm') : Ex B tm' sp su op sn cnt iv (setBlock w B o) := by
  obtain ⟨o1, hb⟩ := h.tm.blk
  have hf := fr_set (o' := o) hb
  exact ⟨hf.blk h.blk (by omega), hm, h.sp.fr hf (by omega), h.su.fr hf (by omega), h.inc.fr hf (by omega), hf.blk h.seen (by omega), h.e13.fr hf (by omega), h.e6.fr hf (by omega), h.e7.fr hf (by omega)⟩
theorem Ex.setSp {B : Nat} {tm sp sp' su : Rs.Bytes → Option Value} {op : List Rs.Bytes} {sn : List DT} {cnt : Int} {iv : Value} {w : World} {o : Obj} (h : Ex B tm sp su op sn cnt iv w) (hm : Mp.MapF (setBlock w (B + 1) o) (B + 1) sp') : Ex B tm sp' su op sn cnt iv (setBlock w (B + 1) o) := by
  obtain ⟨o1, hb⟩ := h.sp.blk
  have hf := fr_set (o' := o) hb
  exact ⟨hf.blk h.blk (by omega), h.tm.fr hf (by omega), hm, h.su.fr hf (by omega), h.inc.fr hf (by omega), hf.blk h.seen (by omega), h.e13.fr hf (by omega), h.e6.fr hf (by omega), h.e7.fr hf (by omega)⟩
theorem Ex.setSu {B : Nat} {tm sp su su' : Rs.Bytes → Option Value} {op : List Rs.Bytes} {sn : List DT} {cnt : Int} {iv : Value} {w : World} {o : Obj} (h : Ex B tm sp su op sn cnt iv w) (hm : Mp.MapF (setBlock w (B + 2) o) (B + 2) su') : Ex B tm sp su' op sn cnt iv (setBlock w (B + 2) o) := by
  obtain ⟨o1, hb⟩ := h.su.blk
  have hf := fr_set (o' := o) hb
  exact ⟨hf.blk h.blk (by omega), h.tm.fr hf (by omega), h.sp.fr hf (by omega), hm, h.inc.fr hf (by omega), hf.blk h.seen (by omega), h.e13.fr hf (by omega), h.e6.fr hf (by omega), h.e7.fr hf (by omega)⟩
theorem tmF_step {l : List DT} {k : Nat} {x : DT} (hx : l[k]? = some x) : tmF (l.drop k) = if x.h.kind = 13 then fun y => if y = x.h.name then some (.agg x.cells.toArray) else tmF (l.drop (k + 1)) y else tmF (l.drop (k + 1)) := by
  obtain ⟨h1, h2⟩ := List.getElem?_eq_some_iff.1 hx
  rw [List.drop_eq_getElem_cons h1, h2]
  funext n
  unfold tmF
  rw [fst_cons]
  by_cases hk : x.h.kind = 13
  · rw [if_pos hk]
    by_cases hn : n = x.h.name
    · rw [if_pos hn, if_pos ⟨hk, hn.symm⟩]; rfl
    · rw [if_neg hn, if_neg (fun e => hn e.2.symm)]
  · rw [if_neg hk, if_neg (fun e => hk e.1)]
theorem spF_step {l : List DT} {k : Nat} {x : DT} (hx : l[k]? = some x) : spF (l.drop k) = if x.h.kind = 6 then fun y => if y = x.h.name then some (.agg (spanc x.h.within).toArray) else spF (l.drop (k + 1)) y else spF (l.drop (k + 1)) := by
  obtain ⟨h1, h2⟩ := List.getElem?_eq_some_iff.1 hx
  rw [List.drop_eq_getElem_cons h1, h2]
  funext n
  unfold spF
  rw [fst_cons]
  by_cases hk : x.h.kind = 6
  · rw [if_pos hk]
    by_cases hn : n = x.h.name
    · rw [if_pos hn, if_pos ⟨hk, hn.symm⟩]; rfl
    · rw [if_neg hn, if_neg (fun e => hn e.2.symm)]
  · rw [if_neg hk, if_neg (fun e => hk e.1)]
theorem suF_step {l : List DT} {k : Nat} {x : DT} (hx : l[k]? = some x) : suF (l.drop k) = if x.h.kind = 7 then fun y => if y = x.h.name then some (.agg x.cells.toArray) else suF (l.drop (k + 1)) y else suF (l.drop (k + 1)) := by
  obtain ⟨h1, h2⟩ := List.getElem?_eq_some_iff.1 hx
  rw [List.drop_eq_getElem_cons h1, h2]
  funext n
  unfold suF
  rw [fst_cons]
  by_cases hk : x.h.kind = 7
  · rw [if_pos hk]
    by_cases hn : n = x.h.name
    · rw [if_pos hn, if_pos ⟨hk, hn.symm⟩]; rfl
    · rw [if_neg hn, if_neg (fun e => hn e.2.symm)]
  · rw [if_neg hk, if_neg (fun e => hk e.1)]
/-- An entry is put into a map of numbers. -/
theorem ins_int {w : World} {r : Nat} {es : Array MapEntry} {clock : Nat} {k : Int} {v : Value} (hb : w.heap[r]? = some (.map es clock)) (hf : Instr.findNow (.int .i64) (kv k) es.toList 0 = some none) :
    (Instr.mapUpdate 71 (.map (some r)) (kv k) v).run Try.prog w = .ok () (setBlock w r (.map (es.push { key := kv k, val := v, born := clock }) (clock + 1))) := by
  have hc : ∀ e, (Instr.checkKey e 10000 3 (kv k)).run Try.prog w = .ok () w := fun e => MapKept.run_checkKey (k := kv k) Try.underlying3 (by simp [MapKept.IsKey, kv]) e 9999
  simp [Instr.mapUpdate, run_underlying Try.underlying71, MapKept.run_getObj_map hb, hc, MapKept.run_findKey Try.underlying3 hf, MapKept.run_setObj_map _ hb, Result.andThen, setBlock]
theorem size_set (w : World) (g : Nat) (o : Obj) : (setBlock w g o).heap.size = w.heap.size := by simp [setBlock]
theorem heap_set (w : World) (g : Nat) (o : Obj) (h : g < w.heap.size) : (setBlock w g o).heap[g]? = some o := by simp [setBlock, h]
def NewR (W : World) (l : List DT) (iv : Value) (wr : World) : Prop := ∃ k : Nat, iv = .int .i64 ((k : Int) - 1) ∧ k ≤ l.length ∧ Hid (Ex W.heap.size (tmF (l.drop k)) (spF (l.drop k)) (suF (l.drop k)) [] [] 0 (.slice none 0 0) wr) ∧ Hid (Fr (fun _ => False) W wr)
set_option maxRecDepth 100000 in
set_option maxHeartbeats 4000000 in
theorem new_any (l : List DT) (v : Value) (W : World) (hL : LayL (fun g => g < W.heap.size) W l v) (h1 : l.length ≤ 1000000) :
    Calls Try.prog 25 #[v] W fun e w' => e = .returned (.pointer (some ⟨W.heap.size + 8, 0, none⟩)) ∧ Ex W.heap.size (tmF l) (spF l) (suF l) [] [] 0 (.slice none 0 0) w' ∧ Fr (fun _ => False) W w' := by
  obtain ⟨A, cp, rfl, hc1, hc2⟩ := hL.slice
  have HL := Lib.hid hL
  clear hL
  have hzl : l.length ≤ 9223372036854775807 := by omega
  have hmm := @run_makeMap Try.prog
  obtain ⟨w6, HW6⟩ : ∃ w, Hid (((((((W.alloc (.map #[] 0)).alloc (.map #[] 0)).alloc (.map #[] 0)).alloc (.map #[] 0)).alloc (.map #[] 0)).alloc (.map #[] 0)) = w) := ⟨_, rfl⟩
  have S6 : Hid (w6.heap.size = W.heap.size + 6) := by show _ = _; rw [← HW6.out]; simp
  have HF6 : Hid (Fr (fun _ => False) W w6) := by rw [← HW6.out]; exact ((((((Fr.refl _ W).alloc _).alloc _).alloc _).alloc _).alloc _).alloc _
  have M : Hid (∀ i, i < 6 → w6.heap[W.heap.size + i]? = some (.map #[] 0)) := by
    rw [← HW6.out]
    intro i hi
    have h6 : i = 0 ∨ i = 1 ∨ i = 2 ∨ i = 3 ∨ i = 4 ∨ i = 5 := by omega
    rcases h6 with rfl | rfl | rfl | rfl | rfl | rfl
    · exact blk_alloc (blk_alloc (blk_alloc (blk_alloc (blk_alloc (blk_newn rfl) _) _) _) _) _
    · exact blk_alloc (blk_alloc (blk_alloc (blk_alloc (blk_newn (by simp)) _) _) _) _
    · exact blk_alloc (blk_alloc (blk_alloc (blk_newn (by simp)) _) _) _
    · exact blk_alloc (blk_alloc (blk_newn (by simp)) _) _
    · exact blk_alloc (blk_newn (by simp)) _
    · exact blk_newn (by simp)
  have hi1 := ins_int (w := w6) (k := 13) (v := .map (some (W.heap.size + 1 + 1 + 1 + 1 + 1))) (M.out 4 (by omega)) rfl
  obtain ⟨w7, HW7⟩ : ∃ w, Hid (setBlock w6 (W.heap.size + 4) (.map (#[].push { key := kv 13, val := .map (some (W.heap.size + 1 + 1 + 1 + 1 + 1)), born := 0 }) (0 + 1)) = w) := ⟨_, rfl⟩
  have S7 : Hid (w7.heap.size = W.heap.size + 6) := by show _ = _; rw [← HW7.out, size_set, S6.out]
  have F7 : Hid (Fr (fun k => k = W.heap.size + 4) w6 w7) := by rw [← HW7.out]; exact fr_set (M.out 4 (by omega))
  have B7 : Hid (w7.heap[W.heap.size + 4]? = some (.map #[{ key := kv 13, val := .map (some (W.heap.size + 5)), born := 0 }] 1)) := by rw [← HW7.out]; exact heap_set _ _ _ (by rw [S6.out]; omega)
  obtain ⟨w7a, HW7a⟩ : ∃ w, Hid (w7.alloc (.map #[] 0) = w) := ⟨_, rfl⟩
  have B7a : Hid (w7a.heap[W.heap.size + 4]? = some (.map #[{ key := kv 13, val := .map (some (W.heap.size + 5)), born := 0 }] 1)) := by rw [← HW7a.out]; exact blk_alloc B7.out _
  have N7a : Hid (w7a.heap[W.heap.size + 6]? = some (.map #[] 0)) := by rw [← HW7a.out]; exact blk_newn S7.out.symm
  have S7a : Hid (w7a.heap.size = W.heap.size + 7) := by show _ = _; rw [← HW7a.out]; simp [S7.out]
  have hi2 := ins_int (w := w7a) (k := 6) (v := .map (some w7.heap.size)) B7a.out rfl
  obtain ⟨w8, HW8⟩ : ∃ w, Hid (setBlock w7a (W.heap.size + 4) (.map (#[{ key := kv 13, val := .map (some (W.heap.size + 5)), born := 0 }].push { key := kv 6, val := .map (some w7.heap.size), born := 1 }) (1 + 1)) = w) := ⟨_, rfl⟩
  have S8 : Hid (w8.heap.size = W.heap.size + 7) := by show _ = _; rw [← HW8.out, size_set, S7a.out]
  have F8 : Hid (Fr (fun k => k = W.heap.size + 4) w7a w8) := by rw [← HW8.out]; exact fr_set B7a.out
  have B8 : Hid (w8.heap[W.heap.size + 4]? = some (.map #[{ key := kv 13, val := .map (some (W.heap.size + 5)), born := 0 }, { key := kv 6, val := .map (some (W.heap.size + 6)), born := 1 }] 2)) := by rw [← HW8.out, ← S7.out]; exact heap_set _ _ _ (by rw [S7a.out]; omega)
  obtain ⟨w8a, HW8a⟩ : ∃ w, Hid (w8.alloc (.map #[] 0) = w) := ⟨_, rfl⟩
  have B8a : Hid (w8a.heap[W.heap.size + 4]? = some (.map #[{ key := kv 13, val := .map (some (W.heap.size + 5)), born := 0 }, { key := kv 6, val := .map (some (W.heap.size + 6)), born := 1 }] 2)) := by rw [← HW8a.out]; exact blk_alloc B8.out _
  have N8a : Hid (w8a.heap[W.heap.size + 7]? = some (.map #[] 0)) := by rw [← HW8a.out]; exact blk_newn S8.out.symm
  have S8a : Hid (w8a.heap.size = W.heap.size + 8) := by show _ = _; rw [← HW8a.out]; simp [S8.out]
  have hi3 := ins_int (w := w8a) (k := 7) (v := .map (some w8.heap.size)) B8a.out rfl
  obtain ⟨w9, HW9⟩ : ∃ w, Hid (setBlock w8a (W.heap.size + 4) (.map (#[{ key := kv 13, val := .map (some (W.heap.size + 5)), born := 0 }, { key := kv 6, val := .map (some (W.heap.size + 6)), born := 1 }].push { key := kv 7, val := .map (some w8.heap.size), born := 2 }) (2 + 1)) = w) := ⟨_, rfl⟩
  have S9 : Hid (w9.heap.size = W.heap.size + 8) := by show _ = _; rw [← HW9.out, size_set, S8a.out]
  have F9 : Hid (Fr (fun k => k = W.heap.size + 4) w8a w9) := by rw [← HW9.out]; exact fr_set B8a.out
  have B9 : Hid (w9.heap[W.heap.size + 4]? = some (.map (ents3 W.heap.size) 3)) := by rw [← HW9.out, S8.out]; exact heap_set _ _ _ (by rw [S8a.out]; omega)
  obtain ⟨wx, HWX⟩ : ∃ w, Hid (w9.alloc (.cells (xcells W.heap.size 0 (.slice none 0 0)) 73) = w) := ⟨_, rfl⟩
  have FX : Hid (Fr (fun k => k = W.heap.size + 4) w6 wx) := by
    rw [← HWX.out]
    refine Fr.alloc (F7.out.trans ?_) _
    refine Fr.trans (B := w7a) ?_ ?_
    · rw [← HW7a.out]; exact (Fr.refl _ w7).alloc _
    refine F8.out.trans ?_
    refine Fr.trans (B := w8a) ?_ F9.out
    rw [← HW8a.out]; exact (Fr.refl _ w8).alloc _
  have HFX : Hid (Fr (fun _ => False) W wx) := HF6.out.trans' FX.out (fun g hg e => by omega)
  have FA : Hid (Fr (fun k => k = W.heap.size + 4) w7a wx) := by
    rw [← HWX.out]
    refine Fr.alloc (F8.out.trans ?_) _
    refine Fr.trans (B := w8a) ?_ F9.out
    rw [← HW8a.out]; exact (Fr.refl _ w8).alloc _
  have FB : Hid (Fr (fun k => k = W.heap.size + 4) w8a wx) := by rw [← HWX.out]; exact F9.out.alloc _
  have made : ∀ {w : World} {g : Nat}, w.heap[g]? = some (.map #[] 0) → Mp.MapF w g (fun _ => none) := fun h => ⟨#[], 0, [], h, rfl, List.nodup_nil, rfl⟩
  have mx : ∀ i, i < 6 → i ≠ 4 → wx.heap[W.heap.size + i]? = some (.map #[] 0) := fun i hi h4 => FX.out.blk (M.out i hi) (by omega)
  have HEX : Hid (Ex W.heap.size (tmF (l.drop l.length)) (spF (l.drop l.length)) (suF (l.drop l.length)) [] [] 0 (.slice none 0 0) wx) := by
    rw [List.drop_length]
    refine ⟨by rw [← HWX.out]; exact blk_newn S9.out.symm, made (mx 0 (by omega) (by omega)), made (mx 1 (by omega) (by omega)), made (mx 2 (by omega) (by omega)), ?_, by rw [← HWX.out]; exact blk_alloc B9.out _, ?_, ?_, ?_⟩
    · exact made (mx 3 (by omega) (by omega))
    · exact made (mx 5 (by omega) (by omega))
    · exact made (FA.out.blk N7a.out (by omega))
    · exact made (FB.out.blk N8a.out (by omega))
  have HI1 := Lib.hid hi1; have HI2 := Lib.hid hi2; have HI3 := Lib.hid hi3
  rw [HW7.out] at HI1; rw [HW8.out] at HI2; rw [HW9.out] at HI3
  rw [← HW6.out] at HI1; rw [← HW7a.out] at HI2; rw [← HW8a.out] at HI3
  have hi1 : (Instr.mapUpdate 71 (.map (some (W.heap.size + 1 + 1 + 1 + 1))) (.int .i64 13) (.map (some (W.heap.size + 1 + 1 + 1 + 1 + 1)))).run Try.prog ((((((W.alloc (.map #[] 0)).alloc (.map #[] 0)).alloc (.map #[] 0)).alloc (.map #[] 0)).alloc (.map #[] 0)).alloc (.map #[] 0)) = .ok () w7 := HI1.out
  have hi2 : (Instr.mapUpdate 71 (.map (some (W.heap.size + 1 + 1 + 1 + 1))) (.int .i64 6) (.map (some w7.heap.size))).run Try.prog (w7.alloc (.map #[] 0)) = .ok () w8 := HI2.out
  have hi3 : (Instr.mapUpdate 71 (.map (some (W.heap.size + 1 + 1 + 1 + 1))) (.int .i64 7) (.map (some w8.heap.size))).run Try.prog (w8.alloc (.map #[] 0)) = .ok () w9 := HI3.out
  clear HI1 HI2 HI3 mx M N7a N8a B7 B7a B8 B8a B9 S7a S8a S6 F7 F8 F9 FX FA FB HW6 HW7 HW8 HW9 HF6 made
  clear HW7a HW8a
  go_enter Try.func25, Try.ntmps25
  go_upto_region 2 with fail
  clear hi1 hi2 hi3 hmm
  rw [S9.out]
  have e0 : w9.alloc (.cells #[.map (some W.heap.size), .map (some (W.heap.size + 1)), .map (some (W.heap.size + 1 + 1)), .map (some (W.heap.size + 1 + 1 + 1)), .map (some (W.heap.size + 1 + 1 + 1 + 1)), .int .i64 0, .slice none 0 0] 73) = wx := HWX.out
  rw [e0]
  clear e0 HWX S7 S8 S9
  go_wp2_with fail
  go_loopw [4] (fun iv wr => NewR W l iv wr) (fun i _ => ((intOf i) + 1).toNat)
  case atStart => exact ⟨l.length, rfl, Nat.le_refl _, HEX, HFX⟩
  case round =>
    clear HEX HFX
    obtain ⟨k, rfl, hk, HE, HF⟩ := hrel
    cases k with
    | zero =>
      have HE0 : Hid (Ex W.heap.size (tmF l) (spF l) (suF l) [] [] 0 (.slice none 0 0) wr) := HE.out
      go_wp2_with fail
      go_ret
      exact ⟨rfl, HE0.out, HF.out⟩
    | succ j =>
      have ej : ((j + 1 : Nat) : Int) - 1 = (j : Int) := by omega
      rw [ej]
      have i1 : (0 : Int) ≤ (j : Int) := Int.natCast_nonneg _
      have i2 : (j : Int) < (l.length : Int) := by omega
      obtain ⟨y, hy⟩ : ∃ y, l[j]? = some y := ⟨_, List.getElem?_eq_getElem (by omega)⟩
      have HLr : Hid (LayL (fun g => g < W.heap.size) wr l (.slice A l.length cp)) := HL.out.fr HF.out (fun _ _ h => h)
      obtain ⟨g, o, hA, hg, hgB, hat⟩ := HLr.out.at hy
      subst hA
      have HAT := Lib.hid hat
      have HLY : Hid (Lay (fun g => g < W.heap.size) wr y) := HLr.out.lay y (List.mem_of_getElem? hy)
      have HTM := Lib.hid (tmF_step hy); have HSP := Lib.hid (spF_step hy); have HSU := Lib.hid (suF_step hy)
      have HKJ := Lib.hid hk
      clear hat hg hgB hy HLr ej hk
      go_upto_region 5 with fail
      iterate 10 go_step
      refine wpList_load_mid rfl 41 _ rfl g (o + j * 33) rfl y.cells _ HAT.out Try.underlying41 rfl (info_itl y) ?_
      simp only [Act.put, List.setIfInBounds_toArray, List.set_cons_zero, List.set_cons_succ]
      iterate 3 go_step
      refine wpList_store_row rfl 41 _ _ rfl wr.heap.size y.cells.toArray rfl rfl 41 _ (blk_newn rfl) (info_it y) (cells_size y).symm HLY.out.one ?_
      simp only [Act.put, List.setIfInBounds_toArray, List.set_cons_zero, List.set_cons_succ]
      rw [World.setRow_alloc_new]
      obtain ⟨u, hu⟩ : ∃ u, wr.alloc (.cells y.cells.toArray 41) = u := ⟨_, rfl⟩
      rw [hu]
      have HYB : Hid (u.heap[wr.heap.size]? = some (.cells y.cells.toArray 41 (0, 0))) := by rw [← hu]; exact blk_newn rfl
      have HFU : Hid (Fr (fun _ => False) wr u) := by rw [← hu]; exact (Fr.refl _ wr).alloc _
      have HEU : Hid (Ex W.heap.size (tmF (l.drop (j + 1))) (spF (l.drop (j + 1))) (suF (l.drop (j + 1))) [] [] 0 (.slice none 0 0) u) := HE.out.fr HFU.out (fun _ _ _ h => h)
      have HFW : Hid (Fr (fun _ => False) W u) := HF.out.trans HFU.out
      have k0 : u.cell? ⟨wr.heap.size, 0, none⟩ = some (.int .i64 y.h.kind) := by rw [cell_of_blk HYB.out, DT.cells_eq]; rfl
      clear hu HAT HE HF HFU
      by_cases h13 : y.h.kind = 13
      · rw [h13] at k0
        have HK := Lib.hid h13
        clear h13
        go_upto_region 8 with fail
        clear k0
        have HFD : Hid (Fr (fun _ => False) u u.drew) := (Fr.refl _ u).drew
        refine Reg.G.start (by kernel_rfl) ?_
        refine' Reg.G.pure (i := 0) (v := _) rfl (by rfl) (by kernel_rfl) (by kernel_rfl) (by kernel_rfl) (fun _ _ _ h => h) ?hyr81 ?rehyr81
        case hyr81 => exact fun w => by first | (go_simp; done) | (go_simp; with_reducible rfl)
        simp only [Act.put, List.setIfInBounds_toArray, List.set_cons_zero, List.set_cons_succ]
        refine' Reg.G.pure (i := 1) (v := _) rfl (by rfl) (by kernel_rfl) (by kernel_rfl) (by kernel_rfl) (fun _ _ _ h => h) ?hyr82 ?rehyr82
        case hyr82 => exact fun w => by first | (go_simp; done) | (go_simp; with_reducible rfl)
        simp only [Act.put, List.setIfInBounds_toArray, List.set_cons_zero, List.set_cons_succ]
        refine' Reg.G.pure (i := 2) (v := _) rfl (by rfl) (by kernel_rfl) (by kernel_rfl) (by kernel_rfl) (fun _ _ _ h => h) ?hyr83 ?rehyr83
        case hyr83 => exact fun w => by first | (go_simp; done) | (go_simp; with_reducible rfl)
        simp only [Act.put, List.setIfInBounds_toArray, List.set_cons_zero, List.set_cons_succ]
        refine' Reg.G.take (i := 3) (v := _) (F := (fun w => Fr (fun _ => False) u w)) rfl (by rfl) (by kernel_rfl) (by kernel_rfl) (by kernel_rfl) (fun _ _ _ h => h) (HFD.out) ?hyr84 ?rehyr84
        case hyr84 => intro w hw; have kc : w.cell? ⟨W.heap.size + 8, 0, none⟩ = some (.map (some (W.heap.size))) := (cell_of_blk (hw.blk HEU.out.blk (fun h => h)) 0).trans rfl; clear hw; first | (go_simp; done) | (go_simp; with_reducible rfl)
        simp only [Act.put, List.setIfInBounds_toArray, List.set_cons_zero, List.set_cons_succ]
        refine' Reg.G.pure (i := 4) (v := _) rfl (by rfl) (by kernel_rfl) (by kernel_rfl) (by kernel_rfl) (fun _ _ _ h => h) ?hyr85 ?rehyr85
        case hyr85 => exact fun w => by first | (go_simp; done) | (go_simp; with_reducible rfl)
        simp only [Act.put, List.setIfInBounds_toArray, List.set_cons_zero, List.set_cons_succ]
        refine' Reg.G.take (i := 5) (v := _) (F := (fun w => Fr (fun _ => False) u w)) rfl (by rfl) (by kernel_rfl) (by kernel_rfl) (by kernel_rfl) (fun _ _ _ h => h) (HFD.out) ?hyr86 ?rehyr86
        case hyr86 => intro w hw; have kc : w.cell? ⟨wr.heap.size, 1, none⟩ = some (.string ⟨y.h.name.toArray⟩) := by { rw [cell_of_blk (hw.blk HYB.out (fun h => h)), DT.cells_eq]; rfl }; clear hw; first | (go_simp; done) | (go_simp; with_reducible rfl)
        simp only [Act.put, List.setIfInBounds_toArray, List.set_cons_zero, List.set_cons_succ]
        refine' Reg.G.take (i := 6) (v := _) (F := (fun w => Fr (fun _ => False) u w)) rfl (by rfl) (by kernel_rfl) (by kernel_rfl) (by kernel_rfl) (fun _ _ _ h => h) (HFD.out) ?hyr87 ?rehyr87
        case hyr87 => intro w hw; refine run_load_row (P := Try.prog) 41 (.tmp 5) ?_ wr.heap.size ?_ 41 y.cells.toArray _ (hw.blk HYB.out (fun h => h)) Try.underlying41 rfl (info_it y) <;> rfl
        simp only [Act.put, List.setIfInBounds_toArray, List.set_cons_zero, List.set_cons_succ]
        refine Reg.G.step (j := 7) (m := [false, false, false]) [6, 5, 3] rfl (by kernel_rfl) rfl (by kernel_rfl) (fun K hK => ?_)
        have hx := HEU.out.fr HFD.out (fun _ _ _ h => h)
        obtain ⟨ob, hrun, hmf⟩ := Mp.MapF.set (P := Try.prog) (T := 68) Try.underlying68 Try.underlying9 hx.tm y.h.name (.agg y.cells.toArray)
        have HEN : Hid (Ex W.heap.size (tmF (l.drop j)) (spF (l.drop j)) (suF (l.drop j)) [] [] 0 (.slice none 0 0) (setBlock u.drew W.heap.size ob)) := by
          rw [HTM.out, HSP.out, HSU.out, if_pos HK.out, if_neg (by rw [HK.out]; decide), if_neg (by rw [HK.out]; decide)]; exact hx.setTm hmf
        have HFN : Hid (Fr (fun _ => False) W (setBlock u.drew W.heap.size ob)) := by
          obtain ⟨o2, ho2⟩ := hx.tm.blk
          exact Mp.Fr.setBlock (HFW.out.drew) ho2 (.inr (by omega))
        refine Mp.wp_up 68 _ _ _ (.inl rfl) rfl rfl rfl hrun ?_
        clear hx hmf hrun
        refine hK.out _ _ trivial ?_
        clear hK K
        simp only [Act.put, List.setIfInBounds_toArray, List.set_cons_zero, List.set_cons_succ, Reg.Kept]
        refine Reg.G.done (by kernel_rfl) ?_
        go_wp2_with fail
        go_roundw
        case rel => exact ⟨j, by go_num, by have := HKJ.out; omega, HEN, HFN⟩
        case measure => first | (simp [intOf]; done) | (simp [intOf]; omega)
      by_cases h6 : y.h.kind = 6
      · rw [h6] at k0
        have HK := Lib.hid h6
        clear h6 h13
        go_upto_region 10 with fail
        clear k0
        have HFD : Hid (Fr (fun _ => False) u u.drew) := (Fr.refl _ u).drew
        refine Reg.G.start (by kernel_rfl) ?_
        refine' Reg.G.pure (i := 0) (v := _) rfl (by rfl) (by kernel_rfl) (by kernel_rfl) (by kernel_rfl) (fun _ _ _ h => h) ?hyr108 ?rehyr108
        case hyr108 => exact fun w => by first | (go_simp; done) | (go_simp; with_reducible rfl)
        simp only [Act.put, List.setIfInBounds_toArray, List.set_cons_zero, List.set_cons_succ]
        refine' Reg.G.pure (i := 1) (v := _) rfl (by rfl) (by kernel_rfl) (by kernel_rfl) (by kernel_rfl) (fun _ _ _ h => h) ?hyr109 ?rehyr109
        case hyr109 => exact fun w => by first | (go_simp; done) | (go_simp; with_reducible rfl)
        simp only [Act.put, List.setIfInBounds_toArray, List.set_cons_zero, List.set_cons_succ]
        refine' Reg.G.pure (i := 2) (v := _) rfl (by rfl) (by kernel_rfl) (by kernel_rfl) (by kernel_rfl) (fun _ _ _ h => h) ?hyr1010 ?rehyr1010
        case hyr1010 => exact fun w => by first | (go_simp; done) | (go_simp; with_reducible rfl)
        simp only [Act.put, List.setIfInBounds_toArray, List.set_cons_zero, List.set_cons_succ]
        refine' Reg.G.take (i := 3) (v := _) (F := (fun w => Fr (fun _ => False) u w)) rfl (by rfl) (by kernel_rfl) (by kernel_rfl) (by kernel_rfl) (fun _ _ _ h => h) (HFD.out) ?hyr1011 ?rehyr1011
        case hyr1011 => intro w hw; have kc : w.cell? ⟨W.heap.size + 8, 1, none⟩ = some (.map (some ((W.heap.size + 1)))) := (cell_of_blk (hw.blk HEU.out.blk (fun h => h)) 1).trans rfl; clear hw; first | (go_simp; done) | (go_simp; with_reducible rfl)
        simp only [Act.put, List.setIfInBounds_toArray, List.set_cons_zero, List.set_cons_succ]
        refine' Reg.G.pure (i := 4) (v := _) rfl (by rfl) (by kernel_rfl) (by kernel_rfl) (by kernel_rfl) (fun _ _ _ h => h) ?hyr1012 ?rehyr1012
        case hyr1012 => exact fun w => by first | (go_simp; done) | (go_simp; with_reducible rfl)
        simp only [Act.put, List.setIfInBounds_toArray, List.set_cons_zero, List.set_cons_succ]
        refine' Reg.G.take (i := 5) (v := _) (F := (fun w => Fr (fun _ => False) u w)) rfl (by rfl) (by kernel_rfl) (by kernel_rfl) (by kernel_rfl) (fun _ _ _ h => h) (HFD.out) ?hyr1013 ?rehyr1013
        case hyr1013 => intro w hw; have kc : w.cell? ⟨wr.heap.size, 1, none⟩ = some (.string ⟨y.h.name.toArray⟩) := by { rw [cell_of_blk (hw.blk HYB.out (fun h => h)), DT.cells_eq]; rfl }; clear hw; first | (go_simp; done) | (go_simp; with_reducible rfl)
        simp only [Act.put, List.setIfInBounds_toArray, List.set_cons_zero, List.set_cons_succ]
        refine' Reg.G.pure (i := 6) (v := _) rfl (by rfl) (by kernel_rfl) (by kernel_rfl) (by kernel_rfl) (fun _ _ _ h => h) ?hyr1014 ?rehyr1014
        case hyr1014 => exact fun w => by first | (go_simp; done) | (go_simp; with_reducible rfl)
        simp only [Act.put, List.setIfInBounds_toArray, List.set_cons_zero, List.set_cons_succ]
        refine' Reg.G.take (i := 7) (v := _) (F := (fun w => Fr (fun _ => False) u w)) rfl (by rfl) (by kernel_rfl) (by kernel_rfl) (by kernel_rfl) (fun _ _ _ h => h) (HFD.out) ?hyr1015 ?rehyr1015
        case hyr1015 => intro w hw; have kc0 : w.cell? ⟨wr.heap.size, 7, none⟩ = some (.int .i64 y.h.within.days) := by { rw [cell_of_blk (hw.blk HYB.out (fun h => h)), DT.cells_eq]; rfl }; have kc1 : w.cell? ⟨wr.heap.size, 8, none⟩ = some (.bool y.h.within.bus) := by { rw [cell_of_blk (hw.blk HYB.out (fun h => h)), DT.cells_eq]; rfl }; have kc2 : w.cell? ⟨wr.heap.size, 9, none⟩ = some (.string ⟨y.h.within.name.toArray⟩) := by { rw [cell_of_blk (hw.blk HYB.out (fun h => h)), DT.cells_eq]; rfl }; clear hw; first | (go_simp; done) | (go_simp; with_reducible rfl)
        simp only [Act.put, List.setIfInBounds_toArray, List.set_cons_zero, List.set_cons_succ]
        refine Reg.G.step (j := 8) (m := [false, false, false]) [7, 5, 3] rfl (by kernel_rfl) rfl (by kernel_rfl) (fun K hK => ?_)
        have hx := HEU.out.fr HFD.out (fun _ _ _ h => h)
        obtain ⟨ob, hrun, hmf⟩ := Mp.MapF.set (P := Try.prog) (T := 69) Try.underlying69 Try.underlying9 hx.sp y.h.name (.agg (spanc y.h.within).toArray)
        have HEN : Hid (Ex W.heap.size (tmF (l.drop j)) (spF (l.drop j)) (suF (l.drop j)) [] [] 0 (.slice none 0 0) (setBlock u.drew (W.heap.size + 1) ob)) := by
          rw [HTM.out, HSP.out, HSU.out, if_neg (by rw [HK.out]; decide), if_pos HK.out, if_neg (by rw [HK.out]; decide)]; exact hx.setSp hmf
        have HFN : Hid (Fr (fun _ => False) W (setBlock u.drew (W.heap.size + 1) ob)) := by
          obtain ⟨o2, ho2⟩ := hx.sp.blk
          exact Mp.Fr.setBlock (HFW.out.drew) ho2 (.inr (by omega))
        refine Mp.wp_up 69 _ _ _ (.inl rfl) rfl rfl rfl hrun ?_
        clear hx hmf hrun
        refine hK.out _ _ trivial ?_
        clear hK K
        simp only [Act.put, List.setIfInBounds_toArray, List.set_cons_zero, List.set_cons_succ, Reg.Kept]
        refine Reg.G.done (by kernel_rfl) ?_
        go_wp2_with fail
        go_roundw
        case rel => exact ⟨j, by go_num, by have := HKJ.out; omega, HEN, HFN⟩
        case measure => first | (simp [intOf]; done) | (simp [intOf]; omega)
      by_cases h7 : y.h.kind = 7
      · rw [h7] at k0
        have HK := Lib.hid h7
        clear h6 h7 h13
        go_upto_region 12 with fail
        clear k0
        have HFD : Hid (Fr (fun _ => False) u u.drew) := (Fr.refl _ u).drew
        refine Reg.G.start (by kernel_rfl) ?_
        refine' Reg.G.pure (i := 0) (v := _) rfl (by rfl) (by kernel_rfl) (by kernel_rfl) (by kernel_rfl) (fun _ _ _ h => h) ?hyr1216 ?rehyr1216
        case hyr1216 => exact fun w => by first | (go_simp; done) | (go_simp; with_reducible rfl)
        simp only [Act.put, List.setIfInBounds_toArray, List.set_cons_zero, List.set_cons_succ]
        refine' Reg.G.pure (i := 1) (v := _) rfl (by rfl) (by kernel_rfl) (by kernel_rfl) (by kernel_rfl) (fun _ _ _ h => h) ?hyr1217 ?rehyr1217
        case hyr1217 => exact fun w => by first | (go_simp; done) | (go_simp; with_reducible rfl)
        simp only [Act.put, List.setIfInBounds_toArray, List.set_cons_zero, List.set_cons_succ]
        refine' Reg.G.pure (i := 2) (v := _) rfl (by rfl) (by kernel_rfl) (by kernel_rfl) (by kernel_rfl) (fun _ _ _ h => h) ?hyr1218 ?rehyr1218
        case hyr1218 => exact fun w => by first | (go_simp; done) | (go_simp; with_reducible rfl)
        simp only [Act.put, List.setIfInBounds_toArray, List.set_cons_zero, List.set_cons_succ]
        refine' Reg.G.take (i := 3) (v := _) (F := (fun w => Fr (fun _ => False) u w)) rfl (by rfl) (by kernel_rfl) (by kernel_rfl) (by kernel_rfl) (fun _ _ _ h => h) (HFD.out) ?hyr1219 ?rehyr1219
        case hyr1219 => intro w hw; have kc : w.cell? ⟨W.heap.size + 8, 2, none⟩ = some (.map (some ((W.heap.size + 2)))) := (cell_of_blk (hw.blk HEU.out.blk (fun h => h)) 2).trans rfl; clear hw; first | (go_simp; done) | (go_simp; with_reducible rfl)
        simp only [Act.put, List.setIfInBounds_toArray, List.set_cons_zero, List.set_cons_succ]
        refine' Reg.G.pure (i := 4) (v := _) rfl (by rfl) (by kernel_rfl) (by kernel_rfl) (by kernel_rfl) (fun _ _ _ h => h) ?hyr1220 ?rehyr1220
        case hyr1220 => exact fun w => by first | (go_simp; done) | (go_simp; with_reducible rfl)
        simp only [Act.put, List.setIfInBounds_toArray, List.set_cons_zero, List.set_cons_succ]
        refine' Reg.G.take (i := 5) (v := _) (F := (fun w => Fr (fun _ => False) u w)) rfl (by rfl) (by kernel_rfl) (by kernel_rfl) (by kernel_rfl) (fun _ _ _ h => h) (HFD.out) ?hyr1221 ?rehyr1221
        case hyr1221 => intro w hw; have kc : w.cell? ⟨wr.heap.size, 1, none⟩ = some (.string ⟨y.h.name.toArray⟩) := by { rw [cell_of_blk (hw.blk HYB.out (fun h => h)), DT.cells_eq]; rfl }; clear hw; first | (go_simp; done) | (go_simp; with_reducible rfl)
        simp only [Act.put, List.setIfInBounds_toArray, List.set_cons_zero, List.set_cons_succ]
        refine' Reg.G.take (i := 6) (v := _) (F := (fun w => Fr (fun _ => False) u w)) rfl (by rfl) (by kernel_rfl) (by kernel_rfl) (by kernel_rfl) (fun _ _ _ h => h) (HFD.out) ?hyr1222 ?rehyr1222
        case hyr1222 => intro w hw; refine run_load_row (P := Try.prog) 41 (.tmp 5) ?_ wr.heap.size ?_ 41 y.cells.toArray _ (hw.blk HYB.out (fun h => h)) Try.underlying41 rfl (info_it y) <;> rfl
        simp only [Act.put, List.setIfInBounds_toArray, List.set_cons_zero, List.set_cons_succ]
        refine Reg.G.step (j := 7) (m := [false, false, false]) [6, 5, 3] rfl (by kernel_rfl) rfl (by kernel_rfl) (fun K hK => ?_)
        have hx := HEU.out.fr HFD.out (fun _ _ _ h => h)
        obtain ⟨ob, hrun, hmf⟩ := Mp.MapF.set (P := Try.prog) (T := 68) Try.underlying68 Try.underlying9 hx.su y.h.name (.agg y.cells.toArray)
        have HEN : Hid (Ex W.heap.size (tmF (l.drop j)) (spF (l.drop j)) (suF (l.drop j)) [] [] 0 (.slice none 0 0) (setBlock u.drew (W.heap.size + 2) ob)) := by
          rw [HTM.out, HSP.out, HSU.out, if_neg (by rw [HK.out]; decide), if_neg (by rw [HK.out]; decide), if_pos HK.out]; exact hx.setSu hmf
        have HFN : Hid (Fr (fun _ => False) W (setBlock u.drew (W.heap.size + 2) ob)) := by
          obtain ⟨o2, ho2⟩ := hx.su.blk
          exact Mp.Fr.setBlock (HFW.out.drew) ho2 (.inr (by omega))
        refine Mp.wp_up 68 _ _ _ (.inl rfl) rfl rfl rfl hrun ?_
        clear hx hmf hrun
        refine hK.out _ _ trivial ?_
        clear hK K
        simp only [Act.put, List.setIfInBounds_toArray, List.set_cons_zero, List.set_cons_succ, Reg.Kept]
        refine Reg.G.done (by kernel_rfl) ?_
        go_wp2_with fail
        go_roundw
        case rel => exact ⟨j, by go_num, by have := HKJ.out; omega, HEN, HFN⟩
        case measure => first | (simp [intOf]; done) | (simp [intOf]; omega)
      have b13 : (y.h.kind == 13) = false := by simpa using h13
      have b6 : (y.h.kind == 6) = false := by simpa using h6
      have b7 : (y.h.kind == 7) = false := by simpa using h7
      have HEN : Hid (Ex W.heap.size (tmF (l.drop j)) (spF (l.drop j)) (suF (l.drop j)) [] [] 0 (.slice none 0 0) u) := by
        rw [HTM.out, HSP.out, HSU.out, if_neg h13, if_neg h6, if_neg h7]; exact HEU.out
      clear h13 h6 h7
      go_wp2_with fail
      go_roundw
      case rel => exact ⟨j, by go_num, by have := HKJ.out; omega, HEN, HFW⟩
      case measure => first | (simp [intOf]; done) | (simp [intOf]; omega)
end Go.Proofs.Yticakdajhmfpoaa.Ic
