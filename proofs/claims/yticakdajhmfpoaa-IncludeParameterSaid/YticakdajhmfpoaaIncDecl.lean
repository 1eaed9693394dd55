/-
  Include: names that are declared.
-/
import Derived.Test.YticakdajhmfpoaaIncInc
import Derived.Carry
namespace Go.Proofs.Yticakdajhmfpoaa.Ic
open Go.RowKit Mem Vw Rs
open Go.ChangeMaps (setBlock)
set_option linter.unusedVariables false
set_option linter.unusedSimpArgs false

theorem twins_snoc (x : Rs.Bytes) : ∀ l : List Rs.Bytes, twins (l ++ [x]) = (twins l || l.contains x)
  | [] => by simp [twins]
  | y :: l => by
    simp only [List.cons_append, twins, twins_snoc x l, List.contains_cons, List.contains_append, List.contains_nil, Bool.or_false]
    cases l.contains y <;> cases twins l <;> cases l.contains x <;> simp [Bool.or_comm, BEq.comm]
theorem twins_pre {a b : List Rs.Bytes} (h : twins a = true) : twins (a ++ b) = true := by
  induction a with
  | nil => simp [twins] at h
  | cons x a ih =>
    simp only [twins, Bool.or_eq_true] at h
    simp only [List.cons_append, twins, Bool.or_eq_true, List.contains_append]
    rcases h with h | h
    · exact .inl (.inl h)
    · exact .inr (ih h)
theorem twins_take {l : List Rs.Bytes} {k : Nat} {x : Rs.Bytes} (hx : l[k]? = some x) : twins (l.take (k + 1)) = (twins (l.take k) || (l.take k).contains x) := by
  rw [List.take_add_one, hx]
  exact twins_snoc x _
theorem twins_hit {l : List Rs.Bytes} {k : Nat} {x : Rs.Bytes} (hx : l[k]? = some x) (hm : x ∈ l.take k) : twins l = true := by
  have h1 : twins (l.take (k + 1)) = true := by rw [twins_take hx, List.contains_iff_mem.2 hm]; simp
  have := twins_pre (b := l.drop (k + 1)) h1
  rwa [List.take_append_drop] at this
theorem zero_bool (w : World) : (zeroValue 4).run Try.prog w = .ok (.bool false) w := by kernel_rfl
def inF (l : List Rs.Bytes) (n : Rs.Bytes) : Option Value := if n ∈ l then some (.bool true) else none
def TwR (l : List Rs.Bytes) (g : Nat) (W : World) (iv : Value) (wr : World) : Prop := ∃ k : Nat, iv = .int .i64 k ∧ k ≤ l.length ∧ Hid (twins (l.take k) = false) ∧ Hid (Mp.MapF wr g (inF (l.take k))) ∧ Hid (Fr (fun _ => False) W wr)
set_option maxRecDepth 100000 in
set_option maxHeartbeats 4000000 in
theorem hasTwins_any (l : List Rs.Bytes) (v : Value) (W : World) (B0 : Nat → Prop) (hr : RowB B0 W v 1 (l.map fun x => [sv x])) :
    Calls Try.prog 38 #[v] W fun e w' => e = .returned (.bool (twins l)) ∧ Fr (fun _ => False) W w' := by
  obtain ⟨A, cp, rfl, hc1, hc2⟩ := hr.slice
  rw [List.length_map] at hc1
  have HL := Lib.hid hr
  clear hr
  show Calls _ _ #[.slice A (l.map fun x => [sv x]).length cp] _ _
  rw [List.length_map]
  have HL : Hid (RowB B0 W (.slice A l.length cp) 1 (l.map fun x => [sv x])) := by have := HL.out; rw [List.length_map] at this; exact this
  have hzl : l.length ≤ 9223372036854775807 := by omega
  have hmm := @run_makeMap Try.prog
  obtain ⟨w0, HW0⟩ : ∃ w, Hid (W.alloc (.map #[] 0) = w) := ⟨_, rfl⟩
  have HM0 : Hid (Mp.MapF w0 W.heap.size (inF (l.take 0))) := by rw [← HW0.out]; exact ⟨#[], 0, [], blk_newn rfl, rfl, List.nodup_nil, rfl⟩
  have HF0 : Hid (Fr (fun _ => False) W w0) := by rw [← HW0.out]; exact (Fr.refl _ W).alloc _
  go_enter Try.func38, Try.ntmps38
  go_upto_region 2 with fail
  rw [HW0.out]
  clear HW0 hmm
  go_wp2_with fail
  go_loopw [9] (fun iv wr => TwR l W.heap.size W iv wr) (fun i _ => l.length - (intOf i).toNat)
  case atStart => exact ⟨0, rfl, Nat.zero_le _, Lib.hid rfl, HM0, HF0⟩
  case round =>
    clear HM0 HF0
    obtain ⟨k, rfl, hk, HT, HM, HF⟩ := hrel
    have i1 : (0 : Int) ≤ (k : Int) := Int.natCast_nonneg _
    by_cases hlt : k < l.length
    · have i2 : (k : Int) < (l.length : Int) := by omega
      obtain ⟨y, hy⟩ : ∃ y, l[k]? = some y := ⟨_, List.getElem?_eq_getElem hlt⟩
      obtain ⟨g, o, hA, hg, hgB, hat⟩ := (HL.out.fr HF.out (fun _ _ h => h)).at (k := k) (x := [sv y]) (by rw [List.getElem?_map, hy]; rfl)
      subst hA
      have kc : wr.cell? ⟨g, o + k, none⟩ = some (.string ⟨y.toArray⟩) := by
        have := hat 0 _ rfl
        rw [Nat.mul_one] at this
        exact this
      have HY := Lib.hid hy; have HKK := Lib.hid hlt
      have hget := HM.out.get (P := Try.prog) Try.underlying70 Try.underlying9 y (zero_bool wr)
      clear hat hg hgB hy hlt
      by_cases hm : y ∈ l.take k
      · have hl : (Instr.lookup 70 (.map (some W.heap.size)) (.string ⟨y.toArray⟩) false).run Try.prog wr = .ok (.bool true) wr := by
          have h1 : inF (l.take k) y = some (.bool true) := if_pos hm
          rw [h1] at hget; exact hget
        have HR := Lib.hid (twins_hit HY.out hm)
        clear hget hm
        go_wp2_with fail
        go_ret
        rw [HR.out]
        exact ⟨rfl, HF.out⟩
      · have hl : (Instr.lookup 70 (.map (some W.heap.size)) (.string ⟨y.toArray⟩) false).run Try.prog wr = .ok (.bool false) wr := by
          have h1 : inF (l.take k) y = none := if_neg hm
          rw [h1] at hget; exact hget
        obtain ⟨ob, hrun, hmf⟩ := HM.out.set (P := Try.prog) Try.underlying70 Try.underlying9 y (.bool true)
        have hrun : (Instr.mapUpdate 70 (.map (some W.heap.size)) (.string ⟨y.toArray⟩) (.bool true)).run Try.prog wr = .ok () (setBlock wr W.heap.size ob) := hrun
        have HTN : Hid (twins (l.take (k + 1)) = false) := by
          show _ = _
          rw [twins_take HY.out, HT.out]
          have : (l.take k).contains y = false := by rw [Bool.eq_false_iff, Ne, List.contains_iff_mem]; exact hm
          rw [this]; rfl
        obtain ⟨w2, HW2⟩ : ∃ w, Hid (setBlock wr W.heap.size ob = w) := ⟨_, rfl⟩
        have HMN : Hid (Mp.MapF w2 W.heap.size (inF (l.take (k + 1)))) := by
          have e : inF (l.take (k + 1)) = fun z => if z = y then some (.bool true) else inF (l.take k) z := by
            funext z
            unfold inF
            rw [List.take_add_one, HY.out]
            by_cases hz : z = y
            · rw [if_pos hz, if_pos (by rw [hz]; simp)]
            · rw [if_neg hz]
              have : z ∈ l.take k ++ (some y).toList ↔ z ∈ l.take k := by simp [hz]
              by_cases h2 : z ∈ l.take k
              · rw [if_pos h2, if_pos (this.2 h2)]
              · rw [if_neg h2, if_neg (fun h => h2 (this.1 h))]
          rw [e, ← HW2.out]; exact hmf
        have HFN : Hid (Fr (fun _ => False) W w2) := by
          obtain ⟨o2, ho2⟩ := HM.out.blk
          rw [← HW2.out]; exact Mp.Fr.setBlock HF.out ho2 (.inr (Nat.le_refl _))
        rw [HW2.out] at hrun
        clear hget hm hmf HW2
        go_wp2_with fail
        go_roundw
        case rel => exact ⟨k + 1, by go_num, HKK.out, HTN, HMN, HFN⟩
        case measure => have := HKK.out; first | (simp [intOf]; done) | (simp [intOf]; omega)
    · obtain rfl : k = l.length := by omega
      rw [List.take_length] at HT
      go_wp2_with fail
      go_ret
      rw [HT.out]
      exact ⟨rfl, HF.out⟩
theorem fst_snoc (l : List DT) (y : DT) (k : Int) (n : Rs.Bytes) : (fst (l ++ [y]) k n).isSome = ((fst l k n).isSome || decide (y.h.kind = k ∧ y.h.name = n)) := by
  induction l with
  | nil =>
    show (fst [y] k n).isSome = _
    rw [fst_cons]
    by_cases h : y.h.kind = k ∧ y.h.name = n
    · rw [if_pos h]; simp [h]
    · rw [if_neg h]; simp [fst, h]
  | cons x l ih =>
    rw [List.cons_append, fst_cons, fst_cons]
    by_cases h : x.h.kind = k ∧ x.h.name = n
    · rw [if_pos h, if_pos h]; simp
    · rw [if_neg h, if_neg h, ih]
theorem snF_other {k : Int} {l : List DT} {y : DT} (h : y.h.kind ≠ k) : snF k (l ++ [y]) = snF k l := by
  funext n
  unfold snF
  rw [fst_snoc]
  have : decide (y.h.kind = k ∧ y.h.name = n) = false := by simp [h]
  rw [this, Bool.or_false]
theorem snF_same {k : Int} {l : List DT} {y : DT} (h : y.h.kind = k) : snF k (l ++ [y]) = fun z => if z = y.h.name then some (.bool true) else snF k l z := by
  funext n
  unfold snF
  rw [fst_snoc]
  by_cases hn : n = y.h.name
  · rw [if_pos hn, if_pos (by simp [h, hn])]
  · have : decide (y.h.kind = k ∧ y.h.name = n) = false := by simp; intro _; exact fun e => hn e.symm
    rw [this, Bool.or_false, if_neg hn]
/-- Another item is behind the ones that were seen, none that declares. -/
theorem Ex.seenRest {B : Nat} {tm sp su : Rs.Bytes → Option Value} {op : List Rs.Bytes} {sn : List DT} {cnt : Int} {iv : Value} {w : World} (h : Ex B tm sp su op sn cnt iv w) {y : DT} (hd : defines y.h.kind = false) : Ex B tm sp su op (sn ++ [y]) cnt iv w := by
  obtain ⟨d1, d2, d3⟩ := defines_not hd
  exact ⟨h.blk, h.tm, h.sp, h.su, h.inc, h.seen, by rw [snF_other d1]; exact h.e13, by rw [snF_other d2]; exact h.e6, by rw [snF_other d3]; exact h.e7⟩
theorem look_seen {B : Nat} {w : World} (h : w.heap[B + 4]? = some (.map (ents3 B) 3)) : (Instr.lookup 71 (.map (some (B + 4))) (.int .i64 13) false).run Try.prog w = .ok (.map (some (B + 5))) w ∧ (Instr.lookup 71 (.map (some (B + 4))) (.int .i64 6) false).run Try.prog w = .ok (.map (some (B + 6))) w ∧ (Instr.lookup 71 (.map (some (B + 4))) (.int .i64 7) false).run Try.prog w = .ok (.map (some (B + 7))) w := by
  have hc : ∀ e k, (Instr.checkKey e 10000 3 (kv k)).run Try.prog w = .ok () w := fun e k => MapKept.run_checkKey (k := kv k) Try.underlying3 (by simp [MapKept.IsKey, kv]) e 9999
  have f1 : Instr.findNow (.int .i64) (kv 13) (ents3 B).toList 0 = some (some (0, .map (some (B + 5)))) := rfl
  have f2 : Instr.findNow (.int .i64) (kv 6) (ents3 B).toList 0 = some (some (1, .map (some (B + 6)))) := rfl
  have f3 : Instr.findNow (.int .i64) (kv 7) (ents3 B).toList 0 = some (some (2, .map (some (B + 7)))) := rfl
  refine ⟨?_, ?_, ?_⟩
  · have := hc (ents3 B).isEmpty 13
    simp only [kv] at this f1
    simp [Instr.lookup, run_underlying Try.underlying71, MapKept.run_getObj_map h, MapKept.run_findKey Try.underlying3 f1, Result.andThen, this]
  · have := hc (ents3 B).isEmpty 6
    simp only [kv] at this f2
    simp [Instr.lookup, run_underlying Try.underlying71, MapKept.run_getObj_map h, MapKept.run_findKey Try.underlying3 f2, Result.andThen, this]
  · have := hc (ents3 B).isEmpty 7
    simp only [kv] at this f3
    simp [Instr.lookup, run_underlying Try.underlying71, MapKept.run_getObj_map h, MapKept.run_findKey Try.underlying3 f3, Result.andThen, this]
def DeclR (B : Nat) (l : List DT) (op : List Rs.Bytes) (sn : List DT) (cnt : Int) (iv : Value) (y : DT) (W : World) (e : Ending) (w' : World) : Prop :=
  e = .returned (.int .i64 (if ((fst sn y.h.kind y.h.name).isSome || (decide (y.h.kind = 13) && twins y.h.names)) = true then 9 else 0)) ∧ ExL B l op (sn ++ [y]) cnt iv w' ∧ Fr (fun g => B + 5 ≤ g ∧ g ≤ B + 7) W w'
set_option maxRecDepth 100000 in
set_option maxHeartbeats 8000000 in
theorem declare_13 {B : Nat} {l : List DT} {op : List Rs.Bytes} {sn : List DT} {cnt : Int} {iv : Value} (y : DT) (W : World) (hE : ExL B l op sn cnt iv W) (hy : Lay (fun g => g < B) W y) (hk : y.h.kind = 13) :
    Calls Try.prog 31 #[.pointer (some ⟨B + 8, 0, none⟩), .agg y.cells.toArray] W (DeclR B l op sn cnt iv y W) := by
  obtain ⟨w0, HW0⟩ : ∃ w0, Hid (W.alloc (.cells y.cells.toArray 41) = w0) := ⟨_, rfl⟩
  have HF0 : Hid (Fr (fun _ => False) W w0) := by rw [← HW0.out]; exact (Fr.refl _ W).alloc _
  have HB0 : Hid (w0.heap[W.heap.size]? = some (.cells y.cells.toArray 41 (0, 0))) := by rw [← HW0.out]; exact blk_newn rfl
  have HE0 : Hid (ExL B l op sn cnt iv w0) := hE.fr HF0.out (fun _ _ _ h => h)
  have HGB : Hid (B + 8 < W.heap.size) := lt_of_blk hE.blk
  have HLY : Hid (Lay (fun g => g < B) w0 y) := hy.fr HF0.out (fun _ _ h => h)
  obtain ⟨An, cn, hyn, _, _⟩ := HLY.out.names.slice
  rw [List.length_map] at hyn
  have HYN := Lib.hid hyn
  have HK := Lib.hid hk
  clear hE hy hyn hk
  have hKI : ∀ w : World, w.heap[W.heap.size]? = some (.cells y.cells.toArray 41 (0, 0)) → w.cell? ⟨W.heap.size, 0, none⟩ = some (.int .i64 13) := fun w h => by rw [cell_of_blk h, DT.cells_eq, ← HK.out]; rfl
  have hKN : ∀ w : World, w.heap[W.heap.size]? = some (.cells y.cells.toArray 41 (0, 0)) → w.cell? ⟨W.heap.size, 1, none⟩ = some (.string ⟨y.h.name.toArray⟩) := fun w h => by rw [cell_of_blk h, DT.cells_eq]; rfl
  have hKL : ∀ w : World, w.heap[W.heap.size]? = some (.cells y.cells.toArray 41 (0, 0)) → w.cell? ⟨W.heap.size, 31, none⟩ = some (.slice An y.h.names.length cn) := fun w h => by rw [cell_of_blk h, DT.cells_eq, HYN.out]; rfl
  have HKI := Lib.hid hKI; have HKN := Lib.hid hKN; have HKL := Lib.hid hKL
  clear hKI hKN hKL
  go_enter Try.func31, Try.ntmps31
  go_upto_region 1 with fail
  rw [HW0.out]
  clear HW0
  have HFD : Hid (Fr (fun _ => False) w0 w0.drew) := (Fr.refl _ w0).drew
  refine Reg.G.start (by kernel_rfl) ?_
  refine' Reg.G.pure (i := 0) (v := _) rfl (by rfl) (by kernel_rfl) (by kernel_rfl) (by kernel_rfl) (fun _ _ _ h => h) ?hyk131 ?rehyk131
  case hyk131 => exact fun w => by first | (go_simp; done) | (go_simp; with_reducible rfl)
  simp only [Act.put, List.setIfInBounds_toArray, List.set_cons_zero, List.set_cons_succ]
  refine' Reg.G.pure (i := 1) (v := _) rfl (by rfl) (by kernel_rfl) (by kernel_rfl) (by kernel_rfl) (fun _ _ _ h => h) ?hyk132 ?rehyk132
  case hyk132 => exact fun w => by first | (go_simp; done) | (go_simp; with_reducible rfl)
  simp only [Act.put, List.setIfInBounds_toArray, List.set_cons_zero, List.set_cons_succ]
  refine' Reg.G.pure (i := 2) (v := _) rfl (by rfl) (by kernel_rfl) (by kernel_rfl) (by kernel_rfl) (fun _ _ _ h => h) ?hyk133 ?rehyk133
  case hyk133 => exact fun w => by first | (go_simp; done) | (go_simp; with_reducible rfl)
  simp only [Act.put, List.setIfInBounds_toArray, List.set_cons_zero, List.set_cons_succ]
  refine' Reg.G.take (i := 3) (v := _) (F := (fun w => Fr (fun _ => False) w0 w)) rfl (by rfl) (by kernel_rfl) (by kernel_rfl) (by kernel_rfl) (fun _ _ _ h => h) (HFD.out) ?hyk134 ?rehyk134
  case hyk134 => intro w hw; have kc : w.cell? ⟨B + 8, 4, none⟩ = some (.map (some (B + 4))) := (cell_of_blk (hw.blk HE0.out.blk (fun h => h)) 4).trans rfl; clear hw; first | (go_simp; done) | (go_simp; with_reducible rfl)
  simp only [Act.put, List.setIfInBounds_toArray, List.set_cons_zero, List.set_cons_succ]
  refine' Reg.G.pure (i := 4) (v := _) rfl (by rfl) (by kernel_rfl) (by kernel_rfl) (by kernel_rfl) (fun _ _ _ h => h) ?hyk135 ?rehyk135
  case hyk135 => exact fun w => by first | (go_simp; done) | (go_simp; with_reducible rfl)
  simp only [Act.put, List.setIfInBounds_toArray, List.set_cons_zero, List.set_cons_succ]
  refine' Reg.G.take (i := 5) (v := _) (F := (fun w => Fr (fun _ => False) w0 w)) rfl (by rfl) (by kernel_rfl) (by kernel_rfl) (by kernel_rfl) (fun _ _ _ h => h) (HFD.out) ?hyk136 ?rehyk136
  case hyk136 => intro w hw; have kc := HKI.out w (hw.blk HB0.out (fun h => h)); clear hw; first | (go_simp; done) | (go_simp; with_reducible rfl)
  simp only [Act.put, List.setIfInBounds_toArray, List.set_cons_zero, List.set_cons_succ]
  refine' Reg.G.take (i := 6) (v := _) (F := (fun w => Fr (fun _ => False) w0 w)) rfl (by rfl) (by kernel_rfl) (by kernel_rfl) (by kernel_rfl) (fun _ _ _ h => h) (HFD.out) ?hyk137 ?rehyk137
  case hyk137 => intro w hw; have kc := (look_seen (hw.blk HE0.out.seen (fun h => h))).1; clear hw; first | (go_simp; done) | (go_simp; with_reducible rfl)
  simp only [Act.put, List.setIfInBounds_toArray, List.set_cons_zero, List.set_cons_succ]
  refine' Reg.G.pure (i := 7) (v := _) rfl (by rfl) (by kernel_rfl) (by kernel_rfl) (by kernel_rfl) (fun _ _ _ h => h) ?hyk138 ?rehyk138
  case hyk138 => exact fun w => by first | (go_simp; done) | (go_simp; with_reducible rfl)
  simp only [Act.put, List.setIfInBounds_toArray, List.set_cons_zero, List.set_cons_succ]
  refine Reg.G.done (by kernel_rfl) ?_
  obtain ⟨w1, hw1⟩ : ∃ w, w0.drew = w := ⟨_, rfl⟩
  rw [hw1]
  have HF1 : Hid (Fr (fun _ => False) w0 w1) := by rw [← hw1]; exact HFD.out
  clear hw1 HFD
  have HE1 : Hid (ExL B l op sn cnt iv w1) := HE0.out.fr HF1.out (fun _ _ _ h => h)
  have HB1 : Hid (w1.heap[W.heap.size]? = some (.cells y.cells.toArray 41 (0, 0))) := HF1.out.blk HB0.out (fun h => h)
  have kn := HKN.out w1 HB1.out
  obtain ⟨b, hb⟩ : ∃ b, (fst sn 13 y.h.name).isSome = b := ⟨_, rfl⟩
  have HBB : Hid ((fst sn y.h.kind y.h.name).isSome = b) := by show _ = _; rw [HK.out, hb]
  have hl : (Instr.lookup 70 (.map (some (B + 5))) (.string ⟨y.h.name.toArray⟩) false).run Try.prog w1 = .ok (.bool b) w1 := by
    have hget := HE1.out.e13.get (P := Try.prog) Try.underlying70 Try.underlying9 y.h.name (zero_bool w1)
    have h1 : (snF 13 sn y.h.name).getD (.bool false) = .bool b := by unfold snF; rw [hb]; cases b <;> rfl
    rw [h1] at hget; exact hget
  obtain ⟨ob, hrun, hmf⟩ := HE1.out.e13.set (P := Try.prog) Try.underlying70 Try.underlying9 y.h.name (.bool true)
  have hrun : (Instr.mapUpdate 70 (.map (some (B + 5))) (.string ⟨y.h.name.toArray⟩) (.bool true)).run Try.prog w1 = .ok () (setBlock w1 (B + 5) ob) := hrun
  obtain ⟨w2, HW2⟩ : ∃ w, Hid (setBlock w1 (B + 5) ob = w) := ⟨_, rfl⟩
  have HF2 : Hid (Fr (fun g => g = B + 5) w1 w2) := by
    obtain ⟨o2, ho2⟩ := HE1.out.e13.blk
    rw [← HW2.out]; exact fr_set ho2
  have HE2 : Hid (ExL B l op (sn ++ [y]) cnt iv w2) := by
    have h := HE1.out; have hf := HF2.out
    rw [HW2.out] at hmf
    rw [← snF_same HK.out] at hmf
    exact ⟨hf.blk h.blk (by omega), h.tm.fr hf (by omega), h.sp.fr hf (by omega), h.su.fr hf (by omega), h.inc.fr hf (by omega), hf.blk h.seen (by omega), hmf, by rw [snF_other (by rw [HK.out]; decide)]; exact h.e6.fr hf (by omega), by rw [snF_other (by rw [HK.out]; decide)]; exact h.e7.fr hf (by omega)⟩
  have HB2 : Hid (w2.heap[W.heap.size]? = some (.cells y.cells.toArray 41 (0, 0))) := HF2.out.blk HB1.out (fun e => by have := HGB.out; omega)
  have HFW : Hid (Fr (fun g => B + 5 ≤ g ∧ g ≤ B + 7) W w2) := ((HF0.out.trans HF1.out).mono (T := fun g => B + 5 ≤ g ∧ g ≤ B + 7) (fun _ _ h => h.elim)).trans (HF2.out.mono (fun g _ e => by omega))
  rw [HW2.out] at hrun
  clear hmf HW2 hb
  go_upto_region 4 with fail
  clear hrun hl kn
  have ki := HKI.out w2 HB2.out
  have kl := HKL.out w2 HB2.out
  cases b with
  | true =>
    go_wp2_with fail
    go_ret
    exact ⟨by rw [HBB.out]; rfl, HE2.out, HFW.out⟩
  | false =>
    have HTW := hasTwins_any y.h.names _ w2 _ ((HLY.out.fr HF1.out (fun _ _ h => h)).fr HF2.out (S := fun g => g = B + 5) (fun g hg e => by omega)).names
    rw [HYN.out] at HTW
    have HTW := Lib.hid HTW
    go_wp2_with fail
    refine HTW.out.mono ?_
    rintro e w3 ⟨rfl, hf3⟩
    have HF3 := Lib.hid hf3
    have HE3 : Hid (ExL B l op (sn ++ [y]) cnt iv w3) := HE2.out.fr HF3.out (fun _ _ _ h => h)
    have HFW3 : Hid (Fr (fun g => B + 5 ≤ g ∧ g ≤ B + 7) W w3) := HFW.out.trans (HF3.out.mono (fun _ _ h => h.elim))
    clear hf3 HTW ki kl
    obtain ⟨t, ht⟩ : ∃ t, twins y.h.names = t := ⟨_, rfl⟩
    have HT := Lib.hid ht
    rw [ht]
    clear ht
    cases t with
    | true =>
      go_wp2_with fail
      go_ret
      exact ⟨by rw [HBB.out, HK.out, HT.out]; rfl, HE3.out, HFW3.out⟩
    | false =>
      go_wp2_with fail
      go_ret
      exact ⟨by rw [HBB.out, HK.out, HT.out]; rfl, HE3.out, HFW3.out⟩
set_option maxRecDepth 100000 in
set_option maxHeartbeats 8000000 in
theorem declare_6 {B : Nat} {l : List DT} {op : List Rs.Bytes} {sn : List DT} {cnt : Int} {iv : Value} (y : DT) (W : World) (hE : ExL B l op sn cnt iv W) (hy : Lay (fun g => g < B) W y) (hk : y.h.kind = 6) :
    Calls Try.prog 31 #[.pointer (some ⟨B + 8, 0, none⟩), .agg y.cells.toArray] W (DeclR B l op sn cnt iv y W) := by
  obtain ⟨w0, HW0⟩ : ∃ w0, Hid (W.alloc (.cells y.cells.toArray 41) = w0) := ⟨_, rfl⟩
  have HF0 : Hid (Fr (fun _ => False) W w0) := by rw [← HW0.out]; exact (Fr.refl _ W).alloc _
  have HB0 : Hid (w0.heap[W.heap.size]? = some (.cells y.cells.toArray 41 (0, 0))) := by rw [← HW0.out]; exact blk_newn rfl
  have HE0 : Hid (ExL B l op sn cnt iv w0) := hE.fr HF0.out (fun _ _ _ h => h)
  have HGB : Hid (B + 8 < W.heap.size) := lt_of_blk hE.blk
  have HLY : Hid (Lay (fun g => g < B) w0 y) := hy.fr HF0.out (fun _ _ h => h)
  obtain ⟨An, cn, hyn, _, _⟩ := HLY.out.names.slice
  rw [List.length_map] at hyn
  have HYN := Lib.hid hyn
  have HK := Lib.hid hk
  clear hE hy hyn hk
  have hKI : ∀ w : World, w.heap[W.heap.size]? = some (.cells y.cells.toArray 41 (0, 0)) → w.cell? ⟨W.heap.size, 0, none⟩ = some (.int .i64 6) := fun w h => by rw [cell_of_blk h, DT.cells_eq, ← HK.out]; rfl
  have hKN : ∀ w : World, w.heap[W.heap.size]? = some (.cells y.cells.toArray 41 (0, 0)) → w.cell? ⟨W.heap.size, 1, none⟩ = some (.string ⟨y.h.name.toArray⟩) := fun w h => by rw [cell_of_blk h, DT.cells_eq]; rfl
  have hKL : ∀ w : World, w.heap[W.heap.size]? = some (.cells y.cells.toArray 41 (0, 0)) → w.cell? ⟨W.heap.size, 31, none⟩ = some (.slice An y.h.names.length cn) := fun w h => by rw [cell_of_blk h, DT.cells_eq, HYN.out]; rfl
  have HKI := Lib.hid hKI; have HKN := Lib.hid hKN; have HKL := Lib.hid hKL
  clear hKI hKN hKL
  go_enter Try.func31, Try.ntmps31
  go_upto_region 1 with fail
  rw [HW0.out]
  clear HW0
  have HFD : Hid (Fr (fun _ => False) w0 w0.drew) := (Fr.refl _ w0).drew
  refine Reg.G.start (by kernel_rfl) ?_
  refine' Reg.G.pure (i := 0) (v := _) rfl (by rfl) (by kernel_rfl) (by kernel_rfl) (by kernel_rfl) (fun _ _ _ h => h) ?hyk69 ?rehyk69
  case hyk69 => exact fun w => by first | (go_simp; done) | (go_simp; with_reducible rfl)
  simp only [Act.put, List.setIfInBounds_toArray, List.set_cons_zero, List.set_cons_succ]
  refine' Reg.G.pure (i := 1) (v := _) rfl (by rfl) (by kernel_rfl) (by kernel_rfl) (by kernel_rfl) (fun _ _ _ h => h) ?hyk610 ?rehyk610
  case hyk610 => exact fun w => by first | (go_simp; done) | (go_simp; with_reducible rfl)
  simp only [Act.put, List.setIfInBounds_toArray, List.set_cons_zero, List.set_cons_succ]
  refine' Reg.G.pure (i := 2) (v := _) rfl (by rfl) (by kernel_rfl) (by kernel_rfl) (by kernel_rfl) (fun _ _ _ h => h) ?hyk611 ?rehyk611
  case hyk611 => exact fun w => by first | (go_simp; done) | (go_simp; with_reducible rfl)
  simp only [Act.put, List.setIfInBounds_toArray, List.set_cons_zero, List.set_cons_succ]
  refine' Reg.G.take (i := 3) (v := _) (F := (fun w => Fr (fun _ => False) w0 w)) rfl (by rfl) (by kernel_rfl) (by kernel_rfl) (by kernel_rfl) (fun _ _ _ h => h) (HFD.out) ?hyk612 ?rehyk612
  case hyk612 => intro w hw; have kc : w.cell? ⟨B + 8, 4, none⟩ = some (.map (some (B + 4))) := (cell_of_blk (hw.blk HE0.out.blk (fun h => h)) 4).trans rfl; clear hw; first | (go_simp; done) | (go_simp; with_reducible rfl)
  simp only [Act.put, List.setIfInBounds_toArray, List.set_cons_zero, List.set_cons_succ]
  refine' Reg.G.pure (i := 4) (v := _) rfl (by rfl) (by kernel_rfl) (by kernel_rfl) (by kernel_rfl) (fun _ _ _ h => h) ?hyk613 ?rehyk613
  case hyk613 => exact fun w => by first | (go_simp; done) | (go_simp; with_reducible rfl)
  simp only [Act.put, List.setIfInBounds_toArray, List.set_cons_zero, List.set_cons_succ]
  refine' Reg.G.take (i := 5) (v := _) (F := (fun w => Fr (fun _ => False) w0 w)) rfl (by rfl) (by kernel_rfl) (by kernel_rfl) (by kernel_rfl) (fun _ _ _ h => h) (HFD.out) ?hyk614 ?rehyk614
  case hyk614 => intro w hw; have kc := HKI.out w (hw.blk HB0.out (fun h => h)); clear hw; first | (go_simp; done) | (go_simp; with_reducible rfl)
  simp only [Act.put, List.setIfInBounds_toArray, List.set_cons_zero, List.set_cons_succ]
  refine' Reg.G.take (i := 6) (v := _) (F := (fun w => Fr (fun _ => False) w0 w)) rfl (by rfl) (by kernel_rfl) (by kernel_rfl) (by kernel_rfl) (fun _ _ _ h => h) (HFD.out) ?hyk615 ?rehyk615
  case hyk615 => intro w hw; have kc := (look_seen (hw.blk HE0.out.seen (fun h => h))).2.1; clear hw; first | (go_simp; done) | (go_simp; with_reducible rfl)
  simp only [Act.put, List.setIfInBounds_toArray, List.set_cons_zero, List.set_cons_succ]
  refine' Reg.G.pure (i := 7) (v := _) rfl (by rfl) (by kernel_rfl) (by kernel_rfl) (by kernel_rfl) (fun _ _ _ h => h) ?hyk616 ?rehyk616
  case hyk616 => exact fun w => by first | (go_simp; done) | (go_simp; with_reducible rfl)
  simp only [Act.put, List.setIfInBounds_toArray, List.set_cons_zero, List.set_cons_succ]
  refine Reg.G.done (by kernel_rfl) ?_
  obtain ⟨w1, hw1⟩ : ∃ w, w0.drew = w := ⟨_, rfl⟩
  rw [hw1]
  have HF1 : Hid (Fr (fun _ => False) w0 w1) := by rw [← hw1]; exact HFD.out
  clear hw1 HFD
  have HE1 : Hid (ExL B l op sn cnt iv w1) := HE0.out.fr HF1.out (fun _ _ _ h => h)
  have HB1 : Hid (w1.heap[W.heap.size]? = some (.cells y.cells.toArray 41 (0, 0))) := HF1.out.blk HB0.out (fun h => h)
  have kn := HKN.out w1 HB1.out
  obtain ⟨b, hb⟩ : ∃ b, (fst sn 6 y.h.name).isSome = b := ⟨_, rfl⟩
  have HBB : Hid ((fst sn y.h.kind y.h.name).isSome = b) := by show _ = _; rw [HK.out, hb]
  have hl : (Instr.lookup 70 (.map (some (B + 6))) (.string ⟨y.h.name.toArray⟩) false).run Try.prog w1 = .ok (.bool b) w1 := by
    have hget := HE1.out.e6.get (P := Try.prog) Try.underlying70 Try.underlying9 y.h.name (zero_bool w1)
    have h1 : (snF 6 sn y.h.name).getD (.bool false) = .bool b := by unfold snF; rw [hb]; cases b <;> rfl
    rw [h1] at hget; exact hget
  obtain ⟨ob, hrun, hmf⟩ := HE1.out.e6.set (P := Try.prog) Try.underlying70 Try.underlying9 y.h.name (.bool true)
  have hrun : (Instr.mapUpdate 70 (.map (some (B + 6))) (.string ⟨y.h.name.toArray⟩) (.bool true)).run Try.prog w1 = .ok () (setBlock w1 (B + 6) ob) := hrun
  obtain ⟨w2, HW2⟩ : ∃ w, Hid (setBlock w1 (B + 6) ob = w) := ⟨_, rfl⟩
  have HF2 : Hid (Fr (fun g => g = B + 6) w1 w2) := by
    obtain ⟨o2, ho2⟩ := HE1.out.e6.blk
    rw [← HW2.out]; exact fr_set ho2
  have HE2 : Hid (ExL B l op (sn ++ [y]) cnt iv w2) := by
    have h := HE1.out; have hf := HF2.out
    rw [HW2.out] at hmf
    rw [← snF_same HK.out] at hmf
    exact ⟨hf.blk h.blk (by omega), h.tm.fr hf (by omega), h.sp.fr hf (by omega), h.su.fr hf (by omega), h.inc.fr hf (by omega), hf.blk h.seen (by omega), by rw [snF_other (by rw [HK.out]; decide)]; exact h.e13.fr hf (by omega), hmf, by rw [snF_other (by rw [HK.out]; decide)]; exact h.e7.fr hf (by omega)⟩
  have HB2 : Hid (w2.heap[W.heap.size]? = some (.cells y.cells.toArray 41 (0, 0))) := HF2.out.blk HB1.out (fun e => by have := HGB.out; omega)
  have HFW : Hid (Fr (fun g => B + 5 ≤ g ∧ g ≤ B + 7) W w2) := ((HF0.out.trans HF1.out).mono (T := fun g => B + 5 ≤ g ∧ g ≤ B + 7) (fun _ _ h => h.elim)).trans (HF2.out.mono (fun g _ e => by omega))
  rw [HW2.out] at hrun
  clear hmf HW2 hb
  go_upto_region 4 with fail
  clear hrun hl kn
  have ki := HKI.out w2 HB2.out
  have kl := HKL.out w2 HB2.out
  cases b with
  | true =>
    go_wp2_with fail
    go_ret
    exact ⟨by rw [HBB.out]; rfl, HE2.out, HFW.out⟩
  | false =>
    go_wp2_with fail
    go_ret
    exact ⟨by rw [HBB.out, HK.out]; rfl, HE2.out, HFW.out⟩
set_option maxRecDepth 100000 in
set_option maxHeartbeats 8000000 in
theorem declare_7 {B : Nat} {l : List DT} {op : List Rs.Bytes} {sn : List DT} {cnt : Int} {iv : Value} (y : DT) (W : World) (hE : ExL B l op sn cnt iv W) (hy : Lay (fun g => g < B) W y) (hk : y.h.kind = 7) :
    Calls Try.prog 31 #[.pointer (some ⟨B + 8, 0, none⟩), .agg y.cells.toArray] W (DeclR B l op sn cnt iv y W) := by
  obtain ⟨w0, HW0⟩ : ∃ w0, Hid (W.alloc (.cells y.cells.toArray 41) = w0) := ⟨_, rfl⟩
  have HF0 : Hid (Fr (fun _ => False) W w0) := by rw [← HW0.out]; exact (Fr.refl _ W).alloc _
  have HB0 : Hid (w0.heap[W.heap.size]? = some (.cells y.cells.toArray 41 (0, 0))) := by rw [← HW0.out]; exact blk_newn rfl
  have HE0 : Hid (ExL B l op sn cnt iv w0) := hE.fr HF0.out (fun _ _ _ h => h)
  have HGB : Hid (B + 8 < W.heap.size) := lt_of_blk hE.blk
  have HLY : Hid (Lay (fun g => g < B) w0 y) := hy.fr HF0.out (fun _ _ h => h)
  obtain ⟨An, cn, hyn, _, _⟩ := HLY.out.names.slice
  rw [List.length_map] at hyn
  have HYN := Lib.hid hyn
  have HK := Lib.hid hk
  clear hE hy hyn hk
  have hKI : ∀ w : World, w.heap[W.heap.size]? = some (.cells y.cells.toArray 41 (0, 0)) → w.cell? ⟨W.heap.size, 0, none⟩ = some (.int .i64 7) := fun w h => by rw [cell_of_blk h, DT.cells_eq, ← HK.out]; rfl
  have hKN : ∀ w : World, w.heap[W.heap.size]? = some (.cells y.cells.toArray 41 (0, 0)) → w.cell? ⟨W.heap.size, 1, none⟩ = some (.string ⟨y.h.name.toArray⟩) := fun w h => by rw [cell_of_blk h, DT.cells_eq]; rfl
  have hKL : ∀ w : World, w.heap[W.heap.size]? = some (.cells y.cells.toArray 41 (0, 0)) → w.cell? ⟨W.heap.size, 31, none⟩ = some (.slice An y.h.names.length cn) := fun w h => by rw [cell_of_blk h, DT.cells_eq, HYN.out]; rfl
  have HKI := Lib.hid hKI; have HKN := Lib.hid hKN; have HKL := Lib.hid hKL
  clear hKI hKN hKL
  go_enter Try.func31, Try.ntmps31
  go_upto_region 1 with fail
  rw [HW0.out]
  clear HW0
  have HFD : Hid (Fr (fun _ => False) w0 w0.drew) := (Fr.refl _ w0).drew
  refine Reg.G.start (by kernel_rfl) ?_
  refine' Reg.G.pure (i := 0) (v := _) rfl (by rfl) (by kernel_rfl) (by kernel_rfl) (by kernel_rfl) (fun _ _ _ h => h) ?hyk717 ?rehyk717
  case hyk717 => exact fun w => by first | (go_simp; done) | (go_simp; with_reducible rfl)
  simp only [Act.put, List.setIfInBounds_toArray, List.set_cons_zero, List.set_cons_succ]
  refine' Reg.G.pure (i := 1) (v := _) rfl (by rfl) (by kernel_rfl) (by kernel_rfl) (by kernel_rfl) (fun _ _ _ h => h) ?hyk718 ?rehyk718
  case hyk718 => exact fun w => by first | (go_simp; done) | (go_simp; with_reducible rfl)
  simp only [Act.put, List.setIfInBounds_toArray, List.set_cons_zero, List.set_cons_succ]
  refine' Reg.G.pure (i := 2) (v := _) rfl (by rfl) (by kernel_rfl) (by kernel_rfl) (by kernel_rfl) (fun _ _ _ h => h) ?hyk719 ?rehyk719
  case hyk719 => exact fun w => by first | (go_simp; done) | (go_simp; with_reducible rfl)
  simp only [Act.put, List.setIfInBounds_toArray, List.set_cons_zero, List.set_cons_succ]
  refine' Reg.G.take (i := 3) (v := _) (F := (fun w => Fr (fun _ => False) w0 w)) rfl (by rfl) (by kernel_rfl) (by kernel_rfl) (by kernel_rfl) (fun _ _ _ h => h) (HFD.out) ?hyk720 ?rehyk720
  case hyk720 => intro w hw; have kc : w.cell? ⟨B + 8, 4, none⟩ = some (.map (some (B + 4))) := (cell_of_blk (hw.blk HE0.out.blk (fun h => h)) 4).trans rfl; clear hw; first | (go_simp; done) | (go_simp; with_reducible rfl)
  simp only [Act.put, List.setIfInBounds_toArray, List.set_cons_zero, List.set_cons_succ]
  refine' Reg.G.pure (i := 4) (v := _) rfl (by rfl) (by kernel_rfl) (by kernel_rfl) (by kernel_rfl) (fun _ _ _ h => h) ?hyk721 ?rehyk721
  case hyk721 => exact fun w => by first | (go_simp; done) | (go_simp; with_reducible rfl)
  simp only [Act.put, List.setIfInBounds_toArray, List.set_cons_zero, List.set_cons_succ]
  refine' Reg.G.take (i := 5) (v := _) (F := (fun w => Fr (fun _ => False) w0 w)) rfl (by rfl) (by kernel_rfl) (by kernel_rfl) (by kernel_rfl) (fun _ _ _ h => h) (HFD.out) ?hyk722 ?rehyk722
  case hyk722 => intro w hw; have kc := HKI.out w (hw.blk HB0.out (fun h => h)); clear hw; first | (go_simp; done) | (go_simp; with_reducible rfl)
  simp only [Act.put, List.setIfInBounds_toArray, List.set_cons_zero, List.set_cons_succ]
  refine' Reg.G.take (i := 6) (v := _) (F := (fun w => Fr (fun _ => False) w0 w)) rfl (by rfl) (by kernel_rfl) (by kernel_rfl) (by kernel_rfl) (fun _ _ _ h => h) (HFD.out) ?hyk723 ?rehyk723
  case hyk723 => intro w hw; have kc := (look_seen (hw.blk HE0.out.seen (fun h => h))).2.2; clear hw; first | (go_simp; done) | (go_simp; with_reducible rfl)
  simp only [Act.put, List.setIfInBounds_toArray, List.set_cons_zero, List.set_cons_succ]
  refine' Reg.G.pure (i := 7) (v := _) rfl (by rfl) (by kernel_rfl) (by kernel_rfl) (by kernel_rfl) (fun _ _ _ h => h) ?hyk724 ?rehyk724
  case hyk724 => exact fun w => by first | (go_simp; done) | (go_simp; with_reducible rfl)
  simp only [Act.put, List.setIfInBounds_toArray, List.set_cons_zero, List.set_cons_succ]
  refine Reg.G.done (by kernel_rfl) ?_
  obtain ⟨w1, hw1⟩ : ∃ w, w0.drew = w := ⟨_, rfl⟩
  rw [hw1]
  have HF1 : Hid (Fr (fun _ => False) w0 w1) := by rw [← hw1]; exact HFD.out
  clear hw1 HFD
  have HE1 : Hid (ExL B l op sn cnt iv w1) := HE0.out.fr HF1.out (fun _ _ _ h => h)
  have HB1 : Hid (w1.heap[W.heap.size]? = some (.cells y.cells.toArray 41 (0, 0))) := HF1.out.blk HB0.out (fun h => h)
  have kn := HKN.out w1 HB1.out
  obtain ⟨b, hb⟩ : ∃ b, (fst sn 7 y.h.name).isSome = b := ⟨_, rfl⟩
  have HBB : Hid ((fst sn y.h.kind y.h.name).isSome = b) := by show _ = _; rw [HK.out, hb]
  have hl : (Instr.lookup 70 (.map (some (B + 7))) (.string ⟨y.h.name.toArray⟩) false).run Try.prog w1 = .ok (.bool b) w1 := by
    have hget := HE1.out.e7.get (P := Try.prog) Try.underlying70 Try.underlying9 y.h.name (zero_bool w1)
    have h1 : (snF 7 sn y.h.name).getD (.bool false) = .bool b := by unfold snF; rw [hb]; cases b <;> rfl
    rw [h1] at hget; exact hget
  obtain ⟨ob, hrun, hmf⟩ := HE1.out.e7.set (P := Try.prog) Try.underlying70 Try.underlying9 y.h.name (.bool true)
  have hrun : (Instr.mapUpdate 70 (.map (some (B + 7))) (.string ⟨y.h.name.toArray⟩) (.bool true)).run Try.prog w1 = .ok () (setBlock w1 (B + 7) ob) := hrun
  obtain ⟨w2, HW2⟩ : ∃ w, Hid (setBlock w1 (B + 7) ob = w) := ⟨_, rfl⟩
  have HF2 : Hid (Fr (fun g => g = B + 7) w1 w2) := by
    obtain ⟨o2, ho2⟩ := HE1.out.e7.blk
    rw [← HW2.out]; exact fr_set ho2
  have HE2 : Hid (ExL B l op (sn ++ [y]) cnt iv w2) := by
    have h := HE1.out; have hf := HF2.out
    rw [HW2.out] at hmf
    rw [← snF_same HK.out] at hmf
    exact ⟨hf.blk h.blk (by omega), h.tm.fr hf (by omega), h.sp.fr hf (by omega), h.su.fr hf (by omega), h.inc.fr hf (by omega), hf.blk h.seen (by omega), by rw [snF_other (by rw [HK.out]; decide)]; exact h.e13.fr hf (by omega), by rw [snF_other (by rw [HK.out]; decide)]; exact h.e6.fr hf (by omega), hmf⟩
  have HB2 : Hid (w2.heap[W.heap.size]? = some (.cells y.cells.toArray 41 (0, 0))) := HF2.out.blk HB1.out (fun e => by have := HGB.out; omega)
  have HFW : Hid (Fr (fun g => B + 5 ≤ g ∧ g ≤ B + 7) W w2) := ((HF0.out.trans HF1.out).mono (T := fun g => B + 5 ≤ g ∧ g ≤ B + 7) (fun _ _ h => h.elim)).trans (HF2.out.mono (fun g _ e => by omega))
  rw [HW2.out] at hrun
  clear hmf HW2 hb
  go_upto_region 4 with fail
  clear hrun hl kn
  have ki := HKI.out w2 HB2.out
  have kl := HKL.out w2 HB2.out
  cases b with
  | true =>
    go_wp2_with fail
    go_ret
    exact ⟨by rw [HBB.out]; rfl, HE2.out, HFW.out⟩
  | false =>
    go_wp2_with fail
    go_ret
    exact ⟨by rw [HBB.out, HK.out]; rfl, HE2.out, HFW.out⟩
end Go.Proofs.Yticakdajhmfpoaa.Ic
