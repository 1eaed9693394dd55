/-
  Include: the number of what was expanded; a clause's definitions.
-/
import Derived.Test.YticakdajhmfpoaaIncNew
namespace Go.Proofs.Yticakdajhmfpoaa.Ic
open Go.RowKit Mem Vw Rs
open Go.ChangeMaps (setBlock)
set_option linter.unusedVariables false
set_option linter.unusedSimpArgs false

/-- An expander of a source's items. -/
abbrev ExL (B : Nat) (l : List DT) := Ex B (tmF l) (spF l) (suF l)
theorem Ex.count {B : Nat} {tm sp su : Rs.Bytes → Option Value} {op : List Rs.Bytes} {sn : List DT} {cnt : Int} {iv : Value} {w : World} (h : Ex B tm sp su op sn cnt iv w) (c : Int) : Ex B tm sp su op sn c iv (w.setCell ⟨B + 8, 5, none⟩ (.int .i64 c)) := by
  have hf : Fr (fun g => g = B + 8) w (w.setCell ⟨B + 8, 5, none⟩ (.int .i64 c)) := (Fr.refl (fun g => g = B + 8) w).setb 5 _
  exact ⟨blk_set h.blk 5 _, h.tm.fr hf (by omega), h.sp.fr hf (by omega), h.su.fr hf (by omega), h.inc.fr hf (by omega), hf.blk h.seen (by omega), h.e13.fr hf (by omega), h.e6.fr hf (by omega), h.e7.fr hf (by omega)⟩
theorem Ex.items {B : Nat} {tm sp su : Rs.Bytes → Option Value} {op : List Rs.Bytes} {sn : List DT} {cnt : Int} {iv : Value} {w : World} (h : Ex B tm sp su op sn cnt iv w) (v : Value) : Ex B tm sp su op sn cnt v (w.setCell ⟨B + 8, 6, none⟩ v) := by
  have hf : Fr (fun g => g = B + 8) w (w.setCell ⟨B + 8, 6, none⟩ v) := (Fr.refl (fun g => g = B + 8) w).setb 6 _
  exact ⟨blk_set h.blk 6 _, h.tm.fr hf (by omega), h.sp.fr hf (by omega), h.su.fr hf (by omega), h.inc.fr hf (by omega), hf.blk h.seen (by omega), h.e13.fr hf (by omega), h.e6.fr hf (by omega), h.e7.fr hf (by omega)⟩
set_option maxRecDepth 100000 in
theorem counts_any {B : Nat} {tm sp su : Rs.Bytes → Option Value} {op : List Rs.Bytes} {sn : List DT} {cnt : Int} {iv : Value} (W : World) (h : Ex B tm sp su op sn cnt iv W) (h0 : 0 ≤ cnt) (h1 : cnt ≤ 1000000) :
    Calls Try.prog 36 #[.pointer (some ⟨B + 8, 0, none⟩)] W fun e w' => e = .returned (.bool (decide (cnt + 1 ≤ 600))) ∧ w' = W.setCell ⟨B + 8, 5, none⟩ (.int .i64 (cnt + 1)) := by
  have k5 : W.cell? ⟨B + 8, 5, none⟩ = some (.int .i64 cnt) := (cell_of_blk h.blk 5).trans rfl
  have f5 : W.frozen? ⟨B + 8, 5, none⟩ = false := froz_of_blk h.blk 5
  have hb := blk_set h.blk 5 (.int .i64 (cnt + 1))
  obtain ⟨w1, hw1⟩ : ∃ w, W.setCell ⟨B + 8, 5, none⟩ (.int .i64 (cnt + 1)) = w := ⟨_, rfl⟩
  rw [hw1] at hb
  have k5' : w1.cell? ⟨B + 8, 5, none⟩ = some (.int .i64 (cnt + 1)) := (cell_of_blk hb 5).trans rfl
  have HW1 := Lib.hid hw1
  rw [hw1]
  clear hb h hw1
  by_cases hle : cnt + 1 ≤ 600
  · have hd : decide (cnt + 1 ≤ 600) = true := by simp [hle]
    rw [hd]
    go_enter Try.func36, Try.ntmps36
    go_upto_region 2 with fail
    rw [HW1.out]
    go_wp2_with fail
    go_ret
    exact ⟨rfl, rfl⟩
  · have hd : decide (cnt + 1 ≤ 600) = false := by simp; omega
    have hle' : 600 < cnt + 1 := by omega
    rw [hd]
    go_enter Try.func36, Try.ntmps36
    go_upto_region 2 with fail
    rw [HW1.out]
    go_wp2_with fail
    go_ret
    exact ⟨rfl, rfl⟩
/-- What is left of a clause's definition behind k of its two spans. -/
def rest (E : Env) (k : Nat) (h : Rs.Item) : Option Rs.Item := if k = 0 then define E h else if k = 1 then (match defSpan E h.grace with | none => none | some g => defSum E { h with grace := g }) else defSum E h
theorem rest0_no {E : Env} {h : Rs.Item} (hn : h.within.name ≠ []) (hs : E.span h.within.name = none) : rest E 0 h = none := by
  show define E h = none
  unfold define defSpan
  rw [if_neg hn, hs]; rfl
theorem rest0_yes {E : Env} {h : Rs.Item} (hn : h.within.name ≠ []) {s : Span} (hs : E.span h.within.name = some s) : rest E 0 h = rest E 1 { h with within := ⟨s.days, s.bus, []⟩ } := by
  show define E h = _
  unfold define
  rw [show defSpan E h.within = some ⟨s.days, s.bus, []⟩ by unfold defSpan; rw [if_neg hn, hs]; rfl]
  rfl
theorem rest0_skip {E : Env} {h : Rs.Item} (hn : h.within.name = []) : rest E 0 h = rest E 1 h := by
  show define E h = _
  unfold define
  rw [show defSpan E h.within = some h.within by unfold defSpan; rw [if_pos hn]]
  rfl
theorem rest1_no {E : Env} {h : Rs.Item} (hn : h.grace.name ≠ []) (hs : E.span h.grace.name = none) : rest E 1 h = none := by
  show (match defSpan E h.grace with | none => none | some g => defSum E { h with grace := g }) = none
  rw [show defSpan E h.grace = none by unfold defSpan; rw [if_neg hn, hs]; rfl]
theorem rest1_yes {E : Env} {h : Rs.Item} (hn : h.grace.name ≠ []) {s : Span} (hs : E.span h.grace.name = some s) : rest E 1 h = rest E 2 { h with grace := ⟨s.days, s.bus, []⟩ } := by
  show (match defSpan E h.grace with | none => none | some g => defSum E { h with grace := g }) = _
  rw [show defSpan E h.grace = some ⟨s.days, s.bus, []⟩ by unfold defSpan; rw [if_neg hn, hs]; rfl]
  rfl
theorem rest1_skip {E : Env} {h : Rs.Item} (hn : h.grace.name = []) : rest E 1 h = rest E 2 h := by
  show (match defSpan E h.grace with | none => none | some g => defSum E { h with grace := g }) = _
  rw [show defSpan E h.grace = some h.grace by unfold defSpan; rw [if_pos hn]]
  rfl
theorem rest2_no {E : Env} {h : Rs.Item} (hn : h.sum ≠ []) (hs : E.sum h.sum = none) : rest E 2 h = none := by
  show defSum E h = none
  unfold defSum
  rw [if_neg hn, hs]; rfl
theorem rest2_yes {E : Env} {h : Rs.Item} (hn : h.sum ≠ []) {s : Rs.Item} (hs : E.sum h.sum = some s) : rest E 2 h = some { h with num := s.num, unit := s.unit, sum := [] } := by
  show defSum E h = _
  unfold defSum
  rw [if_neg hn, hs]; rfl
theorem rest2_skip {E : Env} {h : Rs.Item} (hn : h.sum = []) : rest E 2 h = some h := by
  show defSum E h = _
  unfold defSum
  rw [if_pos hn]
def envD (l : List DT) : Env := env (l.map DT.tree)
theorem env_span (l : List DT) (n : Rs.Bytes) : (envD l).span n = (fst l 6 n).map (·.h.within) := by
  show (first _ 6 n).map _ = _
  rw [fst_first]
  cases fst l 6 n with
  | none => rfl
  | some x => show some x.tree.h.within = _; rw [DT.tree_h]; rfl
theorem env_sum (l : List DT) (n : Rs.Bytes) : (envD l).sum n = (fst l 7 n).map (·.h) := by
  show (first _ 7 n).map _ = _
  rw [fst_first]
  cases fst l 7 n with
  | none => rfl
  | some x => show some x.tree.h = _; rw [DT.tree_h]; rfl
/-- What define's loop holds. -/
structure DR (l : List DT) (h0 : Rs.Item) (c d n i : Value) (gc gs : Nat) (W : World) (k : Nat) (h : Rs.Item) (wr : World) : Prop where
  blk : wr.heap[gc]? = some (.cells (icells h c d n i).toArray 41 (0, 0))
  sl : wr.heap[gs]? = some (.cells #[.pointer (some ⟨gc, 7, none⟩), .pointer (some ⟨gc, 10, none⟩)] 96 (0, 0))
  fr : Fr (fun g => g = gc) W wr
  rest : define (envD l) h0 = rest (envD l) k h
theorem zero_span (w : World) : (zeroValue 33).run Try.prog w = .ok (.agg #[.int .i64 0, .bool false, .string ⟨#[]⟩]) w := by kernel_rfl
theorem zero_item (w : World) : (zeroValue 41).run Try.prog w = .ok (.agg #[.int .i64 0, .string ⟨#[]⟩, .int .i64 0, .string ⟨#[]⟩, .string ⟨#[]⟩, .int .i64 0, .int .i64 0, .int .i64 0, .bool false, .string ⟨#[]⟩, .int .i64 0, .bool false, .string ⟨#[]⟩, .slice none 0 0, .string ⟨#[]⟩, .string ⟨#[]⟩, .int .i64 0, .int .i64 0, .string ⟨#[]⟩, .string ⟨#[]⟩, .bool false, .string ⟨#[]⟩, .string ⟨#[]⟩, .bool false, .bool false, .bool false, .bool false, .bool false, .bool false, .bool false, .slice none 0 0, .slice none 0 0, .slice none 0 0]) w := by kernel_rfl
theorem look_span {l : List DT} {w : World} {r : Nat} (h : Mp.MapF w r (spF l)) (x : Rs.Bytes) :
    (Instr.lookup 69 (.map (some r)) (.string ⟨x.toArray⟩) true).run Try.prog w = .ok (match (envD l).span x with | none => .tuple #[.agg #[.int .i64 0, .bool false, .string ⟨#[]⟩], .bool false] | some s => .tuple #[.agg #[.int .i64 s.days, .bool s.bus, .string ⟨s.name.toArray⟩], .bool true]) w := by
  have := h.ok Try.underlying69 Try.underlying9 x (zero_span w)
  rw [env_span]
  unfold spF at this
  cases hf : fst l 6 x with
  | none => rw [hf] at this; exact this
  | some s => rw [hf] at this; exact this
theorem look_sum {l : List DT} {w : World} {r : Nat} (h : Mp.MapF w r (suF l)) (x : Rs.Bytes) :
    (Instr.lookup 68 (.map (some r)) (.string ⟨x.toArray⟩) true).run Try.prog w = .ok (match fst l 7 x with | none => .tuple #[.agg #[.int .i64 0, .string ⟨#[]⟩, .int .i64 0, .string ⟨#[]⟩, .string ⟨#[]⟩, .int .i64 0, .int .i64 0, .int .i64 0, .bool false, .string ⟨#[]⟩, .int .i64 0, .bool false, .string ⟨#[]⟩, .slice none 0 0, .string ⟨#[]⟩, .string ⟨#[]⟩, .int .i64 0, .int .i64 0, .string ⟨#[]⟩, .string ⟨#[]⟩, .bool false, .string ⟨#[]⟩, .string ⟨#[]⟩, .bool false, .bool false, .bool false, .bool false, .bool false, .bool false, .bool false, .slice none 0 0, .slice none 0 0, .slice none 0 0], .bool false] | some s => .tuple #[.agg s.cells.toArray, .bool true]) w := by
  have := h.ok Try.underlying68 Try.underlying9 x (zero_item w)
  unfold suF at this
  cases hf : fst l 7 x with
  | none => rw [hf] at this; exact this
  | some s => rw [hf] at this; exact this
theorem ptrs_build (gc : Nat) (w : World) : (Instr.buildSlice 97 2 #[(0, .pointer (some ⟨gc, 7, none⟩)), (1, .pointer (some ⟨gc, 10, none⟩))]).run Try.prog w = .ok (.slice (some ⟨w.heap.size, 0, none⟩) 2 2) (w.alloc (.cells #[.pointer (some ⟨gc, 7, none⟩), .pointer (some ⟨gc, 10, none⟩)] 96)) := by kernel_rfl
theorem wp_bsl {o : Oper} {a : Act} {w : World} {K : Act → World → Prop} {Q : Exit → Act → World → Prop} (t : TypeId) (n : Nat) (parts : Array (Nat × Operand)) (hop : o.op = .buildSlice t n parts) (ps : Array (Nat × Value))
    (hp : parts.map (fun (i, x) => (i, a.eval x)) = ps) (v : Value) (w' : World) (hb : (Instr.buildSlice t n ps).run Try.prog w = .ok v w') (h : K (a.put o.dst v) w') : o.wp Try.prog a w K Q := by
  unfold Oper.wp
  simp [execOp, hop, hp, hb, Result.andThen]
  exact h
/-- What define returns. -/
def Defd (l : List DT) (h : Rs.Item) (c d n i : Value) (gc : Nat) (W : World) (e : Ending) (w' : World) : Prop :=
  e = .returned (.bool (define (envD l) h).isSome) ∧ Fr (fun g => g = gc) W w' ∧ ∀ h', define (envD l) h = some h' → w'.heap[gc]? = some (.cells (icells h' c d n i).toArray 41 (0, 0))
set_option maxRecDepth 100000 in
set_option maxHeartbeats 8000000 in
theorem define_any {B : Nat} {l : List DT} {op : List Rs.Bytes} {sn : List DT} {cnt : Int} {iv : Value} (h : Rs.Item) (c d n i : Value) (gc : Nat) (W : World) (hE : ExL B l op sn cnt iv W) (hb : W.heap[gc]? = some (.cells (icells h c d n i).toArray 41 (0, 0))) (hg : B + 8 < gc) (ho : ∀ x ∈ l, x.cells.toArray.all (·.oneCell') = true) :
    Calls Try.prog 41 #[.pointer (some ⟨B + 8, 0, none⟩), .pointer (some ⟨gc, 0, none⟩)] W (Defd l h c d n i gc W) := by
  have HE := Lib.hid hE; have HB := Lib.hid hb; have HG := Lib.hid hg; have HO := Lib.hid ho
  clear hE hb hg ho
  go_enter Try.func41, Try.ntmps41
  go_upto_region 1 with fail
  have HFD : Hid (Fr (fun _ => False) W W.drew) := (Fr.refl _ W).drew
  refine Reg.G.start (by kernel_rfl) ?_
  refine' Reg.G.pure (i := 0) (v := _) rfl (by rfl) (by kernel_rfl) (by kernel_rfl) (by kernel_rfl) (fun _ _ _ h => h) ?hyd1 ?rehyd1
  case hyd1 => exact fun w => by first | (go_simp; done) | (go_simp; with_reducible rfl)
  simp only [Act.put, List.setIfInBounds_toArray, List.set_cons_zero, List.set_cons_succ]
  refine' Reg.G.pure (i := 1) (v := _) rfl (by rfl) (by kernel_rfl) (by kernel_rfl) (by kernel_rfl) (fun _ _ _ h => h) ?hyd2 ?rehyd2
  case hyd2 => exact fun w => by first | (go_simp; done) | (go_simp; with_reducible rfl)
  simp only [Act.put, List.setIfInBounds_toArray, List.set_cons_zero, List.set_cons_succ]
  refine' Reg.G.pure (i := 2) (v := _) rfl (by rfl) (by kernel_rfl) (by kernel_rfl) (by kernel_rfl) (fun _ _ _ h => h) ?hyd3 ?rehyd3
  case hyd3 => exact fun w => by first | (go_simp; done) | (go_simp; with_reducible rfl)
  simp only [Act.put, List.setIfInBounds_toArray, List.set_cons_zero, List.set_cons_succ]
  refine' Reg.G.pure (i := 3) (v := _) rfl (by rfl) (by kernel_rfl) (by kernel_rfl) (by kernel_rfl) (fun _ _ _ h => h) ?hyd4 ?rehyd4
  case hyd4 => exact fun w => by first | (go_simp; done) | (go_simp; with_reducible rfl)
  simp only [Act.put, List.setIfInBounds_toArray, List.set_cons_zero, List.set_cons_succ]
  refine' Reg.G.pure (i := 4) (v := _) rfl (by rfl) (by kernel_rfl) (by kernel_rfl) (by kernel_rfl) (fun _ _ _ h => h) ?hyd5 ?rehyd5
  case hyd5 => exact fun w => by first | (go_simp; done) | (go_simp; with_reducible rfl)
  simp only [Act.put, List.setIfInBounds_toArray, List.set_cons_zero, List.set_cons_succ]
  refine' Reg.G.pure (i := 5) (v := _) rfl (by rfl) (by kernel_rfl) (by kernel_rfl) (by kernel_rfl) (fun _ _ _ h => h) ?hyd6 ?rehyd6
  case hyd6 => exact fun w => by first | (go_simp; done) | (go_simp; with_reducible rfl)
  simp only [Act.put, List.setIfInBounds_toArray, List.set_cons_zero, List.set_cons_succ]
  refine' Reg.G.pure (i := 8) (v := _) rfl (by rfl) (by kernel_rfl) (by kernel_rfl) (by kernel_rfl) (fun _ _ _ h => h) ?hyd7 ?rehyd7
  case hyd7 => exact fun w => by first | (go_simp; done) | (go_simp; with_reducible rfl)
  simp only [Act.put, List.setIfInBounds_toArray, List.set_cons_zero, List.set_cons_succ]
  refine Reg.G.step (j := 6) (m := []) [] rfl (by kernel_rfl) rfl (by kernel_rfl) (fun K hK => ?_)
  refine wp_bsl 97 2 _ rfl #[(0, .pointer (some ⟨gc, 7, none⟩)), (1, .pointer (some ⟨gc, 10, none⟩))] (by go_simp) _ _ (ptrs_build gc _) ?_
  obtain ⟨w1, hw1⟩ : ∃ w, (W.drew).alloc (.cells #[.pointer (some ⟨gc, 7, none⟩), .pointer (some ⟨gc, 10, none⟩)] 96) = w := ⟨_, rfl⟩
  rw [hw1]
  have HSL : Hid (w1.heap[W.heap.size]? = some (.cells #[.pointer (some ⟨gc, 7, none⟩), .pointer (some ⟨gc, 10, none⟩)] 96 (0, 0))) := by rw [← hw1]; exact blk_newn rfl
  have HF1 : Hid (Fr (fun _ => False) W w1) := by rw [← hw1]; exact HFD.out.alloc _
  clear hw1
  refine hK.out _ _ trivial ?_
  clear hK K
  simp only [Act.put, List.setIfInBounds_toArray, List.set_cons_zero, List.set_cons_succ, Reg.Kept]
  refine' Reg.G.pure (i := 7) (v := _) rfl (by rfl) (by kernel_rfl) (by kernel_rfl) (by kernel_rfl) (fun _ _ _ h => h) ?hyd8 ?rehyd8
  case hyd8 => exact fun w => by first | (go_simp; done) | (go_simp; with_reducible rfl)
  simp only [Act.put, List.setIfInBounds_toArray, List.set_cons_zero, List.set_cons_succ]
  refine Reg.G.done (by kernel_rfl) ?_
  have HD0 : Hid (DR l h c d n i gc W.heap.size W 0 h w1) := ⟨HF1.out.blk HB.out (fun h => h), HSL.out, HF1.out.mono (fun _ _ h => h.elim), rfl⟩
  have HGS : Hid (gc < W.heap.size) := lt_of_blk HB.out
  clear HSL HF1 HFD
  go_wp2_with fail
  go_loopw [19] (fun iv wr => ∃ (k : Nat) (hk : Rs.Item), iv = .int .i64 k ∧ k ≤ 2 ∧ Hid (DR l h c d n i gc W.heap.size W k hk wr)) (fun i _ => 2 - (intOf i).toNat)
  case atStart => exact ⟨0, h, rfl, by omega, HD0⟩
  case round =>
    clear HD0
    obtain ⟨k, hk, rfl, hk2, HD⟩ := hrel
    have HEr : Hid (ExL B l op sn cnt iv wr) := HE.out.fr HD.out.fr (fun g h1 h2 e => by have := HG.out; omega)
    have hks : k = 0 ∨ k = 1 ∨ k = 2 := by omega
    rcases hks with rfl | rfl | rfl
    · have hs0 : wr.cell? ⟨W.heap.size, 0, none⟩ = some (.pointer (some ⟨gc, 7, none⟩)) := (cell_of_blk HD.out.sl 0).trans rfl
      have kn : wr.cell? ⟨gc, 9, none⟩ = some (.string ⟨hk.within.name.toArray⟩) := (cell_of_blk HD.out.blk 9).trans rfl
      by_cases hs : hk.within.name = []
      · have HDN : Hid (DR l h c d n i gc W.heap.size W (0 + 1) hk wr) := ⟨HD.out.blk, HD.out.sl, HD.out.fr, HD.out.rest.trans (rest0_skip hs)⟩
        rw [hs] at kn
        replace kn : wr.cell? ⟨gc, 9, none⟩ = some (.string ⟨#[]⟩) := kn
        clear hs HD
        go_wp2_with fail
        go_roundw
        case rel => exact ⟨0 + 1, hk, by go_num, by omega, HDN⟩
        case measure => first | (simp [intOf]; done) | (simp [intOf]; omega)
      · have kb : (hk.within.name == []) = false := by simpa using hs
        have HS := Lib.hid hs
        clear hs
        have hl : Hid (∀ w, Fr (fun _ => False) wr w → _) := Lib.hid fun w (hf : Fr (fun _ => False) wr w) => look_span (HEr.out.fr hf (fun _ _ _ h => h)).sp hk.within.name
        go_upto_region 5 with fail
        clear kn hs0 kb
        cases hsp : (envD l).span hk.within.name with
        | none =>
          have HR : Hid (define (envD l) h = none) := HD.out.rest.trans (rest0_no HS.out hsp)
          rw [hsp] at hl
          refine Reg.G.start (by kernel_rfl) ?_
          obtain ⟨wD, hD⟩ : ∃ w, wr.drew = w := ⟨_, rfl⟩
          have HFD : Hid (Fr (fun _ => False) wr wD) := by rw [← hD]; exact (Fr.refl _ wr).drew
          have HSD0 : Hid (wD.heap.size = wr.heap.size) := by show _ = _; rw [← hD]; rfl
          rw [hD]
          clear hD
          refine' Reg.G.pure (i := 0) (v := _) rfl (by rfl) (by kernel_rfl) (by kernel_rfl) (by kernel_rfl) (fun _ _ _ h => h) ?hyn048 ?rehyn048
          case hyn048 => exact fun w => by first | (go_simp; done) | (go_simp; with_reducible rfl)
          simp only [Act.put, List.setIfInBounds_toArray, List.set_cons_zero, List.set_cons_succ]
          refine' Reg.G.pure (i := 1) (v := _) rfl (by rfl) (by kernel_rfl) (by kernel_rfl) (by kernel_rfl) (fun _ _ _ h => h) ?hyn049 ?rehyn049
          case hyn049 => exact fun w => by first | (go_simp; done) | (go_simp; with_reducible rfl)
          simp only [Act.put, List.setIfInBounds_toArray, List.set_cons_zero, List.set_cons_succ]
          refine' Reg.G.pure (i := 2) (v := _) rfl (by rfl) (by kernel_rfl) (by kernel_rfl) (by kernel_rfl) (fun _ _ _ h => h) ?hyn050 ?rehyn050
          case hyn050 => exact fun w => by first | (go_simp; done) | (go_simp; with_reducible rfl)
          simp only [Act.put, List.setIfInBounds_toArray, List.set_cons_zero, List.set_cons_succ]
          refine' Reg.G.take (i := 3) (v := _) (F := (fun w => Fr (fun _ => False) wr w)) rfl (by rfl) (by kernel_rfl) (by kernel_rfl) (by kernel_rfl) (fun _ _ _ h => h) (HFD.out) ?hyn051 ?rehyn051
          case hyn051 => intro w hw; have kc : w.cell? ⟨B + 8, 1, none⟩ = some (.map (some (B + 1))) := (cell_of_blk (HEr.out.fr hw (fun _ _ _ h => h)).blk 1).trans rfl; clear hw; first | (go_simp; done) | (go_simp; with_reducible rfl)
          simp only [Act.put, List.setIfInBounds_toArray, List.set_cons_zero, List.set_cons_succ]
          refine' Reg.G.pure (i := 4) (v := _) rfl (by rfl) (by kernel_rfl) (by kernel_rfl) (by kernel_rfl) (fun _ _ _ h => h) ?hyn052 ?rehyn052
          case hyn052 => exact fun w => by first | (go_simp; done) | (go_simp; with_reducible rfl)
          simp only [Act.put, List.setIfInBounds_toArray, List.set_cons_zero, List.set_cons_succ]
          refine' Reg.G.pure (i := 5) (v := _) rfl (by rfl) (by kernel_rfl) (by kernel_rfl) (by kernel_rfl) (fun _ _ _ h => h) ?hyn053 ?rehyn053
          case hyn053 => exact fun w => by first | (go_simp; done) | (go_simp; with_reducible rfl)
          simp only [Act.put, List.setIfInBounds_toArray, List.set_cons_zero, List.set_cons_succ]
          refine' Reg.G.pure (i := 6) (v := _) rfl (by rfl) (by kernel_rfl) (by kernel_rfl) (by kernel_rfl) (fun _ _ _ h => h) ?hyn054 ?rehyn054
          case hyn054 => exact fun w => by first | (go_simp; done) | (go_simp; with_reducible rfl)
          simp only [Act.put, List.setIfInBounds_toArray, List.set_cons_zero, List.set_cons_succ]
          refine' Reg.G.take (i := 7) (v := _) (F := (fun w => Fr (fun _ => False) wr w)) rfl (by rfl) (by kernel_rfl) (by kernel_rfl) (by kernel_rfl) (fun _ _ _ h => h) (HFD.out) ?hyn055 ?rehyn055
          case hyn055 => intro w hw; have kc : w.cell? ⟨gc, 9, none⟩ = some (.string ⟨hk.within.name.toArray⟩) := (cell_of_blk (hw.blk HD.out.blk (fun h => h)) 9).trans rfl; clear hw; first | (go_simp; done) | (go_simp; with_reducible rfl)
          simp only [Act.put, List.setIfInBounds_toArray, List.set_cons_zero, List.set_cons_succ]
          refine' Reg.G.take (i := 8) (v := _) (F := (fun w => Fr (fun _ => False) wr w)) rfl (by rfl) (by kernel_rfl) (by kernel_rfl) (by kernel_rfl) (fun _ _ _ h => h) (HFD.out) ?hyn056 ?rehyn056
          case hyn056 => intro w hw; have kc := hl.out w hw; clear hw; first | (go_simp; done) | (go_simp; with_reducible rfl)
          simp only [Act.put, List.setIfInBounds_toArray, List.set_cons_zero, List.set_cons_succ]
          refine' Reg.G.pure (i := 9) (v := _) rfl (by rfl) (by kernel_rfl) (by kernel_rfl) (by kernel_rfl) (fun _ _ _ h => h) ?hyn057 ?rehyn057
          case hyn057 => exact fun w => by first | (go_simp; done) | (go_simp; with_reducible rfl)
          simp only [Act.put, List.setIfInBounds_toArray, List.set_cons_zero, List.set_cons_succ]
          refine' Reg.G.pure (i := 10) (v := _) rfl (by rfl) (by kernel_rfl) (by kernel_rfl) (by kernel_rfl) (fun _ _ _ h => h) ?hyn058 ?rehyn058
          case hyn058 => exact fun w => by first | (go_simp; done) | (go_simp; with_reducible rfl)
          simp only [Act.put, List.setIfInBounds_toArray, List.set_cons_zero, List.set_cons_succ]
          refine' Reg.G.pure (i := 11) (v := _) rfl (by rfl) (by kernel_rfl) (by kernel_rfl) (by kernel_rfl) (fun _ _ _ h => h) ?hyn059 ?rehyn059
          case hyn059 => exact fun w => by first | (go_simp; done) | (go_simp; with_reducible rfl)
          simp only [Act.put, List.setIfInBounds_toArray, List.set_cons_zero, List.set_cons_succ]
          refine Reg.G.step (j := 12) (m := [true, true, true]) [8, 7, 3] rfl (by kernel_rfl) rfl (by kernel_rfl) (fun K hK => ?_)
          go_simp
          obtain ⟨wb, hwb⟩ : ∃ w, (wD).alloc (.cells #[.int .i64 0, .bool false, .string ⟨#[]⟩] 33) = w := ⟨_, rfl⟩
          rw [hwb]
          have HSB : Hid (wb.heap[wD.heap.size]? = some (.cells #[.int .i64 0, .bool false, .string ⟨#[]⟩] 33 (0, 0))) := by rw [← hwb]; exact blk_newn rfl
          have HFB : Hid (Fr (fun _ => False) wr wb) := by rw [← hwb]; exact HFD.out.alloc _
          clear hwb
          refine hK.out _ _ ⟨HFB.out, HFB.out, HFB.out, trivial⟩ ?_
          clear hK K
          simp only [Act.put, List.setIfInBounds_toArray, List.set_cons_zero, List.set_cons_succ, Reg.Kept]
          refine Reg.G.step (j := 13) (m := [false, false, false]) [8, 7, 3] rfl (by kernel_rfl) rfl (by kernel_rfl) (fun K hK => ?_)
          have z0 : wb.cell? ⟨wD.heap.size, 0, none⟩ = some (.int .i64 0) := (cell_of_blk HSB.out 0).trans rfl
          have z1 : wb.cell? ⟨wD.heap.size, 1, none⟩ = some (.bool false) := (cell_of_blk HSB.out 1).trans rfl
          have z2 : wb.cell? ⟨wD.heap.size, 2, none⟩ = some (.string ⟨#[]⟩) := (cell_of_blk HSB.out 2).trans rfl
          have y0 := froz_of_blk HSB.out 0
          have y1 := froz_of_blk HSB.out 1
          have y2 := froz_of_blk HSB.out 2
          go_simp
          obtain ⟨wd, hwd⟩ : ∃ w, ((wb.setCell ⟨wD.heap.size, 0, none⟩ (.int .i64 0)).setCell ⟨wD.heap.size, 1, none⟩ (.bool false)).setCell ⟨wD.heap.size, 2, none⟩ (.string ⟨#[]⟩) = w := ⟨_, rfl⟩
          rw [hwd]
          have HSD : Hid (wd.heap[wD.heap.size]? = some (.cells #[.int .i64 0, .bool false, .string ⟨#[]⟩] 33 (0, 0))) := by rw [← hwd]; exact blk_set (blk_set (blk_set HSB.out 0 _) 1 _) 2 _
          have HFS : Hid (Fr (fun _ => False) wr wd) := by rw [← hwd]; exact ((HFB.out.setCell (p := ⟨wD.heap.size, 0, none⟩) (.inr (Nat.le_of_eq HSD0.out.symm)) _).setCell (p := ⟨wD.heap.size, 1, none⟩) (.inr (Nat.le_of_eq HSD0.out.symm)) _).setCell (p := ⟨wD.heap.size, 2, none⟩) (.inr (Nat.le_of_eq HSD0.out.symm)) _
          clear hwd z0 z1 z2 y0 y1 y2
          refine hK.out _ _ trivial ?_
          clear hK K
          simp only [Act.put, List.setIfInBounds_toArray, List.set_cons_zero, List.set_cons_succ, Reg.Kept]
          refine' Reg.G.pure (i := 14) (v := _) rfl (by rfl) (by kernel_rfl) (by kernel_rfl) (by kernel_rfl) (fun _ _ _ h => h) ?hyn060 ?rehyn060
          case hyn060 => exact fun w => by first | (go_simp; done) | (go_simp; with_reducible rfl)
          simp only [Act.put, List.setIfInBounds_toArray, List.set_cons_zero, List.set_cons_succ]
          refine Reg.G.done (by kernel_rfl) ?_
          clear HSB HSD
          go_wp2_with fail
          go_ret
          exact ⟨by rw [HR.out]; rfl, HD.out.fr.trans (HFS.out.mono (fun _ _ h => h.elim)), fun h2 hh => by rw [HR.out] at hh; cases hh⟩
        | some s =>
          have HR : Hid (define (envD l) h = rest (envD l) (0 + 1) { hk with within := ⟨s.days, s.bus, []⟩ }) := HD.out.rest.trans (rest0_yes HS.out hsp)
          rw [hsp] at hl
          refine Reg.G.start (by kernel_rfl) ?_
          obtain ⟨wD, hD⟩ : ∃ w, wr.drew = w := ⟨_, rfl⟩
          have HFD : Hid (Fr (fun _ => False) wr wD) := by rw [← hD]; exact (Fr.refl _ wr).drew
          have HSD0 : Hid (wD.heap.size = wr.heap.size) := by show _ = _; rw [← hD]; rfl
          rw [hD]
          clear hD
          refine' Reg.G.pure (i := 0) (v := _) rfl (by rfl) (by kernel_rfl) (by kernel_rfl) (by kernel_rfl) (fun _ _ _ h => h) ?hys061 ?rehys061
          case hys061 => exact fun w => by first | (go_simp; done) | (go_simp; with_reducible rfl)
          simp only [Act.put, List.setIfInBounds_toArray, List.set_cons_zero, List.set_cons_succ]
          refine' Reg.G.pure (i := 1) (v := _) rfl (by rfl) (by kernel_rfl) (by kernel_rfl) (by kernel_rfl) (fun _ _ _ h => h) ?hys062 ?rehys062
          case hys062 => exact fun w => by first | (go_simp; done) | (go_simp; with_reducible rfl)
          simp only [Act.put, List.setIfInBounds_toArray, List.set_cons_zero, List.set_cons_succ]
          refine' Reg.G.pure (i := 2) (v := _) rfl (by rfl) (by kernel_rfl) (by kernel_rfl) (by kernel_rfl) (fun _ _ _ h => h) ?hys063 ?rehys063
          case hys063 => exact fun w => by first | (go_simp; done) | (go_simp; with_reducible rfl)
          simp only [Act.put, List.setIfInBounds_toArray, List.set_cons_zero, List.set_cons_succ]
          refine' Reg.G.take (i := 3) (v := _) (F := (fun w => Fr (fun _ => False) wr w)) rfl (by rfl) (by kernel_rfl) (by kernel_rfl) (by kernel_rfl) (fun _ _ _ h => h) (HFD.out) ?hys064 ?rehys064
          case hys064 => intro w hw; have kc : w.cell? ⟨B + 8, 1, none⟩ = some (.map (some (B + 1))) := (cell_of_blk (HEr.out.fr hw (fun _ _ _ h => h)).blk 1).trans rfl; clear hw; first | (go_simp; done) | (go_simp; with_reducible rfl)
          simp only [Act.put, List.setIfInBounds_toArray, List.set_cons_zero, List.set_cons_succ]
          refine' Reg.G.pure (i := 4) (v := _) rfl (by rfl) (by kernel_rfl) (by kernel_rfl) (by kernel_rfl) (fun _ _ _ h => h) ?hys065 ?rehys065
          case hys065 => exact fun w => by first | (go_simp; done) | (go_simp; with_reducible rfl)
          simp only [Act.put, List.setIfInBounds_toArray, List.set_cons_zero, List.set_cons_succ]
          refine' Reg.G.pure (i := 5) (v := _) rfl (by rfl) (by kernel_rfl) (by kernel_rfl) (by kernel_rfl) (fun _ _ _ h => h) ?hys066 ?rehys066
          case hys066 => exact fun w => by first | (go_simp; done) | (go_simp; with_reducible rfl)
          simp only [Act.put, List.setIfInBounds_toArray, List.set_cons_zero, List.set_cons_succ]
          refine' Reg.G.pure (i := 6) (v := _) rfl (by rfl) (by kernel_rfl) (by kernel_rfl) (by kernel_rfl) (fun _ _ _ h => h) ?hys067 ?rehys067
          case hys067 => exact fun w => by first | (go_simp; done) | (go_simp; with_reducible rfl)
          simp only [Act.put, List.setIfInBounds_toArray, List.set_cons_zero, List.set_cons_succ]
          refine' Reg.G.take (i := 7) (v := _) (F := (fun w => Fr (fun _ => False) wr w)) rfl (by rfl) (by kernel_rfl) (by kernel_rfl) (by kernel_rfl) (fun _ _ _ h => h) (HFD.out) ?hys068 ?rehys068
          case hys068 => intro w hw; have kc : w.cell? ⟨gc, 9, none⟩ = some (.string ⟨hk.within.name.toArray⟩) := (cell_of_blk (hw.blk HD.out.blk (fun h => h)) 9).trans rfl; clear hw; first | (go_simp; done) | (go_simp; with_reducible rfl)
          simp only [Act.put, List.setIfInBounds_toArray, List.set_cons_zero, List.set_cons_succ]
          refine' Reg.G.take (i := 8) (v := _) (F := (fun w => Fr (fun _ => False) wr w)) rfl (by rfl) (by kernel_rfl) (by kernel_rfl) (by kernel_rfl) (fun _ _ _ h => h) (HFD.out) ?hys069 ?rehys069
          case hys069 => intro w hw; have kc := hl.out w hw; clear hw; first | (go_simp; done) | (go_simp; with_reducible rfl)
          simp only [Act.put, List.setIfInBounds_toArray, List.set_cons_zero, List.set_cons_succ]
          refine' Reg.G.pure (i := 9) (v := _) rfl (by rfl) (by kernel_rfl) (by kernel_rfl) (by kernel_rfl) (fun _ _ _ h => h) ?hys070 ?rehys070
          case hys070 => exact fun w => by first | (go_simp; done) | (go_simp; with_reducible rfl)
          simp only [Act.put, List.setIfInBounds_toArray, List.set_cons_zero, List.set_cons_succ]
          refine' Reg.G.pure (i := 10) (v := _) rfl (by rfl) (by kernel_rfl) (by kernel_rfl) (by kernel_rfl) (fun _ _ _ h => h) ?hys071 ?rehys071
          case hys071 => exact fun w => by first | (go_simp; done) | (go_simp; with_reducible rfl)
          simp only [Act.put, List.setIfInBounds_toArray, List.set_cons_zero, List.set_cons_succ]
          refine' Reg.G.pure (i := 11) (v := _) rfl (by rfl) (by kernel_rfl) (by kernel_rfl) (by kernel_rfl) (fun _ _ _ h => h) ?hys072 ?rehys072
          case hys072 => exact fun w => by first | (go_simp; done) | (go_simp; with_reducible rfl)
          simp only [Act.put, List.setIfInBounds_toArray, List.set_cons_zero, List.set_cons_succ]
          refine Reg.G.step (j := 12) (m := [true, true, true]) [8, 7, 3] rfl (by kernel_rfl) rfl (by kernel_rfl) (fun K hK => ?_)
          go_simp
          obtain ⟨wb, hwb⟩ : ∃ w, (wD).alloc (.cells #[.int .i64 0, .bool false, .string ⟨#[]⟩] 33) = w := ⟨_, rfl⟩
          rw [hwb]
          have HSB : Hid (wb.heap[wD.heap.size]? = some (.cells #[.int .i64 0, .bool false, .string ⟨#[]⟩] 33 (0, 0))) := by rw [← hwb]; exact blk_newn rfl
          have HFB : Hid (Fr (fun _ => False) wr wb) := by rw [← hwb]; exact HFD.out.alloc _
          clear hwb
          refine hK.out _ _ ⟨HFB.out, HFB.out, HFB.out, trivial⟩ ?_
          clear hK K
          simp only [Act.put, List.setIfInBounds_toArray, List.set_cons_zero, List.set_cons_succ, Reg.Kept]
          refine Reg.G.step (j := 13) (m := [false, false, false]) [8, 7, 3] rfl (by kernel_rfl) rfl (by kernel_rfl) (fun K hK => ?_)
          have z0 : wb.cell? ⟨wD.heap.size, 0, none⟩ = some (.int .i64 0) := (cell_of_blk HSB.out 0).trans rfl
          have z1 : wb.cell? ⟨wD.heap.size, 1, none⟩ = some (.bool false) := (cell_of_blk HSB.out 1).trans rfl
          have z2 : wb.cell? ⟨wD.heap.size, 2, none⟩ = some (.string ⟨#[]⟩) := (cell_of_blk HSB.out 2).trans rfl
          have y0 := froz_of_blk HSB.out 0
          have y1 := froz_of_blk HSB.out 1
          have y2 := froz_of_blk HSB.out 2
          go_simp
          obtain ⟨wd, hwd⟩ : ∃ w, ((wb.setCell ⟨wD.heap.size, 0, none⟩ (.int .i64 s.days)).setCell ⟨wD.heap.size, 1, none⟩ (.bool s.bus)).setCell ⟨wD.heap.size, 2, none⟩ (.string ⟨s.name.toArray⟩) = w := ⟨_, rfl⟩
          rw [hwd]
          have HSD : Hid (wd.heap[wD.heap.size]? = some (.cells #[.int .i64 s.days, .bool s.bus, .string ⟨s.name.toArray⟩] 33 (0, 0))) := by rw [← hwd]; exact blk_set (blk_set (blk_set HSB.out 0 _) 1 _) 2 _
          have HFS : Hid (Fr (fun _ => False) wr wd) := by rw [← hwd]; exact ((HFB.out.setCell (p := ⟨wD.heap.size, 0, none⟩) (.inr (Nat.le_of_eq HSD0.out.symm)) _).setCell (p := ⟨wD.heap.size, 1, none⟩) (.inr (Nat.le_of_eq HSD0.out.symm)) _).setCell (p := ⟨wD.heap.size, 2, none⟩) (.inr (Nat.le_of_eq HSD0.out.symm)) _
          clear hwd z0 z1 z2 y0 y1 y2
          refine hK.out _ _ trivial ?_
          clear hK K
          simp only [Act.put, List.setIfInBounds_toArray, List.set_cons_zero, List.set_cons_succ, Reg.Kept]
          refine' Reg.G.pure (i := 14) (v := _) rfl (by rfl) (by kernel_rfl) (by kernel_rfl) (by kernel_rfl) (fun _ _ _ h => h) ?hys073 ?rehys073
          case hys073 => exact fun w => by first | (go_simp; done) | (go_simp; with_reducible rfl)
          simp only [Act.put, List.setIfInBounds_toArray, List.set_cons_zero, List.set_cons_succ]
          refine Reg.G.done (by kernel_rfl) ?_
          have d0 : wd.cell? ⟨wD.heap.size, 0, none⟩ = some (.int .i64 s.days) := (cell_of_blk HSD.out 0).trans rfl
          have d1 : wd.cell? ⟨wD.heap.size, 1, none⟩ = some (.bool s.bus) := (cell_of_blk HSD.out 1).trans rfl
          have HBD : Hid (wd.heap[gc]? = some (.cells (icells hk c d n i).toArray 41 (0, 0))) := HFS.out.blk HD.out.blk (fun h => h)
          have e0 : wd.cell? ⟨gc, 7, none⟩ = some (.int .i64 hk.within.days) := (cell_of_blk HBD.out 7).trans rfl
          have f0 : wd.frozen? ⟨gc, 7, none⟩ = false := froz_of_blk HBD.out 7
          have e1 : wd.cell? ⟨gc, 8, none⟩ = some (.bool hk.within.bus) := (cell_of_blk HBD.out 8).trans rfl
          have f1 : wd.frozen? ⟨gc, 8, none⟩ = false := froz_of_blk HBD.out 8
          have e2 : wd.cell? ⟨gc, 9, none⟩ = some (.string ⟨hk.within.name.toArray⟩) := (cell_of_blk HBD.out 9).trans rfl
          have f2 : wd.frozen? ⟨gc, 9, none⟩ = false := froz_of_blk HBD.out 9
          go_upto_region 9 with fail
          obtain ⟨we, hwe⟩ : ∃ w, ((wd.setCell ⟨gc, 7, none⟩ (.int .i64 s.days)).setCell ⟨gc, 8, none⟩ (.bool s.bus)).setCell ⟨gc, 9, none⟩ (.string ⟨#[]⟩) = w := ⟨_, rfl⟩
          rw [hwe]
          have HDN : Hid (DR l h c d n i gc W.heap.size W (0 + 1) { hk with within := ⟨s.days, s.bus, []⟩ } we) := by
            rw [← hwe]
            have g2 := HGS.out
            refine ⟨blk_set (blk_set (blk_set HBD.out 7 _) 8 _) 9 _, ?_, ((((HD.out.fr.trans (HFS.out.mono (fun _ _ h => h.elim))).setb 7 _).setb 8 _).setb 9 _), HR.out⟩
            exact blk_farq (blk_farq (blk_farq (HFS.out.blk HD.out.sl (fun h => h)) (by omega) _) (by omega) _) (by omega) _
          clear hwe d0 d1 e0 e1 e2 f0 f1 f2
          go_wp2_with fail
          refine ⟨⟨_, _, _, _, .int .i64 1, ⟨1, rfl, by omega, _, HDN⟩, rfl, rfl, rfl, rfl, rfl⟩, ?_⟩
          first | (simp [intOf]; done) | (simp [intOf]; omega)
    · have hs0 : wr.cell? ⟨W.heap.size, 1, none⟩ = some (.pointer (some ⟨gc, 10, none⟩)) := (cell_of_blk HD.out.sl 1).trans rfl
      have kn : wr.cell? ⟨gc, 12, none⟩ = some (.string ⟨hk.grace.name.toArray⟩) := (cell_of_blk HD.out.blk 12).trans rfl
      by_cases hs : hk.grace.name = []
      · have HDN : Hid (DR l h c d n i gc W.heap.size W (1 + 1) hk wr) := ⟨HD.out.blk, HD.out.sl, HD.out.fr, HD.out.rest.trans (rest1_skip hs)⟩
        rw [hs] at kn
        replace kn : wr.cell? ⟨gc, 12, none⟩ = some (.string ⟨#[]⟩) := kn
        clear hs HD
        go_wp2_with fail
        go_roundw
        case rel => exact ⟨1 + 1, hk, by go_num, by omega, HDN⟩
        case measure => first | (simp [intOf]; done) | (simp [intOf]; omega)
      · have kb : (hk.grace.name == []) = false := by simpa using hs
        have HS := Lib.hid hs
        clear hs
        have hl : Hid (∀ w, Fr (fun _ => False) wr w → _) := Lib.hid fun w (hf : Fr (fun _ => False) wr w) => look_span (HEr.out.fr hf (fun _ _ _ h => h)).sp hk.grace.name
        go_upto_region 5 with fail
        clear kn hs0 kb
        cases hsp : (envD l).span hk.grace.name with
        | none =>
          have HR : Hid (define (envD l) h = none) := HD.out.rest.trans (rest1_no HS.out hsp)
          rw [hsp] at hl
          refine Reg.G.start (by kernel_rfl) ?_
          obtain ⟨wD, hD⟩ : ∃ w, wr.drew = w := ⟨_, rfl⟩
          have HFD : Hid (Fr (fun _ => False) wr wD) := by rw [← hD]; exact (Fr.refl _ wr).drew
          have HSD0 : Hid (wD.heap.size = wr.heap.size) := by show _ = _; rw [← hD]; rfl
          rw [hD]
          clear hD
          refine' Reg.G.pure (i := 0) (v := _) rfl (by rfl) (by kernel_rfl) (by kernel_rfl) (by kernel_rfl) (fun _ _ _ h => h) ?hyn174 ?rehyn174
          case hyn174 => exact fun w => by first | (go_simp; done) | (go_simp; with_reducible rfl)
          simp only [Act.put, List.setIfInBounds_toArray, List.set_cons_zero, List.set_cons_succ]
          refine' Reg.G.pure (i := 1) (v := _) rfl (by rfl) (by kernel_rfl) (by kernel_rfl) (by kernel_rfl) (fun _ _ _ h => h) ?hyn175 ?rehyn175
          case hyn175 => exact fun w => by first | (go_simp; done) | (go_simp; with_reducible rfl)
          simp only [Act.put, List.setIfInBounds_toArray, List.set_cons_zero, List.set_cons_succ]
          refine' Reg.G.pure (i := 2) (v := _) rfl (by rfl) (by kernel_rfl) (by kernel_rfl) (by kernel_rfl) (fun _ _ _ h => h) ?hyn176 ?rehyn176
          case hyn176 => exact fun w => by first | (go_simp; done) | (go_simp; with_reducible rfl)
          simp only [Act.put, List.setIfInBounds_toArray, List.set_cons_zero, List.set_cons_succ]
          refine' Reg.G.take (i := 3) (v := _) (F := (fun w => Fr (fun _ => False) wr w)) rfl (by rfl) (by kernel_rfl) (by kernel_rfl) (by kernel_rfl) (fun _ _ _ h => h) (HFD.out) ?hyn177 ?rehyn177
          case hyn177 => intro w hw; have kc : w.cell? ⟨B + 8, 1, none⟩ = some (.map (some (B + 1))) := (cell_of_blk (HEr.out.fr hw (fun _ _ _ h => h)).blk 1).trans rfl; clear hw; first | (go_simp; done) | (go_simp; with_reducible rfl)
          simp only [Act.put, List.setIfInBounds_toArray, List.set_cons_zero, List.set_cons_succ]
          refine' Reg.G.pure (i := 4) (v := _) rfl (by rfl) (by kernel_rfl) (by kernel_rfl) (by kernel_rfl) (fun _ _ _ h => h) ?hyn178 ?rehyn178
          case hyn178 => exact fun w => by first | (go_simp; done) | (go_simp; with_reducible rfl)
          simp only [Act.put, List.setIfInBounds_toArray, List.set_cons_zero, List.set_cons_succ]
          refine' Reg.G.pure (i := 5) (v := _) rfl (by rfl) (by kernel_rfl) (by kernel_rfl) (by kernel_rfl) (fun _ _ _ h => h) ?hyn179 ?rehyn179
          case hyn179 => exact fun w => by first | (go_simp; done) | (go_simp; with_reducible rfl)
          simp only [Act.put, List.setIfInBounds_toArray, List.set_cons_zero, List.set_cons_succ]
          refine' Reg.G.pure (i := 6) (v := _) rfl (by rfl) (by kernel_rfl) (by kernel_rfl) (by kernel_rfl) (fun _ _ _ h => h) ?hyn180 ?rehyn180
          case hyn180 => exact fun w => by first | (go_simp; done) | (go_simp; with_reducible rfl)
          simp only [Act.put, List.setIfInBounds_toArray, List.set_cons_zero, List.set_cons_succ]
          refine' Reg.G.take (i := 7) (v := _) (F := (fun w => Fr (fun _ => False) wr w)) rfl (by rfl) (by kernel_rfl) (by kernel_rfl) (by kernel_rfl) (fun _ _ _ h => h) (HFD.out) ?hyn181 ?rehyn181
          case hyn181 => intro w hw; have kc : w.cell? ⟨gc, 12, none⟩ = some (.string ⟨hk.grace.name.toArray⟩) := (cell_of_blk (hw.blk HD.out.blk (fun h => h)) 12).trans rfl; clear hw; first | (go_simp; done) | (go_simp; with_reducible rfl)
          simp only [Act.put, List.setIfInBounds_toArray, List.set_cons_zero, List.set_cons_succ]
          refine' Reg.G.take (i := 8) (v := _) (F := (fun w => Fr (fun _ => False) wr w)) rfl (by rfl) (by kernel_rfl) (by kernel_rfl) (by kernel_rfl) (fun _ _ _ h => h) (HFD.out) ?hyn182 ?rehyn182
          case hyn182 => intro w hw; have kc := hl.out w hw; clear hw; first | (go_simp; done) | (go_simp; with_reducible rfl)
          simp only [Act.put, List.setIfInBounds_toArray, List.set_cons_zero, List.set_cons_succ]
          refine' Reg.G.pure (i := 9) (v := _) rfl (by rfl) (by kernel_rfl) (by kernel_rfl) (by kernel_rfl) (fun _ _ _ h => h) ?hyn183 ?rehyn183
          case hyn183 => exact fun w => by first | (go_simp; done) | (go_simp; with_reducible rfl)
          simp only [Act.put, List.setIfInBounds_toArray, List.set_cons_zero, List.set_cons_succ]
          refine' Reg.G.pure (i := 10) (v := _) rfl (by rfl) (by kernel_rfl) (by kernel_rfl) (by kernel_rfl) (fun _ _ _ h => h) ?hyn184 ?rehyn184
          case hyn184 => exact fun w => by first | (go_simp; done) | (go_simp; with_reducible rfl)
          simp only [Act.put, List.setIfInBounds_toArray, List.set_cons_zero, List.set_cons_succ]
          refine' Reg.G.pure (i := 11) (v := _) rfl (by rfl) (by kernel_rfl) (by kernel_rfl) (by kernel_rfl) (fun _ _ _ h => h) ?hyn185 ?rehyn185
          case hyn185 => exact fun w => by first | (go_simp; done) | (go_simp; with_reducible rfl)
          simp only [Act.put, List.setIfInBounds_toArray, List.set_cons_zero, List.set_cons_succ]
          refine Reg.G.step (j := 12) (m := [true, true, true]) [8, 7, 3] rfl (by kernel_rfl) rfl (by kernel_rfl) (fun K hK => ?_)
          go_simp
          obtain ⟨wb, hwb⟩ : ∃ w, (wD).alloc (.cells #[.int .i64 0, .bool false, .string ⟨#[]⟩] 33) = w := ⟨_, rfl⟩
          rw [hwb]
          have HSB : Hid (wb.heap[wD.heap.size]? = some (.cells #[.int .i64 0, .bool false, .string ⟨#[]⟩] 33 (0, 0))) := by rw [← hwb]; exact blk_newn rfl
          have HFB : Hid (Fr (fun _ => False) wr wb) := by rw [← hwb]; exact HFD.out.alloc _
          clear hwb
          refine hK.out _ _ ⟨HFB.out, HFB.out, HFB.out, trivial⟩ ?_
          clear hK K
          simp only [Act.put, List.setIfInBounds_toArray, List.set_cons_zero, List.set_cons_succ, Reg.Kept]
          refine Reg.G.step (j := 13) (m := [false, false, false]) [8, 7, 3] rfl (by kernel_rfl) rfl (by kernel_rfl) (fun K hK => ?_)
          have z0 : wb.cell? ⟨wD.heap.size, 0, none⟩ = some (.int .i64 0) := (cell_of_blk HSB.out 0).trans rfl
          have z1 : wb.cell? ⟨wD.heap.size, 1, none⟩ = some (.bool false) := (cell_of_blk HSB.out 1).trans rfl
          have z2 : wb.cell? ⟨wD.heap.size, 2, none⟩ = some (.string ⟨#[]⟩) := (cell_of_blk HSB.out 2).trans rfl
          have y0 := froz_of_blk HSB.out 0
          have y1 := froz_of_blk HSB.out 1
          have y2 := froz_of_blk HSB.out 2
          go_simp
          obtain ⟨wd, hwd⟩ : ∃ w, ((wb.setCell ⟨wD.heap.size, 0, none⟩ (.int .i64 0)).setCell ⟨wD.heap.size, 1, none⟩ (.bool false)).setCell ⟨wD.heap.size, 2, none⟩ (.string ⟨#[]⟩) = w := ⟨_, rfl⟩
          rw [hwd]
          have HSD : Hid (wd.heap[wD.heap.size]? = some (.cells #[.int .i64 0, .bool false, .string ⟨#[]⟩] 33 (0, 0))) := by rw [← hwd]; exact blk_set (blk_set (blk_set HSB.out 0 _) 1 _) 2 _
          have HFS : Hid (Fr (fun _ => False) wr wd) := by rw [← hwd]; exact ((HFB.out.setCell (p := ⟨wD.heap.size, 0, none⟩) (.inr (Nat.le_of_eq HSD0.out.symm)) _).setCell (p := ⟨wD.heap.size, 1, none⟩) (.inr (Nat.le_of_eq HSD0.out.symm)) _).setCell (p := ⟨wD.heap.size, 2, none⟩) (.inr (Nat.le_of_eq HSD0.out.symm)) _
          clear hwd z0 z1 z2 y0 y1 y2
          refine hK.out _ _ trivial ?_
          clear hK K
          simp only [Act.put, List.setIfInBounds_toArray, List.set_cons_zero, List.set_cons_succ, Reg.Kept]
          refine' Reg.G.pure (i := 14) (v := _) rfl (by rfl) (by kernel_rfl) (by kernel_rfl) (by kernel_rfl) (fun _ _ _ h => h) ?hyn186 ?rehyn186
          case hyn186 => exact fun w => by first | (go_simp; done) | (go_simp; with_reducible rfl)
          simp only [Act.put, List.setIfInBounds_toArray, List.set_cons_zero, List.set_cons_succ]
          refine Reg.G.done (by kernel_rfl) ?_
          clear HSB HSD
          go_wp2_with fail
          go_ret
          exact ⟨by rw [HR.out]; rfl, HD.out.fr.trans (HFS.out.mono (fun _ _ h => h.elim)), fun h2 hh => by rw [HR.out] at hh; cases hh⟩
        | some s =>
          have HR : Hid (define (envD l) h = rest (envD l) (1 + 1) { hk with grace := ⟨s.days, s.bus, []⟩ }) := HD.out.rest.trans (rest1_yes HS.out hsp)
          rw [hsp] at hl
          refine Reg.G.start (by kernel_rfl) ?_
          obtain ⟨wD, hD⟩ : ∃ w, wr.drew = w := ⟨_, rfl⟩
          have HFD : Hid (Fr (fun _ => False) wr wD) := by rw [← hD]; exact (Fr.refl _ wr).drew
          have HSD0 : Hid (wD.heap.size = wr.heap.size) := by show _ = _; rw [← hD]; rfl
          rw [hD]
          clear hD
          refine' Reg.G.pure (i := 0) (v := _) rfl (by rfl) (by kernel_rfl) (by kernel_rfl) (by kernel_rfl) (fun _ _ _ h => h) ?hys187 ?rehys187
          case hys187 => exact fun w => by first | (go_simp; done) | (go_simp; with_reducible rfl)
          simp only [Act.put, List.setIfInBounds_toArray, List.set_cons_zero, List.set_cons_succ]
          refine' Reg.G.pure (i := 1) (v := _) rfl (by rfl) (by kernel_rfl) (by kernel_rfl) (by kernel_rfl) (fun _ _ _ h => h) ?hys188 ?rehys188
          case hys188 => exact fun w => by first | (go_simp; done) | (go_simp; with_reducible rfl)
          simp only [Act.put, List.setIfInBounds_toArray, List.set_cons_zero, List.set_cons_succ]
          refine' Reg.G.pure (i := 2) (v := _) rfl (by rfl) (by kernel_rfl) (by kernel_rfl) (by kernel_rfl) (fun _ _ _ h => h) ?hys189 ?rehys189
          case hys189 => exact fun w => by first | (go_simp; done) | (go_simp; with_reducible rfl)
          simp only [Act.put, List.setIfInBounds_toArray, List.set_cons_zero, List.set_cons_succ]
          refine' Reg.G.take (i := 3) (v := _) (F := (fun w => Fr (fun _ => False) wr w)) rfl (by rfl) (by kernel_rfl) (by kernel_rfl) (by kernel_rfl) (fun _ _ _ h => h) (HFD.out) ?hys190 ?rehys190
          case hys190 => intro w hw; have kc : w.cell? ⟨B + 8, 1, none⟩ = some (.map (some (B + 1))) := (cell_of_blk (HEr.out.fr hw (fun _ _ _ h => h)).blk 1).trans rfl; clear hw; first | (go_simp; done) | (go_simp; with_reducible rfl)
          simp only [Act.put, List.setIfInBounds_toArray, List.set_cons_zero, List.set_cons_succ]
          refine' Reg.G.pure (i := 4) (v := _) rfl (by rfl) (by kernel_rfl) (by kernel_rfl) (by kernel_rfl) (fun _ _ _ h => h) ?hys191 ?rehys191
          case hys191 => exact fun w => by first | (go_simp; done) | (go_simp; with_reducible rfl)
          simp only [Act.put, List.setIfInBounds_toArray, List.set_cons_zero, List.set_cons_succ]
          refine' Reg.G.pure (i := 5) (v := _) rfl (by rfl) (by kernel_rfl) (by kernel_rfl) (by kernel_rfl) (fun _ _ _ h => h) ?hys192 ?rehys192
          case hys192 => exact fun w => by first | (go_simp; done) | (go_simp; with_reducible rfl)
          simp only [Act.put, List.setIfInBounds_toArray, List.set_cons_zero, List.set_cons_succ]
          refine' Reg.G.pure (i := 6) (v := _) rfl (by rfl) (by kernel_rfl) (by kernel_rfl) (by kernel_rfl) (fun _ _ _ h => h) ?hys193 ?rehys193
          case hys193 => exact fun w => by first | (go_simp; done) | (go_simp; with_reducible rfl)
          simp only [Act.put, List.setIfInBounds_toArray, List.set_cons_zero, List.set_cons_succ]
          refine' Reg.G.take (i := 7) (v := _) (F := (fun w => Fr (fun _ => False) wr w)) rfl (by rfl) (by kernel_rfl) (by kernel_rfl) (by kernel_rfl) (fun _ _ _ h => h) (HFD.out) ?hys194 ?rehys194
          case hys194 => intro w hw; have kc : w.cell? ⟨gc, 12, none⟩ = some (.string ⟨hk.grace.name.toArray⟩) := (cell_of_blk (hw.blk HD.out.blk (fun h => h)) 12).trans rfl; clear hw; first | (go_simp; done) | (go_simp; with_reducible rfl)
          simp only [Act.put, List.setIfInBounds_toArray, List.set_cons_zero, List.set_cons_succ]
          refine' Reg.G.take (i := 8) (v := _) (F := (fun w => Fr (fun _ => False) wr w)) rfl (by rfl) (by kernel_rfl) (by kernel_rfl) (by kernel_rfl) (fun _ _ _ h => h) (HFD.out) ?hys195 ?rehys195
          case hys195 => intro w hw; have kc := hl.out w hw; clear hw; first | (go_simp; done) | (go_simp; with_reducible rfl)
          simp only [Act.put, List.setIfInBounds_toArray, List.set_cons_zero, List.set_cons_succ]
          refine' Reg.G.pure (i := 9) (v := _) rfl (by rfl) (by kernel_rfl) (by kernel_rfl) (by kernel_rfl) (fun _ _ _ h => h) ?hys196 ?rehys196
          case hys196 => exact fun w => by first | (go_simp; done) | (go_simp; with_reducible rfl)
          simp only [Act.put, List.setIfInBounds_toArray, List.set_cons_zero, List.set_cons_succ]
          refine' Reg.G.pure (i := 10) (v := _) rfl (by rfl) (by kernel_rfl) (by kernel_rfl) (by kernel_rfl) (fun _ _ _ h => h) ?hys197 ?rehys197
          case hys197 => exact fun w => by first | (go_simp; done) | (go_simp; with_reducible rfl)
          simp only [Act.put, List.setIfInBounds_toArray, List.set_cons_zero, List.set_cons_succ]
          refine' Reg.G.pure (i := 11) (v := _) rfl (by rfl) (by kernel_rfl) (by kernel_rfl) (by kernel_rfl) (fun _ _ _ h => h) ?hys198 ?rehys198
          case hys198 => exact fun w => by first | (go_simp; done) | (go_simp; with_reducible rfl)
          simp only [Act.put, List.setIfInBounds_toArray, List.set_cons_zero, List.set_cons_succ]
          refine Reg.G.step (j := 12) (m := [true, true, true]) [8, 7, 3] rfl (by kernel_rfl) rfl (by kernel_rfl) (fun K hK => ?_)
          go_simp
          obtain ⟨wb, hwb⟩ : ∃ w, (wD).alloc (.cells #[.int .i64 0, .bool false, .string ⟨#[]⟩] 33) = w := ⟨_, rfl⟩
          rw [hwb]
          have HSB : Hid (wb.heap[wD.heap.size]? = some (.cells #[.int .i64 0, .bool false, .string ⟨#[]⟩] 33 (0, 0))) := by rw [← hwb]; exact blk_newn rfl
          have HFB : Hid (Fr (fun _ => False) wr wb) := by rw [← hwb]; exact HFD.out.alloc _
          clear hwb
          refine hK.out _ _ ⟨HFB.out, HFB.out, HFB.out, trivial⟩ ?_
          clear hK K
          simp only [Act.put, List.setIfInBounds_toArray, List.set_cons_zero, List.set_cons_succ, Reg.Kept]
          refine Reg.G.step (j := 13) (m := [false, false, false]) [8, 7, 3] rfl (by kernel_rfl) rfl (by kernel_rfl) (fun K hK => ?_)
          have z0 : wb.cell? ⟨wD.heap.size, 0, none⟩ = some (.int .i64 0) := (cell_of_blk HSB.out 0).trans rfl
          have z1 : wb.cell? ⟨wD.heap.size, 1, none⟩ = some (.bool false) := (cell_of_blk HSB.out 1).trans rfl
          have z2 : wb.cell? ⟨wD.heap.size, 2, none⟩ = some (.string ⟨#[]⟩) := (cell_of_blk HSB.out 2).trans rfl
          have y0 := froz_of_blk HSB.out 0
          have y1 := froz_of_blk HSB.out 1
          have y2 := froz_of_blk HSB.out 2
          go_simp
          obtain ⟨wd, hwd⟩ : ∃ w, ((wb.setCell ⟨wD.heap.size, 0, none⟩ (.int .i64 s.days)).setCell ⟨wD.heap.size, 1, none⟩ (.bool s.bus)).setCell ⟨wD.heap.size, 2, none⟩ (.string ⟨s.name.toArray⟩) = w := ⟨_, rfl⟩
          rw [hwd]
          have HSD : Hid (wd.heap[wD.heap.size]? = some (.cells #[.int .i64 s.days, .bool s.bus, .string ⟨s.name.toArray⟩] 33 (0, 0))) := by rw [← hwd]; exact blk_set (blk_set (blk_set HSB.out 0 _) 1 _) 2 _
          have HFS : Hid (Fr (fun _ => False) wr wd) := by rw [← hwd]; exact ((HFB.out.setCell (p := ⟨wD.heap.size, 0, none⟩) (.inr (Nat.le_of_eq HSD0.out.symm)) _).setCell (p := ⟨wD.heap.size, 1, none⟩) (.inr (Nat.le_of_eq HSD0.out.symm)) _).setCell (p := ⟨wD.heap.size, 2, none⟩) (.inr (Nat.le_of_eq HSD0.out.symm)) _
          clear hwd z0 z1 z2 y0 y1 y2
          refine hK.out _ _ trivial ?_
          clear hK K
          simp only [Act.put, List.setIfInBounds_toArray, List.set_cons_zero, List.set_cons_succ, Reg.Kept]
          refine' Reg.G.pure (i := 14) (v := _) rfl (by rfl) (by kernel_rfl) (by kernel_rfl) (by kernel_rfl) (fun _ _ _ h => h) ?hys199 ?rehys199
          case hys199 => exact fun w => by first | (go_simp; done) | (go_simp; with_reducible rfl)
          simp only [Act.put, List.setIfInBounds_toArray, List.set_cons_zero, List.set_cons_succ]
          refine Reg.G.done (by kernel_rfl) ?_
          have d0 : wd.cell? ⟨wD.heap.size, 0, none⟩ = some (.int .i64 s.days) := (cell_of_blk HSD.out 0).trans rfl
          have d1 : wd.cell? ⟨wD.heap.size, 1, none⟩ = some (.bool s.bus) := (cell_of_blk HSD.out 1).trans rfl
          have HBD : Hid (wd.heap[gc]? = some (.cells (icells hk c d n i).toArray 41 (0, 0))) := HFS.out.blk HD.out.blk (fun h => h)
          have e0 : wd.cell? ⟨gc, 10, none⟩ = some (.int .i64 hk.grace.days) := (cell_of_blk HBD.out 10).trans rfl
          have f0 : wd.frozen? ⟨gc, 10, none⟩ = false := froz_of_blk HBD.out 10
          have e1 : wd.cell? ⟨gc, 11, none⟩ = some (.bool hk.grace.bus) := (cell_of_blk HBD.out 11).trans rfl
          have f1 : wd.frozen? ⟨gc, 11, none⟩ = false := froz_of_blk HBD.out 11
          have e2 : wd.cell? ⟨gc, 12, none⟩ = some (.string ⟨hk.grace.name.toArray⟩) := (cell_of_blk HBD.out 12).trans rfl
          have f2 : wd.frozen? ⟨gc, 12, none⟩ = false := froz_of_blk HBD.out 12
          go_upto_region 9 with fail
          obtain ⟨we, hwe⟩ : ∃ w, ((wd.setCell ⟨gc, 10, none⟩ (.int .i64 s.days)).setCell ⟨gc, 11, none⟩ (.bool s.bus)).setCell ⟨gc, 12, none⟩ (.string ⟨#[]⟩) = w := ⟨_, rfl⟩
          rw [hwe]
          have HDN : Hid (DR l h c d n i gc W.heap.size W (1 + 1) { hk with grace := ⟨s.days, s.bus, []⟩ } we) := by
            rw [← hwe]
            have g2 := HGS.out
            refine ⟨blk_set (blk_set (blk_set HBD.out 10 _) 11 _) 12 _, ?_, ((((HD.out.fr.trans (HFS.out.mono (fun _ _ h => h.elim))).setb 10 _).setb 11 _).setb 12 _), HR.out⟩
            exact blk_farq (blk_farq (blk_farq (HFS.out.blk HD.out.sl (fun h => h)) (by omega) _) (by omega) _) (by omega) _
          clear hwe d0 d1 e0 e1 e2 f0 f1 f2
          go_wp2_with fail
          refine ⟨⟨_, _, _, _, .int .i64 2, ⟨2, rfl, by omega, _, HDN⟩, rfl, rfl, rfl, rfl, rfl⟩, ?_⟩
          first | (simp [intOf]; done) | (simp [intOf]; omega)
    · have k14 : wr.cell? ⟨gc, 19, none⟩ = some (.string ⟨hk.sum.toArray⟩) := (cell_of_blk HD.out.blk 19).trans rfl
      by_cases hs : hk.sum = []
      · have HR : Hid (define (envD l) h = some hk) := HD.out.rest.trans (rest2_skip hs)
        rw [hs] at k14
        replace k14 : wr.cell? ⟨gc, 19, none⟩ = some (.string ⟨#[]⟩) := k14
        clear hs
        go_wp2_with fail
        go_ret
        refine ⟨by rw [HR.out]; rfl, HD.out.fr, fun h' hh => ?_⟩
        rw [HR.out] at hh
        injection hh with hh
        subst hh
        exact HD.out.blk
      · have kb : (hk.sum != []) = true := by simpa using hs
        have kb2 : (hk.sum == []) = false := by simpa using hs
        have HS := Lib.hid hs
        clear hs
        have hl : Hid (∀ w, Fr (fun _ => False) wr w → _) := Lib.hid fun w (hf : Fr (fun _ => False) wr w) => look_sum (HEr.out.fr hf (fun _ _ _ h => h)).su hk.sum
        go_upto_region 11 with fail
        clear k14 kb kb2
        cases hsp : fst l 7 hk.sum with
        | none =>
          have HR : Hid (define (envD l) h = none) := HD.out.rest.trans (rest2_no HS.out (by rw [env_sum, hsp]; rfl))
          rw [hsp] at hl
          refine Reg.G.start (by kernel_rfl) ?_
          obtain ⟨wD, hD⟩ : ∃ w, wr.drew = w := ⟨_, rfl⟩
          have HFD : Hid (Fr (fun _ => False) wr wD) := by rw [← hD]; exact (Fr.refl _ wr).drew
          have HSD0 : Hid (wD.heap.size = wr.heap.size) := by show _ = _; rw [← hD]; rfl
          rw [hD]
          clear hD
          refine' Reg.G.pure (i := 0) (v := _) rfl (by rfl) (by kernel_rfl) (by kernel_rfl) (by kernel_rfl) (fun _ _ _ h => h) ?hyu9 ?rehyu9
          case hyu9 => exact fun w => by first | (go_simp; done) | (go_simp; with_reducible rfl)
          simp only [Act.put, List.setIfInBounds_toArray, List.set_cons_zero, List.set_cons_succ]
          refine' Reg.G.pure (i := 1) (v := _) rfl (by rfl) (by kernel_rfl) (by kernel_rfl) (by kernel_rfl) (fun _ _ _ h => h) ?hyu10 ?rehyu10
          case hyu10 => exact fun w => by first | (go_simp; done) | (go_simp; with_reducible rfl)
          simp only [Act.put, List.setIfInBounds_toArray, List.set_cons_zero, List.set_cons_succ]
          refine' Reg.G.pure (i := 2) (v := _) rfl (by rfl) (by kernel_rfl) (by kernel_rfl) (by kernel_rfl) (fun _ _ _ h => h) ?hyu11 ?rehyu11
          case hyu11 => exact fun w => by first | (go_simp; done) | (go_simp; with_reducible rfl)
          simp only [Act.put, List.setIfInBounds_toArray, List.set_cons_zero, List.set_cons_succ]
          refine' Reg.G.take (i := 3) (v := _) (F := (fun w => Fr (fun _ => False) wr w)) rfl (by rfl) (by kernel_rfl) (by kernel_rfl) (by kernel_rfl) (fun _ _ _ h => h) (HFD.out) ?hyu12 ?rehyu12
          case hyu12 => intro w hw; have kc : w.cell? ⟨B + 8, 2, none⟩ = some (.map (some (B + 2))) := (cell_of_blk (HEr.out.fr hw (fun _ _ _ h => h)).blk 2).trans rfl; clear hw; first | (go_simp; done) | (go_simp; with_reducible rfl)
          simp only [Act.put, List.setIfInBounds_toArray, List.set_cons_zero, List.set_cons_succ]
          refine' Reg.G.pure (i := 4) (v := _) rfl (by rfl) (by kernel_rfl) (by kernel_rfl) (by kernel_rfl) (fun _ _ _ h => h) ?hyu13 ?rehyu13
          case hyu13 => exact fun w => by first | (go_simp; done) | (go_simp; with_reducible rfl)
          simp only [Act.put, List.setIfInBounds_toArray, List.set_cons_zero, List.set_cons_succ]
          refine' Reg.G.pure (i := 5) (v := _) rfl (by rfl) (by kernel_rfl) (by kernel_rfl) (by kernel_rfl) (fun _ _ _ h => h) ?hyu14 ?rehyu14
          case hyu14 => exact fun w => by first | (go_simp; done) | (go_simp; with_reducible rfl)
          simp only [Act.put, List.setIfInBounds_toArray, List.set_cons_zero, List.set_cons_succ]
          refine' Reg.G.pure (i := 6) (v := _) rfl (by rfl) (by kernel_rfl) (by kernel_rfl) (by kernel_rfl) (fun _ _ _ h => h) ?hyu15 ?rehyu15
          case hyu15 => exact fun w => by first | (go_simp; done) | (go_simp; with_reducible rfl)
          simp only [Act.put, List.setIfInBounds_toArray, List.set_cons_zero, List.set_cons_succ]
          refine' Reg.G.take (i := 7) (v := _) (F := (fun w => Fr (fun _ => False) wr w)) rfl (by rfl) (by kernel_rfl) (by kernel_rfl) (by kernel_rfl) (fun _ _ _ h => h) (HFD.out) ?hyu16 ?rehyu16
          case hyu16 => intro w hw; have kc : w.cell? ⟨gc, 19, none⟩ = some (.string ⟨hk.sum.toArray⟩) := (cell_of_blk (hw.blk HD.out.blk (fun h => h)) 19).trans rfl; clear hw; first | (go_simp; done) | (go_simp; with_reducible rfl)
          simp only [Act.put, List.setIfInBounds_toArray, List.set_cons_zero, List.set_cons_succ]
          refine' Reg.G.take (i := 8) (v := _) (F := (fun w => Fr (fun _ => False) wr w)) rfl (by rfl) (by kernel_rfl) (by kernel_rfl) (by kernel_rfl) (fun _ _ _ h => h) (HFD.out) ?hyu17 ?rehyu17
          case hyu17 => intro w hw; have kc := hl.out w hw; clear hw; first | (go_simp; done) | (go_simp; with_reducible rfl)
          simp only [Act.put, List.setIfInBounds_toArray, List.set_cons_zero, List.set_cons_succ]
          refine' Reg.G.pure (i := 9) (v := _) rfl (by rfl) (by kernel_rfl) (by kernel_rfl) (by kernel_rfl) (fun _ _ _ h => h) ?hyu18 ?rehyu18
          case hyu18 => exact fun w => by first | (go_simp; done) | (go_simp; with_reducible rfl)
          simp only [Act.put, List.setIfInBounds_toArray, List.set_cons_zero, List.set_cons_succ]
          refine' Reg.G.pure (i := 10) (v := _) rfl (by rfl) (by kernel_rfl) (by kernel_rfl) (by kernel_rfl) (fun _ _ _ h => h) ?hyu19 ?rehyu19
          case hyu19 => exact fun w => by first | (go_simp; done) | (go_simp; with_reducible rfl)
          simp only [Act.put, List.setIfInBounds_toArray, List.set_cons_zero, List.set_cons_succ]
          refine' Reg.G.pure (i := 11) (v := _) rfl (by rfl) (by kernel_rfl) (by kernel_rfl) (by kernel_rfl) (fun _ _ _ h => h) ?hyu20 ?rehyu20
          case hyu20 => exact fun w => by first | (go_simp; done) | (go_simp; with_reducible rfl)
          simp only [Act.put, List.setIfInBounds_toArray, List.set_cons_zero, List.set_cons_succ]
          refine Reg.G.step (j := 12) (m := [true, true, true]) [8, 7, 3] rfl (by kernel_rfl) rfl (by kernel_rfl) (fun K hK => ?_)
          go_simp
          obtain ⟨wb, hwb⟩ : ∃ w, (wD).alloc (.cells #[.int .i64 0, .string ⟨#[]⟩, .int .i64 0, .string ⟨#[]⟩, .string ⟨#[]⟩, .int .i64 0, .int .i64 0, .int .i64 0, .bool false, .string ⟨#[]⟩, .int .i64 0, .bool false, .string ⟨#[]⟩, .slice none 0 0, .string ⟨#[]⟩, .string ⟨#[]⟩, .int .i64 0, .int .i64 0, .string ⟨#[]⟩, .string ⟨#[]⟩, .bool false, .string ⟨#[]⟩, .string ⟨#[]⟩, .bool false, .bool false, .bool false, .bool false, .bool false, .bool false, .bool false, .slice none 0 0, .slice none 0 0, .slice none 0 0] 41) = w := ⟨_, rfl⟩
          rw [hwb]
          have HSB : Hid (wb.heap[wD.heap.size]? = some (.cells #[.int .i64 0, .string ⟨#[]⟩, .int .i64 0, .string ⟨#[]⟩, .string ⟨#[]⟩, .int .i64 0, .int .i64 0, .int .i64 0, .bool false, .string ⟨#[]⟩, .int .i64 0, .bool false, .string ⟨#[]⟩, .slice none 0 0, .string ⟨#[]⟩, .string ⟨#[]⟩, .int .i64 0, .int .i64 0, .string ⟨#[]⟩, .string ⟨#[]⟩, .bool false, .string ⟨#[]⟩, .string ⟨#[]⟩, .bool false, .bool false, .bool false, .bool false, .bool false, .bool false, .bool false, .slice none 0 0, .slice none 0 0, .slice none 0 0] 41 (0, 0))) := by rw [← hwb]; exact blk_newn rfl
          have HFB : Hid (Fr (fun _ => False) wr wb) := by rw [← hwb]; exact HFD.out.alloc _
          clear hwb
          refine hK.out _ _ ⟨HFB.out, HFB.out, HFB.out, trivial⟩ ?_
          clear hK K
          simp only [Act.put, List.setIfInBounds_toArray, List.set_cons_zero, List.set_cons_succ, Reg.Kept]
          refine Reg.G.step (j := 13) (m := [false, false, false]) [8, 7, 3] rfl (by kernel_rfl) rfl (by kernel_rfl) (fun K hK => ?_)
          refine wp_store_row 41 _ _ rfl wD.heap.size (#[.int .i64 0, .string ⟨#[]⟩, .int .i64 0, .string ⟨#[]⟩, .string ⟨#[]⟩, .int .i64 0, .int .i64 0, .int .i64 0, .bool false, .string ⟨#[]⟩, .int .i64 0, .bool false, .string ⟨#[]⟩, .slice none 0 0, .string ⟨#[]⟩, .string ⟨#[]⟩, .int .i64 0, .int .i64 0, .string ⟨#[]⟩, .string ⟨#[]⟩, .bool false, .string ⟨#[]⟩, .string ⟨#[]⟩, .bool false, .bool false, .bool false, .bool false, .bool false, .bool false, .bool false, .slice none 0 0, .slice none 0 0, .slice none 0 0]) rfl rfl 41 _ HSB.out (by rw [info_item]; rfl) rfl (by simp [Value.oneCell']) ?_
          obtain ⟨wd, hwd⟩ : ∃ w, wb.setRow wD.heap.size (#[.int .i64 0, .string ⟨#[]⟩, .int .i64 0, .string ⟨#[]⟩, .string ⟨#[]⟩, .int .i64 0, .int .i64 0, .int .i64 0, .bool false, .string ⟨#[]⟩, .int .i64 0, .bool false, .string ⟨#[]⟩, .slice none 0 0, .string ⟨#[]⟩, .string ⟨#[]⟩, .int .i64 0, .int .i64 0, .string ⟨#[]⟩, .string ⟨#[]⟩, .bool false, .string ⟨#[]⟩, .string ⟨#[]⟩, .bool false, .bool false, .bool false, .bool false, .bool false, .bool false, .bool false, .slice none 0 0, .slice none 0 0, .slice none 0 0]) = w := ⟨_, rfl⟩
          rw [hwd]
          have HSD : Hid (wd.heap[wD.heap.size]? = some (.cells (#[.int .i64 0, .string ⟨#[]⟩, .int .i64 0, .string ⟨#[]⟩, .string ⟨#[]⟩, .int .i64 0, .int .i64 0, .int .i64 0, .bool false, .string ⟨#[]⟩, .int .i64 0, .bool false, .string ⟨#[]⟩, .slice none 0 0, .string ⟨#[]⟩, .string ⟨#[]⟩, .int .i64 0, .int .i64 0, .string ⟨#[]⟩, .string ⟨#[]⟩, .bool false, .string ⟨#[]⟩, .string ⟨#[]⟩, .bool false, .bool false, .bool false, .bool false, .bool false, .bool false, .bool false, .slice none 0 0, .slice none 0 0, .slice none 0 0]) 41 (0, 0))) := by rw [← hwd]; exact blk_row HSB.out _
          have HFS : Hid (Fr (fun _ => False) wr wd) := by rw [← hwd]; exact HFB.out.setRow (.inr (Nat.le_of_eq HSD0.out.symm)) _
          clear hwd
          refine hK.out _ _ trivial ?_
          clear hK K
          simp only [Act.put, List.setIfInBounds_toArray, List.set_cons_zero, List.set_cons_succ, Reg.Kept]
          refine' Reg.G.pure (i := 14) (v := _) rfl (by rfl) (by kernel_rfl) (by kernel_rfl) (by kernel_rfl) (fun _ _ _ h => h) ?hyu21 ?rehyu21
          case hyu21 => exact fun w => by first | (go_simp; done) | (go_simp; with_reducible rfl)
          simp only [Act.put, List.setIfInBounds_toArray, List.set_cons_zero, List.set_cons_succ]
          refine Reg.G.done (by kernel_rfl) ?_
          clear HSB HSD
          go_wp2_with fail
          go_ret
          exact ⟨by rw [HR.out]; rfl, HD.out.fr.trans (HFS.out.mono (fun _ _ h => h.elim)), fun h2 hh => by rw [HR.out] at hh; cases hh⟩
        | some s =>
          have HR : Hid (define (envD l) h = some { hk with num := s.h.num, unit := s.h.unit, sum := [] }) := HD.out.rest.trans (rest2_yes HS.out (by rw [env_sum, hsp]; rfl))
          have HSO : Hid (s.cells.toArray.all (·.oneCell') = true) := HO.out s (List.mem_of_find?_eq_some hsp)
          rw [hsp] at hl
          refine Reg.G.start (by kernel_rfl) ?_
          obtain ⟨wD, hD⟩ : ∃ w, wr.drew = w := ⟨_, rfl⟩
          have HFD : Hid (Fr (fun _ => False) wr wD) := by rw [← hD]; exact (Fr.refl _ wr).drew
          have HSD0 : Hid (wD.heap.size = wr.heap.size) := by show _ = _; rw [← hD]; rfl
          rw [hD]
          clear hD
          refine' Reg.G.pure (i := 0) (v := _) rfl (by rfl) (by kernel_rfl) (by kernel_rfl) (by kernel_rfl) (fun _ _ _ h => h) ?hyv22 ?rehyv22
          case hyv22 => exact fun w => by first | (go_simp; done) | (go_simp; with_reducible rfl)
          simp only [Act.put, List.setIfInBounds_toArray, List.set_cons_zero, List.set_cons_succ]
          refine' Reg.G.pure (i := 1) (v := _) rfl (by rfl) (by kernel_rfl) (by kernel_rfl) (by kernel_rfl) (fun _ _ _ h => h) ?hyv23 ?rehyv23
          case hyv23 => exact fun w => by first | (go_simp; done) | (go_simp; with_reducible rfl)
          simp only [Act.put, List.setIfInBounds_toArray, List.set_cons_zero, List.set_cons_succ]
          refine' Reg.G.pure (i := 2) (v := _) rfl (by rfl) (by kernel_rfl) (by kernel_rfl) (by kernel_rfl) (fun _ _ _ h => h) ?hyv24 ?rehyv24
          case hyv24 => exact fun w => by first | (go_simp; done) | (go_simp; with_reducible rfl)
          simp only [Act.put, List.setIfInBounds_toArray, List.set_cons_zero, List.set_cons_succ]
          refine' Reg.G.take (i := 3) (v := _) (F := (fun w => Fr (fun _ => False) wr w)) rfl (by rfl) (by kernel_rfl) (by kernel_rfl) (by kernel_rfl) (fun _ _ _ h => h) (HFD.out) ?hyv25 ?rehyv25
          case hyv25 => intro w hw; have kc : w.cell? ⟨B + 8, 2, none⟩ = some (.map (some (B + 2))) := (cell_of_blk (HEr.out.fr hw (fun _ _ _ h => h)).blk 2).trans rfl; clear hw; first | (go_simp; done) | (go_simp; with_reducible rfl)
          simp only [Act.put, List.setIfInBounds_toArray, List.set_cons_zero, List.set_cons_succ]
          refine' Reg.G.pure (i := 4) (v := _) rfl (by rfl) (by kernel_rfl) (by kernel_rfl) (by kernel_rfl) (fun _ _ _ h => h) ?hyv26 ?rehyv26
          case hyv26 => exact fun w => by first | (go_simp; done) | (go_simp; with_reducible rfl)
          simp only [Act.put, List.setIfInBounds_toArray, List.set_cons_zero, List.set_cons_succ]
          refine' Reg.G.pure (i := 5) (v := _) rfl (by rfl) (by kernel_rfl) (by kernel_rfl) (by kernel_rfl) (fun _ _ _ h => h) ?hyv27 ?rehyv27
          case hyv27 => exact fun w => by first | (go_simp; done) | (go_simp; with_reducible rfl)
          simp only [Act.put, List.setIfInBounds_toArray, List.set_cons_zero, List.set_cons_succ]
          refine' Reg.G.pure (i := 6) (v := _) rfl (by rfl) (by kernel_rfl) (by kernel_rfl) (by kernel_rfl) (fun _ _ _ h => h) ?hyv28 ?rehyv28
          case hyv28 => exact fun w => by first | (go_simp; done) | (go_simp; with_reducible rfl)
          simp only [Act.put, List.setIfInBounds_toArray, List.set_cons_zero, List.set_cons_succ]
          refine' Reg.G.take (i := 7) (v := _) (F := (fun w => Fr (fun _ => False) wr w)) rfl (by rfl) (by kernel_rfl) (by kernel_rfl) (by kernel_rfl) (fun _ _ _ h => h) (HFD.out) ?hyv29 ?rehyv29
          case hyv29 => intro w hw; have kc : w.cell? ⟨gc, 19, none⟩ = some (.string ⟨hk.sum.toArray⟩) := (cell_of_blk (hw.blk HD.out.blk (fun h => h)) 19).trans rfl; clear hw; first | (go_simp; done) | (go_simp; with_reducible rfl)
          simp only [Act.put, List.setIfInBounds_toArray, List.set_cons_zero, List.set_cons_succ]
          refine' Reg.G.take (i := 8) (v := _) (F := (fun w => Fr (fun _ => False) wr w)) rfl (by rfl) (by kernel_rfl) (by kernel_rfl) (by kernel_rfl) (fun _ _ _ h => h) (HFD.out) ?hyv30 ?rehyv30
          case hyv30 => intro w hw; have kc := hl.out w hw; clear hw; first | (go_simp; done) | (go_simp; with_reducible rfl)
          simp only [Act.put, List.setIfInBounds_toArray, List.set_cons_zero, List.set_cons_succ]
          refine' Reg.G.pure (i := 9) (v := _) rfl (by rfl) (by kernel_rfl) (by kernel_rfl) (by kernel_rfl) (fun _ _ _ h => h) ?hyv31 ?rehyv31
          case hyv31 => exact fun w => by first | (go_simp; done) | (go_simp; with_reducible rfl)
          simp only [Act.put, List.setIfInBounds_toArray, List.set_cons_zero, List.set_cons_succ]
          refine' Reg.G.pure (i := 10) (v := _) rfl (by rfl) (by kernel_rfl) (by kernel_rfl) (by kernel_rfl) (fun _ _ _ h => h) ?hyv32 ?rehyv32
          case hyv32 => exact fun w => by first | (go_simp; done) | (go_simp; with_reducible rfl)
          simp only [Act.put, List.setIfInBounds_toArray, List.set_cons_zero, List.set_cons_succ]
          refine' Reg.G.pure (i := 11) (v := _) rfl (by rfl) (by kernel_rfl) (by kernel_rfl) (by kernel_rfl) (fun _ _ _ h => h) ?hyv33 ?rehyv33
          case hyv33 => exact fun w => by first | (go_simp; done) | (go_simp; with_reducible rfl)
          simp only [Act.put, List.setIfInBounds_toArray, List.set_cons_zero, List.set_cons_succ]
          refine Reg.G.step (j := 12) (m := [true, true, true]) [8, 7, 3] rfl (by kernel_rfl) rfl (by kernel_rfl) (fun K hK => ?_)
          go_simp
          obtain ⟨wb, hwb⟩ : ∃ w, (wD).alloc (.cells #[.int .i64 0, .string ⟨#[]⟩, .int .i64 0, .string ⟨#[]⟩, .string ⟨#[]⟩, .int .i64 0, .int .i64 0, .int .i64 0, .bool false, .string ⟨#[]⟩, .int .i64 0, .bool false, .string ⟨#[]⟩, .slice none 0 0, .string ⟨#[]⟩, .string ⟨#[]⟩, .int .i64 0, .int .i64 0, .string ⟨#[]⟩, .string ⟨#[]⟩, .bool false, .string ⟨#[]⟩, .string ⟨#[]⟩, .bool false, .bool false, .bool false, .bool false, .bool false, .bool false, .bool false, .slice none 0 0, .slice none 0 0, .slice none 0 0] 41) = w := ⟨_, rfl⟩
          rw [hwb]
          have HSB : Hid (wb.heap[wD.heap.size]? = some (.cells #[.int .i64 0, .string ⟨#[]⟩, .int .i64 0, .string ⟨#[]⟩, .string ⟨#[]⟩, .int .i64 0, .int .i64 0, .int .i64 0, .bool false, .string ⟨#[]⟩, .int .i64 0, .bool false, .string ⟨#[]⟩, .slice none 0 0, .string ⟨#[]⟩, .string ⟨#[]⟩, .int .i64 0, .int .i64 0, .string ⟨#[]⟩, .string ⟨#[]⟩, .bool false, .string ⟨#[]⟩, .string ⟨#[]⟩, .bool false, .bool false, .bool false, .bool false, .bool false, .bool false, .bool false, .slice none 0 0, .slice none 0 0, .slice none 0 0] 41 (0, 0))) := by rw [← hwb]; exact blk_newn rfl
          have HFB : Hid (Fr (fun _ => False) wr wb) := by rw [← hwb]; exact HFD.out.alloc _
          clear hwb
          refine hK.out _ _ ⟨HFB.out, HFB.out, HFB.out, trivial⟩ ?_
          clear hK K
          simp only [Act.put, List.setIfInBounds_toArray, List.set_cons_zero, List.set_cons_succ, Reg.Kept]
          refine Reg.G.step (j := 13) (m := [false, false, false]) [8, 7, 3] rfl (by kernel_rfl) rfl (by kernel_rfl) (fun K hK => ?_)
          refine wp_store_row 41 _ _ rfl wD.heap.size (s.cells.toArray) rfl rfl 41 _ HSB.out (info_it s) (cells_size s).symm HSO.out ?_
          obtain ⟨wd, hwd⟩ : ∃ w, wb.setRow wD.heap.size (s.cells.toArray) = w := ⟨_, rfl⟩
          rw [hwd]
          have HSD : Hid (wd.heap[wD.heap.size]? = some (.cells (s.cells.toArray) 41 (0, 0))) := by rw [← hwd]; exact blk_row HSB.out _
          have HFS : Hid (Fr (fun _ => False) wr wd) := by rw [← hwd]; exact HFB.out.setRow (.inr (Nat.le_of_eq HSD0.out.symm)) _
          clear hwd
          refine hK.out _ _ trivial ?_
          clear hK K
          simp only [Act.put, List.setIfInBounds_toArray, List.set_cons_zero, List.set_cons_succ, Reg.Kept]
          refine' Reg.G.pure (i := 14) (v := _) rfl (by rfl) (by kernel_rfl) (by kernel_rfl) (by kernel_rfl) (fun _ _ _ h => h) ?hyv34 ?rehyv34
          case hyv34 => exact fun w => by first | (go_simp; done) | (go_simp; with_reducible rfl)
          simp only [Act.put, List.setIfInBounds_toArray, List.set_cons_zero, List.set_cons_succ]
          refine Reg.G.done (by kernel_rfl) ?_
          go_upto_region 14 with fail
          refine Reg.G.start (by kernel_rfl) ?_
          obtain ⟨wE, hD⟩ : ∃ w, wd.drew = w := ⟨_, rfl⟩
          have HFE : Hid (Fr (fun g => g = gc) wd wE) := by rw [← hD]; exact (Fr.refl _ wd).drew
          have HBE : Hid (wE.heap[gc]? = some (.cells (icells hk c d n i).toArray 41 (0, 0))) := by rw [← hD]; exact HFS.out.blk HD.out.blk (fun h => h)
          rw [hD]
          clear hD
          refine' Reg.G.pure (i := 0) (v := _) rfl (by rfl) (by kernel_rfl) (by kernel_rfl) (by kernel_rfl) (fun _ _ _ h => h) ?hyq35 ?rehyq35
          case hyq35 => exact fun w => by first | (go_simp; done) | (go_simp; with_reducible rfl)
          simp only [Act.put, List.setIfInBounds_toArray, List.set_cons_zero, List.set_cons_succ]
          refine' Reg.G.pure (i := 1) (v := _) rfl (by rfl) (by kernel_rfl) (by kernel_rfl) (by kernel_rfl) (fun _ _ _ h => h) ?hyq36 ?rehyq36
          case hyq36 => exact fun w => by first | (go_simp; done) | (go_simp; with_reducible rfl)
          simp only [Act.put, List.setIfInBounds_toArray, List.set_cons_zero, List.set_cons_succ]
          refine' Reg.G.pure (i := 2) (v := _) rfl (by rfl) (by kernel_rfl) (by kernel_rfl) (by kernel_rfl) (fun _ _ _ h => h) ?hyq37 ?rehyq37
          case hyq37 => exact fun w => by first | (go_simp; done) | (go_simp; with_reducible rfl)
          simp only [Act.put, List.setIfInBounds_toArray, List.set_cons_zero, List.set_cons_succ]
          refine' Reg.G.pure (i := 3) (v := _) rfl (by rfl) (by kernel_rfl) (by kernel_rfl) (by kernel_rfl) (fun _ _ _ h => h) ?hyq38 ?rehyq38
          case hyq38 => exact fun w => by first | (go_simp; done) | (go_simp; with_reducible rfl)
          simp only [Act.put, List.setIfInBounds_toArray, List.set_cons_zero, List.set_cons_succ]
          refine' Reg.G.take (i := 4) (v := _) (F := (fun w => Fr (fun g => g = gc) wd w)) rfl (by rfl) (by kernel_rfl) (by kernel_rfl) (by kernel_rfl) (fun _ _ _ h => h) (HFE.out) ?hyq39 ?rehyq39
          case hyq39 => intro w hw; have kc0 : w.cell? ⟨wD.heap.size, 16, none⟩ = some (.int .i64 s.h.num.num) := by { rw [cell_of_blk (hw.blk HSD.out (fun e => by have h1 := HSD0.out; have h2 := lt_of_blk HD.out.blk; omega)), DT.cells_eq]; rfl }; have kc1 : w.cell? ⟨wD.heap.size, 17, none⟩ = some (.int .i64 s.h.num.den) := by { rw [cell_of_blk (hw.blk HSD.out (fun e => by have h1 := HSD0.out; have h2 := lt_of_blk HD.out.blk; omega)), DT.cells_eq]; rfl }; clear hw; first | (go_simp; done) | (go_simp; with_reducible rfl)
          simp only [Act.put, List.setIfInBounds_toArray, List.set_cons_zero, List.set_cons_succ]
          refine' Reg.G.pure (i := 5) (v := _) rfl (by rfl) (by kernel_rfl) (by kernel_rfl) (by kernel_rfl) (fun _ _ _ h => h) ?hyq40 ?rehyq40
          case hyq40 => exact fun w => by first | (go_simp; done) | (go_simp; with_reducible rfl)
          simp only [Act.put, List.setIfInBounds_toArray, List.set_cons_zero, List.set_cons_succ]
          refine' Reg.G.take (i := 6) (v := _) (F := (fun w => Fr (fun g => g = gc) wd w)) rfl (by rfl) (by kernel_rfl) (by kernel_rfl) (by kernel_rfl) (fun _ _ _ h => h) (HFE.out) ?hyq41 ?rehyq41
          case hyq41 => intro w hw; have kc0 : w.cell? ⟨wD.heap.size, 18, none⟩ = some (.string ⟨s.h.unit.toArray⟩) := by { rw [cell_of_blk (hw.blk HSD.out (fun e => by have h1 := HSD0.out; have h2 := lt_of_blk HD.out.blk; omega)), DT.cells_eq]; rfl }; clear hw; first | (go_simp; done) | (go_simp; with_reducible rfl)
          simp only [Act.put, List.setIfInBounds_toArray, List.set_cons_zero, List.set_cons_succ]
          refine' Reg.G.pure (i := 7) (v := _) rfl (by rfl) (by kernel_rfl) (by kernel_rfl) (by kernel_rfl) (fun _ _ _ h => h) ?hyq42 ?rehyq42
          case hyq42 => exact fun w => by first | (go_simp; done) | (go_simp; with_reducible rfl)
          simp only [Act.put, List.setIfInBounds_toArray, List.set_cons_zero, List.set_cons_succ]
          refine' Reg.G.pure (i := 8) (v := _) rfl (by rfl) (by kernel_rfl) (by kernel_rfl) (by kernel_rfl) (fun _ _ _ h => h) ?hyq43 ?rehyq43
          case hyq43 => exact fun w => by first | (go_simp; done) | (go_simp; with_reducible rfl)
          simp only [Act.put, List.setIfInBounds_toArray, List.set_cons_zero, List.set_cons_succ]
          refine Reg.G.step (j := 9) (m := [true, false]) [6, 4] rfl (by kernel_rfl) rfl (by kernel_rfl) (fun K hK => ?_)
          have e0 : wE.cell? ⟨gc, 16, none⟩ = some (.int .i64 hk.num.num) := (cell_of_blk HBE.out 16).trans rfl
          have e1 : wE.cell? ⟨gc, 17, none⟩ = some (.int .i64 hk.num.den) := (cell_of_blk HBE.out 17).trans rfl
          have f0 := froz_of_blk HBE.out 16
          have f1 := froz_of_blk HBE.out 17
          go_simp
          obtain ⟨we1, hwe⟩ : ∃ w, (wE.setCell ⟨gc, 16, none⟩ (.int .i64 s.h.num.num)).setCell ⟨gc, 17, none⟩ (.int .i64 s.h.num.den) = w := ⟨_, rfl⟩
          rw [hwe]
          have HB1 : Hid (we1.heap[gc]? = some (.cells (icells { hk with num := s.h.num } c d n i).toArray 41 (0, 0))) := by rw [← hwe]; exact blk_set (blk_set HBE.out 16 _) 17 _
          have HF1 : Hid (Fr (fun g => g = gc) wd we1) := by rw [← hwe]; exact (HFE.out.setb 16 _).setb 17 _
          clear hwe e0 e1 f0 f1
          refine hK.out _ _ ⟨HF1.out, trivial⟩ ?_
          clear hK K
          simp only [Act.put, List.setIfInBounds_toArray, List.set_cons_zero, List.set_cons_succ, Reg.Kept]
          refine' Reg.G.pure (i := 10) (v := _) rfl (by rfl) (by kernel_rfl) (by kernel_rfl) (by kernel_rfl) (fun _ _ _ h => h) ?hyq44 ?rehyq44
          case hyq44 => exact fun w => by first | (go_simp; done) | (go_simp; with_reducible rfl)
          simp only [Act.put, List.setIfInBounds_toArray, List.set_cons_zero, List.set_cons_succ]
          refine' Reg.G.pure (i := 11) (v := _) rfl (by rfl) (by kernel_rfl) (by kernel_rfl) (by kernel_rfl) (fun _ _ _ h => h) ?hyq45 ?rehyq45
          case hyq45 => exact fun w => by first | (go_simp; done) | (go_simp; with_reducible rfl)
          simp only [Act.put, List.setIfInBounds_toArray, List.set_cons_zero, List.set_cons_succ]
          refine Reg.G.step (j := 12) (m := [false]) [6] rfl (by kernel_rfl) rfl (by kernel_rfl) (fun K hK => ?_)
          have e0 : we1.cell? ⟨gc, 18, none⟩ = some (.string ⟨hk.unit.toArray⟩) := (cell_of_blk HB1.out 18).trans rfl
          have f0 := froz_of_blk HB1.out 18
          go_simp
          obtain ⟨we2, hwe⟩ : ∃ w, we1.setCell ⟨gc, 18, none⟩ (.string ⟨s.h.unit.toArray⟩) = w := ⟨_, rfl⟩
          rw [hwe]
          have HB2 : Hid (we2.heap[gc]? = some (.cells (icells { hk with num := s.h.num, unit := s.h.unit } c d n i).toArray 41 (0, 0))) := by rw [← hwe]; exact blk_set HB1.out 18 _
          have HF2 : Hid (Fr (fun g => g = gc) wd we2) := by rw [← hwe]; exact HF1.out.setb 18 _
          clear hwe e0 f0
          refine hK.out _ _ trivial ?_
          clear hK K
          simp only [Act.put, List.setIfInBounds_toArray, List.set_cons_zero, List.set_cons_succ, Reg.Kept]
          refine' Reg.G.pure (i := 13) (v := _) rfl (by rfl) (by kernel_rfl) (by kernel_rfl) (by kernel_rfl) (fun _ _ _ h => h) ?hyq46 ?rehyq46
          case hyq46 => exact fun w => by first | (go_simp; done) | (go_simp; with_reducible rfl)
          simp only [Act.put, List.setIfInBounds_toArray, List.set_cons_zero, List.set_cons_succ]
          refine' Reg.G.pure (i := 14) (v := _) rfl (by rfl) (by kernel_rfl) (by kernel_rfl) (by kernel_rfl) (fun _ _ _ h => h) ?hyq47 ?rehyq47
          case hyq47 => exact fun w => by first | (go_simp; done) | (go_simp; with_reducible rfl)
          simp only [Act.put, List.setIfInBounds_toArray, List.set_cons_zero, List.set_cons_succ]
          refine Reg.G.step (j := 15) (m := []) [] rfl (by kernel_rfl) rfl (by kernel_rfl) (fun K hK => ?_)
          have e0 : we2.cell? ⟨gc, 19, none⟩ = some (.string ⟨hk.sum.toArray⟩) := (cell_of_blk HB2.out 19).trans rfl
          have f0 := froz_of_blk HB2.out 19
          go_simp
          obtain ⟨we3, hwe⟩ : ∃ w, we2.setCell ⟨gc, 19, none⟩ (.string ⟨#[]⟩) = w := ⟨_, rfl⟩
          rw [hwe]
          have HB3 : Hid (we3.heap[gc]? = some (.cells (icells { hk with num := s.h.num, unit := s.h.unit, sum := [] } c d n i).toArray 41 (0, 0))) := by rw [← hwe]; exact blk_set HB2.out 19 _
          have HF3 : Hid (Fr (fun g => g = gc) wd we3) := by rw [← hwe]; exact HF2.out.setb 19 _
          clear hwe e0 f0
          refine hK.out _ _ trivial ?_
          clear hK K
          simp only [Act.put, List.setIfInBounds_toArray, List.set_cons_zero, List.set_cons_succ, Reg.Kept]
          refine Reg.G.done (by kernel_rfl) ?_
          go_wp2_with fail
          go_ret
          refine ⟨by rw [HR.out]; rfl, (HD.out.fr.trans (HFS.out.mono (fun _ _ h => h.elim))).trans HF3.out, fun h2 hh => ?_⟩
          rw [HR.out] at hh
          injection hh with hh
          subst hh
          exact HB3.out
end Go.Proofs.Yticakdajhmfpoaa.Ic
