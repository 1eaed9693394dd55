/-
  Include: what Expand returns.
-/
import Derived.Test.YticakdajhmfpoaaIncExam
import Derived.Test.YticakdajhmfpoaaIncSmall
namespace Go.Proofs.Yticakdajhmfpoaa.Ic
open Go.RowKit Mem Vw Rs
open Go.ChangeMaps (setBlock)
set_option linter.unusedVariables false
set_option linter.unusedSimpArgs false

theorem results_two {fn : Func} {r k : Nat} {T : TypeId} (hf : fn.results = #[.cell r T, .tmp k]) {tmps : Array Value} {w : World} {g : Nat} {cs : Array Value} {t : TypeId} {d : TypeDesc} {v2 : Value} (ht : tmps.getD r undef = .pointer (some ⟨g, 0, none⟩)) (hk : tmps.getD k undef = v2) (hg : w.heap[g]? = some (.cells cs t (0, 0)))
    (hu : Try.prog.underlying T = some d) (hd : d.isRow = true) (hi : (Try.prog.info? T).map (·.size) = some cs.size) : (results fn tmps).run Try.prog w = .ok (.tuple #[.agg cs, v2]) w := by
  have ht' : tmps[r]?.getD undef = .pointer (some ⟨g, 0, none⟩) := by simpa using ht
  have hk' : tmps[k]?.getD undef = v2 := by simpa using hk
  have hl := run_loadVar_row (P := Try.prog) w g t T cs (0, 0) d hg hu (by cases d <;> first | rfl | exact hd) hi
  unfold results
  rw [hf]
  simp [ht', hk', asAddr, hl]
def faultc (f : Fault) : List Value := [.int .i64 f.err, .int .i64 f.pos]
theorem faultc_len (l : List Fault) : ∀ x ∈ l, (faultc x).length = 2 := fun _ _ => rfl
theorem info_fault : (Try.prog.info? 62).map (fun i => (i.zero, i.size, i.bytes)) = some (some (.agg #[.int .i64 0, .int .i64 0]), 2, 16) := by kernel_rfl
theorem info_src (n : Rs.Bytes) (c : Civil) (d : Int) (v : Value) : (Try.prog.info? 26).map (·.size) = some (scells n c d v).toArray.size := by
  show _ = some 6
  kernel_rfl
theorem bsl_fault (a b : Int) (w : World) : (Instr.buildSlice 29 1 #[(0, .agg #[.int .i64 a, .int .i64 b])]).run Try.prog w = .ok (.slice (some ⟨w.heap.size, 0, none⟩) 1 1) (w.alloc (.cells #[.int .i64 a, .int .i64 b] 62)) := by kernel_rfl
/-- A source as a value. -/
def srcT (s : Rs.Source) (l : List DT) : Src := ⟨s.name, s.frm, s.days, l.map DT.tree⟩
/-- What Expand returns. -/
def ExpR (s : Rs.Source) (l : List DT) (W : World) (e : Ending) (w' : World) : Prop :=
  ∃ (iv fv : Value) (ds : List DT), e = .returned (.tuple #[.agg (scells (expand (srcT s l)).1.name (expand (srcT s l)).1.frm (expand (srcT s l)).1.days iv).toArray, fv]) ∧ ds.map DT.tree = (expand (srcT s l)).1.items ∧ LayL (fun g => W.heap.size ≤ g) w' ds iv ∧ RowB (fun g => W.heap.size ≤ g) w' fv 2 ((expand (srcT s l)).2.map faultc) ∧ Fr (fun _ => False) W w'
theorem run_drop {E : Env} {l : List DT} {k : Nat} {y : DT} (h : l[k]? = some y) (s : St) (f : List Fault) :
    run E ((l.take k).map DT.tree) ((l.drop k).map DT.tree) s f = if 600 < (examine E ((l.take k).map DT.tree) y.tree s).2.count then ((examine E ((l.take k).map DT.tree) y.tree s).2, if (examine E ((l.take k).map DT.tree) y.tree s).1 = 0 then f else f ++ [⟨(examine E ((l.take k).map DT.tree) y.tree s).1, y.h.pos⟩])
      else run E ((l.take (k + 1)).map DT.tree) ((l.drop (k + 1)).map DT.tree) (examine E ((l.take k).map DT.tree) y.tree s).2 (if (examine E ((l.take k).map DT.tree) y.tree s).1 = 0 then f else f ++ [⟨(examine E ((l.take k).map DT.tree) y.tree s).1, y.h.pos⟩]) := by
  obtain ⟨h1, h2⟩ := List.getElem?_eq_some_iff.1 h
  rw [List.drop_eq_getElem_cons h1, h2, List.map_cons, run, List.take_add_one, h, DT.tree_h]
  simp only [List.map_append, Option.toList_some, List.map_cons, List.map_nil]
/-- What the loop of Expand holds. -/
structure ExpS (l : List DT) (B : Nat) (w2 : World) (k : Nat) (f : List Fault) (fv : Value) (cnt : Nat) (iv : Value) (ds : List DT) (wr : World) : Prop where
  run : run (envD l) ((l.take k).map DT.tree) ((l.drop k).map DT.tree) ⟨cnt, ds.map DT.tree⟩ f = Ic.run (envD l) [] (l.map DT.tree) ⟨0, []⟩ []
  inv : Inv ⟨cnt, ds.map DT.tree⟩
  le : cnt ≤ 600
  xs : XS (f = []) B l [] (l.take k) cnt iv ds wr
  own : wr.ownsRow (B + 9) 62 2 fv f.length (f.flatMap faultc)
  ap : ∀ g, iv.ownBlock = some g → fv.ownBlock ≠ some g
  len : f.length ≤ k
  fr : Fr (fun _ => False) w2 wr
/-- The last state of the loop. -/
structure ExpE (l : List DT) (B : Nat) (w2 : World) (f : List Fault) (fv : Value) (cnt : Nat) (iv : Value) (ds : List DT) (wr : World) : Prop where
  run : (⟨cnt, ds.map DT.tree⟩, f) = Ic.run (envD l) [] (l.map DT.tree) ⟨0, []⟩ []
  sn : ∃ sn, XS (f = []) B l [] sn cnt iv ds wr
  inv : Inv ⟨cnt, ds.map DT.tree⟩
  own : wr.ownsRow (B + 9) 62 2 fv f.length (f.flatMap faultc)
  fr : Fr (fun _ => False) w2 wr
theorem ex_inv {E : Env} {sn : List Tree} {x : Tree} {s : St} (h : Inv s) : Inv (examine E sn x s).2 := examine_inv h
/-- The faults get one more. -/
theorem XS.flt {f : List Fault} {B : Nat} {l : List DT} {op : List Rs.Bytes} {sn : List DT} {cnt : Nat} {iv fv : Value} {ds : List DT} {w w' : World} (h : XS (f = []) B l op sn cnt iv ds w) (a : Fault) (hg : w.grownBy w' fv.ownBlock) (hb : ∀ g, fv.ownBlock = some g → B + 9 ≤ g) (ha : ∀ g, iv.ownBlock = some g → fv.ownBlock ≠ some g) : XS (f ++ [a] = []) B l op sn cnt iv ds w' := by
  have hf := Fr.of_grown hg
  refine ⟨h.ex.fr hf (fun g h1 h2 e => by have := hb g e; omega), own_grown h.own hg ha, fun e => ?_⟩
  simp at e
-- WALK
theorem one_srcz : (scells [] ⟨0, 0, 0⟩ 0 Vw.nil).toArray.all (·.oneCell') = true := by simp [scells, Value.oneCell', sv, nv, Vw.nil]
theorem one_src (n : Rs.Bytes) (c : Civil) (d : Int) (A : Option Addr) (k cp : Nat) : (scells n c d (.slice A k cp)).toArray.all (·.oneCell') = true := by simp [scells, Value.oneCell', sv, nv]
theorem tok_of {l : List DT} (hs : ∀ x ∈ l, Sh x) (hc : ∀ z ∈ l, z.h.kind = 13 → ∀ y ∈ z.l, ∀ c ∈ y.h.conds, c.name.length ≤ 140737488355328) (hz : tsz l ≤ 600) : ∀ z ∈ l, z.h.kind = 13 → TOk z := fun z hz1 hk => by
  have h1 := hs z hz1
  have h2 := tsz_lt hz1
  have h3 : z.l.length ≤ tsz z.l := by
    have := length_sizes (trees z.l)
    rw [trees_map, List.length_map] at this
    unfold tsz
    rw [trees_map]; exact this
  refine ⟨by have := h1.lens.1; omega, by omega, fun y hy => Sh.short _ y (Nat.le_refl _) (h1.inner y hy) (by have := tsz_lt hy; omega), fun y hy => by have := (h1.inner y hy).lens.2.2.2; omega, hc z hz1 hk⟩
theorem own_frb {S : Nat → Prop} {w w1 : World} {base : Nat} {e : TypeId} {size : Nat} {v : Value} {n : Nat} {xs : List Value} (h : w.ownsRow base e size v n xs) (hf : Fr S w w1) (hs : ∀ k, v.ownBlock = some k → ¬ S k) : w1.ownsRow base e size v n xs := by
  refine ⟨h.1, ?_⟩
  rcases h.2 with h2 | ⟨g, cap, cur, hv, hg, hh, r⟩
  · exact .inl h2
  · exact .inr ⟨g, cap, cur, hv, hg, hf.blk hh (hs g (by rw [hv]; rfl)), r⟩
theorem LayL.nil (B : Nat → Prop) (W : World) : LayL B W [] Vw.nil := ⟨RowB.nil B W 33, fun x hx => absurd hx (List.not_mem_nil)⟩
theorem own_zero {w : World} {base : Nat} {e : TypeId} {size : Nat} {v : Value} {n : Nat} {xs : List Value} (h : w.ownsRow base e size v n xs) {g o : Nat} {k c : Nat} (hv : v = .slice (some ⟨g, o, none⟩) k c) : (Value.slice (some ⟨g, o, none⟩) k c).ownBlock = some g := by
  subst hv
  obtain ⟨_, h2⟩ := h
  rcases h2 with ⟨h2, _⟩ | ⟨g', cap, cur, h3, _⟩
  · cases h2
  · injection h3 with h3 _ _; injection h3 with h3; injection h3 with h3 h4 _
    subst h3; subst h4
    rfl
theorem exp_big {s : Rs.Source} {l : List DT} (h : 600 < tsz l) : expand (srcT s l) = (zero, [⟨3, 0⟩]) := by
  unfold expand
  exact if_pos (by show 600 < sizes (l.map DT.tree); rw [← trees_map]; exact h)
theorem exp_flt {s : Rs.Source} {l : List DT} {c : Nat} {ds : List DT} {f : List Fault} (h : tsz l ≤ 600) (hr : (⟨c, ds.map DT.tree⟩, f) = Ic.run (envD l) [] (l.map DT.tree) ⟨0, []⟩ []) (hf : f ≠ []) : expand (srcT s l) = (zero, f) := by
  unfold expand
  rw [if_neg (by show ¬ 600 < sizes (l.map DT.tree); rw [← trees_map]; show ¬ 600 < tsz l; omega)]
  rw [show Ic.run (env (srcT s l).items) [] (srcT s l).items ⟨0, []⟩ [] = _ from hr.symm]
  exact if_neg hf
theorem exp_ok {s : Rs.Source} {l : List DT} {c : Nat} {ds : List DT} (h : tsz l ≤ 600) (hr : (⟨c, ds.map DT.tree⟩, []) = Ic.run (envD l) [] (l.map DT.tree) ⟨0, []⟩ []) : expand (srcT s l) = (srcT s ds, []) := by
  unfold expand
  rw [if_neg (by show ¬ 600 < sizes (l.map DT.tree); rw [← trees_map]; show ¬ 600 < tsz l; omega)]
  rw [show Ic.run (env (srcT s l).items) [] (srcT s l).items ⟨0, []⟩ [] = _ from hr.symm]
  exact if_pos rfl
set_option maxRecDepth 100000 in
set_option maxHeartbeats 8000000 in
theorem expand_any (s : Rs.Source) (l : List DT) (v : Value) (W : World) (hL : LayL (fun g => g < W.heap.size) W l v) (hsh : ∀ x ∈ l, Sh x) (hC : ∀ z ∈ l, z.h.kind = 13 → ∀ y ∈ z.l, ∀ c ∈ y.h.conds, c.name.length ≤ 140737488355328) :
    Calls Try.prog 11 #[.agg (scells s.name s.frm s.days v).toArray] W (ExpR s l W) := by
  obtain ⟨w0, HW0⟩ : ∃ w0, Hid (W.alloc (.cells (scells s.name s.frm s.days v).toArray 26) = w0) := ⟨_, rfl⟩
  obtain ⟨w1, HW1⟩ : ∃ w1, Hid (w0.alloc (.cells #[.string ⟨#[]⟩, .int .i64 0, .int .i64 0, .int .i64 0, .int .i64 0, .slice none 0 0] 26) = w1) := ⟨_, rfl⟩
  have HF1 : Hid (Fr (fun _ => False) W w1) := by rw [← HW1.out, ← HW0.out]; exact ((Fr.refl _ W).alloc _).alloc _
  have HSB1 : Hid (w1.heap[W.heap.size]? = some (.cells (scells s.name s.frm s.days v).toArray 26 (0, 0))) := by rw [← HW1.out, ← HW0.out]; exact blk_alloc (blk_newn rfl) _
  have HRB1 : Hid (w1.heap[W.heap.size + 1]? = some (.cells (scells [] ⟨0, 0, 0⟩ 0 Vw.nil).toArray 26 (0, 0))) := by rw [← HW1.out, ← HW0.out]; exact blk_newn (by simp)
  have HS0 : Hid (w0.heap.size = W.heap.size + 1) := by show _ = _; rw [← HW0.out]; simp
  have HS1 : Hid (w1.heap.size = W.heap.size + 2) := by show _ = _; rw [← HW1.out, ← HW0.out]; simp
  have HL1 : Hid (LayL (fun g => g < W.heap.size) w1 l v) := hL.fr HF1.out (fun _ _ h => h)
  obtain ⟨A, cp, hv, hc1, hc2⟩ := hL.slice
  subst hv
  have k5 : w1.cell? ⟨W.heap.size, 5, none⟩ = some (.slice A l.length cp) := (cell_of_blk HSB1.out 5).trans rfl
  have HNUM := Lib.hid (number_any (tsz l) l _ 600 w1 (Nat.le_refl _) (HL1.out.mono (fun g hg _ => hg)) (by omega) (by omega))
  have HSH := Lib.hid hsh; have HCC := Lib.hid hC
  clear hL hsh hC
  go_enter Try.func11, Try.ntmps11
  go_upto_region 1 with fail
  rw [HW0.out, HW1.out]
  go_wp2_with fail
  refine HNUM.out.mono ?_
  rintro e w2 ⟨c, rfl, hnum, hf2⟩
  have HN := Lib.hid hnum
  have HF2 : Hid (Fr (fun _ => False) W w2) := HF1.out.trans hf2
  have HSB2 : Hid (w2.heap[W.heap.size]? = some (.cells (scells s.name s.frm s.days (.slice A l.length cp)).toArray 26 (0, 0))) := hf2.blk HSB1.out (fun h => h)
  have HRB2 : Hid (w2.heap[W.heap.size + 1]? = some (.cells (scells [] ⟨0, 0, 0⟩ 0 Vw.nil).toArray 26 (0, 0))) := hf2.blk HRB1.out (fun h => h)
  have HL2 : Hid (LayL (fun g => g < W.heap.size) w2 l (.slice A l.length cp)) := HL1.out.fr hf2 (fun _ _ h => h)
  have HZB : Hid (W.heap.size + 2 ≤ w2.heap.size) := by have h1 := hf2.size; have h2 := HS1.out; show _ ≤ _; omega
  clear hnum hf2 HNUM k5 HSB1 HRB1 HL1 HS1 HW1 HW0 HF1 HS0
  by_cases hbig : 600 < tsz l
  · have hgt : (600 : Int) < (c : Int) := HN.out.2.1 (by omega)
    have ha := Lib.hid (exp_big (s := s) hbig)
    have HRB := HRB2
    clear hbig
    go_upto_region 2 with fail
    iterate 10 go_step
    obtain ⟨wx, hwx⟩ : ∃ w, w2.alloc (.cells #[.int .i64 3, .int .i64 0] 62) = w := ⟨_, rfl⟩
    rw [hwx]
    have HFX : Hid (Fr (fun _ => False) w2 wx) := by rw [← hwx]; exact (Fr.refl _ w2).alloc _
    have HNB : Hid (wx.heap[w2.heap.size]? = some (.cells ([[.int .i64 3, .int .i64 0]] : List (List Value)).flatten.toArray 62 (0, 0))) := by rw [← hwx]; exact blk_newn rfl
    have HRB : Hid (wx.heap[W.heap.size + 1]? = some (.cells (scells [] ⟨0, 0, 0⟩ 0 Vw.nil).toArray 26 (0, 0))) := HFX.out.blk HRB2.out (fun h => h)
    clear hwx
    refine wpList_store_row rfl 26 _ _ rfl (W.heap.size + 1) (scells [] ⟨0, 0, 0⟩ 0 Vw.nil).toArray rfl rfl 26 _ HRB.out (info_src _ _ _ _) rfl one_srcz ?_
    simp only [Act.put, List.setIfInBounds_toArray, List.set_cons_zero, List.set_cons_succ]
    obtain ⟨w9, hw9⟩ : ∃ w9, wx.setRow (W.heap.size + 1) (scells [] ⟨0, 0, 0⟩ 0 Vw.nil).toArray = w9 := ⟨_, rfl⟩
    rw [hw9]
    have HB9 : Hid (w9.heap[W.heap.size + 1]? = some (.cells (scells [] ⟨0, 0, 0⟩ 0 Vw.nil).toArray 26 (0, 0))) := by rw [← hw9]; exact blk_row HRB.out _
    have HF9 : Hid (Fr (fun j => j = W.heap.size + 1) wx w9) := by rw [← hw9]; exact (Fr.refl (fun j => j = W.heap.size + 1) wx).setRow (.inl rfl) _
    clear hw9
    go_wp2_with fail
    refine bodyPost_ret (v := .tuple #[.agg (scells [] ⟨0, 0, 0⟩ 0 Vw.nil).toArray, .slice (some ⟨w2.heap.size, 0, none⟩) 1 1]) (results_two Try.results11 rfl rfl HB9.out Try.underlying26 rfl (info_src _ _ _ _)) rfl ?_
    refine ⟨Vw.nil, .slice (some ⟨w2.heap.size, 0, none⟩) 1 1, [], by rw [ha.out]; rfl, by rw [ha.out]; rfl, LayL.nil _ _, ?_, ?_⟩
    · rw [ha.out]
      have h1 := HF9.out.blk HNB.out (fun e => by have := HZB.out; omega)
      exact RowB.new (xs := [[.int .i64 3, .int .i64 0]]) (fun x hx => by simp only [List.mem_cons, List.not_mem_nil, or_false] at hx; subst hx; rfl) (by decide) h1 (by have := HZB.out; omega)
    · exact (HF2.out.trans HFX.out).trans' HF9.out (fun g hg e => by omega)
  have HTS : Hid (tsz l ≤ 600) := by show _ ≤ _; omega
  have hle : (c : Int) ≤ 600 := by have := HN.out.1 (by have := HTS.out; omega); have := HTS.out; omega
  have HLL : Hid (l.length ≤ 600) := by have := length_sizes (trees l); rw [trees_map, List.length_map, ← trees_map] at this; exact Nat.le_trans this HTS.out
  clear hbig
  have k5 : w2.cell? ⟨W.heap.size, 5, none⟩ = some (.slice A l.length cp) := (cell_of_blk HSB2.out 5).trans rfl
  have HNX := Lib.hid (new_any l (.slice A l.length cp) w2 (HL2.out.mono (fun g hg _ => by have := HZB.out; omega)) (by have := HLL.out; omega))
  go_wp2_with fail
  refine HNX.out.mono ?_
  rintro e w3 ⟨rfl, hex, hf3⟩
  have HEX := Lib.hid hex; have HF3 := Lib.hid hf3
  have HSB3 : Hid (w3.heap[W.heap.size]? = some (.cells (scells s.name s.frm s.days (.slice A l.length cp)).toArray 26 (0, 0))) := hf3.blk HSB2.out (fun h => h)
  clear hex hf3 HNX k5
  have k5 : w3.cell? ⟨W.heap.size, 5, none⟩ = some (.slice A l.length cp) := (cell_of_blk HSB3.out 5).trans rfl
  obtain ⟨B, hB⟩ : ∃ B, w2.heap.size = B := ⟨_, rfl⟩
  rw [hB] at HEX
  rw [hB]
  have HB := Lib.hid hB
  have HX0 : Hid (ExpS l B w2 0 [] (.slice none 0 0) 0 (.slice none 0 0) [] w3) := by
    refine ⟨rfl, ⟨fun x hx => absurd hx (List.not_mem_nil), Nat.le_refl _⟩, by omega, ⟨HEX.out, World.ownsRow_nil _ _ _ _, fun _ d hd => absurd hd (List.not_mem_nil)⟩, World.ownsRow_nil _ _ _ _, fun g h => by simp [Value.ownBlock] at h, Nat.le_refl _, HF3.out⟩
  clear hB HEX
  go_wp2_with fail
  go_loopw [5, 22] (fun fv i wr => ∃ (k : Nat) (f : List Fault) (cnt : Nat) (iv : Value) (ds : List DT), i = .int .i64 k ∧ k ≤ l.length ∧ Hid (ExpS l B w2 k f fv cnt iv ds wr)) (fun _ i _ => l.length - (intOf i).toNat)
  case atStart => exact ⟨0, [], 0, _, [], rfl, Nat.zero_le _, HX0⟩
  case round =>
    clear k5 HX0
    obtain ⟨k, f, cnt, iv, ds, rfl, hk, HS⟩ := hrel
    have i1 : (0 : Int) ≤ (k : Int) := Int.natCast_nonneg _
    by_cases hlt : k < l.length
    · obtain ⟨y, hy⟩ : ∃ y, l[k]? = some y := ⟨_, List.getElem?_eq_getElem hlt⟩
      have i2 : (k : Int) < (l.length : Int) := by omega
      have HLr : Hid (LayL (fun g => g < W.heap.size) wr l (.slice A l.length cp)) := (HL2.out.fr HS.out.fr (fun _ _ h => h))
      obtain ⟨g, o, hA, hg, hgB, hat⟩ := HLr.out.at hy
      subst hA
      have HAT := Lib.hid hat
      have HLY : Hid (Lay (fun g => g < W.heap.size) wr y) := HLr.out.lay y (List.mem_of_getElem? hy)
      have HYM : Hid (y ∈ l) := List.mem_of_getElem? hy
      have HY := Lib.hid hy
      have HKK := Lib.hid hlt
      have HRUN := Lib.hid (HS.out.run.symm.trans (run_drop hy _ f))
      have HTAKE : Hid (l.take k ++ [y] = l.take (k + 1)) := by show _ = _; rw [List.take_add_one, hy]; rfl
      clear hat hg hgB hy hlt
      go_upto_region 7 with fail
      iterate 4 go_step
      refine wpList_load_mid rfl 41 _ rfl g (o + k * 33) rfl y.cells _ HAT.out Try.underlying41 rfl (info_itl y) ?_
      simp only [Act.put, List.setIfInBounds_toArray, List.set_cons_zero, List.set_cons_succ]
      iterate 3 go_step
      refine wpList_store_row rfl 41 _ _ rfl wr.heap.size y.cells.toArray rfl rfl 41 _ (blk_newn rfl) (info_it y) (cells_size y).symm HLY.out.one ?_
      simp only [Act.put, List.setIfInBounds_toArray, List.set_cons_zero, List.set_cons_succ]
      rw [World.setRow_alloc_new]
      obtain ⟨u, hu⟩ : ∃ u, wr.alloc (.cells y.cells.toArray 41) = u := ⟨_, rfl⟩
      rw [hu]
      have HYB : Hid (u.heap[wr.heap.size]? = some (.cells y.cells.toArray 41 (0, 0))) := by rw [← hu]; exact blk_newn rfl
      have HFU : Hid (Fr (fun _ => False) wr u) := by rw [← hu]; exact (Fr.refl _ wr).alloc _
      clear hu
      have HBW : Hid (W.heap.size + 2 ≤ B) := by have h1 := HB.out; have h2 := HZB.out; show _ ≤ _; omega
      have HXU : Hid (XS (f = []) B l [] (l.take k) cnt iv ds u) := HS.out.xs.fr HFU.out (fun _ _ _ h => h)
      have HLU : Hid (∀ z ∈ l, Lay (fun g => g < B) u z) := fun z hz => ((HLr.out.lay z hz).fr HFU.out (fun _ _ h => h)).mono (fun g _ hg => by have := HBW.out; omega)
      have HTK : Hid (∀ z ∈ l, z.h.kind = 13 → TOk z) := tok_of HSH.out HCC.out HTS.out
      have HEXM := Lib.hid (examine_any y u HXU.out (HLU.out y HYM.out) HLU.out HTK.out (Sh.short _ y (Nat.le_refl _) (HSH.out y HYM.out) (by have := tsz_lt HYM.out; have := HTS.out; omega)) (by have := (HSH.out y HYM.out).lens.2.2.2; omega) (by have := HS.out.le; omega) HS.out.inv)
      obtain ⟨er, her⟩ : ∃ er, (examine (envD l) ((l.take k).map DT.tree) y.tree ⟨cnt, ds.map DT.tree⟩).1 = er := ⟨_, rfl⟩
      obtain ⟨s2, hs2⟩ : ∃ s2, (examine (envD l) ((l.take k).map DT.tree) y.tree ⟨cnt, ds.map DT.tree⟩).2 = s2 := ⟨_, rfl⟩
      have HINV : Hid (Inv s2) := by rw [← hs2]; exact examine_inv HS.out.inv
      have HLE : Hid (er = 0 → s2.count ≤ 600) := fun h => by rw [← hs2]; exact examine_le HS.out.le (her.trans h)
      have HRS : Hid (examine (envD l) ((l.take k).map DT.tree) y.tree ⟨cnt, ds.map DT.tree⟩ = (er, s2)) := Prod.ext her hs2
      rw [her, hs2] at HRUN
      rw [HRS.out] at HEXM
      clear her hs2
      have HYL : Hid (y.cells[2]? = some (.int .i64 y.h.pos)) := by rw [DT.cells_eq]; rfl
      go_upto_region 8 with fail
      iterate 4 go_step
      refine wpList_load_row rfl 41 _ rfl wr.heap.size rfl 41 y.cells.toArray (0, 0) _ HYB.out Try.underlying41 rfl (info_it y) ?_
      simp only [Act.put, List.setIfInBounds_toArray, List.set_cons_zero, List.set_cons_succ]
      go_wp2_with fail
      refine HEXM.out.mono ?_
      rintro e w4 ⟨rfl, hst⟩
      obtain ⟨⟨iv', ds', q1, q2, q3⟩, q4⟩ := hst
      obtain ⟨c2, out2⟩ := s2
      dsimp only at q1 q2
      subst q2
      have HX4 : Hid (XS (f = []) B l [] (l.take (k + 1)) c2 iv' ds' w4) := by rw [← HTAKE.out]; exact q1
      have HIVL : Hid (∀ g, iv.ownBlock = some g → g < wr.heap.size ∧ B + 9 ≤ g) := fun g hg => by have := own_lt HS.out.xs.own g hg; exact ⟨this.2, this.1⟩
      have HB8 : Hid (B + 8 < wr.heap.size) := lt_of_blk HS.out.xs.ex.blk
      have HF4 : Hid (Fr (SX B iv) wr w4) := (HFU.out.mono (fun _ _ h => h.elim)).trans q4
      have HYB4 : Hid (w4.heap[wr.heap.size]? = some (.cells y.cells.toArray 41 (0, 0))) := q4.blk HYB.out (fun h => by
        rcases h with h | h
        · have := HB8.out; omega
        · have := (HIVL.out _ h).1; omega)
      have HFW : Hid (Fr (fun _ => False) w2 w4) := HS.out.fr.trans' HF4.out (fun g hg h => by
        rcases h with h | h
        · have := HB.out; omega
        · have h1 := (HIVL.out _ h).2; have := HB.out; omega)
      have HOW4 : Hid (w4.ownsRow (B + 9) 62 2 u5 f.length (f.flatMap faultc)) := own_frb HS.out.own HF4.out (fun g hg h => by
        rcases h with h | h
        · have := (own_lt HS.out.own g hg).1; omega
        · exact HS.out.ap g h hg)
      have HAP4 : Hid (∀ g, iv'.ownBlock = some g → (u5 : Value).ownBlock ≠ some g) := fun g hg h => by
        rcases q3 g hg with h1 | h1
        · exact HS.out.ap g h1 h
        · have h2 := (own_lt HS.out.own g h).2; have := HFU.out.size; omega
      clear q1 q3 q4 HEXM
      have kc : w4.cell? ⟨B + 8, 5, none⟩ = some (.int .i64 c2) := (cell_of_blk HX4.out.ex.blk 5).trans rfl
      by_cases he : er = 0
      · have hc6 : (c2 : Int) ≤ 600 := by have := HLE.out he; dsimp only at this; omega
        have HNX : Hid (ExpS l B w2 (k + 1) f u5 c2 iv' ds' w4) := by
          have h := HRUN.out
          rw [if_neg (by show ¬ 600 < c2; omega), if_pos he] at h
          exact ⟨h.symm, HINV.out, by omega, HX4.out, HOW4.out, HAP4.out, Nat.le_succ_of_le HS.out.len, HFW.out⟩
        subst he
        go_wp2_with fail
        go_roundw
        case rel => exact ⟨k + 1, f, c2, iv', ds', by go_num, HKK.out, HNX⟩
        case measure => have := HKK.out; simp [intOf]; omega
      · have k2 : w4.cell? ⟨wr.heap.size, 2, none⟩ = some (.int .i64 y.h.pos) := by rw [cell_of_blk HYB4.out, List.getElem?_toArray]; exact HYL.out
        have hb1 : (er != 0) = true := by simpa using he
        obtain ⟨i0, hi, hz0, hz1, hz2⟩ := info_parts info_fault
        obtain ⟨Af, cf, hfe⟩ := own_form HOW4.out
        subst hfe
        have hfl6 := HS.out.len
        have HER := Lib.hid he
        have HLL' := HLL
        clear he
        go_upto_region 10 with fail
        iterate 19 go_step
        obtain ⟨w5, hw5⟩ : ∃ w5, w4.alloc (.cells #[.int .i64 er, .int .i64 y.h.pos] 62) = w5 := ⟨_, rfl⟩
        rw [hw5]
        have HF5 : Hid (Fr (fun _ => False) w4 w5) := by rw [← hw5]; exact (Fr.refl _ w4).alloc _
        have hsz5 : w5.heap.size = w4.heap.size + 1 := by rw [← hw5]; simp
        have HNEW : Hid (∀ j u, ([.int .i64 er, .int .i64 y.h.pos] : List Value)[j]? = some u → w5.cell? ((⟨w4.heap.size, 0, none⟩ : Addr).add j) = some u) := by
          rw [← hw5]; exact World.news_of_block (cs := #[.int .i64 er, .int .i64 y.h.pos]) (t := 62) (fr := (0, 0)) (heap_alloc_new w4 _)
        have HX5 : Hid (XS (f = []) B l [] (l.take (k + 1)) c2 iv' ds' w5) := HX4.out.fr HF5.out (fun _ _ _ h => h)
        have HOW5 : Hid (w5.ownsRow (B + 9) 62 2 (.slice Af f.length cf) f.length (f.flatMap faultc)) := own_fr HOW4.out HF5.out (fun _ _ _ h => h)
        have hB5 : B + 9 ≤ w5.heap.size := by have := lt_of_blk HX5.out.ex.blk; omega
        have hl600 : f.length ≤ 600 := by have h1 := HLL.out; have h2 := HKK.out; omega
        clear hw5
        refine wpList_append_lies _ rfl (.tmp 31) (.tmp 36) 29 rfl (B + 9) 62 i0 _ 2 16 Try.underlying29 hi hz0 hz1 hz2 rfl (by decide) (.slice Af f.length cf) f.length (f.flatMap faultc) rfl HOW5.out ⟨w4.heap.size, 0, none⟩ 1 1 [.int .i64 er, .int .i64 y.h.pos] rfl rfl HNEW.out (by simp [Value.oneCell']) (by decide) (by simp only [maxLen]; omega) (by omega) hB5 (w4.heap.size + 1) hsz5 ?_
        intro gn cap w6 g1 g2 g3 g4
        have HFL : Hid (∀ j, (Value.slice Af f.length cf).ownBlock = some j → B + 9 ≤ j ∧ j < w4.heap.size) := fun j hj => own_lt HOW4.out j hj
        have HX6 : Hid (XS (f ++ [(⟨er, y.h.pos⟩ : Fault)] = []) B l [] (l.take (k + 1)) c2 iv' ds' w6) := HX5.out.flt ⟨er, y.h.pos⟩ g2 (fun g hg => (HFL.out g hg).1) HAP4.out
        have HFW6 : Hid (Fr (fun _ => False) w2 w6) := (HFW.out.trans HF5.out).grown g2 (fun j hj => .inr (by have := (HFL.out j hj).1; have := HB.out; omega))
        have HOW6 : Hid (w6.ownsRow (B + 9) 62 2 (.slice (some ⟨gn, 0, none⟩) (f.length + 1) cap) (f ++ [(⟨er, y.h.pos⟩ : Fault)]).length ((f ++ [(⟨er, y.h.pos⟩ : Fault)]).flatMap faultc)) := by
          have e1 : (f ++ [(⟨er, y.h.pos⟩ : Fault)]).flatMap faultc = f.flatMap faultc ++ [.int .i64 er, .int .i64 y.h.pos] := by simp [faultc]
          have e2 : (f ++ [(⟨er, y.h.pos⟩ : Fault)]).length = f.length + 1 := by simp
          rw [e1, e2]
          exact g1
        have HAP6 : Hid (∀ g, iv'.ownBlock = some g → (Value.slice (some ⟨gn, 0, none⟩) (f.length + 1) cap).ownBlock ≠ some g) := fun g hg h => by
          have h1 : gn = g := by simpa [Value.ownBlock] using h
          subst h1
          rcases g3 with g3 | g3
          · exact HAP4.out _ hg g3
          · have := (own_lt HX4.out.own _ hg).2; have := HF5.out.size; omega
        have kc : w6.cell? ⟨B + 8, 5, none⟩ = some (.int .i64 c2) := (cell_of_blk HX6.out.ex.blk 5).trans rfl
        clear g1 g2 g3 g4
        by_cases hbr : 600 < c2
        · have hgt : (600 : Int) < (c2 : Int) := by omega
          obtain ⟨fv6, hfv6⟩ : ∃ v, Value.slice (some ⟨gn, 0, none⟩) (f.length + 1) cap = v := ⟨_, rfl⟩
          obtain ⟨f6, hf6⟩ : ∃ f6, f ++ [(⟨er, y.h.pos⟩ : Fault)] = f6 := ⟨_, rfl⟩
          have HE : Hid (ExpE l B w2 f6 fv6 c2 iv' ds' w6) := by
            have h := HRUN.out
            rw [if_pos hbr, if_neg HER.out, hf6] at h
            rw [← hfv6]
            rw [hf6] at HX6 HOW6
            exact ⟨h.symm, ⟨_, HX6.out⟩, HINV.out, HOW6.out, HFW6.out⟩
          have hf : f6 ≠ [] := by rw [← hf6]; simp
          have hlen : f.length + 1 = f6.length := by rw [← hf6]; simp
          rw [hfv6]
          clear hbr kc hfl6 HER hf6
          have kc : w6.cell? ⟨B + 8, 5, none⟩ = some (.int .i64 c2) := by obtain ⟨sn, hx⟩ := HE.out.sn; exact (cell_of_blk hx.ex.blk 5).trans rfl
          clear hfv6 hlen
          have hown := HE.out.own
          obtain ⟨Af, cf, hfe⟩ := own_form hown
          subst hfe
          have i3 : (0 : Int) < (f6.length : Int) := by have := List.length_pos_iff.2 hf; omega
          have HRB : Hid (w6.heap[W.heap.size + 1]? = some (.cells (scells [] ⟨0, 0, 0⟩ 0 Vw.nil).toArray 26 (0, 0))) := HE.out.fr.blk HRB2.out (fun h => h)
          have HNF := Lib.hid hf
          clear hown hf
          go_upto_region 14 with fail
          iterate 7 go_step
          refine wpList_store_row rfl 26 _ _ rfl (W.heap.size + 1) (scells [] ⟨0, 0, 0⟩ 0 Vw.nil).toArray rfl rfl 26 _ HRB.out (info_src _ _ _ _) rfl one_srcz ?_
          simp only [Act.put, List.setIfInBounds_toArray, List.set_cons_zero, List.set_cons_succ]
          obtain ⟨w9, hw9⟩ : ∃ w9, w6.setRow (W.heap.size + 1) (scells [] ⟨0, 0, 0⟩ 0 Vw.nil).toArray = w9 := ⟨_, rfl⟩
          rw [hw9]
          have HB9 : Hid (w9.heap[W.heap.size + 1]? = some (.cells (scells [] ⟨0, 0, 0⟩ 0 Vw.nil).toArray 26 (0, 0))) := by rw [← hw9]; exact blk_row HRB.out _
          have HF9 : Hid (Fr (fun j => j = W.heap.size + 1) w6 w9) := by rw [← hw9]; exact (Fr.refl (fun j => j = W.heap.size + 1) w6).setRow (.inl rfl) _
          clear hw9
          go_wp2_with fail
          refine bodyPost_ret (v := .tuple #[.agg (scells [] ⟨0, 0, 0⟩ 0 Vw.nil).toArray, .slice Af f6.length cf]) (results_two Try.results11 rfl rfl HB9.out Try.underlying26 rfl (info_src _ _ _ _)) rfl ?_
          have ha : expand (srcT s l) = (zero, f6) := exp_flt HTS.out HE.out.run HNF.out
          refine ⟨Vw.nil, .slice Af f6.length cf, [], by rw [ha]; rfl, by rw [ha]; rfl, LayL.nil _ _, ?_, ?_⟩
          · rw [ha]
            have h1 := own_fr HE.out.own HF9.out (fun k hk _ e => by have h5 := HZB.out; have h6 := HB.out; omega)
            refine ⟨Row.of_own h1 (faultc_len f6), fun g o n c e hne => ?_⟩
            have h2 := own_lt h1 g (by rw [e]; exact own_zero h1 e)
            have h5 := HZB.out; have h6 := HB.out; omega
          · exact (HF2.out.trans' HE.out.fr (fun _ _ h => h)).trans' HF9.out (fun g hg e => by omega)
        · have hle6 : (c2 : Int) ≤ 600 := by omega
          have HNX : Hid (ExpS l B w2 (k + 1) (f ++ [(⟨er, y.h.pos⟩ : Fault)]) (.slice (some ⟨gn, 0, none⟩) (f.length + 1) cap) c2 iv' ds' w6) := by
            have h := HRUN.out
            rw [if_neg (by show ¬ 600 < c2; omega), if_neg HER.out] at h
            exact ⟨h.symm, HINV.out, by omega, HX6.out, HOW6.out, HAP6.out, by rw [List.length_append]; have := HS.out.len; simp; omega, HFW6.out⟩
          clear hbr
          go_wp2_with fail
          go_roundw
          case rel => exact ⟨k + 1, _, c2, iv', ds', by go_num, HKK.out, HNX⟩
          case measure => have := HKK.out; simp [intOf]; omega
    · obtain rfl : k = l.length := by omega
      have HE : Hid (ExpE l B w2 f u5 cnt iv ds wr) := by
        have h := HS.out
        have hr := h.run
        rw [List.drop_length] at hr
        exact ⟨hr, ⟨_, h.xs⟩, h.inv, h.own, h.fr⟩
      by_cases hf : f = []
      · subst hf
        have ha := Lib.hid (exp_ok (s := s) HTS.out HE.out.run)
        obtain ⟨Ai, ci, hiv⟩ := HS.out.xs.lens
        subst hiv
        have hown := HE.out.own
        obtain ⟨Af, cf, hfe⟩ := own_form hown
        subst hfe
        have HSB : Hid (wr.heap[W.heap.size]? = some (.cells (scells s.name s.frm s.days (.slice A l.length cp)).toArray 26 (0, 0))) := HS.out.fr.blk HSB2.out (fun h => h)
        have HRB : Hid (wr.heap[W.heap.size + 1]? = some (.cells (scells [] ⟨0, 0, 0⟩ 0 Vw.nil).toArray 26 (0, 0))) := HS.out.fr.blk HRB2.out (fun h => h)
        clear hown
        have HFR : Hid (Fr (fun _ => False) wr wr.drew) := (Fr.refl _ wr).drew
        go_upto_region 15 with fail
        refine Reg.G.start (by kernel_rfl) ?_
        refine' Reg.G.pure (i := 0) (v := _) rfl (by rfl) (by kernel_rfl) (by kernel_rfl) (by kernel_rfl) (fun _ _ _ h => h) ?hyk1 ?rehyk1
        case hyk1 => exact fun w => by first | (go_simp; done) | (go_simp; with_reducible rfl)
        simp only [Act.put, List.setIfInBounds_toArray, List.set_cons_zero, List.set_cons_succ]
        refine' Reg.G.take (i := 1) (v := _) (F := (fun w => Fr (fun _ => False) wr w)) rfl (by rfl) (by kernel_rfl) (by kernel_rfl) (by kernel_rfl) (fun _ _ _ h => h) (HFR.out) ?hyk2 ?rehyk2
        case hyk2 => intro w hw; have k0 : w.cell? ⟨W.heap.size, 0, none⟩ = some (.string ⟨s.name.toArray⟩) := (cell_of_blk (hw.blk HSB.out (fun h => h)) 0).trans rfl; clear hw; first | (go_simp; done) | (go_simp; with_reducible rfl)
        simp only [Act.put, List.setIfInBounds_toArray, List.set_cons_zero, List.set_cons_succ]
        refine' Reg.G.pure (i := 2) (v := _) rfl (by rfl) (by kernel_rfl) (by kernel_rfl) (by kernel_rfl) (fun _ _ _ h => h) ?hyk3 ?rehyk3
        case hyk3 => exact fun w => by first | (go_simp; done) | (go_simp; with_reducible rfl)
        simp only [Act.put, List.setIfInBounds_toArray, List.set_cons_zero, List.set_cons_succ]
        refine' Reg.G.take (i := 3) (v := _) (F := (fun w => Fr (fun _ => False) wr w)) rfl (by rfl) (by kernel_rfl) (by kernel_rfl) (by kernel_rfl) (fun _ _ _ h => h) (HFR.out) ?hyk4 ?rehyk4
        case hyk4 => intro w hw; have k1 : w.cell? ⟨W.heap.size, 1, none⟩ = some (.int .i64 s.frm.y) := (cell_of_blk (hw.blk HSB.out (fun h => h)) 1).trans rfl; have k2 : w.cell? ⟨W.heap.size, 2, none⟩ = some (.int .i64 s.frm.m) := (cell_of_blk (hw.blk HSB.out (fun h => h)) 2).trans rfl; have k3 : w.cell? ⟨W.heap.size, 3, none⟩ = some (.int .i64 s.frm.d) := (cell_of_blk (hw.blk HSB.out (fun h => h)) 3).trans rfl; clear hw; first | (go_simp; done) | (go_simp; with_reducible rfl)
        simp only [Act.put, List.setIfInBounds_toArray, List.set_cons_zero, List.set_cons_succ]
        refine' Reg.G.pure (i := 4) (v := _) rfl (by rfl) (by kernel_rfl) (by kernel_rfl) (by kernel_rfl) (fun _ _ _ h => h) ?hyk5 ?rehyk5
        case hyk5 => exact fun w => by first | (go_simp; done) | (go_simp; with_reducible rfl)
        simp only [Act.put, List.setIfInBounds_toArray, List.set_cons_zero, List.set_cons_succ]
        refine' Reg.G.take (i := 5) (v := _) (F := (fun w => Fr (fun _ => False) wr w)) rfl (by rfl) (by kernel_rfl) (by kernel_rfl) (by kernel_rfl) (fun _ _ _ h => h) (HFR.out) ?hyk6 ?rehyk6
        case hyk6 => intro w hw; have k4 : w.cell? ⟨W.heap.size, 4, none⟩ = some (.int .i64 s.days) := (cell_of_blk (hw.blk HSB.out (fun h => h)) 4).trans rfl; clear hw; first | (go_simp; done) | (go_simp; with_reducible rfl)
        simp only [Act.put, List.setIfInBounds_toArray, List.set_cons_zero, List.set_cons_succ]
        refine' Reg.G.pure (i := 6) (v := _) rfl (by rfl) (by kernel_rfl) (by kernel_rfl) (by kernel_rfl) (fun _ _ _ h => h) ?hyk7 ?rehyk7
        case hyk7 => exact fun w => by first | (go_simp; done) | (go_simp; with_reducible rfl)
        simp only [Act.put, List.setIfInBounds_toArray, List.set_cons_zero, List.set_cons_succ]
        refine' Reg.G.pure (i := 7) (v := _) rfl (by rfl) (by kernel_rfl) (by kernel_rfl) (by kernel_rfl) (fun _ _ _ h => h) ?hyk8 ?rehyk8
        case hyk8 => exact fun w => by first | (go_simp; done) | (go_simp; with_reducible rfl)
        simp only [Act.put, List.setIfInBounds_toArray, List.set_cons_zero, List.set_cons_succ]
        refine' Reg.G.pure (i := 8) (v := _) rfl (by rfl) (by kernel_rfl) (by kernel_rfl) (by kernel_rfl) (fun _ _ _ h => h) ?hyk9 ?rehyk9
        case hyk9 => exact fun w => by first | (go_simp; done) | (go_simp; with_reducible rfl)
        simp only [Act.put, List.setIfInBounds_toArray, List.set_cons_zero, List.set_cons_succ]
        refine' Reg.G.take (i := 9) (v := _) (F := (fun w => Fr (fun _ => False) wr w)) rfl (by rfl) (by kernel_rfl) (by kernel_rfl) (by kernel_rfl) (fun _ _ _ h => h) (HFR.out) ?hyk10 ?rehyk10
        case hyk10 => intro w hw; have k6 : w.cell? ⟨B + 8, 6, none⟩ = some (.slice Ai ds.length ci) := (cell_of_blk (hw.blk HS.out.xs.ex.blk (fun h => h)) 6).trans rfl; clear hw; first | (go_simp; done) | (go_simp; with_reducible rfl)
        simp only [Act.put, List.setIfInBounds_toArray, List.set_cons_zero, List.set_cons_succ]
        refine' Reg.G.pure (i := 10) (v := _) rfl (by rfl) (by kernel_rfl) (by kernel_rfl) (by kernel_rfl) (fun _ _ _ h => h) ?hyk11 ?rehyk11
        case hyk11 => exact fun w => by first | (go_simp; done) | (go_simp; with_reducible rfl)
        simp only [Act.put, List.setIfInBounds_toArray, List.set_cons_zero, List.set_cons_succ]
        refine Reg.G.step (j := 11) (m := [false, false, false, false]) [9, 5, 3, 1] rfl (by kernel_rfl) rfl (by kernel_rfl) (fun K hK => ?_)
        refine wp_store_row 26 _ _ rfl (W.heap.size + 1) (scells s.name s.frm s.days (.slice Ai ds.length ci)).toArray rfl rfl 26 _ (HFR.out.blk HRB.out (fun h => h)) (info_src _ _ _ _) rfl (one_src _ _ _ _ _ _) ?_
        obtain ⟨w9, hw9⟩ : ∃ w9, wr.drew.setRow (W.heap.size + 1) (scells s.name s.frm s.days (.slice Ai ds.length ci)).toArray = w9 := ⟨_, rfl⟩
        rw [hw9]
        have HB9 : Hid (w9.heap[W.heap.size + 1]? = some (.cells (scells s.name s.frm s.days (.slice Ai ds.length ci)).toArray 26 (0, 0))) := by rw [← hw9]; exact blk_row (HFR.out.blk HRB.out (fun h => h)) _
        have HF9 : Hid (Fr (fun j => j = W.heap.size + 1) wr w9) := by rw [← hw9]; exact Fr.setRow (S := fun j => j = W.heap.size + 1) (HFR.out.mono (fun _ _ h => h.elim)) (.inl rfl) _
        clear hw9
        refine hK.out _ _ trivial ?_
        clear hK K
        simp only [Act.put, List.setIfInBounds_toArray, List.set_cons_zero, List.set_cons_succ, Reg.Kept]
        refine' Reg.G.pure (i := 12) (v := _) rfl (by rfl) (by kernel_rfl) (by kernel_rfl) (by kernel_rfl) (fun _ _ _ h => h) ?hyk12 ?rehyk12
        case hyk12 => exact fun w => by first | (go_simp; done) | (go_simp; with_reducible rfl)
        simp only [Act.put, List.setIfInBounds_toArray, List.set_cons_zero, List.set_cons_succ]
        refine Reg.G.done (by kernel_rfl) ?_
        go_wp2_with fail
        refine bodyPost_ret (v := .tuple #[.agg (scells s.name s.frm s.days (.slice Ai ds.length ci)).toArray, .slice none 0 0]) (results_two Try.results11 rfl rfl HB9.out Try.underlying26 rfl (info_src _ _ _ _)) rfl ?_
        have hzb := HZB.out; have hbb := HB.out
        refine ⟨.slice Ai ds.length ci, .slice none 0 0, ds, by rw [ha.out]; rfl, by rw [ha.out]; rfl, ⟨?_, fun d hd => ?_⟩, by rw [ha.out]; exact RowB.nil _ _ _, ?_⟩
        · have h1 := own_fr HS.out.xs.own HF9.out (fun k hk _ e => by omega)
          refine ⟨Row.of_own h1 (fun x _ => x.cells_len), fun g o n c e hne => ?_⟩
          have h2 := own_lt h1 g (by rw [e]; exact own_zero h1 e)
          omega
        · exact ((HS.out.xs.lay rfl d hd).fr HF9.out (fun g hg e => by omega)).mono (fun g _ hg => by omega)
        · exact (HF2.out.trans' HS.out.fr (fun _ _ h => h)).trans' HF9.out (fun g hg e => by omega)
      · have HOK := HTS
        have hown := HE.out.own
        obtain ⟨Af, cf, hfe⟩ := own_form hown
        subst hfe
        have i3 : (0 : Int) < (f.length : Int) := by have := List.length_pos_iff.2 hf; omega
        have HRB : Hid (wr.heap[W.heap.size + 1]? = some (.cells (scells [] ⟨0, 0, 0⟩ 0 Vw.nil).toArray 26 (0, 0))) := HE.out.fr.blk HRB2.out (fun h => h)
        have HNF := Lib.hid hf
        clear hown hf
        go_upto_region 14 with fail
        iterate 7 go_step
        refine wpList_store_row rfl 26 _ _ rfl (W.heap.size + 1) (scells [] ⟨0, 0, 0⟩ 0 Vw.nil).toArray rfl rfl 26 _ HRB.out (info_src _ _ _ _) rfl one_srcz ?_
        simp only [Act.put, List.setIfInBounds_toArray, List.set_cons_zero, List.set_cons_succ]
        obtain ⟨w9, hw9⟩ : ∃ w9, wr.setRow (W.heap.size + 1) (scells [] ⟨0, 0, 0⟩ 0 Vw.nil).toArray = w9 := ⟨_, rfl⟩
        rw [hw9]
        have HB9 : Hid (w9.heap[W.heap.size + 1]? = some (.cells (scells [] ⟨0, 0, 0⟩ 0 Vw.nil).toArray 26 (0, 0))) := by rw [← hw9]; exact blk_row HRB.out _
        have HF9 : Hid (Fr (fun j => j = W.heap.size + 1) wr w9) := by rw [← hw9]; exact (Fr.refl (fun j => j = W.heap.size + 1) wr).setRow (.inl rfl) _
        clear hw9
        go_wp2_with fail
        refine bodyPost_ret (v := .tuple #[.agg (scells [] ⟨0, 0, 0⟩ 0 Vw.nil).toArray, .slice Af f.length cf]) (results_two Try.results11 rfl rfl HB9.out Try.underlying26 rfl (info_src _ _ _ _)) rfl ?_
        have ha : expand (srcT s l) = (zero, f) := exp_flt HTS.out HE.out.run HNF.out
        refine ⟨Vw.nil, .slice Af f.length cf, [], by rw [ha]; rfl, by rw [ha]; rfl, LayL.nil _ _, ?_, ?_⟩
        · rw [ha]
          have h1 := own_fr HE.out.own HF9.out (fun k hk _ e => by have h5 := HZB.out; have h6 := HB.out; omega)
          refine ⟨Row.of_own h1 (faultc_len f), fun g o n c e hne => ?_⟩
          have h2 := own_lt h1 g (by rw [e]; exact own_zero h1 e)
          have h5 := HZB.out; have h6 := HB.out; omega
        · exact (HF2.out.trans' HE.out.fr (fun _ _ h => h)).trans' HF9.out (fun g hg e => by omega)
end Go.Proofs.Yticakdajhmfpoaa.Ic
