/-
  Include: an item of a template, instantiated.
-/
import Derived.Test.YticakdajhmfpoaaIncInst
namespace Go.Proofs.Yticakdajhmfpoaa.Ic
open Go.RowKit Mem Vw Rs
open Go.ChangeMaps (setBlock)
set_option linter.unusedVariables false
set_option linter.unusedSimpArgs false

theorem flat_one (l : List Rs.Bytes) : (l.map fun x => [sv x]).flatten = l.map sv := by
  induction l with
  | nil => rfl
  | cons x l ih => rw [List.map_cons, List.flatten_cons, ih]; rfl
/-- Names of which the first ones are replaced. -/
def mixed {α : Type} (r : α → α) (l : List α) (k : Nat) : List α := (l.take k).map r ++ l.drop k
theorem mixed_len {α : Type} (r : α → α) (l : List α) (k : Nat) : (mixed r l k).length = l.length := by
  unfold mixed
  rw [List.length_append, List.length_map, List.length_take, List.length_drop]; omega
theorem mixed_zero {α : Type} (r : α → α) (l : List α) : mixed r l 0 = l := rfl
theorem mixed_all {α : Type} (r : α → α) (l : List α) : mixed r l l.length = l.map r := by unfold mixed; simp
theorem mixed_get {α : Type} (r : α → α) {l : List α} {k : Nat} {x : α} (h : l[k]? = some x) : (mixed r l k)[k]? = some x := by
  have hk := (List.getElem?_eq_some_iff.1 h).1
  unfold mixed
  rw [List.getElem?_append_right (by simp; omega)]
  simp only [List.length_map, List.length_take, Nat.min_eq_left (Nat.le_of_lt hk), Nat.sub_self, List.getElem?_drop, Nat.add_zero]
  exact h
theorem mixed_next {α : Type} (r : α → α) {l : List α} {k : Nat} {x : α} (h : l[k]? = some x) : (mixed r l k).set k (r x) = mixed r l (k + 1) := by
  obtain ⟨hk, he⟩ := List.getElem?_eq_some_iff.1 h
  unfold mixed
  rw [List.set_append_right _ _ (by simp; omega), List.drop_eq_getElem_cons hk, he]
  simp only [List.length_map, List.length_take, Nat.min_eq_left (Nat.le_of_lt hk), Nat.sub_self, List.set_cons_zero]
  rw [List.take_add_one, h]
  simp
theorem flat_two (l : List Named) : (l.map namedc).flatten = l.flatMap namedc := by rw [List.flatMap_def]
theorem named_set : ∀ (l : List Named) (k : Nat) (x : Named) (v : Rs.Bytes), l[k]? = some x → ((l.map namedc).flatten).set (k * 2) (sv v) = ((l.set k { x with name := v }).map namedc).flatten
  | [], k, x, v, h => by simp at h
  | y :: l, 0, x, v, h => by
    simp only [List.getElem?_cons_zero, Option.some.injEq] at h
    subst h
    rfl
  | y :: l, k + 1, x, v, h => by
    have ih := named_set l k x v (by simpa using h)
    rw [List.set_cons_succ, List.map_cons, List.map_cons, List.flatten_cons, List.flatten_cons, ← ih]
    rw [List.set_append_right _ _ (by show 2 ≤ _; omega)]
    congr 2
    show (k + 1) * 2 - 2 = k * 2
    omega
def off9 : Nat → Nat := fun j => [3, 4, 14, 15, 18, 19, 22, 9, 12].getD j 0
def get9 (j : Nat) (h : Rs.Item) : Rs.Bytes := match j with | 0 => h.of_ | 1 => h.act | 2 => h.by_ | 3 => h.til | 4 => h.unit | 5 => h.sum | 6 => h.to_ | 7 => h.within.name | _ => h.grace.name
def upd9 (j : Nat) (v : Rs.Bytes) (h : Rs.Item) : Rs.Item := match j with
  | 0 => { h with of_ := v } | 1 => { h with act := v } | 2 => { h with by_ := v } | 3 => { h with til := v } | 4 => { h with unit := v } | 5 => { h with sum := v } | 6 => { h with to_ := v } | 7 => { h with within := { h.within with name := v } } | _ => { h with grace := { h.grace with name := v } }
theorem nine {j : Nat} (h : j < 9) : j = 0 ∨ j = 1 ∨ j = 2 ∨ j = 3 ∨ j = 4 ∨ j = 5 ∨ j = 6 ∨ j = 7 ∨ j = 8 := by omega
theorem get9_cell {j : Nat} (h : j < 9) (x : Rs.Item) (c d n i : Value) : (icells x c d n i)[off9 j]? = some (sv (get9 j x)) := by
  rcases nine h with rfl | rfl | rfl | rfl | rfl | rfl | rfl | rfl | rfl <;> rfl
theorem upd9_cell {j : Nat} (h : j < 9) (x : Rs.Item) (v : Rs.Bytes) (c d n i : Value) : (icells x c d n i).toArray.setIfInBounds (off9 j) (sv v) = (icells (upd9 j v x) c d n i).toArray := by
  rcases nine h with rfl | rfl | rfl | rfl | rfl | rfl | rfl | rfl | rfl <;> rfl
def rep9 (r : Rs.Bytes → Rs.Bytes) : Nat → Rs.Item → Rs.Item
  | 0, h => h
  | k + 1, h => upd9 k (r (get9 k (rep9 r k h))) (rep9 r k h)
theorem rep9_all (r : Rs.Bytes → Rs.Bytes) (h : Rs.Item) : rep9 r 9 h = { h with of_ := r h.of_, act := r h.act, by_ := r h.by_, til := r h.til, unit := r h.unit, sum := r h.sum, to_ := r h.to_, within := { h.within with name := r h.within.name }, grace := { h.grace with name := r h.grace.name } } := by
  simp only [rep9, upd9, get9]
def ptrs9 (gc : Nat) : Array Value := #[.pointer (some ⟨gc, 3, none⟩), .pointer (some ⟨gc, 4, none⟩), .pointer (some ⟨gc, 14, none⟩), .pointer (some ⟨gc, 15, none⟩), .pointer (some ⟨gc, 18, none⟩), .pointer (some ⟨gc, 19, none⟩), .pointer (some ⟨gc, 22, none⟩), .pointer (some ⟨gc, 9, none⟩), .pointer (some ⟨gc, 12, none⟩)]
theorem ptrs9_get {gc j : Nat} (h : j < 9) : (ptrs9 gc)[j]? = some (.pointer (some ⟨gc, off9 j, none⟩)) := by
  rcases nine h with rfl | rfl | rfl | rfl | rfl | rfl | rfl | rfl | rfl <;> rfl
theorem ob_names {w : World} {lo : Nat} {v : Value} {r : Rs.Bytes → Rs.Bytes} {ns : List Rs.Bytes} {k : Nat} {x : Rs.Bytes} (h : OB w lo v 9 ((mixed r ns k).map fun x => [sv x])) (hx : ns[k]? = some x) :
    ∃ gn, v = .slice (some ⟨gn, 0, none⟩) ns.length ns.length ∧ lo ≤ gn ∧ gn < w.heap.size ∧ ∀ w', Fr (fun _ => False) w w' → w'.cell? ⟨gn, k, none⟩ = some (.string ⟨x.toArray⟩) ∧ w'.frozen? ⟨gn, k, none⟩ = false ∧ OB (w'.setCell ⟨gn, k, none⟩ (.string ⟨(r x).toArray⟩)) lo v 9 ((mixed r ns (k + 1)).map fun x => [sv x]) := by
  rcases h with ⟨h, _⟩ | ⟨g, h1, h2, h3, h4⟩
  · have h5 := congrArg List.length h
    rw [List.length_map, mixed_len] at h5
    have := (List.getElem?_eq_some_iff.1 hx).1
    rw [List.length_nil] at h5; omega
  · rw [List.length_map, mixed_len] at h3
    rw [flat_one] at h4
    refine ⟨g, h3, h2, lt_of_blk h4, fun w' hf => ?_⟩
    have h5 := hf.blk h4 (fun h => h)
    refine ⟨?_, froz_of_blk h5 k, .inr ⟨g, ?_, h2, ?_, ?_⟩⟩
    · rw [cell_of_blk h5, List.getElem?_toArray, List.getElem?_map, mixed_get r hx]; rfl
    · intro e
      have h6 := congrArg List.length e
      rw [List.length_map, mixed_len] at h6
      have := (List.getElem?_eq_some_iff.1 hx).1
      rw [List.length_nil] at h6; omega
    · rw [List.length_map, mixed_len]; exact h3
    · rw [flat_one, ← mixed_next r hx, List.map_set]
      have h7 := blk_set h5 k (.string ⟨(r x).toArray⟩)
      rw [List.setIfInBounds_toArray] at h7
      exact h7
theorem ob_conds {w : World} {lo : Nat} {v : Value} {f : Named → Rs.Bytes} {ns : List Named} {k : Nat} {x : Named} (h : OB w lo v 57 ((mixed (fun c => { c with name := f c }) ns k).map namedc)) (hx : ns[k]? = some x) :
    ∃ gn, v = .slice (some ⟨gn, 0, none⟩) ns.length ns.length ∧ lo ≤ gn ∧ gn < w.heap.size ∧ ∀ w', Fr (fun _ => False) w w' → w'.cell? ⟨gn, k * 2, none⟩ = some (.string ⟨x.name.toArray⟩) ∧ w'.cell? ⟨gn, k * 2 + 1, none⟩ = some (.int .i64 x.is_) ∧ w'.frozen? ⟨gn, k * 2, none⟩ = false ∧ OB (w'.setCell ⟨gn, k * 2, none⟩ (.string ⟨(f x).toArray⟩)) lo v 57 ((mixed (fun c => { c with name := f c }) ns (k + 1)).map namedc) := by
  rcases h with ⟨h, _⟩ | ⟨g, h1, h2, h3, h4⟩
  · have h5 := congrArg List.length h
    rw [List.length_map, mixed_len] at h5
    have := (List.getElem?_eq_some_iff.1 hx).1
    rw [List.length_nil] at h5; omega
  · rw [List.length_map, mixed_len] at h3
    refine ⟨g, h3, h2, lt_of_blk h4, fun w' hf => ?_⟩
    have h5 := hf.blk h4 (fun h => h)
    have hm := mixed_get (fun c : Named => { c with name := f c }) hx
    have hg : ((mixed (fun c : Named => { c with name := f c }) ns k).map namedc)[k]? = some (namedc x) := by rw [List.getElem?_map, hm]; rfl
    refine ⟨?_, ?_, froz_of_blk h5 _, .inr ⟨g, ?_, h2, ?_, ?_⟩⟩
    · rw [cell_of_blk h5, List.getElem?_toArray]; exact flatten_at named_len k 0 _ _ hg rfl
    · rw [cell_of_blk h5, List.getElem?_toArray]; exact flatten_at named_len k 1 _ _ hg rfl
    · intro e
      have h6 := congrArg List.length e
      rw [List.length_map, mixed_len] at h6
      have := (List.getElem?_eq_some_iff.1 hx).1
      rw [List.length_nil] at h6; omega
    · rw [List.length_map, mixed_len]; exact h3
    · rw [← mixed_next (fun c : Named => { c with name := f c }) hx]
      have h7 := blk_set h5 (k * 2) (.string ⟨(f x).toArray⟩)
      rw [List.setIfInBounds_toArray] at h7
      have h8 := named_set _ k x (f x) hm
      rw [show sv (f x) = Value.string ⟨(f x).toArray⟩ from rfl] at h8
      rw [h8] at h7
      exact h7
theorem instCond_is (t : Tree) (x : Rs.Item) (c : Named) : instCond t x c = { c with name := (instCond t x c).name } := by
  unfold instCond
  split
  · rfl
  · split <;> rfl
/-- What the closure returns. -/
def TinR (t x y : DT) (W : World) (e : Ending) (w' : World) : Prop := ∃ z : DT, e = .returned (.agg z.cells.toArray) ∧ z.tree = inst t.tree x.h y.tree ∧ Lay (fun g => W.heap.size ≤ g) w' z ∧ Fr (fun _ => False) W w'
set_option maxRecDepth 100000 in
set_option maxHeartbeats 8000000 in
theorem tin_any (t x y : DT) (q : IG) (lo : Nat) (W : World) (hI : InsF t.h.names x.h.names x t.l q W) (hy : Lay (fun g => g < W.heap.size) W y) (hs : Short y) (hn : x.h.name.length ≤ 1000000) (hyn : y.h.name.length ≤ 1000000) (hc : ∀ c ∈ y.h.conds, c.name.length ≤ 140737488355328) :
    Calls Try.prog 49 #[.agg y.cells.toArray, .pointer (some ⟨q.gp, 0, none⟩), .pointer (some ⟨q.gr, 0, none⟩), .pointer (some ⟨q.ga, 0, none⟩), .pointer (some ⟨q.gl, 0, none⟩)] W (TinR t x y W) := by
  obtain ⟨w0, HW0⟩ : ∃ w0, Hid ((W.alloc (.cells y.cells.toArray 41)).alloc (.cells #[.int .i64 0, .string ⟨#[]⟩, .int .i64 0, .string ⟨#[]⟩, .string ⟨#[]⟩, .int .i64 0, .int .i64 0, .int .i64 0, .bool false, .string ⟨#[]⟩, .int .i64 0, .bool false, .string ⟨#[]⟩, .slice none 0 0, .string ⟨#[]⟩, .string ⟨#[]⟩, .int .i64 0, .int .i64 0, .string ⟨#[]⟩, .string ⟨#[]⟩, .bool false, .string ⟨#[]⟩, .string ⟨#[]⟩, .bool false, .bool false, .bool false, .bool false, .bool false, .bool false, .bool false, .slice none 0 0, .slice none 0 0, .slice none 0 0] 41) = w0) := ⟨_, rfl⟩
  have S0 : Hid (w0.heap.size = W.heap.size + 2) := by show _ = _; rw [← HW0.out]; simp
  have HF0 : Hid (Fr (fun _ => False) W w0) := by rw [← HW0.out]; exact ((Fr.refl _ W).alloc _).alloc _
  have HB0 : Hid (w0.heap[W.heap.size]? = some (.cells y.cells.toArray 41 (0, 0))) := by rw [← HW0.out]; exact blk_alloc (blk_newn rfl) _
  have HR0 : Hid (w0.heap[W.heap.size + 1]? = some (.cells #[.int .i64 0, .string ⟨#[]⟩, .int .i64 0, .string ⟨#[]⟩, .string ⟨#[]⟩, .int .i64 0, .int .i64 0, .int .i64 0, .bool false, .string ⟨#[]⟩, .int .i64 0, .bool false, .string ⟨#[]⟩, .slice none 0 0, .string ⟨#[]⟩, .string ⟨#[]⟩, .int .i64 0, .int .i64 0, .string ⟨#[]⟩, .string ⟨#[]⟩, .bool false, .string ⟨#[]⟩, .string ⟨#[]⟩, .bool false, .bool false, .bool false, .bool false, .bool false, .bool false, .bool false, .slice none 0 0, .slice none 0 0, .slice none 0 0] 41 (0, 0))) := by rw [← HW0.out]; exact blk_newn (by simp)
  have HI := Lib.hid hI
  have HCP := Lib.hid (copyItem_any (tsz y.l) y _ w0 (Nat.le_refl _) (hy.fr HF0.out (fun _ _ h => h)) hs)
  have HSH := Lib.hid hs.lens; have HN := Lib.hid hn; have HYN := Lib.hid hyn; have HCN := Lib.hid hc
  have HYO := Lib.hid hy.one
  clear hI hy hs hn hyn hc
  obtain ⟨h, yc, yd, yn, yi, l0⟩ := y
  dsimp only [DT.h, DT.l] at HSH HYN HCN
  have HW0 : Hid ((W.alloc (.cells (icells h yc yd yn yi).toArray 41)).alloc (.cells #[.int .i64 0, .string ⟨#[]⟩, .int .i64 0, .string ⟨#[]⟩, .string ⟨#[]⟩, .int .i64 0, .int .i64 0, .int .i64 0, .bool false, .string ⟨#[]⟩, .int .i64 0, .bool false, .string ⟨#[]⟩, .slice none 0 0, .string ⟨#[]⟩, .string ⟨#[]⟩, .int .i64 0, .int .i64 0, .string ⟨#[]⟩, .string ⟨#[]⟩, .bool false, .string ⟨#[]⟩, .string ⟨#[]⟩, .bool false, .bool false, .bool false, .bool false, .bool false, .bool false, .bool false, .slice none 0 0, .slice none 0 0, .slice none 0 0] 41) = w0) := HW0
  have HB0 : Hid (w0.heap[W.heap.size]? = some (.cells (icells h yc yd yn yi).toArray 41 (0, 0))) := HB0
  have HCP : Hid (Calls Try.prog 35 #[.agg (icells h yc yd yn yi).toArray] w0 (Copied (.node h yc yd yn yi l0) w0)) := HCP
  show Calls _ _ #[.agg (icells h yc yd yn yi).toArray, _, _, _, _] _ _
  go_enter Try.func49, Try.ntmps49
  go_upto_region 1 with fail
  rw [HW0.out]
  clear HW0
  iterate 1 go_step
  refine wpList_load_row rfl 41 _ rfl W.heap.size rfl 41 (icells h yc yd yn yi).toArray (0, 0) _ HB0.out Try.underlying41 rfl (by rw [info_item]; rfl) ?_
  simp only [Act.put, List.setIfInBounds_toArray, List.set_cons_zero, List.set_cons_succ]
  go_wp2_with fail
  refine HCP.out.mono ?_
  rintro e w1 ⟨z0, rfl, hz1, hz2, hown, hf⟩
  have HZT := Lib.hid hz1; have HZH := Lib.hid hz2; have HOW := Lib.hid hown; have HF1 := Lib.hid hf
  clear hz1 hz2 hown hf HCP
  obtain ⟨h', c, d, n, i, l⟩ := z0
  obtain rfl : h' = h := HZH.out
  obtain ⟨Ac, hcv⟩ := HOW.out.conds.slice
  obtain ⟨An, hnv⟩ := HOW.out.names.slice
  obtain ⟨Ad, cd, hdv, _, _⟩ := HOW.out.dates.slice
  obtain ⟨Ai, ci, hiv, _, _⟩ := HOW.out.items.row.slice
  dsimp only [DT.c, DT.d, DT.n, DT.i, DT.h, DT.l] at hcv hnv hdv hiv
  rw [List.length_map] at hcv hnv hdv hiv
  subst hcv hnv hdv hiv
  have HTL : Hid (l.map DT.tree = l0.map DT.tree) := by
    have := HZT.out
    rw [tree_node, tree_node] at this
    injection this
  dsimp only [DT.cells]
  have HONE1 : Hid ((icells h' (.slice Ac h'.conds.length h'.conds.length) (.slice Ad h'.dates.length cd) (.slice An h'.names.length h'.names.length) (.slice Ai l.length ci)).toArray.all (·.oneCell') = true) := by show _ = _; simp [icells, Value.oneCell', sv, nv]
  go_upto_region 2 with (refine wpList_store_row rfl 41 _ _ rfl w1.heap.size (icells h' (.slice Ac h'.conds.length h'.conds.length) (.slice Ad h'.dates.length cd) (.slice An h'.names.length h'.names.length) (.slice Ai l.length ci)).toArray rfl rfl 41 _ (blk_newn rfl) (by rw [info_item]; rfl) rfl HONE1.out ?_)
  rw [World.setRow_alloc_new]
  obtain ⟨w2, hw2⟩ : ∃ w, w1.alloc (.cells (icells h' (.slice Ac h'.conds.length h'.conds.length) (.slice Ad h'.dates.length cd) (.slice An h'.names.length h'.names.length) (.slice Ai l.length ci)).toArray 41) = w := ⟨_, rfl⟩
  rw [hw2]
  obtain ⟨gc, hgc⟩ : ∃ g, w1.heap.size = g := ⟨_, rfl⟩
  have HB2 : Hid (w2.heap[gc]? = some (.cells (icells h' (.slice Ac h'.conds.length h'.conds.length) (.slice Ad h'.dates.length cd) (.slice An h'.names.length h'.names.length) (.slice Ai l.length ci)).toArray 41 (0, 0))) := by rw [← hw2, ← hgc]; exact blk_newn rfl
  have HF2 : Hid (Fr (fun _ => False) w1 w2) := by rw [← hw2]; exact (Fr.refl _ w1).alloc _
  have HGC : Hid (W.heap.size + 2 ≤ gc) := by have h1 := S0.out; have h2 := HF1.out.size; show _ ≤ _; omega
  have HG1 : Hid (w1.heap.size = gc) := hgc
  rw [hgc]
  clear hw2 hgc
  have HF02 : Hid (Fr (fun _ => False) w0 w2) := HF1.out.trans HF2.out
  have HFW2 : Hid (Fr (fun _ => False) W w2) := HF0.out.trans HF02.out
  have HI2 : Hid (InsF t.h.names x.h.names x t.l q w2) := HI.out.fr HFW2.out ⟨Nat.zero_le _, Nat.zero_le _, Nat.zero_le _, Nat.zero_le _, Nat.zero_le _, Nat.zero_le _, Nat.zero_le _, Nat.zero_le _, Nat.zero_le _, Nat.zero_le _⟩ (lo := 0) (fun _ _ _ h => h)
  have kgp : w2.cell? ⟨q.gp, 0, none⟩ = some (.func (.func 48) #[] #[.pointer (some ⟨q.gx, 0, none⟩)]) := (cell_of_blk HI2.out.p 0).trans rfl
  have kn : w2.cell? ⟨gc, 1, none⟩ = some (.string ⟨h'.name.toArray⟩) := (cell_of_blk HB2.out 1).trans rfl
  have HPX := Lib.hid (prefixed_any x h'.name q.gx w2 HI2.out.x HN.out (by have := HYN.out; omega))
  go_wp2_with fail
  refine HPX.out.mono ?_
  rintro e w9 ⟨rfl, hw9⟩
  have hw9 := hw9.symm
  subst hw9
  have fn : w2.frozen? ⟨gc, 1, none⟩ = false := froz_of_blk HB2.out 1
  go_upto_region 3 with fail
  clear kgp HPX
  obtain ⟨w3, hw3⟩ : ∃ w, w2.setCell ⟨gc, 1, none⟩ (.string ⟨(prefixed x.h.name h'.name).toArray⟩) = w := ⟨_, rfl⟩
  rw [hw3]
  obtain ⟨h1, hh1⟩ : ∃ h1, ({ h' with name := prefixed x.h.name h'.name } : Rs.Item) = h1 := ⟨_, rfl⟩
  have HH1 := Lib.hid hh1
  have HB3 : Hid (w3.heap[gc]? = some (.cells (icells h1 (.slice Ac h'.conds.length h'.conds.length) (.slice Ad h'.dates.length cd) (.slice An h'.names.length h'.names.length) (.slice Ai l.length ci)).toArray 41 (0, 0))) := by rw [← hw3, ← hh1]; exact blk_set HB2.out 1 _
  have HF3 : Hid (Fr (fun g => g = gc) w2 w3) := by rw [← hw3]; exact (Fr.refl (fun g => g = gc) w2).setb 1 _
  have HFW3 : Hid (Fr (fun _ => False) W w3) := HFW2.out.trans' HF3.out (fun g hg e => by have := HGC.out; omega)
  have HI3 : Hid (InsF t.h.names x.h.names x t.l q w3) := HI.out.fr HFW3.out ⟨Nat.zero_le _, Nat.zero_le _, Nat.zero_le _, Nat.zero_le _, Nat.zero_le _, Nat.zero_le _, Nat.zero_le _, Nat.zero_le _, Nat.zero_le _, Nat.zero_le _⟩ (lo := 0) (fun _ _ _ h => h)
  have HF13 : Hid (Fr (fun _ => False) w1 w3) := HF2.out.trans' HF3.out (fun g hg e => by have := HG1.out; omega)
  have HR3 : Hid (w3.heap[W.heap.size + 1]? = some (.cells #[.int .i64 0, .string ⟨#[]⟩, .int .i64 0, .string ⟨#[]⟩, .string ⟨#[]⟩, .int .i64 0, .int .i64 0, .int .i64 0, .bool false, .string ⟨#[]⟩, .int .i64 0, .bool false, .string ⟨#[]⟩, .slice none 0 0, .string ⟨#[]⟩, .string ⟨#[]⟩, .int .i64 0, .int .i64 0, .string ⟨#[]⟩, .string ⟨#[]⟩, .bool false, .string ⟨#[]⟩, .string ⟨#[]⟩, .bool false, .bool false, .bool false, .bool false, .bool false, .bool false, .bool false, .slice none 0 0, .slice none 0 0, .slice none 0 0] 41 (0, 0))) := HF13.out.blk (HF1.out.blk HR0.out (fun h => h)) (fun h => h)
  have HOC : Hid (OB w3 w0.heap.size (.slice Ac h'.conds.length h'.conds.length) 57 (h'.conds.map namedc)) := HOW.out.conds.fr HF13.out (fun _ _ _ h => h)
  have HON : Hid (OB w3 w0.heap.size (.slice An h'.names.length h'.names.length) 9 (h'.names.map fun x => [sv x])) := HOW.out.names.fr HF13.out (fun _ _ _ h => h)
  have HOD : Hid (RowB (fun g => (w0.heap.size ≤ g ∧ (Value.slice Ac h'.conds.length h'.conds.length).ownBlock ≠ some g ∧ (Value.slice An h'.names.length h'.names.length).ownBlock ≠ some g) ∧ g < w1.heap.size) w3 (.slice Ad h'.dates.length cd) 3 (h'.dates.map civilc)) := (HOW.out.dates.mono (fun g h1 h2 => ⟨h2, h1⟩)).fr HF13.out (fun _ _ h => h)
  have HOI : Hid (LayL (fun g => (w0.heap.size ≤ g ∧ (Value.slice Ac h'.conds.length h'.conds.length).ownBlock ≠ some g ∧ (Value.slice An h'.names.length h'.names.length).ownBlock ≠ some g) ∧ g < w1.heap.size) w3 l (.slice Ai l.length ci)) := (HOW.out.items.mono (fun g h1 h2 => ⟨h2, h1⟩)).fr HF13.out (fun _ _ h => h)
  have HOA : Hid (∀ g, (Value.slice Ac h'.conds.length h'.conds.length).ownBlock = some g → (Value.slice An h'.names.length h'.names.length).ownBlock ≠ some g) := HOW.out.apart
  have HOB : Hid (∀ v : Value, v = .slice Ac h'.conds.length h'.conds.length ∨ v = .slice An h'.names.length h'.names.length → ∀ g, v.ownBlock = some g → w0.heap.size ≤ g ∧ g < gc) := fun v hv g hg => by
    have q := HG1.out
    rcases hv with rfl | rfl
    · have := HOW.out.conds.lt hg; omega
    · have := HOW.out.names.lt hg; omega
  clear hw3 hh1 HOW HF13 HF3 HI2 HF2 HB2 HF02 HFW2 HI3
  by_cases h14 : h'.kind = 14
  · have HR : Hid (inst t.tree x.h (.node h' (l0.map DT.tree)) = .node { h1 with names := h1.names.map (repl t.h.names x.h.names) } (l0.map DT.tree)) := by
      show _ = _
      rw [← HH1.out]
      refine (if_pos h14).trans ?_
      rw [DT.tree_h]
      rfl
    have HK : Hid (h1.kind = 14) := by show _ = _; rw [← HH1.out]; exact h14
    have HNM : Hid (h1.names = h'.names) := by show _ = _; rw [← HH1.out]
    have k0 : w3.cell? ⟨gc, 0, none⟩ = some (.int .i64 14) := by rw [← HK.out]; exact (cell_of_blk HB3.out 0).trans rfl
    have k31 : w3.cell? ⟨gc, 31, none⟩ = some (.slice An h'.names.length h'.names.length) := (cell_of_blk HB3.out 31).trans rfl
    have HN0 : Hid (OB w3 w0.heap.size (.slice An h'.names.length h'.names.length) 9 ((mixed (repl t.h.names x.h.names) h'.names 0).map fun x => [sv x])) := HON.out
    have HLEN : Hid (h'.names.length ≤ 1000000) := HSH.out.2.2.1
    have hzl : h'.names.length ≤ 9223372036854775807 := by have := HLEN.out; omega
    clear h14
    go_wp2_with fail
    go_loopw [29] (fun iv wr => ∃ k : Nat, iv = .int .i64 k ∧ k ≤ h'.names.length ∧ Hid (OB wr w0.heap.size (.slice An h'.names.length h'.names.length) 9 ((mixed (repl t.h.names x.h.names) h'.names k).map fun x => [sv x])) ∧ Hid (Fr (fun g => (Value.slice An h'.names.length h'.names.length).ownBlock = some g) w3 wr)) (fun i _ => h'.names.length - (intOf i).toNat)
    case atStart => exact ⟨0, rfl, Nat.zero_le _, HN0, Fr.refl _ _⟩
    case round =>
      clear k0 k31 HN0
      obtain ⟨k, rfl, hk, HNK, HFK⟩ := hrel
      have i1 : (0 : Int) ≤ (k : Int) := Int.natCast_nonneg _
      have HBr : Hid (wr.heap[gc]? = some (.cells (icells h1 (.slice Ac h'.conds.length h'.conds.length) (.slice Ad h'.dates.length cd) (.slice An h'.names.length h'.names.length) (.slice Ai l.length ci)).toArray 41 (0, 0))) := HFK.out.blk HB3.out (fun e => by have := (HOB.out _ (.inr rfl) _ e).2; omega)
      by_cases hlt : k < h'.names.length
      · have i2 : (k : Int) < (h'.names.length : Int) := by omega
        obtain ⟨n, hn⟩ : ∃ n, h'.names[k]? = some n := ⟨_, List.getElem?_eq_getElem hlt⟩
        obtain ⟨gn, hgn, hlo, hglt, hall⟩ := ob_names HNK.out hn
        have hAn : An = some ⟨gn, 0, none⟩ := by injection hgn
        subst hAn
        have HALL := Lib.hid hall
        have HKK := Lib.hid hlt
        have HIr : Hid (InsF t.h.names x.h.names x t.l q wr) := HI.out.fr (HFW3.out.trans' HFK.out (fun g hg e => by have h1 := (HOB.out _ (.inr rfl) _ e).1; have h2 := S0.out; omega)) ⟨Nat.zero_le _, Nat.zero_le _, Nat.zero_le _, Nat.zero_le _, Nat.zero_le _, Nat.zero_le _, Nat.zero_le _, Nat.zero_le _, Nat.zero_le _, Nat.zero_le _⟩ (lo := 0) (fun _ _ _ h => h)
        obtain ⟨q1, q2, q3⟩ := hall wr (Fr.refl _ _)
        have kc := q1
        clear hall hgn hlo q1 q2 q3 hn hlt
        go_upto_region 7 with fail
        clear kc
        refine Reg.G.start (by kernel_rfl) ?_
        obtain ⟨wD, hD⟩ : ∃ w, wr.drew = w := ⟨_, rfl⟩
        have HFD : Hid (Fr (fun _ => False) wr wD) := by rw [← hD]; exact (Fr.refl _ wr).drew
        rw [hD]
        clear hD
        refine' Reg.G.pure (i := 0) (v := _) rfl (by rfl) (by kernel_rfl) (by kernel_rfl) (by kernel_rfl) (fun _ _ _ h => h) ?hyn1 ?rehyn1
        case hyn1 => exact fun w => by first | (go_simp; done) | (go_simp; with_reducible rfl)
        simp only [Act.put, List.setIfInBounds_toArray, List.set_cons_zero, List.set_cons_succ]
        refine' Reg.G.take (i := 1) (v := _) (F := (fun w => Fr (fun _ => False) wr w)) rfl (by rfl) (by kernel_rfl) (by kernel_rfl) (by kernel_rfl) (fun _ _ _ h => h) (HFD.out) ?hyn2 ?rehyn2
        case hyn2 => intro w hw; have kc : w.cell? ⟨gc, 31, none⟩ = some (.slice (some ⟨gn, 0, none⟩) h'.names.length h'.names.length) := (cell_of_blk (hw.blk HBr.out (fun h => h)) 31).trans rfl; clear hw; first | (go_simp; done) | (go_simp; with_reducible rfl)
        simp only [Act.put, List.setIfInBounds_toArray, List.set_cons_zero, List.set_cons_succ]
        refine' Reg.G.pure (i := 2) (v := _) rfl (by rfl) (by kernel_rfl) (by kernel_rfl) (by kernel_rfl) (fun _ _ _ h => h) ?hyn3 ?rehyn3
        case hyn3 => exact fun w => by first | (go_simp; done) | (go_simp; with_reducible rfl)
        simp only [Act.put, List.setIfInBounds_toArray, List.set_cons_zero, List.set_cons_succ]
        refine' Reg.G.take (i := 3) (v := _) (F := (fun w => Fr (fun _ => False) wr w)) rfl (by rfl) (by kernel_rfl) (by kernel_rfl) (by kernel_rfl) (fun _ _ _ h => h) (HFD.out) ?hyn4 ?rehyn4
        case hyn4 => intro w hw; have kc : w.cell? ⟨q.gr, 0, none⟩ = some (.func (.func 46) #[] #[.pointer (some ⟨q.ga, 0, none⟩)]) := (cell_of_blk (hw.blk HIr.out.r (fun h => h)) 0).trans rfl; clear hw; first | (go_simp; done) | (go_simp; with_reducible rfl)
        simp only [Act.put, List.setIfInBounds_toArray, List.set_cons_zero, List.set_cons_succ]
        refine' Reg.G.pure (i := 4) (v := _) rfl (by rfl) (by kernel_rfl) (by kernel_rfl) (by kernel_rfl) (fun _ _ _ h => h) ?hyn5 ?rehyn5
        case hyn5 => exact fun w => by first | (go_simp; done) | (go_simp; with_reducible rfl)
        simp only [Act.put, List.setIfInBounds_toArray, List.set_cons_zero, List.set_cons_succ]
        refine Reg.G.step (j := 5) (m := [false, true]) [3, 1] rfl (by kernel_rfl) rfl (by kernel_rfl) (fun K hK => ?_)
        go_simp
        refine (replace_any t.h.names x.h.names n q.ga q.m _ (HFD.out.blk HIr.out.a (fun h => h)) (HIr.out.mp.fr HFD.out (fun h => h))).mono ?_
        rintro e w5 ⟨rfl, hw5⟩
        have hw5 := hw5.symm
        subst hw5
        refine hK.out _ _ ⟨HFD.out, trivial⟩ ?_
        clear hK K
        simp only [Act.put, List.setIfInBounds_toArray, List.set_cons_zero, List.set_cons_succ, Reg.Kept]
        refine' Reg.G.pure (i := 6) (v := _) rfl (by rfl) (by kernel_rfl) (by kernel_rfl) (by kernel_rfl) (fun _ _ _ h => h) ?hyn6 ?rehyn6
        case hyn6 => exact fun w => by first | (go_simp; done) | (go_simp; with_reducible rfl)
        simp only [Act.put, List.setIfInBounds_toArray, List.set_cons_zero, List.set_cons_succ]
        refine Reg.G.step (j := 7) (m := [false]) [1] rfl (by kernel_rfl) rfl (by kernel_rfl) (fun K hK => ?_)
        obtain ⟨q1, q2, q3⟩ := HALL.out wD HFD.out
        have HQ3 := Lib.hid q3
        go_simp
        clear q1 q2 q3
        obtain ⟨w6, hw6⟩ : ∃ w, wD.setCell ⟨gn, k, none⟩ (.string ⟨(repl t.h.names x.h.names n).toArray⟩) = w := ⟨_, rfl⟩
        rw [hw6] at HQ3
        rw [hw6]
        have HF6 : Hid (Fr (fun g => (Value.slice (some ⟨gn, 0, none⟩) h'.names.length h'.names.length).ownBlock = some g) w3 w6) := by
          rw [← hw6]
          exact (HFK.out.trans (HFD.out.mono (fun _ _ h => h.elim))).setCell (p := ⟨gn, k, none⟩) (.inl rfl) _
        clear hw6
        refine hK.out _ _ trivial ?_
        clear hK K
        simp only [Act.put, List.setIfInBounds_toArray, List.set_cons_zero, List.set_cons_succ, Reg.Kept]
        refine Reg.G.done (by kernel_rfl) ?_
        go_wp2_with fail
        go_roundw
        case rel => first | exact ⟨k + 1, by go_num, HKK.out, HQ3, HF6⟩ | (refine ⟨_, _, _, _, .int .i64 ((k : Int) + 1), ⟨k + 1, by go_num, HKK.out, ?_⟩, rfl, rfl, rfl, rfl, rfl⟩; first | exact ⟨HQ3, HF6⟩ | exact HQ3)
        case measure => have := HKK.out; first | (simp [intOf]; done) | (simp [intOf]; omega)
      · obtain rfl : k = h'.names.length := by omega
        rw [mixed_all] at HNK
        have HRr : Hid (wr.heap[W.heap.size + 1]? = some (.cells #[.int .i64 0, .string ⟨#[]⟩, .int .i64 0, .string ⟨#[]⟩, .string ⟨#[]⟩, .int .i64 0, .int .i64 0, .int .i64 0, .bool false, .string ⟨#[]⟩, .int .i64 0, .bool false, .string ⟨#[]⟩, .slice none 0 0, .string ⟨#[]⟩, .string ⟨#[]⟩, .int .i64 0, .int .i64 0, .string ⟨#[]⟩, .string ⟨#[]⟩, .bool false, .string ⟨#[]⟩, .string ⟨#[]⟩, .bool false, .bool false, .bool false, .bool false, .bool false, .bool false, .bool false, .slice none 0 0, .slice none 0 0, .slice none 0 0] 41 (0, 0))) := HFK.out.blk HR3.out (fun e => by have h1 := (HOB.out _ (.inr rfl) _ e).1; have h2 := S0.out; omega)
        go_upto_region 9 with fail
        iterate 1 go_step
        refine wpList_load_row rfl 41 _ rfl gc rfl 41 (icells h1 (.slice Ac h'.conds.length h'.conds.length) (.slice Ad h'.dates.length cd) (.slice An h'.names.length h'.names.length) (.slice Ai l.length ci)).toArray (0, 0) _ HBr.out Try.underlying41 rfl (by rw [info_item]; rfl) ?_
        simp only [Act.put, List.setIfInBounds_toArray, List.set_cons_zero, List.set_cons_succ]
        refine wpList_store_row rfl 41 _ _ rfl (W.heap.size + 1) (icells h1 (.slice Ac h'.conds.length h'.conds.length) (.slice Ad h'.dates.length cd) (.slice An h'.names.length h'.names.length) (.slice Ai l.length ci)).toArray rfl rfl 41 _ HRr.out (by rw [info_item]; rfl) rfl (by simp [icells, Value.oneCell', sv, nv]) ?_
        simp only [Act.put, List.setIfInBounds_toArray, List.set_cons_zero, List.set_cons_succ]
        obtain ⟨w9, hw9⟩ : ∃ w9, wr.setRow (W.heap.size + 1) (icells h1 (.slice Ac h'.conds.length h'.conds.length) (.slice Ad h'.dates.length cd) (.slice An h'.names.length h'.names.length) (.slice Ai l.length ci)).toArray = w9 := ⟨_, rfl⟩
        rw [hw9]
        have HF9 : Hid (Fr (fun j => j = W.heap.size + 1) wr w9) := by rw [← hw9]; exact (Fr.refl (fun j => j = W.heap.size + 1) wr).setRow (.inl rfl) _
        have HB9 : Hid (w9.heap[W.heap.size + 1]? = some (.cells (icells h1 (.slice Ac h'.conds.length h'.conds.length) (.slice Ad h'.dates.length cd) (.slice An h'.names.length h'.names.length) (.slice Ai l.length ci)).toArray 41 (0, 0))) := by rw [← hw9]; exact blk_row HRr.out _
        clear hw9
        go_wp2_with fail
        refine bodyPost_ret (results_blk Try.results49 rfl HB9.out Try.underlying41 rfl (by rw [info_item]; rfl)) rfl ?_
        have z0 := S0.out; have zl := HSH.out
        refine ⟨.node { h1 with names := h1.names.map (repl t.h.names x.h.names) } (.slice Ac h'.conds.length h'.conds.length) (.slice Ad h'.dates.length cd) (.slice An h'.names.length h'.names.length) (.slice Ai l.length ci) l, rfl, ?_, ?_, ?_⟩
        · rw [tree_node, tree_node, HR.out, HTL.out]
        · refine Lay.mk' ?_ ?_ ?_ ?_
          · show RowB _ _ _ _ (h1.conds.map namedc)
            rw [← HH1.out]
            exact ((HOC.out.fr HFK.out (fun g h1 h2 h3 => HOA.out g h2 h3)).fr HF9.out (fun g h1 _ e => by omega)).row named_len (by rw [List.length_map]; omega) (fun g hg => by have := (HOB.out _ (.inl rfl) g hg).1; omega)
          · show RowB _ _ _ _ (h1.dates.map civilc)
            rw [← HH1.out]
            exact ((HOD.out.fr HFK.out (fun g h1 h2 => h1.1.2.2 h2)).fr HF9.out (fun g hg e => by omega)).mono (fun g _ hg => by omega)
          · show RowB _ _ _ _ ((h1.names.map (repl t.h.names x.h.names)).map _)
            rw [HNM.out]
            have h9 := (HNK.out.fr HF9.out (fun g h1 _ e => by omega)).row (B := fun g => W.heap.size ≤ g) names_len (by rw [List.length_map, List.length_map]; omega) (fun g hg => by have := (HOB.out _ (.inr rfl) g hg).1; omega)
            exact h9
          · exact ((HOI.out.fr HFK.out (fun g h1 h2 => h1.1.2.2 h2)).fr HF9.out (fun g hg e => by omega)).mono (fun g _ hg => by omega)
        · exact (HFW3.out.trans' HFK.out (fun g hg e => by have := (HOB.out _ (.inr rfl) _ e).1; omega)).trans' HF9.out (fun g hg e => by omega)
  · have HR : Hid (inst t.tree x.h (.node h' (l0.map DT.tree)) = .node { rep9 (repl t.h.names x.h.names) 9 h1 with conds := h1.conds.map (instCond t.tree x.h) } (l0.map DT.tree)) := by
      show _ = _
      rw [← HH1.out, rep9_all]
      refine (if_neg h14).trans ?_
      rw [DT.tree_h]
      rfl
    have HK : Hid (h1.kind ≠ 14) := by show _ ≠ _; rw [← HH1.out]; exact h14
    have kb : (h1.kind == 14) = false := by simpa using HK.out
    have k0 : w3.cell? ⟨gc, 0, none⟩ = some (.int .i64 h1.kind) := (cell_of_blk HB3.out 0).trans rfl
    clear h14
    go_upto_region 10 with fail
    clear k0 kb
    go_wp2_with fail
    obtain ⟨w4, hw4⟩ : ∃ w, w3.alloc (.cells #[.pointer (some ⟨gc, 3, none⟩), .pointer (some ⟨gc, 4, none⟩), .pointer (some ⟨gc, 14, none⟩), .pointer (some ⟨gc, 15, none⟩), .pointer (some ⟨gc, 18, none⟩), .pointer (some ⟨gc, 19, none⟩), .pointer (some ⟨gc, 22, none⟩), .pointer (some ⟨gc, 9, none⟩), .pointer (some ⟨gc, 12, none⟩)] 94) = w := ⟨_, rfl⟩
    rw [hw4]
    have HPT : Hid (w4.heap[w3.heap.size]? = some (.cells (ptrs9 gc) 94 (0, 0))) := by rw [← hw4]; exact blk_newn rfl
    have HF4 : Hid (Fr (fun _ => False) w3 w4) := by rw [← hw4]; exact (Fr.refl _ w3).alloc _
    have HB4 : Hid (w4.heap[gc]? = some (.cells (icells (rep9 (repl t.h.names x.h.names) 0 h1) (.slice Ac h'.conds.length h'.conds.length) (.slice Ad h'.dates.length cd) (.slice An h'.names.length h'.names.length) (.slice Ai l.length ci)).toArray 41 (0, 0))) := HF4.out.blk HB3.out (fun h => h)
    have HG3 : Hid (gc < w3.heap.size) := lt_of_blk HB3.out
    clear hw4
    go_loopw [56] (fun iv wr => ∃ k : Nat, iv = .int .i64 k ∧ k ≤ 9 ∧ Hid (wr.heap[gc]? = some (.cells (icells (rep9 (repl t.h.names x.h.names) k h1) (.slice Ac h'.conds.length h'.conds.length) (.slice Ad h'.dates.length cd) (.slice An h'.names.length h'.names.length) (.slice Ai l.length ci)).toArray 41 (0, 0))) ∧ Hid (Fr (fun g => g = gc) w4 wr)) (fun i _ => 9 - (intOf i).toNat)
    case atStart => exact ⟨0, rfl, Nat.zero_le _, HB4, Fr.refl _ _⟩
    case round =>
      clear HB4
      obtain ⟨k, rfl, hk, HBr, HFK⟩ := hrel
      have i1 : (0 : Int) ≤ (k : Int) := Int.natCast_nonneg _
      have HFWr : Hid (Fr (fun _ => False) W wr) := (HFW3.out.trans HF4.out).trans' HFK.out (fun g hg e => by have := HGC.out; omega)
      have HIr : Hid (InsF t.h.names x.h.names x t.l q wr) := HI.out.fr HFWr.out ⟨Nat.zero_le _, Nat.zero_le _, Nat.zero_le _, Nat.zero_le _, Nat.zero_le _, Nat.zero_le _, Nat.zero_le _, Nat.zero_le _, Nat.zero_le _, Nat.zero_le _⟩ (lo := 0) (fun _ _ _ h => h)
      by_cases hlt : k < 9
      · have i2 : (k : Int) < 9 := by omega
        have HKK := Lib.hid hlt
        have kp : wr.cell? ⟨w3.heap.size, k, none⟩ = some (.pointer (some ⟨gc, off9 k, none⟩)) := by rw [cell_of_blk (HFK.out.blk HPT.out (fun e => by have := HG3.out; omega))]; exact ptrs9_get hlt
        obtain ⟨n, hn⟩ : ∃ n, get9 k (rep9 (repl t.h.names x.h.names) k h1) = n := ⟨_, rfl⟩
        have HNC : Hid (∀ w, Fr (fun _ => False) wr w → w.cell? ⟨gc, off9 k, none⟩ = some (.string ⟨n.toArray⟩)) := fun w hf => by
          rw [cell_of_blk (hf.blk HBr.out (fun h => h)), List.getElem?_toArray, get9_cell HKK.out, hn]; rfl
        have HNX : Hid (∀ w, Fr (fun _ => False) wr w → (w.setCell ⟨gc, off9 k, none⟩ (.string ⟨(repl t.h.names x.h.names n).toArray⟩)).heap[gc]? = some (.cells (icells (rep9 (repl t.h.names x.h.names) (k + 1) h1) (.slice Ac h'.conds.length h'.conds.length) (.slice Ad h'.dates.length cd) (.slice An h'.names.length h'.names.length) (.slice Ai l.length ci)).toArray 41 (0, 0))) := fun w hf => by
          have h2 := blk_set (hf.blk HBr.out (fun h => h)) (off9 k) (.string ⟨(repl t.h.names x.h.names n).toArray⟩)
          rw [show Value.string ⟨(repl t.h.names x.h.names n).toArray⟩ = sv (repl t.h.names x.h.names n) from rfl, upd9_cell HKK.out] at h2
          rw [rep9, hn]
          exact h2
        clear hn hlt
        go_upto_region 13 with fail
        clear kp
        refine Reg.G.start (by kernel_rfl) ?_
        obtain ⟨wD, hD⟩ : ∃ w, wr.drew = w := ⟨_, rfl⟩
        have HFD : Hid (Fr (fun _ => False) wr wD) := by rw [← hD]; exact (Fr.refl _ wr).drew
        rw [hD]
        clear hD
        refine' Reg.G.pure (i := 0) (v := _) rfl (by rfl) (by kernel_rfl) (by kernel_rfl) (by kernel_rfl) (fun _ _ _ h => h) ?hyp7 ?rehyp7
        case hyp7 => exact fun w => by first | (go_simp; done) | (go_simp; with_reducible rfl)
        simp only [Act.put, List.setIfInBounds_toArray, List.set_cons_zero, List.set_cons_succ]
        refine' Reg.G.take (i := 1) (v := _) (F := (fun w => Fr (fun _ => False) wr w)) rfl (by rfl) (by kernel_rfl) (by kernel_rfl) (by kernel_rfl) (fun _ _ _ h => h) (HFD.out) ?hyp8 ?rehyp8
        case hyp8 => intro w hw; have kc : w.cell? ⟨q.gr, 0, none⟩ = some (.func (.func 46) #[] #[.pointer (some ⟨q.ga, 0, none⟩)]) := (cell_of_blk (hw.blk HIr.out.r (fun h => h)) 0).trans rfl; clear hw; first | (go_simp; done) | (go_simp; with_reducible rfl)
        simp only [Act.put, List.setIfInBounds_toArray, List.set_cons_zero, List.set_cons_succ]
        refine' Reg.G.pure (i := 2) (v := _) rfl (by rfl) (by kernel_rfl) (by kernel_rfl) (by kernel_rfl) (fun _ _ _ h => h) ?hyp9 ?rehyp9
        case hyp9 => exact fun w => by first | (go_simp; done) | (go_simp; with_reducible rfl)
        simp only [Act.put, List.setIfInBounds_toArray, List.set_cons_zero, List.set_cons_succ]
        refine' Reg.G.pure (i := 3) (v := _) rfl (by rfl) (by kernel_rfl) (by kernel_rfl) (by kernel_rfl) (fun _ _ _ h => h) ?hyp10 ?rehyp10
        case hyp10 => exact fun w => by first | (go_simp; done) | (go_simp; with_reducible rfl)
        simp only [Act.put, List.setIfInBounds_toArray, List.set_cons_zero, List.set_cons_succ]
        refine' Reg.G.take (i := 4) (v := _) (F := (fun w => Fr (fun _ => False) wr w)) rfl (by rfl) (by kernel_rfl) (by kernel_rfl) (by kernel_rfl) (fun _ _ _ h => h) (HFD.out) ?hyp11 ?rehyp11
        case hyp11 => intro w hw; have kc := HNC.out w hw; clear hw; first | (go_simp; done) | (go_simp; with_reducible rfl)
        simp only [Act.put, List.setIfInBounds_toArray, List.set_cons_zero, List.set_cons_succ]
        refine Reg.G.step (j := 5) (m := [false, false]) [4, 1] rfl (by kernel_rfl) rfl (by kernel_rfl) (fun K hK => ?_)
        go_simp
        refine (replace_any t.h.names x.h.names n q.ga q.m _ (HFD.out.blk HIr.out.a (fun h => h)) (HIr.out.mp.fr HFD.out (fun h => h))).mono ?_
        rintro e w5 ⟨rfl, hw5⟩
        have hw5 := hw5.symm
        subst hw5
        refine hK.out _ _ trivial ?_
        clear hK K
        simp only [Act.put, List.setIfInBounds_toArray, List.set_cons_zero, List.set_cons_succ, Reg.Kept]
        refine' Reg.G.pure (i := 6) (v := _) rfl (by rfl) (by kernel_rfl) (by kernel_rfl) (by kernel_rfl) (fun _ _ _ h => h) ?hyp12 ?rehyp12
        case hyp12 => exact fun w => by first | (go_simp; done) | (go_simp; with_reducible rfl)
        simp only [Act.put, List.setIfInBounds_toArray, List.set_cons_zero, List.set_cons_succ]
        refine Reg.G.step (j := 7) (m := []) [] rfl (by kernel_rfl) rfl (by kernel_rfl) (fun K hK => ?_)
        have q1 := HNC.out wD HFD.out
        have q2 : wD.frozen? ⟨gc, off9 k, none⟩ = false := froz_of_blk (HFD.out.blk HBr.out (fun h => h)) _
        have HQ3 := Lib.hid (HNX.out wD HFD.out)
        go_simp
        clear q1 q2
        obtain ⟨w6, hw6⟩ : ∃ w, wD.setCell ⟨gc, off9 k, none⟩ (.string ⟨(repl t.h.names x.h.names n).toArray⟩) = w := ⟨_, rfl⟩
        rw [hw6] at HQ3
        rw [hw6]
        have HF6 : Hid (Fr (fun g => g = gc) w4 w6) := by rw [← hw6]; exact (HFK.out.trans (HFD.out.mono (fun _ _ h => h.elim))).setb (off9 k) _
        clear hw6
        refine hK.out _ _ trivial ?_
        clear hK K
        simp only [Act.put, List.setIfInBounds_toArray, List.set_cons_zero, List.set_cons_succ, Reg.Kept]
        refine Reg.G.done (by kernel_rfl) ?_
        go_wp2_with fail
        go_roundw
        case rel => first | exact ⟨k + 1, by go_num, HKK.out, HQ3, HF6⟩ | (refine ⟨_, _, _, _, .int .i64 ((k : Int) + 1), ⟨k + 1, by go_num, HKK.out, ?_⟩, rfl, rfl, rfl, rfl, rfl⟩; first | exact ⟨HQ3, HF6⟩ | exact HQ3)
        case measure => have := HKK.out; first | (simp [intOf]; done) | (simp [intOf]; omega)
      · obtain rfl : k = 9 := by omega
        have HB9 : Hid (wr.heap[gc]? = some (.cells (icells (rep9 (repl t.h.names x.h.names) 9 h1) (.slice Ac h'.conds.length h'.conds.length) (.slice Ad h'.dates.length cd) (.slice An h'.names.length h'.names.length) (.slice Ai l.length ci)).toArray 41 (0, 0))) := HBr.out
        obtain ⟨yw, hyw⟩ : ∃ w : World, w = wr := ⟨_, rfl⟩
        subst hyw
        obtain ⟨h9, hh9⟩ : ∃ h9, rep9 (repl t.h.names x.h.names) 9 h1 = h9 := ⟨_, rfl⟩
        have HH9 := Lib.hid hh9
        rw [hh9] at HB9
        have HC9 : Hid (h9.conds = h'.conds ∧ h9.dates = h'.dates ∧ h9.names = h'.names) := by
          show _ ∧ _
          rw [← HH9.out, rep9_all, ← HH1.out]
          exact ⟨rfl, rfl, rfl⟩
        obtain ⟨f, hf⟩ : ∃ f : Named → Rs.Bytes, (fun c => (instCond t.tree x.h c).name) = f := ⟨_, rfl⟩
        have HFN : Hid (∀ c, instCond t.tree x.h c = { c with name := f c }) := fun c => by rw [← hf]; exact instCond_is _ _ _
        have HFV : Hid (∀ c, f c = (instCond t.tree x.h c).name) := fun c => by rw [← hf]
        have HCV : Hid (OB yw w0.heap.size (.slice Ac h'.conds.length h'.conds.length) 57 ((mixed (fun c => { c with name := f c }) h'.conds 0).map namedc)) := (HOC.out.fr HF4.out (fun _ _ _ h => h)).fr HFK.out (fun g h1 h2 e => by have := (HOB.out _ (.inl rfl) g h2).2; omega)
        have k13 : yw.cell? ⟨gc, 13, none⟩ = some (.slice Ac h'.conds.length h'.conds.length) := (cell_of_blk HB9.out 13).trans rfl
        have HFY : Hid (Fr (fun g => g = gc) w3 yw) := (HF4.out.mono (T := fun g => g = gc) (fun _ _ h => h.elim)).trans HFK.out
        have HFWy : Hid (Fr (fun _ => False) W yw) := HFWr.out
        have HIy : Hid (InsF t.h.names x.h.names x t.l q yw) := HIr.out
        have hzl : h'.conds.length ≤ 9223372036854775807 := by have := HSH.out.1; omega
        clear hh9 hf HBr HFK hk i1 HPT HF4 HIr hlt
        go_wp2_with fail
        go_loopw [71] (fun iv wr => ∃ k : Nat, iv = .int .i64 k ∧ k ≤ h'.conds.length ∧ Hid (OB wr w0.heap.size (.slice Ac h'.conds.length h'.conds.length) 57 ((mixed (fun c => { c with name := f c }) h'.conds k).map namedc)) ∧ Hid (Fr (fun g => (Value.slice Ac h'.conds.length h'.conds.length).ownBlock = some g) yw wr)) (fun i _ => h'.conds.length - (intOf i).toNat)
        case atStart => exact ⟨0, rfl, Nat.zero_le _, HCV, Fr.refl _ _⟩
        case round =>
          clear k13 HCV
          obtain ⟨k, rfl, hk, HCK, HFK⟩ := hrel
          have i1 : (0 : Int) ≤ (k : Int) := Int.natCast_nonneg _
          have HBr : Hid (wr.heap[gc]? = some (.cells (icells h9 (.slice Ac h'.conds.length h'.conds.length) (.slice Ad h'.dates.length cd) (.slice An h'.names.length h'.names.length) (.slice Ai l.length ci)).toArray 41 (0, 0))) := HFK.out.blk HB9.out (fun e => by have := (HOB.out _ (.inl rfl) _ e).2; omega)
          have HFWr : Hid (Fr (fun _ => False) W wr) := HFWy.out.trans' HFK.out (fun g hg e => by have h1 := (HOB.out _ (.inl rfl) _ e).1; have h2 := S0.out; omega)
          by_cases hlt : k < h'.conds.length
          · have i2 : (k : Int) < (h'.conds.length : Int) := by omega
            obtain ⟨cd1, hcd⟩ : ∃ c, h'.conds[k]? = some c := ⟨_, List.getElem?_eq_getElem hlt⟩
            obtain ⟨gn, hgn, hlo, hglt, hall⟩ := ob_conds HCK.out hcd
            have hAc : Ac = some ⟨gn, 0, none⟩ := by injection hgn
            subst hAc
            have HALL := Lib.hid hall
            have HKK := Lib.hid hlt
            have HCL : Hid (cd1.name.length ≤ 140737488355328) := HCN.out cd1 (List.mem_of_getElem? hcd)
            have HIr : Hid (InsF t.h.names x.h.names x t.l q wr) := HI.out.fr HFWr.out ⟨Nat.zero_le _, Nat.zero_le _, Nat.zero_le _, Nat.zero_le _, Nat.zero_le _, Nat.zero_le _, Nat.zero_le _, Nat.zero_le _, Nat.zero_le _, Nat.zero_le _⟩ (lo := 0) (fun _ _ _ h => h)
            obtain ⟨kc0, kc1, _, _⟩ := hall wr (Fr.refl _ _)
            clear hall hgn hlo hcd hlt
            go_upto_region 18 with fail
            clear kc0 kc1
            obtain ⟨u, hu⟩ : ∃ u, wr.alloc (.cells #[.string ⟨cd1.name.toArray⟩, .int .i64 cd1.is_] 57) = u := ⟨_, rfl⟩
            rw [hu]
            have HDB : Hid (u.heap[wr.heap.size]? = some (.cells #[.string ⟨cd1.name.toArray⟩, .int .i64 cd1.is_] 57 (0, 0))) := by rw [← hu]; exact blk_newn rfl
            have HFU : Hid (Fr (fun _ => False) wr u) := by rw [← hu]; exact (Fr.refl _ wr).alloc _
            have HIu : Hid (InsF t.h.names x.h.names x t.l q u) := HI.out.fr (HFWr.out.trans HFU.out) ⟨Nat.zero_le _, Nat.zero_le _, Nat.zero_le _, Nat.zero_le _, Nat.zero_le _, Nat.zero_le _, Nat.zero_le _, Nat.zero_le _, Nat.zero_le _, Nat.zero_le _⟩ (lo := 0) (fun _ _ _ h => h)
            clear hu
            have kga : u.cell? ⟨q.ga, 0, none⟩ = some (.map (some q.m)) := (cell_of_blk HIu.out.a 0).trans rfl
            have kd : u.cell? ⟨wr.heap.size, 0, none⟩ = some (.string ⟨cd1.name.toArray⟩) := (cell_of_blk HDB.out 0).trans rfl
            have hok := HIu.out.mp.ok (P := Try.prog) Try.underlying90 Try.underlying9 cd1.name (zero_str u)
            unfold argF at hok
            cases hag : arg t.h.names x.h.names cd1.name with
            | some a =>
              rw [hag] at hok
              have hl : (Instr.lookup 90 (.map (some q.m)) (.string ⟨cd1.name.toArray⟩) true).run Try.prog u = .ok (.tuple #[.string ⟨a.toArray⟩, .bool true]) u := hok
              have HRV : Hid (f cd1 = repl t.h.names x.h.names cd1.name) := by
                show _ = _
                rw [HFV.out]
                unfold instCond repl
                rw [DT.tree_h, hag]
                rfl
              have HUB : Hid (Fr (fun _ => False) u u) := Fr.refl _ _
              clear hok hag
              go_upto_region 21 with fail
              clear kga kd hl
              refine Reg.G.start (by kernel_rfl) ?_
              obtain ⟨wD, hD⟩ : ∃ w, u.drew = w := ⟨_, rfl⟩
              have HFD : Hid (Fr (fun _ => False) u wD) := by rw [← hD]; exact (Fr.refl _ u).drew
              rw [hD]
              clear hD
              refine' Reg.G.pure (i := 0) (v := _) rfl (by rfl) (by kernel_rfl) (by kernel_rfl) (by kernel_rfl) (fun _ _ _ h => h) ?hyw21u13 ?rehyw21u13
              case hyw21u13 => exact fun w => by first | (go_simp; done) | (go_simp; with_reducible rfl)
              simp only [Act.put, List.setIfInBounds_toArray, List.set_cons_zero, List.set_cons_succ]
              refine' Reg.G.take (i := 1) (v := _) (F := (fun w => Fr (fun _ => False) u w)) rfl (by rfl) (by kernel_rfl) (by kernel_rfl) (by kernel_rfl) (fun _ _ _ h => h) (HFD.out) ?hyw21u14 ?rehyw21u14
              case hyw21u14 => intro w hw; have kc : w.cell? ⟨gc, 13, none⟩ = some (.slice (some ⟨gn, 0, none⟩) h'.conds.length h'.conds.length) := (cell_of_blk (hw.blk (HUB.out.blk (HFU.out.blk HBr.out (fun h => h)) (fun h => h)) (fun h => h)) 13).trans rfl; clear hw; first | (go_simp; done) | (go_simp; with_reducible rfl)
              simp only [Act.put, List.setIfInBounds_toArray, List.set_cons_zero, List.set_cons_succ]
              refine' Reg.G.pure (i := 2) (v := _) rfl (by rfl) (by kernel_rfl) (by kernel_rfl) (by kernel_rfl) (fun _ _ _ h => h) ?hyw21u15 ?rehyw21u15
              case hyw21u15 => exact fun w => by first | (go_simp; done) | (go_simp; with_reducible rfl)
              simp only [Act.put, List.setIfInBounds_toArray, List.set_cons_zero, List.set_cons_succ]
              refine' Reg.G.take (i := 3) (v := _) (F := (fun w => Fr (fun _ => False) u w)) rfl (by rfl) (by kernel_rfl) (by kernel_rfl) (by kernel_rfl) (fun _ _ _ h => h) (HFD.out) ?hyw21u16 ?rehyw21u16
              case hyw21u16 => intro w hw; have kc : w.cell? ⟨q.gr, 0, none⟩ = some (.func (.func 46) #[] #[.pointer (some ⟨q.ga, 0, none⟩)]) := (cell_of_blk (hw.blk (HUB.out.blk HIu.out.r (fun h => h)) (fun h => h)) 0).trans rfl; clear hw; first | (go_simp; done) | (go_simp; with_reducible rfl)
              simp only [Act.put, List.setIfInBounds_toArray, List.set_cons_zero, List.set_cons_succ]
              refine' Reg.G.pure (i := 4) (v := _) rfl (by rfl) (by kernel_rfl) (by kernel_rfl) (by kernel_rfl) (fun _ _ _ h => h) ?hyw21u17 ?rehyw21u17
              case hyw21u17 => exact fun w => by first | (go_simp; done) | (go_simp; with_reducible rfl)
              simp only [Act.put, List.setIfInBounds_toArray, List.set_cons_zero, List.set_cons_succ]
              refine' Reg.G.take (i := 5) (v := _) (F := (fun w => Fr (fun _ => False) u w)) rfl (by rfl) (by kernel_rfl) (by kernel_rfl) (by kernel_rfl) (fun _ _ _ h => h) (HFD.out) ?hyw21u18 ?rehyw21u18
              case hyw21u18 => intro w hw; have kc : w.cell? ⟨wr.heap.size, 0, none⟩ = some (.string ⟨cd1.name.toArray⟩) := (cell_of_blk (hw.blk (HUB.out.blk HDB.out (fun h => h)) (fun h => h)) 0).trans rfl; clear hw; first | (go_simp; done) | (go_simp; with_reducible rfl)
              simp only [Act.put, List.setIfInBounds_toArray, List.set_cons_zero, List.set_cons_succ]
              refine Reg.G.step (j := 6) (m := [false, false, true]) [5, 3, 1] rfl (by kernel_rfl) rfl (by kernel_rfl) (fun K hK => ?_)
              go_simp
              refine (replace_any t.h.names x.h.names cd1.name q.ga q.m _ (HFD.out.blk (HUB.out.blk HIu.out.a (fun h => h)) (fun h => h)) ((HIu.out.mp.fr HUB.out (fun h => h)).fr HFD.out (fun h => h))).mono ?_
              rintro e w5 ⟨rfl, hw5⟩
              have hw5 := hw5.symm
              subst hw5
              refine hK.out _ _ ⟨HFD.out, trivial⟩ ?_
              clear hK K
              simp only [Act.put, List.setIfInBounds_toArray, List.set_cons_zero, List.set_cons_succ, Reg.Kept]
              refine' Reg.G.pure (i := 7) (v := _) rfl (by rfl) (by kernel_rfl) (by kernel_rfl) (by kernel_rfl) (fun _ _ _ h => h) ?hyw21u19 ?rehyw21u19
              case hyw21u19 => exact fun w => by first | (go_simp; done) | (go_simp; with_reducible rfl)
              simp only [Act.put, List.setIfInBounds_toArray, List.set_cons_zero, List.set_cons_succ]
              refine' Reg.G.pure (i := 8) (v := _) rfl (by rfl) (by kernel_rfl) (by kernel_rfl) (by kernel_rfl) (fun _ _ _ h => h) ?hyw21u20 ?rehyw21u20
              case hyw21u20 => exact fun w => by first | (go_simp; done) | (go_simp; with_reducible rfl)
              simp only [Act.put, List.setIfInBounds_toArray, List.set_cons_zero, List.set_cons_succ]
              refine Reg.G.step (j := 9) (m := [false]) [1] rfl (by kernel_rfl) rfl (by kernel_rfl) (fun K hK => ?_)
              obtain ⟨q1, _, q2, q3⟩ := HALL.out wD (HFU.out.trans (HUB.out.trans HFD.out))
              rw [HRV.out] at q3
              have HQ3 := Lib.hid q3
              go_simp
              clear q1 q2 q3
              obtain ⟨w6, hw6⟩ : ∃ w, wD.setCell ⟨gn, k * 2, none⟩ (.string ⟨(repl t.h.names x.h.names cd1.name).toArray⟩) = w := ⟨_, rfl⟩
              rw [hw6] at HQ3
              rw [hw6]
              have HF6 : Hid (Fr (fun g => (Value.slice (some ⟨gn, 0, none⟩) h'.conds.length h'.conds.length).ownBlock = some g) yw w6) := by
                rw [← hw6]
                exact (HFK.out.trans ((HFU.out.trans (HUB.out.trans HFD.out)).mono (fun _ _ h => h.elim))).setCell (p := ⟨gn, k * 2, none⟩) (.inl rfl) _
              clear hw6
              refine hK.out _ _ trivial ?_
              clear hK K
              simp only [Act.put, List.setIfInBounds_toArray, List.set_cons_zero, List.set_cons_succ, Reg.Kept]
              refine Reg.G.done (by kernel_rfl) ?_
              go_wp2_with fail
              go_roundw
              case rel => first | exact ⟨k + 1, by go_num, HKK.out, HQ3, HF6⟩ | (refine ⟨_, _, _, _, .int .i64 ((k : Int) + 1), ⟨k + 1, by go_num, HKK.out, ?_⟩, rfl, rfl, rfl, rfl, rfl⟩; first | exact ⟨HQ3, HF6⟩ | exact HQ3)
              case measure => have := HKK.out; first | (simp [intOf]; done) | (simp [intOf]; omega)
            | none =>
              rw [hag] at hok
              have hl : (Instr.lookup 90 (.map (some q.m)) (.string ⟨cd1.name.toArray⟩) true).run Try.prog u = .ok (.tuple #[.string ⟨#[]⟩, .bool false]) u := hok
              have HIL := Lib.hid (isLocal_any t.l cd1.name q.g1 q.g2 q.m1 q.m2 u HIu.out.lo (by have := HCL.out; unfold maxLen; omega))
              have kgl : u.cell? ⟨q.gl, 0, none⟩ = some (.func (.func 50) #[] #[.pointer (some ⟨q.g1, 0, none⟩), .pointer (some ⟨q.g2, 0, none⟩)]) := (cell_of_blk HIu.out.lc 0).trans rfl
              have HAG := Lib.hid hag
              clear hok hag
              go_wp2_with fail
              refine HIL.out.mono ?_
              rintro e wv ⟨rfl, mm, hwv⟩
              have HUV : Hid (Fr (fun _ => False) u wv) := by rw [hwv]; exact (Fr.refl (fun _ => False) u).drewN mm
              clear hwv HIL kga kd hl kgl
              obtain ⟨b, hb⟩ : ∃ b, isLocalD t.l cd1.name = b := ⟨_, rfl⟩
              rw [hb]
              cases b with
              | true =>
                have HRV : Hid (f cd1 = prefixed x.h.name cd1.name) := by
                  show _ = _
                  rw [HFV.out]
                  unfold instCond
                  rw [DT.tree_h, HAG.out]
                  dsimp only
                  rw [local_tree, hb]
                  rfl
                clear hb
                go_upto_region 20 with fail
                refine Reg.G.start (by kernel_rfl) ?_
                obtain ⟨wD, hD⟩ : ∃ w, wv.drew = w := ⟨_, rfl⟩
                have HFD : Hid (Fr (fun _ => False) wv wD) := by rw [← hD]; exact (Fr.refl _ wv).drew
                rw [hD]
                clear hD
                refine' Reg.G.pure (i := 0) (v := _) rfl (by rfl) (by kernel_rfl) (by kernel_rfl) (by kernel_rfl) (fun _ _ _ h => h) ?hyw20wv21 ?rehyw20wv21
                case hyw20wv21 => exact fun w => by first | (go_simp; done) | (go_simp; with_reducible rfl)
                simp only [Act.put, List.setIfInBounds_toArray, List.set_cons_zero, List.set_cons_succ]
                refine' Reg.G.take (i := 1) (v := _) (F := (fun w => Fr (fun _ => False) wv w)) rfl (by rfl) (by kernel_rfl) (by kernel_rfl) (by kernel_rfl) (fun _ _ _ h => h) (HFD.out) ?hyw20wv22 ?rehyw20wv22
                case hyw20wv22 => intro w hw; have kc : w.cell? ⟨gc, 13, none⟩ = some (.slice (some ⟨gn, 0, none⟩) h'.conds.length h'.conds.length) := (cell_of_blk (hw.blk (HUV.out.blk (HFU.out.blk HBr.out (fun h => h)) (fun h => h)) (fun h => h)) 13).trans rfl; clear hw; first | (go_simp; done) | (go_simp; with_reducible rfl)
                simp only [Act.put, List.setIfInBounds_toArray, List.set_cons_zero, List.set_cons_succ]
                refine' Reg.G.pure (i := 2) (v := _) rfl (by rfl) (by kernel_rfl) (by kernel_rfl) (by kernel_rfl) (fun _ _ _ h => h) ?hyw20wv23 ?rehyw20wv23
                case hyw20wv23 => exact fun w => by first | (go_simp; done) | (go_simp; with_reducible rfl)
                simp only [Act.put, List.setIfInBounds_toArray, List.set_cons_zero, List.set_cons_succ]
                refine' Reg.G.take (i := 3) (v := _) (F := (fun w => Fr (fun _ => False) wv w)) rfl (by rfl) (by kernel_rfl) (by kernel_rfl) (by kernel_rfl) (fun _ _ _ h => h) (HFD.out) ?hyw20wv24 ?rehyw20wv24
                case hyw20wv24 => intro w hw; have kc : w.cell? ⟨q.gp, 0, none⟩ = some (.func (.func 48) #[] #[.pointer (some ⟨q.gx, 0, none⟩)]) := (cell_of_blk (hw.blk (HUV.out.blk HIu.out.p (fun h => h)) (fun h => h)) 0).trans rfl; clear hw; first | (go_simp; done) | (go_simp; with_reducible rfl)
                simp only [Act.put, List.setIfInBounds_toArray, List.set_cons_zero, List.set_cons_succ]
                refine' Reg.G.pure (i := 4) (v := _) rfl (by rfl) (by kernel_rfl) (by kernel_rfl) (by kernel_rfl) (fun _ _ _ h => h) ?hyw20wv25 ?rehyw20wv25
                case hyw20wv25 => exact fun w => by first | (go_simp; done) | (go_simp; with_reducible rfl)
                simp only [Act.put, List.setIfInBounds_toArray, List.set_cons_zero, List.set_cons_succ]
                refine' Reg.G.take (i := 5) (v := _) (F := (fun w => Fr (fun _ => False) wv w)) rfl (by rfl) (by kernel_rfl) (by kernel_rfl) (by kernel_rfl) (fun _ _ _ h => h) (HFD.out) ?hyw20wv26 ?rehyw20wv26
                case hyw20wv26 => intro w hw; have kc : w.cell? ⟨wr.heap.size, 0, none⟩ = some (.string ⟨cd1.name.toArray⟩) := (cell_of_blk (hw.blk (HUV.out.blk HDB.out (fun h => h)) (fun h => h)) 0).trans rfl; clear hw; first | (go_simp; done) | (go_simp; with_reducible rfl)
                simp only [Act.put, List.setIfInBounds_toArray, List.set_cons_zero, List.set_cons_succ]
                refine Reg.G.step (j := 6) (m := [false, false, true]) [5, 3, 1] rfl (by kernel_rfl) rfl (by kernel_rfl) (fun K hK => ?_)
                go_simp
                refine (prefixed_any x cd1.name q.gx _ ((HIu.out.fr HUV.out ⟨Nat.zero_le _, Nat.zero_le _, Nat.zero_le _, Nat.zero_le _, Nat.zero_le _, Nat.zero_le _, Nat.zero_le _, Nat.zero_le _, Nat.zero_le _, Nat.zero_le _⟩ (lo := 0) (fun _ _ _ h => h)).fr HFD.out ⟨Nat.zero_le _, Nat.zero_le _, Nat.zero_le _, Nat.zero_le _, Nat.zero_le _, Nat.zero_le _, Nat.zero_le _, Nat.zero_le _, Nat.zero_le _, Nat.zero_le _⟩ (lo := 0) (fun _ _ _ h => h)).x HN.out HCL.out).mono ?_
                rintro e w5 ⟨rfl, hw5⟩
                have hw5 := hw5.symm
                subst hw5
                refine hK.out _ _ ⟨HFD.out, trivial⟩ ?_
                clear hK K
                simp only [Act.put, List.setIfInBounds_toArray, List.set_cons_zero, List.set_cons_succ, Reg.Kept]
                refine' Reg.G.pure (i := 7) (v := _) rfl (by rfl) (by kernel_rfl) (by kernel_rfl) (by kernel_rfl) (fun _ _ _ h => h) ?hyw20wv27 ?rehyw20wv27
                case hyw20wv27 => exact fun w => by first | (go_simp; done) | (go_simp; with_reducible rfl)
                simp only [Act.put, List.setIfInBounds_toArray, List.set_cons_zero, List.set_cons_succ]
                refine' Reg.G.pure (i := 8) (v := _) rfl (by rfl) (by kernel_rfl) (by kernel_rfl) (by kernel_rfl) (fun _ _ _ h => h) ?hyw20wv28 ?rehyw20wv28
                case hyw20wv28 => exact fun w => by first | (go_simp; done) | (go_simp; with_reducible rfl)
                simp only [Act.put, List.setIfInBounds_toArray, List.set_cons_zero, List.set_cons_succ]
                refine Reg.G.step (j := 9) (m := [false]) [1] rfl (by kernel_rfl) rfl (by kernel_rfl) (fun K hK => ?_)
                obtain ⟨q1, _, q2, q3⟩ := HALL.out wD (HFU.out.trans (HUV.out.trans HFD.out))
                rw [HRV.out] at q3
                have HQ3 := Lib.hid q3
                go_simp
                clear q1 q2 q3
                obtain ⟨w6, hw6⟩ : ∃ w, wD.setCell ⟨gn, k * 2, none⟩ (.string ⟨(prefixed x.h.name cd1.name).toArray⟩) = w := ⟨_, rfl⟩
                rw [hw6] at HQ3
                rw [hw6]
                have HF6 : Hid (Fr (fun g => (Value.slice (some ⟨gn, 0, none⟩) h'.conds.length h'.conds.length).ownBlock = some g) yw w6) := by
                  rw [← hw6]
                  exact (HFK.out.trans ((HFU.out.trans (HUV.out.trans HFD.out)).mono (fun _ _ h => h.elim))).setCell (p := ⟨gn, k * 2, none⟩) (.inl rfl) _
                clear hw6
                refine hK.out _ _ trivial ?_
                clear hK K
                simp only [Act.put, List.setIfInBounds_toArray, List.set_cons_zero, List.set_cons_succ, Reg.Kept]
                refine Reg.G.done (by kernel_rfl) ?_
                go_wp2_with fail
                go_roundw
                case rel => first | exact ⟨k + 1, by go_num, HKK.out, HQ3, HF6⟩ | (refine ⟨_, _, _, _, .int .i64 ((k : Int) + 1), ⟨k + 1, by go_num, HKK.out, ?_⟩, rfl, rfl, rfl, rfl, rfl⟩; first | exact ⟨HQ3, HF6⟩ | exact HQ3)
                case measure => have := HKK.out; first | (simp [intOf]; done) | (simp [intOf]; omega)
              | false =>
                have HRV : Hid (f cd1 = repl t.h.names x.h.names cd1.name) := by
                  show _ = _
                  rw [HFV.out]
                  unfold instCond repl
                  rw [DT.tree_h, HAG.out]
                  dsimp only
                  rw [local_tree, hb]
                  rfl
                clear hb
                go_upto_region 21 with fail
                refine Reg.G.start (by kernel_rfl) ?_
                obtain ⟨wD, hD⟩ : ∃ w, wv.drew = w := ⟨_, rfl⟩
                have HFD : Hid (Fr (fun _ => False) wv wD) := by rw [← hD]; exact (Fr.refl _ wv).drew
                rw [hD]
                clear hD
                refine' Reg.G.pure (i := 0) (v := _) rfl (by rfl) (by kernel_rfl) (by kernel_rfl) (by kernel_rfl) (fun _ _ _ h => h) ?hyw21wv29 ?rehyw21wv29
                case hyw21wv29 => exact fun w => by first | (go_simp; done) | (go_simp; with_reducible rfl)
                simp only [Act.put, List.setIfInBounds_toArray, List.set_cons_zero, List.set_cons_succ]
                refine' Reg.G.take (i := 1) (v := _) (F := (fun w => Fr (fun _ => False) wv w)) rfl (by rfl) (by kernel_rfl) (by kernel_rfl) (by kernel_rfl) (fun _ _ _ h => h) (HFD.out) ?hyw21wv30 ?rehyw21wv30
                case hyw21wv30 => intro w hw; have kc : w.cell? ⟨gc, 13, none⟩ = some (.slice (some ⟨gn, 0, none⟩) h'.conds.length h'.conds.length) := (cell_of_blk (hw.blk (HUV.out.blk (HFU.out.blk HBr.out (fun h => h)) (fun h => h)) (fun h => h)) 13).trans rfl; clear hw; first | (go_simp; done) | (go_simp; with_reducible rfl)
                simp only [Act.put, List.setIfInBounds_toArray, List.set_cons_zero, List.set_cons_succ]
                refine' Reg.G.pure (i := 2) (v := _) rfl (by rfl) (by kernel_rfl) (by kernel_rfl) (by kernel_rfl) (fun _ _ _ h => h) ?hyw21wv31 ?rehyw21wv31
                case hyw21wv31 => exact fun w => by first | (go_simp; done) | (go_simp; with_reducible rfl)
                simp only [Act.put, List.setIfInBounds_toArray, List.set_cons_zero, List.set_cons_succ]
                refine' Reg.G.take (i := 3) (v := _) (F := (fun w => Fr (fun _ => False) wv w)) rfl (by rfl) (by kernel_rfl) (by kernel_rfl) (by kernel_rfl) (fun _ _ _ h => h) (HFD.out) ?hyw21wv32 ?rehyw21wv32
                case hyw21wv32 => intro w hw; have kc : w.cell? ⟨q.gr, 0, none⟩ = some (.func (.func 46) #[] #[.pointer (some ⟨q.ga, 0, none⟩)]) := (cell_of_blk (hw.blk (HUV.out.blk HIu.out.r (fun h => h)) (fun h => h)) 0).trans rfl; clear hw; first | (go_simp; done) | (go_simp; with_reducible rfl)
                simp only [Act.put, List.setIfInBounds_toArray, List.set_cons_zero, List.set_cons_succ]
                refine' Reg.G.pure (i := 4) (v := _) rfl (by rfl) (by kernel_rfl) (by kernel_rfl) (by kernel_rfl) (fun _ _ _ h => h) ?hyw21wv33 ?rehyw21wv33
                case hyw21wv33 => exact fun w => by first | (go_simp; done) | (go_simp; with_reducible rfl)
                simp only [Act.put, List.setIfInBounds_toArray, List.set_cons_zero, List.set_cons_succ]
                refine' Reg.G.take (i := 5) (v := _) (F := (fun w => Fr (fun _ => False) wv w)) rfl (by rfl) (by kernel_rfl) (by kernel_rfl) (by kernel_rfl) (fun _ _ _ h => h) (HFD.out) ?hyw21wv34 ?rehyw21wv34
                case hyw21wv34 => intro w hw; have kc : w.cell? ⟨wr.heap.size, 0, none⟩ = some (.string ⟨cd1.name.toArray⟩) := (cell_of_blk (hw.blk (HUV.out.blk HDB.out (fun h => h)) (fun h => h)) 0).trans rfl; clear hw; first | (go_simp; done) | (go_simp; with_reducible rfl)
                simp only [Act.put, List.setIfInBounds_toArray, List.set_cons_zero, List.set_cons_succ]
                refine Reg.G.step (j := 6) (m := [false, false, true]) [5, 3, 1] rfl (by kernel_rfl) rfl (by kernel_rfl) (fun K hK => ?_)
                go_simp
                refine (replace_any t.h.names x.h.names cd1.name q.ga q.m _ (HFD.out.blk (HUV.out.blk HIu.out.a (fun h => h)) (fun h => h)) ((HIu.out.mp.fr HUV.out (fun h => h)).fr HFD.out (fun h => h))).mono ?_
                rintro e w5 ⟨rfl, hw5⟩
                have hw5 := hw5.symm
                subst hw5
                refine hK.out _ _ ⟨HFD.out, trivial⟩ ?_
                clear hK K
                simp only [Act.put, List.setIfInBounds_toArray, List.set_cons_zero, List.set_cons_succ, Reg.Kept]
                refine' Reg.G.pure (i := 7) (v := _) rfl (by rfl) (by kernel_rfl) (by kernel_rfl) (by kernel_rfl) (fun _ _ _ h => h) ?hyw21wv35 ?rehyw21wv35
                case hyw21wv35 => exact fun w => by first | (go_simp; done) | (go_simp; with_reducible rfl)
                simp only [Act.put, List.setIfInBounds_toArray, List.set_cons_zero, List.set_cons_succ]
                refine' Reg.G.pure (i := 8) (v := _) rfl (by rfl) (by kernel_rfl) (by kernel_rfl) (by kernel_rfl) (fun _ _ _ h => h) ?hyw21wv36 ?rehyw21wv36
                case hyw21wv36 => exact fun w => by first | (go_simp; done) | (go_simp; with_reducible rfl)
                simp only [Act.put, List.setIfInBounds_toArray, List.set_cons_zero, List.set_cons_succ]
                refine Reg.G.step (j := 9) (m := [false]) [1] rfl (by kernel_rfl) rfl (by kernel_rfl) (fun K hK => ?_)
                obtain ⟨q1, _, q2, q3⟩ := HALL.out wD (HFU.out.trans (HUV.out.trans HFD.out))
                rw [HRV.out] at q3
                have HQ3 := Lib.hid q3
                go_simp
                clear q1 q2 q3
                obtain ⟨w6, hw6⟩ : ∃ w, wD.setCell ⟨gn, k * 2, none⟩ (.string ⟨(repl t.h.names x.h.names cd1.name).toArray⟩) = w := ⟨_, rfl⟩
                rw [hw6] at HQ3
                rw [hw6]
                have HF6 : Hid (Fr (fun g => (Value.slice (some ⟨gn, 0, none⟩) h'.conds.length h'.conds.length).ownBlock = some g) yw w6) := by
                  rw [← hw6]
                  exact (HFK.out.trans ((HFU.out.trans (HUV.out.trans HFD.out)).mono (fun _ _ h => h.elim))).setCell (p := ⟨gn, k * 2, none⟩) (.inl rfl) _
                clear hw6
                refine hK.out _ _ trivial ?_
                clear hK K
                simp only [Act.put, List.setIfInBounds_toArray, List.set_cons_zero, List.set_cons_succ, Reg.Kept]
                refine Reg.G.done (by kernel_rfl) ?_
                go_wp2_with fail
                go_roundw
                case rel => first | exact ⟨k + 1, by go_num, HKK.out, HQ3, HF6⟩ | (refine ⟨_, _, _, _, .int .i64 ((k : Int) + 1), ⟨k + 1, by go_num, HKK.out, ?_⟩, rfl, rfl, rfl, rfl, rfl⟩; first | exact ⟨HQ3, HF6⟩ | exact HQ3)
                case measure => have := HKK.out; first | (simp [intOf]; done) | (simp [intOf]; omega)
          · obtain rfl : k = h'.conds.length := by omega
            rw [mixed_all] at HCK
            have HRr : Hid (wr.heap[W.heap.size + 1]? = some (.cells #[.int .i64 0, .string ⟨#[]⟩, .int .i64 0, .string ⟨#[]⟩, .string ⟨#[]⟩, .int .i64 0, .int .i64 0, .int .i64 0, .bool false, .string ⟨#[]⟩, .int .i64 0, .bool false, .string ⟨#[]⟩, .slice none 0 0, .string ⟨#[]⟩, .string ⟨#[]⟩, .int .i64 0, .int .i64 0, .string ⟨#[]⟩, .string ⟨#[]⟩, .bool false, .string ⟨#[]⟩, .string ⟨#[]⟩, .bool false, .bool false, .bool false, .bool false, .bool false, .bool false, .bool false, .slice none 0 0, .slice none 0 0, .slice none 0 0] 41 (0, 0))) := HFK.out.blk (HFY.out.blk HR3.out (fun e => by have := HGC.out; omega)) (fun e => by have h1 := (HOB.out _ (.inl rfl) _ e).1; have h2 := S0.out; omega)
            go_upto_region 23 with fail
            iterate 1 go_step
            refine wpList_load_row rfl 41 _ rfl gc rfl 41 (icells h9 (.slice Ac h'.conds.length h'.conds.length) (.slice Ad h'.dates.length cd) (.slice An h'.names.length h'.names.length) (.slice Ai l.length ci)).toArray (0, 0) _ HBr.out Try.underlying41 rfl (by rw [info_item]; rfl) ?_
            simp only [Act.put, List.setIfInBounds_toArray, List.set_cons_zero, List.set_cons_succ]
            refine wpList_store_row rfl 41 _ _ rfl (W.heap.size + 1) (icells h9 (.slice Ac h'.conds.length h'.conds.length) (.slice Ad h'.dates.length cd) (.slice An h'.names.length h'.names.length) (.slice Ai l.length ci)).toArray rfl rfl 41 _ HRr.out (by rw [info_item]; rfl) rfl (by simp [icells, Value.oneCell', sv, nv]) ?_
            simp only [Act.put, List.setIfInBounds_toArray, List.set_cons_zero, List.set_cons_succ]
            obtain ⟨w9, hw9⟩ : ∃ w9, wr.setRow (W.heap.size + 1) (icells h9 (.slice Ac h'.conds.length h'.conds.length) (.slice Ad h'.dates.length cd) (.slice An h'.names.length h'.names.length) (.slice Ai l.length ci)).toArray = w9 := ⟨_, rfl⟩
            rw [hw9]
            have HF9 : Hid (Fr (fun j => j = W.heap.size + 1) wr w9) := by rw [← hw9]; exact (Fr.refl (fun j => j = W.heap.size + 1) wr).setRow (.inl rfl) _
            have HB9 : Hid (w9.heap[W.heap.size + 1]? = some (.cells (icells h9 (.slice Ac h'.conds.length h'.conds.length) (.slice Ad h'.dates.length cd) (.slice An h'.names.length h'.names.length) (.slice Ai l.length ci)).toArray 41 (0, 0))) := by rw [← hw9]; exact blk_row HRr.out _
            clear hw9
            go_wp2_with fail
            refine bodyPost_ret (results_blk Try.results49 rfl HB9.out Try.underlying41 rfl (by rw [info_item]; rfl)) rfl ?_
            have z0 := S0.out; have zl := HSH.out; have zg := HGC.out
            refine ⟨.node { h9 with conds := h1.conds.map (instCond t.tree x.h) } (.slice Ac h'.conds.length h'.conds.length) (.slice Ad h'.dates.length cd) (.slice An h'.names.length h'.names.length) (.slice Ai l.length ci) l, rfl, ?_, ?_, ?_⟩
            · rw [tree_node, tree_node, HR.out, HTL.out, HH9.out]
            · refine Lay.mk' ?_ ?_ ?_ ?_
              · show RowB _ _ _ _ ((h1.conds.map (instCond t.tree x.h)).map namedc)
                have e1 : h1.conds.map (instCond t.tree x.h) = h'.conds.map (fun c => { c with name := f c }) := by rw [← HH1.out]; exact List.map_congr_left (fun c _ => HFN.out c)
                rw [e1]
                exact (HCK.out.fr HF9.out (fun g h1 _ e => by omega)).row (B := fun g => W.heap.size ≤ g) named_len (by rw [List.length_map, List.length_map]; omega) (fun g hg => by have := (HOB.out _ (.inl rfl) g hg).1; omega)
              · show RowB _ _ _ _ (h9.dates.map civilc)
                rw [HC9.out.2.1]
                exact (((HOD.out.fr HFY.out (fun g h1 h2 => by have h3 := HG1.out; have h4 := h1.2; omega)).fr HFK.out (fun g h1 h2 => h1.1.2.1 h2)).fr HF9.out (fun g hg e => by omega)).mono (fun g _ hg => by omega)
              · show RowB _ _ _ _ (h9.names.map _)
                rw [HC9.out.2.2]
                exact (((HON.out.fr HFY.out (fun g h1 h2 e => by have := (HOB.out _ (.inr rfl) g h2).2; omega)).fr HFK.out (fun g h1 h2 h3 => HOA.out g h3 h2)).fr HF9.out (fun g h1 _ e => by omega)).row (B := fun g => W.heap.size ≤ g) names_len (by rw [List.length_map]; omega) (fun g hg => by have := (HOB.out _ (.inr rfl) g hg).1; omega)
              · exact (((HOI.out.fr HFY.out (fun g h1 h2 => by have h3 := HG1.out; have h4 := h1.2; omega)).fr HFK.out (fun g h1 h2 => h1.1.2.1 h2)).fr HF9.out (fun g hg e => by omega)).mono (fun g _ hg => by omega)
            · exact HFWr.out.trans' HF9.out (fun g hg e => by omega)
end Go.Proofs.Yticakdajhmfpoaa.Ic
