/-
  Include: an item of the source is examined.
-/
import Derived.Test.YticakdajhmfpoaaIncIncl
namespace Go.Proofs.Yticakdajhmfpoaa.Ic
open Go.RowKit Mem Vw Rs
open Go.ChangeMaps (setBlock)
set_option linter.unusedVariables false
set_option linter.unusedSimpArgs false

theorem exam_decl {E : Env} {sn : List DT} {y : DT} {s : St} (h : defines y.h.kind = true) : examine E (sn.map DT.tree) y.tree s = ((if ((fst sn y.h.kind y.h.name).isSome || (decide (y.h.kind = 13) && twins y.h.names)) = true then 9 else 0), s) := by
  unfold examine
  rw [DT.tree_h, if_pos h, fst_first, Option.isSome_map]
  split <;> rfl
theorem exam_incl {E : Env} {sn : List Tree} {y : DT} {s : St} (h : y.h.kind = 14) : examine E sn y.tree s = incl E y.h.pos 601 [] y.h s := by
  unfold examine
  rw [DT.tree_h, if_neg (by rw [h]; decide), if_pos h]
theorem exam_clause {E : Env} {sn : List Tree} {y : DT} {s : St} (h : isClause y.h.kind = true) : examine E sn y.tree s = clause E y.tree s := by
  have := clause_not h
  unfold examine
  rw [DT.tree_h, if_neg (by rw [this.1]; decide), if_neg this.2, if_pos h]
theorem exam_rest {E : Env} {sn : List Tree} {y : DT} {s : St} (h1 : defines y.h.kind = false) (h2 : y.h.kind ≠ 14) (h3 : isClause y.h.kind = false) : examine E sn y.tree s = if 600 < s.count + 1 then (3, ⟨s.count + 1, s.out⟩) else (0, ⟨s.count + 1, s.out ++ [y.tree]⟩) := by
  unfold examine
  rw [DT.tree_h, if_neg (by rw [h1]; decide), if_neg h2, if_neg (by rw [h3]; decide)]
theorem Step.from {Q : Prop} {B : Nat} {l : List DT} {op : List Rs.Bytes} {sn : List DT} {iv : Value} {W w0 : World} {r : St} {w' : World} (hf : Fr (fun _ => False) W w0) (h : Step Q B l op sn iv w0 r w') : Step Q B l op sn iv W r w' := by
  obtain ⟨⟨iv', ds', q1, q2, q3⟩, q4⟩ := h
  exact ⟨⟨iv', ds', q1, q2, fun g hg => (q3 g hg).imp id (fun h => Nat.le_trans hf.size h)⟩, (hf.mono (fun _ _ h => h.elim)).trans q4⟩
theorem XS.rest {Q : Prop} {B : Nat} {l : List DT} {op : List Rs.Bytes} {sn : List DT} {cnt : Nat} {iv : Value} {ds : List DT} {w : World} {y : DT} (hd : defines y.h.kind = false) (h : XS Q B l op sn cnt iv ds w) : XS Q B l op (sn ++ [y]) cnt iv ds w := ⟨h.ex.seenRest hd, h.own, h.lay⟩
theorem Step.rest {Q : Prop} {B : Nat} {l : List DT} {op : List Rs.Bytes} {sn : List DT} {iv : Value} {W : World} {r : St} {w' : World} {y : DT} (hd : defines y.h.kind = false) (h : Step Q B l op sn iv W r w') : Step Q B l op (sn ++ [y]) iv W r w' := by
  obtain ⟨⟨iv', ds', q1, q2, q3⟩, q4⟩ := h
  exact ⟨⟨iv', ds', q1.rest hd, q2, q3⟩, q4⟩
/-- What examine returns. -/
def ExamR (Q : Prop) (B : Nat) (l sn : List DT) (iv : Value) (y : DT) (W : World) (r : Int × St) (e : Ending) (w' : World) : Prop := e = .returned (.int .i64 r.1) ∧ Step Q B l [] (sn ++ [y]) iv W r.2 w'
set_option maxRecDepth 100000 in
set_option maxHeartbeats 8000000 in
theorem exam_13 {Q : Prop} {B : Nat} {l sn : List DT} {cnt : Nat} {iv : Value} {ds : List DT} (y : DT) (W : World) (hX : XS Q B l [] sn cnt iv ds W) (hy : Lay (fun g => g < B) W y) (hk : y.h.kind = 13) :
    Calls Try.prog 26 #[.pointer (some ⟨B + 8, 0, none⟩), .agg y.cells.toArray] W (ExamR Q B l sn iv y W (examine (envD l) (sn.map DT.tree) y.tree ⟨cnt, ds.map DT.tree⟩)) := by
  obtain ⟨w0, HW0⟩ : ∃ w0, Hid (W.alloc (.cells y.cells.toArray 41) = w0) := ⟨_, rfl⟩
  have HF0 : Hid (Fr (fun _ => False) W w0) := by rw [← HW0.out]; exact (Fr.refl _ W).alloc _
  have HB0 : Hid (w0.heap[W.heap.size]? = some (.cells y.cells.toArray 41 (0, 0))) := by rw [← HW0.out]; exact blk_newn rfl
  have HX0 : Hid (XS Q B l [] sn cnt iv ds w0) := hX.fr HF0.out (fun _ _ _ h => h)
  have HY0 : Hid (Lay (fun g => g < B) w0 y) := hy.fr HF0.out (fun _ _ h => h)
  have HGB : Hid (B + 8 < W.heap.size) := lt_of_blk hX.ex.blk
  clear hX hy
  obtain ⟨h, c, d, n, i, lst⟩ := y
  have HW0 : Hid (W.alloc (.cells (icells h c d n i).toArray 41) = w0) := HW0
  have HB0 : Hid (w0.heap[W.heap.size]? = some (.cells (icells h c d n i).toArray 41 (0, 0))) := HB0
  show Calls _ _ #[_, .agg (icells h c d n i).toArray] _ _
  have HDC := declare_13 (.node h c d n i lst) w0 HX0.out.ex HY0.out hk
  have HR := exam_decl (E := envD l) (sn := sn) (y := .node h c d n i lst) (s := ⟨cnt, ds.map DT.tree⟩) (by rw [hk]; rfl)
  unfold DeclR at HDC
  obtain ⟨v, hv⟩ : ∃ v : Int, (if ((fst sn (DT.node h c d n i lst).h.kind (DT.node h c d n i lst).h.name).isSome || (decide ((DT.node h c d n i lst).h.kind = 13) && twins (DT.node h c d n i lst).h.names)) = true then 9 else 0) = v := ⟨_, rfl⟩
  rw [hv] at HDC HR
  have HDC := Lib.hid HDC; have HR := Lib.hid HR
  have k0 : w0.cell? ⟨W.heap.size, 0, none⟩ = some (.int .i64 13) := by rw [← show h.kind = 13 from hk]; exact (cell_of_blk HB0.out 0).trans rfl
  clear hk hv
  go_enter Try.func26, Try.ntmps26
  go_upto_region 1 with fail
  rw [HW0.out]
  clear HW0
  go_upto_region 2 with fail
  clear k0
  iterate 4 go_step
  refine wpList_load_row rfl 41 _ rfl W.heap.size rfl 41 (icells h c d n i).toArray (0, 0) _ HB0.out Try.underlying41 rfl (by rw [info_item]; rfl) ?_
  simp only [Act.put, List.setIfInBounds_toArray, List.set_cons_zero, List.set_cons_succ]
  go_wp2_with fail
  refine HDC.out.mono ?_
  rintro e w9 ⟨rfl, hex, hf⟩
  have HEX := Lib.hid hex; have HF9 := Lib.hid hf
  clear hex hf HDC
  go_wp2_with fail
  go_ret
  rw [HR.out]
  refine ⟨rfl, ⟨⟨iv, ds, ⟨HEX.out, own_fr HX0.out.own HF9.out (fun k h1 _ e => by omega), fun q d hd => (HX0.out.lay q d hd).fr HF9.out (fun g hg e => by omega)⟩, rfl, fun g hg => .inl hg⟩, ?_⟩⟩
  exact (HF0.out.mono (T := SX B iv) (fun _ _ h => h.elim)).trans (HF9.out.mono (fun g _ e => .inl ⟨by omega, by omega⟩))
set_option maxRecDepth 100000 in
set_option maxHeartbeats 8000000 in
theorem exam_6 {Q : Prop} {B : Nat} {l sn : List DT} {cnt : Nat} {iv : Value} {ds : List DT} (y : DT) (W : World) (hX : XS Q B l [] sn cnt iv ds W) (hy : Lay (fun g => g < B) W y) (hk : y.h.kind = 6) :
    Calls Try.prog 26 #[.pointer (some ⟨B + 8, 0, none⟩), .agg y.cells.toArray] W (ExamR Q B l sn iv y W (examine (envD l) (sn.map DT.tree) y.tree ⟨cnt, ds.map DT.tree⟩)) := by
  obtain ⟨w0, HW0⟩ : ∃ w0, Hid (W.alloc (.cells y.cells.toArray 41) = w0) := ⟨_, rfl⟩
  have HF0 : Hid (Fr (fun _ => False) W w0) := by rw [← HW0.out]; exact (Fr.refl _ W).alloc _
  have HB0 : Hid (w0.heap[W.heap.size]? = some (.cells y.cells.toArray 41 (0, 0))) := by rw [← HW0.out]; exact blk_newn rfl
  have HX0 : Hid (XS Q B l [] sn cnt iv ds w0) := hX.fr HF0.out (fun _ _ _ h => h)
  have HY0 : Hid (Lay (fun g => g < B) w0 y) := hy.fr HF0.out (fun _ _ h => h)
  have HGB : Hid (B + 8 < W.heap.size) := lt_of_blk hX.ex.blk
  clear hX hy
  obtain ⟨h, c, d, n, i, lst⟩ := y
  have HW0 : Hid (W.alloc (.cells (icells h c d n i).toArray 41) = w0) := HW0
  have HB0 : Hid (w0.heap[W.heap.size]? = some (.cells (icells h c d n i).toArray 41 (0, 0))) := HB0
  show Calls _ _ #[_, .agg (icells h c d n i).toArray] _ _
  have HDC := declare_6 (.node h c d n i lst) w0 HX0.out.ex HY0.out hk
  have HR := exam_decl (E := envD l) (sn := sn) (y := .node h c d n i lst) (s := ⟨cnt, ds.map DT.tree⟩) (by rw [hk]; rfl)
  unfold DeclR at HDC
  obtain ⟨v, hv⟩ : ∃ v : Int, (if ((fst sn (DT.node h c d n i lst).h.kind (DT.node h c d n i lst).h.name).isSome || (decide ((DT.node h c d n i lst).h.kind = 13) && twins (DT.node h c d n i lst).h.names)) = true then 9 else 0) = v := ⟨_, rfl⟩
  rw [hv] at HDC HR
  have HDC := Lib.hid HDC; have HR := Lib.hid HR
  have k0 : w0.cell? ⟨W.heap.size, 0, none⟩ = some (.int .i64 6) := by rw [← show h.kind = 6 from hk]; exact (cell_of_blk HB0.out 0).trans rfl
  clear hk hv
  go_enter Try.func26, Try.ntmps26
  go_upto_region 1 with fail
  rw [HW0.out]
  clear HW0
  go_upto_region 2 with fail
  clear k0
  iterate 4 go_step
  refine wpList_load_row rfl 41 _ rfl W.heap.size rfl 41 (icells h c d n i).toArray (0, 0) _ HB0.out Try.underlying41 rfl (by rw [info_item]; rfl) ?_
  simp only [Act.put, List.setIfInBounds_toArray, List.set_cons_zero, List.set_cons_succ]
  go_wp2_with fail
  refine HDC.out.mono ?_
  rintro e w9 ⟨rfl, hex, hf⟩
  have HEX := Lib.hid hex; have HF9 := Lib.hid hf
  clear hex hf HDC
  go_wp2_with fail
  go_ret
  rw [HR.out]
  refine ⟨rfl, ⟨⟨iv, ds, ⟨HEX.out, own_fr HX0.out.own HF9.out (fun k h1 _ e => by omega), fun q d hd => (HX0.out.lay q d hd).fr HF9.out (fun g hg e => by omega)⟩, rfl, fun g hg => .inl hg⟩, ?_⟩⟩
  exact (HF0.out.mono (T := SX B iv) (fun _ _ h => h.elim)).trans (HF9.out.mono (fun g _ e => .inl ⟨by omega, by omega⟩))
set_option maxRecDepth 100000 in
set_option maxHeartbeats 8000000 in
theorem exam_7 {Q : Prop} {B : Nat} {l sn : List DT} {cnt : Nat} {iv : Value} {ds : List DT} (y : DT) (W : World) (hX : XS Q B l [] sn cnt iv ds W) (hy : Lay (fun g => g < B) W y) (hk : y.h.kind = 7) :
    Calls Try.prog 26 #[.pointer (some ⟨B + 8, 0, none⟩), .agg y.cells.toArray] W (ExamR Q B l sn iv y W (examine (envD l) (sn.map DT.tree) y.tree ⟨cnt, ds.map DT.tree⟩)) := by
  obtain ⟨w0, HW0⟩ : ∃ w0, Hid (W.alloc (.cells y.cells.toArray 41) = w0) := ⟨_, rfl⟩
  have HF0 : Hid (Fr (fun _ => False) W w0) := by rw [← HW0.out]; exact (Fr.refl _ W).alloc _
  have HB0 : Hid (w0.heap[W.heap.size]? = some (.cells y.cells.toArray 41 (0, 0))) := by rw [← HW0.out]; exact blk_newn rfl
  have HX0 : Hid (XS Q B l [] sn cnt iv ds w0) := hX.fr HF0.out (fun _ _ _ h => h)
  have HY0 : Hid (Lay (fun g => g < B) w0 y) := hy.fr HF0.out (fun _ _ h => h)
  have HGB : Hid (B + 8 < W.heap.size) := lt_of_blk hX.ex.blk
  clear hX hy
  obtain ⟨h, c, d, n, i, lst⟩ := y
  have HW0 : Hid (W.alloc (.cells (icells h c d n i).toArray 41) = w0) := HW0
  have HB0 : Hid (w0.heap[W.heap.size]? = some (.cells (icells h c d n i).toArray 41 (0, 0))) := HB0
  show Calls _ _ #[_, .agg (icells h c d n i).toArray] _ _
  have HDC := declare_7 (.node h c d n i lst) w0 HX0.out.ex HY0.out hk
  have HR := exam_decl (E := envD l) (sn := sn) (y := .node h c d n i lst) (s := ⟨cnt, ds.map DT.tree⟩) (by rw [hk]; rfl)
  unfold DeclR at HDC
  obtain ⟨v, hv⟩ : ∃ v : Int, (if ((fst sn (DT.node h c d n i lst).h.kind (DT.node h c d n i lst).h.name).isSome || (decide ((DT.node h c d n i lst).h.kind = 13) && twins (DT.node h c d n i lst).h.names)) = true then 9 else 0) = v := ⟨_, rfl⟩
  rw [hv] at HDC HR
  have HDC := Lib.hid HDC; have HR := Lib.hid HR
  have k0 : w0.cell? ⟨W.heap.size, 0, none⟩ = some (.int .i64 7) := by rw [← show h.kind = 7 from hk]; exact (cell_of_blk HB0.out 0).trans rfl
  clear hk hv
  go_enter Try.func26, Try.ntmps26
  go_upto_region 1 with fail
  rw [HW0.out]
  clear HW0
  go_upto_region 2 with fail
  clear k0
  iterate 4 go_step
  refine wpList_load_row rfl 41 _ rfl W.heap.size rfl 41 (icells h c d n i).toArray (0, 0) _ HB0.out Try.underlying41 rfl (by rw [info_item]; rfl) ?_
  simp only [Act.put, List.setIfInBounds_toArray, List.set_cons_zero, List.set_cons_succ]
  go_wp2_with fail
  refine HDC.out.mono ?_
  rintro e w9 ⟨rfl, hex, hf⟩
  have HEX := Lib.hid hex; have HF9 := Lib.hid hf
  clear hex hf HDC
  go_wp2_with fail
  go_ret
  rw [HR.out]
  refine ⟨rfl, ⟨⟨iv, ds, ⟨HEX.out, own_fr HX0.out.own HF9.out (fun k h1 _ e => by omega), fun q d hd => (HX0.out.lay q d hd).fr HF9.out (fun g hg e => by omega)⟩, rfl, fun g hg => .inl hg⟩, ?_⟩⟩
  exact (HF0.out.mono (T := SX B iv) (fun _ _ h => h.elim)).trans (HF9.out.mono (fun g _ e => .inl ⟨by omega, by omega⟩))
set_option maxRecDepth 100000 in
set_option maxHeartbeats 8000000 in
theorem exam_2 {Q : Prop} {B : Nat} {l sn : List DT} {cnt : Nat} {iv : Value} {ds : List DT} (y : DT) (W : World) (hX : XS Q B l [] sn cnt iv ds W) (hy : Lay (fun g => g < B) W y) (hT : ∀ z ∈ l, Lay (fun g => g < B) W z) (hTK : ∀ z ∈ l, z.h.kind = 13 → TOk z) (hn : y.h.name.length ≤ 1000000) (hc : cnt ≤ 601) (hI : Inv ⟨cnt, ds.map DT.tree⟩) (hk : y.h.kind = 14) :
    Calls Try.prog 26 #[.pointer (some ⟨B + 8, 0, none⟩), .agg y.cells.toArray] W (ExamR Q B l sn iv y W (examine (envD l) (sn.map DT.tree) y.tree ⟨cnt, ds.map DT.tree⟩)) := by
  obtain ⟨w0, HW0⟩ : ∃ w0, Hid (W.alloc (.cells y.cells.toArray 41) = w0) := ⟨_, rfl⟩
  have HF0 : Hid (Fr (fun _ => False) W w0) := by rw [← HW0.out]; exact (Fr.refl _ W).alloc _
  have HB0 : Hid (w0.heap[W.heap.size]? = some (.cells y.cells.toArray 41 (0, 0))) := by rw [← HW0.out]; exact blk_newn rfl
  have HX0 : Hid (XS Q B l [] sn cnt iv ds w0) := hX.fr HF0.out (fun _ _ _ h => h)
  have HY0 : Hid (Lay (fun g => g < B) w0 y) := hy.fr HF0.out (fun _ _ h => h)
  have HT0 : Hid (∀ z ∈ l, Lay (fun g => g < B) w0 z) := fun z hz => (hT z hz).fr HF0.out (fun _ _ h => h)
  have HGB : Hid (B + 8 < W.heap.size) := lt_of_blk hX.ex.blk
  clear hX hy hT
  obtain ⟨h, c, d, n, i, lst⟩ := y
  have HW0 : Hid (W.alloc (.cells (icells h c d n i).toArray 41) = w0) := HW0
  have HB0 : Hid (w0.heap[W.heap.size]? = some (.cells (icells h c d n i).toArray 41 (0, 0))) := HB0
  show Calls _ _ #[_, .agg (icells h c d n i).toArray] _ _
  have HCL := Lib.hid (include_any 601 (op := []) (.node h c d n i lst) h.pos w0 HX0.out (HY0.out.mono (fun g _ hg h2 => by omega)) HT0.out hTK (by omega) hc hI hn)
  have HR := Lib.hid (exam_incl (E := envD l) (sn := sn.map DT.tree) (s := ⟨cnt, ds.map DT.tree⟩) hk)
  have HDN : Hid (defines (DT.node h c d n i lst).h.kind = false) := by show _ = _; rw [hk]; rfl
  have k0 : w0.cell? ⟨W.heap.size, 0, none⟩ = some (.int .i64 14) := by rw [← show h.kind = 14 from hk]; exact (cell_of_blk HB0.out 0).trans rfl
  have k2 : w0.cell? ⟨W.heap.size, 2, none⟩ = some (.int .i64 h.pos) := (cell_of_blk HB0.out 2).trans rfl
  clear hTK hn hc hI hk HX0 HY0
  go_enter Try.func26, Try.ntmps26
  go_upto_region 1 with fail
  rw [HW0.out]
  clear HW0
  go_upto_region 4 with fail
  clear k0
  iterate 4 go_step
  refine wpList_load_row rfl 41 _ rfl W.heap.size rfl 41 (icells h c d n i).toArray (0, 0) _ HB0.out Try.underlying41 rfl (by rw [info_item]; rfl) ?_
  simp only [Act.put, List.setIfInBounds_toArray, List.set_cons_zero, List.set_cons_succ]
  go_wp2_with fail
  refine HCL.out.mono ?_
  rintro e w9 ⟨rfl, hst⟩
  have HST := Lib.hid hst
  clear hst HCL
  go_wp2_with fail
  go_ret
  rw [HR.out]
  exact ⟨rfl, (HST.out.rest HDN.out).from HF0.out⟩
set_option maxRecDepth 100000 in
set_option maxHeartbeats 8000000 in
theorem exam_3 {Q : Prop} {B : Nat} {l sn : List DT} {cnt : Nat} {iv : Value} {ds : List DT} (y : DT) (W : World) (hX : XS Q B l [] sn cnt iv ds W) (hy : Lay (fun g => g < B) W y) (hT : ∀ z ∈ l, Lay (fun g => g < B) W z) (hs : Short y) (hc : cnt ≤ 1000) (hds : ds.length ≤ 1000) (hk : isClause y.h.kind = true) :
    Calls Try.prog 26 #[.pointer (some ⟨B + 8, 0, none⟩), .agg y.cells.toArray] W (ExamR Q B l sn iv y W (examine (envD l) (sn.map DT.tree) y.tree ⟨cnt, ds.map DT.tree⟩)) := by
  obtain ⟨w0, HW0⟩ : ∃ w0, Hid (W.alloc (.cells y.cells.toArray 41) = w0) := ⟨_, rfl⟩
  have HF0 : Hid (Fr (fun _ => False) W w0) := by rw [← HW0.out]; exact (Fr.refl _ W).alloc _
  have HB0 : Hid (w0.heap[W.heap.size]? = some (.cells y.cells.toArray 41 (0, 0))) := by rw [← HW0.out]; exact blk_newn rfl
  have HX0 : Hid (XS Q B l [] sn cnt iv ds w0) := hX.fr HF0.out (fun _ _ _ h => h)
  have HY0 : Hid (Lay (fun g => g < B) w0 y) := hy.fr HF0.out (fun _ _ h => h)
  have HT0 : Hid (∀ z ∈ l, Lay (fun g => g < B) w0 z) := fun z hz => (hT z hz).fr HF0.out (fun _ _ h => h)
  have HGB : Hid (B + 8 < W.heap.size) := lt_of_blk hX.ex.blk
  clear hX hy hT
  obtain ⟨h, c, d, n, i, lst⟩ := y
  have HW0 : Hid (W.alloc (.cells (icells h c d n i).toArray 41) = w0) := HW0
  have HB0 : Hid (w0.heap[W.heap.size]? = some (.cells (icells h c d n i).toArray 41 (0, 0))) := HB0
  show Calls _ _ #[_, .agg (icells h c d n i).toArray] _ _
  have HCP := Lib.hid (copyItem_any (tsz lst) (.node h c d n i lst) _ w0 (Nat.le_refl _) HY0.out hs)
  have HSL : Hid ((DT.node h c d n i lst).h.conds.length ≤ 1000000 ∧ (DT.node h c d n i lst).h.names.length ≤ 1000000) := ⟨hs.lens.1, hs.lens.2.2.1⟩
  have HR := Lib.hid (exam_clause (E := envD l) (sn := sn.map DT.tree) (s := ⟨cnt, ds.map DT.tree⟩) hk)
  have HDN : Hid (defines (DT.node h c d n i lst).h.kind = false) := (clause_not hk).1
  have HC := Lib.hid hc; have HDS := Lib.hid hds
  have k0 : w0.cell? ⟨W.heap.size, 0, none⟩ = some (.int .i64 h.kind) := (cell_of_blk HB0.out 0).trans rfl
  have HIC := isClause_any h.kind w0
  rw [show isClause h.kind = true from hk] at HIC
  have HIC := Lib.hid HIC
  obtain ⟨d1, d2, d3⟩ := defines_not (clause_not hk).1
  have d4 := (clause_not hk).2
  have b1 : (h.kind == 13) = false := by simpa using (show ¬ h.kind = 13 from d1)
  have b2 : (h.kind == 6) = false := by simpa using (show ¬ h.kind = 6 from d2)
  have b3 : (h.kind == 7) = false := by simpa using (show ¬ h.kind = 7 from d3)
  have b4 : (h.kind == 14) = false := by simpa using (show ¬ h.kind = 14 from d4)
  clear hs hc hds hk d1 d2 d3 d4
  go_enter Try.func26, Try.ntmps26
  go_upto_region 1 with fail
  rw [HW0.out]
  clear HW0
  go_upto_region 5 with fail
  clear b1 b2 b3 b4
  go_wp2_with fail
  refine HIC.out.mono ?_
  rintro e wq ⟨rfl, hwq⟩
  have hwq := hwq.symm
  subst hwq
  clear HIC k0
  go_upto_region 6 with fail
  iterate 4 go_step
  refine wpList_load_row rfl 41 _ rfl W.heap.size rfl 41 (icells h c d n i).toArray (0, 0) _ HB0.out Try.underlying41 rfl (by rw [info_item]; rfl) ?_
  simp only [Act.put, List.setIfInBounds_toArray, List.set_cons_zero, List.set_cons_succ]
  go_wp2_with fail
  refine HCP.out.mono ?_
  rintro e w1 ⟨z, rfl, hz1, hz2, hz3, hz4⟩
  have HF1 := Lib.hid hz4
  have HZT := Lib.hid hz1
  have HX1 : Hid (XS Q B l [] sn cnt iv ds w1) := HX0.out.fr HF1.out (fun _ _ _ h => h)
  have HZL : Hid (Lay (fun g => B + 9 ≤ g ∧ iv.ownBlock ≠ some g) w1 z) := (hz3.lay (by rw [hz2]; exact HSL.out.1) (by rw [hz2]; exact HSL.out.2)).mono (fun g _ hg => ⟨by have h1 := HGB.out; have h2 := HF0.out.size; omega, fun e => by have h1 := (own_lt HX0.out.own g e).2; omega⟩)
  have HCL := clause_any (op := []) z w1 HX1.out HZL.out (fun x hx => (HT0.out x hx).one) HC.out HDS.out
  rw [HZT.out] at HCL
  have HCL := Lib.hid HCL
  clear hz1 hz2 hz3 hz4 HCP
  go_wp2_with fail
  refine HCL.out.mono ?_
  rintro e w9 ⟨rfl, hst⟩
  have HST := Lib.hid hst
  clear hst HCL
  go_wp2_with fail
  go_ret
  rw [HR.out]
  exact ⟨rfl, (HST.out.rest HDN.out).from (HF0.out.trans HF1.out)⟩
set_option maxRecDepth 100000 in
set_option maxHeartbeats 16000000 in
theorem exam_4 {Q : Prop} {B : Nat} {l sn : List DT} {cnt : Nat} {iv : Value} {ds : List DT} (y : DT) (W : World) (hX : XS Q B l [] sn cnt iv ds W) (hy : Lay (fun g => g < B) W y) (hT : ∀ z ∈ l, Lay (fun g => g < B) W z) (hs : Short y) (hc : cnt ≤ 1000) (hds : ds.length ≤ 1000) (hd : defines y.h.kind = false) (h14 : y.h.kind ≠ 14) (hk : isClause y.h.kind = false) :
    Calls Try.prog 26 #[.pointer (some ⟨B + 8, 0, none⟩), .agg y.cells.toArray] W (ExamR Q B l sn iv y W (examine (envD l) (sn.map DT.tree) y.tree ⟨cnt, ds.map DT.tree⟩)) := by
  obtain ⟨w0, HW0⟩ : ∃ w0, Hid (W.alloc (.cells y.cells.toArray 41) = w0) := ⟨_, rfl⟩
  have HF0 : Hid (Fr (fun _ => False) W w0) := by rw [← HW0.out]; exact (Fr.refl _ W).alloc _
  have HB0 : Hid (w0.heap[W.heap.size]? = some (.cells y.cells.toArray 41 (0, 0))) := by rw [← HW0.out]; exact blk_newn rfl
  have HX0 : Hid (XS Q B l [] sn cnt iv ds w0) := hX.fr HF0.out (fun _ _ _ h => h)
  have HY0 : Hid (Lay (fun g => g < B) w0 y) := hy.fr HF0.out (fun _ _ h => h)
  have HT0 : Hid (∀ z ∈ l, Lay (fun g => g < B) w0 z) := fun z hz => (hT z hz).fr HF0.out (fun _ _ h => h)
  have HGB : Hid (B + 8 < W.heap.size) := lt_of_blk hX.ex.blk
  clear hX hy hT
  obtain ⟨h, c, d, n, i, lst⟩ := y
  have HW0 : Hid (W.alloc (.cells (icells h c d n i).toArray 41) = w0) := HW0
  have HB0 : Hid (w0.heap[W.heap.size]? = some (.cells (icells h c d n i).toArray 41 (0, 0))) := HB0
  show Calls _ _ #[_, .agg (icells h c d n i).toArray] _ _
  obtain ⟨A, cp, hiv⟩ := HX0.out.lens
  have HIV := Lib.hid hiv
  have HS := Lib.hid hs
  have HSL : Hid ((DT.node h c d n i lst).h.conds.length ≤ 1000000 ∧ (DT.node h c d n i lst).h.names.length ≤ 1000000) := ⟨hs.lens.1, hs.lens.2.2.1⟩
  have hr := exam_rest (E := envD l) (sn := sn.map DT.tree) (s := ⟨cnt, ds.map DT.tree⟩) hd h14 hk
  have HDN := Lib.hid hd
  have HC := Lib.hid hc; have HDL := Lib.hid hds
  have k0 : w0.cell? ⟨W.heap.size, 0, none⟩ = some (.int .i64 h.kind) := (cell_of_blk HB0.out 0).trans rfl
  have HIC := isClause_any h.kind w0
  rw [show isClause h.kind = false from hk] at HIC
  have HIC := Lib.hid HIC
  obtain ⟨d1, d2, d3⟩ := defines_not hd
  have b1 : (h.kind == 13) = false := by simpa using (show ¬ h.kind = 13 from d1)
  have b2 : (h.kind == 6) = false := by simpa using (show ¬ h.kind = 6 from d2)
  have b3 : (h.kind == 7) = false := by simpa using (show ¬ h.kind = 7 from d3)
  have b4 : (h.kind == 14) = false := by simpa using (show ¬ h.kind = 14 from h14)
  have HCT := Lib.hid (counts_any w0 HX0.out.ex (by omega) (by omega))
  obtain ⟨w2, HW2⟩ : ∃ w, Hid (w0.setCell ⟨B + 8, 5, none⟩ (.int .i64 ((cnt : Int) + 1)) = w) := ⟨_, rfl⟩
  rw [HW2.out] at HCT
  have HF2 : Hid (Fr (fun g => g = B + 8) w0 w2) := by rw [← HW2.out]; exact (Fr.refl (fun g => g = B + 8) w0).setb 5 _
  have HX2 : Hid (XS Q B l [] sn (cnt + 1) iv ds w2) := by
    refine ⟨?_, own_fr HX0.out.own HF2.out (fun k h1 _ e => by omega), fun q d hd => (HX0.out.lay q d hd).fr HF2.out (fun g hg e => by omega)⟩
    have := HX0.out.ex.count ((cnt : Int) + 1)
    rw [HW2.out] at this
    exact this
  have HBH : Hid (w2.heap[W.heap.size]? = some (.cells (icells h c d n i).toArray 41 (0, 0))) := HF2.out.blk HB0.out (fun e => by have := HGB.out; omega)
  have HY2 : Hid (Lay (fun g => g < B) w2 (.node h c d n i lst)) := HY0.out.fr HF2.out (fun g hg e => by omega)
  have HFV2 : Hid (Fr (fun g => g = B + 8) W w2) := (HF0.out.mono (T := fun g => g = B + 8) (fun _ _ h => h.elim)).trans HF2.out
  have HOW := Lib.hid HX2.out.own
  by_cases hle : (cnt : Int) + 1 ≤ 600
  case neg =>
    have hd : decide ((cnt : Int) + 1 ≤ 600) = false := by simp; omega
    rw [hd] at HCT
    have HR : Hid (examine (envD l) (sn.map DT.tree) (DT.node h c d n i lst).tree ⟨cnt, ds.map DT.tree⟩ = (3, ⟨cnt + 1, ds.map DT.tree⟩)) := hr.trans (if_pos (by show 600 < cnt + 1; omega))
    rw [HR.out]
    clear hr hs hiv hc hds hk h14 d1 d2 d3
    go_enter Try.func26, Try.ntmps26
    go_upto_region 1 with fail
    rw [HW0.out]
    go_upto_region 5 with fail
    clear b1 b2 b3 b4
    go_wp2_with fail
    refine HIC.out.mono ?_
    rintro e wq ⟨rfl, hwq⟩
    have hwq := hwq.symm
    subst hwq
    clear HIC k0
    go_wp2_with fail
    refine HCT.out.mono ?_
    rintro e w9 ⟨rfl, rfl⟩
    go_wp2_with fail
    go_ret
    exact ⟨rfl, ⟨⟨iv, ds, HX2.out.rest HDN.out, rfl, fun g hg => .inl hg⟩, HFV2.out.mono (fun g _ e => .inl ⟨by omega, by omega⟩)⟩⟩
  have hd2 : decide ((cnt : Int) + 1 ≤ 600) = true := by simp; omega
  rw [hd2] at HCT
  have HR : Hid (examine (envD l) (sn.map DT.tree) (DT.node h c d n i lst).tree ⟨cnt, ds.map DT.tree⟩ = (0, ⟨cnt + 1, ds.map DT.tree ++ [(DT.node h c d n i lst).tree]⟩)) := hr.trans (if_neg (by show ¬ 600 < cnt + 1; omega))
  have HSL2 : Hid (∀ w, Fr (fun _ => False) w2 w → w.cell? ⟨B + 8, 6, none⟩ = some (.slice A ds.length cp)) := fun w hw => by rw [← HIV.out]; exact (cell_of_blk (hw.blk HX2.out.ex.blk (fun h => h)) 6).trans rfl
  have HOWN2 : Hid (w2.ownsRow (B + 9) 41 33 (.slice A ds.length cp) ds.length (ds.flatMap DT.cells)) := by show World.ownsRow _ _ _ _ _ _ _; rw [← HIV.out]; exact HX2.out.own
  have HG2 : Hid (W.heap.size < w2.heap.size) := lt_of_blk HBH.out
  have HFL : Hid ((ds.flatMap DT.cells).length = ds.length * 33) := HOWN2.out.1
  obtain ⟨j0, hj, hj0, hj1, hj2⟩ := info_parts cinfo_item
  have n1 : (0 : Int) ≤ (ds.length : Int) := Int.natCast_nonneg _
  have n2 : (ds.length : Int) < (ds.length : Int) + 1 := by omega
  rw [HR.out]
  clear hr hs hiv hc hds hk h14 d1 d2 d3 hle hd2 hd
  go_enter Try.func26, Try.ntmps26
  go_upto_region 1 with fail
  rw [HW0.out]
  clear HW0
  go_upto_region 5 with fail
  clear b1 b2 b3 b4
  go_wp2_with fail
  refine HIC.out.mono ?_
  rintro e wq ⟨rfl, hwq⟩
  have hwq := hwq.symm
  subst hwq
  clear HIC k0
  go_wp2_with fail
  refine HCT.out.mono ?_
  rintro e w9 ⟨rfl, hw9⟩
  have hw9 := hw9.symm
  subst hw9
  clear HCT
  go_upto_region 9 with fail
  refine Reg.G.start (by kernel_rfl) ?_
  obtain ⟨wG, hG⟩ : ∃ w, w2.drew = w := ⟨_, rfl⟩
  have HFG : Hid (Fr (fun _ => False) w2 wG) := by rw [← hG]; exact (Fr.refl _ w2).drew
  rw [hG]
  clear hG
  refine' Reg.G.pure (i := 0) (v := _) rfl (by rfl) (by kernel_rfl) (by kernel_rfl) (by kernel_rfl) (fun _ _ _ h => h) ?hyb1 ?rehyb1
  case hyb1 => exact fun w => by first | (go_simp; done) | (go_simp; with_reducible rfl)
  simp only [Act.put, List.setIfInBounds_toArray, List.set_cons_zero, List.set_cons_succ]
  refine' Reg.G.pure (i := 1) (v := _) rfl (by rfl) (by kernel_rfl) (by kernel_rfl) (by kernel_rfl) (fun _ _ _ h => h) ?hyb2 ?rehyb2
  case hyb2 => exact fun w => by first | (go_simp; done) | (go_simp; with_reducible rfl)
  simp only [Act.put, List.setIfInBounds_toArray, List.set_cons_zero, List.set_cons_succ]
  refine' Reg.G.pure (i := 2) (v := _) rfl (by rfl) (by kernel_rfl) (by kernel_rfl) (by kernel_rfl) (fun _ _ _ h => h) ?hyb3 ?rehyb3
  case hyb3 => exact fun w => by first | (go_simp; done) | (go_simp; with_reducible rfl)
  simp only [Act.put, List.setIfInBounds_toArray, List.set_cons_zero, List.set_cons_succ]
  refine' Reg.G.take (i := 3) (v := _) (F := (fun w => Fr (fun _ => False) w2 w)) rfl (by rfl) (by kernel_rfl) (by kernel_rfl) (by kernel_rfl) (fun _ _ _ h => h) (HFG.out) ?hyb4 ?rehyb4
  case hyb4 => intro w hw; have kc := HSL2.out w hw; clear hw; first | (go_simp; done) | (go_simp; with_reducible rfl)
  simp only [Act.put, List.setIfInBounds_toArray, List.set_cons_zero, List.set_cons_succ]
  refine' Reg.G.take (i := 4) (v := _) (F := (fun w => Fr (fun _ => False) w2 w)) rfl (by rfl) (by kernel_rfl) (by kernel_rfl) (by kernel_rfl) (fun _ _ _ h => h) (HFG.out) ?hyb5 ?rehyb5
  case hyb5 => intro w hw; refine run_load_row (P := Try.prog) 41 (.tmp 3) ?_ W.heap.size ?_ 41 (icells h c d n i).toArray _ (hw.blk HBH.out (fun h => h)) Try.underlying41 rfl (by rw [info_item]; rfl) <;> rfl
  simp only [Act.put, List.setIfInBounds_toArray, List.set_cons_zero, List.set_cons_succ]
  refine' Reg.G.pure (i := 6) (v := _) rfl (by rfl) (by kernel_rfl) (by kernel_rfl) (by kernel_rfl) (fun _ _ _ h => h) ?hyb6 ?rehyb6
  case hyb6 => exact fun w => by first | (go_simp; done) | (go_simp; with_reducible rfl)
  simp only [Act.put, List.setIfInBounds_toArray, List.set_cons_zero, List.set_cons_succ]
  refine Reg.G.two (j1 := 5) (j2 := 7) (m1 := [false, true]) (m2 := [true, true]) [4, 3] rfl rfl (by kernel_rfl) rfl (by kernel_rfl) (by kernel_rfl) (fun K hK => ?_) (fun K hK => ?_)
  · go_simp
    have hyl : Lay (fun g => g < B) wG (.node h c d n i lst) := HY2.out.fr HFG.out (fun _ _ h => h)
    refine (copyItem_any (tsz lst) (.node h c d n i lst) _ _ (Nat.le_refl _) hyl HS.out).mono ?_
    rintro e w5 ⟨z, rfl, hz1, hz2, hz3, hz4⟩
    have HZT := Lib.hid hz1
    have HF5 : Hid (Fr (fun _ => False) w2 w5) := HFG.out.trans hz4
    have HZL : Hid (Lay (fun g => wG.heap.size ≤ g) w5 z) := hz3.lay (by rw [hz2]; exact HSL.out.1) (by rw [hz2]; exact HSL.out.2)
    have HZG : Hid (w2.heap.size ≤ wG.heap.size) := HFG.out.size
    clear hz1 hz2 hz3 hz4 hyl
    refine hK.out _ _ ⟨HF5.out, trivial⟩ ?_
    clear hK K
    simp only [Act.put, List.setIfInBounds_toArray, List.set_cons_zero, List.set_cons_succ, Reg.Kept]
    refine Reg.G.step (j := 7) (m := [true]) [3] rfl (by kernel_rfl) rfl (by kernel_rfl) (fun K hK => ?_)
    refine wp_bsl1 24 _ rfl (v0 := .agg #[.int .i64 0, .string ⟨#[]⟩, .int .i64 0, .string ⟨#[]⟩, .string ⟨#[]⟩, .int .i64 0, .int .i64 0, .int .i64 0, .bool false, .string ⟨#[]⟩, .int .i64 0, .bool false, .string ⟨#[]⟩, .slice none 0 0, .string ⟨#[]⟩, .string ⟨#[]⟩, .int .i64 0, .int .i64 0, .string ⟨#[]⟩, .string ⟨#[]⟩, .bool false, .string ⟨#[]⟩, .string ⟨#[]⟩, .bool false, .bool false, .bool false, .bool false, .bool false, .bool false, .bool false, .slice none 0 0, .slice none 0 0, .slice none 0 0]) rfl (.slice (some ⟨w5.heap.size, 0, none⟩) 1 1) (w5.alloc (.cells #[.int .i64 0, .string ⟨#[]⟩, .int .i64 0, .string ⟨#[]⟩, .string ⟨#[]⟩, .int .i64 0, .int .i64 0, .int .i64 0, .bool false, .string ⟨#[]⟩, .int .i64 0, .bool false, .string ⟨#[]⟩, .slice none 0 0, .string ⟨#[]⟩, .string ⟨#[]⟩, .int .i64 0, .int .i64 0, .string ⟨#[]⟩, .string ⟨#[]⟩, .bool false, .string ⟨#[]⟩, .string ⟨#[]⟩, .bool false, .bool false, .bool false, .bool false, .bool false, .bool false, .bool false, .slice none 0 0, .slice none 0 0, .slice none 0 0] 41)) ?hb2 ?hq2
    case hb2 => exact bsl_zero _
    obtain ⟨wa, hwa⟩ : ∃ v, (w5).alloc (.cells #[.int .i64 0, .string ⟨#[]⟩, .int .i64 0, .string ⟨#[]⟩, .string ⟨#[]⟩, .int .i64 0, .int .i64 0, .int .i64 0, .bool false, .string ⟨#[]⟩, .int .i64 0, .bool false, .string ⟨#[]⟩, .slice none 0 0, .string ⟨#[]⟩, .string ⟨#[]⟩, .int .i64 0, .int .i64 0, .string ⟨#[]⟩, .string ⟨#[]⟩, .bool false, .string ⟨#[]⟩, .string ⟨#[]⟩, .bool false, .bool false, .bool false, .bool false, .bool false, .bool false, .bool false, .slice none 0 0, .slice none 0 0, .slice none 0 0] 41) = v := ⟨_, rfl⟩
    rw [hwa]
    have HFA : Hid (Fr (fun _ => False) w2 wa) := by rw [← hwa]; exact HF5.out.alloc _
    have HNA : Hid (∀ j y, ([.int .i64 0, .string ⟨#[]⟩, .int .i64 0, .string ⟨#[]⟩, .string ⟨#[]⟩, .int .i64 0, .int .i64 0, .int .i64 0, .bool false, .string ⟨#[]⟩, .int .i64 0, .bool false, .string ⟨#[]⟩, .slice none 0 0, .string ⟨#[]⟩, .string ⟨#[]⟩, .int .i64 0, .int .i64 0, .string ⟨#[]⟩, .string ⟨#[]⟩, .bool false, .string ⟨#[]⟩, .string ⟨#[]⟩, .bool false, .bool false, .bool false, .bool false, .bool false, .bool false, .bool false, .slice none 0 0, .slice none 0 0, .slice none 0 0] : List Value)[j]? = some y → wa.cell? ((⟨w5.heap.size, 0, none⟩ : Addr).add j) = some y) := by rw [← hwa]; exact World.news_of_block (cs := #[.int .i64 0, .string ⟨#[]⟩, .int .i64 0, .string ⟨#[]⟩, .string ⟨#[]⟩, .int .i64 0, .int .i64 0, .int .i64 0, .bool false, .string ⟨#[]⟩, .int .i64 0, .bool false, .string ⟨#[]⟩, .slice none 0 0, .string ⟨#[]⟩, .string ⟨#[]⟩, .int .i64 0, .int .i64 0, .string ⟨#[]⟩, .string ⟨#[]⟩, .bool false, .string ⟨#[]⟩, .string ⟨#[]⟩, .bool false, .bool false, .bool false, .bool false, .bool false, .bool false, .bool false, .slice none 0 0, .slice none 0 0, .slice none 0 0]) (t := 41) (fr := (0, 0)) (heap_alloc_new (w5) _)
    have HZA : Hid (Lay (fun g => wG.heap.size ≤ g) wa z) := by rw [← hwa]; exact HZL.out.fr ((Fr.refl (fun _ => False) _).alloc _) (fun _ _ h => h)
    clear hwa
    refine hK.out _ _ ⟨HFA.out, trivial⟩ ?_
    clear hK K
    simp only [Act.put, List.setIfInBounds_toArray, List.set_cons_zero, List.set_cons_succ, Reg.Kept]
    refine Reg.G.step (j := 8) (m := [false]) [3] rfl (by kernel_rfl) rfl (by kernel_rfl) (fun K hK => ?_)
    have HOA : Hid (wa.ownsRow (B + 9) 41 33 (.slice A ds.length cp) ds.length (ds.flatMap DT.cells)) := own_fr HOWN2.out HFA.out (fun _ _ _ h => h)
    have HBS : Hid (B + 9 ≤ wa.heap.size) := by have h1 := HGB.out; have h2 := HG2.out; have h3 := HFA.out.size; show _ ≤ _; omega
    have HXB : Hid (XS Q B l [] sn (cnt + 1) iv ds wa) := HX2.out.fr HFA.out (fun _ _ _ h => h)
    have HZB : Hid (Lay (fun g => B + 9 ≤ g ∧ iv.ownBlock ≠ some g) wa z) := HZA.out.mono (fun g _ hg => ⟨by have h1 := HGB.out; have h2 := HG2.out; have h3 := HZG.out; omega, fun e => by have h2 := (own_lt HOW.out g e).2; have h3 := HZG.out; omega⟩)
    refine wp_append_lies wa (.tmp 45) (.tmp 49) 24 rfl (B + 9) 41 j0 _ 33 368 Try.underlying24 hj hj0 hj1 hj2 rfl (by decide) (.slice A ds.length cp) ds.length _ (by rfl) HOA.out ⟨w5.heap.size, 0, none⟩ 1 1 [.int .i64 0, .string ⟨#[]⟩, .int .i64 0, .string ⟨#[]⟩, .string ⟨#[]⟩, .int .i64 0, .int .i64 0, .int .i64 0, .bool false, .string ⟨#[]⟩, .int .i64 0, .bool false, .string ⟨#[]⟩, .slice none 0 0, .string ⟨#[]⟩, .string ⟨#[]⟩, .int .i64 0, .int .i64 0, .string ⟨#[]⟩, .string ⟨#[]⟩, .bool false, .string ⟨#[]⟩, .string ⟨#[]⟩, .bool false, .bool false, .bool false, .bool false, .bool false, .bool false, .bool false, .slice none 0 0, .slice none 0 0, .slice none 0 0] (by rfl) rfl HNA.out (by simp [Value.oneCell']) (by decide) (by have := HDL.out; simp only [maxLen]; omega) (by have := HDL.out; omega) HBS.out (wa.heap.size) rfl ?_
    intro gn cn wc g1 g2 g3 _
    have HG3 : Hid (iv.ownBlock = some gn ∨ wa.heap.size ≤ gn) := by
      rw [HIV.out]
      exact g3.imp id (fun h => by omega)
    have HGN : Hid (B + 8 < gn) := by
      rcases HG3.out with h | h
      · have := (own_lt HOW.out gn h).1; show _ < _; omega
      · have h1 := HBS.out; show _ < _; omega
    have HFC : Hid (Fr (fun g => g = B + 8 ∨ iv.ownBlock = some g) wa wc) := (Fr.of_grown g2).mono (fun g _ h => .inr (by rw [HIV.out]; exact h))
    have HEC : Hid (ExL B l [] sn ((cnt + 1 : Nat) : Int) iv wc) := HXB.out.ex.fr ((Fr.of_grown g2).mono (T := fun g => iv.ownBlock = some g) (fun g _ h => by rw [HIV.out]; exact h)) (fun g h1 h2 e => by
      have := (own_lt HOW.out g e).1; omega)
    have HG1 := Lib.hid g1
    clear g1 g2 g3 HOA
    refine hK.out _ _ trivial ?_
    clear hK K
    simp only [Act.put, List.setIfInBounds_toArray, List.set_cons_zero, List.set_cons_succ, Reg.Kept]
    refine' Reg.G.pure (i := 9) (v := _) rfl (by rfl) (by kernel_rfl) (by kernel_rfl) (by kernel_rfl) (fun _ _ _ h => h) ?hyb7 ?rehyb7
    case hyb7 => exact fun w => by first | (go_simp; done) | (go_simp; with_reducible rfl)
    simp only [Act.put, List.setIfInBounds_toArray, List.set_cons_zero, List.set_cons_succ]
    refine' Reg.G.pure (i := 11) (v := _) rfl (by rfl) (by kernel_rfl) (by kernel_rfl) (by kernel_rfl) (fun _ _ _ h => h) ?hyb8 ?rehyb8
    case hyb8 => exact fun w => by first | (go_simp; done) | (go_simp; with_reducible rfl)
    simp only [Act.put, List.setIfInBounds_toArray, List.set_cons_zero, List.set_cons_succ]
    refine' Reg.G.pure (i := 12) (v := _) rfl (by rfl) (by kernel_rfl) (by kernel_rfl) (by kernel_rfl) (fun _ _ _ h => h) ?hyb9 ?rehyb9
    case hyb9 => exact fun w => by first | (go_simp; done) | (go_simp; with_reducible rfl)
    simp only [Act.put, List.setIfInBounds_toArray, List.set_cons_zero, List.set_cons_succ]
    refine Reg.G.two (j1 := 10) (j2 := 13) (m1 := []) (m2 := []) [] rfl rfl (by kernel_rfl) rfl (by kernel_rfl) (by kernel_rfl) (fun K hK => ?_) (fun K hK => ?_)
    · have hth : wc.there gn (ds.length * 33) z.cells.toArray.size := by rw [cells_size]; exact own_there HG1.out
      refine wp_store_mid 41 _ _ rfl gn (ds.length * 33) z.cells.toArray rfl rfl hth (info_it z) HZB.out.one ?_
      obtain ⟨x4, hwe⟩ : ∃ w, wc.setCells gn (ds.length * 33) z.cells.toArray.toList = w := ⟨_, rfl⟩
      rw [hwe]
      have HE0 : Hid (Fr (fun g => g = gn) wc x4) := by rw [← hwe]; exact fr_cells (S := fun g => g = gn) (.inl rfl) _ _ _ (Fr.refl _ _)
      have HOx4 : Hid (x4.ownsRow (B + 9) 41 33 (.slice (some ⟨gn, 0, none⟩) (ds.length + 1) cn) (ds.length + 1) (ds.flatMap DT.cells ++ z.cells)) := by rw [← hwe]; exact own_setmid HG1.out HFL.out z.cells_len
      have HEx4 : Hid (ExL B l [] sn ((cnt + 1 : Nat) : Int) iv x4) := HEC.out.fr HE0.out (fun g h1 h2 e => by have := HGN.out; omega)
      have HFx4 : Hid (Fr (fun g => g = B + 8 ∨ iv.ownBlock = some g) wa x4) := HFC.out.trans' HE0.out (fun g hg e => by
        rcases HG3.out with h | h
        · exact .inr (by rw [e]; exact h)
        · omega)
      clear hwe hth HE0
      refine hK.out _ _ trivial ?_
      clear hK K
      simp only [Act.put, List.setIfInBounds_toArray, List.set_cons_zero, List.set_cons_succ, Reg.Kept]
      refine Reg.G.step (j := 13) (m := []) [] rfl (by kernel_rfl) rfl (by kernel_rfl) (fun K hK => ?_)
      have kb : x4.cell? ⟨B + 8, 6, none⟩ = some (.slice A ds.length cp) := by rw [← HIV.out]; exact (cell_of_blk HEx4.out.blk 6).trans rfl
      have fb : x4.frozen? ⟨B + 8, 6, none⟩ = false := froz_of_blk HEx4.out.blk 6
      go_simp
      obtain ⟨y5, hwe⟩ : ∃ w, x4.setCell ⟨B + 8, 6, none⟩ (.slice (some ⟨gn, 0, none⟩) (ds.length + 1) cn) = w := ⟨_, rfl⟩
      rw [hwe]
      have HE0 : Hid (Fr (fun g => g = B + 8) x4 y5) := by rw [← hwe]; exact (Fr.refl (fun g => g = B + 8) x4).setb 6 _
      have HEy5 : Hid (ExL B l [] sn ((cnt + 1 : Nat) : Int) (.slice (some ⟨gn, 0, none⟩) (ds.length + 1) cn) y5) := by rw [← hwe]; exact HEx4.out.items _
      have HOy5 : Hid (y5.ownsRow (B + 9) 41 33 (.slice (some ⟨gn, 0, none⟩) (ds.length + 1) cn) (ds.length + 1) (ds.flatMap DT.cells ++ z.cells)) := own_fr HOx4.out HE0.out (fun k h1 _ e => by omega)
      have HFy5 : Hid (Fr (fun g => g = B + 8 ∨ iv.ownBlock = some g) wa y5) := HFx4.out.trans (HE0.out.mono (fun g _ e => .inl e))
      clear hwe HE0 kb fb
      refine hK.out _ _ trivial ?_
      clear hK K
      simp only [Act.put, List.setIfInBounds_toArray, List.set_cons_zero, List.set_cons_succ, Reg.Kept]
      refine Reg.G.done (by kernel_rfl) ?_
      go_wp2_with fail
      go_ret
      have HXG := XS.grow z HXB.out HIV.out HZB.out HOy5.out HEy5.out HG3.out HFy5.out
      refine ⟨rfl, ⟨⟨_, _, XS.rest HDN.out HXG, ?_, fun g hg => ?_⟩, ?_⟩⟩
      · rw [List.map_append, List.map_cons, List.map_nil, HZT.out]
      · have : gn = g := by simpa [Value.ownBlock] using hg
        subst this
        exact HG3.out.imp id (fun h => by have h1 := HG2.out; have h2 := HFA.out.size; omega)
      · exact ((HFV2.out.mono (T := SX B iv) (fun g _ e => .inl ⟨by omega, by omega⟩)).trans (HFA.out.mono (fun _ _ h => h.elim))).trans (HFy5.out.mono (fun g _ e => by
          rcases e with e | e
          · exact .inl ⟨by omega, by omega⟩
          · exact .inr e))
    · have kb : wc.cell? ⟨B + 8, 6, none⟩ = some (.slice A ds.length cp) := by rw [← HIV.out]; exact (cell_of_blk HEC.out.blk 6).trans rfl
      have fb : wc.frozen? ⟨B + 8, 6, none⟩ = false := froz_of_blk HEC.out.blk 6
      go_simp
      obtain ⟨y6, hwe⟩ : ∃ w, wc.setCell ⟨B + 8, 6, none⟩ (.slice (some ⟨gn, 0, none⟩) (ds.length + 1) cn) = w := ⟨_, rfl⟩
      rw [hwe]
      have HE0 : Hid (Fr (fun g => g = B + 8) wc y6) := by rw [← hwe]; exact (Fr.refl (fun g => g = B + 8) wc).setb 6 _
      have HEy6 : Hid (ExL B l [] sn ((cnt + 1 : Nat) : Int) (.slice (some ⟨gn, 0, none⟩) (ds.length + 1) cn) y6) := by rw [← hwe]; exact HEC.out.items _
      have HOy6 : Hid (y6.ownsRow (B + 9) 41 33 (.slice (some ⟨gn, 0, none⟩) (ds.length + 1) cn) (ds.length + 1) (ds.flatMap DT.cells ++ [.int .i64 0, .string ⟨#[]⟩, .int .i64 0, .string ⟨#[]⟩, .string ⟨#[]⟩, .int .i64 0, .int .i64 0, .int .i64 0, .bool false, .string ⟨#[]⟩, .int .i64 0, .bool false, .string ⟨#[]⟩, .slice none 0 0, .string ⟨#[]⟩, .string ⟨#[]⟩, .int .i64 0, .int .i64 0, .string ⟨#[]⟩, .string ⟨#[]⟩, .bool false, .string ⟨#[]⟩, .string ⟨#[]⟩, .bool false, .bool false, .bool false, .bool false, .bool false, .bool false, .bool false, .slice none 0 0, .slice none 0 0, .slice none 0 0])) := own_fr HG1.out HE0.out (fun k h1 _ e => by omega)
      have HFy6 : Hid (Fr (fun g => g = B + 8 ∨ iv.ownBlock = some g) wa y6) := HFC.out.trans (HE0.out.mono (fun g _ e => .inl e))
      clear hwe HE0 kb fb
      refine hK.out _ _ trivial ?_
      clear hK K
      simp only [Act.put, List.setIfInBounds_toArray, List.set_cons_zero, List.set_cons_succ, Reg.Kept]
      refine Reg.G.step (j := 10) (m := []) [] rfl (by kernel_rfl) rfl (by kernel_rfl) (fun K hK => ?_)
      have hth : y6.there gn (ds.length * 33) z.cells.toArray.size := by rw [cells_size]; exact own_there HOy6.out
      refine wp_store_mid 41 _ _ rfl gn (ds.length * 33) z.cells.toArray rfl rfl hth (info_it z) HZB.out.one ?_
      obtain ⟨x7, hwe⟩ : ∃ w, y6.setCells gn (ds.length * 33) z.cells.toArray.toList = w := ⟨_, rfl⟩
      rw [hwe]
      have HE0 : Hid (Fr (fun g => g = gn) y6 x7) := by rw [← hwe]; exact fr_cells (S := fun g => g = gn) (.inl rfl) _ _ _ (Fr.refl _ _)
      have HOx7 : Hid (x7.ownsRow (B + 9) 41 33 (.slice (some ⟨gn, 0, none⟩) (ds.length + 1) cn) (ds.length + 1) (ds.flatMap DT.cells ++ z.cells)) := by rw [← hwe]; exact own_setmid HOy6.out HFL.out z.cells_len
      have HEx7 : Hid (ExL B l [] sn ((cnt + 1 : Nat) : Int) (.slice (some ⟨gn, 0, none⟩) (ds.length + 1) cn) x7) := HEy6.out.fr HE0.out (fun g h1 h2 e => by have := HGN.out; omega)
      have HFx7 : Hid (Fr (fun g => g = B + 8 ∨ iv.ownBlock = some g) wa x7) := HFy6.out.trans' HE0.out (fun g hg e => by
        rcases HG3.out with h | h
        · exact .inr (by rw [e]; exact h)
        · omega)
      clear hwe hth HE0
      refine hK.out _ _ trivial ?_
      clear hK K
      simp only [Act.put, List.setIfInBounds_toArray, List.set_cons_zero, List.set_cons_succ, Reg.Kept]
      refine Reg.G.done (by kernel_rfl) ?_
      go_wp2_with fail
      go_ret
      have HXG := XS.grow z HXB.out HIV.out HZB.out HOx7.out HEx7.out HG3.out HFx7.out
      refine ⟨rfl, ⟨⟨_, _, XS.rest HDN.out HXG, ?_, fun g hg => ?_⟩, ?_⟩⟩
      · rw [List.map_append, List.map_cons, List.map_nil, HZT.out]
      · have : gn = g := by simpa [Value.ownBlock] using hg
        subst this
        exact HG3.out.imp id (fun h => by have h1 := HG2.out; have h2 := HFA.out.size; omega)
      · exact ((HFV2.out.mono (T := SX B iv) (fun g _ e => .inl ⟨by omega, by omega⟩)).trans (HFA.out.mono (fun _ _ h => h.elim))).trans (HFx7.out.mono (fun g _ e => by
          rcases e with e | e
          · exact .inl ⟨by omega, by omega⟩
          · exact .inr e))
  · refine wp_bsl1 24 _ rfl (v0 := .agg #[.int .i64 0, .string ⟨#[]⟩, .int .i64 0, .string ⟨#[]⟩, .string ⟨#[]⟩, .int .i64 0, .int .i64 0, .int .i64 0, .bool false, .string ⟨#[]⟩, .int .i64 0, .bool false, .string ⟨#[]⟩, .slice none 0 0, .string ⟨#[]⟩, .string ⟨#[]⟩, .int .i64 0, .int .i64 0, .string ⟨#[]⟩, .string ⟨#[]⟩, .bool false, .string ⟨#[]⟩, .string ⟨#[]⟩, .bool false, .bool false, .bool false, .bool false, .bool false, .bool false, .bool false, .slice none 0 0, .slice none 0 0, .slice none 0 0]) rfl (.slice (some ⟨wG.heap.size, 0, none⟩) 1 1) (wG.alloc (.cells #[.int .i64 0, .string ⟨#[]⟩, .int .i64 0, .string ⟨#[]⟩, .string ⟨#[]⟩, .int .i64 0, .int .i64 0, .int .i64 0, .bool false, .string ⟨#[]⟩, .int .i64 0, .bool false, .string ⟨#[]⟩, .slice none 0 0, .string ⟨#[]⟩, .string ⟨#[]⟩, .int .i64 0, .int .i64 0, .string ⟨#[]⟩, .string ⟨#[]⟩, .bool false, .string ⟨#[]⟩, .string ⟨#[]⟩, .bool false, .bool false, .bool false, .bool false, .bool false, .bool false, .bool false, .slice none 0 0, .slice none 0 0, .slice none 0 0] 41)) ?hb8 ?hq8
    case hb8 => exact bsl_zero _
    obtain ⟨wa, hwa⟩ : ∃ v, (wG).alloc (.cells #[.int .i64 0, .string ⟨#[]⟩, .int .i64 0, .string ⟨#[]⟩, .string ⟨#[]⟩, .int .i64 0, .int .i64 0, .int .i64 0, .bool false, .string ⟨#[]⟩, .int .i64 0, .bool false, .string ⟨#[]⟩, .slice none 0 0, .string ⟨#[]⟩, .string ⟨#[]⟩, .int .i64 0, .int .i64 0, .string ⟨#[]⟩, .string ⟨#[]⟩, .bool false, .string ⟨#[]⟩, .string ⟨#[]⟩, .bool false, .bool false, .bool false, .bool false, .bool false, .bool false, .bool false, .slice none 0 0, .slice none 0 0, .slice none 0 0] 41) = v := ⟨_, rfl⟩
    rw [hwa]
    have HFA : Hid (Fr (fun _ => False) w2 wa) := by rw [← hwa]; exact HFG.out.alloc _
    have HNA : Hid (∀ j y, ([.int .i64 0, .string ⟨#[]⟩, .int .i64 0, .string ⟨#[]⟩, .string ⟨#[]⟩, .int .i64 0, .int .i64 0, .int .i64 0, .bool false, .string ⟨#[]⟩, .int .i64 0, .bool false, .string ⟨#[]⟩, .slice none 0 0, .string ⟨#[]⟩, .string ⟨#[]⟩, .int .i64 0, .int .i64 0, .string ⟨#[]⟩, .string ⟨#[]⟩, .bool false, .string ⟨#[]⟩, .string ⟨#[]⟩, .bool false, .bool false, .bool false, .bool false, .bool false, .bool false, .bool false, .slice none 0 0, .slice none 0 0, .slice none 0 0] : List Value)[j]? = some y → wa.cell? ((⟨wG.heap.size, 0, none⟩ : Addr).add j) = some y) := by rw [← hwa]; exact World.news_of_block (cs := #[.int .i64 0, .string ⟨#[]⟩, .int .i64 0, .string ⟨#[]⟩, .string ⟨#[]⟩, .int .i64 0, .int .i64 0, .int .i64 0, .bool false, .string ⟨#[]⟩, .int .i64 0, .bool false, .string ⟨#[]⟩, .slice none 0 0, .string ⟨#[]⟩, .string ⟨#[]⟩, .int .i64 0, .int .i64 0, .string ⟨#[]⟩, .string ⟨#[]⟩, .bool false, .string ⟨#[]⟩, .string ⟨#[]⟩, .bool false, .bool false, .bool false, .bool false, .bool false, .bool false, .bool false, .slice none 0 0, .slice none 0 0, .slice none 0 0]) (t := 41) (fr := (0, 0)) (heap_alloc_new (wG) _)
    clear hwa
    refine hK.out _ _ ⟨HFA.out, HFA.out, trivial⟩ ?_
    clear hK K
    simp only [Act.put, List.setIfInBounds_toArray, List.set_cons_zero, List.set_cons_succ, Reg.Kept]
    refine Reg.G.step (j := 5) (m := [false, true]) [4, 3] rfl (by kernel_rfl) rfl (by kernel_rfl) (fun K hK => ?_)
    go_simp
    have hyl : Lay (fun g => g < B) wa (.node h c d n i lst) := HY2.out.fr HFA.out (fun _ _ h => h)
    refine (copyItem_any (tsz lst) (.node h c d n i lst) _ _ (Nat.le_refl _) hyl HS.out).mono ?_
    rintro e w5 ⟨z, rfl, hz1, hz2, hz3, hz4⟩
    have HZT := Lib.hid hz1
    have HF5 : Hid (Fr (fun _ => False) w2 w5) := HFA.out.trans hz4
    have HZL : Hid (Lay (fun g => wa.heap.size ≤ g) w5 z) := hz3.lay (by rw [hz2]; exact HSL.out.1) (by rw [hz2]; exact HSL.out.2)
    have HZG : Hid (w2.heap.size ≤ wa.heap.size) := HFA.out.size
    have HN5 : Hid (∀ j y, ([.int .i64 0, .string ⟨#[]⟩, .int .i64 0, .string ⟨#[]⟩, .string ⟨#[]⟩, .int .i64 0, .int .i64 0, .int .i64 0, .bool false, .string ⟨#[]⟩, .int .i64 0, .bool false, .string ⟨#[]⟩, .slice none 0 0, .string ⟨#[]⟩, .string ⟨#[]⟩, .int .i64 0, .int .i64 0, .string ⟨#[]⟩, .string ⟨#[]⟩, .bool false, .string ⟨#[]⟩, .string ⟨#[]⟩, .bool false, .bool false, .bool false, .bool false, .bool false, .bool false, .bool false, .slice none 0 0, .slice none 0 0, .slice none 0 0] : List Value)[j]? = some y → w5.cell? ((⟨wG.heap.size, 0, none⟩ : Addr).add j) = some y) := fun j y hj => by
      have h := HNA.out j y hj
      rw [Go.WideShapes.add_plain] at h ⊢
      exact cell_fr hz4 h
    clear hz1 hz2 hz3 hz4 hyl
    refine hK.out _ _ ⟨HF5.out, trivial⟩ ?_
    clear hK K
    simp only [Act.put, List.setIfInBounds_toArray, List.set_cons_zero, List.set_cons_succ, Reg.Kept]
    refine Reg.G.step (j := 8) (m := [false]) [3] rfl (by kernel_rfl) rfl (by kernel_rfl) (fun K hK => ?_)
    have HOA : Hid (w5.ownsRow (B + 9) 41 33 (.slice A ds.length cp) ds.length (ds.flatMap DT.cells)) := own_fr HOWN2.out HF5.out (fun _ _ _ h => h)
    have HBS : Hid (B + 9 ≤ w5.heap.size) := by have h1 := HGB.out; have h2 := HG2.out; have h3 := HF5.out.size; show _ ≤ _; omega
    have HXB : Hid (XS Q B l [] sn (cnt + 1) iv ds w5) := HX2.out.fr HF5.out (fun _ _ _ h => h)
    have HZB : Hid (Lay (fun g => B + 9 ≤ g ∧ iv.ownBlock ≠ some g) w5 z) := HZL.out.mono (fun g _ hg => ⟨by have h1 := HGB.out; have h2 := HG2.out; have h3 := HZG.out; omega, fun e => by have h2 := (own_lt HOW.out g e).2; have h3 := HZG.out; omega⟩)
    refine wp_append_lies w5 (.tmp 45) (.tmp 49) 24 rfl (B + 9) 41 j0 _ 33 368 Try.underlying24 hj hj0 hj1 hj2 rfl (by decide) (.slice A ds.length cp) ds.length _ (by rfl) HOA.out ⟨wG.heap.size, 0, none⟩ 1 1 [.int .i64 0, .string ⟨#[]⟩, .int .i64 0, .string ⟨#[]⟩, .string ⟨#[]⟩, .int .i64 0, .int .i64 0, .int .i64 0, .bool false, .string ⟨#[]⟩, .int .i64 0, .bool false, .string ⟨#[]⟩, .slice none 0 0, .string ⟨#[]⟩, .string ⟨#[]⟩, .int .i64 0, .int .i64 0, .string ⟨#[]⟩, .string ⟨#[]⟩, .bool false, .string ⟨#[]⟩, .string ⟨#[]⟩, .bool false, .bool false, .bool false, .bool false, .bool false, .bool false, .bool false, .slice none 0 0, .slice none 0 0, .slice none 0 0] (by rfl) rfl HN5.out (by simp [Value.oneCell']) (by decide) (by have := HDL.out; simp only [maxLen]; omega) (by have := HDL.out; omega) HBS.out (w5.heap.size) rfl ?_
    intro gn cn wc g1 g2 g3 _
    have HG3 : Hid (iv.ownBlock = some gn ∨ w5.heap.size ≤ gn) := by
      rw [HIV.out]
      exact g3.imp id (fun h => by omega)
    have HGN : Hid (B + 8 < gn) := by
      rcases HG3.out with h | h
      · have := (own_lt HOW.out gn h).1; show _ < _; omega
      · have h1 := HBS.out; show _ < _; omega
    have HFC : Hid (Fr (fun g => g = B + 8 ∨ iv.ownBlock = some g) w5 wc) := (Fr.of_grown g2).mono (fun g _ h => .inr (by rw [HIV.out]; exact h))
    have HEC : Hid (ExL B l [] sn ((cnt + 1 : Nat) : Int) iv wc) := HXB.out.ex.fr ((Fr.of_grown g2).mono (T := fun g => iv.ownBlock = some g) (fun g _ h => by rw [HIV.out]; exact h)) (fun g h1 h2 e => by
      have := (own_lt HOW.out g e).1; omega)
    have HG1 := Lib.hid g1
    clear g1 g2 g3 HOA
    refine hK.out _ _ trivial ?_
    clear hK K
    simp only [Act.put, List.setIfInBounds_toArray, List.set_cons_zero, List.set_cons_succ, Reg.Kept]
    refine' Reg.G.pure (i := 9) (v := _) rfl (by rfl) (by kernel_rfl) (by kernel_rfl) (by kernel_rfl) (fun _ _ _ h => h) ?hyb10 ?rehyb10
    case hyb10 => exact fun w => by first | (go_simp; done) | (go_simp; with_reducible rfl)
    simp only [Act.put, List.setIfInBounds_toArray, List.set_cons_zero, List.set_cons_succ]
    refine' Reg.G.pure (i := 11) (v := _) rfl (by rfl) (by kernel_rfl) (by kernel_rfl) (by kernel_rfl) (fun _ _ _ h => h) ?hyb11 ?rehyb11
    case hyb11 => exact fun w => by first | (go_simp; done) | (go_simp; with_reducible rfl)
    simp only [Act.put, List.setIfInBounds_toArray, List.set_cons_zero, List.set_cons_succ]
    refine' Reg.G.pure (i := 12) (v := _) rfl (by rfl) (by kernel_rfl) (by kernel_rfl) (by kernel_rfl) (fun _ _ _ h => h) ?hyb12 ?rehyb12
    case hyb12 => exact fun w => by first | (go_simp; done) | (go_simp; with_reducible rfl)
    simp only [Act.put, List.setIfInBounds_toArray, List.set_cons_zero, List.set_cons_succ]
    refine Reg.G.two (j1 := 10) (j2 := 13) (m1 := []) (m2 := []) [] rfl rfl (by kernel_rfl) rfl (by kernel_rfl) (by kernel_rfl) (fun K hK => ?_) (fun K hK => ?_)
    · have hth : wc.there gn (ds.length * 33) z.cells.toArray.size := by rw [cells_size]; exact own_there HG1.out
      refine wp_store_mid 41 _ _ rfl gn (ds.length * 33) z.cells.toArray rfl rfl hth (info_it z) HZB.out.one ?_
      obtain ⟨x11, hwe⟩ : ∃ w, wc.setCells gn (ds.length * 33) z.cells.toArray.toList = w := ⟨_, rfl⟩
      rw [hwe]
      have HE0 : Hid (Fr (fun g => g = gn) wc x11) := by rw [← hwe]; exact fr_cells (S := fun g => g = gn) (.inl rfl) _ _ _ (Fr.refl _ _)
      have HOx11 : Hid (x11.ownsRow (B + 9) 41 33 (.slice (some ⟨gn, 0, none⟩) (ds.length + 1) cn) (ds.length + 1) (ds.flatMap DT.cells ++ z.cells)) := by rw [← hwe]; exact own_setmid HG1.out HFL.out z.cells_len
      have HEx11 : Hid (ExL B l [] sn ((cnt + 1 : Nat) : Int) iv x11) := HEC.out.fr HE0.out (fun g h1 h2 e => by have := HGN.out; omega)
      have HFx11 : Hid (Fr (fun g => g = B + 8 ∨ iv.ownBlock = some g) w5 x11) := HFC.out.trans' HE0.out (fun g hg e => by
        rcases HG3.out with h | h
        · exact .inr (by rw [e]; exact h)
        · omega)
      clear hwe hth HE0
      refine hK.out _ _ trivial ?_
      clear hK K
      simp only [Act.put, List.setIfInBounds_toArray, List.set_cons_zero, List.set_cons_succ, Reg.Kept]
      refine Reg.G.step (j := 13) (m := []) [] rfl (by kernel_rfl) rfl (by kernel_rfl) (fun K hK => ?_)
      have kb : x11.cell? ⟨B + 8, 6, none⟩ = some (.slice A ds.length cp) := by rw [← HIV.out]; exact (cell_of_blk HEx11.out.blk 6).trans rfl
      have fb : x11.frozen? ⟨B + 8, 6, none⟩ = false := froz_of_blk HEx11.out.blk 6
      go_simp
      obtain ⟨y12, hwe⟩ : ∃ w, x11.setCell ⟨B + 8, 6, none⟩ (.slice (some ⟨gn, 0, none⟩) (ds.length + 1) cn) = w := ⟨_, rfl⟩
      rw [hwe]
      have HE0 : Hid (Fr (fun g => g = B + 8) x11 y12) := by rw [← hwe]; exact (Fr.refl (fun g => g = B + 8) x11).setb 6 _
      have HEy12 : Hid (ExL B l [] sn ((cnt + 1 : Nat) : Int) (.slice (some ⟨gn, 0, none⟩) (ds.length + 1) cn) y12) := by rw [← hwe]; exact HEx11.out.items _
      have HOy12 : Hid (y12.ownsRow (B + 9) 41 33 (.slice (some ⟨gn, 0, none⟩) (ds.length + 1) cn) (ds.length + 1) (ds.flatMap DT.cells ++ z.cells)) := own_fr HOx11.out HE0.out (fun k h1 _ e => by omega)
      have HFy12 : Hid (Fr (fun g => g = B + 8 ∨ iv.ownBlock = some g) w5 y12) := HFx11.out.trans (HE0.out.mono (fun g _ e => .inl e))
      clear hwe HE0 kb fb
      refine hK.out _ _ trivial ?_
      clear hK K
      simp only [Act.put, List.setIfInBounds_toArray, List.set_cons_zero, List.set_cons_succ, Reg.Kept]
      refine Reg.G.done (by kernel_rfl) ?_
      go_wp2_with fail
      go_ret
      have HXG := XS.grow z HXB.out HIV.out HZB.out HOy12.out HEy12.out HG3.out HFy12.out
      refine ⟨rfl, ⟨⟨_, _, XS.rest HDN.out HXG, ?_, fun g hg => ?_⟩, ?_⟩⟩
      · rw [List.map_append, List.map_cons, List.map_nil, HZT.out]
      · have : gn = g := by simpa [Value.ownBlock] using hg
        subst this
        exact HG3.out.imp id (fun h => by have h1 := HG2.out; have h2 := HF5.out.size; omega)
      · exact ((HFV2.out.mono (T := SX B iv) (fun g _ e => .inl ⟨by omega, by omega⟩)).trans (HF5.out.mono (fun _ _ h => h.elim))).trans (HFy12.out.mono (fun g _ e => by
          rcases e with e | e
          · exact .inl ⟨by omega, by omega⟩
          · exact .inr e))
    · have kb : wc.cell? ⟨B + 8, 6, none⟩ = some (.slice A ds.length cp) := by rw [← HIV.out]; exact (cell_of_blk HEC.out.blk 6).trans rfl
      have fb : wc.frozen? ⟨B + 8, 6, none⟩ = false := froz_of_blk HEC.out.blk 6
      go_simp
      obtain ⟨y13, hwe⟩ : ∃ w, wc.setCell ⟨B + 8, 6, none⟩ (.slice (some ⟨gn, 0, none⟩) (ds.length + 1) cn) = w := ⟨_, rfl⟩
      rw [hwe]
      have HE0 : Hid (Fr (fun g => g = B + 8) wc y13) := by rw [← hwe]; exact (Fr.refl (fun g => g = B + 8) wc).setb 6 _
      have HEy13 : Hid (ExL B l [] sn ((cnt + 1 : Nat) : Int) (.slice (some ⟨gn, 0, none⟩) (ds.length + 1) cn) y13) := by rw [← hwe]; exact HEC.out.items _
      have HOy13 : Hid (y13.ownsRow (B + 9) 41 33 (.slice (some ⟨gn, 0, none⟩) (ds.length + 1) cn) (ds.length + 1) (ds.flatMap DT.cells ++ [.int .i64 0, .string ⟨#[]⟩, .int .i64 0, .string ⟨#[]⟩, .string ⟨#[]⟩, .int .i64 0, .int .i64 0, .int .i64 0, .bool false, .string ⟨#[]⟩, .int .i64 0, .bool false, .string ⟨#[]⟩, .slice none 0 0, .string ⟨#[]⟩, .string ⟨#[]⟩, .int .i64 0, .int .i64 0, .string ⟨#[]⟩, .string ⟨#[]⟩, .bool false, .string ⟨#[]⟩, .string ⟨#[]⟩, .bool false, .bool false, .bool false, .bool false, .bool false, .bool false, .bool false, .slice none 0 0, .slice none 0 0, .slice none 0 0])) := own_fr HG1.out HE0.out (fun k h1 _ e => by omega)
      have HFy13 : Hid (Fr (fun g => g = B + 8 ∨ iv.ownBlock = some g) w5 y13) := HFC.out.trans (HE0.out.mono (fun g _ e => .inl e))
      clear hwe HE0 kb fb
      refine hK.out _ _ trivial ?_
      clear hK K
      simp only [Act.put, List.setIfInBounds_toArray, List.set_cons_zero, List.set_cons_succ, Reg.Kept]
      refine Reg.G.step (j := 10) (m := []) [] rfl (by kernel_rfl) rfl (by kernel_rfl) (fun K hK => ?_)
      have hth : y13.there gn (ds.length * 33) z.cells.toArray.size := by rw [cells_size]; exact own_there HOy13.out
      refine wp_store_mid 41 _ _ rfl gn (ds.length * 33) z.cells.toArray rfl rfl hth (info_it z) HZB.out.one ?_
      obtain ⟨x14, hwe⟩ : ∃ w, y13.setCells gn (ds.length * 33) z.cells.toArray.toList = w := ⟨_, rfl⟩
      rw [hwe]
      have HE0 : Hid (Fr (fun g => g = gn) y13 x14) := by rw [← hwe]; exact fr_cells (S := fun g => g = gn) (.inl rfl) _ _ _ (Fr.refl _ _)
      have HOx14 : Hid (x14.ownsRow (B + 9) 41 33 (.slice (some ⟨gn, 0, none⟩) (ds.length + 1) cn) (ds.length + 1) (ds.flatMap DT.cells ++ z.cells)) := by rw [← hwe]; exact own_setmid HOy13.out HFL.out z.cells_len
      have HEx14 : Hid (ExL B l [] sn ((cnt + 1 : Nat) : Int) (.slice (some ⟨gn, 0, none⟩) (ds.length + 1) cn) x14) := HEy13.out.fr HE0.out (fun g h1 h2 e => by have := HGN.out; omega)
      have HFx14 : Hid (Fr (fun g => g = B + 8 ∨ iv.ownBlock = some g) w5 x14) := HFy13.out.trans' HE0.out (fun g hg e => by
        rcases HG3.out with h | h
        · exact .inr (by rw [e]; exact h)
        · omega)
      clear hwe hth HE0
      refine hK.out _ _ trivial ?_
      clear hK K
      simp only [Act.put, List.setIfInBounds_toArray, List.set_cons_zero, List.set_cons_succ, Reg.Kept]
      refine Reg.G.done (by kernel_rfl) ?_
      go_wp2_with fail
      go_ret
      have HXG := XS.grow z HXB.out HIV.out HZB.out HOx14.out HEx14.out HG3.out HFx14.out
      refine ⟨rfl, ⟨⟨_, _, XS.rest HDN.out HXG, ?_, fun g hg => ?_⟩, ?_⟩⟩
      · rw [List.map_append, List.map_cons, List.map_nil, HZT.out]
      · have : gn = g := by simpa [Value.ownBlock] using hg
        subst this
        exact HG3.out.imp id (fun h => by have h1 := HG2.out; have h2 := HF5.out.size; omega)
      · exact ((HFV2.out.mono (T := SX B iv) (fun g _ e => .inl ⟨by omega, by omega⟩)).trans (HF5.out.mono (fun _ _ h => h.elim))).trans (HFx14.out.mono (fun g _ e => by
          rcases e with e | e
          · exact .inl ⟨by omega, by omega⟩
          · exact .inr e))
theorem examine_any {Q : Prop} {B : Nat} {l sn : List DT} {cnt : Nat} {iv : Value} {ds : List DT} (y : DT) (W : World) (hX : XS Q B l [] sn cnt iv ds W) (hy : Lay (fun g => g < B) W y) (hT : ∀ z ∈ l, Lay (fun g => g < B) W z) (hTK : ∀ z ∈ l, z.h.kind = 13 → TOk z) (hs : Short y) (hn : y.h.name.length ≤ 1000000) (hc : cnt ≤ 601) (hI : Inv ⟨cnt, ds.map DT.tree⟩) :
    Calls Try.prog 26 #[.pointer (some ⟨B + 8, 0, none⟩), .agg y.cells.toArray] W (ExamR Q B l sn iv y W (examine (envD l) (sn.map DT.tree) y.tree ⟨cnt, ds.map DT.tree⟩)) := by
  have hds : ds.length ≤ 1000 := by have := hI.2; dsimp only at this; rw [List.length_map] at this; omega
  cases hd : defines y.h.kind with
  | true =>
    rcases defines_cases hd with h | h | h
    · exact exam_13 y W hX hy h
    · exact exam_6 y W hX hy h
    · exact exam_7 y W hX hy h
  | false =>
    by_cases h14 : y.h.kind = 14
    · exact exam_2 y W hX hy hT hTK hn hc hI h14
    · cases hk : isClause y.h.kind with
      | true => exact exam_3 y W hX hy hT hs (by omega) hds hk
      | false => exact exam_4 y W hX hy hT hs (by omega) hds hd h14 hk
end Go.Proofs.Yticakdajhmfpoaa.Ic
