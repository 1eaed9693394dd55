/-
  Include: a clause is counted, defined and added.
-/
import Derived.Test.YticakdajhmfpoaaIncDef
import Derived.Deep.AppendLies
namespace Go.Proofs.Yticakdajhmfpoaa.Ic
open Go.RowKit Mem Vw Rs
open Go.ChangeMaps (setBlock)
set_option linter.unusedVariables false
set_option linter.unusedSimpArgs false

/-- The expander's state, with the items that it has. -/
structure XS (Q : Prop) (B : Nat) (l : List DT) (op : List Rs.Bytes) (sn : List DT) (cnt : Nat) (iv : Value) (ds : List DT) (w : World) : Prop where
  ex : ExL B l op sn cnt iv w
  own : w.ownsRow (B + 9) 41 33 iv ds.length (ds.flatMap DT.cells)
  lay : Q → ∀ d ∈ ds, Lay (fun g => B + 9 ≤ g ∧ iv.ownBlock ≠ some g) w d
/-- What may be written. -/
def SX (B : Nat) (iv : Value) (g : Nat) : Prop := (B ≤ g ∧ g ≤ B + 8) ∨ iv.ownBlock = some g
/-- A step of the expander. -/
structure Step (Q : Prop) (B : Nat) (l : List DT) (op : List Rs.Bytes) (sn : List DT) (iv : Value) (W : World) (r : St) (w' : World) : Prop where
  st : ∃ iv' ds', XS Q B l op sn r.count iv' ds' w' ∧ ds'.map DT.tree = r.out ∧ ∀ g, iv'.ownBlock = some g → iv.ownBlock = some g ∨ W.heap.size ≤ g
  fr : Fr (SX B iv) W w'
theorem own_setmid {w : World} {base n : Nat} {e : TypeId} {gn cn : Nat} {xs zs vs : List Value} (h : w.ownsRow base e 33 (.slice (some ⟨gn, 0, none⟩) (n + 1) cn) (n + 1) (xs ++ zs)) (hx : xs.length = n * 33) (hv : vs.length = 33) : (w.setCells gn (n * 33) vs).ownsRow base e 33 (.slice (some ⟨gn, 0, none⟩) (n + 1) cn) (n + 1) (xs ++ vs) := by
  obtain ⟨h1, h2⟩ := h
  rcases h2 with ⟨h2, _⟩ | ⟨g, cap, cur, h3, h4, h5, h6, h7, h8, h9⟩
  · cases h2
  · injection h3 with h3 _ h3c; injection h3 with h3; injection h3 with h3 _ _
    subst h3 h3c
    have hz : zs.length = 33 := by rw [List.length_append] at h1; omega
    have hcur : cur.toList = xs ++ zs ++ cur.toList.drop ((n + 1) * 33) := by
      rw [← h9, List.take_append_drop]
    have hc2 : cur = (xs ++ zs ++ cur.toList.drop ((n + 1) * 33)).toArray := by rw [← hcur]
    rw [hc2] at h5
    have h10 := blk_cells vs (n * 33) w xs zs _ h5 hx (by omega)
    refine ⟨by rw [List.length_append]; omega, .inr ⟨gn, cn, _, rfl, h4, h10, h6, h7, ?_, ?_⟩⟩
    · have := congrArg List.length hcur
      simp only [List.length_append, Array.length_toList, List.size_toArray] at this ⊢
      omega
    · rw [List.take_append_of_le_length (by rw [List.length_append]; omega)]
      exact List.take_of_length_le (by rw [List.length_append]; omega)
theorem own_there {w : World} {base n : Nat} {e : TypeId} {gn cn : Nat} {xs : List Value} (h : w.ownsRow base e 33 (.slice (some ⟨gn, 0, none⟩) (n + 1) cn) (n + 1) xs) : w.there gn (n * 33) 33 := by
  obtain ⟨h1, h2⟩ := h
  rcases h2 with ⟨h2, _⟩ | ⟨g, cap, cur, h3, h4, h5, h6, h7, h8, h9⟩
  · cases h2
  · injection h3 with h3 _ _; injection h3 with h3; injection h3 with h3 _ _
    subst h3
    intro j hj
    refine ⟨?_, froz_of_blk h5 _⟩
    rw [cell_of_blk h5, Array.getElem?_eq_getElem (by rw [h8]; have : (n + 1) * 33 ≤ cap * 33 := Nat.mul_le_mul_right _ h6; omega)]
    rfl
theorem bsl_item (h : Rs.Item) (a1 a2 a3 a4 : Option Addr) (n1 n2 n3 n4 c1 c2 c3 c4 : Nat) (w : World) : (Instr.buildSlice 24 1 #[(0, .agg (icells h (.slice a1 n1 c1) (.slice a2 n2 c2) (.slice a3 n3 c3) (.slice a4 n4 c4)).toArray)]).run Try.prog w = .ok (.slice (some ⟨w.heap.size, 0, none⟩) 1 1) (w.alloc (.cells (icells h (.slice a1 n1 c1) (.slice a2 n2 c2) (.slice a3 n3 c3) (.slice a4 n4 c4)).toArray 41)) := by kernel_rfl
theorem bsl_zero (w : World) : (Instr.buildSlice 24 1 #[(0, .agg #[.int .i64 0, .string ⟨#[]⟩, .int .i64 0, .string ⟨#[]⟩, .string ⟨#[]⟩, .int .i64 0, .int .i64 0, .int .i64 0, .bool false, .string ⟨#[]⟩, .int .i64 0, .bool false, .string ⟨#[]⟩, .slice none 0 0, .string ⟨#[]⟩, .string ⟨#[]⟩, .int .i64 0, .int .i64 0, .string ⟨#[]⟩, .string ⟨#[]⟩, .bool false, .string ⟨#[]⟩, .string ⟨#[]⟩, .bool false, .bool false, .bool false, .bool false, .bool false, .bool false, .bool false, .slice none 0 0, .slice none 0 0, .slice none 0 0])]).run Try.prog w = .ok (.slice (some ⟨w.heap.size, 0, none⟩) 1 1) (w.alloc (.cells #[.int .i64 0, .string ⟨#[]⟩, .int .i64 0, .string ⟨#[]⟩, .string ⟨#[]⟩, .int .i64 0, .int .i64 0, .int .i64 0, .bool false, .string ⟨#[]⟩, .int .i64 0, .bool false, .string ⟨#[]⟩, .slice none 0 0, .string ⟨#[]⟩, .string ⟨#[]⟩, .int .i64 0, .int .i64 0, .string ⟨#[]⟩, .string ⟨#[]⟩, .bool false, .string ⟨#[]⟩, .string ⟨#[]⟩, .bool false, .bool false, .bool false, .bool false, .bool false, .bool false, .bool false, .slice none 0 0, .slice none 0 0, .slice none 0 0] 41)) := by kernel_rfl
theorem wp_bsl1 {o : Oper} {a : Act} {w : World} {K : Act → World → Prop} {Q : Exit → Act → World → Prop} (t : TypeId) (x : Operand) (hop : o.op = .buildSlice t 1 #[(0, x)]) {v0 : Value} (hx : a.eval x = v0) (v : Value) (w' : World) (hb : (Instr.buildSlice t 1 #[(0, v0)]).run Try.prog w = .ok v w') (h : K (a.put o.dst v) w') : o.wp Try.prog a w K Q :=
  wp_bsl t 1 #[(0, x)] hop #[(0, v0)] (by subst hx; simp) v w' hb h
theorem XS.lens {Q : Prop} {B : Nat} {l : List DT} {op : List Rs.Bytes} {sn : List DT} {cnt : Nat} {iv : Value} {ds : List DT} {w : World} (h : XS Q B l op sn cnt iv ds w) : ∃ A c, iv = .slice A ds.length c := own_form h.own
theorem XS.fr {S : Nat → Prop} {Q : Prop} {B : Nat} {l : List DT} {op : List Rs.Bytes} {sn : List DT} {cnt : Nat} {iv : Value} {ds : List DT} {w w' : World} (h : XS Q B l op sn cnt iv ds w) (hf : Fr S w w') (hs : ∀ g, B ≤ g → g < w.heap.size → ¬ S g) : XS Q B l op sn cnt iv ds w' := by
  have hb : ∀ g, B ≤ g → g ≤ B + 8 → ¬ S g := fun g h1 h2 => hs g h1 (by have := lt_of_blk h.ex.blk; omega)
  refine ⟨h.ex.fr hf hb, own_fr h.own hf (fun k hk hk2 => hs k (by omega) hk2), fun q d hd => ?_⟩
  exact ((h.lay q d hd).mono (C := fun g => (B + 9 ≤ g ∧ iv.ownBlock ≠ some g) ∧ g < w.heap.size) (fun g h1 h2 => ⟨h2, h1⟩)).fr hf (fun g hg => hs g (by omega) hg.2) |>.mono (fun g _ hg => hg.1)
theorem define_lists {E : Env} {c d : Rs.Item} (h : define E c = some d) : d.conds = c.conds ∧ d.dates = c.dates ∧ d.names = c.names := by
  unfold define at h
  split at h
  · cases h
  · split at h
    · cases h
    · unfold defSum at h
      split at h
      · injection h with h; subst h; exact ⟨rfl, rfl, rfl⟩
      · dsimp only at h
        cases h2 : E.sum c.sum with
        | none => rw [h2] at h; cases h
        | some m => rw [h2] at h; injection h with h; subst h; exact ⟨rfl, rfl, rfl⟩
/-- What clause returns. -/
def ClR (Q : Prop) (B : Nat) (l : List DT) (op : List Rs.Bytes) (sn : List DT) (iv : Value) (W : World) (r : Int × St) (e : Ending) (w' : World) : Prop := e = .returned (.int .i64 r.1) ∧ Step Q B l op sn iv W r.2 w'
/-- The items grow by one. -/
theorem XS.grow {Q : Prop} {B : Nat} {l : List DT} {op : List Rs.Bytes} {sn : List DT} {cnt : Nat} {iv : Value} {ds : List DT} {w3 w' : World} {A : Option Addr} {cp gn cn : Nat} (y : DT)
    (h : XS Q B l op sn cnt iv ds w3) (hiv : iv = .slice A ds.length cp) (hy : Lay (fun g => B + 9 ≤ g ∧ iv.ownBlock ≠ some g) w3 y)
    (g1 : w'.ownsRow (B + 9) 41 33 (.slice (some ⟨gn, 0, none⟩) (ds.length + 1) cn) (ds.length + 1) (ds.flatMap DT.cells ++ y.cells))
    (hex : ExL B l op sn cnt (.slice (some ⟨gn, 0, none⟩) (ds.length + 1) cn) w')
    (hg : iv.ownBlock = some gn ∨ w3.heap.size ≤ gn) (hf : Fr (fun g => g = B + 8 ∨ iv.ownBlock = some g) w3 w') : XS Q B l op sn cnt (.slice (some ⟨gn, 0, none⟩) (ds.length + 1) cn) (ds ++ [y]) w' := by
  have key : ∀ d : DT, Lay (fun g => B + 9 ≤ g ∧ iv.ownBlock ≠ some g) w3 d → Lay (fun g => B + 9 ≤ g ∧ (Value.slice (some ⟨gn, 0, none⟩) (ds.length + 1) cn).ownBlock ≠ some g) w' d := fun d hd => by
    have h2 := hd.mono (C := fun g => (B + 9 ≤ g ∧ iv.ownBlock ≠ some g) ∧ g < w3.heap.size) (fun g h1 h2 => ⟨h2, h1⟩)
    have h3 := h2.fr hf (fun g hg e => by
      rcases e with e | e
      · omega
      · exact hg.1.2 e)
    refine h3.mono (fun g _ h4 => ⟨h4.1.1, fun e => ?_⟩)
    have : gn = g := by simpa [Value.ownBlock] using e
    subst this
    rcases hg with hg | hg
    · exact h4.1.2 hg
    · omega
  refine ⟨hex, ?_, fun q d hd => ?_⟩
  · rw [List.length_append, List.flatMap_append]
    simpa using g1
  · rcases List.mem_append.1 hd with hd | hd
    · exact key d (h.lay q d hd)
    · simp only [List.mem_cons, List.not_mem_nil, or_false] at hd
      subst hd
      exact key d hy
set_option maxRecDepth 100000 in
set_option maxHeartbeats 8000000 in
theorem clause_any {Q : Prop} {B : Nat} {l : List DT} {op : List Rs.Bytes} {sn : List DT} {cnt : Nat} {iv : Value} {ds : List DT} (y : DT) (W : World) (hX : XS Q B l op sn cnt iv ds W) (hy : Lay (fun g => B + 9 ≤ g ∧ iv.ownBlock ≠ some g) W y) (ho : ∀ x ∈ l, x.cells.toArray.all (·.oneCell') = true) (hc : cnt ≤ 1000) (hd : ds.length ≤ 1000) :
    Calls Try.prog 34 #[.pointer (some ⟨B + 8, 0, none⟩), .agg y.cells.toArray] W (ClR Q B l op sn iv W (clause (envD l) y.tree ⟨cnt, ds.map DT.tree⟩)) := by
  obtain ⟨A, cp, hiv⟩ := hX.lens
  have HIV := Lib.hid hiv
  obtain ⟨w0, HW0⟩ : ∃ w0, Hid (W.alloc (.cells y.cells.toArray 41) = w0) := ⟨_, rfl⟩
  have HF0 : Hid (Fr (fun _ => False) W w0) := by rw [← HW0.out]; exact (Fr.refl _ W).alloc _
  have HB0 : Hid (w0.heap[W.heap.size]? = some (.cells y.cells.toArray 41 (0, 0))) := by rw [← HW0.out]; exact blk_newn rfl
  have HX0 : Hid (XS Q B l op sn cnt iv ds w0) := hX.fr HF0.out (fun _ _ _ h => h)
  have HY0 : Hid (Lay (fun g => (B + 9 ≤ g ∧ iv.ownBlock ≠ some g) ∧ g < W.heap.size) w0 y) := (hy.mono (C := fun g => (B + 9 ≤ g ∧ iv.ownBlock ≠ some g) ∧ g < W.heap.size) (fun g h1 h2 => ⟨h2, h1⟩)).fr HF0.out (fun _ _ h => h)
  have HGB : Hid (B + 8 < W.heap.size) := lt_of_blk hX.ex.blk
  have HIW : Hid (∀ g, iv.ownBlock = some g → g < W.heap.size) := fun g hg => (own_lt hX.own g hg).2
  have HO := Lib.hid ho; have HC := Lib.hid hc; have HDL := Lib.hid hd
  have HCT := Lib.hid (counts_any w0 HX0.out.ex (by omega) (by omega))
  obtain ⟨w1, HW1⟩ : ∃ w, Hid (w0.setCell ⟨B + 8, 5, none⟩ (.int .i64 ((cnt : Int) + 1)) = w) := ⟨_, rfl⟩
  rw [HW1.out] at HCT
  have HF1 : Hid (Fr (fun g => g = B + 8) w0 w1) := by rw [← HW1.out]; exact (Fr.refl (fun g => g = B + 8) w0).setb 5 _
  have HX1 : Hid (XS Q B l op sn (cnt + 1) iv ds w1) := by
    refine ⟨?_, own_fr HX0.out.own HF1.out (fun k h1 _ e => by omega), fun q d hd => (HX0.out.lay q d hd).fr HF1.out (fun g hg e => by omega)⟩
    have := HX0.out.ex.count ((cnt : Int) + 1)
    rw [HW1.out] at this
    exact this
  have HB1 : Hid (w1.heap[W.heap.size]? = some (.cells y.cells.toArray 41 (0, 0))) := HF1.out.blk HB0.out (fun e => by have := HGB.out; omega)
  have HY1 : Hid (Lay (fun g => (B + 9 ≤ g ∧ iv.ownBlock ≠ some g) ∧ g < W.heap.size) w1 y) := HY0.out.fr HF1.out (fun g hg e => by omega)
  have HLD : Hid (Q → ∀ d ∈ ds, Lay (fun g => (B + 9 ≤ g ∧ iv.ownBlock ≠ some g) ∧ g < W.heap.size) W d) := fun q d hd => (hX.lay q d hd).mono (fun g h1 h2 => ⟨h2, h1⟩)
  have HOW := Lib.hid hX.own
  have HFV1 : Hid (Fr (fun g => g = B + 8) W w1) := (HF0.out.mono (T := fun g => g = B + 8) (fun _ _ h => h.elim)).trans HF1.out
  have HFW1 : Hid (Fr (SX B iv) W w1) := (HF0.out.mono (T := SX B iv) (fun _ _ h => h.elim)).trans' HF1.out (fun g _ e => .inl ⟨by omega, by omega⟩)
  clear hX hy ho hc hd hiv HX0 HY0 HF0 HF1 HB0 HW1
  obtain ⟨h, c, d, n, i, lst⟩ := y
  show Calls _ _ #[_, .agg (icells h c d n i).toArray] _ _
  obtain ⟨a1, c1, hs1, _, _⟩ := HY1.out.conds.slice
  obtain ⟨a2, c2, hs2, _, _⟩ := HY1.out.dates.slice
  obtain ⟨a3, c3, hs3, _, _⟩ := HY1.out.names.slice
  obtain ⟨a4, c4, hs4, _, _⟩ := HY1.out.items.row.slice
  dsimp only [DT.c, DT.d, DT.n, DT.i, DT.h, DT.l] at hs1 hs2 hs3 hs4
  rw [List.length_map] at hs1 hs2 hs3 hs4
  subst hs1 hs2 hs3 hs4
  have HW0 : Hid (W.alloc (.cells (icells h (.slice a1 h.conds.length c1) (.slice a2 h.dates.length c2) (.slice a3 h.names.length c3) (.slice a4 lst.length c4)).toArray 41) = w0) := HW0
  have HDF := Lib.hid (define_any h _ _ _ _ W.heap.size w1 HX1.out.ex HB1.out HGB.out HO.out)
  rw [show (DT.node h _ _ _ _ lst).tree = .node h (lst.map DT.tree) from tree_node _ _ _ _ _ _]
  by_cases hle : (cnt : Int) + 1 ≤ 600
  case neg =>
    have hd : decide ((cnt : Int) + 1 ≤ 600) = false := by simp; omega
    rw [hd] at HCT
    have HR : Hid (clause (envD l) (.node h (lst.map DT.tree)) ⟨cnt, ds.map DT.tree⟩ = (3, ⟨cnt + 1, ds.map DT.tree⟩)) := by
      show _ = _; unfold clause; rw [if_pos (by dsimp only; omega)]
    rw [HR.out]
    go_enter Try.func34, Try.ntmps34
    go_upto_region 1 with fail
    rw [HW0.out]
    go_wp2_with fail
    refine HCT.out.mono ?_
    rintro e w9 ⟨rfl, rfl⟩
    go_wp2_with fail
    go_ret
    exact ⟨rfl, ⟨⟨iv, ds, HX1.out, rfl, fun g hg => .inl hg⟩, HFW1.out⟩⟩
  have hd : decide ((cnt : Int) + 1 ≤ 600) = true := by simp; omega
  rw [hd] at HCT
  have HLE := Lib.hid hle
  have HRC : Hid (clause (envD l) (.node h (lst.map DT.tree)) ⟨cnt, ds.map DT.tree⟩ = match define (envD l) h with | none => (8, ⟨cnt + 1, ds.map DT.tree⟩) | some h' => (0, ⟨cnt + 1, ds.map DT.tree ++ [.node h' (lst.map DT.tree)]⟩)) := by
    show _ = _; unfold clause; rw [if_neg (by dsimp only; omega)]; rfl
  clear hle hd
  cases hdf : define (envD l) h with
  | none =>
    rw [hdf] at HRC
    rw [HRC.out]
    clear HRC
    go_enter Try.func34, Try.ntmps34
    go_upto_region 1 with fail
    rw [HW0.out]
    go_wp2_with fail
    refine HCT.out.mono ?_
    rintro e w9 ⟨rfl, hw9⟩
    have hw9 := hw9.symm
    subst hw9
    clear HW0 HCT
    go_wp2_with fail
    refine HDF.out.mono ?_
    rintro e w2 ⟨he, hf2, hb2⟩
    rw [hdf] at he
    have he : e = .returned (.bool false) := he
    subst he
    have HF2 := Lib.hid hf2; have HB2 := Lib.hid hb2
    have HFV2 : Hid (Fr (fun g => g = B + 8) W w2) := HFV1.out.trans' hf2 (fun g hg e => by omega)
    have HX2 : Hid (XS Q B l op sn (cnt + 1) iv ds w2) := by
      have h1 := HGB.out
      exact ⟨HX1.out.ex.fr hf2 (fun g _ h4 e => by omega), own_fr HOW.out HFV2.out (fun k h1 _ e => by omega), fun q d hd => ((HLD.out q d hd).fr HFV2.out (fun g hg e => by omega)).mono (fun g _ hg => hg.1)⟩
    have HY2 : Hid (Lay (fun g => (B + 9 ≤ g ∧ iv.ownBlock ≠ some g) ∧ g < W.heap.size) w2 (.node h (.slice a1 h.conds.length c1) (.slice a2 h.dates.length c2) (.slice a3 h.names.length c3) (.slice a4 lst.length c4) lst)) := HY1.out.fr HF2.out (fun g hg e => by omega)
    clear hf2 hb2
    go_wp2_with fail
    go_ret
    exact ⟨rfl, ⟨⟨iv, ds, HX2.out, rfl, fun g hg => .inl hg⟩, HFV2.out.mono (fun g _ e => .inl ⟨by omega, by omega⟩)⟩⟩
  | some h' =>
    rw [hdf] at HRC
    rw [HRC.out]
    clear HRC
    go_enter Try.func34, Try.ntmps34
    go_upto_region 1 with fail
    rw [HW0.out]
    go_wp2_with fail
    refine HCT.out.mono ?_
    rintro e w9 ⟨rfl, hw9⟩
    have hw9 := hw9.symm
    subst hw9
    clear HW0 HCT
    go_wp2_with fail
    refine HDF.out.mono ?_
    rintro e w2 ⟨he, hf2, hb2⟩
    rw [hdf] at he
    have he : e = .returned (.bool true) := he
    subst he
    have HF2 := Lib.hid hf2; have HB2 := Lib.hid hb2
    have HFV2 : Hid (Fr (fun g => g = B + 8) W w2) := HFV1.out.trans' hf2 (fun g hg e => by omega)
    have HX2 : Hid (XS Q B l op sn (cnt + 1) iv ds w2) := by
      have h1 := HGB.out
      exact ⟨HX1.out.ex.fr hf2 (fun g _ h4 e => by omega), own_fr HOW.out HFV2.out (fun k h1 _ e => by omega), fun q d hd => ((HLD.out q d hd).fr HFV2.out (fun g hg e => by omega)).mono (fun g _ hg => hg.1)⟩
    have HY2 : Hid (Lay (fun g => (B + 9 ≤ g ∧ iv.ownBlock ≠ some g) ∧ g < W.heap.size) w2 (.node h (.slice a1 h.conds.length c1) (.slice a2 h.dates.length c2) (.slice a3 h.names.length c3) (.slice a4 lst.length c4) lst)) := HY1.out.fr HF2.out (fun g hg e => by omega)
    clear hf2 hb2
    have HBH : Hid (w2.heap[W.heap.size]? = some (.cells (icells h' (.slice a1 h.conds.length c1) (.slice a2 h.dates.length c2) (.slice a3 h.names.length c3) (.slice a4 lst.length c4)).toArray 41 (0, 0))) := HB2.out h' hdf
    have HDF := Lib.hid hdf
    clear hdf
    obtain ⟨y', hy'⟩ : ∃ y' : DT, DT.node h' (.slice a1 h.conds.length c1) (.slice a2 h.dates.length c2) (.slice a3 h.names.length c3) (.slice a4 lst.length c4) lst = y' := ⟨_, rfl⟩
    have HYN : Hid (y'.cells = icells h' (.slice a1 h.conds.length c1) (.slice a2 h.dates.length c2) (.slice a3 h.names.length c3) (.slice a4 lst.length c4)) := by show _ = _; rw [← hy']; rfl
    have HCE : Hid (y'.tree = .node h' (lst.map DT.tree)) := by show _ = _; rw [← hy', tree_node]
    have HLY : Hid (Lay (fun g => (B + 9 ≤ g ∧ iv.ownBlock ≠ some g) ∧ g < W.heap.size) w2 y') := by
      rw [← hy']
      have q := HY2.out
      have hc := define_lists HDF.out
      refine Lay.mk' ?_ ?_ ?_ ⟨q.items.row, q.items.lay⟩
      · show RowB _ _ _ _ (h'.conds.map namedc); rw [hc.1]; exact q.conds
      · show RowB _ _ _ _ (h'.dates.map civilc); rw [hc.2.1]; exact q.dates
      · show RowB _ _ _ _ (h'.names.map _); rw [hc.2.2]; exact q.names
    clear hy' HY2 HY1
    go_upto_region 5 with fail
    have HSL : Hid (∀ w, Fr (fun _ => False) w2 w → w.cell? ⟨B + 8, 6, none⟩ = some (.slice A ds.length cp)) := fun w hw => by rw [← HIV.out]; exact (cell_of_blk (hw.blk HX2.out.ex.blk (fun h => h)) 6).trans rfl
    have HOWN2 : Hid (w2.ownsRow (B + 9) 41 33 (.slice A ds.length cp) ds.length (ds.flatMap DT.cells)) := by show World.ownsRow _ _ _ _ _ _ _; rw [← HIV.out]; exact HX2.out.own
    have HG2 : Hid (W.heap.size < w2.heap.size) := lt_of_blk HBH.out
    have HFL : Hid ((ds.flatMap DT.cells).length = ds.length * 33) := HOWN2.out.1
    have HONE : Hid ((icells h' (.slice a1 h.conds.length c1) (.slice a2 h.dates.length c2) (.slice a3 h.names.length c3) (.slice a4 lst.length c4)).toArray.all (·.oneCell') = true) := by show _ = _; simp [icells, Value.oneCell', sv, nv]
    obtain ⟨j0, hj, hj0, hj1, hj2⟩ := info_parts cinfo_item
    refine Reg.G.start (by kernel_rfl) ?_
    obtain ⟨wD, hD⟩ : ∃ w, w2.drew = w := ⟨_, rfl⟩
    have HFD : Hid (Fr (fun _ => False) w2 wD) := by rw [← hD]; exact (Fr.refl _ w2).drew
    have HSD0 : Hid (wD.heap.size = w2.heap.size) := by show _ = _; rw [← hD]; rfl
    rw [hD]
    clear hD
    refine Reg.G.step (j := 0) (m := []) [] rfl (by kernel_rfl) rfl (by kernel_rfl) (fun K hK => ?_)
    go_simp
    obtain ⟨wS, hwS⟩ : ∃ w, (wD).alloc (.cells #[.bool false] 4) = w := ⟨_, rfl⟩
    rw [hwS]
    have HBS : Hid (wS.heap[wD.heap.size]? = some (.cells #[.bool false] 4 (0, 0))) := by rw [← hwS]; exact blk_newn rfl
    have HFS : Hid (Fr (fun _ => False) w2 wS) := by rw [← hwS]; exact HFD.out.alloc _
    clear hwS
    refine hK.out _ _ trivial ?_
    clear hK K
    simp only [Act.put, List.setIfInBounds_toArray, List.set_cons_zero, List.set_cons_succ, Reg.Kept]
    refine Reg.G.two (j1 := 1) (j2 := 2) (m1 := []) (m2 := []) [] rfl rfl (by kernel_rfl) rfl (by kernel_rfl) (by kernel_rfl) (fun K hK => ?_) (fun K hK => ?_)
    · have z0 : wS.cell? ⟨wD.heap.size, 0, none⟩ = some (.bool false) := (cell_of_blk HBS.out 0).trans rfl
      have y0 : wS.frozen? ⟨wD.heap.size, 0, none⟩ = false := froz_of_blk HBS.out 0
      go_simp
      obtain ⟨wT1, hwT⟩ : ∃ w, wS.setCell ⟨wD.heap.size, 0, none⟩ (.bool true) = w := ⟨_, rfl⟩
      rw [hwT]
      have HBT1 : Hid (wT1.heap[wD.heap.size]? = some (.cells #[.bool true] 4 (0, 0))) := by rw [← hwT]; exact blk_set HBS.out 0 _
      have HFT1 : Hid (Fr (fun _ => False) w2 wT1) := by rw [← hwT]; exact HFS.out.setCell (p := ⟨wD.heap.size, 0, none⟩) (.inr (Nat.le_of_eq HSD0.out.symm)) _
      clear hwT z0 y0
      refine hK.out _ _ trivial ?_
      clear hK K
      simp only [Act.put, List.setIfInBounds_toArray, List.set_cons_zero, List.set_cons_succ, Reg.Kept]
      refine Reg.G.step (j := 2) (m := []) [] rfl (by kernel_rfl) rfl (by kernel_rfl) (fun K hK => ?_)
      have z0 : wT1.cell? ⟨wD.heap.size, 0, none⟩ = some (.bool true) := (cell_of_blk HBT1.out 0).trans rfl
      have y0 : wT1.frozen? ⟨wD.heap.size, 0, none⟩ = false := froz_of_blk HBT1.out 0
      go_simp
      obtain ⟨wT2, hwT⟩ : ∃ w, wT1.setCell ⟨wD.heap.size, 0, none⟩ (.bool false) = w := ⟨_, rfl⟩
      rw [hwT]
      have HBT2 : Hid (wT2.heap[wD.heap.size]? = some (.cells #[.bool false] 4 (0, 0))) := by rw [← hwT]; exact blk_set HBT1.out 0 _
      have HFT2 : Hid (Fr (fun _ => False) w2 wT2) := by rw [← hwT]; exact HFT1.out.setCell (p := ⟨wD.heap.size, 0, none⟩) (.inr (Nat.le_of_eq HSD0.out.symm)) _
      clear hwT z0 y0
      refine hK.out _ _ trivial ?_
      clear hK K
      simp only [Act.put, List.setIfInBounds_toArray, List.set_cons_zero, List.set_cons_succ, Reg.Kept]
      refine' Reg.G.take (i := 3) (v := _) (F := (fun w => w.cell? ⟨wD.heap.size, 0, none⟩ = some (.bool false))) rfl (by rfl) (by kernel_rfl) (by kernel_rfl) (by kernel_rfl) (fun _ _ _ h => h) ((cell_of_blk HBT2.out 0).trans rfl) ?hyf1 ?rehyf1
      case hyf1 => intro w hw; skip; first | (go_simp; done) | (go_simp; with_reducible rfl)
      simp only [Act.put, List.setIfInBounds_toArray, List.set_cons_zero, List.set_cons_succ]
      refine Reg.G.done (by kernel_rfl) ?_
      go_upto_region 8 with fail
      refine Reg.G.start (by kernel_rfl) ?_
      obtain ⟨wG, hG⟩ : ∃ w, (wT2).drew = w := ⟨_, rfl⟩
      have HFG : Hid (Fr (fun _ => False) w2 wG) := by rw [← hG]; exact HFT2.out.drew
      rw [hG]
      clear hG
      refine' Reg.G.pure (i := 0) (v := _) rfl (by rfl) (by kernel_rfl) (by kernel_rfl) (by kernel_rfl) (fun _ _ _ h => h) ?hyb2 ?rehyb2
      case hyb2 => exact fun w => by first | (go_simp; done) | (go_simp; with_reducible rfl)
      simp only [Act.put, List.setIfInBounds_toArray, List.set_cons_zero, List.set_cons_succ]
      refine' Reg.G.pure (i := 1) (v := _) rfl (by rfl) (by kernel_rfl) (by kernel_rfl) (by kernel_rfl) (fun _ _ _ h => h) ?hyb3 ?rehyb3
      case hyb3 => exact fun w => by first | (go_simp; done) | (go_simp; with_reducible rfl)
      simp only [Act.put, List.setIfInBounds_toArray, List.set_cons_zero, List.set_cons_succ]
      refine' Reg.G.pure (i := 2) (v := _) rfl (by rfl) (by kernel_rfl) (by kernel_rfl) (by kernel_rfl) (fun _ _ _ h => h) ?hyb4 ?rehyb4
      case hyb4 => exact fun w => by first | (go_simp; done) | (go_simp; with_reducible rfl)
      simp only [Act.put, List.setIfInBounds_toArray, List.set_cons_zero, List.set_cons_succ]
      refine' Reg.G.pure (i := 3) (v := _) rfl (by rfl) (by kernel_rfl) (by kernel_rfl) (by kernel_rfl) (fun _ _ _ h => h) ?hyb5 ?rehyb5
      case hyb5 => exact fun w => by first | (go_simp; done) | (go_simp; with_reducible rfl)
      simp only [Act.put, List.setIfInBounds_toArray, List.set_cons_zero, List.set_cons_succ]
      refine' Reg.G.take (i := 4) (v := _) (F := (fun w => Fr (fun _ => False) w2 w)) rfl (by rfl) (by kernel_rfl) (by kernel_rfl) (by kernel_rfl) (fun _ _ _ h => h) (HFG.out) ?hyb6 ?rehyb6
      case hyb6 => intro w hw; have kc := HSL.out w hw; clear hw; first | (go_simp; done) | (go_simp; with_reducible rfl)
      simp only [Act.put, List.setIfInBounds_toArray, List.set_cons_zero, List.set_cons_succ]
      refine' Reg.G.take (i := 5) (v := _) (F := (fun w => Fr (fun _ => False) w2 w)) rfl (by rfl) (by kernel_rfl) (by kernel_rfl) (by kernel_rfl) (fun _ _ _ h => h) (HFG.out) ?hyb7 ?rehyb7
      case hyb7 => intro w hw; refine run_load_row (P := Try.prog) 41 (.tmp 3) ?_ W.heap.size ?_ 41 (icells h' (.slice a1 h.conds.length c1) (.slice a2 h.dates.length c2) (.slice a3 h.names.length c3) (.slice a4 lst.length c4)).toArray _ (hw.blk HBH.out (fun h => h)) Try.underlying41 rfl (by rw [info_item]; rfl) <;> rfl
      simp only [Act.put, List.setIfInBounds_toArray, List.set_cons_zero, List.set_cons_succ]
      refine Reg.G.step (j := 6) (m := [false, true]) [5, 4] rfl (by kernel_rfl) rfl (by kernel_rfl) (fun K hK => ?_)
      refine wp_bsl 24 1 _ rfl #[(0, .agg (icells h' (.slice a1 h.conds.length c1) (.slice a2 h.dates.length c2) (.slice a3 h.names.length c3) (.slice a4 lst.length c4)).toArray)] (by go_simp) _ _ (bsl_item _ _ _ _ _ _ _ _ _ _ _ _ _ _) ?_
      obtain ⟨wa, hwa⟩ : ∃ v, (wG).alloc (.cells (icells h' (.slice a1 h.conds.length c1) (.slice a2 h.dates.length c2) (.slice a3 h.names.length c3) (.slice a4 lst.length c4)).toArray 41) = v := ⟨_, rfl⟩
      rw [hwa]
      have HFA : Hid (Fr (fun _ => False) w2 wa) := by rw [← hwa]; exact HFG.out.alloc _
      have HOA : Hid (wa.ownsRow (B + 9) 41 33 (.slice A ds.length cp) ds.length (ds.flatMap DT.cells)) := own_fr HOWN2.out HFA.out (fun _ _ _ h => h)
      have HNA : Hid (∀ j y, ((icells h' (.slice a1 h.conds.length c1) (.slice a2 h.dates.length c2) (.slice a3 h.names.length c3) (.slice a4 lst.length c4)) : List Value)[j]? = some y → wa.cell? ((⟨(wG).heap.size, 0, none⟩ : Addr).add j) = some y) := by rw [← hwa]; exact World.news_of_block (cs := (icells h' (.slice a1 h.conds.length c1) (.slice a2 h.dates.length c2) (.slice a3 h.names.length c3) (.slice a4 lst.length c4)).toArray) (t := 41) (fr := (0, 0)) (heap_alloc_new (wG) _)
      have HSA : Hid (wa.heap.size = (wG).heap.size + 1) := by show _ = _; rw [← hwa]; simp
      clear hwa
      refine hK.out _ _ ⟨HFA.out, trivial⟩ ?_
      clear hK K
      simp only [Act.put, List.setIfInBounds_toArray, List.set_cons_zero, List.set_cons_succ, Reg.Kept]
      refine Reg.G.step (j := 7) (m := [false]) [4] rfl (by kernel_rfl) rfl (by kernel_rfl) (fun K hK => ?_)
      refine wp_append_lies wa (.tmp 28) (.tmp 30) 24 rfl (B + 9) 41 j0 _ 33 368 Try.underlying24 hj hj0 hj1 hj2 rfl (by decide) (.slice A ds.length cp) ds.length _ (by rfl) HOA.out ⟨(wG).heap.size, 0, none⟩ 1 1 (icells h' (.slice a1 h.conds.length c1) (.slice a2 h.dates.length c2) (.slice a3 h.names.length c3) (.slice a4 lst.length c4)) (by rfl) rfl HNA.out (by intro x hx; have h1 := HONE.out; rw [List.all_toArray, List.all_eq_true] at h1; exact h1 x hx) (by decide) (by have := HDL.out; simp only [maxLen]; omega) (by have := HDL.out; omega) (by have h1 := HGB.out; have h2 := HFA.out.size; have h3 := HG2.out; omega) ((wG).heap.size + 1) HSA.out ?_
      intro gn cn wc g1 g2 g3 _
      have HG3 : Hid (iv.ownBlock = some gn ∨ w2.heap.size ≤ gn) := by
        rw [HIV.out]
        exact g3.imp id (fun h => by have h1 := HSA.out; have h2 := HFA.out.size; omega)
      have HGN : Hid (B + 8 < gn) := by
        rcases HG3.out with h | h
        · have := (own_lt HOW.out gn h).1; show _ < _; omega
        · have h1 := HGB.out; have h2 := HG2.out; show _ < _; omega
      have HFC : Hid (Fr (fun g => g = B + 8 ∨ iv.ownBlock = some g) w2 wc) := (HFA.out.mono (T := fun g => g = B + 8 ∨ iv.ownBlock = some g) (fun _ _ h => h.elim)).trans ((Fr.of_grown g2).mono (fun g _ h => .inr (by rw [HIV.out]; exact h)))
      have HXC : Hid (wc.heap[B + 8]? = some (.cells (xcells B ((cnt + 1 : Nat) : Int) iv) 73 (0, 0))) := (Fr.of_grown g2).blk (HFA.out.blk HX2.out.ex.blk (fun h => h)) (fun e => by have := (own_lt HOA.out _ e).1; omega)
      have HEC : Hid (ExL B l op sn ((cnt + 1 : Nat) : Int) iv wc) := HX2.out.ex.fr ((HFA.out.mono (T := fun g => iv.ownBlock = some g) (fun _ _ h => h.elim)).trans ((Fr.of_grown g2).mono (fun g _ h => by rw [HIV.out]; exact h))) (fun g h1 h2 e => by
        have := (own_lt HOW.out g e).1; omega)
      have kb : wc.cell? ⟨B + 8, 6, none⟩ = some (.slice A ds.length cp) := by rw [← HIV.out]; exact (cell_of_blk HXC.out 6).trans rfl
      have fb : wc.frozen? ⟨B + 8, 6, none⟩ = false := froz_of_blk HXC.out 6
      have HG1 := Lib.hid g1
      refine hK.out _ _ trivial ?_
      clear hK K
      simp only [Act.put, List.setIfInBounds_toArray, List.set_cons_zero, List.set_cons_succ, Reg.Kept]
      refine' Reg.G.pure (i := 8) (v := _) rfl (by rfl) (by kernel_rfl) (by kernel_rfl) (by kernel_rfl) (fun _ _ _ h => h) ?hyb8 ?rehyb8
      case hyb8 => exact fun w => by first | (go_simp; done) | (go_simp; with_reducible rfl)
      simp only [Act.put, List.setIfInBounds_toArray, List.set_cons_zero, List.set_cons_succ]
      refine' Reg.G.pure (i := 9) (v := _) rfl (by rfl) (by kernel_rfl) (by kernel_rfl) (by kernel_rfl) (fun _ _ _ h => h) ?hyb9 ?rehyb9
      case hyb9 => exact fun w => by first | (go_simp; done) | (go_simp; with_reducible rfl)
      simp only [Act.put, List.setIfInBounds_toArray, List.set_cons_zero, List.set_cons_succ]
      refine Reg.G.step (j := 10) (m := []) [] rfl (by kernel_rfl) rfl (by kernel_rfl) (fun K hK => ?_)
      go_simp
      obtain ⟨we, hwe⟩ : ∃ w, wc.setCell ⟨B + 8, 6, none⟩ (.slice (some ⟨gn, 0, none⟩) (ds.length + 1) cn) = w := ⟨_, rfl⟩
      rw [hwe]
      have HFD8 : Hid (Fr (fun g => g = B + 8) wc we) := by rw [← hwe]; exact (Fr.refl (fun g => g = B + 8) wc).setb 6 _
      have HEE : Hid (ExL B l op sn ((cnt + 1 : Nat) : Int) (.slice (some ⟨gn, 0, none⟩) (ds.length + 1) cn) we) := by rw [← hwe]; exact HEC.out.items _
      have HGE : Hid (we.ownsRow (B + 9) 41 33 (.slice (some ⟨gn, 0, none⟩) (ds.length + 1) cn) (ds.length + 1) (ds.flatMap DT.cells ++ y'.cells)) := by rw [HYN.out]; exact own_fr HG1.out HFD8.out (fun k h1 _ e => by omega)
      have HFE : Hid (Fr (fun g => g = B + 8 ∨ iv.ownBlock = some g) w2 we) := HFC.out.trans (HFD8.out.mono (fun g _ e => .inl e))
      clear hwe kb fb
      refine hK.out _ _ trivial ?_
      clear hK K
      simp only [Act.put, List.setIfInBounds_toArray, List.set_cons_zero, List.set_cons_succ, Reg.Kept]
      refine Reg.G.done (by kernel_rfl) ?_
      go_wp2_with fail
      go_ret
      have HXG := XS.grow y' HX2.out HIV.out (HLY.out.mono (fun g _ hg => hg.1)) HGE.out HEE.out HG3.out HFE.out
      refine ⟨rfl, ⟨⟨_, _, HXG, ?_, fun g hg => ?_⟩, ?_⟩⟩
      · rw [List.map_append, List.map_cons, List.map_nil, HCE.out]
      · have : gn = g := by simpa [Value.ownBlock] using hg
        subst this
        exact HG3.out.imp id (fun h => by have := HG2.out; omega)
      · exact (HFV2.out.mono (T := SX B iv) (fun g _ e => .inl ⟨by omega, by omega⟩)).trans' HFE.out (fun g _ e => by
          rcases e with e | e
          · exact .inl ⟨by omega, by omega⟩
          · exact .inr e)
    · have z0 : wS.cell? ⟨wD.heap.size, 0, none⟩ = some (.bool false) := (cell_of_blk HBS.out 0).trans rfl
      have y0 : wS.frozen? ⟨wD.heap.size, 0, none⟩ = false := froz_of_blk HBS.out 0
      go_simp
      obtain ⟨wT3, hwT⟩ : ∃ w, wS.setCell ⟨wD.heap.size, 0, none⟩ (.bool false) = w := ⟨_, rfl⟩
      rw [hwT]
      have HBT3 : Hid (wT3.heap[wD.heap.size]? = some (.cells #[.bool false] 4 (0, 0))) := by rw [← hwT]; exact blk_set HBS.out 0 _
      have HFT3 : Hid (Fr (fun _ => False) w2 wT3) := by rw [← hwT]; exact HFS.out.setCell (p := ⟨wD.heap.size, 0, none⟩) (.inr (Nat.le_of_eq HSD0.out.symm)) _
      clear hwT z0 y0
      refine hK.out _ _ trivial ?_
      clear hK K
      simp only [Act.put, List.setIfInBounds_toArray, List.set_cons_zero, List.set_cons_succ, Reg.Kept]
      refine Reg.G.step (j := 1) (m := []) [] rfl (by kernel_rfl) rfl (by kernel_rfl) (fun K hK => ?_)
      have z0 : wT3.cell? ⟨wD.heap.size, 0, none⟩ = some (.bool false) := (cell_of_blk HBT3.out 0).trans rfl
      have y0 : wT3.frozen? ⟨wD.heap.size, 0, none⟩ = false := froz_of_blk HBT3.out 0
      go_simp
      obtain ⟨wT4, hwT⟩ : ∃ w, wT3.setCell ⟨wD.heap.size, 0, none⟩ (.bool true) = w := ⟨_, rfl⟩
      rw [hwT]
      have HBT4 : Hid (wT4.heap[wD.heap.size]? = some (.cells #[.bool true] 4 (0, 0))) := by rw [← hwT]; exact blk_set HBT3.out 0 _
      have HFT4 : Hid (Fr (fun _ => False) w2 wT4) := by rw [← hwT]; exact HFT3.out.setCell (p := ⟨wD.heap.size, 0, none⟩) (.inr (Nat.le_of_eq HSD0.out.symm)) _
      clear hwT z0 y0
      refine hK.out _ _ trivial ?_
      clear hK K
      simp only [Act.put, List.setIfInBounds_toArray, List.set_cons_zero, List.set_cons_succ, Reg.Kept]
      refine' Reg.G.take (i := 3) (v := _) (F := (fun w => w.cell? ⟨wD.heap.size, 0, none⟩ = some (.bool true))) rfl (by rfl) (by kernel_rfl) (by kernel_rfl) (by kernel_rfl) (fun _ _ _ h => h) ((cell_of_blk HBT4.out 0).trans rfl) ?hyf10 ?rehyf10
      case hyf10 => intro w hw; skip; first | (go_simp; done) | (go_simp; with_reducible rfl)
      simp only [Act.put, List.setIfInBounds_toArray, List.set_cons_zero, List.set_cons_succ]
      refine Reg.G.done (by kernel_rfl) ?_
      go_upto_region 6 with fail
      have kk6 := HSL.out wT4 HFT4.out
      iterate 16 go_step
      refine wpList_plain rfl fun _ hK => ?_
      refine wp_bsl1 24 _ rfl (v0 := .agg #[.int .i64 0, .string ⟨#[]⟩, .int .i64 0, .string ⟨#[]⟩, .string ⟨#[]⟩, .int .i64 0, .int .i64 0, .int .i64 0, .bool false, .string ⟨#[]⟩, .int .i64 0, .bool false, .string ⟨#[]⟩, .slice none 0 0, .string ⟨#[]⟩, .string ⟨#[]⟩, .int .i64 0, .int .i64 0, .string ⟨#[]⟩, .string ⟨#[]⟩, .bool false, .string ⟨#[]⟩, .string ⟨#[]⟩, .bool false, .bool false, .bool false, .bool false, .bool false, .bool false, .bool false, .slice none 0 0, .slice none 0 0, .slice none 0 0]) rfl (.slice (some ⟨wT4.heap.size, 0, none⟩) 1 1) (wT4.alloc (.cells #[.int .i64 0, .string ⟨#[]⟩, .int .i64 0, .string ⟨#[]⟩, .string ⟨#[]⟩, .int .i64 0, .int .i64 0, .int .i64 0, .bool false, .string ⟨#[]⟩, .int .i64 0, .bool false, .string ⟨#[]⟩, .slice none 0 0, .string ⟨#[]⟩, .string ⟨#[]⟩, .int .i64 0, .int .i64 0, .string ⟨#[]⟩, .string ⟨#[]⟩, .bool false, .string ⟨#[]⟩, .string ⟨#[]⟩, .bool false, .bool false, .bool false, .bool false, .bool false, .bool false, .bool false, .slice none 0 0, .slice none 0 0, .slice none 0 0] 41)) ?hb ?hq
      case hb => exact bsl_zero _
      refine hK _ _ ?_
      clear hK
      simp only [Act.put, List.setIfInBounds_toArray, List.set_cons_zero, List.set_cons_succ]
      obtain ⟨wa, hwa⟩ : ∃ v, (wT4).alloc (.cells #[.int .i64 0, .string ⟨#[]⟩, .int .i64 0, .string ⟨#[]⟩, .string ⟨#[]⟩, .int .i64 0, .int .i64 0, .int .i64 0, .bool false, .string ⟨#[]⟩, .int .i64 0, .bool false, .string ⟨#[]⟩, .slice none 0 0, .string ⟨#[]⟩, .string ⟨#[]⟩, .int .i64 0, .int .i64 0, .string ⟨#[]⟩, .string ⟨#[]⟩, .bool false, .string ⟨#[]⟩, .string ⟨#[]⟩, .bool false, .bool false, .bool false, .bool false, .bool false, .bool false, .bool false, .slice none 0 0, .slice none 0 0, .slice none 0 0] 41) = v := ⟨_, rfl⟩
      rw [hwa]
      have HFA : Hid (Fr (fun _ => False) w2 wa) := by rw [← hwa]; exact HFT4.out.alloc _
      have HOA : Hid (wa.ownsRow (B + 9) 41 33 (.slice A ds.length cp) ds.length (ds.flatMap DT.cells)) := own_fr HOWN2.out HFA.out (fun _ _ _ h => h)
      have HNA : Hid (∀ j y, ([.int .i64 0, .string ⟨#[]⟩, .int .i64 0, .string ⟨#[]⟩, .string ⟨#[]⟩, .int .i64 0, .int .i64 0, .int .i64 0, .bool false, .string ⟨#[]⟩, .int .i64 0, .bool false, .string ⟨#[]⟩, .slice none 0 0, .string ⟨#[]⟩, .string ⟨#[]⟩, .int .i64 0, .int .i64 0, .string ⟨#[]⟩, .string ⟨#[]⟩, .bool false, .string ⟨#[]⟩, .string ⟨#[]⟩, .bool false, .bool false, .bool false, .bool false, .bool false, .bool false, .bool false, .slice none 0 0, .slice none 0 0, .slice none 0 0] : List Value)[j]? = some y → wa.cell? ((⟨(wT4).heap.size, 0, none⟩ : Addr).add j) = some y) := by rw [← hwa]; exact World.news_of_block (cs := #[.int .i64 0, .string ⟨#[]⟩, .int .i64 0, .string ⟨#[]⟩, .string ⟨#[]⟩, .int .i64 0, .int .i64 0, .int .i64 0, .bool false, .string ⟨#[]⟩, .int .i64 0, .bool false, .string ⟨#[]⟩, .slice none 0 0, .string ⟨#[]⟩, .string ⟨#[]⟩, .int .i64 0, .int .i64 0, .string ⟨#[]⟩, .string ⟨#[]⟩, .bool false, .string ⟨#[]⟩, .string ⟨#[]⟩, .bool false, .bool false, .bool false, .bool false, .bool false, .bool false, .bool false, .slice none 0 0, .slice none 0 0, .slice none 0 0]) (t := 41) (fr := (0, 0)) (heap_alloc_new (wT4) _)
      have HSA : Hid (wa.heap.size = (wT4).heap.size + 1) := by show _ = _; rw [← hwa]; simp
      clear hwa
      clear kk6
      refine wpList_append_lies wa rfl (.tmp 16) (.tmp 18) 24 rfl (B + 9) 41 j0 _ 33 368 Try.underlying24 hj hj0 hj1 hj2 rfl (by decide) (.slice A ds.length cp) ds.length _ (by rfl) HOA.out ⟨(wT4).heap.size, 0, none⟩ 1 1 [.int .i64 0, .string ⟨#[]⟩, .int .i64 0, .string ⟨#[]⟩, .string ⟨#[]⟩, .int .i64 0, .int .i64 0, .int .i64 0, .bool false, .string ⟨#[]⟩, .int .i64 0, .bool false, .string ⟨#[]⟩, .slice none 0 0, .string ⟨#[]⟩, .string ⟨#[]⟩, .int .i64 0, .int .i64 0, .string ⟨#[]⟩, .string ⟨#[]⟩, .bool false, .string ⟨#[]⟩, .string ⟨#[]⟩, .bool false, .bool false, .bool false, .bool false, .bool false, .bool false, .bool false, .slice none 0 0, .slice none 0 0, .slice none 0 0] (by rfl) rfl HNA.out (by simp [Value.oneCell']) (by decide) (by have := HDL.out; simp only [maxLen]; omega) (by have := HDL.out; omega) (by have h1 := HGB.out; have h2 := HFA.out.size; have h3 := HG2.out; omega) ((wT4).heap.size + 1) HSA.out ?_
      intro gn cn wc g1 g2 g3 _
      simp only [Act.put, List.setIfInBounds_toArray, List.set_cons_zero, List.set_cons_succ]
      have HG3 : Hid (iv.ownBlock = some gn ∨ w2.heap.size ≤ gn) := by
        rw [HIV.out]
        exact g3.imp id (fun h => by have h1 := HSA.out; have h2 := HFA.out.size; omega)
      have HGN : Hid (B + 8 < gn) := by
        rcases HG3.out with h | h
        · have := (own_lt HOW.out gn h).1; show _ < _; omega
        · have h1 := HGB.out; have h2 := HG2.out; show _ < _; omega
      have HFC : Hid (Fr (fun g => g = B + 8 ∨ iv.ownBlock = some g) w2 wc) := (HFA.out.mono (T := fun g => g = B + 8 ∨ iv.ownBlock = some g) (fun _ _ h => h.elim)).trans ((Fr.of_grown g2).mono (fun g _ h => .inr (by rw [HIV.out]; exact h)))
      have HXC : Hid (wc.heap[B + 8]? = some (.cells (xcells B ((cnt + 1 : Nat) : Int) iv) 73 (0, 0))) := (Fr.of_grown g2).blk (HFA.out.blk HX2.out.ex.blk (fun h => h)) (fun e => by have := (own_lt HOA.out _ e).1; omega)
      have HEC : Hid (ExL B l op sn ((cnt + 1 : Nat) : Int) iv wc) := HX2.out.ex.fr ((HFA.out.mono (T := fun g => iv.ownBlock = some g) (fun _ _ h => h.elim)).trans ((Fr.of_grown g2).mono (fun g _ h => by rw [HIV.out]; exact h))) (fun g h1 h2 e => by
        have := (own_lt HOW.out g e).1; omega)
      have kb : wc.cell? ⟨B + 8, 6, none⟩ = some (.slice A ds.length cp) := by rw [← HIV.out]; exact (cell_of_blk HXC.out 6).trans rfl
      have fb : wc.frozen? ⟨B + 8, 6, none⟩ = false := froz_of_blk HXC.out 6
      have HG1 := Lib.hid g1
      go_upto_region 7 with fail
      clear kb fb
      obtain ⟨wd, hwd⟩ : ∃ w, wc.setCell ⟨B + 8, 6, none⟩ (.slice (some ⟨gn, 0, none⟩) (ds.length + 1) cn) = w := ⟨_, rfl⟩
      rw [hwd]
      have HFD8 : Hid (Fr (fun g => g = B + 8) wc wd) := by rw [← hwd]; exact (Fr.refl (fun g => g = B + 8) wc).setb 6 _
      have HED : Hid (ExL B l op sn ((cnt + 1 : Nat) : Int) (.slice (some ⟨gn, 0, none⟩) (ds.length + 1) cn) wd) := by rw [← hwd]; exact HEC.out.items _
      have HGD := Lib.hid (own_fr HG1.out HFD8.out (fun k h1 _ e => by omega))
      have HBD : Hid (wd.heap[W.heap.size]? = some (.cells (icells h' (.slice a1 h.conds.length c1) (.slice a2 h.dates.length c2) (.slice a3 h.names.length c3) (.slice a4 lst.length c4)).toArray 41 (0, 0))) := HFD8.out.blk (HFC.out.blk HBH.out (fun e => by
        rcases e with e | e
        · have := HGB.out; omega
        · have := HIW.out _ e; omega)) (fun e => by have := HGB.out; omega)
      have hth := own_there HGD.out
      clear hwd
      iterate 1 go_step
      refine wpList_load_row rfl 41 _ rfl W.heap.size rfl 41 (icells h' (.slice a1 h.conds.length c1) (.slice a2 h.dates.length c2) (.slice a3 h.names.length c3) (.slice a4 lst.length c4)).toArray (0, 0) _ HBD.out Try.underlying41 rfl (by rw [info_item]; rfl) ?_
      simp only [Act.put, List.setIfInBounds_toArray, List.set_cons_zero, List.set_cons_succ]
      iterate 3 go_step
      refine wpList_store_mid rfl 41 _ _ rfl gn (ds.length * 33) (icells h' (.slice a1 h.conds.length c1) (.slice a2 h.dates.length c2) (.slice a3 h.names.length c3) (.slice a4 lst.length c4)).toArray rfl rfl hth (by rw [info_item]; rfl) HONE.out ?_
      simp only [Act.put, List.setIfInBounds_toArray, List.set_cons_zero, List.set_cons_succ]
      obtain ⟨we, hwe⟩ : ∃ w, wd.setCells gn (ds.length * 33) (icells h' (.slice a1 h.conds.length c1) (.slice a2 h.dates.length c2) (.slice a3 h.names.length c3) (.slice a4 lst.length c4)).toArray.toList = w := ⟨_, rfl⟩
      rw [hwe]
      have HFE0 : Hid (Fr (fun g => g = gn) wd we) := by rw [← hwe]; exact fr_cells (S := fun g => g = gn) (.inl rfl) _ _ _ (Fr.refl _ _)
      have HGE : Hid (we.ownsRow (B + 9) 41 33 (.slice (some ⟨gn, 0, none⟩) (ds.length + 1) cn) (ds.length + 1) (ds.flatMap DT.cells ++ y'.cells)) := by rw [← hwe, HYN.out]; exact own_setmid HGD.out HFL.out rfl
      have HEE : Hid (ExL B l op sn ((cnt + 1 : Nat) : Int) (.slice (some ⟨gn, 0, none⟩) (ds.length + 1) cn) we) := HED.out.fr HFE0.out (fun g h1 h2 e => by have := HGN.out; omega)
      have HFE : Hid (Fr (fun g => g = B + 8 ∨ iv.ownBlock = some g) w2 we) := (HFC.out.trans (HFD8.out.mono (fun g _ e => .inl e))).trans' HFE0.out (fun g hg e => by
        rcases HG3.out with h | h
        · exact .inr (by rw [e]; exact h)
        · omega)
      clear hwe hth
      go_wp2_with fail
      go_ret
      have HXG := XS.grow y' HX2.out HIV.out (HLY.out.mono (fun g _ hg => hg.1)) HGE.out HEE.out HG3.out HFE.out
      refine ⟨rfl, ⟨⟨_, _, HXG, ?_, fun g hg => ?_⟩, ?_⟩⟩
      · rw [List.map_append, List.map_cons, List.map_nil, HCE.out]
      · have : gn = g := by simpa [Value.ownBlock] using hg
        subst this
        exact HG3.out.imp id (fun h => by have := HG2.out; omega)
      · exact (HFV2.out.mono (T := SX B iv) (fun g _ e => .inl ⟨by omega, by omega⟩)).trans' HFE.out (fun g _ e => by
          rcases e with e | e
          · exact .inl ⟨by omega, by omega⟩
          · exact .inr e)
end Go.Proofs.Yticakdajhmfpoaa.Ic
