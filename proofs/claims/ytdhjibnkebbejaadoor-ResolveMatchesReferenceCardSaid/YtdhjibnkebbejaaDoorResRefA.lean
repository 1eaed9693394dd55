/-
  What the reference's functions index, or, most return. Condition: the tables are read.
-/
import Derived.Test.YtdhjibnkebbejaaDoorResLow
import Derived.Test.YtdhjibnkebbejaaDoorResLawM
namespace Go.Proofs.YtdhjibnkebbejaaDoor.Rs
open Go.RowKit Mem Vw
set_option linter.unusedVariables false
set_option linter.unusedSimpArgs false

/-- Tables as they are read. -/
structure TV (W : World) (t : Tab) (vs : List Value) : Prop where
  len : vs.length = 6
  row : ∀ (g : Nat) (v : Value), vs[g]? = some v → Row W v 1 ((t g).map fun x => [sv x])
theorem TV.below {W W' : World} {t : Tab} {vs : List Value} (h : TV W t vs) (hb : Below W.heap.size W W') : TV W' t vs := ⟨h.len, fun g v hv => (h.row g v hv).below hb⟩
theorem TV.frb {W W' : World} {t : Tab} {vs : List Value} (h : TV W t vs) (hf : Fr (fun _ => False) W W') : TV W' t vs := h.below (hf.below (Nat.le_refl _) (fun _ h => h.elim))
theorem TV.six {W : World} {t : Tab} {vs : List Value} (h : TV W t vs) : ∃ v0 v1 v2 v3 v4 v5, vs = [v0, v1, v2, v3, v4, v5] := by
  match vs, h.len with
  | [a, b, c, d, e, f], _ => exact ⟨a, b, c, d, e, f, rfl⟩
theorem TV.at {W : World} {t : Tab} {vs : List Value} (h : TV W t vs) {g : Nat} (hg : g < 6) : ∃ A c, vs[g]? = some (.slice A (t g).length c) ∧ Row W (.slice A (t g).length c) 1 ((t g).map fun x => [sv x]) := by
  have hl := h.len
  obtain ⟨v, hv⟩ : ∃ v, vs[g]? = some v := ⟨_, List.getElem?_eq_getElem (by omega)⟩
  have hr := h.row g v hv
  obtain ⟨A, c, e, _⟩ := hr.slice
  rw [List.length_map] at e
  subst e
  exact ⟨A, c, hv, hr⟩
theorem TV.one {W : World} {t : Tab} {vs : List Value} (h : TV W t vs) : vs.toArray.all (·.oneCell') = true := by
  rw [List.all_toArray, List.all_eq_true]
  intro v hv
  obtain ⟨g, hg⟩ := List.mem_iff_getElem?.1 hv
  obtain ⟨A, n, c, rfl⟩ := (h.row g v hg).form
  rfl
theorem cell_fr {A B : World} (h : Fr (fun _ => False) A B) {g o : Nat} {v : Value} (hc : A.cell? ⟨g, o, none⟩ = some v) : B.cell? ⟨g, o, none⟩ = some v := ((h.below (Nat.le_refl _) (fun _ h => h.elim)).cell (p := ⟨g, o, none⟩) (lt_of_cell hc)).trans hc
theorem rix_hit {t : Tab} {g j : Nat} {x : Bytes} (h : ∀ i, i < j → (t g)[i]? ≠ some x) (hj : (t g)[j]? = some x) : rix t g x = (j : Int) := by
  have hl := (List.getElem?_eq_some_iff.1 hj).1
  have : find t g x = some j := by
    unfold find
    rw [List.findIdx?_eq_some_iff_getElem]
    refine ⟨hl, by simpa using (List.getElem?_eq_some_iff.1 hj).2, fun i hi => ?_⟩
    have := h i hi
    rw [List.getElem?_eq_getElem (by omega)] at this
    simpa using this
  unfold rix
  rw [this]
theorem rix_miss {t : Tab} {g : Nat} {x : Bytes} (h : ∀ i, i < (t g).length → (t g)[i]? ≠ some x) : rix t g x = -1 := by
  have : find t g x = none := by
    unfold find
    rw [List.findIdx?_eq_none_iff]
    intro y hy
    obtain ⟨i, hi⟩ := List.mem_iff_getElem?.1 hy
    have := h i (List.getElem?_eq_some_iff.1 hi).1
    rw [hi] at this
    simpa using this
  unfold rix
  rw [this]
set_option maxRecDepth 100000 in
set_option maxHeartbeats 2000000 in
theorem rindex_any (t : Tab) (vs : List Value) (g : Nat) (x : Bytes) (W : World) (hg : g < 6) (h : TV W t vs) : Calls Tryd.prog 34 #[.agg vs.toArray, .int .i64 (g : Int), .string ⟨x.toArray⟩] W fun e w' => e = .returned (.int .i64 (rix t g x)) ∧ Fr (fun _ => False) W w' := by
  obtain ⟨A, c, hv, hr⟩ := h.at hg
  obtain ⟨v0, v1, v2, v3, v4, v5, rfl⟩ := h.six
  have hle := hr.len
  rw [List.length_map] at hle
  obtain ⟨u, hu⟩ : ∃ u, W.alloc (.cells #[v0, v1, v2, v3, v4, v5] 100) = u := ⟨_, rfl⟩
  have hx : u.heap[W.heap.size]? = some (.cells #[v0, v1, v2, v3, v4, v5] 100 (0, 0)) := by rw [← hu]; exact blk_newn rfl
  have HFR : Hid (Fr (fun _ => False) W u) := by rw [← hu]; exact (Fr.refl _ W).alloc _
  have kt : u.cell? ⟨W.heap.size, g, none⟩ = some (.slice A (t g).length c) := by
    rw [cell_of_blk hx, ← hv]; simp
  have HR : Hid (Row u (.slice A (t g).length c) 1 ((t g).map fun x => [sv x])) := hr.below (HFR.out.below (Nat.le_refl _) (fun _ h => h.elim))
  have HU := Lib.hid hu
  clear hx hu hr hv h
  have g0 : (0 : Int) ≤ (g : Int) := Int.natCast_nonneg _
  have g6 : (g : Int) < 6 := by omega
  go_enter Tryd.func34, Tryd.ntmps34
  go_upto_region 1 with fail
  rw [HU.out]
  clear HU
  go_wp2_with fail
  go_loopw [7] (fun i wr => ∃ j : Nat, i = .int .i64 j ∧ j ≤ (t g).length ∧ wr = u ∧ ∀ i, i < j → (t g)[i]? ≠ some x) (fun i _ => (t g).length - (intOf i).toNat)
  case atStart => exact ⟨0, rfl, Nat.zero_le _, rfl, fun i hi => absurd hi (Nat.not_lt_zero _)⟩
  case round =>
    obtain ⟨j, rfl, hj, rfl, hno⟩ := hrel
    have HNO := Lib.hid hno
    clear hno
    have j0 : (0 : Int) ≤ (j : Int) := Int.natCast_nonneg _
    by_cases hlt : j < (t g).length
    · have j1 : (j : Int) < ((t g).length : Int) := by omega
      obtain ⟨g1, o1, c1, e1, _, _, _, hat⟩ := HR.out.at (by intro e; rw [List.map_eq_nil_iff] at e; rw [e] at hlt; simp at hlt)
      have hA : A = some ⟨g1, o1, none⟩ := by injection e1
      subst hA
      obtain ⟨y, hy⟩ : ∃ y, (t g)[j]? = some y := ⟨_, List.getElem?_eq_getElem hlt⟩
      have kc : wr.cell? ⟨g1, o1 + j, none⟩ = some (.string ⟨y.toArray⟩) := by
        have := hat j [sv y] (by rw [List.getElem?_map, hy]; rfl) 0 _ rfl
        rw [Nat.mul_one] at this
        exact this
      have HY := Lib.hid hy
      clear hat e1 hy
      by_cases hxy : y = x
      · subst hxy
        go_wp2_with fail
        go_ret
        exact ⟨ret_int (rix_hit HNO.out HY.out).symm, HFR.out⟩
      · have hb : (y == x) = false := by simpa using hxy
        go_wp2_with fail
        go_roundw
        case rel =>
          refine ⟨j + 1, by go_num, hlt, trivial, fun i hi => ?_⟩
          by_cases hij : i = j
          · subst hij
            rw [HY.out]
            exact fun e => hxy (Option.some.inj e)
          · exact HNO.out i (by omega)
        case measure => simp [intOf]; omega
    · have j1 : ¬ ((j : Int) < ((t g).length : Int)) := by omega
      go_wp2_with fail
      go_ret
      exact ⟨ret_int (rix_miss (fun i hi => HNO.out i (by omega))).symm, HFR.out⟩
theorem ror_any (t : Tab) (vs : List Value) (g : Nat) (x : Bytes) (W : World) (hg : g < 6) (h : TV W t vs) : Calls Tryd.prog 55 #[.agg vs.toArray, .int .i64 (g : Int), .string ⟨x.toArray⟩] W fun e w' => e = .returned (.int .i64 (rixo t g x)) ∧ Fr (fun _ => False) W w' := by
  have HIX : Hid (∀ W', Fr (fun _ => False) W W' → Calls Tryd.prog 34 #[.agg vs.toArray, .int .i64 (g : Int), .string ⟨x.toArray⟩] W' fun e w' => e = .returned (.int .i64 (rix t g x)) ∧ Fr (fun _ => False) W' w') := fun W' hf => rindex_any t vs g x W' hg (h.frb hf)
  have HL := Lib.hid h
  clear h
  by_cases hx : x = []
  · subst hx
    go_enter Tryd.func55, Tryd.ntmps55
    go_wp2_with fail
    go_ret
    exact ⟨rfl, (Fr.refl _ W).alloc _⟩
  · have hb : (x == []) = false := by simpa using hx
    have e0 : rixo t g x = rix t g x := if_neg hx
    rw [e0]
    clear e0
    obtain ⟨u, hu⟩ : ∃ u, W.alloc (.cells vs.toArray 100) = u := ⟨_, rfl⟩
    have HX : Hid (u.heap[W.heap.size]? = some (.cells vs.toArray 100 (0, 0))) := by rw [← hu]; exact blk_newn rfl
    have HFR : Hid (Fr (fun _ => False) W u) := by rw [← hu]; exact (Fr.refl _ W).alloc _
    have HU := Lib.hid hu
    clear hu
    go_enter Tryd.func55, Tryd.ntmps55
    go_upto_region 1 with fail
    rw [HU.out]
    clear HU
    go_upto_region 3 with fail
    iterate 1 go_step
    refine wpList_load_row rfl 100 _ rfl W.heap.size rfl 100 vs.toArray (0, 0) _ HX.out Tryd.underlying100 rfl (by rw [show vs.toArray.size = 6 from HL.out.len]; kernel_rfl) ?_
    simp only [Act.put, List.setIfInBounds_toArray, List.set_cons_zero, List.set_cons_succ]
    go_wp2_with fail
    refine (HIX.out u HFR.out).mono ?_
    rintro e w ⟨rfl, hf⟩
    go_wp2_with fail
    go_ret
    exact ⟨rfl, HFR.out.trans hf⟩
theorem rmost_any (g : Nat) (W : World) (hg : 0 < g) (hg2 : g < 6) : Calls Tryd.prog 51 #[.int .i64 (g : Int)] W fun e w' => e = .returned (.int .i64 ((most g : Nat) : Int)) ∧ Fr (fun _ => False) W w' := by
  have : g = 1 ∨ g = 2 ∨ g = 3 ∨ g = 4 ∨ g = 5 := by omega
  rcases this with rfl | rfl | rfl | rfl | rfl
  all_goals
    go_enter Tryd.func51, Tryd.ntmps51
    go_wp2_with fail
    go_ret
    exact ⟨rfl, (Fr.refl _ W).alloc _⟩
end Go.Proofs.YtdhjibnkebbejaaDoor.Rs
