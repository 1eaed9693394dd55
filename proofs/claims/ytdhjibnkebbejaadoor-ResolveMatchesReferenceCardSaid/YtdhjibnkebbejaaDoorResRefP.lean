/-
  What the reference's function put returns: a row of its own, or the one that it was given.
-/
import Derived.Test.YtdhjibnkebbejaaDoorResRefD
import Derived.Test.YtdhjibnkebbejaaDoorApp
namespace Go.Proofs.YtdhjibnkebbejaaDoor.Rs
open Go.RowKit Mem Vw
set_option linter.unusedVariables false
set_option linter.unusedSimpArgs false

theorem rpos_eq {l : List Int} {d : Int} {j : Nat} (h : ∀ i, i < j → ∃ x, l[i]? = some x ∧ x < d) (h2 : ∀ x, l[j]? = some x → ¬ x < d) (hj : j ≤ l.length) : rpos l d = j := by
  unfold rpos
  induction l generalizing j with
  | nil => have : j = 0 := by simpa using hj
           subst this; rfl
  | cons a l ih =>
    cases j with
    | zero =>
      have := h2 a rfl
      simp [List.takeWhile_cons, this]
    | succ j =>
      obtain ⟨x, hx, hlt⟩ := h 0 (by omega)
      simp only [List.getElem?_cons_zero, Option.some.injEq] at hx
      subst hx
      rw [List.takeWhile_cons, if_pos (by simpa using hlt), List.length_cons]
      rw [ih (j := j) (fun i hi => by simpa using h (i + 1) (by omega)) (fun x hx => h2 x (by simpa using hx)) (by simpa using hj)]
theorem info_intR : (Tryd.prog.info? 3).map (fun i => (i.zero, i.size, i.bytes)) = some (some (.int .i64 0), 1, 8) := by kernel_rfl
theorem flat_nv (l : List Int) : (l.flatMap fun x => [nv x]) = l.map nv := by
  induction l with
  | nil => rfl
  | cons a l ih => rw [List.flatMap_cons, ih]; rfl
def ints (l : List Int) : List (List Value) := l.map fun x => [nv x]
theorem row_ints {l : List Int} {W : World} {base : Nat} {v : Value} (h : W.ownsRow base 3 1 v l.length (l.map nv)) : Row W v 1 (ints l) := by
  rw [← flat_nv] at h
  exact Row.of_own h (fun _ _ => rfl)
/-- Numbers that lie in a block from an offset on: a slice of them. -/
theorem row_part {W : World} {g o n cap : Nat} {l : List Int} (hl : l.length = n) (hc : n ≤ cap) (hm : cap ≤ 9223372036854775807) (hg : g < W.heap.size) (h : ∀ j x, l[j]? = some x → W.cell? ⟨g, o + j, none⟩ = some (nv x)) : Row W (.slice (some ⟨g, o, none⟩) n cap) 1 (l.map fun x => [nv x]) := by
  subst hl
  refine ⟨some ⟨g, o, none⟩, cap, by rw [List.length_map], ⟨by rw [List.length_map]; exact hc, hm⟩, .inr ⟨g, o, rfl, hg, fun i x hx j v hv => ?_⟩⟩
  rw [List.getElem?_map] at hx
  obtain ⟨y, hy, rfl⟩ := Option.map_eq_some_iff.1 hx
  have hj : j = 0 := by
    have := (List.getElem?_eq_some_iff.1 hv).1
    simp at this; omega
  subst hj
  simp only [List.getElem?_cons_zero, Option.some.injEq] at hv
  subst hv
  rw [Nat.mul_one, Nat.add_zero]
  exact h i y hy
/-- What put leaves. -/
def PutOut (base : Nat) (v : Value) (l' : List Int) (W w' : World) (v' : Value) : Prop :=
  w'.ownsRow base 3 1 v' l'.length (l'.map nv) ∧ Fr (fun _ => False) W w' ∧ (v' = v ∨ ∀ g, v'.ownBlock = some g → W.heap.size ≤ g)
theorem own_zero (W : World) (base : Nat) (hb : base ≤ W.heap.size) : (W.alloc (.cells #[] 3)).ownsRow base 3 1 (.slice (some ⟨W.heap.size, 0, none⟩) 0 0) 0 [] :=
  ⟨rfl, .inr ⟨W.heap.size, 0, #[], rfl, hb, blk_newn rfl, Nat.le_refl _, Nat.zero_le _, rfl, rfl⟩⟩
set_option maxRecDepth 100000 in
set_option maxHeartbeats 4000000 in
theorem rput_any (l : List Int) (v : Value) (d : Int) (base : Nat) (W : World) (h : W.ownsRow base 3 1 v l.length (l.map nv)) (hl : l.length ≤ 1000) (hbase : base ≤ W.heap.size) :
    Calls Tryd.prog 53 #[v, .int .i64 d] W fun e w' => ∃ v', e = .returned v' ∧ PutOut base v (rput l d) W w' v' := by
  obtain ⟨i0, hi, hz0, hz1, hz2⟩ := info_parts info_intR
  have HOWN := Lib.hid h
  have HLEN := Lib.hid hl
  rcases h.2 with ⟨rfl, h0⟩ | ⟨g, cap, cur, rfl, hg, hb, hn1, hn2, hsz, ht⟩
  · have hl0 : l = [] := List.eq_nil_of_length_eq_zero h0
    subst hl0
    clear h h0 HOWN hl
    have HRH : Hid (Row W (.slice none 0 0) 1 ((([] : List Int).take 0).map fun x => [nv x])) := Row.nil W 1
    have HRT : Hid (Row W (.slice none 0 0) 1 ((([] : List Int).drop 0).map fun x => [nv x])) := Row.nil W 1
    go_enter Tryd.func53, Tryd.ntmps53
    go_wp2_with fail
    go_loopw [5] (fun vi wr => vi = .int .i64 0 ∧ wr = W) (fun _ _ => 0)
    case atStart => exact ⟨rfl, rfl⟩
    case round =>
      obtain ⟨rfl, rfl⟩ := hrel
      go_upto_region 6 with fail
      iterate 13 go_step
      obtain ⟨w1, hw1⟩ : ∃ w, wr.alloc (.cells #[] 3) = w := ⟨_, rfl⟩
      rw [hw1]
      have HO1 : Hid (w1.ownsRow wr.heap.size 3 1 (.slice (some ⟨wr.heap.size, 0, none⟩) 0 0) 0 []) := by rw [← hw1]; exact own_zero wr wr.heap.size (Nat.le_refl _)
      have HF1 : Hid (Fr (fun _ => False) wr w1) := by rw [← hw1]; exact (Fr.refl _ wr).alloc _
      clear hw1
      refine wpList_append_row rfl (.tmp 34) (.tmp 37) 30 rfl wr.heap.size 3 i0 _ 1 8 Tryd.underlying30 hi hz0 hz1 hz2 rfl (by decide) _ 0 [] (by rfl) HO1.out (.slice none 0 0) (by rfl) (fun x => [nv x]) (([] : List Int).take 0) (HRH.out.below (HF1.out.below (Nat.le_refl _) (fun _ h => h.elim))) (fun _ _ => rfl) (by simp [nv, Value.oneCell']) (by have := HLEN.out; rw [List.length_take]; simp only [maxLen]; omega) (by have := HLEN.out; rw [List.length_take]; omega) HF1.out.size ?_
      intro v1 w2 h2 h3 h4
      simp only [Act.put, List.setIfInBounds_toArray, List.set_cons_zero, List.set_cons_succ]
      have HO2 : Hid (w2.ownsRow wr.heap.size 3 1 v1 (([] : List Int).take 0).length ((([] : List Int).take 0).map nv)) := by
        have := h2; rw [flat_nv, Nat.zero_add, List.nil_append] at this; exact this
      have HF2 : Hid (Fr (fun _ => False) wr w2) := HF1.out.grown h3 (fun k hk => .inr (own_lt HO1.out k hk).1)
      clear h2 h3 h4
      go_upto_region 7 with fail
      iterate 10 go_step
      obtain ⟨w3, hw3⟩ : ∃ w, w2.alloc (.cells #[.int .i64 d] 3) = w := ⟨_, rfl⟩
      rw [hw3]
      have HO3 : Hid (w3.ownsRow wr.heap.size 3 1 v1 (([] : List Int).take 0).length ((([] : List Int).take 0).map nv)) := by rw [← hw3]; exact own_fr HO2.out ((Fr.refl (fun _ => False) w2).alloc _) (fun _ _ _ h => h)
      have HF3 : Hid (Fr (fun _ => False) wr w3) := by rw [← hw3]; exact HF2.out.alloc _
      have HR3 : Hid (Row w3 (.slice (some ⟨w2.heap.size, 0, none⟩) 1 1) 1 ([d].map fun x => [nv x])) := by
        rw [← hw3]
        exact row_part rfl (Nat.le_refl _) (by decide) (by simp) (fun j x hx => by
          rw [cell_of_blk (blk_newn rfl)]
          cases j with
          | zero =>
            have hx : d = x := by simpa using hx
            subst hx
            rfl
          | succ j => simp at hx)
      clear hw3
      refine wpList_append_row rfl (.tmp 39) (.tmp 41) 30 rfl wr.heap.size 3 i0 _ 1 8 Tryd.underlying30 hi hz0 hz1 hz2 rfl (by decide) v1 _ _ (by rfl) HO3.out (.slice (some ⟨w2.heap.size, 0, none⟩) 1 1) (by rfl) (fun x => [nv x]) [d] HR3.out (fun _ _ => rfl) (by simp [nv, Value.oneCell']) (by have := HLEN.out; rw [List.length_take]; simp only [maxLen, List.length_singleton]; omega) (by have := HLEN.out; rw [List.length_take]; simp only [List.length_singleton]; omega) HF3.out.size ?_
      intro v2 w4 h2 h3 h4
      simp only [Act.put, List.setIfInBounds_toArray, List.set_cons_zero, List.set_cons_succ]
      have HO4 : Hid (w4.ownsRow wr.heap.size 3 1 v2 (([] : List Int).take 0 ++ [d]).length ((([] : List Int).take 0 ++ [d]).map nv)) := by
        have := h2; rw [flat_nv, ← List.map_append, ← List.length_append] at this; exact this
      have HF4 : Hid (Fr (fun _ => False) wr w4) := HF3.out.grown h3 (fun k hk => .inr (own_lt HO3.out k hk).1)
      clear h2 h3 h4 HO1 HO2 HO3 HR3
      go_upto_region 8 with fail
      iterate 13 go_step
      refine wpList_append_row rfl (.tmp 43) (.tmp 46) 30 rfl wr.heap.size 3 i0 _ 1 8 Tryd.underlying30 hi hz0 hz1 hz2 rfl (by decide) v2 _ _ (by rfl) HO4.out (.slice none 0 0) (by rfl) (fun x => [nv x]) (([] : List Int).drop 0) (HRT.out.below (HF4.out.below (Nat.le_refl _) (fun _ h => h.elim))) (fun _ _ => rfl) (by simp [nv, Value.oneCell']) (by have := HLEN.out; simp only [List.length_append, List.length_take, List.length_drop, List.length_singleton, maxLen]; omega) (by have := HLEN.out; simp only [List.length_append, List.length_take, List.length_drop, List.length_singleton]; omega) HF4.out.size ?_
      intro v3 w5 h2 h3 h4
      simp only [Act.put, List.setIfInBounds_toArray, List.set_cons_zero, List.set_cons_succ]
      have HO5 : Hid (w5.ownsRow wr.heap.size 3 1 v3 (([] : List Int).take 0 ++ [d] ++ ([] : List Int).drop 0).length ((([] : List Int).take 0 ++ [d] ++ ([] : List Int).drop 0).map nv)) := by
        have := h2; rw [flat_nv, ← List.map_append, ← List.length_append] at this; exact this
      have HF5 : Hid (Fr (fun _ => False) wr w5) := HF4.out.grown h3 (fun k hk => .inr (own_lt HO4.out k hk).1)
      clear h2 h3 h4 HO4
      go_wp2_with fail
      go_ret
      exact ⟨v3, rfl, by exact own_base HO5.out hbase, HF5.out, .inr (fun g hg => (own_lt HO5.out g hg).1)⟩
  · have HB := Lib.hid hb
    have hcell : ∀ j x, l[j]? = some x → W.cell? ⟨g, j, none⟩ = some (.int .i64 x) := fun j x hx => by
      rw [cell_of_blk hb, ← Array.getElem?_toList]
      have h1 : (l.map nv)[j]? = some (nv x) := by rw [List.getElem?_map, hx]; rfl
      rw [← ht, List.getElem?_take] at h1
      split at h1
      · exact h1
      · cases h1
    have HC := Lib.hid hcell
    have HN := Lib.hid (And.intro hn1 hn2)
    have HGL : Hid (g < W.heap.size) := lt_of_blk hb
    clear hcell hb h ht hsz hn1 hn2 hl
    have hl64 : l.length ≤ 1000 := HLEN.out
    go_enter Tryd.func53, Tryd.ntmps53
    go_wp2_with fail
    go_loopw [5] (fun vi wr => ∃ j : Nat, vi = .int .i64 j ∧ j ≤ l.length ∧ wr = W ∧ ∀ i, i < j → ∃ x, l[i]? = some x ∧ x < d) (fun vi _ => l.length - (intOf vi).toNat)
    case atStart => exact ⟨0, rfl, Nat.zero_le _, rfl, fun i hi => absurd hi (Nat.not_lt_zero _)⟩
    case round =>
      obtain ⟨j, rfl, hj, rfl, hlow⟩ := hrel
      have HLOW := Lib.hid hlow
      clear hlow
      have j0 : (0 : Int) ≤ (j : Int) := Int.natCast_nonneg _
      by_cases hlt : j < l.length
      · have j1 : (j : Int) < (l.length : Int) := by omega
        obtain ⟨x, hx⟩ : ∃ x, l[j]? = some x := ⟨_, List.getElem?_eq_getElem hlt⟩
        have kc : wr.cell? ⟨g, j, none⟩ = some (.int .i64 x) := HC.out j x hx
        have HX := Lib.hid hx
        clear hx
        by_cases hxd : x < d
        · go_wp2_with fail
          go_roundw
          case rel =>
            refine ⟨j + 1, by go_num, hlt, trivial, fun i hi => ?_⟩
            by_cases hij : i = j
            · subst hij; exact ⟨x, HX.out, hxd⟩
            · exact HLOW.out i (by omega)
          case measure => simp [intOf]; omega
        · have HPO : Hid (rpos l d = j) := rpos_eq HLOW.out (fun y hy => by rw [HX.out] at hy; injection hy with hy; omega) hj
          by_cases hxe : x = d
          · subst hxe
            have e0 : rput l x = l := by unfold rput; rw [HPO.out, if_pos HX.out]
            have HE0 := Lib.hid e0
            clear e0
            go_wp2_with fail
            go_ret
            exact ⟨_, rfl, by rw [HE0.out]; exact HOWN.out, Fr.refl _ _, .inl rfl⟩
          · have hb2 : (x == d) = false := by simpa using hxe
            have EQ : rput l d = l.take j ++ [d] ++ l.drop j := by unfold rput; rw [HPO.out, if_neg (by rw [HX.out]; exact fun e => hxe (Option.some.inj e))]
            have HEQ := Lib.hid EQ
            clear EQ
            have HRH : Hid (Row wr (.slice (some ⟨g, 0, none⟩) j cap) 1 ((l.take j).map fun x => [nv x])) := row_part (by rw [List.length_take]; omega) (by have := HN.out.1; omega) (by have := HN.out.2; unfold maxLen at this; omega) HGL.out (fun i y hy => by
              rw [List.getElem?_take] at hy
              split at hy
              · rw [Nat.zero_add]; exact HC.out i y hy
              · cases hy)
            have HRT : Hid (Row wr (.slice (some ⟨g, j, none⟩) (l.length - j) (cap - j)) 1 ((l.drop j).map fun x => [nv x])) := row_part (by rw [List.length_drop]) (by have := HN.out.1; omega) (by have := HN.out.2; unfold maxLen at this; omega) HGL.out (fun i y hy => by
              rw [List.getElem?_drop] at hy
              exact HC.out _ y hy)
            have n1 : l.length ≤ cap := HN.out.1
            have n2 : cap ≤ maxLen := HN.out.2
            go_upto_region 6 with fail
            iterate 13 go_step
            obtain ⟨w1, hw1⟩ : ∃ w, wr.alloc (.cells #[] 3) = w := ⟨_, rfl⟩
            rw [hw1]
            have HO1 : Hid (w1.ownsRow wr.heap.size 3 1 (.slice (some ⟨wr.heap.size, 0, none⟩) 0 0) 0 []) := by rw [← hw1]; exact own_zero wr wr.heap.size (Nat.le_refl _)
            have HF1 : Hid (Fr (fun _ => False) wr w1) := by rw [← hw1]; exact (Fr.refl _ wr).alloc _
            clear hw1
            refine wpList_append_row rfl (.tmp 34) (.tmp 37) 30 rfl wr.heap.size 3 i0 _ 1 8 Tryd.underlying30 hi hz0 hz1 hz2 rfl (by decide) _ 0 [] (by rfl) HO1.out (.slice (some ⟨g, 0, none⟩) j cap) (by rfl) (fun x => [nv x]) (l.take j) (HRH.out.below (HF1.out.below (Nat.le_refl _) (fun _ h => h.elim))) (fun _ _ => rfl) (by simp [nv, Value.oneCell']) (by have := HLEN.out; rw [List.length_take]; simp only [maxLen]; omega) (by have := HLEN.out; rw [List.length_take]; omega) HF1.out.size ?_
            intro v1 w2 h2 h3 h4
            simp only [Act.put, List.setIfInBounds_toArray, List.set_cons_zero, List.set_cons_succ]
            have HO2 : Hid (w2.ownsRow wr.heap.size 3 1 v1 (l.take j).length ((l.take j).map nv)) := by
              have := h2; rw [flat_nv, Nat.zero_add, List.nil_append] at this; exact this
            have HF2 : Hid (Fr (fun _ => False) wr w2) := HF1.out.grown h3 (fun k hk => .inr (own_lt HO1.out k hk).1)
            clear h2 h3 h4
            go_upto_region 7 with fail
            iterate 10 go_step
            obtain ⟨w3, hw3⟩ : ∃ w, w2.alloc (.cells #[.int .i64 d] 3) = w := ⟨_, rfl⟩
            rw [hw3]
            have HO3 : Hid (w3.ownsRow wr.heap.size 3 1 v1 (l.take j).length ((l.take j).map nv)) := by rw [← hw3]; exact own_fr HO2.out ((Fr.refl (fun _ => False) w2).alloc _) (fun _ _ _ h => h)
            have HF3 : Hid (Fr (fun _ => False) wr w3) := by rw [← hw3]; exact HF2.out.alloc _
            have HR3 : Hid (Row w3 (.slice (some ⟨w2.heap.size, 0, none⟩) 1 1) 1 ([d].map fun x => [nv x])) := by
              rw [← hw3]
              exact row_part rfl (Nat.le_refl _) (by decide) (by simp) (fun j x hx => by
                rw [cell_of_blk (blk_newn rfl)]
                cases j with
                | zero =>
                  have hx : d = x := by simpa using hx
                  subst hx
                  rfl
                | succ j => simp at hx)
            clear hw3
            refine wpList_append_row rfl (.tmp 39) (.tmp 41) 30 rfl wr.heap.size 3 i0 _ 1 8 Tryd.underlying30 hi hz0 hz1 hz2 rfl (by decide) v1 _ _ (by rfl) HO3.out (.slice (some ⟨w2.heap.size, 0, none⟩) 1 1) (by rfl) (fun x => [nv x]) [d] HR3.out (fun _ _ => rfl) (by simp [nv, Value.oneCell']) (by have := HLEN.out; rw [List.length_take]; simp only [maxLen, List.length_singleton]; omega) (by have := HLEN.out; rw [List.length_take]; simp only [List.length_singleton]; omega) HF3.out.size ?_
            intro v2 w4 h2 h3 h4
            simp only [Act.put, List.setIfInBounds_toArray, List.set_cons_zero, List.set_cons_succ]
            have HO4 : Hid (w4.ownsRow wr.heap.size 3 1 v2 (l.take j ++ [d]).length ((l.take j ++ [d]).map nv)) := by
              have := h2; rw [flat_nv, ← List.map_append, ← List.length_append] at this; exact this
            have HF4 : Hid (Fr (fun _ => False) wr w4) := HF3.out.grown h3 (fun k hk => .inr (own_lt HO3.out k hk).1)
            clear h2 h3 h4 HO1 HO2 HO3 HR3
            go_upto_region 8 with fail
            iterate 13 go_step
            refine wpList_append_row rfl (.tmp 43) (.tmp 46) 30 rfl wr.heap.size 3 i0 _ 1 8 Tryd.underlying30 hi hz0 hz1 hz2 rfl (by decide) v2 _ _ (by rfl) HO4.out (.slice (some ⟨g, j, none⟩) (l.length - j) (cap - j)) (by rfl) (fun x => [nv x]) (l.drop j) (HRT.out.below (HF4.out.below (Nat.le_refl _) (fun _ h => h.elim))) (fun _ _ => rfl) (by simp [nv, Value.oneCell']) (by have := HLEN.out; simp only [List.length_append, List.length_take, List.length_drop, List.length_singleton, maxLen]; omega) (by have := HLEN.out; simp only [List.length_append, List.length_take, List.length_drop, List.length_singleton]; omega) HF4.out.size ?_
            intro v3 w5 h2 h3 h4
            simp only [Act.put, List.setIfInBounds_toArray, List.set_cons_zero, List.set_cons_succ]
            have HO5 : Hid (w5.ownsRow wr.heap.size 3 1 v3 (l.take j ++ [d] ++ l.drop j).length ((l.take j ++ [d] ++ l.drop j).map nv)) := by
              have := h2; rw [flat_nv, ← List.map_append, ← List.length_append] at this; exact this
            have HF5 : Hid (Fr (fun _ => False) wr w5) := HF4.out.grown h3 (fun k hk => .inr (own_lt HO4.out k hk).1)
            clear h2 h3 h4 HO4
            go_wp2_with fail
            go_ret
            exact ⟨v3, rfl, by rw [HEQ.out]; exact own_base HO5.out hbase, HF5.out, .inr (fun g hg => (own_lt HO5.out g hg).1)⟩
      · have j1 : ¬ ((j : Int) < (l.length : Int)) := by omega
        have HPO : Hid (rpos l d = j) := rpos_eq HLOW.out (fun y hy => by rw [List.getElem?_eq_none (by omega)] at hy; cases hy) hj
        have HEQ : Hid (rput l d = l.take j ++ [d] ++ l.drop j) := by show _ = _; unfold rput; rw [HPO.out, if_neg (by rw [List.getElem?_eq_none (by omega)]; exact fun e => by cases e)]
        have HRH : Hid (Row wr (.slice (some ⟨g, 0, none⟩) j cap) 1 ((l.take j).map fun x => [nv x])) := row_part (by rw [List.length_take]; omega) (by have := HN.out.1; omega) (by have := HN.out.2; unfold maxLen at this; omega) HGL.out (fun i y hy => by
          rw [List.getElem?_take] at hy
          split at hy
          · rw [Nat.zero_add]; exact HC.out i y hy
          · cases hy)
        have HRT : Hid (∀ A : Option Addr, Row wr (.slice A (l.length - j) (cap - j)) 1 ((l.drop j).map fun x => [nv x])) := fun A => ⟨A, cap - j, by rw [List.length_map, List.length_drop], ⟨by rw [List.length_map, List.length_drop]; have := HN.out.1; omega, by have := HN.out.2; unfold maxLen at this; omega⟩, .inl (by rw [List.drop_of_length_le (by omega)]; rfl)⟩
        have n1 : l.length ≤ cap := HN.out.1
        have n2 : cap ≤ maxLen := HN.out.2
        go_upto_region 6 with fail
        iterate 13 go_step
        obtain ⟨w1, hw1⟩ : ∃ w, wr.alloc (.cells #[] 3) = w := ⟨_, rfl⟩
        rw [hw1]
        have HO1 : Hid (w1.ownsRow wr.heap.size 3 1 (.slice (some ⟨wr.heap.size, 0, none⟩) 0 0) 0 []) := by rw [← hw1]; exact own_zero wr wr.heap.size (Nat.le_refl _)
        have HF1 : Hid (Fr (fun _ => False) wr w1) := by rw [← hw1]; exact (Fr.refl _ wr).alloc _
        clear hw1
        refine wpList_append_row rfl (.tmp 34) (.tmp 37) 30 rfl wr.heap.size 3 i0 _ 1 8 Tryd.underlying30 hi hz0 hz1 hz2 rfl (by decide) _ 0 [] (by rfl) HO1.out (.slice (some ⟨g, 0, none⟩) j cap) (by rfl) (fun x => [nv x]) (l.take j) (HRH.out.below (HF1.out.below (Nat.le_refl _) (fun _ h => h.elim))) (fun _ _ => rfl) (by simp [nv, Value.oneCell']) (by have := HLEN.out; rw [List.length_take]; simp only [maxLen]; omega) (by have := HLEN.out; rw [List.length_take]; omega) HF1.out.size ?_
        intro v1 w2 h2 h3 h4
        simp only [Act.put, List.setIfInBounds_toArray, List.set_cons_zero, List.set_cons_succ]
        have HO2 : Hid (w2.ownsRow wr.heap.size 3 1 v1 (l.take j).length ((l.take j).map nv)) := by
          have := h2; rw [flat_nv, Nat.zero_add, List.nil_append] at this; exact this
        have HF2 : Hid (Fr (fun _ => False) wr w2) := HF1.out.grown h3 (fun k hk => .inr (own_lt HO1.out k hk).1)
        clear h2 h3 h4
        go_upto_region 7 with fail
        iterate 10 go_step
        obtain ⟨w3, hw3⟩ : ∃ w, w2.alloc (.cells #[.int .i64 d] 3) = w := ⟨_, rfl⟩
        rw [hw3]
        have HO3 : Hid (w3.ownsRow wr.heap.size 3 1 v1 (l.take j).length ((l.take j).map nv)) := by rw [← hw3]; exact own_fr HO2.out ((Fr.refl (fun _ => False) w2).alloc _) (fun _ _ _ h => h)
        have HF3 : Hid (Fr (fun _ => False) wr w3) := by rw [← hw3]; exact HF2.out.alloc _
        have HR3 : Hid (Row w3 (.slice (some ⟨w2.heap.size, 0, none⟩) 1 1) 1 ([d].map fun x => [nv x])) := by
          rw [← hw3]
          exact row_part rfl (Nat.le_refl _) (by decide) (by simp) (fun j x hx => by
            rw [cell_of_blk (blk_newn rfl)]
            cases j with
            | zero =>
              have hx : d = x := by simpa using hx
              subst hx
              rfl
            | succ j => simp at hx)
        clear hw3
        refine wpList_append_row rfl (.tmp 39) (.tmp 41) 30 rfl wr.heap.size 3 i0 _ 1 8 Tryd.underlying30 hi hz0 hz1 hz2 rfl (by decide) v1 _ _ (by rfl) HO3.out (.slice (some ⟨w2.heap.size, 0, none⟩) 1 1) (by rfl) (fun x => [nv x]) [d] HR3.out (fun _ _ => rfl) (by simp [nv, Value.oneCell']) (by have := HLEN.out; rw [List.length_take]; simp only [maxLen, List.length_singleton]; omega) (by have := HLEN.out; rw [List.length_take]; simp only [List.length_singleton]; omega) HF3.out.size ?_
        intro v2 w4 h2 h3 h4
        simp only [Act.put, List.setIfInBounds_toArray, List.set_cons_zero, List.set_cons_succ]
        have HO4 : Hid (w4.ownsRow wr.heap.size 3 1 v2 (l.take j ++ [d]).length ((l.take j ++ [d]).map nv)) := by
          have := h2; rw [flat_nv, ← List.map_append, ← List.length_append] at this; exact this
        have HF4 : Hid (Fr (fun _ => False) wr w4) := HF3.out.grown h3 (fun k hk => .inr (own_lt HO3.out k hk).1)
        clear h2 h3 h4 HO1 HO2 HO3 HR3
        go_upto_region 8 with fail
        iterate 13 go_step
        obtain ⟨At, hAt⟩ : ∃ A : Option Addr, (if cap = j then (some ⟨g, 0, none⟩ : Option Addr) else some ⟨g, j, none⟩) = A := ⟨_, rfl⟩
        rw [hAt]
        clear hAt
        refine wpList_append_row rfl (.tmp 43) (.tmp 46) 30 rfl wr.heap.size 3 i0 _ 1 8 Tryd.underlying30 hi hz0 hz1 hz2 rfl (by decide) v2 _ _ (by rfl) HO4.out (.slice At (l.length - j) (cap - j)) (by rfl) (fun x => [nv x]) (l.drop j) ((HRT.out At).below (HF4.out.below (Nat.le_refl _) (fun _ h => h.elim))) (fun _ _ => rfl) (by simp [nv, Value.oneCell']) (by have := HLEN.out; simp only [List.length_append, List.length_take, List.length_drop, List.length_singleton, maxLen]; omega) (by have := HLEN.out; simp only [List.length_append, List.length_take, List.length_drop, List.length_singleton]; omega) HF4.out.size ?_
        intro v3 w5 h2 h3 h4
        simp only [Act.put, List.setIfInBounds_toArray, List.set_cons_zero, List.set_cons_succ]
        have HO5 : Hid (w5.ownsRow wr.heap.size 3 1 v3 (l.take j ++ [d] ++ l.drop j).length ((l.take j ++ [d] ++ l.drop j).map nv)) := by
          have := h2; rw [flat_nv, ← List.map_append, ← List.length_append] at this; exact this
        have HF5 : Hid (Fr (fun _ => False) wr w5) := HF4.out.grown h3 (fun k hk => .inr (own_lt HO4.out k hk).1)
        clear h2 h3 h4 HO4
        go_wp2_with fail
        go_ret
        exact ⟨v3, rfl, by rw [HEQ.out]; exact own_base HO5.out hbase, HF5.out, .inr (fun g hg => (own_lt HO5.out g hg).1)⟩
end Go.Proofs.YtdhjibnkebbejaaDoor.Rs
