/-
  What the reference's function needs returns: a row of its own.
-/
import Derived.Test.YtdhjibnkebbejaaDoorResRefB
import Derived.Test.YtdhjibnkebbejaaDoorOwn
import Derived.Deep.DeepCutAuto
namespace Go.Proofs.YtdhjibnkebbejaaDoor.Rs
open Go.RowKit Mem Vw
set_option linter.unusedVariables false
set_option linter.unusedSimpArgs false

def needv (p : Nat × Bytes) : List Value := [nv (p.1 : Int), sv p.2]
theorem info_need : (Tryd.prog.info? 141).map (fun i => (i.zero, i.size, i.bytes)) = some (some (.agg #[.int .i64 0, .string ⟨#[]⟩]), 2, 24) := by kernel_rfl
theorem bsl_need (i : Int) (n : Bytes) (w : World) : (Instr.buildSlice 138 1 #[(0, .agg #[.int .i64 i, .string ⟨n.toArray⟩])]).run Tryd.prog w = .ok (.slice (some ⟨w.heap.size, 0, none⟩) 1 1) (w.alloc (.cells #[.int .i64 i, .string ⟨n.toArray⟩] 141)) := by kernel_rfl
/-- The needs up to now. -/
structure NS (u : World) (n : Nat) (l : List (Nat × Bytes)) (v : Value) (w : World) : Prop where
  own : w.ownsRow u.heap.size 141 2 v l.length (l.flatMap needv)
  fr : Fr (fun _ => False) u w
  len : l.length ≤ n
theorem NS.next {u w wa wc : World} {n : Nat} {l : List (Nat × Bytes)} {v : Value} (h : NS u n l v w) (hfa : Fr (fun _ => False) w wa) {p : Nat × Bytes} {gn cn : Nat}
    (g1 : wc.ownsRow u.heap.size 141 2 (.slice (some ⟨gn, 0, none⟩) (l.length + 1) cn) (l.length + 1) (l.flatMap needv ++ needv p)) (g2 : wa.grownBy wc v.ownBlock) : NS u (n + 1) (l ++ [p]) (.slice (some ⟨gn, 0, none⟩) (l.length + 1) cn) wc := by
  have hown := own_fr h.own hfa (fun _ _ _ h => h)
  refine ⟨?_, (h.fr.trans hfa).grown g2 (fun j hj => .inr (own_lt hown j hj).1), by rw [List.length_append, List.length_singleton]; have := h.len; omega⟩
  rw [List.length_append, List.flatMap_append, List.length_singleton]
  simpa using g1
set_option maxRecDepth 100000 in
set_option maxHeartbeats 8000000 in
theorem rneeds_any (p : Item × Sl) (W : World) (hrow : Row W p.2.1 2 (p.1.conds.map namedc)) (hlen : p.1.conds.length ≤ 1000000) :
    Calls Tryd.prog 54 #[.agg (ic p).toArray] W fun e w' => ∃ v, e = .returned v ∧ w'.ownsRow W.heap.size 141 2 v (needs p.1).length ((needs p.1).flatMap needv) ∧ Fr (fun _ => False) W w' := by
  obtain ⟨x, sc, sd, sn, sx⟩ := p
  dsimp only at hrow hlen ⊢
  have HLE := Lib.hid hlen
  obtain ⟨Ac, cc, hcs, hcc1, hcc2⟩ := hrow.slice
  rw [List.length_map] at hcs hcc1
  subst hcs
  have HROW := Lib.hid hrow
  clear hrow hcc1 hcc2 hlen
  obtain ⟨u, hu⟩ : ∃ u, W.alloc (.cells (ic (x, .slice Ac x.conds.length cc, sd, sn, sx)).toArray 55) = u := ⟨_, rfl⟩
  have HY : Hid (u.heap[W.heap.size]? = some (.cells (ic (x, .slice Ac x.conds.length cc, sd, sn, sx)).toArray 55 (0, 0))) := by rw [← hu]; exact blk_newn rfl
  have HFR : Hid (Fr (fun _ => False) W u) := by rw [← hu]; exact (Fr.refl _ W).alloc _
  have HU := Lib.hid hu
  have HK0 : Hid (u.cell? ⟨W.heap.size, 0, none⟩ = some (.int .i64 x.kind)) := (cell_of_blk HY.out 0).trans rfl
  have HK3 : Hid (u.cell? ⟨W.heap.size, 3, none⟩ = some (.string ⟨x.of_.toArray⟩)) := (cell_of_blk HY.out 3).trans rfl
  have HK4 : Hid (u.cell? ⟨W.heap.size, 4, none⟩ = some (.string ⟨x.act.toArray⟩)) := (cell_of_blk HY.out 4).trans rfl
  have HK14 : Hid (u.cell? ⟨W.heap.size, 14, none⟩ = some (.string ⟨x.by_.toArray⟩)) := (cell_of_blk HY.out 14).trans rfl
  have HK15 : Hid (u.cell? ⟨W.heap.size, 15, none⟩ = some (.string ⟨x.til.toArray⟩)) := (cell_of_blk HY.out 15).trans rfl
  have HK18 : Hid (u.cell? ⟨W.heap.size, 18, none⟩ = some (.string ⟨x.unit.toArray⟩)) := (cell_of_blk HY.out 18).trans rfl
  have HK21 : Hid (u.cell? ⟨W.heap.size, 21, none⟩ = some (.string ⟨x.give.toArray⟩)) := (cell_of_blk HY.out 21).trans rfl
  have HK22 : Hid (u.cell? ⟨W.heap.size, 22, none⟩ = some (.string ⟨x.to_.toArray⟩)) := (cell_of_blk HY.out 22).trans rfl
  have HK5 : Hid (u.cell? ⟨W.heap.size, 5, none⟩ = some (.int .i64 x.word)) := (cell_of_blk HY.out 5).trans rfl
  have HK13 : Hid (u.cell? ⟨W.heap.size, 13, none⟩ = some (.slice Ac x.conds.length cc)) := (cell_of_blk HY.out 13).trans rfl
  have HG := Lib.hid (rgroup_any x.kind u)
  have HN0 : Hid (NS u 0 [] (.slice none 0 0) u) := ⟨World.ownsRow_nil _ _ _ _, Fr.refl _ _, Nat.le_refl _⟩
  obtain ⟨j0, hj, hj0, hj1, hj2⟩ := info_parts info_need
  clear hu
  have hgs : group x.kind = 0 ∨ group x.kind = 1 ∨ group x.kind = 2 ∨ group x.kind = 3 ∨ group x.kind = 4 ∨ group x.kind = 5 := by have := group_lt x.kind; omega
  rcases hgs with hg | hg | hg | hg | hg | hg
  · have HNE : Hid (needs x = []) := by show _ = _; unfold needs; simp [hg]
    go_enter Tryd.func54, Tryd.ntmps54
    go_upto_region 1 with fail
    rw [HU.out]
    clear HU
    have kc0 := HK0.out
    go_wp2_with fail
    refine HG.out.mono ?_
    rintro e w0 ⟨rfl, hw0⟩
    have hw0 := hw0.symm
    subst hw0
    clear HG kc0
    rw [hg]
    clear hg
    go_wp2_with fail
    go_ret
    exact ⟨(.slice none 0 0), rfl, by rw [HNE.out]; exact own_base HN0.out.own HFR.out.size, HFR.out.trans HN0.out.fr⟩
  · have HNE : Hid (needs x = []) := by show _ = _; unfold needs; simp [hg]
    go_enter Tryd.func54, Tryd.ntmps54
    go_upto_region 1 with fail
    rw [HU.out]
    clear HU
    have kc0 := HK0.out
    go_wp2_with fail
    refine HG.out.mono ?_
    rintro e w0 ⟨rfl, hw0⟩
    have hw0 := hw0.symm
    subst hw0
    clear HG kc0
    rw [hg]
    clear hg
    go_wp2_with fail
    go_ret
    exact ⟨(.slice none 0 0), rfl, by rw [HNE.out]; exact own_base HN0.out.own HFR.out.size, HFR.out.trans HN0.out.fr⟩
  · have HNE : Hid (needs x = [(1, x.of_)]) := by show _ = _; unfold needs; simp [hg]
    go_enter Tryd.func54, Tryd.ntmps54
    go_upto_region 1 with fail
    rw [HU.out]
    clear HU
    have kc0 := HK0.out
    go_wp2_with fail
    refine HG.out.mono ?_
    rintro e w0 ⟨rfl, hw0⟩
    have hw0 := hw0.symm
    subst hw0
    clear HG kc0
    rw [hg]
    clear hg
    go_upto_region 4 with fail
    have kc := HK3.out
    iterate 13 go_step
    refine wpList_plain rfl fun _ hK => wp_builtR 138 1 _ rfl #[(0, .agg #[.int .i64 1, .string ⟨x.of_.toArray⟩])] (by go_simp) _ _ (bsl_need _ _ _) (hK _ _ ?_)
    clear hK
    simp only [Act.put, List.setIfInBounds_toArray, List.set_cons_zero, List.set_cons_succ]
    obtain ⟨wa1, hwa⟩ : ∃ v, u.alloc (.cells #[.int .i64 1, .string ⟨x.of_.toArray⟩] 141) = v := ⟨_, rfl⟩
    rw [hwa]
    have HFA : Hid (Fr (fun _ => False) u wa1) := by rw [← hwa]; exact (Fr.refl _ u).alloc _
    have HOA : Hid (wa1.ownsRow u.heap.size 141 2 (.slice none 0 0) (([] : List (Nat × Bytes))).length ((([] : List (Nat × Bytes))).flatMap needv)) := own_fr HN0.out.own HFA.out (fun _ _ _ h => h)
    have HNA : Hid (∀ j y, ([.int .i64 1, .string ⟨x.of_.toArray⟩] : List Value)[j]? = some y → wa1.cell? ((⟨u.heap.size, 0, none⟩ : Addr).add j) = some y) := by rw [← hwa]; exact World.news_of_block (cs := #[.int .i64 1, .string ⟨x.of_.toArray⟩]) (t := 141) (fr := (0, 0)) (heap_alloc_new u _)
    have HSA : Hid (wa1.heap.size = u.heap.size + 1) := by show _ = _; rw [← hwa]; simp
    clear hwa
    refine wpList_append_lies wa1 rfl (.tmp 10) (.tmp 14) 138 rfl u.heap.size 141 j0 _ 2 24 Tryd.underlying138 hj hj0 hj1 hj2 rfl (by decide) (.slice none 0 0) (([] : List (Nat × Bytes))).length _ (by rfl) HOA.out ⟨u.heap.size, 0, none⟩ 1 1 [.int .i64 1, .string ⟨x.of_.toArray⟩] (by rfl) rfl HNA.out (by simp [Value.oneCell']) (by decide) (by have := HN0.out.len; have := HLE.out; simp only [maxLen]; omega) (by have := HN0.out.len; have := HLE.out; omega) (by have := HN0.out.fr.size; have := HSA.out; omega) (u.heap.size + 1) HSA.out ?_
    intro gn4 cn5 wc2 g1 g2 g3 _
    simp only [Act.put, List.setIfInBounds_toArray, List.set_cons_zero, List.set_cons_succ]
    have HN3 : Hid (NS u (0 + 1) (([] : List (Nat × Bytes)) ++ [(1, x.of_)]) (.slice (some ⟨gn4, 0, none⟩) ((([] : List (Nat × Bytes))).length + 1) cn5) wc2) := HN0.out.next HFA.out g1 g2
    clear g1 g2 g3 HFA HOA HNA HSA
    go_wp2_with fail
    go_ret
    exact ⟨(.slice (some ⟨gn4, 0, none⟩) ((([] : List (Nat × Bytes))).length + 1) cn5), rfl, by rw [HNE.out]; exact own_base HN3.out.own HFR.out.size, HFR.out.trans HN3.out.fr⟩
  · have HNE : Hid (needs x = [] ++ opt 3 x.unit) := by show _ = _; unfold needs; simp [hg]
    go_enter Tryd.func54, Tryd.ntmps54
    go_upto_region 1 with fail
    rw [HU.out]
    clear HU
    have kc0 := HK0.out
    go_wp2_with fail
    refine HG.out.mono ?_
    rintro e w0 ⟨rfl, hw0⟩
    have hw0 := hw0.symm
    subst hw0
    clear HG kc0
    rw [hg]
    clear hg
    have kc := cell_fr HN0.out.fr HK18.out
    by_cases hx : x.unit = []
    · rw [hx] at kc
      replace kc : u.cell? ⟨W.heap.size, 18, none⟩ = some (.string ⟨#[]⟩) := kc
      have HNZ : Hid (needs x = ([] : List (Nat × Bytes))) := by show _ = _; rw [HNE.out]; unfold opt; rw [if_pos hx, List.append_nil]
      clear hx
      go_wp2_with fail
      go_ret
      exact ⟨(.slice none 0 0), rfl, by rw [HNZ.out]; exact own_base HN0.out.own HFR.out.size, HFR.out.trans HN0.out.fr⟩
    · have kb : (x.unit != []) = true := by simpa using hx
      have kb2 : (x.unit == []) = false := by simpa using hx
      have kb3 : x.unit.isEmpty = false := by simpa using hx
      have HNZ : Hid (needs x = ([] : List (Nat × Bytes)) ++ [(3, x.unit)]) := by show _ = _; rw [HNE.out]; unfold opt; rw [if_neg hx]
      clear hx
      go_upto_region 7 with fail
      iterate 13 go_step
      refine wpList_plain rfl fun _ hK => wp_builtR 138 1 _ rfl #[(0, .agg #[.int .i64 3, .string ⟨x.unit.toArray⟩])] (by go_simp) _ _ (bsl_need _ _ _) (hK _ _ ?_)
      clear hK
      simp only [Act.put, List.setIfInBounds_toArray, List.set_cons_zero, List.set_cons_succ]
      obtain ⟨wa6, hwa⟩ : ∃ v, u.alloc (.cells #[.int .i64 3, .string ⟨x.unit.toArray⟩] 141) = v := ⟨_, rfl⟩
      rw [hwa]
      have HFA : Hid (Fr (fun _ => False) u wa6) := by rw [← hwa]; exact (Fr.refl _ u).alloc _
      have HOA : Hid (wa6.ownsRow u.heap.size 141 2 (.slice none 0 0) (([] : List (Nat × Bytes))).length ((([] : List (Nat × Bytes))).flatMap needv)) := own_fr HN0.out.own HFA.out (fun _ _ _ h => h)
      have HNA : Hid (∀ j y, ([.int .i64 3, .string ⟨x.unit.toArray⟩] : List Value)[j]? = some y → wa6.cell? ((⟨u.heap.size, 0, none⟩ : Addr).add j) = some y) := by rw [← hwa]; exact World.news_of_block (cs := #[.int .i64 3, .string ⟨x.unit.toArray⟩]) (t := 141) (fr := (0, 0)) (heap_alloc_new u _)
      have HSA : Hid (wa6.heap.size = u.heap.size + 1) := by show _ = _; rw [← hwa]; simp
      clear hwa
      refine wpList_append_lies wa6 rfl (.tmp 21) (.tmp 25) 138 rfl u.heap.size 141 j0 _ 2 24 Tryd.underlying138 hj hj0 hj1 hj2 rfl (by decide) (.slice none 0 0) (([] : List (Nat × Bytes))).length _ (by rfl) HOA.out ⟨u.heap.size, 0, none⟩ 1 1 [.int .i64 3, .string ⟨x.unit.toArray⟩] (by rfl) rfl HNA.out (by simp [Value.oneCell']) (by decide) (by have := HN0.out.len; have := HLE.out; simp only [maxLen]; omega) (by have := HN0.out.len; have := HLE.out; omega) (by have := HN0.out.fr.size; have := HSA.out; omega) (u.heap.size + 1) HSA.out ?_
      intro gn9 cn10 wc7 g1 g2 g3 _
      simp only [Act.put, List.setIfInBounds_toArray, List.set_cons_zero, List.set_cons_succ]
      have HN8 : Hid (NS u (0 + 1) (([] : List (Nat × Bytes)) ++ [(3, x.unit)]) (.slice (some ⟨gn9, 0, none⟩) ((([] : List (Nat × Bytes))).length + 1) cn10) wc7) := HN0.out.next HFA.out g1 g2
      clear g1 g2 g3 HFA HOA HNA HSA
      go_wp2_with fail
      go_ret
      exact ⟨(.slice (some ⟨gn9, 0, none⟩) ((([] : List (Nat × Bytes))).length + 1) cn10), rfl, by rw [HNZ.out]; exact own_base HN8.out.own HFR.out.size, HFR.out.trans HN8.out.fr⟩
  · have HNE : Hid (needs x = [] ++ opt 2 x.of_ ++ if gives x then [(2, x.give), (1, x.to_)] else opt 2 x.to_ ++ opt 3 x.unit) := by show _ = _; unfold needs; simp [hg]
    go_enter Tryd.func54, Tryd.ntmps54
    go_upto_region 1 with fail
    rw [HU.out]
    clear HU
    have kc0 := HK0.out
    go_wp2_with fail
    refine HG.out.mono ?_
    rintro e w0 ⟨rfl, hw0⟩
    have hw0 := hw0.symm
    subst hw0
    clear HG kc0
    rw [hg]
    clear hg
    have kc := cell_fr HN0.out.fr HK3.out
    go_upto_if 31 with fail
    go_cut [3] (fun s3 wx => ∃ v, v = s3 ∧ Hid (NS u (0 + 1) (([] : List (Nat × Bytes)) ++ opt 2 x.of_) v wx))
    case first =>
      by_cases hx : x.of_ = []
      · rw [hx] at kc
        replace kc : u.cell? ⟨W.heap.size, 3, none⟩ = some (.string ⟨#[]⟩) := kc
        have kb4 : (!List.isEmpty x.of_) = false := by simp [hx]
        have HZ : Hid (NS u (0 + 1) (([] : List (Nat × Bytes)) ++ opt 2 x.of_) (.slice none 0 0) u) := by unfold opt; rw [if_pos hx, List.append_nil]; exact ⟨HN0.out.own, HN0.out.fr, Nat.le_succ_of_le HN0.out.len⟩
        clear hx
        rw [kb4]
        go_wp2_with fail
        go_meet
        exact ⟨_, rfl, HZ⟩
      · have kb : (x.of_ != []) = true := by simpa using hx
        have kb2 : (x.of_ == []) = false := by simpa using hx
        have kb3 : x.of_.isEmpty = false := by simpa using hx
        have kb4 : (!List.isEmpty x.of_) = true := by simpa using hx
        have HE : Hid (opt 2 x.of_ = [(2, x.of_)]) := if_neg hx
        clear hx
        rw [kb4]
        go_upto_region 10 with fail
        iterate 13 go_step
        refine wpList_plain rfl fun _ hK => wp_builtR 138 1 _ rfl #[(0, .agg #[.int .i64 2, .string ⟨x.of_.toArray⟩])] (by go_simp) _ _ (bsl_need _ _ _) (hK _ _ ?_)
        clear hK
        simp only [Act.put, List.setIfInBounds_toArray, List.set_cons_zero, List.set_cons_succ]
        obtain ⟨wa11, hwa⟩ : ∃ v, u.alloc (.cells #[.int .i64 2, .string ⟨x.of_.toArray⟩] 141) = v := ⟨_, rfl⟩
        rw [hwa]
        have HFA : Hid (Fr (fun _ => False) u wa11) := by rw [← hwa]; exact (Fr.refl _ u).alloc _
        have HOA : Hid (wa11.ownsRow u.heap.size 141 2 (.slice none 0 0) (([] : List (Nat × Bytes))).length ((([] : List (Nat × Bytes))).flatMap needv)) := own_fr HN0.out.own HFA.out (fun _ _ _ h => h)
        have HNA : Hid (∀ j y, ([.int .i64 2, .string ⟨x.of_.toArray⟩] : List Value)[j]? = some y → wa11.cell? ((⟨u.heap.size, 0, none⟩ : Addr).add j) = some y) := by rw [← hwa]; exact World.news_of_block (cs := #[.int .i64 2, .string ⟨x.of_.toArray⟩]) (t := 141) (fr := (0, 0)) (heap_alloc_new u _)
        have HSA : Hid (wa11.heap.size = u.heap.size + 1) := by show _ = _; rw [← hwa]; simp
        clear hwa
        refine wpList_append_lies wa11 rfl (.tmp 32) (.tmp 36) 138 rfl u.heap.size 141 j0 _ 2 24 Tryd.underlying138 hj hj0 hj1 hj2 rfl (by decide) (.slice none 0 0) (([] : List (Nat × Bytes))).length _ (by rfl) HOA.out ⟨u.heap.size, 0, none⟩ 1 1 [.int .i64 2, .string ⟨x.of_.toArray⟩] (by rfl) rfl HNA.out (by simp [Value.oneCell']) (by decide) (by have := HN0.out.len; have := HLE.out; simp only [maxLen]; omega) (by have := HN0.out.len; have := HLE.out; omega) (by have := HN0.out.fr.size; have := HSA.out; omega) (u.heap.size + 1) HSA.out ?_
        intro gn14 cn15 wc12 g1 g2 g3 _
        simp only [Act.put, List.setIfInBounds_toArray, List.set_cons_zero, List.set_cons_succ]
        have HN13 : Hid (NS u (0 + 1) (([] : List (Nat × Bytes)) ++ [(2, x.of_)]) (.slice (some ⟨gn14, 0, none⟩) ((([] : List (Nat × Bytes))).length + 1) cn15) wc12) := HN0.out.next HFA.out g1 g2
        clear g1 g2 g3 HFA HOA HNA HSA
        go_wp2_with fail
        go_meet
        rw [HE.out]
        exact ⟨_, rfl, HN13⟩
    case rest =>
      obtain ⟨z16, rfl⟩ : ∃ v : World, v = wc := ⟨_, rfl⟩
      obtain ⟨s17, rfl, HM18⟩ := hcut
      clear kc
      have kc5 := cell_fr HM18.out.fr HK5.out
      by_cases h2 : x.word = 2
      · have HNG : Hid (needs x = ([] : List (Nat × Bytes)) ++ opt 2 x.of_ ++ [(2, x.give)] ++ [(1, x.to_)]) := by show _ = _; rw [HNE.out, if_pos (by unfold gives; simp [h2])]; simp
        replace kc5 : z16.cell? ⟨W.heap.size, 5, none⟩ = some (.int .i64 2) := by rw [← h2]; exact kc5
        clear h2 HNE
        go_upto_region 12 with fail
        have kc := cell_fr HM18.out.fr HK21.out
        iterate 13 go_step
        refine wpList_plain rfl fun _ hK => wp_builtR 138 1 _ rfl #[(0, .agg #[.int .i64 2, .string ⟨x.give.toArray⟩])] (by go_simp) _ _ (bsl_need _ _ _) (hK _ _ ?_)
        clear hK
        simp only [Act.put, List.setIfInBounds_toArray, List.set_cons_zero, List.set_cons_succ]
        obtain ⟨wa19, hwa⟩ : ∃ v, z16.alloc (.cells #[.int .i64 2, .string ⟨x.give.toArray⟩] 141) = v := ⟨_, rfl⟩
        rw [hwa]
        have HFA : Hid (Fr (fun _ => False) z16 wa19) := by rw [← hwa]; exact (Fr.refl _ z16).alloc _
        have HOA : Hid (wa19.ownsRow u.heap.size 141 2 s17 (([] : List (Nat × Bytes)) ++ opt 2 x.of_).length ((([] : List (Nat × Bytes)) ++ opt 2 x.of_).flatMap needv)) := own_fr HM18.out.own HFA.out (fun _ _ _ h => h)
        have HNA : Hid (∀ j y, ([.int .i64 2, .string ⟨x.give.toArray⟩] : List Value)[j]? = some y → wa19.cell? ((⟨z16.heap.size, 0, none⟩ : Addr).add j) = some y) := by rw [← hwa]; exact World.news_of_block (cs := #[.int .i64 2, .string ⟨x.give.toArray⟩]) (t := 141) (fr := (0, 0)) (heap_alloc_new z16 _)
        have HSA : Hid (wa19.heap.size = z16.heap.size + 1) := by show _ = _; rw [← hwa]; simp
        clear hwa
        refine wpList_append_lies wa19 rfl (.tmp 46) (.tmp 50) 138 rfl u.heap.size 141 j0 _ 2 24 Tryd.underlying138 hj hj0 hj1 hj2 rfl (by decide) s17 (([] : List (Nat × Bytes)) ++ opt 2 x.of_).length _ (by rfl) HOA.out ⟨z16.heap.size, 0, none⟩ 1 1 [.int .i64 2, .string ⟨x.give.toArray⟩] (by rfl) rfl HNA.out (by simp [Value.oneCell']) (by decide) (by have := HM18.out.len; have := HLE.out; simp only [maxLen]; omega) (by have := HM18.out.len; have := HLE.out; omega) (by have := HM18.out.fr.size; have := HSA.out; omega) (z16.heap.size + 1) HSA.out ?_
        intro gn22 cn23 wc20 g1 g2 g3 _
        simp only [Act.put, List.setIfInBounds_toArray, List.set_cons_zero, List.set_cons_succ]
        have HN21 : Hid (NS u ((0 + 1) + 1) (([] : List (Nat × Bytes)) ++ opt 2 x.of_ ++ [(2, x.give)]) (.slice (some ⟨gn22, 0, none⟩) ((([] : List (Nat × Bytes)) ++ opt 2 x.of_).length + 1) cn23) wc20) := HM18.out.next HFA.out g1 g2
        clear g1 g2 g3 HFA HOA HNA HSA
        go_upto_region 13 with fail
        have kc := cell_fr HN21.out.fr HK22.out
        iterate 13 go_step
        refine wpList_plain rfl fun _ hK => wp_builtR 138 1 _ rfl #[(0, .agg #[.int .i64 1, .string ⟨x.to_.toArray⟩])] (by go_simp) _ _ (bsl_need _ _ _) (hK _ _ ?_)
        clear hK
        simp only [Act.put, List.setIfInBounds_toArray, List.set_cons_zero, List.set_cons_succ]
        obtain ⟨wa24, hwa⟩ : ∃ v, wc20.alloc (.cells #[.int .i64 1, .string ⟨x.to_.toArray⟩] 141) = v := ⟨_, rfl⟩
        rw [hwa]
        have HFA : Hid (Fr (fun _ => False) wc20 wa24) := by rw [← hwa]; exact (Fr.refl _ wc20).alloc _
        have HOA : Hid (wa24.ownsRow u.heap.size 141 2 (.slice (some ⟨gn22, 0, none⟩) ((([] : List (Nat × Bytes)) ++ opt 2 x.of_).length + 1) cn23) (([] : List (Nat × Bytes)) ++ opt 2 x.of_ ++ [(2, x.give)]).length ((([] : List (Nat × Bytes)) ++ opt 2 x.of_ ++ [(2, x.give)]).flatMap needv)) := own_fr HN21.out.own HFA.out (fun _ _ _ h => h)
        have HNA : Hid (∀ j y, ([.int .i64 1, .string ⟨x.to_.toArray⟩] : List Value)[j]? = some y → wa24.cell? ((⟨wc20.heap.size, 0, none⟩ : Addr).add j) = some y) := by rw [← hwa]; exact World.news_of_block (cs := #[.int .i64 1, .string ⟨x.to_.toArray⟩]) (t := 141) (fr := (0, 0)) (heap_alloc_new wc20 _)
        have HSA : Hid (wa24.heap.size = wc20.heap.size + 1) := by show _ = _; rw [← hwa]; simp
        clear hwa
        refine wpList_append_lies wa24 rfl (.tmp 52) (.tmp 56) 138 rfl u.heap.size 141 j0 _ 2 24 Tryd.underlying138 hj hj0 hj1 hj2 rfl (by decide) (.slice (some ⟨gn22, 0, none⟩) ((([] : List (Nat × Bytes)) ++ opt 2 x.of_).length + 1) cn23) (([] : List (Nat × Bytes)) ++ opt 2 x.of_ ++ [(2, x.give)]).length _ (by rfl) HOA.out ⟨wc20.heap.size, 0, none⟩ 1 1 [.int .i64 1, .string ⟨x.to_.toArray⟩] (by rfl) rfl HNA.out (by simp [Value.oneCell']) (by decide) (by have := HN21.out.len; have := HLE.out; simp only [maxLen]; omega) (by have := HN21.out.len; have := HLE.out; omega) (by have := HN21.out.fr.size; have := HSA.out; omega) (wc20.heap.size + 1) HSA.out ?_
        intro gn27 cn28 wc25 g1 g2 g3 _
        simp only [Act.put, List.setIfInBounds_toArray, List.set_cons_zero, List.set_cons_succ]
        have HN26 : Hid (NS u (((0 + 1) + 1) + 1) (([] : List (Nat × Bytes)) ++ opt 2 x.of_ ++ [(2, x.give)] ++ [(1, x.to_)]) (.slice (some ⟨gn27, 0, none⟩) ((([] : List (Nat × Bytes)) ++ opt 2 x.of_ ++ [(2, x.give)]).length + 1) cn28) wc25) := HN21.out.next HFA.out g1 g2
        clear g1 g2 g3 HFA HOA HNA HSA
        go_wp2_with fail
        go_ret
        exact ⟨(.slice (some ⟨gn27, 0, none⟩) ((([] : List (Nat × Bytes)) ++ opt 2 x.of_ ++ [(2, x.give)]).length + 1) cn28), rfl, by rw [HNG.out]; exact own_base HN26.out.own HFR.out.size, HFR.out.trans HN26.out.fr⟩
      by_cases h3 : x.word = 3
      · have HNG : Hid (needs x = ([] : List (Nat × Bytes)) ++ opt 2 x.of_ ++ [(2, x.give)] ++ [(1, x.to_)]) := by show _ = _; rw [HNE.out, if_pos (by unfold gives; simp [h3])]; simp
        replace kc5 : z16.cell? ⟨W.heap.size, 5, none⟩ = some (.int .i64 3) := by rw [← h3]; exact kc5
        clear h2 h3 HNE
        go_upto_region 12 with fail
        have kc := cell_fr HM18.out.fr HK21.out
        iterate 13 go_step
        refine wpList_plain rfl fun _ hK => wp_builtR 138 1 _ rfl #[(0, .agg #[.int .i64 2, .string ⟨x.give.toArray⟩])] (by go_simp) _ _ (bsl_need _ _ _) (hK _ _ ?_)
        clear hK
        simp only [Act.put, List.setIfInBounds_toArray, List.set_cons_zero, List.set_cons_succ]
        obtain ⟨wa29, hwa⟩ : ∃ v, z16.alloc (.cells #[.int .i64 2, .string ⟨x.give.toArray⟩] 141) = v := ⟨_, rfl⟩
        rw [hwa]
        have HFA : Hid (Fr (fun _ => False) z16 wa29) := by rw [← hwa]; exact (Fr.refl _ z16).alloc _
        have HOA : Hid (wa29.ownsRow u.heap.size 141 2 s17 (([] : List (Nat × Bytes)) ++ opt 2 x.of_).length ((([] : List (Nat × Bytes)) ++ opt 2 x.of_).flatMap needv)) := own_fr HM18.out.own HFA.out (fun _ _ _ h => h)
        have HNA : Hid (∀ j y, ([.int .i64 2, .string ⟨x.give.toArray⟩] : List Value)[j]? = some y → wa29.cell? ((⟨z16.heap.size, 0, none⟩ : Addr).add j) = some y) := by rw [← hwa]; exact World.news_of_block (cs := #[.int .i64 2, .string ⟨x.give.toArray⟩]) (t := 141) (fr := (0, 0)) (heap_alloc_new z16 _)
        have HSA : Hid (wa29.heap.size = z16.heap.size + 1) := by show _ = _; rw [← hwa]; simp
        clear hwa
        refine wpList_append_lies wa29 rfl (.tmp 46) (.tmp 50) 138 rfl u.heap.size 141 j0 _ 2 24 Tryd.underlying138 hj hj0 hj1 hj2 rfl (by decide) s17 (([] : List (Nat × Bytes)) ++ opt 2 x.of_).length _ (by rfl) HOA.out ⟨z16.heap.size, 0, none⟩ 1 1 [.int .i64 2, .string ⟨x.give.toArray⟩] (by rfl) rfl HNA.out (by simp [Value.oneCell']) (by decide) (by have := HM18.out.len; have := HLE.out; simp only [maxLen]; omega) (by have := HM18.out.len; have := HLE.out; omega) (by have := HM18.out.fr.size; have := HSA.out; omega) (z16.heap.size + 1) HSA.out ?_
        intro gn32 cn33 wc30 g1 g2 g3 _
        simp only [Act.put, List.setIfInBounds_toArray, List.set_cons_zero, List.set_cons_succ]
        have HN31 : Hid (NS u ((0 + 1) + 1) (([] : List (Nat × Bytes)) ++ opt 2 x.of_ ++ [(2, x.give)]) (.slice (some ⟨gn32, 0, none⟩) ((([] : List (Nat × Bytes)) ++ opt 2 x.of_).length + 1) cn33) wc30) := HM18.out.next HFA.out g1 g2
        clear g1 g2 g3 HFA HOA HNA HSA
        go_upto_region 13 with fail
        have kc := cell_fr HN31.out.fr HK22.out
        iterate 13 go_step
        refine wpList_plain rfl fun _ hK => wp_builtR 138 1 _ rfl #[(0, .agg #[.int .i64 1, .string ⟨x.to_.toArray⟩])] (by go_simp) _ _ (bsl_need _ _ _) (hK _ _ ?_)
        clear hK
        simp only [Act.put, List.setIfInBounds_toArray, List.set_cons_zero, List.set_cons_succ]
        obtain ⟨wa34, hwa⟩ : ∃ v, wc30.alloc (.cells #[.int .i64 1, .string ⟨x.to_.toArray⟩] 141) = v := ⟨_, rfl⟩
        rw [hwa]
        have HFA : Hid (Fr (fun _ => False) wc30 wa34) := by rw [← hwa]; exact (Fr.refl _ wc30).alloc _
        have HOA : Hid (wa34.ownsRow u.heap.size 141 2 (.slice (some ⟨gn32, 0, none⟩) ((([] : List (Nat × Bytes)) ++ opt 2 x.of_).length + 1) cn33) (([] : List (Nat × Bytes)) ++ opt 2 x.of_ ++ [(2, x.give)]).length ((([] : List (Nat × Bytes)) ++ opt 2 x.of_ ++ [(2, x.give)]).flatMap needv)) := own_fr HN31.out.own HFA.out (fun _ _ _ h => h)
        have HNA : Hid (∀ j y, ([.int .i64 1, .string ⟨x.to_.toArray⟩] : List Value)[j]? = some y → wa34.cell? ((⟨wc30.heap.size, 0, none⟩ : Addr).add j) = some y) := by rw [← hwa]; exact World.news_of_block (cs := #[.int .i64 1, .string ⟨x.to_.toArray⟩]) (t := 141) (fr := (0, 0)) (heap_alloc_new wc30 _)
        have HSA : Hid (wa34.heap.size = wc30.heap.size + 1) := by show _ = _; rw [← hwa]; simp
        clear hwa
        refine wpList_append_lies wa34 rfl (.tmp 52) (.tmp 56) 138 rfl u.heap.size 141 j0 _ 2 24 Tryd.underlying138 hj hj0 hj1 hj2 rfl (by decide) (.slice (some ⟨gn32, 0, none⟩) ((([] : List (Nat × Bytes)) ++ opt 2 x.of_).length + 1) cn33) (([] : List (Nat × Bytes)) ++ opt 2 x.of_ ++ [(2, x.give)]).length _ (by rfl) HOA.out ⟨wc30.heap.size, 0, none⟩ 1 1 [.int .i64 1, .string ⟨x.to_.toArray⟩] (by rfl) rfl HNA.out (by simp [Value.oneCell']) (by decide) (by have := HN31.out.len; have := HLE.out; simp only [maxLen]; omega) (by have := HN31.out.len; have := HLE.out; omega) (by have := HN31.out.fr.size; have := HSA.out; omega) (wc30.heap.size + 1) HSA.out ?_
        intro gn37 cn38 wc35 g1 g2 g3 _
        simp only [Act.put, List.setIfInBounds_toArray, List.set_cons_zero, List.set_cons_succ]
        have HN36 : Hid (NS u (((0 + 1) + 1) + 1) (([] : List (Nat × Bytes)) ++ opt 2 x.of_ ++ [(2, x.give)] ++ [(1, x.to_)]) (.slice (some ⟨gn37, 0, none⟩) ((([] : List (Nat × Bytes)) ++ opt 2 x.of_ ++ [(2, x.give)]).length + 1) cn38) wc35) := HN31.out.next HFA.out g1 g2
        clear g1 g2 g3 HFA HOA HNA HSA
        go_wp2_with fail
        go_ret
        exact ⟨(.slice (some ⟨gn37, 0, none⟩) ((([] : List (Nat × Bytes)) ++ opt 2 x.of_ ++ [(2, x.give)]).length + 1) cn38), rfl, by rw [HNG.out]; exact own_base HN36.out.own HFR.out.size, HFR.out.trans HN36.out.fr⟩
      have HNG : Hid (needs x = ([] : List (Nat × Bytes)) ++ opt 2 x.of_ ++ opt 2 x.to_ ++ opt 3 x.unit) := by show _ = _; rw [HNE.out, if_neg (by unfold gives; simp [h2, h3]), List.append_assoc]; simp
      have hw2 : (x.word == 2) = false := by simpa using h2
      have hw3 : (x.word == 3) = false := by simpa using h3
      clear h2 h3 HNE
      have kc := cell_fr HM18.out.fr HK22.out
      go_upto_if 60 with fail
      go_cut [3] (fun s3 wx => ∃ v, v = s3 ∧ Hid (NS u ((0 + 1) + 1) (([] : List (Nat × Bytes)) ++ opt 2 x.of_ ++ opt 2 x.to_) v wx))
      case first =>
        by_cases hx : x.to_ = []
        · rw [hx] at kc
          replace kc : z16.cell? ⟨W.heap.size, 22, none⟩ = some (.string ⟨#[]⟩) := kc
          have kb4 : (!List.isEmpty x.to_) = false := by simp [hx]
          have HZ : Hid (NS u ((0 + 1) + 1) (([] : List (Nat × Bytes)) ++ opt 2 x.of_ ++ opt 2 x.to_) s17 z16) := by unfold opt; rw [if_pos hx, List.append_nil]; exact ⟨HM18.out.own, HM18.out.fr, Nat.le_succ_of_le HM18.out.len⟩
          clear hx
          rw [kb4]
          go_wp2_with fail
          go_meet
          exact ⟨_, rfl, HZ⟩
        · have kb : (x.to_ != []) = true := by simpa using hx
          have kb2 : (x.to_ == []) = false := by simpa using hx
          have kb3 : x.to_.isEmpty = false := by simpa using hx
          have kb4 : (!List.isEmpty x.to_) = true := by simpa using hx
          have HE : Hid (opt 2 x.to_ = [(2, x.to_)]) := if_neg hx
          clear hx
          rw [kb4]
          go_upto_region 15 with fail
          iterate 13 go_step
          refine wpList_plain rfl fun _ hK => wp_builtR 138 1 _ rfl #[(0, .agg #[.int .i64 2, .string ⟨x.to_.toArray⟩])] (by go_simp) _ _ (bsl_need _ _ _) (hK _ _ ?_)
          clear hK
          simp only [Act.put, List.setIfInBounds_toArray, List.set_cons_zero, List.set_cons_succ]
          obtain ⟨wa39, hwa⟩ : ∃ v, z16.alloc (.cells #[.int .i64 2, .string ⟨x.to_.toArray⟩] 141) = v := ⟨_, rfl⟩
          rw [hwa]
          have HFA : Hid (Fr (fun _ => False) z16 wa39) := by rw [← hwa]; exact (Fr.refl _ z16).alloc _
          have HOA : Hid (wa39.ownsRow u.heap.size 141 2 s17 (([] : List (Nat × Bytes)) ++ opt 2 x.of_).length ((([] : List (Nat × Bytes)) ++ opt 2 x.of_).flatMap needv)) := own_fr HM18.out.own HFA.out (fun _ _ _ h => h)
          have HNA : Hid (∀ j y, ([.int .i64 2, .string ⟨x.to_.toArray⟩] : List Value)[j]? = some y → wa39.cell? ((⟨z16.heap.size, 0, none⟩ : Addr).add j) = some y) := by rw [← hwa]; exact World.news_of_block (cs := #[.int .i64 2, .string ⟨x.to_.toArray⟩]) (t := 141) (fr := (0, 0)) (heap_alloc_new z16 _)
          have HSA : Hid (wa39.heap.size = z16.heap.size + 1) := by show _ = _; rw [← hwa]; simp
          clear hwa
          refine wpList_append_lies wa39 rfl (.tmp 61) (.tmp 65) 138 rfl u.heap.size 141 j0 _ 2 24 Tryd.underlying138 hj hj0 hj1 hj2 rfl (by decide) s17 (([] : List (Nat × Bytes)) ++ opt 2 x.of_).length _ (by rfl) HOA.out ⟨z16.heap.size, 0, none⟩ 1 1 [.int .i64 2, .string ⟨x.to_.toArray⟩] (by rfl) rfl HNA.out (by simp [Value.oneCell']) (by decide) (by have := HM18.out.len; have := HLE.out; simp only [maxLen]; omega) (by have := HM18.out.len; have := HLE.out; omega) (by have := HM18.out.fr.size; have := HSA.out; omega) (z16.heap.size + 1) HSA.out ?_
          intro gn42 cn43 wc40 g1 g2 g3 _
          simp only [Act.put, List.setIfInBounds_toArray, List.set_cons_zero, List.set_cons_succ]
          have HN41 : Hid (NS u ((0 + 1) + 1) (([] : List (Nat × Bytes)) ++ opt 2 x.of_ ++ [(2, x.to_)]) (.slice (some ⟨gn42, 0, none⟩) ((([] : List (Nat × Bytes)) ++ opt 2 x.of_).length + 1) cn43) wc40) := HM18.out.next HFA.out g1 g2
          clear g1 g2 g3 HFA HOA HNA HSA
          go_wp2_with fail
          go_meet
          rw [HE.out]
          exact ⟨_, rfl, HN41⟩
      case rest =>
        obtain ⟨z44, rfl⟩ : ∃ v : World, v = wc := ⟨_, rfl⟩
        obtain ⟨s45, rfl, HM46⟩ := hcut
        clear kc
        clear kc5 hw2 hw3
        have kc := cell_fr HM46.out.fr HK18.out
        by_cases hx : x.unit = []
        · rw [hx] at kc
          replace kc : z44.cell? ⟨W.heap.size, 18, none⟩ = some (.string ⟨#[]⟩) := kc
          have HNZ : Hid (needs x = ([] : List (Nat × Bytes)) ++ opt 2 x.of_ ++ opt 2 x.to_) := by show _ = _; rw [HNG.out]; unfold opt; rw [if_pos hx, List.append_nil]
          clear hx
          go_wp2_with fail
          go_ret
          exact ⟨s45, rfl, by rw [HNZ.out]; exact own_base HM46.out.own HFR.out.size, HFR.out.trans HM46.out.fr⟩
        · have kb : (x.unit != []) = true := by simpa using hx
          have kb2 : (x.unit == []) = false := by simpa using hx
          have kb3 : x.unit.isEmpty = false := by simpa using hx
          have HNZ : Hid (needs x = ([] : List (Nat × Bytes)) ++ opt 2 x.of_ ++ opt 2 x.to_ ++ [(3, x.unit)]) := by show _ = _; rw [HNG.out]; unfold opt; rw [if_neg hx]
          clear hx
          go_upto_region 17 with fail
          iterate 13 go_step
          refine wpList_plain rfl fun _ hK => wp_builtR 138 1 _ rfl #[(0, .agg #[.int .i64 3, .string ⟨x.unit.toArray⟩])] (by go_simp) _ _ (bsl_need _ _ _) (hK _ _ ?_)
          clear hK
          simp only [Act.put, List.setIfInBounds_toArray, List.set_cons_zero, List.set_cons_succ]
          obtain ⟨wa47, hwa⟩ : ∃ v, z44.alloc (.cells #[.int .i64 3, .string ⟨x.unit.toArray⟩] 141) = v := ⟨_, rfl⟩
          rw [hwa]
          have HFA : Hid (Fr (fun _ => False) z44 wa47) := by rw [← hwa]; exact (Fr.refl _ z44).alloc _
          have HOA : Hid (wa47.ownsRow u.heap.size 141 2 s45 (([] : List (Nat × Bytes)) ++ opt 2 x.of_ ++ opt 2 x.to_).length ((([] : List (Nat × Bytes)) ++ opt 2 x.of_ ++ opt 2 x.to_).flatMap needv)) := own_fr HM46.out.own HFA.out (fun _ _ _ h => h)
          have HNA : Hid (∀ j y, ([.int .i64 3, .string ⟨x.unit.toArray⟩] : List Value)[j]? = some y → wa47.cell? ((⟨z44.heap.size, 0, none⟩ : Addr).add j) = some y) := by rw [← hwa]; exact World.news_of_block (cs := #[.int .i64 3, .string ⟨x.unit.toArray⟩]) (t := 141) (fr := (0, 0)) (heap_alloc_new z44 _)
          have HSA : Hid (wa47.heap.size = z44.heap.size + 1) := by show _ = _; rw [← hwa]; simp
          clear hwa
          refine wpList_append_lies wa47 rfl (.tmp 70) (.tmp 74) 138 rfl u.heap.size 141 j0 _ 2 24 Tryd.underlying138 hj hj0 hj1 hj2 rfl (by decide) s45 (([] : List (Nat × Bytes)) ++ opt 2 x.of_ ++ opt 2 x.to_).length _ (by rfl) HOA.out ⟨z44.heap.size, 0, none⟩ 1 1 [.int .i64 3, .string ⟨x.unit.toArray⟩] (by rfl) rfl HNA.out (by simp [Value.oneCell']) (by decide) (by have := HM46.out.len; have := HLE.out; simp only [maxLen]; omega) (by have := HM46.out.len; have := HLE.out; omega) (by have := HM46.out.fr.size; have := HSA.out; omega) (z44.heap.size + 1) HSA.out ?_
          intro gn50 cn51 wc48 g1 g2 g3 _
          simp only [Act.put, List.setIfInBounds_toArray, List.set_cons_zero, List.set_cons_succ]
          have HN49 : Hid (NS u (((0 + 1) + 1) + 1) (([] : List (Nat × Bytes)) ++ opt 2 x.of_ ++ opt 2 x.to_ ++ [(3, x.unit)]) (.slice (some ⟨gn50, 0, none⟩) ((([] : List (Nat × Bytes)) ++ opt 2 x.of_ ++ opt 2 x.to_).length + 1) cn51) wc48) := HM46.out.next HFA.out g1 g2
          clear g1 g2 g3 HFA HOA HNA HSA
          go_wp2_with fail
          go_ret
          exact ⟨(.slice (some ⟨gn50, 0, none⟩) ((([] : List (Nat × Bytes)) ++ opt 2 x.of_ ++ opt 2 x.to_).length + 1) cn51), rfl, by rw [HNZ.out]; exact own_base HN49.out.own HFR.out.size, HFR.out.trans HN49.out.fr⟩
  · have HNE : Hid (needs x = [] ++ (if x.kind = 12 then [] else [(2, x.of_)]) ++ [(4, x.act)] ++ x.conds.map (fun c => (5, c.name)) ++ opt 4 x.by_ ++ opt 4 x.til ++ if x.unit = [] then [] else [(3, x.unit), (2, x.to_)]) := by show _ = _; unfold needs; simp [hg]
    go_enter Tryd.func54, Tryd.ntmps54
    go_upto_region 1 with fail
    rw [HU.out]
    clear HU
    have kc0 := HK0.out
    go_wp2_with fail
    refine HG.out.mono ?_
    rintro e w0 ⟨rfl, hw0⟩
    have hw0 := hw0.symm
    subst hw0
    clear HG kc0
    rw [hg]
    clear hg
    have kc0 := HK0.out
    go_upto_if 80 with fail
    go_cut [3] (fun s3 wx => ∃ v, v = s3 ∧ Hid (NS u 1 (([] : List (Nat × Bytes)) ++ (if x.kind = 12 then [] else [(2, x.of_)])) v wx))
    case first =>
      by_cases h12 : x.kind = 12
      · have hb : (x.kind != 12) = false := by simpa using h12
        have HZ : Hid (NS u 1 (([] : List (Nat × Bytes)) ++ (if x.kind = 12 then [] else [(2, x.of_)])) (.slice none 0 0) u) := by rw [if_pos h12]; exact ⟨HN0.out.own, HN0.out.fr, Nat.zero_le _⟩
        clear h12
        go_wp2_with fail
        go_meet
        exact ⟨_, rfl, HZ⟩
      · have hb : (x.kind != 12) = true := by simpa using h12
        have HNN := Lib.hid h12
        clear h12
        go_upto_region 20 with fail
        have kc := HK3.out
        iterate 13 go_step
        refine wpList_plain rfl fun _ hK => wp_builtR 138 1 _ rfl #[(0, .agg #[.int .i64 2, .string ⟨x.of_.toArray⟩])] (by go_simp) _ _ (bsl_need _ _ _) (hK _ _ ?_)
        clear hK
        simp only [Act.put, List.setIfInBounds_toArray, List.set_cons_zero, List.set_cons_succ]
        obtain ⟨wa52, hwa⟩ : ∃ v, u.alloc (.cells #[.int .i64 2, .string ⟨x.of_.toArray⟩] 141) = v := ⟨_, rfl⟩
        rw [hwa]
        have HFA : Hid (Fr (fun _ => False) u wa52) := by rw [← hwa]; exact (Fr.refl _ u).alloc _
        have HOA : Hid (wa52.ownsRow u.heap.size 141 2 (.slice none 0 0) (([] : List (Nat × Bytes))).length ((([] : List (Nat × Bytes))).flatMap needv)) := own_fr HN0.out.own HFA.out (fun _ _ _ h => h)
        have HNA : Hid (∀ j y, ([.int .i64 2, .string ⟨x.of_.toArray⟩] : List Value)[j]? = some y → wa52.cell? ((⟨u.heap.size, 0, none⟩ : Addr).add j) = some y) := by rw [← hwa]; exact World.news_of_block (cs := #[.int .i64 2, .string ⟨x.of_.toArray⟩]) (t := 141) (fr := (0, 0)) (heap_alloc_new u _)
        have HSA : Hid (wa52.heap.size = u.heap.size + 1) := by show _ = _; rw [← hwa]; simp
        clear hwa
        refine wpList_append_lies wa52 rfl (.tmp 81) (.tmp 85) 138 rfl u.heap.size 141 j0 _ 2 24 Tryd.underlying138 hj hj0 hj1 hj2 rfl (by decide) (.slice none 0 0) (([] : List (Nat × Bytes))).length _ (by rfl) HOA.out ⟨u.heap.size, 0, none⟩ 1 1 [.int .i64 2, .string ⟨x.of_.toArray⟩] (by rfl) rfl HNA.out (by simp [Value.oneCell']) (by decide) (by have := HN0.out.len; have := HLE.out; simp only [maxLen]; omega) (by have := HN0.out.len; have := HLE.out; omega) (by have := HN0.out.fr.size; have := HSA.out; omega) (u.heap.size + 1) HSA.out ?_
        intro gn55 cn56 wc53 g1 g2 g3 _
        simp only [Act.put, List.setIfInBounds_toArray, List.set_cons_zero, List.set_cons_succ]
        have HN54 : Hid (NS u (0 + 1) (([] : List (Nat × Bytes)) ++ [(2, x.of_)]) (.slice (some ⟨gn55, 0, none⟩) ((([] : List (Nat × Bytes))).length + 1) cn56) wc53) := HN0.out.next HFA.out g1 g2
        clear g1 g2 g3 HFA HOA HNA HSA
        go_wp2_with fail
        go_meet
        rw [if_neg HNN.out]
        exact ⟨_, rfl, HN54⟩
    case rest =>
      obtain ⟨za, rfl⟩ : ∃ v : World, v = wc := ⟨_, rfl⟩
      obtain ⟨sa, rfl, HMA⟩ := hcut
      obtain ⟨LA, hla⟩ : ∃ l : List (Nat × Bytes), ([] : List (Nat × Bytes)) ++ (if x.kind = 12 then [] else [(2, x.of_)]) = l := ⟨_, rfl⟩
      rw [hla] at HMA
      have HLA := Lib.hid hla
      clear kc0 hla
      go_upto_region 21 with fail
      have kc := cell_fr HMA.out.fr HK4.out
      iterate 13 go_step
      refine wpList_plain rfl fun _ hK => wp_builtR 138 1 _ rfl #[(0, .agg #[.int .i64 4, .string ⟨x.act.toArray⟩])] (by go_simp) _ _ (bsl_need _ _ _) (hK _ _ ?_)
      clear hK
      simp only [Act.put, List.setIfInBounds_toArray, List.set_cons_zero, List.set_cons_succ]
      obtain ⟨wa57, hwa⟩ : ∃ v, za.alloc (.cells #[.int .i64 4, .string ⟨x.act.toArray⟩] 141) = v := ⟨_, rfl⟩
      rw [hwa]
      have HFA : Hid (Fr (fun _ => False) za wa57) := by rw [← hwa]; exact (Fr.refl _ za).alloc _
      have HOA : Hid (wa57.ownsRow u.heap.size 141 2 sa (LA).length ((LA).flatMap needv)) := own_fr HMA.out.own HFA.out (fun _ _ _ h => h)
      have HNA : Hid (∀ j y, ([.int .i64 4, .string ⟨x.act.toArray⟩] : List Value)[j]? = some y → wa57.cell? ((⟨za.heap.size, 0, none⟩ : Addr).add j) = some y) := by rw [← hwa]; exact World.news_of_block (cs := #[.int .i64 4, .string ⟨x.act.toArray⟩]) (t := 141) (fr := (0, 0)) (heap_alloc_new za _)
      have HSA : Hid (wa57.heap.size = za.heap.size + 1) := by show _ = _; rw [← hwa]; simp
      clear hwa
      refine wpList_append_lies wa57 rfl (.tmp 87) (.tmp 91) 138 rfl u.heap.size 141 j0 _ 2 24 Tryd.underlying138 hj hj0 hj1 hj2 rfl (by decide) sa (LA).length _ (by rfl) HOA.out ⟨za.heap.size, 0, none⟩ 1 1 [.int .i64 4, .string ⟨x.act.toArray⟩] (by rfl) rfl HNA.out (by simp [Value.oneCell']) (by decide) (by have := HMA.out.len; have := HLE.out; simp only [maxLen]; omega) (by have := HMA.out.len; have := HLE.out; omega) (by have := HMA.out.fr.size; have := HSA.out; omega) (za.heap.size + 1) HSA.out ?_
      intro gn60 cn61 wc58 g1 g2 g3 _
      simp only [Act.put, List.setIfInBounds_toArray, List.set_cons_zero, List.set_cons_succ]
      have HN59 : Hid (NS u (1 + 1) (LA ++ [(4, x.act)]) (.slice (some ⟨gn60, 0, none⟩) ((LA).length + 1) cn61) wc58) := HMA.out.next HFA.out g1 g2
      clear g1 g2 g3 HFA HOA HNA HSA
      have hcl0 : x.conds.length ≤ 1000000 := HLE.out
      have kc13 := cell_fr HN59.out.fr HK13.out
      go_wp2_with fail
      go_loopw [3, 4] (fun s3 vi wr => ∃ (i : Nat) (vv : Value), vv = s3 ∧ vi = .int .i64 (i : Int) ∧ i ≤ x.conds.length ∧ Hid (NS u (2 + i) (LA ++ [(4, x.act)] ++ ((x.conds.take i).map fun (c : Named) => ((5 : Nat), c.name))) vv wr)) (fun _ vi _ => x.conds.length - (intOf vi).toNat)
      case atStart => exact ⟨0, _, rfl, rfl, Nat.zero_le _, by
        have h0 := HN59.out
        show NS _ _ _ _ _
        simp only [List.take_zero, List.map_nil, List.append_nil]
        exact ⟨h0.own, h0.fr, h0.len⟩⟩
      case round =>
        clear kc13
        obtain ⟨i, s3, rfl, rfl, hi, HL⟩ := hrel
        have i1 : (0 : Int) ≤ (i : Int) := Int.natCast_nonneg _
        have kc13 := cell_fr HL.out.fr HK13.out
        by_cases hlt : i < x.conds.length
        · have i2 : (i : Int) < (x.conds.length : Int) := by omega
          obtain ⟨gc, oc, capc, hs1, hgl, _, _, hat⟩ := (HROW.out.below ((HFR.out.trans HL.out.fr).below (Nat.le_refl _) (fun _ h => h.elim))).at (by intro e; rw [List.map_eq_nil_iff] at e; rw [e] at hlt; simp at hlt)
          have hAc : Ac = some ⟨gc, oc, none⟩ := by injection hs1
          subst hAc
          obtain ⟨c, hc⟩ : ∃ c, x.conds[i]? = some c := ⟨_, List.getElem?_eq_getElem hlt⟩
          have hck : At wr gc (oc + i * 2) (namedc c) := hat i _ (by rw [List.getElem?_map, hc]; rfl)
          have kn : wr.cell? ⟨gc, oc + i * 2, none⟩ = some (.string ⟨c.name.toArray⟩) := hck.cell 0 rfl
          have HCI := Lib.hid hc
          clear hat hck hs1 hgl hc
          go_upto_region 25 with fail
          iterate 25 go_step
          refine wpList_plain rfl fun _ hK => wp_builtR 138 1 _ rfl #[(0, .agg #[.int .i64 5, .string ⟨c.name.toArray⟩])] (by go_simp) _ _ (bsl_need _ _ _) (hK _ _ ?_)
          clear hK
          simp only [Act.put, List.setIfInBounds_toArray, List.set_cons_zero, List.set_cons_succ]
          obtain ⟨wa62, hwa⟩ : ∃ v, wr.alloc (.cells #[.int .i64 5, .string ⟨c.name.toArray⟩] 141) = v := ⟨_, rfl⟩
          rw [hwa]
          have HFA : Hid (Fr (fun _ => False) wr wa62) := by rw [← hwa]; exact (Fr.refl _ wr).alloc _
          have HOA : Hid (wa62.ownsRow u.heap.size 141 2 s3 (LA ++ [(4, x.act)] ++ ((x.conds.take i).map fun (c : Named) => ((5 : Nat), c.name))).length ((LA ++ [(4, x.act)] ++ ((x.conds.take i).map fun (c : Named) => ((5 : Nat), c.name))).flatMap needv)) := own_fr HL.out.own HFA.out (fun _ _ _ h => h)
          have HNA : Hid (∀ j y, ([.int .i64 5, .string ⟨c.name.toArray⟩] : List Value)[j]? = some y → wa62.cell? ((⟨wr.heap.size, 0, none⟩ : Addr).add j) = some y) := by rw [← hwa]; exact World.news_of_block (cs := #[.int .i64 5, .string ⟨c.name.toArray⟩]) (t := 141) (fr := (0, 0)) (heap_alloc_new wr _)
          have HSA : Hid (wa62.heap.size = wr.heap.size + 1) := by show _ = _; rw [← hwa]; simp
          clear hwa
          refine wpList_append_lies wa62 rfl (.tmp 100) (.tmp 108) 138 rfl u.heap.size 141 j0 _ 2 24 Tryd.underlying138 hj hj0 hj1 hj2 rfl (by decide) s3 (LA ++ [(4, x.act)] ++ ((x.conds.take i).map fun (c : Named) => ((5 : Nat), c.name))).length _ (by rfl) HOA.out ⟨wr.heap.size, 0, none⟩ 1 1 [.int .i64 5, .string ⟨c.name.toArray⟩] (by rfl) rfl HNA.out (by simp [Value.oneCell']) (by decide) (by have := HL.out.len; have := HLE.out; simp only [maxLen]; omega) (by have := HL.out.len; have := HLE.out; omega) (by have := HL.out.fr.size; have := HSA.out; omega) (wr.heap.size + 1) HSA.out ?_
          intro gn65 cn66 wc63 g1 g2 g3 _
          simp only [Act.put, List.setIfInBounds_toArray, List.set_cons_zero, List.set_cons_succ]
          have HN64 : Hid (NS u ((2 + i) + 1) (LA ++ [(4, x.act)] ++ ((x.conds.take i).map fun (c : Named) => ((5 : Nat), c.name)) ++ [(5, c.name)]) (.slice (some ⟨gn65, 0, none⟩) ((LA ++ [(4, x.act)] ++ ((x.conds.take i).map fun (c : Named) => ((5 : Nat), c.name))).length + 1) cn66) wc63) := HL.out.next HFA.out g1 g2
          clear g1 g2 g3 HFA HOA HNA HSA
          go_wp2_with fail
          go_roundw
          case rel => exact ⟨i + 1, _, rfl, by go_num, hlt, by
            have h0 := HN64.out
            show NS _ _ _ _ _
            rw [List.take_add_one, HCI.out, List.map_append, ← List.append_assoc]
            exact h0⟩
          case measure => simp [intOf]; omega
        · obtain rfl : i = x.conds.length := by omega
          have i2 : ¬ (x.conds.length : Int) < (x.conds.length : Int) := by omega
          have HLL : Hid (NS u (2 + x.conds.length) (LA ++ [(4, x.act)] ++ x.conds.map fun (c : Named) => ((5 : Nat), c.name)) s3 wr) := by
            have h0 := HL.out
            rw [List.take_of_length_le (Nat.le_refl _)] at h0
            exact h0
          clear HL hlt hi i1
          obtain ⟨LB, hlb⟩ : ∃ l : List (Nat × Bytes), LA ++ [(4, x.act)] ++ x.conds.map (fun (c : Named) => ((5 : Nat), c.name)) = l := ⟨_, rfl⟩
          rw [hlb] at HLL
          have HNF : Hid (needs x = LB ++ opt 4 x.by_ ++ opt 4 x.til ++ if x.unit = [] then [] else [(3, x.unit), (2, x.to_)]) := by show _ = _; rw [HNE.out, HLA.out, hlb]
          clear hlb HNE
          have kc := cell_fr HLL.out.fr HK14.out
          go_upto_if 112 with fail
          go_cut [3] (fun s3 wx => ∃ v, v = s3 ∧ Hid (NS u ((2 + x.conds.length) + 1) (LB ++ opt 4 x.by_) v wx))
          case first =>
            by_cases hx : x.by_ = []
            · rw [hx] at kc
              replace kc : wr.cell? ⟨W.heap.size, 14, none⟩ = some (.string ⟨#[]⟩) := kc
              have kb4 : (!List.isEmpty x.by_) = false := by simp [hx]
              have HZ : Hid (NS u ((2 + x.conds.length) + 1) (LB ++ opt 4 x.by_) s3 wr) := by unfold opt; rw [if_pos hx, List.append_nil]; exact ⟨HLL.out.own, HLL.out.fr, Nat.le_succ_of_le HLL.out.len⟩
              clear hx
              rw [kb4]
              go_wp2_with fail
              go_meet
              exact ⟨_, rfl, HZ⟩
            · have kb : (x.by_ != []) = true := by simpa using hx
              have kb2 : (x.by_ == []) = false := by simpa using hx
              have kb3 : x.by_.isEmpty = false := by simpa using hx
              have kb4 : (!List.isEmpty x.by_) = true := by simpa using hx
              have HE : Hid (opt 4 x.by_ = [(4, x.by_)]) := if_neg hx
              clear hx
              rw [kb4]
              go_upto_region 27 with fail
              iterate 13 go_step
              refine wpList_plain rfl fun _ hK => wp_builtR 138 1 _ rfl #[(0, .agg #[.int .i64 4, .string ⟨x.by_.toArray⟩])] (by go_simp) _ _ (bsl_need _ _ _) (hK _ _ ?_)
              clear hK
              simp only [Act.put, List.setIfInBounds_toArray, List.set_cons_zero, List.set_cons_succ]
              obtain ⟨wa67, hwa⟩ : ∃ v, wr.alloc (.cells #[.int .i64 4, .string ⟨x.by_.toArray⟩] 141) = v := ⟨_, rfl⟩
              rw [hwa]
              have HFA : Hid (Fr (fun _ => False) wr wa67) := by rw [← hwa]; exact (Fr.refl _ wr).alloc _
              have HOA : Hid (wa67.ownsRow u.heap.size 141 2 s3 (LB).length ((LB).flatMap needv)) := own_fr HLL.out.own HFA.out (fun _ _ _ h => h)
              have HNA : Hid (∀ j y, ([.int .i64 4, .string ⟨x.by_.toArray⟩] : List Value)[j]? = some y → wa67.cell? ((⟨wr.heap.size, 0, none⟩ : Addr).add j) = some y) := by rw [← hwa]; exact World.news_of_block (cs := #[.int .i64 4, .string ⟨x.by_.toArray⟩]) (t := 141) (fr := (0, 0)) (heap_alloc_new wr _)
              have HSA : Hid (wa67.heap.size = wr.heap.size + 1) := by show _ = _; rw [← hwa]; simp
              clear hwa
              refine wpList_append_lies wa67 rfl (.tmp 113) (.tmp 117) 138 rfl u.heap.size 141 j0 _ 2 24 Tryd.underlying138 hj hj0 hj1 hj2 rfl (by decide) s3 (LB).length _ (by rfl) HOA.out ⟨wr.heap.size, 0, none⟩ 1 1 [.int .i64 4, .string ⟨x.by_.toArray⟩] (by rfl) rfl HNA.out (by simp [Value.oneCell']) (by decide) (by have := HLL.out.len; have := HLE.out; simp only [maxLen]; omega) (by have := HLL.out.len; have := HLE.out; omega) (by have := HLL.out.fr.size; have := HSA.out; omega) (wr.heap.size + 1) HSA.out ?_
              intro gn70 cn71 wc68 g1 g2 g3 _
              simp only [Act.put, List.setIfInBounds_toArray, List.set_cons_zero, List.set_cons_succ]
              have HN69 : Hid (NS u ((2 + x.conds.length) + 1) (LB ++ [(4, x.by_)]) (.slice (some ⟨gn70, 0, none⟩) ((LB).length + 1) cn71) wc68) := HLL.out.next HFA.out g1 g2
              clear g1 g2 g3 HFA HOA HNA HSA
              go_wp2_with fail
              go_meet
              rw [HE.out]
              exact ⟨_, rfl, HN69⟩
          case rest =>
            obtain ⟨z72, rfl⟩ : ∃ v : World, v = wc := ⟨_, rfl⟩
            obtain ⟨s73, rfl, HM74⟩ := hcut
            clear kc
            clear kc13 i2
            have kc := cell_fr HM74.out.fr HK15.out
            go_upto_if 121 with fail
            go_cut [3] (fun s3 wx => ∃ v, v = s3 ∧ Hid (NS u (((2 + x.conds.length) + 1) + 1) (LB ++ opt 4 x.by_ ++ opt 4 x.til) v wx))
            case first =>
              by_cases hx : x.til = []
              · rw [hx] at kc
                replace kc : z72.cell? ⟨W.heap.size, 15, none⟩ = some (.string ⟨#[]⟩) := kc
                have kb4 : (!List.isEmpty x.til) = false := by simp [hx]
                have HZ : Hid (NS u (((2 + x.conds.length) + 1) + 1) (LB ++ opt 4 x.by_ ++ opt 4 x.til) s73 z72) := by unfold opt; rw [if_pos hx, List.append_nil]; exact ⟨HM74.out.own, HM74.out.fr, Nat.le_succ_of_le HM74.out.len⟩
                clear hx
                rw [kb4]
                go_wp2_with fail
                go_meet
                exact ⟨_, rfl, HZ⟩
              · have kb : (x.til != []) = true := by simpa using hx
                have kb2 : (x.til == []) = false := by simpa using hx
                have kb3 : x.til.isEmpty = false := by simpa using hx
                have kb4 : (!List.isEmpty x.til) = true := by simpa using hx
                have HE : Hid (opt 4 x.til = [(4, x.til)]) := if_neg hx
                clear hx
                rw [kb4]
                go_upto_region 29 with fail
                iterate 13 go_step
                refine wpList_plain rfl fun _ hK => wp_builtR 138 1 _ rfl #[(0, .agg #[.int .i64 4, .string ⟨x.til.toArray⟩])] (by go_simp) _ _ (bsl_need _ _ _) (hK _ _ ?_)
                clear hK
                simp only [Act.put, List.setIfInBounds_toArray, List.set_cons_zero, List.set_cons_succ]
                obtain ⟨wa75, hwa⟩ : ∃ v, z72.alloc (.cells #[.int .i64 4, .string ⟨x.til.toArray⟩] 141) = v := ⟨_, rfl⟩
                rw [hwa]
                have HFA : Hid (Fr (fun _ => False) z72 wa75) := by rw [← hwa]; exact (Fr.refl _ z72).alloc _
                have HOA : Hid (wa75.ownsRow u.heap.size 141 2 s73 (LB ++ opt 4 x.by_).length ((LB ++ opt 4 x.by_).flatMap needv)) := own_fr HM74.out.own HFA.out (fun _ _ _ h => h)
                have HNA : Hid (∀ j y, ([.int .i64 4, .string ⟨x.til.toArray⟩] : List Value)[j]? = some y → wa75.cell? ((⟨z72.heap.size, 0, none⟩ : Addr).add j) = some y) := by rw [← hwa]; exact World.news_of_block (cs := #[.int .i64 4, .string ⟨x.til.toArray⟩]) (t := 141) (fr := (0, 0)) (heap_alloc_new z72 _)
                have HSA : Hid (wa75.heap.size = z72.heap.size + 1) := by show _ = _; rw [← hwa]; simp
                clear hwa
                refine wpList_append_lies wa75 rfl (.tmp 122) (.tmp 126) 138 rfl u.heap.size 141 j0 _ 2 24 Tryd.underlying138 hj hj0 hj1 hj2 rfl (by decide) s73 (LB ++ opt 4 x.by_).length _ (by rfl) HOA.out ⟨z72.heap.size, 0, none⟩ 1 1 [.int .i64 4, .string ⟨x.til.toArray⟩] (by rfl) rfl HNA.out (by simp [Value.oneCell']) (by decide) (by have := HM74.out.len; have := HLE.out; simp only [maxLen]; omega) (by have := HM74.out.len; have := HLE.out; omega) (by have := HM74.out.fr.size; have := HSA.out; omega) (z72.heap.size + 1) HSA.out ?_
                intro gn78 cn79 wc76 g1 g2 g3 _
                simp only [Act.put, List.setIfInBounds_toArray, List.set_cons_zero, List.set_cons_succ]
                have HN77 : Hid (NS u (((2 + x.conds.length) + 1) + 1) (LB ++ opt 4 x.by_ ++ [(4, x.til)]) (.slice (some ⟨gn78, 0, none⟩) ((LB ++ opt 4 x.by_).length + 1) cn79) wc76) := HM74.out.next HFA.out g1 g2
                clear g1 g2 g3 HFA HOA HNA HSA
                go_wp2_with fail
                go_meet
                rw [HE.out]
                exact ⟨_, rfl, HN77⟩
            case rest =>
              obtain ⟨z80, rfl⟩ : ∃ v : World, v = wc := ⟨_, rfl⟩
              obtain ⟨s81, rfl, HM82⟩ := hcut
              clear kc
              have kc := cell_fr HM82.out.fr HK18.out
              by_cases hx : x.unit = []
              · have HNG : Hid (needs x = LB ++ opt 4 x.by_ ++ opt 4 x.til) := by show _ = _; rw [HNF.out, if_pos hx, List.append_nil]
                rw [hx] at kc
                replace kc : z80.cell? ⟨W.heap.size, 18, none⟩ = some (.string ⟨#[]⟩) := kc
                clear hx HNF
                go_wp2_with fail
                go_ret
                exact ⟨s81, rfl, by rw [HNG.out]; exact own_base HM82.out.own HFR.out.size, HFR.out.trans HM82.out.fr⟩
              · have HNG : Hid (needs x = LB ++ opt 4 x.by_ ++ opt 4 x.til ++ [(3, x.unit)] ++ [(2, x.to_)]) := by show _ = _; rw [HNF.out, if_neg hx]; simp
                have kb : (x.unit != []) = true := by simpa using hx
                have kb2 : (x.unit == []) = false := by simpa using hx
                have kb3 : x.unit.isEmpty = false := by simpa using hx
                clear hx HNF
                go_upto_region 31 with fail
                iterate 13 go_step
                refine wpList_plain rfl fun _ hK => wp_builtR 138 1 _ rfl #[(0, .agg #[.int .i64 3, .string ⟨x.unit.toArray⟩])] (by go_simp) _ _ (bsl_need _ _ _) (hK _ _ ?_)
                clear hK
                simp only [Act.put, List.setIfInBounds_toArray, List.set_cons_zero, List.set_cons_succ]
                obtain ⟨wa83, hwa⟩ : ∃ v, z80.alloc (.cells #[.int .i64 3, .string ⟨x.unit.toArray⟩] 141) = v := ⟨_, rfl⟩
                rw [hwa]
                have HFA : Hid (Fr (fun _ => False) z80 wa83) := by rw [← hwa]; exact (Fr.refl _ z80).alloc _
                have HOA : Hid (wa83.ownsRow u.heap.size 141 2 s81 (LB ++ opt 4 x.by_ ++ opt 4 x.til).length ((LB ++ opt 4 x.by_ ++ opt 4 x.til).flatMap needv)) := own_fr HM82.out.own HFA.out (fun _ _ _ h => h)
                have HNA : Hid (∀ j y, ([.int .i64 3, .string ⟨x.unit.toArray⟩] : List Value)[j]? = some y → wa83.cell? ((⟨z80.heap.size, 0, none⟩ : Addr).add j) = some y) := by rw [← hwa]; exact World.news_of_block (cs := #[.int .i64 3, .string ⟨x.unit.toArray⟩]) (t := 141) (fr := (0, 0)) (heap_alloc_new z80 _)
                have HSA : Hid (wa83.heap.size = z80.heap.size + 1) := by show _ = _; rw [← hwa]; simp
                clear hwa
                refine wpList_append_lies wa83 rfl (.tmp 131) (.tmp 135) 138 rfl u.heap.size 141 j0 _ 2 24 Tryd.underlying138 hj hj0 hj1 hj2 rfl (by decide) s81 (LB ++ opt 4 x.by_ ++ opt 4 x.til).length _ (by rfl) HOA.out ⟨z80.heap.size, 0, none⟩ 1 1 [.int .i64 3, .string ⟨x.unit.toArray⟩] (by rfl) rfl HNA.out (by simp [Value.oneCell']) (by decide) (by have := HM82.out.len; have := HLE.out; simp only [maxLen]; omega) (by have := HM82.out.len; have := HLE.out; omega) (by have := HM82.out.fr.size; have := HSA.out; omega) (z80.heap.size + 1) HSA.out ?_
                intro gn86 cn87 wc84 g1 g2 g3 _
                simp only [Act.put, List.setIfInBounds_toArray, List.set_cons_zero, List.set_cons_succ]
                have HN85 : Hid (NS u ((((2 + x.conds.length) + 1) + 1) + 1) (LB ++ opt 4 x.by_ ++ opt 4 x.til ++ [(3, x.unit)]) (.slice (some ⟨gn86, 0, none⟩) ((LB ++ opt 4 x.by_ ++ opt 4 x.til).length + 1) cn87) wc84) := HM82.out.next HFA.out g1 g2
                clear g1 g2 g3 HFA HOA HNA HSA
                go_upto_region 32 with fail
                have kc := cell_fr HN85.out.fr HK22.out
                iterate 13 go_step
                refine wpList_plain rfl fun _ hK => wp_builtR 138 1 _ rfl #[(0, .agg #[.int .i64 2, .string ⟨x.to_.toArray⟩])] (by go_simp) _ _ (bsl_need _ _ _) (hK _ _ ?_)
                clear hK
                simp only [Act.put, List.setIfInBounds_toArray, List.set_cons_zero, List.set_cons_succ]
                obtain ⟨wa88, hwa⟩ : ∃ v, wc84.alloc (.cells #[.int .i64 2, .string ⟨x.to_.toArray⟩] 141) = v := ⟨_, rfl⟩
                rw [hwa]
                have HFA : Hid (Fr (fun _ => False) wc84 wa88) := by rw [← hwa]; exact (Fr.refl _ wc84).alloc _
                have HOA : Hid (wa88.ownsRow u.heap.size 141 2 (.slice (some ⟨gn86, 0, none⟩) ((LB ++ opt 4 x.by_ ++ opt 4 x.til).length + 1) cn87) (LB ++ opt 4 x.by_ ++ opt 4 x.til ++ [(3, x.unit)]).length ((LB ++ opt 4 x.by_ ++ opt 4 x.til ++ [(3, x.unit)]).flatMap needv)) := own_fr HN85.out.own HFA.out (fun _ _ _ h => h)
                have HNA : Hid (∀ j y, ([.int .i64 2, .string ⟨x.to_.toArray⟩] : List Value)[j]? = some y → wa88.cell? ((⟨wc84.heap.size, 0, none⟩ : Addr).add j) = some y) := by rw [← hwa]; exact World.news_of_block (cs := #[.int .i64 2, .string ⟨x.to_.toArray⟩]) (t := 141) (fr := (0, 0)) (heap_alloc_new wc84 _)
                have HSA : Hid (wa88.heap.size = wc84.heap.size + 1) := by show _ = _; rw [← hwa]; simp
                clear hwa
                refine wpList_append_lies wa88 rfl (.tmp 137) (.tmp 141) 138 rfl u.heap.size 141 j0 _ 2 24 Tryd.underlying138 hj hj0 hj1 hj2 rfl (by decide) (.slice (some ⟨gn86, 0, none⟩) ((LB ++ opt 4 x.by_ ++ opt 4 x.til).length + 1) cn87) (LB ++ opt 4 x.by_ ++ opt 4 x.til ++ [(3, x.unit)]).length _ (by rfl) HOA.out ⟨wc84.heap.size, 0, none⟩ 1 1 [.int .i64 2, .string ⟨x.to_.toArray⟩] (by rfl) rfl HNA.out (by simp [Value.oneCell']) (by decide) (by have := HN85.out.len; have := HLE.out; simp only [maxLen]; omega) (by have := HN85.out.len; have := HLE.out; omega) (by have := HN85.out.fr.size; have := HSA.out; omega) (wc84.heap.size + 1) HSA.out ?_
                intro gn91 cn92 wc89 g1 g2 g3 _
                simp only [Act.put, List.setIfInBounds_toArray, List.set_cons_zero, List.set_cons_succ]
                have HN90 : Hid (NS u (((((2 + x.conds.length) + 1) + 1) + 1) + 1) (LB ++ opt 4 x.by_ ++ opt 4 x.til ++ [(3, x.unit)] ++ [(2, x.to_)]) (.slice (some ⟨gn91, 0, none⟩) ((LB ++ opt 4 x.by_ ++ opt 4 x.til ++ [(3, x.unit)]).length + 1) cn92) wc89) := HN85.out.next HFA.out g1 g2
                clear g1 g2 g3 HFA HOA HNA HSA
                go_wp2_with fail
                go_ret
                exact ⟨(.slice (some ⟨gn91, 0, none⟩) ((LB ++ opt 4 x.by_ ++ opt 4 x.til ++ [(3, x.unit)]).length + 1) cn92), rfl, by rw [HNG.out]; exact own_base HN90.out.own HFR.out.size, HFR.out.trans HN90.out.fr⟩
end Go.Proofs.YtdhjibnkebbejaaDoor.Rs
