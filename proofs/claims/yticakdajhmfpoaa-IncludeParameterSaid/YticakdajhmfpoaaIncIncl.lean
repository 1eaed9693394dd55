/-
  Include: an inclusion.
-/
import Derived.Test.YticakdajhmfpoaaIncStep
namespace Go.Proofs.Yticakdajhmfpoaa.Ic
open Go.RowKit Mem Vw Rs
open Go.ChangeMaps (setBlock)
set_option linter.unusedVariables false
set_option linter.unusedSimpArgs false

set_option maxRecDepth 100000 in
set_option maxHeartbeats 16000000 in
theorem include_any : ∀ (n : Nat) {Q : Prop} {B : Nat} {l : List DT} {op : List Rs.Bytes} {sn : List DT} {cnt : Nat} {iv : Value} {ds : List DT} (x : DT) (p : Int) (W : World), XS Q B l op sn cnt iv ds W → Lay (fun g => ¬ (B ≤ g ∧ g ≤ B + 8)) W x → (∀ y ∈ l, Lay (fun g => g < B) W y) → (∀ y ∈ l, y.h.kind = 13 → TOk y) → 601 ≤ n + cnt → cnt ≤ 601 → Inv ⟨cnt, ds.map DT.tree⟩ → x.h.name.length ≤ 1000000 →
    Calls Try.prog 32 #[.pointer (some ⟨B + 8, 0, none⟩), .agg x.cells.toArray, .int .i64 p] W (ClR Q B l op sn iv W (incl (envD l) p n op x.h ⟨cnt, ds.map DT.tree⟩)) := by
  intro n
  induction n using Nat.strongRecOn with
  | ind n ih =>
  intro Q B l op sn cnt iv ds x p W hX hx hT hTK hn hc hI hxn
  have IH := Lib.hid ih
  clear ih
  obtain ⟨w0, HW0⟩ : ∃ w0, Hid (W.alloc (.cells x.cells.toArray 41) = w0) := ⟨_, rfl⟩
  have HF0 : Hid (Fr (fun _ => False) W w0) := by rw [← HW0.out]; exact (Fr.refl _ W).alloc _
  have HB0 : Hid (w0.heap[W.heap.size]? = some (.cells x.cells.toArray 41 (0, 0))) := by rw [← HW0.out]; exact blk_newn rfl
  have HX0 : Hid (XS Q B l op sn cnt iv ds w0) := hX.fr HF0.out (fun _ _ _ h => h)
  have HGB : Hid (B + 8 < W.heap.size) := lt_of_blk hX.ex.blk
  have HIW : Hid (∀ g, iv.ownBlock = some g → B + 9 ≤ g ∧ g < W.heap.size) := own_lt hX.own
  have HTK := Lib.hid hTK; have HN := Lib.hid hn; have HC := Lib.hid hc; have HI := Lib.hid hI; have HXN := Lib.hid hxn
  have HCT := Lib.hid (counts_any w0 HX0.out.ex (by omega) (by omega))
  obtain ⟨w1, HW1⟩ : ∃ w, Hid (w0.setCell ⟨B + 8, 5, none⟩ (.int .i64 ((cnt : Int) + 1)) = w) := ⟨_, rfl⟩
  rw [HW1.out] at HCT
  have HF1 : Hid (Fr (fun g => g = B + 8) w0 w1) := by rw [← HW1.out]; exact (Fr.refl (fun g => g = B + 8) w0).setb 5 _
  have HX1 : Hid (XS Q B l op sn (cnt + 1) iv ds w1) := by
    refine ⟨?_, own_fr HX0.out.own HF1.out (fun k h1 _ e => by omega), fun q d hd => (HX0.out.lay q d hd).fr HF1.out (fun g hg e => by omega)⟩
    have := HX0.out.ex.count ((cnt : Int) + 1)
    rw [HW1.out] at this
    exact this
  have HB1 : Hid (w1.heap[W.heap.size]? = some (.cells x.cells.toArray 41 (0, 0))) := HF1.out.blk HB0.out (fun e => by have := HGB.out; omega)
  have HFV1 : Hid (Fr (fun g => g = B + 8) W w1) := (HF0.out.mono (T := fun g => g = B + 8) (fun _ _ h => h.elim)).trans HF1.out
  have HFW1 : Hid (Fr (SX B iv) W w1) := HFV1.out.mono (fun g _ e => .inl ⟨by omega, by omega⟩)
  have HXL1 : Hid (Lay (fun g => ¬ (B ≤ g ∧ g ≤ B + 8)) w1 x) := hx.fr HFV1.out (fun g hg e => hg ⟨by omega, by omega⟩)
  have HT := Lib.hid hT
  clear hX hx hT hTK hn hc hI hxn HX0 HF0 HF1 HB0 HW1
  obtain ⟨h, c, d, nn, i, lst⟩ := x
  dsimp only [DT.h] at HXN
  obtain ⟨Ax, cx, hnv, hx1, hx2⟩ := HXL1.out.names.slice
  dsimp only [DT.n, DT.h] at hnv
  rw [List.length_map] at hnv
  subst hnv
  rw [List.length_map] at hx1
  have HW0 : Hid (W.alloc (.cells (icells h c d (.slice Ax h.names.length cx) i).toArray 41) = w0) := HW0
  have HB1 : Hid (w1.heap[W.heap.size]? = some (.cells (icells h c d (.slice Ax h.names.length cx) i).toArray 41 (0, 0))) := HB1
  dsimp only [DT.h] at hx1
  have hzx : h.names.length ≤ 9223372036854775807 := by omega
  clear hx1 hx2
  show Calls _ _ #[_, .agg (icells h c d (.slice Ax h.names.length cx) i).toArray, _] _ (ClR Q B l op sn iv W (incl (envD l) p n op h ⟨cnt, ds.map DT.tree⟩))
  by_cases hle : (cnt : Int) + 1 ≤ 600
  case neg =>
    have hd : decide ((cnt : Int) + 1 ≤ 600) = false := by simp; omega
    rw [hd] at HCT
    have HR : Hid (incl (envD l) p n op h ⟨cnt, ds.map DT.tree⟩ = (3, ⟨cnt + 1, ds.map DT.tree⟩)) := incl_lim (by show 600 < cnt + 1; omega)
    rw [HR.out]
    refine Go.Proofs.Yticakdajhmfpoaa.Db.calls_of_wp_b Try.func32 rfl ?_
    simp only [Try.ntmps32, List.size_toArray, List.length_cons, List.length_nil, Nat.reduceAdd, Nat.reduceSub, Array.replicate_succ, Array.replicate_zero, List.push_toArray, List.append_toArray, List.nil_append, List.cons_append]
    go_upto_region 1 with fail
    rw [HW0.out]
    go_wp2_with fail
    refine HCT.out.mono ?_
    rintro e w9 ⟨rfl, rfl⟩
    go_wp2_with fail
    refine Db.post_plain (results_tmp rfl _ _ _) ?_
    exact ⟨rfl, ⟨⟨iv, ds, HX1.out, rfl, fun g hg => .inl hg⟩, HFW1.out⟩⟩
  obtain ⟨m, rfl⟩ : ∃ m, n = m + 1 := ⟨n - 1, by have := HN.out; omega⟩
  have hd : decide ((cnt : Int) + 1 ≤ 600) = true := by simp; omega
  rw [hd] at HCT
  have HLE := Lib.hid hle
  have HNL : Hid (¬ 600 < (⟨cnt, ds.map DT.tree⟩ : St).count + 1) := by show ¬ 600 < cnt + 1; omega
  have HETM := Lib.hid (env_tmpl l h.of_)
  clear hle hd
  refine Go.Proofs.Yticakdajhmfpoaa.Db.calls_of_wp_b Try.func32 rfl ?_
  simp only [Try.ntmps32, List.size_toArray, List.length_cons, List.length_nil, Nat.reduceAdd, Nat.reduceSub, Array.replicate_succ, Array.replicate_zero, List.push_toArray, List.append_toArray, List.nil_append, List.cons_append]
  go_upto_region 1 with fail
  rw [HW0.out]
  go_wp2_with fail
  refine HCT.out.mono ?_
  rintro e w9 ⟨rfl, hw9⟩
  have hw9 := hw9.symm
  subst hw9
  clear HW0 HCT
  go_upto_region 3 with fail
  have hl : Hid (∀ w, Fr (fun _ => False) w1 w → _) := Lib.hid fun w (hf : Fr (fun _ => False) w1 w) => look_tm (HX1.out.ex.fr hf (fun _ _ _ h => h)).tm h.of_
  cases hft : fst l 13 h.of_ with
  | none =>
    have HR : Hid (incl (envD l) p (m + 1) op h ⟨cnt, ds.map DT.tree⟩ = (8, ⟨cnt + 1, ds.map DT.tree⟩)) := incl_none HNL.out (by rw [HETM.out, hft]; rfl)
    rw [hft] at hl
    refine Reg.G.start (by kernel_rfl) ?_
    obtain ⟨wD, hD⟩ : ∃ w, w1.drew = w := ⟨_, rfl⟩
    have HFD : Hid (Fr (fun _ => False) w1 wD) := by rw [← hD]; exact (Fr.refl _ w1).drew
    have HSwD : Hid (wD.heap.size = w1.heap.size) := by show _ = _; rw [← hD]; rfl
    rw [hD]
    clear hD
    refine' Reg.G.pure (i := 0) (v := _) rfl (by rfl) (by kernel_rfl) (by kernel_rfl) (by kernel_rfl) (fun _ _ _ h => h) ?hyn1 ?rehyn1
    case hyn1 => exact fun w => by first | (go_simp; done) | (go_simp; with_reducible rfl)
    simp only [Act.put, List.setIfInBounds_toArray, List.set_cons_zero, List.set_cons_succ]
    refine' Reg.G.pure (i := 1) (v := _) rfl (by rfl) (by kernel_rfl) (by kernel_rfl) (by kernel_rfl) (fun _ _ _ h => h) ?hyn2 ?rehyn2
    case hyn2 => exact fun w => by first | (go_simp; done) | (go_simp; with_reducible rfl)
    simp only [Act.put, List.setIfInBounds_toArray, List.set_cons_zero, List.set_cons_succ]
    refine' Reg.G.pure (i := 2) (v := _) rfl (by rfl) (by kernel_rfl) (by kernel_rfl) (by kernel_rfl) (fun _ _ _ h => h) ?hyn3 ?rehyn3
    case hyn3 => exact fun w => by first | (go_simp; done) | (go_simp; with_reducible rfl)
    simp only [Act.put, List.setIfInBounds_toArray, List.set_cons_zero, List.set_cons_succ]
    refine' Reg.G.take (i := 3) (v := _) (F := (fun w => Fr (fun _ => False) w1 w)) rfl (by rfl) (by kernel_rfl) (by kernel_rfl) (by kernel_rfl) (fun _ _ _ h => h) (HFD.out) ?hyn4 ?rehyn4
    case hyn4 => intro w hw; have kc : w.cell? ⟨B + 8, 0, none⟩ = some (.map (some B)) := (cell_of_blk (HX1.out.ex.fr hw (fun _ _ _ h => h)).blk 0).trans rfl; clear hw; first | (go_simp; done) | (go_simp; with_reducible rfl)
    simp only [Act.put, List.setIfInBounds_toArray, List.set_cons_zero, List.set_cons_succ]
    refine' Reg.G.pure (i := 4) (v := _) rfl (by rfl) (by kernel_rfl) (by kernel_rfl) (by kernel_rfl) (fun _ _ _ h => h) ?hyn5 ?rehyn5
    case hyn5 => exact fun w => by first | (go_simp; done) | (go_simp; with_reducible rfl)
    simp only [Act.put, List.setIfInBounds_toArray, List.set_cons_zero, List.set_cons_succ]
    refine' Reg.G.take (i := 5) (v := _) (F := (fun w => Fr (fun _ => False) w1 w)) rfl (by rfl) (by kernel_rfl) (by kernel_rfl) (by kernel_rfl) (fun _ _ _ h => h) (HFD.out) ?hyn6 ?rehyn6
    case hyn6 => intro w hw; have kc : w.cell? ⟨W.heap.size, 3, none⟩ = some (.string ⟨h.of_.toArray⟩) := (cell_of_blk (hw.blk HB1.out (fun h => h)) 3).trans rfl; clear hw; first | (go_simp; done) | (go_simp; with_reducible rfl)
    simp only [Act.put, List.setIfInBounds_toArray, List.set_cons_zero, List.set_cons_succ]
    refine' Reg.G.take (i := 6) (v := _) (F := (fun w => Fr (fun _ => False) w1 w)) rfl (by rfl) (by kernel_rfl) (by kernel_rfl) (by kernel_rfl) (fun _ _ _ h => h) (HFD.out) ?hyn7 ?rehyn7
    case hyn7 => intro w hw; have kc := hl.out w hw; clear hw; first | (go_simp; done) | (go_simp; with_reducible rfl)
    simp only [Act.put, List.setIfInBounds_toArray, List.set_cons_zero, List.set_cons_succ]
    refine' Reg.G.pure (i := 7) (v := _) rfl (by rfl) (by kernel_rfl) (by kernel_rfl) (by kernel_rfl) (fun _ _ _ h => h) ?hyn8 ?rehyn8
    case hyn8 => exact fun w => by first | (go_simp; done) | (go_simp; with_reducible rfl)
    simp only [Act.put, List.setIfInBounds_toArray, List.set_cons_zero, List.set_cons_succ]
    refine' Reg.G.pure (i := 8) (v := _) rfl (by rfl) (by kernel_rfl) (by kernel_rfl) (by kernel_rfl) (fun _ _ _ h => h) ?hyn9 ?rehyn9
    case hyn9 => exact fun w => by first | (go_simp; done) | (go_simp; with_reducible rfl)
    simp only [Act.put, List.setIfInBounds_toArray, List.set_cons_zero, List.set_cons_succ]
    refine' Reg.G.pure (i := 9) (v := _) rfl (by rfl) (by kernel_rfl) (by kernel_rfl) (by kernel_rfl) (fun _ _ _ h => h) ?hyn10 ?rehyn10
    case hyn10 => exact fun w => by first | (go_simp; done) | (go_simp; with_reducible rfl)
    simp only [Act.put, List.setIfInBounds_toArray, List.set_cons_zero, List.set_cons_succ]
    refine Reg.G.step (j := 10) (m := [true, true, true]) [6, 5, 3] rfl (by kernel_rfl) rfl (by kernel_rfl) (fun K hK => ?_)
    go_simp
    obtain ⟨wb, hwb⟩ : ∃ w, (wD).alloc (.cells #[.int .i64 0, .string ⟨#[]⟩, .int .i64 0, .string ⟨#[]⟩, .string ⟨#[]⟩, .int .i64 0, .int .i64 0, .int .i64 0, .bool false, .string ⟨#[]⟩, .int .i64 0, .bool false, .string ⟨#[]⟩, .slice none 0 0, .string ⟨#[]⟩, .string ⟨#[]⟩, .int .i64 0, .int .i64 0, .string ⟨#[]⟩, .string ⟨#[]⟩, .bool false, .string ⟨#[]⟩, .string ⟨#[]⟩, .bool false, .bool false, .bool false, .bool false, .bool false, .bool false, .bool false, .slice none 0 0, .slice none 0 0, .slice none 0 0] 41) = w := ⟨_, rfl⟩
    rw [hwb]
    have HSB : Hid (wb.heap[wD.heap.size]? = some (.cells #[.int .i64 0, .string ⟨#[]⟩, .int .i64 0, .string ⟨#[]⟩, .string ⟨#[]⟩, .int .i64 0, .int .i64 0, .int .i64 0, .bool false, .string ⟨#[]⟩, .int .i64 0, .bool false, .string ⟨#[]⟩, .slice none 0 0, .string ⟨#[]⟩, .string ⟨#[]⟩, .int .i64 0, .int .i64 0, .string ⟨#[]⟩, .string ⟨#[]⟩, .bool false, .string ⟨#[]⟩, .string ⟨#[]⟩, .bool false, .bool false, .bool false, .bool false, .bool false, .bool false, .bool false, .slice none 0 0, .slice none 0 0, .slice none 0 0] 41 (0, 0))) := by rw [← hwb]; exact blk_newn rfl
    have HFB : Hid (Fr (fun _ => False) w1 wb) := by rw [← hwb]; exact HFD.out.alloc _
    clear hwb
    refine hK.out _ _ ⟨HFB.out, HFB.out, HFB.out, trivial⟩ ?_
    clear hK K
    simp only [Act.put, List.setIfInBounds_toArray, List.set_cons_zero, List.set_cons_succ, Reg.Kept]
    refine Reg.G.step (j := 11) (m := [false, false, false]) [6, 5, 3] rfl (by kernel_rfl) rfl (by kernel_rfl) (fun K hK => ?_)
    refine wp_store_row 41 _ _ rfl wD.heap.size (#[.int .i64 0, .string ⟨#[]⟩, .int .i64 0, .string ⟨#[]⟩, .string ⟨#[]⟩, .int .i64 0, .int .i64 0, .int .i64 0, .bool false, .string ⟨#[]⟩, .int .i64 0, .bool false, .string ⟨#[]⟩, .slice none 0 0, .string ⟨#[]⟩, .string ⟨#[]⟩, .int .i64 0, .int .i64 0, .string ⟨#[]⟩, .string ⟨#[]⟩, .bool false, .string ⟨#[]⟩, .string ⟨#[]⟩, .bool false, .bool false, .bool false, .bool false, .bool false, .bool false, .bool false, .slice none 0 0, .slice none 0 0, .slice none 0 0]) rfl rfl 41 _ HSB.out (by rw [info_item]; rfl) rfl (by simp [Value.oneCell']) ?_
    obtain ⟨w3, hw3⟩ : ∃ w, wb.setRow wD.heap.size (#[.int .i64 0, .string ⟨#[]⟩, .int .i64 0, .string ⟨#[]⟩, .string ⟨#[]⟩, .int .i64 0, .int .i64 0, .int .i64 0, .bool false, .string ⟨#[]⟩, .int .i64 0, .bool false, .string ⟨#[]⟩, .slice none 0 0, .string ⟨#[]⟩, .string ⟨#[]⟩, .int .i64 0, .int .i64 0, .string ⟨#[]⟩, .string ⟨#[]⟩, .bool false, .string ⟨#[]⟩, .string ⟨#[]⟩, .bool false, .bool false, .bool false, .bool false, .bool false, .bool false, .bool false, .slice none 0 0, .slice none 0 0, .slice none 0 0]) = w := ⟨_, rfl⟩
    rw [hw3]
    have HSD : Hid (w3.heap[wD.heap.size]? = some (.cells (#[.int .i64 0, .string ⟨#[]⟩, .int .i64 0, .string ⟨#[]⟩, .string ⟨#[]⟩, .int .i64 0, .int .i64 0, .int .i64 0, .bool false, .string ⟨#[]⟩, .int .i64 0, .bool false, .string ⟨#[]⟩, .slice none 0 0, .string ⟨#[]⟩, .string ⟨#[]⟩, .int .i64 0, .int .i64 0, .string ⟨#[]⟩, .string ⟨#[]⟩, .bool false, .string ⟨#[]⟩, .string ⟨#[]⟩, .bool false, .bool false, .bool false, .bool false, .bool false, .bool false, .bool false, .slice none 0 0, .slice none 0 0, .slice none 0 0]) 41 (0, 0))) := by rw [← hw3]; exact blk_row HSB.out _
    have HFS : Hid (Fr (fun _ => False) w1 w3) := by rw [← hw3]; exact HFB.out.setRow (.inr (Nat.le_of_eq HSwD.out.symm)) _
    clear hw3
    refine hK.out _ _ trivial ?_
    clear hK K
    simp only [Act.put, List.setIfInBounds_toArray, List.set_cons_zero, List.set_cons_succ, Reg.Kept]
    refine' Reg.G.pure (i := 12) (v := _) rfl (by rfl) (by kernel_rfl) (by kernel_rfl) (by kernel_rfl) (fun _ _ _ h => h) ?hyn11 ?rehyn11
    case hyn11 => exact fun w => by first | (go_simp; done) | (go_simp; with_reducible rfl)
    simp only [Act.put, List.setIfInBounds_toArray, List.set_cons_zero, List.set_cons_succ]
    refine Reg.G.done (by kernel_rfl) ?_
    clear HSB HSD
    go_wp2_with fail
    refine Db.post_plain (results_tmp rfl _ _ _) ?_
    rw [HR.out]
    have HX3 : Hid (XS Q B l op sn (cnt + 1) iv ds w3) := HX1.out.fr HFS.out (fun _ _ _ h => h)
    exact ⟨rfl, ⟨⟨iv, ds, HX3.out, rfl, fun g hg => .inl hg⟩, HFW1.out.trans (HFS.out.mono (fun _ _ h => h.elim))⟩⟩
  | some t =>
    have HMEM : Hid (t ∈ l) := List.mem_of_find?_eq_some hft
    have HET : Hid ((envD l).tmpl h.of_ = some t.tree) := by show _ = _; rw [HETM.out, hft]; rfl
    have HTO := Lib.hid (HTK.out t HMEM.out (by have h := List.find?_some hft; simp only [decide_eq_true_eq] at h; exact h.1))
    have HTL : Hid (Lay (fun g => g < B) W t) := HT.out t HMEM.out
    have HTN : Hid (t.tree.h = t.h) := DT.tree_h t
    rw [hft] at hl
    have HTONE : Hid (t.cells.toArray.all (·.oneCell') = true) := HTL.out.one
    clear hft HETM
    refine Reg.G.start (by kernel_rfl) ?_
    obtain ⟨wD, hD⟩ : ∃ w, w1.drew = w := ⟨_, rfl⟩
    have HFD : Hid (Fr (fun _ => False) w1 wD) := by rw [← hD]; exact (Fr.refl _ w1).drew
    have HSwD : Hid (wD.heap.size = w1.heap.size) := by show _ = _; rw [← hD]; rfl
    rw [hD]
    clear hD
    refine' Reg.G.pure (i := 0) (v := _) rfl (by rfl) (by kernel_rfl) (by kernel_rfl) (by kernel_rfl) (fun _ _ _ h => h) ?hyv12 ?rehyv12
    case hyv12 => exact fun w => by first | (go_simp; done) | (go_simp; with_reducible rfl)
    simp only [Act.put, List.setIfInBounds_toArray, List.set_cons_zero, List.set_cons_succ]
    refine' Reg.G.pure (i := 1) (v := _) rfl (by rfl) (by kernel_rfl) (by kernel_rfl) (by kernel_rfl) (fun _ _ _ h => h) ?hyv13 ?rehyv13
    case hyv13 => exact fun w => by first | (go_simp; done) | (go_simp; with_reducible rfl)
    simp only [Act.put, List.setIfInBounds_toArray, List.set_cons_zero, List.set_cons_succ]
    refine' Reg.G.pure (i := 2) (v := _) rfl (by rfl) (by kernel_rfl) (by kernel_rfl) (by kernel_rfl) (fun _ _ _ h => h) ?hyv14 ?rehyv14
    case hyv14 => exact fun w => by first | (go_simp; done) | (go_simp; with_reducible rfl)
    simp only [Act.put, List.setIfInBounds_toArray, List.set_cons_zero, List.set_cons_succ]
    refine' Reg.G.take (i := 3) (v := _) (F := (fun w => Fr (fun _ => False) w1 w)) rfl (by rfl) (by kernel_rfl) (by kernel_rfl) (by kernel_rfl) (fun _ _ _ h => h) (HFD.out) ?hyv15 ?rehyv15
    case hyv15 => intro w hw; have kc : w.cell? ⟨B + 8, 0, none⟩ = some (.map (some B)) := (cell_of_blk (HX1.out.ex.fr hw (fun _ _ _ h => h)).blk 0).trans rfl; clear hw; first | (go_simp; done) | (go_simp; with_reducible rfl)
    simp only [Act.put, List.setIfInBounds_toArray, List.set_cons_zero, List.set_cons_succ]
    refine' Reg.G.pure (i := 4) (v := _) rfl (by rfl) (by kernel_rfl) (by kernel_rfl) (by kernel_rfl) (fun _ _ _ h => h) ?hyv16 ?rehyv16
    case hyv16 => exact fun w => by first | (go_simp; done) | (go_simp; with_reducible rfl)
    simp only [Act.put, List.setIfInBounds_toArray, List.set_cons_zero, List.set_cons_succ]
    refine' Reg.G.take (i := 5) (v := _) (F := (fun w => Fr (fun _ => False) w1 w)) rfl (by rfl) (by kernel_rfl) (by kernel_rfl) (by kernel_rfl) (fun _ _ _ h => h) (HFD.out) ?hyv17 ?rehyv17
    case hyv17 => intro w hw; have kc : w.cell? ⟨W.heap.size, 3, none⟩ = some (.string ⟨h.of_.toArray⟩) := (cell_of_blk (hw.blk HB1.out (fun h => h)) 3).trans rfl; clear hw; first | (go_simp; done) | (go_simp; with_reducible rfl)
    simp only [Act.put, List.setIfInBounds_toArray, List.set_cons_zero, List.set_cons_succ]
    refine' Reg.G.take (i := 6) (v := _) (F := (fun w => Fr (fun _ => False) w1 w)) rfl (by rfl) (by kernel_rfl) (by kernel_rfl) (by kernel_rfl) (fun _ _ _ h => h) (HFD.out) ?hyv18 ?rehyv18
    case hyv18 => intro w hw; have kc := hl.out w hw; clear hw; first | (go_simp; done) | (go_simp; with_reducible rfl)
    simp only [Act.put, List.setIfInBounds_toArray, List.set_cons_zero, List.set_cons_succ]
    refine' Reg.G.pure (i := 7) (v := _) rfl (by rfl) (by kernel_rfl) (by kernel_rfl) (by kernel_rfl) (fun _ _ _ h => h) ?hyv19 ?rehyv19
    case hyv19 => exact fun w => by first | (go_simp; done) | (go_simp; with_reducible rfl)
    simp only [Act.put, List.setIfInBounds_toArray, List.set_cons_zero, List.set_cons_succ]
    refine' Reg.G.pure (i := 8) (v := _) rfl (by rfl) (by kernel_rfl) (by kernel_rfl) (by kernel_rfl) (fun _ _ _ h => h) ?hyv20 ?rehyv20
    case hyv20 => exact fun w => by first | (go_simp; done) | (go_simp; with_reducible rfl)
    simp only [Act.put, List.setIfInBounds_toArray, List.set_cons_zero, List.set_cons_succ]
    refine' Reg.G.pure (i := 9) (v := _) rfl (by rfl) (by kernel_rfl) (by kernel_rfl) (by kernel_rfl) (fun _ _ _ h => h) ?hyv21 ?rehyv21
    case hyv21 => exact fun w => by first | (go_simp; done) | (go_simp; with_reducible rfl)
    simp only [Act.put, List.setIfInBounds_toArray, List.set_cons_zero, List.set_cons_succ]
    refine Reg.G.step (j := 10) (m := [true, true, true]) [6, 5, 3] rfl (by kernel_rfl) rfl (by kernel_rfl) (fun K hK => ?_)
    go_simp
    obtain ⟨wb, hwb⟩ : ∃ w, (wD).alloc (.cells #[.int .i64 0, .string ⟨#[]⟩, .int .i64 0, .string ⟨#[]⟩, .string ⟨#[]⟩, .int .i64 0, .int .i64 0, .int .i64 0, .bool false, .string ⟨#[]⟩, .int .i64 0, .bool false, .string ⟨#[]⟩, .slice none 0 0, .string ⟨#[]⟩, .string ⟨#[]⟩, .int .i64 0, .int .i64 0, .string ⟨#[]⟩, .string ⟨#[]⟩, .bool false, .string ⟨#[]⟩, .string ⟨#[]⟩, .bool false, .bool false, .bool false, .bool false, .bool false, .bool false, .bool false, .slice none 0 0, .slice none 0 0, .slice none 0 0] 41) = w := ⟨_, rfl⟩
    rw [hwb]
    have HSB : Hid (wb.heap[wD.heap.size]? = some (.cells #[.int .i64 0, .string ⟨#[]⟩, .int .i64 0, .string ⟨#[]⟩, .string ⟨#[]⟩, .int .i64 0, .int .i64 0, .int .i64 0, .bool false, .string ⟨#[]⟩, .int .i64 0, .bool false, .string ⟨#[]⟩, .slice none 0 0, .string ⟨#[]⟩, .string ⟨#[]⟩, .int .i64 0, .int .i64 0, .string ⟨#[]⟩, .string ⟨#[]⟩, .bool false, .string ⟨#[]⟩, .string ⟨#[]⟩, .bool false, .bool false, .bool false, .bool false, .bool false, .bool false, .bool false, .slice none 0 0, .slice none 0 0, .slice none 0 0] 41 (0, 0))) := by rw [← hwb]; exact blk_newn rfl
    have HFB : Hid (Fr (fun _ => False) w1 wb) := by rw [← hwb]; exact HFD.out.alloc _
    clear hwb
    refine hK.out _ _ ⟨HFB.out, HFB.out, HFB.out, trivial⟩ ?_
    clear hK K
    simp only [Act.put, List.setIfInBounds_toArray, List.set_cons_zero, List.set_cons_succ, Reg.Kept]
    refine Reg.G.step (j := 11) (m := [false, false, false]) [6, 5, 3] rfl (by kernel_rfl) rfl (by kernel_rfl) (fun K hK => ?_)
    refine wp_store_row 41 _ _ rfl wD.heap.size (t.cells.toArray) rfl rfl 41 _ HSB.out (info_it t) (cells_size t).symm HTONE.out ?_
    obtain ⟨w3, hw3⟩ : ∃ w, wb.setRow wD.heap.size (t.cells.toArray) = w := ⟨_, rfl⟩
    rw [hw3]
    have HSD : Hid (w3.heap[wD.heap.size]? = some (.cells (t.cells.toArray) 41 (0, 0))) := by rw [← hw3]; exact blk_row HSB.out _
    have HFS : Hid (Fr (fun _ => False) w1 w3) := by rw [← hw3]; exact HFB.out.setRow (.inr (Nat.le_of_eq HSwD.out.symm)) _
    clear hw3
    refine hK.out _ _ trivial ?_
    clear hK K
    simp only [Act.put, List.setIfInBounds_toArray, List.set_cons_zero, List.set_cons_succ, Reg.Kept]
    refine' Reg.G.pure (i := 12) (v := _) rfl (by rfl) (by kernel_rfl) (by kernel_rfl) (by kernel_rfl) (fun _ _ _ h => h) ?hyv22 ?rehyv22
    case hyv22 => exact fun w => by first | (go_simp; done) | (go_simp; with_reducible rfl)
    simp only [Act.put, List.setIfInBounds_toArray, List.set_cons_zero, List.set_cons_succ]
    refine Reg.G.done (by kernel_rfl) ?_
    have HX3 : Hid (XS Q B l op sn (cnt + 1) iv ds w3) := HX1.out.fr HFS.out (fun _ _ _ h => h)
    have HB3 : Hid (w3.heap[W.heap.size]? = some (.cells (icells h c d (.slice Ax h.names.length cx) i).toArray 41 (0, 0))) := HFS.out.blk HB1.out (fun h => h)
    have HFV3 : Hid (Fr (fun g => g = B + 8) W w3) := HFV1.out.trans' HFS.out (fun _ _ h => h.elim)
    have HFW3 : Hid (Fr (SX B iv) W w3) := HFV3.out.mono (fun g _ e => .inl ⟨by omega, by omega⟩)
    have HXL3 : Hid (Lay (fun g => ¬ (B ≤ g ∧ g ≤ B + 8)) w3 (.node h c d (.slice Ax h.names.length cx) i lst)) := HXL1.out.fr HFS.out (fun _ _ h => h)
    have HTL3 : Hid (Lay (fun g => g < B) w3 t) := HTL.out.fr HFV3.out (fun g hg e => by omega)
    obtain ⟨gT, hgT⟩ : ∃ g, wD.heap.size = g := ⟨_, rfl⟩
    have HGT : Hid (W.heap.size ≤ gT) := by show _ ≤ _; rw [← hgT, HSwD.out]; exact HFV1.out.size
    rw [hgT]
    rw [hgT] at HSD
    clear HSB HFB HFS HFD HB1 HFV1 HFW1 HXL1 HX1 hgT HSwD hl HTL
    obtain ⟨th, tc, td, tn, ti, tl⟩ := t
    dsimp only [DT.h] at HTN
    obtain ⟨At, ct, htn, ht1, ht2⟩ := HTL3.out.names.slice
    dsimp only [DT.n, DT.h] at htn
    rw [List.length_map] at htn
    subst htn
    rw [List.length_map] at ht1
    obtain ⟨Ai, ci, hti, ht3, ht4⟩ := HTL3.out.items.slice
    dsimp only [DT.i, DT.l] at hti
    subst hti
    dsimp only [DT.l] at ht3
    dsimp only [DT.h] at ht1
    have hzt : th.names.length ≤ 9223372036854775807 := by omega
    have hzi : tl.length ≤ 9223372036854775807 := by omega
    clear ht1 ht2 ht3 ht4
    have HSD : Hid (w3.heap[gT]? = some (.cells (icells th tc td (.slice At th.names.length ct) (.slice Ai tl.length ci)).toArray 41 (0, 0))) := HSD
    have HNT : Hid ((DT.node th tc td (.slice At th.names.length ct) (.slice Ai tl.length ci) tl).tree.h = th) := HTN.out
    have kx : w3.cell? ⟨W.heap.size, 31, none⟩ = some (.slice Ax h.names.length cx) := (cell_of_blk HB3.out 31).trans rfl
    have kt : w3.cell? ⟨gT, 31, none⟩ = some (.slice At th.names.length ct) := (cell_of_blk HSD.out 31).trans rfl
    by_cases hnl : (h.names.length : Int) = (th.names.length : Int)
    case neg =>
      have HR : Hid (incl (envD l) p (m + 1) op h ⟨cnt, ds.map DT.tree⟩ = (1, ⟨cnt + 1, ds.map DT.tree⟩)) := incl_arg HNL.out HET.out (by rw [HNT.out]; omega)
      have hne : ((h.names.length : Int) != (th.names.length : Int)) = true := by simpa using hnl
      clear hnl
      go_wp2_with fail
      refine Db.post_plain (results_tmp rfl _ _ _) ?_
      rw [HR.out]
      exact ⟨rfl, ⟨⟨iv, ds, HX3.out, rfl, fun g hg => .inl hg⟩, HFW3.out⟩⟩
    have HNLN : Hid (h.names.length = th.names.length) := by show _ = _; omega
    have hne : ((h.names.length : Int) != (th.names.length : Int)) = false := by simpa using hnl
    clear hnl
    go_upto_region 8 with fail
    clear kx kt hne
    by_cases hop : th.name ∈ op
    case pos =>
      have HR : Hid (incl (envD l) p (m + 1) op h ⟨cnt, ds.map DT.tree⟩ = (12, ⟨cnt + 1, ds.map DT.tree⟩)) := incl_cyc HNL.out HET.out (by rw [HNT.out]; exact HNLN.out) (by rw [HNT.out]; exact hop)
      have hl : Hid (∀ w, Fr (fun _ => False) w3 w → _) := Lib.hid fun w (hf : Fr (fun _ => False) w3 w) => look_op (HX3.out.ex.fr hf (fun _ _ _ h => h)).inc th.name true (decide_eq_true hop)
      clear hop
      refine Reg.G.start (by kernel_rfl) ?_
      obtain ⟨wE, hD⟩ : ∃ w, w3.drew = w := ⟨_, rfl⟩
      have HFE : Hid (Fr (fun _ => False) w3 wE) := by rw [← hD]; exact (Fr.refl _ w3).drew
      have HSwE : Hid (wE.heap.size = w3.heap.size) := by show _ = _; rw [← hD]; rfl
      rw [hD]
      clear hD
      refine' Reg.G.pure (i := 0) (v := _) rfl (by rfl) (by kernel_rfl) (by kernel_rfl) (by kernel_rfl) (fun _ _ _ h => h) ?hyy23 ?rehyy23
      case hyy23 => exact fun w => by first | (go_simp; done) | (go_simp; with_reducible rfl)
      simp only [Act.put, List.setIfInBounds_toArray, List.set_cons_zero, List.set_cons_succ]
      refine' Reg.G.pure (i := 1) (v := _) rfl (by rfl) (by kernel_rfl) (by kernel_rfl) (by kernel_rfl) (fun _ _ _ h => h) ?hyy24 ?rehyy24
      case hyy24 => exact fun w => by first | (go_simp; done) | (go_simp; with_reducible rfl)
      simp only [Act.put, List.setIfInBounds_toArray, List.set_cons_zero, List.set_cons_succ]
      refine' Reg.G.pure (i := 2) (v := _) rfl (by rfl) (by kernel_rfl) (by kernel_rfl) (by kernel_rfl) (fun _ _ _ h => h) ?hyy25 ?rehyy25
      case hyy25 => exact fun w => by first | (go_simp; done) | (go_simp; with_reducible rfl)
      simp only [Act.put, List.setIfInBounds_toArray, List.set_cons_zero, List.set_cons_succ]
      refine' Reg.G.take (i := 3) (v := _) (F := (fun w => Fr (fun _ => False) w3 w)) rfl (by rfl) (by kernel_rfl) (by kernel_rfl) (by kernel_rfl) (fun _ _ _ h => h) (HFE.out) ?hyy26 ?rehyy26
      case hyy26 => intro w hw; have kc : w.cell? ⟨B + 8, 3, none⟩ = some (.map (some (B + 3))) := (cell_of_blk (HX3.out.ex.fr hw (fun _ _ _ h => h)).blk 3).trans rfl; clear hw; first | (go_simp; done) | (go_simp; with_reducible rfl)
      simp only [Act.put, List.setIfInBounds_toArray, List.set_cons_zero, List.set_cons_succ]
      refine' Reg.G.pure (i := 4) (v := _) rfl (by rfl) (by kernel_rfl) (by kernel_rfl) (by kernel_rfl) (fun _ _ _ h => h) ?hyy27 ?rehyy27
      case hyy27 => exact fun w => by first | (go_simp; done) | (go_simp; with_reducible rfl)
      simp only [Act.put, List.setIfInBounds_toArray, List.set_cons_zero, List.set_cons_succ]
      refine' Reg.G.take (i := 5) (v := _) (F := (fun w => Fr (fun _ => False) w3 w)) rfl (by rfl) (by kernel_rfl) (by kernel_rfl) (by kernel_rfl) (fun _ _ _ h => h) (HFE.out) ?hyy28 ?rehyy28
      case hyy28 => intro w hw; have kc : w.cell? ⟨gT, 1, none⟩ = some (.string ⟨th.name.toArray⟩) := (cell_of_blk (hw.blk HSD.out (fun h => h)) 1).trans rfl; clear hw; first | (go_simp; done) | (go_simp; with_reducible rfl)
      simp only [Act.put, List.setIfInBounds_toArray, List.set_cons_zero, List.set_cons_succ]
      refine' Reg.G.take (i := 6) (v := _) (F := (fun w => Fr (fun _ => False) w3 w)) rfl (by rfl) (by kernel_rfl) (by kernel_rfl) (by kernel_rfl) (fun _ _ _ h => h) (HFE.out) ?hyy29 ?rehyy29
      case hyy29 => intro w hw; have kc := hl.out w hw; clear hw; first | (go_simp; done) | (go_simp; with_reducible rfl)
      simp only [Act.put, List.setIfInBounds_toArray, List.set_cons_zero, List.set_cons_succ]
      refine Reg.G.done (by kernel_rfl) ?_
      go_wp2_with fail
      refine Db.post_plain (results_tmp rfl _ _ _) ?_
      rw [HR.out]
      have HXE : Hid (XS Q B l op sn (cnt + 1) iv ds wE) := HX3.out.fr HFE.out (fun _ _ _ h => h)
      exact ⟨rfl, ⟨⟨iv, ds, HXE.out, rfl, fun g hg => .inl hg⟩, HFW3.out.trans (HFE.out.mono (fun _ _ h => h.elim))⟩⟩
    have HOP := Lib.hid hop
    have hl : Hid (∀ w, Fr (fun _ => False) w3 w → _) := Lib.hid fun w (hf : Fr (fun _ => False) w3 w) => look_op (HX3.out.ex.fr hf (fun _ _ _ h => h)).inc th.name false (decide_eq_false hop)
    clear hop
    refine Reg.G.start (by kernel_rfl) ?_
    obtain ⟨wE, hD⟩ : ∃ w, w3.drew = w := ⟨_, rfl⟩
    have HFE : Hid (Fr (fun _ => False) w3 wE) := by rw [← hD]; exact (Fr.refl _ w3).drew
    have HSwE : Hid (wE.heap.size = w3.heap.size) := by show _ = _; rw [← hD]; rfl
    rw [hD]
    clear hD
    refine' Reg.G.pure (i := 0) (v := _) rfl (by rfl) (by kernel_rfl) (by kernel_rfl) (by kernel_rfl) (fun _ _ _ h => h) ?hyz30 ?rehyz30
    case hyz30 => exact fun w => by first | (go_simp; done) | (go_simp; with_reducible rfl)
    simp only [Act.put, List.setIfInBounds_toArray, List.set_cons_zero, List.set_cons_succ]
    refine' Reg.G.pure (i := 1) (v := _) rfl (by rfl) (by kernel_rfl) (by kernel_rfl) (by kernel_rfl) (fun _ _ _ h => h) ?hyz31 ?rehyz31
    case hyz31 => exact fun w => by first | (go_simp; done) | (go_simp; with_reducible rfl)
    simp only [Act.put, List.setIfInBounds_toArray, List.set_cons_zero, List.set_cons_succ]
    refine' Reg.G.pure (i := 2) (v := _) rfl (by rfl) (by kernel_rfl) (by kernel_rfl) (by kernel_rfl) (fun _ _ _ h => h) ?hyz32 ?rehyz32
    case hyz32 => exact fun w => by first | (go_simp; done) | (go_simp; with_reducible rfl)
    simp only [Act.put, List.setIfInBounds_toArray, List.set_cons_zero, List.set_cons_succ]
    refine' Reg.G.take (i := 3) (v := _) (F := (fun w => Fr (fun _ => False) w3 w)) rfl (by rfl) (by kernel_rfl) (by kernel_rfl) (by kernel_rfl) (fun _ _ _ h => h) (HFE.out) ?hyz33 ?rehyz33
    case hyz33 => intro w hw; have kc : w.cell? ⟨B + 8, 3, none⟩ = some (.map (some (B + 3))) := (cell_of_blk (HX3.out.ex.fr hw (fun _ _ _ h => h)).blk 3).trans rfl; clear hw; first | (go_simp; done) | (go_simp; with_reducible rfl)
    simp only [Act.put, List.setIfInBounds_toArray, List.set_cons_zero, List.set_cons_succ]
    refine' Reg.G.pure (i := 4) (v := _) rfl (by rfl) (by kernel_rfl) (by kernel_rfl) (by kernel_rfl) (fun _ _ _ h => h) ?hyz34 ?rehyz34
    case hyz34 => exact fun w => by first | (go_simp; done) | (go_simp; with_reducible rfl)
    simp only [Act.put, List.setIfInBounds_toArray, List.set_cons_zero, List.set_cons_succ]
    refine' Reg.G.take (i := 5) (v := _) (F := (fun w => Fr (fun _ => False) w3 w)) rfl (by rfl) (by kernel_rfl) (by kernel_rfl) (by kernel_rfl) (fun _ _ _ h => h) (HFE.out) ?hyz35 ?rehyz35
    case hyz35 => intro w hw; have kc : w.cell? ⟨gT, 1, none⟩ = some (.string ⟨th.name.toArray⟩) := (cell_of_blk (hw.blk HSD.out (fun h => h)) 1).trans rfl; clear hw; first | (go_simp; done) | (go_simp; with_reducible rfl)
    simp only [Act.put, List.setIfInBounds_toArray, List.set_cons_zero, List.set_cons_succ]
    refine' Reg.G.take (i := 6) (v := _) (F := (fun w => Fr (fun _ => False) w3 w)) rfl (by rfl) (by kernel_rfl) (by kernel_rfl) (by kernel_rfl) (fun _ _ _ h => h) (HFE.out) ?hyz36 ?rehyz36
    case hyz36 => intro w hw; have kc := hl.out w hw; clear hw; first | (go_simp; done) | (go_simp; with_reducible rfl)
    simp only [Act.put, List.setIfInBounds_toArray, List.set_cons_zero, List.set_cons_succ]
    refine Reg.G.done (by kernel_rfl) ?_
    have HXE : Hid (XS Q B l op sn (cnt + 1) iv ds wE) := HX3.out.fr HFE.out (fun _ _ _ h => h)
    have HFWE : Hid (Fr (SX B iv) W wE) := HFW3.out.trans (HFE.out.mono (fun _ _ h => h.elim))
    have HBE : Hid (wE.heap[W.heap.size]? = some (.cells (icells h c d (.slice Ax h.names.length cx) i).toArray 41 (0, 0))) := HFE.out.blk HB3.out (fun h => h)
    have HTE : Hid (wE.heap[gT]? = some (.cells (icells th tc td (.slice At th.names.length ct) (.slice Ai tl.length ci)).toArray 41 (0, 0))) := HFE.out.blk HSD.out (fun h => h)
    have HFVE : Hid (Fr (fun g => g = B + 8) W wE) := HFV3.out.trans' HFE.out (fun _ _ h => h.elim)
    have HXLE : Hid (Lay (fun g => ¬ (B ≤ g ∧ g ≤ B + 8)) wE (.node h c d (.slice Ax h.names.length cx) i lst)) := HXL3.out.fr HFE.out (fun _ _ h => h)
    have HTLE : Hid (Lay (fun g => g < B) wE (.node th tc td (.slice At th.names.length ct) (.slice Ai tl.length ci) tl)) := HTL3.out.fr HFE.out (fun _ _ h => h)
    clear HX3 HFW3 HB3 HSD HFV3 HXL3 HTL3 hl HFE HSwE
    have kn : wE.cell? ⟨W.heap.size, 1, none⟩ = some (.string ⟨h.name.toArray⟩) := (cell_of_blk HBE.out 1).trans rfl
    have hzn : h.name.length ≤ 9223372036854775807 := by have := HXN.out; omega
    by_cases hxl : 24 < h.name.length
    case pos =>
      have HR : Hid (incl (envD l) p (m + 1) op h ⟨cnt, ds.map DT.tree⟩ = (3, ⟨cnt + 1, ds.map DT.tree⟩)) := incl_nam HNL.out HET.out (by rw [HNT.out]; exact HNLN.out) (by rw [HNT.out]; exact HOP.out) hxl
      go_wp2_with fail
      refine Db.post_plain (results_tmp rfl _ _ _) ?_
      rw [HR.out]
      exact ⟨rfl, ⟨⟨iv, ds, HXE.out, rfl, fun g hg => .inl hg⟩, HFWE.out⟩⟩
    have hxs : h.name.length ≤ 24 := by omega
    have HXS := Lib.hid hxs
    have HR : Hid (incl (envD l) p (m + 1) op h ⟨cnt, ds.map DT.tree⟩ = each (stepF (envD l) p m op (DT.node th tc td (.slice At th.names.length ct) (.slice Ai tl.length ci) tl).tree h) (tl.map DT.tree) ⟨cnt + 1, ds.map DT.tree⟩) := by
      have h1 := incl_go (p := p) (n := m) (s := ⟨cnt, ds.map DT.tree⟩) HNL.out HET.out (by rw [HNT.out]; exact HNLN.out) (by rw [HNT.out]; exact HOP.out) hxl
      rw [DT.tree_l] at h1
      exact h1
    go_upto_region 12 with fail
    clear kn hxl hxs
    refine Reg.G.start (by kernel_rfl) ?_
    obtain ⟨wG, hD⟩ : ∃ w, wE.drew = w := ⟨_, rfl⟩
    have HFG : Hid (Fr (fun _ => False) wE wG) := by rw [← hD]; exact (Fr.refl _ wE).drew
    have HSwG : Hid (wG.heap.size = wE.heap.size) := by show _ = _; rw [← hD]; rfl
    rw [hD]
    clear hD
    refine' Reg.G.pure (i := 0) (v := _) rfl (by rfl) (by kernel_rfl) (by kernel_rfl) (by kernel_rfl) (fun _ _ _ h => h) ?hys37 ?rehys37
    case hys37 => exact fun w => by first | (go_simp; done) | (go_simp; with_reducible rfl)
    simp only [Act.put, List.setIfInBounds_toArray, List.set_cons_zero, List.set_cons_succ]
    refine' Reg.G.pure (i := 1) (v := _) rfl (by rfl) (by kernel_rfl) (by kernel_rfl) (by kernel_rfl) (fun _ _ _ h => h) ?hys38 ?rehys38
    case hys38 => exact fun w => by first | (go_simp; done) | (go_simp; with_reducible rfl)
    simp only [Act.put, List.setIfInBounds_toArray, List.set_cons_zero, List.set_cons_succ]
    refine' Reg.G.pure (i := 2) (v := _) rfl (by rfl) (by kernel_rfl) (by kernel_rfl) (by kernel_rfl) (fun _ _ _ h => h) ?hys39 ?rehys39
    case hys39 => exact fun w => by first | (go_simp; done) | (go_simp; with_reducible rfl)
    simp only [Act.put, List.setIfInBounds_toArray, List.set_cons_zero, List.set_cons_succ]
    refine' Reg.G.take (i := 3) (v := _) (F := (fun w => Fr (fun _ => False) wE w)) rfl (by rfl) (by kernel_rfl) (by kernel_rfl) (by kernel_rfl) (fun _ _ _ h => h) (HFG.out) ?hys40 ?rehys40
    case hys40 => intro w hw; have kc : w.cell? ⟨B + 8, 3, none⟩ = some (.map (some (B + 3))) := (cell_of_blk (HXE.out.ex.fr hw (fun _ _ _ h => h)).blk 3).trans rfl; clear hw; first | (go_simp; done) | (go_simp; with_reducible rfl)
    simp only [Act.put, List.setIfInBounds_toArray, List.set_cons_zero, List.set_cons_succ]
    refine' Reg.G.pure (i := 4) (v := _) rfl (by rfl) (by kernel_rfl) (by kernel_rfl) (by kernel_rfl) (fun _ _ _ h => h) ?hys41 ?rehys41
    case hys41 => exact fun w => by first | (go_simp; done) | (go_simp; with_reducible rfl)
    simp only [Act.put, List.setIfInBounds_toArray, List.set_cons_zero, List.set_cons_succ]
    refine' Reg.G.take (i := 5) (v := _) (F := (fun w => Fr (fun _ => False) wE w)) rfl (by rfl) (by kernel_rfl) (by kernel_rfl) (by kernel_rfl) (fun _ _ _ h => h) (HFG.out) ?hys42 ?rehys42
    case hys42 => intro w hw; have kc : w.cell? ⟨gT, 1, none⟩ = some (.string ⟨th.name.toArray⟩) := (cell_of_blk (hw.blk HTE.out (fun h => h)) 1).trans rfl; clear hw; first | (go_simp; done) | (go_simp; with_reducible rfl)
    simp only [Act.put, List.setIfInBounds_toArray, List.set_cons_zero, List.set_cons_succ]
    refine Reg.G.step (j := 6) (m := [false, false]) [5, 3] rfl (by kernel_rfl) rfl (by kernel_rfl) (fun K hK => ?_)
    have HXG : Hid (XS Q B l op sn (cnt + 1) iv ds wG) := HXE.out.fr HFG.out (fun _ _ _ h => h)
    obtain ⟨w4, hrun, hx4, hf4⟩ := HXG.out.opened th.name
    have HX4 := Lib.hid hx4
    have HF4 : Hid (Fr (fun g => g = B + 3) wE w4) := (HFG.out.mono (fun _ _ h => h.elim)).trans hf4
    clear hx4 hf4
    refine Mp.wp_up 70 _ _ _ (.inl rfl) rfl rfl rfl hrun ?_
    clear hrun HXG
    refine hK.out _ _ trivial ?_
    clear hK K
    simp only [Act.put, List.setIfInBounds_toArray, List.set_cons_zero, List.set_cons_succ, Reg.Kept]
    refine Reg.G.done (by kernel_rfl) ?_
    have HF48 : Hid (Fr (fun g => B ≤ g ∧ g ≤ B + 8) W w4) := (HFVE.out.mono (T := fun g => B ≤ g ∧ g ≤ B + 8) (fun g _ e => ⟨by omega, by omega⟩)).trans (HF4.out.mono (fun g _ e => ⟨by omega, by omega⟩))
    have HFW4 : Hid (Fr (SX B iv) W w4) := HF48.out.mono (fun g _ e => .inl e)
    have HB4 : Hid (w4.heap[W.heap.size]? = some (.cells (icells h c d (.slice Ax h.names.length cx) i).toArray 41 (0, 0))) := HF4.out.blk HBE.out (fun e => by have := HGB.out; omega)
    have HT4 : Hid (w4.heap[gT]? = some (.cells (icells th tc td (.slice At th.names.length ct) (.slice Ai tl.length ci)).toArray 41 (0, 0))) := HF4.out.blk HTE.out (fun e => by have h1 := HGB.out; have h2 := HGT.out; omega)
    have HXL4 : Hid (Lay (fun g => ¬ (B ≤ g ∧ g ≤ B + 8)) w4 (.node h c d (.slice Ax h.names.length cx) i lst)) := HXLE.out.fr HF4.out (fun g hg e => hg ⟨by omega, by omega⟩)
    have HTL4 : Hid (Lay (fun g => g < B) w4 (.node th tc td (.slice At th.names.length ct) (.slice Ai tl.length ci) tl)) := HTLE.out.fr HF4.out (fun g hg e => by omega)
    clear HXE HFWE HBE HTE HFVE HXLE HTLE HFG HSwG HF4
    go_upto_region 13 with fail
    refine Reg.G.start (by kernel_rfl) ?_
    obtain ⟨wH, hD⟩ : ∃ w, w4.drew = w := ⟨_, rfl⟩
    have HFH : Hid (Fr (fun _ => False) w4 wH) := by rw [← hD]; exact (Fr.refl _ w4).drew
    have HSwH : Hid (wH.heap.size = w4.heap.size) := by show _ = _; rw [← hD]; rfl
    rw [hD]
    clear hD
    refine' Reg.G.pure (i := 0) (v := _) rfl (by rfl) (by kernel_rfl) (by kernel_rfl) (by kernel_rfl) (fun _ _ _ h => h) ?hyt43 ?rehyt43
    case hyt43 => exact fun w => by first | (go_simp; done) | (go_simp; with_reducible rfl)
    simp only [Act.put, List.setIfInBounds_toArray, List.set_cons_zero, List.set_cons_succ]
    refine' Reg.G.pure (i := 1) (v := _) rfl (by rfl) (by kernel_rfl) (by kernel_rfl) (by kernel_rfl) (fun _ _ _ h => h) ?hyt44 ?rehyt44
    case hyt44 => exact fun w => by first | (go_simp; done) | (go_simp; with_reducible rfl)
    simp only [Act.put, List.setIfInBounds_toArray, List.set_cons_zero, List.set_cons_succ]
    refine' Reg.G.pure (i := 2) (v := _) rfl (by rfl) (by kernel_rfl) (by kernel_rfl) (by kernel_rfl) (fun _ _ _ h => h) ?hyt45 ?rehyt45
    case hyt45 => exact fun w => by first | (go_simp; done) | (go_simp; with_reducible rfl)
    simp only [Act.put, List.setIfInBounds_toArray, List.set_cons_zero, List.set_cons_succ]
    refine' Reg.G.take (i := 3) (v := _) (F := (fun w => Fr (fun _ => False) w4 w)) rfl (by rfl) (by kernel_rfl) (by kernel_rfl) (by kernel_rfl) (fun _ _ _ h => h) (HFH.out) ?hyt46 ?rehyt46
    case hyt46 => intro w hw; have kc : w.cell? ⟨B + 8, 3, none⟩ = some (.map (some (B + 3))) := (cell_of_blk (HX4.out.ex.fr hw (fun _ _ _ h => h)).blk 3).trans rfl; clear hw; first | (go_simp; done) | (go_simp; with_reducible rfl)
    simp only [Act.put, List.setIfInBounds_toArray, List.set_cons_zero, List.set_cons_succ]
    refine' Reg.G.pure (i := 4) (v := _) rfl (by rfl) (by kernel_rfl) (by kernel_rfl) (by kernel_rfl) (fun _ _ _ h => h) ?hyt47 ?rehyt47
    case hyt47 => exact fun w => by first | (go_simp; done) | (go_simp; with_reducible rfl)
    simp only [Act.put, List.setIfInBounds_toArray, List.set_cons_zero, List.set_cons_succ]
    refine' Reg.G.take (i := 5) (v := _) (F := (fun w => Fr (fun _ => False) w4 w)) rfl (by rfl) (by kernel_rfl) (by kernel_rfl) (by kernel_rfl) (fun _ _ _ h => h) (HFH.out) ?hyt48 ?rehyt48
    case hyt48 => intro w hw; have kc : w.cell? ⟨gT, 1, none⟩ = some (.string ⟨th.name.toArray⟩) := (cell_of_blk (hw.blk HT4.out (fun h => h)) 1).trans rfl; clear hw; first | (go_simp; done) | (go_simp; with_reducible rfl)
    simp only [Act.put, List.setIfInBounds_toArray, List.set_cons_zero, List.set_cons_succ]
    refine Reg.G.step (j := 6) (m := [false, false]) [5, 3] rfl (by kernel_rfl) rfl (by kernel_rfl) (fun K hK => ?_)
    go_simp
    refine hK.out _ _ trivial ?_
    clear hK K
    simp only [Act.put, List.setIfInBounds_toArray, List.set_cons_zero, List.set_cons_succ, Reg.Kept]
    refine Reg.G.done (by kernel_rfl) ?_
    have HX5 : Hid (XS Q B l (th.name :: op) sn (cnt + 1) iv ds wH) := HX4.out.fr HFH.out (fun _ _ _ h => h)
    have HFW5 : Hid (Fr (SX B iv) W wH) := HFW4.out.trans (HFH.out.mono (fun _ _ h => h.elim))
    have HB5 : Hid (wH.heap[W.heap.size]? = some (.cells (icells h c d (.slice Ax h.names.length cx) i).toArray 41 (0, 0))) := HFH.out.blk HB4.out (fun h => h)
    have HT5 : Hid (wH.heap[gT]? = some (.cells (icells th tc td (.slice At th.names.length ct) (.slice Ai tl.length ci)).toArray 41 (0, 0))) := HFH.out.blk HT4.out (fun h => h)
    have HXL5 : Hid (Lay (fun g => g < wH.heap.size) wH (.node h c d (.slice Ax h.names.length cx) i lst)) := (HXL4.out.fr HFH.out (fun _ _ h => h)).mono (fun g h1 _ => h1)
    have HTL5 : Hid (Lay (fun g => g < B) wH (.node th tc td (.slice At th.names.length ct) (.slice Ai tl.length ci) tl)) := HTL4.out.fr HFH.out (fun _ _ h => h)
    have HW5 : Hid (W.heap.size ≤ wH.heap.size) := HFW5.out.size
    clear HX4 HFW4 HB4 HT4 HXL4 HTL4 HFH HSwH HF48
    have HIN := Lib.hid (instantiation_any (.node th tc td (.slice At th.names.length ct) (.slice Ai tl.length ci) tl) (.node h c d (.slice Ax h.names.length cx) i lst) wH (HTL5.out.mono (fun g h1 _ => h1)) HXL5.out HNLN.out HTO.out.len HTO.out.names)
    go_upto_region 14 with fail
    iterate 1 go_step
    refine wpList_load_row rfl 41 _ rfl gT rfl 41 (icells th tc td (.slice At th.names.length ct) (.slice Ai tl.length ci)).toArray (0, 0) _ HT5.out Try.underlying41 rfl (by rw [info_item]; rfl) ?_
    simp only [Act.put, List.setIfInBounds_toArray, List.set_cons_zero, List.set_cons_succ]
    refine wpList_load_row rfl 41 _ rfl W.heap.size rfl 41 (icells h c d (.slice Ax h.names.length cx) i).toArray (0, 0) _ HB5.out Try.underlying41 rfl (by rw [info_item]; rfl) ?_
    simp only [Act.put, List.setIfInBounds_toArray, List.set_cons_zero, List.set_cons_succ]
    go_wp2_with fail
    refine HIN.out.mono ?_
    rintro e w6 ⟨q, rfl, hins, hge, hf6⟩
    have HI6 := Lib.hid hins; have HGE := Lib.hid hge; have HF6 := Lib.hid hf6
    clear hins hge hf6 HIN
    have HX6 : Hid (XS Q B l (th.name :: op) sn (cnt + 1) iv ds w6) := HX5.out.fr HF6.out (fun _ _ _ h => h)
    have HFW6 : Hid (Fr (SX B iv) W w6) := HFW5.out.trans (HF6.out.mono (fun _ _ h => h.elim))
    have HT6 : Hid (w6.heap[gT]? = some (.cells (icells th tc td (.slice At th.names.length ct) (.slice Ai tl.length ci)).toArray 41 (0, 0))) := HF6.out.blk HT5.out (fun h => h)
    have HTL6 : Hid (Lay (fun g => g < B) w6 (.node th tc td (.slice At th.names.length ct) (.slice Ai tl.length ci) tl)) := HTL5.out.fr HF6.out (fun _ _ h => h)
    clear HX5 HFW5 HB5 HT5 HXL5 HTL5 HF6
    have k32 : w6.cell? ⟨gT, 32, none⟩ = some (.slice Ai tl.length ci) := (cell_of_blk HT6.out 32).trans rfl
    obtain ⟨tt, htt⟩ : ∃ t : DT, t = .node th tc td (.slice At th.names.length ct) (.slice Ai tl.length ci) tl := ⟨_, rfl⟩
    have HTT := Lib.hid htt
    have HNM : Hid (tt.h.name = th.name) := by show _ = _; rw [htt]; rfl
    have HTLN : Hid (tt.l = tl) := by show _ = _; rw [htt]; rfl
    have HRS : Hid (IncR Q B l op sn iv w6 tt h p m (incl (envD l) p (m + 1) op h ⟨cnt, ds.map DT.tree⟩) 0 ⟨cnt + 1, ds.map DT.tree⟩ iv ds w6) := by
      refine ⟨?_, rfl, HI.out.up, ?_, ?_, fun g hg => .inl hg, Fr.refl _ _, ?_⟩
      · rw [HNM.out]; exact HX6.out
      · have := HLE.out; show cnt + 1 ≤ 600; omega
      · have := HN.out; show 601 ≤ m + (cnt + 1); omega
      · rw [HR.out, HTLN.out, htt]; rfl
    have HII : Hid (InsF tt.h.names h.names (.node h c d (.slice Ax h.names.length cx) i lst) tt.l q w6) := by show InsF _ _ _ _ _ _; rw [htt]; exact HI6.out
    have HTTL : Hid (Lay (fun g => g < B) w6 tt) := by show Lay _ _ _; rw [htt]; exact HTL6.out
    have HTTO : Hid (TOk tt) := by show TOk _; rw [htt]; exact HTO.out
    have HTIV : Hid (LayL (fun g => g < B) w6 tl (.slice Ai tl.length ci)) := HTL6.out.items
    clear htt HTL6 HI6 HX6 HTO HT6
    go_upto_region 16 with fail
    clear k32
    go_wp2_with fail
    go_loopw [64] (fun iv2 wr => ∃ (k : Nat) (s : St) (ivk : Value) (dk : List DT), iv2 = .int .i64 k ∧ k ≤ tl.length ∧ Hid (IncR Q B l op sn iv w6 tt h p m (incl (envD l) p (m + 1) op h ⟨cnt, ds.map DT.tree⟩) k s ivk dk wr)) (fun i _ => tl.length - (intOf i).toNat)
    case atStart => exact ⟨0, _, _, _, rfl, Nat.zero_le _, HRS⟩
    case round =>
      clear HRS
      obtain ⟨k, s, ivk, dk, rfl, hk, HRK⟩ := hrel
      have i1 : (0 : Int) ≤ (k : Int) := Int.natCast_nonneg _
      by_cases hlt : k < tl.length
      · have i2 : (k : Int) < (tl.length : Int) := by omega
        obtain ⟨sc, so⟩ := s
        obtain rfl : dk.map DT.tree = so := HRK.out.out
        obtain ⟨y, hy⟩ : ∃ y, tl[k]? = some y := ⟨_, List.getElem?_eq_getElem hlt⟩
        have HY : Hid (tt.l[k]? = some y) := by show _ = _; rw [HTLN.out]; exact hy
        have HMY : Hid (y ∈ tt.l) := List.mem_of_getElem? HY.out
        have HKK := Lib.hid hlt
        have HTV : Hid (LayL (fun g => g < B) wr tl (.slice Ai tl.length ci)) := HTIV.out.fr HRK.out.fr (fun g hg e => by rcases e with e | e; omega; have := (HIW.out g e).1; omega)
        obtain ⟨g, o, hA, hg, hgB, hat⟩ := HTV.out.at hy
        subst hA
        have HAT := Lib.hid hat
        have HYL : Hid (Lay (fun g => g < B) wr y) := HTV.out.lay y (List.mem_of_getElem? hy)
        have HIr : Hid (InsF tt.h.names h.names (.node h c d (.slice Ax h.names.length cx) i lst) tt.l q wr) := HII.out.fr HRK.out.fr HGE.out (fun g h1 _ e => by have h2 := HW5.out; have h3 := HGB.out; rcases e with e | e; omega; have := (HIW.out g e).2; omega)
        have HTr : Hid (∀ z ∈ l, Lay (fun g => g < B) wr z) := fun z hz => (HT.out z hz).fr (HFW6.out.trans HRK.out.fr) (fun g hg e => by rcases e with e | e; omega; have := (HIW.out g e).1; omega)
        have HWr : Hid (W.heap.size ≤ wr.heap.size) := (HFW6.out.trans HRK.out.fr).size
        clear hy hat hlt hg hgB HTV
        go_upto_region 17 with fail
        iterate 4 go_step
        refine wpList_load_mid rfl 41 _ rfl g (o + k * 33) rfl y.cells _ HAT.out Try.underlying41 rfl (info_itl y) ?_
        simp only [Act.put, List.setIfInBounds_toArray, List.set_cons_zero, List.set_cons_succ]
        iterate 3 go_step
        refine wpList_store_row rfl 41 _ _ rfl wr.heap.size y.cells.toArray rfl rfl 41 _ (blk_newn rfl) (info_it y) (cells_size y).symm HYL.out.one ?_
        simp only [Act.put, List.setIfInBounds_toArray, List.set_cons_zero, List.set_cons_succ]
        rw [World.setRow_alloc_new]
        obtain ⟨w7, hw7⟩ : ∃ w, wr.alloc (.cells y.cells.toArray 41) = w := ⟨_, rfl⟩
        rw [hw7]
        have HF7 : Hid (Fr (fun _ => False) wr w7) := by rw [← hw7]; exact (Fr.refl _ wr).alloc _
        have HB7 : Hid (w7.heap[wr.heap.size]? = some (.cells y.cells.toArray 41 (0, 0))) := by rw [← hw7]; exact blk_newn rfl
        have HI7 : Hid (InsF tt.h.names h.names (.node h c d (.slice Ax h.names.length cx) i lst) tt.l q w7) := HIr.out.fr HF7.out HGE.out (fun _ _ _ h => h)
        have HYS : Hid (Short y) := HTTO.out.sh y HMY.out
        have HYN : Hid (y.h.name.length ≤ 900000) := HTTO.out.nm y HMY.out
        have HYC := Lib.hid (HTTO.out.cond y HMY.out)
        have HTI := Lib.hid (tin_any tt (.node h c d (.slice Ax h.names.length cx) i lst) y q 0 w7 HI7.out ((HYL.out.fr HF7.out (fun _ _ h => h)).mono (fun g h1 _ => h1)) HYS.out HXN.out (Nat.le_trans HYN.out (by omega)) HYC.out)
        have HTC : Hid (tt.tree.h = tt.h) := DT.tree_h tt
        have HYT : Hid (y.tree.h = y.h) := DT.tree_h y
        have HIC := Lib.hid (isClause_any y.h.kind w7)
        obtain ⟨b, hb⟩ : ∃ b, isClause y.h.kind = b := ⟨_, rfl⟩
        have HBC := Lib.hid hb
        rw [hb] at HIC
        have k0 : w7.cell? ⟨wr.heap.size, 0, none⟩ = some (.int .i64 y.h.kind) := by rw [cell_of_blk HB7.out, DT.cells_eq]; rfl
        have HHN : Hid ((DT.node h c d (.slice Ax h.names.length cx) i lst).h = h) := rfl
        clear hw7 hb HAT HYL HIr
        go_wp2_with fail
        refine HIC.out.mono ?_
        rintro e wq ⟨rfl, hwq⟩
        have hwq := hwq.symm
        subst hwq
        clear HIC
        cases b with
        | true =>
          clear k0
          go_upto_region 20 with fail
          iterate 7 go_step
          refine wpList_load_row rfl 41 _ rfl wr.heap.size rfl 41 y.cells.toArray (0, 0) _ HB7.out Try.underlying41 rfl (info_it y) ?_
          simp only [Act.put, List.setIfInBounds_toArray, List.set_cons_zero, List.set_cons_succ]
          go_wp2_with fail
          refine HTI.out.mono ?_
          rintro e w8 ⟨z, rfl, hz1, hz2, hz3⟩
          have HZT := Lib.hid hz1; have HZL := Lib.hid hz2
          have HF8 : Hid (Fr (fun _ => False) wr w8) := HF7.out.trans hz3
          have HZN : Hid (z.h.name.length ≤ 1000000) := by
            show _ ≤ _
            rw [← DT.tree_h z, hz1, inst_name, HYT.out]
            have h1 := HXS.out; have h2 := HYN.out
            show (h.name ++ dot :: y.h.name).length ≤ _
            rw [List.length_append, List.length_cons]; omega
          clear hz1 hz2 hz3 HTI
          go_wp2_with fail
          have HXZ : Hid (XS Q B l (tt.h.name :: op) sn sc ivk dk w8) := HRK.out.xs.fr HF8.out (fun _ _ _ h => h)
          have HCL := included_any z p w8 HXZ.out (HZL.out.mono (fun g _ hg => ⟨by have h1 := HF7.out.size; have h2 := HWr.out; have h3 := HGB.out; omega, fun e => by have h1 := (own_lt HRK.out.xs.own g e).2; have h2 := HF7.out.size; omega⟩)) (fun x hx => (HTr.out x hx).one) (by have := HRK.out.le; show sc ≤ 1000; dsimp only at this; omega) (by have h1 := HRK.out.inv.2; have h2 := HRK.out.le; dsimp only at h1 h2; rw [List.length_map] at h1; omega) HZN.out
          obtain ⟨qv, hqv⟩ : ∃ v, included (envD l) z.tree p ⟨sc, dk.map DT.tree⟩ = v := ⟨_, rfl⟩
          rw [hqv] at HCL
          have HCL := Lib.hid HCL
          have HQ : Hid (stepF (envD l) p m op tt.tree h y.tree ⟨sc, dk.map DT.tree⟩ = qv) := by
            show _ = _
            rw [← hqv, HZT.out]
            unfold stepF
            rw [HYT.out, if_pos HBC.out, HHN.out]
          clear hqv
          refine HCL.out.mono ?_
          rintro e w9 ⟨rfl, hst⟩
          have HST := Lib.hid hst
          clear hst HCL
          by_cases h0 : qv.1 = 0
          · obtain ⟨iv', ds', hrn⟩ := HRK.out.step HY.out HF8.out HQ.out h0 HST.out
            have HRN := Lib.hid hrn
            have hb0 : (qv.1 != 0) = false := by simpa using h0
            clear hrn h0 HST HRK HQ
            go_wp2_with fail
            go_roundw
            case rel => first | exact ⟨k + 1, _, _, _, by go_num, HKK.out, HRN⟩ | (trace_state; fail)
            case measure => have := HKK.out; first | (simp [intOf]; done) | (simp [intOf]; omega)
          · obtain ⟨hr, hst⟩ := HRK.out.stop HY.out HF8.out HQ.out h0 HST.out
            rw [HNM.out] at hst
            have HRR := Lib.hid hr
            obtain ⟨w2, hdel, hs2⟩ := Step.closed 0 #[false, false] HOP.out HFW6.out hst
            have HDL := Lib.hid hdel; have HS2 := Lib.hid hs2
            have hb1 : (qv.1 != 0) = true := by simpa using h0
            clear hr hst hdel hs2 h0
            go_wp2_with fail
            refine Db.post_deferred HDL.out (results_tmp rfl _ _ _) ?_
            rw [HRR.out]
            exact ⟨rfl, HS2.out⟩
        | false =>
          by_cases h14 : y.h.kind = 14
          · have HK14 := Lib.hid h14
            have hk1 : (y.h.kind == 14) = true := by simpa using h14
            clear h14
            go_upto_region 22 with fail
            clear k0 hk1
            iterate 7 go_step
            refine wpList_load_row rfl 41 _ rfl wr.heap.size rfl 41 y.cells.toArray (0, 0) _ HB7.out Try.underlying41 rfl (info_it y) ?_
            simp only [Act.put, List.setIfInBounds_toArray, List.set_cons_zero, List.set_cons_succ]
            go_wp2_with fail
            refine HTI.out.mono ?_
            rintro e w8 ⟨z, rfl, hz1, hz2, hz3⟩
            have HZT := Lib.hid hz1; have HZL := Lib.hid hz2
            have HF8 : Hid (Fr (fun _ => False) wr w8) := HF7.out.trans hz3
            have HZN : Hid (z.h.name.length ≤ 1000000) := by
              show _ ≤ _
              rw [← DT.tree_h z, hz1, inst_name, HYT.out]
              have h1 := HXS.out; have h2 := HYN.out
              show (h.name ++ dot :: y.h.name).length ≤ _
              rw [List.length_append, List.length_cons]; omega
            clear hz1 hz2 hz3 HTI
            go_wp2_with fail
            have HXZ : Hid (XS Q B l (tt.h.name :: op) sn sc ivk dk w8) := HRK.out.xs.fr HF8.out (fun _ _ _ h => h)
            have HCL := IH.out m (Nat.lt_succ_self m) z p w8 HXZ.out (HZL.out.mono (fun g _ hg h4 => by have h1 := HF7.out.size; have h2 := HWr.out; have h3 := HGB.out; omega)) (fun x hx => (HTr.out x hx).fr HF8.out (fun _ _ h => h)) HTK.out HRK.out.fuel (Nat.le_trans HRK.out.le (by omega)) HRK.out.inv HZN.out
            obtain ⟨qv, hqv⟩ : ∃ v, incl (envD l) p m (tt.h.name :: op) z.h ⟨sc, dk.map DT.tree⟩ = v := ⟨_, rfl⟩
            rw [hqv] at HCL
            have HCL := Lib.hid HCL
            have HQ : Hid (stepF (envD l) p m op tt.tree h y.tree ⟨sc, dk.map DT.tree⟩ = qv) := by
              show _ = _
              rw [← hqv, ← DT.tree_h z, HZT.out]
              unfold stepF
              rw [HYT.out, if_neg (by rw [HBC.out]; decide), if_pos HK14.out, HTC.out, HHN.out]
            clear hqv
            refine HCL.out.mono ?_
            rintro e w9 ⟨rfl, hst⟩
            have HST := Lib.hid hst
            clear hst HCL
            by_cases h0 : qv.1 = 0
            · obtain ⟨iv', ds', hrn⟩ := HRK.out.step HY.out HF8.out HQ.out h0 HST.out
              have HRN := Lib.hid hrn
              have hb0 : (qv.1 != 0) = false := by simpa using h0
              clear hrn h0 HST HRK HQ
              go_wp2_with fail
              go_roundw
              case rel => first | exact ⟨k + 1, _, _, _, by go_num, HKK.out, HRN⟩ | (trace_state; fail)
              case measure => have := HKK.out; first | (simp [intOf]; done) | (simp [intOf]; omega)
            · obtain ⟨hr, hst⟩ := HRK.out.stop HY.out HF8.out HQ.out h0 HST.out
              rw [HNM.out] at hst
              have HRR := Lib.hid hr
              obtain ⟨w2, hdel, hs2⟩ := Step.closed 0 #[false, false] HOP.out HFW6.out hst
              have HDL := Lib.hid hdel; have HS2 := Lib.hid hs2
              have hb1 : (qv.1 != 0) = true := by simpa using h0
              clear hr hst hdel hs2 h0
              go_wp2_with fail
              refine Db.post_deferred HDL.out (results_tmp rfl _ _ _) ?_
              rw [HRR.out]
              exact ⟨rfl, HS2.out⟩
          · have HK14 := Lib.hid h14
            have hk1 : (y.h.kind == 14) = false := by simpa using h14
            clear h14
            have HQ : Hid (stepF (envD l) p m op tt.tree h y.tree ⟨sc, dk.map DT.tree⟩ = (1, ⟨sc, dk.map DT.tree⟩)) := by
              show _ = _
              unfold stepF
              rw [HYT.out, if_neg (by rw [HBC.out]; decide), if_neg HK14.out]
            have HX7 : Hid (XS Q B l (tt.h.name :: op) sn sc ivk dk w7) := HRK.out.xs.fr HF7.out (fun _ _ _ h => h)
            obtain ⟨hr, hst⟩ := HRK.out.stop HY.out HF7.out HQ.out (by show (1 : Int) ≠ 0; decide) (⟨⟨ivk, dk, HX7.out, rfl, fun g hg => .inl hg⟩, Fr.refl _ _⟩ : Step Q B l (tt.h.name :: op) sn ivk w7 ⟨sc, dk.map DT.tree⟩ w7)
            rw [HNM.out] at hst
            have HRR := Lib.hid hr
            obtain ⟨w2, hdel, hs2⟩ := Step.closed 0 #[false, false] HOP.out HFW6.out hst
            have HDL := Lib.hid hdel; have HS2 := Lib.hid hs2
            clear hr hst hdel hs2
            go_wp2_with fail
            refine Db.post_deferred HDL.out (results_tmp rfl _ _ _) ?_
            rw [HRR.out]
            exact ⟨rfl, HS2.out⟩
      · obtain rfl : k = tl.length := by omega
        have h1 := HRK.out
        rw [← HTLN.out] at h1
        obtain ⟨hr, hst⟩ := h1.over
        rw [HNM.out] at hst
        have HRR := Lib.hid hr
        obtain ⟨w2, hdel, hs2⟩ := Step.closed 0 #[false, false] HOP.out HFW6.out hst
        have HDL := Lib.hid hdel; have HS2 := Lib.hid hs2
        clear hr hst hdel hs2 h1
        go_wp2_with fail
        refine Db.post_deferred HDL.out (results_tmp rfl _ _ _) ?_
        rw [HRR.out]
        exact ⟨rfl, HS2.out⟩
end Go.Proofs.Yticakdajhmfpoaa.Ic
