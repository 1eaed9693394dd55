/-
  What the reference's function member returns.
-/
import Derived.Test.YtdhjibnkebbejaaDoorResRefA
import Derived.Test.YtdhjibnkebbejaaDoorReg
import Derived.Deep.DeepCutAuto
namespace Go.Proofs.YtdhjibnkebbejaaDoor.Rs
open Go.RowKit Mem Vw
set_option linter.unusedVariables false
set_option linter.unusedSimpArgs false

/-- The error of a member, before names are looked up. -/
def rerr0 (t : Tab) (x : Item) : Int := if group x.kind = 0 then 0 else if (t (group x.kind)).contains x.name then 9 else if (t (group x.kind)).length < most (group x.kind) then 0 else 3
theorem rix_sign (t : Tab) (g : Nat) (x : Bytes) : ((t g).contains x = true ∧ 0 ≤ rix t g x) ∨ ((t g).contains x = false ∧ rix t g x = -1) := by
  unfold rix find
  cases hf : (t g).findIdx? (· == x) with
  | none =>
    right
    rw [List.findIdx?_eq_none_iff] at hf
    refine ⟨?_, rfl⟩
    rw [← Bool.not_eq_true, List.contains_iff_mem]
    intro hm
    have := hf x hm
    simp at this
  | some i =>
    left
    rw [List.findIdx?_eq_some_iff_getElem] at hf
    obtain ⟨h1, h2, _⟩ := hf
    refine ⟨?_, Int.natCast_nonneg _⟩
    rw [List.contains_iff_mem]
    have : (t g)[i] = x := by simpa using h2
    rw [← this]
    exact List.getElem_mem h1
theorem wp_builtR {o : Oper} {a : Act} {w : World} {K : Act → World → Prop} {Q : Exit → Act → World → Prop} (t : TypeId) (n : Nat) (parts : Array (Nat × Operand)) (hop : o.op = .buildSlice t n parts) (ps : Array (Nat × Value))
    (hp : parts.map (fun (i, x) => (i, a.eval x)) = ps) (v : Value) (w' : World) (hb : (Instr.buildSlice t n ps).run Tryd.prog w = .ok v w') (h : K (a.put o.dst v) w') : o.wp Tryd.prog a w K Q := by
  unfold Oper.wp
  simp [execOp, hop, hp, hb, Result.andThen]
  exact h
theorem group_lt (k : Int) : group k < 6 := by
  unfold group
  repeat' split
  all_goals omega
set_option maxRecDepth 100000 in
set_option maxHeartbeats 4000000 in
theorem rmember_any (t : Tab) (vs : List Value) (p : Item × Sl) (W : World) (h : TV W t vs) : Calls Tryd.prog 30 #[.agg vs.toArray, .agg (ic p).toArray] W fun e w' => e = .returned (.int .i64 (rerr0 t p.1)) ∧ Fr (fun _ => False) W w' := by
  obtain ⟨x, sc, sd, sn, sx⟩ := p
  dsimp only
  obtain ⟨u, hu⟩ : ∃ u, (W.alloc (.cells vs.toArray 100)).alloc (.cells (ic (x, sc, sd, sn, sx)).toArray 55) = u := ⟨_, rfl⟩
  have HX : Hid (u.heap[W.heap.size]? = some (.cells vs.toArray 100 (0, 0))) := by rw [← hu]; exact blk_alloc (blk_newn rfl) _
  have HY : Hid (u.heap[W.heap.size + 1]? = some (.cells (ic (x, sc, sd, sn, sx)).toArray 55 (0, 0))) := by rw [← hu]; exact blk_newn (by simp)
  have HFR : Hid (Fr (fun _ => False) W u) := by rw [← hu]; exact ((Fr.refl _ W).alloc _).alloc _
  have HU := Lib.hid hu
  have HT := Lib.hid h
  have HG := Lib.hid (rgroup_any x.kind u)
  have k0 : u.cell? ⟨W.heap.size + 1, 0, none⟩ = some (.int .i64 x.kind) := (cell_of_blk HY.out 0).trans rfl
  have k1 : u.cell? ⟨W.heap.size + 1, 1, none⟩ = some (.string ⟨x.name.toArray⟩) := (cell_of_blk HY.out 1).trans rfl
  clear hu h HY
  obtain ⟨r, hr0⟩ : ∃ r, rerr0 t x = r := ⟨_, rfl⟩
  rw [hr0]
  have HR0 := Lib.hid hr0
  clear hr0
  go_enter Tryd.func30, Tryd.ntmps30
  go_upto_region 1 with fail
  rw [HU.out]
  clear HU
  go_wp2_with fail
  refine HG.out.mono ?_
  rintro e w ⟨rfl, rfl⟩
  clear HG
  have hg6 := group_lt x.kind
  by_cases hg : group x.kind = 0
  · have e0 : rerr0 t x = 0 := if_pos hg
    obtain rfl := HR0.out.symm.trans e0
    clear e0 HR0
    rw [hg]
    go_wp2_with fail
    go_ret
    exact ⟨rfl, HFR.out⟩
  obtain ⟨g, hgg⟩ : ∃ g, group x.kind = g := ⟨_, rfl⟩
  have e0 : rerr0 t x = if (t g).contains x.name then 9 else if (t g).length < most g then 0 else 3 := by unfold rerr0; rw [if_neg hg, hgg]
  have HRE : Hid (r = if (t g).contains x.name then 9 else if (t g).length < most g then 0 else 3) := HR0.out.symm.trans e0
  clear e0 HR0
  rw [hgg] at hg hg6 ⊢
  clear hgg
  obtain ⟨A, c, hv, hr⟩ := HT.out.at hg6
  have HVG : Hid (w.cell? ⟨W.heap.size, g, none⟩ = some (.slice A (t g).length c)) := by show _ = _; rw [cell_of_blk HX.out, ← hv]; simp
  have hle := hr.len
  rw [List.length_map] at hle
  clear hv hr
  have hg0 : ((g : Int) == 0) = false := by simpa using hg
  have g0 : (0 : Int) ≤ (g : Int) := Int.natCast_nonneg _
  have g6 : (g : Int) < 6 := by omega
  have HIX := Lib.hid (rindex_any t vs g x.name w hg6 (HT.out.frb HFR.out))
  have HMO : Hid (∀ W' : World, Calls Tryd.prog 51 #[.int .i64 (g : Int)] W' fun e w' => e = .returned (.int .i64 ((most g : Nat) : Int)) ∧ Fr (fun _ => False) W' w') := fun W' => rmost_any g W' (by omega) hg6
  have HG6 := Lib.hid hg6; have HGN := Lib.hid hg
  clear hg6 hg
  go_upto_region 4 with fail
  iterate 1 go_step
  refine wpList_load_row rfl 100 _ rfl W.heap.size rfl 100 vs.toArray (0, 0) _ HX.out Tryd.underlying100 rfl (by rw [show vs.toArray.size = 6 from HT.out.len]; kernel_rfl) ?_
  simp only [Act.put, List.setIfInBounds_toArray, List.set_cons_zero, List.set_cons_succ]
  go_wp2_with fail
  refine HIX.out.mono ?_
  rintro e w1 ⟨rfl, hf1⟩
  have HF1 := Lib.hid hf1
  have HVG1 : Hid (w1.cell? ⟨W.heap.size, g, none⟩ = some (.slice A (t g).length c)) := cell_fr HF1.out HVG.out
  clear hf1 HIX k0 k1 HVG HX
  rcases rix_sign t g x.name with ⟨h1, h2⟩ | ⟨h1, h2⟩
  · obtain rfl : r = 9 := HRE.out.trans (if_pos h1)
    clear h1 HRE
    go_wp2_with fail
    go_ret
    exact ⟨rfl, HFR.out.trans HF1.out⟩
  · have HRF : Hid (r = if (t g).length < most g then 0 else 3) := HRE.out.trans (if_neg (by rw [h1]; decide))
    rw [h2]
    clear h1 h2 HRE
    go_upto_region 6 with fail
    refine Reg.G.start (by kernel_rfl) ?_
    refine' Reg.G.pure (i := 0) (v := _) rfl (by rfl) (by kernel_rfl) (by kernel_rfl) (by kernel_rfl) (fun _ _ _ h => h) ?hyr6_0 ?rer6_0
    case hyr6_0 => exact fun w => by first | (go_simp; done) | (go_simp; with_reducible rfl)
    simp only [Act.put, List.setIfInBounds_toArray, List.set_cons_zero, List.set_cons_succ]
    refine' Reg.G.pure (i := 1) (v := _) rfl (by rfl) (by kernel_rfl) (by kernel_rfl) (by kernel_rfl) (fun _ _ _ h => h) ?hyr6_1 ?rer6_1
    case hyr6_1 => exact fun w => by first | (go_simp; done) | (go_simp; with_reducible rfl)
    simp only [Act.put, List.setIfInBounds_toArray, List.set_cons_zero, List.set_cons_succ]
    refine' Reg.G.pure (i := 2) (v := _) rfl (by rfl) (by kernel_rfl) (by kernel_rfl) (by kernel_rfl) (fun _ _ _ h => h) ?hyr6_2 ?rer6_2
    case hyr6_2 => exact fun w => by first | (go_simp; done) | (go_simp; with_reducible rfl)
    simp only [Act.put, List.setIfInBounds_toArray, List.set_cons_zero, List.set_cons_succ]
    refine' Reg.G.take (i := 3) (v := _) (F := (fun w => w.cell? ⟨W.heap.size, g, none⟩ = some (.slice A (t g).length c))) rfl (by rfl) (by kernel_rfl) (by kernel_rfl) (by kernel_rfl) (fun _ _ _ h => h) (HVG1.out) ?hyr6_3 ?rer6_3
    case hyr6_3 => intro w hw; first | (go_simp; done) | (go_simp; with_reducible rfl)
    simp only [Act.put, List.setIfInBounds_toArray, List.set_cons_zero, List.set_cons_succ]
    refine' Reg.G.pure (i := 4) (v := _) rfl (by rfl) (by kernel_rfl) (by kernel_rfl) (by kernel_rfl) (fun _ _ _ h => h) ?hyr6_4 ?rer6_4
    case hyr6_4 => exact fun w => by first | (go_simp; done) | (go_simp; with_reducible rfl)
    simp only [Act.put, List.setIfInBounds_toArray, List.set_cons_zero, List.set_cons_succ]
    refine' Reg.G.pure (i := 5) (v := _) rfl (by rfl) (by kernel_rfl) (by kernel_rfl) (by kernel_rfl) (fun _ _ _ h => h) ?hyr6_5 ?rer6_5
    case hyr6_5 => exact fun w => by first | (go_simp; done) | (go_simp; with_reducible rfl)
    simp only [Act.put, List.setIfInBounds_toArray, List.set_cons_zero, List.set_cons_succ]
    refine Reg.G.step (j := 6) (m := [true]) [3] rfl (by kernel_rfl) rfl (by kernel_rfl) (fun K hK => ?_)
    -- Op.call { callee := Callee.value (func 51), args := #[t22], argTypes := #[3] }
    go_simp
    refine (HMO.out _).mono ?_
    rintro e w2 ⟨rfl, hf2⟩
    have HF2 : Hid (Fr (fun _ => False) w1 w2) := ((Fr.refl _ w1).drew).trans hf2
    clear hf2
    refine hK.out _ _ ⟨cell_fr HF2.out HVG1.out, trivial⟩ ?_
    clear hK K
    simp only [Act.put, List.setIfInBounds_toArray, List.set_cons_zero, List.set_cons_succ, Reg.Kept]
    refine' Reg.G.pure (i := 7) (v := _) rfl (by rfl) (by kernel_rfl) (by kernel_rfl) (by kernel_rfl) (fun _ _ _ h => h) ?hyr6_7 ?rer6_7
    case hyr6_7 => exact fun w => by first | (go_simp; done) | (go_simp; with_reducible rfl)
    simp only [Act.put, List.setIfInBounds_toArray, List.set_cons_zero, List.set_cons_succ]
    refine Reg.G.done (by kernel_rfl) ?_
    by_cases hlt : (t g).length < most g
    · obtain rfl : r = 0 := HRF.out.trans (if_pos hlt)
      clear HRF
      have hl2 : ¬ (((most g : Nat) : Int) ≤ ((t g).length : Int)) := by omega
      clear hlt
      go_wp2_with fail
      go_ret
      exact ⟨rfl, (HFR.out.trans HF1.out).trans HF2.out⟩
    · obtain rfl : r = 3 := HRF.out.trans (if_neg hlt)
      clear HRF
      have hl2 : ((most g : Nat) : Int) ≤ ((t g).length : Int) := by omega
      clear hlt
      go_wp2_with fail
      go_ret
      exact ⟨rfl, (HFR.out.trans HF1.out).trans HF2.out⟩
end Go.Proofs.YtdhjibnkebbejaaDoor.Rs
