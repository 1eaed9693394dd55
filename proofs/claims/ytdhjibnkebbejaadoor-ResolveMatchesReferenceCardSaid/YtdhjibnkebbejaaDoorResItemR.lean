/-
  What the resolver's method item does: a role.
-/
import Derived.Test.YtdhjibnkebbejaaDoorResItemP
namespace Go.Proofs.YtdhjibnkebbejaaDoor.Rs
open Go.RowKit Mem Vw
set_option linter.unusedVariables false
set_option linter.unusedSimpArgs false

set_option maxRecDepth 100000 in
set_option maxHeartbeats 4000000 in
theorem item_role (src : Source) (t : Tab) (s : Sy) (B q hm : Nat) (mi : Nat → Nat) (mem : Value) (H : RH) (cl : List (ClauseSym × Value)) (x : Item) (sl : Sl) (W Wa : World) (h : ItemPre src t s B q hm mi mem H cl x sl W Wa) (hk : x.kind = 2) :
    Calls Tryd.prog 28 #[.pointer (some ⟨q, 0, none⟩), .agg (ic (x, sl)).toArray, .bool true, .bool false] W (ItemPost src t { s with roles := s.roles ++ [(x.name, ix t 1 x.of_)] } (err8 (has t 1 x.of_)) B q hm mi mem H.flt (rowsOf s H cl) W) := by
  obtain ⟨u0, HU⟩ : ∃ u0, Hid (W.alloc (.cells (ic (x, sl)).toArray 55) = u0) := ⟨_, rfl⟩
  have HI0 : Hid (IB W.heap.size x sl u0) := by rw [← HU.out]; exact blk_newn rfl
  have k0 : u0.cell? ⟨W.heap.size, 0, none⟩ = some (.int .i64 x.kind) := cell_of_blk HI0.out 0
  have hWu : W.heap.size < u0.heap.size := lt_of_blk HI0.out
  obtain ⟨u1, HU1⟩ : ∃ u1, Hid (u0.alloc (.cells #[.pointer (some ⟨q, 0, none⟩), .bool true] 127) = u1) := ⟨_, rfl⟩
  have HRW := Lib.hid h.rs
  have HR : Hid (RS src t s B q hm mi mem H cl u1) := by rw [← HU1.out, ← HU.out]; exact (h.rs.alloc _).alloc _
  have HF : Hid (Fr (Wr q hm (rowsOf s H cl)) W u1) := by rw [← HU1.out, ← HU.out]; exact ((Fr.refl _ W).alloc _).alloc _
  have HI : Hid (IB W.heap.size x sl u1) := by rw [← HU1.out]; exact blk_alloc HI0.out _
  have HL : Hid (LS t B q u0.heap.size true u1) := by
    refine ⟨HR.out.tb, ?_, ?_⟩
    · rw [← HU1.out]; exact blk_newn rfl
    · have := HRW.out.le; omega
  have hlB : B ≤ u0.heap.size := by have := HRW.out.le; omega
  have hq1 := h.rs.ne
  have hqB : q < B := hq1.2.2.1
  clear hq1
  have hu1 : u0.heap.size < u1.heap.size := lt_of_blk HL.out.lb
  have HRL : Hid (∀ r ∈ rowsOf s H cl, ∀ g, r.v.ownBlock = some g → B ≤ g ∧ g < W.heap.size) := fun r hr g hg => h.rs.rows.lt hr hg
  have HBA : Hid (Below Wa.heap.size Wa u1) := by
    have h1 := h.ba
    refine h1.trans (HF.out.below h1.size (fun k hk => ?_))
    have := h.bq
    rcases hk with rfl | rfl | ⟨r, hr, e⟩
    · omega
    · omega
    · have := (h.rs.rows.lt hr e).1
      omega
  have HP := Lib.hid h; clear h
  have HG : Hid (group 2 = 2) := rfl
  rw [hk] at k0
  have k1 : u1.cell? ⟨W.heap.size, 0, none⟩ = some (.int .i64 2) := by rw [← hk]; exact cell_of_blk HI.out 0
  clear hk
  obtain ⟨hh, hp, hr, hu, ha, hc, hf⟩ := H
  obtain ⟨Ar, cAr, hpe⟩ : ∃ A c, hr = .slice A s.roles.length c := own_form (HR.out.rows.ok ⟨59, 2, hr, s.roles.length, (s.roles.flatMap rolev)⟩ (by simp [rowsOf]))
  subst hpe
  have QC := (HR.out.vq 14 rfl).1
  have HRD := Lib.hid HR.out.drew
  have HLD := Lib.hid HL.out.drew
  have HID : Hid (IB W.heap.size x sl u1.drew) := HI.out
  have HBD : Hid (Below Wa.heap.size Wa u1.drew) := below_drewN HBA.out 1
  have HFD := Lib.hid HF.out.drew
  obtain ⟨i0, hi, hz0, hz1, hz2⟩ := info_parts info_role
  go_enter Tryd.func28, Tryd.ntmps28
  go_upto_region 1 with fail
  rw [HU.out]
  clear HU
  go_wp2_with fail
  refine (groupOf_any 2 _).mono ?_
  rw [HG.out]
  rintro e w1 ⟨rfl, rfl⟩
  go_wp2_with fail
  rw [HU1.out]
  clear HU1
  refine Reg.G.start (by kernel_rfl) ?_
  refine' Reg.G.pure (i := 0) (v := _) rfl (by rfl) (by kernel_rfl) (by kernel_rfl) (by kernel_rfl) (fun _ _ _ h => h) ?hyr24_0 ?rer24_0
  case hyr24_0 => exact fun w => by first | (go_simp; done) | (go_simp; with_reducible rfl)
  simp only [Act.put, List.setIfInBounds_toArray, List.set_cons_zero, List.set_cons_succ]
  refine' Reg.G.pure (i := 1) (v := _) rfl (by rfl) (by kernel_rfl) (by kernel_rfl) (by kernel_rfl) (fun _ _ _ h => h) ?hyr24_1 ?rer24_1
  case hyr24_1 => exact fun w => by first | (go_simp; done) | (go_simp; with_reducible rfl)
  simp only [Act.put, List.setIfInBounds_toArray, List.set_cons_zero, List.set_cons_succ]
  refine' Reg.G.pure (i := 2) (v := _) rfl (by rfl) (by kernel_rfl) (by kernel_rfl) (by kernel_rfl) (fun _ _ _ h => h) ?hyr24_2 ?rer24_2
  case hyr24_2 => exact fun w => by first | (go_simp; done) | (go_simp; with_reducible rfl)
  simp only [Act.put, List.setIfInBounds_toArray, List.set_cons_zero, List.set_cons_succ]
  refine' Reg.G.pure (i := 3) (v := _) rfl (by rfl) (by kernel_rfl) (by kernel_rfl) (by kernel_rfl) (fun _ _ _ h => h) ?hyr24_3 ?rer24_3
  case hyr24_3 => exact fun w => by first | (go_simp; done) | (go_simp; with_reducible rfl)
  simp only [Act.put, List.setIfInBounds_toArray, List.set_cons_zero, List.set_cons_succ]
  refine' Reg.G.pure (i := 4) (v := _) rfl (by rfl) (by kernel_rfl) (by kernel_rfl) (by kernel_rfl) (fun _ _ _ h => h) ?hyr24_4 ?rer24_4
  case hyr24_4 => exact fun w => by first | (go_simp; done) | (go_simp; with_reducible rfl)
  simp only [Act.put, List.setIfInBounds_toArray, List.set_cons_zero, List.set_cons_succ]
  refine' Reg.G.take (i := 5) (v := _) (F := fun w => w.cell? ⟨q, 14, none⟩ = some (.slice Ar s.roles.length cAr)) rfl (by rfl) (by kernel_rfl) (by kernel_rfl) (by kernel_rfl) (fun _ _ _ h => h) (by exact QC) ?hyr24_5 ?rer24_5
  case hyr24_5 => intro w hw; first | (go_simp; done) | (go_simp; with_reducible rfl)
  simp only [Act.put, List.setIfInBounds_toArray, List.set_cons_zero, List.set_cons_succ]
  refine' Reg.G.pure (i := 6) (v := _) rfl (by rfl) (by kernel_rfl) (by kernel_rfl) (by kernel_rfl) (fun _ _ _ h => h) ?hyr24_6 ?rer24_6
  case hyr24_6 => exact fun w => by first | (go_simp; done) | (go_simp; with_reducible rfl)
  simp only [Act.put, List.setIfInBounds_toArray, List.set_cons_zero, List.set_cons_succ]
  refine' Reg.G.take (i := 7) (v := _) (F := fun w => w.cell? ⟨W.heap.size, 1, none⟩ = some (.string ⟨x.name.toArray⟩)) rfl (by rfl) (by kernel_rfl) (by kernel_rfl) (by kernel_rfl) (fun _ _ _ h => h) (by exact cell_of_blk HID.out 1) ?hyr24_7 ?rer24_7
  case hyr24_7 => intro w hw; first | (go_simp; done) | (go_simp; with_reducible rfl)
  simp only [Act.put, List.setIfInBounds_toArray, List.set_cons_zero, List.set_cons_succ]
  refine' Reg.G.pure (i := 8) (v := _) rfl (by rfl) (by kernel_rfl) (by kernel_rfl) (by kernel_rfl) (fun _ _ _ h => h) ?hyr24_8 ?rer24_8
  case hyr24_8 => exact fun w => by first | (go_simp; done) | (go_simp; with_reducible rfl)
  simp only [Act.put, List.setIfInBounds_toArray, List.set_cons_zero, List.set_cons_succ]
  refine' Reg.G.pure (i := 9) (v := _) rfl (by rfl) (by kernel_rfl) (by kernel_rfl) (by kernel_rfl) (fun _ _ _ h => h) ?hyr24_9 ?rer24_9
  case hyr24_9 => exact fun w => by first | (go_simp; done) | (go_simp; with_reducible rfl)
  simp only [Act.put, List.setIfInBounds_toArray, List.set_cons_zero, List.set_cons_succ]
  refine' Reg.G.take (i := 10) (v := _) (F := fun w => IB W.heap.size x sl w) rfl (by rfl) (by kernel_rfl) (by kernel_rfl) (by kernel_rfl) (fun _ _ _ h => h) (by exact HID.out) ?hyr24_10 ?rer24_10
  case hyr24_10 => intro w hw; have kc : w.cell? ⟨W.heap.size, 3, none⟩ = some (.string ⟨x.of_.toArray⟩) := cell_of_blk hw 3; clear hw; first | (go_simp; done) | (go_simp; with_reducible rfl)
  simp only [Act.put, List.setIfInBounds_toArray, List.set_cons_zero, List.set_cons_succ]
  refine Reg.G.step (j := 11) (m := [false, true, true]) [10, 7, 5] rfl (by kernel_rfl) rfl (by kernel_rfl) (fun K hK => ?_)
  -- Op.call { callee := Callee.value (func 45), args := #[t103, const (int IntKind.i64 1), t105], argTypes := #[125, 3, 9] }
  go_simp
  refine (index_ls 1 x.of_ (by omega) (by omega) HLD.out).mono ?_
  rintro e w2 ⟨rfl, hL2, hF2⟩
  have HL2 := Lib.hid hL2; have HF2 := Lib.hid hF2; clear hL2 hF2
  have HR2 := Lib.hid (HRD.out.fr1 HF2.out hlB (own_not HRL.out (by omega)))
  have HI2 : Hid (IB W.heap.size x sl w2) := HF2.out.blk HID.out (by omega)
  have QC2 := (HR2.out.vq 14 rfl).1
  have KF0 : w2.cell? ⟨W.heap.size, 1, none⟩ = some (.string ⟨x.name.toArray⟩) := cell_of_blk HI2.out 1
  refine hK.out _ _ ⟨KF0, QC2, trivial⟩ ?_
  clear hK K
  simp only [Act.put, List.setIfInBounds_toArray, List.set_cons_zero, List.set_cons_succ, Reg.Kept]
  refine' Reg.G.pure (i := 12) (v := _) rfl (by rfl) (by kernel_rfl) (by kernel_rfl) (by kernel_rfl) (fun _ _ _ h => h) ?hyr24_12 ?rer24_12
  case hyr24_12 => exact fun w => by first | (go_simp; done) | (go_simp; with_reducible rfl)
  simp only [Act.put, List.setIfInBounds_toArray, List.set_cons_zero, List.set_cons_succ]
  refine Reg.G.step (j := 13) (m := [false, true]) [7, 5] rfl (by kernel_rfl) rfl (by kernel_rfl) (fun K hK => ?_)
  -- Op.buildSlice 34 1 #[(0, t107)]
  go_simp
  have HRA := Lib.hid (HR2.out.alloc (.cells #[.string ⟨x.name.toArray⟩, .int .i64 (ix t 1 x.of_)] 59))
  have HLA : Hid ((w2.alloc (.cells #[.string ⟨x.name.toArray⟩, .int .i64 (ix t 1 x.of_)] 59)).heap[u0.heap.size]? = some (.cells #[.pointer (some ⟨q, 0, none⟩), .bool (true && has t 1 x.of_)] 127 (0, 0))) := blk_alloc HL2.out.lb _
  have HOWN := Lib.hid (HRA.out.rows.ok ⟨59, 2, .slice Ar s.roles.length cAr, s.roles.length, (s.roles.flatMap rolev)⟩ (by simp [rowsOf]))
  have QCA := (HRA.out.vq 14 rfl).1
  refine hK.out _ _ ⟨QCA, trivial⟩ ?_
  clear hK K
  simp only [Act.put, List.setIfInBounds_toArray, List.set_cons_zero, List.set_cons_succ, Reg.Kept]
  refine Reg.G.step (j := 14) (m := [false]) [5] rfl (by kernel_rfl) rfl (by kernel_rfl) (fun K hK => ?_)
  -- Op.call { callee := Callee.builtin Builtin.append, args := #[t100, t108], argTypes := #[34, 34] }
  refine Go.step_append_lies _ rfl (.tmp 100) (.tmp 108) 34 rfl B 59 i0 _ 2 24 Tryd.underlying34 hi hz0 hz1 hz2 rfl (by decide) (.slice Ar s.roles.length cAr) s.roles.length _ (by rfl) HOWN.out ⟨w2.heap.size, 0, none⟩ 1 1 [.string ⟨x.name.toArray⟩, .int .i64 (ix t 1 x.of_)] (by rfl) rfl (World.news_of_block (cs := #[.string ⟨x.name.toArray⟩, .int .i64 (ix t 1 x.of_)]) (t := 59) (fr := (0, 0)) (heap_alloc_new w2 _)) (by simp [Value.oneCell']) (by decide) (by simp only [maxLen]; have := HP.out.lens; omega) (by have := HP.out.lens; omega) HRA.out.le (w2.heap.size + 1) (by simp) ?_
  intro gg cap1 w5 hown hgrow hat hlt5
  have HG5 := Lib.hid hgrow
  have HO5 := Lib.hid hown
  have HAT := Lib.hid hat
  have HL5 : Hid (w5.heap[u0.heap.size]? = some (.cells #[.pointer (some ⟨q, 0, none⟩), .bool (true && has t 1 x.of_)] 127 (0, 0))) := (Fr.of_grown hgrow).blk HLA.out (fun e => by have := (HRL.out ⟨59, 2, .slice Ar s.roles.length cAr, s.roles.length, (s.roles.flatMap rolev)⟩ (by simp [rowsOf]) _ e).2; omega)
  obtain ⟨c13, f13⟩ : w5.cell? ⟨q, 14, none⟩ = some (.slice Ar s.roles.length cAr) ∧ w5.frozen? ⟨q, 14, none⟩ = false := by
    have := (Fr.of_grown hgrow).blk HRA.out.qb (fun e => by have := (HRL.out ⟨59, 2, .slice Ar s.roles.length cAr, s.roles.length, (s.roles.flatMap rolev)⟩ (by simp [rowsOf]) _ e).1; omega)
    exact ⟨(cell_of_blk this 14).trans rfl, froz_of_blk this 14⟩
  clear hgrow hown hat
  refine hK.out _ _ trivial ?_
  clear hK K
  simp only [Act.put, List.setIfInBounds_toArray, List.set_cons_zero, List.set_cons_succ, Reg.Kept]
  refine' Reg.G.pure (i := 15) (v := _) rfl (by rfl) (by kernel_rfl) (by kernel_rfl) (by kernel_rfl) (fun _ _ _ h => h) ?hyr24_15 ?rer24_15
  case hyr24_15 => exact fun w => by first | (go_simp; done) | (go_simp; with_reducible rfl)
  simp only [Act.put, List.setIfInBounds_toArray, List.set_cons_zero, List.set_cons_succ]
  refine' Reg.G.pure (i := 16) (v := _) rfl (by rfl) (by kernel_rfl) (by kernel_rfl) (by kernel_rfl) (fun _ _ _ h => h) ?hyr24_16 ?rer24_16
  case hyr24_16 => exact fun w => by first | (go_simp; done) | (go_simp; with_reducible rfl)
  simp only [Act.put, List.setIfInBounds_toArray, List.set_cons_zero, List.set_cons_succ]
  refine' Reg.G.pure (i := 17) (v := _) rfl (by rfl) (by kernel_rfl) (by kernel_rfl) (by kernel_rfl) (fun _ _ _ h => h) ?hyr24_17 ?rer24_17
  case hyr24_17 => exact fun w => by first | (go_simp; done) | (go_simp; with_reducible rfl)
  simp only [Act.put, List.setIfInBounds_toArray, List.set_cons_zero, List.set_cons_succ]
  refine Reg.G.step (j := 18) (m := []) [] rfl (by kernel_rfl) rfl (by kernel_rfl) (fun K hK => ?_)
  -- Op.store 34 (t112) (t109)
  go_simp
  refine hK.out _ _ trivial ?_
  clear hK K
  simp only [Act.put, List.setIfInBounds_toArray, List.set_cons_zero, List.set_cons_succ, Reg.Kept]
  refine Reg.G.done (by kernel_rfl) ?_
  have l1 : w5.cell? ⟨u0.heap.size, 1, none⟩ = some (.bool (has t 1 x.of_)) := cell_of_blk HL5.out 1
  have hne1 : ¬ u0.heap.size = q := by omega
  have hne2 : ¬ q = u0.heap.size := by omega
  have HFA := Lib.hid (((HFD.out.trans' HF2.out (fun j hj e => by exfalso; omega)).alloc _) : Fr _ W (w2.alloc (.cells #[.string ⟨x.name.toArray⟩, .int .i64 (ix t 1 x.of_)] 59)))
  have HF5 := Lib.hid (HFA.out.trans ((Fr.of_grown HG5.out).mono (fun j _ e => .inr (.inr ⟨⟨59, 2, .slice Ar s.roles.length cAr, s.roles.length, (s.roles.flatMap rolev)⟩, by simp [rowsOf], e⟩))))
  have HRN : Hid (RS src t { s with roles := s.roles ++ [(x.name, ix t 1 x.of_)] } B q hm mi mem ⟨hh, hp, .slice (some ⟨gg, 0, none⟩) (s.roles.length + 1) cap1, hu, ha, hc, hf⟩ cl (w5.setCell ⟨q, 14, none⟩ (.slice (some ⟨gg, 0, none⟩) (s.roles.length + 1) cap1))) := by
    refine HRA.out.grow HRA.out.rows (k := 2) rfl HG5.out (r' := ⟨59, 2, .slice (some ⟨gg, 0, none⟩) (s.roles.length + 1) cap1, s.roles.length + 1, _⟩) HO5.out ?_ rfl rfl ?_ rfl HRA.out.cls (by simp [rowsOf])
    · intro g hg
      injection hg with hg
      subst hg
      rcases HAT.out with h | h
      · exact .inl h
      · exact .inr (by rw [h]; simp)
    · simp [rowsOf, rolev, sv, nv]
  obtain ⟨okb, hok⟩ : ∃ b, has t 1 x.of_ = b := ⟨_, rfl⟩
  rw [hok] at l1
  have HOK := Lib.hid hok; clear hok
  cases okb
  all_goals
    go_wp2_with fail
    go_ret
    rw [HOK.out]
    exact ⟨rfl, ⟨_, _, HRN.out, HP.out.nil, rfl⟩, HF5.out.setCell (.inl (.inl rfl)) _⟩
end Go.Proofs.YtdhjibnkebbejaaDoor.Rs
