/-
  What the resolver's method item does: a unit, an act.
-/
import Derived.Test.YtdhjibnkebbejaaDoorResItemR
namespace Go.Proofs.YtdhjibnkebbejaaDoor.Rs
open Go.RowKit Mem Vw
set_option linter.unusedVariables false
set_option linter.unusedSimpArgs false

set_option maxRecDepth 100000 in
set_option maxHeartbeats 4000000 in
theorem item_unit (src : Source) (t : Tab) (s : Sy) (B q hm : Nat) (mi : Nat → Nat) (mem : Value) (H : RH) (cl : List (ClauseSym × Value)) (x : Item) (sl : Sl) (W Wa : World) (h : ItemPre src t s B q hm mi mem H cl x sl W Wa) (hk : x.kind = 3) :
    Calls Tryd.prog 28 #[.pointer (some ⟨q, 0, none⟩), .agg (ic (x, sl)).toArray, .bool true, .bool false] W (ItemPost src t { s with units := s.units ++ [unitOf t x] } (err8 (unitOk t x)) B q hm mi mem H.flt (rowsOf s H cl) W) := by
  obtain ⟨u0, HU⟩ : ∃ u0, Hid (W.alloc (.cells (ic (x, sl)).toArray 55) = u0) := ⟨_, rfl⟩
  have HI0 : Hid (IB W.heap.size x sl u0) := by rw [← HU.out]; exact blk_newn rfl
  have k0 : u0.cell? ⟨W.heap.size, 0, none⟩ = some (.int .i64 x.kind) := cell_of_blk HI0.out 0
  have hWu : W.heap.size < u0.heap.size := lt_of_blk HI0.out
  obtain ⟨u1, HU1⟩ : ∃ u1, Hid (u0.alloc (.cells #[.pointer (some ⟨q, 0, none⟩), .bool true] 127) = u1) := ⟨_, rfl⟩
  have HRW := Lib.hid h.rs
  have HR : Hid (RS src t s B q hm mi mem H cl u1) := by rw [← HU1.out, ← HU.out]; exact (h.rs.alloc _).alloc _
  have HF : Hid (Fr (Wr q hm (rowsOf s H cl)) W u1) := by rw [← HU1.out, ← HU.out]; exact ((Fr.refl _ W).alloc _).alloc _
  have HI : Hid (IB W.heap.size x sl u1) := by rw [← HU1.out]; exact blk_alloc HI0.out _
  have HL : Hid (LS t B q u0.heap.size true u1) := by
    refine ⟨HR.out.tb, ?_, ?_⟩
    · rw [← HU1.out]; exact blk_newn rfl
    · have := HRW.out.le; omega
  have hlB : B ≤ u0.heap.size := by have := HRW.out.le; omega
  have hq1 := h.rs.ne
  have hqB : q < B := hq1.2.2.1
  clear hq1
  have hu1 : u0.heap.size < u1.heap.size := lt_of_blk HL.out.lb
  have HRL : Hid (∀ r ∈ rowsOf s H cl, ∀ g, r.v.ownBlock = some g → B ≤ g ∧ g < W.heap.size) := fun r hr g hg => h.rs.rows.lt hr hg
  have HBA : Hid (Below Wa.heap.size Wa u1) := by
    have h1 := h.ba
    refine h1.trans (HF.out.below h1.size (fun k hk => ?_))
    have := h.bq
    rcases hk with rfl | rfl | ⟨r, hr, e⟩
    · omega
    · omega
    · have := (h.rs.rows.lt hr e).1
      omega
  have HP := Lib.hid h; clear h
  have HG : Hid (group 3 = 3) := rfl
  rw [hk] at k0
  have k1 : u1.cell? ⟨W.heap.size, 0, none⟩ = some (.int .i64 3) := by rw [← hk]; exact cell_of_blk HI.out 0
  clear hk
  obtain ⟨hh, hp, hr, hu, ha, hc, hf⟩ := H
  obtain ⟨Au, cAu, hpe⟩ : ∃ A c, hu = .slice A s.units.length c := own_form (HR.out.rows.ok ⟨61, 5, hu, s.units.length, (s.units.flatMap unitv)⟩ (by simp [rowsOf]))
  subst hpe
  have QC := (HR.out.vq 15 rfl).1
  have HRD := Lib.hid HR.out.drew
  have HLD := Lib.hid HL.out.drew
  have HID : Hid (IB W.heap.size x sl u1.drew) := HI.out
  have HBD : Hid (Below Wa.heap.size Wa u1.drew) := below_drewN HBA.out 1
  have HFD := Lib.hid HF.out.drew
  obtain ⟨i0, hi, hz0, hz1, hz2⟩ := info_parts info_unit
  go_enter Tryd.func28, Tryd.ntmps28
  go_upto_region 1 with fail
  rw [HU.out]
  clear HU
  go_wp2_with fail
  refine (groupOf_any 3 _).mono ?_
  rw [HG.out]
  rintro e w1 ⟨rfl, rfl⟩
  go_wp2_with fail
  rw [HU1.out]
  clear HU1
  refine Reg.G.start (by kernel_rfl) ?_
  refine' Reg.G.pure (i := 0) (v := _) rfl (by rfl) (by kernel_rfl) (by kernel_rfl) (by kernel_rfl) (fun _ _ _ h => h) ?hyr26_0 ?rer26_0
  case hyr26_0 => exact fun w => by first | (go_simp; done) | (go_simp; with_reducible rfl)
  simp only [Act.put, List.setIfInBounds_toArray, List.set_cons_zero, List.set_cons_succ]
  refine' Reg.G.pure (i := 1) (v := _) rfl (by rfl) (by kernel_rfl) (by kernel_rfl) (by kernel_rfl) (fun _ _ _ h => h) ?hyr26_1 ?rer26_1
  case hyr26_1 => exact fun w => by first | (go_simp; done) | (go_simp; with_reducible rfl)
  simp only [Act.put, List.setIfInBounds_toArray, List.set_cons_zero, List.set_cons_succ]
  refine' Reg.G.pure (i := 2) (v := _) rfl (by rfl) (by kernel_rfl) (by kernel_rfl) (by kernel_rfl) (fun _ _ _ h => h) ?hyr26_2 ?rer26_2
  case hyr26_2 => exact fun w => by first | (go_simp; done) | (go_simp; with_reducible rfl)
  simp only [Act.put, List.setIfInBounds_toArray, List.set_cons_zero, List.set_cons_succ]
  refine' Reg.G.pure (i := 3) (v := _) rfl (by rfl) (by kernel_rfl) (by kernel_rfl) (by kernel_rfl) (fun _ _ _ h => h) ?hyr26_3 ?rer26_3
  case hyr26_3 => exact fun w => by first | (go_simp; done) | (go_simp; with_reducible rfl)
  simp only [Act.put, List.setIfInBounds_toArray, List.set_cons_zero, List.set_cons_succ]
  refine' Reg.G.pure (i := 4) (v := _) rfl (by rfl) (by kernel_rfl) (by kernel_rfl) (by kernel_rfl) (fun _ _ _ h => h) ?hyr26_4 ?rer26_4
  case hyr26_4 => exact fun w => by first | (go_simp; done) | (go_simp; with_reducible rfl)
  simp only [Act.put, List.setIfInBounds_toArray, List.set_cons_zero, List.set_cons_succ]
  refine' Reg.G.take (i := 5) (v := _) (F := fun w => w.cell? ⟨q, 15, none⟩ = some (.slice Au s.units.length cAu)) rfl (by rfl) (by kernel_rfl) (by kernel_rfl) (by kernel_rfl) (fun _ _ _ h => h) (by exact QC) ?hyr26_5 ?rer26_5
  case hyr26_5 => intro w hw; first | (go_simp; done) | (go_simp; with_reducible rfl)
  simp only [Act.put, List.setIfInBounds_toArray, List.set_cons_zero, List.set_cons_succ]
  refine' Reg.G.pure (i := 6) (v := _) rfl (by rfl) (by kernel_rfl) (by kernel_rfl) (by kernel_rfl) (fun _ _ _ h => h) ?hyr26_6 ?rer26_6
  case hyr26_6 => exact fun w => by first | (go_simp; done) | (go_simp; with_reducible rfl)
  simp only [Act.put, List.setIfInBounds_toArray, List.set_cons_zero, List.set_cons_succ]
  refine' Reg.G.take (i := 7) (v := _) (F := fun w => IB W.heap.size x sl w) rfl (by rfl) (by kernel_rfl) (by kernel_rfl) (by kernel_rfl) (fun _ _ _ h => h) (by exact HID.out) ?hyr26_7 ?rer26_7
  case hyr26_7 => intro w hw; refine run_load_row (P := Tryd.prog) 55 (.tmp 5) ?_ W.heap.size ?_ 55 (ic (x, sl)).toArray _ hw Tryd.underlying55 rfl (info_icl _) <;> rfl
  simp only [Act.put, List.setIfInBounds_toArray, List.set_cons_zero, List.set_cons_succ]
  refine Reg.G.step (j := 8) (m := [false, true]) [7, 5] rfl (by kernel_rfl) rfl (by kernel_rfl) (fun K hK => ?_)
  -- Op.call { callee := Callee.value (func 46), args := #[t121, t122], argTypes := #[125, 55] }
  go_simp
  refine (unit_any t B q u0.heap.size x sl true _ HLD.out).mono ?_
  rintro e w2 ⟨rfl, hL2, hF2⟩
  dsimp only [unitv, sv, nv]
  have HL2 := Lib.hid hL2; have HF2 := Lib.hid hF2; clear hL2 hF2
  have HR2 := Lib.hid (HRD.out.fr1 HF2.out hlB (own_not HRL.out (by omega)))
  have HI2 : Hid (IB W.heap.size x sl w2) := HF2.out.blk HID.out (by omega)
  have QC2 := (HR2.out.vq 15 rfl).1
  refine hK.out _ _ ⟨QC2, trivial⟩ ?_
  clear hK K
  simp only [Act.put, List.setIfInBounds_toArray, List.set_cons_zero, List.set_cons_succ, Reg.Kept]
  refine Reg.G.step (j := 9) (m := [true]) [5] rfl (by kernel_rfl) rfl (by kernel_rfl) (fun K hK => ?_)
  -- Op.buildSlice 35 1 #[(0, t123)]
  go_simp
  have HRA := Lib.hid (HR2.out.alloc (.cells #[.string ⟨(unitOf t x).name.toArray⟩, .int .i64 (unitOf t x).kind, .int .i64 (unitOf t x).base, .int .i64 (unitOf t x).factor.num, .int .i64 (unitOf t x).factor.den] 61))
  have HLA : Hid ((w2.alloc (.cells #[.string ⟨(unitOf t x).name.toArray⟩, .int .i64 (unitOf t x).kind, .int .i64 (unitOf t x).base, .int .i64 (unitOf t x).factor.num, .int .i64 (unitOf t x).factor.den] 61)).heap[u0.heap.size]? = some (.cells #[.pointer (some ⟨q, 0, none⟩), .bool (true && unitOk t x)] 127 (0, 0))) := blk_alloc HL2.out.lb _
  have HOWN := Lib.hid (HRA.out.rows.ok ⟨61, 5, .slice Au s.units.length cAu, s.units.length, (s.units.flatMap unitv)⟩ (by simp [rowsOf]))
  have QCA := (HRA.out.vq 15 rfl).1
  refine hK.out _ _ ⟨QCA, trivial⟩ ?_
  clear hK K
  simp only [Act.put, List.setIfInBounds_toArray, List.set_cons_zero, List.set_cons_succ, Reg.Kept]
  refine Reg.G.step (j := 10) (m := [false]) [5] rfl (by kernel_rfl) rfl (by kernel_rfl) (fun K hK => ?_)
  -- Op.call { callee := Callee.builtin Builtin.append, args := #[t120, t124], argTypes := #[35, 35] }
  refine Go.step_append_lies _ rfl (.tmp 120) (.tmp 124) 35 rfl B 61 i0 _ 5 48 Tryd.underlying35 hi hz0 hz1 hz2 rfl (by decide) (.slice Au s.units.length cAu) s.units.length _ (by rfl) HOWN.out ⟨w2.heap.size, 0, none⟩ 1 1 [.string ⟨(unitOf t x).name.toArray⟩, .int .i64 (unitOf t x).kind, .int .i64 (unitOf t x).base, .int .i64 (unitOf t x).factor.num, .int .i64 (unitOf t x).factor.den] (by rfl) rfl (World.news_of_block (cs := #[.string ⟨(unitOf t x).name.toArray⟩, .int .i64 (unitOf t x).kind, .int .i64 (unitOf t x).base, .int .i64 (unitOf t x).factor.num, .int .i64 (unitOf t x).factor.den]) (t := 61) (fr := (0, 0)) (heap_alloc_new w2 _)) (by simp [Value.oneCell']) (by decide) (by simp only [maxLen]; have := HP.out.lens; omega) (by have := HP.out.lens; omega) HRA.out.le (w2.heap.size + 1) (by simp) ?_
  intro gg cap1 w5 hown hgrow hat hlt5
  have HG5 := Lib.hid hgrow
  have HO5 := Lib.hid hown
  have HAT := Lib.hid hat
  have HL5 : Hid (w5.heap[u0.heap.size]? = some (.cells #[.pointer (some ⟨q, 0, none⟩), .bool (true && unitOk t x)] 127 (0, 0))) := (Fr.of_grown hgrow).blk HLA.out (fun e => by have := (HRL.out ⟨61, 5, .slice Au s.units.length cAu, s.units.length, (s.units.flatMap unitv)⟩ (by simp [rowsOf]) _ e).2; omega)
  obtain ⟨c13, f13⟩ : w5.cell? ⟨q, 15, none⟩ = some (.slice Au s.units.length cAu) ∧ w5.frozen? ⟨q, 15, none⟩ = false := by
    have := (Fr.of_grown hgrow).blk HRA.out.qb (fun e => by have := (HRL.out ⟨61, 5, .slice Au s.units.length cAu, s.units.length, (s.units.flatMap unitv)⟩ (by simp [rowsOf]) _ e).1; omega)
    exact ⟨(cell_of_blk this 15).trans rfl, froz_of_blk this 15⟩
  clear hgrow hown hat
  refine hK.out _ _ trivial ?_
  clear hK K
  simp only [Act.put, List.setIfInBounds_toArray, List.set_cons_zero, List.set_cons_succ, Reg.Kept]
  refine' Reg.G.pure (i := 11) (v := _) rfl (by rfl) (by kernel_rfl) (by kernel_rfl) (by kernel_rfl) (fun _ _ _ h => h) ?hyr26_11 ?rer26_11
  case hyr26_11 => exact fun w => by first | (go_simp; done) | (go_simp; with_reducible rfl)
  simp only [Act.put, List.setIfInBounds_toArray, List.set_cons_zero, List.set_cons_succ]
  refine' Reg.G.pure (i := 12) (v := _) rfl (by rfl) (by kernel_rfl) (by kernel_rfl) (by kernel_rfl) (fun _ _ _ h => h) ?hyr26_12 ?rer26_12
  case hyr26_12 => exact fun w => by first | (go_simp; done) | (go_simp; with_reducible rfl)
  simp only [Act.put, List.setIfInBounds_toArray, List.set_cons_zero, List.set_cons_succ]
  refine' Reg.G.pure (i := 13) (v := _) rfl (by rfl) (by kernel_rfl) (by kernel_rfl) (by kernel_rfl) (fun _ _ _ h => h) ?hyr26_13 ?rer26_13
  case hyr26_13 => exact fun w => by first | (go_simp; done) | (go_simp; with_reducible rfl)
  simp only [Act.put, List.setIfInBounds_toArray, List.set_cons_zero, List.set_cons_succ]
  refine Reg.G.step (j := 14) (m := []) [] rfl (by kernel_rfl) rfl (by kernel_rfl) (fun K hK => ?_)
  -- Op.store 35 (t128) (t125)
  go_simp
  refine hK.out _ _ trivial ?_
  clear hK K
  simp only [Act.put, List.setIfInBounds_toArray, List.set_cons_zero, List.set_cons_succ, Reg.Kept]
  refine Reg.G.done (by kernel_rfl) ?_
  have l1 : w5.cell? ⟨u0.heap.size, 1, none⟩ = some (.bool (unitOk t x)) := cell_of_blk HL5.out 1
  have hne1 : ¬ u0.heap.size = q := by omega
  have hne2 : ¬ q = u0.heap.size := by omega
  have HFA := Lib.hid (((HFD.out.trans' HF2.out (fun j hj e => by exfalso; omega)).alloc _) : Fr _ W (w2.alloc (.cells #[.string ⟨(unitOf t x).name.toArray⟩, .int .i64 (unitOf t x).kind, .int .i64 (unitOf t x).base, .int .i64 (unitOf t x).factor.num, .int .i64 (unitOf t x).factor.den] 61)))
  have HF5 := Lib.hid (HFA.out.trans ((Fr.of_grown HG5.out).mono (fun j _ e => .inr (.inr ⟨⟨61, 5, .slice Au s.units.length cAu, s.units.length, (s.units.flatMap unitv)⟩, by simp [rowsOf], e⟩))))
  have HRN : Hid (RS src t { s with units := s.units ++ [unitOf t x] } B q hm mi mem ⟨hh, hp, hr, .slice (some ⟨gg, 0, none⟩) (s.units.length + 1) cap1, ha, hc, hf⟩ cl (w5.setCell ⟨q, 15, none⟩ (.slice (some ⟨gg, 0, none⟩) (s.units.length + 1) cap1))) := by
    refine HRA.out.grow HRA.out.rows (k := 3) rfl HG5.out (r' := ⟨61, 5, .slice (some ⟨gg, 0, none⟩) (s.units.length + 1) cap1, s.units.length + 1, _⟩) HO5.out ?_ rfl rfl ?_ rfl HRA.out.cls (by simp [rowsOf])
    · intro g hg
      injection hg with hg
      subst hg
      rcases HAT.out with h | h
      · exact .inl h
      · exact .inr (by rw [h]; simp)
    · simp [rowsOf, unitv, sv, nv]
  obtain ⟨okb, hok⟩ : ∃ b, unitOk t x = b := ⟨_, rfl⟩
  rw [hok] at l1
  have HOK := Lib.hid hok; clear hok
  cases okb
  all_goals
    go_wp2_with fail
    go_ret
    rw [HOK.out]
    exact ⟨rfl, ⟨_, _, HRN.out, HP.out.nil, rfl⟩, HF5.out.setCell (.inl (.inl rfl)) _⟩
set_option maxRecDepth 100000 in
set_option maxHeartbeats 4000000 in
theorem item_act (src : Source) (t : Tab) (s : Sy) (B q hm : Nat) (mi : Nat → Nat) (mem : Value) (H : RH) (cl : List (ClauseSym × Value)) (x : Item) (sl : Sl) (W Wa : World) (h : ItemPre src t s B q hm mi mem H cl x sl W Wa) (hk : x.kind = 8) :
    Calls Tryd.prog 28 #[.pointer (some ⟨q, 0, none⟩), .agg (ic (x, sl)).toArray, .bool true, .bool false] W (ItemPost src t { s with acts := s.acts ++ [⟨x.name, x.pos, actOf t x⟩] } (err8 (actOk t x)) B q hm mi mem H.flt (rowsOf s H cl) W) := by
  obtain ⟨u0, HU⟩ : ∃ u0, Hid (W.alloc (.cells (ic (x, sl)).toArray 55) = u0) := ⟨_, rfl⟩
  have HI0 : Hid (IB W.heap.size x sl u0) := by rw [← HU.out]; exact blk_newn rfl
  have k0 : u0.cell? ⟨W.heap.size, 0, none⟩ = some (.int .i64 x.kind) := cell_of_blk HI0.out 0
  have hWu : W.heap.size < u0.heap.size := lt_of_blk HI0.out
  obtain ⟨u1, HU1⟩ : ∃ u1, Hid (u0.alloc (.cells #[.pointer (some ⟨q, 0, none⟩), .bool true] 127) = u1) := ⟨_, rfl⟩
  have HRW := Lib.hid h.rs
  have HR : Hid (RS src t s B q hm mi mem H cl u1) := by rw [← HU1.out, ← HU.out]; exact (h.rs.alloc _).alloc _
  have HF : Hid (Fr (Wr q hm (rowsOf s H cl)) W u1) := by rw [← HU1.out, ← HU.out]; exact ((Fr.refl _ W).alloc _).alloc _
  have HI : Hid (IB W.heap.size x sl u1) := by rw [← HU1.out]; exact blk_alloc HI0.out _
  have HL : Hid (LS t B q u0.heap.size true u1) := by
    refine ⟨HR.out.tb, ?_, ?_⟩
    · rw [← HU1.out]; exact blk_newn rfl
    · have := HRW.out.le; omega
  have hlB : B ≤ u0.heap.size := by have := HRW.out.le; omega
  have hq1 := h.rs.ne
  have hqB : q < B := hq1.2.2.1
  clear hq1
  have hu1 : u0.heap.size < u1.heap.size := lt_of_blk HL.out.lb
  have HRL : Hid (∀ r ∈ rowsOf s H cl, ∀ g, r.v.ownBlock = some g → B ≤ g ∧ g < W.heap.size) := fun r hr g hg => h.rs.rows.lt hr hg
  have HBA : Hid (Below Wa.heap.size Wa u1) := by
    have h1 := h.ba
    refine h1.trans (HF.out.below h1.size (fun k hk => ?_))
    have := h.bq
    rcases hk with rfl | rfl | ⟨r, hr, e⟩
    · omega
    · omega
    · have := (h.rs.rows.lt hr e).1
      omega
  have HP := Lib.hid h; clear h
  have HG : Hid (group 8 = 4) := rfl
  rw [hk] at k0
  have k1 : u1.cell? ⟨W.heap.size, 0, none⟩ = some (.int .i64 8) := by rw [← hk]; exact cell_of_blk HI.out 0
  clear hk
  obtain ⟨hh, hp, hr, hu, ha, hc, hf⟩ := H
  obtain ⟨Aa, cAa, hpe⟩ : ∃ A c, ha = .slice A s.acts.length c := own_form (HR.out.rows.ok ⟨65, 9, ha, s.acts.length, (s.acts.flatMap asymv)⟩ (by simp [rowsOf]))
  subst hpe
  have QC := (HR.out.vq 16 rfl).1
  have HRD := Lib.hid HR.out.drew
  have HLD := Lib.hid HL.out.drew
  have HID : Hid (IB W.heap.size x sl u1.drew) := HI.out
  have HBD : Hid (Below Wa.heap.size Wa u1.drew) := below_drewN HBA.out 1
  have HFD := Lib.hid HF.out.drew
  obtain ⟨i0, hi, hz0, hz1, hz2⟩ := info_parts info_asym
  go_enter Tryd.func28, Tryd.ntmps28
  go_upto_region 1 with fail
  rw [HU.out]
  clear HU
  go_wp2_with fail
  refine (groupOf_any 8 _).mono ?_
  rw [HG.out]
  rintro e w1 ⟨rfl, rfl⟩
  go_wp2_with fail
  rw [HU1.out]
  clear HU1
  refine Reg.G.start (by kernel_rfl) ?_
  refine' Reg.G.pure (i := 0) (v := _) rfl (by rfl) (by kernel_rfl) (by kernel_rfl) (by kernel_rfl) (fun _ _ _ h => h) ?hyr28_0 ?rer28_0
  case hyr28_0 => exact fun w => by first | (go_simp; done) | (go_simp; with_reducible rfl)
  simp only [Act.put, List.setIfInBounds_toArray, List.set_cons_zero, List.set_cons_succ]
  refine' Reg.G.pure (i := 1) (v := _) rfl (by rfl) (by kernel_rfl) (by kernel_rfl) (by kernel_rfl) (fun _ _ _ h => h) ?hyr28_1 ?rer28_1
  case hyr28_1 => exact fun w => by first | (go_simp; done) | (go_simp; with_reducible rfl)
  simp only [Act.put, List.setIfInBounds_toArray, List.set_cons_zero, List.set_cons_succ]
  refine' Reg.G.pure (i := 2) (v := _) rfl (by rfl) (by kernel_rfl) (by kernel_rfl) (by kernel_rfl) (fun _ _ _ h => h) ?hyr28_2 ?rer28_2
  case hyr28_2 => exact fun w => by first | (go_simp; done) | (go_simp; with_reducible rfl)
  simp only [Act.put, List.setIfInBounds_toArray, List.set_cons_zero, List.set_cons_succ]
  refine' Reg.G.pure (i := 3) (v := _) rfl (by rfl) (by kernel_rfl) (by kernel_rfl) (by kernel_rfl) (fun _ _ _ h => h) ?hyr28_3 ?rer28_3
  case hyr28_3 => exact fun w => by first | (go_simp; done) | (go_simp; with_reducible rfl)
  simp only [Act.put, List.setIfInBounds_toArray, List.set_cons_zero, List.set_cons_succ]
  refine' Reg.G.pure (i := 4) (v := _) rfl (by rfl) (by kernel_rfl) (by kernel_rfl) (by kernel_rfl) (fun _ _ _ h => h) ?hyr28_4 ?rer28_4
  case hyr28_4 => exact fun w => by first | (go_simp; done) | (go_simp; with_reducible rfl)
  simp only [Act.put, List.setIfInBounds_toArray, List.set_cons_zero, List.set_cons_succ]
  refine' Reg.G.take (i := 5) (v := _) (F := fun w => w.cell? ⟨q, 16, none⟩ = some (.slice Aa s.acts.length cAa)) rfl (by rfl) (by kernel_rfl) (by kernel_rfl) (by kernel_rfl) (fun _ _ _ h => h) (by exact QC) ?hyr28_5 ?rer28_5
  case hyr28_5 => intro w hw; first | (go_simp; done) | (go_simp; with_reducible rfl)
  simp only [Act.put, List.setIfInBounds_toArray, List.set_cons_zero, List.set_cons_succ]
  refine' Reg.G.pure (i := 6) (v := _) rfl (by rfl) (by kernel_rfl) (by kernel_rfl) (by kernel_rfl) (fun _ _ _ h => h) ?hyr28_6 ?rer28_6
  case hyr28_6 => exact fun w => by first | (go_simp; done) | (go_simp; with_reducible rfl)
  simp only [Act.put, List.setIfInBounds_toArray, List.set_cons_zero, List.set_cons_succ]
  refine' Reg.G.take (i := 7) (v := _) (F := fun w => w.cell? ⟨W.heap.size, 1, none⟩ = some (.string ⟨x.name.toArray⟩)) rfl (by rfl) (by kernel_rfl) (by kernel_rfl) (by kernel_rfl) (fun _ _ _ h => h) (by exact cell_of_blk HID.out 1) ?hyr28_7 ?rer28_7
  case hyr28_7 => intro w hw; first | (go_simp; done) | (go_simp; with_reducible rfl)
  simp only [Act.put, List.setIfInBounds_toArray, List.set_cons_zero, List.set_cons_succ]
  refine' Reg.G.pure (i := 8) (v := _) rfl (by rfl) (by kernel_rfl) (by kernel_rfl) (by kernel_rfl) (fun _ _ _ h => h) ?hyr28_8 ?rer28_8
  case hyr28_8 => exact fun w => by first | (go_simp; done) | (go_simp; with_reducible rfl)
  simp only [Act.put, List.setIfInBounds_toArray, List.set_cons_zero, List.set_cons_succ]
  refine' Reg.G.take (i := 9) (v := _) (F := fun w => w.cell? ⟨W.heap.size, 2, none⟩ = some (.int .i64 x.pos)) rfl (by rfl) (by kernel_rfl) (by kernel_rfl) (by kernel_rfl) (fun _ _ _ h => h) (by exact cell_of_blk HID.out 2) ?hyr28_9 ?rer28_9
  case hyr28_9 => intro w hw; first | (go_simp; done) | (go_simp; with_reducible rfl)
  simp only [Act.put, List.setIfInBounds_toArray, List.set_cons_zero, List.set_cons_succ]
  refine' Reg.G.pure (i := 10) (v := _) rfl (by rfl) (by kernel_rfl) (by kernel_rfl) (by kernel_rfl) (fun _ _ _ h => h) ?hyr28_10 ?rer28_10
  case hyr28_10 => exact fun w => by first | (go_simp; done) | (go_simp; with_reducible rfl)
  simp only [Act.put, List.setIfInBounds_toArray, List.set_cons_zero, List.set_cons_succ]
  refine' Reg.G.take (i := 11) (v := _) (F := fun w => IB W.heap.size x sl w) rfl (by rfl) (by kernel_rfl) (by kernel_rfl) (by kernel_rfl) (fun _ _ _ h => h) (by exact HID.out) ?hyr28_11 ?rer28_11
  case hyr28_11 => intro w hw; refine run_load_row (P := Tryd.prog) 55 (.tmp 5) ?_ W.heap.size ?_ 55 (ic (x, sl)).toArray _ hw Tryd.underlying55 rfl (info_icl _) <;> rfl
  simp only [Act.put, List.setIfInBounds_toArray, List.set_cons_zero, List.set_cons_succ]
  refine Reg.G.step (j := 12) (m := [false, true, true, true]) [11, 9, 7, 5] rfl (by kernel_rfl) rfl (by kernel_rfl) (fun K hK => ?_)
  -- Op.call { callee := Callee.value (func 47), args := #[t141, t142], argTypes := #[125, 55] }
  go_simp
  refine (act_any t B q u0.heap.size x sl true _ HLD.out).mono ?_
  rintro e w2 ⟨rfl, hL2, hF2⟩
  dsimp only [actv, sv, nv]
  have HL2 := Lib.hid hL2; have HF2 := Lib.hid hF2; clear hL2 hF2
  have HR2 := Lib.hid (HRD.out.fr1 HF2.out hlB (own_not HRL.out (by omega)))
  have HI2 : Hid (IB W.heap.size x sl w2) := HF2.out.blk HID.out (by omega)
  have QC2 := (HR2.out.vq 16 rfl).1
  have KF0 : w2.cell? ⟨W.heap.size, 2, none⟩ = some (.int .i64 x.pos) := cell_of_blk HI2.out 2
  have KF1 : w2.cell? ⟨W.heap.size, 1, none⟩ = some (.string ⟨x.name.toArray⟩) := cell_of_blk HI2.out 1
  refine hK.out _ _ ⟨KF0, KF1, QC2, trivial⟩ ?_
  clear hK K
  simp only [Act.put, List.setIfInBounds_toArray, List.set_cons_zero, List.set_cons_succ, Reg.Kept]
  refine' Reg.G.pure (i := 13) (v := _) rfl (by rfl) (by kernel_rfl) (by kernel_rfl) (by kernel_rfl) (fun _ _ _ h => h) ?hyr28_13 ?rer28_13
  case hyr28_13 => exact fun w => by first | (go_simp; done) | (go_simp; with_reducible rfl)
  simp only [Act.put, List.setIfInBounds_toArray, List.set_cons_zero, List.set_cons_succ]
  refine Reg.G.step (j := 14) (m := [false, false, true]) [9, 7, 5] rfl (by kernel_rfl) rfl (by kernel_rfl) (fun K hK => ?_)
  -- Op.buildSlice 36 1 #[(0, t144)]
  go_simp
  have HRA := Lib.hid (HR2.out.alloc (.cells #[.string ⟨x.name.toArray⟩, .int .i64 x.pos, .int .i64 (actOf t x).kind, .int .i64 (actOf t x).role, .int .i64 (actOf t x).give, .int .i64 (actOf t x).to_, .int .i64 (actOf t x).unit, .int .i64 (actOf t x).lot.num, .int .i64 (actOf t x).lot.den] 65))
  have HLA : Hid ((w2.alloc (.cells #[.string ⟨x.name.toArray⟩, .int .i64 x.pos, .int .i64 (actOf t x).kind, .int .i64 (actOf t x).role, .int .i64 (actOf t x).give, .int .i64 (actOf t x).to_, .int .i64 (actOf t x).unit, .int .i64 (actOf t x).lot.num, .int .i64 (actOf t x).lot.den] 65)).heap[u0.heap.size]? = some (.cells #[.pointer (some ⟨q, 0, none⟩), .bool (true && actOk t x)] 127 (0, 0))) := blk_alloc HL2.out.lb _
  have HOWN := Lib.hid (HRA.out.rows.ok ⟨65, 9, .slice Aa s.acts.length cAa, s.acts.length, (s.acts.flatMap asymv)⟩ (by simp [rowsOf]))
  have QCA := (HRA.out.vq 16 rfl).1
  refine hK.out _ _ ⟨QCA, trivial⟩ ?_
  clear hK K
  simp only [Act.put, List.setIfInBounds_toArray, List.set_cons_zero, List.set_cons_succ, Reg.Kept]
  refine Reg.G.step (j := 15) (m := [false]) [5] rfl (by kernel_rfl) rfl (by kernel_rfl) (fun K hK => ?_)
  -- Op.call { callee := Callee.builtin Builtin.append, args := #[t136, t145], argTypes := #[36, 36] }
  refine Go.step_append_lies _ rfl (.tmp 136) (.tmp 145) 36 rfl B 65 i0 _ 9 80 Tryd.underlying36 hi hz0 hz1 hz2 rfl (by decide) (.slice Aa s.acts.length cAa) s.acts.length _ (by rfl) HOWN.out ⟨w2.heap.size, 0, none⟩ 1 1 [.string ⟨x.name.toArray⟩, .int .i64 x.pos, .int .i64 (actOf t x).kind, .int .i64 (actOf t x).role, .int .i64 (actOf t x).give, .int .i64 (actOf t x).to_, .int .i64 (actOf t x).unit, .int .i64 (actOf t x).lot.num, .int .i64 (actOf t x).lot.den] (by rfl) rfl (World.news_of_block (cs := #[.string ⟨x.name.toArray⟩, .int .i64 x.pos, .int .i64 (actOf t x).kind, .int .i64 (actOf t x).role, .int .i64 (actOf t x).give, .int .i64 (actOf t x).to_, .int .i64 (actOf t x).unit, .int .i64 (actOf t x).lot.num, .int .i64 (actOf t x).lot.den]) (t := 65) (fr := (0, 0)) (heap_alloc_new w2 _)) (by simp [Value.oneCell']) (by decide) (by simp only [maxLen]; have := HP.out.lens; omega) (by have := HP.out.lens; omega) HRA.out.le (w2.heap.size + 1) (by simp) ?_
  intro gg cap1 w5 hown hgrow hat hlt5
  have HG5 := Lib.hid hgrow
  have HO5 := Lib.hid hown
  have HAT := Lib.hid hat
  have HL5 : Hid (w5.heap[u0.heap.size]? = some (.cells #[.pointer (some ⟨q, 0, none⟩), .bool (true && actOk t x)] 127 (0, 0))) := (Fr.of_grown hgrow).blk HLA.out (fun e => by have := (HRL.out ⟨65, 9, .slice Aa s.acts.length cAa, s.acts.length, (s.acts.flatMap asymv)⟩ (by simp [rowsOf]) _ e).2; omega)
  obtain ⟨c13, f13⟩ : w5.cell? ⟨q, 16, none⟩ = some (.slice Aa s.acts.length cAa) ∧ w5.frozen? ⟨q, 16, none⟩ = false := by
    have := (Fr.of_grown hgrow).blk HRA.out.qb (fun e => by have := (HRL.out ⟨65, 9, .slice Aa s.acts.length cAa, s.acts.length, (s.acts.flatMap asymv)⟩ (by simp [rowsOf]) _ e).1; omega)
    exact ⟨(cell_of_blk this 16).trans rfl, froz_of_blk this 16⟩
  clear hgrow hown hat
  refine hK.out _ _ trivial ?_
  clear hK K
  simp only [Act.put, List.setIfInBounds_toArray, List.set_cons_zero, List.set_cons_succ, Reg.Kept]
  refine' Reg.G.pure (i := 16) (v := _) rfl (by rfl) (by kernel_rfl) (by kernel_rfl) (by kernel_rfl) (fun _ _ _ h => h) ?hyr28_16 ?rer28_16
  case hyr28_16 => exact fun w => by first | (go_simp; done) | (go_simp; with_reducible rfl)
  simp only [Act.put, List.setIfInBounds_toArray, List.set_cons_zero, List.set_cons_succ]
  refine' Reg.G.pure (i := 17) (v := _) rfl (by rfl) (by kernel_rfl) (by kernel_rfl) (by kernel_rfl) (fun _ _ _ h => h) ?hyr28_17 ?rer28_17
  case hyr28_17 => exact fun w => by first | (go_simp; done) | (go_simp; with_reducible rfl)
  simp only [Act.put, List.setIfInBounds_toArray, List.set_cons_zero, List.set_cons_succ]
  refine' Reg.G.pure (i := 18) (v := _) rfl (by rfl) (by kernel_rfl) (by kernel_rfl) (by kernel_rfl) (fun _ _ _ h => h) ?hyr28_18 ?rer28_18
  case hyr28_18 => exact fun w => by first | (go_simp; done) | (go_simp; with_reducible rfl)
  simp only [Act.put, List.setIfInBounds_toArray, List.set_cons_zero, List.set_cons_succ]
  refine Reg.G.step (j := 19) (m := []) [] rfl (by kernel_rfl) rfl (by kernel_rfl) (fun K hK => ?_)
  -- Op.store 36 (t149) (t146)
  go_simp
  refine hK.out _ _ trivial ?_
  clear hK K
  simp only [Act.put, List.setIfInBounds_toArray, List.set_cons_zero, List.set_cons_succ, Reg.Kept]
  refine Reg.G.done (by kernel_rfl) ?_
  have l1 : w5.cell? ⟨u0.heap.size, 1, none⟩ = some (.bool (actOk t x)) := cell_of_blk HL5.out 1
  have hne1 : ¬ u0.heap.size = q := by omega
  have hne2 : ¬ q = u0.heap.size := by omega
  have HFA := Lib.hid (((HFD.out.trans' HF2.out (fun j hj e => by exfalso; omega)).alloc _) : Fr _ W (w2.alloc (.cells #[.string ⟨x.name.toArray⟩, .int .i64 x.pos, .int .i64 (actOf t x).kind, .int .i64 (actOf t x).role, .int .i64 (actOf t x).give, .int .i64 (actOf t x).to_, .int .i64 (actOf t x).unit, .int .i64 (actOf t x).lot.num, .int .i64 (actOf t x).lot.den] 65)))
  have HF5 := Lib.hid (HFA.out.trans ((Fr.of_grown HG5.out).mono (fun j _ e => .inr (.inr ⟨⟨65, 9, .slice Aa s.acts.length cAa, s.acts.length, (s.acts.flatMap asymv)⟩, by simp [rowsOf], e⟩))))
  have HRN : Hid (RS src t { s with acts := s.acts ++ [⟨x.name, x.pos, actOf t x⟩] } B q hm mi mem ⟨hh, hp, hr, hu, .slice (some ⟨gg, 0, none⟩) (s.acts.length + 1) cap1, hc, hf⟩ cl (w5.setCell ⟨q, 16, none⟩ (.slice (some ⟨gg, 0, none⟩) (s.acts.length + 1) cap1))) := by
    refine HRA.out.grow HRA.out.rows (k := 4) rfl HG5.out (r' := ⟨65, 9, .slice (some ⟨gg, 0, none⟩) (s.acts.length + 1) cap1, s.acts.length + 1, _⟩) HO5.out ?_ rfl rfl ?_ rfl HRA.out.cls (by simp [rowsOf])
    · intro g hg
      injection hg with hg
      subst hg
      rcases HAT.out with h | h
      · exact .inl h
      · exact .inr (by rw [h]; simp)
    · simp [rowsOf, asymv, actv, sv, nv]
  obtain ⟨okb, hok⟩ : ∃ b, actOk t x = b := ⟨_, rfl⟩
  rw [hok] at l1
  have HOK := Lib.hid hok; clear hok
  cases okb
  all_goals
    go_wp2_with fail
    go_ret
    rw [HOK.out]
    exact ⟨rfl, ⟨_, _, HRN.out, HP.out.nil, rfl⟩, HF5.out.setCell (.inl (.inl rfl)) _⟩
end Go.Proofs.YtdhjibnkebbejaaDoor.Rs
