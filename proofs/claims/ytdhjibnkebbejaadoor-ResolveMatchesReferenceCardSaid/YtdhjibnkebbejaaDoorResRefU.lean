/-
  What the reference's functions unit and act return.
-/
import Derived.Test.YtdhjibnkebbejaaDoorResRefB
import Derived.Test.YtdhjibnkebbejaaDoorResAct
import Derived.Test.YtdhjibnkebbejaaDoorReg2
import Derived.Test.YtdhjibnkebbejaaDoorOwn
namespace Go.Proofs.YtdhjibnkebbejaaDoor.Rs
open Go.RowKit Mem Vw
set_option linter.unusedVariables false
set_option linter.unusedSimpArgs false

/-- A block that was made since, and is written alone. -/
structure CB (u : World) (b : Nat) (T : TypeId) (cs : List Value) (w : World) : Prop where
  lo : u.heap.size ≤ b
  bk : w.heap[b]? = some (.cells cs.toArray T (0, 0))
  fr : Fr (fun k => k = b) u w
section
variable {u w w' : World} {b : Nat} {T : TypeId} {cs : List Value}
theorem CB.below (h : CB u b T cs w) : Below u.heap.size u w := h.fr.below (Nat.le_refl _) (fun k e => by have := h.lo; omega)
theorem CB.cell (h : CB u b T cs w) {g o : Nat} {v : Value} (hc : u.cell? ⟨g, o, none⟩ = some v) : w.cell? ⟨g, o, none⟩ = some v := (h.below.cell (p := ⟨g, o, none⟩) (lt_of_cell hc)).trans hc
theorem CB.blk (h : CB u b T cs w) {g : Nat} {o : Obj} (hg : u.heap[g]? = some o) : w.heap[g]? = some o := (h.below.block g (lt_of_blk hg)).trans hg
theorem CB.step (h : CB u b T cs w) (hf : Fr (fun _ => False) w w') : CB u b T cs w' := ⟨h.lo, hf.blk h.bk (fun h => h), h.fr.trans (hf.mono (fun _ _ h => h.elim))⟩
theorem CB.set (h : CB u b T cs w) (i : Nat) (v : Value) : CB u b T (cs.set i v) (w.setCell ⟨b, i, none⟩ v) := ⟨h.lo, by have := blk_set h.bk i v; rw [List.setIfInBounds_toArray] at this; exact this, h.fr.setCell (p := ⟨b, i, none⟩) (.inl rfl) _⟩
theorem CB.new {T' : TypeId} (hf : Fr (fun _ => False) u w) (hb : w.heap[b]? = some (.cells cs.toArray T (0, 0))) (hlo : u.heap.size ≤ b) : CB u b T cs w := ⟨hlo, hb, hf.mono (fun _ _ h => h.elim)⟩
theorem CB.done {W : World} (h : CB u b T cs w) (hf : Fr (fun _ => False) W u) : Fr (fun _ => False) W w := hf.trans' h.fr (fun i hi e => by have := h.lo; have := hf.size; omega)
end
theorem ratio_cells (r : Ratio) : ratioc r = [nv r.num, nv r.den] := rfl
set_option maxRecDepth 100000 in
set_option maxHeartbeats 4000000 in
theorem runit_any (t : Tab) (vs : List Value) (p : Item × Sl) (W : World) (h : TV W t vs) : Calls Tryd.prog 35 #[.agg vs.toArray, .agg (ic p).toArray] W fun e w' => e = .returned (.agg (unitv (runit t p.1)).toArray) ∧ Fr (fun _ => False) W w' := by
  obtain ⟨x, sc, sd, sn, sx⟩ := p
  dsimp only
  obtain ⟨u, hu⟩ : ∃ u, ((W.alloc (.cells vs.toArray 100)).alloc (.cells (ic (x, sc, sd, sn, sx)).toArray 55)).alloc (.cells #[.string ⟨#[]⟩, .int .i64 0, .int .i64 0, .int .i64 0, .int .i64 0] 61) = u := ⟨_, rfl⟩
  have HX : Hid (u.heap[W.heap.size]? = some (.cells vs.toArray 100 (0, 0))) := by rw [← hu]; exact blk_alloc (blk_alloc (blk_newn rfl) _) _
  have HY : Hid (u.heap[W.heap.size + 1]? = some (.cells (ic (x, sc, sd, sn, sx)).toArray 55 (0, 0))) := by rw [← hu]; exact blk_alloc (blk_newn (by simp)) _
  have HR : Hid (u.heap[W.heap.size + 1 + 1]? = some (.cells #[.string ⟨#[]⟩, .int .i64 0, .int .i64 0, .int .i64 0, .int .i64 0] 61 (0, 0))) := by rw [← hu]; exact blk_newn (by simp)
  have HFR : Hid (Fr (fun _ => False) W u) := by rw [← hu]; exact (((Fr.refl _ W).alloc _).alloc _).alloc _
  have HSZ : Hid (W.heap.size + 1 + 1 < u.heap.size) := lt_of_blk HR.out
  have HU := Lib.hid hu
  have HT := Lib.hid h
  have HIX : Hid (∀ (g : Nat) (y : Bytes) (W' : World), g < 6 → Below u.heap.size u W' → Calls Tryd.prog 34 #[.agg vs.toArray, .int .i64 (g : Int), .string ⟨y.toArray⟩] W' fun e w' => e = .returned (.int .i64 (rix t g y)) ∧ Fr (fun _ => False) W' w') := fun g y W' hg hb => rindex_any t vs g y W' hg ((HT.out.frb HFR.out).below hb)
  have HOR : Hid (∀ (g : Nat) (y : Bytes) (W' : World), g < 6 → Below u.heap.size u W' → Calls Tryd.prog 55 #[.agg vs.toArray, .int .i64 (g : Int), .string ⟨y.toArray⟩] W' fun e w' => e = .returned (.int .i64 (rixo t g y)) ∧ Fr (fun _ => False) W' w') := fun g y W' hg hb => ror_any t vs g y W' hg ((HT.out.frb HFR.out).below hb)
  have HK1 : Hid (u.cell? ⟨W.heap.size + 1, 1, none⟩ = some (.string ⟨x.name.toArray⟩)) := (cell_of_blk HY.out 1).trans rfl
  have HK5 : Hid (u.cell? ⟨W.heap.size + 1, 5, none⟩ = some (.int .i64 x.word)) := (cell_of_blk HY.out 5).trans rfl
  have HK16 : Hid (u.cell? ⟨W.heap.size + 1, 16, none⟩ = some (.int .i64 x.num.num)) := (cell_of_blk HY.out 16).trans rfl
  have HK17 : Hid (u.cell? ⟨W.heap.size + 1, 17, none⟩ = some (.int .i64 x.num.den)) := (cell_of_blk HY.out 17).trans rfl
  have HK18 : Hid (u.cell? ⟨W.heap.size + 1, 18, none⟩ = some (.string ⟨x.unit.toArray⟩)) := (cell_of_blk HY.out 18).trans rfl
  clear hu h
  go_enter Tryd.func35, Tryd.ntmps35
  go_upto_region 1 with fail
  rw [HU.out]
  clear HU
  go_cut [5] (fun s5 wx => ∃ b, s5 = .pointer (some ⟨b, 0, none⟩) ∧ Hid (CB u b 61 (unitv ⟨x.name, x.word, rix t 3 x.name, ⟨1, 1⟩⟩) wx))
  case first =>
    have HFD : Hid (Fr (fun _ => False) u u.drew) := (Fr.refl _ u).drew
    refine Reg.G.start (by kernel_rfl) ?_
    refine' Reg.G.pure (i := 0) (v := _) rfl (by rfl) (by kernel_rfl) (by kernel_rfl) (by kernel_rfl) (fun _ _ _ h => h) ?hya1 ?rehya1
    case hya1 => exact fun w => by first | (go_simp; done) | (go_simp; with_reducible rfl)
    simp only [Act.put, List.setIfInBounds_toArray, List.set_cons_zero, List.set_cons_succ]
    refine' Reg.G.take (i := 1) (v := _) (F := (fun w => Fr (fun _ => False) u w)) rfl (by rfl) (by kernel_rfl) (by kernel_rfl) (by kernel_rfl) (fun _ _ _ h => h) (HFD.out) ?hya2 ?rehya2
    case hya2 => intro w hw; have kc := cell_fr hw HK1.out; clear hw; first | (go_simp; done) | (go_simp; with_reducible rfl)
    simp only [Act.put, List.setIfInBounds_toArray, List.set_cons_zero, List.set_cons_succ]
    refine' Reg.G.pure (i := 2) (v := _) rfl (by rfl) (by kernel_rfl) (by kernel_rfl) (by kernel_rfl) (fun _ _ _ h => h) ?hya3 ?rehya3
    case hya3 => exact fun w => by first | (go_simp; done) | (go_simp; with_reducible rfl)
    simp only [Act.put, List.setIfInBounds_toArray, List.set_cons_zero, List.set_cons_succ]
    refine' Reg.G.take (i := 3) (v := _) (F := (fun w => Fr (fun _ => False) u w)) rfl (by rfl) (by kernel_rfl) (by kernel_rfl) (by kernel_rfl) (fun _ _ _ h => h) (HFD.out) ?hya4 ?rehya4
    case hya4 => intro w hw; have kc := cell_fr hw HK5.out; clear hw; first | (go_simp; done) | (go_simp; with_reducible rfl)
    simp only [Act.put, List.setIfInBounds_toArray, List.set_cons_zero, List.set_cons_succ]
    refine' Reg.G.take (i := 4) (v := _) (F := (fun w => Fr (fun _ => False) u w)) rfl (by rfl) (by kernel_rfl) (by kernel_rfl) (by kernel_rfl) (fun _ _ _ h => h) (HFD.out) ?hya5 ?rehya5
    case hya5 => intro w hw; refine run_load_row (P := Tryd.prog) 100 (.tmp 2) ?_ W.heap.size ?_ 100 vs.toArray _ (hw.blk HX.out (fun h => h)) Tryd.underlying100 rfl (by rw [show vs.toArray.size = 6 from HT.out.len]; kernel_rfl) <;> rfl
    simp only [Act.put, List.setIfInBounds_toArray, List.set_cons_zero, List.set_cons_succ]
    refine' Reg.G.pure (i := 5) (v := _) rfl (by rfl) (by kernel_rfl) (by kernel_rfl) (by kernel_rfl) (fun _ _ _ h => h) ?hya6 ?rehya6
    case hya6 => exact fun w => by first | (go_simp; done) | (go_simp; with_reducible rfl)
    simp only [Act.put, List.setIfInBounds_toArray, List.set_cons_zero, List.set_cons_succ]
    refine' Reg.G.take (i := 6) (v := _) (F := (fun w => Fr (fun _ => False) u w)) rfl (by rfl) (by kernel_rfl) (by kernel_rfl) (by kernel_rfl) (fun _ _ _ h => h) (HFD.out) ?hya7 ?rehya7
    case hya7 => intro w hw; have kc := cell_fr hw HK1.out; clear hw; first | (go_simp; done) | (go_simp; with_reducible rfl)
    simp only [Act.put, List.setIfInBounds_toArray, List.set_cons_zero, List.set_cons_succ]
    refine' Reg.G.pure (i := 8) (v := _) rfl (by rfl) (by kernel_rfl) (by kernel_rfl) (by kernel_rfl) (fun _ _ _ h => h) ?hya8 ?rehya8
    case hya8 => exact fun w => by first | (go_simp; done) | (go_simp; with_reducible rfl)
    simp only [Act.put, List.setIfInBounds_toArray, List.set_cons_zero, List.set_cons_succ]
    refine Reg.G.two (j1 := 7) (j2 := 10) (m1 := [false, false, true, true]) (m2 := [true, true, true, true]) [6, 4, 3, 1] rfl rfl (by kernel_rfl) rfl (by kernel_rfl) (by kernel_rfl) (fun K hK => ?_) (fun K hK => ?_)
    · go_simp
      refine (HIX.out 3 x.name _ (by decide) (HFD.out.below (Nat.le_refl _) (fun _ h => h.elim))).mono ?_
      rintro e w9 ⟨rfl, hf⟩
      have HFw9 : Hid (Fr (fun _ => False) u w9) := HFD.out.trans hf
      clear hf
      refine hK.out _ _ ⟨HFw9.out, HFw9.out, trivial⟩ ?_
      clear hK K
      simp only [Act.put, List.setIfInBounds_toArray, List.set_cons_zero, List.set_cons_succ, Reg.Kept]
      refine' Reg.G.pure (i := 9) (v := _) rfl (by rfl) (by kernel_rfl) (by kernel_rfl) (by kernel_rfl) (fun _ _ _ h => h) ?hya10 ?rehya10
      case hya10 => exact fun w => by first | (go_simp; done) | (go_simp; with_reducible rfl)
      simp only [Act.put, List.setIfInBounds_toArray, List.set_cons_zero, List.set_cons_succ]
      refine Reg.G.step (j := 10) (m := [true, true]) [3, 1] rfl (by kernel_rfl) rfl (by kernel_rfl) (fun K hK => ?_)
      go_simp
      obtain ⟨w11, hw⟩ : ∃ v, ((w9).alloc (.cells #[.string ⟨#[]⟩, .int .i64 0, .int .i64 0, .int .i64 0, .int .i64 0] 61)) = v := ⟨_, rfl⟩
      rw [hw]
      have HFw11 : Hid (Fr (fun _ => False) u w11) := by rw [← hw]; exact HFw9.out.alloc _
      have HBw11 : Hid (w11.heap[(w9).heap.size]? = some (.cells #[.string ⟨#[]⟩, .int .i64 0, .int .i64 0, .int .i64 0, .int .i64 0] 61 (0, 0))) := by rw [← hw]; exact blk_newn rfl
      have HLw11 : Hid (u.heap.size ≤ (w9).heap.size) := HFw9.out.size
      clear hw
      refine hK.out _ _ ⟨HFw11.out, HFw11.out, trivial⟩ ?_
      clear hK K
      simp only [Act.put, List.setIfInBounds_toArray, List.set_cons_zero, List.set_cons_succ, Reg.Kept]
      refine Reg.G.step (j := 11) (m := [false, false]) [3, 1] rfl (by kernel_rfl) rfl (by kernel_rfl) (fun K hK => ?_)
      rw [if_pos (by rfl)]
      refine wp_store_row 61 (.tmp 5) (.tmp 15) rfl ((w9).heap.size) (unitv ⟨x.name, x.word, rix t 3 x.name, ⟨1, 1⟩⟩).toArray rfl rfl 61 _ HBw11.out (by kernel_rfl) rfl (by simp [unitv, sv, nv, Value.oneCell']) ?_
      obtain ⟨w12, hw⟩ : ∃ v, (w11).setRow ((w9).heap.size) (unitv ⟨x.name, x.word, rix t 3 x.name, ⟨1, 1⟩⟩).toArray = v := ⟨_, rfl⟩
      rw [hw]
      have HFw12 : Hid (Fr (fun _ => False) u w12) := by rw [← hw]; exact HFw11.out.setRow (.inr HLw11.out) _
      have HBw12 : Hid (w12.heap[(w9).heap.size]? = some (.cells (unitv ⟨x.name, x.word, rix t 3 x.name, ⟨1, 1⟩⟩).toArray 61 (0, 0))) := by rw [← hw]; exact blk_row HBw11.out _
      clear hw
      refine hK.out _ _ trivial ?_
      clear hK K
      simp only [Act.put, List.setIfInBounds_toArray, List.set_cons_zero, List.set_cons_succ, Reg.Kept]
      refine Reg.G.done (by kernel_rfl) ?_
      go_wp2_with fail
      go_meet
      exact ⟨_, rfl, CB.new (T' := 0) HFw12.out HBw12.out HLw11.out⟩
    · go_simp
      obtain ⟨w13, hw⟩ : ∃ v, ((u).alloc (.cells #[.string ⟨#[]⟩, .int .i64 0, .int .i64 0, .int .i64 0, .int .i64 0] 61)).drew = v := ⟨_, rfl⟩
      rw [hw]
      have HFw13 : Hid (Fr (fun _ => False) u w13) := by rw [← hw]; exact ((Fr.refl _ u).alloc _).drew
      have HBw13 : Hid (w13.heap[(u).heap.size]? = some (.cells #[.string ⟨#[]⟩, .int .i64 0, .int .i64 0, .int .i64 0, .int .i64 0] 61 (0, 0))) := by rw [← hw]; exact blk_newn rfl
      have HLw13 : Hid (u.heap.size ≤ (u).heap.size) := Nat.le_refl _
      clear hw
      refine hK.out _ _ ⟨HFw13.out, HFw13.out, HFw13.out, HFw13.out, trivial⟩ ?_
      clear hK K
      simp only [Act.put, List.setIfInBounds_toArray, List.set_cons_zero, List.set_cons_succ, Reg.Kept]
      refine Reg.G.step (j := 7) (m := [false, false, true, true]) [6, 4, 3, 1] rfl (by kernel_rfl) rfl (by kernel_rfl) (fun K hK => ?_)
      go_simp
      refine (HIX.out 3 x.name _ (by decide) (HFw13.out.below (Nat.le_refl _) (fun _ h => h.elim))).mono ?_
      rintro e w14 ⟨rfl, hf⟩
      have HFw14 : Hid (Fr (fun _ => False) u w14) := HFw13.out.trans hf
      have HBw14 : Hid (w14.heap[(u).heap.size]? = some (.cells #[.string ⟨#[]⟩, .int .i64 0, .int .i64 0, .int .i64 0, .int .i64 0] 61 (0, 0))) := hf.blk HBw13.out (fun h => h)
      clear hf
      refine hK.out _ _ ⟨HFw14.out, HFw14.out, trivial⟩ ?_
      clear hK K
      simp only [Act.put, List.setIfInBounds_toArray, List.set_cons_zero, List.set_cons_succ, Reg.Kept]
      refine' Reg.G.pure (i := 9) (v := _) rfl (by rfl) (by kernel_rfl) (by kernel_rfl) (by kernel_rfl) (fun _ _ _ h => h) ?hya15 ?rehya15
      case hya15 => exact fun w => by first | (go_simp; done) | (go_simp; with_reducible rfl)
      simp only [Act.put, List.setIfInBounds_toArray, List.set_cons_zero, List.set_cons_succ]
      refine Reg.G.step (j := 11) (m := [false, false]) [3, 1] rfl (by kernel_rfl) rfl (by kernel_rfl) (fun K hK => ?_)
      rw [if_pos (by rfl)]
      refine wp_store_row 61 (.tmp 5) (.tmp 15) rfl ((u).heap.size) (unitv ⟨x.name, x.word, rix t 3 x.name, ⟨1, 1⟩⟩).toArray rfl rfl 61 _ HBw14.out (by kernel_rfl) rfl (by simp [unitv, sv, nv, Value.oneCell']) ?_
      obtain ⟨w16, hw⟩ : ∃ v, (w14).setRow ((u).heap.size) (unitv ⟨x.name, x.word, rix t 3 x.name, ⟨1, 1⟩⟩).toArray = v := ⟨_, rfl⟩
      rw [hw]
      have HFw16 : Hid (Fr (fun _ => False) u w16) := by rw [← hw]; exact HFw14.out.setRow (.inr HLw13.out) _
      have HBw16 : Hid (w16.heap[(u).heap.size]? = some (.cells (unitv ⟨x.name, x.word, rix t 3 x.name, ⟨1, 1⟩⟩).toArray 61 (0, 0))) := by rw [← hw]; exact blk_row HBw14.out _
      clear hw
      refine hK.out _ _ trivial ?_
      clear hK K
      simp only [Act.put, List.setIfInBounds_toArray, List.set_cons_zero, List.set_cons_succ, Reg.Kept]
      refine Reg.G.done (by kernel_rfl) ?_
      go_wp2_with fail
      go_meet
      exact ⟨_, rfl, CB.new (T' := 0) HFw16.out HBw16.out HLw13.out⟩
  case rest =>
    obtain ⟨b, rfl, HC0⟩ := hcut
    have kc := HC0.out.cell HK18.out
    by_cases hu : x.unit = []
    · have HRU : Hid (runit t x = ⟨x.name, x.word, rix t 3 x.name, ⟨1, 1⟩⟩) := if_pos hu
      rw [hu] at kc
      replace kc : wc.cell? ⟨W.heap.size + 1, 18, none⟩ = some (.string ⟨#[]⟩) := kc
      clear hu
      go_upto_region 5 with fail
      iterate 1 go_step
      refine wpList_load_row rfl 61 _ rfl b rfl 61 (unitv ⟨x.name, x.word, rix t 3 x.name, ⟨1, 1⟩⟩).toArray (0, 0) _ HC0.out.bk Tryd.underlying61 rfl (by kernel_rfl) ?_
      simp only [Act.put, List.setIfInBounds_toArray, List.set_cons_zero, List.set_cons_succ]
      refine wpList_store_row rfl 61 _ _ rfl (W.heap.size + 1 + 1) (unitv ⟨x.name, x.word, rix t 3 x.name, ⟨1, 1⟩⟩).toArray rfl rfl 61 _ (HC0.out.blk HR.out) (by kernel_rfl) rfl (by simp [unitv, sv, nv, Value.oneCell']) ?_
      simp only [Act.put, List.setIfInBounds_toArray, List.set_cons_zero, List.set_cons_succ]
      obtain ⟨w9, hw9⟩ : ∃ w9, wc.setRow (W.heap.size + 1 + 1) (unitv ⟨x.name, x.word, rix t 3 x.name, ⟨1, 1⟩⟩).toArray = w9 := ⟨_, rfl⟩
      rw [hw9]
      have HB9 : Hid (w9.heap[W.heap.size + 1 + 1]? = some (.cells (unitv ⟨x.name, x.word, rix t 3 x.name, ⟨1, 1⟩⟩).toArray 61 (0, 0))) := by rw [← hw9]; exact blk_row (HC0.out.blk HR.out) _
      have HF9 : Hid (Fr (fun _ => False) W w9) := by rw [← hw9]; exact (HC0.out.done HFR.out).setRow (.inr (by omega)) _
      clear hw9
      go_wp2_with fail
      refine bodyPost_ret (v := .agg (unitv ⟨x.name, x.word, rix t 3 x.name, ⟨1, 1⟩⟩).toArray) (results_blk Tryd.results35 rfl HB9.out Tryd.underlying61 rfl (by kernel_rfl)) rfl ⟨by rw [HRU.out], HF9.out⟩
    · have HRU : Hid (runit t x = ⟨x.name, x.word, rix t 3 x.unit, x.num⟩) := if_neg hu
      have hb : (x.unit != []) = true := by simpa using hu
      have hb2 : (x.unit == []) = false := by simpa using hu
      clear hu
      go_upto_region 3 with fail
      iterate 1 go_step
      refine wpList_load_row rfl 100 _ rfl W.heap.size rfl 100 vs.toArray (0, 0) _ (HC0.out.blk HX.out) Tryd.underlying100 rfl (by rw [show vs.toArray.size = 6 from HT.out.len]; kernel_rfl) ?_
      simp only [Act.put, List.setIfInBounds_toArray, List.set_cons_zero, List.set_cons_succ]
      have HCL := Lib.hid (HIX.out 3 x.unit wc (by decide) HC0.out.below)
      have kc := HC0.out.cell HK18.out
      go_wp2_with fail
      refine HCL.out.mono ?_
      rintro e v17 ⟨rfl, hf⟩
      have HCa := Lib.hid (HC0.out.step hf)
      clear hf HCL kc HC0
      have kb : v17.cell? ⟨b, 2, none⟩ = some (.int .i64 (rix t 3 x.name)) := (cell_of_blk HCa.out.bk 2).trans rfl
      have fb := froz_of_blk HCa.out.bk 2
      go_upto_region 4 with fail
      obtain ⟨v18, hw⟩ : ∃ v, v17.setCell ⟨b, 2, none⟩ (.int .i64 (rix t 3 x.unit)) = v := ⟨_, rfl⟩
      rw [hw]
      have HC1 : Hid (CB u b 61 (unitv ⟨x.name, x.word, rix t 3 x.unit, ⟨1, 1⟩⟩) v18) := by rw [← hw]; exact HCa.out.set 2 _
      clear hw kb fb HCa
      go_upto_region 4 with fail
      have kc0 := HC1.out.cell HK16.out
      have kc1 := HC1.out.cell HK17.out
      have kb0 : v18.cell? ⟨b, 3, none⟩ = some (.int .i64 1) := (cell_of_blk HC1.out.bk 3).trans rfl
      have fb0 := froz_of_blk HC1.out.bk 3
      have kb1 : v18.cell? ⟨b, 4, none⟩ = some (.int .i64 1) := (cell_of_blk HC1.out.bk 4).trans rfl
      have fb1 := froz_of_blk HC1.out.bk 4
      go_upto_region 5 with fail
      obtain ⟨v19, hw⟩ : ∃ v, (v18.setCell ⟨b, 3, none⟩ (.int .i64 x.num.num)).setCell ⟨b, 4, none⟩ (.int .i64 x.num.den) = v := ⟨_, rfl⟩
      rw [hw]
      have HC2 : Hid (CB u b 61 (unitv ⟨x.name, x.word, rix t 3 x.unit, x.num⟩) v19) := by rw [← hw]; exact (HC1.out.set 3 _).set 4 _
      clear hw kb0 fb0 kb1 fb1 kc0 kc1 HC1
      go_upto_region 5 with fail
      iterate 1 go_step
      refine wpList_load_row rfl 61 _ rfl b rfl 61 (unitv ⟨x.name, x.word, rix t 3 x.unit, x.num⟩).toArray (0, 0) _ HC2.out.bk Tryd.underlying61 rfl (by kernel_rfl) ?_
      simp only [Act.put, List.setIfInBounds_toArray, List.set_cons_zero, List.set_cons_succ]
      refine wpList_store_row rfl 61 _ _ rfl (W.heap.size + 1 + 1) (unitv ⟨x.name, x.word, rix t 3 x.unit, x.num⟩).toArray rfl rfl 61 _ (HC2.out.blk HR.out) (by kernel_rfl) rfl (by simp [unitv, sv, nv, Value.oneCell']) ?_
      simp only [Act.put, List.setIfInBounds_toArray, List.set_cons_zero, List.set_cons_succ]
      obtain ⟨w9, hw9⟩ : ∃ w9, v19.setRow (W.heap.size + 1 + 1) (unitv ⟨x.name, x.word, rix t 3 x.unit, x.num⟩).toArray = w9 := ⟨_, rfl⟩
      rw [hw9]
      have HB9 : Hid (w9.heap[W.heap.size + 1 + 1]? = some (.cells (unitv ⟨x.name, x.word, rix t 3 x.unit, x.num⟩).toArray 61 (0, 0))) := by rw [← hw9]; exact blk_row (HC2.out.blk HR.out) _
      have HF9 : Hid (Fr (fun _ => False) W w9) := by rw [← hw9]; exact (HC2.out.done HFR.out).setRow (.inr (by omega)) _
      clear hw9
      go_wp2_with fail
      refine bodyPost_ret (v := .agg (unitv ⟨x.name, x.word, rix t 3 x.unit, x.num⟩).toArray) (results_blk Tryd.results35 rfl HB9.out Tryd.underlying61 rfl (by kernel_rfl)) rfl ⟨by rw [HRU.out], HF9.out⟩
set_option maxRecDepth 100000 in
set_option maxHeartbeats 4000000 in
theorem ract_any (t : Tab) (vs : List Value) (p : Item × Sl) (W : World) (h : TV W t vs) : Calls Tryd.prog 36 #[.agg vs.toArray, .agg (ic p).toArray] W fun e w' => e = .returned (.agg (actv (ract t p.1)).toArray) ∧ Fr (fun _ => False) W w' := by
  obtain ⟨x, sc, sd, sn, sx⟩ := p
  dsimp only
  obtain ⟨u, hu⟩ : ∃ u, ((W.alloc (.cells vs.toArray 100)).alloc (.cells (ic (x, sc, sd, sn, sx)).toArray 55)).alloc (.cells #[.int .i64 0, .int .i64 0, .int .i64 0, .int .i64 0, .int .i64 0, .int .i64 0, .int .i64 0] 63) = u := ⟨_, rfl⟩
  have HX : Hid (u.heap[W.heap.size]? = some (.cells vs.toArray 100 (0, 0))) := by rw [← hu]; exact blk_alloc (blk_alloc (blk_newn rfl) _) _
  have HY : Hid (u.heap[W.heap.size + 1]? = some (.cells (ic (x, sc, sd, sn, sx)).toArray 55 (0, 0))) := by rw [← hu]; exact blk_alloc (blk_newn (by simp)) _
  have HR : Hid (u.heap[W.heap.size + 1 + 1]? = some (.cells #[.int .i64 0, .int .i64 0, .int .i64 0, .int .i64 0, .int .i64 0, .int .i64 0, .int .i64 0] 63 (0, 0))) := by rw [← hu]; exact blk_newn (by simp)
  have HFR : Hid (Fr (fun _ => False) W u) := by rw [← hu]; exact (((Fr.refl _ W).alloc _).alloc _).alloc _
  have HSZ : Hid (W.heap.size + 1 + 1 < u.heap.size) := lt_of_blk HR.out
  have HU := Lib.hid hu
  have HT := Lib.hid h
  have HIX : Hid (∀ (g : Nat) (y : Bytes) (W' : World), g < 6 → Below u.heap.size u W' → Calls Tryd.prog 34 #[.agg vs.toArray, .int .i64 (g : Int), .string ⟨y.toArray⟩] W' fun e w' => e = .returned (.int .i64 (rix t g y)) ∧ Fr (fun _ => False) W' w') := fun g y W' hg hb => rindex_any t vs g y W' hg ((HT.out.frb HFR.out).below hb)
  have HOR : Hid (∀ (g : Nat) (y : Bytes) (W' : World), g < 6 → Below u.heap.size u W' → Calls Tryd.prog 55 #[.agg vs.toArray, .int .i64 (g : Int), .string ⟨y.toArray⟩] W' fun e w' => e = .returned (.int .i64 (rixo t g y)) ∧ Fr (fun _ => False) W' w') := fun g y W' hg hb => ror_any t vs g y W' hg ((HT.out.frb HFR.out).below hb)
  have HK3 : Hid (u.cell? ⟨W.heap.size + 1, 3, none⟩ = some (.string ⟨x.of_.toArray⟩)) := (cell_of_blk HY.out 3).trans rfl
  have HK5 : Hid (u.cell? ⟨W.heap.size + 1, 5, none⟩ = some (.int .i64 x.word)) := (cell_of_blk HY.out 5).trans rfl
  have HK16 : Hid (u.cell? ⟨W.heap.size + 1, 16, none⟩ = some (.int .i64 x.num.num)) := (cell_of_blk HY.out 16).trans rfl
  have HK17 : Hid (u.cell? ⟨W.heap.size + 1, 17, none⟩ = some (.int .i64 x.num.den)) := (cell_of_blk HY.out 17).trans rfl
  have HK18 : Hid (u.cell? ⟨W.heap.size + 1, 18, none⟩ = some (.string ⟨x.unit.toArray⟩)) := (cell_of_blk HY.out 18).trans rfl
  have HK21 : Hid (u.cell? ⟨W.heap.size + 1, 21, none⟩ = some (.string ⟨x.give.toArray⟩)) := (cell_of_blk HY.out 21).trans rfl
  have HK22 : Hid (u.cell? ⟨W.heap.size + 1, 22, none⟩ = some (.string ⟨x.to_.toArray⟩)) := (cell_of_blk HY.out 22).trans rfl
  clear hu h
  go_enter Tryd.func36, Tryd.ntmps36
  go_upto_region 1 with fail
  rw [HU.out]
  clear HU
  go_cut [5] (fun s5 wx => ∃ b, s5 = .pointer (some ⟨b, 0, none⟩) ∧ Hid (CB u b 63 (actv ⟨x.word, rixo t 2 x.of_, 0, 0, -1, ⟨0, 1⟩⟩) wx))
  case first =>
    have HFD : Hid (Fr (fun _ => False) u u.drew) := (Fr.refl _ u).drew
    refine Reg.G.start (by kernel_rfl) ?_
    refine' Reg.G.pure (i := 0) (v := _) rfl (by rfl) (by kernel_rfl) (by kernel_rfl) (by kernel_rfl) (fun _ _ _ h => h) ?hya20 ?rehya20
    case hya20 => exact fun w => by first | (go_simp; done) | (go_simp; with_reducible rfl)
    simp only [Act.put, List.setIfInBounds_toArray, List.set_cons_zero, List.set_cons_succ]
    refine' Reg.G.take (i := 1) (v := _) (F := (fun w => Fr (fun _ => False) u w)) rfl (by rfl) (by kernel_rfl) (by kernel_rfl) (by kernel_rfl) (fun _ _ _ h => h) (HFD.out) ?hya21 ?rehya21
    case hya21 => intro w hw; have kc := cell_fr hw HK5.out; clear hw; first | (go_simp; done) | (go_simp; with_reducible rfl)
    simp only [Act.put, List.setIfInBounds_toArray, List.set_cons_zero, List.set_cons_succ]
    refine' Reg.G.take (i := 2) (v := _) (F := (fun w => Fr (fun _ => False) u w)) rfl (by rfl) (by kernel_rfl) (by kernel_rfl) (by kernel_rfl) (fun _ _ _ h => h) (HFD.out) ?hya22 ?rehya22
    case hya22 => intro w hw; refine run_load_row (P := Tryd.prog) 100 (.tmp 2) ?_ W.heap.size ?_ 100 vs.toArray _ (hw.blk HX.out (fun h => h)) Tryd.underlying100 rfl (by rw [show vs.toArray.size = 6 from HT.out.len]; kernel_rfl) <;> rfl
    simp only [Act.put, List.setIfInBounds_toArray, List.set_cons_zero, List.set_cons_succ]
    refine' Reg.G.pure (i := 3) (v := _) rfl (by rfl) (by kernel_rfl) (by kernel_rfl) (by kernel_rfl) (fun _ _ _ h => h) ?hya23 ?rehya23
    case hya23 => exact fun w => by first | (go_simp; done) | (go_simp; with_reducible rfl)
    simp only [Act.put, List.setIfInBounds_toArray, List.set_cons_zero, List.set_cons_succ]
    refine' Reg.G.take (i := 4) (v := _) (F := (fun w => Fr (fun _ => False) u w)) rfl (by rfl) (by kernel_rfl) (by kernel_rfl) (by kernel_rfl) (fun _ _ _ h => h) (HFD.out) ?hya24 ?rehya24
    case hya24 => intro w hw; have kc := cell_fr hw HK3.out; clear hw; first | (go_simp; done) | (go_simp; with_reducible rfl)
    simp only [Act.put, List.setIfInBounds_toArray, List.set_cons_zero, List.set_cons_succ]
    refine' Reg.G.pure (i := 6) (v := _) rfl (by rfl) (by kernel_rfl) (by kernel_rfl) (by kernel_rfl) (fun _ _ _ h => h) ?hya25 ?rehya25
    case hya25 => exact fun w => by first | (go_simp; done) | (go_simp; with_reducible rfl)
    simp only [Act.put, List.setIfInBounds_toArray, List.set_cons_zero, List.set_cons_succ]
    refine Reg.G.two (j1 := 5) (j2 := 8) (m1 := [false, false, true]) (m2 := [true, true, true]) [4, 2, 1] rfl rfl (by kernel_rfl) rfl (by kernel_rfl) (by kernel_rfl) (fun K hK => ?_) (fun K hK => ?_)
    · go_simp
      refine (HOR.out 2 x.of_ _ (by decide) (HFD.out.below (Nat.le_refl _) (fun _ h => h.elim))).mono ?_
      rintro e w26 ⟨rfl, hf⟩
      have HFw26 : Hid (Fr (fun _ => False) u w26) := HFD.out.trans hf
      clear hf
      refine hK.out _ _ ⟨HFw26.out, trivial⟩ ?_
      clear hK K
      simp only [Act.put, List.setIfInBounds_toArray, List.set_cons_zero, List.set_cons_succ, Reg.Kept]
      refine' Reg.G.pure (i := 7) (v := _) rfl (by rfl) (by kernel_rfl) (by kernel_rfl) (by kernel_rfl) (fun _ _ _ h => h) ?hya27 ?rehya27
      case hya27 => exact fun w => by first | (go_simp; done) | (go_simp; with_reducible rfl)
      simp only [Act.put, List.setIfInBounds_toArray, List.set_cons_zero, List.set_cons_succ]
      refine Reg.G.step (j := 8) (m := [true]) [1] rfl (by kernel_rfl) rfl (by kernel_rfl) (fun K hK => ?_)
      go_simp
      obtain ⟨w28, hw⟩ : ∃ v, ((w26).alloc (.cells #[.int .i64 0, .int .i64 0, .int .i64 0, .int .i64 0, .int .i64 0, .int .i64 0, .int .i64 0] 63)) = v := ⟨_, rfl⟩
      rw [hw]
      have HFw28 : Hid (Fr (fun _ => False) u w28) := by rw [← hw]; exact HFw26.out.alloc _
      have HBw28 : Hid (w28.heap[(w26).heap.size]? = some (.cells #[.int .i64 0, .int .i64 0, .int .i64 0, .int .i64 0, .int .i64 0, .int .i64 0, .int .i64 0] 63 (0, 0))) := by rw [← hw]; exact blk_newn rfl
      have HLw28 : Hid (u.heap.size ≤ (w26).heap.size) := HFw26.out.size
      clear hw
      refine hK.out _ _ ⟨HFw28.out, trivial⟩ ?_
      clear hK K
      simp only [Act.put, List.setIfInBounds_toArray, List.set_cons_zero, List.set_cons_succ, Reg.Kept]
      refine Reg.G.step (j := 9) (m := [false]) [1] rfl (by kernel_rfl) rfl (by kernel_rfl) (fun K hK => ?_)
      rw [if_pos (by rfl)]
      refine wp_store_row 63 (.tmp 5) (.tmp 13) rfl ((w26).heap.size) (actv ⟨x.word, rixo t 2 x.of_, 0, 0, -1, ⟨0, 1⟩⟩).toArray rfl rfl 63 _ HBw28.out (by kernel_rfl) rfl (by simp [actv, nv, Value.oneCell']) ?_
      obtain ⟨w29, hw⟩ : ∃ v, (w28).setRow ((w26).heap.size) (actv ⟨x.word, rixo t 2 x.of_, 0, 0, -1, ⟨0, 1⟩⟩).toArray = v := ⟨_, rfl⟩
      rw [hw]
      have HFw29 : Hid (Fr (fun _ => False) u w29) := by rw [← hw]; exact HFw28.out.setRow (.inr HLw28.out) _
      have HBw29 : Hid (w29.heap[(w26).heap.size]? = some (.cells (actv ⟨x.word, rixo t 2 x.of_, 0, 0, -1, ⟨0, 1⟩⟩).toArray 63 (0, 0))) := by rw [← hw]; exact blk_row HBw28.out _
      clear hw
      refine hK.out _ _ trivial ?_
      clear hK K
      simp only [Act.put, List.setIfInBounds_toArray, List.set_cons_zero, List.set_cons_succ, Reg.Kept]
      refine Reg.G.done (by kernel_rfl) ?_
      go_wp2_with fail
      go_meet
      exact ⟨_, rfl, CB.new (T' := 0) HFw29.out HBw29.out HLw28.out⟩
    · go_simp
      obtain ⟨w30, hw⟩ : ∃ v, ((u).alloc (.cells #[.int .i64 0, .int .i64 0, .int .i64 0, .int .i64 0, .int .i64 0, .int .i64 0, .int .i64 0] 63)).drew = v := ⟨_, rfl⟩
      rw [hw]
      have HFw30 : Hid (Fr (fun _ => False) u w30) := by rw [← hw]; exact ((Fr.refl _ u).alloc _).drew
      have HBw30 : Hid (w30.heap[(u).heap.size]? = some (.cells #[.int .i64 0, .int .i64 0, .int .i64 0, .int .i64 0, .int .i64 0, .int .i64 0, .int .i64 0] 63 (0, 0))) := by rw [← hw]; exact blk_newn rfl
      have HLw30 : Hid (u.heap.size ≤ (u).heap.size) := Nat.le_refl _
      clear hw
      refine hK.out _ _ ⟨HFw30.out, HFw30.out, HFw30.out, trivial⟩ ?_
      clear hK K
      simp only [Act.put, List.setIfInBounds_toArray, List.set_cons_zero, List.set_cons_succ, Reg.Kept]
      refine Reg.G.step (j := 5) (m := [false, false, true]) [4, 2, 1] rfl (by kernel_rfl) rfl (by kernel_rfl) (fun K hK => ?_)
      go_simp
      refine (HOR.out 2 x.of_ _ (by decide) (HFw30.out.below (Nat.le_refl _) (fun _ h => h.elim))).mono ?_
      rintro e w31 ⟨rfl, hf⟩
      have HFw31 : Hid (Fr (fun _ => False) u w31) := HFw30.out.trans hf
      have HBw31 : Hid (w31.heap[(u).heap.size]? = some (.cells #[.int .i64 0, .int .i64 0, .int .i64 0, .int .i64 0, .int .i64 0, .int .i64 0, .int .i64 0] 63 (0, 0))) := hf.blk HBw30.out (fun h => h)
      clear hf
      refine hK.out _ _ ⟨HFw31.out, trivial⟩ ?_
      clear hK K
      simp only [Act.put, List.setIfInBounds_toArray, List.set_cons_zero, List.set_cons_succ, Reg.Kept]
      refine' Reg.G.pure (i := 7) (v := _) rfl (by rfl) (by kernel_rfl) (by kernel_rfl) (by kernel_rfl) (fun _ _ _ h => h) ?hya32 ?rehya32
      case hya32 => exact fun w => by first | (go_simp; done) | (go_simp; with_reducible rfl)
      simp only [Act.put, List.setIfInBounds_toArray, List.set_cons_zero, List.set_cons_succ]
      refine Reg.G.step (j := 9) (m := [false]) [1] rfl (by kernel_rfl) rfl (by kernel_rfl) (fun K hK => ?_)
      rw [if_pos (by rfl)]
      refine wp_store_row 63 (.tmp 5) (.tmp 13) rfl ((u).heap.size) (actv ⟨x.word, rixo t 2 x.of_, 0, 0, -1, ⟨0, 1⟩⟩).toArray rfl rfl 63 _ HBw31.out (by kernel_rfl) rfl (by simp [actv, nv, Value.oneCell']) ?_
      obtain ⟨w33, hw⟩ : ∃ v, (w31).setRow ((u).heap.size) (actv ⟨x.word, rixo t 2 x.of_, 0, 0, -1, ⟨0, 1⟩⟩).toArray = v := ⟨_, rfl⟩
      rw [hw]
      have HFw33 : Hid (Fr (fun _ => False) u w33) := by rw [← hw]; exact HFw31.out.setRow (.inr HLw30.out) _
      have HBw33 : Hid (w33.heap[(u).heap.size]? = some (.cells (actv ⟨x.word, rixo t 2 x.of_, 0, 0, -1, ⟨0, 1⟩⟩).toArray 63 (0, 0))) := by rw [← hw]; exact blk_row HBw31.out _
      clear hw
      refine hK.out _ _ trivial ?_
      clear hK K
      simp only [Act.put, List.setIfInBounds_toArray, List.set_cons_zero, List.set_cons_succ, Reg.Kept]
      refine Reg.G.done (by kernel_rfl) ?_
      go_wp2_with fail
      go_meet
      exact ⟨_, rfl, CB.new (T' := 0) HFw33.out HBw33.out HLw30.out⟩
  case rest =>
    obtain ⟨b, rfl, HC0⟩ := hcut
    have kc5 := HC0.out.cell HK5.out
    by_cases h2 : x.word = 2
    · have HRU : Hid (ract t x = ⟨x.word, rixo t 2 x.of_, rix t 2 x.give, rix t 1 x.to_, -1, ⟨0, 1⟩⟩) := by show _ = _; unfold ract gives; simp [h2]
      replace kc5 : wc.cell? ⟨W.heap.size + 1, 5, none⟩ = some (.int .i64 2) := by rw [← h2]; exact kc5
      clear h2
      go_upto_region 3 with fail
      iterate 1 go_step
      refine wpList_load_row rfl 100 _ rfl W.heap.size rfl 100 vs.toArray (0, 0) _ (HC0.out.blk HX.out) Tryd.underlying100 rfl (by rw [show vs.toArray.size = 6 from HT.out.len]; kernel_rfl) ?_
      simp only [Act.put, List.setIfInBounds_toArray, List.set_cons_zero, List.set_cons_succ]
      have HCL := Lib.hid (HIX.out 2 x.give wc (by decide) HC0.out.below)
      have kc := HC0.out.cell HK21.out
      go_wp2_with fail
      refine HCL.out.mono ?_
      rintro e v34 ⟨rfl, hf⟩
      have HCa := Lib.hid (HC0.out.step hf)
      clear hf HCL kc HC0
      have kb : v34.cell? ⟨b, 2, none⟩ = some (.int .i64 (0)) := (cell_of_blk HCa.out.bk 2).trans rfl
      have fb := froz_of_blk HCa.out.bk 2
      go_upto_region 4 with fail
      obtain ⟨v35, hw⟩ : ∃ v, v34.setCell ⟨b, 2, none⟩ (.int .i64 (rix t 2 x.give)) = v := ⟨_, rfl⟩
      rw [hw]
      have HC1 : Hid (CB u b 63 (actv ⟨x.word, rixo t 2 x.of_, rix t 2 x.give, 0, -1, ⟨0, 1⟩⟩) v35) := by rw [← hw]; exact HCa.out.set 2 _
      clear hw kb fb HCa
      go_upto_region 4 with fail
      iterate 1 go_step
      refine wpList_load_row rfl 100 _ rfl W.heap.size rfl 100 vs.toArray (0, 0) _ (HC1.out.blk HX.out) Tryd.underlying100 rfl (by rw [show vs.toArray.size = 6 from HT.out.len]; kernel_rfl) ?_
      simp only [Act.put, List.setIfInBounds_toArray, List.set_cons_zero, List.set_cons_succ]
      have HCL := Lib.hid (HIX.out 1 x.to_ v35 (by decide) HC1.out.below)
      have kc := HC1.out.cell HK22.out
      go_wp2_with fail
      refine HCL.out.mono ?_
      rintro e v36 ⟨rfl, hf⟩
      have HCa := Lib.hid (HC1.out.step hf)
      clear hf HCL kc HC1
      have kb : v36.cell? ⟨b, 3, none⟩ = some (.int .i64 (0)) := (cell_of_blk HCa.out.bk 3).trans rfl
      have fb := froz_of_blk HCa.out.bk 3
      go_upto_region 5 with fail
      obtain ⟨v37, hw⟩ : ∃ v, v36.setCell ⟨b, 3, none⟩ (.int .i64 (rix t 1 x.to_)) = v := ⟨_, rfl⟩
      rw [hw]
      have HC2 : Hid (CB u b 63 (actv ⟨x.word, rixo t 2 x.of_, rix t 2 x.give, rix t 1 x.to_, -1, ⟨0, 1⟩⟩) v37) := by rw [← hw]; exact HCa.out.set 3 _
      clear hw kb fb HCa
      go_upto_region 5 with fail
      iterate 1 go_step
      refine wpList_load_row rfl 63 _ rfl b rfl 63 (actv ⟨x.word, rixo t 2 x.of_, rix t 2 x.give, rix t 1 x.to_, -1, ⟨0, 1⟩⟩).toArray (0, 0) _ HC2.out.bk Tryd.underlying63 rfl (by kernel_rfl) ?_
      simp only [Act.put, List.setIfInBounds_toArray, List.set_cons_zero, List.set_cons_succ]
      refine wpList_store_row rfl 63 _ _ rfl (W.heap.size + 1 + 1) (actv ⟨x.word, rixo t 2 x.of_, rix t 2 x.give, rix t 1 x.to_, -1, ⟨0, 1⟩⟩).toArray rfl rfl 63 _ (HC2.out.blk HR.out) (by kernel_rfl) rfl (by simp [actv, nv, Value.oneCell']) ?_
      simp only [Act.put, List.setIfInBounds_toArray, List.set_cons_zero, List.set_cons_succ]
      obtain ⟨w9, hw9⟩ : ∃ w9, v37.setRow (W.heap.size + 1 + 1) (actv ⟨x.word, rixo t 2 x.of_, rix t 2 x.give, rix t 1 x.to_, -1, ⟨0, 1⟩⟩).toArray = w9 := ⟨_, rfl⟩
      rw [hw9]
      have HB9 : Hid (w9.heap[W.heap.size + 1 + 1]? = some (.cells (actv ⟨x.word, rixo t 2 x.of_, rix t 2 x.give, rix t 1 x.to_, -1, ⟨0, 1⟩⟩).toArray 63 (0, 0))) := by rw [← hw9]; exact blk_row (HC2.out.blk HR.out) _
      have HF9 : Hid (Fr (fun _ => False) W w9) := by rw [← hw9]; exact (HC2.out.done HFR.out).setRow (.inr (by omega)) _
      clear hw9
      go_wp2_with fail
      refine bodyPost_ret (v := .agg (actv ⟨x.word, rixo t 2 x.of_, rix t 2 x.give, rix t 1 x.to_, -1, ⟨0, 1⟩⟩).toArray) (results_blk Tryd.results36 rfl HB9.out Tryd.underlying63 rfl (by kernel_rfl)) rfl ⟨by rw [HRU.out], HF9.out⟩
    by_cases h3 : x.word = 3
    · have HRU : Hid (ract t x = ⟨x.word, rixo t 2 x.of_, rix t 2 x.give, rix t 1 x.to_, -1, ⟨0, 1⟩⟩) := by show _ = _; unfold ract gives; simp [h3]
      replace kc5 : wc.cell? ⟨W.heap.size + 1, 5, none⟩ = some (.int .i64 3) := by rw [← h3]; exact kc5
      clear h2 h3
      go_upto_region 3 with fail
      iterate 1 go_step
      refine wpList_load_row rfl 100 _ rfl W.heap.size rfl 100 vs.toArray (0, 0) _ (HC0.out.blk HX.out) Tryd.underlying100 rfl (by rw [show vs.toArray.size = 6 from HT.out.len]; kernel_rfl) ?_
      simp only [Act.put, List.setIfInBounds_toArray, List.set_cons_zero, List.set_cons_succ]
      have HCL := Lib.hid (HIX.out 2 x.give wc (by decide) HC0.out.below)
      have kc := HC0.out.cell HK21.out
      go_wp2_with fail
      refine HCL.out.mono ?_
      rintro e v34 ⟨rfl, hf⟩
      have HCa := Lib.hid (HC0.out.step hf)
      clear hf HCL kc HC0
      have kb : v34.cell? ⟨b, 2, none⟩ = some (.int .i64 (0)) := (cell_of_blk HCa.out.bk 2).trans rfl
      have fb := froz_of_blk HCa.out.bk 2
      go_upto_region 4 with fail
      obtain ⟨v35, hw⟩ : ∃ v, v34.setCell ⟨b, 2, none⟩ (.int .i64 (rix t 2 x.give)) = v := ⟨_, rfl⟩
      rw [hw]
      have HC1 : Hid (CB u b 63 (actv ⟨x.word, rixo t 2 x.of_, rix t 2 x.give, 0, -1, ⟨0, 1⟩⟩) v35) := by rw [← hw]; exact HCa.out.set 2 _
      clear hw kb fb HCa
      go_upto_region 4 with fail
      iterate 1 go_step
      refine wpList_load_row rfl 100 _ rfl W.heap.size rfl 100 vs.toArray (0, 0) _ (HC1.out.blk HX.out) Tryd.underlying100 rfl (by rw [show vs.toArray.size = 6 from HT.out.len]; kernel_rfl) ?_
      simp only [Act.put, List.setIfInBounds_toArray, List.set_cons_zero, List.set_cons_succ]
      have HCL := Lib.hid (HIX.out 1 x.to_ v35 (by decide) HC1.out.below)
      have kc := HC1.out.cell HK22.out
      go_wp2_with fail
      refine HCL.out.mono ?_
      rintro e v36 ⟨rfl, hf⟩
      have HCa := Lib.hid (HC1.out.step hf)
      clear hf HCL kc HC1
      have kb : v36.cell? ⟨b, 3, none⟩ = some (.int .i64 (0)) := (cell_of_blk HCa.out.bk 3).trans rfl
      have fb := froz_of_blk HCa.out.bk 3
      go_upto_region 5 with fail
      obtain ⟨v37, hw⟩ : ∃ v, v36.setCell ⟨b, 3, none⟩ (.int .i64 (rix t 1 x.to_)) = v := ⟨_, rfl⟩
      rw [hw]
      have HC2 : Hid (CB u b 63 (actv ⟨x.word, rixo t 2 x.of_, rix t 2 x.give, rix t 1 x.to_, -1, ⟨0, 1⟩⟩) v37) := by rw [← hw]; exact HCa.out.set 3 _
      clear hw kb fb HCa
      go_upto_region 5 with fail
      iterate 1 go_step
      refine wpList_load_row rfl 63 _ rfl b rfl 63 (actv ⟨x.word, rixo t 2 x.of_, rix t 2 x.give, rix t 1 x.to_, -1, ⟨0, 1⟩⟩).toArray (0, 0) _ HC2.out.bk Tryd.underlying63 rfl (by kernel_rfl) ?_
      simp only [Act.put, List.setIfInBounds_toArray, List.set_cons_zero, List.set_cons_succ]
      refine wpList_store_row rfl 63 _ _ rfl (W.heap.size + 1 + 1) (actv ⟨x.word, rixo t 2 x.of_, rix t 2 x.give, rix t 1 x.to_, -1, ⟨0, 1⟩⟩).toArray rfl rfl 63 _ (HC2.out.blk HR.out) (by kernel_rfl) rfl (by simp [actv, nv, Value.oneCell']) ?_
      simp only [Act.put, List.setIfInBounds_toArray, List.set_cons_zero, List.set_cons_succ]
      obtain ⟨w9, hw9⟩ : ∃ w9, v37.setRow (W.heap.size + 1 + 1) (actv ⟨x.word, rixo t 2 x.of_, rix t 2 x.give, rix t 1 x.to_, -1, ⟨0, 1⟩⟩).toArray = w9 := ⟨_, rfl⟩
      rw [hw9]
      have HB9 : Hid (w9.heap[W.heap.size + 1 + 1]? = some (.cells (actv ⟨x.word, rixo t 2 x.of_, rix t 2 x.give, rix t 1 x.to_, -1, ⟨0, 1⟩⟩).toArray 63 (0, 0))) := by rw [← hw9]; exact blk_row (HC2.out.blk HR.out) _
      have HF9 : Hid (Fr (fun _ => False) W w9) := by rw [← hw9]; exact (HC2.out.done HFR.out).setRow (.inr (by omega)) _
      clear hw9
      go_wp2_with fail
      refine bodyPost_ret (v := .agg (actv ⟨x.word, rixo t 2 x.of_, rix t 2 x.give, rix t 1 x.to_, -1, ⟨0, 1⟩⟩).toArray) (results_blk Tryd.results36 rfl HB9.out Tryd.underlying63 rfl (by kernel_rfl)) rfl ⟨by rw [HRU.out], HF9.out⟩
    have hg : gives x = false := by unfold gives; simp [h2, h3]
    have hw2 : (x.word == 2) = false := by simpa using h2
    have hw3 : (x.word == 3) = false := by simpa using h3
    clear h2 h3
    have HGN : Hid (ract t x = if x.unit = [] then ⟨x.word, rixo t 2 x.of_, 0, rixo t 2 x.to_, -1, ⟨0, 1⟩⟩ else ⟨x.word, rixo t 2 x.of_, 0, rixo t 2 x.to_, rix t 3 x.unit, x.num⟩) := by show _ = _; unfold ract; rw [hg, if_neg (by decide)]
    clear hg
    go_upto_region 6 with fail
    iterate 1 go_step
    refine wpList_load_row rfl 100 _ rfl W.heap.size rfl 100 vs.toArray (0, 0) _ (HC0.out.blk HX.out) Tryd.underlying100 rfl (by rw [show vs.toArray.size = 6 from HT.out.len]; kernel_rfl) ?_
    simp only [Act.put, List.setIfInBounds_toArray, List.set_cons_zero, List.set_cons_succ]
    have HCL := Lib.hid (HOR.out 2 x.to_ wc (by decide) HC0.out.below)
    have kc := HC0.out.cell HK22.out
    go_wp2_with fail
    refine HCL.out.mono ?_
    rintro e v38 ⟨rfl, hf⟩
    have HCa := Lib.hid (HC0.out.step hf)
    clear hf HCL kc HC0
    have kb : v38.cell? ⟨b, 3, none⟩ = some (.int .i64 (0)) := (cell_of_blk HCa.out.bk 3).trans rfl
    have fb := froz_of_blk HCa.out.bk 3
    go_upto_region 7 with fail
    obtain ⟨v39, hw⟩ : ∃ v, v38.setCell ⟨b, 3, none⟩ (.int .i64 (rixo t 2 x.to_)) = v := ⟨_, rfl⟩
    rw [hw]
    have HC1 : Hid (CB u b 63 (actv ⟨x.word, rixo t 2 x.of_, 0, rixo t 2 x.to_, -1, ⟨0, 1⟩⟩) v39) := by rw [← hw]; exact HCa.out.set 3 _
    clear hw kb fb HCa
    clear hw2 hw3 kc5
    have kc := HC1.out.cell HK18.out
    by_cases hu : x.unit = []
    · have HRU : Hid (ract t x = ⟨x.word, rixo t 2 x.of_, 0, rixo t 2 x.to_, -1, ⟨0, 1⟩⟩) := by show _ = _; rw [HGN.out, if_pos hu]
      rw [hu] at kc
      replace kc : v39.cell? ⟨W.heap.size + 1, 18, none⟩ = some (.string ⟨#[]⟩) := kc
      clear hu HGN
      go_upto_region 10 with fail
      iterate 1 go_step
      refine wpList_load_row rfl 63 _ rfl b rfl 63 (actv ⟨x.word, rixo t 2 x.of_, 0, rixo t 2 x.to_, -1, ⟨0, 1⟩⟩).toArray (0, 0) _ HC1.out.bk Tryd.underlying63 rfl (by kernel_rfl) ?_
      simp only [Act.put, List.setIfInBounds_toArray, List.set_cons_zero, List.set_cons_succ]
      refine wpList_store_row rfl 63 _ _ rfl (W.heap.size + 1 + 1) (actv ⟨x.word, rixo t 2 x.of_, 0, rixo t 2 x.to_, -1, ⟨0, 1⟩⟩).toArray rfl rfl 63 _ (HC1.out.blk HR.out) (by kernel_rfl) rfl (by simp [actv, nv, Value.oneCell']) ?_
      simp only [Act.put, List.setIfInBounds_toArray, List.set_cons_zero, List.set_cons_succ]
      obtain ⟨w9, hw9⟩ : ∃ w9, v39.setRow (W.heap.size + 1 + 1) (actv ⟨x.word, rixo t 2 x.of_, 0, rixo t 2 x.to_, -1, ⟨0, 1⟩⟩).toArray = w9 := ⟨_, rfl⟩
      rw [hw9]
      have HB9 : Hid (w9.heap[W.heap.size + 1 + 1]? = some (.cells (actv ⟨x.word, rixo t 2 x.of_, 0, rixo t 2 x.to_, -1, ⟨0, 1⟩⟩).toArray 63 (0, 0))) := by rw [← hw9]; exact blk_row (HC1.out.blk HR.out) _
      have HF9 : Hid (Fr (fun _ => False) W w9) := by rw [← hw9]; exact (HC1.out.done HFR.out).setRow (.inr (by omega)) _
      clear hw9
      go_wp2_with fail
      refine bodyPost_ret (v := .agg (actv ⟨x.word, rixo t 2 x.of_, 0, rixo t 2 x.to_, -1, ⟨0, 1⟩⟩).toArray) (results_blk Tryd.results36 rfl HB9.out Tryd.underlying63 rfl (by kernel_rfl)) rfl ⟨by rw [HRU.out], HF9.out⟩
    · have HRU : Hid (ract t x = ⟨x.word, rixo t 2 x.of_, 0, rixo t 2 x.to_, rix t 3 x.unit, x.num⟩) := by show _ = _; rw [HGN.out, if_neg hu]
      have hb : (x.unit != []) = true := by simpa using hu
      have hb2 : (x.unit == []) = false := by simpa using hu
      clear hu HGN
      go_upto_region 8 with fail
      iterate 1 go_step
      refine wpList_load_row rfl 100 _ rfl W.heap.size rfl 100 vs.toArray (0, 0) _ (HC1.out.blk HX.out) Tryd.underlying100 rfl (by rw [show vs.toArray.size = 6 from HT.out.len]; kernel_rfl) ?_
      simp only [Act.put, List.setIfInBounds_toArray, List.set_cons_zero, List.set_cons_succ]
      have HCL := Lib.hid (HIX.out 3 x.unit v39 (by decide) HC1.out.below)
      have kc := HC1.out.cell HK18.out
      go_wp2_with fail
      refine HCL.out.mono ?_
      rintro e v40 ⟨rfl, hf⟩
      have HCa := Lib.hid (HC1.out.step hf)
      clear hf HCL kc HC1
      have kb : v40.cell? ⟨b, 4, none⟩ = some (.int .i64 (-1)) := (cell_of_blk HCa.out.bk 4).trans rfl
      have fb := froz_of_blk HCa.out.bk 4
      go_upto_region 9 with fail
      obtain ⟨v41, hw⟩ : ∃ v, v40.setCell ⟨b, 4, none⟩ (.int .i64 (rix t 3 x.unit)) = v := ⟨_, rfl⟩
      rw [hw]
      have HC2 : Hid (CB u b 63 (actv ⟨x.word, rixo t 2 x.of_, 0, rixo t 2 x.to_, rix t 3 x.unit, ⟨0, 1⟩⟩) v41) := by rw [← hw]; exact HCa.out.set 4 _
      clear hw kb fb HCa
      go_upto_region 9 with fail
      have kc0 := HC2.out.cell HK16.out
      have kc1 := HC2.out.cell HK17.out
      have kb0 : v41.cell? ⟨b, 5, none⟩ = some (.int .i64 0) := (cell_of_blk HC2.out.bk 5).trans rfl
      have fb0 := froz_of_blk HC2.out.bk 5
      have kb1 : v41.cell? ⟨b, 6, none⟩ = some (.int .i64 1) := (cell_of_blk HC2.out.bk 6).trans rfl
      have fb1 := froz_of_blk HC2.out.bk 6
      go_upto_region 10 with fail
      obtain ⟨v42, hw⟩ : ∃ v, (v41.setCell ⟨b, 5, none⟩ (.int .i64 x.num.num)).setCell ⟨b, 6, none⟩ (.int .i64 x.num.den) = v := ⟨_, rfl⟩
      rw [hw]
      have HC3 : Hid (CB u b 63 (actv ⟨x.word, rixo t 2 x.of_, 0, rixo t 2 x.to_, rix t 3 x.unit, x.num⟩) v42) := by rw [← hw]; exact (HC2.out.set 5 _).set 6 _
      clear hw kb0 fb0 kb1 fb1 kc0 kc1 HC2
      go_upto_region 10 with fail
      iterate 1 go_step
      refine wpList_load_row rfl 63 _ rfl b rfl 63 (actv ⟨x.word, rixo t 2 x.of_, 0, rixo t 2 x.to_, rix t 3 x.unit, x.num⟩).toArray (0, 0) _ HC3.out.bk Tryd.underlying63 rfl (by kernel_rfl) ?_
      simp only [Act.put, List.setIfInBounds_toArray, List.set_cons_zero, List.set_cons_succ]
      refine wpList_store_row rfl 63 _ _ rfl (W.heap.size + 1 + 1) (actv ⟨x.word, rixo t 2 x.of_, 0, rixo t 2 x.to_, rix t 3 x.unit, x.num⟩).toArray rfl rfl 63 _ (HC3.out.blk HR.out) (by kernel_rfl) rfl (by simp [actv, nv, Value.oneCell']) ?_
      simp only [Act.put, List.setIfInBounds_toArray, List.set_cons_zero, List.set_cons_succ]
      obtain ⟨w9, hw9⟩ : ∃ w9, v42.setRow (W.heap.size + 1 + 1) (actv ⟨x.word, rixo t 2 x.of_, 0, rixo t 2 x.to_, rix t 3 x.unit, x.num⟩).toArray = w9 := ⟨_, rfl⟩
      rw [hw9]
      have HB9 : Hid (w9.heap[W.heap.size + 1 + 1]? = some (.cells (actv ⟨x.word, rixo t 2 x.of_, 0, rixo t 2 x.to_, rix t 3 x.unit, x.num⟩).toArray 63 (0, 0))) := by rw [← hw9]; exact blk_row (HC3.out.blk HR.out) _
      have HF9 : Hid (Fr (fun _ => False) W w9) := by rw [← hw9]; exact (HC3.out.done HFR.out).setRow (.inr (by omega)) _
      clear hw9
      go_wp2_with fail
      refine bodyPost_ret (v := .agg (actv ⟨x.word, rixo t 2 x.of_, 0, rixo t 2 x.to_, rix t 3 x.unit, x.num⟩).toArray) (results_blk Tryd.results36 rfl HB9.out Tryd.underlying63 rfl (by kernel_rfl)) rfl ⟨by rw [HRU.out], HF9.out⟩
end Go.Proofs.YtdhjibnkebbejaaDoor.Rs
