/-
  What the reference's function clause returns.
-/
import Derived.Test.YtdhjibnkebbejaaDoorResRefU
import Derived.Test.YtdhjibnkebbejaaDoorResClause
import Derived.Deep.DeepCutAuto
namespace Go.Proofs.YtdhjibnkebbejaaDoor.Rs
open Go.RowKit Mem Vw
set_option linter.unusedVariables false
set_option linter.unusedSimpArgs false

/-- What the loop over the conditions holds. -/
structure CLs (t : Tab) (u : World) (B b : Nat) (c : Clause) (cs : List Named) (k : Nat) (st : Value) (wr : World) : Prop where
  cb : CB u b 69 (clv c st) wr
  own : wr.ownsRow B 114 2 st k (((cs.take k).map (rcond t)).flatMap condv)
  lt : b < B
  le : B ≤ wr.heap.size
def CLr (t : Tab) (u : World) (B b : Nat) (c : Clause) (cs : List Named) (i : Value) (wr : World) : Prop :=
  ∃ k A cap, i = .int .i64 ((k : Nat) : Int) ∧ k ≤ cs.length ∧ Hid (CLs t u B b c cs k (.slice A k cap) wr)
theorem CLs.next {t : Tab} {u : World} {B b : Nat} {c : Clause} {cs : List Named} {k : Nat} {st : Value} {wr wa wc : World} (h : CLs t u B b c cs k st wr) (hfa : Fr (fun _ => False) wr wa) {gn cn : Nat} {n : Named} (hn : cs[k]? = some n)
    (g1 : wc.ownsRow B 114 2 (.slice (some ⟨gn, 0, none⟩) (k + 1) cn) (k + 1) (((cs.take k).map (rcond t)).flatMap condv ++ condv (rcond t n))) (g2 : wa.grownBy wc st.ownBlock) :
    CLs t u B b c cs (k + 1) (.slice (some ⟨gn, 0, none⟩) (k + 1) cn) (wc.setCell ⟨b, 4, none⟩ (.slice (some ⟨gn, 0, none⟩) (k + 1) cn)) := by
  have hown := own_fr h.own hfa (fun _ _ _ h => h)
  have hne : ∀ j, st.ownBlock = some j → B ≤ j := fun j hj => (own_lt hown j hj).1
  have hfr : Fr (fun k => k = b) u wc := (h.cb.fr.trans' hfa (fun _ _ h => h.elim)).grown g2 (fun j hj => .inr (by have := hne j hj; have := h.cb.lo; have := h.lt; omega))
  have hbk : wc.heap[b]? = some (.cells (clv c st).toArray 69 (0, 0)) := (Fr.of_grown g2).blk (hfa.blk h.cb.bk (fun h => h)) (fun e => by have := hne _ e; have := h.lt; omega)
  refine ⟨?_, ?_, h.lt, ?_⟩
  · have h0 : CB u b 69 (clv c st) wc := ⟨h.cb.lo, hbk, hfr⟩
    exact h0.set 4 _
  · have hs : Fr (fun k => k = b) wc (wc.setCell ⟨b, 4, none⟩ (.slice (some ⟨gn, 0, none⟩) (k + 1) cn)) := (Fr.refl (fun k => k = b) wc).setCell (p := ⟨b, 4, none⟩) (.inl rfl) _
    refine own_fr ?_ hs (fun j h1 _ e => by have := h.lt; omega)
    rw [List.take_add_one, hn, List.map_append, List.flatMap_append]
    simpa using g1
  · have h1 := h.le; have h2 := hfa.size; have h3 := (Fr.of_grown g2).size
    rw [World.setCell, ] at *
    simp only [Array.size_modify]
    omega
theorem bsl_condR (i j : Int) (w : World) : (Instr.buildSlice 67 1 #[(0, .agg #[.int .i64 i, .int .i64 j])]).run Tryd.prog w = .ok (.slice (some ⟨w.heap.size, 0, none⟩) 1 1) (w.alloc (.cells #[.int .i64 i, .int .i64 j] 114)) := by kernel_rfl
set_option maxRecDepth 100000 in
set_option maxHeartbeats 8000000 in
theorem rclause_any (t : Tab) (vs : List Value) (p : Item × Sl) (W : World) (h : TV W t vs) (hg : group p.1.kind = 5) (hrow : Row W p.2.1 2 (p.1.conds.map namedc)) (hlen : p.1.conds.length ≤ 1000000) :
    Calls Tryd.prog 37 #[.agg vs.toArray, .agg (ic p).toArray] W fun e w' => ∃ st, e = .returned (.agg (clv (rclause t p.1) st).toArray) ∧ w'.ownsRow W.heap.size 114 2 st p.1.conds.length ((p.1.conds.map (rcond t)).flatMap condv) ∧ Fr (fun _ => False) W w' := by
  obtain ⟨x, sc, sd, sn, sx⟩ := p
  dsimp only at hg hrow hlen ⊢
  have HLE := Lib.hid hlen
  have hk5 := kind_of5 hg
  obtain ⟨Ac, cc, hcs, hcc1, hcc2⟩ := hrow.slice
  rw [List.length_map] at hcs hcc1
  subst hcs
  have HROW := Lib.hid hrow
  have q1 : 9 ≤ x.kind := by omega
  have q2 : x.kind ≤ 12 := by omega
  have q3 : IntKind.i64.wrap (x.kind - 9) = x.kind - 9 := IntWalk.i64_in _ (by omega)
  have q4 : IntKind.i64.wrap (x.kind - 9 + 1) = x.kind - 9 + 1 := IntWalk.i64_in _ (by omega)
  clear hk5 hg hrow hcc1 hcc2 hlen
  obtain ⟨u, hu⟩ : ∃ u, ((W.alloc (.cells vs.toArray 100)).alloc (.cells (ic (x, .slice Ac x.conds.length cc, sd, sn, sx)).toArray 55)).alloc (.cells #[.int .i64 0, .int .i64 0, .int .i64 0, .int .i64 0, .slice none 0 0, .int .i64 0, .int .i64 0, .bool false, .bool false, .int .i64 0, .int .i64 0, .int .i64 0, .int .i64 0, .int .i64 0, .int .i64 0, .bool false] 69) = u := ⟨_, rfl⟩
  have HX : Hid (u.heap[W.heap.size]? = some (.cells vs.toArray 100 (0, 0))) := by rw [← hu]; exact blk_alloc (blk_alloc (blk_newn rfl) _) _
  have HY : Hid (u.heap[W.heap.size + 1]? = some (.cells (ic (x, .slice Ac x.conds.length cc, sd, sn, sx)).toArray 55 (0, 0))) := by rw [← hu]; exact blk_alloc (blk_newn (by simp)) _
  have HR : Hid (u.heap[W.heap.size + 1 + 1]? = some (.cells #[.int .i64 0, .int .i64 0, .int .i64 0, .int .i64 0, .slice none 0 0, .int .i64 0, .int .i64 0, .bool false, .bool false, .int .i64 0, .int .i64 0, .int .i64 0, .int .i64 0, .int .i64 0, .int .i64 0, .bool false] 69 (0, 0))) := by rw [← hu]; exact blk_newn (by simp)
  have HFR : Hid (Fr (fun _ => False) W u) := by rw [← hu]; exact (((Fr.refl _ W).alloc _).alloc _).alloc _
  have HSZ : Hid (W.heap.size + 1 + 1 < u.heap.size) := lt_of_blk HR.out
  have HU := Lib.hid hu
  have HT := Lib.hid h
  have HIX : Hid (∀ (g : Nat) (y : Bytes) (W' : World), g < 6 → Below u.heap.size u W' → Calls Tryd.prog 34 #[.agg vs.toArray, .int .i64 (g : Int), .string ⟨y.toArray⟩] W' fun e w' => e = .returned (.int .i64 (rix t g y)) ∧ Fr (fun _ => False) W' w') := fun g y W' hg hb => rindex_any t vs g y W' hg ((HT.out.frb HFR.out).below hb)
  have HOR : Hid (∀ (g : Nat) (y : Bytes) (W' : World), g < 6 → Below u.heap.size u W' → Calls Tryd.prog 55 #[.agg vs.toArray, .int .i64 (g : Int), .string ⟨y.toArray⟩] W' fun e w' => e = .returned (.int .i64 (rixo t g y)) ∧ Fr (fun _ => False) W' w') := fun g y W' hg hb => ror_any t vs g y W' hg ((HT.out.frb HFR.out).below hb)
  have HK0 : Hid (u.cell? ⟨W.heap.size + 1, 0, none⟩ = some (.int .i64 x.kind)) := (cell_of_blk HY.out 0).trans rfl
  have HK3 : Hid (u.cell? ⟨W.heap.size + 1, 3, none⟩ = some (.string ⟨x.of_.toArray⟩)) := (cell_of_blk HY.out 3).trans rfl
  have HK4 : Hid (u.cell? ⟨W.heap.size + 1, 4, none⟩ = some (.string ⟨x.act.toArray⟩)) := (cell_of_blk HY.out 4).trans rfl
  have HK6 : Hid (u.cell? ⟨W.heap.size + 1, 6, none⟩ = some (.int .i64 x.times)) := (cell_of_blk HY.out 6).trans rfl
  have HK14 : Hid (u.cell? ⟨W.heap.size + 1, 14, none⟩ = some (.string ⟨x.by_.toArray⟩)) := (cell_of_blk HY.out 14).trans rfl
  have HK15 : Hid (u.cell? ⟨W.heap.size + 1, 15, none⟩ = some (.string ⟨x.til.toArray⟩)) := (cell_of_blk HY.out 15).trans rfl
  have HK16 : Hid (u.cell? ⟨W.heap.size + 1, 16, none⟩ = some (.int .i64 x.num.num)) := (cell_of_blk HY.out 16).trans rfl
  have HK17 : Hid (u.cell? ⟨W.heap.size + 1, 17, none⟩ = some (.int .i64 x.num.den)) := (cell_of_blk HY.out 17).trans rfl
  have HK18 : Hid (u.cell? ⟨W.heap.size + 1, 18, none⟩ = some (.string ⟨x.unit.toArray⟩)) := (cell_of_blk HY.out 18).trans rfl
  have HK20 : Hid (u.cell? ⟨W.heap.size + 1, 20, none⟩ = some (.bool x.fin)) := (cell_of_blk HY.out 20).trans rfl
  have HK22 : Hid (u.cell? ⟨W.heap.size + 1, 22, none⟩ = some (.string ⟨x.to_.toArray⟩)) := (cell_of_blk HY.out 22).trans rfl
  have HK13 : Hid (u.cell? ⟨W.heap.size + 1, 13, none⟩ = some (.slice Ac x.conds.length cc)) := (cell_of_blk HY.out 13).trans rfl
  clear hu h
  go_enter Tryd.func37, Tryd.ntmps37
  go_upto_region 1 with fail
  rw [HU.out]
  clear HU
  go_cut [5] (fun s5 wx => ∃ b, s5 = .pointer (some ⟨b, 0, none⟩) ∧ Hid (CB u b 69 (clv ⟨x.kind - 9 + 1, -1, rix t 4 x.act, 1, [], x.fin, rixo t 4 x.by_, rixo t 4 x.til, ⟨0, 1⟩, -1, -1⟩ Vw.nil) wx))
  case first =>
    have HFD : Hid (Fr (fun _ => False) u u.drew) := (Fr.refl _ u).drew
    refine Reg.G.start (by kernel_rfl) ?_
    refine' Reg.G.pure (i := 0) (v := _) rfl (by rfl) (by kernel_rfl) (by kernel_rfl) (by kernel_rfl) (fun _ _ _ h => h) ?hya43 ?rehya43
    case hya43 => exact fun w => by first | (go_simp; done) | (go_simp; with_reducible rfl)
    simp only [Act.put, List.setIfInBounds_toArray, List.set_cons_zero, List.set_cons_succ]
    refine' Reg.G.take (i := 1) (v := _) (F := (fun w => Fr (fun _ => False) u w)) rfl (by rfl) (by kernel_rfl) (by kernel_rfl) (by kernel_rfl) (fun _ _ _ h => h) (HFD.out) ?hya44 ?rehya44
    case hya44 => intro w hw; have kc := cell_fr hw HK0.out; clear hw; first | (go_simp; done) | (go_simp; with_reducible rfl)
    simp only [Act.put, List.setIfInBounds_toArray, List.set_cons_zero, List.set_cons_succ]
    refine' Reg.G.pure (i := 2) (v := _) rfl (by rfl) (by kernel_rfl) (by kernel_rfl) (by kernel_rfl) (fun _ _ _ h => h) ?hya45 ?rehya45
    case hya45 => exact fun w => by first | (go_simp; done) | (go_simp; with_reducible rfl)
    simp only [Act.put, List.setIfInBounds_toArray, List.set_cons_zero, List.set_cons_succ]
    refine' Reg.G.pure (i := 3) (v := _) rfl (by rfl) (by kernel_rfl) (by kernel_rfl) (by kernel_rfl) (fun _ _ _ h => h) ?hya46 ?rehya46
    case hya46 => exact fun w => by first | (go_simp; done) | (go_simp; with_reducible rfl)
    simp only [Act.put, List.setIfInBounds_toArray, List.set_cons_zero, List.set_cons_succ]
    refine' Reg.G.take (i := 4) (v := _) (F := (fun w => Fr (fun _ => False) u w)) rfl (by rfl) (by kernel_rfl) (by kernel_rfl) (by kernel_rfl) (fun _ _ _ h => h) (HFD.out) ?hya47 ?rehya47
    case hya47 => intro w hw; refine run_load_row (P := Tryd.prog) 100 (.tmp 2) ?_ W.heap.size ?_ 100 vs.toArray _ (hw.blk HX.out (fun h => h)) Tryd.underlying100 rfl (by rw [show vs.toArray.size = 6 from HT.out.len]; kernel_rfl) <;> rfl
    simp only [Act.put, List.setIfInBounds_toArray, List.set_cons_zero, List.set_cons_succ]
    refine' Reg.G.pure (i := 5) (v := _) rfl (by rfl) (by kernel_rfl) (by kernel_rfl) (by kernel_rfl) (fun _ _ _ h => h) ?hya48 ?rehya48
    case hya48 => exact fun w => by first | (go_simp; done) | (go_simp; with_reducible rfl)
    simp only [Act.put, List.setIfInBounds_toArray, List.set_cons_zero, List.set_cons_succ]
    refine' Reg.G.take (i := 6) (v := _) (F := (fun w => Fr (fun _ => False) u w)) rfl (by rfl) (by kernel_rfl) (by kernel_rfl) (by kernel_rfl) (fun _ _ _ h => h) (HFD.out) ?hya49 ?rehya49
    case hya49 => intro w hw; have kc := cell_fr hw HK4.out; clear hw; first | (go_simp; done) | (go_simp; with_reducible rfl)
    simp only [Act.put, List.setIfInBounds_toArray, List.set_cons_zero, List.set_cons_succ]
    refine' Reg.G.pure (i := 8) (v := _) rfl (by rfl) (by kernel_rfl) (by kernel_rfl) (by kernel_rfl) (fun _ _ _ h => h) ?hya50 ?rehya50
    case hya50 => exact fun w => by first | (go_simp; done) | (go_simp; with_reducible rfl)
    simp only [Act.put, List.setIfInBounds_toArray, List.set_cons_zero, List.set_cons_succ]
    refine' Reg.G.take (i := 9) (v := _) (F := (fun w => Fr (fun _ => False) u w)) rfl (by rfl) (by kernel_rfl) (by kernel_rfl) (by kernel_rfl) (fun _ _ _ h => h) (HFD.out) ?hya51 ?rehya51
    case hya51 => intro w hw; have kc := cell_fr hw HK20.out; clear hw; first | (go_simp; done) | (go_simp; with_reducible rfl)
    simp only [Act.put, List.setIfInBounds_toArray, List.set_cons_zero, List.set_cons_succ]
    refine' Reg.G.take (i := 10) (v := _) (F := (fun w => Fr (fun _ => False) u w)) rfl (by rfl) (by kernel_rfl) (by kernel_rfl) (by kernel_rfl) (fun _ _ _ h => h) (HFD.out) ?hya52 ?rehya52
    case hya52 => intro w hw; refine run_load_row (P := Tryd.prog) 100 (.tmp 2) ?_ W.heap.size ?_ 100 vs.toArray _ (hw.blk HX.out (fun h => h)) Tryd.underlying100 rfl (by rw [show vs.toArray.size = 6 from HT.out.len]; kernel_rfl) <;> rfl
    simp only [Act.put, List.setIfInBounds_toArray, List.set_cons_zero, List.set_cons_succ]
    refine' Reg.G.pure (i := 11) (v := _) rfl (by rfl) (by kernel_rfl) (by kernel_rfl) (by kernel_rfl) (fun _ _ _ h => h) ?hya53 ?rehya53
    case hya53 => exact fun w => by first | (go_simp; done) | (go_simp; with_reducible rfl)
    simp only [Act.put, List.setIfInBounds_toArray, List.set_cons_zero, List.set_cons_succ]
    refine' Reg.G.take (i := 12) (v := _) (F := (fun w => Fr (fun _ => False) u w)) rfl (by rfl) (by kernel_rfl) (by kernel_rfl) (by kernel_rfl) (fun _ _ _ h => h) (HFD.out) ?hya54 ?rehya54
    case hya54 => intro w hw; have kc := cell_fr hw HK14.out; clear hw; first | (go_simp; done) | (go_simp; with_reducible rfl)
    simp only [Act.put, List.setIfInBounds_toArray, List.set_cons_zero, List.set_cons_succ]
    refine' Reg.G.take (i := 14) (v := _) (F := (fun w => Fr (fun _ => False) u w)) rfl (by rfl) (by kernel_rfl) (by kernel_rfl) (by kernel_rfl) (fun _ _ _ h => h) (HFD.out) ?hya55 ?rehya55
    case hya55 => intro w hw; refine run_load_row (P := Tryd.prog) 100 (.tmp 2) ?_ W.heap.size ?_ 100 vs.toArray _ (hw.blk HX.out (fun h => h)) Tryd.underlying100 rfl (by rw [show vs.toArray.size = 6 from HT.out.len]; kernel_rfl) <;> rfl
    simp only [Act.put, List.setIfInBounds_toArray, List.set_cons_zero, List.set_cons_succ]
    refine' Reg.G.pure (i := 15) (v := _) rfl (by rfl) (by kernel_rfl) (by kernel_rfl) (by kernel_rfl) (fun _ _ _ h => h) ?hya56 ?rehya56
    case hya56 => exact fun w => by first | (go_simp; done) | (go_simp; with_reducible rfl)
    simp only [Act.put, List.setIfInBounds_toArray, List.set_cons_zero, List.set_cons_succ]
    refine' Reg.G.take (i := 16) (v := _) (F := (fun w => Fr (fun _ => False) u w)) rfl (by rfl) (by kernel_rfl) (by kernel_rfl) (by kernel_rfl) (fun _ _ _ h => h) (HFD.out) ?hya57 ?rehya57
    case hya57 => intro w hw; have kc := cell_fr hw HK15.out; clear hw; first | (go_simp; done) | (go_simp; with_reducible rfl)
    simp only [Act.put, List.setIfInBounds_toArray, List.set_cons_zero, List.set_cons_succ]
    refine' Reg.G.pure (i := 18) (v := _) rfl (by rfl) (by kernel_rfl) (by kernel_rfl) (by kernel_rfl) (fun _ _ _ h => h) ?hya58 ?rehya58
    case hya58 => exact fun w => by first | (go_simp; done) | (go_simp; with_reducible rfl)
    simp only [Act.put, List.setIfInBounds_toArray, List.set_cons_zero, List.set_cons_succ]
    refine Reg.G.two (j1 := 7) (j2 := 20) (m1 := [true, true, true, true, true, false, false, true]) (m2 := [true, true, true, true, true, true, true, true]) [16, 14, 12, 10, 9, 6, 4, 1] rfl rfl (by kernel_rfl) rfl (by kernel_rfl) (by kernel_rfl) (fun K hK => ?_) (fun K hK => ?_)
    · go_simp
      refine (HIX.out 4 x.act _ (by decide) (HFD.out.below (Nat.le_refl _) (fun _ h => h.elim))).mono ?_
      rintro e w59 ⟨rfl, hf⟩
      have HFw59 : Hid (Fr (fun _ => False) u w59) := HFD.out.trans hf
      clear hf
      refine hK.out _ _ ⟨HFw59.out, HFw59.out, HFw59.out, HFw59.out, HFw59.out, HFw59.out, trivial⟩ ?_
      clear hK K
      simp only [Act.put, List.setIfInBounds_toArray, List.set_cons_zero, List.set_cons_succ, Reg.Kept]
      refine Reg.G.two (j1 := 13) (j2 := 20) (m1 := [true, true, false, false, true, true]) (m2 := [true, true, true, true, true, true]) [16, 14, 12, 10, 9, 1] rfl rfl (by kernel_rfl) rfl (by kernel_rfl) (by kernel_rfl) (fun K hK => ?_) (fun K hK => ?_)
      · go_simp
        refine (HOR.out 4 x.by_ _ (by decide) (HFw59.out.below (Nat.le_refl _) (fun _ h => h.elim))).mono ?_
        rintro e w60 ⟨rfl, hf⟩
        have HFw60 : Hid (Fr (fun _ => False) u w60) := HFw59.out.trans hf
        clear hf
        refine hK.out _ _ ⟨HFw60.out, HFw60.out, HFw60.out, HFw60.out, trivial⟩ ?_
        clear hK K
        simp only [Act.put, List.setIfInBounds_toArray, List.set_cons_zero, List.set_cons_succ, Reg.Kept]
        refine Reg.G.two (j1 := 17) (j2 := 20) (m1 := [false, false, true, true]) (m2 := [true, true, true, true]) [16, 14, 9, 1] rfl rfl (by kernel_rfl) rfl (by kernel_rfl) (by kernel_rfl) (fun K hK => ?_) (fun K hK => ?_)
        · go_simp
          refine (HOR.out 4 x.til _ (by decide) (HFw60.out.below (Nat.le_refl _) (fun _ h => h.elim))).mono ?_
          rintro e w61 ⟨rfl, hf⟩
          have HFw61 : Hid (Fr (fun _ => False) u w61) := HFw60.out.trans hf
          clear hf
          refine hK.out _ _ ⟨HFw61.out, HFw61.out, trivial⟩ ?_
          clear hK K
          simp only [Act.put, List.setIfInBounds_toArray, List.set_cons_zero, List.set_cons_succ, Reg.Kept]
          refine' Reg.G.pure (i := 19) (v := _) rfl (by rfl) (by kernel_rfl) (by kernel_rfl) (by kernel_rfl) (fun _ _ _ h => h) ?hya62 ?rehya62
          case hya62 => exact fun w => by first | (go_simp; done) | (go_simp; with_reducible rfl)
          simp only [Act.put, List.setIfInBounds_toArray, List.set_cons_zero, List.set_cons_succ]
          refine Reg.G.step (j := 20) (m := [true, true]) [9, 1] rfl (by kernel_rfl) rfl (by kernel_rfl) (fun K hK => ?_)
          go_simp
          obtain ⟨w63, hw⟩ : ∃ v, ((w61).alloc (.cells #[.int .i64 0, .int .i64 0, .int .i64 0, .int .i64 0, .slice none 0 0, .int .i64 0, .int .i64 0, .bool false, .bool false, .int .i64 0, .int .i64 0, .int .i64 0, .int .i64 0, .int .i64 0, .int .i64 0, .bool false] 69)) = v := ⟨_, rfl⟩
          rw [hw]
          have HFw63 : Hid (Fr (fun _ => False) u w63) := by rw [← hw]; exact HFw61.out.alloc _
          have HBw63 : Hid (w63.heap[(w61).heap.size]? = some (.cells #[.int .i64 0, .int .i64 0, .int .i64 0, .int .i64 0, .slice none 0 0, .int .i64 0, .int .i64 0, .bool false, .bool false, .int .i64 0, .int .i64 0, .int .i64 0, .int .i64 0, .int .i64 0, .int .i64 0, .bool false] 69 (0, 0))) := by rw [← hw]; exact blk_newn rfl
          have HLw63 : Hid (u.heap.size ≤ (w61).heap.size) := HFw61.out.size
          clear hw
          refine hK.out _ _ ⟨HFw63.out, HFw63.out, trivial⟩ ?_
          clear hK K
          simp only [Act.put, List.setIfInBounds_toArray, List.set_cons_zero, List.set_cons_succ, Reg.Kept]
          refine Reg.G.step (j := 21) (m := [false, false]) [9, 1] rfl (by kernel_rfl) rfl (by kernel_rfl) (fun K hK => ?_)
          rw [if_pos (by rfl)]
          refine wp_store_row 69 (.tmp 5) (.tmp 26) rfl ((w61).heap.size) (clv ⟨x.kind - 9 + 1, -1, rix t 4 x.act, 1, [], x.fin, rixo t 4 x.by_, rixo t 4 x.til, ⟨0, 1⟩, -1, -1⟩ Vw.nil).toArray rfl rfl 69 _ HBw63.out (by kernel_rfl) rfl (by simp [clv, nv, Vw.nil, Value.oneCell']) ?_
          obtain ⟨w64, hw⟩ : ∃ v, (w63).setRow ((w61).heap.size) (clv ⟨x.kind - 9 + 1, -1, rix t 4 x.act, 1, [], x.fin, rixo t 4 x.by_, rixo t 4 x.til, ⟨0, 1⟩, -1, -1⟩ Vw.nil).toArray = v := ⟨_, rfl⟩
          rw [hw]
          have HFw64 : Hid (Fr (fun _ => False) u w64) := by rw [← hw]; exact HFw63.out.setRow (.inr HLw63.out) _
          have HBw64 : Hid (w64.heap[(w61).heap.size]? = some (.cells (clv ⟨x.kind - 9 + 1, -1, rix t 4 x.act, 1, [], x.fin, rixo t 4 x.by_, rixo t 4 x.til, ⟨0, 1⟩, -1, -1⟩ Vw.nil).toArray 69 (0, 0))) := by rw [← hw]; exact blk_row HBw63.out _
          clear hw
          refine hK.out _ _ trivial ?_
          clear hK K
          simp only [Act.put, List.setIfInBounds_toArray, List.set_cons_zero, List.set_cons_succ, Reg.Kept]
          refine Reg.G.done (by kernel_rfl) ?_
          go_wp2_with fail
          go_meet
          exact ⟨_, rfl, CB.new (T' := 0) HFw64.out HBw64.out HLw63.out⟩
        · go_simp
          obtain ⟨w65, hw⟩ : ∃ v, ((w60).alloc (.cells #[.int .i64 0, .int .i64 0, .int .i64 0, .int .i64 0, .slice none 0 0, .int .i64 0, .int .i64 0, .bool false, .bool false, .int .i64 0, .int .i64 0, .int .i64 0, .int .i64 0, .int .i64 0, .int .i64 0, .bool false] 69)) = v := ⟨_, rfl⟩
          rw [hw]
          have HFw65 : Hid (Fr (fun _ => False) u w65) := by rw [← hw]; exact HFw60.out.alloc _
          have HBw65 : Hid (w65.heap[(w60).heap.size]? = some (.cells #[.int .i64 0, .int .i64 0, .int .i64 0, .int .i64 0, .slice none 0 0, .int .i64 0, .int .i64 0, .bool false, .bool false, .int .i64 0, .int .i64 0, .int .i64 0, .int .i64 0, .int .i64 0, .int .i64 0, .bool false] 69 (0, 0))) := by rw [← hw]; exact blk_newn rfl
          have HLw65 : Hid (u.heap.size ≤ (w60).heap.size) := HFw60.out.size
          clear hw
          refine hK.out _ _ ⟨HFw65.out, HFw65.out, HFw65.out, HFw65.out, trivial⟩ ?_
          clear hK K
          simp only [Act.put, List.setIfInBounds_toArray, List.set_cons_zero, List.set_cons_succ, Reg.Kept]
          refine Reg.G.step (j := 17) (m := [false, false, true, true]) [16, 14, 9, 1] rfl (by kernel_rfl) rfl (by kernel_rfl) (fun K hK => ?_)
          go_simp
          refine (HOR.out 4 x.til _ (by decide) (HFw65.out.below (Nat.le_refl _) (fun _ h => h.elim))).mono ?_
          rintro e w66 ⟨rfl, hf⟩
          have HFw66 : Hid (Fr (fun _ => False) u w66) := HFw65.out.trans hf
          have HBw66 : Hid (w66.heap[(w60).heap.size]? = some (.cells #[.int .i64 0, .int .i64 0, .int .i64 0, .int .i64 0, .slice none 0 0, .int .i64 0, .int .i64 0, .bool false, .bool false, .int .i64 0, .int .i64 0, .int .i64 0, .int .i64 0, .int .i64 0, .int .i64 0, .bool false] 69 (0, 0))) := hf.blk HBw65.out (fun h => h)
          clear hf
          refine hK.out _ _ ⟨HFw66.out, HFw66.out, trivial⟩ ?_
          clear hK K
          simp only [Act.put, List.setIfInBounds_toArray, List.set_cons_zero, List.set_cons_succ, Reg.Kept]
          refine' Reg.G.pure (i := 19) (v := _) rfl (by rfl) (by kernel_rfl) (by kernel_rfl) (by kernel_rfl) (fun _ _ _ h => h) ?hya67 ?rehya67
          case hya67 => exact fun w => by first | (go_simp; done) | (go_simp; with_reducible rfl)
          simp only [Act.put, List.setIfInBounds_toArray, List.set_cons_zero, List.set_cons_succ]
          refine Reg.G.step (j := 21) (m := [false, false]) [9, 1] rfl (by kernel_rfl) rfl (by kernel_rfl) (fun K hK => ?_)
          rw [if_pos (by rfl)]
          refine wp_store_row 69 (.tmp 5) (.tmp 26) rfl ((w60).heap.size) (clv ⟨x.kind - 9 + 1, -1, rix t 4 x.act, 1, [], x.fin, rixo t 4 x.by_, rixo t 4 x.til, ⟨0, 1⟩, -1, -1⟩ Vw.nil).toArray rfl rfl 69 _ HBw66.out (by kernel_rfl) rfl (by simp [clv, nv, Vw.nil, Value.oneCell']) ?_
          obtain ⟨w68, hw⟩ : ∃ v, (w66).setRow ((w60).heap.size) (clv ⟨x.kind - 9 + 1, -1, rix t 4 x.act, 1, [], x.fin, rixo t 4 x.by_, rixo t 4 x.til, ⟨0, 1⟩, -1, -1⟩ Vw.nil).toArray = v := ⟨_, rfl⟩
          rw [hw]
          have HFw68 : Hid (Fr (fun _ => False) u w68) := by rw [← hw]; exact HFw66.out.setRow (.inr HLw65.out) _
          have HBw68 : Hid (w68.heap[(w60).heap.size]? = some (.cells (clv ⟨x.kind - 9 + 1, -1, rix t 4 x.act, 1, [], x.fin, rixo t 4 x.by_, rixo t 4 x.til, ⟨0, 1⟩, -1, -1⟩ Vw.nil).toArray 69 (0, 0))) := by rw [← hw]; exact blk_row HBw66.out _
          clear hw
          refine hK.out _ _ trivial ?_
          clear hK K
          simp only [Act.put, List.setIfInBounds_toArray, List.set_cons_zero, List.set_cons_succ, Reg.Kept]
          refine Reg.G.done (by kernel_rfl) ?_
          go_wp2_with fail
          go_meet
          exact ⟨_, rfl, CB.new (T' := 0) HFw68.out HBw68.out HLw65.out⟩
      · go_simp
        obtain ⟨w69, hw⟩ : ∃ v, ((w59).alloc (.cells #[.int .i64 0, .int .i64 0, .int .i64 0, .int .i64 0, .slice none 0 0, .int .i64 0, .int .i64 0, .bool false, .bool false, .int .i64 0, .int .i64 0, .int .i64 0, .int .i64 0, .int .i64 0, .int .i64 0, .bool false] 69)) = v := ⟨_, rfl⟩
        rw [hw]
        have HFw69 : Hid (Fr (fun _ => False) u w69) := by rw [← hw]; exact HFw59.out.alloc _
        have HBw69 : Hid (w69.heap[(w59).heap.size]? = some (.cells #[.int .i64 0, .int .i64 0, .int .i64 0, .int .i64 0, .slice none 0 0, .int .i64 0, .int .i64 0, .bool false, .bool false, .int .i64 0, .int .i64 0, .int .i64 0, .int .i64 0, .int .i64 0, .int .i64 0, .bool false] 69 (0, 0))) := by rw [← hw]; exact blk_newn rfl
        have HLw69 : Hid (u.heap.size ≤ (w59).heap.size) := HFw59.out.size
        clear hw
        refine hK.out _ _ ⟨HFw69.out, HFw69.out, HFw69.out, HFw69.out, HFw69.out, HFw69.out, trivial⟩ ?_
        clear hK K
        simp only [Act.put, List.setIfInBounds_toArray, List.set_cons_zero, List.set_cons_succ, Reg.Kept]
        refine Reg.G.step (j := 13) (m := [true, true, false, false, true, true]) [16, 14, 12, 10, 9, 1] rfl (by kernel_rfl) rfl (by kernel_rfl) (fun K hK => ?_)
        go_simp
        refine (HOR.out 4 x.by_ _ (by decide) (HFw69.out.below (Nat.le_refl _) (fun _ h => h.elim))).mono ?_
        rintro e w70 ⟨rfl, hf⟩
        have HFw70 : Hid (Fr (fun _ => False) u w70) := HFw69.out.trans hf
        have HBw70 : Hid (w70.heap[(w59).heap.size]? = some (.cells #[.int .i64 0, .int .i64 0, .int .i64 0, .int .i64 0, .slice none 0 0, .int .i64 0, .int .i64 0, .bool false, .bool false, .int .i64 0, .int .i64 0, .int .i64 0, .int .i64 0, .int .i64 0, .int .i64 0, .bool false] 69 (0, 0))) := hf.blk HBw69.out (fun h => h)
        clear hf
        refine hK.out _ _ ⟨HFw70.out, HFw70.out, HFw70.out, HFw70.out, trivial⟩ ?_
        clear hK K
        simp only [Act.put, List.setIfInBounds_toArray, List.set_cons_zero, List.set_cons_succ, Reg.Kept]
        refine Reg.G.step (j := 17) (m := [false, false, true, true]) [16, 14, 9, 1] rfl (by kernel_rfl) rfl (by kernel_rfl) (fun K hK => ?_)
        go_simp
        refine (HOR.out 4 x.til _ (by decide) (HFw70.out.below (Nat.le_refl _) (fun _ h => h.elim))).mono ?_
        rintro e w71 ⟨rfl, hf⟩
        have HFw71 : Hid (Fr (fun _ => False) u w71) := HFw70.out.trans hf
        have HBw71 : Hid (w71.heap[(w59).heap.size]? = some (.cells #[.int .i64 0, .int .i64 0, .int .i64 0, .int .i64 0, .slice none 0 0, .int .i64 0, .int .i64 0, .bool false, .bool false, .int .i64 0, .int .i64 0, .int .i64 0, .int .i64 0, .int .i64 0, .int .i64 0, .bool false] 69 (0, 0))) := hf.blk HBw70.out (fun h => h)
        clear hf
        refine hK.out _ _ ⟨HFw71.out, HFw71.out, trivial⟩ ?_
        clear hK K
        simp only [Act.put, List.setIfInBounds_toArray, List.set_cons_zero, List.set_cons_succ, Reg.Kept]
        refine' Reg.G.pure (i := 19) (v := _) rfl (by rfl) (by kernel_rfl) (by kernel_rfl) (by kernel_rfl) (fun _ _ _ h => h) ?hya72 ?rehya72
        case hya72 => exact fun w => by first | (go_simp; done) | (go_simp; with_reducible rfl)
        simp only [Act.put, List.setIfInBounds_toArray, List.set_cons_zero, List.set_cons_succ]
        refine Reg.G.step (j := 21) (m := [false, false]) [9, 1] rfl (by kernel_rfl) rfl (by kernel_rfl) (fun K hK => ?_)
        rw [if_pos (by rfl)]
        refine wp_store_row 69 (.tmp 5) (.tmp 26) rfl ((w59).heap.size) (clv ⟨x.kind - 9 + 1, -1, rix t 4 x.act, 1, [], x.fin, rixo t 4 x.by_, rixo t 4 x.til, ⟨0, 1⟩, -1, -1⟩ Vw.nil).toArray rfl rfl 69 _ HBw71.out (by kernel_rfl) rfl (by simp [clv, nv, Vw.nil, Value.oneCell']) ?_
        obtain ⟨w73, hw⟩ : ∃ v, (w71).setRow ((w59).heap.size) (clv ⟨x.kind - 9 + 1, -1, rix t 4 x.act, 1, [], x.fin, rixo t 4 x.by_, rixo t 4 x.til, ⟨0, 1⟩, -1, -1⟩ Vw.nil).toArray = v := ⟨_, rfl⟩
        rw [hw]
        have HFw73 : Hid (Fr (fun _ => False) u w73) := by rw [← hw]; exact HFw71.out.setRow (.inr HLw69.out) _
        have HBw73 : Hid (w73.heap[(w59).heap.size]? = some (.cells (clv ⟨x.kind - 9 + 1, -1, rix t 4 x.act, 1, [], x.fin, rixo t 4 x.by_, rixo t 4 x.til, ⟨0, 1⟩, -1, -1⟩ Vw.nil).toArray 69 (0, 0))) := by rw [← hw]; exact blk_row HBw71.out _
        clear hw
        refine hK.out _ _ trivial ?_
        clear hK K
        simp only [Act.put, List.setIfInBounds_toArray, List.set_cons_zero, List.set_cons_succ, Reg.Kept]
        refine Reg.G.done (by kernel_rfl) ?_
        go_wp2_with fail
        go_meet
        exact ⟨_, rfl, CB.new (T' := 0) HFw73.out HBw73.out HLw69.out⟩
    · go_simp
      obtain ⟨w74, hw⟩ : ∃ v, ((u).alloc (.cells #[.int .i64 0, .int .i64 0, .int .i64 0, .int .i64 0, .slice none 0 0, .int .i64 0, .int .i64 0, .bool false, .bool false, .int .i64 0, .int .i64 0, .int .i64 0, .int .i64 0, .int .i64 0, .int .i64 0, .bool false] 69)).drew = v := ⟨_, rfl⟩
      rw [hw]
      have HFw74 : Hid (Fr (fun _ => False) u w74) := by rw [← hw]; exact ((Fr.refl _ u).alloc _).drew
      have HBw74 : Hid (w74.heap[(u).heap.size]? = some (.cells #[.int .i64 0, .int .i64 0, .int .i64 0, .int .i64 0, .slice none 0 0, .int .i64 0, .int .i64 0, .bool false, .bool false, .int .i64 0, .int .i64 0, .int .i64 0, .int .i64 0, .int .i64 0, .int .i64 0, .bool false] 69 (0, 0))) := by rw [← hw]; exact blk_newn rfl
      have HLw74 : Hid (u.heap.size ≤ (u).heap.size) := Nat.le_refl _
      clear hw
      refine hK.out _ _ ⟨HFw74.out, HFw74.out, HFw74.out, HFw74.out, HFw74.out, HFw74.out, HFw74.out, HFw74.out, trivial⟩ ?_
      clear hK K
      simp only [Act.put, List.setIfInBounds_toArray, List.set_cons_zero, List.set_cons_succ, Reg.Kept]
      refine Reg.G.step (j := 7) (m := [true, true, true, true, true, false, false, true]) [16, 14, 12, 10, 9, 6, 4, 1] rfl (by kernel_rfl) rfl (by kernel_rfl) (fun K hK => ?_)
      go_simp
      refine (HIX.out 4 x.act _ (by decide) (HFw74.out.below (Nat.le_refl _) (fun _ h => h.elim))).mono ?_
      rintro e w75 ⟨rfl, hf⟩
      have HFw75 : Hid (Fr (fun _ => False) u w75) := HFw74.out.trans hf
      have HBw75 : Hid (w75.heap[(u).heap.size]? = some (.cells #[.int .i64 0, .int .i64 0, .int .i64 0, .int .i64 0, .slice none 0 0, .int .i64 0, .int .i64 0, .bool false, .bool false, .int .i64 0, .int .i64 0, .int .i64 0, .int .i64 0, .int .i64 0, .int .i64 0, .bool false] 69 (0, 0))) := hf.blk HBw74.out (fun h => h)
      clear hf
      refine hK.out _ _ ⟨HFw75.out, HFw75.out, HFw75.out, HFw75.out, HFw75.out, HFw75.out, trivial⟩ ?_
      clear hK K
      simp only [Act.put, List.setIfInBounds_toArray, List.set_cons_zero, List.set_cons_succ, Reg.Kept]
      refine Reg.G.step (j := 13) (m := [true, true, false, false, true, true]) [16, 14, 12, 10, 9, 1] rfl (by kernel_rfl) rfl (by kernel_rfl) (fun K hK => ?_)
      go_simp
      refine (HOR.out 4 x.by_ _ (by decide) (HFw75.out.below (Nat.le_refl _) (fun _ h => h.elim))).mono ?_
      rintro e w76 ⟨rfl, hf⟩
      have HFw76 : Hid (Fr (fun _ => False) u w76) := HFw75.out.trans hf
      have HBw76 : Hid (w76.heap[(u).heap.size]? = some (.cells #[.int .i64 0, .int .i64 0, .int .i64 0, .int .i64 0, .slice none 0 0, .int .i64 0, .int .i64 0, .bool false, .bool false, .int .i64 0, .int .i64 0, .int .i64 0, .int .i64 0, .int .i64 0, .int .i64 0, .bool false] 69 (0, 0))) := hf.blk HBw75.out (fun h => h)
      clear hf
      refine hK.out _ _ ⟨HFw76.out, HFw76.out, HFw76.out, HFw76.out, trivial⟩ ?_
      clear hK K
      simp only [Act.put, List.setIfInBounds_toArray, List.set_cons_zero, List.set_cons_succ, Reg.Kept]
      refine Reg.G.step (j := 17) (m := [false, false, true, true]) [16, 14, 9, 1] rfl (by kernel_rfl) rfl (by kernel_rfl) (fun K hK => ?_)
      go_simp
      refine (HOR.out 4 x.til _ (by decide) (HFw76.out.below (Nat.le_refl _) (fun _ h => h.elim))).mono ?_
      rintro e w77 ⟨rfl, hf⟩
      have HFw77 : Hid (Fr (fun _ => False) u w77) := HFw76.out.trans hf
      have HBw77 : Hid (w77.heap[(u).heap.size]? = some (.cells #[.int .i64 0, .int .i64 0, .int .i64 0, .int .i64 0, .slice none 0 0, .int .i64 0, .int .i64 0, .bool false, .bool false, .int .i64 0, .int .i64 0, .int .i64 0, .int .i64 0, .int .i64 0, .int .i64 0, .bool false] 69 (0, 0))) := hf.blk HBw76.out (fun h => h)
      clear hf
      refine hK.out _ _ ⟨HFw77.out, HFw77.out, trivial⟩ ?_
      clear hK K
      simp only [Act.put, List.setIfInBounds_toArray, List.set_cons_zero, List.set_cons_succ, Reg.Kept]
      refine' Reg.G.pure (i := 19) (v := _) rfl (by rfl) (by kernel_rfl) (by kernel_rfl) (by kernel_rfl) (fun _ _ _ h => h) ?hya78 ?rehya78
      case hya78 => exact fun w => by first | (go_simp; done) | (go_simp; with_reducible rfl)
      simp only [Act.put, List.setIfInBounds_toArray, List.set_cons_zero, List.set_cons_succ]
      refine Reg.G.step (j := 21) (m := [false, false]) [9, 1] rfl (by kernel_rfl) rfl (by kernel_rfl) (fun K hK => ?_)
      rw [if_pos (by rfl)]
      refine wp_store_row 69 (.tmp 5) (.tmp 26) rfl ((u).heap.size) (clv ⟨x.kind - 9 + 1, -1, rix t 4 x.act, 1, [], x.fin, rixo t 4 x.by_, rixo t 4 x.til, ⟨0, 1⟩, -1, -1⟩ Vw.nil).toArray rfl rfl 69 _ HBw77.out (by kernel_rfl) rfl (by simp [clv, nv, Vw.nil, Value.oneCell']) ?_
      obtain ⟨w79, hw⟩ : ∃ v, (w77).setRow ((u).heap.size) (clv ⟨x.kind - 9 + 1, -1, rix t 4 x.act, 1, [], x.fin, rixo t 4 x.by_, rixo t 4 x.til, ⟨0, 1⟩, -1, -1⟩ Vw.nil).toArray = v := ⟨_, rfl⟩
      rw [hw]
      have HFw79 : Hid (Fr (fun _ => False) u w79) := by rw [← hw]; exact HFw77.out.setRow (.inr HLw74.out) _
      have HBw79 : Hid (w79.heap[(u).heap.size]? = some (.cells (clv ⟨x.kind - 9 + 1, -1, rix t 4 x.act, 1, [], x.fin, rixo t 4 x.by_, rixo t 4 x.til, ⟨0, 1⟩, -1, -1⟩ Vw.nil).toArray 69 (0, 0))) := by rw [← hw]; exact blk_row HBw77.out _
      clear hw
      refine hK.out _ _ trivial ?_
      clear hK K
      simp only [Act.put, List.setIfInBounds_toArray, List.set_cons_zero, List.set_cons_succ, Reg.Kept]
      refine Reg.G.done (by kernel_rfl) ?_
      go_wp2_with fail
      go_meet
      exact ⟨_, rfl, CB.new (T' := 0) HFw79.out HBw79.out HLw74.out⟩
  case rest =>
    obtain ⟨b, rfl, HC0⟩ := hcut
    clear q1 q2 q3 q4
    have kc0 := HC0.out.cell HK0.out
    go_upto_if 29 with fail
    go_cut [] (fun wx => Hid (CB u b 69 (clv ⟨x.kind - 9 + 1, (if x.kind = 12 then -1 else rix t 2 x.of_), rix t 4 x.act, 1, [], x.fin, rixo t 4 x.by_, rixo t 4 x.til, ⟨0, 1⟩, -1, -1⟩ Vw.nil) wx))
    case first =>
      clear kc0
      by_cases h12 : x.kind = 12
      · have hb : (x.kind != 12) = false := by simpa using h12
        have HC1 : Hid (CB u b 69 (clv ⟨x.kind - 9 + 1, (if x.kind = 12 then -1 else rix t 2 x.of_), rix t 4 x.act, 1, [], x.fin, rixo t 4 x.by_, rixo t 4 x.til, ⟨0, 1⟩, -1, -1⟩ Vw.nil) wc) := by rw [if_pos h12]; exact HC0.out
        clear h12
        go_wp2_with fail
        go_meet
        exact HC1
      · have hb : (x.kind != 12) = true := by simpa using h12
        have HNE := Lib.hid h12
        clear h12
        go_upto_region 3 with fail
        iterate 1 go_step
        refine wpList_load_row rfl 100 _ rfl W.heap.size rfl 100 vs.toArray (0, 0) _ (HC0.out.blk HX.out) Tryd.underlying100 rfl (by rw [show vs.toArray.size = 6 from HT.out.len]; kernel_rfl) ?_
        simp only [Act.put, List.setIfInBounds_toArray, List.set_cons_zero, List.set_cons_succ]
        have HCL := Lib.hid (HIX.out 2 x.of_ wc (by decide) HC0.out.below)
        have kc := HC0.out.cell HK3.out
        go_wp2_with fail
        refine HCL.out.mono ?_
        rintro e v80 ⟨rfl, hf⟩
        have HCa := Lib.hid (HC0.out.step hf)
        clear hf HCL kc HC0
        have kb : v80.cell? ⟨b, 1, none⟩ = some (.int .i64 (-1)) := (cell_of_blk HCa.out.bk 1).trans rfl
        have fb := froz_of_blk HCa.out.bk 1
        go_wp2_with fail
        obtain ⟨v81, hw⟩ : ∃ v, v80.setCell ⟨b, 1, none⟩ (.int .i64 (rix t 2 x.of_)) = v := ⟨_, rfl⟩
        rw [hw]
        have HC1 : Hid (CB u b 69 (clv ⟨x.kind - 9 + 1, (rix t 2 x.of_), rix t 4 x.act, 1, [], x.fin, rixo t 4 x.by_, rixo t 4 x.til, ⟨0, 1⟩, -1, -1⟩ Vw.nil) v81) := by rw [← hw]; exact HCa.out.set 1 _
        clear hw kb fb HCa
        go_meet
        rw [if_neg HNE.out]
        exact HC1
    case rest =>
      obtain ⟨v0, rfl⟩ : ∃ v : World, v = wc := ⟨_, rfl⟩
      obtain ⟨rl, hrl⟩ : ∃ r : Int, (if x.kind = 12 then -1 else rix t 2 x.of_) = r := ⟨_, rfl⟩
      rw [hrl] at hcut
      have HRL := Lib.hid hrl
      have HC1 := Lib.hid hcut.out
      clear hcut HC0 kc0 hrl
      have kc0 := HC1.out.cell HK0.out
      go_upto_if 37 with fail
      go_cut [] (fun wx => Hid (CB u b 69 (clv ⟨x.kind - 9 + 1, rl, rix t 4 x.act, (if x.kind = 9 then x.times else 1), [], x.fin, rixo t 4 x.by_, rixo t 4 x.til, ⟨0, 1⟩, -1, -1⟩ Vw.nil) wx))
      case first =>
        clear kc0
        by_cases h9 : x.kind = 9
        · have hb : (x.kind == 9) = true := by simpa using h9
          have HNE := Lib.hid h9
          clear h9
          have kc6 := HC1.out.cell HK6.out
          have kb : v0.cell? ⟨b, 3, none⟩ = some (.int .i64 1) := (cell_of_blk HC1.out.bk 3).trans rfl
          have fb := froz_of_blk HC1.out.bk 3
          go_wp2_with fail
          go_meet
          rw [if_pos HNE.out]
          exact Lib.hid (HC1.out.set 3 _)
        · have hb : (x.kind == 9) = false := by simpa using h9
          have HC2 : Hid (CB u b 69 (clv ⟨x.kind - 9 + 1, rl, rix t 4 x.act, (if x.kind = 9 then x.times else 1), [], x.fin, rixo t 4 x.by_, rixo t 4 x.til, ⟨0, 1⟩, -1, -1⟩ Vw.nil) v0) := by rw [if_neg h9]; exact HC1.out
          clear h9
          go_wp2_with fail
          go_meet
          exact HC2
      case rest =>
        obtain ⟨v1, rfl⟩ : ∃ v : World, v = wc := ⟨_, rfl⟩
        obtain ⟨nd, hnd⟩ : ∃ r : Int, (if x.kind = 9 then x.times else 1) = r := ⟨_, rfl⟩
        rw [hnd] at hcut
        have HND := Lib.hid hnd
        have HC2 := Lib.hid hcut.out
        clear hcut HC1 kc0 hnd
        obtain ⟨B, hB⟩ : ∃ B, v1.heap.size = B := ⟨_, rfl⟩
        have HBv : Hid (v1.heap.size = B) := hB
        clear hB
        have HS0 : Hid (CLs t u B b ⟨x.kind - 9 + 1, rl, rix t 4 x.act, nd, [], x.fin, rixo t 4 x.by_, rixo t 4 x.til, ⟨0, 1⟩, -1, -1⟩ x.conds 0 (.slice none 0 0) v1) := ⟨HC2.out, World.ownsRow_nil _ _ _ _, by rw [← HBv.out]; exact lt_of_blk HC2.out.bk, by rw [HBv.out]; exact Nat.le_refl _⟩
        obtain ⟨j0, hj, hj0, hj1, hj2⟩ := info_parts info_cond
        have hcl0 : x.conds.length ≤ 1000000 := HLE.out
        have HBB : Hid (W.heap.size ≤ B) := by have h1 := HFR.out.size; have h2 := HC2.out.below.size; have h3 := HBv.out; show _ ≤ _; omega
        have kc13 := HC2.out.cell HK13.out
        go_wp2_with fail
        go_loopw [6] (fun i wr => CLr t u B b ⟨x.kind - 9 + 1, rl, rix t 4 x.act, nd, [], x.fin, rixo t 4 x.by_, rixo t 4 x.til, ⟨0, 1⟩, -1, -1⟩ x.conds i wr) (fun i wr => x.conds.length - (intOf i).toNat)
        case atStart => exact ⟨0, none, 0, rfl, Nat.zero_le _, HS0⟩
        case round =>
          clear kc13 HS0 HC2
          obtain ⟨k, A, cap, rfl, hk, HC⟩ := hrel
          have i1 : (0 : Int) ≤ (k : Int) := Int.natCast_nonneg _
          have kc13 := HC.out.cb.cell HK13.out
          by_cases hlt : k < x.conds.length
          · have i2 : (k : Int) < (x.conds.length : Int) := by omega
            obtain ⟨gc, oc, capc, hs1, hgl, _, _, hat⟩ := (HROW.out.below (HC.out.cb.done HFR.out |>.below (Nat.le_refl _) (fun _ h => h.elim))).at (by intro e; rw [List.map_eq_nil_iff] at e; rw [e] at hlt; simp at hlt)
            have hAc : Ac = some ⟨gc, oc, none⟩ := by injection hs1
            subst hAc
            obtain ⟨c, hc⟩ : ∃ c, x.conds[k]? = some c := ⟨_, List.getElem?_eq_getElem hlt⟩
            have hck : At wr gc (oc + k * 2) (namedc c) := hat k _ (by rw [List.getElem?_map, hc]; rfl)
            have HQ6 : Hid (wr.cell? ⟨gc, oc + k * 2, none⟩ = some (.string ⟨c.name.toArray⟩)) := hck.cell 0 rfl
            have HQ14 : Hid (wr.cell? ⟨gc, oc + k * 2 + 1, none⟩ = some (.int .i64 c.is_)) := hck.cell 1 rfl
            have HQ13 := Lib.hid kc13
            have HQ4 : Hid (wr.cell? ⟨b, 4, none⟩ = some (.slice A k cap)) := (cell_of_blk HC.out.cb.bk 4).trans rfl
            have HCI := Lib.hid hc
            have HXr := Lib.hid (HC.out.cb.blk HX.out)
            have HBR : Hid (Below u.heap.size u wr) := HC.out.cb.below
            clear hat hck hs1 hgl hc
            go_upto_region 9 with fail
            clear kc13
            have HFD : Hid (Fr (fun _ => False) wr wr.drew) := (Fr.refl _ wr).drew
            refine Reg.G.start (by kernel_rfl) ?_
            refine' Reg.G.pure (i := 0) (v := _) rfl (by rfl) (by kernel_rfl) (by kernel_rfl) (by kernel_rfl) (fun _ _ _ h => h) ?hyn87 ?rehyn87
            case hyn87 => exact fun w => by first | (go_simp; done) | (go_simp; with_reducible rfl)
            simp only [Act.put, List.setIfInBounds_toArray, List.set_cons_zero, List.set_cons_succ]
            refine' Reg.G.take (i := 1) (v := _) (F := (fun w => Fr (fun _ => False) wr w)) rfl (by rfl) (by kernel_rfl) (by kernel_rfl) (by kernel_rfl) (fun _ _ _ h => h) (HFD.out) ?hyn88 ?rehyn88
            case hyn88 => intro w hw; have kc := cell_fr hw HQ4.out; clear hw; first | (go_simp; done) | (go_simp; with_reducible rfl)
            simp only [Act.put, List.setIfInBounds_toArray, List.set_cons_zero, List.set_cons_succ]
            refine' Reg.G.take (i := 2) (v := _) (F := (fun w => Fr (fun _ => False) wr w)) rfl (by rfl) (by kernel_rfl) (by kernel_rfl) (by kernel_rfl) (fun _ _ _ h => h) (HFD.out) ?hyn89 ?rehyn89
            case hyn89 => intro w hw; refine run_load_row (P := Tryd.prog) 100 (.tmp 2) ?_ W.heap.size ?_ 100 vs.toArray _ (hw.blk HXr.out (fun h => h)) Tryd.underlying100 rfl (by rw [show vs.toArray.size = 6 from HT.out.len]; kernel_rfl) <;> rfl
            simp only [Act.put, List.setIfInBounds_toArray, List.set_cons_zero, List.set_cons_succ]
            refine' Reg.G.pure (i := 3) (v := _) rfl (by rfl) (by kernel_rfl) (by kernel_rfl) (by kernel_rfl) (fun _ _ _ h => h) ?hyn90 ?rehyn90
            case hyn90 => exact fun w => by first | (go_simp; done) | (go_simp; with_reducible rfl)
            simp only [Act.put, List.setIfInBounds_toArray, List.set_cons_zero, List.set_cons_succ]
            refine' Reg.G.take (i := 4) (v := _) (F := (fun w => Fr (fun _ => False) wr w)) rfl (by rfl) (by kernel_rfl) (by kernel_rfl) (by kernel_rfl) (fun _ _ _ h => h) (HFD.out) ?hyn91 ?rehyn91
            case hyn91 => intro w hw; have kc := cell_fr hw HQ13.out; clear hw; first | (go_simp; done) | (go_simp; with_reducible rfl)
            simp only [Act.put, List.setIfInBounds_toArray, List.set_cons_zero, List.set_cons_succ]
            refine' Reg.G.pure (i := 5) (v := _) rfl (by rfl) (by kernel_rfl) (by kernel_rfl) (by kernel_rfl) (fun _ _ _ h => h) ?hyn92 ?rehyn92
            case hyn92 => exact fun w => by first | (go_simp; done) | (go_simp; with_reducible rfl)
            simp only [Act.put, List.setIfInBounds_toArray, List.set_cons_zero, List.set_cons_succ]
            refine' Reg.G.pure (i := 6) (v := _) rfl (by rfl) (by kernel_rfl) (by kernel_rfl) (by kernel_rfl) (fun _ _ _ h => h) ?hyn93 ?rehyn93
            case hyn93 => exact fun w => by first | (go_simp; done) | (go_simp; with_reducible rfl)
            simp only [Act.put, List.setIfInBounds_toArray, List.set_cons_zero, List.set_cons_succ]
            refine' Reg.G.pure (i := 7) (v := _) rfl (by rfl) (by kernel_rfl) (by kernel_rfl) (by kernel_rfl) (fun _ _ _ h => h) ?hyn94 ?rehyn94
            case hyn94 => exact fun w => by first | (go_simp; done) | (go_simp; with_reducible rfl)
            simp only [Act.put, List.setIfInBounds_toArray, List.set_cons_zero, List.set_cons_succ]
            refine' Reg.G.take (i := 8) (v := _) (F := (fun w => Fr (fun _ => False) wr w)) rfl (by rfl) (by kernel_rfl) (by kernel_rfl) (by kernel_rfl) (fun _ _ _ h => h) (HFD.out) ?hyn95 ?rehyn95
            case hyn95 => intro w hw; have kc := cell_fr hw HQ6.out; clear hw; first | (go_simp; done) | (go_simp; with_reducible rfl)
            simp only [Act.put, List.setIfInBounds_toArray, List.set_cons_zero, List.set_cons_succ]
            refine' Reg.G.pure (i := 10) (v := _) rfl (by rfl) (by kernel_rfl) (by kernel_rfl) (by kernel_rfl) (fun _ _ _ h => h) ?hyn96 ?rehyn96
            case hyn96 => exact fun w => by first | (go_simp; done) | (go_simp; with_reducible rfl)
            simp only [Act.put, List.setIfInBounds_toArray, List.set_cons_zero, List.set_cons_succ]
            refine' Reg.G.take (i := 11) (v := _) (F := (fun w => Fr (fun _ => False) wr w)) rfl (by rfl) (by kernel_rfl) (by kernel_rfl) (by kernel_rfl) (fun _ _ _ h => h) (HFD.out) ?hyn97 ?rehyn97
            case hyn97 => intro w hw; have kc := cell_fr hw HQ13.out; clear hw; first | (go_simp; done) | (go_simp; with_reducible rfl)
            simp only [Act.put, List.setIfInBounds_toArray, List.set_cons_zero, List.set_cons_succ]
            refine' Reg.G.pure (i := 12) (v := _) rfl (by rfl) (by kernel_rfl) (by kernel_rfl) (by kernel_rfl) (fun _ _ _ h => h) ?hyn98 ?rehyn98
            case hyn98 => exact fun w => by first | (go_simp; done) | (go_simp; with_reducible rfl)
            simp only [Act.put, List.setIfInBounds_toArray, List.set_cons_zero, List.set_cons_succ]
            refine' Reg.G.pure (i := 13) (v := _) rfl (by rfl) (by kernel_rfl) (by kernel_rfl) (by kernel_rfl) (fun _ _ _ h => h) ?hyn99 ?rehyn99
            case hyn99 => exact fun w => by first | (go_simp; done) | (go_simp; with_reducible rfl)
            simp only [Act.put, List.setIfInBounds_toArray, List.set_cons_zero, List.set_cons_succ]
            refine' Reg.G.pure (i := 14) (v := _) rfl (by rfl) (by kernel_rfl) (by kernel_rfl) (by kernel_rfl) (fun _ _ _ h => h) ?hyn100 ?rehyn100
            case hyn100 => exact fun w => by first | (go_simp; done) | (go_simp; with_reducible rfl)
            simp only [Act.put, List.setIfInBounds_toArray, List.set_cons_zero, List.set_cons_succ]
            refine' Reg.G.take (i := 15) (v := _) (F := (fun w => Fr (fun _ => False) wr w)) rfl (by rfl) (by kernel_rfl) (by kernel_rfl) (by kernel_rfl) (fun _ _ _ h => h) (HFD.out) ?hyn101 ?rehyn101
            case hyn101 => intro w hw; have kc := cell_fr hw HQ14.out; clear hw; first | (go_simp; done) | (go_simp; with_reducible rfl)
            simp only [Act.put, List.setIfInBounds_toArray, List.set_cons_zero, List.set_cons_succ]
            refine Reg.G.step (j := 9) (m := [true, true, false, false, false, true]) [15, 11, 8, 4, 2, 1] rfl (by kernel_rfl) rfl (by kernel_rfl) (fun K hK => ?_)
            go_simp
            refine (HIX.out 5 c.name _ (by decide) (HBR.out.trans ((HFD.out.below (Nat.le_refl _) (fun _ h => h.elim)).mono HBR.out.size))).mono ?_
            rintro e w1 ⟨rfl, hf⟩
            have HF1 : Hid (Fr (fun _ => False) wr w1) := HFD.out.trans hf
            clear hf
            refine hK.out _ _ ⟨HF1.out, HF1.out, HF1.out, trivial⟩ ?_
            clear hK K
            simp only [Act.put, List.setIfInBounds_toArray, List.set_cons_zero, List.set_cons_succ, Reg.Kept]
            refine' Reg.G.pure (i := 16) (v := _) rfl (by rfl) (by kernel_rfl) (by kernel_rfl) (by kernel_rfl) (fun _ _ _ h => h) ?hyn102 ?rehyn102
            case hyn102 => exact fun w => by first | (go_simp; done) | (go_simp; with_reducible rfl)
            simp only [Act.put, List.setIfInBounds_toArray, List.set_cons_zero, List.set_cons_succ]
            refine Reg.G.step (j := 17) (m := [false, false, true]) [15, 11, 1] rfl (by kernel_rfl) rfl (by kernel_rfl) (fun K hK => ?_)
            rw [if_pos (by rfl)]
            refine wp_builtR 67 1 _ rfl #[(0, .agg #[.int .i64 (rix t 5 c.name), .int .i64 c.is_])] (by go_simp) _ _ (bsl_condR _ _ _) ?_
            obtain ⟨wa, hwa⟩ : ∃ v, w1.alloc (.cells #[.int .i64 (rix t 5 c.name), .int .i64 c.is_] 114) = v := ⟨_, rfl⟩
            rw [hwa]
            have HFA : Hid (Fr (fun _ => False) wr wa) := by rw [← hwa]; exact HF1.out.alloc _
            have HOA : Hid (wa.ownsRow B 114 2 (.slice A k cap) k (((x.conds.take k).map (rcond t)).flatMap condv)) := own_fr HC.out.own HFA.out (fun _ _ _ h => h)
            have HNA : Hid (∀ j u, ([.int .i64 (rix t 5 c.name), .int .i64 c.is_] : List Value)[j]? = some u → wa.cell? ((⟨w1.heap.size, 0, none⟩ : Addr).add j) = some u) := by rw [← hwa]; exact World.news_of_block (cs := #[.int .i64 (rix t 5 c.name), .int .i64 c.is_]) (t := 114) (fr := (0, 0)) (heap_alloc_new w1 _)
            have HSA : Hid (wa.heap.size = w1.heap.size + 1) := by show _ = _; rw [← hwa]; simp
            clear hwa
            refine hK.out _ _ ⟨HFA.out, trivial⟩ ?_
            clear hK K
            simp only [Act.put, List.setIfInBounds_toArray, List.set_cons_zero, List.set_cons_succ, Reg.Kept]
            refine Reg.G.step (j := 18) (m := [false]) [1] rfl (by kernel_rfl) rfl (by kernel_rfl) (fun K hK => ?_)
            rw [if_pos (by rfl)]
            refine wp_append_lies wa (.tmp 49) (.tmp 65) 67 rfl B 114 j0 _ 2 16 Tryd.underlying67 hj hj0 hj1 hj2 rfl (by decide) (.slice A k cap) k _ (by rfl) HOA.out ⟨w1.heap.size, 0, none⟩ 1 1 [.int .i64 (rix t 5 c.name), .int .i64 c.is_] (by rfl) rfl HNA.out (by simp [Value.oneCell']) (by decide) (by simp only [maxLen]; omega) (by omega) (by have h1 := HC.out.le; have h2 := HFA.out.size; omega) (w1.heap.size + 1) HSA.out ?_
            intro gn cn wc g1 g2 g3 _
            have HCN : Hid (CLs t u B b ⟨x.kind - 9 + 1, rl, rix t 4 x.act, nd, [], x.fin, rixo t 4 x.by_, rixo t 4 x.til, ⟨0, 1⟩, -1, -1⟩ x.conds (k + 1) (.slice (some ⟨gn, 0, none⟩) (k + 1) cn) (wc.setCell ⟨b, 4, none⟩ (.slice (some ⟨gn, 0, none⟩) (k + 1) cn))) := HC.out.next HFA.out HCI.out g1 g2
            have HBC : Hid (wc.heap[b]? = some (.cells (clv ⟨x.kind - 9 + 1, rl, rix t 4 x.act, nd, [], x.fin, rixo t 4 x.by_, rixo t 4 x.til, ⟨0, 1⟩, -1, -1⟩ (.slice A k cap)).toArray 69 (0, 0))) := (Fr.of_grown g2).blk (HFA.out.blk HC.out.cb.bk (fun h => h)) (fun e => by have h1 := (own_lt HOA.out _ e).1; have h2 := HC.out.lt; omega)
            clear g1 g2 g3
            refine hK.out _ _ trivial ?_
            clear hK K
            simp only [Act.put, List.setIfInBounds_toArray, List.set_cons_zero, List.set_cons_succ, Reg.Kept]
            refine' Reg.G.pure (i := 19) (v := _) rfl (by rfl) (by kernel_rfl) (by kernel_rfl) (by kernel_rfl) (fun _ _ _ h => h) ?hyn103 ?rehyn103
            case hyn103 => exact fun w => by first | (go_simp; done) | (go_simp; with_reducible rfl)
            simp only [Act.put, List.setIfInBounds_toArray, List.set_cons_zero, List.set_cons_succ]
            refine Reg.G.step (j := 20) (m := []) [] rfl (by kernel_rfl) rfl (by kernel_rfl) (fun K hK => ?_)
            have kb : wc.cell? ⟨b, 4, none⟩ = some (.slice A k cap) := (cell_of_blk HBC.out 4).trans rfl
            have fb : wc.frozen? ⟨b, 4, none⟩ = false := froz_of_blk HBC.out 4
            go_simp
            clear kb fb
            refine hK.out _ _ trivial ?_
            clear hK K
            simp only [Act.put, List.setIfInBounds_toArray, List.set_cons_zero, List.set_cons_succ, Reg.Kept]
            refine Reg.G.done (by kernel_rfl) ?_
            go_wp2_with fail
            go_roundw
            case rel => exact ⟨k + 1, _, _, by go_num, hlt, HCN⟩
            case measure => simp [intOf]; omega
          · obtain rfl : k = x.conds.length := by omega
            have i2 : ¬ (x.conds.length : Int) < (x.conds.length : Int) := by omega
            have HOW : Hid (wr.ownsRow W.heap.size 114 2 (.slice A x.conds.length cap) x.conds.length ((x.conds.map (rcond t)).flatMap condv)) := by
              have h0 := HC.out.own
              rw [List.take_of_length_le (Nat.le_refl _)] at h0
              exact own_base h0 HBB.out
            have HC3 : Hid (CB u b 69 (clv ⟨x.kind - 9 + 1, rl, rix t 4 x.act, nd, [], x.fin, rixo t 4 x.by_, rixo t 4 x.til, ⟨0, 1⟩, -1, -1⟩ (.slice A x.conds.length cap)) wr) := HC.out.cb
            have HRC : Hid (∀ st, clv (rclause t x) st = clv ⟨x.kind - 9 + 1, rl, rix t 4 x.act, nd, [], x.fin, rixo t 4 x.by_, rixo t 4 x.til, if x.unit = [] then ⟨0, 1⟩ else x.num, if x.unit = [] then -1 else rix t 3 x.unit, if x.unit = [] then -1 else rix t 2 x.to_⟩ st) := fun st => by
              rw [← HRL.out, ← HND.out, show x.kind - 9 + 1 = x.kind - 8 by omega]; rfl
            have HBLT : Hid (b < B) := HC.out.lt
            have HOWB := Lib.hid HC.out.own
            clear HC i2 hk hlt i1 hj hj0 hj1 hj2
            have kc := HC3.out.cell HK18.out
            by_cases hu : x.unit = []
            · have HRU : Hid (∀ st, clv (rclause t x) st = clv ⟨x.kind - 9 + 1, rl, rix t 4 x.act, nd, [], x.fin, rixo t 4 x.by_, rixo t 4 x.til, ⟨0, 1⟩, -1, -1⟩ st) := fun st => by rw [HRC.out, if_pos hu, if_pos hu, if_pos hu]
              rw [hu] at kc
              replace kc : wr.cell? ⟨W.heap.size + 1, 18, none⟩ = some (.string ⟨#[]⟩) := kc
              clear hu HRC
              have HOWF : Hid (wr.ownsRow B 114 2 (.slice A x.conds.length cap) x.conds.length ((x.conds.map (rcond t)).flatMap condv)) := by
                have h0 := HOWB.out
                rw [List.take_of_length_le (Nat.le_refl _)] at h0
                exact h0
              have HBB2 : Hid (W.heap.size + 1 + 1 < B) := by have h1 := HSZ.out; have h2 := HC3.out.lo; have h3 := HBLT.out; show _ < _; omega
              have HFX : Hid (Fr (fun k => k = b) wr wr) := Fr.refl _ _
              clear HOWB HOW
              go_upto_region 14 with fail
              iterate 1 go_step
              refine wpList_load_row rfl 69 _ rfl b rfl 69 (clv ⟨x.kind - 9 + 1, rl, rix t 4 x.act, nd, [], x.fin, rixo t 4 x.by_, rixo t 4 x.til, ⟨0, 1⟩, -1, -1⟩ (.slice A x.conds.length cap)).toArray (0, 0) _ HC3.out.bk Tryd.underlying69 rfl (by kernel_rfl) ?_
              simp only [Act.put, List.setIfInBounds_toArray, List.set_cons_zero, List.set_cons_succ]
              refine wpList_store_row rfl 69 _ _ rfl (W.heap.size + 1 + 1) (clv ⟨x.kind - 9 + 1, rl, rix t 4 x.act, nd, [], x.fin, rixo t 4 x.by_, rixo t 4 x.til, ⟨0, 1⟩, -1, -1⟩ (.slice A x.conds.length cap)).toArray rfl rfl 69 _ (HC3.out.blk HR.out) (by kernel_rfl) rfl (by simp [clv, nv, Vw.nil, Value.oneCell']) ?_
              simp only [Act.put, List.setIfInBounds_toArray, List.set_cons_zero, List.set_cons_succ]
              obtain ⟨w9, hw9⟩ : ∃ w9, wr.setRow (W.heap.size + 1 + 1) (clv ⟨x.kind - 9 + 1, rl, rix t 4 x.act, nd, [], x.fin, rixo t 4 x.by_, rixo t 4 x.til, ⟨0, 1⟩, -1, -1⟩ (.slice A x.conds.length cap)).toArray = w9 := ⟨_, rfl⟩
              rw [hw9]
              have HB9 : Hid (w9.heap[W.heap.size + 1 + 1]? = some (.cells (clv ⟨x.kind - 9 + 1, rl, rix t 4 x.act, nd, [], x.fin, rixo t 4 x.by_, rixo t 4 x.til, ⟨0, 1⟩, -1, -1⟩ (.slice A x.conds.length cap)).toArray 69 (0, 0))) := by rw [← hw9]; exact blk_row (HC3.out.blk HR.out) _
              have HF9 : Hid (Fr (fun _ => False) W w9) := by rw [← hw9]; exact (HC3.out.done HFR.out).setRow (.inr (by omega)) _
              have HFZ : Hid (Fr (fun k => k = b ∨ k = W.heap.size + 1 + 1) wr w9) := by rw [← hw9]; exact (HFX.out.mono (fun _ _ h => .inl h)).setRow (.inl (.inr rfl)) _
              clear hw9
              go_wp2_with fail
              refine bodyPost_ret (v := .agg (clv ⟨x.kind - 9 + 1, rl, rix t 4 x.act, nd, [], x.fin, rixo t 4 x.by_, rixo t 4 x.til, ⟨0, 1⟩, -1, -1⟩ (.slice A x.conds.length cap)).toArray) (results_blk Tryd.results37 rfl HB9.out Tryd.underlying69 rfl (by kernel_rfl)) rfl ⟨(.slice A x.conds.length cap), by rw [HRU.out], own_base (own_fr HOWF.out HFZ.out (fun j h1 _ e => by have h2 := HBLT.out; have h3 := HBB2.out; omega)) HBB.out, HF9.out⟩
            · have HRU : Hid (∀ st, clv (rclause t x) st = clv ⟨x.kind - 9 + 1, rl, rix t 4 x.act, nd, [], x.fin, rixo t 4 x.by_, rixo t 4 x.til, x.num, rix t 3 x.unit, rix t 2 x.to_⟩ st) := fun st => by rw [HRC.out, if_neg hu, if_neg hu, if_neg hu]
              have hb : (x.unit != []) = true := by simpa using hu
              have hb2 : (x.unit == []) = false := by simpa using hu
              clear hu HRC
              have HOWF : Hid (wr.ownsRow B 114 2 (.slice A x.conds.length cap) x.conds.length ((x.conds.map (rcond t)).flatMap condv)) := by
                have h0 := HOWB.out
                rw [List.take_of_length_le (Nat.le_refl _)] at h0
                exact h0
              have HBB2 : Hid (W.heap.size + 1 + 1 < B) := by have h1 := HSZ.out; have h2 := HC3.out.lo; have h3 := HBLT.out; show _ < _; omega
              have HFX : Hid (Fr (fun k => k = b) wr wr) := Fr.refl _ _
              clear HOWB HOW
              go_upto_region 11 with fail
              iterate 1 go_step
              refine wpList_load_row rfl 100 _ rfl W.heap.size rfl 100 vs.toArray (0, 0) _ (HC3.out.blk HX.out) Tryd.underlying100 rfl (by rw [show vs.toArray.size = 6 from HT.out.len]; kernel_rfl) ?_
              simp only [Act.put, List.setIfInBounds_toArray, List.set_cons_zero, List.set_cons_succ]
              have HCL := Lib.hid (HIX.out 3 x.unit wr (by decide) HC3.out.below)
              have kc := HC3.out.cell HK18.out
              go_wp2_with fail
              refine HCL.out.mono ?_
              rintro e v82 ⟨rfl, hf⟩
              replace HFX : Hid (Fr (fun k => k = b) wr v82) := HFX.out.trans (hf.mono (fun _ _ h => h.elim))
              have HCa := Lib.hid (HC3.out.step hf)
              clear hf HCL kc HC3
              have kb : v82.cell? ⟨b, 13, none⟩ = some (.int .i64 (-1)) := (cell_of_blk HCa.out.bk 13).trans rfl
              have fb := froz_of_blk HCa.out.bk 13
              go_upto_region 12 with fail
              obtain ⟨v83, hw⟩ : ∃ v, v82.setCell ⟨b, 13, none⟩ (.int .i64 (rix t 3 x.unit)) = v := ⟨_, rfl⟩
              rw [hw]
              replace HFX : Hid (Fr (fun k => k = b) wr v83) := by rw [← hw]; exact HFX.out.setb 13 _
              have HC4 : Hid (CB u b 69 (clv ⟨x.kind - 9 + 1, rl, rix t 4 x.act, nd, [], x.fin, rixo t 4 x.by_, rixo t 4 x.til, ⟨0, 1⟩, (rix t 3 x.unit), -1⟩ (.slice A x.conds.length cap)) v83) := by rw [← hw]; exact HCa.out.set 13 _
              clear hw kb fb HCa
              go_upto_region 12 with fail
              have kc0 := HC4.out.cell HK16.out
              have kc1 := HC4.out.cell HK17.out
              have kb0 : v83.cell? ⟨b, 11, none⟩ = some (.int .i64 0) := (cell_of_blk HC4.out.bk 11).trans rfl
              have fb0 := froz_of_blk HC4.out.bk 11
              have kb1 : v83.cell? ⟨b, 12, none⟩ = some (.int .i64 1) := (cell_of_blk HC4.out.bk 12).trans rfl
              have fb1 := froz_of_blk HC4.out.bk 12
              go_upto_region 13 with fail
              obtain ⟨v84, hw⟩ : ∃ v, (v83.setCell ⟨b, 11, none⟩ (.int .i64 x.num.num)).setCell ⟨b, 12, none⟩ (.int .i64 x.num.den) = v := ⟨_, rfl⟩
              rw [hw]
              replace HFX : Hid (Fr (fun k => k = b) wr v84) := by rw [← hw]; exact (HFX.out.setb 11 _).setb 12 _
              have HC5 : Hid (CB u b 69 (clv ⟨x.kind - 9 + 1, rl, rix t 4 x.act, nd, [], x.fin, rixo t 4 x.by_, rixo t 4 x.til, x.num, (rix t 3 x.unit), -1⟩ (.slice A x.conds.length cap)) v84) := by rw [← hw]; exact (HC4.out.set 11 _).set 12 _
              clear hw kb0 fb0 kb1 fb1 kc0 kc1 HC4
              go_upto_region 13 with fail
              iterate 1 go_step
              refine wpList_load_row rfl 100 _ rfl W.heap.size rfl 100 vs.toArray (0, 0) _ (HC5.out.blk HX.out) Tryd.underlying100 rfl (by rw [show vs.toArray.size = 6 from HT.out.len]; kernel_rfl) ?_
              simp only [Act.put, List.setIfInBounds_toArray, List.set_cons_zero, List.set_cons_succ]
              have HCL := Lib.hid (HIX.out 2 x.to_ v84 (by decide) HC5.out.below)
              have kc := HC5.out.cell HK22.out
              go_wp2_with fail
              refine HCL.out.mono ?_
              rintro e v85 ⟨rfl, hf⟩
              replace HFX : Hid (Fr (fun k => k = b) wr v85) := HFX.out.trans (hf.mono (fun _ _ h => h.elim))
              have HCa := Lib.hid (HC5.out.step hf)
              clear hf HCL kc HC5
              have kb : v85.cell? ⟨b, 14, none⟩ = some (.int .i64 (-1)) := (cell_of_blk HCa.out.bk 14).trans rfl
              have fb := froz_of_blk HCa.out.bk 14
              go_upto_region 14 with fail
              obtain ⟨v86, hw⟩ : ∃ v, v85.setCell ⟨b, 14, none⟩ (.int .i64 (rix t 2 x.to_)) = v := ⟨_, rfl⟩
              rw [hw]
              replace HFX : Hid (Fr (fun k => k = b) wr v86) := by rw [← hw]; exact HFX.out.setb 14 _
              have HC6 : Hid (CB u b 69 (clv ⟨x.kind - 9 + 1, rl, rix t 4 x.act, nd, [], x.fin, rixo t 4 x.by_, rixo t 4 x.til, x.num, (rix t 3 x.unit), (rix t 2 x.to_)⟩ (.slice A x.conds.length cap)) v86) := by rw [← hw]; exact HCa.out.set 14 _
              clear hw kb fb HCa
              go_upto_region 14 with fail
              iterate 1 go_step
              refine wpList_load_row rfl 69 _ rfl b rfl 69 (clv ⟨x.kind - 9 + 1, rl, rix t 4 x.act, nd, [], x.fin, rixo t 4 x.by_, rixo t 4 x.til, x.num, (rix t 3 x.unit), (rix t 2 x.to_)⟩ (.slice A x.conds.length cap)).toArray (0, 0) _ HC6.out.bk Tryd.underlying69 rfl (by kernel_rfl) ?_
              simp only [Act.put, List.setIfInBounds_toArray, List.set_cons_zero, List.set_cons_succ]
              refine wpList_store_row rfl 69 _ _ rfl (W.heap.size + 1 + 1) (clv ⟨x.kind - 9 + 1, rl, rix t 4 x.act, nd, [], x.fin, rixo t 4 x.by_, rixo t 4 x.til, x.num, (rix t 3 x.unit), (rix t 2 x.to_)⟩ (.slice A x.conds.length cap)).toArray rfl rfl 69 _ (HC6.out.blk HR.out) (by kernel_rfl) rfl (by simp [clv, nv, Vw.nil, Value.oneCell']) ?_
              simp only [Act.put, List.setIfInBounds_toArray, List.set_cons_zero, List.set_cons_succ]
              obtain ⟨w9, hw9⟩ : ∃ w9, v86.setRow (W.heap.size + 1 + 1) (clv ⟨x.kind - 9 + 1, rl, rix t 4 x.act, nd, [], x.fin, rixo t 4 x.by_, rixo t 4 x.til, x.num, (rix t 3 x.unit), (rix t 2 x.to_)⟩ (.slice A x.conds.length cap)).toArray = w9 := ⟨_, rfl⟩
              rw [hw9]
              have HB9 : Hid (w9.heap[W.heap.size + 1 + 1]? = some (.cells (clv ⟨x.kind - 9 + 1, rl, rix t 4 x.act, nd, [], x.fin, rixo t 4 x.by_, rixo t 4 x.til, x.num, (rix t 3 x.unit), (rix t 2 x.to_)⟩ (.slice A x.conds.length cap)).toArray 69 (0, 0))) := by rw [← hw9]; exact blk_row (HC6.out.blk HR.out) _
              have HF9 : Hid (Fr (fun _ => False) W w9) := by rw [← hw9]; exact (HC6.out.done HFR.out).setRow (.inr (by omega)) _
              have HFZ : Hid (Fr (fun k => k = b ∨ k = W.heap.size + 1 + 1) wr w9) := by rw [← hw9]; exact (HFX.out.mono (fun _ _ h => .inl h)).setRow (.inl (.inr rfl)) _
              clear hw9
              go_wp2_with fail
              refine bodyPost_ret (v := .agg (clv ⟨x.kind - 9 + 1, rl, rix t 4 x.act, nd, [], x.fin, rixo t 4 x.by_, rixo t 4 x.til, x.num, (rix t 3 x.unit), (rix t 2 x.to_)⟩ (.slice A x.conds.length cap)).toArray) (results_blk Tryd.results37 rfl HB9.out Tryd.underlying69 rfl (by kernel_rfl)) rfl ⟨(.slice A x.conds.length cap), by rw [HRU.out], own_base (own_fr HOWF.out HFZ.out (fun j h1 _ e => by have h2 := HBLT.out; have h3 := HBB2.out; omega)) HBB.out, HF9.out⟩
end Go.Proofs.YtdhjibnkebbejaaDoor.Rs
