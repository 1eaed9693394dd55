/-
  The walk of the statement ResolveAppends: it returns true for every source and item.
-/
import Derived.Test.YtdhjibnkebbejaaDoorResLaid
import Derived.Test.YtdhjibnkebbejaaDoorResHead
import Derived.Test.YtdhjibnkebbejaaDoorResSmall
import Derived.Test.YtdhjibnkebbejaaDoorResSameS
import Derived.Test.YtdhjibnkebbejaaDoorResLow
import Derived.Test.YtdhjibnkebbejaaDoorResSize
import Derived.Test.YtdhjibnkebbejaaDoorResLawA
import Derived.Test.YtdhjibnkebbejaaDoorReg2
import Derived.Test.YtdhjibnkebbejaaDoorApp
import Derived.Deep.DeepCutAuto
namespace Go.Proofs.YtdhjibnkebbejaaDoor.Rs
open Go.RowKit Mem Vw
set_option linter.unusedVariables false
set_option linter.unusedSimpArgs false

theorem wp_builtS {o : Oper} {a : Act} {w : World} {K : Act → World → Prop} {Q : Exit → Act → World → Prop} (t : TypeId) (n : Nat) (parts : Array (Nat × Operand)) (hop : o.op = .buildSlice t n parts) (ps : Array (Nat × Value))
    (hp : parts.map (fun (i, x) => (i, a.eval x)) = ps) (v : Value) (w' : World) (hb : (Instr.buildSlice t n ps).run Tryd.prog w = .ok v w') (h : K (a.put o.dst v) w') : o.wp Tryd.prog a w K Q := by
  unfold Oper.wp
  simp [execOp, hop, hp, hb, Result.andThen]
  exact h
theorem row_one {w : World} {g n : Nat} {p : Rs.Item × Sl} {t : TypeId} (h : w.heap[g]? = some (.cells (ic p).toArray t (0, 0))) : Row w (.slice (some ⟨g, 0, none⟩) 1 1) n ([p].map ic) :=
  ⟨_, 1, rfl, ⟨Nat.le_refl _, by decide⟩, .inr ⟨g, 0, rfl, lt_of_blk h, fun i x hx => by
    match i, hx with
    | 0, hx =>
      obtain rfl : ic p = x := Option.some.inj hx
      rw [Nat.zero_mul, Nat.add_zero]
      exact At.of_blk h
    | i + 1, hx => simp at hx⟩⟩
theorem answer_fine {src sa : Rs.Source} {ya : Sy} (h : answer src = (sa, ya, [])) : (Rs.run src.items).2 = [] ∧ sa = src ∧ ya = { (Rs.run src.items).1 with hol := dsort (Rs.run src.items).1.hol } := by
  unfold answer at h
  by_cases h0 : (Rs.run src.items).2 = []
  · rw [if_pos h0] at h
    simp only [Prod.mk.injEq, and_true] at h
    exact ⟨h0, h.1.symm, h.2.symm⟩
  · rw [if_neg h0] at h
    simp only [Prod.mk.injEq] at h
    exact absurd h.2.2 h0
theorem bslice0 (w : World) : (Instr.buildSlice 24 0 #[]).run Tryd.prog w = .ok (.slice (some ⟨w.heap.size, 0, none⟩) 0 0) (w.alloc (.cells #[] 55)) := by kernel_rfl
theorem bslice1i (x : Item) (Ac : Option Addr) (nc cc : Nat) (Ad : Option Addr) (nd cd : Nat) (An : Option Addr) (nn cn : Nat) (Ax : Option Addr) (nx cx : Nat) (w : World) : (Instr.buildSlice 24 1 #[(0, .agg (ic (x, .slice Ac nc cc, .slice Ad nd cd, .slice An nn cn, .slice Ax nx cx)).toArray)]).run Tryd.prog w = .ok (.slice (some ⟨w.heap.size, 0, none⟩) 1 1) (w.alloc (.cells (ic (x, .slice Ac nc cc, .slice Ad nd cd, .slice An nn cn, .slice Ax nx cx)).toArray 55)) := by kernel_rfl
end Go.Proofs.YtdhjibnkebbejaaDoor.Rs
namespace Go.Proofs.YtdhjibnkebbejaaDoor
open Go.RowKit Mem Vw Rs
set_option linter.unusedVariables false
set_option linter.unusedSimpArgs false

set_option maxRecDepth 100000 in
set_option maxHeartbeats 8000000 in
theorem walk_ResolveAppends (s : Rs.Source) (si : Value) (hs : SourceOk s) (p : Rs.Item × Sl) (W : World) (hbf : Bf W) (hi : Items W s.items si) (hp : ItemOk p.1) (hf : Flat W p.1 p.2.1 p.2.2.1 p.2.2.2.1) (his : IsSlice p.2.2.2.2) :
    Calls Tryd.prog 7 #[.agg (scells s.name s.frm s.days si).toArray, .agg (ic p).toArray] W fun e w' => e = .returned (.bool true) ∧ Below W.heap.size W w' := by
  obtain ⟨z, hzs, hz⟩ := hi
  obtain ⟨Ai, ci, hv, hc1, hc2⟩ := hz.row.slice
  rw [List.length_map] at hv hc1
  subst hv
  obtain ⟨x, sc, sd, sn, sx⟩ := p
  dsimp only at hp hf his
  have HF := Lib.hid hf
  obtain ⟨Ac, cc, hcs, _, _⟩ := hf.conds.slice
  obtain ⟨Ad, cd, hds, _, _⟩ := hf.dates.slice
  obtain ⟨An, nn, cn, hns⟩ := hf.names.form
  obtain ⟨Ax, nx, cx, hxs⟩ := his
  rw [List.length_map] at hcs hds
  subst hcs hds hns hxs
  have HZ := Lib.hid hz; have HZS := Lib.hid hzs; have HOK := Lib.hid hs; have HP := Lib.hid hp; have HBF := Lib.hid hbf
  have hln : z.length ≤ maxLen := by have h := hs.len; rw [← hzs, List.length_map] at h; exact h
  have HLN := Lib.hid hln
  clear hz hzs hs hp hbf hf hc1 hc2 hln
  obtain ⟨q, hq⟩ : ∃ q, ((x, .slice Ac x.conds.length cc, .slice Ad x.dates.length cd, .slice An nn cn, .slice Ax nx cx) : Rs.Item × Sl) = q := ⟨_, rfl⟩
  rw [hq]
  have HQ := Lib.hid hq; clear hq
  have HONEQ : Hid ((ic q).toArray.all (·.oneCell') = true) := by rw [← HQ.out]; exact ic_one HF.out ⟨_, _, _, rfl⟩
  obtain ⟨w0, HW0⟩ : ∃ w0, Hid ((W.alloc (.cells (scells s.name s.frm s.days (.slice Ai z.length ci)).toArray 26)).alloc (.cells (ic q).toArray 55) = w0) := ⟨_, rfl⟩
  have HSB0 : Hid (w0.heap[W.heap.size]? = some (.cells (scells s.name s.frm s.days (.slice Ai z.length ci)).toArray 26 (0, 0))) := by rw [← HW0.out]; exact blk_alloc (blk_newn rfl) _
  have HXB0 : Hid (w0.heap[W.heap.size + 1]? = some (.cells (ic q).toArray 55 (0, 0))) := by rw [← HW0.out]; exact blk_newn (by simp)
  have HBA0 : Hid (Below W.heap.size W w0) := by rw [← HW0.out]; exact ((Below.refl _ W).alloc (Nat.le_refl _) _).alloc (by simp) _
  have HHD := Lib.hid (head_any w0 (HBF.out.below HBA0.out))
  go_enter Tryd.func7, Tryd.ntmps7
  go_upto_region 1 with fail
  rw [HW0.out]
  go_wp2_with fail
  refine HHD.out.mono ?_
  rintro e w1 ⟨rfl, hb1⟩
  have HSB1 := Lib.hid ((hb1.block _ (lt_of_blk HSB0.out)).trans HSB0.out)
  have HXB1 := Lib.hid ((hb1.block _ (lt_of_blk HXB0.out)).trans HXB0.out)
  have HBA1 : Hid (Below W.heap.size W w1) := HBA0.out.trans (hb1.mono HBA0.out.size)
  clear hb1 HHD HSB0 HXB0 HBA0 HW0
  have s0 : w1.cell? ⟨W.heap.size, 0, none⟩ = some (.string ⟨s.name.toArray⟩) := (cell_of_blk HSB1.out 0).trans rfl
  have s1 : w1.cell? ⟨W.heap.size, 1, none⟩ = some (.int .i64 s.frm.y) := (cell_of_blk HSB1.out 1).trans rfl
  have s2 : w1.cell? ⟨W.heap.size, 2, none⟩ = some (.int .i64 s.frm.m) := (cell_of_blk HSB1.out 2).trans rfl
  have s3 : w1.cell? ⟨W.heap.size, 3, none⟩ = some (.int .i64 s.frm.d) := (cell_of_blk HSB1.out 3).trans rfl
  have s4 : w1.cell? ⟨W.heap.size, 4, none⟩ = some (.int .i64 s.days) := (cell_of_blk HSB1.out 4).trans rfl
  have s5 : w1.cell? ⟨W.heap.size, 5, none⟩ = some (.slice Ai z.length ci) := (cell_of_blk HSB1.out 5).trans rfl
  have HSM := Lib.hid (small_any s _ z w1 (HZ.out.below HBA1.out) HZS.out HLN.out)
  go_wp2_with fail
  refine HSM.out.mono ?_
  rintro e w2 ⟨b, rfl, hsm, hb2⟩
  have HSB2 := Lib.hid ((hb2.block _ (lt_of_blk HSB1.out)).trans HSB1.out)
  have HXB2 := Lib.hid ((hb2.block _ (lt_of_blk HXB1.out)).trans HXB1.out)
  have HBA2 : Hid (Below W.heap.size W w2) := HBA1.out.trans (hb2.mono HBA1.out.size)
  have HSMA := Lib.hid hsm
  clear hb2 HSM HSB1 HXB1 HBA1 s0 s1 s2 s3 s4 s5 hsm
  have c13 : w2.cell? ⟨W.heap.size + 1, 13, none⟩ = some (.slice Ac x.conds.length cc) := by rw [cell_of_blk HXB2.out 13, ← HQ.out]; rfl
  have c30 : w2.cell? ⟨W.heap.size + 1, 30, none⟩ = some (.slice Ad x.dates.length cd) := by rw [cell_of_blk HXB2.out 30, ← HQ.out]; rfl
  cases b
  · clear HSMA
    go_wp2_with fail
    go_ret
    exact ⟨rfl, HBA2.out⟩
  rcases (by omega : (20 : Int) < (x.conds.length : Int) ∨ (x.conds.length : Int) ≤ 20) with hx1 | hx1
  · clear HSMA
    go_wp2_with fail
    go_ret
    exact ⟨rfl, HBA2.out⟩
  rcases (by omega : (500 : Int) < (x.dates.length : Int) ∨ (x.dates.length : Int) ≤ 500) with hx2 | hx2
  · clear HSMA
    go_wp2_with fail
    go_ret
    exact ⟨rfl, HBA2.out⟩
  obtain ⟨h700, hall⟩ := HSMA.out rfl
  have H7 := Lib.hid h700; have HALL := Lib.hid hall
  have HX1 : Hid (x.conds.length ≤ 20) := by show _ ≤ _; omega
  clear HSMA h700 hall
  have s0 : w2.cell? ⟨W.heap.size, 0, none⟩ = some (.string ⟨s.name.toArray⟩) := (cell_of_blk HSB2.out 0).trans rfl
  have s1 : w2.cell? ⟨W.heap.size, 1, none⟩ = some (.int .i64 s.frm.y) := (cell_of_blk HSB2.out 1).trans rfl
  have s2 : w2.cell? ⟨W.heap.size, 2, none⟩ = some (.int .i64 s.frm.m) := (cell_of_blk HSB2.out 2).trans rfl
  have s3 : w2.cell? ⟨W.heap.size, 3, none⟩ = some (.int .i64 s.frm.d) := (cell_of_blk HSB2.out 3).trans rfl
  have s4 : w2.cell? ⟨W.heap.size, 4, none⟩ = some (.int .i64 s.days) := (cell_of_blk HSB2.out 4).trans rfl
  have s5 : w2.cell? ⟨W.heap.size, 5, none⟩ = some (.slice Ai z.length ci) := (cell_of_blk HSB2.out 5).trans rfl
  have HRE := Lib.hid (resolve_any s _ z w2 (HZ.out.below HBA2.out) HZS.out (by have := H7.out; omega) (fun y hy => ⟨HOK.out.items y hy, by have := (HALL.out y hy).conds; omega⟩) (HBF.out.below HBA2.out))
  go_wp2_with fail
  refine HRE.out.mono ?_
  rintro e w3 ⟨v3, rfl, hro, hb3⟩
  obtain ⟨A1, hA1⟩ : ∃ A1, answer s = A1 := ⟨_, rfl⟩
  rw [ResOut, hA1] at hro
  obtain ⟨sa, ya, fa⟩ := A1
  obtain ⟨Ha, cla, fv, rfl, hsy, hft, _⟩ := hro
  dsimp only at hsy hft
  have HONE : Hid ((symc sa ya.weekend Ha).toArray.all (·.oneCell') = true) := one_symc sa ya.weekend Ha hsy.hol.form hsy.par.form hsy.rol.form hsy.uni.form hsy.act.form hsy.cla.form
  obtain ⟨Af, cf, hfe, _, _⟩ := hft.slice
  rw [List.length_map] at hfe
  have HSYA := Lib.hid hsy; have HA1 := Lib.hid hA1
  have HSB3 := Lib.hid ((hb3.block _ (lt_of_blk HSB2.out)).trans HSB2.out)
  have HXB3 := Lib.hid ((hb3.block _ (lt_of_blk HXB2.out)).trans HXB2.out)
  have HBA3 : Hid (Below W.heap.size W w3) := HBA2.out.trans (hb3.mono HBA2.out.size)
  have HWS3 : Hid (W.heap.size + 2 ≤ w3.heap.size) := by have := lt_of_blk HXB3.out; show _ ≤ _; omega
  clear hb3 hsy hft hA1 s0 s1 s2 s3 s4 s5 HRE HSB2 HXB2 HBA2 c13 c30
  subst hfe
  dsimp only
  iterate 13 go_step
  refine wpList_store_row rfl 39 _ _ rfl w3.heap.size (symc sa ya.weekend Ha).toArray rfl rfl 39 _ (blk_newn rfl) (info_symc _ _ _) rfl HONE.out ?_
  simp only [Act.put, List.setIfInBounds_toArray, List.set_cons_zero, List.set_cons_succ]
  rw [World.setRow_alloc_new]
  obtain ⟨u3, hu3⟩ : ∃ u3, w3.alloc (.cells (symc sa ya.weekend Ha).toArray 39) = u3 := ⟨_, rfl⟩
  rw [hu3]
  have HQ3 : Hid (u3.heap[w3.heap.size]? = some (.cells (symc sa ya.weekend Ha).toArray 39 (0, 0))) := by rw [← hu3]; exact blk_newn rfl
  have HB3 : Hid (Below w3.heap.size w3 u3) := by rw [← hu3]; exact (Below.refl _ w3).alloc (Nat.le_refl _) _
  have HS3 : Hid (u3.heap.size = w3.heap.size + 1) := by show _ = _; rw [← hu3]; simp
  have HSU3 := Lib.hid ((HB3.out.block _ (lt_of_blk HSB3.out)).trans HSB3.out)
  clear hu3 HONE
  have s0 : u3.cell? ⟨W.heap.size, 0, none⟩ = some (.string ⟨s.name.toArray⟩) := (cell_of_blk HSU3.out 0).trans rfl
  have s1 : u3.cell? ⟨W.heap.size, 1, none⟩ = some (.int .i64 s.frm.y) := (cell_of_blk HSU3.out 1).trans rfl
  have s2 : u3.cell? ⟨W.heap.size, 2, none⟩ = some (.int .i64 s.frm.m) := (cell_of_blk HSU3.out 2).trans rfl
  have s3 : u3.cell? ⟨W.heap.size, 3, none⟩ = some (.int .i64 s.frm.d) := (cell_of_blk HSU3.out 3).trans rfl
  have s4 : u3.cell? ⟨W.heap.size, 4, none⟩ = some (.int .i64 s.days) := (cell_of_blk HSU3.out 4).trans rfl
  have s5 : u3.cell? ⟨W.heap.size, 5, none⟩ = some (.slice Ai z.length ci) := (cell_of_blk HSU3.out 5).trans rfl
  go_upto_region 6 with fail
  obtain ⟨u5, hu5⟩ : ∃ u5, u3.alloc (.cells #[.string ⟨s.name.toArray⟩, .int .i64 s.frm.y, .int .i64 s.frm.m, .int .i64 s.frm.d, .int .i64 s.days, .slice Ai z.length ci] 26) = u5 := ⟨_, rfl⟩
  rw [hu5]
  have HMB5 : Hid (u5.heap[u3.heap.size]? = some (.cells (scells s.name s.frm s.days (.slice Ai z.length ci)).toArray 26 (0, 0))) := by rw [← hu5]; exact blk_newn rfl
  have HB35 : Hid (Below w3.heap.size w3 u5) := by rw [← hu5]; exact HB3.out.alloc HB3.out.size _
  have HBU5 : Hid (Below u3.heap.size u3 u5) := by rw [← hu5]; exact (Below.refl _ u3).alloc (Nat.le_refl _) _
  have HS5 : Hid (u5.heap.size = u3.heap.size + 1) := by show _ = _; rw [← hu5]; simp
  have HSU5 := Lib.hid ((HBU5.out.block _ (lt_of_blk HSU3.out)).trans HSU3.out)
  have HXU5 := Lib.hid ((HB35.out.block _ (lt_of_blk HXB3.out)).trans HXB3.out)
  have HQ5 := Lib.hid ((HBU5.out.block _ (lt_of_blk HQ3.out)).trans HQ3.out)
  have HBW5 : Hid (Below W.heap.size W u5) := HBA3.out.trans (HB35.out.mono HBA3.out.size)
  clear hu5 s0 s1 s2 s3 s4 s5 HSB3 HXB3 HSU3 HQ3 HB3 HBU5
  obtain ⟨B, hB⟩ : ∃ B, u5.heap.size = B := ⟨_, rfl⟩
  have HB := Lib.hid hB; clear hB
  have HBS : Hid (∀ w : World, (Instr.buildSlice 24 1 #[(0, .agg (ic q).toArray)]).run Tryd.prog w = .ok (.slice (some ⟨w.heap.size, 0, none⟩) 1 1) (w.alloc (.cells (ic q).toArray 55))) := fun w => by rw [← HQ.out]; exact bslice1i ..
  have HONQ : Hid (∀ y ∈ [q], ∀ u ∈ ic y, u.oneCell' = true) := fun y hy u hu => by
    obtain rfl : y = q := by simpa using hy
    have := HONEQ.out
    rw [List.all_toArray] at this
    exact List.all_eq_true.1 this u hu
  have HONZ : Hid (∀ y ∈ z, ∀ u ∈ ic y, u.oneCell' = true) := fun y hy u hu => by
    have := ic_one (HZ.out.flat y hy).1 (HZ.out.flat y hy).2
    rw [List.all_toArray] at this
    exact List.all_eq_true.1 this u hu
  obtain ⟨z0, hzi, hzz⟩ := info_item3
  obtain ⟨i0, hi, hz0, hz1, hz2⟩ := info_parts hzi
  go_cut [] (fun wx => ∃ g cap, Hid (Row wx (.slice (some ⟨g, 0, none⟩) (z.length + 1) cap) 33 ((z ++ [q]).map ic)) ∧ Hid (wx.heap[u3.heap.size]? = some (.cells (scells s.name s.frm s.days (.slice (some ⟨g, 0, none⟩) (z.length + 1) cap)).toArray 26 (0, 0))) ∧ Hid (Fr (fun k => k = u3.heap.size) u5 wx))
  case first =>
    refine Reg.G.start (by kernel_rfl) ?_
    refine' Reg.G.pure (i := 1) (v := _) rfl (by rfl) (by kernel_rfl) (by kernel_rfl) (by kernel_rfl) (fun _ _ _ h => h) ?hyr6_1 ?rer6_1
    case hyr6_1 => exact fun w => by first | (go_simp; done) | (go_simp; with_reducible rfl)
    simp only [Act.put, List.setIfInBounds_toArray, List.set_cons_zero, List.set_cons_succ]
    refine' Reg.G.take (i := 2) (v := _) (F := (fun w => w.cell? ⟨W.heap.size, 5, none⟩ = some (.slice Ai z.length ci))) rfl (by rfl) (by kernel_rfl) (by kernel_rfl) (by kernel_rfl) (fun _ _ _ h => h) (cell_of_blk HSU5.out 5) ?hyr6_2 ?rer6_2
    case hyr6_2 => intro w hw; first | (go_simp; done) | (go_simp; with_reducible rfl)
    simp only [Act.put, List.setIfInBounds_toArray, List.set_cons_zero, List.set_cons_succ]
    refine' Reg.G.take (i := 4) (v := _) (F := (fun w => w.heap[W.heap.size + 1]? = some (.cells (ic q).toArray 55 (0, 0)))) rfl (by rfl) (by kernel_rfl) (by kernel_rfl) (by kernel_rfl) (fun _ _ _ h => h) (HXU5.out) ?hyr6_4 ?rer6_4
    case hyr6_4 => intro w hw; refine run_load_row (P := Tryd.prog) 55 (.tmp 3) ?_ (W.heap.size + 1) ?_ 55 (ic q).toArray _ hw Tryd.underlying55 rfl (info_icl _) <;> rfl
    simp only [Act.put, List.setIfInBounds_toArray, List.set_cons_zero, List.set_cons_succ]
    have HFD : Hid (Fr (fun _ => False) u5 u5.drew) := (Fr.refl _ u5).drew
    refine Reg.G.two (j1 := 0) (j2 := 5) (m1 := [true, true]) (m2 := [false, true]) [4, 2] rfl rfl (by kernel_rfl) rfl (by kernel_rfl) (by kernel_rfl) (fun K hK => ?_) (fun K hK => ?_)
    · rw [if_pos (by rfl)]
      refine wp_builtS 24 0 _ rfl #[] (by go_simp) _ _ (bslice0 _) ?_
      obtain ⟨wa1, hwa1⟩ : ∃ v, (u5.drew).alloc (.cells #[] 55) = v := ⟨_, rfl⟩
      rw [hwa1]
      have HFwa1 : Hid (Fr (fun _ => False) u5 wa1) := by rw [← hwa1]; exact HFD.out.alloc _
      have HOwa1 : Hid (wa1.ownsRow B 55 33 (.slice (some ⟨(u5.drew).heap.size, 0, none⟩) 0 0) 0 []) := by rw [← hwa1]; exact World.ownsRow_made (u5.drew) #[] 0 (by rw [← HB.out]; exact HFD.out.size) (by decide) (by simp)
      clear hwa1
      refine hK.out _ _ ⟨(HFwa1.out.blk HXU5.out (fun h => h)), cell_of_blk (HFwa1.out.blk HSU5.out (fun h => h)) 5, trivial⟩ ?_
      clear hK K
      simp only [Act.put, List.setIfInBounds_toArray, List.set_cons_zero, List.set_cons_succ, Reg.Kept]
      refine Reg.G.two (j1 := 3) (j2 := 5) (m1 := [true, false]) (m2 := [false, true]) [4, 2] rfl rfl (by kernel_rfl) rfl (by kernel_rfl) (by kernel_rfl) (fun K hK => ?_) (fun K hK => ?_)
      · rw [if_pos (by rfl)]
        refine wp_append_row (.tmp 36) (.tmp 38) 24 rfl B 55 i0 z0 33 368 Tryd.underlying24 hi hz0 hz1 hz2 hzz (by decide) (.slice (some ⟨(u5.drew).heap.size, 0, none⟩) 0 0) 0 [] (by rfl) HOwa1.out (.slice Ai z.length ci) (by rfl) ic z (HZ.out.below (HBW5.out.trans (HFwa1.out.below HBW5.out.size (fun _ h => h.elim)))).row (fun _ _ => rfl) HONZ.out (by have := H7.out; simp only [maxLen]; omega) (by have := H7.out; omega) (by rw [← HB.out]; exact HFwa1.out.size) ?_
        intro vwc2 wc2 g1wc2 g2wc2 g3wc2
        have HFwc2 : Hid (Fr (fun _ => False) u5 wc2) := HFwa1.out.grown g2wc2 (fun k hk => .inr (by have := (own_lt HOwa1.out k hk).1; rw [HB.out]; exact this))
        have HOwc2 : Hid (wc2.ownsRow B 55 33 vwc2 z.length (z.flatMap ic)) := by have := g1wc2; rw [Nat.zero_add, List.nil_append] at this; exact this
        clear g1wc2 g2wc2 g3wc2
        refine hK.out _ _ ⟨(HFwc2.out.blk HXU5.out (fun h => h)), trivial⟩ ?_
        clear hK K
        simp only [Act.put, List.setIfInBounds_toArray, List.set_cons_zero, List.set_cons_succ, Reg.Kept]
        refine Reg.G.step (j := 5) (m := [false]) [4] rfl (by kernel_rfl) rfl (by kernel_rfl) (fun K hK => ?_)
        rw [if_pos (by rfl)]
        refine wp_builtS 24 1 _ rfl #[(0, .agg (ic q).toArray)] (by go_simp) _ _ (HBS.out _) ?_
        obtain ⟨wb3, hwb3⟩ : ∃ v, (wc2).alloc (.cells (ic q).toArray 55) = v := ⟨_, rfl⟩
        rw [hwb3]
        have HFwb3 : Hid (Fr (fun _ => False) u5 wb3) := by rw [← hwb3]; exact HFwc2.out.alloc _
        have HNwb3 : Hid (wb3.heap[(wc2).heap.size]? = some (.cells (ic q).toArray 55 (0, 0))) := by rw [← hwb3]; exact blk_newn rfl
        have HOwb3 : Hid (wb3.ownsRow B 55 33 vwc2 z.length (z.flatMap ic)) := by rw [← hwb3]; exact HOwc2.out.alloc _
        clear hwb3
        refine hK.out _ _ trivial ?_
        clear hK K
        simp only [Act.put, List.setIfInBounds_toArray, List.set_cons_zero, List.set_cons_succ, Reg.Kept]
        refine Reg.G.step (j := 6) (m := []) [] rfl (by kernel_rfl) rfl (by kernel_rfl) (fun K hK => ?_)
        rw [if_pos (by rfl)]
        refine wp_append_row (.tmp 39) (.tmp 41) 24 rfl B 55 i0 z0 33 368 Tryd.underlying24 hi hz0 hz1 hz2 hzz (by decide) vwc2 z.length (z.flatMap ic) (by rfl) HOwb3.out (.slice (some ⟨(wc2).heap.size, 0, none⟩) 1 1) (by rfl) ic [q] (row_one HNwb3.out) (fun _ _ => rfl) HONQ.out (by have := H7.out; simp only [maxLen, List.length_cons, List.length_nil]; omega) (by have := H7.out; simp only [List.length_cons, List.length_nil]; omega) (by rw [← HB.out]; exact HFwb3.out.size) ?_
        intro vwd4 wd4 g1wd4 g2wd4 g3wd4
        have HFwd4 : Hid (Fr (fun _ => False) u5 wd4) := HFwb3.out.grown g2wd4 (fun k hk => .inr (by have := (own_lt HOwb3.out k hk).1; rw [HB.out]; exact this))
        obtain ⟨g, cap, hvwd4, hgB, _⟩ := g1wd4.form (by simp)
        subst hvwd4
        have HR42 : Hid (Row wd4 (.slice (some ⟨g, 0, none⟩) (z.length + 1) cap) 33 ((z ++ [q]).map ic)) := Row.of_own (by rw [List.flatMap_append, List.length_append]; exact g1wd4) (fun _ _ => rfl)
        have HGB : Hid (B ≤ g) := hgB
        change K (Act.put _ _ (.slice (some ⟨g, 0, none⟩) (z.length + 1) cap)) _
        clear g1wd4 g2wd4 g3wd4 hgB
        refine hK.out _ _ trivial ?_
        clear hK K
        simp only [Act.put, List.setIfInBounds_toArray, List.set_cons_zero, List.set_cons_succ, Reg.Kept]
        refine' Reg.G.pure (i := 7) (v := _) rfl (by rfl) (by kernel_rfl) (by kernel_rfl) (by kernel_rfl) (fun _ _ _ h => h) ?hy5 ?rehy5
        case hy5 => exact fun w => by first | (go_simp; done) | (go_simp; with_reducible rfl)
        simp only [Act.put, List.setIfInBounds_toArray, List.set_cons_zero, List.set_cons_succ]
        refine Reg.G.step (j := 8) (m := []) [] rfl (by kernel_rfl) rfl (by kernel_rfl) (fun K hK => ?_)
        have hmb := HFwd4.out.blk HMB5.out (fun h => h)
        have k5 : wd4.cell? ⟨u3.heap.size, 5, none⟩ = some (.slice Ai z.length ci) := cell_of_blk hmb 5
        have f5 : wd4.frozen? ⟨u3.heap.size, 5, none⟩ = false := froz_of_blk hmb 5
        have HMBL := Lib.hid hmb
        clear hmb
        go_simp
        refine hK.out _ _ trivial ?_
        clear hK K k5 f5
        simp only [Act.put, List.setIfInBounds_toArray, List.set_cons_zero, List.set_cons_succ, Reg.Kept]
        refine Reg.G.done (by kernel_rfl) ?_
        go_wp2_with fail
        go_meet
        refine ⟨g, cap, ?_, ?_, ?_⟩
        · exact Row.frg HR42.out (S := fun k => k = u3.heap.size) ((Fr.refl (fun k => k = u3.heap.size) _).setCell (p := ⟨u3.heap.size, 5, none⟩) (.inl rfl) _) (fun e => by have h1 := HGB.out; have h2 := HS5.out; have h3 := HB.out; omega)
        · exact (blk_set HMBL.out 5 _).trans rfl
        · exact (HFwd4.out.mono (fun _ _ h => h.elim) : Fr (fun k => k = u3.heap.size) u5 _).setCell (p := ⟨u3.heap.size, 5, none⟩) (.inl rfl) _
      · rw [if_pos (by rfl)]
        refine wp_builtS 24 1 _ rfl #[(0, .agg (ic q).toArray)] (by go_simp) _ _ (HBS.out _) ?_
        obtain ⟨wb6, hwb6⟩ : ∃ v, (wa1).alloc (.cells (ic q).toArray 55) = v := ⟨_, rfl⟩
        rw [hwb6]
        have HFwb6 : Hid (Fr (fun _ => False) u5 wb6) := by rw [← hwb6]; exact HFwa1.out.alloc _
        have HNwb6 : Hid (wb6.heap[(wa1).heap.size]? = some (.cells (ic q).toArray 55 (0, 0))) := by rw [← hwb6]; exact blk_newn rfl
        have HOwb6 : Hid (wb6.ownsRow B 55 33 (.slice (some ⟨(u5.drew).heap.size, 0, none⟩) 0 0) 0 []) := by rw [← hwb6]; exact HOwa1.out.alloc _
        have HDwb6 : Hid ((wa1).heap.size ≠ (u5.drew).heap.size) := by have := (own_lt HOwa1.out ((u5.drew).heap.size) rfl).2; intro e; omega
        clear hwb6
        refine hK.out _ _ ⟨cell_of_blk (HFwb6.out.blk HSU5.out (fun h => h)) 5, trivial⟩ ?_
        clear hK K
        simp only [Act.put, List.setIfInBounds_toArray, List.set_cons_zero, List.set_cons_succ, Reg.Kept]
        refine Reg.G.step (j := 3) (m := [false]) [2] rfl (by kernel_rfl) rfl (by kernel_rfl) (fun K hK => ?_)
        rw [if_pos (by rfl)]
        refine wp_append_row (.tmp 36) (.tmp 38) 24 rfl B 55 i0 z0 33 368 Tryd.underlying24 hi hz0 hz1 hz2 hzz (by decide) (.slice (some ⟨(u5.drew).heap.size, 0, none⟩) 0 0) 0 [] (by rfl) HOwb6.out (.slice Ai z.length ci) (by rfl) ic z (HZ.out.below (HBW5.out.trans (HFwb6.out.below HBW5.out.size (fun _ h => h.elim)))).row (fun _ _ => rfl) HONZ.out (by have := H7.out; simp only [maxLen]; omega) (by have := H7.out; omega) (by rw [← HB.out]; exact HFwb6.out.size) ?_
        intro vwc7 wc7 g1wc7 g2wc7 g3wc7
        have HFwc7 : Hid (Fr (fun _ => False) u5 wc7) := HFwb6.out.grown g2wc7 (fun k hk => .inr (by have := (own_lt HOwb6.out k hk).1; rw [HB.out]; exact this))
        have HOwc7 : Hid (wc7.ownsRow B 55 33 vwc7 z.length (z.flatMap ic)) := by have := g1wc7; rw [Nat.zero_add, List.nil_append] at this; exact this
        have HNwc7 : Hid (wc7.heap[(wa1).heap.size]? = some (.cells (ic q).toArray 55 (0, 0))) := (Fr.of_grown g2wc7).blk HNwb6.out (fun h => HDwb6.out (by injection h with h; exact h.symm))
        clear g1wc7 g2wc7 g3wc7
        refine hK.out _ _ trivial ?_
        clear hK K
        simp only [Act.put, List.setIfInBounds_toArray, List.set_cons_zero, List.set_cons_succ, Reg.Kept]
        refine Reg.G.step (j := 6) (m := []) [] rfl (by kernel_rfl) rfl (by kernel_rfl) (fun K hK => ?_)
        rw [if_pos (by rfl)]
        refine wp_append_row (.tmp 39) (.tmp 41) 24 rfl B 55 i0 z0 33 368 Tryd.underlying24 hi hz0 hz1 hz2 hzz (by decide) vwc7 z.length (z.flatMap ic) (by rfl) HOwc7.out (.slice (some ⟨(wa1).heap.size, 0, none⟩) 1 1) (by rfl) ic [q] (row_one HNwc7.out) (fun _ _ => rfl) HONQ.out (by have := H7.out; simp only [maxLen, List.length_cons, List.length_nil]; omega) (by have := H7.out; simp only [List.length_cons, List.length_nil]; omega) (by rw [← HB.out]; exact HFwc7.out.size) ?_
        intro vwd8 wd8 g1wd8 g2wd8 g3wd8
        have HFwd8 : Hid (Fr (fun _ => False) u5 wd8) := HFwc7.out.grown g2wd8 (fun k hk => .inr (by have := (own_lt HOwc7.out k hk).1; rw [HB.out]; exact this))
        obtain ⟨g, cap, hvwd8, hgB, _⟩ := g1wd8.form (by simp)
        subst hvwd8
        have HR42 : Hid (Row wd8 (.slice (some ⟨g, 0, none⟩) (z.length + 1) cap) 33 ((z ++ [q]).map ic)) := Row.of_own (by rw [List.flatMap_append, List.length_append]; exact g1wd8) (fun _ _ => rfl)
        have HGB : Hid (B ≤ g) := hgB
        change K (Act.put _ _ (.slice (some ⟨g, 0, none⟩) (z.length + 1) cap)) _
        clear g1wd8 g2wd8 g3wd8 hgB
        refine hK.out _ _ trivial ?_
        clear hK K
        simp only [Act.put, List.setIfInBounds_toArray, List.set_cons_zero, List.set_cons_succ, Reg.Kept]
        refine' Reg.G.pure (i := 7) (v := _) rfl (by rfl) (by kernel_rfl) (by kernel_rfl) (by kernel_rfl) (fun _ _ _ h => h) ?hy9 ?rehy9
        case hy9 => exact fun w => by first | (go_simp; done) | (go_simp; with_reducible rfl)
        simp only [Act.put, List.setIfInBounds_toArray, List.set_cons_zero, List.set_cons_succ]
        refine Reg.G.step (j := 8) (m := []) [] rfl (by kernel_rfl) rfl (by kernel_rfl) (fun K hK => ?_)
        have hmb := HFwd8.out.blk HMB5.out (fun h => h)
        have k5 : wd8.cell? ⟨u3.heap.size, 5, none⟩ = some (.slice Ai z.length ci) := cell_of_blk hmb 5
        have f5 : wd8.frozen? ⟨u3.heap.size, 5, none⟩ = false := froz_of_blk hmb 5
        have HMBL := Lib.hid hmb
        clear hmb
        go_simp
        refine hK.out _ _ trivial ?_
        clear hK K k5 f5
        simp only [Act.put, List.setIfInBounds_toArray, List.set_cons_zero, List.set_cons_succ, Reg.Kept]
        refine Reg.G.done (by kernel_rfl) ?_
        go_wp2_with fail
        go_meet
        refine ⟨g, cap, ?_, ?_, ?_⟩
        · exact Row.frg HR42.out (S := fun k => k = u3.heap.size) ((Fr.refl (fun k => k = u3.heap.size) _).setCell (p := ⟨u3.heap.size, 5, none⟩) (.inl rfl) _) (fun e => by have h1 := HGB.out; have h2 := HS5.out; have h3 := HB.out; omega)
        · exact (blk_set HMBL.out 5 _).trans rfl
        · exact (HFwd8.out.mono (fun _ _ h => h.elim) : Fr (fun k => k = u3.heap.size) u5 _).setCell (p := ⟨u3.heap.size, 5, none⟩) (.inl rfl) _
    · rw [if_pos (by rfl)]
      refine wp_builtS 24 1 _ rfl #[(0, .agg (ic q).toArray)] (by go_simp) _ _ (HBS.out _) ?_
      obtain ⟨wb10, hwb10⟩ : ∃ v, (u5.drew).alloc (.cells (ic q).toArray 55) = v := ⟨_, rfl⟩
      rw [hwb10]
      have HFwb10 : Hid (Fr (fun _ => False) u5 wb10) := by rw [← hwb10]; exact HFD.out.alloc _
      have HNwb10 : Hid (wb10.heap[(u5.drew).heap.size]? = some (.cells (ic q).toArray 55 (0, 0))) := by rw [← hwb10]; exact blk_newn rfl
      clear hwb10
      refine hK.out _ _ ⟨cell_of_blk (HFwb10.out.blk HSU5.out (fun h => h)) 5, trivial⟩ ?_
      clear hK K
      simp only [Act.put, List.setIfInBounds_toArray, List.set_cons_zero, List.set_cons_succ, Reg.Kept]
      refine Reg.G.step (j := 0) (m := [true]) [2] rfl (by kernel_rfl) rfl (by kernel_rfl) (fun K hK => ?_)
      rw [if_pos (by rfl)]
      refine wp_builtS 24 0 _ rfl #[] (by go_simp) _ _ (bslice0 _) ?_
      obtain ⟨wa11, hwa11⟩ : ∃ v, (wb10).alloc (.cells #[] 55) = v := ⟨_, rfl⟩
      rw [hwa11]
      have HFwa11 : Hid (Fr (fun _ => False) u5 wa11) := by rw [← hwa11]; exact HFwb10.out.alloc _
      have HOwa11 : Hid (wa11.ownsRow B 55 33 (.slice (some ⟨(wb10).heap.size, 0, none⟩) 0 0) 0 []) := by rw [← hwa11]; exact World.ownsRow_made (wb10) #[] 0 (by rw [← HB.out]; exact HFwb10.out.size) (by decide) (by simp)
      have HNwa11 : Hid (wa11.heap[(u5.drew).heap.size]? = some (.cells (ic q).toArray 55 (0, 0))) := by rw [← hwa11]; exact blk_alloc HNwb10.out _
      have HDwa11 : Hid ((u5.drew).heap.size ≠ (wb10).heap.size) := by have := lt_of_blk HNwb10.out; intro e; omega
      clear hwa11
      refine hK.out _ _ ⟨cell_of_blk (HFwa11.out.blk HSU5.out (fun h => h)) 5, trivial⟩ ?_
      clear hK K
      simp only [Act.put, List.setIfInBounds_toArray, List.set_cons_zero, List.set_cons_succ, Reg.Kept]
      refine Reg.G.step (j := 3) (m := [false]) [2] rfl (by kernel_rfl) rfl (by kernel_rfl) (fun K hK => ?_)
      rw [if_pos (by rfl)]
      refine wp_append_row (.tmp 36) (.tmp 38) 24 rfl B 55 i0 z0 33 368 Tryd.underlying24 hi hz0 hz1 hz2 hzz (by decide) (.slice (some ⟨(wb10).heap.size, 0, none⟩) 0 0) 0 [] (by rfl) HOwa11.out (.slice Ai z.length ci) (by rfl) ic z (HZ.out.below (HBW5.out.trans (HFwa11.out.below HBW5.out.size (fun _ h => h.elim)))).row (fun _ _ => rfl) HONZ.out (by have := H7.out; simp only [maxLen]; omega) (by have := H7.out; omega) (by rw [← HB.out]; exact HFwa11.out.size) ?_
      intro vwc12 wc12 g1wc12 g2wc12 g3wc12
      have HFwc12 : Hid (Fr (fun _ => False) u5 wc12) := HFwa11.out.grown g2wc12 (fun k hk => .inr (by have := (own_lt HOwa11.out k hk).1; rw [HB.out]; exact this))
      have HOwc12 : Hid (wc12.ownsRow B 55 33 vwc12 z.length (z.flatMap ic)) := by have := g1wc12; rw [Nat.zero_add, List.nil_append] at this; exact this
      have HNwc12 : Hid (wc12.heap[(u5.drew).heap.size]? = some (.cells (ic q).toArray 55 (0, 0))) := (Fr.of_grown g2wc12).blk HNwa11.out (fun h => HDwa11.out (by injection h with h; exact h.symm))
      clear g1wc12 g2wc12 g3wc12
      refine hK.out _ _ trivial ?_
      clear hK K
      simp only [Act.put, List.setIfInBounds_toArray, List.set_cons_zero, List.set_cons_succ, Reg.Kept]
      refine Reg.G.step (j := 6) (m := []) [] rfl (by kernel_rfl) rfl (by kernel_rfl) (fun K hK => ?_)
      rw [if_pos (by rfl)]
      refine wp_append_row (.tmp 39) (.tmp 41) 24 rfl B 55 i0 z0 33 368 Tryd.underlying24 hi hz0 hz1 hz2 hzz (by decide) vwc12 z.length (z.flatMap ic) (by rfl) HOwc12.out (.slice (some ⟨(u5.drew).heap.size, 0, none⟩) 1 1) (by rfl) ic [q] (row_one HNwc12.out) (fun _ _ => rfl) HONQ.out (by have := H7.out; simp only [maxLen, List.length_cons, List.length_nil]; omega) (by have := H7.out; simp only [List.length_cons, List.length_nil]; omega) (by rw [← HB.out]; exact HFwc12.out.size) ?_
      intro vwd13 wd13 g1wd13 g2wd13 g3wd13
      have HFwd13 : Hid (Fr (fun _ => False) u5 wd13) := HFwc12.out.grown g2wd13 (fun k hk => .inr (by have := (own_lt HOwc12.out k hk).1; rw [HB.out]; exact this))
      obtain ⟨g, cap, hvwd13, hgB, _⟩ := g1wd13.form (by simp)
      subst hvwd13
      have HR42 : Hid (Row wd13 (.slice (some ⟨g, 0, none⟩) (z.length + 1) cap) 33 ((z ++ [q]).map ic)) := Row.of_own (by rw [List.flatMap_append, List.length_append]; exact g1wd13) (fun _ _ => rfl)
      have HGB : Hid (B ≤ g) := hgB
      change K (Act.put _ _ (.slice (some ⟨g, 0, none⟩) (z.length + 1) cap)) _
      clear g1wd13 g2wd13 g3wd13 hgB
      refine hK.out _ _ trivial ?_
      clear hK K
      simp only [Act.put, List.setIfInBounds_toArray, List.set_cons_zero, List.set_cons_succ, Reg.Kept]
      refine' Reg.G.pure (i := 7) (v := _) rfl (by rfl) (by kernel_rfl) (by kernel_rfl) (by kernel_rfl) (fun _ _ _ h => h) ?hy14 ?rehy14
      case hy14 => exact fun w => by first | (go_simp; done) | (go_simp; with_reducible rfl)
      simp only [Act.put, List.setIfInBounds_toArray, List.set_cons_zero, List.set_cons_succ]
      refine Reg.G.step (j := 8) (m := []) [] rfl (by kernel_rfl) rfl (by kernel_rfl) (fun K hK => ?_)
      have hmb := HFwd13.out.blk HMB5.out (fun h => h)
      have k5 : wd13.cell? ⟨u3.heap.size, 5, none⟩ = some (.slice Ai z.length ci) := cell_of_blk hmb 5
      have f5 : wd13.frozen? ⟨u3.heap.size, 5, none⟩ = false := froz_of_blk hmb 5
      have HMBL := Lib.hid hmb
      clear hmb
      go_simp
      refine hK.out _ _ trivial ?_
      clear hK K k5 f5
      simp only [Act.put, List.setIfInBounds_toArray, List.set_cons_zero, List.set_cons_succ, Reg.Kept]
      refine Reg.G.done (by kernel_rfl) ?_
      go_wp2_with fail
      go_meet
      refine ⟨g, cap, ?_, ?_, ?_⟩
      · exact Row.frg HR42.out (S := fun k => k = u3.heap.size) ((Fr.refl (fun k => k = u3.heap.size) _).setCell (p := ⟨u3.heap.size, 5, none⟩) (.inl rfl) _) (fun e => by have h1 := HGB.out; have h2 := HS5.out; have h3 := HB.out; omega)
      · exact (blk_set HMBL.out 5 _).trans rfl
      · exact (HFwd13.out.mono (fun _ _ h => h.elim) : Fr (fun k => k = u3.heap.size) u5 _).setCell (p := ⟨u3.heap.size, 5, none⟩) (.inl rfl) _
  case rest =>
    obtain ⟨g, cap, HROW, HMB, HFC⟩ := hcut
    clear hi hz0 hz1 hz2 hzi hzz
    have HQ6 := Lib.hid (HFC.out.blk HQ5.out (fun e => by have := HS3.out; omega))
    have HX6 := Lib.hid (HFC.out.blk HXU5.out (fun e => by have := HWS3.out; have := HS3.out; omega))
    have HB36 : Hid (Below w3.heap.size w3 wc) := HB35.out.trans (HFC.out.below HB35.out.size (fun k h => by have := HS3.out; omega))
    have HBW6 : Hid (Below W.heap.size W wc) := HBA3.out.trans (HB36.out.mono HBA3.out.size)
    have HLI : Hid (Lies wc (z ++ [q]) (.slice (some ⟨g, 0, none⟩) (z.length + 1) cap)) := ⟨HROW.out, fun y hy => by
      rcases List.mem_append.1 hy with hy | hy
      · exact ⟨(HZ.out.flat y hy).1.below HBW6.out, (HZ.out.flat y hy).2⟩
      · obtain rfl : y = q := by simpa using hy
        rw [← HQ.out]; exact ⟨HF.out.below HBW6.out, ⟨_, _, _, rfl⟩⟩⟩
    have HRE2 := Lib.hid (resolve_any (⟨s.name, s.frm, s.days, s.items ++ [x]⟩ : Rs.Source) _ (z ++ [q]) wc HLI.out (by rw [List.map_append, HZS.out, ← HQ.out]; rfl) (by rw [List.length_append]; have := H7.out; simp only [List.length_cons, List.length_nil]; omega) (fun y hy => by
      rcases List.mem_append.1 hy with hy | hy
      · exact ⟨HOK.out.items y hy, by have := (HALL.out y hy).conds; omega⟩
      · obtain rfl : y = x := by simpa using hy
        exact ⟨HP.out, by have := HX1.out; omega⟩) (HBF.out.below HBW6.out))
    have s0 : wc.cell? ⟨u3.heap.size, 0, none⟩ = some (.string ⟨s.name.toArray⟩) := (cell_of_blk HMB.out 0).trans rfl
    have s1 : wc.cell? ⟨u3.heap.size, 1, none⟩ = some (.int .i64 s.frm.y) := (cell_of_blk HMB.out 1).trans rfl
    have s2 : wc.cell? ⟨u3.heap.size, 2, none⟩ = some (.int .i64 s.frm.m) := (cell_of_blk HMB.out 2).trans rfl
    have s3 : wc.cell? ⟨u3.heap.size, 3, none⟩ = some (.int .i64 s.frm.d) := (cell_of_blk HMB.out 3).trans rfl
    have s4 : wc.cell? ⟨u3.heap.size, 4, none⟩ = some (.int .i64 s.days) := (cell_of_blk HMB.out 4).trans rfl
    have s5 : wc.cell? ⟨u3.heap.size, 5, none⟩ = some (.slice (some ⟨g, 0, none⟩) (z.length + 1) cap) := (cell_of_blk HMB.out 5).trans rfl
    go_wp2_with fail
    refine HRE2.out.mono ?_
    rintro e w7 ⟨v7, rfl, hro, hb7⟩
    obtain ⟨A2, hA2⟩ : ∃ A2, answer (⟨s.name, s.frm, s.days, s.items ++ [x]⟩ : Rs.Source) = A2 := ⟨_, rfl⟩
    rw [ResOut, hA2] at hro
    obtain ⟨sb, yb, fb⟩ := A2
    obtain ⟨Hb, clb, gv, rfl, hsy, hft, _⟩ := hro
    dsimp only at hsy hft
    have HONE2 : Hid ((symc sb yb.weekend Hb).toArray.all (·.oneCell') = true) := one_symc sb yb.weekend Hb hsy.hol.form hsy.par.form hsy.rol.form hsy.uni.form hsy.act.form hsy.cla.form
    obtain ⟨Ag, cg, hge, _, _⟩ := hft.slice
    rw [List.length_map] at hge
    have HSYB := Lib.hid hsy; have HA2 := Lib.hid hA2
    have HQ7 := Lib.hid ((hb7.block _ (lt_of_blk HQ6.out)).trans HQ6.out)
    have HX7 := Lib.hid ((hb7.block _ (lt_of_blk HX6.out)).trans HX6.out)
    have HB37 : Hid (Below w3.heap.size w3 w7) := HB36.out.trans (hb7.mono HB36.out.size)
    clear hb7 hsy hft hA2 s0 s1 s2 s3 s4 s5 HRE2 HLI HROW HMB HFC HQ6 HX6 HB36 HBW6
    subst hge
    dsimp only
    iterate 13 go_step
    refine wpList_store_row rfl 39 _ _ rfl w7.heap.size (symc sb yb.weekend Hb).toArray rfl rfl 39 _ (blk_newn rfl) (info_symc _ _ _) rfl HONE2.out ?_
    simp only [Act.put, List.setIfInBounds_toArray, List.set_cons_zero, List.set_cons_succ]
    rw [World.setRow_alloc_new]
    obtain ⟨u7, hu7⟩ : ∃ u7, w7.alloc (.cells (symc sb yb.weekend Hb).toArray 39) = u7 := ⟨_, rfl⟩
    rw [hu7]
    have HP8 : Hid (u7.heap[w7.heap.size]? = some (.cells (symc sb yb.weekend Hb).toArray 39 (0, 0))) := by rw [← hu7]; exact blk_newn rfl
    have HQ8 := Lib.hid (show u7.heap[w3.heap.size]? = some (.cells (symc sa ya.weekend Ha).toArray 39 (0, 0)) by rw [← hu7]; exact blk_alloc HQ7.out _)
    have HX8 := Lib.hid (show u7.heap[W.heap.size + 1]? = some (.cells (ic q).toArray 55 (0, 0)) by rw [← hu7]; exact blk_alloc HX7.out _)
    have HB38 : Hid (Below w3.heap.size w3 u7) := by rw [← hu7]; exact HB37.out.alloc HB37.out.size _
    have HB78 : Hid (Below w7.heap.size w7 u7) := by rw [← hu7]; exact (Below.refl _ w7).alloc (Nat.le_refl _) _
    have HBW8 : Hid (Below W.heap.size W u7) := HBA3.out.trans (HB38.out.mono HBA3.out.size)
    clear hu7 HONE2 HQ7 HX7 HB37
    rcases fa with _ | ⟨fa0, fal⟩
    case cons =>
      simp only [List.length_cons]
      go_wp2_with fail
      go_ret
      exact ⟨rfl, HBW8.out⟩
    simp only [List.length_nil]
    rcases fb with _ | ⟨fb0, fbl⟩
    case cons =>
      simp only [List.length_cons]
      go_wp2_with fail
      go_ret
      exact ⟨rfl, HBW8.out⟩
    simp only [List.length_nil]
    obtain ⟨f1, f2, f3⟩ := answer_fine HA1.out
    obtain ⟨f4, f5, f6⟩ := answer_fine HA2.out
    obtain ⟨hpre, htot⟩ := run_appends s.items x f1 f4
    have ht1 : total (Rs.run s.items).1 ≤ 700 := by have h := run_total s.items; have h2 := H7.out; have h3 := congrArg List.length HZS.out; rw [List.length_map] at h3; omega
    have e1 : total ya = total (Rs.run s.items).1 := by rw [f3]; rfl
    have e2 : total yb = total (Rs.run s.items).1 + if group x.kind = 0 then 0 else 1 := by rw [f6]; exact htot
    have HBEG : Hid (Begins yb ya) := by rw [f3, f6]; exact ⟨hpre.1, hpre.2.1, hpre.2.2.1, hpre.2.2.2.1, hpre.2.2.2.2⟩
    have HTA : Hid (total ya ≤ 1000000) := by show _ ≤ _; omega
    have HTB : Hid (total yb ≤ 1000000) := by show _ ≤ _; rw [e2]; split <;> omega
    obtain ⟨m, hm0, hm1, hma, hmb⟩ : ∃ m : Int, 0 ≤ m ∧ m ≤ 1000000 ∧ ((total ya : Nat) : Int) = m ∧ ((total yb : Nat) : Int) = m + if group x.kind = 0 then 0 else 1 := ⟨((total ya : Nat) : Int), by omega, by omega, rfl, by rw [e2, e1]; split <;> omega⟩
    clear f1 f2 f3 f4 f5 f6 hpre htot ht1 e1 e2
    have HEA := Lib.hid hma; clear hma
    have HGR := Lib.hid (Group_any q u7)
    go_upto_region 12 with fail
    iterate 1 go_step
    refine wpList_load_mid rfl 55 _ rfl (W.heap.size + 1) 0 rfl (ic q) _ (range_of_blk HX8.out) Tryd.underlying55 rfl info_item ?_
    simp only [Act.put, List.setIfInBounds_toArray, List.set_cons_zero, List.set_cons_succ]
    go_wp2_with fail
    refine HGR.out.mono ?_
    rintro e w8 ⟨rfl, hb8⟩
    have hqk : q.1.kind = x.kind := by rw [← HQ.out]
    rw [hqk]
    have HB9 : Hid (Below u7.heap.size u7 w8.drew) := below_drewN hb8 1
    have HP9 := Lib.hid (show w8.drew.heap[w7.heap.size]? = some (.cells (symc sb yb.weekend Hb).toArray 39 (0, 0)) from (hb8.block _ (lt_of_blk HP8.out)).trans HP8.out)
    have HQ9 := Lib.hid (show w8.drew.heap[w3.heap.size]? = some (.cells (symc sa ya.weekend Ha).toArray 39 (0, 0)) from (hb8.block _ (lt_of_blk HQ8.out)).trans HQ8.out)
    have HBG := Lib.hid (begins_true sb sa yb.weekend ya.weekend yb ya Hb Ha clb cla w8.drew (HSYB.out.below (HB78.out.trans (HB9.out.mono HB78.out.size))) (HSYA.out.below (HB38.out.trans (HB9.out.mono HB38.out.size))) HBEG.out)
    clear hb8 hqk HGR HX8 HP8 HQ8
    rcases Nat.eq_zero_or_pos (group x.kind) with hg | hg
    · rw [if_pos hg, Int.add_zero] at hmb
      have HEB := Lib.hid hmb; clear hmb
      rw [hg]
      clear hg
      go_upto_region 14 with fail
      refine Reg.G.start (by kernel_rfl) ?_
      refine' Reg.G.pure (i := 0) (v := _) rfl (by rfl) (by kernel_rfl) (by kernel_rfl) (by kernel_rfl) (fun _ _ _ h => h) ?hyr140_0 ?rer140_0
      case hyr140_0 => exact fun w => by first | (go_simp; done) | (go_simp; with_reducible rfl)
      simp only [Act.put, List.setIfInBounds_toArray, List.set_cons_zero, List.set_cons_succ]
      refine' Reg.G.pure (i := 1) (v := _) rfl (by rfl) (by kernel_rfl) (by kernel_rfl) (by kernel_rfl) (fun _ _ _ h => h) ?hyr140_1 ?rer140_1
      case hyr140_1 => exact fun w => by first | (go_simp; done) | (go_simp; with_reducible rfl)
      simp only [Act.put, List.setIfInBounds_toArray, List.set_cons_zero, List.set_cons_succ]
      refine' Reg.G.take (i := 2) (v := _) (F := (fun w => w.heap[w7.heap.size]? = some (.cells (symc sb yb.weekend Hb).toArray 39 (0, 0)))) rfl (by rfl) (by kernel_rfl) (by kernel_rfl) (by kernel_rfl) (fun _ _ _ h => h) (HP9.out) ?hyr140_2 ?rer140_2
      case hyr140_2 => intro w hw; refine run_load_row (P := Tryd.prog) 39 (.tmp 9) ?_ w7.heap.size ?_ 39 (symc sb yb.weekend Hb).toArray _ hw Tryd.underlying39 rfl (info_symc _ _ _) <;> rfl
      simp only [Act.put, List.setIfInBounds_toArray, List.set_cons_zero, List.set_cons_succ]
      refine' Reg.G.take (i := 3) (v := _) (F := (fun w => w.heap[w3.heap.size]? = some (.cells (symc sa ya.weekend Ha).toArray 39 (0, 0)))) rfl (by rfl) (by kernel_rfl) (by kernel_rfl) (by kernel_rfl) (fun _ _ _ h => h) (HQ9.out) ?hyr140_3 ?rer140_3
      case hyr140_3 => intro w hw; refine run_load_row (P := Tryd.prog) 39 (.tmp 6) ?_ w3.heap.size ?_ 39 (symc sa ya.weekend Ha).toArray _ hw Tryd.underlying39 rfl (info_symc _ _ _) <;> rfl
      simp only [Act.put, List.setIfInBounds_toArray, List.set_cons_zero, List.set_cons_succ]
      refine Reg.G.step (j := 4) (m := [false, false]) [3, 2] rfl (by kernel_rfl) rfl (by kernel_rfl) (fun K hK => ?_)
      -- Op.call { callee := Callee.value (func 24), args := #[t63, t64], argTypes := #[39, 39] }
      rw [if_pos (by rfl)]
      go_simp
      refine HBG.out.mono ?_
      rintro e wg ⟨rfl, hbg⟩
      have HP10 := Lib.hid ((hbg.block _ (lt_of_blk HP9.out)).trans HP9.out)
      have HQ10 := Lib.hid ((hbg.block _ (lt_of_blk HQ9.out)).trans HQ9.out)
      have HB10 : Hid (Below u7.heap.size u7 wg) := HB9.out.trans (hbg.mono HB9.out.size)
      have HSZB := Lib.hid (size_any sb yb Hb clb wg (HSYB.out.below (HB78.out.trans (HB10.out.mono HB78.out.size))) HTB.out)
      rw [HEB.out] at HSZB
      clear hbg HBG
      refine hK.out _ _ trivial ?_
      clear hK K
      simp only [Act.put, List.setIfInBounds_toArray, List.set_cons_zero, List.set_cons_succ, Reg.Kept]
      refine' Reg.G.pure (i := 5) (v := _) rfl (by rfl) (by kernel_rfl) (by kernel_rfl) (by kernel_rfl) (fun _ _ _ h => h) ?hyr140_5 ?rer140_5
      case hyr140_5 => exact fun w => by first | (go_simp; done) | (go_simp; with_reducible rfl)
      simp only [Act.put, List.setIfInBounds_toArray, List.set_cons_zero, List.set_cons_succ]
      refine' Reg.G.pure (i := 6) (v := _) rfl (by rfl) (by kernel_rfl) (by kernel_rfl) (by kernel_rfl) (fun _ _ _ h => h) ?hyr140_6 ?rer140_6
      case hyr140_6 => exact fun w => by first | (go_simp; done) | (go_simp; with_reducible rfl)
      simp only [Act.put, List.setIfInBounds_toArray, List.set_cons_zero, List.set_cons_succ]
      refine' Reg.G.pure (i := 7) (v := _) rfl (by rfl) (by kernel_rfl) (by kernel_rfl) (by kernel_rfl) (fun _ _ _ h => h) ?hyr140_7 ?rer140_7
      case hyr140_7 => exact fun w => by first | (go_simp; done) | (go_simp; with_reducible rfl)
      simp only [Act.put, List.setIfInBounds_toArray, List.set_cons_zero, List.set_cons_succ]
      refine' Reg.G.take (i := 8) (v := _) (F := (fun w => w.heap[w7.heap.size]? = some (.cells (symc sb yb.weekend Hb).toArray 39 (0, 0)))) rfl (by rfl) (by kernel_rfl) (by kernel_rfl) (by kernel_rfl) (fun _ _ _ h => h) (HP10.out) ?hyr140_8 ?rer140_8
      case hyr140_8 => intro w hw; refine run_load_row (P := Tryd.prog) 39 (.tmp 9) ?_ w7.heap.size ?_ 39 (symc sb yb.weekend Hb).toArray _ hw Tryd.underlying39 rfl (info_symc _ _ _) <;> rfl
      simp only [Act.put, List.setIfInBounds_toArray, List.set_cons_zero, List.set_cons_succ]
      refine' Reg.G.pure (i := 10) (v := _) rfl (by rfl) (by kernel_rfl) (by kernel_rfl) (by kernel_rfl) (fun _ _ _ h => h) ?hyr140_10 ?rer140_10
      case hyr140_10 => exact fun w => by first | (go_simp; done) | (go_simp; with_reducible rfl)
      simp only [Act.put, List.setIfInBounds_toArray, List.set_cons_zero, List.set_cons_succ]
      refine' Reg.G.take (i := 11) (v := _) (F := (fun w => w.heap[w3.heap.size]? = some (.cells (symc sa ya.weekend Ha).toArray 39 (0, 0)))) rfl (by rfl) (by kernel_rfl) (by kernel_rfl) (by kernel_rfl) (fun _ _ _ h => h) (HQ10.out) ?hyr140_11 ?rer140_11
      case hyr140_11 => intro w hw; refine run_load_row (P := Tryd.prog) 39 (.tmp 6) ?_ w3.heap.size ?_ 39 (symc sa ya.weekend Ha).toArray _ hw Tryd.underlying39 rfl (info_symc _ _ _) <;> rfl
      simp only [Act.put, List.setIfInBounds_toArray, List.set_cons_zero, List.set_cons_succ]
      refine' Reg.G.pure (i := 13) (v := _) rfl (by rfl) (by kernel_rfl) (by kernel_rfl) (by kernel_rfl) (fun _ _ _ h => h) ?hyr140_13 ?rer140_13
      case hyr140_13 => exact fun w => by first | (go_simp; done) | (go_simp; with_reducible rfl)
      simp only [Act.put, List.setIfInBounds_toArray, List.set_cons_zero, List.set_cons_succ]
      refine Reg.G.step (j := 9) (m := [true, false]) [11, 8] rfl (by kernel_rfl) rfl (by kernel_rfl) (fun K hK => ?_)
      -- Op.call { callee := Callee.value (t68), args := #[t69], argTypes := #[39] }
      rw [if_pos (by rfl)]
      go_simp
      refine HSZB.out.mono ?_
      rintro e wh ⟨rfl, hbh⟩
      have HQ11 := Lib.hid ((hbh.block _ (lt_of_blk HQ10.out)).trans HQ10.out)
      have HB11 : Hid (Below u7.heap.size u7 wh) := HB10.out.trans (hbh.mono HB10.out.size)
      have HSZA := Lib.hid (size_any sa ya Ha cla wh (HSYA.out.below (HB38.out.trans (HB11.out.mono HB38.out.size))) HTA.out)
      rw [HEA.out] at HSZA
      clear hbh HSZB
      refine hK.out _ _ ⟨HQ11.out, trivial⟩ ?_
      clear hK K
      simp only [Act.put, List.setIfInBounds_toArray, List.set_cons_zero, List.set_cons_succ, Reg.Kept]
      refine Reg.G.step (j := 12) (m := [false]) [11] rfl (by kernel_rfl) rfl (by kernel_rfl) (fun K hK => ?_)
      -- Op.call { callee := Callee.value (t71), args := #[t72], argTypes := #[39] }
      rw [if_pos (by rfl)]
      go_simp
      refine HSZA.out.mono ?_
      rintro e wk ⟨rfl, hbk⟩
      have HBE : Hid (Below W.heap.size W wk) := HBW8.out.trans ((HB11.out.trans (hbk.mono HB11.out.size)).mono HBW8.out.size)
      clear hbk HSZA
      refine hK.out _ _ trivial ?_
      clear hK K
      simp only [Act.put, List.setIfInBounds_toArray, List.set_cons_zero, List.set_cons_succ, Reg.Kept]
      refine' Reg.G.pure (i := 14) (v := _) rfl (by rfl) (by kernel_rfl) (by kernel_rfl) (by kernel_rfl) (fun _ _ _ h => h) ?hyr140_14 ?rer140_14
      case hyr140_14 => exact fun w => by first | (go_simp; done) | (go_simp; with_reducible rfl)
      simp only [Act.put, List.setIfInBounds_toArray, List.set_cons_zero, List.set_cons_succ]
      refine' Reg.G.pure (i := 15) (v := _) rfl (by rfl) (by kernel_rfl) (by kernel_rfl) (by kernel_rfl) (fun _ _ _ h => h) ?hyr140_15 ?rer140_15
      case hyr140_15 => exact fun w => by first | (go_simp; done) | (go_simp; with_reducible rfl)
      simp only [Act.put, List.setIfInBounds_toArray, List.set_cons_zero, List.set_cons_succ]
      refine' Reg.G.pure (i := 16) (v := _) rfl (by rfl) (by kernel_rfl) (by kernel_rfl) (by kernel_rfl) (fun _ _ _ h => h) ?hyr140_16 ?rer140_16
      case hyr140_16 => exact fun w => by first | (go_simp; done) | (go_simp; with_reducible rfl)
      simp only [Act.put, List.setIfInBounds_toArray, List.set_cons_zero, List.set_cons_succ]
      refine' Reg.G.pure (i := 17) (v := _) rfl (by rfl) (by kernel_rfl) (by kernel_rfl) (by kernel_rfl) (fun _ _ _ h => h) ?hyr140_17 ?rer140_17
      case hyr140_17 => exact fun w => by first | (go_simp; done) | (go_simp; with_reducible rfl)
      simp only [Act.put, List.setIfInBounds_toArray, List.set_cons_zero, List.set_cons_succ]
      refine Reg.G.done (by kernel_rfl) ?_
      go_wp2_with fail
      go_ret
      refine ⟨?_, HBE.out⟩
      have hw : IntKind.i64.wrap m = m := IntWalk.i64_in _ (by omega)
      show Ending.returned (.bool (m == IntKind.i64.wrap m)) = _
      rw [hw]
      simp
    · rw [if_neg (by omega)] at hmb
      have HEB := Lib.hid hmb; clear hmb
      generalize group x.kind = gk at *
      have hg1 : (0 : Int) < (gk : Int) := by omega
      go_upto_region 14 with fail
      refine Reg.G.start (by kernel_rfl) ?_
      refine' Reg.G.pure (i := 0) (v := _) rfl (by rfl) (by kernel_rfl) (by kernel_rfl) (by kernel_rfl) (fun _ _ _ h => h) ?hyr141_0 ?rer141_0
      case hyr141_0 => exact fun w => by first | (go_simp; done) | (go_simp; with_reducible rfl)
      simp only [Act.put, List.setIfInBounds_toArray, List.set_cons_zero, List.set_cons_succ]
      refine' Reg.G.pure (i := 1) (v := _) rfl (by rfl) (by kernel_rfl) (by kernel_rfl) (by kernel_rfl) (fun _ _ _ h => h) ?hyr141_1 ?rer141_1
      case hyr141_1 => exact fun w => by first | (go_simp; done) | (go_simp; with_reducible rfl)
      simp only [Act.put, List.setIfInBounds_toArray, List.set_cons_zero, List.set_cons_succ]
      refine' Reg.G.take (i := 2) (v := _) (F := (fun w => w.heap[w7.heap.size]? = some (.cells (symc sb yb.weekend Hb).toArray 39 (0, 0)))) rfl (by rfl) (by kernel_rfl) (by kernel_rfl) (by kernel_rfl) (fun _ _ _ h => h) (HP9.out) ?hyr141_2 ?rer141_2
      case hyr141_2 => intro w hw; refine run_load_row (P := Tryd.prog) 39 (.tmp 9) ?_ w7.heap.size ?_ 39 (symc sb yb.weekend Hb).toArray _ hw Tryd.underlying39 rfl (info_symc _ _ _) <;> rfl
      simp only [Act.put, List.setIfInBounds_toArray, List.set_cons_zero, List.set_cons_succ]
      refine' Reg.G.take (i := 3) (v := _) (F := (fun w => w.heap[w3.heap.size]? = some (.cells (symc sa ya.weekend Ha).toArray 39 (0, 0)))) rfl (by rfl) (by kernel_rfl) (by kernel_rfl) (by kernel_rfl) (fun _ _ _ h => h) (HQ9.out) ?hyr141_3 ?rer141_3
      case hyr141_3 => intro w hw; refine run_load_row (P := Tryd.prog) 39 (.tmp 6) ?_ w3.heap.size ?_ 39 (symc sa ya.weekend Ha).toArray _ hw Tryd.underlying39 rfl (info_symc _ _ _) <;> rfl
      simp only [Act.put, List.setIfInBounds_toArray, List.set_cons_zero, List.set_cons_succ]
      refine Reg.G.step (j := 4) (m := [false, false]) [3, 2] rfl (by kernel_rfl) rfl (by kernel_rfl) (fun K hK => ?_)
      -- Op.call { callee := Callee.value (func 24), args := #[t63, t64], argTypes := #[39, 39] }
      rw [if_pos (by rfl)]
      go_simp
      refine HBG.out.mono ?_
      rintro e wg ⟨rfl, hbg⟩
      have HP10 := Lib.hid ((hbg.block _ (lt_of_blk HP9.out)).trans HP9.out)
      have HQ10 := Lib.hid ((hbg.block _ (lt_of_blk HQ9.out)).trans HQ9.out)
      have HB10 : Hid (Below u7.heap.size u7 wg) := HB9.out.trans (hbg.mono HB9.out.size)
      have HSZB := Lib.hid (size_any sb yb Hb clb wg (HSYB.out.below (HB78.out.trans (HB10.out.mono HB78.out.size))) HTB.out)
      rw [HEB.out] at HSZB
      clear hbg HBG
      refine hK.out _ _ trivial ?_
      clear hK K
      simp only [Act.put, List.setIfInBounds_toArray, List.set_cons_zero, List.set_cons_succ, Reg.Kept]
      refine' Reg.G.pure (i := 5) (v := _) rfl (by rfl) (by kernel_rfl) (by kernel_rfl) (by kernel_rfl) (fun _ _ _ h => h) ?hyr141_5 ?rer141_5
      case hyr141_5 => exact fun w => by first | (go_simp; done) | (go_simp; with_reducible rfl)
      simp only [Act.put, List.setIfInBounds_toArray, List.set_cons_zero, List.set_cons_succ]
      refine' Reg.G.pure (i := 6) (v := _) rfl (by rfl) (by kernel_rfl) (by kernel_rfl) (by kernel_rfl) (fun _ _ _ h => h) ?hyr141_6 ?rer141_6
      case hyr141_6 => exact fun w => by first | (go_simp; done) | (go_simp; with_reducible rfl)
      simp only [Act.put, List.setIfInBounds_toArray, List.set_cons_zero, List.set_cons_succ]
      refine' Reg.G.pure (i := 7) (v := _) rfl (by rfl) (by kernel_rfl) (by kernel_rfl) (by kernel_rfl) (fun _ _ _ h => h) ?hyr141_7 ?rer141_7
      case hyr141_7 => exact fun w => by first | (go_simp; done) | (go_simp; with_reducible rfl)
      simp only [Act.put, List.setIfInBounds_toArray, List.set_cons_zero, List.set_cons_succ]
      refine' Reg.G.take (i := 8) (v := _) (F := (fun w => w.heap[w7.heap.size]? = some (.cells (symc sb yb.weekend Hb).toArray 39 (0, 0)))) rfl (by rfl) (by kernel_rfl) (by kernel_rfl) (by kernel_rfl) (fun _ _ _ h => h) (HP10.out) ?hyr141_8 ?rer141_8
      case hyr141_8 => intro w hw; refine run_load_row (P := Tryd.prog) 39 (.tmp 9) ?_ w7.heap.size ?_ 39 (symc sb yb.weekend Hb).toArray _ hw Tryd.underlying39 rfl (info_symc _ _ _) <;> rfl
      simp only [Act.put, List.setIfInBounds_toArray, List.set_cons_zero, List.set_cons_succ]
      refine' Reg.G.pure (i := 10) (v := _) rfl (by rfl) (by kernel_rfl) (by kernel_rfl) (by kernel_rfl) (fun _ _ _ h => h) ?hyr141_10 ?rer141_10
      case hyr141_10 => exact fun w => by first | (go_simp; done) | (go_simp; with_reducible rfl)
      simp only [Act.put, List.setIfInBounds_toArray, List.set_cons_zero, List.set_cons_succ]
      refine' Reg.G.take (i := 11) (v := _) (F := (fun w => w.heap[w3.heap.size]? = some (.cells (symc sa ya.weekend Ha).toArray 39 (0, 0)))) rfl (by rfl) (by kernel_rfl) (by kernel_rfl) (by kernel_rfl) (fun _ _ _ h => h) (HQ10.out) ?hyr141_11 ?rer141_11
      case hyr141_11 => intro w hw; refine run_load_row (P := Tryd.prog) 39 (.tmp 6) ?_ w3.heap.size ?_ 39 (symc sa ya.weekend Ha).toArray _ hw Tryd.underlying39 rfl (info_symc _ _ _) <;> rfl
      simp only [Act.put, List.setIfInBounds_toArray, List.set_cons_zero, List.set_cons_succ]
      refine' Reg.G.pure (i := 13) (v := _) rfl (by rfl) (by kernel_rfl) (by kernel_rfl) (by kernel_rfl) (fun _ _ _ h => h) ?hyr141_13 ?rer141_13
      case hyr141_13 => exact fun w => by first | (go_simp; done) | (go_simp; with_reducible rfl)
      simp only [Act.put, List.setIfInBounds_toArray, List.set_cons_zero, List.set_cons_succ]
      refine Reg.G.step (j := 9) (m := [true, false]) [11, 8] rfl (by kernel_rfl) rfl (by kernel_rfl) (fun K hK => ?_)
      -- Op.call { callee := Callee.value (t68), args := #[t69], argTypes := #[39] }
      rw [if_pos (by rfl)]
      go_simp
      refine HSZB.out.mono ?_
      rintro e wh ⟨rfl, hbh⟩
      have HQ11 := Lib.hid ((hbh.block _ (lt_of_blk HQ10.out)).trans HQ10.out)
      have HB11 : Hid (Below u7.heap.size u7 wh) := HB10.out.trans (hbh.mono HB10.out.size)
      have HSZA := Lib.hid (size_any sa ya Ha cla wh (HSYA.out.below (HB38.out.trans (HB11.out.mono HB38.out.size))) HTA.out)
      rw [HEA.out] at HSZA
      clear hbh HSZB
      refine hK.out _ _ ⟨HQ11.out, trivial⟩ ?_
      clear hK K
      simp only [Act.put, List.setIfInBounds_toArray, List.set_cons_zero, List.set_cons_succ, Reg.Kept]
      refine Reg.G.step (j := 12) (m := [false]) [11] rfl (by kernel_rfl) rfl (by kernel_rfl) (fun K hK => ?_)
      -- Op.call { callee := Callee.value (t71), args := #[t72], argTypes := #[39] }
      rw [if_pos (by rfl)]
      go_simp
      refine HSZA.out.mono ?_
      rintro e wk ⟨rfl, hbk⟩
      have HBE : Hid (Below W.heap.size W wk) := HBW8.out.trans ((HB11.out.trans (hbk.mono HB11.out.size)).mono HBW8.out.size)
      clear hbk HSZA
      refine hK.out _ _ trivial ?_
      clear hK K
      simp only [Act.put, List.setIfInBounds_toArray, List.set_cons_zero, List.set_cons_succ, Reg.Kept]
      refine' Reg.G.pure (i := 14) (v := _) rfl (by rfl) (by kernel_rfl) (by kernel_rfl) (by kernel_rfl) (fun _ _ _ h => h) ?hyr141_14 ?rer141_14
      case hyr141_14 => exact fun w => by first | (go_simp; done) | (go_simp; with_reducible rfl)
      simp only [Act.put, List.setIfInBounds_toArray, List.set_cons_zero, List.set_cons_succ]
      refine' Reg.G.pure (i := 15) (v := _) rfl (by rfl) (by kernel_rfl) (by kernel_rfl) (by kernel_rfl) (fun _ _ _ h => h) ?hyr141_15 ?rer141_15
      case hyr141_15 => exact fun w => by first | (go_simp; done) | (go_simp; with_reducible rfl)
      simp only [Act.put, List.setIfInBounds_toArray, List.set_cons_zero, List.set_cons_succ]
      refine' Reg.G.pure (i := 16) (v := _) rfl (by rfl) (by kernel_rfl) (by kernel_rfl) (by kernel_rfl) (fun _ _ _ h => h) ?hyr141_16 ?rer141_16
      case hyr141_16 => exact fun w => by first | (go_simp; done) | (go_simp; with_reducible rfl)
      simp only [Act.put, List.setIfInBounds_toArray, List.set_cons_zero, List.set_cons_succ]
      refine' Reg.G.pure (i := 17) (v := _) rfl (by rfl) (by kernel_rfl) (by kernel_rfl) (by kernel_rfl) (fun _ _ _ h => h) ?hyr141_17 ?rer141_17
      case hyr141_17 => exact fun w => by first | (go_simp; done) | (go_simp; with_reducible rfl)
      simp only [Act.put, List.setIfInBounds_toArray, List.set_cons_zero, List.set_cons_succ]
      refine Reg.G.done (by kernel_rfl) ?_
      go_wp2_with fail
      go_ret
      refine ⟨?_, HBE.out⟩
      have hw : IntKind.i64.wrap (m + 1) = m + 1 := IntWalk.i64_in _ (by omega)
      show Ending.returned (.bool (m + 1 == IntKind.i64.wrap (m + 1))) = _
      rw [hw]
      simp
end Go.Proofs.YtdhjibnkebbejaaDoor
