/-
  What the resolver's method item does: a clause; all items.
-/
import Derived.Test.YtdhjibnkebbejaaDoorResItemU
namespace Go.Proofs.YtdhjibnkebbejaaDoor.Rs
open Go.RowKit Mem Vw
set_option linter.unusedVariables false
set_option linter.unusedSimpArgs false

theorem start_len (t : Tab) (x : Item) : (clauseOf t x).start.length = x.conds.length := by simp [clauseOf]
set_option maxRecDepth 100000 in
set_option maxHeartbeats 4000000 in
theorem item_clause (src : Source) (t : Tab) (s : Sy) (B q hm : Nat) (mi : Nat → Nat) (mem : Value) (H : RH) (cl : List (ClauseSym × Value)) (x : Item) (sl : Sl) (W Wa : World) (h : ItemPre src t s B q hm mi mem H cl x sl W Wa) (hk : group x.kind = 5) (hk4 : x.kind ≠ 4) (hk5 : x.kind ≠ 5) :
    Calls Tryd.prog 28 #[.pointer (some ⟨q, 0, none⟩), .agg (ic (x, sl)).toArray, .bool true, .bool false] W (ItemPost src t { s with clauses := s.clauses ++ [⟨x.name, x.pos, x.within, x.grace, clauseOf t x⟩] } (err8 (clauseOk t x)) B q hm mi mem H.flt (rowsOf s H cl) W) := by
  obtain ⟨u0, HU⟩ : ∃ u0, Hid (W.alloc (.cells (ic (x, sl)).toArray 55) = u0) := ⟨_, rfl⟩
  have HI0 : Hid (IB W.heap.size x sl u0) := by rw [← HU.out]; exact blk_newn rfl
  have k0 : u0.cell? ⟨W.heap.size, 0, none⟩ = some (.int .i64 x.kind) := cell_of_blk HI0.out 0
  have hWu : W.heap.size < u0.heap.size := lt_of_blk HI0.out
  obtain ⟨u1, HU1⟩ : ∃ u1, Hid (u0.alloc (.cells #[.pointer (some ⟨q, 0, none⟩), .bool true] 127) = u1) := ⟨_, rfl⟩
  have HRW := Lib.hid h.rs
  have HR : Hid (RS src t s B q hm mi mem H cl u1) := by rw [← HU1.out, ← HU.out]; exact (h.rs.alloc _).alloc _
  have HF : Hid (Fr (Wr q hm (rowsOf s H cl)) W u1) := by rw [← HU1.out, ← HU.out]; exact ((Fr.refl _ W).alloc _).alloc _
  have HI : Hid (IB W.heap.size x sl u1) := by rw [← HU1.out]; exact blk_alloc HI0.out _
  have HL : Hid (LS t B q u0.heap.size true u1) := by
    refine ⟨HR.out.tb, ?_, ?_⟩
    · rw [← HU1.out]; exact blk_newn rfl
    · have := HRW.out.le; omega
  have hlB : B ≤ u0.heap.size := by have := HRW.out.le; omega
  have hq1 := h.rs.ne
  have hqB : q < B := hq1.2.2.1
  clear hq1
  have hu1 : u0.heap.size < u1.heap.size := lt_of_blk HL.out.lb
  have HRL : Hid (∀ r ∈ rowsOf s H cl, ∀ g, r.v.ownBlock = some g → B ≤ g ∧ g < W.heap.size) := fun r hr g hg => h.rs.rows.lt hr hg
  have HBA : Hid (Below Wa.heap.size Wa u1) := by
    have h1 := h.ba
    refine h1.trans (HF.out.below h1.size (fun k hk => ?_))
    have := h.bq
    rcases hk with rfl | rfl | ⟨r, hr, e⟩
    · omega
    · omega
    · have := (h.rs.rows.lt hr e).1
      omega
  have HP := Lib.hid h; clear h
  have hg5 := hk
  have HG : Hid (group x.kind = 5) := hg5
  have k1 : u1.cell? ⟨W.heap.size, 0, none⟩ = some (.int .i64 x.kind) := cell_of_blk HI.out 0
  have b4 := bk_ne hk4; have b5 := bk_ne hk5
  have b1 : (x.kind == 1) = false := bk_ne (by intro e; rw [e] at hk; exact absurd hk (by decide))
  have b2 : (x.kind == 2) = false := bk_ne (by intro e; rw [e] at hk; exact absurd hk (by decide))
  have b3 : (x.kind == 3) = false := bk_ne (by intro e; rw [e] at hk; exact absurd hk (by decide))
  have b8 : (x.kind == 8) = false := bk_ne (by intro e; rw [e] at hk; exact absurd hk (by decide))
  clear hk hk4 hk5
  obtain ⟨hh, hp, hr, hu, ha, hc, hf⟩ := H
  obtain ⟨Ac, cAc, hpe⟩ : ∃ A c, hc = .slice A cl.length c := own_form (HR.out.rows.ok ⟨71, 24, hc, cl.length, (cl.flatMap fun p => csymv p.1 p.2)⟩ (by simp [rowsOf]))
  subst hpe
  have QC := (HR.out.vq 17 rfl).1
  have HRD := Lib.hid HR.out.drew
  have HLD := Lib.hid HL.out.drew
  have HID : Hid (IB W.heap.size x sl u1.drew) := HI.out
  have HBD : Hid (Below Wa.heap.size Wa u1.drew) := below_drewN HBA.out 1
  have HFD := Lib.hid HF.out.drew
  obtain ⟨i0, hi, hz0, hz1, hz2⟩ := info_parts info_csymz
  go_enter Tryd.func28, Tryd.ntmps28
  go_upto_region 1 with fail
  rw [HU.out]
  clear HU
  go_wp2_with fail
  refine (groupOf_any x.kind _).mono ?_
  rw [HG.out]
  rintro e w1 ⟨rfl, rfl⟩
  go_wp2_with fail
  rw [HU1.out]
  clear HU1
  refine Reg.G.start (by kernel_rfl) ?_
  refine' Reg.G.pure (i := 0) (v := _) rfl (by rfl) (by kernel_rfl) (by kernel_rfl) (by kernel_rfl) (fun _ _ _ h => h) ?hyr20_0 ?rer20_0
  case hyr20_0 => exact fun w => by first | (go_simp; done) | (go_simp; with_reducible rfl)
  simp only [Act.put, List.setIfInBounds_toArray, List.set_cons_zero, List.set_cons_succ]
  refine' Reg.G.pure (i := 1) (v := _) rfl (by rfl) (by kernel_rfl) (by kernel_rfl) (by kernel_rfl) (fun _ _ _ h => h) ?hyr20_1 ?rer20_1
  case hyr20_1 => exact fun w => by first | (go_simp; done) | (go_simp; with_reducible rfl)
  simp only [Act.put, List.setIfInBounds_toArray, List.set_cons_zero, List.set_cons_succ]
  refine' Reg.G.pure (i := 2) (v := _) rfl (by rfl) (by kernel_rfl) (by kernel_rfl) (by kernel_rfl) (fun _ _ _ h => h) ?hyr20_2 ?rer20_2
  case hyr20_2 => exact fun w => by first | (go_simp; done) | (go_simp; with_reducible rfl)
  simp only [Act.put, List.setIfInBounds_toArray, List.set_cons_zero, List.set_cons_succ]
  refine' Reg.G.pure (i := 3) (v := _) rfl (by rfl) (by kernel_rfl) (by kernel_rfl) (by kernel_rfl) (fun _ _ _ h => h) ?hyr20_3 ?rer20_3
  case hyr20_3 => exact fun w => by first | (go_simp; done) | (go_simp; with_reducible rfl)
  simp only [Act.put, List.setIfInBounds_toArray, List.set_cons_zero, List.set_cons_succ]
  refine' Reg.G.pure (i := 4) (v := _) rfl (by rfl) (by kernel_rfl) (by kernel_rfl) (by kernel_rfl) (fun _ _ _ h => h) ?hyr20_4 ?rer20_4
  case hyr20_4 => exact fun w => by first | (go_simp; done) | (go_simp; with_reducible rfl)
  simp only [Act.put, List.setIfInBounds_toArray, List.set_cons_zero, List.set_cons_succ]
  refine' Reg.G.take (i := 5) (v := _) (F := fun w => w.cell? ⟨q, 17, none⟩ = some (.slice Ac cl.length cAc)) rfl (by rfl) (by kernel_rfl) (by kernel_rfl) (by kernel_rfl) (fun _ _ _ h => h) (by exact QC) ?hyr20_5 ?rer20_5
  case hyr20_5 => intro w hw; first | (go_simp; done) | (go_simp; with_reducible rfl)
  simp only [Act.put, List.setIfInBounds_toArray, List.set_cons_zero, List.set_cons_succ]
  refine' Reg.G.pure (i := 6) (v := _) rfl (by rfl) (by kernel_rfl) (by kernel_rfl) (by kernel_rfl) (fun _ _ _ h => h) ?hyr20_6 ?rer20_6
  case hyr20_6 => exact fun w => by first | (go_simp; done) | (go_simp; with_reducible rfl)
  simp only [Act.put, List.setIfInBounds_toArray, List.set_cons_zero, List.set_cons_succ]
  refine' Reg.G.take (i := 7) (v := _) (F := fun w => IB W.heap.size x sl w) rfl (by rfl) (by kernel_rfl) (by kernel_rfl) (by kernel_rfl) (fun _ _ _ h => h) (by exact HID.out) ?hyr20_7 ?rer20_7
  case hyr20_7 => intro w hw; refine run_load_row (P := Tryd.prog) 55 (.tmp 5) ?_ W.heap.size ?_ 55 (ic (x, sl)).toArray _ hw Tryd.underlying55 rfl (info_icl _) <;> rfl
  simp only [Act.put, List.setIfInBounds_toArray, List.set_cons_zero, List.set_cons_succ]
  refine Reg.G.step (j := 8) (m := [false, true]) [7, 5] rfl (by kernel_rfl) rfl (by kernel_rfl) (fun K hK => ?_)
  -- Op.call { callee := Callee.value (func 48), args := #[t70, t71], argTypes := #[125, 55] }
  go_simp
  refine (clause_any t B q u0.heap.size x sl true _ Wa HLD.out HP.out.fl.conds HBD.out HP.out.bq.2.2 HP.out.conds).mono ?_
  rintro e w2 ⟨⟨st, rfl, hst⟩, hL2, hF2⟩
  obtain ⟨Ast, cst, rfl⟩ := own_form hst
  have HST := Lib.hid hst; clear hst
  simp only [csv, spanc, clv, sv, nv, List.cons_append, List.nil_append]
  have HL2 := Lib.hid hL2; have HF2 := Lib.hid hF2; clear hL2 hF2
  have HR2 := Lib.hid (HRD.out.fr1 HF2.out hlB (own_not HRL.out (by omega)))
  have HRWS2 : Hid (ORs B w2 (rowsOf s ⟨hh, hp, hr, hu, ha, .slice Ac cl.length cAc, hf⟩ cl ++ [⟨114, 2, .slice Ast x.conds.length cst, x.conds.length, (clauseOf t x).start.flatMap condv⟩])) := HRD.out.rows.snoc HR2.out.rows HST.out (Nat.le_refl _) HRD.out.le
  have HI2 : Hid (IB W.heap.size x sl w2) := HF2.out.blk HID.out (by omega)
  have QC2 := (HR2.out.vq 17 rfl).1
  refine hK.out _ _ ⟨QC2, trivial⟩ ?_
  clear hK K
  simp only [Act.put, List.setIfInBounds_toArray, List.set_cons_zero, List.set_cons_succ, Reg.Kept]
  refine Reg.G.step (j := 9) (m := [true]) [5] rfl (by kernel_rfl) rfl (by kernel_rfl) (fun K hK => ?_)
  -- Op.buildSlice 37 1 #[(0, t72)]
  go_simp
  have HRA := Lib.hid (HR2.out.alloc (.cells #[.string ⟨x.name.toArray⟩, .int .i64 x.pos, .int .i64 x.within.days, .bool x.within.bus, .string ⟨x.within.name.toArray⟩, .int .i64 x.grace.days, .bool x.grace.bus, .string ⟨x.grace.name.toArray⟩, .int .i64 (clauseOf t x).kind, .int .i64 (clauseOf t x).role, .int .i64 (clauseOf t x).act, .int .i64 (clauseOf t x).need, .slice Ast x.conds.length cst, .int .i64 0, .int .i64 0, .bool false, .bool (clauseOf t x).fin, .int .i64 (clauseOf t x).pause, .int .i64 (clauseOf t x).resume, .int .i64 (clauseOf t x).value.num, .int .i64 (clauseOf t x).value.den, .int .i64 (clauseOf t x).unit, .int .i64 (clauseOf t x).to_, .bool false] 71))
  have HLA : Hid ((w2.alloc (.cells #[.string ⟨x.name.toArray⟩, .int .i64 x.pos, .int .i64 x.within.days, .bool x.within.bus, .string ⟨x.within.name.toArray⟩, .int .i64 x.grace.days, .bool x.grace.bus, .string ⟨x.grace.name.toArray⟩, .int .i64 (clauseOf t x).kind, .int .i64 (clauseOf t x).role, .int .i64 (clauseOf t x).act, .int .i64 (clauseOf t x).need, .slice Ast x.conds.length cst, .int .i64 0, .int .i64 0, .bool false, .bool (clauseOf t x).fin, .int .i64 (clauseOf t x).pause, .int .i64 (clauseOf t x).resume, .int .i64 (clauseOf t x).value.num, .int .i64 (clauseOf t x).value.den, .int .i64 (clauseOf t x).unit, .int .i64 (clauseOf t x).to_, .bool false] 71)).heap[u0.heap.size]? = some (.cells #[.pointer (some ⟨q, 0, none⟩), .bool (true && clauseOk t x)] 127 (0, 0))) := blk_alloc HL2.out.lb _
  have HRWS := Lib.hid (HRWS2.out.fr ((Fr.refl (fun _ => False) w2).alloc (.cells #[.string ⟨x.name.toArray⟩, .int .i64 x.pos, .int .i64 x.within.days, .bool x.within.bus, .string ⟨x.within.name.toArray⟩, .int .i64 x.grace.days, .bool x.grace.bus, .string ⟨x.grace.name.toArray⟩, .int .i64 (clauseOf t x).kind, .int .i64 (clauseOf t x).role, .int .i64 (clauseOf t x).act, .int .i64 (clauseOf t x).need, .slice Ast x.conds.length cst, .int .i64 0, .int .i64 0, .bool false, .bool (clauseOf t x).fin, .int .i64 (clauseOf t x).pause, .int .i64 (clauseOf t x).resume, .int .i64 (clauseOf t x).value.num, .int .i64 (clauseOf t x).value.den, .int .i64 (clauseOf t x).unit, .int .i64 (clauseOf t x).to_, .bool false] 71)) (fun _ _ _ h => h))
  have HOWN := Lib.hid (HRA.out.rows.ok ⟨71, 24, .slice Ac cl.length cAc, cl.length, (cl.flatMap fun p => csymv p.1 p.2)⟩ (by simp [rowsOf]))
  have QCA := (HRA.out.vq 17 rfl).1
  refine hK.out _ _ ⟨QCA, trivial⟩ ?_
  clear hK K
  simp only [Act.put, List.setIfInBounds_toArray, List.set_cons_zero, List.set_cons_succ, Reg.Kept]
  refine Reg.G.step (j := 10) (m := [false]) [5] rfl (by kernel_rfl) rfl (by kernel_rfl) (fun K hK => ?_)
  -- Op.call { callee := Callee.builtin Builtin.append, args := #[t69, t73], argTypes := #[37, 37] }
  refine Go.step_append_lies _ rfl (.tmp 69) (.tmp 73) 37 rfl B 71 i0 _ 24 224 Tryd.underlying37 hi hz0 hz1 hz2 rfl (by decide) (.slice Ac cl.length cAc) cl.length _ (by rfl) HOWN.out ⟨w2.heap.size, 0, none⟩ 1 1 [.string ⟨x.name.toArray⟩, .int .i64 x.pos, .int .i64 x.within.days, .bool x.within.bus, .string ⟨x.within.name.toArray⟩, .int .i64 x.grace.days, .bool x.grace.bus, .string ⟨x.grace.name.toArray⟩, .int .i64 (clauseOf t x).kind, .int .i64 (clauseOf t x).role, .int .i64 (clauseOf t x).act, .int .i64 (clauseOf t x).need, .slice Ast x.conds.length cst, .int .i64 0, .int .i64 0, .bool false, .bool (clauseOf t x).fin, .int .i64 (clauseOf t x).pause, .int .i64 (clauseOf t x).resume, .int .i64 (clauseOf t x).value.num, .int .i64 (clauseOf t x).value.den, .int .i64 (clauseOf t x).unit, .int .i64 (clauseOf t x).to_, .bool false] (by rfl) rfl (World.news_of_block (cs := #[.string ⟨x.name.toArray⟩, .int .i64 x.pos, .int .i64 x.within.days, .bool x.within.bus, .string ⟨x.within.name.toArray⟩, .int .i64 x.grace.days, .bool x.grace.bus, .string ⟨x.grace.name.toArray⟩, .int .i64 (clauseOf t x).kind, .int .i64 (clauseOf t x).role, .int .i64 (clauseOf t x).act, .int .i64 (clauseOf t x).need, .slice Ast x.conds.length cst, .int .i64 0, .int .i64 0, .bool false, .bool (clauseOf t x).fin, .int .i64 (clauseOf t x).pause, .int .i64 (clauseOf t x).resume, .int .i64 (clauseOf t x).value.num, .int .i64 (clauseOf t x).value.den, .int .i64 (clauseOf t x).unit, .int .i64 (clauseOf t x).to_, .bool false]) (t := 71) (fr := (0, 0)) (heap_alloc_new w2 _)) (by simp [Value.oneCell']) (by decide) (by simp only [maxLen]; have := HP.out.lens; omega) (by have := HP.out.lens; omega) HRA.out.le (w2.heap.size + 1) (by simp) ?_
  intro gg cap1 w5 hown hgrow hat hlt5
  have HG5 := Lib.hid hgrow
  have HO5 := Lib.hid hown
  have HAT := Lib.hid hat
  have HL5 : Hid (w5.heap[u0.heap.size]? = some (.cells #[.pointer (some ⟨q, 0, none⟩), .bool (true && clauseOk t x)] 127 (0, 0))) := (Fr.of_grown hgrow).blk HLA.out (fun e => by have := (HRL.out ⟨71, 24, .slice Ac cl.length cAc, cl.length, (cl.flatMap fun p => csymv p.1 p.2)⟩ (by simp [rowsOf]) _ e).2; omega)
  obtain ⟨c13, f13⟩ : w5.cell? ⟨q, 17, none⟩ = some (.slice Ac cl.length cAc) ∧ w5.frozen? ⟨q, 17, none⟩ = false := by
    have := (Fr.of_grown hgrow).blk HRA.out.qb (fun e => by have := (HRL.out ⟨71, 24, .slice Ac cl.length cAc, cl.length, (cl.flatMap fun p => csymv p.1 p.2)⟩ (by simp [rowsOf]) _ e).1; omega)
    exact ⟨(cell_of_blk this 17).trans rfl, froz_of_blk this 17⟩
  clear hgrow hown hat
  refine hK.out _ _ trivial ?_
  clear hK K
  simp only [Act.put, List.setIfInBounds_toArray, List.set_cons_zero, List.set_cons_succ, Reg.Kept]
  refine' Reg.G.pure (i := 11) (v := _) rfl (by rfl) (by kernel_rfl) (by kernel_rfl) (by kernel_rfl) (fun _ _ _ h => h) ?hyr20_11 ?rer20_11
  case hyr20_11 => exact fun w => by first | (go_simp; done) | (go_simp; with_reducible rfl)
  simp only [Act.put, List.setIfInBounds_toArray, List.set_cons_zero, List.set_cons_succ]
  refine' Reg.G.pure (i := 12) (v := _) rfl (by rfl) (by kernel_rfl) (by kernel_rfl) (by kernel_rfl) (fun _ _ _ h => h) ?hyr20_12 ?rer20_12
  case hyr20_12 => exact fun w => by first | (go_simp; done) | (go_simp; with_reducible rfl)
  simp only [Act.put, List.setIfInBounds_toArray, List.set_cons_zero, List.set_cons_succ]
  refine' Reg.G.pure (i := 13) (v := _) rfl (by rfl) (by kernel_rfl) (by kernel_rfl) (by kernel_rfl) (fun _ _ _ h => h) ?hyr20_13 ?rer20_13
  case hyr20_13 => exact fun w => by first | (go_simp; done) | (go_simp; with_reducible rfl)
  simp only [Act.put, List.setIfInBounds_toArray, List.set_cons_zero, List.set_cons_succ]
  refine Reg.G.step (j := 14) (m := []) [] rfl (by kernel_rfl) rfl (by kernel_rfl) (fun K hK => ?_)
  -- Op.store 37 (t77) (t74)
  go_simp
  refine hK.out _ _ trivial ?_
  clear hK K
  simp only [Act.put, List.setIfInBounds_toArray, List.set_cons_zero, List.set_cons_succ, Reg.Kept]
  refine Reg.G.done (by kernel_rfl) ?_
  have l1 : w5.cell? ⟨u0.heap.size, 1, none⟩ = some (.bool (clauseOk t x)) := cell_of_blk HL5.out 1
  have hne1 : ¬ u0.heap.size = q := by omega
  have hne2 : ¬ q = u0.heap.size := by omega
  have HFA := Lib.hid (((HFD.out.trans' HF2.out (fun j hj e => by exfalso; omega)).alloc _) : Fr _ W (w2.alloc (.cells #[.string ⟨x.name.toArray⟩, .int .i64 x.pos, .int .i64 x.within.days, .bool x.within.bus, .string ⟨x.within.name.toArray⟩, .int .i64 x.grace.days, .bool x.grace.bus, .string ⟨x.grace.name.toArray⟩, .int .i64 (clauseOf t x).kind, .int .i64 (clauseOf t x).role, .int .i64 (clauseOf t x).act, .int .i64 (clauseOf t x).need, .slice Ast x.conds.length cst, .int .i64 0, .int .i64 0, .bool false, .bool (clauseOf t x).fin, .int .i64 (clauseOf t x).pause, .int .i64 (clauseOf t x).resume, .int .i64 (clauseOf t x).value.num, .int .i64 (clauseOf t x).value.den, .int .i64 (clauseOf t x).unit, .int .i64 (clauseOf t x).to_, .bool false] 71)))
  have HF5 := Lib.hid (HFA.out.trans ((Fr.of_grown HG5.out).mono (fun j _ e => .inr (.inr ⟨⟨71, 24, .slice Ac cl.length cAc, cl.length, (cl.flatMap fun p => csymv p.1 p.2)⟩, by simp [rowsOf], e⟩))))
  have HRN : Hid (RS src t { s with clauses := s.clauses ++ [⟨x.name, x.pos, x.within, x.grace, clauseOf t x⟩] } B q hm mi mem ⟨hh, hp, hr, hu, ha, .slice (some ⟨gg, 0, none⟩) (cl.length + 1) cap1, hf⟩ (cl ++ [(⟨x.name, x.pos, x.within, x.grace, clauseOf t x⟩, .slice Ast x.conds.length cst)]) (w5.setCell ⟨q, 17, none⟩ (.slice (some ⟨gg, 0, none⟩) (cl.length + 1) cap1))) := by
    refine HRA.out.grow HRWS.out (k := 5) rfl HG5.out (r' := ⟨71, 24, .slice (some ⟨gg, 0, none⟩) (cl.length + 1) cap1, cl.length + 1, _⟩) HO5.out ?_ rfl rfl ?_ rfl (by rw [List.map_append, HRA.out.cls]; rfl) (by simp [rowsOf])
    · intro g hg
      injection hg with hg
      subst hg
      rcases HAT.out with h | h
      · exact .inl h
      · exact .inr (by rw [h]; simp)
    · simp [rowsOf, csymv, clv, spanc, start_len, sv, nv]
  obtain ⟨okb, hok⟩ : ∃ b, clauseOk t x = b := ⟨_, rfl⟩
  rw [hok] at l1
  have HOK := Lib.hid hok; clear hok
  cases okb
  all_goals
    go_wp2_with fail
    go_ret
    rw [HOK.out]
    exact ⟨rfl, ⟨_, _, HRN.out, HP.out.nil, rfl⟩, HF5.out.setCell (.inl (.inl rfl)) _⟩
theorem item_any (src : Source) (t : Tab) (s : Sy) (B q hm : Nat) (mi : Nat → Nat) (mem : Value) (H : RH) (cl : List (ClauseSym × Value)) (x : Item) (sl : Sl) (W Wa : World) (tw mb : Bool) (h : ItemPre src t s B q hm mi mem H cl x sl W Wa) :
    Calls Tryd.prog 28 #[.pointer (some ⟨q, 0, none⟩), .agg (ic (x, sl)).toArray, .bool mb, .bool tw] W (ItemPost src t (item t s x tw mb).1 (item t s x tw mb).2 B q hm mi mem H.flt (rowsOf s H cl) W) := by
  unfold item
  by_cases h4 : x.kind = 4
  · rw [if_pos h4]
    exact item_weekend src t s B q hm mi mem H cl x sl tw mb W Wa h h4
  rw [if_neg h4]
  by_cases h5 : x.kind = 5
  · rw [if_pos h5, holiday_eq]
    exact item_holiday src t s B q hm mi mem H cl x sl tw mb W Wa h h5
  rw [if_neg h5]
  by_cases hg : group x.kind = 0
  · rw [if_pos hg]
    exact item_none src t s B q hm mi mem H cl x sl tw mb W Wa h h4 h5 hg
  rw [if_neg hg]
  by_cases ht : tw = true
  · rw [if_pos ht]
    have := item_twice src t s B q hm mi mem H cl x sl tw mb W Wa h h4 h5 hg (.inl ht)
    rw [if_pos ht] at this
    exact this
  rw [if_neg ht]
  have ht' : tw = false := by simpa using ht
  cases mb with
  | false =>
    have := item_twice src t s B q hm mi mem H cl x sl tw false W Wa h h4 h5 hg (.inr rfl)
    rw [if_neg ht] at this
    exact this
  | true =>
    subst ht'
    rw [if_neg (by simp)]
    by_cases h1 : x.kind = 1
    · rw [if_pos h1]; exact item_party src t s B q hm mi mem H cl x sl W Wa h h1
    rw [if_neg h1]
    by_cases h2 : x.kind = 2
    · rw [if_pos h2]; exact item_role src t s B q hm mi mem H cl x sl W Wa h h2
    rw [if_neg h2]
    by_cases h3 : x.kind = 3
    · rw [if_pos h3]; exact item_unit src t s B q hm mi mem H cl x sl W Wa h h3
    rw [if_neg h3]
    by_cases h8 : x.kind = 8
    · rw [if_pos h8]; exact item_act src t s B q hm mi mem H cl x sl W Wa h h8
    rw [if_neg h8]
    have hg5 : group x.kind = 5 := by
      rcases group_cases x.kind with ⟨e, e2⟩ | ⟨e, e2⟩ | ⟨e, e2⟩ | ⟨e, e2⟩ | ⟨e, e2⟩ | ⟨e, e2⟩ | ⟨e, e2⟩ | ⟨e, e2⟩ | ⟨e, e2⟩
      all_goals first | exact absurd e h1 | exact absurd e h2 | exact absurd e h3 | exact absurd e h8 | exact e2 | exact absurd e2 hg
    exact item_clause src t s B q hm mi mem H cl x sl W Wa h hg5 h4 h5
end Go.Proofs.YtdhjibnkebbejaaDoor.Rs
