/-
  The lookup of an item's names: what its method unit returns.
-/
import Derived.Test.YtdhjibnkebbejaaDoorResLook
import Derived.Test.YtdhjibnkebbejaaDoorReg
namespace Go.Proofs.YtdhjibnkebbejaaDoor.Rs
open Go.RowKit Mem Vw
set_option linter.unusedVariables false
set_option linter.unusedSimpArgs false

/-- An item lies in a block. -/
def IB (p : Nat) (f : Item) (s : Sl) (W : World) : Prop := W.heap[p]? = some (.cells (ic (f, s)).toArray 55 (0, 0))
theorem TB.fr {S : Nat → Prop} {B q : Nat} {t : Tab} {W W' : World} (h : TB B q t W) (hf : Fr S W W') (hS : ∀ k, S k → B ≤ k) : TB B q t W' := by
  intro g h1 h5
  obtain ⟨m, ⟨hne, hmB, hqB⟩, hc, hb⟩ := h g h1 h5
  have hql : q < W.heap.size := lt_of_cell hc
  exact ⟨m, ⟨hne, hmB, hqB⟩, (World.cell?_of_block (a := ⟨q, 18 + g, none⟩) (hf.block q hql (fun hs => by have := hS q hs; omega))).trans hc, hf.blk hb (fun hs => by have := hS m hs; omega)⟩
/-- A lookup over tables, both in memory. -/
structure LS (t : Tab) (B q l : Nat) (ok : Bool) (W : World) : Prop where
  tb : TB B q t W
  lb : LB l q ok W
  le : B ≤ l
theorem LS.lt {t : Tab} {B q l : Nat} {ok : Bool} {W : World} (h : LS t B q l ok W) : l < W.heap.size := lt_of_blk h.lb
theorem LS.fr {S : Nat → Prop} {t : Tab} {B q l : Nat} {ok : Bool} {W W' : World} (h : LS t B q l ok W) (hf : Fr S W W') (hS : ∀ k, S k → l < k) : LS t B q l ok W' :=
  ⟨h.tb.fr hf (fun k hk => by have := hS k hk; have := h.le; omega), hf.blk h.lb (fun hs => by have := hS l hs; omega), h.le⟩
theorem LS.alloc {t : Tab} {B q l : Nat} {ok : Bool} {W : World} (h : LS t B q l ok W) (o : Obj) : LS t B q l ok (W.alloc o) := h.fr ((Fr.refl (fun _ => False) W).alloc o) (fun k hk => hk.elim)
theorem LS.drew {t : Tab} {B q l : Nat} {ok : Bool} {W : World} (h : LS t B q l ok W) : LS t B q l ok W.drew := h.fr ((Fr.refl (fun _ => False) W).drew) (fun k hk => hk.elim)
theorem LS.setc {t : Tab} {B q l : Nat} {ok : Bool} {W : World} (h : LS t B q l ok W) {p : Nat} (hp : l < p) (i : Nat) (u : Value) : LS t B q l ok (W.setCell ⟨p, i, none⟩ u) :=
  h.fr ((Fr.refl (fun k => k = p) W).setb i u) (fun k hk => by omega)
theorem index_ls {t : Tab} {B q l : Nat} {ok : Bool} {W : World} (g : Nat) (x : Bytes) (h1 : 1 ≤ g) (h5 : g ≤ 5) (h : LS t B q l ok W) :
    Calls Tryd.prog 45 #[.pointer (some ⟨l, 0, none⟩), .int .i64 (g : Int), .string ⟨x.toArray⟩] W fun e w' => e = .returned (.int .i64 (ix t g x)) ∧ LS t B q l (ok && has t g x) w' ∧ Fr (fun k => k = l) W w' := by
  refine (index_any t B q l g x ok W h1 h5 h.tb h.lb).mono ?_
  rintro e w' ⟨rfl, rfl⟩
  have hf : Fr (fun k => k = l) W (W.setCell ⟨l, 1, none⟩ (.bool (ok && has t g x))) := (Fr.refl _ W).setb 1 _
  exact ⟨rfl, ⟨h.tb.fr hf (fun k hk => by have := h.le; omega), h.lb.set _, h.le⟩, hf⟩
theorem optional_ls {t : Tab} {B q l : Nat} {ok : Bool} {W : World} (g : Nat) (x : Bytes) (h1 : 1 ≤ g) (h5 : g ≤ 5) (h : LS t B q l ok W) :
    Calls Tryd.prog 59 #[.pointer (some ⟨l, 0, none⟩), .int .i64 (g : Int), .string ⟨x.toArray⟩] W fun e w' => e = .returned (.int .i64 (ixo t g x)) ∧ LS t B q l (ok && haso t g x) w' ∧ Fr (fun k => k = l) W w' := by
  refine (optional_any t B q l g x ok W h1 h5 h.tb h.lb).mono ?_
  rintro e w' ⟨rfl, hw⟩
  by_cases hx : x = []
  · rw [if_pos hx] at hw
    subst hw hx
    refine ⟨rfl, ?_, Fr.refl _ _⟩
    have : (ok && haso t g []) = ok := by unfold haso; simp
    rw [this]; exact h
  · rw [if_neg hx] at hw
    subst hw
    have hf : Fr (fun k => k = l) W (W.setCell ⟨l, 1, none⟩ (.bool (ok && has t g x))) := (Fr.refl _ W).setb 1 _
    have : (ok && haso t g x) = (ok && has t g x) := by unfold haso; simp [hx]
    rw [this]
    exact ⟨rfl, ⟨h.tb.fr hf (fun k hk => by have := h.le; omega), h.lb.set _, h.le⟩, hf⟩
def unitv (u : Unit_) : List Value := [sv u.name, nv u.kind, nv u.base, nv u.factor.num, nv u.factor.den]
set_option maxRecDepth 100000 in
set_option maxHeartbeats 2000000 in
theorem unit_any (t : Tab) (B q l : Nat) (x : Item) (s : Sl) (ok : Bool) (W : World) (h : LS t B q l ok W) :
    Calls Tryd.prog 46 #[.pointer (some ⟨l, 0, none⟩), .agg (ic (x, s)).toArray] W fun e w' => e = .returned (.agg (unitv (unitOf t x)).toArray) ∧ LS t B q l (ok && unitOk t x) w' ∧ Fr (fun k => k = l) W w' := by
  have hll := h.lt
  have HL := Lib.hid h; clear h
  obtain ⟨u0, HU⟩ : ∃ u0, Hid (((W.alloc (.cells (ic (x, s)).toArray 55)).alloc (.cells #[.string ⟨#[]⟩, .int .i64 0, .int .i64 0, .int .i64 0, .int .i64 0] 61)) = u0) := ⟨_, rfl⟩
  have HI : Hid (IB W.heap.size x s u0) := by rw [← HU.out]; exact blk_alloc (blk_newn rfl) _
  have HR : Hid (u0.heap[W.heap.size + 1]? = some (.cells #[.string ⟨#[]⟩, .int .i64 0, .int .i64 0, .int .i64 0, .int .i64 0] 61 (0, 0))) := by rw [← HU.out]; exact blk_newn (by simp)
  have HF : Hid (Fr (fun k => k = l) W u0) := by rw [← HU.out]; exact ((Fr.refl _ W).alloc _).alloc _
  have HLu : Hid (LS t B q l ok u0) := by rw [← HU.out]; exact (HL.out.alloc _).alloc _
  have hlt : W.heap.size + 1 < u0.heap.size := lt_of_blk HR.out
  have hlt0 : W.heap.size < u0.heap.size := by omega
  have k1 : u0.cell? ⟨W.heap.size, 1, none⟩ = some (.string ⟨x.name.toArray⟩) := cell_of_blk HI.out 1
  have k5 : u0.cell? ⟨W.heap.size, 5, none⟩ = some (.int .i64 x.word) := cell_of_blk HI.out 5
  have k18 : u0.cell? ⟨W.heap.size, 18, none⟩ = some (.string ⟨x.unit.toArray⟩) := cell_of_blk HI.out 18
  by_cases hx : x.unit = []
  · have e1 : unitOf t x = ⟨x.name, x.word, ix t 3 x.name, ⟨1, 1⟩⟩ := if_pos hx
    have e2 : unitOk t x = has t 3 x.name := if_pos hx
    rw [e1, e2]
    rw [hx] at k18
    clear e1 e2 hx
    go_enter Tryd.func46, Tryd.ntmps46
    go_upto_region 1 with fail
    rw [HU.out]
    go_wp2_with fail
    refine (index_ls 3 x.name (by omega) (by omega) (HLu.out.alloc _)).mono ?_
    rintro e w1 ⟨rfl, hL1, hF1⟩
    have HU1 : Hid (w1.heap[u0.heap.size]? = some (.cells #[.string ⟨x.name.toArray⟩, .int .i64 x.word, .int .i64 0, .int .i64 0, .int .i64 0] 61 (0, 0))) := hF1.blk (blk_newn rfl) (by omega)
    have HR1 := Lib.hid (hF1.blk (blk_alloc HR.out _) (by omega))
    have HF2 := Lib.hid ((HF.out.alloc _).trans hF1)
    have HL1 := Lib.hid hL1; clear hL1 hF1 k1 k5 k18
    have a0 := cell_of_blk HU1.out 0; have a1 := cell_of_blk HU1.out 1; have a2 := cell_of_blk HU1.out 2; have a3 := cell_of_blk HU1.out 3; have a4 := cell_of_blk HU1.out 4
    have b0 := cell_of_blk HR1.out 0; have b1 := cell_of_blk HR1.out 1; have b2 := cell_of_blk HR1.out 2; have b3 := cell_of_blk HR1.out 3; have b4 := cell_of_blk HR1.out 4
    have c0 := froz_of_blk HR1.out 0; have c1 := froz_of_blk HR1.out 1; have c2 := froz_of_blk HR1.out 2; have c3 := froz_of_blk HR1.out 3; have c4 := froz_of_blk HR1.out 4
    have d2 := froz_of_blk HU1.out 2; have d3 := froz_of_blk HU1.out 3; have d4 := froz_of_blk HU1.out 4
    go_wp2_with fail
    refine bodyPost_ret (v := .agg (unitv ⟨x.name, x.word, ix t 3 x.name, ⟨1, 1⟩⟩).toArray) (by simp [results, Tryd.results46, go_sem, unitv, sv, nv, hlt, b0, b1, b2, b3, b4]) rfl ⟨rfl, ?_, ?_⟩
    · repeat refine LS.setc ?_ (by omega) _ _
      exact HL1.out
    · repeat refine Fr.setCell ?_ (.inr (by first | omega | (show _ ≤ u0.heap.size; omega) | (show _ ≤ W.heap.size + 1; omega))) _
      exact HF2.out
  · have e1 : unitOf t x = ⟨x.name, x.word, ix t 3 x.unit, x.num⟩ := if_neg hx
    have e2 : unitOk t x = has t 3 x.unit := if_neg hx
    have hb : (x.unit == []) = false := by simpa using hx
    rw [e1, e2]
    clear e1 e2 hx
    go_enter Tryd.func46, Tryd.ntmps46
    go_upto_region 1 with fail
    rw [HU.out]
    go_wp2_with fail
    refine Reg.G.start (by kernel_rfl) ?_
    refine' Reg.G.pure (i := 0) (v := _) rfl rfl (by kernel_rfl) (by kernel_rfl) (by kernel_rfl) (fun _ _ _ h => h) ?hyr4_0 ?rer4_0
    case hyr4_0 => exact fun w => by first | (go_simp; done) | (go_simp; with_reducible rfl)
    simp only [Act.put, List.setIfInBounds_toArray, List.set_cons_zero, List.set_cons_succ]
    refine' Reg.G.pure (i := 1) (v := _) rfl rfl (by kernel_rfl) (by kernel_rfl) (by kernel_rfl) (fun _ _ _ h => h) ?hyr4_1 ?rer4_1
    case hyr4_1 => exact fun w => by first | (go_simp; done) | (go_simp; with_reducible rfl)
    simp only [Act.put, List.setIfInBounds_toArray, List.set_cons_zero, List.set_cons_succ]
    refine' Reg.G.take (i := 2) (v := _) (F := fun w => IB W.heap.size x s w) rfl rfl (by kernel_rfl) (by kernel_rfl) (by kernel_rfl) (fun _ _ _ h => h) (blk_alloc HI.out _) ?hyr4_2 ?rer4_2
    case hyr4_2 => intro w hw; have k : w.cell? ⟨W.heap.size, 18, none⟩ = some (.string ⟨x.unit.toArray⟩) := cell_of_blk hw 18; clear hw; first | (go_simp; done) | (go_simp; with_reducible rfl)
    simp only [Act.put, List.setIfInBounds_toArray, List.set_cons_zero, List.set_cons_succ]
    refine' Reg.G.pure (i := 4) (v := _) rfl rfl (by kernel_rfl) (by kernel_rfl) (by kernel_rfl) (fun _ _ _ h => h) ?hyr4_4 ?rer4_4
    case hyr4_4 => exact fun w => by first | (go_simp; done) | (go_simp; with_reducible rfl)
    simp only [Act.put, List.setIfInBounds_toArray, List.set_cons_zero, List.set_cons_succ]
    refine' Reg.G.take (i := 5) (v := _) (F := fun w => IB W.heap.size x s w) rfl rfl (by kernel_rfl) (by kernel_rfl) (by kernel_rfl) (fun _ _ _ h => h) (blk_alloc HI.out _) ?hyr4_5 ?rer4_5
    case hyr4_5 => intro w hw; have k : w.cell? ⟨W.heap.size, 16, none⟩ = some (.int .i64 x.num.num) := cell_of_blk hw 16; have k2 : w.cell? ⟨W.heap.size, 17, none⟩ = some (.int .i64 x.num.den) := cell_of_blk hw 17; clear hw; first | (go_simp; done) | (go_simp; with_reducible rfl)
    simp only [Act.put, List.setIfInBounds_toArray, List.set_cons_zero, List.set_cons_succ]
    refine Reg.G.step (j := 3) (m := [true, false]) [5, 2] rfl (by kernel_rfl) rfl (by kernel_rfl) (fun K hK => ?_)
    -- Op.call { callee := Callee.value (func 45), args := #[t21, const (int IntKind.i64 3), t23], argTypes := #[125, 3, 9] }
    go_simp
    refine (index_ls 3 x.unit (by omega) (by omega) (HLu.out.alloc _).drew).mono ?_
    rintro e w1 ⟨rfl, hL1, hF1⟩
    have HU1 : Hid (w1.heap[u0.heap.size]? = some (.cells #[.string ⟨x.name.toArray⟩, .int .i64 x.word, .int .i64 0, .int .i64 0, .int .i64 0] 61 (0, 0))) := hF1.blk (blk_newn rfl) (by omega)
    have HR1 := Lib.hid (hF1.blk (blk_alloc HR.out _) (by omega))
    have HI1 : Hid (IB W.heap.size x s w1) := hF1.blk (blk_alloc HI.out _) (by omega)
    have HF2 := Lib.hid ((HF.out.alloc _).drew.trans hF1)
    have HL1 := Lib.hid hL1; clear hL1 hF1 k1 k5 k18
    have a0 := cell_of_blk HU1.out 0; have a1 := cell_of_blk HU1.out 1; have a2 := cell_of_blk HU1.out 2; have a3 := cell_of_blk HU1.out 3; have a4 := cell_of_blk HU1.out 4
    have b0 := cell_of_blk HR1.out 0; have b1 := cell_of_blk HR1.out 1; have b2 := cell_of_blk HR1.out 2; have b3 := cell_of_blk HR1.out 3; have b4 := cell_of_blk HR1.out 4
    have c0 := froz_of_blk HR1.out 0; have c1 := froz_of_blk HR1.out 1; have c2 := froz_of_blk HR1.out 2; have c3 := froz_of_blk HR1.out 3; have c4 := froz_of_blk HR1.out 4
    have d2 := froz_of_blk HU1.out 2; have d3 := froz_of_blk HU1.out 3; have d4 := froz_of_blk HU1.out 4
    refine hK.out _ _ ⟨HI1.out, trivial⟩ ?_
    clear hK K
    simp only [Act.put, List.setIfInBounds_toArray, List.set_cons_zero, List.set_cons_succ, Reg.Kept]
    refine' Reg.G.pure (i := 6) (v := _) rfl rfl (by kernel_rfl) (by kernel_rfl) (by kernel_rfl) (fun _ _ _ h => h) ?hyr4_6 ?rer4_6
    case hyr4_6 => exact fun w => by first | (go_simp; done) | (go_simp; with_reducible rfl)
    simp only [Act.put, List.setIfInBounds_toArray, List.set_cons_zero, List.set_cons_succ]
    refine Reg.G.step (j := 7) (m := [true]) [5] rfl (by kernel_rfl) rfl (by kernel_rfl) (fun K hK => ?_)
    -- Op.store 3 (t27) (t24)
    go_simp
    refine hK.out _ _ ⟨blk_farq HI1.out (by omega) _, trivial⟩ ?_
    clear hK K
    simp only [Act.put, List.setIfInBounds_toArray, List.set_cons_zero, List.set_cons_succ, Reg.Kept]
    refine' Reg.G.pure (i := 8) (v := _) rfl rfl (by kernel_rfl) (by kernel_rfl) (by kernel_rfl) (fun _ _ _ h => h) ?hyr4_8 ?rer4_8
    case hyr4_8 => exact fun w => by first | (go_simp; done) | (go_simp; with_reducible rfl)
    simp only [Act.put, List.setIfInBounds_toArray, List.set_cons_zero, List.set_cons_succ]
    refine Reg.G.step (j := 9) (m := [false]) [5] rfl (by kernel_rfl) rfl (by kernel_rfl) (fun K hK => ?_)
    -- Op.store 52 (t28) (t26)
    go_simp
    refine hK.out _ _ trivial ?_
    clear hK K
    simp only [Act.put, List.setIfInBounds_toArray, List.set_cons_zero, List.set_cons_succ, Reg.Kept]
    refine Reg.G.done (by kernel_rfl) ?_
    go_wp2_with fail
    refine bodyPost_ret (v := .agg (unitv ⟨x.name, x.word, ix t 3 x.unit, x.num⟩).toArray) (by simp [results, Tryd.results46, go_sem, unitv, sv, nv, hlt, b0, b1, b2, b3, b4]) rfl ⟨rfl, ?_, ?_⟩
    · repeat refine LS.setc ?_ (by omega) _ _
      exact HL1.out
    · repeat refine Fr.setCell ?_ (.inr (by first | omega | (show _ ≤ u0.heap.size; omega) | (show _ ≤ W.heap.size + 1; omega))) _
      exact HF2.out
end Go.Proofs.YtdhjibnkebbejaaDoor.Rs
