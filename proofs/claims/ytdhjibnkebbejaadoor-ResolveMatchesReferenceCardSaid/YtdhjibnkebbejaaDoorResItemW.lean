/-
  What the resolver's method item does: a weekend.
-/
import Derived.Test.YtdhjibnkebbejaaDoorResItem
namespace Go.Proofs.YtdhjibnkebbejaaDoor.Rs
open Go.RowKit Mem Vw
set_option linter.unusedVariables false
set_option linter.unusedSimpArgs false

/-- The first k days of two weekends, together. -/
def orK (k : Nat) (a b : List Bool) : List Bool := orDays (a.take k) (b.take k) ++ a.drop k
theorem seven {a : List Bool} (h : a.length = 7) : ∃ a0 a1 a2 a3 a4 a5 a6, a = [a0, a1, a2, a3, a4, a5, a6] := by
  match a, h with
  | [a, b, c, d, e, f, g], _ => exact ⟨a, b, c, d, e, f, g, rfl⟩
theorem seven_cases {k : Nat} (h : k < 7) : k = 0 ∨ k = 1 ∨ k = 2 ∨ k = 3 ∨ k = 4 ∨ k = 5 ∨ k = 6 := by omega
theorem orK_succ {a b : List Bool} (ha : a.length = 7) (hb : b.length = 7) {k : Nat} (hk : k < 7) : orK (k + 1) a b = (orK k a b).set k (a.getD k false || b.getD k false) ∧ (orK k a b).getD k false = a.getD k false := by
  obtain ⟨a0, a1, a2, a3, a4, a5, a6, rfl⟩ := seven ha
  obtain ⟨b0, b1, b2, b3, b4, b5, b6, rfl⟩ := seven hb
  rcases seven_cases hk with rfl | rfl | rfl | rfl | rfl | rfl | rfl <;> exact ⟨rfl, rfl⟩
theorem orK_seven {a b : List Bool} (ha : a.length = 7) (hb : b.length = 7) : orK 7 a b = orDays a b := by
  obtain ⟨a0, a1, a2, a3, a4, a5, a6, rfl⟩ := seven ha
  obtain ⟨b0, b1, b2, b3, b4, b5, b6, rfl⟩ := seven hb
  rfl
def daysv (l : List Bool) : Array Value := #[.bool (l.getD 0 false), .bool (l.getD 1 false), .bool (l.getD 2 false), .bool (l.getD 3 false), .bool (l.getD 4 false), .bool (l.getD 5 false), .bool (l.getD 6 false)]
theorem index_day (l : List Bool) {k : Nat} (hk : k < 7) (w : World) : (Instr.index 29 (.agg (daysv l)) (.int .i64 (k : Int))).run Tryd.prog w = .ok (.bool (l.getD k false)) w := by
  rcases seven_cases hk with rfl | rfl | rfl | rfl | rfl | rfl | rfl <;> kernel_rfl
theorem week_cell (src : Source) (wk : List Bool) (H : RH) (mi : Nat → Nat) (mem : Value) (hm : Nat) {k : Nat} (hk : k < 7) : (rcells src wk H mi mem hm)[5 + k]? = some (.bool (wk.getD k false)) := by
  rcases seven_cases hk with rfl | rfl | rfl | rfl | rfl | rfl | rfl <;> rfl
theorem info_week : (Tryd.prog.info? 29).map (·.size) = some 7 := by kernel_rfl
/-- What the loop over the weekdays holds. -/
def WRel (src : Source) (t : Tab) (s : Sy) (B q hm : Nat) (mi : Nat → Nat) (mem : Value) (H : RH) (cl : List (ClauseSym × Value)) (x : Item) (W : World) (i : Value) (wr : World) : Prop :=
  ∃ k : Nat, i = .int .i64 (k : Int) ∧ k ≤ 7 ∧ RS src t { s with weekend := orK k s.weekend x.days } B q hm mi mem H cl wr ∧ Fr (Wr q hm (rowsOf s H cl)) W wr
set_option maxRecDepth 100000 in
set_option maxHeartbeats 4000000 in
theorem item_weekend (src : Source) (t : Tab) (s : Sy) (B q hm : Nat) (mi : Nat → Nat) (mem : Value) (H : RH) (cl : List (ClauseSym × Value)) (x : Item) (sl : Sl) (tw mb : Bool) (W Wa : World) (h : ItemPre src t s B q hm mi mem H cl x sl W Wa) (h4 : x.kind = 4) :
    Calls Tryd.prog 28 #[.pointer (some ⟨q, 0, none⟩), .agg (ic (x, sl)).toArray, .bool mb, .bool tw] W (ItemPost src t { s with weekend := orDays s.weekend x.days } 0 B q hm mi mem H.flt (rowsOf s H cl) W) := by
  obtain ⟨u0, HU⟩ : ∃ u0, Hid (W.alloc (.cells (ic (x, sl)).toArray 55) = u0) := ⟨_, rfl⟩
  have HI : Hid (IB W.heap.size x sl u0) := by rw [← HU.out]; exact blk_newn rfl
  have k0 : u0.cell? ⟨W.heap.size, 0, none⟩ = some (.int .i64 x.kind) := cell_of_blk HI.out 0
  have HR : Hid (RS src t s B q hm mi mem H cl u0) := by rw [← HU.out]; exact h.rs.alloc _
  have HF : Hid (Fr (Wr q hm (rowsOf s H cl)) W u0) := by rw [← HU.out]; exact (Fr.refl _ W).alloc _
  have HD : Hid (x.days.length = 7) := h.ok.days
  have HP := Lib.hid h; clear h
  rw [h4] at k0
  clear h4
  go_enter Tryd.func28, Tryd.ntmps28
  go_upto_region 1 with fail
  rw [HU.out]
  clear HU
  go_upto_region 3 with fail
  iterate 4 go_step
  refine wpList_load_mid rfl 29 _ rfl W.heap.size 23 rfl (daysv x.days).toList _ (by
    intro j v hj
    have hj7 : j < 7 := (List.getElem?_eq_some_iff.1 hj).1
    rcases seven_cases hj7 with rfl | rfl | rfl | rfl | rfl | rfl | rfl <;> (simp [daysv] at hj; subst hj; exact cell_of_blk HI.out _)) Tryd.underlying29 rfl info_week ?_
  simp only [Act.put, List.setIfInBounds_toArray, List.set_cons_zero, List.set_cons_succ, Array.toArray_toList]
  obtain ⟨dv, hdv⟩ : ∃ dv, daysv x.days = dv := ⟨_, rfl⟩
  rw [hdv]
  have HDV := Lib.hid hdv; clear hdv
  go_wp2_with fail
  go_loopw [20] (fun i wr => WRel src t s B q hm mi mem H cl x W i wr) (fun i wr => 7 - (intOf i).toNat)
  case atStart => exact ⟨0, rfl, Nat.zero_le _, HR.out, HF.out⟩
  case round =>
    clear HR HF k0
    obtain ⟨k, rfl, hk, hR, hF⟩ := hrel
    have HR := Lib.hid hR; have HF := Lib.hid hF; clear hR hF
    by_cases hlt : k < 7
    · have hix := fun w => index_day x.days hlt w
      rw [HDV.out] at hix
      obtain ⟨e1, e2⟩ := orK_succ HP.out.rs.wk HD.out hlt
      have HE1 := Lib.hid e1
      obtain ⟨qc, qf⟩ := HR.out.vq (5 + k) (week_cell _ _ _ _ _ _ hlt)
      have qc : wr.cell? ⟨q, 5 + k, none⟩ = some (.bool (s.weekend.getD k false)) := by rw [← e2]; exact qc
      have QC : wr.drew.cell? ⟨q, 5 + k, none⟩ = some (.bool (s.weekend.getD k false)) := qc
      have i1 : (0 : Int) ≤ (k : Int) := Int.natCast_nonneg _
      have i2 : (k : Int) < 7 := by omega
      clear e1 e2
      have HN : Hid (WRel src t s B q hm mi mem H cl x W (.int .i64 ((k : Int) + 1)) (wr.drew.setCell ⟨q, 5 + k, none⟩ (.bool (s.weekend.getD k false || x.days.getD k false)))) := by
        refine ⟨k + 1, rfl, hlt, ?_, HF.out.drew.setCell (.inl (.inl rfl)) _⟩
        rw [HE1.out]
        exact HR.out.drew.week k hlt _
      obtain ⟨bx, hbx⟩ : ∃ bx, x.days.getD k false = bx := ⟨_, rfl⟩
      obtain ⟨bs, hbs⟩ : ∃ bs, s.weekend.getD k false = bs := ⟨_, rfl⟩
      rw [hbx] at hix HN
      rw [hbs] at qc QC HN
      clear hbx hbs
      cases bs with
      | true =>
        rw [Bool.true_or] at HN
        go_wp2_with fail
        refine Reg.G.start (by kernel_rfl) ?_
        refine' Reg.G.pure (i := 0) (v := _) rfl (by rfl) (by kernel_rfl) (by kernel_rfl) (by kernel_rfl) (fun _ _ _ h => h) ?hyw1_0 ?rew1_0
        case hyw1_0 => exact fun w => by first | (go_simp; done) | (go_simp; with_reducible rfl)
        simp only [Act.put, List.setIfInBounds_toArray, List.set_cons_zero, List.set_cons_succ]
        refine' Reg.G.pure (i := 1) (v := _) rfl (by rfl) (by kernel_rfl) (by kernel_rfl) (by kernel_rfl) (fun _ _ _ h => h) ?hyw1_1 ?rew1_1
        case hyw1_1 => exact fun w => by first | (go_simp; done) | (go_simp; with_reducible rfl)
        simp only [Act.put, List.setIfInBounds_toArray, List.set_cons_zero, List.set_cons_succ]
        refine' Reg.G.pure (i := 2) (v := _) rfl (by rfl) (by kernel_rfl) (by kernel_rfl) (by kernel_rfl) (fun _ _ _ h => h) ?hyw1_2 ?rew1_2
        case hyw1_2 => exact fun w => by first | (go_simp; done) | (go_simp; with_reducible rfl)
        simp only [Act.put, List.setIfInBounds_toArray, List.set_cons_zero, List.set_cons_succ]
        refine' Reg.G.pure (i := 3) (v := _) rfl (by rfl) (by kernel_rfl) (by kernel_rfl) (by kernel_rfl) (fun _ _ _ h => h) ?hyw1_3 ?rew1_3
        case hyw1_3 => exact fun w => by first | (go_simp; done) | (go_simp; with_reducible rfl)
        simp only [Act.put, List.setIfInBounds_toArray, List.set_cons_zero, List.set_cons_succ]
        refine' Reg.G.pure (i := 4) (v := _) rfl (by rfl) (by kernel_rfl) (by kernel_rfl) (by kernel_rfl) (fun _ _ _ h => h) ?hyw1_4 ?rew1_4
        case hyw1_4 => exact fun w => by first | (go_simp; done) | (go_simp; with_reducible rfl)
        simp only [Act.put, List.setIfInBounds_toArray, List.set_cons_zero, List.set_cons_succ]
        refine' Reg.G.pure (i := 5) (v := _) rfl (by rfl) (by kernel_rfl) (by kernel_rfl) (by kernel_rfl) (fun _ _ _ h => h) ?hyw1_5 ?rew1_5
        case hyw1_5 => exact fun w => by first | (go_simp; done) | (go_simp; with_reducible rfl)
        simp only [Act.put, List.setIfInBounds_toArray, List.set_cons_zero, List.set_cons_succ]
        refine' Reg.G.pure (i := 6) (v := _) rfl (by rfl) (by kernel_rfl) (by kernel_rfl) (by kernel_rfl) (fun _ _ _ h => h) ?hyw1_6 ?rew1_6
        case hyw1_6 => exact fun w => by first | (go_simp; done) | (go_simp; with_reducible rfl)
        simp only [Act.put, List.setIfInBounds_toArray, List.set_cons_zero, List.set_cons_succ]
        refine' Reg.G.pure (i := 7) (v := _) rfl (by rfl) (by kernel_rfl) (by kernel_rfl) (by kernel_rfl) (fun _ _ _ h => h) ?hyw1_7 ?rew1_7
        case hyw1_7 => exact fun w => by first | (go_simp; done) | (go_simp; with_reducible rfl)
        simp only [Act.put, List.setIfInBounds_toArray, List.set_cons_zero, List.set_cons_succ]
        refine' Reg.G.pure (i := 8) (v := _) rfl (by rfl) (by kernel_rfl) (by kernel_rfl) (by kernel_rfl) (fun _ _ _ h => h) ?hyw1_8 ?rew1_8
        case hyw1_8 => exact fun w => by first | (go_simp; done) | (go_simp; with_reducible rfl)
        simp only [Act.put, List.setIfInBounds_toArray, List.set_cons_zero, List.set_cons_succ]
        refine' Reg.G.take (i := 9) (v := _) (F := fun w => w.cell? ⟨q, 5 + k, none⟩ = some (.bool true)) rfl (by rfl) (by kernel_rfl) (by kernel_rfl) (by kernel_rfl) (fun _ _ _ h => h) (by exact QC) ?hyw1_9 ?rew1_9
        case hyw1_9 => intro w hw; first | (go_simp; done) | (go_simp; with_reducible rfl)
        simp only [Act.put, List.setIfInBounds_toArray, List.set_cons_zero, List.set_cons_succ]
        refine' Reg.G.pure (i := 10) (v := _) rfl (by rfl) (by kernel_rfl) (by kernel_rfl) (by kernel_rfl) (fun _ _ _ h => h) ?hyw1_10 ?rew1_10
        case hyw1_10 => exact fun w => by first | (go_simp; done) | (go_simp; with_reducible rfl)
        simp only [Act.put, List.setIfInBounds_toArray, List.set_cons_zero, List.set_cons_succ]
        refine Reg.G.skip (i := 11) rfl (by rfl) (by kernel_rfl) (by kernel_rfl) (by kernel_rfl) (fun _ _ _ h => h) ?_
        simp only [Act.put, List.setIfInBounds_toArray, List.set_cons_zero, List.set_cons_succ]
        refine' Reg.G.pure (i := 12) (v := _) rfl (by rfl) (by kernel_rfl) (by kernel_rfl) (by kernel_rfl) (fun _ _ _ h => h) ?hyw1_12 ?rew1_12
        case hyw1_12 => exact fun w => by first | (go_simp; done) | (go_simp; with_reducible rfl)
        simp only [Act.put, List.setIfInBounds_toArray, List.set_cons_zero, List.set_cons_succ]
        refine' Reg.G.pure (i := 13) (v := _) rfl (by rfl) (by kernel_rfl) (by kernel_rfl) (by kernel_rfl) (fun _ _ _ h => h) ?hyw1_13 ?rew1_13
        case hyw1_13 => exact fun w => by first | (go_simp; done) | (go_simp; with_reducible rfl)
        simp only [Act.put, List.setIfInBounds_toArray, List.set_cons_zero, List.set_cons_succ]
        refine' Reg.G.pure (i := 14) (v := _) rfl (by rfl) (by kernel_rfl) (by kernel_rfl) (by kernel_rfl) (fun _ _ _ h => h) ?hyw1_14 ?rew1_14
        case hyw1_14 => exact fun w => by first | (go_simp; done) | (go_simp; with_reducible rfl)
        simp only [Act.put, List.setIfInBounds_toArray, List.set_cons_zero, List.set_cons_succ]
        refine' Reg.G.pure (i := 15) (v := _) rfl (by rfl) (by kernel_rfl) (by kernel_rfl) (by kernel_rfl) (fun _ _ _ h => h) ?hyw1_15 ?rew1_15
        case hyw1_15 => exact fun w => by first | (go_simp; done) | (go_simp; with_reducible rfl)
        simp only [Act.put, List.setIfInBounds_toArray, List.set_cons_zero, List.set_cons_succ]
        refine' Reg.G.pure (i := 16) (v := _) rfl (by rfl) (by kernel_rfl) (by kernel_rfl) (by kernel_rfl) (fun _ _ _ h => h) ?hyw1_16 ?rew1_16
        case hyw1_16 => exact fun w => by first | (go_simp; done) | (go_simp; with_reducible rfl)
        simp only [Act.put, List.setIfInBounds_toArray, List.set_cons_zero, List.set_cons_succ]
        refine' Reg.G.pure (i := 17) (v := _) rfl (by rfl) (by kernel_rfl) (by kernel_rfl) (by kernel_rfl) (fun _ _ _ h => h) ?hyw1_17 ?rew1_17
        case hyw1_17 => exact fun w => by first | (go_simp; done) | (go_simp; with_reducible rfl)
        simp only [Act.put, List.setIfInBounds_toArray, List.set_cons_zero, List.set_cons_succ]
        refine Reg.G.step (j := 18) (m := [false]) [9] rfl (by kernel_rfl) rfl (by kernel_rfl) (fun K hK => ?_)
        -- Op.store 4 (t41) (t36)
        go_simp
        refine hK.out _ _ trivial ?_
        clear hK K
        simp only [Act.put, List.setIfInBounds_toArray, List.set_cons_zero, List.set_cons_succ, Reg.Kept]
        refine Reg.G.done (by kernel_rfl) ?_
        go_wp2_with fail
        go_roundw
        case rel => exact HN.out
        case measure => simp [intOf]; omega
      | false =>
        rw [Bool.false_or] at HN
        go_wp2_with fail
        refine Reg.G.start (by kernel_rfl) ?_
        refine' Reg.G.pure (i := 0) (v := _) rfl (by rfl) (by kernel_rfl) (by kernel_rfl) (by kernel_rfl) (fun _ _ _ h => h) ?hyw2_0 ?rew2_0
        case hyw2_0 => exact fun w => by first | (go_simp; done) | (go_simp; with_reducible rfl)
        simp only [Act.put, List.setIfInBounds_toArray, List.set_cons_zero, List.set_cons_succ]
        refine' Reg.G.pure (i := 1) (v := _) rfl (by rfl) (by kernel_rfl) (by kernel_rfl) (by kernel_rfl) (fun _ _ _ h => h) ?hyw2_1 ?rew2_1
        case hyw2_1 => exact fun w => by first | (go_simp; done) | (go_simp; with_reducible rfl)
        simp only [Act.put, List.setIfInBounds_toArray, List.set_cons_zero, List.set_cons_succ]
        refine' Reg.G.pure (i := 2) (v := _) rfl (by rfl) (by kernel_rfl) (by kernel_rfl) (by kernel_rfl) (fun _ _ _ h => h) ?hyw2_2 ?rew2_2
        case hyw2_2 => exact fun w => by first | (go_simp; done) | (go_simp; with_reducible rfl)
        simp only [Act.put, List.setIfInBounds_toArray, List.set_cons_zero, List.set_cons_succ]
        refine' Reg.G.pure (i := 3) (v := _) rfl (by rfl) (by kernel_rfl) (by kernel_rfl) (by kernel_rfl) (fun _ _ _ h => h) ?hyw2_3 ?rew2_3
        case hyw2_3 => exact fun w => by first | (go_simp; done) | (go_simp; with_reducible rfl)
        simp only [Act.put, List.setIfInBounds_toArray, List.set_cons_zero, List.set_cons_succ]
        refine' Reg.G.pure (i := 4) (v := _) rfl (by rfl) (by kernel_rfl) (by kernel_rfl) (by kernel_rfl) (fun _ _ _ h => h) ?hyw2_4 ?rew2_4
        case hyw2_4 => exact fun w => by first | (go_simp; done) | (go_simp; with_reducible rfl)
        simp only [Act.put, List.setIfInBounds_toArray, List.set_cons_zero, List.set_cons_succ]
        refine' Reg.G.pure (i := 5) (v := _) rfl (by rfl) (by kernel_rfl) (by kernel_rfl) (by kernel_rfl) (fun _ _ _ h => h) ?hyw2_5 ?rew2_5
        case hyw2_5 => exact fun w => by first | (go_simp; done) | (go_simp; with_reducible rfl)
        simp only [Act.put, List.setIfInBounds_toArray, List.set_cons_zero, List.set_cons_succ]
        refine' Reg.G.pure (i := 6) (v := _) rfl (by rfl) (by kernel_rfl) (by kernel_rfl) (by kernel_rfl) (fun _ _ _ h => h) ?hyw2_6 ?rew2_6
        case hyw2_6 => exact fun w => by first | (go_simp; done) | (go_simp; with_reducible rfl)
        simp only [Act.put, List.setIfInBounds_toArray, List.set_cons_zero, List.set_cons_succ]
        refine' Reg.G.pure (i := 7) (v := _) rfl (by rfl) (by kernel_rfl) (by kernel_rfl) (by kernel_rfl) (fun _ _ _ h => h) ?hyw2_7 ?rew2_7
        case hyw2_7 => exact fun w => by first | (go_simp; done) | (go_simp; with_reducible rfl)
        simp only [Act.put, List.setIfInBounds_toArray, List.set_cons_zero, List.set_cons_succ]
        refine' Reg.G.pure (i := 8) (v := _) rfl (by rfl) (by kernel_rfl) (by kernel_rfl) (by kernel_rfl) (fun _ _ _ h => h) ?hyw2_8 ?rew2_8
        case hyw2_8 => exact fun w => by first | (go_simp; done) | (go_simp; with_reducible rfl)
        simp only [Act.put, List.setIfInBounds_toArray, List.set_cons_zero, List.set_cons_succ]
        refine' Reg.G.take (i := 9) (v := _) (F := fun w => w.cell? ⟨q, 5 + k, none⟩ = some (.bool false)) rfl (by rfl) (by kernel_rfl) (by kernel_rfl) (by kernel_rfl) (fun _ _ _ h => h) (by exact QC) ?hyw2_9 ?rew2_9
        case hyw2_9 => intro w hw; first | (go_simp; done) | (go_simp; with_reducible rfl)
        simp only [Act.put, List.setIfInBounds_toArray, List.set_cons_zero, List.set_cons_succ]
        refine' Reg.G.pure (i := 10) (v := _) rfl (by rfl) (by kernel_rfl) (by kernel_rfl) (by kernel_rfl) (fun _ _ _ h => h) ?hyw2_10 ?rew2_10
        case hyw2_10 => exact fun w => by first | (go_simp; done) | (go_simp; with_reducible rfl)
        simp only [Act.put, List.setIfInBounds_toArray, List.set_cons_zero, List.set_cons_succ]
        refine' Reg.G.pure (i := 11) (v := _) rfl (by rfl) (by kernel_rfl) (by kernel_rfl) (by kernel_rfl) (fun _ _ _ h => h) ?hyw2_11 ?rew2_11
        case hyw2_11 => exact fun w => by first | (go_simp; done) | (go_simp; with_reducible rfl)
        simp only [Act.put, List.setIfInBounds_toArray, List.set_cons_zero, List.set_cons_succ]
        refine' Reg.G.pure (i := 12) (v := _) rfl (by rfl) (by kernel_rfl) (by kernel_rfl) (by kernel_rfl) (fun _ _ _ h => h) ?hyw2_12 ?rew2_12
        case hyw2_12 => exact fun w => by first | (go_simp; done) | (go_simp; with_reducible rfl)
        simp only [Act.put, List.setIfInBounds_toArray, List.set_cons_zero, List.set_cons_succ]
        refine' Reg.G.pure (i := 13) (v := _) rfl (by rfl) (by kernel_rfl) (by kernel_rfl) (by kernel_rfl) (fun _ _ _ h => h) ?hyw2_13 ?rew2_13
        case hyw2_13 => exact fun w => by first | (go_simp; done) | (go_simp; with_reducible rfl)
        simp only [Act.put, List.setIfInBounds_toArray, List.set_cons_zero, List.set_cons_succ]
        refine' Reg.G.pure (i := 14) (v := _) rfl (by rfl) (by kernel_rfl) (by kernel_rfl) (by kernel_rfl) (fun _ _ _ h => h) ?hyw2_14 ?rew2_14
        case hyw2_14 => exact fun w => by first | (go_simp; done) | (go_simp; with_reducible rfl)
        simp only [Act.put, List.setIfInBounds_toArray, List.set_cons_zero, List.set_cons_succ]
        refine' Reg.G.pure (i := 15) (v := _) rfl (by rfl) (by kernel_rfl) (by kernel_rfl) (by kernel_rfl) (fun _ _ _ h => h) ?hyw2_15 ?rew2_15
        case hyw2_15 => exact fun w => by first | (go_simp; done) | (go_simp; with_reducible rfl)
        simp only [Act.put, List.setIfInBounds_toArray, List.set_cons_zero, List.set_cons_succ]
        refine' Reg.G.pure (i := 16) (v := _) rfl (by rfl) (by kernel_rfl) (by kernel_rfl) (by kernel_rfl) (fun _ _ _ h => h) ?hyw2_16 ?rew2_16
        case hyw2_16 => exact fun w => by first | (go_simp; done) | (go_simp; with_reducible rfl)
        simp only [Act.put, List.setIfInBounds_toArray, List.set_cons_zero, List.set_cons_succ]
        refine' Reg.G.pure (i := 17) (v := _) rfl (by rfl) (by kernel_rfl) (by kernel_rfl) (by kernel_rfl) (fun _ _ _ h => h) ?hyw2_17 ?rew2_17
        case hyw2_17 => exact fun w => by first | (go_simp; done) | (go_simp; with_reducible rfl)
        simp only [Act.put, List.setIfInBounds_toArray, List.set_cons_zero, List.set_cons_succ]
        refine Reg.G.step (j := 18) (m := [false]) [9] rfl (by kernel_rfl) rfl (by kernel_rfl) (fun K hK => ?_)
        -- Op.store 4 (t41) (t36)
        go_simp
        refine hK.out _ _ trivial ?_
        clear hK K
        simp only [Act.put, List.setIfInBounds_toArray, List.set_cons_zero, List.set_cons_succ, Reg.Kept]
        refine Reg.G.done (by kernel_rfl) ?_
        go_wp2_with fail
        go_roundw
        case rel => exact HN.out
        case measure => simp [intOf]; omega
    · obtain rfl : k = 7 := by omega
      go_wp2_with fail
      go_ret
      refine ⟨rfl, ⟨H, cl, ?_, HP.out.nil, rfl⟩, HF.out⟩
      rw [← orK_seven HP.out.rs.wk HD.out]
      exact HR.out
end Go.Proofs.YtdhjibnkebbejaaDoor.Rs
