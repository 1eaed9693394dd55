/-
  What Parse returns where the parser finds an error.
-/
import Derived.Test.YtfaflipphkoiiaaDoorParParse
namespace Go.Proofs.YtfaflipphkoiiaaDoor.Pr
open Go.RowKit Mem
open Lx (Tok bs cellsAll cellsOf)
set_option linter.unusedVariables false

set_option maxRecDepth 100000 in
set_option maxHeartbeats 400000 in
theorem parse_p2 (s : ByteArray) (w : World) (hs : s.size ≤ 9223372036854775807) (hw : Wks w) (ts : List Tok) (hL : Lx.lex (bs s) = .ok ts) (src : Source) (sx : St) (hS : source ⟨ts, 0, 0⟩ = (src, sx)) (he : sx.err ≠ 0) :
    Calls Tryd.prog 11 #[.string s] w fun e w' => ParseEnd s w.heap.size e w' ∧ Below w.heap.size w w' := by
  have HPE : Hid (parse (bs s) = .error (sx.err, (atOf s.size sx : Int))) := by show parse (bs s) = _; unfold parse; rw [hL]; simp only; rw [hS]; simp only; rw [if_neg he, Lx.bs_length]
  have HLN := Lib.hid (lex_len hL)
  have HL := Lib.hid hL; have HS := Lib.hid hS; have HE := Lib.hid he; have HWK := Lib.hid hw
  clear hL hS he hw
  go_enter Tryd.func11, Tryd.ntmps11
  go_wp2_with fail
  refine (Lx.lex_ok s _ hs ts HL.out).mono ?_
  rintro e w1 ⟨⟨A, cap, rfl, hO⟩, hb⟩
  have HR1 : Hid (SB w.heap.size [] civ0 0 nil w1) := (hb.block w.heap.size (by simp)).trans (blk_newn (by simp))
  have HB1 : Hid (Below w.heap.size w w1) := ((Below.refl w.heap.size w).alloc (Nat.le_refl _) _).trans (below_le hb (by simp))
  have HO := Lib.hid hO
  have hsz1 : w.heap.size < w1.heap.size := lt_of_blk HR1.out
  clear hb hO
  have HPW : Hid (PW ⟨ts, A, cap, s.size⟩ w1.heap.size ⟨ts, 0, 0⟩ (w1.alloc (.cells (pcells ⟨ts, A, cap, s.size⟩ 0 ⟨ts, 0, 0⟩) 67))) := PW_start HO.out (HWK.out.below HB1.out) HLN.out
  go_wp2_with fail
  refine (source_any ⟨ts, A, cap, s.size⟩ w1.heap.size ⟨ts, 0, 0⟩ _ HPW.out).mono ?_
  rw [HS.out]
  rintro e w2 ⟨⟨si, rfl, hRS⟩, hA⟩
  obtain ⟨n0, _, _, _, _, _, _, c4, c5⟩ := hA.1.cells
  have HR2 : Hid (SB w.heap.size [] civ0 0 nil w2) := hA.2.blk (blk_alloc HR1.out _) (by omega)
  have HB2 : Hid (Below w.heap.size w w2) := HB1.out.trans (((Fr.refl (fun k => k = w1.heap.size) w1).alloc _).trans hA.2 |>.below (by omega) (fun k hk => by omega))
  have HRS2 : Hid (RowS (w.heap.size + 1) src.items si w2) := hRS.carry fun e z v n xs ho => own_base ho (by simp only [World.size_alloc]; omega)
  have hq2 := hA.1.2.2.1
  have hf : ∃ A n c, si = .slice A n c := by obtain ⟨vs, h⟩ := hRS; obtain ⟨A, c, e⟩ := h.form; exact ⟨A, _, c, e⟩
  have HF := Lib.hid hf
  clear hA hRS HPW HR1 hf HRS2
  have a4 : ∀ o, (w2.alloc o).cell? ⟨w1.heap.size, 4, none⟩ = some (.int .i64 (sx.err : Int)) := fun o => (World.cell?_alloc_lt w2 o ⟨w1.heap.size, 4, none⟩ hq2).trans c4
  have a5 : ∀ o, (w2.alloc o).cell? ⟨w1.heap.size, 5, none⟩ = some (.int .i64 (atOf s.size sx : Int)) := fun o => (World.cell?_alloc_lt w2 o ⟨w1.heap.size, 5, none⟩ hq2).trans c5
  clear c4 c5
  have hb0 : ((sx.err : Int) == 0) = false := beq_eq_false_iff_ne.2 (by have := HE.out; omega)
  have HR3 : Hid (SB w.heap.size [] civ0 0 nil (w2.alloc (.cells (srcells src.name src.frm src.days si).toArray 27))) := blk_alloc HR2.out _
  have HB3 : Hid (Below w.heap.size w (w2.alloc (.cells (srcells src.name src.frm src.days si).toArray 27))) := HB2.out.alloc (by have := HB2.out.size; omega) _
  have g4 := a4 (.cells (srcells src.name src.frm src.days si).toArray 27)
  have g5 := a5 (.cells (srcells src.name src.frm src.days si).toArray 27)
  clear HB2 HR2
  go_wp2_with (refine wpList_store_new rfl 27 _ _ rfl rfl (srcells src.name src.frm src.days si).toArray rfl info_src (srcells_one _ _ _ _ HF.out) (by rfl) ?_)
  clear a4 a5
  generalize w2.alloc (.cells (srcells src.name src.frm src.days si).toArray 27) = w3 at *
  have r0 : w3.cell? ⟨w.heap.size, 0, none⟩ = some (.string ⟨#[]⟩) := cell_of_blk HR3.out 0
  have r1 : w3.cell? ⟨w.heap.size, 1, none⟩ = some (.int .i64 0) := cell_of_blk HR3.out 1
  have r2 : w3.cell? ⟨w.heap.size, 2, none⟩ = some (.int .i64 0) := cell_of_blk HR3.out 2
  have r3 : w3.cell? ⟨w.heap.size, 3, none⟩ = some (.int .i64 0) := cell_of_blk HR3.out 3
  have r4 : w3.cell? ⟨w.heap.size, 4, none⟩ = some (.int .i64 0) := cell_of_blk HR3.out 4
  have r5 : w3.cell? ⟨w.heap.size, 5, none⟩ = some (.slice none 0 0) := cell_of_blk HR3.out 5
  have z0 : w3.frozen? ⟨w.heap.size, 0, none⟩ = false := froz_of_blk HR3.out 0
  have z1 : w3.frozen? ⟨w.heap.size, 1, none⟩ = false := froz_of_blk HR3.out 1
  have z2 : w3.frozen? ⟨w.heap.size, 2, none⟩ = false := froz_of_blk HR3.out 2
  have z3 : w3.frozen? ⟨w.heap.size, 3, none⟩ = false := froz_of_blk HR3.out 3
  have z4 : w3.frozen? ⟨w.heap.size, 4, none⟩ = false := froz_of_blk HR3.out 4
  have z5 : w3.frozen? ⟨w.heap.size, 5, none⟩ = false := froz_of_blk HR3.out 5
  go_region
  have HS9 : Hid (SB w.heap.size [] civ0 0 nil ((((((w3.setCell ⟨w.heap.size, 0, none⟩ (.string ⟨#[]⟩)).setCell ⟨w.heap.size, 1, none⟩ (.int .i64 0)).setCell ⟨w.heap.size, 2, none⟩ (.int .i64 0)).setCell ⟨w.heap.size, 3, none⟩ (.int .i64 0)).setCell ⟨w.heap.size, 4, none⟩ (.int .i64 0)).setCell ⟨w.heap.size, 5, none⟩ (.slice none 0 0)).drew) := by
    have b0 : w3.heap[w.heap.size]? = some (.cells (srcells [] civ0 0 nil).toArray 27 (0, 0)) := HR3.out
    have b1 := blk_set b0 0 (.string ⟨#[]⟩)
    have b2 := blk_set b1 1 (.int .i64 0)
    have b3 := blk_set b2 2 (.int .i64 0)
    have b4 := blk_set b3 3 (.int .i64 0)
    have b5 := blk_set b4 4 (.int .i64 0)
    have b6 := blk_set b5 5 (.slice none 0 0)
    exact blk_drewN b6 1
  have HB9 : Hid (Below w.heap.size w ((((((w3.setCell ⟨w.heap.size, 0, none⟩ (.string ⟨#[]⟩)).setCell ⟨w.heap.size, 1, none⟩ (.int .i64 0)).setCell ⟨w.heap.size, 2, none⟩ (.int .i64 0)).setCell ⟨w.heap.size, 3, none⟩ (.int .i64 0)).setCell ⟨w.heap.size, 4, none⟩ (.int .i64 0)).setCell ⟨w.heap.size, 5, none⟩ (.slice none 0 0)).drew) := by
    show Below w.heap.size w ((((((w3.setCell ⟨w.heap.size, 0, none⟩ (.string ⟨#[]⟩)).setCell ⟨w.heap.size, 1, none⟩ (.int .i64 0)).setCell ⟨w.heap.size, 2, none⟩ (.int .i64 0)).setCell ⟨w.heap.size, 3, none⟩ (.int .i64 0)).setCell ⟨w.heap.size, 4, none⟩ (.int .i64 0)).setCell ⟨w.heap.size, 5, none⟩ (.slice none 0 0)).drew
    exact below_drewN ((((((HB3.out.setCell (p := ⟨w.heap.size, 0, none⟩) (Nat.le_refl _) _).setCell (p := ⟨w.heap.size, 1, none⟩) (Nat.le_refl _) _).setCell (p := ⟨w.heap.size, 2, none⟩) (Nat.le_refl _) _).setCell (p := ⟨w.heap.size, 3, none⟩) (Nat.le_refl _) _).setCell (p := ⟨w.heap.size, 4, none⟩) (Nat.le_refl _) _).setCell (p := ⟨w.heap.size, 5, none⟩) (Nat.le_refl _) _) 1
  clear r0 r1 r2 r3 r4 r5 z0 z1 z2 z3 z4 z5 g4 g5
  generalize ((((((w3.setCell ⟨w.heap.size, 0, none⟩ (.string ⟨#[]⟩)).setCell ⟨w.heap.size, 1, none⟩ (.int .i64 0)).setCell ⟨w.heap.size, 2, none⟩ (.int .i64 0)).setCell ⟨w.heap.size, 3, none⟩ (.int .i64 0)).setCell ⟨w.heap.size, 4, none⟩ (.int .i64 0)).setCell ⟨w.heap.size, 5, none⟩ (.slice none 0 0)).drew = w9 at *
  have HL9 : Hid ((loadVar 27 ⟨w.heap.size, 0, none⟩).run Tryd.prog w9 = .ok (.agg (srcells [] civ0 0 nil).toArray) w9) := run_loadVar_mid _ _ _ _ (srcells [] civ0 0 nil) _ HS9.out.range Tryd.underlying27 rfl info_src
  go_wp2_with fail
  exact bodyPost_ret (results_cell3 Tryd.results11 rfl rfl rfl HL9.out) rfl ⟨ParseEnd.of_err HPE.out rfl, HB9.out⟩

theorem parse_any (s : ByteArray) (w : World) (hs : s.size ≤ 9223372036854775807) (hw : Wks w) :
    Calls Tryd.prog 11 #[.string s] w fun e w' => ParseEnd s w.heap.size e w' ∧ Below w.heap.size w w' := by
  cases hL : Lx.lex (bs s) with
  | error x =>
    obtain ⟨er, p⟩ := x
    exact parse_p1 s w hs er p hL
  | ok ts =>
    obtain ⟨src, sx, hS⟩ : ∃ src sx, source ⟨ts, 0, 0⟩ = (src, sx) := ⟨_, _, rfl⟩
    by_cases he : sx.err = 0
    · exact parse_p3 s w hs hw ts hL src sx hS he
    · exact parse_p2 s w hs hw ts hL src sx hS he
theorem parse_ok (s : ByteArray) (w : World) (hs : s.size ≤ 9223372036854775807) (hw : Wks w) (src : Source) (h : parse (bs s) = .ok src) :
    Calls Tryd.prog 11 #[.string s] w fun e w' => (∃ si, e = .returned (.tuple #[.agg (srcells src.name src.frm src.days si).toArray, .int .i64 0, .int .i64 0]) ∧ RowS w.heap.size src.items si w') ∧ Below w.heap.size w w' := by
  refine (parse_any s w hs hw).mono fun e w' ⟨h1, h2⟩ => ⟨?_, h2⟩
  unfold ParseEnd at h1
  rw [h] at h1
  exact h1
theorem parse_no (s : ByteArray) (w : World) (hs : s.size ≤ 9223372036854775807) (hw : Wks w) (er : Nat) (p : Int) (h : parse (bs s) = .error (er, p)) :
    Calls Tryd.prog 11 #[.string s] w fun e w' => e = .returned (.tuple #[.agg (srcells [] civ0 0 nil).toArray, .int .i64 (er : Int), .int .i64 p]) ∧ Below w.heap.size w w' := by
  refine (parse_any s w hs hw).mono fun e w' ⟨h1, h2⟩ => ⟨?_, h2⟩
  unfold ParseEnd at h1
  rw [h] at h1
  exact h1
end Go.Proofs.YtfaflipphkoiiaaDoor.Pr
