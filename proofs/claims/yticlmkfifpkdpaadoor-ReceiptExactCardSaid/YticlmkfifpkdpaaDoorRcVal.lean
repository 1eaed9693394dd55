/-
  Rules and notices as arguments, and in boxes. receipt.Valid, wellFormed walked. receipt.stretches walked.
-/
import Derived.Test.YticlmkfifpkdpaaDoorRcExt
import Derived.Test.YticlmkfifpkdpaaDoorDlView
import Derived.Test.YticlmkfifpkdpaaDoorDlValid
namespace Go.Proofs.YticlmkfifpkdpaaDoor.Rc
open Go.ChangeShapes Go.WideShapes Go.RowKit Go.Shelf Mem Vw
open Zn (Zone ChRow loc localOf)
open Dl (When Term Cal noev whenc nv tc ccs Tree CalAt wf)
set_option linter.unusedVariables false
set_option linter.unusedSimpArgs false
def chc (c : Int × Int) : List Value := [nv c.1, nv c.2]
theorem chrow_of {W : World} {v : Value} {l : List (Int × Int)} (h : Row W v 2 (l.map chc)) : ∃ A cap, v = .slice A l.length cap ∧ ChRow W A l ∧ l.length ≤ 9223372036854775807 := by
  obtain ⟨A, cap, e, h1, h2⟩ := h
  rw [List.length_map] at e h1
  refine ⟨A, cap, e, fun hp => ?_, by omega⟩
  rcases h2 with h2 | ⟨g, o, hA, hg, hr⟩
  · rw [List.map_eq_nil_iff] at h2; rw [h2] at hp; simp at hp
  · refine ⟨g, o, hA, hg, fun i hi => ?_⟩
    have hc := hr i (chc l[i]) (by rw [List.getElem?_map, List.getElem?_eq_getElem hi]; rfl)
    exact ⟨hc 0 _ rfl, hc 1 _ rfl⟩
/-- Where the slices of a rule lie. -/
structure RP where
  A : Option Addr
  cap : Nat
  hv : Value
  T : Option Addr
  tcap : Nat
/-- A rule's cells. -/
def rcs (r : Rule) (p : RP) : List Value := [.int .i64 r.zone.off, .slice p.A r.zone.chs.length p.cap, .bool (r.cal.wk.getD 0 false), .bool (r.cal.wk.getD 1 false), .bool (r.cal.wk.getD 2 false), .bool (r.cal.wk.getD 3 false), .bool (r.cal.wk.getD 4 false), .bool (r.cal.wk.getD 5 false), .bool (r.cal.wk.getD 6 false), p.hv, .int .i64 r.term.kind, .int .i64 r.term.n, .int .i64 r.term.ev, .bool r.term.bus, .slice p.T r.term.kids.length p.tcap]
/-- A rule as it is read. -/
structure RuleAt (W : World) (r : Rule) (p : RP) : Prop where
  row : ChRow W p.A r.zone.chs
  len : r.zone.chs.length ≤ 9223372036854775807
  cal : CalAt W r.cal p.hv
  tr : Tree W r.term (.slice p.T r.term.kids.length p.tcap)
theorem RuleAt.below {W W' : World} {r : Rule} {p : RP} (h : RuleAt W r p) (hb : Below W.heap.size W W') : RuleAt W' r p := ⟨h.row.below hb, h.len, h.cal.below hb, h.tr.keep hb⟩
theorem rule_cells {W : World} {r : Rule} {p : RP} {B : Nat} (h : W.heap[B]? = some (.cells (rcs r p).toArray 33 (0, 0))) :
    (W.cell? ⟨B, 0, none⟩ = some (.int .i64 r.zone.off) ∧ W.cell? ⟨B, 1, none⟩ = some (.slice p.A r.zone.chs.length p.cap)) ∧
    ((W.cell? ⟨B, 2, none⟩ = some (.bool (r.cal.wk.getD 0 false)) ∧ W.cell? ⟨B, 3, none⟩ = some (.bool (r.cal.wk.getD 1 false)) ∧ W.cell? ⟨B, 4, none⟩ = some (.bool (r.cal.wk.getD 2 false)) ∧ W.cell? ⟨B, 5, none⟩ = some (.bool (r.cal.wk.getD 3 false))) ∧ W.cell? ⟨B, 6, none⟩ = some (.bool (r.cal.wk.getD 4 false)) ∧ W.cell? ⟨B, 7, none⟩ = some (.bool (r.cal.wk.getD 5 false)) ∧ W.cell? ⟨B, 8, none⟩ = some (.bool (r.cal.wk.getD 6 false)) ∧ W.cell? ⟨B, 9, none⟩ = some p.hv) ∧
    (W.cell? ⟨B, 10, none⟩ = some (.int .i64 r.term.kind) ∧ W.cell? ⟨B, 11, none⟩ = some (.int .i64 r.term.n) ∧ W.cell? ⟨B, 12, none⟩ = some (.int .i64 r.term.ev) ∧ W.cell? ⟨B, 13, none⟩ = some (.bool r.term.bus) ∧ W.cell? ⟨B, 14, none⟩ = some (.slice p.T r.term.kids.length p.tcap)) :=
  ⟨⟨Mem.cell_of_blk h 0, Mem.cell_of_blk h 1⟩, ⟨⟨Mem.cell_of_blk h 2, Mem.cell_of_blk h 3, Mem.cell_of_blk h 4, Mem.cell_of_blk h 5⟩, Mem.cell_of_blk h 6, Mem.cell_of_blk h 7, Mem.cell_of_blk h 8, Mem.cell_of_blk h 9⟩, Mem.cell_of_blk h 10, Mem.cell_of_blk h 11, Mem.cell_of_blk h 12, Mem.cell_of_blk h 13, Mem.cell_of_blk h 14⟩
/-- A notice's cells. -/
def ncs (n : Notice) : List Value := [.int .i64 n.sent, .int .i64 n.got, .int .i64 n.slack]
def NoticeOk (n : Notice) : Prop := wf n.sent ∧ wf n.got ∧ wf n.slack
section
variable {H : Type} {enc : TypeId × Value → H} {W : World} {base : Nat} {spare : Nat → Bool} {held : Bool}
theorem sizeZone : Tryd.prog.cellsOf 24 = 2 := by kernel_rfl
theorem sizeChange : Tryd.prog.cellsOf 126 = 2 := by kernel_rfl
theorem sizeChanges : Tryd.prog.cellsOf 22 = 1 := by kernel_rfl
theorem sizeRule : Tryd.prog.cellsOf 33 = 15 := by kernel_rfl
theorem sizeNotice : Tryd.prog.cellsOf 35 = 3 := by kernel_rfl
theorem op_change {n : Nat} {cs : List Value} {y : DataW H × List MemPlace} (h : DataW.trod enc Tryd.prog W base spare held n 126 cs = some y) : ∃ x : Int × Int, cs = chc x ∧ True := by
  obtain ⟨m, rfl, hl, hf⟩ := Dl.fields Tryd.underlying126 h
  rw [sizeChange] at hl
  obtain ⟨c0, cs0, rfl, hl0⟩ := Dl.cons_of hl
  obtain ⟨c1, cs1, rfl, hl1⟩ := Dl.cons_of hl0
  obtain rfl := Dl.nil_of hl1
  obtain ⟨z0, j0⟩ : ∃ z, DataW.trod enc Tryd.prog W base spare held m 3 [c0] = some z := by have := hf 0 _ 1 rfl Dl.sizeint; exact this
  obtain ⟨x0, e0, w0⟩ := Dl.op_int j0
  simp only [List.cons.injEq, and_true] at e0; subst e0
  obtain ⟨z1, j1⟩ : ∃ z, DataW.trod enc Tryd.prog W base spare held m 3 [c1] = some z := by have := hf 1 _ 1 rfl Dl.sizeint; exact this
  obtain ⟨x1, e1, w1⟩ := Dl.op_int j1
  simp only [List.cons.injEq, and_true] at e1; subst e1
  exact ⟨(x0, x1), rfl, trivial⟩
theorem op_zone {n : Nat} {cs : List Value} {y : DataW H × List MemPlace} (h : DataW.trod enc Tryd.prog W base spare held n 24 cs = some y) : ∃ (z : Zone) (A : Option Addr) (cap : Nat), cs = [.int .i64 z.off, .slice A z.chs.length cap] ∧ ChRow W A z.chs ∧ z.chs.length ≤ 9223372036854775807 := by
  obtain ⟨m, rfl, hl, hf⟩ := Dl.fields Tryd.underlying24 h
  rw [sizeZone] at hl
  obtain ⟨c0, cs0, rfl, hl0⟩ := Dl.cons_of hl
  obtain ⟨c1, cs1, rfl, hl1⟩ := Dl.cons_of hl0
  obtain rfl := Dl.nil_of hl1
  obtain ⟨z0, j0⟩ : ∃ z, DataW.trod enc Tryd.prog W base spare held m 3 [c0] = some z := by have := hf 0 _ 1 rfl Dl.sizeint; exact this
  obtain ⟨x0, e0, w0⟩ := Dl.op_int j0
  simp only [List.cons.injEq, and_true] at e0; subst e0
  obtain ⟨z1, j1⟩ : ∃ z, DataW.trod enc Tryd.prog W base spare held m 22 [c1] = some z := by have := hf 1 _ 1 rfl sizeChanges; exact this
  obtain ⟨l, r, _, _⟩ := row_of_trod Tryd.underlying22 sizeChange (by omega) chc (fun _ => True) (fun _ _ _ _ h => op_change h) j1
  obtain ⟨A, cap, rfl, h1, h2⟩ := chrow_of r
  exact ⟨⟨x0, l⟩, A, cap, rfl, h1, h2⟩
theorem op_rule {n : Nat} {cs : List Value} {y : DataW H × List MemPlace} (h : DataW.trod enc Tryd.prog W base spare held n 33 cs = some y) : ∃ (r : Rule) (p : RP), cs = rcs r p ∧ RuleAt W r p := by
  obtain ⟨m, rfl, hl, hf⟩ := Dl.fields Tryd.underlying33 h
  rw [sizeRule] at hl
  obtain ⟨c0, cs0, rfl, hl0⟩ := Dl.cons_of hl
  obtain ⟨c1, cs1, rfl, hl1⟩ := Dl.cons_of hl0
  obtain ⟨c2, cs2, rfl, hl2⟩ := Dl.cons_of hl1
  obtain ⟨c3, cs3, rfl, hl3⟩ := Dl.cons_of hl2
  obtain ⟨c4, cs4, rfl, hl4⟩ := Dl.cons_of hl3
  obtain ⟨c5, cs5, rfl, hl5⟩ := Dl.cons_of hl4
  obtain ⟨c6, cs6, rfl, hl6⟩ := Dl.cons_of hl5
  obtain ⟨c7, cs7, rfl, hl7⟩ := Dl.cons_of hl6
  obtain ⟨c8, cs8, rfl, hl8⟩ := Dl.cons_of hl7
  obtain ⟨c9, cs9, rfl, hl9⟩ := Dl.cons_of hl8
  obtain ⟨c10, cs10, rfl, hl10⟩ := Dl.cons_of hl9
  obtain ⟨c11, cs11, rfl, hl11⟩ := Dl.cons_of hl10
  obtain ⟨c12, cs12, rfl, hl12⟩ := Dl.cons_of hl11
  obtain ⟨c13, cs13, rfl, hl13⟩ := Dl.cons_of hl12
  obtain ⟨c14, cs14, rfl, hl14⟩ := Dl.cons_of hl13
  obtain rfl := Dl.nil_of hl14
  obtain ⟨z0, j0⟩ : ∃ z, DataW.trod enc Tryd.prog W base spare held m 24 [c0, c1] = some z := by have := hf 0 _ 2 rfl sizeZone; exact this
  obtain ⟨z, A, cap, e0, h1, h2⟩ := op_zone j0
  obtain ⟨z1, j1⟩ : ∃ z, DataW.trod enc Tryd.prog W base spare held m 28 [c2, c3, c4, c5, c6, c7, c8, c9] = some z := by have := hf 1 _ 8 rfl Dl.sizeCal; exact this
  obtain ⟨c, hv, e1, h3⟩ := Dl.op_cal j1
  obtain ⟨z2, j2⟩ : ∃ z, DataW.trod enc Tryd.prog W base spare held m 31 [c10, c11, c12, c13, c14] = some z := by have := hf 2 _ 5 rfl Dl.sizeTerm; exact this
  obtain ⟨x, e2, h4⟩ := Dl.op_term m j2
  obtain ⟨t, tv⟩ := x
  obtain ⟨T, tcap, e3, _, _⟩ := h4.slice
  dsimp only at e3 h4
  subst e3
  refine ⟨⟨z, c, t⟩, ⟨A, cap, hv, T, tcap⟩, ?_, ⟨h1, h2, h3, h4⟩⟩
  have e : [c0, c1, c2, c3, c4, c5, c6, c7, c8, c9, c10, c11, c12, c13, c14] = [c0, c1] ++ [c2, c3, c4, c5, c6, c7, c8, c9] ++ [c10, c11, c12, c13, c14] := rfl
  rw [e, e0, e1, e2]
  rfl
theorem op_notice {n : Nat} {cs : List Value} {y : DataW H × List MemPlace} (h : DataW.trod enc Tryd.prog W base spare held n 35 cs = some y) : ∃ x : Notice, cs = ncs x ∧ NoticeOk x := by
  obtain ⟨m, rfl, hl, hf⟩ := Dl.fields Tryd.underlying35 h
  rw [sizeNotice] at hl
  obtain ⟨c0, cs0, rfl, hl0⟩ := Dl.cons_of hl
  obtain ⟨c1, cs1, rfl, hl1⟩ := Dl.cons_of hl0
  obtain ⟨c2, cs2, rfl, hl2⟩ := Dl.cons_of hl1
  obtain rfl := Dl.nil_of hl2
  obtain ⟨z0, j0⟩ : ∃ z, DataW.trod enc Tryd.prog W base spare held m 3 [c0] = some z := by have := hf 0 _ 1 rfl Dl.sizeint; exact this
  obtain ⟨x0, e0, w0⟩ := Dl.op_int j0
  simp only [List.cons.injEq, and_true] at e0; subst e0
  obtain ⟨z1, j1⟩ : ∃ z, DataW.trod enc Tryd.prog W base spare held m 3 [c1] = some z := by have := hf 1 _ 1 rfl Dl.sizeint; exact this
  obtain ⟨x1, e1, w1⟩ := Dl.op_int j1
  simp only [List.cons.injEq, and_true] at e1; subst e1
  obtain ⟨z2, j2⟩ : ∃ z, DataW.trod enc Tryd.prog W base spare held m 3 [c2] = some z := by have := hf 2 _ 1 rfl Dl.sizeint; exact this
  obtain ⟨x2, e2, w2⟩ := Dl.op_int j2
  simp only [List.cons.injEq, and_true] at e2; subst e2
  exact ⟨⟨x0, x1, x2⟩, rfl, w0, w1, w2⟩
set_option maxRecDepth 100000 in
theorem open_rule {b0 : Nat} {r : Reach} {v : Value} {d : DataW H} {p : List MemPlace} (hv : Value.okWide Tryd.prog W r b0 33 v) (h : DataW.Trod enc Tryd.prog W base spare held 33 v d p) : ∃ x : Rule × RP, v = .agg (rcs x.1 x.2).toArray ∧ RuleAt W x.1 x.2 := by
  obtain ⟨cs, rfl, hsz⟩ := okWide_struct Tryd.underlying33 hv
  obtain ⟨cs⟩ := cs
  obtain ⟨n, hn⟩ := h
  have hn' : DataW.trod enc Tryd.prog W base spare held n 33 cs = some (d, p) := hn
  obtain ⟨r, q, e, h1⟩ := op_rule hn'
  exact ⟨(r, q), by rw [e], h1⟩
set_option maxRecDepth 100000 in
theorem open_notice {b0 : Nat} {r : Reach} {v : Value} {d : DataW H} {p : List MemPlace} (hv : Value.okWide Tryd.prog W r b0 35 v) (h : DataW.Trod enc Tryd.prog W base spare held 35 v d p) : ∃ x : Notice, v = .agg (ncs x).toArray ∧ NoticeOk x := by
  obtain ⟨cs, rfl, hsz⟩ := okWide_struct Tryd.underlying35 hv
  obtain ⟨cs⟩ := cs
  obtain ⟨n, hn⟩ := h
  have hn' : DataW.trod enc Tryd.prog W base spare held n 35 cs = some (d, p) := hn
  obtain ⟨x, e, h1⟩ := op_notice hn'
  exact ⟨x, by rw [e], h1⟩
end
end Go.Proofs.YticlmkfifpkdpaaDoor.Rc
namespace Go.Proofs.YticlmkfifpkdpaaDoor.Rc
open Go.RowKit Go.Shelf Mem Vw
open Zn (Zone ChRow loc localOf)
open Dl (When Term Cal noev whenc nv tc ccs Tree CalAt wf)
set_option linter.unusedVariables false
set_option linter.unusedSimpArgs false
theorem dated_any (x : Int) (W : World) : Calls Tryd.prog 58 #[.int .i64 x] W fun e w' => e = .returned (.bool (dated x)) ∧ W = w' := by
  have HD : Hid (dated x = (decide (x = -1) || (decide (0 ≤ x) && decide (x ≤ 105190559)))) := rfl
  by_cases h1 : x = -1
  · have HR : Hid (dated x = true) := by show _ = _; rw [HD.out]; simp [h1]
    rw [HR.out]
    clear HD HR
    subst h1
    go_enter Tryd.func58, Tryd.ntmps58
    go_wp2_with fail
    go_ret
    exact ⟨rfl, rfl⟩
  · have h1b : (x == -1) = false := beq_eq_false_iff_ne.2 h1
    by_cases h2 : 0 ≤ x
    · by_cases h3 : x ≤ 105190559
      · have HR : Hid (dated x = true) := by show _ = _; rw [HD.out]; simp [h1, h2, h3]
        rw [HR.out]
        go_enter Tryd.func58, Tryd.ntmps58
        go_wp2_with fail
        go_ret
        exact ⟨rfl, rfl⟩
      · have HR : Hid (dated x = false) := by show _ = _; rw [HD.out]; simp [h1, h2, h3]
        have h3b : decide (x ≤ 105190559) = false := decide_eq_false h3
        rw [HR.out]
        go_enter Tryd.func58, Tryd.ntmps58
        go_wp2_with fail
        go_ret
        exact ⟨rfl, rfl⟩
    · have HR : Hid (dated x = false) := by show _ = _; rw [HD.out]; simp [h1, h2]
      have h2b : decide (0 ≤ x) = false := decide_eq_false h2
      rw [HR.out]
      go_enter Tryd.func58, Tryd.ntmps58
      go_wp2_with fail
      go_ret
      exact ⟨rfl, rfl⟩
set_option maxRecDepth 100000 in
set_option maxHeartbeats 8000000 in
theorem formed_any (n : Notice) (W : World) : Calls Tryd.prog 37 #[.agg (ncs n).toArray] W fun e w' => e = .returned (.bool (formed n)) ∧ Below W.heap.size W w' := by
  obtain ⟨s, g, k⟩ := n
  show Calls Tryd.prog 37 #[.agg #[.int .i64 s, .int .i64 g, .int .i64 k]] W _
  have HF : Hid (formed ⟨s, g, k⟩ = (dated s && dated g && decide (0 ≤ k) && decide (k ≤ 2880))) := rfl
  have HDS : Hid (∀ Y, Calls Tryd.prog 58 #[.int .i64 s] Y fun e w' => e = .returned (.bool (dated s)) ∧ Y = w') := fun Y => dated_any s Y
  have HDG : Hid (∀ Y, Calls Tryd.prog 58 #[.int .i64 g] Y fun e w' => e = .returned (.bool (dated g)) ∧ Y = w') := fun Y => dated_any g Y
  obtain ⟨ds, hds⟩ : ∃ r, dated s = r := ⟨_, rfl⟩
  obtain ⟨dg, hdg⟩ : ∃ r, dated g = r := ⟨_, rfl⟩
  rw [hds, hdg] at HF
  rw [hds] at HDS
  rw [hdg] at HDG
  clear hds hdg
  have hen : ∀ args w, (callFunc 58 args).run Tryd.prog w = .ok (.enter 58 args) w := fun args w => by kernel_rfl
  rw [HF.out]
  have hb : Below W.heap.size W (W.alloc (.cells #[.int .i64 s, .int .i64 g, .int .i64 k] 35)) := (Below.refl _ W).alloc (Nat.le_refl _) _
  have HB := Lib.hid hb
  clear hb
  by_cases h1 : 0 ≤ k
  · by_cases h2 : k ≤ 2880
    · have e1 : decide (0 ≤ k) = true := decide_eq_true h1
      have e2 : decide (k ≤ 2880) = true := decide_eq_true h2
      rw [e1, e2]
      cases ds <;> cases dg <;> (go_enter Tryd.func37, Tryd.ntmps37; go_wp2_with fail; refine (HDS.out _).mono ?_; rintro e9 w1 ⟨rfl, rfl⟩; go_wp2_with fail; first | (go_ret; exact ⟨rfl, HB.out⟩) | (refine (HDG.out _).mono ?_; rintro e9 w1 ⟨rfl, rfl⟩; go_wp2_with fail; go_ret; exact ⟨rfl, HB.out⟩))
    · have e1 : decide (0 ≤ k) = true := decide_eq_true h1
      have e2 : decide (k ≤ 2880) = false := decide_eq_false h2
      rw [e1, e2]
      cases ds <;> cases dg <;> (go_enter Tryd.func37, Tryd.ntmps37; go_wp2_with fail; refine (HDS.out _).mono ?_; rintro e9 w1 ⟨rfl, rfl⟩; go_wp2_with fail; first | (go_ret; exact ⟨rfl, HB.out⟩) | (refine (HDG.out _).mono ?_; rintro e9 w1 ⟨rfl, rfl⟩; go_wp2_with fail; go_ret; exact ⟨rfl, HB.out⟩))
  · have e1 : decide (0 ≤ k) = false := decide_eq_false h1
    rw [e1]
    cases ds <;> cases dg <;> (go_enter Tryd.func37, Tryd.ntmps37; go_wp2_with fail; refine (HDS.out _).mono ?_; rintro e9 w1 ⟨rfl, rfl⟩; go_wp2_with fail; first | (go_ret; exact ⟨rfl, HB.out⟩) | (refine (HDG.out _).mono ?_; rintro e9 w1 ⟨rfl, rfl⟩; go_wp2_with fail; go_ret; exact ⟨rfl, HB.out⟩))
set_option maxRecDepth 100000 in
theorem rvalid_any (r : Rule) (p : RP) (W : World) (h : RuleAt W r p) : Calls Tryd.prog 20 #[.agg (rcs r p).toArray] W fun e w' => e = .returned (.bool (ruleOk r)) ∧ Below W.heap.size W w' := by
  have H := Lib.hid h; clear h
  have HF : Hid (ruleOk r = (Zn.valid r.zone && r.cal.ok && Dl.valid r.term 2)) := rfl
  obtain ⟨w0, HW0⟩ : ∃ w0, Hid (W.alloc (.cells (rcs r p).toArray 33) = w0) := ⟨_, rfl⟩
  have HB0 : Hid (w0.heap[W.heap.size]? = some (.cells (rcs r p).toArray 33 (0, 0))) := by rw [← HW0.out]; exact blk_newn rfl
  have HBE0 : Hid (Below W.heap.size W w0) := by rw [← HW0.out]; exact (Below.refl _ W).alloc (Nat.le_refl _) _
  have HZ := Lib.hid (Zn.valid_any r.zone p.A p.cap w0 H.out.len (H.out.row.below HBE0.out))
  obtain ⟨zv, hzv⟩ : ∃ b, Zn.valid r.zone = b := ⟨_, rfl⟩
  obtain ⟨cv, hcv⟩ : ∃ b, r.cal.ok = b := ⟨_, rfl⟩
  obtain ⟨tv, htv⟩ : ∃ b, Dl.valid r.term 2 = b := ⟨_, rfl⟩
  have HC : Hid (∀ X, Below W.heap.size W X → Calls Tryd.prog 43 #[.agg (ccs r.cal p.hv).toArray] X fun e w' => e = .returned (.bool cv) ∧ Below X.heap.size X w') := fun X hb => by
    have h := Dl.cvalid_any r.cal p.hv X (H.out.cal.below hb)
    rw [hcv] at h; exact h
  have HT : Hid (∀ X, Below W.heap.size W X → Calls Tryd.prog 30 #[.agg #[.int .i64 r.term.kind, .int .i64 r.term.n, .int .i64 r.term.ev, .bool r.term.bus, .slice p.T r.term.kids.length p.tcap], .int .i64 2] X fun e w' => e = .returned (.bool tv) ∧ Below X.heap.size X w') := fun X hb => by
    have h := Dl.valid_any r.term _ 2 X (H.out.tr.keep hb)
    rw [htv] at h; exact h
  rw [hzv] at HZ
  rw [hzv, hcv, htv] at HF
  clear hzv hcv htv
  rw [HF.out]
  obtain ⟨⟨z0, z1⟩, -, -⟩ := rule_cells HB0.out
  show Calls Tryd.prog 20 #[.agg (rcs r p).toArray] W _
  go_enter Tryd.func20, Tryd.ntmps20
  go_upto_region 1 with fail
  rw [HW0.out]
  clear HW0
  go_wp2_with fail
  refine HZ.out.mono ?_
  rintro e9 w1 ⟨rfl, hb1⟩
  have HBE1 : Hid (Below W.heap.size W w1) := HBE0.out.trans (hb1.mono HBE0.out.size)
  have HB1 := Lib.hid ((hb1.block _ (lt_of_blk HB0.out)).trans HB0.out)
  clear hb1 z0 z1 HZ
  cases zv
  · go_wp2_with fail
    go_ret
    exact ⟨by simp, HBE1.out⟩
  obtain ⟨-, ⟨⟨c0, c1, c2, c3⟩, c4, c5, c6, c7⟩, -⟩ := rule_cells HB1.out
  go_wp2_with fail
  refine (HC.out w1 HBE1.out).mono ?_
  rintro e9 w2 ⟨rfl, hb2⟩
  have HBE2 : Hid (Below W.heap.size W w2) := HBE1.out.trans (hb2.mono HBE1.out.size)
  have HB2 := Lib.hid ((hb2.block _ (lt_of_blk HB1.out)).trans HB1.out)
  clear hb2 c0 c1 c2 c3 c4 c5 c6 c7
  cases cv
  · go_wp2_with fail
    go_ret
    exact ⟨by simp, HBE2.out⟩
  obtain ⟨-, -, t0, t1, t2, t3, t4⟩ := rule_cells HB2.out
  go_wp2_with fail
  refine (HT.out w2 HBE2.out).mono ?_
  rintro e9 w3 ⟨rfl, hb3⟩
  have HBE3 : Hid (Below W.heap.size W w3) := HBE2.out.trans (hb3.mono HBE2.out.size)
  clear hb3
  go_wp2_with fail
  go_ret
  exact ⟨by simp, HBE3.out⟩
end Go.Proofs.YticlmkfifpkdpaaDoor.Rc
namespace Go.Proofs.YticlmkfifpkdpaaDoor.Rc
open Go.RowKit Go.Shelf Mem Vw
open Zn (Zone ChRow loc localOf)
open Dl (When Term Cal noev whenc nv tc ccs Tree CalAt wf)
set_option linter.unusedVariables false
set_option linter.unusedSimpArgs false
def s0 : Stretch := ⟨false, 0, 0⟩
def sc2 (a b : Stretch) : Array Value := #[.bool a.given, .int .i64 a.lo, .int .i64 a.hi, .bool b.given, .int .i64 b.lo, .int .i64 b.hi]
def strv (o : Option (Stretch × Stretch)) : Value := match o with
  | none => .tuple #[.agg (sc2 s0 s0), .int .i64 23]
  | some (a, b) => .tuple #[.agg (sc2 a b), .int .i64 0]
theorem results_cell_tmp {fn : Func} {r1 t2 : Nat} {T1 : TypeId} (hf : fn.results = #[.cell r1 T1, .tmp t2]) {tmps : Array Value} {w : World} {a1 : Addr} {v1 : Value}
    (h1 : tmps.getD r1 undef = .pointer (some a1)) (l1 : (loadVar T1 a1).run Tryd.prog w = .ok v1 w) : (results fn tmps).run Tryd.prog w = .ok (.tuple #[v1, tmps.getD t2 undef]) w := by
  have h1' : tmps[r1]?.getD undef = .pointer (some a1) := by simpa using h1
  unfold results
  rw [hf]
  simp [h1', asAddr, l1]
/-- The stretch of an event after its turn. -/
theorem idx0 (a b : Int) (w : World) : (Instr.index 115 (.agg #[.int .i64 a, .int .i64 b]) (.int .i64 0)).run Tryd.prog w = .ok (.int .i64 a) w := by kernel_rfl
theorem idx1 (a b : Int) (w : World) : (Instr.index 115 (.agg #[.int .i64 a, .int .i64 b]) (.int .i64 1)).run Tryd.prog w = .ok (.int .i64 b) w := by kernel_rfl
set_option maxRecDepth 100000 in
set_option maxHeartbeats 8000000 in
theorem stretches_any (n : Notice) (hf : formed n = true) (W : World) : Calls Tryd.prog 38 #[.agg (ncs n).toArray] W fun e w' => e = .returned (strv (str n)) ∧ Below W.heap.size W w' := by
  obtain ⟨s, g, k⟩ := n
  have hb : (s = -1 ∨ 0 ≤ s ∧ s ≤ 105190559) ∧ (g = -1 ∨ 0 ≤ g ∧ g ≤ 105190559) ∧ 0 ≤ k ∧ k ≤ 2880 := by
    unfold formed dated lastI at hf
    simp only [Bool.and_eq_true, Bool.or_eq_true, decide_eq_true_eq] at hf
    exact ⟨hf.1.1.1, hf.1.1.2, hf.1.2, hf.2⟩
  clear hf
  obtain ⟨hs, hg, hk0, hk1⟩ := hb
  show Calls Tryd.prog 38 #[.agg #[.int .i64 s, .int .i64 g, .int .i64 k]] W _
  obtain ⟨w0, HW0⟩ : ∃ w0, Hid (((W.alloc (.cells #[.int .i64 s, .int .i64 g, .int .i64 k] 35)).alloc (.cells #[.bool false, .int .i64 0, .int .i64 0, .bool false, .int .i64 0, .int .i64 0] 83)).alloc (.cells #[.bool false, .int .i64 0, .int .i64 0, .bool false, .int .i64 0, .int .i64 0] 83) = w0) := ⟨_, rfl⟩
  have HN : Hid (w0.heap[W.heap.size]? = some (.cells #[.int .i64 s, .int .i64 g, .int .i64 k] 35 (0, 0))) := by rw [← HW0.out]; exact blk_alloc (blk_alloc (blk_newn rfl) _) _
  have HR : Hid (w0.heap[W.heap.size + 1]? = some (.cells (sc2 s0 s0) 83 (0, 0))) := by rw [← HW0.out]; exact blk_alloc (blk_newn (by simp)) _
  have HC : Hid (w0.heap[W.heap.size + 1 + 1]? = some (.cells (sc2 s0 s0) 83 (0, 0))) := by rw [← HW0.out]; exact blk_newn (by simp)
  have HB : Hid (Below W.heap.size W w0) := by rw [← HW0.out]; exact (((Below.refl _ W).alloc (Nat.le_refl _) _).alloc (by simp) _).alloc (by simp; omega) _
  have i0 := idx0 s g
  have i1 := idx1 s g
  go_enter Tryd.func38, Tryd.ntmps38
  go_upto_region 2 with fail
  rw [HW0.out]
  clear HW0
  have n0 : w0.cell? ⟨W.heap.size, 0, none⟩ = some (.int .i64 s) := Mem.cell_of_blk HN.out 0
  have n1 : w0.cell? ⟨W.heap.size, 1, none⟩ = some (.int .i64 g) := Mem.cell_of_blk HN.out 1
  have n2 : w0.cell? ⟨W.heap.size, 2, none⟩ = some (.int .i64 k) := Mem.cell_of_blk HN.out 2
  go_wp2_with fail
  go_loopw [12] (fun iv wr => ∃ (i : Nat) (a b : Stretch), iv = .int .i64 i ∧ i ≤ 2 ∧ Hid (a = if 0 < i then str1 s k else s0) ∧ Hid (b = if 1 < i then str1 g k else s0) ∧ Hid (wr.heap[W.heap.size]? = some (.cells #[.int .i64 s, .int .i64 g, .int .i64 k] 35 (0, 0))) ∧ Hid (wr.heap[W.heap.size + 1]? = some (.cells (sc2 s0 s0) 83 (0, 0))) ∧ Hid (wr.heap[W.heap.size + 1 + 1]? = some (.cells (sc2 a b) 83 (0, 0))) ∧ Hid (Below W.heap.size W wr)) (fun iv _ => 2 - (intOf iv).toNat)
  case atStart => exact ⟨0, s0, s0, rfl, by omega, rfl, rfl, HN, HR, HC, HB⟩
  case round =>
    obtain ⟨i, a, b, rfl, hi, HA, HBB, HN, HR, HC, HB⟩ := hrel
    have n2 : wr.cell? ⟨W.heap.size, 2, none⟩ = some (.int .i64 k) := Mem.cell_of_blk HN.out 2
    obtain ⟨ag, al, ah⟩ := a
    obtain ⟨bg, bl, bh⟩ := b
    have r0 : wr.cell? ⟨W.heap.size + 1 + 1, 0, none⟩ = some (.bool ag) := Mem.cell_of_blk HC.out 0
    have r1 : wr.cell? ⟨W.heap.size + 1 + 1, 1, none⟩ = some (.int .i64 al) := Mem.cell_of_blk HC.out 1
    have r2 : wr.cell? ⟨W.heap.size + 1 + 1, 2, none⟩ = some (.int .i64 ah) := Mem.cell_of_blk HC.out 2
    have r3 : wr.cell? ⟨W.heap.size + 1 + 1, 3, none⟩ = some (.bool bg) := Mem.cell_of_blk HC.out 3
    have r4 : wr.cell? ⟨W.heap.size + 1 + 1, 4, none⟩ = some (.int .i64 bl) := Mem.cell_of_blk HC.out 4
    have r5 : wr.cell? ⟨W.heap.size + 1 + 1, 5, none⟩ = some (.int .i64 bh) := Mem.cell_of_blk HC.out 5
    have f0 := Mem.froz_of_blk HC.out 0; have f1 := Mem.froz_of_blk HC.out 1; have f2 := Mem.froz_of_blk HC.out 2; have f3 := Mem.froz_of_blk HC.out 3; have f4 := Mem.froz_of_blk HC.out 4; have f5 := Mem.froz_of_blk HC.out 5
    rcases (by omega : i = 0 ∨ i = 1 ∨ i = 2) with rfl | rfl | rfl
    · by_cases h1 : s = -1
      · have h1b : (s != -1) = false := by simp [h1]
        have H1 := Lib.hid h1
        clear h1
        go_wp2_with fail
        go_roundw
        case rel => exact ⟨1, ⟨ag, al, ah⟩, ⟨bg, bl, bh⟩, rfl, by omega, (by show _ = _; rw [HA.out]; unfold str1; rw [if_pos H1.out]; rfl), (by show _ = _; rw [HBB.out]; rfl), HN, HR, HC, HB⟩
        case measure => simp [intOf]
      · have h1b : (s != -1) = true := by simpa using h1
        go_wp2_with fail
        go_roundw
        case rel => exact ⟨1, ⟨true, max 0 (s - k), min 105190559 (s + k)⟩, ⟨bg, bl, bh⟩, rfl, by omega, (by show _ = _; unfold str1; rw [if_neg h1]; rfl), (by show _ = _; rw [HBB.out]; rfl), blk_farq (blk_farq (blk_farq HN.out (by omega) _) (by omega) _) (by omega) _, blk_farq (blk_farq (blk_farq HR.out (by omega) _) (by omega) _) (by omega) _, blk_set (blk_set (blk_set HC.out 0 _) 1 _) 2 _, ((HB.out.setCell (by show W.heap.size ≤ W.heap.size + 1 + 1; omega) _).setCell (by show W.heap.size ≤ W.heap.size + 1 + 1; omega) _).setCell (by show W.heap.size ≤ W.heap.size + 1 + 1; omega) _⟩
        case measure => simp [intOf]
    · by_cases h1 : g = -1
      · have h1b : (g != -1) = false := by simp [h1]
        have H1 := Lib.hid h1
        clear h1
        go_wp2_with fail
        go_roundw
        case rel => exact ⟨2, ⟨ag, al, ah⟩, ⟨bg, bl, bh⟩, rfl, by omega, (by show _ = _; rw [HA.out]; rfl), (by show _ = _; rw [HBB.out]; unfold str1; rw [if_pos H1.out]; rfl), HN, HR, HC, HB⟩
        case measure => simp [intOf]
      · have h1b : (g != -1) = true := by simpa using h1
        go_wp2_with fail
        go_roundw
        case rel => exact ⟨2, ⟨ag, al, ah⟩, ⟨true, max 0 (g - k), min 105190559 (g + k)⟩, rfl, by omega, (by show _ = _; rw [HA.out]; rfl), (by show _ = _; unfold str1; rw [if_neg h1]; rfl), blk_farq (blk_farq (blk_farq HN.out (by omega) _) (by omega) _) (by omega) _, blk_farq (blk_farq (blk_farq HR.out (by omega) _) (by omega) _) (by omega) _, blk_set (blk_set (blk_set HC.out 3 _) 4 _) 5 _, ((HB.out.setCell (by show W.heap.size ≤ W.heap.size + 1 + 1; omega) _).setCell (by show W.heap.size ≤ W.heap.size + 1 + 1; omega) _).setCell (by show W.heap.size ≤ W.heap.size + 1 + 1; omega) _⟩
        case measure => simp [intOf]
    · have hA : (⟨ag, al, ah⟩ : Stretch) = str1 s k := HA.out
      have hB : (⟨bg, bl, bh⟩ : Stretch) = str1 g k := HBB.out
      have HRES : Hid (∀ (o : Option (Stretch × Stretch)) (X : World) (a b : Stretch) (e : Int) (tmps : Array Value), X.heap[W.heap.size + 1]? = some (.cells (sc2 a b) 83 (0, 0)) → tmps.getD 2 undef = .pointer (some ⟨W.heap.size + 1, 0, none⟩) → tmps.getD 3 undef = .int .i64 e → (results Tryd.f38 tmps).run Tryd.prog X = .ok (.tuple #[.agg (sc2 a b), .int .i64 e]) X) := by
        intro o X a b e tmps hx h2 h3
        have h := results_cell_tmp (fn := Tryd.f38) rfl h2 (run_loadVar_row (P := Tryd.prog) _ (W.heap.size + 1) 83 83 _ (0, 0) _ hx Tryd.underlying83 rfl (by kernel_rfl))
        rw [h3] at h
        exact h
      have k0 : wr.cell? ⟨W.heap.size + 1, 0, none⟩ = some (.bool false) := Mem.cell_of_blk HR.out 0
      have k1 : wr.cell? ⟨W.heap.size + 1, 1, none⟩ = some (.int .i64 0) := Mem.cell_of_blk HR.out 1
      have k2 : wr.cell? ⟨W.heap.size + 1, 2, none⟩ = some (.int .i64 0) := Mem.cell_of_blk HR.out 2
      have k3 : wr.cell? ⟨W.heap.size + 1, 3, none⟩ = some (.bool false) := Mem.cell_of_blk HR.out 3
      have k4 : wr.cell? ⟨W.heap.size + 1, 4, none⟩ = some (.int .i64 0) := Mem.cell_of_blk HR.out 4
      have k5 : wr.cell? ⟨W.heap.size + 1, 5, none⟩ = some (.int .i64 0) := Mem.cell_of_blk HR.out 5
      have m0 := Mem.froz_of_blk HR.out 0; have m1 := Mem.froz_of_blk HR.out 1; have m2 := Mem.froz_of_blk HR.out 2; have m3 := Mem.froz_of_blk HR.out 3; have m4 := Mem.froz_of_blk HR.out 4; have m5 := Mem.froz_of_blk HR.out 5
      have n0 : wr.cell? ⟨W.heap.size, 0, none⟩ = some (.int .i64 s) := Mem.cell_of_blk HN.out 0
      have n1 : wr.cell? ⟨W.heap.size, 1, none⟩ = some (.int .i64 g) := Mem.cell_of_blk HN.out 1
      clear HA HBB
      have hcopy : ∀ (X : World) (c : Array Value) (v0 v1 v2 v3 v4 v5 : Value), X.heap[W.heap.size + 1]? = some (.cells (sc2 s0 s0) 83 (0, 0)) →
          ((((((X.setCell ⟨W.heap.size + 1, 0, none⟩ v0).setCell ⟨W.heap.size + 1, 1, none⟩ v1).setCell ⟨W.heap.size + 1, 2, none⟩ v2).setCell ⟨W.heap.size + 1, 3, none⟩ v3).setCell ⟨W.heap.size + 1, 4, none⟩ v4).setCell ⟨W.heap.size + 1, 5, none⟩ v5).heap[W.heap.size + 1]? = some (.cells #[v0, v1, v2, v3, v4, v5] 83 (0, 0)) :=
        fun X c v0 v1 v2 v3 v4 v5 h => blk_set (blk_set (blk_set (blk_set (blk_set (blk_set h 0 _) 1 _) 2 _) 3 _) 4 _) 5 _
      have HCOPY := Lib.hid hcopy
      have hbel : ∀ (X : World) (i : Nat) (v : Value), Below W.heap.size W X → Below W.heap.size W (X.setCell ⟨W.heap.size + 1, i, none⟩ v) := fun X i v h => h.setCell (by show W.heap.size ≤ W.heap.size + 1; omega) _
      have HBEL := Lib.hid hbel
      have hbel2 : ∀ (X : World) (i : Nat) (v : Value), Below W.heap.size W X → Below W.heap.size W (X.setCell ⟨W.heap.size + 1 + 1, i, none⟩ v) := fun X i v h => h.setCell (by show W.heap.size ≤ W.heap.size + 1 + 1; omega) _
      have HBEL2 := Lib.hid hbel2
      clear hcopy hbel hbel2
      by_cases h1 : s = -1
      · have hA2 : str1 s k = ⟨false, 0, 0⟩ := by unfold str1; rw [if_pos h1]
        rw [hA2] at hA
        injection hA with e1 e2 e3
        subst e1 e2 e3
        have HSTR : Hid (str ⟨s, g, k⟩ = some (⟨false, 0, 0⟩, ⟨bg, bl, bh⟩)) := by show _ = _; unfold str; rw [if_pos (.inl h1), hB]; show some (str1 s k, _) = _; rw [hA2]
        clear hA2 hB
        go_wp2_with fail
        refine bodyPost_ret (HRES.out none _ ⟨false, 0, 0⟩ ⟨bg, bl, bh⟩ 0 _ (HCOPY.out _ #[] _ _ _ _ _ _ HR.out) rfl rfl) rfl ⟨by rw [HSTR.out]; rfl, ?_⟩
        exact HBEL.out _ _ _ (HBEL.out _ _ _ (HBEL.out _ _ _ (HBEL.out _ _ _ (HBEL.out _ _ _ (HBEL.out _ _ _ HB.out)))))
      have hA2 : str1 s k = ⟨true, max 0 (s - k), min 105190559 (s + k)⟩ := by unfold str1; rw [if_neg h1]; rfl
      rw [hA2] at hA
      injection hA with e1 e2 e3
      subst e1
      by_cases h2 : g = -1
      · have hB2 : str1 g k = ⟨false, 0, 0⟩ := by unfold str1; rw [if_pos h2]
        rw [hB2] at hB
        injection hB with e4 e5 e6
        subst e4 e5 e6
        have HSTR : Hid (str ⟨s, g, k⟩ = some (⟨true, al, ah⟩, ⟨false, 0, 0⟩)) := by show _ = _; unfold str; rw [if_pos (.inr h2), e2, e3]; show some (str1 s k, str1 g k) = _; rw [hA2, hB2]
        clear hA2 hB2 e2 e3
        go_wp2_with fail
        refine bodyPost_ret (HRES.out none _ ⟨true, al, ah⟩ ⟨false, 0, 0⟩ 0 _ (HCOPY.out _ #[] _ _ _ _ _ _ HR.out) rfl rfl) rfl ⟨by rw [HSTR.out]; rfl, ?_⟩
        exact HBEL.out _ _ _ (HBEL.out _ _ _ (HBEL.out _ _ _ (HBEL.out _ _ _ (HBEL.out _ _ _ (HBEL.out _ _ _ HB.out)))))
      have hB2 : str1 g k = ⟨true, max 0 (g - k), min 105190559 (g + k)⟩ := by unfold str1; rw [if_neg h2]; rfl
      rw [hB2] at hB
      injection hB with e4 e5 e6
      subst e4
      by_cases h3 : g + k < s - k
      · have HSTR : Hid (str ⟨s, g, k⟩ = none) := by show _ = _; unfold str; rw [if_neg (fun h => h.elim h1 h2)]; exact if_pos h3
        clear hA2 hB2 e2 e3 e5 e6
        go_wp2_with fail
        refine bodyPost_ret (HRES.out none _ s0 s0 23 _ (HCOPY.out _ #[] _ _ _ _ _ _ HR.out) rfl rfl) rfl ⟨by rw [HSTR.out]; rfl, ?_⟩
        exact HBEL.out _ _ _ (HBEL.out _ _ _ (HBEL.out _ _ _ (HBEL.out _ _ _ (HBEL.out _ _ _ (HBEL.out _ _ _ HB.out)))))
      · have HSTR : Hid (str ⟨s, g, k⟩ = some (⟨true, al, min ah bh⟩, ⟨true, max bl al, bh⟩)) := by show _ = _; unfold str; rw [if_neg (fun h => h.elim h1 h2)]; rw [e2, e3, e5, e6]; exact if_neg h3
        clear hA2 hB2 e2 e3 e5 e6
        go_wp2_with fail
        refine bodyPost_ret (HRES.out none _ ⟨true, al, min ah bh⟩ ⟨true, max bl al, bh⟩ 0 _ (HCOPY.out _ #[] _ _ _ _ _ _ (blk_farq (blk_farq HR.out (by omega) _) (by omega) _)) rfl rfl) rfl ⟨by rw [HSTR.out]; rfl, ?_⟩
        exact HBEL.out _ _ _ (HBEL.out _ _ _ (HBEL.out _ _ _ (HBEL.out _ _ _ (HBEL.out _ _ _ (HBEL.out _ _ _ (HBEL2.out _ _ _ (HBEL2.out _ _ _ HB.out)))))))
end Go.Proofs.YticlmkfifpkdpaaDoor.Rc
