/-
  receipt.Deemed walked.
-/
import Derived.Test.YticlmkfifpkdpaaDoorRcVal
import Derived.Test.YticlmkfifpkdpaaDoorDlBounds
import Derived.Test.YticlmkfifpkdpaaDoorRcMake
import Derived.Deep.DeepCutAuto
namespace Go.Proofs.YticlmkfifpkdpaaDoor.Rc
open Go.RowKit Go.Shelf Mem Vw
open Zn (Zone ChRow loc localOf)
open Dl (When Term Cal noev whenc nv tc ccs Tree CalAt wf evcells EvsAt bounds boundsv Bf bf_keep)
set_option linter.unusedVariables false
set_option linter.unusedSimpArgs false
def whenOk (w : When) : Prop := wf w.day ∧ wf w.min
theorem local_wf (z : Zone) (t : Int) : whenOk (lwhen z t) := by
  unfold lwhen whenOk wf
  rcases local_cases z t with h | h | ⟨h1, h2, _, _, _, h⟩ <;> rw [h] <;> dsimp only <;> omega
theorem noev_ok : whenOk noev := ⟨by unfold wf noev; decide, by unfold wf noev; decide⟩
theorem exFrom_wf (z : Zone) (cmp : When → When → Bool) : ∀ (l : List Int) (r : When), whenOk r → whenOk (exFrom z cmp r l).1 := by
  intro l
  induction l with
  | nil => intro r h; exact h
  | cons t l ih =>
    intro r h
    rw [exFrom_cons]
    split
    · exact noev_ok
    · refine ih _ ?_
      unfold step
      split
      · exact local_wf z t
      · exact h
theorem extreme_wf (z : Zone) (s : Stretch) (cmp : When → When → Bool) : whenOk (extreme z s cmp).1 := by
  unfold extreme
  split
  · exact exFrom_wf z cmp _ _ noev_ok
  · exact noev_ok
section
variable {r : Rule} {n : Notice} {a b : Stretch}
theorem deemed_bad (h : ruleOk r = false ∨ formed n = false) : deemed r n = (0, 0, 1) := by
  unfold deemed; rcases h with h | h <;> rw [h] <;> simp
theorem deemed_ev (h1 : ruleOk r = true) (h2 : formed n = true) (h3 : str n = none) : deemed r n = (0, 0, 23) := by
  unfold deemed; rw [h1, h2, h3]; rfl
theorem deemed_four (h1 : ruleOk r = true) (h2 : formed n = true) (h3 : str n = some (a, b)) : deemed r n = match four r.zone a b with | .error e => (0, 0, e) | .ok ((x, y), (u, v)) => fin (bounds r.term r.cal [x, u] [y, v]) := by
  unfold deemed; rw [h1, h2, h3]; rfl
theorem deemed_e1 (h1 : ruleOk r = true) (h2 : formed n = true) (h3 : str n = some (a, b)) (g1 : (extreme r.zone a earlier).2 ≠ 0) : deemed r n = (0, 0, (extreme r.zone a earlier).2) := by
  rw [deemed_four h1 h2 h3]; unfold four; rw [if_pos g1]
theorem deemed_e2 (h1 : ruleOk r = true) (h2 : formed n = true) (h3 : str n = some (a, b)) (g1 : (extreme r.zone a earlier).2 = 0) (g2 : (extreme r.zone a later).2 ≠ 0) : deemed r n = (0, 0, (extreme r.zone a later).2) := by
  rw [deemed_four h1 h2 h3]; unfold four; rw [if_neg (not_not_intro g1), if_pos g2]
theorem deemed_e3 (h1 : ruleOk r = true) (h2 : formed n = true) (h3 : str n = some (a, b)) (g1 : (extreme r.zone a earlier).2 = 0) (g2 : (extreme r.zone a later).2 = 0) (g3 : (extreme r.zone b earlier).2 ≠ 0) : deemed r n = (0, 0, (extreme r.zone b earlier).2) := by
  rw [deemed_four h1 h2 h3]; unfold four; rw [if_neg (not_not_intro g1), if_neg (not_not_intro g2), if_pos g3]
theorem deemed_e4 (h1 : ruleOk r = true) (h2 : formed n = true) (h3 : str n = some (a, b)) (g1 : (extreme r.zone a earlier).2 = 0) (g2 : (extreme r.zone a later).2 = 0) (g3 : (extreme r.zone b earlier).2 = 0) (g4 : (extreme r.zone b later).2 ≠ 0) : deemed r n = (0, 0, (extreme r.zone b later).2) := by
  rw [deemed_four h1 h2 h3]; unfold four; rw [if_neg (not_not_intro g1), if_neg (not_not_intro g2), if_neg (not_not_intro g3), if_pos g4]
theorem deemed_ok (h1 : ruleOk r = true) (h2 : formed n = true) (h3 : str n = some (a, b)) (g1 : (extreme r.zone a earlier).2 = 0) (g2 : (extreme r.zone a later).2 = 0) (g3 : (extreme r.zone b earlier).2 = 0) (g4 : (extreme r.zone b later).2 = 0) :
    deemed r n = fin (bounds r.term r.cal [(extreme r.zone a earlier).1, (extreme r.zone b earlier).1] [(extreme r.zone a later).1, (extreme r.zone b later).1]) := by
  rw [deemed_four h1 h2 h3]; unfold four; rw [if_neg (not_not_intro g1), if_neg (not_not_intro g2), if_neg (not_not_intro g3), if_neg (not_not_intro g4)]
end
def dv (d : Int × Int × Int) : Value := .tuple #[.int .i64 d.1, .int .i64 d.2.1, .int .i64 d.2.2]
def two : Array Value := #[.bool false, .int .i64 0, .int .i64 0, .bool false, .int .i64 0, .int .i64 0]
theorem make_two (w : World) : (Instr.makeSlice 42 (.int .i64 2) (.int .i64 2)).run Tryd.prog w = .ok (.slice (some ⟨w.heap.size, 0, none⟩) 2 2) (w.alloc (.cells two 67)) := by
  obtain ⟨i0, hi, hz0, hz1, hz2⟩ := info_parts Dl.info_when
  have hr := run_make (P := Tryd.prog) w 42 67 i0 _ Tryd.underlying42 hi hz0 .i64 .i64 2 2 (by omega) (Int.le_refl _) (by rw [hz2]; omega) (by omega)
  rw [hz1] at hr
  have hm : madeCells (Value.agg #[.bool false, .int .i64 0, .int .i64 0]).cells (2 * 3) = evcells (List.replicate 2 noev) := Dl.made_when 2
  rw [show (2 : Int).toNat = 2 from rfl, hm] at hr
  exact hr
theorem sidx0 (a b : Stretch) (w : World) : (Instr.index 83 (.agg #[.bool a.given, .int .i64 a.lo, .int .i64 a.hi, .bool b.given, .int .i64 b.lo, .int .i64 b.hi]) (.int .i64 0)).run Tryd.prog w = .ok (.agg #[.bool a.given, .int .i64 a.lo, .int .i64 a.hi]) w := by kernel_rfl
theorem sidx1 (a b : Stretch) (w : World) : (Instr.index 83 (.agg #[.bool a.given, .int .i64 a.lo, .int .i64 a.hi, .bool b.given, .int .i64 b.lo, .int .i64 b.hi]) (.int .i64 1)).run Tryd.prog w = .ok (.agg #[.bool b.given, .int .i64 b.lo, .int .i64 b.hi]) w := by kernel_rfl
def w2 (a b : When) : Array Value := #[.bool a.known, .int .i64 a.day, .int .i64 a.min, .bool b.known, .int .i64 b.day, .int .i64 b.min]
theorem w2_ev (a b : When) : w2 a b = evcells [a, b] := rfl
/-- What Deemed holds in its loop. -/
structure DI (W : World) (r : Rule) (p : RP) (n : Notice) (P Q : Nat) (x u y v : When) (X : World) : Prop where
  be : Below W.heap.size W X
  rb : X.heap[W.heap.size]? = some (.cells (rcs r p).toArray 33 (0, 0))
  lo : X.heap[P]? = some (.cells (w2 x u) 67 (0, 0))
  hi : X.heap[Q]? = some (.cells (w2 y v) 67 (0, 0))
  pq : P ≠ Q ∧ W.heap.size < P ∧ W.heap.size < Q
theorem DI.below {W : World} {r : Rule} {p : RP} {n : Notice} {P Q : Nat} {x u y v : When} {X X' : World} (h : DI W r p n P Q x u y v X) (hb : Below X.heap.size X X') : DI W r p n P Q x u y v X' :=
  ⟨h.be.trans (hb.mono h.be.size), (hb.block _ (lt_of_blk h.rb)).trans h.rb, (hb.block _ (lt_of_blk h.lo)).trans h.lo, (hb.block _ (lt_of_blk h.hi)).trans h.hi, h.pq⟩
theorem results_tmp3' {fn : Func} {t u v : Tmp} (h : fn.results = #[.tmp t, .tmp u, .tmp v]) (tmps : Array Value) (P : Program) (w : World) :
    (results fn tmps).run P w = .ok (.tuple #[tmps.getD t undef, tmps.getD u undef, tmps.getD v undef]) w := by
  simp [results, h]
set_option maxRecDepth 100000 in
set_option maxHeartbeats 16000000 in
theorem deemed_any (r : Rule) (p : RP) (n : Notice) (W : World) (h : RuleAt W r p) (hbf : Bf W) : Calls Tryd.prog 15 #[.agg (rcs r p).toArray, .agg (ncs n).toArray] W fun e w' => e = .returned (dv (deemed r n)) ∧ Below W.heap.size W w' := by
  have HR := Lib.hid h; have HBF := Lib.hid hbf
  clear h hbf
  obtain ⟨res, HRES⟩ : ∃ d, Hid (deemed r n = d) := ⟨_, rfl⟩
  rw [HRES.out]
  obtain ⟨x0, HX0⟩ : ∃ x0, Hid ((W.alloc (.cells (rcs r p).toArray 33)).alloc (.cells (ncs n).toArray 35) = x0) := ⟨_, rfl⟩
  have HRB0 : Hid (x0.heap[W.heap.size]? = some (.cells (rcs r p).toArray 33 (0, 0))) := by rw [← HX0.out]; exact blk_alloc (blk_newn rfl) _
  have HNB0 : Hid (x0.heap[W.heap.size + 1]? = some (.cells (ncs n).toArray 35 (0, 0))) := by rw [← HX0.out]; exact blk_newn (by simp)
  have HBE0 : Hid (Below W.heap.size W x0) := by rw [← HX0.out]; exact ((Below.refl _ W).alloc (Nat.le_refl _) _).alloc (by simp) _
  have HV := Lib.hid (rvalid_any r p x0 (HR.out.below HBE0.out))
  obtain ⟨⟨z0, z1⟩, ⟨⟨c0, c1, c2, c3⟩, c4, c5, c6, c7⟩, t0, t1, t2, t3, t4⟩ := rule_cells HRB0.out
  go_enter Tryd.func15, Tryd.ntmps15
  go_upto_region 1 with fail
  rw [HX0.out]
  clear HX0
  go_wp2_with fail
  refine HV.out.mono ?_
  rintro e9 x1 ⟨rfl, hb1⟩
  have HBE1 : Hid (Below W.heap.size W x1) := HBE0.out.trans (hb1.mono HBE0.out.size)
  have HRB1 := Lib.hid ((hb1.block _ (lt_of_blk HRB0.out)).trans HRB0.out)
  have HNB1 := Lib.hid ((hb1.block _ (lt_of_blk HNB0.out)).trans HNB0.out)
  clear hb1 HV z0 z1 c0 c1 c2 c3 c4 c5 c6 c7 t0 t1 t2 t3 t4 HRB0 HNB0 HBE0
  cases hok : ruleOk r
  · have HDR : Hid (deemed r n = (0, 0, 1)) := deemed_bad (.inl hok)
    rw [HRES.out] at HDR
    clear hok
    go_wp2_with fail
    (try simp only [Exit.inBlock, Exit.then]); refine bodyPost_ret (results_tmp3' rfl _ _ _) rfl ?_
    exact ⟨by rw [HDR.out]; rfl, HBE1.out⟩
  have HOK := Lib.hid hok
  have HZV : Hid (Zn.valid r.zone = true) := by show _ = _; unfold ruleOk at hok; simp only [Bool.and_eq_true] at hok; exact hok.1.1
  clear hok
  have n0 : x1.cell? ⟨W.heap.size + 1, 0, none⟩ = some (.int .i64 n.sent) := Mem.cell_of_blk HNB1.out 0
  have n1 : x1.cell? ⟨W.heap.size + 1, 1, none⟩ = some (.int .i64 n.got) := Mem.cell_of_blk HNB1.out 1
  have n2 : x1.cell? ⟨W.heap.size + 1, 2, none⟩ = some (.int .i64 n.slack) := Mem.cell_of_blk HNB1.out 2
  have HF := Lib.hid (formed_any n x1)
  go_wp2_with fail
  refine HF.out.mono ?_
  rintro e9 x2 ⟨rfl, hb2⟩
  have HBE2 : Hid (Below W.heap.size W x2) := HBE1.out.trans (hb2.mono HBE1.out.size)
  have HRB2 := Lib.hid ((hb2.block _ (lt_of_blk HRB1.out)).trans HRB1.out)
  have HNB2 := Lib.hid ((hb2.block _ (lt_of_blk HNB1.out)).trans HNB1.out)
  clear hb2 HF n0 n1 n2 HRB1 HNB1 HBE1
  cases hfo : formed n
  · have HDR : Hid (deemed r n = (0, 0, 1)) := deemed_bad (.inr hfo)
    rw [HRES.out] at HDR
    clear hfo
    go_wp2_with fail
    (try simp only [Exit.inBlock, Exit.then]); refine bodyPost_ret (results_tmp3' rfl _ _ _) rfl ?_
    exact ⟨by rw [HDR.out]; rfl, HBE2.out⟩
  have HFO := Lib.hid hfo
  clear hfo
  have n0 : x2.cell? ⟨W.heap.size + 1, 0, none⟩ = some (.int .i64 n.sent) := Mem.cell_of_blk HNB2.out 0
  have n1 : x2.cell? ⟨W.heap.size + 1, 1, none⟩ = some (.int .i64 n.got) := Mem.cell_of_blk HNB2.out 1
  have n2 : x2.cell? ⟨W.heap.size + 1, 2, none⟩ = some (.int .i64 n.slack) := Mem.cell_of_blk HNB2.out 2
  have HS := Lib.hid (stretches_any n HFO.out x2)
  go_wp2_with fail
  refine HS.out.mono ?_
  rintro e9 x3 ⟨rfl, hb3⟩
  have HBE3 : Hid (Below W.heap.size W x3) := HBE2.out.trans (hb3.mono HBE2.out.size)
  have HRB3 := Lib.hid ((hb3.block _ (lt_of_blk HRB2.out)).trans HRB2.out)
  clear hb3 HS n0 n1 n2 HRB2 HNB2 HBE2
  cases hst : str n with
  | none =>
    have HDR : Hid (deemed r n = (0, 0, 23)) := deemed_ev HOK.out HFO.out hst
    rw [HRES.out] at HDR
    clear hst
    dsimp only [strv, sc2, Rc.s0]
    go_wp2_with fail
    (try simp only [Exit.inBlock, Exit.then]); refine bodyPost_ret (results_tmp3' rfl _ _ _) rfl ?_
    exact ⟨by rw [HDR.out]; rfl, HBE3.out.alloc (HBE3.out.size) _⟩
  | some ab =>
  obtain ⟨a, b⟩ := ab
  have HST := Lib.hid hst
  clear hst
  dsimp only [strv, sc2]
  obtain ⟨x4, HX4⟩ : ∃ x4, Hid (x3.alloc (.cells #[.bool a.given, .int .i64 a.lo, .int .i64 a.hi, .bool b.given, .int .i64 b.lo, .int .i64 b.hi] 83) = x4) := ⟨_, rfl⟩
  have HB34 : Hid (Below x3.heap.size x3 x4) := by rw [← HX4.out]; exact (Below.refl _ x3).alloc (Nat.le_refl _) _
  have HST4 : Hid (x4.heap[x3.heap.size]? = some (.cells #[.bool a.given, .int .i64 a.lo, .int .i64 a.hi, .bool b.given, .int .i64 b.lo, .int .i64 b.hi] 83 (0, 0))) := by rw [← HX4.out]; exact blk_newn rfl
  have HBE4 : Hid (Below W.heap.size W x4) := HBE3.out.trans (HB34.out.mono HBE3.out.size)
  have HRB4 := Lib.hid ((HB34.out.block _ (lt_of_blk HRB3.out)).trans HRB3.out)
  go_upto_region 6 with fail
  rw [HX4.out]
  clear HX4 HB34 HBE3 HRB3
  have hmk := make_two
  go_cut [8, 9] (fun s8 s9 wx => ∃ P Q, s8 = .slice (some ⟨P, 0, none⟩) 2 2 ∧ s9 = .slice (some ⟨Q, 0, none⟩) 2 2 ∧ Hid (DI W r p n P Q noev noev noev noev wx) ∧ Hid (wx.heap[x3.heap.size]? = some (.cells #[.bool a.given, .int .i64 a.lo, .int .i64 a.hi, .bool b.given, .int .i64 b.lo, .int .i64 b.hi] 83 (0, 0))))
  case first =>
    have hl4 : W.heap.size < x4.heap.size := lt_of_blk HRB4.out
    go_region_with fail
    all_goals (go_wp2_with fail; go_meet)
    all_goals have hbs := HBE4.out.size
    all_goals have hbl : Below W.heap.size W ((x4.alloc (.cells two 67)).alloc (.cells two 67)).drew := below_drewN ((HBE4.out.alloc hbs _).alloc (by simp; omega) _) 1
    · exact ⟨_, _, rfl, rfl, ⟨hbl, blk_alloc (blk_alloc HRB4.out _) _, blk_alloc (blk_newn rfl) _, blk_newn (by simp), ⟨by omega, by omega, by omega⟩⟩, blk_alloc (blk_alloc HST4.out _) _⟩
    · exact ⟨_, _, rfl, rfl, ⟨hbl, blk_alloc (blk_alloc HRB4.out _) _, blk_newn (by simp), blk_alloc (blk_newn rfl) _, ⟨by omega, by omega, by omega⟩⟩, blk_alloc (blk_alloc HST4.out _) _⟩
  case rest =>
  obtain ⟨P, Q, rfl, rfl, HD0, HST5⟩ := hcut
  obtain ⟨x5, hx5⟩ : ∃ X, X = wc := ⟨_, rfl⟩
  subst hx5
  have q0 : x5.cell? ⟨x3.heap.size, 0, none⟩ = some (.bool a.given) := Mem.cell_of_blk HST5.out 0
  have q1 : x5.cell? ⟨x3.heap.size, 1, none⟩ = some (.int .i64 a.lo) := Mem.cell_of_blk HST5.out 1
  have q2 : x5.cell? ⟨x3.heap.size, 2, none⟩ = some (.int .i64 a.hi) := Mem.cell_of_blk HST5.out 2
  have q3 : x5.cell? ⟨x3.heap.size, 3, none⟩ = some (.bool b.given) := Mem.cell_of_blk HST5.out 3
  have q4 : x5.cell? ⟨x3.heap.size, 4, none⟩ = some (.int .i64 b.lo) := Mem.cell_of_blk HST5.out 4
  have q5 : x5.cell? ⟨x3.heap.size, 5, none⟩ = some (.int .i64 b.hi) := Mem.cell_of_blk HST5.out 5
  have hi0 := sidx0 a b
  have hi1 := sidx1 a b
  clear hmk
  go_wp2_with fail
  clear q0 q1 q2 q3 q4 q5
  go_loopw [32] (fun iv wr => ∃ (i : Nat) (x u y v : When), iv = .int .i64 i ∧ i ≤ 2 ∧ Hid (0 < i → extreme r.zone a earlier = (x, 0) ∧ extreme r.zone a later = (y, 0)) ∧ Hid (1 < i → extreme r.zone b earlier = (u, 0) ∧ extreme r.zone b later = (v, 0)) ∧ Hid (DI W r p n P Q x u y v wr)) (fun iv _ => 2 - (intOf iv).toNat)
  case atStart => exact ⟨0, noev, noev, noev, noev, rfl, by omega, (fun h => absurd h (by decide)), (fun h => absurd h (by decide)), HD0⟩
  case round =>
    obtain ⟨i, x0, u0, y0, v0, rfl, hi, HA, HB, HD⟩ := hrel
    rcases (by omega : i = 0 ∨ i = 1 ∨ i = 2) with rfl | rfl | rfl
    · skip
      obtain ⟨ag, al, ah⟩ := a
      obtain ⟨X1, HX1⟩ : ∃ X1, Hid (wr.alloc (.cells #[.bool ag, .int .i64 al, .int .i64 ah] 82) = X1) := ⟨_, rfl⟩
      have HB1 : Hid (Below wr.heap.size wr X1) := by rw [← HX1.out]; exact (Below.refl _ wr).alloc (Nat.le_refl _) _
      have HSB : Hid (X1.heap[wr.heap.size]? = some (.cells #[.bool ag, .int .i64 al, .int .i64 ah] 82 (0, 0))) := by rw [← HX1.out]; exact blk_newn rfl
      have HD1 := Lib.hid (HD.out.below HB1.out)
      have s0 : X1.cell? ⟨wr.heap.size, 0, none⟩ = some (.bool ag) := Mem.cell_of_blk HSB.out 0
      have s1 : X1.cell? ⟨wr.heap.size, 1, none⟩ = some (.int .i64 al) := Mem.cell_of_blk HSB.out 1
      have s2 : X1.cell? ⟨wr.heap.size, 2, none⟩ = some (.int .i64 ah) := Mem.cell_of_blk HSB.out 2
      obtain ⟨⟨z0, z1⟩, -, -⟩ := rule_cells HD1.out.rb
      have HE := Lib.hid (extreme_any r.zone p.A p.cap ag al ah _ _ cmp_earlier X1 HZV.out (HR.out.row.below HD1.out.be))
      obtain ⟨⟨⟨ek, ed, em⟩, ee⟩, HX⟩ : ∃ q, Hid (extreme r.zone ⟨ag, al, ah⟩ earlier = q) := ⟨_, rfl⟩
      rw [HX.out] at HE
      go_upto_region 10 with fail
      rw [HX1.out]
      go_wp2_with fail
      refine HE.out.mono ?_
      rintro e9 X2 ⟨rfl, hb2⟩
      dsimp only [exv, whenc, nv]
      have HD2 := Lib.hid (HD1.out.below hb2)
      have HSB2 := Lib.hid ((hb2.block _ (lt_of_blk HSB.out)).trans HSB.out)
      clear hb2 HE HX1 HB1 s0 s1 s2 z0 z1
      obtain ⟨xk, xd, xm⟩ := x0
      obtain ⟨uk, ud, um⟩ := u0
      obtain ⟨yk, yd, ym⟩ := y0
      obtain ⟨vk, vd, vm⟩ := v0
      have p0 : X2.cell? ⟨P, 0, none⟩ = some (.bool xk) := Mem.cell_of_blk HD2.out.lo 0
      have p1 : X2.cell? ⟨P, 1, none⟩ = some (.int .i64 xd) := Mem.cell_of_blk HD2.out.lo 1
      have p2 : X2.cell? ⟨P, 2, none⟩ = some (.int .i64 xm) := Mem.cell_of_blk HD2.out.lo 2
      have p3 : X2.cell? ⟨P, 3, none⟩ = some (.bool uk) := Mem.cell_of_blk HD2.out.lo 3
      have p4 : X2.cell? ⟨P, 4, none⟩ = some (.int .i64 ud) := Mem.cell_of_blk HD2.out.lo 4
      have p5 : X2.cell? ⟨P, 5, none⟩ = some (.int .i64 um) := Mem.cell_of_blk HD2.out.lo 5
      have pf0 := Mem.froz_of_blk HD2.out.lo 0; have pf1 := Mem.froz_of_blk HD2.out.lo 1; have pf2 := Mem.froz_of_blk HD2.out.lo 2; have pf3 := Mem.froz_of_blk HD2.out.lo 3; have pf4 := Mem.froz_of_blk HD2.out.lo 4; have pf5 := Mem.froz_of_blk HD2.out.lo 5
      obtain ⟨X3, HX3⟩ : ∃ X3, Hid ((((X2.setCell ⟨P, 0, none⟩ (.bool ek)).setCell ⟨P, 1, none⟩ (.int .i64 ed)).setCell ⟨P, 2, none⟩ (.int .i64 em)) = X3) := ⟨_, rfl⟩
      have hlx := lt_of_blk HD2.out.rb
      have HD3 : Hid (DI W r p n P Q ⟨ek, ed, em⟩ ⟨uk, ud, um⟩ ⟨yk, yd, ym⟩ ⟨vk, vd, vm⟩ X3) := by
        rw [← HX3.out]
        have hpq := HD2.out.pq
        exact ⟨((HD2.out.be.setCell (by show W.heap.size ≤ P; omega) _).setCell (by show W.heap.size ≤ P; omega) _).setCell (by show W.heap.size ≤ P; omega) _, blk_farq (blk_farq (blk_farq HD2.out.rb (by omega) _) (by omega) _) (by omega) _, blk_set (blk_set (blk_set HD2.out.lo 0 _) 1 _) 2 _, blk_farq (blk_farq (blk_farq HD2.out.hi (by omega) _) (by omega) _) (by omega) _, hpq⟩
      have HSB3 : Hid (X3.heap[wr.heap.size]? = some (.cells #[.bool ag, .int .i64 al, .int .i64 ah] 82 (0, 0))) := by
        rw [← HX3.out]
        have hpw : P < wr.heap.size := lt_of_blk HD.out.lo
        exact blk_farq (blk_farq (blk_farq HSB2.out (by omega) _) (by omega) _) (by omega) _
      clear hlx
      by_cases hee : ee = 0
      case neg =>
        have heb : (ee != 0) = true := by simpa using hee
        have HDR : Hid (deemed r n = (0, 0, ee)) := by show _ = _; rw [deemed_e1 HOK.out HFO.out HST.out (by rw [HX.out]; exact hee), HX.out]
        rw [HRES.out] at HDR
        go_wp2_with fail
        rw [HX3.out]
        (try simp only [Exit.inBlock, Exit.then]); refine bodyPost_ret (results_tmp3' rfl _ _ _) rfl ?_
        exact ⟨by rw [HDR.out]; rfl, HD3.out.be⟩
      subst hee
      go_upto_region 13 with fail
      rw [HX3.out]
      clear HX3 p0 pf0 p1 pf1 p2 pf2 p3 pf3 p4 pf4 p5 pf5
      have s0 : X3.cell? ⟨wr.heap.size, 0, none⟩ = some (.bool ag) := Mem.cell_of_blk HSB3.out 0
      have s1 : X3.cell? ⟨wr.heap.size, 1, none⟩ = some (.int .i64 al) := Mem.cell_of_blk HSB3.out 1
      have s2 : X3.cell? ⟨wr.heap.size, 2, none⟩ = some (.int .i64 ah) := Mem.cell_of_blk HSB3.out 2
      obtain ⟨⟨z0, z1⟩, -, -⟩ := rule_cells HD3.out.rb
      have HE := Lib.hid (extreme_any r.zone p.A p.cap ag al ah _ _ cmp_later X3 HZV.out (HR.out.row.below HD3.out.be))
      clear HD2 HSB2
      obtain ⟨⟨⟨fk, fd, fm⟩, fe⟩, HY⟩ : ∃ q, Hid (extreme r.zone ⟨ag, al, ah⟩ later = q) := ⟨_, rfl⟩
      rw [HY.out] at HE
      go_wp2_with fail
      refine HE.out.mono ?_
      rintro e9 X4 ⟨rfl, hb4⟩
      dsimp only [exv, whenc, nv]
      have HD4 := Lib.hid (HD3.out.below hb4)
      clear hb4 HE s0 s1 s2 z0 z1
      have p0 : X4.cell? ⟨Q, 0, none⟩ = some (.bool yk) := Mem.cell_of_blk HD4.out.hi 0
      have p1 : X4.cell? ⟨Q, 1, none⟩ = some (.int .i64 yd) := Mem.cell_of_blk HD4.out.hi 1
      have p2 : X4.cell? ⟨Q, 2, none⟩ = some (.int .i64 ym) := Mem.cell_of_blk HD4.out.hi 2
      have p3 : X4.cell? ⟨Q, 3, none⟩ = some (.bool vk) := Mem.cell_of_blk HD4.out.hi 3
      have p4 : X4.cell? ⟨Q, 4, none⟩ = some (.int .i64 vd) := Mem.cell_of_blk HD4.out.hi 4
      have p5 : X4.cell? ⟨Q, 5, none⟩ = some (.int .i64 vm) := Mem.cell_of_blk HD4.out.hi 5
      have pf0 := Mem.froz_of_blk HD4.out.hi 0; have pf1 := Mem.froz_of_blk HD4.out.hi 1; have pf2 := Mem.froz_of_blk HD4.out.hi 2; have pf3 := Mem.froz_of_blk HD4.out.hi 3; have pf4 := Mem.froz_of_blk HD4.out.hi 4; have pf5 := Mem.froz_of_blk HD4.out.hi 5
      obtain ⟨X5, HX5⟩ : ∃ X5, Hid ((((X4.setCell ⟨Q, 0, none⟩ (.bool fk)).setCell ⟨Q, 1, none⟩ (.int .i64 fd)).setCell ⟨Q, 2, none⟩ (.int .i64 fm)) = X5) := ⟨_, rfl⟩
      have HD5 : Hid (DI W r p n P Q ⟨ek, ed, em⟩ ⟨uk, ud, um⟩ ⟨fk, fd, fm⟩ ⟨vk, vd, vm⟩ X5) := by
        rw [← HX5.out]
        have hpq := HD4.out.pq
        exact ⟨((HD4.out.be.setCell (by show W.heap.size ≤ Q; omega) _).setCell (by show W.heap.size ≤ Q; omega) _).setCell (by show W.heap.size ≤ Q; omega) _, blk_farq (blk_farq (blk_farq HD4.out.rb (by omega) _) (by omega) _) (by omega) _, blk_farq (blk_farq (blk_farq HD4.out.lo (by omega) _) (by omega) _) (by omega) _, blk_set (blk_set (blk_set HD4.out.hi 0 _) 1 _) 2 _, hpq⟩
      by_cases hee : fe = 0
      case neg =>
        have heb : (fe != 0) = true := by simpa using hee
        have HDR : Hid (deemed r n = (0, 0, fe)) := by show _ = _; rw [deemed_e2 HOK.out HFO.out HST.out (by rw [HX.out]) (by rw [HY.out]; exact hee), HY.out]
        rw [HRES.out] at HDR
        go_wp2_with fail
        rw [HX5.out]
        (try simp only [Exit.inBlock, Exit.then]); refine bodyPost_ret (results_tmp3' rfl _ _ _) rfl ?_
        exact ⟨by rw [HDR.out]; rfl, HD5.out.be⟩
      subst hee
      go_upto_region 16 with fail
      rw [HX5.out]
      clear HX5 p0 pf0 p1 pf1 p2 pf2 p3 pf3 p4 pf4 p5 pf5
      go_wp2_with fail
      go_roundw
      case rel => exact ⟨1, ⟨ek, ed, em⟩, ⟨uk, ud, um⟩, ⟨fk, fd, fm⟩, ⟨vk, vd, vm⟩, rfl, by omega, (fun _ => ⟨HX.out, HY.out⟩), (fun h => absurd h (by decide)), HD5⟩
      case measure => simp [intOf]
    · have HA0 := HA.out (by decide)
      have hg1 : (extreme r.zone a earlier).2 = 0 := by rw [HA0.1]
      have hg2 : (extreme r.zone a later).2 = 0 := by rw [HA0.2]
      obtain ⟨bg, bl, bh⟩ := b
      obtain ⟨X1, HX1⟩ : ∃ X1, Hid (wr.alloc (.cells #[.bool bg, .int .i64 bl, .int .i64 bh] 82) = X1) := ⟨_, rfl⟩
      have HB1 : Hid (Below wr.heap.size wr X1) := by rw [← HX1.out]; exact (Below.refl _ wr).alloc (Nat.le_refl _) _
      have HSB : Hid (X1.heap[wr.heap.size]? = some (.cells #[.bool bg, .int .i64 bl, .int .i64 bh] 82 (0, 0))) := by rw [← HX1.out]; exact blk_newn rfl
      have HD1 := Lib.hid (HD.out.below HB1.out)
      have s0 : X1.cell? ⟨wr.heap.size, 0, none⟩ = some (.bool bg) := Mem.cell_of_blk HSB.out 0
      have s1 : X1.cell? ⟨wr.heap.size, 1, none⟩ = some (.int .i64 bl) := Mem.cell_of_blk HSB.out 1
      have s2 : X1.cell? ⟨wr.heap.size, 2, none⟩ = some (.int .i64 bh) := Mem.cell_of_blk HSB.out 2
      obtain ⟨⟨z0, z1⟩, -, -⟩ := rule_cells HD1.out.rb
      have HE := Lib.hid (extreme_any r.zone p.A p.cap bg bl bh _ _ cmp_earlier X1 HZV.out (HR.out.row.below HD1.out.be))
      obtain ⟨⟨⟨ek, ed, em⟩, ee⟩, HX⟩ : ∃ q, Hid (extreme r.zone ⟨bg, bl, bh⟩ earlier = q) := ⟨_, rfl⟩
      rw [HX.out] at HE
      go_upto_region 10 with fail
      rw [HX1.out]
      go_wp2_with fail
      refine HE.out.mono ?_
      rintro e9 X2 ⟨rfl, hb2⟩
      dsimp only [exv, whenc, nv]
      have HD2 := Lib.hid (HD1.out.below hb2)
      have HSB2 := Lib.hid ((hb2.block _ (lt_of_blk HSB.out)).trans HSB.out)
      clear hb2 HE HX1 HB1 s0 s1 s2 z0 z1
      obtain ⟨xk, xd, xm⟩ := x0
      obtain ⟨uk, ud, um⟩ := u0
      obtain ⟨yk, yd, ym⟩ := y0
      obtain ⟨vk, vd, vm⟩ := v0
      have p0 : X2.cell? ⟨P, 0, none⟩ = some (.bool xk) := Mem.cell_of_blk HD2.out.lo 0
      have p1 : X2.cell? ⟨P, 1, none⟩ = some (.int .i64 xd) := Mem.cell_of_blk HD2.out.lo 1
      have p2 : X2.cell? ⟨P, 2, none⟩ = some (.int .i64 xm) := Mem.cell_of_blk HD2.out.lo 2
      have p3 : X2.cell? ⟨P, 3, none⟩ = some (.bool uk) := Mem.cell_of_blk HD2.out.lo 3
      have p4 : X2.cell? ⟨P, 4, none⟩ = some (.int .i64 ud) := Mem.cell_of_blk HD2.out.lo 4
      have p5 : X2.cell? ⟨P, 5, none⟩ = some (.int .i64 um) := Mem.cell_of_blk HD2.out.lo 5
      have pf0 := Mem.froz_of_blk HD2.out.lo 0; have pf1 := Mem.froz_of_blk HD2.out.lo 1; have pf2 := Mem.froz_of_blk HD2.out.lo 2; have pf3 := Mem.froz_of_blk HD2.out.lo 3; have pf4 := Mem.froz_of_blk HD2.out.lo 4; have pf5 := Mem.froz_of_blk HD2.out.lo 5
      obtain ⟨X3, HX3⟩ : ∃ X3, Hid ((((X2.setCell ⟨P, 3, none⟩ (.bool ek)).setCell ⟨P, 4, none⟩ (.int .i64 ed)).setCell ⟨P, 5, none⟩ (.int .i64 em)) = X3) := ⟨_, rfl⟩
      have hlx := lt_of_blk HD2.out.rb
      have HD3 : Hid (DI W r p n P Q ⟨xk, xd, xm⟩ ⟨ek, ed, em⟩ ⟨yk, yd, ym⟩ ⟨vk, vd, vm⟩ X3) := by
        rw [← HX3.out]
        have hpq := HD2.out.pq
        exact ⟨((HD2.out.be.setCell (by show W.heap.size ≤ P; omega) _).setCell (by show W.heap.size ≤ P; omega) _).setCell (by show W.heap.size ≤ P; omega) _, blk_farq (blk_farq (blk_farq HD2.out.rb (by omega) _) (by omega) _) (by omega) _, blk_set (blk_set (blk_set HD2.out.lo 3 _) 4 _) 5 _, blk_farq (blk_farq (blk_farq HD2.out.hi (by omega) _) (by omega) _) (by omega) _, hpq⟩
      have HSB3 : Hid (X3.heap[wr.heap.size]? = some (.cells #[.bool bg, .int .i64 bl, .int .i64 bh] 82 (0, 0))) := by
        rw [← HX3.out]
        have hpw : P < wr.heap.size := lt_of_blk HD.out.lo
        exact blk_farq (blk_farq (blk_farq HSB2.out (by omega) _) (by omega) _) (by omega) _
      clear hlx
      by_cases hee : ee = 0
      case neg =>
        have heb : (ee != 0) = true := by simpa using hee
        have HDR : Hid (deemed r n = (0, 0, ee)) := by show _ = _; rw [deemed_e3 HOK.out HFO.out HST.out hg1 hg2 (by rw [HX.out]; exact hee), HX.out]
        rw [HRES.out] at HDR
        go_wp2_with fail
        rw [HX3.out]
        (try simp only [Exit.inBlock, Exit.then]); refine bodyPost_ret (results_tmp3' rfl _ _ _) rfl ?_
        exact ⟨by rw [HDR.out]; rfl, HD3.out.be⟩
      subst hee
      go_upto_region 13 with fail
      rw [HX3.out]
      clear HX3 p0 pf0 p1 pf1 p2 pf2 p3 pf3 p4 pf4 p5 pf5
      have s0 : X3.cell? ⟨wr.heap.size, 0, none⟩ = some (.bool bg) := Mem.cell_of_blk HSB3.out 0
      have s1 : X3.cell? ⟨wr.heap.size, 1, none⟩ = some (.int .i64 bl) := Mem.cell_of_blk HSB3.out 1
      have s2 : X3.cell? ⟨wr.heap.size, 2, none⟩ = some (.int .i64 bh) := Mem.cell_of_blk HSB3.out 2
      obtain ⟨⟨z0, z1⟩, -, -⟩ := rule_cells HD3.out.rb
      have HE := Lib.hid (extreme_any r.zone p.A p.cap bg bl bh _ _ cmp_later X3 HZV.out (HR.out.row.below HD3.out.be))
      clear HD2 HSB2
      obtain ⟨⟨⟨fk, fd, fm⟩, fe⟩, HY⟩ : ∃ q, Hid (extreme r.zone ⟨bg, bl, bh⟩ later = q) := ⟨_, rfl⟩
      rw [HY.out] at HE
      go_wp2_with fail
      refine HE.out.mono ?_
      rintro e9 X4 ⟨rfl, hb4⟩
      dsimp only [exv, whenc, nv]
      have HD4 := Lib.hid (HD3.out.below hb4)
      clear hb4 HE s0 s1 s2 z0 z1
      have p0 : X4.cell? ⟨Q, 0, none⟩ = some (.bool yk) := Mem.cell_of_blk HD4.out.hi 0
      have p1 : X4.cell? ⟨Q, 1, none⟩ = some (.int .i64 yd) := Mem.cell_of_blk HD4.out.hi 1
      have p2 : X4.cell? ⟨Q, 2, none⟩ = some (.int .i64 ym) := Mem.cell_of_blk HD4.out.hi 2
      have p3 : X4.cell? ⟨Q, 3, none⟩ = some (.bool vk) := Mem.cell_of_blk HD4.out.hi 3
      have p4 : X4.cell? ⟨Q, 4, none⟩ = some (.int .i64 vd) := Mem.cell_of_blk HD4.out.hi 4
      have p5 : X4.cell? ⟨Q, 5, none⟩ = some (.int .i64 vm) := Mem.cell_of_blk HD4.out.hi 5
      have pf0 := Mem.froz_of_blk HD4.out.hi 0; have pf1 := Mem.froz_of_blk HD4.out.hi 1; have pf2 := Mem.froz_of_blk HD4.out.hi 2; have pf3 := Mem.froz_of_blk HD4.out.hi 3; have pf4 := Mem.froz_of_blk HD4.out.hi 4; have pf5 := Mem.froz_of_blk HD4.out.hi 5
      obtain ⟨X5, HX5⟩ : ∃ X5, Hid ((((X4.setCell ⟨Q, 3, none⟩ (.bool fk)).setCell ⟨Q, 4, none⟩ (.int .i64 fd)).setCell ⟨Q, 5, none⟩ (.int .i64 fm)) = X5) := ⟨_, rfl⟩
      have HD5 : Hid (DI W r p n P Q ⟨xk, xd, xm⟩ ⟨ek, ed, em⟩ ⟨yk, yd, ym⟩ ⟨fk, fd, fm⟩ X5) := by
        rw [← HX5.out]
        have hpq := HD4.out.pq
        exact ⟨((HD4.out.be.setCell (by show W.heap.size ≤ Q; omega) _).setCell (by show W.heap.size ≤ Q; omega) _).setCell (by show W.heap.size ≤ Q; omega) _, blk_farq (blk_farq (blk_farq HD4.out.rb (by omega) _) (by omega) _) (by omega) _, blk_farq (blk_farq (blk_farq HD4.out.lo (by omega) _) (by omega) _) (by omega) _, blk_set (blk_set (blk_set HD4.out.hi 3 _) 4 _) 5 _, hpq⟩
      by_cases hee : fe = 0
      case neg =>
        have heb : (fe != 0) = true := by simpa using hee
        have HDR : Hid (deemed r n = (0, 0, fe)) := by show _ = _; rw [deemed_e4 HOK.out HFO.out HST.out hg1 hg2 (by rw [HX.out]) (by rw [HY.out]; exact hee), HY.out]
        rw [HRES.out] at HDR
        go_wp2_with fail
        rw [HX5.out]
        (try simp only [Exit.inBlock, Exit.then]); refine bodyPost_ret (results_tmp3' rfl _ _ _) rfl ?_
        exact ⟨by rw [HDR.out]; rfl, HD5.out.be⟩
      subst hee
      go_upto_region 16 with fail
      rw [HX5.out]
      clear HX5 p0 pf0 p1 pf1 p2 pf2 p3 pf3 p4 pf4 p5 pf5
      go_wp2_with fail
      go_roundw
      case rel => exact ⟨2, ⟨xk, xd, xm⟩, ⟨ek, ed, em⟩, ⟨yk, yd, ym⟩, ⟨fk, fd, fm⟩, rfl, by omega, (fun _ => HA0), (fun _ => ⟨HX.out, HY.out⟩), HD5⟩
      case measure => simp [intOf]
    · skip
      have HA0 := HA.out (by decide)
      have HB0 := HB.out (by decide)
      have HW1 : Hid (whenOk x0) := by have h := extreme_wf r.zone a earlier; rw [HA0.1] at h; exact h
      have HW2 : Hid (whenOk y0) := by have h := extreme_wf r.zone a later; rw [HA0.2] at h; exact h
      have HW3 : Hid (whenOk u0) := by have h := extreme_wf r.zone b earlier; rw [HB0.1] at h; exact h
      have HW4 : Hid (whenOk v0) := by have h := extreme_wf r.zone b later; rw [HB0.2] at h; exact h
      have HDR : Hid (deemed r n = fin (bounds r.term r.cal [x0, u0] [y0, v0])) := by
        have h := deemed_ok HOK.out HFO.out HST.out (by rw [HA0.1]) (by rw [HA0.2]) (by rw [HB0.1]) (by rw [HB0.2])
        rw [HA0.1, HA0.2, HB0.1, HB0.2] at h
        exact h
      rw [HRES.out] at HDR
      obtain ⟨⟨fi, la, kn, e⟩, HBO⟩ : ∃ q, Hid (bounds r.term r.cal [x0, u0] [y0, v0] = q) := ⟨_, rfl⟩
      rw [HBO.out] at HDR
      have HE1 : Hid (EvsAt wr [x0, u0] (.slice (some ⟨P, 0, none⟩) 2 2)) := Dl.evs_of_cells _ HD.out.lo rfl (Nat.le_refl _) (by decide) (by intro w hw; simp only [List.mem_cons, List.not_mem_nil, or_false] at hw; rcases hw with rfl | rfl; exact HW1.out; exact HW3.out)
      have HE2 : Hid (EvsAt wr [y0, v0] (.slice (some ⟨Q, 0, none⟩) 2 2)) := Dl.evs_of_cells _ HD.out.hi rfl (Nat.le_refl _) (by decide) (by intro w hw; simp only [List.mem_cons, List.not_mem_nil, or_false] at hw; rcases hw with rfl | rfl; exact HW2.out; exact HW4.out)
      have HBC : Hid (Calls Tryd.prog 28 #[.agg #[.int .i64 r.term.kind, .int .i64 r.term.n, .int .i64 r.term.ev, .bool r.term.bus, .slice p.T r.term.kids.length p.tcap], .agg (ccs r.cal p.hv).toArray, .slice (some ⟨P, 0, none⟩) 2 2, .slice (some ⟨Q, 0, none⟩) 2 2] wr fun e' w' => e' = .returned (.tuple #[.int .i64 fi, .int .i64 la, .bool kn, .int .i64 e]) ∧ Below wr.heap.size wr w') := by
        have h := Dl.bounds_any r.term (.slice p.T r.term.kids.length p.tcap) r.cal p.hv [x0, u0] _ [y0, v0] _ wr (HR.out.below HD.out.be).tr (HR.out.below HD.out.be).cal HE1.out HE2.out (bf_keep HBF.out HD.out.be)
        rw [HBO.out] at h
        exact h
      obtain ⟨-, ⟨⟨c0, c1, c2, c3⟩, c4, c5, c6, c7⟩, t0, t1, t2, t3, t4⟩ := rule_cells HD.out.rb
      clear HA0 HB0 hi0 hi1
      go_wp2_with fail
      refine HBC.out.mono ?_
      rintro e9 X1 ⟨rfl, hb1⟩
      have HBX : Hid (Below W.heap.size W X1) := HD.out.be.trans (hb1.mono HD.out.be.size)
      clear hb1 HBC c0 c1 c2 c3 c4 c5 c6 c7 t0 t1 t2 t3 t4
      by_cases he : e = 0
      case neg =>
        have heb : (e != 0) = true := by simpa using he
        have HDE : Hid (res = (0, 0, e)) := by show _ = _; rw [HDR.out]; unfold fin; rw [if_pos he]
        go_wp2_with fail
        (try simp only [Exit.inBlock, Exit.then]); refine bodyPost_ret (results_tmp3' rfl _ _ _) rfl ?_
        exact ⟨by rw [HDE.out]; rfl, HBX.out⟩
      subst he
      cases kn
      · have HDE : Hid (res = (0, 0, 14)) := by show _ = _; rw [HDR.out]; rfl
        go_wp2_with fail
        (try simp only [Exit.inBlock, Exit.then]); refine bodyPost_ret (results_tmp3' rfl _ _ _) rfl ?_
        exact ⟨by rw [HDE.out]; rfl, HBX.out⟩
      · have HDE : Hid (res = (fi, la, 0)) := by show _ = _; rw [HDR.out]; rfl
        go_wp2_with fail
        (try simp only [Exit.inBlock, Exit.then]); refine bodyPost_ret (results_tmp3' rfl _ _ _) rfl ?_
        exact ⟨by rw [HDE.out]; rfl, HBX.out⟩
end Go.Proofs.YticlmkfifpkdpaaDoor.Rc
