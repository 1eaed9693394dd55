/-
  deadline.Eval walked.
-/
import Derived.Test.YticlmkfifpkdpaaDoorDlEvs
import Derived.Test.YticlmkfifpkdpaaDoorReg2
namespace Go.Proofs.YticlmkfifpkdpaaDoor.Dl
open Go.RowKit Go.Shelf Mem Vw
set_option linter.unusedVariables false
set_option linter.unusedSimpArgs false
attribute [local go_sem] Oper.semAt_some

theorem results_cells3 {fn : Func} {r1 r2 r3 : Nat} {T1 T2 T3 : TypeId} (hf : fn.results = #[.cell r1 T1, .cell r2 T2, .cell r3 T3]) {tmps : Array Value} {w : World} {a1 a2 a3 : Addr} {v1 v2 v3 : Value}
    (h1 : tmps.getD r1 undef = .pointer (some a1)) (h2 : tmps.getD r2 undef = .pointer (some a2)) (h3 : tmps.getD r3 undef = .pointer (some a3))
    (l1 : (loadVar T1 a1).run Tryd.prog w = .ok v1 w) (l2 : (loadVar T2 a2).run Tryd.prog w = .ok v2 w) (l3 : (loadVar T3 a3).run Tryd.prog w = .ok v3 w) : (results fn tmps).run Tryd.prog w = .ok (.tuple #[v1, v2, v3]) w := by
  have h1' : tmps[r1]?.getD undef = .pointer (some a1) := by simpa using h1
  have h2' : tmps[r2]?.getD undef = .pointer (some a2) := by simpa using h2
  have h3' : tmps[r3]?.getD undef = .pointer (some a3) := by simpa using h3
  unfold results
  rw [hf]
  simp [h1', h2', h3', asAddr, l1, l2, l3]
/-- What Eval returns. -/
def evalv (r : Int × Bool × Int) : Value := .tuple #[.int .i64 r.1, .bool r.2.1, .int .i64 r.2.2]
/-- The three result cells. -/
structure R3 (b : Nat) (x : Int) (y : Bool) (z : Int) (X : World) : Prop where
  r1 : X.heap[b]? = some (.cells #[.int .i64 x] 3 (0, 0))
  r2 : X.heap[b + 1]? = some (.cells #[.bool y] 4 (0, 0))
  r3 : X.heap[b + 1 + 1]? = some (.cells #[.int .i64 z] 39 (0, 0))
theorem R3.below {b : Nat} {x : Int} {y : Bool} {z : Int} {X X' : World} {n : Nat} (h : R3 b x y z X) (hb : Below n X X') (hn : b + 1 + 1 < n) : R3 b x y z X' :=
  ⟨(hb.block _ (by omega)).trans h.r1, (hb.block _ (by omega)).trans h.r2, (hb.block _ (by omega)).trans h.r3⟩
theorem R3.set {b : Nat} {x x' : Int} {y y' : Bool} {z z' : Int} {X : World} (h : R3 b x y z X) : R3 b x' y' z' (((X.setCell ⟨b, 0, none⟩ (.int .i64 x')).setCell ⟨b + 1, 0, none⟩ (.bool y')).setCell ⟨b + 1 + 1, 0, none⟩ (.int .i64 z')) :=
  ⟨blk_farq (blk_farq (blk_set h.r1 0 _) (by omega) _) (by omega) _, blk_farq (blk_set (blk_farq h.r2 (by omega) _) 0 _) (by omega) _, blk_set (blk_farq (blk_farq h.r3 (by omega) _) (by omega) _) 0 _⟩
theorem R3.results {b : Nat} {x : Int} {y : Bool} {z : Int} {X : World} (h : R3 b x y z X) {tmps : Array Value} (h1 : tmps.getD 6 undef = .pointer (some ⟨b, 0, none⟩)) (h2 : tmps.getD 7 undef = .pointer (some ⟨b + 1, 0, none⟩)) (h3 : tmps.getD 8 undef = .pointer (some ⟨b + 1 + 1, 0, none⟩)) :
    (results Tryd.f17 tmps).run Tryd.prog X = .ok (evalv (x, y, z)) X :=
  results_cells3 rfl h1 h2 h3 (load_int (cell_of_blk h.r1 0)) (load_bool (cell_of_blk h.r2 0)) (load_errno (cell_of_blk h.r3 0))
/-- What the boxes of Eval hold. -/
structure EB (W : World) (t : Term) (tv : Value) (c : Cal) (hv : Value) (ev : Value) (X : World) : Prop where
  be : Below W.heap.size W X
  b0 : X.heap[W.heap.size]? = some (termo t tv)
  b1 : X.heap[W.heap.size + 1]? = some (.cells (ccs c hv).toArray 28 (0, 0))
  b2 : X.heap[W.heap.size + 1 + 1]? = some (.cells #[ev] 42 (0, 0))
theorem EB.below {W : World} {t : Term} {tv : Value} {c : Cal} {hv ev : Value} {X X' : World} {n : Nat} (h : EB W t tv c hv ev X) (hb : Below n X X') (hn : W.heap.size + 1 + 1 < n) : EB W t tv c hv ev X' :=
  ⟨h.be.trans (hb.mono (by omega)), (hb.block _ (by omega)).trans h.b0, (hb.block _ (by omega)).trans h.b1, (hb.block _ (by omega)).trans h.b2⟩
def kn (l : List When) (x : Nat × Term) : Bool := !hasEv x.2 || (evAt l x.2.ev).known
/-- A condition that no panic meets. -/
def calm (Q : Exit → Act → World → Prop) : Exit → Act → World → Prop
  | .panic _, _, _ => False
  | e, a, w => Q e a w
theorem calm_le {Q : Exit → Act → World → Prop} : ∀ (e : Exit) (a : Act) (w : World), calm Q e a w → Q e a w := by
  intro e a w h
  cases e <;> first | exact h | exact h.elim
theorem dayres_form {o : Option Int} {v : Value} (h : DayRes o v) : ∃ (d : Int) (ok : Bool), v = .tuple #[.int .i64 d, .bool ok] ∧ (ok = true → o = some d) ∧ (ok = false → o = none) := by
  rcases h with ⟨d, h1, h2⟩ | ⟨h1, d, h2⟩
  · exact ⟨d, true, h2, fun _ => h1, (fun h => by cases h)⟩
  · exact ⟨d, false, h2, (fun h => by cases h), fun _ => h1⟩
set_option maxRecDepth 100000 in
set_option maxHeartbeats 4000000 in
theorem eval_any (t : Term) (tv : Value) (c : Cal) (hv : Value) (l : List When) (ev : Value) (W : World) (hT : Tree W t tv) (hC : CalAt W c hv) (hE : EvsAt W l ev) (hbf : Bf W) :
    Calls Tryd.prog 17 #[.agg (tc (t, tv)).toArray, .agg (ccs c hv).toArray, ev] W fun e w' => e = .returned (evalv (eval t c l)) ∧ Below W.heap.size W w' := by
  refine (callsIn_wide (n := 5)).1 ?_
  have HT := Lib.hid hT; have HC := Lib.hid hC; have HE := Lib.hid hE; have HBF := Lib.hid hbf
  obtain ⟨A, cp, hv1, hc1, hc2⟩ := hT.slice
  subst hv1
  obtain ⟨Ae, ne, hev, hne1, hne2, _⟩ := hE.slice
  subst hev
  clear hT hC hE hbf
  obtain ⟨k, n, e, b, kids⟩ := t
  show CallsIn Fence.wide 5 Tryd.prog 17 #[.agg #[.int .i64 k, .int .i64 n, .int .i64 e, .bool b, .slice A kids.length cp], .agg (ccs c hv).toArray, .slice Ae l.length ne] W _
  obtain ⟨w0, HW0⟩ : ∃ w0, Hid ((((((W.alloc (.cells #[.int .i64 k, .int .i64 n, .int .i64 e, .bool b, .slice A kids.length cp] 31)).alloc (.cells (ccs c hv).toArray 28)).alloc (.cells #[.slice Ae l.length ne] 42)).alloc (.cells #[.int .i64 0] 3)).alloc (.cells #[.bool false] 4)).alloc (.cells #[.int .i64 0] 39) = w0) := ⟨_, rfl⟩
  have HEB : Hid (EB W (.mk k n e b kids) (.slice A kids.length cp) c hv (.slice Ae l.length ne) w0) := by
    rw [← HW0.out]
    refine ⟨((((((Below.refl _ W).alloc (Nat.le_refl _) _).alloc (by simp) _).alloc (by simp; omega) _).alloc (by simp; omega) _).alloc (by simp; omega) _).alloc (by simp; omega) _, ?_, ?_, ?_⟩
    · exact blk_alloc (blk_alloc (blk_alloc (blk_alloc (blk_alloc (blk_newn rfl) _) _) _) _) _
    · exact blk_alloc (blk_alloc (blk_alloc (blk_alloc (blk_newn (by simp)) _) _) _) _
    · exact blk_alloc (blk_alloc (blk_alloc (blk_newn (by simp)) _) _) _
  have HR3 : Hid (R3 (W.heap.size + 1 + 1 + 1) 0 false 0 w0) := by
    rw [← HW0.out]
    exact ⟨blk_alloc (blk_alloc (blk_newn (by simp)) _) _, blk_alloc (blk_newn (by simp)) _, blk_newn (by simp)⟩
  have HSW : Hid (W.heap.size + 1 + 1 + 1 + 1 + 1 < w0.heap.size) := lt_of_blk HR3.out.r3
  refine callsIn_of_wp_marks Tryd.func17 rfl trivial ?_ rfl
  simp only [Tryd.ntmps17, List.size_toArray, List.length_cons, List.length_nil, Nat.reduceAdd, Nat.reduceSub, Array.replicate_succ, Array.replicate_zero, List.push_toArray, List.append_toArray, List.nil_append, List.cons_append]
  refine wpIn_wide.2 ?_
  go_upto_region 1 with fail
  rw [HW0.out]
  clear HW0
  have HV := Lib.hid (cvalid_any c hv w0 (HC.out.below HEB.out.be))
  have q2 : w0.cell? ⟨W.heap.size + 1 + 1, 0, none⟩ = some (.slice Ae l.length ne) := cell_of_blk HEB.out.b2 0
  have hcc := ccs_cells HEB.out.b1
  have k0 := hcc.1 0 (by omega); have k1 := hcc.1 1 (by omega); have k2 := hcc.1 2 (by omega); have k3 := hcc.1 3 (by omega); have k4 := hcc.1 4 (by omega); have k5 := hcc.1 5 (by omega); have k6 := hcc.1 6 (by omega); have k7 := hcc.2
  clear hcc
  cases hok : c.ok
  · rw [hok] at HV
    have HRE : Hid (eval (.mk k n e b kids) c l = (0, false, 1)) := eval_bad (fun h => by rw [hok] at h; exact absurd h.1 (by simp))
    clear hok
    go_wp2_with fail
    refine HV.out.mono ?_
    rintro e9 w1 ⟨rfl, hb1⟩
    have HR1 := Lib.hid (HR3.out.below hb1 (by have := HSW.out; omega)); have HB1 := Lib.hid (HEB.out.below hb1 (by have := HSW.out; omega))
    clear hb1 k0 k1 k2 k3 k4 k5 k6 k7 q2
    have f1 : w1.frozen? ⟨W.heap.size + 1 + 1 + 1, 0, none⟩ = false := froz_of_blk HR1.out.r1 0
    have g1 := cell_of_blk HR1.out.r1 0
    have f2 : w1.frozen? ⟨W.heap.size + 1 + 1 + 1 + 1, 0, none⟩ = false := froz_of_blk HR1.out.r2 0
    have g2 := cell_of_blk HR1.out.r2 0
    have f3 : w1.frozen? ⟨W.heap.size + 1 + 1 + 1 + 1 + 1, 0, none⟩ = false := froz_of_blk HR1.out.r3 0
    have g3 := cell_of_blk HR1.out.r3 0
    go_wp2_with fail
    exact ⟨evalv (0, false, 1), (R3.set HR1.out).results rfl rfl rfl, by rw [HRE.out], ((HB1.out.be.setCell (p := ⟨W.heap.size + 1 + 1 + 1, 0, none⟩) (by show W.heap.size ≤ W.heap.size + 1 + 1 + 1; omega) _).setCell (p := ⟨W.heap.size + 1 + 1 + 1 + 1, 0, none⟩) (by show W.heap.size ≤ W.heap.size + 1 + 1 + 1 + 1; omega) _).setCell (p := ⟨W.heap.size + 1 + 1 + 1 + 1 + 1, 0, none⟩) (by show W.heap.size ≤ W.heap.size + 1 + 1 + 1 + 1 + 1; omega) _⟩
  · rw [hok] at HV
    have HOK := Lib.hid hok; clear hok
    go_wp2_with fail
    refine HV.out.mono ?_
    rintro e9 w1 ⟨rfl, hb1⟩
    have HR1 := Lib.hid (HR3.out.below hb1 (by have := HSW.out; omega)); have HB1 := Lib.hid (HEB.out.below hb1 (by have := HSW.out; omega))
    have HS1 : Hid (W.heap.size + 1 + 1 + 1 + 1 + 1 < w1.heap.size) := lt_of_blk HR1.out.r3
    clear hb1 k0 k1 k2 k3 k4 k5 k6 k7 q2
    have HVA := Lib.hid (valid_any (.mk k n e b kids) (.slice A kids.length cp) l.length w1 (HT.out.keep HB1.out.be))
    have q2 : w1.cell? ⟨W.heap.size + 1 + 1, 0, none⟩ = some (.slice Ae l.length ne) := cell_of_blk HB1.out.b2 0
    have hbt := HB1.out.b0
    dsimp only [tc, termo, Term.kind, Term.n, Term.ev, Term.bus, Term.kids, nv] at hbt
    have t0 : w1.cell? ⟨W.heap.size, 0, none⟩ = some (.int .i64 k) := cell_of_blk hbt 0
    have t1 : w1.cell? ⟨W.heap.size, 1, none⟩ = some (.int .i64 n) := cell_of_blk hbt 1
    have t2 : w1.cell? ⟨W.heap.size, 2, none⟩ = some (.int .i64 e) := cell_of_blk hbt 2
    have t3 : w1.cell? ⟨W.heap.size, 3, none⟩ = some (.bool b) := cell_of_blk hbt 3
    have t4 : w1.cell? ⟨W.heap.size, 4, none⟩ = some (.slice A kids.length cp) := cell_of_blk hbt 4
    clear hbt
    cases hva : valid (.mk k n e b kids) l.length
    · rw [hva] at HVA
      have HRE : Hid (eval (.mk k n e b kids) c l = (0, false, 1)) := eval_bad (fun h => by rw [hva] at h; exact absurd h.2.1 (by simp))
      clear hva
      go_wp2_with fail
      refine HVA.out.mono ?_
      rintro e8 w2 ⟨rfl, hb2⟩
      have HR2 := Lib.hid (HR1.out.below hb2 HS1.out); have HB2 := Lib.hid (HB1.out.below hb2 (by have := HS1.out; omega))
      clear hb2 t0 t1 t2 t3 t4 q2
      have f1 : w2.frozen? ⟨W.heap.size + 1 + 1 + 1, 0, none⟩ = false := froz_of_blk HR2.out.r1 0
      have g1 := cell_of_blk HR2.out.r1 0
      have f2 : w2.frozen? ⟨W.heap.size + 1 + 1 + 1 + 1, 0, none⟩ = false := froz_of_blk HR2.out.r2 0
      have g2 := cell_of_blk HR2.out.r2 0
      have f3 : w2.frozen? ⟨W.heap.size + 1 + 1 + 1 + 1 + 1, 0, none⟩ = false := froz_of_blk HR2.out.r3 0
      have g3 := cell_of_blk HR2.out.r3 0
      go_wp2_with fail
      exact ⟨evalv (0, false, 1), (R3.set HR2.out).results rfl rfl rfl, by rw [HRE.out], ((HB2.out.be.setCell (p := ⟨W.heap.size + 1 + 1 + 1, 0, none⟩) (by show W.heap.size ≤ W.heap.size + 1 + 1 + 1; omega) _).setCell (p := ⟨W.heap.size + 1 + 1 + 1 + 1, 0, none⟩) (by show W.heap.size ≤ W.heap.size + 1 + 1 + 1 + 1; omega) _).setCell (p := ⟨W.heap.size + 1 + 1 + 1 + 1 + 1, 0, none⟩) (by show W.heap.size ≤ W.heap.size + 1 + 1 + 1 + 1 + 1; omega) _⟩
    · rw [hva] at HVA
      have HVAL := Lib.hid hva; clear hva
      go_wp2_with fail
      refine HVA.out.mono ?_
      rintro e8 w2 ⟨rfl, hb2⟩
      have HR2 := Lib.hid (HR1.out.below hb2 HS1.out); have HB2 := Lib.hid (HB1.out.below hb2 (by have := HS1.out; omega))
      have HS2 : Hid (W.heap.size + 1 + 1 + 1 + 1 + 1 < w2.heap.size) := lt_of_blk HR2.out.r3
      clear hb2 t0 t1 t2 t3 t4 q2
      have HVE := Lib.hid (validEvents_any l (.slice Ae l.length ne) w2 (HE.out.below HB2.out.be))
      have q2 : w2.cell? ⟨W.heap.size + 1 + 1, 0, none⟩ = some (.slice Ae l.length ne) := cell_of_blk HB2.out.b2 0
      cases hve : evsOk l
      · rw [hve] at HVE
        have HRE : Hid (eval (.mk k n e b kids) c l = (0, false, 1)) := eval_bad (fun h => by rw [hve] at h; exact absurd h.2.2 (by simp))
        clear hve
        go_wp2_with fail
        refine HVE.out.mono ?_
        rintro e7 w3 ⟨rfl, hb3⟩
        have HR3' := Lib.hid (HR2.out.below hb3 HS2.out); have HB3 := Lib.hid (HB2.out.below hb3 (by have := HS2.out; omega))
        clear hb3 q2
        have f1 : w3.frozen? ⟨W.heap.size + 1 + 1 + 1, 0, none⟩ = false := froz_of_blk HR3'.out.r1 0
        have g1 := cell_of_blk HR3'.out.r1 0
        have f2 : w3.frozen? ⟨W.heap.size + 1 + 1 + 1 + 1, 0, none⟩ = false := froz_of_blk HR3'.out.r2 0
        have g2 := cell_of_blk HR3'.out.r2 0
        have f3 : w3.frozen? ⟨W.heap.size + 1 + 1 + 1 + 1 + 1, 0, none⟩ = false := froz_of_blk HR3'.out.r3 0
        have g3 := cell_of_blk HR3'.out.r3 0
        go_wp2_with fail
        exact ⟨evalv (0, false, 1), (R3.set HR3'.out).results rfl rfl rfl, by rw [HRE.out], ((HB3.out.be.setCell (p := ⟨W.heap.size + 1 + 1 + 1, 0, none⟩) (by show W.heap.size ≤ W.heap.size + 1 + 1 + 1; omega) _).setCell (p := ⟨W.heap.size + 1 + 1 + 1 + 1, 0, none⟩) (by show W.heap.size ≤ W.heap.size + 1 + 1 + 1 + 1; omega) _).setCell (p := ⟨W.heap.size + 1 + 1 + 1 + 1 + 1, 0, none⟩) (by show W.heap.size ≤ W.heap.size + 1 + 1 + 1 + 1 + 1; omega) _⟩
      · rw [hve] at HVE
        have HEV := Lib.hid hve
        have HEVAL : Hid (eval (.mk k n e b kids) c l = (if !allKnown l (.mk k n e b kids) then ((0, false, 0) : Int × Bool × Int) else match day c l (.mk k n e b kids) with | none => ((0, false, 2) : Int × Bool × Int) | some d => (d, true, 0))) := eval_good HOK.out HVAL.out hve
        clear hve
        go_wp2_with fail
        refine HVE.out.mono ?_
        rintro e7 w3 ⟨rfl, hb3⟩
        have HR4 := Lib.hid (HR2.out.below hb3 HS2.out); have HB4 := Lib.hid (HB2.out.below hb3 (by have := HS2.out; omega))
        have HS4 : Hid (W.heap.size + 1 + 1 + 1 + 1 + 1 < w3.heap.size) := lt_of_blk HR4.out.r3
        clear hb3 q2
        have hbt := HB4.out.b0
        dsimp only [tc, termo, Term.kind, Term.n, Term.ev, Term.bus, Term.kids, nv] at hbt
        have t0 : w3.cell? ⟨W.heap.size, 0, none⟩ = some (.int .i64 k) := cell_of_blk hbt 0
        have t1 : w3.cell? ⟨W.heap.size, 1, none⟩ = some (.int .i64 n) := cell_of_blk hbt 1
        have t2 : w3.cell? ⟨W.heap.size, 2, none⟩ = some (.int .i64 e) := cell_of_blk hbt 2
        have t3 : w3.cell? ⟨W.heap.size, 3, none⟩ = some (.bool b) := cell_of_blk hbt 3
        have t4 : w3.cell? ⟨W.heap.size, 4, none⟩ = some (.slice A kids.length cp) := cell_of_blk hbt 4
        clear hbt
        have HND := Lib.hid (nodes_any (.mk k n e b kids, .slice A kids.length cp) w3)
        go_wp2_with fail
        refine HND.out.mono ?_
        rintro e6 w4 ⟨rfl, hw4⟩
        have HW4 : Hid (Below w3.heap.size w3 w4) := by rw [hw4]; exact (Below.refl _ w3).alloc (Nat.le_refl _) _
        have HBT : Hid (w4.heap[w3.heap.size]? = some (termo (.mk k n e b kids) (.slice A kids.length cp))) := by rw [hw4]; exact blk_new w3 _
        clear hw4 HND t0 t1 t2 t3 t4
        have HR5 := Lib.hid (HR4.out.below HW4.out HS4.out); have HB5 := Lib.hid (HB4.out.below HW4.out (by have := HS4.out; omega))
        have hs4 := HS4.out
        have hs34 : w3.heap.size < w4.heap.size := lt_of_blk HBT.out
        have HAK : Hid (allKnown l (.mk k n e b kids) = (nodes 1 (.mk k n e b kids)).all (kn l)) := rfl
        have HVI := Lib.hid ((valid_iff _ _).1 HVAL.out)
        have HEVR : Hid (∀ x ∈ nodes 1 (.mk k n e b kids), hasEv x.2 = true → 0 ≤ x.2.ev ∧ x.2.ev < l.length) := fun x hx he => ev_rng HVAL.out hx he
        go_wp2_with fail
        refine wpIn_wide.1 (range_nodes1 5 (by omega) w3.heap.size W (.mk k n e b kids) (.slice A kids.length cp) rfl HBT.out HT.out (by omega)
          (fun r X => EB W (.mk k n e b kids) (.slice A kids.length cp) c hv (.slice Ae l.length ne) X ∧ R3 (W.heap.size + 1 + 1 + 1) 0 false 0 X ∧ (∀ x ∈ r, x ∈ nodes 1 (.mk k n e b kids)) ∧ allKnown l (.mk k n e b kids) = r.all (kn l))
          (fun cc X => cc = .ret ∧ Below W.heap.size W X ∧ R3 (W.heap.size + 1 + 1 + 1) 0 false 0 X ∧ allKnown l (.mk k n e b kids) = false)
          ?hI ?hIx ?hb ⟨HB5.out, HR5.out, fun x hx => hx, rfl⟩ 29 30 10 ?hassign ?hbody ?hdone ?hstop)
        case hI =>
          rintro r X X' ⟨h1, h2, h3, h4⟩ hx hbb
          exact ⟨h1.below hbb (by omega), h2.below hbb (by omega), h3, h4⟩
        case hIx =>
          rintro cc X X' ⟨h1, h2, h3, h4⟩ hx hbb
          exact ⟨h1, h2.trans (hbb.mono (by omega)), h3.below hbb (by omega), h4⟩
        case hb =>
          rintro r X ⟨h, _⟩
          exact h.be
        case hassign =>
          intro d u xv X K hTu hK
          obtain ⟨uk, un, ue, ub, ul⟩ := u
          obtain ⟨Au, cu, hxv, _, _⟩ := hTu.slice
          subst hxv
          clear hTu
          dsimp only [tc, termo, Term.kind, Term.n, Term.ev, Term.bus, Term.kids, nv] at hK ⊢
          gi_wp2
          exact hK
        case hbody =>
          rintro d u xv r b8 X ⟨hI, hR, hM, hA⟩ hTu hb8 hlb hlx
          obtain ⟨uk, un, ue, ub, ul⟩ := u
          obtain ⟨Au, cu, hxv, _, _⟩ := hTu.slice
          subst hxv
          dsimp only [tc, termo, Term.kind, Term.n, Term.ev, Term.bus, Term.kids, nv] at hb8 ⊢
          have HI := Lib.hid hI; have HRX := Lib.hid hR; have HM := Lib.hid hM; have HA := Lib.hid hA; have HB8 := Lib.hid hb8
          have HLX : Hid (w4.heap.size + 2 ≤ X.heap.size) := hlx
          have HST : Hid (((d, Term.mk uk un ue ub ul) :: r).all (kn l) = (kn l (d, Term.mk uk un ue ub ul) && r.all (kn l))) := rfl
          have HKN : Hid (kn l (d, Term.mk uk un ue ub ul) = (!hasEv (.mk uk un ue ub ul) || (evAt l ue).known)) := rfl
          have HD10 : Hid (d ≤ 10) := (HVI.out.2.2 _ (hM _ List.mem_cons_self)).1
          have HRG := Lib.hid (HEVR.out _ (hM _ List.mem_cons_self))
          have HHE := Lib.hid (hasEvent_any uk un ue ub ul (.slice Au ul.length cu) X)
          clear hI hR hM hA hTu hb8 hlb hlx
          have p0 : X.cell? ⟨b8, 0, none⟩ = some (.int .i64 uk) := cell_of_blk HB8.out 0
          have p1 : X.cell? ⟨b8, 1, none⟩ = some (.int .i64 un) := cell_of_blk HB8.out 1
          have p2 : X.cell? ⟨b8, 2, none⟩ = some (.int .i64 ue) := cell_of_blk HB8.out 2
          have p3 : X.cell? ⟨b8, 3, none⟩ = some (.bool ub) := cell_of_blk HB8.out 3
          have p4 : X.cell? ⟨b8, 4, none⟩ = some (.slice Au ul.length cu) := cell_of_blk HB8.out 4
          cases hhe : hasEv (.mk uk un ue ub ul)
          · rw [hhe] at HHE
            have HNX : Hid (allKnown l (.mk k n e b kids) = r.all (kn l)) := by show _ = _; rw [HA.out, HST.out, HKN.out, hhe]; rfl
            clear hhe
            gi_wp2_with fail
            refine ⟨(by first | trivial | (intro h; cases h; trivial)), CallsIn.mono (CallsIn.inRound _ ((callsIn_wide (n := _)).2 HHE.out)) ?_⟩
            rintro e9 X1 ⟨rfl, hb1⟩
            have HX1 := Lib.hid hb1
            clear hb1 p0 p1 p2 p3 p4
            gi_wp2_with fail
            have hbx := HX1.out
            have hlx := HLX.out
            exact ⟨⟨HI.out.below hbx (by omega), HRX.out.below hbx (by omega), fun x hx => HM.out x (List.mem_cons_of_mem _ hx), HNX.out⟩, HD10.out, Fr.of_below hbx⟩
          · rw [hhe] at HHE
            have hrg : 0 ≤ ue ∧ ue < (l.length : Int) := HRG.out hhe
            have HKN2 : Hid (kn l (d, Term.mk uk un ue ub ul) = (evAt l ue).known) := by show _ = _; rw [HKN.out, hhe]; rfl
            obtain ⟨g, o, cg, hve, hg, c0, c1, c2⟩ := ev_at HE.out hrg.1 hrg.2
            injection hve with hve1 hve2 hve3
            subst hve1 hve3
            obtain ⟨x, hx⟩ : ∃ x : Nat, ue = (x : Int) := ⟨ue.toNat, by omega⟩
            subst hx
            rw [Int.toNat_natCast] at c0
            have hx1 : x < l.length := by omega
            clear hhe c1 c2
            gi_wp2_with fail
            refine ⟨(by first | trivial | (intro h; cases h; trivial)), CallsIn.mono (CallsIn.inRound _ ((callsIn_wide (n := _)).2 HHE.out)) ?_⟩
            rintro e9 X1 ⟨rfl, hb1⟩
            have HX1 := Lib.hid hb1
            have hb81 := (hb1.block _ (lt_of_blk HB8.out)).trans HB8.out
            clear hb1 p0 p1 p2 p3 p4
            have p2 : X1.cell? ⟨b8, 2, none⟩ = some (.int .i64 (x : Int)) := cell_of_blk hb81 2
            have HEB1 := Lib.hid (HI.out.below HX1.out (by have := HLX.out; omega)); have HR1' := Lib.hid (HRX.out.below HX1.out (by have := HLX.out; omega))
            have q2 : X1.cell? ⟨W.heap.size + 1 + 1, 0, none⟩ = some (.slice (some ⟨g, o, none⟩) l.length ne) := cell_of_blk HEB1.out.b2 0
            have c0 := (World.cell?_of_block (a := ⟨g, o + x * 3, none⟩) (HEB1.out.be.block g hg)).trans c0
            cases hkn : (evAt l (x : Int)).known
            · rw [hkn] at c0
              have HNO : Hid (allKnown l (.mk k n e b kids) = false) := by show _ = _; rw [HA.out, HST.out, HKN2.out, hkn]; rfl
              clear hkn hb81
              have f1 : X1.frozen? ⟨W.heap.size + 1 + 1 + 1, 0, none⟩ = false := froz_of_blk HR1'.out.r1 0
              have g1 := cell_of_blk HR1'.out.r1 0
              have f2 : X1.frozen? ⟨W.heap.size + 1 + 1 + 1 + 1, 0, none⟩ = false := froz_of_blk HR1'.out.r2 0
              have g2 := cell_of_blk HR1'.out.r2 0
              have f3 : X1.frozen? ⟨W.heap.size + 1 + 1 + 1 + 1 + 1, 0, none⟩ = false := froz_of_blk HR1'.out.r3 0
              have g3 := cell_of_blk HR1'.out.r3 0
              gi_wp2_with fail
              refine ⟨⟨rfl, ?_, R3.set HR1'.out, HNO.out⟩, ?_⟩
              · exact ((HEB1.out.be.setCell (p := ⟨W.heap.size + 1 + 1 + 1, 0, none⟩) (by show W.heap.size ≤ W.heap.size + 1 + 1 + 1; omega) _).setCell (p := ⟨W.heap.size + 1 + 1 + 1 + 1, 0, none⟩) (by show W.heap.size ≤ W.heap.size + 1 + 1 + 1 + 1; omega) _).setCell (p := ⟨W.heap.size + 1 + 1 + 1 + 1 + 1, 0, none⟩) (by show W.heap.size ≤ W.heap.size + 1 + 1 + 1 + 1 + 1; omega) _
              · exact (((Fr.of_below HX1.out).setCell (p := ⟨W.heap.size + 1 + 1 + 1, 0, none⟩) (.inl (by show W.heap.size + 1 + 1 + 1 < w4.heap.size; omega)) _).setCell (p := ⟨W.heap.size + 1 + 1 + 1 + 1, 0, none⟩) (.inl (by show W.heap.size + 1 + 1 + 1 + 1 < w4.heap.size; omega)) _).setCell (p := ⟨W.heap.size + 1 + 1 + 1 + 1 + 1, 0, none⟩) (.inl (by show W.heap.size + 1 + 1 + 1 + 1 + 1 < w4.heap.size; omega)) _
            · rw [hkn] at c0
              have HNX : Hid (allKnown l (.mk k n e b kids) = r.all (kn l)) := by show _ = _; rw [HA.out, HST.out, HKN2.out, hkn]; rfl
              clear hkn hb81
              gi_wp2_with fail
              exact ⟨⟨HEB1.out, HR1'.out, fun x hx => HM.out x (List.mem_cons_of_mem _ hx), HNX.out⟩, HD10.out, Fr.of_below HX1.out⟩
        case hdone =>
          rintro X ⟨hI, hR, hM, hA⟩ hlx hD
          have HI := Lib.hid hI; have HRX := Lib.hid hR
          have HKT : Hid (allKnown l (.mk k n e b kids) = true) := hA
          have HEV2 : Hid (eval (.mk k n e b kids) c l = (match day c l (.mk k n e b kids) with | none => ((0, false, 2) : Int × Bool × Int) | some d => (d, true, 0))) := by show _ = _; rw [HEVAL.out, hA]; rfl
          have HD := Lib.hid hD
          have HLX : Hid (w4.heap.size < X.heap.size) := lt_of_blk hD
          have HSX : Hid (W.heap.size + 1 + 1 + 1 + 1 + 1 < X.heap.size) := by have := HLX.out; show _ < _; omega
          have hb0 := hI.b0
          dsimp only [tc, termo, Term.kind, Term.n, Term.ev, Term.bus, Term.kids, nv] at hb0
          have HB0 := Lib.hid hb0
          clear hI hR hM hA hlx hD hb0
          go_upto_region 7 with fail
          refine wp_mono ?_ calm_le
          have HXD : Hid (Below X.heap.size X X.drew) := (⟨rfl, rfl, rfl, Nat.le_refl _, fun k hk => rfl⟩ : Below X.heap.size X X.drew)
          refine Reg.G.start (by kernel_rfl) ?_
          refine' Reg.G.take (i := 0) (v := _) (F := (fun w => Below X.heap.size X w)) rfl (by rfl) (by kernel_rfl) (by kernel_rfl) (by kernel_rfl) (fun _ _ _ h => h) (HXD.out) ?hye1 ?rehye1
          case hye1 => intro w hw; have kc := ccs_cells ((hw.block _ (lt_of_blk HI.out.b1)).trans HI.out.b1); have k0 := kc.1 0 (by omega); have k1 := kc.1 1 (by omega); have k2 := kc.1 2 (by omega); have k3 := kc.1 3 (by omega); have k4 := kc.1 4 (by omega); have k5 := kc.1 5 (by omega); have k6 := kc.1 6 (by omega); have k7 := kc.2; clear hw kc; first | (go_simp; done) | (go_simp; with_reducible rfl)
          simp only [Act.put, List.setIfInBounds_toArray, List.set_cons_zero, List.set_cons_succ]
          refine' Reg.G.take (i := 1) (v := _) (F := (fun w => Below X.heap.size X w)) rfl (by rfl) (by kernel_rfl) (by kernel_rfl) (by kernel_rfl) (fun _ _ _ h => h) (HXD.out) ?hye2 ?rehye2
          case hye2 => intro w hw; have kc := cell_of_blk ((hw.block _ (lt_of_blk HI.out.b2)).trans HI.out.b2) 0; clear hw; have kc : w.cell? ⟨W.heap.size + 1 + 1, 0, none⟩ = some (.slice Ae l.length ne) := kc; first | (go_simp; done) | (go_simp; with_reducible rfl)
          simp only [Act.put, List.setIfInBounds_toArray, List.set_cons_zero, List.set_cons_succ]
          refine' Reg.G.pure (i := 2) (v := _) rfl (by rfl) (by kernel_rfl) (by kernel_rfl) (by kernel_rfl) (fun _ _ _ h => h) ?hye3 ?rehye3
          case hye3 => exact fun w => by first | (go_simp; done) | (go_simp; with_reducible rfl)
          simp only [Act.put, List.setIfInBounds_toArray, List.set_cons_zero, List.set_cons_succ]
          refine' Reg.G.take (i := 4) (v := _) (F := (fun w => Below X.heap.size X w)) rfl (by rfl) (by kernel_rfl) (by kernel_rfl) (by kernel_rfl) (fun _ _ _ h => h) (HXD.out) ?hye4 ?rehye4
          case hye4 => intro w hw; have kb := (hw.block _ (lt_of_blk HB0.out)).trans HB0.out; clear hw; have t0 : w.cell? ⟨W.heap.size, 0, none⟩ = some (.int .i64 k) := cell_of_blk kb 0; have t1 : w.cell? ⟨W.heap.size, 1, none⟩ = some (.int .i64 n) := cell_of_blk kb 1; have t2 : w.cell? ⟨W.heap.size, 2, none⟩ = some (.int .i64 e) := cell_of_blk kb 2; have t3 : w.cell? ⟨W.heap.size, 3, none⟩ = some (.bool b) := cell_of_blk kb 3; have t4 : w.cell? ⟨W.heap.size, 4, none⟩ = some (.slice A kids.length cp) := cell_of_blk kb 4; clear kb; first | (go_simp; done) | (go_simp; with_reducible rfl)
          simp only [Act.put, List.setIfInBounds_toArray, List.set_cons_zero, List.set_cons_succ]
          refine Reg.G.step (j := 3) (m := [true, true, true]) [4, 1, 0] rfl (by kernel_rfl) rfl (by kernel_rfl) (fun K hK => ?_)
          go_simp
          refine (rules_any _).mono ?_
          rintro e9 w5 ⟨rfl, hmap, hb5⟩
          have HMAP := Lib.hid hmap
          have HX5 : Hid (Below X.heap.size X w5) := (HXD.out).trans (hb5.mono (HXD.out).size)
          clear hmap hb5
          refine hK.out _ _ ⟨HX5.out, HX5.out, HX5.out, trivial⟩ ?_
          clear hK K
          simp only [Act.put, List.setIfInBounds_toArray, List.set_cons_zero, List.set_cons_succ, Reg.Kept]
          refine Reg.G.step (j := 5) (m := [false, false, false]) [4, 1, 0] rfl (by kernel_rfl) rfl (by kernel_rfl) (fun K hK => ?_)
          go_simp
          have HDC := Lib.hid (tday_any c hv l (.slice Ae l.length ne) HEV.out (.mk k n e b kids) (.slice A kids.length cp) 1 _ w5 ⟨HC.out.below (HI.out.be.trans (HX5.out.mono HI.out.be.size)), HOK.out, HE.out.below (HI.out.be.trans (HX5.out.mono HI.out.be.size)), HBF.out.below (HI.out.be.trans (HX5.out.mono HI.out.be.size))⟩ (HT.out.keep (HI.out.be.trans (HX5.out.mono HI.out.be.size))) HMAP.out (fun u hu => ⟨(HVI.out.2.2 u hu).2, fun he => known_iff.1 HKT.out u hu he⟩) (by have := HVI.out.2.1; omega))
          refine HDC.out.mono ?_
          rintro e8 w6 ⟨⟨v8, rfl, hdr⟩, hb6⟩
          have HX6 : Hid (Below X.heap.size X w6) := HX5.out.trans (hb6.mono HX5.out.size)
          obtain ⟨d8, ok8, hv8, hyes, hno⟩ := dayres_form hdr
          subst hv8
          have HYES := Lib.hid hyes; have HNO := Lib.hid hno
          clear hb6 hdr hyes hno HDC
          refine hK.out _ _ trivial ?_
          clear hK K
          simp only [Act.put, List.setIfInBounds_toArray, List.set_cons_zero, List.set_cons_succ, Reg.Kept]
          refine' Reg.G.pure (i := 6) (v := _) rfl (by rfl) (by kernel_rfl) (by kernel_rfl) (by kernel_rfl) (fun _ _ _ h => h) ?hye5 ?rehye5
          case hye5 => exact fun w => by first | (go_simp; done) | (go_simp; with_reducible rfl)
          simp only [Act.put, List.setIfInBounds_toArray, List.set_cons_zero, List.set_cons_succ]
          refine' Reg.G.pure (i := 7) (v := _) rfl (by rfl) (by kernel_rfl) (by kernel_rfl) (by kernel_rfl) (fun _ _ _ h => h) ?hye6 ?rehye6
          case hye6 => exact fun w => by first | (go_simp; done) | (go_simp; with_reducible rfl)
          simp only [Act.put, List.setIfInBounds_toArray, List.set_cons_zero, List.set_cons_succ]
          refine' Reg.G.pure (i := 8) (v := _) rfl (by rfl) (by kernel_rfl) (by kernel_rfl) (by kernel_rfl) (fun _ _ _ h => h) ?hye7 ?rehye7
          case hye7 => exact fun w => by first | (go_simp; done) | (go_simp; with_reducible rfl)
          simp only [Act.put, List.setIfInBounds_toArray, List.set_cons_zero, List.set_cons_succ]
          refine Reg.G.step (j := 9) (m := []) [] rfl (by kernel_rfl) rfl (by kernel_rfl) (fun K hK => ?_)
          have hr6 := HRX.out.below HX6.out HSX.out
          have f1 := froz_of_blk hr6.r1 0
          have g1 := cell_of_blk hr6.r1 0
          go_simp
          clear f1 g1
          refine hK.out _ _ trivial ?_
          clear hK K
          simp only [Act.put, List.setIfInBounds_toArray, List.set_cons_zero, List.set_cons_succ, Reg.Kept]
          refine' Reg.G.pure (i := 10) (v := _) rfl (by rfl) (by kernel_rfl) (by kernel_rfl) (by kernel_rfl) (fun _ _ _ h => h) ?hye8 ?rehye8
          case hye8 => exact fun w => by first | (go_simp; done) | (go_simp; with_reducible rfl)
          simp only [Act.put, List.setIfInBounds_toArray, List.set_cons_zero, List.set_cons_succ]
          refine Reg.G.done (by kernel_rfl) ?_
          dsimp only [calm]
          obtain ⟨w7, HW7⟩ : ∃ w7, Hid (w6.setCell ⟨W.heap.size + 1 + 1 + 1, 0, none⟩ (.int .i64 d8) = w7) := ⟨_, rfl⟩
          have hr6 := HRX.out.below HX6.out HSX.out
          have HR7 : Hid (R3 (W.heap.size + 1 + 1 + 1) d8 false 0 w7) := by rw [← HW7.out]; exact ⟨blk_set hr6.r1 0 _, blk_farq hr6.r2 (by omega) _, blk_farq hr6.r3 (by omega) _⟩
          have hsx := HSX.out
          have hlx := HLX.out
          have hx6 := HX6.out.size
          have HB7 : Hid (Below W.heap.size W w7) := by rw [← HW7.out]; exact (HI.out.be.trans (HX6.out.mono HI.out.be.size)).setCell (p := ⟨W.heap.size + 1 + 1 + 1, 0, none⟩) (by show W.heap.size ≤ W.heap.size + 1 + 1 + 1; omega) _
          have HD7 : Hid (w7.heap[w4.heap.size]? = some (.deferred (some []))) := by rw [← HW7.out]; exact blk_farq ((HX6.out.block _ HLX.out).trans HD.out) (by omega) _
          have HL7 : Hid (w4.heap.size < w7.heap.size) := lt_of_blk HD7.out
          rw [HW7.out]
          clear HW7 hr6
          have hl7 := HL7.out
          cases ok8
          · have HRE : Hid (eval (.mk k n e b kids) c l = (0, false, 2)) := by show _ = _; rw [HEV2.out, HNO.out rfl]
            have f1 : w7.frozen? ⟨W.heap.size + 1 + 1 + 1, 0, none⟩ = false := froz_of_blk HR7.out.r1 0
            have g1 := cell_of_blk HR7.out.r1 0
            have f2 : w7.frozen? ⟨W.heap.size + 1 + 1 + 1 + 1, 0, none⟩ = false := froz_of_blk HR7.out.r2 0
            have g2 := cell_of_blk HR7.out.r2 0
            have f3 : w7.frozen? ⟨W.heap.size + 1 + 1 + 1 + 1 + 1, 0, none⟩ = false := froz_of_blk HR7.out.r3 0
            have g3 := cell_of_blk HR7.out.r3 0
            go_wp2_with fail
            refine ⟨by simp, .inl ⟨_, _, rfl, run_takeDeferred (blk_farq (blk_farq (blk_farq HD7.out (by omega) _) (by omega) _) (by omega) _), ?_⟩⟩
            have hp : ∀ Y : World, Y.heap.size = w7.heap.size → Below w4.heap.size Y (Y.putObj w4.heap.size (.deferred none)) := fun Y hy => below_putObj _ _ (Nat.le_refl _) (by omega)
            refine ⟨evalv (0, false, 2), ((R3.set HR7.out).below (hp _ (by simp)) (by omega)).results rfl rfl rfl, by rw [HRE.out], ?_⟩
            exact (((HB7.out.setCell (p := ⟨W.heap.size + 1 + 1 + 1, 0, none⟩) (by show W.heap.size ≤ W.heap.size + 1 + 1 + 1; omega) _).setCell (p := ⟨W.heap.size + 1 + 1 + 1 + 1, 0, none⟩) (by show W.heap.size ≤ W.heap.size + 1 + 1 + 1 + 1; omega) _).setCell (p := ⟨W.heap.size + 1 + 1 + 1 + 1 + 1, 0, none⟩) (by show W.heap.size ≤ W.heap.size + 1 + 1 + 1 + 1 + 1; omega) _).trans ((hp _ (by simp)).mono (by omega))
          · have HRE : Hid (eval (.mk k n e b kids) c l = (d8, true, 0)) := by show _ = _; rw [HEV2.out, HYES.out rfl]
            have f1 : w7.frozen? ⟨W.heap.size + 1 + 1 + 1, 0, none⟩ = false := froz_of_blk HR7.out.r1 0
            have g1 := cell_of_blk HR7.out.r1 0
            have f2 : w7.frozen? ⟨W.heap.size + 1 + 1 + 1 + 1, 0, none⟩ = false := froz_of_blk HR7.out.r2 0
            have g2 := cell_of_blk HR7.out.r2 0
            have f3 : w7.frozen? ⟨W.heap.size + 1 + 1 + 1 + 1 + 1, 0, none⟩ = false := froz_of_blk HR7.out.r3 0
            have g3 := cell_of_blk HR7.out.r3 0
            go_wp2_with fail
            refine ⟨by simp, .inl ⟨_, _, rfl, run_takeDeferred (blk_farq (blk_farq (blk_farq HD7.out (by omega) _) (by omega) _) (by omega) _), ?_⟩⟩
            have hp : ∀ Y : World, Y.heap.size = w7.heap.size → Below w4.heap.size Y (Y.putObj w4.heap.size (.deferred none)) := fun Y hy => below_putObj _ _ (Nat.le_refl _) (by omega)
            refine ⟨evalv (d8, true, 0), ((R3.set HR7.out).below (hp _ (by simp)) (by omega)).results rfl rfl rfl, by rw [HRE.out], ?_⟩
            exact (((HB7.out.setCell (p := ⟨W.heap.size + 1 + 1 + 1, 0, none⟩) (by show W.heap.size ≤ W.heap.size + 1 + 1 + 1; omega) _).setCell (p := ⟨W.heap.size + 1 + 1 + 1 + 1, 0, none⟩) (by show W.heap.size ≤ W.heap.size + 1 + 1 + 1 + 1; omega) _).setCell (p := ⟨W.heap.size + 1 + 1 + 1 + 1 + 1, 0, none⟩) (by show W.heap.size ≤ W.heap.size + 1 + 1 + 1 + 1 + 1; omega) _).trans ((hp _ (by simp)).mono (by omega))
        case hstop =>
          rintro cc X ⟨rfl, hbx, hres, hno⟩ hlx hD
          have HRE : Hid (eval (.mk k n e b kids) c l = (0, false, 0)) := by show _ = _; rw [HEVAL.out, hno]; rfl
          have HR := Lib.hid hres; have HXB := Lib.hid hbx
          have HD := Lib.hid hD; have HLX : Hid (w4.heap.size < X.heap.size) := lt_of_blk hD
          clear hbx hres hno hD hlx
          gi_wp2
          refine ⟨by simp, .inl ⟨_, _, rfl, run_takeDeferred HD.out, ?_⟩⟩
          have hp : Below w4.heap.size X (X.putObj w4.heap.size (.deferred none)) := below_putObj _ _ (Nat.le_refl _) HLX.out
          exact ⟨evalv (0, false, 0), (HR.out.below hp (by omega)).results rfl rfl rfl, by rw [HRE.out], HXB.out.trans (hp.mono (by omega))⟩
end Go.Proofs.YticlmkfifpkdpaaDoor.Dl
