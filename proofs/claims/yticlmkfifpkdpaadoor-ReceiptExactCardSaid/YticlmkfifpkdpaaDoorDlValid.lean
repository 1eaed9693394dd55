/-
  deadline.Valid walked.
-/
import Derived.Test.YticlmkfifpkdpaaDoorDlRange
import Derived.Laws.EntriesVeiled
namespace Go.Proofs.YticlmkfifpkdpaaDoor.Dl
open Go.RowKit Go.Shelf Mem Vw
set_option linter.unusedVariables false
set_option linter.unusedSimpArgs false
attribute [local go_sem] Oper.semAt_some

theorem results_cell1 {fn : Func} {r : Nat} {T : TypeId} (hf : fn.results = #[.cell r T]) {tmps : Array Value} {w : World} {a : Addr} {v : Value} (ht : tmps.getD r undef = .pointer (some a)) (hl : (loadVar T a).run Tryd.prog w = .ok v w) : (results fn tmps).run Tryd.prog w = .ok v w := by
  have ht' : tmps[r]?.getD undef = .pointer (some a) := by simpa using ht
  unfold results
  rw [hf]
  simp [ht', asAddr, hl]
theorem load_bool {W : World} {g : Nat} {v : Value} (hc : W.cell? ⟨g, 0, none⟩ = some v) : (loadVar 4 ⟨g, 0, none⟩).run Tryd.prog W = .ok v W := by go_simp
theorem load_int {W : World} {g : Nat} {v : Value} (hc : W.cell? ⟨g, 0, none⟩ = some v) : (loadVar 3 ⟨g, 0, none⟩).run Tryd.prog W = .ok v W := by go_simp
theorem load_errno {W : World} {g : Nat} {v : Value} (hc : W.cell? ⟨g, 0, none⟩ = some v) : (loadVar 39 ⟨g, 0, none⟩).run Tryd.prog W = .ok v W := by go_simp
/-- What a round of Valid's loop holds. -/
structure VI (W : World) (b1 b2 b5 b6 mp : Nat) (N : Int) (all : List (Nat × Term)) (r : List (Nat × Term)) (X : World) : Prop where
  be : Below W.heap.size W X
  n : X.heap[b1]? = some (.cells #[.int .i64 N] 3 (0, 0))
  res : X.heap[b2]? = some (.cells #[.bool false] 4 (0, 0))
  m : X.heap[b5]? = some (.cells #[.map (some mp)] 101 (0, 0))
  mp : X.heap[mp]? = some (.map ruleEnts 8)
  cnt : ∃ c : Nat, X.heap[b6]? = some (.cells #[.int .i64 c] 3 (0, 0)) ∧ c ≤ 40 ∧ okFrom N 0 all = okFrom N c r
/-- The rule of a kind: what its first function returns; or there is none. -/
theorem fit_at (k : Int) : (∃ (i : Nat) (f g : FuncId), Instr.findNow (.int .i64) (.int .i64 k) ruleEnts.toList 0 = some (some (i, .agg #[.func (.func f) #[] #[], .func (.func g) #[] #[]])) ∧ (∀ args w, (callFunc f args).run Tryd.prog w = .ok (.enter f args) w) ∧
      ∀ (n e : Int) (b : Bool) (l : List Term) (v : Value) (N : Int) (W : World), Tree W (.mk k n e b l) v → 0 ≤ N → N ≤ 1000 → Calls Tryd.prog f #[.agg #[.int .i64 k, .int .i64 n, .int .i64 e, .bool b, v], .int .i64 N] W fun e' w' => e' = .returned (.bool (fits N (.mk k n e b l))) ∧ Below W.heap.size W w') ∨
    (Instr.findNow (.int .i64) (.int .i64 k) ruleEnts.toList 0 = some none ∧ ∀ (n e : Int) (b : Bool) (l : List Term) (N : Int), fits N (.mk k n e b l) = false) := by
  by_cases h1 : k = 1
  · subst h1; exact .inl ⟨_, _, _, find1, (fun args w => by kernel_rfl), fun n e b l v N W hT h0 h9 => by
      have h := fitsDay_any 1 n e b l v N W hT
      rwa [show (isDay n && decide (e = 0) && !b && decide (l.length = 0)) = fits N (.mk 1 n e b l) from rfl] at h⟩
  by_cases h2 : k = 2
  · subst h2; exact .inl ⟨_, _, _, find2, (fun args w => by kernel_rfl), fun n e b l v N W hT h0 h9 => by
      have h := fitsEvent_any 2 n e b l v N W hT h0 h9
      rwa [show (decide (n = 0) && within e (N - 1) && !b && decide (l.length = 0)) = fits N (.mk 2 n e b l) from rfl] at h⟩
  by_cases h3 : k = 3
  · subst h3; exact .inl ⟨_, _, _, find3, (fun args w => by kernel_rfl), fun n e b l v N W hT h0 h9 => by
      have h := fitsCut_any 3 n e b l v N W hT h0 h9
      rwa [show (within n 1440 && within e (N - 1) && !b && decide (l.length = 0)) = fits N (.mk 3 n e b l) from rfl] at h⟩
  by_cases h4 : k = 4
  · subst h4; exact .inl ⟨_, _, _, find4, (fun args w => by kernel_rfl), fun n e b l v N W hT h0 h9 => by
      have h := fitsPlus_any 4 n e b l v N W hT
      rwa [show (within n 1000 && decide (e = 0) && decide (l.length = 1)) = fits N (.mk 4 n e b l) from rfl] at h⟩
  by_cases h5 : k = 5
  · subst h5; exact .inl ⟨_, _, _, find5, (fun args w => by kernel_rfl), fun n e b l v N W hT h0 h9 => by
      have h := fitsMonths_any 5 n e b l v N W hT
      rwa [show (within n 120 && decide (e = 0) && !b && decide (l.length = 1)) = fits N (.mk 5 n e b l) from rfl] at h⟩
  by_cases h6 : k = 6
  · subst h6; exact .inl ⟨_, _, _, find6, (fun args w => by kernel_rfl), fun n e b l v N W hT h0 h9 => by
      have h := fitsNext_any 6 n e b l v N W hT
      rwa [show (decide (n = 0) && decide (e = 0) && !b && decide (l.length = 1)) = fits N (.mk 6 n e b l) from rfl] at h⟩
  by_cases h7 : k = 7
  · subst h7; exact .inl ⟨_, _, _, find7, (fun args w => by kernel_rfl), fun n e b l v N W hT h0 h9 => by
      have h := fitsExtreme_any 7 n e b l v N W hT
      rwa [show (decide (n = 0) && decide (e = 0) && !b && decide (0 < l.length)) = fits N (.mk 7 n e b l) from rfl] at h⟩
  by_cases h8 : k = 8
  · subst h8; exact .inl ⟨_, _, _, find8, (fun args w => by kernel_rfl), fun n e b l v N W hT h0 h9 => by
      have h := fitsExtreme_any 8 n e b l v N W hT
      rwa [show (decide (n = 0) && decide (e = 0) && !b && decide (0 < l.length)) = fits N (.mk 8 n e b l) from rfl] at h⟩
  refine .inr ⟨find_no (by omega), fun n e b l N => ?_⟩
  rw [fits_mk]
  simp [h1, h2, h3, h4, h5, h6, h7, h8]
set_option maxRecDepth 100000 in
set_option maxHeartbeats 4000000 in
theorem valid_any (t : Term) (tv : Value) (N : Int) (W : World) (hT : Tree W t tv) :
    Calls Tryd.prog 30 #[.agg (tc (t, tv)).toArray, .int .i64 N] W fun e w' => e = .returned (.bool (valid t N)) ∧ Below W.heap.size W w' := by
  refine (callsIn_wide (n := 5)).1 ?_
  have HT := Lib.hid hT
  obtain ⟨A, cp, hv1, hc1, hc2⟩ := hT.slice
  subst hv1
  clear hT
  obtain ⟨k, n, e, b, kids⟩ := t
  show CallsIn Fence.wide 5 Tryd.prog 30 #[.agg #[.int .i64 k, .int .i64 n, .int .i64 e, .bool b, .slice A kids.length cp], .int .i64 N] W _
  obtain ⟨w0, HW0⟩ : ∃ w0, Hid (((W.alloc (.cells #[.int .i64 k, .int .i64 n, .int .i64 e, .bool b, .slice A kids.length cp] 31)).alloc (.cells #[.int .i64 N] 3)).alloc (.cells #[.bool false] 4) = w0) := ⟨_, rfl⟩
  have HBE : Hid (Below W.heap.size W w0) := by rw [← HW0.out]; exact (((Below.refl _ W).alloc (Nat.le_refl _) _).alloc (by simp) _).alloc (by simp; omega) _
  have HB0 : Hid (w0.heap[W.heap.size]? = some (.cells #[.int .i64 k, .int .i64 n, .int .i64 e, .bool b, .slice A kids.length cp] 31 (0, 0))) := by rw [← HW0.out]; exact blk_alloc (blk_alloc (blk_newn rfl) _) _
  have HB1 : Hid (w0.heap[W.heap.size + 1]? = some (.cells #[.int .i64 N] 3 (0, 0))) := by rw [← HW0.out]; exact blk_alloc (blk_newn (by simp)) _
  have HB2 : Hid (w0.heap[W.heap.size + 1 + 1]? = some (.cells #[.bool false] 4 (0, 0))) := by rw [← HW0.out]; exact blk_newn (by simp)
  have q1 : w0.cell? ⟨W.heap.size + 1, 0, none⟩ = some (.int .i64 N) := cell_of_blk HB1.out 0
  rw [← HW0.out] at q1
  have HWI := Lib.hid (within_any N 1000 w0)
  refine callsIn_of_wp_marks Tryd.func30 rfl trivial ?_ rfl
  simp only [Tryd.ntmps30, List.size_toArray, List.length_cons, List.length_nil, Nat.reduceAdd, Nat.reduceSub, Array.replicate_succ, Array.replicate_zero, List.push_toArray, List.append_toArray, List.nil_append, List.cons_append]
  gi_wp2_with fail
  rw [HW0.out]
  refine ⟨trivial, (callsIn_wide.2 HWI.out).mono ?_⟩
  rintro e9 w9 ⟨rfl, rfl⟩
  clear q1
  cases hin : within N 1000
  · have f2 := froz_of_blk HB2.out 0
    have q2 := cell_of_blk HB2.out 0
    gi_wp2_with fail
    have HR : Hid (valid (.mk k n e b kids) N = false) := by show _ = _; unfold valid; rw [show (decide (0 ≤ N) && decide (N ≤ 1000)) = within N 1000 from rfl, hin]; rfl
    exact ⟨.bool false, results_cell1 rfl rfl (load_bool (cell_of_blk (blk_set HB2.out 0 (.bool false)) 0)), by rw [HR.out], HBE.out.setCell (by show W.heap.size ≤ W.heap.size + 1 + 1; omega) _⟩
  · have HIN : Hid (0 ≤ N ∧ N ≤ 1000) := by unfold within at hin; show _ ∧ _; simpa using hin
    have HVA : Hid (valid (.mk k n e b kids) N = okFrom N 0 (nodes 1 (.mk k n e b kids))) := by show _ = _; unfold valid; rw [show (decide (0 ≤ N) && decide (N ≤ 1000)) = within N 1000 from rfl, hin]; rfl
    clear hin
    gi_wp2_with fail
    refine ⟨trivial, (callsIn_wide.2 (rules_any w9)).mono ?_⟩
    rintro e8 w1 ⟨rfl, hmap, hb1⟩
    have HMAP := Lib.hid hmap; have HW1 := Lib.hid hb1
    clear hmap hb1
    obtain ⟨w2, HW2⟩ : ∃ w2, Hid ((w1.alloc (.cells #[.map (some w9.heap.size)] 101)).alloc (.cells #[.int .i64 0] 3) = w2) := ⟨_, rfl⟩
    have HW12 : Hid (Below w1.heap.size w1 w2) := by rw [← HW2.out]; exact ((Below.refl _ w1).alloc (Nat.le_refl _) _).alloc (by simp) _
    have HB5 : Hid (w2.heap[w1.heap.size]? = some (.cells #[.map (some w9.heap.size)] 101 (0, 0))) := by rw [← HW2.out]; exact blk_alloc (blk_newn rfl) _
    have HB6 : Hid (w2.heap[w1.heap.size + 1]? = some (.cells #[.int .i64 0] 3 (0, 0))) := by rw [← HW2.out]; exact blk_newn (by simp)
    have HW92 : Hid (Below w9.heap.size w9 w2) := HW1.out.trans (HW12.out.mono HW1.out.size)
    have hb0 := (HW92.out.block _ (lt_of_blk HB0.out)).trans HB0.out
    have q0 : w2.cell? ⟨W.heap.size, 0, none⟩ = some (.int .i64 k) := cell_of_blk hb0 0
    have q1 : w2.cell? ⟨W.heap.size, 1, none⟩ = some (.int .i64 n) := cell_of_blk hb0 1
    have q2 : w2.cell? ⟨W.heap.size, 2, none⟩ = some (.int .i64 e) := cell_of_blk hb0 2
    have q3 : w2.cell? ⟨W.heap.size, 3, none⟩ = some (.bool b) := cell_of_blk hb0 3
    have q4 : w2.cell? ⟨W.heap.size, 4, none⟩ = some (.slice A kids.length cp) := cell_of_blk hb0 4
    rw [← HW2.out] at q0 q1 q2 q3 q4
    have HND := Lib.hid (nodes_any (.mk k n e b kids, .slice A kids.length cp) w2)
    clear hb0
    gi_wp2_with fail
    rw [HW2.out]
    refine ⟨trivial, (callsIn_wide.2 HND.out).mono ?_⟩
    rintro e7 w3 ⟨rfl, hw3⟩
    have HW3 : Hid (Below w2.heap.size w2 w3) := by rw [hw3]; exact (Below.refl _ w2).alloc (Nat.le_refl _) _
    have HBT : Hid (w3.heap[w2.heap.size]? = some (termo (.mk k n e b kids) (.slice A kids.length cp))) := by rw [hw3]; exact blk_new w2 _
    have HSZ : Hid (w3.heap.size = w2.heap.size + 1) := by show _ = _; rw [hw3]; simp
    clear hw3 HND q0 q1 q2 q3 q4
    gi_wp2_with fail
    have HW93 : Hid (Below w9.heap.size w9 w3) := HW92.out.trans (HW3.out.mono HW92.out.size)
    have hs9 : W.heap.size + 1 + 1 < w9.heap.size := lt_of_blk HB2.out
    have hs91 := HW1.out.size
    have hs12 : w1.heap.size + 1 < w2.heap.size := lt_of_blk HB6.out
    have hs23 : w2.heap.size < w3.heap.size := by have := HSZ.out; omega
    have hs24 : w3.heap.size ≤ w2.heap.size + 1 := by have := HSZ.out; omega
    refine range_nodes2 5 (by omega) w2.heap.size W (.mk k n e b kids) (.slice A kids.length cp) rfl HBT.out HT.out (by omega)
      (VI W (W.heap.size + 1) (W.heap.size + 1 + 1) w1.heap.size (w1.heap.size + 1) w9.heap.size N (nodes 1 (.mk k n e b kids)))
      (fun c X => c = .ret ∧ Below W.heap.size W X ∧ X.heap[W.heap.size + 1 + 1]? = some (.cells #[.bool false] 4 (0, 0)) ∧ okFrom N 0 (nodes 1 (.mk k n e b kids)) = false)
      ?hI ?hIx ?hb ?h0 17 18 7 8 ?hassign ?hbody ?hdone ?hstop
    case hI =>
      rintro r X X' h hx hbb
      obtain ⟨c, h6, hc, hok⟩ := h.cnt
      have hl := lt_of_blk h.mp
      exact ⟨h.be.trans (hbb.mono (by omega)), (hbb.block _ (by omega)).trans h.n, (hbb.block _ (by omega)).trans h.res, (hbb.block _ (by omega)).trans h.m, (hbb.block _ (by omega)).trans h.mp, c, (hbb.block _ (by omega)).trans h6, hc, hok⟩
    case hIx =>
      rintro c X X' ⟨h1, h2, h3, h4⟩ hx hbb
      exact ⟨h1, h2.trans (hbb.mono (by omega)), (hbb.block _ (by omega)).trans h3, h4⟩
    case hb =>
      rintro r X h
      exact h.be
    case h0 =>
      exact ⟨HBE.out.trans (HW93.out.mono HBE.out.size), (HW93.out.block _ (by omega)).trans HB1.out, (HW93.out.block _ (by omega)).trans HB2.out, (HW3.out.block _ (by omega)).trans HB5.out,
        (HW3.out.block _ (by omega)).trans ((HW12.out.block _ (lt_of_blk HMAP.out)).trans HMAP.out), 0, (HW3.out.block _ (by omega)).trans HB6.out, by omega, rfl⟩
    case hassign =>
      intro d u xv X K hTu hK
      obtain ⟨uk, un, ue, ub, ul⟩ := u
      obtain ⟨Au, cu, hxv, _, _⟩ := hTu.slice
      subst hxv
      clear hTu
      dsimp only [tc, termo, Term.kind, Term.n, Term.ev, Term.bus, Term.kids, nv] at hK ⊢
      gi_wp2
      exact hK
    case hbody =>
      rintro d u xv r b8 X hI hTu hb8 hlb hlx
      obtain ⟨c, h6, hc, hok⟩ := hI.cnt
      have hTX := hTu.keep hI.be
      obtain ⟨uk, un, ue, ub, ul⟩ := u
      obtain ⟨Au, cu, hxv, _, _⟩ := hTu.slice
      subst hxv
      dsimp only [tc, termo, Term.kind, Term.n, Term.ev, Term.bus, Term.kids, nv] at hb8 ⊢
      have HTU := Lib.hid hTu
      have HTR0 : Hid (∀ (u : Term) (xv : Value), Tree W u xv → ∀ Y, Below W.heap.size W Y → Tree Y u xv) := fun u xv h Y hY => h.keep hY
      have HI := Lib.hid hI; have HTX := Lib.hid hTX; have HOK := Lib.hid hok; have H6 := Lib.hid h6; have HB8 := Lib.hid hb8
      have HSZX : Hid (w3.heap.size + 2 ≤ X.heap.size) := hlx
      have HLB : Hid (w3.heap.size + 2 ≤ b8) := hlb
      have HSTEP : Hid (okFrom N c ((d, .mk uk un ue ub ul) :: r) = (decide (c < 40) && decide (d ≤ 10) && fits N (.mk uk un ue ub ul) && okFrom N (c + 1) r)) := rfl
      clear hI hTu hb8 hok h6 hTX hlb hlx
      obtain ⟨X1, HX1⟩ : ∃ X1, Hid (X.setCell ⟨w1.heap.size + 1, 0, none⟩ (.int .i64 ((c : Int) + 1)) = X1) := ⟨_, rfl⟩
      have hlw : W.heap.size ≤ w1.heap.size + 1 := by omega
      have HF1 : Hid (Fr (fun k => k < w3.heap.size) X X1) := by rw [← HX1.out]; exact (Fr.refl _ X).setCell (p := ⟨w1.heap.size + 1, 0, none⟩) (.inl (by show w1.heap.size + 1 < w3.heap.size; omega)) _
      have HBE1 : Hid (Below W.heap.size W X1) := by rw [← HX1.out]; exact HI.out.be.setCell (p := ⟨w1.heap.size + 1, 0, none⟩) hlw _
      have HC1 : Hid (X1.heap[w1.heap.size + 1]? = some (.cells #[.int .i64 ((c : Int) + 1)] 3 (0, 0))) := by rw [← HX1.out]; exact blk_set H6.out 0 _
      have HN1 : Hid (X1.heap[W.heap.size + 1]? = some (.cells #[.int .i64 N] 3 (0, 0))) := by rw [← HX1.out]; exact blk_farq HI.out.n (by omega) _
      have HR1 : Hid (X1.heap[W.heap.size + 1 + 1]? = some (.cells #[.bool false] 4 (0, 0))) := by rw [← HX1.out]; exact blk_farq HI.out.res (by omega) _
      have HM1 : Hid (X1.heap[w1.heap.size]? = some (.cells #[.map (some w9.heap.size)] 101 (0, 0))) := by rw [← HX1.out]; exact blk_farq HI.out.m (by omega) _
      have hl9 : w9.heap.size < w1.heap.size := lt_of_blk HMAP.out
      have HP1 : Hid (X1.heap[w9.heap.size]? = some (.map ruleEnts 8)) := by rw [← HX1.out]; exact blk_farq HI.out.mp (by omega) _
      have HB81 : Hid (X1.heap[b8]? = some (.cells #[.int .i64 uk, .int .i64 un, .int .i64 ue, .bool ub, .slice Au ul.length cu] 31 (0, 0))) := by rw [← HX1.out]; exact blk_farq HB8.out (by have := HLB.out; omega) _
      have HTX1 : Hid (Tree X1 (.mk uk un ue ub ul) (.slice Au ul.length cu)) := by
        rw [← HX1.out]
        have h := HTR0.out (.mk uk un ue ub ul) (.slice Au ul.length cu)
        exact h HTU.out _ (by rw [HX1.out]; exact HBE1.out)
      have HSX1 : Hid (w3.heap.size + 2 ≤ X1.heap.size) := Nat.le_trans HSZX.out HF1.out.size
      have HRET : Hid (∀ (a : Act) (Y : World), okFrom N c ((d, .mk uk un ue ub ul) :: r) = false → Below X1.heap.size X1 Y → RoundPost w3.heap.size d r (VI W (W.heap.size + 1) (W.heap.size + 1 + 1) w1.heap.size (w1.heap.size + 1) w9.heap.size N (nodes 1 (.mk k n e b kids)))
          (fun c X => c = .ret ∧ Below W.heap.size W X ∧ X.heap[W.heap.size + 1 + 1]? = some (.cells #[.bool false] 4 (0, 0)) ∧ okFrom N 0 (nodes 1 (.mk k n e b kids)) = false) X .ret a (Y.setCell ⟨W.heap.size + 1 + 1, 0, none⟩ (.bool false))) := by
        intro a Y hno hY
        have hs := HSX1.out
        have hy := hY.size
        refine ⟨⟨rfl, ?_, ?_, by rw [HOK.out]; exact hno⟩, ?_⟩
        · exact (HBE1.out.trans (hY.mono HBE1.out.size)).setCell (p := ⟨W.heap.size + 1 + 1, 0, none⟩) (by show W.heap.size ≤ W.heap.size + 1 + 1; omega) _
        · exact blk_set ((hY.block _ (lt_of_blk HR1.out)).trans HR1.out) 0 _
        · exact (HF1.out.trans (Fr.of_below hY)).setCell (p := ⟨W.heap.size + 1 + 1, 0, none⟩) (.inl (by show W.heap.size + 1 + 1 < w3.heap.size; omega)) _
      have r6 : X.cell? ⟨w1.heap.size + 1, 0, none⟩ = some (.int .i64 c) := cell_of_blk H6.out 0
      have f6 : X.frozen? ⟨w1.heap.size + 1, 0, none⟩ = false := froz_of_blk H6.out 0
      have r2 : X1.cell? ⟨W.heap.size + 1 + 1, 0, none⟩ = some (.bool false) := cell_of_blk HR1.out 0
      have f2 : X1.frozen? ⟨W.heap.size + 1 + 1, 0, none⟩ = false := froz_of_blk HR1.out 0
      have r61 : X1.cell? ⟨w1.heap.size + 1, 0, none⟩ = some (.int .i64 ((c : Int) + 1)) := cell_of_blk HC1.out 0
      by_cases hc40 : c < 40
      · by_cases hd10 : d ≤ 10
        · have r5 : X1.cell? ⟨w1.heap.size, 0, none⟩ = some (.map (some w9.heap.size)) := cell_of_blk HM1.out 0
          have p0 : X1.cell? ⟨b8, 0, none⟩ = some (.int .i64 uk) := cell_of_blk HB81.out 0
          rcases fit_at uk with ⟨i, f, g, hfind, henter, hcall⟩ | ⟨hfind, hnofit⟩
          · have hlook := run_look HP1.out hfind
            clear hfind
            have HCL : Hid (∀ Y, Below X1.heap.size X1 Y → Calls Tryd.prog f #[.agg #[.int .i64 uk, .int .i64 un, .int .i64 ue, .bool ub, .slice Au ul.length cu], .int .i64 N] Y fun e' w' => e' = .returned (.bool (fits N (.mk uk un ue ub ul))) ∧ Below Y.heap.size Y w') := fun Y hY => hcall un ue ub ul _ N Y (HTX1.out.keep hY) HIN.out.1 HIN.out.2
            obtain ⟨ft, HFT⟩ : ∃ ft, Hid (fits N (.mk uk un ue ub ul) = ft) := ⟨_, rfl⟩
            rw [HFT.out] at HCL
            clear hcall
            obtain ⟨X2, HX2⟩ : ∃ X2, Hid (X1.alloc (.cells #[.func (.func f) #[] #[], .func (.func g) #[] #[]] 111) = X2) := ⟨_, rfl⟩
            have HX12 : Hid (Below X1.heap.size X1 X2) := by rw [← HX2.out]; exact (Below.refl _ X1).alloc (Nat.le_refl _) _
            have hbb8 := (HX12.out.block _ (lt_of_blk HB81.out)).trans HB81.out
            have p1 : X2.cell? ⟨b8, 0, none⟩ = some (.int .i64 uk) := cell_of_blk hbb8 0
            have p2 : X2.cell? ⟨b8, 1, none⟩ = some (.int .i64 un) := cell_of_blk hbb8 1
            have p3 : X2.cell? ⟨b8, 2, none⟩ = some (.int .i64 ue) := cell_of_blk hbb8 2
            have p4 : X2.cell? ⟨b8, 3, none⟩ = some (.bool ub) := cell_of_blk hbb8 3
            have p5 : X2.cell? ⟨b8, 4, none⟩ = some (.slice Au ul.length cu) := cell_of_blk hbb8 4
            have p6 : X2.cell? ⟨W.heap.size + 1, 0, none⟩ = some (.int .i64 N) := cell_of_blk ((HX12.out.block _ (lt_of_blk HN1.out)).trans HN1.out) 0
            have hc2 := HCL.out X2 HX12.out
            rw [← HX2.out] at p1 p2 p3 p4 p5 p6
            rw [← HX1.out] at r5 p0 hlook r2 f2 r61 p1 p2 p3 p4 p5 p6
            have HC2 := Lib.hid hc2
            clear hc2 hbb8
            gi_wp2_with fail
            rw [HX1.out, HX2.out]
            refine ⟨(by first | trivial | (intro h; cases h; trivial)), CallsIn.mono (CallsIn.inRound _ ((callsIn_wide (n := _)).2 HC2.out)) ?_⟩
            rintro e6 X3 ⟨rfl, hb3⟩
            have HX23 := Lib.hid hb3
            have HX13 : Hid (Below X1.heap.size X1 X3) := HX12.out.trans (hb3.mono HX12.out.size)
            clear hb3 r5 p0 hlook r2 f2 r61 p1 p2 p3 p4 p5 p6 HC2 HCL
            cases ft
            · have HNO : Hid (okFrom N c ((d, .mk uk un ue ub ul) :: r) = false) := by show _ = _; rw [HSTEP.out, HFT.out]; simp
              have hbr := (HX13.out.block _ (lt_of_blk HR1.out)).trans HR1.out
              have r2 : X3.cell? ⟨W.heap.size + 1 + 1, 0, none⟩ = some (.bool false) := cell_of_blk hbr 0
              have f2 : X3.frozen? ⟨W.heap.size + 1 + 1, 0, none⟩ = false := froz_of_blk hbr 0
              clear hbr
              gi_wp2_with fail
              exact HRET.out _ X3 HNO.out HX13.out
            · have HYES : Hid (okFrom N c ((d, .mk uk un ue ub ul) :: r) = okFrom N (c + 1) r) := by show _ = _; rw [HSTEP.out, HFT.out, decide_eq_true hc40, decide_eq_true hd10]; rfl
              gi_wp2_with fail
              have hs := HSX1.out
              have hbx := HX13.out.block
              refine ⟨⟨HBE1.out.trans (HX13.out.mono HBE1.out.size), (hbx _ (lt_of_blk HN1.out)).trans HN1.out, (hbx _ (lt_of_blk HR1.out)).trans HR1.out, (hbx _ (lt_of_blk HM1.out)).trans HM1.out, (hbx _ (lt_of_blk HP1.out)).trans HP1.out, c + 1, ?_, by omega, by rw [HOK.out, HYES.out]⟩, hd10, HF1.out.trans (Fr.of_below HX13.out)⟩
              exact (hbx _ (lt_of_blk HC1.out)).trans HC1.out
          · have HNO : Hid (okFrom N c ((d, .mk uk un ue ub ul) :: r) = false) := by show _ = _; rw [HSTEP.out, hnofit]; simp
            have hlook := run_look_no HP1.out hfind
            clear hfind hnofit
            obtain ⟨X2, HX2⟩ : ∃ X2, Hid (X1.alloc (.cells #[.nilFunc, .nilFunc] 111) = X2) := ⟨_, rfl⟩
            have HX12 : Hid (Below X1.heap.size X1 X2) := by rw [← HX2.out]; exact (Below.refl _ X1).alloc (Nat.le_refl _) _
            have hbr := (HX12.out.block _ (lt_of_blk HR1.out)).trans HR1.out
            have r22 : X2.cell? ⟨W.heap.size + 1 + 1, 0, none⟩ = some (.bool false) := cell_of_blk hbr 0
            have f22 : X2.frozen? ⟨W.heap.size + 1 + 1, 0, none⟩ = false := froz_of_blk hbr 0
            clear hbr
            rw [← HX2.out] at r22 f22
            rw [← HX1.out] at r5 p0 hlook r2 f2 r61 r22 f22
            gi_wp2_with fail
            refine ⟨(by intro f hf; cases hf), ?_⟩
            gi_wp2_with fail
            rw [HX1.out, HX2.out]
            exact HRET.out _ X2 HNO.out HX12.out
        · have HNO : Hid (okFrom N c ((d, .mk uk un ue ub ul) :: r) = false) := by show _ = _; rw [HSTEP.out, decide_eq_false hd10]; simp
          rw [← HX1.out] at r2 f2 r61
          gi_wp2_with fail
          rw [HX1.out]
          exact HRET.out _ X1 HNO.out (Below.refl _ X1)
      · have HNO : Hid (okFrom N c ((d, .mk uk un ue ub ul) :: r) = false) := by show _ = _; rw [HSTEP.out, decide_eq_false hc40]; simp
        rw [← HX1.out] at r2 f2 r61
        gi_wp2_with fail
        rw [HX1.out]
        exact HRET.out _ X1 HNO.out (Below.refl _ X1)
    case hdone =>
      rintro X hI hlx hD
      obtain ⟨c, h6, hc, hok⟩ := hI.cnt
      have HRE : Hid (valid (.mk k n e b kids) N = true) := by show _ = _; rw [HVA.out, hok]; rfl
      have HR := Lib.hid hI.res; have HXB := Lib.hid hI.be
      have HD := Lib.hid hD; have HLX : Hid (w3.heap.size < X.heap.size) := lt_of_blk hD
      clear hI h6 hc hok hD hlx
      have r2 : X.cell? ⟨W.heap.size + 1 + 1, 0, none⟩ = some (.bool false) := cell_of_blk HR.out 0
      have f2 : X.frozen? ⟨W.heap.size + 1 + 1, 0, none⟩ = false := froz_of_blk HR.out 0
      gi_wp2
      refine ⟨by simp, .inl ⟨_, _, rfl, run_takeDeferred (blk_farq HD.out (by omega) _), ?_⟩⟩
      refine ⟨.bool true, results_cell1 rfl rfl (load_bool (cell_of_blk (cs := #[.bool true]) (t := 4) ?_ 0)), by rw [HRE.out], ?_⟩
      · rw [World.putObj_heap_other (by omega)]
        exact blk_set HR.out 0 _
      · exact (HXB.out.setCell (p := ⟨W.heap.size + 1 + 1, 0, none⟩) (by show W.heap.size ≤ W.heap.size + 1 + 1; omega) _).trans (below_putObj _ _ (by omega) (by rw [World.size_setCell]; exact HLX.out))
    case hstop =>
      rintro c X ⟨rfl, hbx, hres, hno⟩ hlx hD
      have HRE : Hid (valid (.mk k n e b kids) N = false) := by show _ = _; rw [HVA.out, hno]
      have HR := Lib.hid hres; have HXB := Lib.hid hbx
      have HD := Lib.hid hD; have HLX : Hid (w3.heap.size < X.heap.size) := lt_of_blk hD
      clear hbx hres hno hD hlx
      gi_wp2
      refine ⟨by simp, .inl ⟨_, _, rfl, run_takeDeferred HD.out, ?_⟩⟩
      refine ⟨.bool false, results_cell1 rfl rfl (load_bool (cell_of_blk (cs := #[.bool false]) (t := 4) ?_ 0)), by rw [HRE.out], ?_⟩
      · rw [World.putObj_heap_other (by omega)]
        exact HR.out
      · exact HXB.out.trans (below_putObj _ _ (by omega) HLX.out)
end Go.Proofs.YticlmkfifpkdpaaDoor.Dl
