/-
  A loop over the nodes of a term: from what its body does to what the loop does.
-/
import Derived.Test.YticlmkfifpkdpaaDoorDlVisit
namespace Go.Proofs.YticlmkfifpkdpaaDoor.Dl
open Go.RowKit Go.Shelf Mem Vw
set_option linter.unusedVariables false
set_option linter.unusedSimpArgs false
attribute [local go_sem] Oper.semAt_some

theorem below_putObj {n0 l : Nat} (W : World) (o : Obj) (hn : n0 ≤ l) (hl : l < W.heap.size) : Below n0 W (W.putObj l o) :=
  ⟨rfl, rfl, rfl, by simp [World.putObj], fun k hk => World.putObj_heap_other (by omega)⟩
theorem fr_putObj {S : Nat → Prop} {l : Nat} (W : World) (o : Obj) (hl : S l) : Fr S W (W.putObj l o) :=
  ⟨rfl, rfl, rfl, by simp [World.putObj], fun k hk hs => World.putObj_heap_other (fun e => hs (e ▸ hl))⟩
def termo (u : Term) (xv : Value) : Obj := .cells (tc (u, xv)).toArray 31 (0, 0)
set_option maxRecDepth 100000 in
theorem nodes1_in (m l s0 bt : Nat) (Wb : World) (J : List (Nat × Term) → World → Prop) (Jx : World → Prop)
    (hJ : ∀ r W W', J r W → s0 ≤ W.heap.size → Below W.heap.size W W' → J r W') (hb : ∀ r W, J r W → Below Wb.heap.size Wb W)
    (hY : ∀ (d : Nat) (u : Term) (xv : Value) (r : List (Nat × Term)) (W : World), s0 ≤ W.heap.size → Tree Wb u xv → J ((d, u) :: r) W → YieldAt Fence.wide m Tryd.prog l #[.int .i64 d, .agg (tc (u, xv)).toArray] W fun e W' => TK s0 W W' ∧ ((e = .returned (.bool true) ∧ d ≤ 10 ∧ J r W') ∨ (e = .returned (.bool false) ∧ Jx W')))
    (t : Term) (tv : Value) (W : World) (hs : s0 ≤ W.heap.size) (hsb : Wb.heap.size ≤ s0) (hT : Tree Wb t tv) (h0 : J (nodes 1 t) W) (hbt : W.heap[bt]? = some (termo t tv)) :
    CallsIn Fence.wide m Tryd.prog 64 #[.func (.yield l) #[] #[], .pointer (some ⟨bt, 0, none⟩)] W fun e W' => (∃ v, e = .returned v) ∧ (J [] W' ∨ Jx W') := by
  have HV := Lib.hid ((callsIn_wide (n := m - 1)).2 (callsIn_wide.1 (visit_in m l s0 Wb J Jx hJ hb hY t tv 1 [] W hs hsb (by omega) hT (by rw [List.append_nil]; exact h0))))
  have hbt : W.heap[bt]? = some (.cells (tc (t, tv)).toArray 31 (0, 0)) := hbt
  obtain ⟨k, n, e, b, kids⟩ := t
  obtain ⟨A, cp, hv1, hc1, hc2⟩ := hT.slice
  have hv1 : tv = .slice A kids.length cp := hv1
  subst hv1
  have q0 : W.cell? ⟨bt, 0, none⟩ = some (.int .i64 k) := cell_of_blk hbt 0
  have q1 : W.cell? ⟨bt, 1, none⟩ = some (.int .i64 n) := cell_of_blk hbt 1
  have q2 : W.cell? ⟨bt, 2, none⟩ = some (.int .i64 e) := cell_of_blk hbt 2
  have q3 : W.cell? ⟨bt, 3, none⟩ = some (.bool b) := cell_of_blk hbt 3
  have q4 : W.cell? ⟨bt, 4, none⟩ = some (.slice A kids.length cp) := cell_of_blk hbt 4
  clear hJ hb hY hs hsb hT h0 hbt
  refine callsIn_of_wp Tryd.func64 rfl trivial ?_ rfl
  simp only [Tryd.ntmps64, List.size_toArray, List.length_cons, List.length_nil, Nat.reduceAdd, Nat.reduceSub, Array.replicate_succ, Array.replicate_zero, List.push_toArray, List.append_toArray, List.nil_append, List.cons_append]
  gi_wp2
  refine ⟨trivial, (by intro h; cases h), CallsIn.mono HV.out ?_⟩
  rintro e9 w1 ⟨_, ⟨rfl, hj⟩ | ⟨rfl, hj⟩⟩
  · have HJ1 := Lib.hid hj; clear hj HV q0 q1 q2 q3 q4
    gi_wp2
    go_end0
    exact ⟨⟨_, rfl⟩, .inl HJ1.out⟩
  · have HJ1 := Lib.hid hj; clear hj HV q0 q1 q2 q3 q4
    gi_wp2
    go_end0
    exact ⟨⟨_, rfl⟩, .inr HJ1.out⟩
/-- What a round of a loop's body owes. -/
def RoundPost (n1 d : Nat) (r : List (Nat × Term)) (I : List (Nat × Term) → World → Prop) (Ix : Code → World → Prop) (W : World) : Exit → Act → World → Prop
  | .normal, _, W' => I r W' ∧ d ≤ 10 ∧ Fr (fun k => k < n1) W W'
  | .ret, _, W' => Ix .ret W' ∧ Fr (fun k => k < n1) W W'
  | .exit id, _, W' => Ix (.exit id) W' ∧ Fr (fun k => k < n1) W W'
  | _, _, _ => False
/-- The same, for a body that owns memory of its own. -/
def RoundPostK (n1 d : Nat) (r : List (Nat × Term)) (I : List (Nat × Term) → World → Prop) (Ix : Code → World → Prop) (W : World) : Exit → Act → World → Prop
  | .normal, _, W' => I r W' ∧ d ≤ 10 ∧ TK n1 W W' ∧ W'.heap[n1]? = W.heap[n1]? ∧ W'.heap[n1 + 1]? = W.heap[n1 + 1]?
  | .ret, _, W' => Ix .ret W' ∧ TK n1 W W' ∧ W'.heap[n1]? = W.heap[n1]? ∧ W'.heap[n1 + 1]? = W.heap[n1 + 1]?
  | .exit id, _, W' => Ix (.exit id) W' ∧ TK n1 W W' ∧ W'.heap[n1]? = W.heap[n1]? ∧ W'.heap[n1 + 1]? = W.heap[n1 + 1]?
  | _, _, _ => False
theorem postK {n1 d : Nat} {r : List (Nat × Term)} {I : List (Nat × Term) → World → Prop} {Ix : Code → World → Prop} {W : World} (hs : n1 + 2 ≤ W.heap.size) : ∀ (e : Exit) (a : Act) (w : World), RoundPost n1 d r I Ix W e a w → RoundPostK n1 d r I Ix W e a w := by
  intro e a w h
  cases e with
  | normal => exact ⟨h.1, h.2.1, TK.of_fr h.2.2, h.2.2.block _ (by omega) (by omega), h.2.2.block _ (by omega) (by omega)⟩
  | ret => exact ⟨h.1, TK.of_fr h.2, h.2.block _ (by omega) (by omega), h.2.block _ (by omega) (by omega)⟩
  | exit id => exact ⟨h.1, TK.of_fr h.2, h.2.block _ (by omega) (by omega), h.2.block _ (by omega) (by omega)⟩
  | goto t => exact h.elim
  | panic ch => exact h.elim
  | outgrown => exact h.elim
set_option maxHeartbeats 1000000 in
theorem range_nodes {g : Operand} {ps : Array Tmp} {assign body : Code} {Q : Exit → Act → World → Prop} {a : Act} {w : World} (m : Nat) (hm : 3 ≤ m) (bt : Nat) (Wb : World) (t : Term) (tv : Value)
    (hg : a.eval g = .func (.func 64) #[] #[.pointer (some ⟨bt, 0, none⟩)]) (hps : ps.size = 2)
    (hbt : w.heap[bt]? = some (termo t tv)) (hT : Tree Wb t tv) (hsb : Wb.heap.size ≤ w.heap.size)
    (I : List (Nat × Term) → World → Prop) (Ix : Code → World → Prop)
    (hI : ∀ r W W', I r W → w.heap.size ≤ W.heap.size → Below W.heap.size W W' → I r W') (hIp : ∀ r W i o, (i = w.heap.size ∨ i = w.heap.size + 1) → i < W.heap.size → I r W → I r (W.putObj i o)) (hIx : ∀ c W i o, (i = w.heap.size ∨ i = w.heap.size + 1) → i < W.heap.size → Ix c W → Ix c (W.putObj i o))
    (hb : ∀ r W, I r W → Below Wb.heap.size Wb W) (h0 : I (nodes 1 t) w) (a₁ : Nat → Term → Value → Nat → Act)
    (hassign : ∀ (d : Nat) (u : Term) (xv : Value) (W : World) (K : Act → World → Prop), Tree Wb u xv → K (a₁ d u xv W.heap.size) (W.alloc (termo u xv)) →
      assign.wpIn (Fence.wide.inRound (w.heap.size + 1)) (m - 1) Tryd.prog (Exit.then K (fun _ _ _ => False)) { tmps := (ps.zip #[.int .i64 d, .agg (tc (u, xv)).toArray]).foldl (fun t (p, v) => t.setIfInBounds p v) a.tmps, defers := [] } W)
    (hbody : ∀ (d : Nat) (u : Term) (xv : Value) (r : List (Nat × Term)) (b : Nat) (W : World), I ((d, u) :: r) W → Tree Wb u xv → W.heap[b]? = some (termo u xv) → w.heap.size + 2 ≤ b → w.heap.size + 2 ≤ W.heap.size →
      body.wpIn (Fence.wide.inRound (w.heap.size + 1)) (m - 1) Tryd.prog (RoundPostK w.heap.size d r I Ix W) (a₁ d u xv b) W)
    (hdone : ∀ (W : World), I [] W → w.heap.size ≤ W.heap.size → W.heap[w.heap.size]? = some (.deferred (some [])) → Q .normal { a with defers := { target := .collected w.heap.size, args := #[] } :: a.defers } W)
    (hstop : ∀ (c : Code) (W : World), Ix c W → w.heap.size ≤ W.heap.size → W.heap[w.heap.size]? = some (.deferred (some [])) → c.wpIn Fence.wide m Tryd.prog Q { a with defers := { target := .collected w.heap.size, args := #[] } :: a.defers } W) :
    (Code.rangeFunc g ps assign body).wpIn Fence.wide m Tryd.prog Q a w := by
  refine wpIn_rangeFunc ?_
  intro fn hfn
  obtain ⟨rec, hrec⟩ : ∃ rec : LoopState → Option Code → Loop, rec = fun st pe => { state := st, pending := pe, fn, tmps := a.tmps, params := ps, assign, body, defers := w.heap.size } := ⟨_, rfl⟩
  obtain ⟨W1, hW1⟩ : ∃ W1, (w.alloc (.deferred (some []))).alloc (.loop (rec .ready none)) = W1 := ⟨_, rfl⟩
  have hs1 : W1.heap.size = w.heap.size + 2 := by rw [← hW1]; simp
  have hL1 : W1.heap[w.heap.size + 1]? = some (.loop (rec .ready none)) := by
    rw [← hW1]; have := World.alloc_heap_new (w.alloc (.deferred (some []))) (.loop (rec .ready none)); rwa [World.size_alloc] at this
  have hD1 : W1.heap[w.heap.size]? = some (.deferred (some [])) := by
    rw [← hW1]; exact blk_alloc (World.alloc_heap_new w _) _
  have hbe1 : Below w.heap.size w W1 := by rw [← hW1]; exact ((Below.refl _ w).alloc (Nat.le_refl _) _).alloc (by simp) _
  have hbt1 : W1.heap[bt]? = some (termo t tv) := (hbe1.block bt (lt_of_blk hbt)).trans hbt
  refine ⟨w.heap.size + 1, [{ target := .collected w.heap.size, args := #[] }], W1, { target := .fn (.func 64) #[.pointer (some ⟨bt, 0, none⟩)], args := #[.func (.yield (w.heap.size + 1)) #[] #[]] }, W1, 64,
    #[.func (.yield (w.heap.size + 1)) #[] #[], .pointer (some ⟨bt, 0, none⟩)], W1, ?_, ?_, fun _ _ => trivial, ?_, fun _ => by omega, ?_⟩
  · rw [← hW1, hrec]; exact run_enterLoop_outer _ _ _ _ _
  · simp only [resolve, hg]
    simp [go_sem]
  · have eg : ∀ args W, (callFunc 64 args).run Tryd.prog W = .ok (.enter 64 args) W := fun args W => by kernel_rfl
    simp [invoke, go_sem, eg]
  · refine (nodes1_in (m - 1) (w.heap.size + 1) (w.heap.size + 2) bt Wb
      (fun r W => I r W ∧ W.heap[w.heap.size + 1]? = some (.loop (rec .ready none)) ∧ W.heap[w.heap.size]? = some (.deferred (some [])) ∧ w.heap.size + 2 ≤ W.heap.size)
      (fun W => ∃ c, Ix c W ∧ W.heap[w.heap.size + 1]? = some (.loop (rec .done (some c))) ∧ W.heap[w.heap.size]? = some (.deferred (some [])) ∧ w.heap.size + 2 ≤ W.heap.size)
      ?_ ?_ ?_ t tv W1 (by omega) (by omega) hT ⟨hI _ _ _ h0 (Nat.le_refl _) hbe1, hL1, hD1, by omega⟩ hbt1).mono ?_
    · rintro r W W' ⟨h1, h2, h3, h4⟩ _ hbb
      exact ⟨hI _ _ _ h1 (by omega) hbb, (hbb.block _ (by omega)).trans h2, (hbb.block _ (by omega)).trans h3, Nat.le_trans h4 hbb.size⟩
    · rintro r W ⟨h1, _⟩
      exact hb _ _ h1
    · rintro d u xv r W hws hTu ⟨hi, hl, hd, hsz⟩
      have hlt : w.heap.size + 1 < W.heap.size := lt_of_blk hl
      have hy := run_yield (P := Tryd.prog) (args := #[.int .i64 d, .agg (tc (u, xv)).toArray]) hl (by rw [hrec]; exact hps.symm)
      rw [hrec] at hy
      refine ⟨fn, _, assign, body, hy, roundIn_of_wpIn hfn (hassign d u xv W _ hTu ⟨_, run_beginRound (blk_alloc hl _) (by rw [hrec]), ?_⟩)⟩
      obtain ⟨W2, hW2⟩ : ∃ W2, (W.alloc (termo u xv)).putObj (w.heap.size + 1) (.loop { rec .ready none with state := .busy }) = W2 := ⟨_, rfl⟩
      have hl2 : W2.heap[w.heap.size + 1]? = some (.loop { rec .ready none with state := .busy }) := by rw [← hW2]; exact World.putObj_heap_same (by simp; omega)
      have hd2 : W2.heap[w.heap.size]? = some (.deferred (some [])) := by rw [← hW2, World.putObj_heap_other (by omega)]; exact blk_alloc hd _
      have hb2 : W2.heap[W.heap.size]? = some (termo u xv) := by rw [← hW2, World.putObj_heap_other (by omega)]; exact World.alloc_heap_new W _
      have hbe2 : Below w.heap.size W W2 := by rw [← hW2]; exact ((Below.refl _ W).alloc (by omega) _).trans ((below_putObj _ _ (by omega) (by simp; omega)))
      have hi2 : I ((d, u) :: r) W2 := by rw [← hW2]; exact hIp _ _ _ _ (.inr rfl) (by simp; omega) (hI _ _ _ hi (by omega) ((Below.refl _ W).alloc (Nat.le_refl _) _))
      have hk2 : TK (w.heap.size + 2) W W2 := by
        rw [← hW2]
        exact (TK.of_below ((Below.refl _ W).alloc (Nat.le_refl _) _)).trans (TK.of_fr (fr_putObj _ _ (by omega)))
      have hsz2 := hbe2.size
      rw [hW2]
      refine wpIn_mono (hbody d u xv r W.heap.size W2 hi2 hTu hb2 hsz (by omega)) ?_
      have fin : ∀ (jump : Option Code) (W3 : World), W3.heap[w.heap.size]? = W2.heap[w.heap.size]? → W3.heap[w.heap.size + 1]? = W2.heap[w.heap.size + 1]? →
          (Instr.endRound (w.heap.size + 1) jump).run Tryd.prog W3 = .ok (.bool jump.isNone) (W3.putObj (w.heap.size + 1) (.loop (rec (if jump.isNone then .ready else .done) jump))) ∧
          W3.heap[w.heap.size + 1]? = some (.loop { rec .ready none with state := .busy }) ∧
          (W3.putObj (w.heap.size + 1) (.loop (rec (if jump.isNone then .ready else .done) jump))).heap[w.heap.size + 1]? = some (.loop (rec (if jump.isNone then .ready else .done) jump)) ∧
          (W3.putObj (w.heap.size + 1) (.loop (rec (if jump.isNone then .ready else .done) jump))).heap[w.heap.size]? = some (.deferred (some [])) := by
        intro jump W3 e1 e2
        have hl3 := e2.trans hl2
        have hr := run_endRound (P := Tryd.prog) jump hl3
        rw [hrec] at hr ⊢
        refine ⟨hr, by rw [hrec] at hl3; exact hl3, World.putObj_heap_same (lt_of_blk hl3), ?_⟩
        rw [World.putObj_heap_other (by omega)]
        exact e1.trans hd2
      have end_ : ∀ (W3 : World) (o : Obj), TK w.heap.size W2 W3 → TK (w.heap.size + 2) W (W3.putObj (w.heap.size + 1) o) := fun W3 o h3 =>
        (hk2.trans (h3.mono (by omega))).trans (TK.of_fr (fr_putObj _ _ (by omega)))
      rintro e a3 W3 hp
      cases e with
      | normal =>
        obtain ⟨hi3, hd10, hk3, hq1, hq2⟩ := hp
        obtain ⟨hr, hl3, hl4, hd4⟩ := fin none W3 hq1 hq2
        have hsz3 := hk3.size
        exact ⟨_, _, hr, end_ W3 _ hk3, .inl ⟨rfl, hd10, hIp _ _ _ _ (.inr rfl) (lt_of_blk hl3) hi3, hl4, hd4, by simp only [World.putObj_size]; omega⟩⟩
      | ret =>
        obtain ⟨hi3, hk3, hq1, hq2⟩ := hp
        obtain ⟨hr, hl3, hl4, hd4⟩ := fin (some .ret) W3 hq1 hq2
        have hsz3 := hk3.size
        exact ⟨_, _, hr, end_ W3 _ hk3, .inr ⟨rfl, .ret, hIx _ _ _ _ (.inr rfl) (lt_of_blk hl3) hi3, hl4, hd4, by simp only [World.putObj_size]; omega⟩⟩
      | exit id =>
        obtain ⟨hi3, hk3, hq1, hq2⟩ := hp
        obtain ⟨hr, hl3, hl4, hd4⟩ := fin (some (.exit id)) W3 hq1 hq2
        have hsz3 := hk3.size
        exact ⟨_, _, hr, end_ W3 _ hk3, .inr ⟨rfl, .exit id, hIx _ _ _ _ (.inr rfl) (lt_of_blk hl3) hi3, hl4, hd4, by simp only [World.putObj_size]; omega⟩⟩
      | goto t => exact hp.elim
      | panic ch => exact hp.elim
      | outgrown => exact hp.elim
    · rintro e W2 ⟨⟨v, rfl⟩, (⟨hi, hl, hd, hsz⟩ | ⟨c, hi, hl, hd, hsz⟩)⟩
      · exact ⟨none, _, by have := run_endLoop (P := Tryd.prog) hl (by rw [hrec]; simp); rw [hrec] at this; exact this, hdone _ (hIp _ _ _ _ (.inr rfl) (by omega) hi) (by simp only [World.putObj_size]; omega) ((World.putObj_heap_other (by omega)).trans hd)⟩
      · exact ⟨some c, _, by have := run_endLoop (P := Tryd.prog) hl (by rw [hrec]; simp); rw [hrec] at this; exact this, hstop c _ (hIx _ _ _ _ (.inr rfl) (by omega) hi) (by simp only [World.putObj_size]; omega) ((World.putObj_heap_other (by omega)).trans hd)⟩
theorem zip2 (p q : Tmp) (u v : Value) (tm : Array Value) : ((#[p, q] : Array Tmp).zip #[u, v]).foldl (fun t (p, v) => t.setIfInBounds p v) tm = (tm.setIfInBounds p u).setIfInBounds q v := by
  simp
set_option maxHeartbeats 1000000 in
theorem range_nodes2 {g : Operand} {assign body : Code} {Q : Exit → Act → World → Prop} {a : Act} {w : World} (m : Nat) (hm : 3 ≤ m) (bt : Nat) (Wb : World) (t : Term) (tv : Value)
    (hg : a.eval g = .func (.func 64) #[] #[.pointer (some ⟨bt, 0, none⟩)])
    (hbt : w.heap[bt]? = some (termo t tv)) (hT : Tree Wb t tv) (hsb : Wb.heap.size ≤ w.heap.size)
    (I : List (Nat × Term) → World → Prop) (Ix : Code → World → Prop)
    (hI : ∀ r W W', I r W → w.heap.size ≤ W.heap.size → Below w.heap.size W W' → I r W') (hIx : ∀ c W W', Ix c W → w.heap.size ≤ W.heap.size → Below w.heap.size W W' → Ix c W')
    (hb : ∀ r W, I r W → Below Wb.heap.size Wb W) (h0 : I (nodes 1 t) w) (p q s r1 : Nat)
    (hassign : ∀ (d : Nat) (u : Term) (xv : Value) (W : World) (K : Act → World → Prop), Tree Wb u xv → K { tmps := ((((a.tmps.setIfInBounds p (.int .i64 d)).setIfInBounds q (.agg (tc (u, xv)).toArray)).setIfInBounds s (.int .i64 d)).setIfInBounds r1 (.pointer (some ⟨W.heap.size, 0, none⟩))), defers := [] } (W.alloc (termo u xv)) →
      assign.wpIn (Fence.wide.inRound (w.heap.size + 1)) (m - 1) Tryd.prog (Exit.then K (fun _ _ _ => False)) { tmps := ((a.tmps.setIfInBounds p (.int .i64 d)).setIfInBounds q (.agg (tc (u, xv)).toArray)), defers := [] } W)
    (hbody : ∀ (d : Nat) (u : Term) (xv : Value) (r : List (Nat × Term)) (b : Nat) (W : World), I ((d, u) :: r) W → Tree Wb u xv → W.heap[b]? = some (termo u xv) → w.heap.size + 2 ≤ b → w.heap.size + 2 ≤ W.heap.size →
      body.wpIn (Fence.wide.inRound (w.heap.size + 1)) (m - 1) Tryd.prog (RoundPost w.heap.size d r I Ix W) { tmps := ((((a.tmps.setIfInBounds p (.int .i64 d)).setIfInBounds q (.agg (tc (u, xv)).toArray)).setIfInBounds s (.int .i64 d)).setIfInBounds r1 (.pointer (some ⟨b, 0, none⟩))), defers := [] } W)
    (hdone : ∀ (W : World), I [] W → w.heap.size ≤ W.heap.size → W.heap[w.heap.size]? = some (.deferred (some [])) → Q .normal { a with defers := { target := .collected w.heap.size, args := #[] } :: a.defers } W)
    (hstop : ∀ (c : Code) (W : World), Ix c W → w.heap.size ≤ W.heap.size → W.heap[w.heap.size]? = some (.deferred (some [])) → c.wpIn Fence.wide m Tryd.prog Q { a with defers := { target := .collected w.heap.size, args := #[] } :: a.defers } W) :
    (Code.rangeFunc g #[p, q] assign body).wpIn Fence.wide m Tryd.prog Q a w :=
  range_nodes m hm bt Wb t tv hg rfl hbt hT hsb I Ix (fun r X X' h hs hb => hI r X X' h hs (hb.mono hs)) (fun r X i o hi hl h => hI r X _ h (by omega) (below_putObj _ _ (by omega) hl)) (fun c X i o hi hl h => hIx c X _ h (by omega) (below_putObj _ _ (by omega) hl)) hb h0 (fun d u xv b => { tmps := ((((a.tmps.setIfInBounds p (.int .i64 d)).setIfInBounds q (.agg (tc (u, xv)).toArray)).setIfInBounds s (.int .i64 d)).setIfInBounds r1 (.pointer (some ⟨b, 0, none⟩))), defers := [] }) (fun d u xv W K hT h => by rw [zip2]; exact hassign d u xv W K hT h) (fun d u xv r b W h1 h2 h3 h4 h5 => wpIn_mono (hbody d u xv r b W h1 h2 h3 h4 h5) (postK h5)) hdone hstop
set_option maxHeartbeats 1000000 in
theorem range_nodes1 {g : Operand} {assign body : Code} {Q : Exit → Act → World → Prop} {a : Act} {w : World} (m : Nat) (hm : 3 ≤ m) (bt : Nat) (Wb : World) (t : Term) (tv : Value)
    (hg : a.eval g = .func (.func 64) #[] #[.pointer (some ⟨bt, 0, none⟩)])
    (hbt : w.heap[bt]? = some (termo t tv)) (hT : Tree Wb t tv) (hsb : Wb.heap.size ≤ w.heap.size)
    (I : List (Nat × Term) → World → Prop) (Ix : Code → World → Prop)
    (hI : ∀ r W W', I r W → w.heap.size ≤ W.heap.size → Below w.heap.size W W' → I r W') (hIx : ∀ c W W', Ix c W → w.heap.size ≤ W.heap.size → Below w.heap.size W W' → Ix c W')
    (hb : ∀ r W, I r W → Below Wb.heap.size Wb W) (h0 : I (nodes 1 t) w) (p q r1 : Nat)
    (hassign : ∀ (d : Nat) (u : Term) (xv : Value) (W : World) (K : Act → World → Prop), Tree Wb u xv → K { tmps := (((a.tmps.setIfInBounds p (.int .i64 d)).setIfInBounds q (.agg (tc (u, xv)).toArray)).setIfInBounds r1 (.pointer (some ⟨W.heap.size, 0, none⟩))), defers := [] } (W.alloc (termo u xv)) →
      assign.wpIn (Fence.wide.inRound (w.heap.size + 1)) (m - 1) Tryd.prog (Exit.then K (fun _ _ _ => False)) { tmps := ((a.tmps.setIfInBounds p (.int .i64 d)).setIfInBounds q (.agg (tc (u, xv)).toArray)), defers := [] } W)
    (hbody : ∀ (d : Nat) (u : Term) (xv : Value) (r : List (Nat × Term)) (b : Nat) (W : World), I ((d, u) :: r) W → Tree Wb u xv → W.heap[b]? = some (termo u xv) → w.heap.size + 2 ≤ b → w.heap.size + 2 ≤ W.heap.size →
      body.wpIn (Fence.wide.inRound (w.heap.size + 1)) (m - 1) Tryd.prog (RoundPost w.heap.size d r I Ix W) { tmps := (((a.tmps.setIfInBounds p (.int .i64 d)).setIfInBounds q (.agg (tc (u, xv)).toArray)).setIfInBounds r1 (.pointer (some ⟨b, 0, none⟩))), defers := [] } W)
    (hdone : ∀ (W : World), I [] W → w.heap.size ≤ W.heap.size → W.heap[w.heap.size]? = some (.deferred (some [])) → Q .normal { a with defers := { target := .collected w.heap.size, args := #[] } :: a.defers } W)
    (hstop : ∀ (c : Code) (W : World), Ix c W → w.heap.size ≤ W.heap.size → W.heap[w.heap.size]? = some (.deferred (some [])) → c.wpIn Fence.wide m Tryd.prog Q { a with defers := { target := .collected w.heap.size, args := #[] } :: a.defers } W) :
    (Code.rangeFunc g #[p, q] assign body).wpIn Fence.wide m Tryd.prog Q a w :=
  range_nodes m hm bt Wb t tv hg rfl hbt hT hsb I Ix (fun r X X' h hs hb => hI r X X' h hs (hb.mono hs)) (fun r X i o hi hl h => hI r X _ h (by omega) (below_putObj _ _ (by omega) hl)) (fun c X i o hi hl h => hIx c X _ h (by omega) (below_putObj _ _ (by omega) hl)) hb h0 (fun d u xv b => { tmps := (((a.tmps.setIfInBounds p (.int .i64 d)).setIfInBounds q (.agg (tc (u, xv)).toArray)).setIfInBounds r1 (.pointer (some ⟨b, 0, none⟩))), defers := [] }) (fun d u xv W K hT h => by rw [zip2]; exact hassign d u xv W K hT h) (fun d u xv r b W h1 h2 h3 h4 h5 => wpIn_mono (hbody d u xv r b W h1 h2 h3 h4 h5) (postK h5)) hdone hstop
set_option maxHeartbeats 1000000 in
theorem range_nodes3 {g : Operand} {assign body : Code} {Q : Exit → Act → World → Prop} {a : Act} {w : World} (m : Nat) (hm : 3 ≤ m) (bt : Nat) (Wb : World) (t : Term) (tv : Value)
    (hg : a.eval g = .func (.func 64) #[] #[.pointer (some ⟨bt, 0, none⟩)])
    (hbt : w.heap[bt]? = some (termo t tv)) (hT : Tree Wb t tv) (hsb : Wb.heap.size ≤ w.heap.size)
    (I : List (Nat × Term) → World → Prop) (Ix : Code → World → Prop)
    (hI : ∀ r W W', I r W → w.heap.size ≤ W.heap.size → Below W.heap.size W W' → I r W') (hIp : ∀ r W i o, (i = w.heap.size ∨ i = w.heap.size + 1) → i < W.heap.size → I r W → I r (W.putObj i o)) (hIx : ∀ c W i o, (i = w.heap.size ∨ i = w.heap.size + 1) → i < W.heap.size → Ix c W → Ix c (W.putObj i o))
    (hb : ∀ r W, I r W → Below Wb.heap.size Wb W) (h0 : I (nodes 1 t) w) (p q r1 : Nat)
    (hassign : ∀ (d : Nat) (u : Term) (xv : Value) (W : World) (K : Act → World → Prop), Tree Wb u xv → K { tmps := (((a.tmps.setIfInBounds p (.int .i64 d)).setIfInBounds q (.agg (tc (u, xv)).toArray)).setIfInBounds r1 (.pointer (some ⟨W.heap.size, 0, none⟩))), defers := [] } (W.alloc (termo u xv)) →
      assign.wpIn (Fence.wide.inRound (w.heap.size + 1)) (m - 1) Tryd.prog (Exit.then K (fun _ _ _ => False)) { tmps := ((a.tmps.setIfInBounds p (.int .i64 d)).setIfInBounds q (.agg (tc (u, xv)).toArray)), defers := [] } W)
    (hbody : ∀ (d : Nat) (u : Term) (xv : Value) (r : List (Nat × Term)) (b : Nat) (W : World), I ((d, u) :: r) W → Tree Wb u xv → W.heap[b]? = some (termo u xv) → w.heap.size + 2 ≤ b → w.heap.size + 2 ≤ W.heap.size →
      body.wpIn (Fence.wide.inRound (w.heap.size + 1)) (m - 1) Tryd.prog (RoundPostK w.heap.size d r I Ix W) { tmps := (((a.tmps.setIfInBounds p (.int .i64 d)).setIfInBounds q (.agg (tc (u, xv)).toArray)).setIfInBounds r1 (.pointer (some ⟨b, 0, none⟩))), defers := [] } W)
    (hdone : ∀ (W : World), I [] W → w.heap.size ≤ W.heap.size → W.heap[w.heap.size]? = some (.deferred (some [])) → Q .normal { a with defers := { target := .collected w.heap.size, args := #[] } :: a.defers } W)
    (hstop : ∀ (c : Code) (W : World), Ix c W → w.heap.size ≤ W.heap.size → W.heap[w.heap.size]? = some (.deferred (some [])) → c.wpIn Fence.wide m Tryd.prog Q { a with defers := { target := .collected w.heap.size, args := #[] } :: a.defers } W) :
    (Code.rangeFunc g #[p, q] assign body).wpIn Fence.wide m Tryd.prog Q a w :=
  range_nodes m hm bt Wb t tv hg rfl hbt hT hsb I Ix hI hIp hIx hb h0 (fun d u xv b => { tmps := (((a.tmps.setIfInBounds p (.int .i64 d)).setIfInBounds q (.agg (tc (u, xv)).toArray)).setIfInBounds r1 (.pointer (some ⟨b, 0, none⟩))), defers := [] }) (fun d u xv W K hT h => by rw [zip2]; exact hassign d u xv W K hT h) hbody hdone hstop
set_option maxRecDepth 100000 in
theorem nodes_any (x : Term × Value) (W : World) : Calls Tryd.prog 45 #[.agg (tc x).toArray] W fun e w' => e = .returned (.func (.func 64) #[] #[.pointer (some ⟨W.heap.size, 0, none⟩)]) ∧ w' = W.alloc (termo x.1 x.2) := by
  obtain ⟨w0, HW0⟩ : ∃ w0, Hid (W.alloc (.cells (tc x).toArray 31) = w0) := ⟨_, rfl⟩
  go_enter Tryd.func45, Tryd.ntmps45
  go_upto_region 1 with fail
  rw [HW0.out]
  go_wp2_with fail
  go_ret
  exact ⟨rfl, HW0.out.symm⟩
end Go.Proofs.YticlmkfifpkdpaaDoor.Dl
