/-
  A loop over the stretches of a zone: from what its body does to what the loop does.
-/
import Derived.Test.YtmjidplondkomaaZoneIter
namespace Go.Proofs.Ytmjidplondkomaa.Zn
open Go.RowKit Go.Shelf
set_option linter.unusedVariables false
attribute [local go_sem] Oper.semAt_some

theorem Keep.refl (n0 : Nat) (W : World) : Keep n0 W W := ⟨Below.refl _ _, fun _ _ _ _ _ h => h⟩
theorem Keep.trans {n0 : Nat} {A B C : World} (h : Keep n0 A B) (k : Keep n0 B C) : Keep n0 A C := ⟨h.bel.trans k.bel, fun i cs t f ht hh => k.typ i cs t f ht (h.typ i cs t f ht hh)⟩
theorem Keep.alloc {n0 : Nat} {A W : World} (h : Keep n0 A W) (hn : n0 ≤ W.heap.size) (o : Obj) : Keep n0 A (W.alloc o) := ⟨h.bel.alloc hn o, fun i cs t f ht hh => blk_alloc (h.typ i cs t f ht hh) o⟩
theorem below_putObj {n0 l : Nat} (W : World) (o : Obj) (hn : n0 ≤ l) (hl : l < W.heap.size) : Below n0 W (W.putObj l o) :=
  ⟨rfl, rfl, rfl, by simp [World.putObj], fun k hk => World.putObj_heap_other (by omega)⟩
theorem Keep.putObj {n0 l : Nat} {A W : World} {r : Obj} (h : Keep n0 A W) (hn : n0 ≤ l) (hl : W.heap[l]? = some r) (hr : r.isCells = false) (o : Obj) : Keep n0 A (W.putObj l o) := by
  refine ⟨h.bel.trans (below_putObj W o hn (lt_of_blk hl)), fun i cs t f ht hh => ?_⟩
  have h1 := h.typ i cs t f ht hh
  have hne : i ≠ l := by
    rintro rfl
    rw [hl] at h1
    injection h1 with h1
    subst h1
    cases hr
  rw [World.putObj_heap_other (by omega)]
  exact h1

/-- What a round of a loop's body owes. -/
def RoundPost (n0 D : Nat) (I : Nat → World → Prop) (Ix : Code → Nat → World → Prop) (k : Nat) (W : World) : Exit → Act → World → Prop
  | .normal, _, W' => I (k + 1) W' ∧ Keep n0 W W' ∧ W'.heap[D]? = W.heap[D]? ∧ W'.heap[D + 1]? = W.heap[D + 1]?
  | .ret, _, W' => Ix .ret (k + 1) W' ∧ W'.heap[D]? = W.heap[D]? ∧ W'.heap[D + 1]? = W.heap[D + 1]?
  | .exit id, _, W' => Ix (.exit id) (k + 1) W' ∧ W'.heap[D]? = W.heap[D]? ∧ W'.heap[D + 1]? = W.heap[D + 1]?
  | _, _, _ => False

def stv (z : Zone) (k : Nat) : Value := .agg #[.int .i64 (frm z k), .int .i64 (tto z k), .int .i64 (ofs z k)]
def stc (z : Zone) (k : Nat) : Obj := .cells #[.int .i64 (frm z k), .int .i64 (tto z k), .int .i64 (ofs z k)] 51 (0, 0)

theorem range_zone {g : Operand} {ps : Array Tmp} {assign body : Code} {Q : Exit → Act → World → Prop} {a : Act} {w : World} (m : Nat) (hm : 3 ≤ m) (bz n0 : Nat) (z : Zone) (A : Option Addr) (cap : Nat)
    (hg : a.eval g = .func (.func 31) #[] #[.pointer (some ⟨bz, 0, none⟩)]) (hps : ps.size = 1)
    (hn0 : n0 ≤ w.heap.size) (hz : w.heap[bz]? = some (.cells #[.int .i64 z.off, .slice A z.chs.length cap] 24 (0, 0)))
    (hrow : ChRow w A z.chs) (hrn : ∀ g o, A = some ⟨g, o, none⟩ → 0 < z.chs.length → g < n0) (hlen : z.chs.length ≤ 1000000)
    (I : Nat → World → Prop) (Ix : Code → Nat → World → Prop)
    (hia : ∀ k W o, I k W → I k (W.alloc o)) (his : ∀ k W' a v, a.block = w.heap.size + 2 → I k W' → I k (W'.setCell a v))
    (hip : ∀ k W i o, (i = w.heap.size ∨ i = w.heap.size + 1) → I k W → I k (W.putObj i o))
    (hix : ∀ c k W i o, (i = w.heap.size ∨ i = w.heap.size + 1) → Ix c k W → Ix c k (W.putObj i o))
    (h0 : I 0 w) (a₁ : Nat → Nat → Act)
    (hassign : ∀ (k : Nat) (W : World) (K : Act → World → Prop), K (a₁ k W.heap.size) (W.alloc (stc z k)) →
      assign.wpIn (Fence.wide.inRound (w.heap.size + 1)) (m - 1 - 1) Try.prog (Exit.then K (fun _ _ _ => False)) { tmps := (ps.zip #[stv z k]).foldl (fun t (p, v) => t.setIfInBounds p v) a.tmps, defers := [] } W)
    (hbody : ∀ (k b : Nat) (W : World), k < cnt z → I k W → W.heap[b]? = some (stc z k) → w.heap.size + 2 < b →
      body.wpIn (Fence.wide.inRound (w.heap.size + 1)) (m - 1 - 1) Try.prog (RoundPost n0 w.heap.size I Ix k W) (a₁ k b) W)
    (hdone : ∀ (W : World), I (cnt z) W → W.heap[w.heap.size]? = some (.deferred (some [])) → Q .normal { a with defers := { target := .collected w.heap.size, args := #[] } :: a.defers } W)
    (hstop : ∀ (c : Code) (k : Nat) (W : World), k < cnt z → Ix c (k + 1) W → W.heap[w.heap.size]? = some (.deferred (some [])) → c.wpIn Fence.wide m Try.prog Q { a with defers := { target := .collected w.heap.size, args := #[] } :: a.defers } W) :
    (Code.rangeFunc g ps assign body).wpIn Fence.wide m Try.prog Q a w := by
  refine wpIn_rangeFunc ?_
  intro fn hfn
  obtain ⟨rec, hrec⟩ : ∃ rec : LoopState → Option Code → Loop, rec = fun st pe => { state := st, pending := pe, fn, tmps := a.tmps, params := ps, assign, body, defers := w.heap.size } := ⟨_, rfl⟩
  obtain ⟨W1, hW1⟩ : ∃ W1, (w.alloc (.deferred (some []))).alloc (.loop (rec .ready none)) = W1 := ⟨_, rfl⟩
  have hs1 : W1.heap.size = w.heap.size + 2 := by rw [← hW1]; simp
  have hL1 : W1.heap[w.heap.size + 1]? = some (.loop (rec .ready none)) := by
    rw [← hW1]; have := World.alloc_heap_new (w.alloc (.deferred (some []))) (.loop (rec .ready none)); rwa [World.size_alloc] at this
  have hD1 : W1.heap[w.heap.size]? = some (.deferred (some [])) := by
    rw [← hW1]; exact blk_alloc (World.alloc_heap_new w _) _
  have hz1 : W1.heap[bz]? = some (.cells #[.int .i64 z.off, .slice A z.chs.length cap] 24 (0, 0)) := by rw [← hW1]; exact blk_alloc (blk_alloc hz _) _
  have hr1 : ChRow W1 A z.chs := by
    refine chRow_keep hrow (by omega) (fun g o e hp => ?_)
    obtain ⟨g', o', hA, hg', _⟩ := hrow hp
    rw [e] at hA
    injection hA with hA
    injection hA with e1 _ _
    rw [← hW1, Below.heap_alloc _ _ _ (by simp; omega), Below.heap_alloc _ _ _ (by omega)]
  refine ⟨w.heap.size + 1, [{ target := .collected w.heap.size, args := #[] }], W1, { target := .fn (.func 31) #[.pointer (some ⟨bz, 0, none⟩)], args := #[.func (.yield (w.heap.size + 1)) #[] #[]] }, W1, 31,
    #[.func (.yield (w.heap.size + 1)) #[] #[], .pointer (some ⟨bz, 0, none⟩)], W1, ?_, ?_, fun _ _ => trivial, ?_, fun _ => by omega, ?_⟩
  · rw [← hW1, hrec]; exact run_enterLoop_outer _ _ _ _ _
  · simp only [resolve, hg]
    simp [go_sem]
  · have eg : ∀ args W, (callFunc 31 args).run Try.prog W = .ok (.enter 31 args) W := fun args W => by kernel_rfl
    simp [invoke, go_sem, eg]
  · refine (iter_in (m - 1) (by omega) (w.heap.size + 1) bz n0 z A cap
      (fun k W => I k W ∧ W.heap[w.heap.size + 1]? = some (.loop (rec .ready none)) ∧ W.heap[w.heap.size]? = some (.deferred (some [])) ∧ w.heap.size + 2 ≤ W.heap.size)
      (fun k W => ∃ c, Ix c k W ∧ W.heap[w.heap.size + 1]? = some (.loop (rec .done (some c))) ∧ W.heap[w.heap.size]? = some (.deferred (some [])))
      W1 ?_ ?_ ?_ (by omega) hz1 hr1 hrn hlen ⟨by rw [← hW1]; exact hia _ _ _ (hia _ _ _ h0), hL1, hD1, by omega⟩).mono ?_
    · rintro k W o ⟨h1, h2, h3, h4⟩
      exact ⟨hia _ _ _ h1, blk_alloc h2 o, blk_alloc h3 o, by simp; omega⟩
    · rintro k W' a' v ha ⟨h1, h2, h3, h4⟩
      rw [hs1] at ha
      exact ⟨his _ _ _ _ ha h1, blk_far h2 (by omega) v, blk_far h3 (by omega) v, by simp only [World.size_setCell]; omega⟩
    · rintro k W hk hws ⟨hi, hl, hd, hsz⟩
      rw [hs1] at hws
      have hlt : w.heap.size + 1 < W.heap.size := lt_of_blk hl
      have hy := run_yield (P := Try.prog) (args := #[stv z k]) hl (by rw [hrec]; exact hps.symm)
      rw [hrec] at hy
      refine ⟨fn, _, assign, body, hy, roundIn_of_wpIn hfn (hassign k W _ ⟨_, run_beginRound (blk_alloc hl _) (by rw [hrec]), ?_⟩)⟩
      obtain ⟨W2, hW2⟩ : ∃ W2, (W.alloc (stc z k)).putObj (w.heap.size + 1) (.loop { rec .ready none with state := .busy }) = W2 := ⟨_, rfl⟩
      have hl2 : W2.heap[w.heap.size + 1]? = some (.loop { rec .ready none with state := .busy }) := by rw [← hW2]; exact World.putObj_heap_same (by simp; omega)
      have hd2 : W2.heap[w.heap.size]? = some (.deferred (some [])) := by rw [← hW2, World.putObj_heap_other (by omega)]; exact blk_alloc hd _
      have hb2 : W2.heap[W.heap.size]? = some (stc z k) := by rw [← hW2, World.putObj_heap_other (by omega)]; exact World.alloc_heap_new W _
      have hi2 : I k W2 := by rw [← hW2]; exact hip _ _ _ _ (.inr rfl) (hia _ _ _ hi)
      have hk2 : Keep n0 W W2 := by
        rw [← hW2]
        exact Keep.putObj (Keep.alloc (Keep.refl _ _) (by omega) _) (by omega) (blk_alloc hl _) rfl _
      rw [hW2]
      refine wpIn_mono (hbody k W.heap.size W2 hk hi2 hb2 hws) ?_
      have fin : ∀ (jump : Option Code) (W3 : World), W3.heap[w.heap.size]? = W2.heap[w.heap.size]? → W3.heap[w.heap.size + 1]? = W2.heap[w.heap.size + 1]? →
          (Instr.endRound (w.heap.size + 1) jump).run Try.prog W3 = .ok (.bool jump.isNone) (W3.putObj (w.heap.size + 1) (.loop (rec (if jump.isNone then .ready else .done) jump))) ∧
          W3.heap[w.heap.size + 1]? = some (.loop { rec .ready none with state := .busy }) ∧
          (W3.putObj (w.heap.size + 1) (.loop (rec (if jump.isNone then .ready else .done) jump))).heap[w.heap.size + 1]? = some (.loop (rec (if jump.isNone then .ready else .done) jump)) ∧
          (W3.putObj (w.heap.size + 1) (.loop (rec (if jump.isNone then .ready else .done) jump))).heap[w.heap.size]? = some (.deferred (some [])) := by
        intro jump W3 e1 e2
        have hl3 := e2.trans hl2
        have hr := run_endRound (P := Try.prog) jump hl3
        rw [hrec] at hr ⊢
        refine ⟨hr, by rw [hrec] at hl3; exact hl3, World.putObj_heap_same (lt_of_blk hl3), ?_⟩
        rw [World.putObj_heap_other (by omega)]
        exact e1.trans hd2
      rintro e a3 W3 hp
      cases e with
      | normal =>
        obtain ⟨hi3, hk3, e1, e2⟩ := hp
        obtain ⟨hr, hl3, hl4, hd4⟩ := fin none W3 e1 e2
        have hsz3 := hk3.bel.size
        have hsz2 := hk2.bel.size
        exact ⟨_, _, hr, .inl ⟨rfl, ⟨hip _ _ _ _ (.inr rfl) hi3, hl4, hd4, by simp only [World.putObj_size]; omega⟩, Keep.putObj (hk2.trans hk3) (by omega) hl3 rfl _⟩⟩
      | ret =>
        obtain ⟨hi3, e1, e2⟩ := hp
        obtain ⟨hr, hl3, hl4, hd4⟩ := fin (some .ret) W3 e1 e2
        exact ⟨_, _, hr, .inr ⟨rfl, .ret, hix _ _ _ _ _ (.inr rfl) hi3, hl4, hd4⟩⟩
      | exit id =>
        obtain ⟨hi3, e1, e2⟩ := hp
        obtain ⟨hr, hl3, hl4, hd4⟩ := fin (some (.exit id)) W3 e1 e2
        exact ⟨_, _, hr, .inr ⟨rfl, .exit id, hix _ _ _ _ _ (.inr rfl) hi3, hl4, hd4⟩⟩
      | goto t => exact hp.elim
      | panic ch => exact hp.elim
      | outgrown => exact hp.elim
    · rintro e W2 ⟨⟨v, rfl⟩, (⟨hi, hl, hd, _⟩ | ⟨k, hk, c, hi, hl, hd⟩)⟩
      · exact ⟨none, _, by have := run_endLoop (P := Try.prog) hl (by rw [hrec]; simp); rw [hrec] at this; exact this, hdone _ (hip _ _ _ _ (.inr rfl) hi) ((World.putObj_heap_other (by omega)).trans hd)⟩
      · exact ⟨some c, _, by have := run_endLoop (P := Try.prog) hl (by rw [hrec]; simp); rw [hrec] at this; exact this, hstop c k _ hk (hix _ _ _ _ _ (.inr rfl) hi) ((World.putObj_heap_other (by omega)).trans hd)⟩
theorem zip1 (p : Tmp) (v : Value) (tm : Array Value) : ((#[p] : Array Tmp).zip #[v]).foldl (fun t (p, v) => t.setIfInBounds p v) tm = tm.setIfInBounds p v := by
  simp

theorem range_zone_at {g : Operand} {assign body : Code} {Q : Exit → Act → World → Prop} {a : Act} {w : World} (m : Nat) (hm : 3 ≤ m) (bz n0 : Nat) (z : Zone) (A : Option Addr) (cap : Nat)
    (hg : a.eval g = .func (.func 31) #[] #[.pointer (some ⟨bz, 0, none⟩)])
    (hn0 : n0 ≤ w.heap.size) (hz : w.heap[bz]? = some (.cells #[.int .i64 z.off, .slice A z.chs.length cap] 24 (0, 0)))
    (hrow : ChRow w A z.chs) (hrn : ∀ g o, A = some ⟨g, o, none⟩ → 0 < z.chs.length → g < n0) (hlen : z.chs.length ≤ 1000000)
    (I : Nat → World → Prop) (Ix : Code → Nat → World → Prop)
    (hia : ∀ k W o, I k W → I k (W.alloc o)) (his : ∀ k W' a v, a.block = w.heap.size + 2 → I k W' → I k (W'.setCell a v))
    (hip : ∀ k W i o, (i = w.heap.size ∨ i = w.heap.size + 1) → I k W → I k (W.putObj i o))
    (hix : ∀ c k W i o, (i = w.heap.size ∨ i = w.heap.size + 1) → Ix c k W → Ix c k (W.putObj i o))
    (h0 : I 0 w) (p q : Nat)
    (hassign : ∀ (k : Nat) (W : World) (K : Act → World → Prop), K { tmps := (a.tmps.setIfInBounds p (stv z k)).setIfInBounds q (.pointer (some ⟨W.heap.size, 0, none⟩)), defers := [] } (W.alloc (stc z k)) →
      assign.wpIn (Fence.wide.inRound (w.heap.size + 1)) (m - 1 - 1) Try.prog (Exit.then K (fun _ _ _ => False)) { tmps := a.tmps.setIfInBounds p (stv z k), defers := [] } W)
    (hbody : ∀ (k b : Nat) (W : World), k < cnt z → I k W → W.heap[b]? = some (stc z k) → w.heap.size + 2 < b →
      body.wpIn (Fence.wide.inRound (w.heap.size + 1)) (m - 1 - 1) Try.prog (RoundPost n0 w.heap.size I Ix k W) { tmps := (a.tmps.setIfInBounds p (stv z k)).setIfInBounds q (.pointer (some ⟨b, 0, none⟩)), defers := [] } W)
    (hdone : ∀ (W : World), I (cnt z) W → W.heap[w.heap.size]? = some (.deferred (some [])) → Q .normal { a with defers := { target := .collected w.heap.size, args := #[] } :: a.defers } W)
    (hstop : ∀ (c : Code) (k : Nat) (W : World), k < cnt z → Ix c (k + 1) W → W.heap[w.heap.size]? = some (.deferred (some [])) → c.wpIn Fence.wide m Try.prog Q { a with defers := { target := .collected w.heap.size, args := #[] } :: a.defers } W) :
    (Code.rangeFunc g #[p] assign body).wpIn Fence.wide m Try.prog Q a w :=
  range_zone m hm bz n0 z A cap hg rfl hn0 hz hrow hrn hlen I Ix hia his hip hix h0 (fun k b => { tmps := (a.tmps.setIfInBounds p (stv z k)).setIfInBounds q (.pointer (some ⟨b, 0, none⟩)), defers := [] }) (fun k W K h => by rw [zip1]; exact hassign k W K h) hbody hdone hstop
end Go.Proofs.Ytmjidplondkomaa.Zn
