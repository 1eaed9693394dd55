/-
  What the walks of the laws share: the blocks of the term and the calendar, the calls with them.
-/
import Derived.Test.YticlmkfifpkdpaaDoorDlHead
import Derived.Test.YticlmkfifpkdpaaDoorDlRefs
namespace Go.Proofs.YticlmkfifpkdpaaDoor.Dl
open Go.RowKit Mem Vw
set_option linter.unusedVariables false
set_option linter.unusedSimpArgs false
/-- A law's boxes: a term's block, a calendar's block. -/
structure LS (W : World) (x : Term × Value) (c : Cal) (hv : Value) (gt gc : Nat) (X : World) : Prop where
  be : Below W.heap.size W X
  tb : X.heap[gt]? = some (.cells (tc x).toArray 31 (0, 0))
  cb : X.heap[gc]? = some (.cells (ccs c hv).toArray 28 (0, 0))
theorem LS.keep {W : World} {x : Term × Value} {c : Cal} {hv : Value} {gt gc : Nat} {X X' : World} (h : LS W x c hv gt gc X) (hb : Below X.heap.size X X') : LS W x c hv gt gc X' :=
  ⟨h.be.trans (hb.mono h.be.size), (hb.block _ (lt_of_blk h.tb)).trans h.tb, (hb.block _ (lt_of_blk h.cb)).trans h.cb⟩
theorem LS.drew {W : World} {x : Term × Value} {c : Cal} {hv : Value} {gt gc : Nat} {X : World} (h : LS W x c hv gt gc X) (n : Nat) : LS W x c hv gt gc (X.drewN n) :=
  ⟨below_drewN h.be n, h.tb, h.cb⟩
theorem LS.start {W : World} {x : Term × Value} {c : Cal} {hv : Value} : LS W x c hv W.heap.size (W.heap.size + 1) ((W.alloc (.cells (tc x).toArray 31)).alloc (.cells (ccs c hv).toArray 28)) :=
  ⟨((Below.refl _ W).alloc (Nat.le_refl _) _).alloc (by simp) _, blk_alloc (blk_newn rfl) _, blk_newn (by simp)⟩
theorem LS.t {W : World} {k n e : Int} {b : Bool} {kids : List Term} {A : Option Addr} {cp : Nat} {c : Cal} {hv : Value} {gt gc : Nat} {X : World} (h : LS W (.mk k n e b kids, .slice A kids.length cp) c hv gt gc X) :
    X.cell? ⟨gt, 0, none⟩ = some (.int .i64 k) ∧ X.cell? ⟨gt, 1, none⟩ = some (.int .i64 n) ∧ X.cell? ⟨gt, 2, none⟩ = some (.int .i64 e) ∧ X.cell? ⟨gt, 3, none⟩ = some (.bool b) ∧ X.cell? ⟨gt, 4, none⟩ = some (.slice A kids.length cp) :=
  ⟨cell_of_blk h.tb 0, cell_of_blk h.tb 1, cell_of_blk h.tb 2, cell_of_blk h.tb 3, cell_of_blk h.tb 4⟩
theorem LS.c {W : World} {x : Term × Value} {c : Cal} {hv : Value} {gt gc : Nat} {X : World} (h : LS W x c hv gt gc X) :
    (X.cell? ⟨gc, 0, none⟩ = some (.bool (c.wk.getD 0 false)) ∧ X.cell? ⟨gc, 1, none⟩ = some (.bool (c.wk.getD 1 false)) ∧ X.cell? ⟨gc, 2, none⟩ = some (.bool (c.wk.getD 2 false)) ∧ X.cell? ⟨gc, 3, none⟩ = some (.bool (c.wk.getD 3 false))) ∧ X.cell? ⟨gc, 4, none⟩ = some (.bool (c.wk.getD 4 false)) ∧ X.cell? ⟨gc, 5, none⟩ = some (.bool (c.wk.getD 5 false)) ∧ X.cell? ⟨gc, 6, none⟩ = some (.bool (c.wk.getD 6 false)) ∧ X.cell? ⟨gc, 7, none⟩ = some hv :=
  ⟨⟨cell_of_blk h.cb 0, cell_of_blk h.cb 1, cell_of_blk h.cb 2, cell_of_blk h.cb 3⟩, cell_of_blk h.cb 4, cell_of_blk h.cb 5, cell_of_blk h.cb 6, cell_of_blk h.cb 7⟩
/-- The box of a law with a calendar alone. -/
structure CS (W : World) (c : Cal) (hv : Value) (gc : Nat) (X : World) : Prop where
  be : Below W.heap.size W X
  cb : X.heap[gc]? = some (.cells (ccs c hv).toArray 28 (0, 0))
theorem CS.keep {W : World} {c : Cal} {hv : Value} {gc : Nat} {X X' : World} (h : CS W c hv gc X) (hb : Below X.heap.size X X') : CS W c hv gc X' :=
  ⟨h.be.trans (hb.mono h.be.size), (hb.block _ (lt_of_blk h.cb)).trans h.cb⟩
theorem CS.start {W : World} {c : Cal} {hv : Value} : CS W c hv W.heap.size (W.alloc (.cells (ccs c hv).toArray 28)) :=
  ⟨(Below.refl _ W).alloc (Nat.le_refl _) _, blk_newn rfl⟩
theorem CS.c {W : World} {c : Cal} {hv : Value} {gc : Nat} {X : World} (h : CS W c hv gc X) :
    (X.cell? ⟨gc, 0, none⟩ = some (.bool (c.wk.getD 0 false)) ∧ X.cell? ⟨gc, 1, none⟩ = some (.bool (c.wk.getD 1 false)) ∧ X.cell? ⟨gc, 2, none⟩ = some (.bool (c.wk.getD 2 false)) ∧ X.cell? ⟨gc, 3, none⟩ = some (.bool (c.wk.getD 3 false))) ∧ X.cell? ⟨gc, 4, none⟩ = some (.bool (c.wk.getD 4 false)) ∧ X.cell? ⟨gc, 5, none⟩ = some (.bool (c.wk.getD 5 false)) ∧ X.cell? ⟨gc, 6, none⟩ = some (.bool (c.wk.getD 6 false)) ∧ X.cell? ⟨gc, 7, none⟩ = some hv :=
  ⟨⟨cell_of_blk h.cb 0, cell_of_blk h.cb 1, cell_of_blk h.cb 2, cell_of_blk h.cb 3⟩, cell_of_blk h.cb 4, cell_of_blk h.cb 5, cell_of_blk h.cb 6, cell_of_blk h.cb 7⟩
/-- What a law is given. -/
structure GV (W : World) (c : Cal) (hv : Value) : Prop where
  bf : Bf W
  c : CalAt W c hv
/-- A call of Eval on any term. -/
theorem eval_at {W X : World} {c : Cal} {hv : Value} (h : GV W c hv) (hb : Below W.heap.size W X) (y : Term × Value) (hy : Tree X y.1 y.2) (l : List When) (lv : Value) (hl : EvsAt X l lv) {cs : Array Value} (hcs : (tc y).toArray = cs) {d : Int} {k : Bool} {e : Int} (hr : eval y.1 c l = (d, k, e)) :
    Calls Tryd.prog 17 #[.agg cs, .agg (ccs c hv).toArray, lv] X fun e' w' => e' = .returned (.tuple #[.int .i64 d, .bool k, .int .i64 e]) ∧ Below X.heap.size X w' := by
  subst hcs
  have h2 := eval_any y.1 y.2 c hv l lv X hy (h.c.below hb) hl (bf_keep h.bf hb)
  rw [hr] at h2
  exact h2
theorem bounds_at {W X : World} {c : Cal} {hv : Value} (h : GV W c hv) (hb : Below W.heap.size W X) (y : Term × Value) (hy : Tree X y.1 y.2) (l : List When) (lv : Value) (m : List When) (mv : Value) (hl : EvsAt X l lv) (hm : EvsAt X m mv) {cs : Array Value} (hcs : (tc y).toArray = cs) {d f : Int} {k : Bool} {e : Int} (hr : bounds y.1 c l m = (d, f, k, e)) :
    Calls Tryd.prog 28 #[.agg cs, .agg (ccs c hv).toArray, lv, mv] X fun e' w' => e' = .returned (.tuple #[.int .i64 d, .int .i64 f, .bool k, .int .i64 e]) ∧ Below X.heap.size X w' := by
  subst hcs
  have h2 := bounds_any y.1 y.2 c hv l lv m mv X hy (h.c.below hb) hl hm (bf_keep h.bf hb)
  rw [hr] at h2
  exact h2
theorem bounds_zero {t : Term} {c : Cal} {l m : List When} {d f : Int} {k : Bool} {e : Int} (hr : bounds t c l m = (d, f, k, e)) (h : e ≠ 0 ∨ k = false) : d = 0 ∧ f = 0 ∧ k = false := by
  rcases bounds_cases t c l m with h1 | ⟨_, _, _, _, _, h1⟩
  · rw [hr] at h1; exact h1
  · rw [hr] at h1; simp only [Prod.mk.injEq] at h1; obtain ⟨_, _, rfl, rfl⟩ := h1; simp at h
theorem eval_rng {t : Term} {c : Cal} {l : List When} {d : Int} (hr : eval t c l = (d, true, 0)) : 0 ≤ d ∧ d ≤ 73048 := by
  rcases eval_cases t c l with h1 | ⟨_, ⟨_, h1⟩ | ⟨_, _, h1⟩ | ⟨a, _, hd, h1⟩⟩ <;> rw [hr] at h1 <;> simp only [Prod.mk.injEq] at h1
  · cases h1.2.1
  · cases h1.2.1
  · cases h1.2.1
  · rw [h1.1]; exact day_rng hd
theorem eval_zero {t : Term} {c : Cal} {l : List When} {d : Int} {k : Bool} {e : Int} (hr : eval t c l = (d, k, e)) (h : e ≠ 0 ∨ k = false) : d = 0 ∧ k = false := by
  rcases eval_cases t c l with h1 | ⟨_, ⟨_, h1⟩ | ⟨_, _, h1⟩ | ⟨a, _, _, h1⟩⟩ <;> rw [hr] at h1 <;> simp only [Prod.mk.injEq] at h1 <;> obtain ⟨rfl, rfl, rfl⟩ := h1 <;> simp at h <;> exact ⟨rfl, rfl⟩
end Go.Proofs.YticlmkfifpkdpaaDoor.Dl
