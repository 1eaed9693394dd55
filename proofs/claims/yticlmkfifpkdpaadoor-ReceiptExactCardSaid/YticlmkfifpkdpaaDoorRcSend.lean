/-
  estoppelref33.Sendings, Receipts walked.
-/
import Derived.Test.YticlmkfifpkdpaaDoorRcRefs
import Derived.BigRegion
namespace Go.Proofs.YticlmkfifpkdpaaDoor.Rc
open Go.RowKit Go.Shelf Mem Vw
set_option linter.unusedVariables false
set_option linter.unusedSimpArgs false
theorem results_two {fn : Func} {t u : Tmp} (h : fn.results = #[.tmp t, .tmp u]) (tmps : Array Value) (P : Program) (w : World) :
    (results fn tmps).run P w = .ok (.tuple #[tmps.getD t undef, tmps.getD u undef]) w := by
  simp [results, h]
def inDay (s g k : Int) : Prop := (s = -1 ∨ 0 ≤ s ∧ s ≤ 105190559) ∧ (g = -1 ∨ 0 ≤ g ∧ g ≤ 105190559) ∧ 0 ≤ k ∧ k ≤ 2880
set_option maxRecDepth 100000 in
set_option maxHeartbeats 4000000 in
theorem sendings_any (s g k : Int) (W : World) (h : inDay s g k) : Calls Tryd.prog 18 #[.agg #[.int .i64 s, .int .i64 g, .int .i64 k]] W fun e w' => e = .returned (.tuple #[.int .i64 (max (s - k) 0), .int .i64 (if 0 ≤ g then min (s + k) (min 105190559 (g + k)) else min (s + k) 105190559)]) ∧ Below W.heap.size W w' := by
  obtain ⟨hs, hg, hk0, hk1⟩ := h
  have hb : Below W.heap.size W (W.alloc (.cells #[.int .i64 s, .int .i64 g, .int .i64 k] 35)) := (Below.refl _ W).alloc (Nat.le_refl _) _
  have HB := Lib.hid hb
  clear hb
  by_cases h1 : 0 ≤ g
  · rw [if_pos h1]
    go_enter Tryd.func18, Tryd.ntmps18
    go_wp2_with fail
    (try simp only [Exit.inBlock, Exit.then]); refine bodyPost_ret (results_two rfl _ _ _) rfl ?_
    exact ⟨rfl, HB.out⟩
  · rw [if_neg h1]
    have h1b : decide (0 ≤ g) = false := decide_eq_false h1
    go_enter Tryd.func18, Tryd.ntmps18
    go_wp2_with fail
    (try simp only [Exit.inBlock, Exit.then]); refine bodyPost_ret (results_two rfl _ _ _) rfl ?_
    exact ⟨rfl, HB.out⟩
set_option maxRecDepth 100000 in
set_option maxHeartbeats 4000000 in
theorem receipts_any (s g k : Int) (W : World) (h : inDay s g k) : Calls Tryd.prog 19 #[.agg #[.int .i64 s, .int .i64 g, .int .i64 k]] W fun e w' => e = .returned (.tuple #[.int .i64 (if 0 ≤ s then max (g - k) (max 0 (s - k)) else max (g - k) 0), .int .i64 (min (g + k) 105190559)]) ∧ Below W.heap.size W w' := by
  obtain ⟨hs, hg, hk0, hk1⟩ := h
  have hb : Below W.heap.size W (W.alloc (.cells #[.int .i64 s, .int .i64 g, .int .i64 k] 35)) := (Below.refl _ W).alloc (Nat.le_refl _) _
  have HB := Lib.hid hb
  clear hb
  by_cases h1 : 0 ≤ s
  · rw [if_pos h1]
    have hwr : IntKind.i64.wrap (g + k) = g + k := Go.IntWalk.i64_in _ (by omega)
    go_enter Tryd.func19, Tryd.ntmps19
    go_wp2_with fail
    go_region_with fail
    all_goals go_wp2_with fail
    all_goals ((try simp only [Exit.inBlock, Exit.then]); refine bodyPost_ret (results_two rfl _ _ _) rfl ?_)
    all_goals exact ⟨rfl, below_drewN HB.out 1⟩
  · rw [if_neg h1]
    have h1b : decide (0 ≤ s) = false := decide_eq_false h1
    have hwr : IntKind.i64.wrap (g + k) = g + k := Go.IntWalk.i64_in _ (by omega)
    go_enter Tryd.func19, Tryd.ntmps19
    go_wp2_with fail
    go_region_with fail
    all_goals go_wp2_with fail
    all_goals ((try simp only [Exit.inBlock, Exit.then]); refine bodyPost_ret (results_two rfl _ _ _) rfl ?_)
    all_goals exact ⟨rfl, below_drewN HB.out 1⟩
end Go.Proofs.YticlmkfifpkdpaaDoor.Rc
