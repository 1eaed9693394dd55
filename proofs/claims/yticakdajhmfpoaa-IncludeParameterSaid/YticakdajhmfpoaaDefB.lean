/-
  A function that defers one call of a built-in function.
-/
import Derived.WalkKit
import Derived.Defers
namespace Go.Proofs.Yticakdajhmfpoaa.Db
open Go Go.RowKit
set_option linter.unusedVariables false
variable {P : Program}
/-- How a body ends that may have deferred one call of a built-in function. -/
def postB (P : Program) (fn : Func) (R : Ending → World → Prop) : Exit → Act → World → Prop
  | .ret, a, w => (a.defers = [] ∧ ∃ v, (results fn a.tmps).run P w = .ok v w ∧ R (.returned v) w) ∨
      ∃ b ats ty cs args x w', a.defers = [{ target := .builtin b ats ty cs, args := args }] ∧ (builtin b ats ty cs args).run P w = .ok (.value x) w' ∧ ∃ v, (results fn a.tmps).run P w' = .ok v w' ∧ R (.returned v) w'
  | .outgrown, _, w => R .outgrown w
  | _, _, _ => False
theorem step_builtin {fr : Frame} {cs : List Frame} {w w' : World} {b : Builtin} {ats : Array TypeId} {ty : TypeId} {ks : Array Bool} {args : Array Value} {ds : List Deferred} {x : Value} (hm : fr.mode = .returning) (hd : fr.defers = { target := .builtin b ats ty ks, args := args } :: ds) (hi : (builtin b ats ty ks args).run P w = .ok (.value x) w') :
    step P (lone fr cs w) = .next (lone { fr with defers := ds } cs w') := by
  have hi' : (invoke (.builtin b ats ty ks) args).run P w = .ok (.value x) w' := hi
  refine step_lone_go ?_
  simp [stepG, unwind, callDeferred, hm, hd, hi']
theorem calls_of_wp_b {f : FuncId} {fn : Func} {c : Code} {args : Array Value} {w : World} {R : Ending → World → Prop}
    (hf : P.funcs[f]? = some fn) (hb : fn.body = some c)
    (h : c.wp P (postB P fn R) { tmps := args ++ Array.replicate (fn.ntmps - args.size) undef, defers := [] } w) : Calls P f args w R := by
  intro cs
  let b : Frame := { (default : Frame) with fn := f, kind := .normal }
  have henter : Frame.enter P f args .normal =
      b.at { tmps := args ++ Array.replicate (fn.ntmps - args.size) undef, defers := [] } [.code c] := by
    simp [Frame.enter, Frame.at, hf, hb, b]
  obtain ⟨e, a', w', hq, harr⟩ := h b [] cs
  rw [← henter] at harr
  cases e with
  | normal => exact hq.elim
  | ret =>
    obtain ⟨todo, hs⟩ := harr
    rcases hq with ⟨hd, v, hr, hR⟩ | ⟨bb, ats, ty, ks, ag, x, w2, hd, hi, v, hr, hR⟩
    · exact ⟨.returned v, w', _, hR, hs, rfl, rfl, hd, rfl, fn, hf, hr⟩
    · have h1 := step_builtin (P := P) (cs := cs) (fr := { b.at a' todo with mode := .returning }) rfl hd hi
      exact ⟨.returned v, w2, _, hR, Steps.trans hs (.one h1), rfl, rfl, rfl, rfl, fn, hf, hr⟩
  | panic chain => exact hq.elim
  | exit id => exact hq.elim
  | goto l => exact hq.elim
  | outgrown => exact ⟨.outgrown, w', b, hq, harr.resolve_left (by simp [b]), rfl, trivial⟩
theorem post_plain {fn : Func} {R : Ending → World → Prop} {t : Array Value} {w : World} {v : Value} (hr : (results fn t).run P w = .ok v w) (h : R (.returned v) w) : postB P fn R .ret { tmps := t, defers := [] } w := .inl ⟨rfl, v, hr, h⟩
theorem post_deferred {fn : Func} {R : Ending → World → Prop} {t : Array Value} {w w' : World} {v x : Value} {b : Builtin} {ats : Array TypeId} {ty : TypeId} {ks : Array Bool} {args : Array Value} (hi : (builtin b ats ty ks args).run P w = .ok (.value x) w') (hr : (results fn t).run P w' = .ok v w') (h : R (.returned v) w') : postB P fn R .ret { tmps := t, defers := [{ target := .builtin b ats ty ks, args := args }] } w :=
  .inr ⟨b, ats, ty, ks, args, x, w', rfl, hi, v, hr, h⟩
end Go.Proofs.Yticakdajhmfpoaa.Db
