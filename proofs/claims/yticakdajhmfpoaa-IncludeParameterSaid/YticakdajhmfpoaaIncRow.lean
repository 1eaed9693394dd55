/-
  A row whose proof needs the arguments' weights.
-/
import Derived.Handed
import Derived.Test.YticakdajhmfpoaaIncMem
import Derived.ProofKit
namespace Go.Proofs.Yticakdajhmfpoaa.Ic
set_option linter.unusedVariables false
theorem returns_sized {H : Type} {enc : TypeId × Value → H} {a : Assume} {C : Checked} {os : Os} {f : FuncId} {fn : Func} {s : ChangeSpec} {conds : List PathCond} {apart fresh handsOn again : Bool}
    (own : ownKnob C.prog.godebug = none) (started : os.Started) (noInit : C.prog.inits.idxOf? f = none) (hfn : C.prog.funcs[f]? = some fn)
    (witness : ∃ (w : World) (tape : Tape) (i : Input), w.os = os ∧ (w.forCall tape i).Shaped C.prog ∧ i.vars = [] ∧ Input.okWide C.prog (w.forCall tape i) .any w.heap.size f i ∧
      s.pre6 enc C.prog fn conds apart (w.forCall tape i).memory i.args ∧ a.holds C.prog (lone (Frame.enter C.prog f i.args .normal) [] (w.forCall tape i)))
    (contract : ∀ (W : World) (base : Nat) (args : Array Value) (ds gs : List (DataW H)) (before : List MemPlace),
      (∀ (j : Nat) t v, fn.params[j]? = some t → args[j]? = some v → Value.okWide C.prog W .any base t v) →
      DataW.Whole enc C.prog fn.params.toList s.vars apart W args.toList ds gs before →
      conds.all (PathCond.test C.prog ⟨fn.params.toList, ds, s.plain.varTypes C.prog, gs⟩) = true →
      (DataW.weightsEach C.prog (fn.params.toList ++ s.plain.varTypes C.prog) (ds ++ gs)).all (· ≤ reachBytes) = true →
      a.holds C.prog (lone (Frame.enter C.prog f args .normal) [] W) →
      Calls C.prog f args W fun e W' => ∃ v, e = .returned v ∧ s.post enc C.prog fn apart fresh handsOn again W args v W') :
    ReturnsInHanded a C os f .any (s.pre6 enc C.prog fn conds apart) (s.post enc C.prog fn apart fresh handsOn again) := by
  refine returnsInHanded_of_calls own started noInit witness ?_
  intro w tape i _ _ _ hok hpre hholds
  obtain ⟨_, _, _, fn', hfn', _, _, _, _, hval⟩ := hok
  have e : fn' = fn := Option.some.inj (hfn'.symm.trans hfn)
  subst e
  obtain ⟨⟨ds, gs, before, hw, hc⟩, hz⟩ := hpre
  have hw' := DataW.Whole.of_heap (w' := w.forCall tape i) (by rfl) hw
  refine (contract (w.forCall tape i) w.heap.size i.args ds gs before hval hw' hc (hz.weights hw) hholds).mono fun e W' ⟨v, he, hp⟩ => ?_
  subst he
  exact ChangeSpec.post_blind hp
/-- The weights of one argument. -/
theorem weights_at {H : Type} {P : Program} : ∀ (ts : List TypeId) (ds : List (DataW H)), (DataW.weightsEach P ts ds).all (· ≤ reachBytes) = true → ∀ (j : Nat) (t : TypeId) (d : DataW H), ts[j]? = some t → ds[j]? = some d → ∀ k ∈ d.weights P t, k ≤ reachBytes
  | [], ds, _, j, t, d, ht, _ => by simp at ht
  | t :: ts, [], _, j, _, _, _, hd => by simp at hd
  | t :: ts, d :: ds, h, 0, t2, d2, ht, hd => fun k hk => by
    simp only [List.getElem?_cons_zero, Option.some.injEq] at ht hd
    subst ht; subst hd
    rw [DataW.weightsEach, List.all_append, Bool.and_eq_true] at h
    have := List.all_eq_true.1 h.1 k hk
    simpa using this
  | t :: ts, d :: ds, h, j + 1, t2, d2, ht, hd => by
    rw [DataW.weightsEach, List.all_append, Bool.and_eq_true] at h
    exact weights_at ts ds h.2 j t2 d2 (by simpa using ht) (by simpa using hd)
section
open Go.ChangeShapes Go.WideShapes Go.RowKit Mem Vw Rs
variable {H : Type} {enc : TypeId × Value → H} {W : World} {base : Nat} {spare : Nat → Bool} {held : Bool}
set_option maxRecDepth 100000 in
theorem open_src2 {b0 : Nat} {r : Reach} {v : Value} {d : DataW H} {p : List MemPlace} (hv : Value.okWide Try.prog W r b0 26 v) (h : DataW.Trod enc Try.prog W base spare held 26 v d p) (hw : ∀ k ∈ d.weights Try.prog 26, k ≤ reachBytes) :
    ∃ (s : Rs.Source) (l : List DT) (si : Value), v = .agg (scells s.name s.frm s.days si).toArray ∧ LayL All W l si ∧ (∀ x ∈ l, DOk x) ∧ l.length * 368 ≤ 140737488351232 := by
  obtain ⟨s, l, si, rfl, h1, h2, h3⟩ := open_src hv h hw
  refine ⟨s, l, si, rfl, h1, h2, ?_⟩
  obtain ⟨A, c, rfl, _, _⟩ := h1.slice
  obtain ⟨n, hn⟩ := h
  obtain ⟨m, y, k1, w1⟩ := wt_field Try.underlying26 hn 3 _ 1 rfl sizeSapiItem
  have hb : Try.prog.bytesOf 41 = 368 := by kernel_rfl
  have := len_wt (M := reachBytes) Try.underlying24 (A := A) (len := l.length) (cap := c) k1 (fun k hk => hw k (w1 k hk))
  rw [hb] at this
  exact Nat.le_trans this (by decide)
end
end Go.Proofs.Yticakdajhmfpoaa.Ic
