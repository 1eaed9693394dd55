/-
  What the frame says about sizes, brought down to the texts that lie deep in an argument.
-/
import Derived.Test.YticakdajhmfpoaaVw
import Derived.Test.YticakdajhmfpoaaProg
namespace Go.Proofs.Yticakdajhmfpoaa.Vw
open Go.ChangeShapes Go.WideShapes Go.RowKit Mem
set_option linter.unusedVariables false

section
variable {H : Type} {enc : TypeId × Value → H} {P : Program} {W : World} {base : Nat} {spare : Nat → Bool} {held : Bool}
theorem wt_each : ∀ {ts : List TypeId} {ds : List (DataW H)} {i : Nat} {t : TypeId} {d : DataW H}, ts[i]? = some t → ds[i]? = some d → ∀ x ∈ d.weights P t, x ∈ DataW.weightsEach P ts ds
  | [], ds, i, t, d, ht, hd, x, hx => by simp at ht
  | t0 :: ts, [], i, t, d, ht, hd, x, hx => by simp at hd
  | t0 :: ts, d0 :: ds, 0, t, d, ht, hd, x, hx => by
    simp only [List.getElem?_cons_zero, Option.some.injEq] at ht hd
    subst ht hd
    unfold DataW.weightsEach
    exact List.mem_append_left _ hx
  | t0 :: ts, d0 :: ds, i + 1, t, d, ht, hd, x, hx => by
    simp only [List.getElem?_cons_succ] at ht hd
    unfold DataW.weightsEach
    exact List.mem_append_right _ (wt_each ht hd x hx)
theorem wt_all {e : TypeId} : ∀ {ds : List (DataW H)} {d : DataW H}, d ∈ ds → ∀ x ∈ d.weights P e, x ∈ DataW.weightsAll P e ds
  | [], d, hd, x, hx => by cases hd
  | d0 :: ds, d, hd, x, hx => by
    unfold DataW.weightsAll
    rcases List.mem_cons.1 hd with rfl | hd
    · exact List.mem_append_left _ hx
    · exact List.mem_append_right _ (wt_all hd x hx)
theorem wt_struct {t : TypeId} {fs : Array Field} (ht : P.underlying t = some (.struct fs)) {parts : List (DataW H)} {i : Nat} {f : Field} (hf : fs[i]? = some f) {d : DataW H} (hd : parts[i]? = some d) : ∀ x ∈ d.weights P f.type, x ∈ (DataW.agg parts).weights P t := by
  intro x hx
  unfold DataW.weights
  rw [ht]
  exact wt_each (i := i) (by rw [List.getElem?_map, Array.getElem?_toList, hf]; rfl) hd x hx
theorem wt_slice {t e : TypeId} (ht : P.underlying t = some (.slice e)) {elems rest : List (DataW H)} {d : DataW H} (hd : d ∈ elems) : ∀ x ∈ d.weights P e, x ∈ (DataW.slice elems rest).weights P t := by
  intro x hx
  unfold DataW.weights
  rw [ht]
  exact List.mem_cons_of_mem _ (List.mem_append_left _ (wt_all hd x hx))
/-- A field of a struct that is read. -/
theorem wt_field {n : Nat} {t : TypeId} {fs : Array Field} {cs : List Value} {y : DataW H × List MemPlace} (ht : P.underlying t = some (.struct fs)) (h : DataW.trod enc P W base spare held n t cs = some y) (i : Nat) (f : Field) (s : Nat) (hi : fs[i]? = some f) (hs : P.cellsOf f.type = s) :
    ∃ m z, DataW.trod enc P W base spare held m f.type ((cs.drop f.offset).take s) = some z ∧ ∀ x ∈ z.1.weights P f.type, x ∈ y.1.weights P t := by
  obtain ⟨xs, m, _, rfl, _, hx, hf⟩ := DataW.trod_struct ht h
  subst hs
  have hi2 : i < xs.length := by rw [hx]; exact (Array.getElem?_eq_some_iff.1 hi).1
  refine ⟨m, xs[i], by rw [hf i f hi, List.getElem?_eq_getElem hi2], ?_⟩
  exact wt_struct ht hi (by rw [List.getElem?_map, List.getElem?_eq_getElem hi2]; rfl)
/-- An element of a slice that is read. -/
theorem wt_elem {n : Nat} {t e : TypeId} {v : Value} {z : Nat} {xs : List (List Value)} {y : DataW H × List MemPlace} (ht : P.underlying t = some (.slice e)) (hC : P.cellsOf e = z) (hr : Row W v z xs) (h : DataW.trod enc P W base spare held n t [v] = some y) (i : Nat) (x : List Value) (hx : xs[i]? = some x) (hl : x.length = z) :
    ∃ m d, DataW.trod enc P W base spare held m e x = some d ∧ ∀ k ∈ d.1.weights P e, k ∈ y.1.weights P t := by
  have hil : i < xs.length := (List.getElem?_eq_some_iff.1 hx).1
  have hne : xs ≠ [] := by intro e; rw [e] at hil; simp at hil
  obtain ⟨g, o, cap, rfl, _, _, _, hat⟩ := hr.at hne
  rcases DataW.trod_slice ht h with ⟨hcs, _⟩ | ⟨a, len, cap', elems, rest, m, _, hcs, rfl, _, _, _, hlen, hel, _, _⟩
  · injection hcs with hcs _
    injection hcs with h1 _ _
    cases h1
  · injection hcs with hcs _
    injection hcs with h1 h2 _
    injection h1 with h1
    subst h1
    rw [hC] at hel
    have h1 := hel i (by omega)
    have hi2 : i < elems.length := by omega
    rw [List.getElem?_eq_getElem hi2, Option.bind_eq_some_iff] at h1
    obtain ⟨cs, hc2, hc3⟩ := h1
    obtain ⟨h4, h5⟩ := cells_at hc2
    have hcx : cs = x := by
      apply List.ext_getElem?
      intro j
      by_cases hj : j < z
      · have e1 : cs[j]? = some cs[j] := List.getElem?_eq_getElem (by omega)
        have e2 : x[j]? = some x[j] := List.getElem?_eq_getElem (by omega)
        have k1 := h5 j _ e1
        have k2 := hat i x hx j _ e2
        rw [add_plain, add_plain, k2] at k1
        rw [e1, e2]
        exact k1.symm
      · rw [List.getElem?_eq_none (by omega), List.getElem?_eq_none (by omega)]
    subst hcx
    exact ⟨m, elems[i], hc3, wt_slice ht (List.mem_map_of_mem (List.getElem_mem hi2))⟩
/-- A text that is read is no longer than what the frame allows. -/
theorem wt_text {n : Nat} {t : TypeId} {x : Bytes} {y : DataW H × List MemPlace} (ht : P.underlying t = some .string) (h : DataW.trod enc P W base spare held n t [.string ⟨x.toArray⟩] = some y) : x.length ∈ y.1.weights P t := by
  obtain ⟨s, e, rfl, _⟩ := DataW.trod_string ht h
  injection e with e _
  injection e with e
  subst e
  unfold DataW.weights
  simp
end
end Go.Proofs.Yticakdajhmfpoaa.Vw
