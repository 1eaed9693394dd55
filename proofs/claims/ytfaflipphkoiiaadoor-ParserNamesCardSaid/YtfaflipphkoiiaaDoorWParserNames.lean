/-
  The walk of the statement ParserNames, its cases joined; an argument that is an array of five strings, opened.
-/
import Derived.Test.YtfaflipphkoiiaaDoorWParserNamesA
import Derived.OpenShut
import Derived.ShutString
namespace Go.Proofs.YtfaflipphkoiiaaDoor
open Go.RowKit Mem Pr Go.ChangeShapes Go.WideShapes
open Lx (bs bs_length)
set_option linter.unusedVariables false

theorem list5 {α : Type} : ∀ (l : List α), l.length = 5 → ∃ a b c d e, l = [a, b, c, d, e]
  | [a, b, c, d, e], _ => ⟨a, b, c, d, e, rfl⟩
  | [], h | [_], h | [_, _], h | [_, _, _], h | [_, _, _, _], h => by simp at h
  | _ :: _ :: _ :: _ :: _ :: _ :: _, h => by simp at h
set_option maxRecDepth 100000 in
theorem open_five {H : Type} {enc : TypeId × Value → H} {W : World} {base b0 : Nat} {spare : Nat → Bool} {held : Bool} {r : Reach} {v : Value} {d : DataW H} {p : List MemPlace}
    (hv : Value.okWide Tryd.prog W r b0 45 v) (h : DataW.Trod enc Tryd.prog W base spare held 45 v d p) :
    ∃ l0 l1 l2 l3 l4 : Bytes, v = .agg #[.string ⟨l0.toArray⟩, .string ⟨l1.toArray⟩, .string ⟨l2.toArray⟩, .string ⟨l3.toArray⟩, .string ⟨l4.toArray⟩] ∧ ∀ x ∈ [l0, l1, l2, l3, l4], x.length ≤ maxLen := by
  obtain ⟨cs, rfl, hsz⟩ : ∃ cs, v = .agg cs ∧ cs.size = Tryd.prog.cellsOf 45 := by
    simp only [Value.okWide, Tryd.underlying45] at hv
    obtain ⟨cs, h1, h2, _⟩ := hv
    exact ⟨cs, h1, h2⟩
  obtain ⟨cs⟩ := cs
  obtain ⟨a, b, c, e, f, rfl⟩ := list5 cs (hsz.trans (by kernel_rfl))
  obtain ⟨m, hm⟩ := h
  obtain ⟨xs, n, _, _, _, hlen, hx⟩ := DataW.trod_array Tryd.underlying45 hm
  have h1 : Tryd.prog.cellsOf 9 = 1 := by kernel_rfl
  rw [h1] at hx
  have key : ∀ i (u : Value), i < 5 → [a, b, c, e, f][i]? = some u → ∃ l : Bytes, u = .string ⟨l.toArray⟩ ∧ l.length ≤ maxLen := by
    intro i u hi hu
    have hi2 : i < xs.length := by omega
    have h2 := hx i hi
    rw [List.getElem?_eq_getElem hi2] at h2
    have h3 : (([a, b, c, e, f].drop (i * 1)).take 1) = [u] := by
      rw [Nat.mul_one]
      match i, hi, hu with
      | 0, _, hu => simp at hu; subst hu; rfl
      | 1, _, hu => simp at hu; subst hu; rfl
      | 2, _, hu => simp at hu; subst hu; rfl
      | 3, _, hu => simp at hu; subst hu; rfl
      | 4, _, hu => simp at hu; subst hu; rfl
    have h4 : (Value.agg #[a, b, c, e, f]).cells.toList = [a, b, c, e, f] := rfl
    rw [h4, h3] at h2
    obtain ⟨s, hs, _, hz⟩ := DataW.trod_string Tryd.underlying9 h2
    simp only [List.cons.injEq, and_true] at hs
    refine ⟨s.data.toList, by rw [hs], ?_⟩
    have hl : s.data.toList.length = s.size := bs_length s
    rw [hl]; exact hz
  obtain ⟨l0, rfl, k0⟩ := key 0 a (by omega) rfl
  obtain ⟨l1, rfl, k1⟩ := key 1 b (by omega) rfl
  obtain ⟨l2, rfl, k2⟩ := key 2 c (by omega) rfl
  obtain ⟨l3, rfl, k3⟩ := key 3 e (by omega) rfl
  obtain ⟨l4, rfl, k4⟩ := key 4 f (by omega) rfl
  refine ⟨l0, l1, l2, l3, l4, rfl, fun x hx => ?_⟩
  simp only [List.mem_cons, List.not_mem_nil, or_false] at hx
  rcases hx with hx | hx | hx | hx | hx
  · rw [hx]; exact k0
  · rw [hx]; exact k1
  · rw [hx]; exact k2
  · rw [hx]; exact k3
  · rw [hx]; exact k4
theorem walk_ParserNames (l0 l1 l2 l3 l4 : Bytes) (hs : ∀ x ∈ [l0, l1, l2, l3, l4], x.length ≤ maxLen) (m : Int) (hm : (Lit.int .u32 m).wf = true) (fin : Bool) (w : World) (hw : Wks w) :
    Calls Tryd.prog 7 #[.agg #[.string ⟨l0.toArray⟩, .string ⟨l1.toArray⟩, .string ⟨l2.toArray⟩, .string ⟨l3.toArray⟩, .string ⟨l4.toArray⟩], .int .u32 m, .bool fin] w fun e w' => e = .returned (.bool true) ∧ Below w.heap.size w w' := by
  have hs' : ∀ x ∈ [l0, l1, l2, l3, l4], x.length ≤ 9223372036854775807 := fun x hx => by have := hs x hx; unfold maxLen at this; omega
  have bm := bounds_u32 hm
  by_cases h0 : okName l0 = true
  · by_cases h1 : okName l1 = true
    · by_cases h2 : okName l2 = true
      · by_cases h3 : okName l3 = true
        · by_cases h4 : okName l4 = true
          · obtain ⟨k, rfl⟩ : ∃ k : Nat, m = (k : Int) := ⟨m.toNat, by omega⟩
            exact names_yes l0 l1 l2 l3 l4 h0 h1 h2 h3 h4 k (by omega) fin w hw
          · refine names_no l0 l1 l2 l3 l4 hs' m fin w hw 4 (by omega) (by simpa using h4) (fun i hi => ?_)
            match i, hi with
            | 0, _ => exact h0
            | 1, _ => exact h1
            | 2, _ => exact h2
            | 3, _ => exact h3
        · refine names_no l0 l1 l2 l3 l4 hs' m fin w hw 3 (by omega) (by simpa using h3) (fun i hi => ?_)
          match i, hi with
          | 0, _ => exact h0
          | 1, _ => exact h1
          | 2, _ => exact h2
      · refine names_no l0 l1 l2 l3 l4 hs' m fin w hw 2 (by omega) (by simpa using h2) (fun i hi => ?_)
        match i, hi with
        | 0, _ => exact h0
        | 1, _ => exact h1
    · refine names_no l0 l1 l2 l3 l4 hs' m fin w hw 1 (by omega) (by simpa using h1) (fun i hi => ?_)
      match i, hi with
      | 0, _ => exact h0
  · exact names_no l0 l1 l2 l3 l4 hs' m fin w hw 0 (by omega) (by simpa using h0) (fun i hi => by omega)
end Go.Proofs.YtfaflipphkoiiaaDoor
