/-
  Slices of integers that came in, as lists.
-/
import Derived.Below
import Derived.WalkKit
import Derived.ProofKit
import Derived.OpenShut
namespace Go.Proofs.Yticakdajhmfpoaa
open Go.ChangeShapes Go.WideShapes Go.RowKit
set_option linter.unusedVariables false

/-- A slice of integers that reads as a list. -/
def IntRow (k : IntKind) (w : World) (A : Option Addr) (zs : List Int) : Prop :=
  (0 < zs.length → ∃ g o, A = some ⟨g, o, none⟩ ∧ g < w.heap.size ∧ ∀ i (h : i < zs.length), w.cell? ⟨g, o + i, none⟩ = some (.int k zs[i])) ∧ ∀ z ∈ zs, (Lit.int k z).wf = true
theorem IntRow.below {k : IntKind} {w w' : World} {A : Option Addr} {zs : List Int} (h : IntRow k w A zs) (hb : Below w.heap.size w w') : IntRow k w' A zs := by
  refine ⟨fun hp => ?_, h.2⟩
  obtain ⟨g, o, hA, hg, hc⟩ := h.1 hp
  exact ⟨g, o, hA, Nat.lt_of_lt_of_le hg hb.size, fun i hi => (hb.cell (p := ⟨g, _, none⟩) hg).trans (hc i hi)⟩
theorem lt_of_cell_ {w : World} {g o : Nat} {v : Value} (h : w.cell? ⟨g, o, none⟩ = some v) : g < w.heap.size := by
  rcases Nat.lt_or_ge g w.heap.size with hlt | hge
  · exact hlt
  · unfold World.cell? at h
    simp only [Array.getElem?_eq_none hge] at h
    cases h
/-- An argument that is a slice of integers. -/
theorem intRow_of {H : Type} {enc : TypeId × Value → H} {P : Program} {W : World} {base : Nat} {spare : Nat → Bool} {held : Bool} {t e : TypeId} {k : IntKind} {A : Option Addr} {len cap : Nat} {d : DataW H} {p : List MemPlace}
    (ht : P.underlying t = some (.slice e)) (he : P.underlying e = some (.int k)) (hC : P.cellsOf e = 1) (h : DataW.Trod enc P W base spare held t (.slice A len cap) d p) :
    ∃ zs : List Int, zs.length = len ∧ len ≤ maxLen ∧ IntRow k W A zs := by
  obtain ⟨fuel, hf⟩ := h
  rcases open_ints ht he hC hf with ⟨hcs, _⟩ | ⟨x, l, c, zs, hcs, _, hl, hm, hz, _, hcell, hwz⟩
  · simp [Value.cells] at hcs
    obtain ⟨rfl, rfl, rfl⟩ := hcs
    exact ⟨[], rfl, by simp, fun h => by simp at h, by simp⟩
  · simp [Value.cells] at hcs
    obtain ⟨rfl, rfl, rfl⟩ := hcs
    have hzl : len ≤ zs.length := by rw [hz]; split <;> omega
    have htl : (zs.take len).length = len := by rw [List.length_take]; omega
    refine ⟨zs.take len, htl, by omega, fun hp => ?_, fun z hzm => hwz z (List.mem_of_mem_take hzm)⟩
    rw [htl] at hp
    obtain ⟨b, off, rfl, hc⟩ := ints_at hcell (by omega)
    refine ⟨b, off, rfl, lt_of_cell_ (hc 0 (by omega)), fun i hi => ?_⟩
    rw [htl] at hi
    rw [hc i (by omega), List.getElem_take]
    simp [List.getD, List.getElem?_eq_getElem (show i < zs.length by omega)]
end Go.Proofs.Yticakdajhmfpoaa
