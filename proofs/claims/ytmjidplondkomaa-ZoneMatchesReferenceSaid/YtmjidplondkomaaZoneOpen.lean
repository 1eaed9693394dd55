/-
  An argument that is a zone, opened.
-/
import Derived.Test.YtmjidplondkomaaZoneHead
import Derived.Lib.SmallJoins
import Derived.Deep.SlicePairs
import Derived.OpenShut
namespace Go.Proofs.Ytmjidplondkomaa.Zn
open Go.ChangeShapes Go.WideShapes Go.RowKit Go.Joins Go.Deep
set_option linter.unusedVariables false

theorem list_of_fun (f : Nat → Int × Int) (n : Nat) : ∃ l : List (Int × Int), l.length = n ∧ ∀ i (h : i < l.length), l[i] = f i := by
  refine ⟨(List.range n).map f, by simp, fun i h => by simp⟩

theorem lt_of_cell1 {w : World} {g o : Nat} {v : Value} (h : w.cell? ⟨g, o, none⟩ = some v) : g < w.heap.size := by
  rcases Nat.lt_or_ge g w.heap.size with hlt | hge
  · exact hlt
  · unfold World.cell? at h
    simp only [Array.getElem?_eq_none hge] at h
    cases h
theorem addr_plain {w : World} {a : Addr} {v : Value} (h : w.cell? (a.add 0) = some v) : ∃ g o, a = ⟨g, o, none⟩ := by
  obtain ⟨b, off, spot⟩ := a
  have hspot : spot = none := by simpa [Addr.add] using World.cell?_spot h
  subst hspot
  exact ⟨b, off, rfl⟩

theorem zone_of {H : Type} {enc : TypeId × Value → H} {W : World} {base b0 : Nat} {spare : Nat → Bool} {held : Bool} {r : Reach} {v : Value} {d : DataW H} {p : List MemPlace}
    (hv : Value.okWide Try.prog W r b0 24 v) (h : DataW.Trod enc Try.prog W base spare held 24 v d p) :
    ∃ (z : Zone) (A : Option Addr) (cap : Nat), v = .agg #[.int .i64 z.off, .slice A z.chs.length cap] ∧ z.chs.length ≤ maxLen ∧ ChRow W A z.chs ∧ (Lit.int .i64 z.off).wf = true ∧ ∀ i (h : i < z.chs.length), (Lit.int .i64 z.chs[i].1).wf = true ∧ (Lit.int .i64 z.chs[i].2).wf = true := by
  obtain ⟨v0, v1, y0, y1, n, rfl, _, _, h0, h1⟩ := open_agg2 Try.underlying24 (by kernel_rfl) (by kernel_rfl) hv h
  obtain ⟨o, ho, _, wo⟩ := DataW.trod_int Try.underlying3 h0
  injection ho with ho _
  subst ho
  rcases open_slice_pairs Try.underlying22 Try.underlying46 (by kernel_rfl) rfl rfl (by kernel_rfl) (by kernel_rfl) h1 with ⟨hc, _⟩ | ⟨a, len, cap, m, k, V0, V1, D0, D1, P0, P1, hc, _, hl, hm, hmm, _, hx⟩
  · injection hc with hc _
    subst hc
    exact ⟨⟨o, []⟩, none, 0, rfl, by simp, fun h => by simp at h, wo, fun i h => by simp at h⟩
  · injection hc with hc _
    subst hc
    have hlm : len ≤ m := by rw [hmm]; split <;> omega
    have hi : ∀ i, i < len → V0 i = .int .i64 (intOf (V0 i)) ∧ V1 i = .int .i64 (intOf (V1 i)) ∧ (Lit.int .i64 (intOf (V0 i))).wf = true ∧ (Lit.int .i64 (intOf (V1 i))).wf = true := by
      intro i hi
      obtain ⟨_, _, t0, t1⟩ := hx i (by omega)
      obtain ⟨n0, e0, _, q0⟩ := DataW.trod_int Try.underlying3 t0
      obtain ⟨n1, e1, _, q1⟩ := DataW.trod_int Try.underlying3 t1
      injection e0 with e0 _
      injection e1 with e1 _
      rw [e0, e1]
      exact ⟨rfl, rfl, q0, q1⟩
    obtain ⟨l, rfl, hg⟩ := list_of_fun (fun i => (intOf (V0 i), intOf (V1 i))) len
    refine ⟨⟨o, l⟩, some a, cap, rfl, by show l.length ≤ maxLen; omega, fun hp => ?_, wo, fun i h => ?_⟩
    · have hp : 0 < l.length := hp
      obtain ⟨g, of, rfl⟩ := addr_plain (hx 0 (by omega)).1
      refine ⟨g, of, rfl, lt_of_cell1 (o := of + 0 * 2) (hx 0 (by omega)).1, fun i h => ?_⟩
      obtain ⟨c0, c1, _, _⟩ := hx i (by have h : i < l.length := h; omega)
      have hh := hi i h
      have e := hg i h
      show W.cell? ⟨g, of + i * 2, none⟩ = some (.int .i64 (l[i]).1) ∧ W.cell? ⟨g, of + i * 2 + 1, none⟩ = some (.int .i64 (l[i]).2)
      rw [e]
      refine ⟨?_, ?_⟩
      · show _ = some (Value.int .i64 (intOf (V0 i)))
        rw [← hh.1, ← Go.WideShapes.add_plain]; exact c0
      · show _ = some (Value.int .i64 (intOf (V1 i)))
        rw [← hh.2.1, Nat.add_assoc, ← Go.WideShapes.add_plain]; exact c1
    · have e := hg i h
      have hh := hi i h
      show (Lit.int .i64 (l[i]).1).wf = true ∧ (Lit.int .i64 (l[i]).2).wf = true
      rw [e]; exact hh.2.2
end Go.Proofs.Ytmjidplondkomaa.Zn
