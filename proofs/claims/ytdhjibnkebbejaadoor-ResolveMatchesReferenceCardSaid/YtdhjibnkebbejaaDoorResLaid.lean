/-
  What the listed variable gives the walks, that the program's own start meets it; an argument that is an item, opened.
-/
import Derived.Test.YtdhjibnkebbejaaDoorRows
import Derived.Test.YtdhjibnkebbejaaDoorResDate
import Derived.Test.YtdhjibnkebbejaaDoorResView
import Derived.ProofKit
import Derived.LaidMore
import Derived.OpenShut
import Derived.Stop.Joined
namespace Go.Proofs.YtdhjibnkebbejaaDoor.Rs
open Go.ChangeShapes Go.WideShapes Go.ChangeAt Go.RowKit Mem Vw
set_option linter.unusedVariables false

def laidW : List (String × DataW Unit) := [("estoppel/date.before", Rows.laid_estoppel_date_before)]
theorem gBefore : Tryd.prog.globalNamed "estoppel/date.before" = some 0 := by kernel_rfl
theorem tBefore : (Tryd.prog.globals[0]?).map (·.type) = some 155 := by kernel_rfl
set_option maxRecDepth 100000 in
theorem door_met (os : Os) (args : Array Value) : laidMetH Tryd.prog laidW ((World.doorLaid Tryd.prog 400 os).forCall (fun _ _ => 0) ⟨#[], args, []⟩).memory :=
  laidMetH_of_parts3 (fuel := 8) (laidMet_of_run' 8 (by kernel_rfl) (by kernel_rfl)) (by kernel_rfl) (by kernel_rfl)
theorem lt_of_cell0 {w : World} {g : Nat} {o : Nat} {v : Value} (h : w.cell? ⟨g, o, none⟩ = some v) : g < w.heap.size := by
  rcases Nat.lt_or_ge g w.heap.size with hlt | hge
  · exact hlt
  · unfold World.cell? at h
    simp only [Array.getElem?_eq_none hge] at h
    cases h
theorem bf_of_laid {W : World} (h : laidMetH Tryd.prog laidW W) : Bf W := by
  rw [MakeChecks.laidMetH_plain _ _ _ (by kernel_rfl)] at h
  obtain ⟨ps, ⟨g0, t0, cs0, f0, p0, q0, hg0, ht0, hv0, hd0, _, _⟩, _, _⟩ := h
  obtain rfl := Option.some.inj (gBefore.symm.trans hg0)
  obtain rfl := Option.some.inj (tBefore.symm.trans ht0)
  have hcell := fun i => World.var?_cell hg0 hv0 i
  obtain ⟨xs, m1, rfl, hx1, hlen, hn7, hel⟩ := DataW.trod_array Tryd.underlying155 hd0
  have c1 : Tryd.prog.cellsOf 3 = 1 := by kernel_rfl
  rw [c1] at hel
  have hxs : Rows.laid_estoppel_date_before (H := Unit) = .agg (xs.map (·.1)) := by simp only [Prod.mk.injEq] at hx1; exact hx1.1
  unfold Rows.laid_estoppel_date_before at hxs
  injection hxs with hxs
  have key : ∀ i x, tab13[i]? = some x → W.cell? ⟨0, i, none⟩ = some (.int .i64 x) := by
    intro i x hx
    have hi : i < 13 := (List.getElem?_eq_some_iff.1 hx).1
    have h1 := hel i hi
    have hxi : i < xs.length := by omega
    rw [List.getElem?_eq_getElem hxi, Nat.mul_one] at h1
    obtain ⟨s, e1, e2, _⟩ := DataW.trod_int Tryd.underlying3 h1
    have e3 : (xs.map (·.1))[i]? = some (.lit (.int .i64 s)) := by rw [List.getElem?_map, List.getElem?_eq_getElem hxi, e2]; rfl
    rw [← hxs] at e3
    have e4 : (tab13.map fun x => (DataW.lit (.int .i64 x) : DataW Unit))[i]? = some (.lit (.int .i64 s)) := e3
    rw [List.getElem?_map, hx] at e4
    simp only [Option.map_some, Option.some.injEq, DataW.lit.injEq, Lit.int.injEq, true_and] at e4
    rw [hcell i]
    have e5 : cs0.toList[i]? = some (.int .i64 s) := by
      have := congrArg (fun l => l[0]?) e1
      simpa [List.getElem?_take, List.getElem?_drop] using this
    rw [e4]
    simpa using e5
  refine ⟨?_, key⟩
  have h0 := key 0 _ rfl
  exact lt_of_cell0 h0
section
variable {H : Type} {enc : TypeId × Value → H} {W : World} {base : Nat} {spare : Nat → Bool} {held : Bool}
set_option maxRecDepth 100000 in
theorem open_item {b0 : Nat} {r : Reach} {v : Value} {d : DataW H} {p : List MemPlace} (hv : Value.okWide Tryd.prog W r b0 55 v) (h : DataW.Trod enc Tryd.prog W base spare held 55 v d p) :
    ∃ p : Item × Sl, v = .agg (ic p).toArray ∧ ItemOk p.1 ∧ Flat W p.1 p.2.1 p.2.2.1 p.2.2.2.1 ∧ IsSlice p.2.2.2.2 := by
  obtain ⟨cs, rfl, hsz⟩ := okWide_struct Tryd.underlying55 hv
  obtain ⟨cs⟩ := cs
  obtain ⟨n, hn⟩ := h
  have hn' : DataW.trod enc Tryd.prog W base spare held n 55 cs = some (d, p) := hn
  obtain ⟨f, sc, sd, sn, si, m, z, e, h1, h2, _, h3⟩ := op_item hn'
  have h4 : IsSlice si := by
    rcases DataW.trod_slice Tryd.underlying24 h3 with ⟨hc, _⟩ | ⟨a, len, cap, _, _, _, _, hc, _⟩
    · injection hc with hc _; exact ⟨_, _, _, hc⟩
    · injection hc with hc _; exact ⟨_, _, _, hc⟩
  exact ⟨(f, sc, sd, sn, si), by rw [e]; rfl, h1, h2, h4⟩
end
end Go.Proofs.YtdhjibnkebbejaaDoor.Rs
