/-
  Two operations of a region may come up: both are walked.
-/
import Derived.Test.YticakdajhmfpoaaReg
namespace Go.Proofs.Yticakdajhmfpoaa.Reg
set_option linter.unusedVariables false

section
variable {P : Program} {md : Region.Mode} {ops : Array Oper} {Q : Exit → Act → World → Prop}
/-- The two operations that may come up. -/
theorem G.two {j1 j2 : Nat} {o1 o2 : Oper} {m1 m2 : List Bool} {L : List Fact} {fuel : Nat} {listed : Array Bool} {a : Act} {w : World} (ns : List Nat) (ho1 : ops.toList[j1]? = some o1) (ho2 : ops.toList[j2]? = some o2) (hr : Region.ready md ops listed = [j1, j2]) (hn : L.map (·.1) = ns) (hd1 : drops md ops j1 m1 ns = true) (hd2 : drops md ops j2 m2 ns = true)
    (h1 : ∀ K : Act → World → Prop, Shut (∀ a' w', All (Kept m1 L) w' → G P md ops Q (Kept m1 L) fuel (listed.setIfInBounds j1 true) a' w' → K a' w') → if Region.wanted o1 (yielded ops a.tmps) = true then Oper.wp P o1 a w K Q else K (a.put o1.dst undef) w)
    (h2 : ∀ K : Act → World → Prop, Shut (∀ a' w', All (Kept m2 L) w' → G P md ops Q (Kept m2 L) fuel (listed.setIfInBounds j2 true) a' w' → K a' w') → if Region.wanted o2 (yielded ops a.tmps) = true then Oper.wp P o2 a w K Q else K (a.put o2.dst undef) w) : G P md ops Q L (fuel + 1) listed a w := fun hc hA => by
  refine ⟨fun h0 => (by rw [hr] at h0; cases h0), fun i hi => ?_⟩
  have hi2 := hi
  rw [hr] at hi
  have hij : i = j1 ∨ i = j2 := by simpa using hi
  rcases hij with rfl | rfl
  · have ho : ops[i]? = some o1 := (Array.getElem?_toList).symm.trans ho1
    refine wpOp_step ho (fun K' hK => h1 K' (fun a' w' hA' hG => hK a' w' ⟨fun x hx hx2 => hA'.mem x (drops_ok hn hd1 x hx hx2), ?_⟩))
    exact AnyG.anti _ _ _ _ _ _ (fun x hx => .inl (drops_ok hn hd1 x hx.1 hx.2)) (hG (hc.set hi2) hA')
  · have ho : ops[i]? = some o2 := (Array.getElem?_toList).symm.trans ho2
    refine wpOp_step ho (fun K' hK => h2 K' (fun a' w' hA' hG => hK a' w' ⟨fun x hx hx2 => hA'.mem x (drops_ok hn hd2 x hx hx2), ?_⟩))
    exact AnyG.anti _ _ _ _ _ _ (fun x hx => .inl (drops_ok hn hd2 x hx.1 hx.2)) (hG (hc.set hi2) hA')
end
end Go.Proofs.Yticakdajhmfpoaa.Reg
