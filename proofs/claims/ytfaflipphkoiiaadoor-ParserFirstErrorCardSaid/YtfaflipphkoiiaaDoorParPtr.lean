/-
  Methods of the parser that write an item behind a pointer: their frame.
-/
import Derived.Test.YtfaflipphkoiiaaDoorParGenA
namespace Go.Proofs.YtfaflipphkoiiaaDoor.Pr
open Go.RowKit Mem
open Lx (Tok)
set_option linter.unusedVariables false

/-- As After, where the item's block may be written, too. -/
def After2 (E : Env) (b q : Nat) (s : St) (W w' : World) : Prop := PW E b s w' ∧ Fr (fun k => k = b ∨ k = q) W w'
theorem After2.start {E : Env} {b q : Nat} {s : St} {W : World} (h : PW E b s W) : After2 E b q s W W := ⟨h, Fr.refl _ _⟩
theorem After2.trans {E : Env} {b q : Nat} {s s' : St} {W W1 W2 : World} (h : After2 E b q s W W1) (h2 : After E b s' W1 W2) : After2 E b q s' W W2 := ⟨h2.1, h.2.trans (h2.2.mono fun _ _ e => .inl e)⟩
theorem After2.trans2 {E : Env} {b q : Nat} {s s' : St} {W W1 W2 : World} (h : After2 E b q s W W1) (h2 : After2 E b q s' W1 W2) : After2 E b q s' W W2 := ⟨h2.1, h.2.trans h2.2⟩
theorem After2.drewN {E : Env} {b q : Nat} {s : St} {W W1 : World} (h : After2 E b q s W W1) (n : Nat) : After2 E b q s W (W1.drewN n) := ⟨h.1.drewN n, h.2.drewN n⟩
theorem After2.alloc {E : Env} {b q : Nat} {s : St} {W W1 : World} (h : After2 E b q s W W1) (o : Obj) : After2 E b q s W (W1.alloc o) := ⟨h.1.alloc o, h.2.alloc o⟩
theorem After2.set {E : Env} {b q : Nat} {s : St} {W W1 : World} (h : After2 E b q s W W1) {i : Nat} (hb : b < q) (u : Value) : After2 E b q s W (W1.setCell ⟨q, i, none⟩ u) :=
  ⟨h.1.set hb u, h.2.setCell (p := ⟨q, i, none⟩) (.inl (.inr rfl)) u⟩
/-- What a method does to an item that the caller made. -/
theorem After.ptr {E : Env} {b q : Nat} {s s' : St} {W W1 W2 : World} (h : After E b s W W1) (h2 : After2 E b q s' W1 W2) (hq : W.heap.size ≤ q) : After E b s' W W2 :=
  ⟨h2.1, h.2.trans' h2.2 (fun i hi hT => by rcases hT with e | e <;> omega)⟩
end Go.Proofs.YtfaflipphkoiiaaDoor.Pr
