/-
  Several rows that a call owns, each in a block of its own; appends to one of them.
-/
import Derived.Test.YticakdajhmfpoaaMem
import Derived.Deep.AppendLies
import Derived.Laws.Rows
import Derived.Deep.MidRow
namespace Go.Proofs.Yticakdajhmfpoaa.Mem
open Go.RowKit
set_option linter.unusedVariables false

/-- An owned row: its elements' type and size, its slice, how many, its cells. -/
structure OR where
  e : TypeId
  size : Nat
  v : Value
  n : Nat
  xs : List Value
def OR.ok (base : Nat) (W : World) (r : OR) : Prop := W.ownsRow base r.e r.size r.v r.n r.xs
def OR.apart (a b : OR) : Prop := ∀ g, a.v.ownBlock = some g → b.v.ownBlock ≠ some g
theorem OR.apart.symm {a b : OR} (h : OR.apart a b) : OR.apart b a := fun g hb ha => h g ha hb
/-- All rows are owned; no two share a block. -/
structure ORs (base : Nat) (W : World) (l : List OR) : Prop where
  ok : ∀ r ∈ l, r.ok base W
  ap : l.Pairwise OR.apart
theorem ORs.fr {S : Nat → Prop} {base : Nat} {W W' : World} {l : List OR} (h : ORs base W l) (hf : Fr S W W') (hS : ∀ k, base ≤ k → k < W.heap.size → ¬ S k) : ORs base W' l :=
  ⟨fun r hr => own_fr (h.ok r hr) hf hS, h.ap⟩
theorem ORs.lt {base : Nat} {W : World} {l : List OR} (h : ORs base W l) {r : OR} (hr : r ∈ l) {g : Nat} (hg : r.v.ownBlock = some g) : base ≤ g ∧ g < W.heap.size := own_lt (h.ok r hr) g hg
/-- A row stays while another one grows. -/
theorem own_grown {w w1 : World} {base : Nat} {e : TypeId} {size : Nat} {v : Value} {n : Nat} {xs : List Value} {row : Option Nat} (h : w.ownsRow base e size v n xs) (hg : w.grownBy w1 row) (hne : ∀ g, v.ownBlock = some g → row ≠ some g) : w1.ownsRow base e size v n xs := by
  refine ⟨h.1, ?_⟩
  rcases h.2 with h2 | ⟨g, cap, cur, hv, hb, hh, r⟩
  · exact .inl h2
  · exact .inr ⟨g, cap, cur, hv, hb, (hg.block g (lt_of_blk hh) (fun e => hne g (by rw [hv]; rfl) e.symm)).trans hh, r⟩
theorem pairwise_set {α : Type} {R : α → α → Prop} (hs : ∀ a b, R a b → R b a) : ∀ {l : List α} {k : Nat} {b : α}, l.Pairwise R → (∀ j a, l[j]? = some a → j ≠ k → R b a) → (l.set k b).Pairwise R
  | [], k, b, h, hb => by simp
  | x :: l, 0, b, h, hb => by
    rw [List.set_cons_zero, List.pairwise_cons]
    rw [List.pairwise_cons] at h
    refine ⟨fun a ha => ?_, h.2⟩
    obtain ⟨j, hj⟩ := List.mem_iff_getElem?.1 ha
    exact hb (j + 1) a (by simpa using hj) (by omega)
  | x :: l, k + 1, b, h, hb => by
    rw [List.set_cons_succ, List.pairwise_cons]
    rw [List.pairwise_cons] at h
    refine ⟨fun a ha => ?_, pairwise_set hs h.2 (fun j a hj hne => hb (j + 1) a (by simpa using hj) (by omega))⟩
    obtain ⟨j, hj⟩ := List.mem_iff_getElem?.1 ha
    rw [List.getElem?_set] at hj
    split at hj
    · rename_i hkj
      split at hj
      · injection hj with hj; subst hj
        exact hs _ _ (hb 0 x rfl (by omega))
      · cases hj
    · exact h.1 a (List.mem_of_getElem? hj)
/-- One of the rows has been appended to. -/
theorem ORs.app {base : Nat} {W W' : World} {l : List OR} (h : ORs base W l) {k : Nat} {r r' : OR} (hk : l[k]? = some r) (hg : W.grownBy W' r.v.ownBlock) (hr' : r'.ok base W') (hb : ∀ g, r'.v.ownBlock = some g → r.v.ownBlock = some g ∨ W.heap.size ≤ g) : ORs base W' (l.set k r') := by
  have hpw := h.ap
  have hap : ∀ j a, l[j]? = some a → j ≠ k → OR.apart r a := by
    intro j a hj hne
    rcases Nat.lt_or_gt_of_ne hne with hlt | hgt
    · have := (List.pairwise_iff_getElem.1 hpw) j k (List.getElem?_eq_some_iff.1 hj).1 (List.getElem?_eq_some_iff.1 hk).1 hlt
      rw [(List.getElem?_eq_some_iff.1 hj).2, (List.getElem?_eq_some_iff.1 hk).2] at this
      exact this.symm
    · have := (List.pairwise_iff_getElem.1 hpw) k j (List.getElem?_eq_some_iff.1 hk).1 (List.getElem?_eq_some_iff.1 hj).1 hgt
      rw [(List.getElem?_eq_some_iff.1 hj).2, (List.getElem?_eq_some_iff.1 hk).2] at this
      exact this
  refine ⟨fun a ha => ?_, pairwise_set (fun a b => OR.apart.symm) hpw (fun j a hj hne g h1 h2 => ?_)⟩
  · obtain ⟨j, hj⟩ := List.mem_iff_getElem?.1 ha
    rw [List.getElem?_set] at hj
    split at hj
    · split at hj
      · injection hj with hj; subst hj; exact hr'
      · cases hj
    · rename_i hne
      exact own_grown (h.ok a (List.mem_of_getElem? hj)) hg (fun g hg hr => hap j a hj (fun e => hne e.symm) g hr hg)
  · rcases hb g h1 with h3 | h3
    · exact hap j a hj hne g h3 h2
    · have := (h.lt (List.mem_of_getElem? hj) h2).2
      omega
/-- One more row, in a block that is new. -/
theorem ORs.snoc {base B : Nat} {W W' : World} {l : List OR} (h : ORs base W l) (h' : ORs base W' l) {r : OR} (hr : r.ok B W') (hB : W.heap.size ≤ B) (hb : base ≤ B) : ORs base W' (l ++ [r]) := by
  refine ⟨fun a ha => ?_, ?_⟩
  · rcases List.mem_append.1 ha with ha | ha
    · exact h'.ok a ha
    · simp only [List.mem_cons, List.not_mem_nil, or_false] at ha
      subst ha
      exact own_base hr hb
  · rw [List.pairwise_append]
    refine ⟨h'.ap, by simp, fun a ha b hb' g h1 h2 => ?_⟩
    simp only [List.mem_cons, List.not_mem_nil, or_false] at hb'
    subst hb'
    have h3 := (h.lt ha h1).2
    have h4 := (own_lt hr g h2).1
    omega
/-- What is not one of the rows' blocks stays. -/
theorem Fr.of_grown {A B : World} {row : Option Nat} (hg : A.grownBy B row) : Fr (fun k => row = some k) A B := (Fr.refl _ A).grown hg (fun k hk => .inl hk)
theorem run_load_row {P : Program} {o : Oper} {a : Act} {w : World} (ty : TypeId) (x : Operand) (ho : o.op = .load ty x) (g : Nat) (hx : a.eval x = .pointer (some ⟨g, 0, none⟩)) (t : TypeId) (cs : Array Value) (d : TypeDesc) (hg : w.heap[g]? = some (.cells cs t (0, 0)))
    (hu : P.underlying ty = some d) (hd : d.isRow = true) (hi : (P.info? ty).map (·.size) = some cs.size) : (execOp a.eval o).run P w = .ok (.value (.agg cs)) w := by
  have hl := run_loadVar_row (P := P) w g t ty cs (0, 0) d hg hu (by cases d <;> first | rfl | exact hd) hi
  unfold execOp
  simp only [ho, hx, Instr.loadAt, Instr.sureAddr, Sem.run_bind, Sem.run_pure, Result.andThen_ok, hl]
end Go.Proofs.Yticakdajhmfpoaa.Mem
