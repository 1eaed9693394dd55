/-
  on, of: a known event, a term.
-/
import Derived.Test.YticlmkfifpkdpaaDoorDlEvents
import Derived.Test.YticlmkfifpkdpaaDoorDlHeadPlain
namespace Go.Proofs.YticlmkfifpkdpaaDoor.Dl
open Go.RowKit Mem Vw
set_option linter.unusedVariables false
set_option linter.unusedSimpArgs false
set_option maxRecDepth 100000 in
theorem on_any (d m : Int) (W : World) : Calls Tryd.prog 51 #[.int .i64 d, .int .i64 m] W fun e w' => e = .returned (.agg #[.bool true, .int .i64 d, .int .i64 m]) ∧ Below W.heap.size W w' := by
  go_enter Tryd.func51, Tryd.ntmps51
  go_wp2_with fail
  exact bodyPost_ret (results_cell1 rfl rfl (run_loadVar_row (P := Tryd.prog) _ W.heap.size 67 67 _ (0, 0) _ (blk_newn rfl) Tryd.underlying67 rfl (by kernel_rfl))) rfl ⟨rfl, (Below.refl _ W).alloc (Nat.le_refl _) _⟩
set_option maxRecDepth 100000 in
theorem of_any (k n : Int) (b : Bool) (A : Option Addr) (ln cp : Nat) (W : World) : Calls Tryd.prog 31 #[.int .i64 k, .int .i64 n, .bool b, .slice A ln cp] W fun e w' => e = .returned (.agg #[.int .i64 k, .int .i64 n, .int .i64 0, .bool b, .slice A ln cp]) ∧ Below W.heap.size W w' := by
  go_enter Tryd.func31, Tryd.ntmps31
  go_wp2_with fail
  exact bodyPost_ret (results_cell1 rfl rfl (run_loadVar_row (P := Tryd.prog) _ W.heap.size 31 31 _ (0, 0) _ (blk_newn rfl) Tryd.underlying31 rfl (by kernel_rfl))) rfl ⟨rfl, (Below.refl _ W).alloc (Nat.le_refl _) _⟩
/-- A term without kids. -/
theorem tree_leaf (W : World) (k n e : Int) (b : Bool) (h1 : wf n) (h2 : wf e) : Tree W (.mk k n e b []) (.slice none 0 0) :=
  .mk [] rfl ⟨none, 0, rfl, ⟨Nat.le_refl _, by decide⟩, .inl rfl⟩ (fun x hx => by cases hx) (by show 0 ≤ _; decide) ⟨h1, h2⟩
theorem flat_at {z : Nat} : ∀ {xs : List (List Value)}, (∀ x ∈ xs, x.length = z) → ∀ (i : Nat) (x : List Value), xs[i]? = some x → ∀ (j : Nat) (v : Value), x[j]? = some v → xs.flatten[i * z + j]? = some v := by
  intro xs
  induction xs with
  | nil => intro _ i x h; cases i <;> cases h
  | cons y r ih =>
    intro hz i x hx j v hv
    have hy := hz y List.mem_cons_self
    rw [List.flatten_cons]
    cases i with
    | zero =>
      simp at hx; subst hx
      have hj := (List.getElem?_eq_some_iff.1 hv).1
      rw [Nat.zero_mul, Nat.zero_add, List.getElem?_append_left hj]
      exact hv
    | succ i =>
      have h1 := ih (fun x hx => hz x (List.mem_cons_of_mem _ hx)) i x (by simpa using hx) j v hv
      rw [List.getElem?_append_right (by rw [hy, Nat.succ_mul]; omega), hy, show (i + 1) * z + j - z = i * z + j by rw [Nat.succ_mul]; omega]
      exact h1
theorem row_blk {W : World} {g : Nat} {xs : List (List Value)} {z n cp : Nat} {T : TypeId} {cs : Array Value} (hb : W.heap[g]? = some (.cells cs T (0, 0))) (hcs : xs.flatten.toArray = cs) (hz : ∀ x ∈ xs, x.length = z) (hn : xs.length = n) (h1 : n ≤ cp) (h2 : cp ≤ 9223372036854775807) : Row W (.slice (some ⟨g, 0, none⟩) n cp) z xs := by
  subst hcs hn
  refine ⟨_, cp, rfl, ⟨h1, h2⟩, .inr ⟨g, 0, rfl, lt_of_blk hb, fun i x hx j v hv => ?_⟩⟩
  have h := (At.of_blk hb) (i * z + j) v (flat_at hz i x hx j v hv)
  rw [Nat.zero_add] at h ⊢
  exact h
/-- A term whose kids lie in a block. -/
theorem tree_blk {W : World} {g : Nat} (ks : List (Term × Value)) {k m e : Int} {b : Bool} {n cp : Nat} {T : TypeId} {cs : Array Value} (hb : W.heap[g]? = some (.cells cs T (0, 0))) (hcs : (ks.map tc).flatten.toArray = cs) (hn : ks.length = n) (h1 : n ≤ cp) (h2 : cp ≤ 9223372036854775807)
    (h : ∀ x ∈ ks, Tree W x.1 x.2) (w1 : wf m) (w2 : wf e) : Tree W (.mk k m e b (ks.map Prod.fst)) (.slice (some ⟨g, 0, none⟩) n cp) :=
  .mk ks rfl (row_blk hb hcs (fun x hx => by obtain ⟨y, _, rfl⟩ := List.mem_map.1 hx; rfl) (by rw [List.length_map]; exact hn) h1 h2) h (by show (ks.map Prod.fst).length ≤ _; rw [List.length_map]; omega) ⟨w1, w2⟩
theorem evs_blk {W : World} {g : Nat} (l : List When) {n cp : Nat} {T : TypeId} {cs : Array Value} (hb : W.heap[g]? = some (.cells cs T (0, 0))) (hcs : (l.map whenc).flatten.toArray = cs) (hn : l.length = n) (h1 : n ≤ cp) (h2 : cp ≤ 9223372036854775807)
    (h : ∀ w ∈ l, wf w.day ∧ wf w.min) : EvsAt W l (.slice (some ⟨g, 0, none⟩) n cp) :=
  ⟨row_blk hb hcs (fun x hx => by obtain ⟨y, _, rfl⟩ := List.mem_map.1 hx; rfl) (by rw [List.length_map]; exact hn) h1 h2, h⟩
theorem evs_nil (W : World) : EvsAt W [] (.slice none 0 0) := ⟨⟨none, 0, rfl, ⟨Nat.le_refl _, by decide⟩, .inl rfl⟩, fun x hx => by cases hx⟩
theorem cal0 (W : World) : CalAt W C0 (.slice none 0 0) := ⟨rfl, ⟨none, 0, rfl, ⟨Nat.le_refl _, by decide⟩, .inl rfl⟩, fun x hx => by cases hx⟩
/-- Event 0. -/
theorem tree_E (W : World) : Tree W E0 (.slice none 0 0) := tree_leaf W 2 0 0 false (by unfold wf; decide) (by unfold wf; decide)
end Go.Proofs.YticlmkfifpkdpaaDoor.Dl
