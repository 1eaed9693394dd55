/-
  Package include in plain words: the inner items of what is expanded are those of the source.
-/
import Derived.Test.YticakdajhmfpoaaIncLaws
namespace Go.Proofs.Yticakdajhmfpoaa.Ic
open Rs
set_option linter.unusedVariables false
set_option linter.unusedSimpArgs false

def InvL (P : List Tree → Prop) (s : St) : Prop := ∀ x ∈ s.out, P x.l
theorem InvL.add {P : List Tree → Prop} {s : St} (h : InvL P s) {x : Tree} (hx : P x.l) (c : Nat) : InvL P ⟨c, s.out ++ [x]⟩ := fun y hy => by
  rcases List.mem_append.1 hy with hy | hy
  · exact h y hy
  · simp only [List.mem_cons, List.not_mem_nil, or_false] at hy; subst hy; exact hx
theorem clause_invL {P : List Tree → Prop} {E : Env} {c : Tree} {s : St} (hc : P c.l) (h : InvL P s) : InvL P (clause E c s).2 := by
  unfold clause
  split
  · exact h
  · split
    · exact h
    · exact InvL.add h (x := .node _ c.l) hc _
theorem included_invL {P : List Tree → Prop} {E : Env} {c : Tree} {p : Int} {s : St} (hc : P c.l) (h : InvL P s) : InvL P (included E c p s).2 := by
  unfold included
  split
  · exact h
  · exact clause_invL (c := .node { c.h with pos := p } c.l) hc h
theorem inst_l (t : Tree) (x : Item) (y : Tree) : (inst t x y).l = y.l := by
  unfold inst
  split <;> rfl
theorem incl_invL {P : List Tree → Prop} {E : Env} (hE : ∀ n t, E.tmpl n = some t → ∀ y ∈ t.l, P y.l) {p : Int} : ∀ (n : Nat) (op : List Bytes) (x : Item) (s : St), InvL P s → InvL P (incl E p n op x s).2
  | 0, op, x, s, h => h
  | n + 1, op, x, s, h => by
    unfold incl
    split
    · exact h
    · split
      · exact h
      · next t ht =>
        split
        · exact h
        · split
          · exact h
          · split
            · exact h
            · refine each_inv (InvL P) _ _ h fun y hy s hs => ?_
              split
              · exact included_invL (by rw [inst_l]; exact hE _ _ ht y hy) hs
              · split
                · exact incl_invL hE n _ _ s hs
                · exact hs
theorem examine_invL {P : List Tree → Prop} {E : Env} (hE : ∀ n t, E.tmpl n = some t → ∀ y ∈ t.l, P y.l) {seen : List Tree} {x : Tree} (hx : P x.l) {s : St} (h : InvL P s) : InvL P (examine E seen x s).2 := by
  unfold examine
  split
  · split <;> exact h
  · split
    · exact incl_invL hE _ _ _ s h
    · split
      · exact clause_invL hx h
      · split
        · exact h
        · exact h.add hx _
theorem okRun_invL {P : List Tree → Prop} {E : Env} (hE : ∀ n t, E.tmpl n = some t → ∀ y ∈ t.l, P y.l) : ∀ (l seen : List Tree) (s s' : St), (∀ x ∈ l, P x.l) → okRun E seen l s = some s' → InvL P s → InvL P s'
  | [], seen, s, s', _, h, h1 => by injection h with h; subst h; exact h1
  | x :: l, seen, s, s', hl, h, h1 => by
    unfold okRun at h
    split at h
    · exact okRun_invL hE l _ _ s' (fun y hy => hl y (List.mem_cons_of_mem _ hy)) h (examine_invL hE (hl x (List.mem_cons_self ..)) h1)
    · cases h
theorem expand_inner {P : List Tree → Prop} {s : Src} (h1 : ∀ z ∈ s.items, P z.l) (h2 : ∀ z ∈ s.items, ∀ y ∈ z.l, P y.l) (h : (expand s).2 = []) : ∀ x ∈ (expand s).1.items, P x.l := by
  obtain ⟨_, s', k1, k2⟩ := expand_yes h
  rw [k2]
  refine okRun_invL (fun n t ht => ?_) _ _ _ _ h1 k1 (fun x hx => absurd hx List.not_mem_nil)
  exact h2 t (List.mem_of_find?_eq_some ht)
theorem sizes_mem {x : Tree} : ∀ {l : List Tree}, x ∈ l → sizes x.l ≤ sizes l
  | y :: l, h => by
    rw [sizes_cons]
    rcases List.mem_cons.1 h with rfl | h
    · omega
    · have := sizes_mem h; omega
theorem sizes_le {N : Nat} : ∀ {l : List Tree}, (∀ x ∈ l, sizes x.l ≤ N) → sizes l ≤ l.length * (N + 1)
  | [], _ => by rw [sizes]; exact Nat.zero_le _
  | x :: l, h => by
    rw [sizes_cons, List.length_cons, Nat.add_mul]
    have h1 := h x (List.mem_cons_self ..)
    have h2 := sizes_le (fun y hy => h y (List.mem_cons_of_mem _ hy))
    omega
/-- What is expanded is not great. -/
theorem expand_size {s : Src} (h : (expand s).2 = []) : sizes (expand s).1.items ≤ 360600 := by
  have h0 := (expand_yes h).1
  have h1 := (law_plain h).2.2.2.2.1
  have h2 := sizes_le (expand_inner (P := fun L => sizes L ≤ 600) (s := s) (fun z hz => Nat.le_trans (sizes_mem hz) h0) (fun z hz y hy => Nat.le_trans (sizes_mem hy) (Nat.le_trans (sizes_mem hz) h0)) h)
  have h3 : (expand s).1.items.length * 601 ≤ 600 * 601 := Nat.mul_le_mul_right _ h1
  omega
end Go.Proofs.Yticakdajhmfpoaa.Ic
