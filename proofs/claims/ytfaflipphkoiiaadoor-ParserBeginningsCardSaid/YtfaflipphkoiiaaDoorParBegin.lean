/-
  The text before an item has the tree with the items before it.
-/
import Derived.Test.YtfaflipphkoiiaaDoorParFirst
namespace Go.Proofs.YtfaflipphkoiiaaDoor.Pr
open Lx (Tok Toks)
set_option linter.unusedVariables false

theorem item_pos {s : St} (h : (item s).2.err = 0) : ∃ t vs, s.rest = t :: vs ∧ (item s).1.flat.pos = t.pos := by
  have h0 : (start allWords s).2.err = 0 := by
    unfold item bnd at h
    refine Built.ok (m := match (start allWords s).1 with | none => ret (⟨flat0, []⟩ : Item) | some kp => if kp.1 = 13 then bnd template fun x => ret (⟨{ x.flat with pos := kp.2 }, x.inner⟩ : Item) else bnd (body kp.1) fun f => ret (⟨{ f with pos := kp.2 }, []⟩ : Item)) ?_ h
    cases (start allWords s).1
    · exact Built.ret _
    · exact Built.ite (Built.bnd Built.template fun _ => Built.ret _) (Built.bnd (Built.body _) fun _ => Built.ret _)
  obtain ⟨t, r, k, hr, h1, hl, h6, he, hs⟩ := start_ok h0
  refine ⟨t, r, hr, ?_⟩
  unfold item bnd
  rw [hs]
  simp only
  by_cases hk : k = 13
  · rw [if_pos hk]; rfl
  · rw [if_neg hk]; rfl
/-- The items before one, out of the tokens before it. -/
theorem items_begin : ∀ (n : Nat) (s : St) (i : Nat) (hi : i < (itemsMore n s).1.length), (itemsMore n s).2.err = 0 → ∃ t vs, (t :: vs) <:+ s.rest ∧ ((itemsMore n s).1[i]).flat.pos = t.pos ∧
    ∀ s', Tail1 (t :: vs) s s' → (itemsMore n s').1 = (itemsMore n s).1.take i ∧ (itemsMore n s').2.err = 0 := by
  intro n
  induction n with
  | zero => intro s i hi h; exact absurd hi (by simp [itemsMore, ret])
  | succ n ih =>
    intro s i hi h
    have he : s.err = 0 := itemsMore_ok h
    by_cases hr : s.rest = []
    · rw [itemsMore_end _ _ (.inr hr)] at hi; exact absurd hi (by simp)
    have hS := itemsMore_succ n s he hr
    obtain ⟨X, hX⟩ : ∃ X, itemsMore (n + 1) s = X := ⟨_, rfl⟩
    rw [hX] at hS
    simp only [hX] at hi h ⊢
    subst hS
    simp only at hi h ⊢
    have h2 : (item s).2.err = 0 := itemsMore_ok h
    have hp := (item_prog s).2 h2
    cases i with
    | zero =>
      obtain ⟨t, vs, hrest, hpos⟩ := item_pos h2
      refine ⟨t, vs, by rw [hrest]; exact List.suffix_refl _, hpos, ?_⟩
      rintro s' ⟨r, k1, k2, k3, k4, k5⟩
      have hrn : r = [] := by
        rw [hrest] at k1
        have := congrArg List.length k1
        simp at this
        exact this
      subst hrn
      rw [itemsMore_end _ _ (.inr k2)]
      exact ⟨rfl, k4.trans he⟩
    | succ i =>
      simp only [List.length_cons] at hi
      obtain ⟨t, vs, hsu, hpos, hall⟩ := ih (item s).2 i (by omega) h
      refine ⟨t, vs, hsu.trans (Built.item.suf s), hpos, ?_⟩
      intro s' hs
      have hc := Built.item.cut s s' hs hsu.length_le
      have hs0 := hs
      obtain ⟨r, k1, k2, k3, k4, k5⟩ := hs0
      have he' : s'.err = 0 := k4.trans he
      have hr' : s'.rest ≠ [] := by
        rw [k2]
        intro hrn
        subst hrn
        have := hsu.length_le
        rw [k1] at hp
        simp only [List.nil_append] at hp
        omega
      rw [itemsMore_succ _ _ he' hr']
      rcases hc with ⟨e1, e2⟩ | ⟨e1, _, _⟩
      · obtain ⟨q1, q2⟩ := hall _ e2
        simp only
        rw [e1, q1]
        exact ⟨rfl, q2⟩
      · exact absurd h2 e1
/-- The tree of the text before an item. -/
theorem parse_begin {txt : Bytes} {src : Source} (hsz : txt.length ≤ 8000) (h : parse txt = .ok src) (i : Nat) (hi : i < src.items.length) :
    (src.items[i]).flat.pos ≤ txt.length ∧ parse (txt.take (src.items[i]).flat.pos) = .ok { src with items := src.items.take i } := by
  obtain ⟨ts, hl, hs, he⟩ := parse_inv h
  have hT := Lx.lex_toks hl
  have hlen := lex_len hl
  obtain ⟨H, hH⟩ : ∃ H, header ⟨ts, 0, 0⟩ = H := ⟨_, rfl⟩
  have hse := source_eq ⟨ts, 0, 0⟩
  rw [hH] at hse
  have hsu0 := Built.header.suf ⟨ts, 0, 0⟩
  rw [hH] at hsu0
  rw [hse] at hs he
  simp only at hs he
  subst hs
  simp only at hi ⊢
  obtain ⟨t, vs, hsu, hpos, hall⟩ := items_begin _ _ i hi he
  have hsu1 : (t :: vs) <:+ ts := hsu.trans hsu0
  obtain ⟨r, hts⟩ := hsu1
  rw [← hts] at hT
  have hat := toks_at hT t (by simp)
  rw [hpos]
  refine ⟨by omega, ?_⟩
  have hT2 := toks_cut hT
  rw [Nat.sub_zero] at hT2
  rw [← hts, List.length_append] at hlen
  have hl2 := Lx.toks_lex hT2 (by rw [List.length_take]; omega) (by omega)
  have hc := Built.header.cut (t := t) (vs := vs) ⟨ts, 0, 0⟩ ⟨r, 0, 0⟩ ⟨r, hts.symm, rfl, rfl, rfl, fun h => absurd rfl h⟩ (by rw [hH]; exact hsu.length_le)
  rw [hH] at hc
  have hHe : H.2.err = 0 := itemsMore_ok he
  obtain ⟨H', hH'⟩ : ∃ H', header ⟨r, 0, 0⟩ = H' := ⟨_, rfl⟩
  rw [hH'] at hc
  rcases hc with ⟨e1, e2⟩ | ⟨e1, _, _⟩
  · have hse2 := source_eq ⟨r, 0, 0⟩
    rw [hH'] at hse2
    have hle : H'.2.rest.length ≤ H.2.rest.length := by
      obtain ⟨q, k1, k2, _⟩ := e2
      rw [k1, k2, List.length_append]; omega
    obtain ⟨q1, q2⟩ := hall _ e2
    have hfu := items_fueled (H'.2.rest.length + 1) (H.2.rest.length + 1) H'.2 (by omega) (by omega)
    rw [hfu, e1] at hse2
    unfold parse
    rw [hl2]
    simp only
    rw [hse2]
    simp only
    rw [if_pos q2, q1]
  · exact absurd hHe e1
end Go.Proofs.YtfaflipphkoiiaaDoor.Pr
