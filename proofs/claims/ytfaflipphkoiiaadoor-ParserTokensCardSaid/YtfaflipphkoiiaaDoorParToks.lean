/-
  The texts of a text's tokens, separated by blanks, have the same tree apart from offsets, or the same error at the same token.
-/
import Derived.Test.YtfaflipphkoiiaaDoorParLike
namespace Go.Proofs.YtfaflipphkoiiaaDoor.Pr
open Lx (Tok Toks skip skip_length gapLen gapLen_le gapLen_blank gapLen_other tok_len tokOf tokOf_take tokOf_app ends32 skip_ne skip_head toks_congr)
set_option linter.unusedVariables false

def textOf (sep : List UInt8) (ts : List Tok) : List UInt8 := ts.flatMap fun t => t.text ++ sep
/-- Tokens laid one after the other with one blank after each. -/
def place : Nat → List Tok → List Tok
  | _, [] => []
  | p, t :: ts => { t with pos := p } :: place (p + t.text.length + 1) ts
theorem place_keys (p : Nat) (ts : List Tok) : (place p ts).map key = ts.map key := by
  induction ts generalizing p with
  | nil => rfl
  | cons t ts ih => simp only [place, List.map_cons, ih]; rfl
theorem place_length (p : Nat) (ts : List Tok) : (place p ts).length = ts.length := by
  have := congrArg List.length (place_keys p ts); simpa using this
/-- The first byte of a token is no gap. -/
theorem tok_first {l : List UInt8} {k len v : Nat} (h : tokOf (skip l) = .ok (k, len, v)) (r : List UInt8) : gapLen false ((skip l).take len ++ r) = 0 := by
  have hl := tok_len h
  cases hs : skip l with
  | nil => exact absurd hs (skip_ne h)
  | cons c z =>
    obtain ⟨h1, h2, h3, h4⟩ := skip_head false l c z hs
    obtain ⟨n, rfl⟩ : ∃ n, len = n + 1 := ⟨len - 1, by omega⟩
    rw [List.take_succ_cons, List.cons_append]
    exact gapLen_other _ _ h1 h2 h3 h4
theorem toks_flat {ts : List Tok} {l : List UInt8} {p : Nat} (h : Toks ts l p) : ∀ q, Toks (place q ts) (textOf [32] ts) q := by
  induction ts generalizing l p with
  | nil => intro q; rfl
  | cons t ts ih =>
    obtain ⟨h1, h2, h3, h4⟩ := h
    intro q
    have hl := tok_len h1
    have e : textOf [32] (t :: ts) = t.text ++ 32 :: textOf [32] ts := by simp [textOf]
    have hg : gapLen false (t.text ++ 32 :: textOf [32] ts) = 0 := by
      have := tok_first h1 (32 :: textOf [32] ts); rwa [← h2] at this
    have hk : skip (t.text ++ 32 :: textOf [32] ts) = t.text ++ 32 :: textOf [32] ts := by unfold skip; rw [hg, List.drop_zero]
    have hne : t.text ≠ [] := by intro h0; rw [h0] at hl; simp at hl
    have ht : tokOf t.text = .ok (t.kind, t.text.length, t.n) := by
      have := tokOf_take h1 (Nat.le_refl _); rwa [← h2] at this
    rw [e]
    simp only [place, Toks, hk, hg]
    refine ⟨by rw [tokOf_app _ _ _ ends32 hne]; exact ht, by rw [List.take_left], by omega, ?_⟩
    rw [List.drop_left]
    have hb : gapLen false (32 :: textOf [32] ts) = gapLen false (textOf [32] ts) + 1 := gapLen_blank _ _ (.inl rfl)
    refine toks_congr ?_ ?_ (ih h4 (q + t.text.length + 1))
    · unfold skip; rw [hb, List.drop_succ_cons]
    · rw [hb]; omega
theorem toks_sum {ts : List Tok} {l : List UInt8} {p : Nat} (h : Toks ts l p) : (textOf [32] ts).length ≤ 2 * l.length := by
  induction ts generalizing l p with
  | nil => simp [textOf]
  | cons t ts ih =>
    obtain ⟨h1, h2, h3, h4⟩ := h
    have hl := tok_len h1
    have hs := skip_length l
    have := ih h4
    rw [List.length_drop] at this
    have e : textOf [32] (t :: ts) = t.text ++ 32 :: textOf [32] ts := by simp [textOf]
    rw [e, List.length_append, List.length_cons]
    omega

theorem place_pos (ts : List Tok) : ∀ p n (h : n < (place p ts).length), (place p ts)[n].pos = p + (textOf [32] (ts.take n)).length := by
  induction ts with
  | nil => intro p n h; simp [place] at h
  | cons t ts ih =>
    intro p n h
    cases n with
    | zero => simp [place, textOf]
    | succ n =>
      have := ih (p + t.text.length + 1) n (by simpa [place] using h)
      simp only [place, List.getElem_cons_succ, List.take_succ_cons]
      rw [this]
      have e : textOf [32] (t :: ts.take n) = t.text ++ 32 :: textOf [32] (ts.take n) := by simp [textOf]
      rw [e, List.length_append, List.length_cons]
      omega

/-- An error that is not at the end stands at a token. -/
theorem fail_seven {s : St} (h0 : s.err = 0) : (Pr.fail s).2.err = 7 ∨ (Pr.fail s).2.rest ≠ [] := by
  unfold Pr.fail
  simp only [h0, ne_eq, not_true_eq_false, if_false]
  cases hr : s.rest with
  | nil => left; rfl
  | cons t r => right; simp
theorem Built.seven {α : Type} {m : M α} (h : Built m) : ∀ s, s.err = 0 → (m s).2.err = 0 ∨ (m s).2.err = 7 ∨ (m s).2.rest ≠ [] := by
  induction h with
  | ret a => intro s h0; exact .inl h0
  | @bnd α β m f h hf ih ihf =>
    intro s h0
    show (f (m s).1 (m s).2).2.err = 0 ∨ (f (m s).1 (m s).2).2.err = 7 ∨ (f (m s).1 (m s).2).2.rest ≠ []
    by_cases he : (m s).2.err = 0
    · exact ihf _ _ he
    · rw [(hf _).stk _ he]
      exact ih s h0
  | fail => intro s h0; exact .inr (fail_seven h0)
  | acc x => intro s h0; left; unfold Pr.acc; split <;> exact h0
  | opt k => intro s h0; left; unfold Pr.opt; split <;> exact h0
  | good => intro s h0; exact .inl h0
  | long hf h ih => intro s h0; exact ih _ s h0
  | start ws =>
    intro s h0
    unfold Pr.start
    split
    · rename_i hk
      cases hr : s.rest with
      | nil => simp [isK, hr] at hk
      | cons t r =>
        simp only
        cases hl : ws.lookup t.text with
        | none => exact .inr (fail_seven h0)
        | some k =>
          simp only
          split
          · right; right; simp
          · left; rfl
    · exact .inr (fail_seven h0)
theorem items_seven : ∀ n (s : St), s.err = 0 → (itemsMore n s).2.err = 0 ∨ (itemsMore n s).2.err = 7 ∨ (itemsMore n s).2.rest ≠ [] := by
  intro n
  induction n with
  | zero => intro s h0; exact .inl h0
  | succ n ih =>
    intro s h0
    by_cases he : s.err ≠ 0 ∨ s.rest = []
    · rw [itemsMore_end _ _ he]; exact .inl h0
    · have he2 : s.rest ≠ [] := fun h0 => he (.inr h0)
      rw [itemsMore_succ _ _ h0 he2]
      simp only
      by_cases he3 : (item s).2.err = 0
      · exact ih _ he3
      · rw [itemsMore_end _ _ (.inl he3)]
        exact Built.item.seven s h0
theorem source_seven (ts : List Tok) : (source ⟨ts, 0, 0⟩).2.err = 0 ∨ (source ⟨ts, 0, 0⟩).2.err = 7 ∨ (source ⟨ts, 0, 0⟩).2.rest ≠ [] := by
  rw [source_st]
  have h := Built.header.seven ⟨ts, 0, 0⟩ rfl
  generalize (header ⟨ts, 0, 0⟩).2 = u at *
  by_cases he : u.err = 0
  · exact items_seven _ _ he
  · rw [itemsMore_end _ _ (.inl he)]; exact h
theorem source_suf (ts : List Tok) : (source ⟨ts, 0, 0⟩).2.rest <:+ ts := by
  rw [source_st]
  exact (items_suf _ _).trans (Built.header.suf ⟨ts, 0, 0⟩)

/-- The tree that Parse returns. -/
def src0 : Source := ⟨[], ⟨0, 0, 0⟩, 0, []⟩
def ptree (x : Bytes) : Source := match parse x with | .error _ => src0 | .ok t => t
theorem ptree_ok {x : Bytes} {ts : List Tok} (h : Lx.lex x = .ok ts) : ptree x = if (source ⟨ts, 0, 0⟩).2.err = 0 then (source ⟨ts, 0, 0⟩).1 else src0 := by
  unfold ptree parse
  rw [h]
  obtain ⟨X, hX⟩ : ∃ X, source ⟨ts, 0, 0⟩ = X := ⟨_, rfl⟩
  simp only
  rw [hX]
  by_cases he : X.2.err = 0
  · rw [if_pos he, if_pos he]
  · rw [if_neg he, if_neg he]
theorem EqS.refl (a : Source) : EqS a a := ⟨rfl, rfl, rfl, All2.refl (EqI.refl _) _⟩
/-- What the statement asks of a text with tokens. -/
theorem tokens_plain {txt : Bytes} {ts : List Tok} (hsz : txt.length ≤ 3000) (h : Lx.lex txt = .ok ts) :
    (textOf [32] ts).length ≤ 6000 ∧ perr (textOf [32] ts) = perr txt ∧ EqS (ptree txt) (ptree (textOf [32] ts)) ∧
    ((perr txt = 0 ∧ ppos txt = 0 ∧ ppos (textOf [32] ts) = 0) ∨ (perr txt = 7 ∧ ppos txt = (txt.length : Int) ∧ ppos (textOf [32] ts) = ((textOf [32] ts).length : Int)) ∨
      (perr txt ≠ 0 ∧ perr txt ≠ 7 ∧ ∃ n, ∃ hn : n < ts.length, ppos txt = (ts[n].pos : Int) ∧ ppos (textOf [32] ts) = ((textOf [32] (ts.take n)).length : Int) ∧ ∀ j (hj : j < ts.length), j < n → ts[j].pos ≠ ts[n].pos)) := by
  have hT := Lx.lex_toks h
  have hlen := lex_len h
  have hsum := toks_sum hT
  have hT2 := toks_flat hT 0
  have hl2 := Lx.toks_lex hT2 (by omega) (by rw [place_length]; omega)
  obtain ⟨p1, p2⟩ := perr_ok h
  obtain ⟨q1, q2⟩ := perr_ok hl2
  obtain ⟨e1, e2⟩ := source_like ts (place 0 ts) (place_keys 0 ts)
  have t1 := ptree_ok h
  have t2 := ptree_ok hl2
  have h7 := source_seven ts
  have hs1 := source_suf ts
  have hs2 := source_suf (place 0 ts)
  generalize source ⟨ts, 0, 0⟩ = X at *
  generalize source ⟨place 0 ts, 0, 0⟩ = Y at *
  have he : Y.2.err = X.2.err := e2.2.2
  refine ⟨by omega, by rw [q1, p1, he], ?_, ?_⟩
  · rw [t1, t2, he]
    split
    · exact e1
    · exact EqS.refl _
  · rw [p1, p2, q2]
    by_cases h0 : X.2.err = 0
    · left
      unfold atOf
      rw [he, h0]
      exact ⟨rfl, rfl, rfl⟩
    · right
      by_cases h77 : X.2.err = 7
      · left
        unfold atOf
        rw [he, h77]
        exact ⟨rfl, rfl, rfl⟩
      · right
        have hne : X.2.rest ≠ [] := (h7.resolve_left h0).resolve_left h77
        obtain ⟨r, hr⟩ := hs1
        obtain ⟨r', hr'⟩ := hs2
        have hxl := e2.len
        have hlr : r'.length = r.length := by
          have a1 := congrArg List.length hr
          have a2 := congrArg List.length hr'
          rw [List.length_append] at a1 a2
          rw [place_length] at a2
          omega
        cases hX : X.2.rest with
        | nil => exact absurd hX hne
        | cons t vs =>
          cases hY : Y.2.rest with
          | nil => rw [hX, hY] at hxl; simp at hxl
          | cons t' vs' =>
            rw [hX] at hr
            rw [hY] at hr'
            have hn : r.length < ts.length := by rw [← hr]; simp
            have hn' : r.length < (place 0 ts).length := by rw [place_length]; exact hn
            have g1 : ts[r.length] = t := by
              have : ts[r.length]? = some t := by rw [← hr]; simp
              rw [List.getElem?_eq_getElem hn] at this
              exact Option.some.inj this
            have g2 : (place 0 ts)[r.length] = t' := by
              have : (place 0 ts)[r.length]? = some t' := by rw [← hr', ← hlr]; simp
              rw [List.getElem?_eq_getElem hn'] at this
              exact Option.some.inj this
            have hpp := place_pos ts 0 r.length hn'
            rw [g2, Nat.zero_add] at hpp
            refine ⟨by omega, by omega, r.length, hn, ?_, ?_, ?_⟩
            · unfold atOf
              rw [if_neg h0, if_neg h77, hX, g1]
            · unfold atOf
              rw [he, if_neg h0, if_neg h77, hY]
              simp only
              rw [hpp]
            · intro j hj hjn
              rw [← hr] at hT
              have hap := (toks_apart hT).1
              rw [g1]
              have hm : ts[j] ∈ r := by
                have : ts[j]? = r[j]? := by rw [← hr, List.getElem?_append_left hjn]
                rw [List.getElem?_eq_getElem hj, List.getElem?_eq_getElem hjn] at this
                rw [Option.some.inj this]
                exact List.getElem_mem _
              have := hap _ hm
              omega
end Go.Proofs.YtfaflipphkoiiaaDoor.Pr
