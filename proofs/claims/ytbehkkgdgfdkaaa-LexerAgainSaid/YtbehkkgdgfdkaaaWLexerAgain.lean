/-
  The walk of the statement LexerAgain: it returns true for every text.
-/
import Derived.Test.YtbehkkgdgfdkaaaLexRefH
namespace Go.Proofs.Ytbehkkgdgfdkaaa
open Go.RowKit Lx
set_option linter.unusedVariables false

/-- Tokens laid one after the other with one blank after each. -/
def place : Nat → List Tok → List Tok
  | _, [] => []
  | p, t :: ts => { t with pos := p } :: place (p + t.text.length + 1) ts
theorem place_keys (p : Nat) (ts : List Tok) : (place p ts).map key = ts.map key := by
  induction ts generalizing p with
  | nil => rfl
  | cons t ts ih => simp only [place, List.map_cons, ih]; rfl
theorem place_length (p : Nat) (ts : List Tok) : (place p ts).length = ts.length := by
  have := congrArg List.length (place_keys p ts); simpa using this
/-- The first byte of a token is no gap. -/
theorem tok_first {l : List UInt8} {k len v : Nat} (h : tokOf (skip l) = .ok (k, len, v)) (r : List UInt8) : gapLen false ((skip l).take len ++ r) = 0 := by
  have hl := tok_len h
  cases hs : skip l with
  | nil => exact absurd hs (skip_ne h)
  | cons c z =>
    obtain ⟨h1, h2, h3, h4⟩ := skip_head false l c z hs
    obtain ⟨n, rfl⟩ : ∃ n, len = n + 1 := ⟨len - 1, by omega⟩
    rw [List.take_succ_cons, List.cons_append]
    exact gapLen_other _ _ h1 h2 h3 h4
theorem toks_flat {ts : List Tok} {l : List UInt8} {p : Nat} (h : Toks ts l p) : ∀ q, Toks (place q ts) (textOf [32] ts) q := by
  induction ts generalizing l p with
  | nil => intro q; rfl
  | cons t ts ih =>
    obtain ⟨h1, h2, h3, h4⟩ := h
    intro q
    have hl := tok_len h1
    have e : textOf [32] (t :: ts) = t.text ++ 32 :: textOf [32] ts := by simp [textOf]
    have hg : gapLen false (t.text ++ 32 :: textOf [32] ts) = 0 := by
      have := tok_first h1 (32 :: textOf [32] ts); rwa [← h2] at this
    have hk : skip (t.text ++ 32 :: textOf [32] ts) = t.text ++ 32 :: textOf [32] ts := by unfold skip; rw [hg, List.drop_zero]
    have hne : t.text ≠ [] := by intro h0; rw [h0] at hl; simp at hl
    have ht : tokOf t.text = .ok (t.kind, t.text.length, t.n) := by
      have := tokOf_take h1 (Nat.le_refl _); rwa [← h2] at this
    rw [e]
    simp only [place, Toks, hk, hg]
    refine ⟨by rw [tokOf_app _ _ _ ends32 hne]; exact ht, by rw [List.take_left], by omega, ?_⟩
    rw [List.drop_left]
    have hb : gapLen false (32 :: textOf [32] ts) = gapLen false (textOf [32] ts) + 1 := gapLen_blank _ _ (.inl rfl)
    refine toks_congr ?_ ?_ (ih h4 (q + t.text.length + 1))
    · unfold skip; rw [hb, List.drop_succ_cons]
    · rw [hb]; omega
theorem toks_sum {ts : List Tok} {l : List UInt8} {p : Nat} (h : Toks ts l p) : (textOf [32] ts).length ≤ 2 * l.length := by
  induction ts generalizing l p with
  | nil => simp [textOf]
  | cons t ts ih =>
    obtain ⟨h1, h2, h3, h4⟩ := h
    have hl := tok_len h1
    have hs := skip_length l
    have := ih h4
    rw [List.length_drop] at this
    have e : textOf [32] (t :: ts) = t.text ++ 32 :: textOf [32] ts := by simp [textOf]
    rw [e, List.length_append, List.length_cons]
    omega

set_option maxRecDepth 100000 in
set_option maxHeartbeats 2000000 in
theorem walk_LexerAgain (s : ByteArray) (hs : s.size ≤ maxLen) (w : World) :
    Calls Try.prog 5 #[.string s] w fun e w' => e = .returned (.bool true) ∧ Below w.heap.size w w' := by
  unfold maxLen at hs
  by_cases h3 : 3000 < s.size
  · go_enter Try.func5, Try.ntmps5
    go_wp2_with fail
    refine (head_any _).mono ?_
    rintro e w1 ⟨rfl, hb1⟩
    have HB1 := Lib.hid hb1; clear hb1
    go_wp2_with fail
    go_ret
    exact ⟨rfl, HB1.out⟩
  · cases hl : lex (bs s) with
    | error x =>
      obtain ⟨er, p⟩ := x
      have be : ((er : Int) != 0) = true := by
        obtain ⟨ts, r, rfl, he⟩ := lex_errs hl (by rw [bs_length]; omega)
        have := errs_len he
        rw [bne_iff_ne]; omega
      have HL := Lib.hid hl; clear hl
      go_enter Try.func5, Try.ntmps5
      go_wp2_with fail
      refine (head_any _).mono ?_
      rintro e w1 ⟨rfl, hb1⟩
      have HB1 := Lib.hid hb1; clear hb1
      go_wp2_with fail
      refine (lex_no s _ (by omega) er p HL.out).mono ?_
      rintro e w2 ⟨rfl, hb2⟩
      have HB2 := Lib.hid (HB1.out.trans (hb2.mono HB1.out.size)); clear hb2 HB1
      go_wp2_with fail
      go_ret
      exact ⟨rfl, HB2.out⟩
    | ok ts =>
      have ht := lex_toks hl
      have hlen := toks_len ht
      have hsum := toks_sum ht
      rw [bs_length] at hlen hsum
      have HF := Lib.hid (toks_flat ht 0)
      have HSUM := Lib.hid hsum
      have HL := Lib.hid hl; clear hl ht hsum
      go_enter Try.func5, Try.ntmps5
      go_wp2_with fail
      refine (head_any _).mono ?_
      rintro e w1 ⟨rfl, hb1⟩
      have HB1 := Lib.hid hb1; clear hb1
      go_wp2_with fail
      refine (lex_ok s _ (by omega) ts HL.out).mono ?_
      rintro e w2 ⟨⟨A, cap, rfl, ho⟩, hb2⟩
      have HB2 := Lib.hid (HB1.out.trans (hb2.mono HB1.out.size)); clear hb2 HB1
      have HT := Lib.hid (tokRow_of_own ho); clear ho
      go_wp2_with fail
      refine (text_any ts A cap ⟨#[32]⟩ _ (by omega) (by have := HSUM.out; show (textOf [32] ts).length ≤ _; omega) HT.out).mono ?_
      rintro e w3 ⟨⟨x, rfl, hx⟩, rfl⟩
      have hx' : bs x = textOf [32] ts := hx
      have hxs : x.size ≤ 6000 := by rw [← bs_length, hx']; have := HSUM.out; omega
      have hlx : lex (bs x) = .ok (place 0 ts) := by
        rw [hx']
        exact toks_lex HF.out (by rw [← hx', bs_length]; omega) (by rw [place_length]; omega)
      have HLX := Lib.hid hlx; clear hlx hx hx'
      go_wp2_with fail
      refine (lex_ok x _ (by omega) (place 0 ts) HLX.out).mono ?_
      rw [place_length]
      rintro e w4 ⟨⟨A', cap', rfl, ho'⟩, hb4⟩
      have hr4 : TokRow w4 A' (place 0 ts) := tokRow_of_own (n := ts.length) (cap := cap') (by rw [place_length]; exact ho')
      have HR4 := Lib.hid hr4; clear hr4 ho'
      have HT4 := Lib.hid (HT.out.below hb4); clear HT
      have HB4 := Lib.hid (HB2.out.trans (hb4.mono HB2.out.size)); clear hb4 HB2
      go_wp2_with fail
      refine (alike_true ts (place 0 ts) A A' cap cap' _ (by omega) (place_keys _ _) HT4.out HR4.out).mono ?_
      rintro e w5 ⟨rfl, m, rfl⟩
      go_wp2_with fail
      go_ret
      exact ⟨rfl, below_drewN HB4.out m⟩
end Go.Proofs.Ytbehkkgdgfdkaaa
