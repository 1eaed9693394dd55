/-
  The walk of the statement LexerMatchesReference: it returns true for every text.
-/
import Derived.Test.YtbehkkgdgfdkaaaLexHead
namespace Go.Proofs.Ytbehkkgdgfdkaaa
open Go.RowKit Lx
set_option linter.unusedVariables false

theorem lexP_pos (f : Nat) (s : List UInt8) (p c : Nat) (ts : List Tok) (hq : p ≤ s.length) (h : lexP f s p c = .ok ts) : (∀ t ∈ ts, t.pos < s.length) ∧ ts.length + p ≤ s.length := by
  induction f generalizing p c ts with
  | zero => simp [lexP] at h; subst h; simp; omega
  | succ f ih =>
    by_cases hp : s.length ≤ p
    · rw [lexP_end _ _ _ _ hp] at h
      injection h with h
      subst h
      simp; omega
    · have hp' : p < s.length := by omega
      cases ht : tokOf (s.drop p) with
      | error e => rw [lexP_err _ _ _ _ _ hp' ht] at h; cases h
      | ok x =>
        obtain ⟨k, len, v⟩ := x
        have hl := tokOf_len _ _ _ _ ht
        rw [List.length_drop] at hl
        by_cases hc : c = 5000
        · subst hc; rw [lexP_full _ _ _ _ hp' ht] at h; cases h
        · rw [lexP_step _ _ _ _ _ _ _ hp' ht hc] at h
          cases hr : lexP f s (p + len + gapLen false (s.drop (p + len))) (c + 1) with
          | error e => rw [hr] at h; simp [comb] at h
          | ok us =>
            rw [hr] at h
            simp only [comb, List.singleton_append] at h
            injection h with h
            subst h
            have hg := gapLen_le false (s.drop (p + len))
            rw [List.length_drop] at hg
            obtain ⟨i1, i2⟩ := ih _ _ _ (by omega) hr
            refine ⟨?_, ?_⟩
            · intro t hm
              rcases List.mem_cons.1 hm with rfl | hm
              · exact hp'
              · exact i1 t hm
            · simp only [List.length_cons]
              omega
theorem lex_pos (s : List UInt8) (ts : List Tok) (h : lex s = .ok ts) : (∀ t ∈ ts, t.pos < s.length) ∧ ts.length ≤ s.length := by
  unfold lex at h
  split at h
  · cases h
  · have hg := gapLen_le false s
    cases hl : lexP (s.length + 1) s (gapLen false s) 0 with
    | error x => obtain ⟨e, p⟩ := x; rw [hl] at h; cases h
    | ok us =>
      rw [hl] at h
      injection h with h
      subst h
      obtain ⟨i1, i2⟩ := lexP_pos _ _ _ _ _ hg hl
      exact ⟨i1, by omega⟩
theorem refLex_ok (s : ByteArray) (w : World) (hs : s.size ≤ 9223372036854775807) (ts : List Tok) (h : lex (bs s) = .ok ts) :
    Calls Try.prog 12 #[.string s] w fun e w' => (∃ A cap, e = .returned (.tuple #[.slice A ts.length cap, .int .i64 0, .int .i64 0]) ∧ w'.ownsRow w.heap.size 30 4 (.slice A ts.length cap) ts.length (cellsAll ts)) ∧ Below w.heap.size w w' := by
  refine (refLex_any s w hs).mono fun e w' ⟨h1, h2⟩ => ⟨?_, h2⟩
  unfold LexEnd at h1
  rw [h] at h1
  exact h1
theorem refLex_no (s : ByteArray) (w : World) (hs : s.size ≤ 9223372036854775807) (er : Nat) (p : Int) (h : lex (bs s) = .error (er, p)) :
    Calls Try.prog 12 #[.string s] w fun e w' => e = .returned (.tuple #[.slice none 0 0, .int .i64 er, .int .i64 p]) ∧ Below w.heap.size w w' := by
  refine (refLex_any s w hs).mono fun e w' ⟨h1, h2⟩ => ⟨?_, h2⟩
  unfold LexEnd at h1
  rw [h] at h1
  exact h1
theorem below_drewN {B : Nat} {a w : World} (h : Below B a w) (n : Nat) : Below B a (w.drewN n) := ⟨h.os, h.tape, h.output, h.size, h.block⟩
theorem shift0 (ts : List Tok) : ts.map (shift 0) = ts := by
  have : shift 0 = id := by funext t; simp [shift]
  rw [this, List.map_id]
theorem tokRow_nil (w : World) (A : Option Addr) : TokRow w A [] := fun h => by simp at h

set_option maxHeartbeats 1000000 in
theorem walk_LexerMatchesReference (s : ByteArray) (hs : s.size ≤ maxLen) (w : World) :
    Calls Try.prog 3 #[.string s] w fun e w' => e = .returned (.bool true) ∧ Below w.heap.size w w' := by
  unfold maxLen at hs
  by_cases h3 : 3000 < s.size
  · go_enter Try.func3, Try.ntmps3
    go_wp2_with fail
    refine (head_any _).mono ?_
    rintro e w1 ⟨rfl, hb1⟩
    have HB1 := Lib.hid hb1; clear hb1
    go_wp2_with fail
    go_ret
    exact ⟨rfl, HB1.out⟩
  · cases hl : lex (bs s) with
    | error x =>
      obtain ⟨er, p⟩ := x
      have HL := Lib.hid hl; clear hl
      go_enter Try.func3, Try.ntmps3
      go_wp2_with fail
      refine (head_any _).mono ?_
      rintro e w1 ⟨rfl, hb1⟩
      have HB1 := Lib.hid hb1; clear hb1
      go_wp2_with fail
      refine (lex_no s _ (by omega) er p HL.out).mono ?_
      rintro e w2 ⟨rfl, hb2⟩
      have HB2 := Lib.hid (HB1.out.trans (hb2.mono HB1.out.size)); clear hb2 HB1
      go_wp2_with fail
      refine (refLex_no s _ (by omega) er p HL.out).mono ?_
      rintro e w3 ⟨rfl, hb3⟩
      have HB3 := Lib.hid (HB2.out.trans (hb3.mono HB2.out.size)); clear hb3 HB2
      go_wp2_with fail
      refine (same_true [] 0 none none 0 0 _ (by simp) (by omega) (by simp) (tokRow_nil _ _) (tokRow_nil _ _)).mono ?_
      rintro e w4 ⟨rfl, m, rfl⟩
      go_wp2_with fail
      go_ret
      exact ⟨rfl, below_drewN HB3.out m⟩
    | ok ts =>
      obtain ⟨hpos, hlen⟩ := lex_pos _ _ hl
      rw [bs_length] at hpos hlen
      have HP := Lib.hid hpos; clear hpos
      have HL := Lib.hid hl; clear hl
      go_enter Try.func3, Try.ntmps3
      go_wp2_with fail
      refine (head_any _).mono ?_
      rintro e w1 ⟨rfl, hb1⟩
      have HB1 := Lib.hid hb1; clear hb1
      go_wp2_with fail
      refine (lex_ok s _ (by omega) ts HL.out).mono ?_
      rintro e w2 ⟨⟨A, cap, rfl, ho⟩, hb2⟩
      have HB2 := Lib.hid (HB1.out.trans (hb2.mono HB1.out.size)); clear hb2 HB1
      have HT := Lib.hid (tokRow_of_own ho); clear ho
      go_wp2_with fail
      refine (refLex_ok s _ (by omega) ts HL.out).mono ?_
      rintro e w3 ⟨⟨A', cap', rfl, ho'⟩, hb3⟩
      have HT' := Lib.hid (tokRow_of_own ho'); clear ho'
      have HT3 := Lib.hid (HT.out.below hb3); clear HT
      have HB3 := Lib.hid (HB2.out.trans (hb3.mono HB2.out.size)); clear hb3 HB2
      go_wp2_with fail
      refine (same_true ts 0 A A' cap cap' _ (by omega) (by omega) (fun t ht => by have := HP.out t ht; omega) HT3.out (by rw [shift0]; exact HT'.out)).mono ?_
      rintro e w4 ⟨rfl, m, rfl⟩
      go_wp2_with fail
      go_ret
      exact ⟨rfl, below_drewN HB3.out m⟩
end Go.Proofs.Ytbehkkgdgfdkaaa
