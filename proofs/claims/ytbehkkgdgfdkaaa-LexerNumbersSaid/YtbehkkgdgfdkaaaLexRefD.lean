/-
  What the function Lex of package estoppelref06 returns: the same as Lex of package lexer.
-/
import Derived.Test.YtbehkkgdgfdkaaaLexRefC
namespace Go.Proofs.Ytbehkkgdgfdkaaa.Lx
open Go.RowKit
set_option linter.unusedVariables false

theorem ScanEnd.lex_ok {s : ByteArray} {B : Nat} {v : Value} {w' : World} (hs : ¬ 20000 < s.size) (h : ScanEnd s B (.returned v) w') : LexEnd s B (.returned (.tuple #[v, .int .i64 0, .int .i64 0])) w' := by
  unfold ScanEnd at h
  cases hl : lexP (s.size + 1) (bs s) (gapLen false (bs s)) 0 with
  | ok ts =>
    rw [hl] at h
    obtain ⟨v', he, ho⟩ := h
    injection he with he
    subst he
    obtain ⟨A, cap, rfl⟩ := own_form ho
    exact LexEnd.of_ok (lex_of_ok hs hl) rfl ho
  | error x => rw [hl] at h; cases h
theorem ScanEnd.lex_err {s : ByteArray} {B er p : Nat} {w' : World} (hs : ¬ 20000 < s.size) (h : ScanEnd s B (.panicked (fail_ er p)) w') : LexEnd s B (.returned (.tuple #[.slice none 0 0, .int .i64 er, .int .i64 p])) w' := by
  unfold ScanEnd at h
  cases hl : lexP (s.size + 1) (bs s) (gapLen false (bs s)) 0 with
  | ok ts =>
    rw [hl] at h
    obtain ⟨v', he, ho⟩ := h
    cases he
  | error x =>
    obtain ⟨er', p'⟩ := x
    rw [hl] at h
    simp only [fail_, Ending.panicked.injEq, List.cons.injEq, PanicEntry.mk.injEq, Value.iface.injEq, Value.agg.injEq, true_and, and_true] at h
    have h' : (er : Int) = er' ∧ (p : Int) = p' := by
      have := h
      simp at this
      omega
    obtain ⟨rfl, rfl⟩ : er = er' ∧ p = p' := by omega
    exact LexEnd.of_err (lex_of_err hs hl) rfl

set_option maxHeartbeats 2000000 in
theorem refLex_any (s : ByteArray) (w : World) (hs : s.size ≤ 9223372036854775807) :
    Calls Try.prog 12 #[.string s] w fun e w' => LexEnd s w.heap.size e w' ∧ Below w.heap.size w w' := by
  by_cases h2 : 20000 < s.size
  · have HL : Hid (lex (bs s) = .error (3, -1)) := by unfold lex; rw [if_pos (by rw [bs_length]; exact h2)]; rfl
    go_enter Try.func12, Try.ntmps12
    go_wp2_with fail
    go_ret3
    exact ⟨LexEnd.of_err HL.out rfl, Below.refl _ _⟩
  · obtain ⟨i0, hi, hz0, hz1, hz2⟩ := info_parts info_tok
    go_enter Try.func12, Try.ntmps12
    go_wp2_with fail
    refine (refGap_any s 0 _ (by omega) (by omega)).mono ?_
    rintro e w1 ⟨rfl, rfl⟩
    rw [List.drop_zero]
    go_wp2_with fail
    go_loopw [5, 6] (fun v i wr => ∃ (ts : List Tok) (p : Nat), i = .int .i64 p ∧ ScanRel s w ts p v wr) (fun _ i _ => s.size - (intOf i).toNat)
    case atStart => exact ⟨[], _, rfl, ScanRel.start s w w (Below.refl _ _)⟩
    case round =>
      obtain ⟨ts, p, rfl, HR⟩ := hrel
      obtain ⟨A, cap, rfl⟩ := HR.form
      have hp := HR.1
      have h5 := HR.2.1
      have hB := HR.2.2.2.1.size
      by_cases hlt : p < s.size
      · cases htok : tokOf ((bs s).drop p) with
        | error er =>
          have HE := Lib.hid htok; clear htok
          go_wp2_with fail
          refine (refTok_no s p er _ (by omega) hlt HE.out).mono ?_
          rintro e w2 ⟨⟨rfl, hne⟩, hb2⟩
          have be : ((er : Int) != 0) = true := by rw [bne_iff_ne]; omega
          clear hne
          go_wp2_with fail
          go_ret3
          exact ⟨ScanEnd.lex_err h2 (HR.err hlt HE.out), (HR.2.2.2.1.trans (hb2.mono hB)).alloc (Nat.le_trans hB hb2.size) _⟩
        | ok x =>
          obtain ⟨k, len, n⟩ := x
          have HE := Lib.hid htok; clear htok
          have hlen := tokOf_len _ _ _ _ HE.out
          rw [List.length_drop, bs_length] at hlen
          obtain ⟨x, hxe, hxs⟩ : ∃ x, s.extract p (p + len) = x ∧ x.size = len := ⟨_, rfl, extract_size s p len (by omega)⟩
          subst hxs
          have HX := Lib.hid hxe; clear hxe
          by_cases hc : ts.length = 5000
          · have bc : ((ts.length : Int) == 5000) = true := beq_iff_eq.2 (by omega)
            have HC := Lib.hid hc; clear hc
            go_wp2_with fail
            refine (refTok_ok s x p k n _ (by omega) hlt HE.out HX.out).mono ?_
            rintro e w2 ⟨rfl, hb2⟩
            go_wp2_with fail
            go_ret3
            exact ⟨ScanEnd.lex_err h2 (HR.full hlt HE.out HC.out), (HR.2.2.2.1.trans (hb2.mono hB)).alloc (Nat.le_trans hB hb2.size) _⟩
          · have bc : ((ts.length : Int) == 5000) = false := beq_eq_false_iff_ne.2 (by omega)
            go_wp2_with fail
            refine (refTok_ok s x p k n _ (by omega) hlt HE.out HX.out).mono ?_
            rintro e w2 ⟨rfl, hb2⟩
            have hown2 := own_keep HR.2.2.1 hb2
            have hbw2 : Below w.heap.size w w2 := HR.2.2.2.1.trans (hb2.mono hB)
            have HB2 := Lib.hid hbw2; clear hbw2
            have hB2 : w.heap.size ≤ w2.heap.size := HB2.out.size
            have HO := Lib.hid hown2; clear hown2
            clear hb2
            go_wp2_with (at_builtin; refine wpList_append_own_at _ rfl _ _ 23 rfl w.heap.size 30 i0 _ 4 40 Try.underlying23 hi hz0 hz1 hz2 rfl (by decide) _ ts.length (cellsAll ts) rfl (own_keep (own_keep HO.out ((Below.refl _ _).alloc (Nat.le_refl _) _)) ((Below.refl _ _).alloc (Nat.le_refl _) _)) ⟨w2.heap.size + 1, 0, none⟩ 1 1 [.int .i64 k, .string x, .int .i64 n, .int .i64 p] rfl rfl ?c1 ?c2 ?c3 ?c4 ?c5 ?_)
            case c1 => exact cells_new _ [.int .i64 k, .string x, .int .i64 n, .int .i64 p] _ _ (by simp)
            case c2 => intro u hu; simp at hu; rcases hu with rfl | rfl | rfl | rfl <;> rfl
            case c3 => simp only [maxLen]; omega
            case c4 => omega
            case c5 => simp only [World.size_alloc]; omega
            intro v3 w3 hown3 hg3 hnil3 hat3
            obtain ⟨A3, cap3, rfl⟩ := own_form hown3
            have hne : ∀ g, (Value.slice A ts.length cap).ownBlock = some g → w.heap.size ≤ g ∧ g < w2.heap.size := own_lt HO.out
            have hB3 : Below w.heap.size w w3 := ((HB2.out.alloc hB2 _).alloc (by simp only [World.size_alloc]; omega) _).grown hg3 (by simp only [World.size_alloc]; omega) (fun k hk => (hne k hk).1)
            have qt : w3.cell? ⟨w2.heap.size, 1, none⟩ = some (.string x) := by
              rw [World.cell?_of_block (hg3.block w2.heap.size (by simp only [World.size_alloc]; omega) (fun e => by have := (hne _ e.symm).2; omega))]
              simp
            have HO3 := Lib.hid hown3; clear hown3
            have HB3 := Lib.hid hB3; clear hB3 hg3 hnil3 hat3 hne
            go_wp2_with fail
            rw [← Int.natCast_add]
            refine (refGap_any s (p + x.size) _ (by omega) (by omega)).mono ?_
            rintro e w4 ⟨rfl, rfl⟩
            have hgl := gap_le s (p + x.size) (by omega)
            go_wp2_with fail
            go_roundw
            case rel => exact ⟨_, p + x.size + gapLen false ((bs s).drop (p + x.size)), by go_num, HR.step hlt HE.out hc (by rw [HX.out]; exact HO3.out) HB3.out⟩
            case measure => simp [intOf]; omega
      · go_wp2_with fail
        go_ret3
        exact ⟨ScanEnd.lex_ok h2 (HR.done hlt), HR.2.2.2.1⟩
end Go.Proofs.Ytbehkkgdgfdkaaa.Lx
