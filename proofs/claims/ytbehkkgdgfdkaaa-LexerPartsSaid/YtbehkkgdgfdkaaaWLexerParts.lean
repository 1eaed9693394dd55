/-
  The walk of the statement LexerParts: it returns true for every two texts.
-/
import Derived.Test.YtbehkkgdgfdkaaaLexRefG
namespace Go.Proofs.Ytbehkkgdgfdkaaa
open Go.RowKit Lx
set_option linter.unusedVariables false

theorem parts_plain_ok (a b : ByteArray) (ts us : List Tok) (ha : a.size ≤ 1500) (hb : b.size ≤ 1500) (h1 : lex (bs a) = .ok ts) (h2 : lex (bs b) = .ok us) :
    lex (bs (a ++ ⟨#[10]⟩ ++ b)) = .ok (ts ++ us.map (shift (a.size + 1))) := by
  have t1 := lex_toks h1
  have t2 := toks_shift (a.size + 1) (lex_toks h2)
  have l1 := toks_len t1
  have l2 := toks_len (lex_toks h2)
  rw [bs_length] at l1 l2
  rw [lf_mid]
  refine toks_lex (toks_lf t1 ?_) ?_ ?_
  · rw [bs_length, moved_eq] at *; simpa using t2
  · simp only [List.length_append, List.length_cons, bs_length]; omega
  · simp only [List.length_append, List.length_map]; omega
theorem parts_plain_err1 (a b : ByteArray) (er : Nat) (p : Int) (ha : a.size ≤ 1500) (hb : b.size ≤ 1500) (h1 : lex (bs a) = .error (er, p)) :
    lex (bs (a ++ ⟨#[10]⟩ ++ b)) = .error (er, p) := by
  obtain ⟨ts, r, rfl, he⟩ := lex_errs h1 (by rw [bs_length]; omega)
  have l1 := errs_len he
  rw [bs_length] at l1
  rw [lf_mid]
  refine errs_lex (errs_lf _ he) ?_ (by omega)
  simp only [List.length_append, List.length_cons, bs_length]; omega
theorem parts_plain_err2 (a b : ByteArray) (ts : List Tok) (er : Nat) (p : Int) (ha : a.size ≤ 1500) (hb : b.size ≤ 1500) (h1 : lex (bs a) = .ok ts) (h2 : lex (bs b) = .error (er, p)) :
    lex (bs (a ++ ⟨#[10]⟩ ++ b)) = .error (er, p + (a.size : Int) + 1) := by
  have t1 := lex_toks h1
  obtain ⟨us, r, rfl, he⟩ := lex_errs h2 (by rw [bs_length]; omega)
  have l1 := toks_len t1
  have l2 := errs_len he
  have he2 := errs_shift (a.size + 1) he
  rw [bs_length] at l1 l2
  rw [lf_mid]
  have := errs_lex (toks_errs_lf (z := bs b) (us := us.map (moved (a.size + 1))) (e := er) (q := r + (a.size + 1)) t1 (by rw [bs_length]; simpa using he2)) (by simp only [List.length_append, List.length_cons, bs_length]; omega) (by simp only [List.length_append, List.length_map]; omega)
  rw [this]
  simp [Int.natCast_add, Int.add_assoc]
theorem err_nz (s : List UInt8) (er : Nat) (p : Int) (hs : s.length ≤ 5000) (h : lex s = .error (er, p)) : ((er : Int) != 0) = true := by
  obtain ⟨ts, r, rfl, he⟩ := lex_errs h hs
  have := errs_len he
  rw [bne_iff_ne]; omega

theorem shift0' (ts : List Tok) : ts.map (shift 0) = ts := by
  have : shift 0 = id := by funext t; simp [shift]
  rw [this, List.map_id]

set_option maxRecDepth 100000 in
set_option maxHeartbeats 2000000 in
theorem walk_LexerParts (a : ByteArray) (ha : a.size ≤ maxLen) (b : ByteArray) (hb : b.size ≤ maxLen) (w : World) :
    Calls Try.prog 6 #[.string a, .string b] w fun e w' => e = .returned (.bool true) ∧ Below w.heap.size w w' := by
  unfold maxLen at ha hb
  have hsz : (a ++ ⟨#[10]⟩ ++ b).size = a.size + 1 + b.size := by rw [ByteArray.size_append, ByteArray.size_append]; rfl
  have HSZ := Lib.hid hsz; clear hsz
  have hbig : 1500 < a.size ∨ (¬ 1500 < a.size ∧ 1500 < b.size) ∨ (¬ 1500 < a.size ∧ ¬ 1500 < b.size) := by omega
  rcases hbig with h3 | ⟨h3, h4⟩ | ⟨h3, h4⟩
  · go_enter Try.func6, Try.ntmps6
    go_wp2_with fail
    refine (head_any _).mono ?_
    rintro e w1 ⟨rfl, hb1⟩
    have HB1 := Lib.hid hb1; clear hb1
    go_wp2_with fail
    go_ret
    exact ⟨rfl, HB1.out⟩
  · go_enter Try.func6, Try.ntmps6
    go_wp2_with fail
    refine (head_any _).mono ?_
    rintro e w1 ⟨rfl, hb1⟩
    have HB1 := Lib.hid hb1; clear hb1
    go_wp2_with fail
    go_ret
    exact ⟨rfl, HB1.out⟩
  · cases hl : lex (bs a) with
    | error x =>
      obtain ⟨er, p⟩ := x
      have be := err_nz _ _ _ (by rw [bs_length]; omega) hl
      have HL := Lib.hid hl
      have HC := Lib.hid (parts_plain_err1 a b er p (by omega) (by omega) hl); clear hl
      cases hm : lex (bs b) with
      | error x =>
        obtain ⟨er2, p2⟩ := x
        have HM := Lib.hid hm; clear hm
        go_enter Try.func6, Try.ntmps6
        go_wp2_with fail
        refine (head_any _).mono ?_
        rintro e w1 ⟨rfl, hb1⟩
        have HB1 := Lib.hid hb1; clear hb1
        go_wp2_with fail
        refine (lex_no a _ (by omega) er p HL.out).mono ?_
        rintro e w2 ⟨rfl, hb2⟩
        have HB2 := Lib.hid (HB1.out.trans (hb2.mono HB1.out.size)); clear hb2 HB1
        go_wp2_with fail
        refine (lex_no b _ (by omega) er2 p2 HM.out).mono ?_
        rintro e w3 ⟨rfl, hb3⟩
        have HB3 := Lib.hid (HB2.out.trans (hb3.mono HB2.out.size)); clear hb3 HB2
        go_wp2_with fail
        refine (lex_no _ _ (by rw [HSZ.out]; omega) er p HC.out).mono ?_
        rintro e w4 ⟨rfl, hb4⟩
        have HB4 := Lib.hid (HB3.out.trans (hb4.mono HB3.out.size)); clear hb4 HB3
        go_wp2_with fail
        go_ret
        exact ⟨rfl, HB4.out⟩
      | ok us =>
        have HM := Lib.hid hm; clear hm
        go_enter Try.func6, Try.ntmps6
        go_wp2_with fail
        refine (head_any _).mono ?_
        rintro e w1 ⟨rfl, hb1⟩
        have HB1 := Lib.hid hb1; clear hb1
        go_wp2_with fail
        refine (lex_no a _ (by omega) er p HL.out).mono ?_
        rintro e w2 ⟨rfl, hb2⟩
        have HB2 := Lib.hid (HB1.out.trans (hb2.mono HB1.out.size)); clear hb2 HB1
        go_wp2_with fail
        refine (lex_ok b _ (by omega) us HM.out).mono ?_
        rintro e w3 ⟨⟨A', cap', rfl, ho'⟩, hb3⟩
        have HB3 := Lib.hid (HB2.out.trans (hb3.mono HB2.out.size)); clear hb3 HB2 ho'
        go_wp2_with fail
        refine (lex_no _ _ (by rw [HSZ.out]; omega) er p HC.out).mono ?_
        rintro e w4 ⟨rfl, hb4⟩
        have HB4 := Lib.hid (HB3.out.trans (hb4.mono HB3.out.size)); clear hb4 HB3
        go_wp2_with fail
        go_ret
        exact ⟨rfl, HB4.out⟩
    | ok ts =>
      have hlt := (toks_len (lex_toks hl))
      rw [bs_length] at hlt
      cases hm : lex (bs b) with
      | error x =>
        obtain ⟨er, p⟩ := x
        have be := err_nz _ _ _ (by rw [bs_length]; omega) hm
        obtain ⟨us, r, rfl, he⟩ := lex_errs hm (by rw [bs_length]; omega)
        have hr := errs_len he
        rw [bs_length] at hr
        have hr1 := hr.2.1
        have hr2 := hr.2.2.1
        have HC := Lib.hid (parts_plain_err2 a b ts er r (by omega) (by omega) hl hm)
        have HL := Lib.hid hl; clear hl
        have HM := Lib.hid hm; clear hm he hr
        go_enter Try.func6, Try.ntmps6
        go_wp2_with fail
        refine (head_any _).mono ?_
        rintro e w1 ⟨rfl, hb1⟩
        have HB1 := Lib.hid hb1; clear hb1
        go_wp2_with fail
        refine (lex_ok a _ (by omega) ts HL.out).mono ?_
        rintro e w2 ⟨⟨A, cap, rfl, ho⟩, hb2⟩
        have HB2 := Lib.hid (HB1.out.trans (hb2.mono HB1.out.size)); clear hb2 HB1 ho
        go_wp2_with fail
        refine (lex_no b _ (by omega) er r HM.out).mono ?_
        rintro e w3 ⟨rfl, hb3⟩
        have HB3 := Lib.hid (HB2.out.trans (hb3.mono HB2.out.size)); clear hb3 HB2
        go_wp2_with fail
        refine (lex_no _ _ (by rw [HSZ.out]; omega) er _ HC.out).mono ?_
        rintro e w4 ⟨rfl, hb4⟩
        have HB4 := Lib.hid (HB3.out.trans (hb4.mono HB3.out.size)); clear hb4 HB3
        go_wp2_with fail
        go_ret
        exact ⟨rfl, HB4.out⟩
      | ok us =>
        have hlu := (toks_len (lex_toks hm))
        rw [bs_length] at hlu
        have HP1 := Lib.hid (toks_pos (lex_toks hl))
        have HP2 := Lib.hid (toks_pos (lex_toks hm))
        have HC := Lib.hid (parts_plain_ok a b ts us (by omega) (by omega) hl hm)
        have HL := Lib.hid hl; clear hl
        have HM := Lib.hid hm; clear hm
        go_enter Try.func6, Try.ntmps6
        go_wp2_with fail
        refine (head_any _).mono ?_
        rintro e w1 ⟨rfl, hb1⟩
        have HB1 := Lib.hid hb1; clear hb1
        go_wp2_with fail
        refine (lex_ok a _ (by omega) ts HL.out).mono ?_
        rintro e w2 ⟨⟨A, cap, rfl, ho⟩, hb2⟩
        have HB2 := Lib.hid (HB1.out.trans (hb2.mono HB1.out.size)); clear hb2 HB1
        have HO := Lib.hid (tokRow_of_own ho); clear ho
        go_wp2_with fail
        refine (lex_ok b _ (by omega) us HM.out).mono ?_
        rintro e w3 ⟨⟨A', cap', rfl, ho'⟩, hb3⟩
        have HO1 := Lib.hid (HO.out.below hb3); clear HO
        have HO' := Lib.hid (tokRow_of_own ho'); clear ho'
        have HB3 := Lib.hid (HB2.out.trans (hb3.mono HB2.out.size)); clear hb3 HB2
        go_wp2_with fail
        refine (lex_ok _ _ (by rw [HSZ.out]; omega) _ HC.out).mono ?_
        rw [List.length_append, List.length_map]
        rintro e w4 ⟨⟨A3, cap3, rfl, ho3⟩, hb4⟩
        have HO4 := Lib.hid (HO1.out.below hb4); clear HO1
        have HO4' := Lib.hid (HO'.out.below hb4); clear HO'
        have hcap := own_cap ho3
        have hr3 : TokRow w4 A3 (ts ++ us.map (shift (a.size + 1))) := tokRow_of_own (base := w3.heap.size) (n := ts.length + us.length) (cap := cap3) (by rw [List.length_append, List.length_map]; exact ho3)
        have HO3 := Lib.hid hr3; clear hr3 ho3
        have HB4 := Lib.hid (HB3.out.trans (hb4.mono HB3.out.size)); clear hb4 HB3
        have hsh := sl_head A3 (ts.length + us.length) cap3 ts.length (by omega)
        obtain ⟨A4, hst, hrow⟩ := sl_tail A3 (ts.length + us.length) cap3 ts.length (by omega) hcap
        have HROW := Lib.hid hrow; clear hrow
        have bn : (((ts.length : Int) + (us.length : Int)) != ((ts.length : Int) + (us.length : Int))) = false := by rw [bne_eq_false_iff_eq]
        go_wp2_with fail
        refine (same_true ts 0 A A3 cap cap3 _ (by omega) (by omega) (fun t ht => by have := HP1.out t ht; rw [bs_length] at this; omega) HO4.out (by rw [shift0']; have := HO3.out.take ts.length; rwa [List.take_left] at this)).mono ?_
        rintro e w5 ⟨rfl, m, rfl⟩
        go_wp2_with fail
        rw [show ((a.size : Int) + 1) = ((a.size + 1 : Nat) : Int) by omega]
        refine (same_true us (a.size + 1) A' A4 cap' (cap3 - ts.length) _ (by omega) (by omega) (fun t ht => by have := HP2.out t ht; rw [bs_length] at this; omega) (HO4'.out.drewN m) (by have := HROW.out _ _ (by rw [List.length_append, List.length_map]) (HO3.out.drewN m); rwa [List.drop_left] at this)).mono ?_
        rintro e w6 ⟨rfl, m2, rfl⟩
        go_wp2_with fail
        go_ret
        exact ⟨rfl, below_drewN HB4.out (m + m2)⟩
end Go.Proofs.Ytbehkkgdgfdkaaa
