/-
  What the functions alone and decimal of the statements return.
-/
import Derived.Test.YtfaflipphkoiiaaDoorParNames
import Derived.Laws.IdiomStrings
namespace Go.Proofs.YtfaflipphkoiiaaDoor.Pr
open Go.RowKit Mem
open Lx (Tok bs bs_length cellsOf cellsAll)
set_option linter.unusedVariables false

theorem bs_mk (l : List UInt8) : bs ⟨l.toArray⟩ = l := by simp [bs]
theorem size_mk (l : List UInt8) : (⟨l.toArray⟩ : ByteArray).size = l.length := by simp [ByteArray.size]
theorem app_mk (a b : List UInt8) : (⟨a.toArray⟩ : ByteArray) ++ ⟨b.toArray⟩ = ⟨(a ++ b).toArray⟩ := by
  apply ByteArray.ext
  simp [ByteArray.data_append]
theorem lex_error_pos {l : Bytes} {er : Nat} {p : Int} (h : Lx.lex l = .error (er, p)) : ((er : Int) == 0) = false := by
  rw [beq_eq_false_iff_ne]
  have := lex_err_ne h
  omega
set_option maxHeartbeats 2000000 in
theorem alone_any (l : Bytes) (w : World) (hl : l.length ≤ 100000) :
    Calls Tryd.prog 19 #[.string ⟨l.toArray⟩] w fun e w' => e = .returned (.bool (isName l)) ∧ Below w.heap.size w w' := by
  obtain ⟨y, hy⟩ : ∃ y : ByteArray, ⟨l.toArray⟩ = y := ⟨_, rfl⟩
  have hyb : bs y = l := by rw [← hy]; exact bs_mk l
  have hys : y.size = l.length := by rw [← hy]; exact size_mk l
  rw [hy]
  have HYS := Lib.hid hys
  have hyl : y.size ≤ 100000 := by omega
  clear hys
  have HYB := Lib.hid hyb
  have HY := Lib.hid hy
  cases hx : Lx.lex l with
  | error x =>
    obtain ⟨er, p⟩ := x
    have hv : isName l = false := by unfold isName; rw [hx]
    have d0 := lex_error_pos hx
    rw [← hyb] at hx
    have HX := Lib.hid hx
    rw [hv]
    clear hx hv hyb hy
    go_enter Tryd.func19, Tryd.ntmps19
    go_wp2_with fail
    refine (Lx.lex_no y _ (by omega) er p HX.out).mono ?_
    rintro e w2 ⟨rfl, hb2⟩
    have HB := Lib.hid hb2; clear hb2
    go_wp2_with fail
    go_ret
    exact ⟨rfl, HB.out⟩
  | ok ts =>
    by_cases h1 : ts.length = 1
    · obtain ⟨t, rfl⟩ : ∃ t, ts = [t] := by
        match ts, h1 with
        | [t], _ => exact ⟨t, rfl⟩
      have hv : isName l = (t.kind == 1 && t.text == l) := by unfold isName; rw [hx]
      rw [← hyb] at hx
      have HX := Lib.hid hx
      rw [hv]
      clear hx hv h1 hyb hy
      by_cases hk : t.kind = 1
      · have HK := Lib.hid hk
        have hkb : (t.kind == 1) = true := by simp [hk]
        rw [hkb, Bool.true_and]
        clear hk hkb
        go_enter Tryd.func19, Tryd.ntmps19
        go_wp2_with fail
        refine (Lx.lex_ok y _ (by omega) [t] HX.out).mono ?_
        rintro e w2 ⟨⟨A, cap, rfl, ho⟩, hb2⟩
        have hrow : Row w2 (.slice A [t].length cap) 4 ([t].map cellsOf) := Row.of_own ho (fun _ _ => rfl)
        obtain ⟨g, o, cap', he, hg, hcel⟩ := hrow.at (by simp)
        injection he with he1 he2 he3
        subst he1
        have c0 : w2.cell? ⟨g, o, none⟩ = some (.int .i64 1) := by have := hcel 0 _ rfl 0 _ rfl; rw [HK.out] at this; simpa using this
        have c1 : w2.cell? ⟨g, o + 1, none⟩ = some (.string ⟨t.text.toArray⟩) := by have := hcel 0 _ rfl 1 _ rfl; simpa using this
        have HB := Lib.hid hb2; clear hb2 ho hrow hcel he2 he3
        rw [← HY.out]
        go_wp2_with fail
        go_ret
        exact ⟨rfl, HB.out⟩
      · have hkb : (t.kind == 1) = false := by simp [hk]
        have hki : ((t.kind : Int) == 1) = false := by rw [beq_eq_false_iff_ne]; omega
        rw [hkb, Bool.false_and]
        clear hk hkb
        go_enter Tryd.func19, Tryd.ntmps19
        go_wp2_with fail
        refine (Lx.lex_ok y _ (by omega) [t] HX.out).mono ?_
        rintro e w2 ⟨⟨A, cap, rfl, ho⟩, hb2⟩
        have hrow : Row w2 (.slice A [t].length cap) 4 ([t].map cellsOf) := Row.of_own ho (fun _ _ => rfl)
        obtain ⟨g, o, cap', he, hg, hcel⟩ := hrow.at (by simp)
        injection he with he1 he2 he3
        subst he1
        have c0 : w2.cell? ⟨g, o, none⟩ = some (.int .i64 (t.kind : Int)) := by have := hcel 0 _ rfl 0 _ rfl; simpa using this
        have HB := Lib.hid hb2; clear hb2 ho hrow hcel he2 he3
        go_wp2_with fail
        go_ret
        exact ⟨rfl, HB.out⟩
    · have hv : isName l = false := by
        unfold isName
        rw [hx]
        match ts, h1 with
        | [], _ => rfl
        | [t], h1 => simp at h1
        | t :: u :: r, _ => rfl
      have d1 : ((ts.length : Int) == 1) = false := by rw [beq_eq_false_iff_ne]; omega
      rw [← hyb] at hx
      have HX := Lib.hid hx
      rw [hv]
      clear hx hv h1 hyb hy
      go_enter Tryd.func19, Tryd.ntmps19
      go_wp2_with fail
      refine (Lx.lex_ok y _ (by omega) ts HX.out).mono ?_
      rintro e w2 ⟨⟨A, cap, rfl, ho⟩, hb2⟩
      have HB := Lib.hid hb2; clear hb2 ho
      go_wp2_with fail
      go_ret
      exact ⟨rfl, HB.out⟩
theorem dig_nat (n : Nat) : (digit (n % 10)).toNat = 48 + n % 10 := (digit_is (n % 10) (Nat.mod_lt _ (by omega))).2.1
/-- The text of one digit. -/
theorem run_digit (n : Nat) (w : World) : (convert 82 9 (.slice (some ⟨w.heap.size, 0, none⟩) 1 1)).run Tryd.prog (w.alloc (.cells #[.int .u8 (48 + (n : Int) % 10)] 5)) = .ok (.string ⟨#[digit (n % 10)]⟩) (w.alloc (.cells #[.int .u8 (48 + (n : Int) % 10)] 5)) := by
  have := run_convert_bytes_back (P := Tryd.prog) (w.alloc (.cells #[.int .u8 (48 + (n : Int) % 10)] 5)) 82 9 5 ⟨w.heap.size, 0, none⟩ 1 [digit (n % 10)] Tryd.underlying82 Tryd.underlying5 Tryd.underlying9 ?_
  · exact this
  · intro j hj
    obtain rfl : j = 0 := by simpa using hj
    rw [Addr.add_mid, cell_of_blk (blk_newn rfl)]
    show some (Value.int .u8 (48 + (n : Int) % 10)) = some (.int .u8 ((digit (n % 10)).toNat : Int))
    rw [dig_nat]
    congr 2
theorem dec_small {f n : Nat} (h : n < 10) : dec f n = [digit (n % 10)] := by
  rw [Nat.mod_eq_of_lt h]
  cases f with
  | zero => rfl
  | succ f => unfold dec; rw [if_pos h]
theorem dec_big {f n : Nat} (h : ¬ n < 10) : dec (f + 1) n = dec f (n / 10) ++ [digit (n % 10)] := by
  conv => lhs; unfold dec
  rw [if_neg h]
set_option maxRecDepth 100000 in
set_option maxHeartbeats 2000000 in
theorem decimal_any (f : Nat) : ∀ (n : Nat) (w : World), f ≤ 20 → n < 10 ^ (f + 1) → n < 1000000000000 →
    Calls Tryd.prog 20 #[.int .i64 (n : Int)] w fun e w' => e = .returned (.string ⟨(dec f n).toArray⟩) ∧ Below w.heap.size w w' := by
  induction f with
  | zero =>
    intro n w hf20 h h12
    have h10 : n < 10 := by simpa using h
    rw [dec_small h10]
    clear h
    have hd := run_digit n w
    go_enter Tryd.func20, Tryd.ntmps20
    go_wp2_with fail
    go_ret
    exact ⟨rfl, (Below.refl _ _).alloc (Nat.le_refl _) _⟩
  | succ f ih =>
    intro n w hf20 h h12
    by_cases h10 : n < 10
    · rw [dec_small h10]
      clear h
      have hd := run_digit n w
      go_enter Tryd.func20, Tryd.ntmps20
      go_wp2_with fail
      go_ret
      exact ⟨rfl, (Below.refl _ _).alloc (Nat.le_refl _) _⟩
    · rw [dec_big h10]
      have hq := ih (n / 10) (w.alloc (.cells #[.int .u8 (48 + (n : Int) % 10)] 5)) (by omega) (by rw [Nat.pow_succ] at h; omega) (by omega)
      have HQ := Lib.hid hq
      have hl := dec_len f (n / 10)
      clear h hq ih
      have hd := run_digit n w
      have hls : (dec f (n / 10)).length ≤ 21 := by omega
      go_enter Tryd.func20, Tryd.ntmps20
      go_wp2_with fail
      have hc : ((n : Int) / 10) = ((n / 10 : Nat) : Int) := by omega
      rw [hc]
      refine HQ.out.mono ?_
      rintro e w2 ⟨rfl, hb2⟩
      have HB2 := Lib.hid (((Below.refl _ w).alloc (Nat.le_refl _) _).trans (hb2.mono (by simp)))
      clear hb2 hd hc
      go_wp2_with fail
      go_ret
      exact ⟨congrArg (fun x => Ending.returned (.string x)) (app_mk (dec f (n / 10)) [digit (n % 10)]), HB2.out⟩
end Go.Proofs.YtfaflipphkoiiaaDoor.Pr
