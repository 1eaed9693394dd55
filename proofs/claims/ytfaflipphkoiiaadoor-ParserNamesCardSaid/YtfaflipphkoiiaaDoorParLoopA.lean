/-
  What the parser's methods status, weekday and names return.
-/
import Derived.Test.YtfaflipphkoiiaaDoorParGenA
namespace Go.Proofs.YtfaflipphkoiiaaDoor.Pr
open Go.RowKit Mem
open Lx (Tok)
set_option linter.unusedVariables false

def sts : List Bytes := [[115, 116, 97, 114, 116, 101, 100], [100, 111, 110, 101], [102, 97, 105, 108, 101, 100], [118, 111, 105, 100]]
theorem st0 (w : World) : (Instr.index 121 (.agg #[.string ⟨#[115, 116, 97, 114, 116, 101, 100]⟩, .string ⟨#[100, 111, 110, 101]⟩, .string ⟨#[102, 97, 105, 108, 101, 100]⟩, .string ⟨#[118, 111, 105, 100]⟩]) (.int .i64 0)).run Tryd.prog w = .ok (.string ⟨#[115, 116, 97, 114, 116, 101, 100]⟩) w := by kernel_rfl
theorem st1 (w : World) : (Instr.index 121 (.agg #[.string ⟨#[115, 116, 97, 114, 116, 101, 100]⟩, .string ⟨#[100, 111, 110, 101]⟩, .string ⟨#[102, 97, 105, 108, 101, 100]⟩, .string ⟨#[118, 111, 105, 100]⟩]) (.int .i64 1)).run Tryd.prog w = .ok (.string ⟨#[100, 111, 110, 101]⟩) w := by kernel_rfl
theorem st2 (w : World) : (Instr.index 121 (.agg #[.string ⟨#[115, 116, 97, 114, 116, 101, 100]⟩, .string ⟨#[100, 111, 110, 101]⟩, .string ⟨#[102, 97, 105, 108, 101, 100]⟩, .string ⟨#[118, 111, 105, 100]⟩]) (.int .i64 2)).run Tryd.prog w = .ok (.string ⟨#[102, 97, 105, 108, 101, 100]⟩) w := by kernel_rfl
theorem st3 (w : World) : (Instr.index 121 (.agg #[.string ⟨#[115, 116, 97, 114, 116, 101, 100]⟩, .string ⟨#[100, 111, 110, 101]⟩, .string ⟨#[102, 97, 105, 108, 101, 100]⟩, .string ⟨#[118, 111, 105, 100]⟩]) (.int .i64 3)).run Tryd.prog w = .ok (.string ⟨#[118, 111, 105, 100]⟩) w := by kernel_rfl
theorem index_st (j : Nat) (hj : j < 4) (w : World) : (Instr.index 121 (.agg #[.string ⟨#[115, 116, 97, 114, 116, 101, 100]⟩, .string ⟨#[100, 111, 110, 101]⟩, .string ⟨#[102, 97, 105, 108, 101, 100]⟩, .string ⟨#[118, 111, 105, 100]⟩]) (.int .i64 (j : Int))).run Tryd.prog w = .ok (.string ⟨(sts.getD j []).toArray⟩) w := by
  have h : j = 0 ∨ j = 1 ∨ j = 2 ∨ j = 3 := by omega
  rcases h with rfl | rfl | rfl | rfl
  · exact st0 w
  · exact st1 w
  · exact st2 w
  · exact st3 w
theorem wd0 (w : World) : (Instr.index 120 (.agg #[.string ⟨#[109, 111, 110]⟩, .string ⟨#[116, 117, 101]⟩, .string ⟨#[119, 101, 100]⟩, .string ⟨#[116, 104, 117]⟩, .string ⟨#[102, 114, 105]⟩, .string ⟨#[115, 97, 116]⟩, .string ⟨#[115, 117, 110]⟩]) (.int .i64 0)).run Tryd.prog w = .ok (.string ⟨#[109, 111, 110]⟩) w := by kernel_rfl
theorem wd1 (w : World) : (Instr.index 120 (.agg #[.string ⟨#[109, 111, 110]⟩, .string ⟨#[116, 117, 101]⟩, .string ⟨#[119, 101, 100]⟩, .string ⟨#[116, 104, 117]⟩, .string ⟨#[102, 114, 105]⟩, .string ⟨#[115, 97, 116]⟩, .string ⟨#[115, 117, 110]⟩]) (.int .i64 1)).run Tryd.prog w = .ok (.string ⟨#[116, 117, 101]⟩) w := by kernel_rfl
theorem wd2 (w : World) : (Instr.index 120 (.agg #[.string ⟨#[109, 111, 110]⟩, .string ⟨#[116, 117, 101]⟩, .string ⟨#[119, 101, 100]⟩, .string ⟨#[116, 104, 117]⟩, .string ⟨#[102, 114, 105]⟩, .string ⟨#[115, 97, 116]⟩, .string ⟨#[115, 117, 110]⟩]) (.int .i64 2)).run Tryd.prog w = .ok (.string ⟨#[119, 101, 100]⟩) w := by kernel_rfl
theorem wd3 (w : World) : (Instr.index 120 (.agg #[.string ⟨#[109, 111, 110]⟩, .string ⟨#[116, 117, 101]⟩, .string ⟨#[119, 101, 100]⟩, .string ⟨#[116, 104, 117]⟩, .string ⟨#[102, 114, 105]⟩, .string ⟨#[115, 97, 116]⟩, .string ⟨#[115, 117, 110]⟩]) (.int .i64 3)).run Tryd.prog w = .ok (.string ⟨#[116, 104, 117]⟩) w := by kernel_rfl
theorem wd4 (w : World) : (Instr.index 120 (.agg #[.string ⟨#[109, 111, 110]⟩, .string ⟨#[116, 117, 101]⟩, .string ⟨#[119, 101, 100]⟩, .string ⟨#[116, 104, 117]⟩, .string ⟨#[102, 114, 105]⟩, .string ⟨#[115, 97, 116]⟩, .string ⟨#[115, 117, 110]⟩]) (.int .i64 4)).run Tryd.prog w = .ok (.string ⟨#[102, 114, 105]⟩) w := by kernel_rfl
theorem wd5 (w : World) : (Instr.index 120 (.agg #[.string ⟨#[109, 111, 110]⟩, .string ⟨#[116, 117, 101]⟩, .string ⟨#[119, 101, 100]⟩, .string ⟨#[116, 104, 117]⟩, .string ⟨#[102, 114, 105]⟩, .string ⟨#[115, 97, 116]⟩, .string ⟨#[115, 117, 110]⟩]) (.int .i64 5)).run Tryd.prog w = .ok (.string ⟨#[115, 97, 116]⟩) w := by kernel_rfl
theorem wd6 (w : World) : (Instr.index 120 (.agg #[.string ⟨#[109, 111, 110]⟩, .string ⟨#[116, 117, 101]⟩, .string ⟨#[119, 101, 100]⟩, .string ⟨#[116, 104, 117]⟩, .string ⟨#[102, 114, 105]⟩, .string ⟨#[115, 97, 116]⟩, .string ⟨#[115, 117, 110]⟩]) (.int .i64 6)).run Tryd.prog w = .ok (.string ⟨#[115, 117, 110]⟩) w := by kernel_rfl
theorem index_wd (j : Nat) (hj : j < 7) (w : World) : (Instr.index 120 (.agg #[.string ⟨#[109, 111, 110]⟩, .string ⟨#[116, 117, 101]⟩, .string ⟨#[119, 101, 100]⟩, .string ⟨#[116, 104, 117]⟩, .string ⟨#[102, 114, 105]⟩, .string ⟨#[115, 97, 116]⟩, .string ⟨#[115, 117, 110]⟩]) (.int .i64 (j : Int))).run Tryd.prog w = .ok (.string ⟨(wdays.getD j []).toArray⟩) w := by
  have h : j = 0 ∨ j = 1 ∨ j = 2 ∨ j = 3 ∨ j = 4 ∨ j = 5 ∨ j = 6 := by omega
  rcases h with rfl | rfl | rfl | rfl | rfl | rfl | rfl
  · exact wd0 w
  · exact wd1 w
  · exact wd2 w
  · exact wd3 w
  · exact wd4 w
  · exact wd5 w
  · exact wd6 w
theorem anyOf_cons (x : Bytes) (r : List Bytes) (i : Nat) (s : St) : anyOf (x :: r) i s = if (acc x s).1 then (i, (acc x s).2) else anyOf r (i + 1) (acc x s).2 := by
  show bnd (acc x) (fun b => if b then ret i else anyOf r (i + 1)) s = _
  unfold bnd
  cases (acc x s).1 <;> rfl
theorem drop_getD (l : List Bytes) (j : Nat) (h : j < l.length) : l.drop j = l.getD j [] :: l.drop (j + 1) := by
  rw [List.drop_eq_getElem_cons h]
  simp [List.getD, List.getElem?_eq_getElem h]

set_option maxRecDepth 100000 in
set_option maxHeartbeats 2000000 in
theorem status_any (E : Env) (b : Nat) (s : St) (W : World) (h : PW E b s W) :
    Calls Tryd.prog 108 #[.pointer (some ⟨b, 0, none⟩)] W fun e w' => e = .returned (.int .i64 ((status s).1 : Int)) ∧ After E b (status s).2 W w' := by
  have HP := Lib.hid h; clear h
  obtain ⟨r, sr, hR⟩ : ∃ r sr, anyOf sts 1 s = (r, sr) := ⟨_, _, rfl⟩
  have e : status s = (r, sr) := hR
  rw [e]
  have HR := Lib.hid hR; clear hR e
  go_enter Tryd.func108, Tryd.ntmps108
  go_wp2_with fail
  go_loopw [6] (fun i wr => ∃ (j : Nat) (s' : St), i = .int .i64 j ∧ j ≤ 4 ∧ Hid (anyOf (sts.drop j) (1 + j) s' = (r, sr)) ∧ Hid (After E b s' W wr)) (fun i _ => 4 - (intOf i).toNat)
  case atStart => exact ⟨0, s, rfl, by omega, HR, After.start HP.out⟩
  case round =>
    obtain ⟨j, s', rfl, hj, HX, HA⟩ := hrel
    by_cases hlt : j < 4
    · have hix := index_st j hlt
      have hx := HX.out
      rw [drop_getD sts j hlt, anyOf_cons] at hx
      have HX2 := Lib.hid hx; clear hx
      generalize sts.getD j [] = x at *
      cases ha : (acc x s').1 with
      | true =>
        have HX3 : Hid ((1 + j, (acc x s').2) = (r, sr)) := by have := HX2.out; rw [ha] at this; exact this
        have HAA := Lib.hid ha; clear ha
        go_wp2_with fail
        refine (accept_any E b s' x _ HA.out.1).mono ?_
        rw [HAA.out]
        rintro e w1 ⟨rfl, hA1⟩
        have HA1 := Lib.hid (HA.out.trans hA1); clear hA1
        go_wp2_with fail
        go_ret
        have h3 := HX3.out
        injection h3 with h3 h4
        rw [h4] at HA1
        exact ⟨ret_int (by omega), HA1.out⟩
      | false =>
        have HX3 : Hid (anyOf (sts.drop (j + 1)) (1 + (j + 1)) (acc x s').2 = (r, sr)) := by have := HX2.out; rw [ha] at this; exact this
        have HAA := Lib.hid ha; clear ha
        go_wp2_with fail
        refine (accept_any E b s' x _ HA.out.1).mono ?_
        rw [HAA.out]
        rintro e w1 ⟨rfl, hA1⟩
        have HA1 := Lib.hid (HA.out.trans hA1); clear hA1
        go_wp2_with fail
        go_roundw
        case rel => exact ⟨j + 1, _, by go_num, by omega, HX3, HA1⟩
        case measure => simp [intOf]; omega
    · have hx := HX.out
      rw [List.drop_eq_nil_of_le (by show 4 ≤ j; omega)] at hx
      have HX3 : Hid ((0, (fail s').2) = (r, sr)) := hx
      clear hx
      go_wp2_with fail
      refine (fail_any E b s' _ HA.out.1).mono ?_
      rintro e w1 ⟨rfl, hA1⟩
      have HA1 := Lib.hid (HA.out.trans hA1); clear hA1
      go_wp2_with fail
      go_ret
      have h3 := HX3.out
      injection h3 with h3 h4
      rw [h4] at HA1
      exact ⟨ret_int (by omega), HA1.out⟩

set_option maxRecDepth 100000 in
set_option maxHeartbeats 2000000 in
theorem weekday_any (E : Env) (b : Nat) (s : St) (W : World) (h : PW E b s W) :
    Calls Tryd.prog 94 #[.pointer (some ⟨b, 0, none⟩)] W fun e w' => e = .returned (.int .i64 ((weekday s).1 : Int)) ∧ After E b (weekday s).2 W w' := by
  have hwk := h.2.2.2.1.1.2
  have c0 : W.cell? ⟨0, 0, none⟩ = some (.string ⟨#[109, 111, 110]⟩) := hwk 0 _ rfl
  have c1 : W.cell? ⟨0, 1, none⟩ = some (.string ⟨#[116, 117, 101]⟩) := hwk 1 _ rfl
  have c2 : W.cell? ⟨0, 2, none⟩ = some (.string ⟨#[119, 101, 100]⟩) := hwk 2 _ rfl
  have c3 : W.cell? ⟨0, 3, none⟩ = some (.string ⟨#[116, 104, 117]⟩) := hwk 3 _ rfl
  have c4 : W.cell? ⟨0, 4, none⟩ = some (.string ⟨#[102, 114, 105]⟩) := hwk 4 _ rfl
  have c5 : W.cell? ⟨0, 5, none⟩ = some (.string ⟨#[115, 97, 116]⟩) := hwk 5 _ rfl
  have c6 : W.cell? ⟨0, 6, none⟩ = some (.string ⟨#[115, 117, 110]⟩) := hwk 6 _ rfl
  have HP := Lib.hid h; clear h hwk
  obtain ⟨r, sr, hR⟩ : ∃ r sr, anyOf wdays 0 s = (r, sr) := ⟨_, _, rfl⟩
  have e : weekday s = (r, sr) := hR
  rw [e]
  have HR := Lib.hid hR; clear hR e
  go_enter Tryd.func94, Tryd.ntmps94
  go_wp2_with fail
  go_loopw [6] (fun i wr => ∃ (j : Nat) (s' : St), i = .int .i64 j ∧ j ≤ 7 ∧ Hid (anyOf (wdays.drop j) j s' = (r, sr)) ∧ Hid (After E b s' W wr)) (fun i _ => 7 - (intOf i).toNat)
  case atStart => exact ⟨0, s, rfl, by omega, HR, After.start HP.out⟩
  case round =>
    obtain ⟨j, s', rfl, hj, HX, HA⟩ := hrel
    by_cases hlt : j < 7
    · have hix := index_wd j hlt
      have hx := HX.out
      rw [drop_getD wdays j hlt, anyOf_cons] at hx
      have HX2 := Lib.hid hx; clear hx
      generalize wdays.getD j [] = x at *
      cases ha : (acc x s').1 with
      | true =>
        have HX3 : Hid ((j, (acc x s').2) = (r, sr)) := by have := HX2.out; rw [ha] at this; exact this
        have HAA := Lib.hid ha; clear ha
        go_wp2_with fail
        refine (accept_any E b s' x _ HA.out.1).mono ?_
        rw [HAA.out]
        rintro e w1 ⟨rfl, hA1⟩
        have HA1 := Lib.hid (HA.out.trans hA1); clear hA1
        go_wp2_with fail
        go_ret
        have h3 := HX3.out
        injection h3 with h3 h4
        rw [h4] at HA1
        exact ⟨ret_int (by omega), HA1.out⟩
      | false =>
        have HX3 : Hid (anyOf (wdays.drop (j + 1)) (j + 1) (acc x s').2 = (r, sr)) := by have := HX2.out; rw [ha] at this; exact this
        have HAA := Lib.hid ha; clear ha
        go_wp2_with fail
        refine (accept_any E b s' x _ HA.out.1).mono ?_
        rw [HAA.out]
        rintro e w1 ⟨rfl, hA1⟩
        have HA1 := Lib.hid (HA.out.trans hA1); clear hA1
        go_wp2_with fail
        go_roundw
        case rel => exact ⟨j + 1, _, by go_num, by omega, HX3, HA1⟩
        case measure => simp [intOf]; omega
    · have hx := HX.out
      rw [List.drop_eq_nil_of_le (by show 7 ≤ j; omega)] at hx
      have HX3 : Hid ((0, (fail s').2) = (r, sr)) := hx
      clear hx
      go_wp2_with fail
      refine (fail_any E b s' _ HA.out.1).mono ?_
      rintro e w1 ⟨rfl, hA1⟩
      have HA1 := Lib.hid (HA.out.trans hA1); clear hA1
      go_wp2_with fail
      go_ret
      have h3 := HX3.out
      injection h3 with h3 h4
      rw [h4] at HA1
      exact ⟨ret_int (by omega), HA1.out⟩
end Go.Proofs.YtfaflipphkoiiaaDoor.Pr
