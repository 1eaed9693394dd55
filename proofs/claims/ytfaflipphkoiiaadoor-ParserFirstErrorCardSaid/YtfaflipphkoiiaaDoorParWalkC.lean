/-
  What the parser's methods name, number, ratio, date, days and span return.
-/
import Derived.Test.YtfaflipphkoiiaaDoorParWalkB
namespace Go.Proofs.YtfaflipphkoiiaaDoor.Pr
open Go.RowKit Mem
open Lx (Tok)
set_option linter.unusedVariables false

theorem field_text (a b c d : Value) (w : World) : (Instr.field 40 (.agg #[a, b, c, d]) 1).run Tryd.prog w = .ok b w := by kernel_rfl
theorem field_n (a b c d : Value) (w : World) : (Instr.field 40 (.agg #[a, b, c, d]) 2).run Tryd.prog w = .ok c w := by kernel_rfl
set_option maxRecDepth 100000 in
theorem name_any (E : Env) (b : Nat) (s : St) (W : World) (h : PW E b s W) :
    Calls Tryd.prog 34 #[.pointer (some ⟨b, 0, none⟩)] W fun e w' => e = .returned (.string ⟨(name s).1.toArray⟩) ∧ After E b (name s).2 W w' := by
  obtain ⟨t, s1, hts⟩ : ∃ t s1, take 1 s = (t, s1) := ⟨_, _, rfl⟩
  have e : name s = ((take 1 s).1.text, (take 1 s).2) := rfl
  rw [e, hts]
  have HT := Lib.hid hts
  have HP := Lib.hid h; clear h e hts
  have hft := field_text
  go_enter Tryd.func34, Tryd.ntmps34
  go_wp2_with fail
  refine (take_any E b s 1 _ HP.out).mono ?_
  rw [HT.out]
  unfold tokVal
  rintro e w1 ⟨rfl, hA⟩
  have HA := Lib.hid hA; clear hA
  go_wp2_with fail
  go_ret
  exact ⟨rfl, HA.out⟩
set_option maxRecDepth 100000 in
theorem number_any (E : Env) (b : Nat) (s : St) (W : World) (h : PW E b s W) :
    Calls Tryd.prog 36 #[.pointer (some ⟨b, 0, none⟩)] W fun e w' => e = .returned (.int .i64 ((number s).1 : Int)) ∧ After E b (number s).2 W w' := by
  obtain ⟨t, s1, hts⟩ : ∃ t s1, take 2 s = (t, s1) := ⟨_, _, rfl⟩
  have e : number s = ((take 2 s).1.n, (take 2 s).2) := rfl
  rw [e, hts]
  have HT := Lib.hid hts
  have HP := Lib.hid h; clear h e hts
  have hft := field_n
  go_enter Tryd.func36, Tryd.ntmps36
  go_wp2_with fail
  refine (take_any E b s 2 _ HP.out).mono ?_
  rw [HT.out]
  unfold tokVal
  rintro e w1 ⟨rfl, hA⟩
  have HA := Lib.hid hA; clear hA
  go_wp2_with fail
  go_ret
  exact ⟨rfl, HA.out⟩
end Go.Proofs.YtfaflipphkoiiaaDoor.Pr
