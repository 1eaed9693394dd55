/-
  What the function Same of package estoppelref06 returns for lists of tokens that are equal up to a shift.
-/
import Derived.Test.YtbehkkgdgfdkaaaLexRefD
namespace Go.Proofs.Ytbehkkgdgfdkaaa.Lx
open Go.RowKit
set_option linter.unusedVariables false

/-- A slice of tokens that reads as a list. -/
def TokRow (w : World) (A : Option Addr) (ts : List Tok) : Prop :=
  0 < ts.length → ∃ g o, A = some ⟨g, o, none⟩ ∧ g < w.heap.size ∧ ∀ i (h : i < ts.length), w.cell? ⟨g, o + i * 4, none⟩ = some (.int .i64 (ts[i].kind : Int)) ∧ w.cell? ⟨g, o + i * 4 + 1, none⟩ = some (.string ⟨ts[i].text.toArray⟩) ∧
    w.cell? ⟨g, o + i * 4 + 2, none⟩ = some (.int .i64 (ts[i].n : Int)) ∧ w.cell? ⟨g, o + i * 4 + 3, none⟩ = some (.int .i64 (ts[i].pos : Int))
def shift (d : Nat) (t : Tok) : Tok := { t with pos := t.pos + d }

set_option maxHeartbeats 1000000 in
theorem same_true (ts : List Tok) (d : Nat) (A B : Option Addr) (ca cb : Nat) (w : World) (hl : ts.length ≤ 1000000) (hd : d ≤ 1000000) (hp : ∀ t ∈ ts, t.pos ≤ 1000000) (ha : TokRow w A ts) (hb : TokRow w B (ts.map (shift d))) :
    Calls Try.prog 13 #[.slice A ts.length ca, .int .i64 (d : Int), .slice B ts.length cb] w fun e w' => e = .returned (.bool true) ∧ ∃ m, w' = w.drewN m := by
  have HA := Lib.hid ha; clear ha
  have HB := Lib.hid hb; clear hb
  have HP := Lib.hid hp; clear hp
  go_enter Try.func13, Try.ntmps13
  go_wp2_with fail
  go_loopw [7] (fun i wr => ∃ (j m : Nat), i = .int .i64 j ∧ j ≤ ts.length ∧ wr = w.drewN m) (fun i _ => ts.length - (intOf i).toNat)
  case atStart => exact ⟨0, 0, rfl, by omega, rfl⟩
  case round =>
    obtain ⟨j, m, rfl, hj, rfl⟩ := hrel
    by_cases hlt : j < ts.length
    · obtain ⟨g, o, rfl, hg, hc⟩ := HA.out (by omega)
      obtain ⟨g', o', rfl, hg', hc'⟩ := HB.out (by simp; omega)
      obtain ⟨a0, a1, a2, a3⟩ := hc j hlt
      obtain ⟨b0, b1, b2, b3⟩ := hc' j (by simpa using hlt)
      have hpos := HP.out ts[j] (List.getElem_mem hlt)
      simp only [List.getElem_map, shift] at b0 b1 b2 b3
      clear hc hc'
      generalize ts[j] = t at *
      go_wp2_with fail
      go_quiet (fail)
      go_wp2_with fail
      go_roundw
      case rel => exact ⟨j + 1, m + nq, by go_num, by omega, rfl⟩
      case measure => simp [intOf]; omega
    · go_wp2_with fail
      go_ret
      exact ⟨rfl, m, rfl⟩
end Go.Proofs.Ytbehkkgdgfdkaaa.Lx
