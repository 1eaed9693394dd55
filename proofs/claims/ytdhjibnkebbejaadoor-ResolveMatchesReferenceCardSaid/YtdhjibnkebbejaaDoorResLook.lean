/-
  The lookup of names: what its methods index and optional return; groupOf, clauseKind.
-/
import Derived.Test.YtdhjibnkebbejaaDoorResMap
import Derived.Outline
import Derived.WalkLawsBesides
import Derived.RegionTactic
import Derived.ChangeAlike
import Derived.Handy
import Derived.Lib.Hide
import Derived.Deep.RegionHeld3
import Derived.Deep.DrawnRows
import Derived.Deep.DeepCutAuto
namespace Go.Proofs.YtdhjibnkebbejaaDoor.Rs
open Go.RowKit Mem Vw
set_option linter.unusedVariables false

/-- The tables of names in memory: the resolver's block holds their maps; all lie below a number. -/
def TB (B q : Nat) (t : Tab) (W : World) : Prop := ∀ g, 1 ≤ g → g ≤ 5 → ∃ m, (m ≠ q ∧ m < B ∧ q < B) ∧ W.cell? ⟨q, 18 + g, none⟩ = some (.map (some m)) ∧ W.heap[m]? = some (.map (ents (t g)) (t g).length)
/-- A lookup in memory. -/
def LB (l q : Nat) (ok : Bool) (W : World) : Prop := W.heap[l]? = some (.cells #[.pointer (some ⟨q, 0, none⟩), .bool ok] 127 (0, 0))
theorem ix_some {t : Tab} {g : Nat} {x : Bytes} {j : Nat} (h : find t g x = some j) : ix t g x = (j : Nat) ∧ has t g x = true := by
  unfold ix has; rw [h]; exact ⟨rfl, rfl⟩
theorem ix_none {t : Tab} {g : Nat} {x : Bytes} (h : find t g x = none) : ix t g x = 0 ∧ has t g x = false := by
  unfold ix has; rw [h]; exact ⟨rfl, rfl⟩
theorem LB.set {l q : Nat} {ok : Bool} {W : World} (h : LB l q ok W) (b : Bool) : LB l q b (W.setCell ⟨l, 1, none⟩ (.bool b)) := blk_set h 1 (.bool b)
set_option maxHeartbeats 1000000 in
set_option maxRecDepth 100000 in
theorem index_any (t : Tab) (B q l g : Nat) (x : Bytes) (ok : Bool) (W : World) (h1 : 1 ≤ g) (h5 : g ≤ 5) (ht : TB B q t W) (hl : LB l q ok W) :
    Calls Tryd.prog 45 #[.pointer (some ⟨l, 0, none⟩), .int .i64 (g : Int), .string ⟨x.toArray⟩] W fun e w' => e = .returned (.int .i64 (ix t g x)) ∧ w' = W.setCell ⟨l, 1, none⟩ (.bool (ok && has t g x)) := by
  obtain ⟨m, hmq, hc, hm⟩ := ht g h1 h5
  have c0 : W.cell? ⟨l, 0, none⟩ = some (.pointer (some ⟨q, 0, none⟩)) := cell_of_blk hl 0
  have c1 : W.cell? ⟨l, 1, none⟩ = some (.bool ok) := cell_of_blk hl 1
  have f1 : W.frozen? ⟨l, 1, none⟩ = false := froz_of_blk hl 1
  have i0 : (0 : Int) ≤ (g : Int) := by omega
  have i6 : (g : Int) < 6 := by omega
  cases hf : find t g x with
  | none =>
    obtain ⟨e1, e2⟩ := ix_none hf
    have hk := look_no hm hf
    rw [e1, e2]
    unfold sv nv at hk
    have HT := Lib.hid ht; have HL := Lib.hid hl; have HM := Lib.hid hm; have HF := Lib.hid hf
    clear ht hl hm hf e1 e2
    cases ok
    all_goals
      go_enter Tryd.func45, Tryd.ntmps45
      go_wp2_with fail
      go_ret
      exact ⟨rfl, rfl⟩
  | some j =>
    obtain ⟨e1, e2⟩ := ix_some hf
    have hk := look_yes hm hf
    rw [e1, e2]
    unfold sv nv at hk
    have HT := Lib.hid ht; have HL := Lib.hid hl; have HM := Lib.hid hm; have HF := Lib.hid hf
    clear ht hl hm hf e1 e2
    cases ok
    all_goals
      go_enter Tryd.func45, Tryd.ntmps45
      go_wp2_with fail
      go_ret
      exact ⟨rfl, rfl⟩
set_option maxHeartbeats 1000000 in
set_option maxRecDepth 100000 in
theorem optional_any (t : Tab) (B q l g : Nat) (x : Bytes) (ok : Bool) (W : World) (h1 : 1 ≤ g) (h5 : g ≤ 5) (ht : TB B q t W) (hl : LB l q ok W) :
    Calls Tryd.prog 59 #[.pointer (some ⟨l, 0, none⟩), .int .i64 (g : Int), .string ⟨x.toArray⟩] W fun e w' => e = .returned (.int .i64 (ixo t g x)) ∧ (w' = if x = [] then W else W.setCell ⟨l, 1, none⟩ (.bool (ok && has t g x))) := by
  by_cases hx : x = []
  · subst hx
    have e : ixo t g [] = -1 := rfl
    rw [e, if_pos rfl]
    clear e
    have HT := Lib.hid ht; have HL := Lib.hid hl; clear ht hl
    go_enter Tryd.func59, Tryd.ntmps59
    go_wp2_with fail
    go_ret
    exact ⟨rfl, rfl⟩
  · have e : ixo t g x = ix t g x := if_neg hx
    rw [e, if_neg hx]
    have hb : (x == []) = false := by simpa using hx
    have HT := Lib.hid ht; have HL := Lib.hid hl; clear ht hl e hx
    go_enter Tryd.func59, Tryd.ntmps59
    go_wp2_with fail
    refine (index_any t B q l g x ok W h1 h5 HT.out HL.out).mono ?_
    rintro e w' ⟨rfl, rfl⟩
    go_wp2_with fail
    go_ret
    exact ⟨rfl, rfl⟩
theorem group_cases (k : Int) : (k = 1 ∧ group k = 1) ∨ (k = 2 ∧ group k = 2) ∨ (k = 3 ∧ group k = 3) ∨ (k = 8 ∧ group k = 4) ∨ (k = 9 ∧ group k = 5) ∨ (k = 10 ∧ group k = 5) ∨ (k = 11 ∧ group k = 5) ∨ (k = 12 ∧ group k = 5) ∨ ((k ≠ 1 ∧ k ≠ 2 ∧ k ≠ 3 ∧ k ≠ 8 ∧ k ≠ 9 ∧ k ≠ 10 ∧ k ≠ 11 ∧ k ≠ 12) ∧ group k = 0) := by
  unfold group
  repeat' split
  all_goals omega
set_option maxHeartbeats 1000000 in
theorem groupOf_any (k : Int) (W : World) : Calls Tryd.prog 43 #[.int .i64 k] W fun e w' => e = .returned (.tuple #[.int .i64 (group k : Int), .int .i64 (most (group k) : Int)]) ∧ W = w' := by
  rcases group_cases k with ⟨h, e⟩ | ⟨h, e⟩ | ⟨h, e⟩ | ⟨h, e⟩ | ⟨h, e⟩ | ⟨h, e⟩ | ⟨h, e⟩ | ⟨h, e⟩ | ⟨⟨h1, h2, h3, h4, h5, h6, h7, h8⟩, e⟩
  all_goals
    rw [e]
    try subst h
    clear e
    go_enter Tryd.func43, Tryd.ntmps43
    go_wp2_with fail
    go_ret2
    exact ⟨rfl, rfl⟩
set_option maxHeartbeats 1000000 in
theorem clauseKind_any (k : Int) (W : World) : Calls Tryd.prog 60 #[.int .i64 k] W fun e w' => e = .returned (.int .i64 (clauseKind k)) ∧ W = w' := by
  have hc : (k = 9 ∧ clauseKind k = 1) ∨ (k = 10 ∧ clauseKind k = 2) ∨ (k = 11 ∧ clauseKind k = 3) ∨ ((k ≠ 9 ∧ k ≠ 10 ∧ k ≠ 11) ∧ clauseKind k = 4) := by
    unfold clauseKind
    repeat' split
    all_goals omega
  rcases hc with ⟨h, e⟩ | ⟨h, e⟩ | ⟨h, e⟩ | ⟨⟨h1, h2, h3⟩, e⟩
  all_goals
    rw [e]
    try subst h
    clear e
    go_enter Tryd.func60, Tryd.ntmps60
    go_wp2_with fail
    go_ret
    exact ⟨rfl, rfl⟩
end Go.Proofs.YtdhjibnkebbejaaDoor.Rs
