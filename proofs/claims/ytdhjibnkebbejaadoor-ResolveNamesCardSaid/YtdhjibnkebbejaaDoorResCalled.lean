/-
  What the law's functions at and called return.
-/
import Derived.Test.YtdhjibnkebbejaaDoorResLook
import Derived.Test.YtdhjibnkebbejaaDoorBlk
namespace Go.Proofs.YtdhjibnkebbejaaDoor.Rs
open Go.RowKit Mem Vw
set_option linter.unusedVariables false
set_option linter.unusedSimpArgs false

theorem at_any (l : List Bytes) (v : Value) (k : Nat) (n : Bytes) (W : World) (h : Row W v 1 (l.map fun x => [sv x])) (hk : l[k]? = some n) : Calls Tryd.prog 38 #[v, .int .i64 (k : Int)] W fun e w' => e = .returned (.tuple #[.string ⟨n.toArray⟩, .bool true]) ∧ W = w' := by
  have hkl := (List.getElem?_eq_some_iff.1 hk).1
  have hle := h.len
  rw [List.length_map] at hle
  obtain ⟨g, o, c, rfl, hg, _, _, hat⟩ := h.at (by intro e; rw [List.map_eq_nil_iff] at e; rw [e] at hkl; simp at hkl)
  rw [List.length_map]
  have c1 : W.cell? ⟨g, o + k, none⟩ = some (.string ⟨n.toArray⟩) := by
    have := hat k [sv n] (by rw [List.getElem?_map, hk]; rfl) 0 _ rfl
    rw [Nat.mul_one] at this
    exact this
  have k0 : (0 : Int) ≤ (k : Int) := Int.natCast_nonneg _
  have k1 : (k : Int) < (l.length : Int) := by omega
  clear hat h hk
  go_enter Tryd.func38, Tryd.ntmps38
  go_wp2_with fail
  go_ret2
  exact ⟨rfl, rfl⟩
theorem called_true (l : List Bytes) (v : Value) (i : Int) (n : Bytes) (e : Bool) (W : World) (h : Row W v 1 (l.map fun x => [sv x])) (hc : (e = true ∧ n = [] ∧ i = -1) ∨ (¬ (e = true ∧ n = []) ∧ ∃ k : Nat, i = (k : Int) ∧ l[k]? = some n)) :
    Calls Tryd.prog 18 #[v, .int .i64 i, .string ⟨n.toArray⟩, .bool e] W fun e w' => e = .returned (.bool true) ∧ W = w' := by
  rcases hc with ⟨rfl, rfl, rfl⟩ | ⟨hne, k, rfl, hk⟩
  · go_enter Tryd.func18, Tryd.ntmps18
    go_wp2_with fail
    go_ret
    exact ⟨rfl, rfl⟩
  · have HA := Lib.hid (at_any l v k n W h hk)
    clear hk h
    cases e
    · go_enter Tryd.func18, Tryd.ntmps18
      go_wp2_with fail
      refine HA.out.mono ?_
      rintro e w5 ⟨rfl, rfl⟩
      go_wp2_with fail
      go_ret
      exact ⟨by simp, rfl⟩
    · have hn : n ≠ [] := fun h => hne ⟨rfl, h⟩
      have hb : (n == []) = false := by simpa using hn
      go_enter Tryd.func18, Tryd.ntmps18
      go_wp2_with fail
      refine HA.out.mono ?_
      rintro e w5 ⟨rfl, rfl⟩
      go_wp2_with fail
      go_ret
      exact ⟨by simp, rfl⟩
end Go.Proofs.YtdhjibnkebbejaaDoor.Rs
