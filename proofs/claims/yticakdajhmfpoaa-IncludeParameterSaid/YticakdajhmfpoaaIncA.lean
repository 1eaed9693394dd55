/-
  Include: its small functions, and those of the reference.
-/
import Derived.Test.YticakdajhmfpoaaIncMem
import Derived.Test.YticakdajhmfpoaaMapS
import Derived.Test.YticakdajhmfpoaaShelf
namespace Go.Proofs.Yticakdajhmfpoaa.Ic
open Go.RowKit Mem Vw Rs
set_option linter.unusedVariables false
set_option linter.unusedSimpArgs false

theorem clause_no {k : Int} (h9 : k ≠ 9) (h10 : k ≠ 10) (h11 : k ≠ 11) (h12 : k ≠ 12) : isClause k = false := by
  unfold isClause
  simp [h9, h10, h11, h12]
set_option maxRecDepth 100000 in
theorem isClause_any (k : Int) (W : World) : Calls Try.prog 33 #[.int .i64 k] W fun e w' => e = .returned (.bool (isClause k)) ∧ w' = W := by
  by_cases h9 : k = 9
  · subst h9
    go_enter Try.func33, Try.ntmps33
    go_wp2_with fail
    go_ret
    exact ⟨rfl, rfl⟩
  by_cases h10 : k = 10
  · subst h10
    go_enter Try.func33, Try.ntmps33
    go_wp2_with fail
    go_ret
    exact ⟨rfl, rfl⟩
  by_cases h11 : k = 11
  · subst h11
    go_enter Try.func33, Try.ntmps33
    go_wp2_with fail
    go_ret
    exact ⟨rfl, rfl⟩
  by_cases h12 : k = 12
  · subst h12
    go_enter Try.func33, Try.ntmps33
    go_wp2_with fail
    go_ret
    exact ⟨rfl, rfl⟩
  have b9 : (k == 9) = false := by simpa using h9
  have b10 : (k == 10) = false := by simpa using h10
  have b11 : (k == 11) = false := by simpa using h11
  have b12 : (k == 12) = false := by simpa using h12
  have HN := Lib.hid (clause_no h9 h10 h11 h12)
  clear h9 h10 h11 h12
  rw [HN.out]
  go_enter Try.func33, Try.ntmps33
  go_wp2_with fail
  go_ret
  exact ⟨rfl, rfl⟩
set_option maxRecDepth 100000 in
theorem rClause_any (k : Int) (W : World) : Calls Try.prog 13 #[.int .i64 k] W fun e w' => e = .returned (.bool (isClause k)) ∧ w' = W := by
  by_cases h9 : k = 9
  · subst h9
    go_enter Try.func13, Try.ntmps13
    go_wp2_with fail
    go_ret
    exact ⟨rfl, rfl⟩
  by_cases h10 : k = 10
  · subst h10
    go_enter Try.func13, Try.ntmps13
    go_wp2_with fail
    go_ret
    exact ⟨rfl, rfl⟩
  by_cases h11 : k = 11
  · subst h11
    go_enter Try.func13, Try.ntmps13
    go_wp2_with fail
    go_ret
    exact ⟨rfl, rfl⟩
  by_cases h12 : k = 12
  · subst h12
    go_enter Try.func13, Try.ntmps13
    go_wp2_with fail
    go_ret
    exact ⟨rfl, rfl⟩
  have b9 : (k == 9) = false := by simpa using h9
  have b10 : (k == 10) = false := by simpa using h10
  have b11 : (k == 11) = false := by simpa using h11
  have b12 : (k == 12) = false := by simpa using h12
  have HN := Lib.hid (clause_no h9 h10 h11 h12)
  clear h9 h10 h11 h12
  rw [HN.out]
  go_enter Try.func13, Try.ntmps13
  go_wp2_with fail
  go_ret
  exact ⟨rfl, rfl⟩
set_option maxRecDepth 100000 in
theorem rDefines_any (k : Int) (W : World) : Calls Try.prog 12 #[.int .i64 k] W fun e w' => e = .returned (.bool (defines k)) ∧ w' = W := by
  by_cases h9 : k = 13
  · subst h9
    go_enter Try.func12, Try.ntmps12
    go_wp2_with fail
    go_ret
    exact ⟨rfl, rfl⟩
  by_cases h10 : k = 6
  · subst h10
    go_enter Try.func12, Try.ntmps12
    go_wp2_with fail
    go_ret
    exact ⟨rfl, rfl⟩
  by_cases h11 : k = 7
  · subst h11
    go_enter Try.func12, Try.ntmps12
    go_wp2_with fail
    go_ret
    exact ⟨rfl, rfl⟩
  have b9 : (k == 13) = false := by simpa using h9
  have b10 : (k == 6) = false := by simpa using h10
  have b11 : (k == 7) = false := by simpa using h11
  have HN : Hid (defines k = false) := by show _ = _; unfold defines; simp [h9, h10, h11]
  clear h9 h10 h11
  rw [HN.out]
  go_enter Try.func12, Try.ntmps12
  go_wp2_with fail
  go_ret
  exact ⟨rfl, rfl⟩
/-- The first index of a name; -1: none, or the name is empty. -/
def rindex (l : List Rs.Bytes) (n : Rs.Bytes) : Int := if n = [] then -1 else match l.findIdx? (· == n) with | some j => (j : Int) | none => -1
theorem rindex_hit {l : List Rs.Bytes} {n : Rs.Bytes} {j : Nat} (hn : n ≠ []) (hno : ∀ i, i < j → l[i]? ≠ some n) (h : l[j]? = some n) : rindex l n = j := by
  have hf : l.findIdx? (· == n) = some j := by
    obtain ⟨hj, he⟩ := List.getElem?_eq_some_iff.1 h
    rw [List.findIdx?_eq_some_iff_getElem]
    refine ⟨hj, by simp [he], fun i hi => ?_⟩
    have := hno i hi
    rw [List.getElem?_eq_getElem (by omega)] at this
    simpa using this
  unfold rindex
  rw [if_neg hn, hf]
theorem rindex_no {l : List Rs.Bytes} {n : Rs.Bytes} (hno : ∀ i, i < l.length → l[i]? ≠ some n) : rindex l n = -1 := by
  have hf : l.findIdx? (· == n) = none := by
    rw [List.findIdx?_eq_none_iff]
    intro x hx
    obtain ⟨i, hi⟩ := List.mem_iff_getElem?.1 hx
    have := hno i (List.getElem?_eq_some_iff.1 hi).1
    rw [hi] at this
    simpa using this
  unfold rindex
  rw [hf]
  split <;> rfl
set_option maxRecDepth 100000 in
set_option maxHeartbeats 2000000 in
theorem rindex_any (l : List Rs.Bytes) (v : Value) (n : Rs.Bytes) (W : World) (h : Row W v 1 (l.map fun x => [sv x])) : Calls Try.prog 27 #[v, .string ⟨n.toArray⟩] W fun e w' => e = .returned (.int .i64 (rindex l n)) ∧ w' = W := by
  obtain ⟨A, c, hv, h1, h2⟩ := h.slice
  rw [List.length_map] at hv h1
  subst hv
  have HR := Lib.hid h
  clear h
  have hzl : l.length ≤ 9223372036854775807 := by omega
  by_cases hn : n = []
  · subst hn
    have hr : rindex l [] = -1 := rfl
    rw [hr]
    show Calls _ _ #[_, .string ⟨#[]⟩] _ _
    go_enter Try.func27, Try.ntmps27
    go_wp2_with fail
    go_loopw [5] (fun i wr => i = .int .i64 0 ∧ wr = W) (fun _ _ => 0)
    case atStart => exact ⟨rfl, rfl⟩
    case round =>
      obtain ⟨rfl, rfl⟩ := hrel
      by_cases hl : 0 < l.length
      · have i2 : (0 : Int) < (l.length : Int) := by omega
        go_wp2_with fail
        go_ret
        exact ⟨rfl, rfl⟩
      · have i2 : ¬ (0 : Int) < (l.length : Int) := by omega
        go_wp2_with fail
        go_ret
        exact ⟨rfl, rfl⟩
  · have kb : (n != []) = true := by simpa using hn
    have kb2 : (n == []) = false := by simpa using hn
    have HNN := Lib.hid hn
    clear hn
    go_enter Try.func27, Try.ntmps27
    go_wp2_with fail
    go_loopw [5] (fun i wr => ∃ j : Nat, i = .int .i64 j ∧ j ≤ l.length ∧ wr = W ∧ ∀ i, i < j → l[i]? ≠ some n) (fun i _ => l.length - (intOf i).toNat)
    case atStart => exact ⟨0, rfl, Nat.zero_le _, rfl, fun i hi => absurd hi (Nat.not_lt_zero _)⟩
    case round =>
      obtain ⟨j, rfl, hj, rfl, hno⟩ := hrel
      have HNO := Lib.hid hno
      clear hno
      have j0 : (0 : Int) ≤ (j : Int) := Int.natCast_nonneg _
      by_cases hlt : j < l.length
      · have j1 : (j : Int) < (l.length : Int) := by omega
        obtain ⟨g1, o1, c1, e1, _, _, _, hat⟩ := HR.out.at (by intro e; rw [List.map_eq_nil_iff] at e; rw [e] at hlt; simp at hlt)
        have hA : A = some ⟨g1, o1, none⟩ := by injection e1
        subst hA
        obtain ⟨y, hy⟩ : ∃ y, l[j]? = some y := ⟨_, List.getElem?_eq_getElem hlt⟩
        have kc : wr.cell? ⟨g1, o1 + j, none⟩ = some (.string ⟨y.toArray⟩) := by
          have := hat j [sv y] (by rw [List.getElem?_map, hy]; rfl) 0 _ rfl
          rw [Nat.mul_one] at this
          exact this
        have HY := Lib.hid hy
        clear hat e1 hy
        by_cases hxy : y = n
        · subst hxy
          go_wp2_with fail
          go_ret
          exact ⟨ret_int (rindex_hit HNN.out HNO.out HY.out).symm, rfl⟩
        · have hb : (y == n) = false := by simpa using hxy
          go_wp2_with fail
          go_roundw
          case rel =>
            refine ⟨j + 1, by go_num, hlt, trivial, fun i hi => ?_⟩
            by_cases hij : i = j
            · subst hij
              rw [HY.out]
              intro e
              injection e with e
              exact hxy e
            · exact HNO.out i (by omega)
          case measure => simp [intOf]; omega
      · have hjl : j = l.length := by omega
        subst hjl
        have j1 : ¬ (l.length : Int) < (l.length : Int) := by omega
        have HF := Lib.hid (rindex_no HNO.out)
        go_wp2_with fail
        go_ret
        exact ⟨ret_int HF.out.symm, rfl⟩
/-- The part of a name before its first dot, or the name. -/
def rfirst (n : Rs.Bytes) : Rs.Bytes := (cut n).getD n
theorem cut_take : ∀ (n : Rs.Bytes) (j : Nat), (∀ i, i < j → n[i]? ≠ some dot) → n[j]? = some dot → cut n = some (n.take j)
  | [], j, _, h => by simp at h
  | c :: r, 0, _, h => by
    simp only [List.getElem?_cons_zero, Option.some.injEq] at h
    subst h
    rfl
  | c :: r, j + 1, h1, h2 => by
    have hc : c ≠ dot := fun e => h1 0 (Nat.succ_pos _) (by rw [e]; rfl)
    have := cut_take r j (fun i hi => h1 (i + 1) (Nat.succ_lt_succ hi)) (by simpa using h2)
    unfold cut
    rw [if_neg hc, this]
    rfl
theorem cut_no : ∀ (n : Rs.Bytes), (∀ i, i < n.length → n[i]? ≠ some dot) → cut n = none
  | [], _ => rfl
  | c :: r, h => by
    have hc : c ≠ dot := fun e => h 0 (Nat.succ_pos _) (by rw [e]; rfl)
    unfold cut
    rw [if_neg hc, cut_no r (fun i hi => by simpa using h (i + 1) (Nat.succ_lt_succ hi))]
    rfl
set_option maxRecDepth 100000 in
set_option maxHeartbeats 2000000 in
theorem rfirst_any (n : Rs.Bytes) (W : World) (hl : n.length ≤ maxLen) : Calls Try.prog 28 #[.string ⟨n.toArray⟩] W fun e w' => e = .returned (.string ⟨(rfirst n).toArray⟩) ∧ w' = W := by
  have hzl : n.length ≤ 9223372036854775807 := by unfold maxLen at hl; omega
  clear hl
  go_enter Try.func28, Try.ntmps28
  go_wp2_with fail
  go_loopw [3] (fun i wr => ∃ j : Nat, i = .int .i64 j ∧ j ≤ n.length ∧ wr = W ∧ Hid (∀ i, i < j → n[i]? ≠ some dot)) (fun i _ => n.length - (intOf i).toNat)
  case atStart => exact ⟨0, rfl, Nat.zero_le _, rfl, Lib.hid fun i hi => absurd hi (Nat.not_lt_zero _)⟩
  case round =>
    obtain ⟨j, rfl, hj, rfl, HNO⟩ := hrel
    have j0 : (0 : Int) ≤ (j : Int) := Int.natCast_nonneg _
    by_cases hlt : j < n.length
    · have j1 : (j : Int) < (n.length : Int) := by omega
      obtain ⟨c, hc⟩ : ∃ c, n[j]? = some c := ⟨_, List.getElem?_eq_getElem hlt⟩
      go_wp2_with fail
      · rename_i hb
        have hcd : n[j]? = some dot := by
          have h1 : ((n[j].toNat : Int) == 46) = true := hb
          have h2 : n[j].toNat = 46 := by have h3 := (beq_iff_eq.1 h1); omega
          rw [List.getElem?_eq_getElem hlt]
          exact congrArg some (UInt8.toNat.inj h2)
        go_ret
        unfold rfirst
        rw [cut_take n j HNO.out hcd]
        refine ⟨?_, rfl⟩
        show Ending.returned (.string ((⟨n.toArray⟩ : ByteArray).extract 0 j)) = .returned (.string ⟨(n.take j).toArray⟩)
        congr 2
        apply ByteArray.ext
        rw [ByteArray.data_extract]
        simp
      · rename_i hb
        have hcd : n[j]? ≠ some dot := fun e => by
          have h1 : ((n[j].toNat : Int) == 46) = false := hb
          rw [List.getElem?_eq_getElem hlt] at e
          have e2 := Option.some.inj e
          rw [e2] at h1
          exact absurd h1 (by decide)
        refine ⟨⟨j + 1, by go_num, hlt, trivial, Lib.hid fun i hi => ?_⟩, by simp [intOf]; omega⟩
        by_cases hij : i = j
        · rw [hij]; exact hcd
        · exact HNO.out i (by omega)
    · obtain rfl : j = n.length := by omega
      go_wp2_with fail
      go_ret
      unfold rfirst
      rw [cut_no n HNO.out]
      exact ⟨rfl, rfl⟩
set_option maxRecDepth 100000 in
theorem rchange_any (n f g : Rs.Bytes) (W : World) : Calls Try.prog 29 #[.string ⟨n.toArray⟩, .string ⟨f.toArray⟩, .string ⟨g.toArray⟩] W fun e w' => e = .returned (.string ⟨(if n = f ∧ n ≠ [] then g else n).toArray⟩) ∧ w' = W := by
  by_cases hn : n = []
  · subst hn
    rw [if_neg (by simp)]
    show Calls _ _ #[.string ⟨#[]⟩, _, _] _ _
    by_cases hf : ([] : Rs.Bytes) = f
    · subst hf
      show Calls _ _ #[.string ⟨#[]⟩, .string ⟨#[]⟩, _] _ _
      go_enter Try.func29, Try.ntmps29
      go_wp2_with fail
      go_ret
      exact ⟨rfl, rfl⟩
    · have kb : (([] : Rs.Bytes) == f) = false := by simpa using hf
      go_enter Try.func29, Try.ntmps29
      go_wp2_with fail
      go_ret
      exact ⟨rfl, rfl⟩
  · have kb : (n != []) = true := by simpa using hn
    have kb2 : (n == []) = false := by simpa using hn
    by_cases hf : n = f
    · subst hf
      rw [if_pos ⟨rfl, hn⟩]
      clear hn
      go_enter Try.func29, Try.ntmps29
      go_wp2_with fail
      go_ret
      exact ⟨rfl, rfl⟩
    · have kc : (n == f) = false := by simpa using hf
      rw [if_neg (fun e => hf e.1)]
      clear hn hf
      go_enter Try.func29, Try.ntmps29
      go_wp2_with fail
      go_ret
      exact ⟨rfl, rfl⟩
end Go.Proofs.Yticakdajhmfpoaa.Ic
