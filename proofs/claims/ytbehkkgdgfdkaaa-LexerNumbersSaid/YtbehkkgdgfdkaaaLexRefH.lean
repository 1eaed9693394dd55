/-
  What the functions Alike and Text of package estoppelref06 return.
-/
import Derived.Test.YtbehkkgdgfdkaaaLexRefG
namespace Go.Proofs.Ytbehkkgdgfdkaaa.Lx
open Go.RowKit
set_option linter.unusedVariables false

/-- A token apart from its offset. -/
def key (t : Tok) : Nat × List UInt8 × Nat := (t.kind, t.text, t.n)

set_option maxHeartbeats 1000000 in
theorem alike_true (ts us : List Tok) (A B : Option Addr) (ca cb : Nat) (w : World) (hl : ts.length ≤ 1000000) (hk : us.map key = ts.map key) (ha : TokRow w A ts) (hb : TokRow w B us) :
    Calls Try.prog 16 #[.slice A ts.length ca, .slice B ts.length cb] w fun e w' => e = .returned (.bool true) ∧ ∃ m, w' = w.drewN m := by
  have hlen : us.length = ts.length := by have := congrArg List.length hk; simpa using this
  have HA := Lib.hid ha; clear ha
  have HB := Lib.hid hb; clear hb
  have HK := Lib.hid hk; clear hk
  have HL := Lib.hid hlen; clear hlen
  go_enter Try.func16, Try.ntmps16
  go_wp2_with fail
  go_loopw [5] (fun i wr => ∃ (j m : Nat), i = .int .i64 j ∧ j ≤ ts.length ∧ wr = w.drewN m) (fun i _ => ts.length - (intOf i).toNat)
  case atStart => exact ⟨0, 0, rfl, by omega, rfl⟩
  case round =>
    obtain ⟨j, m, rfl, hj, rfl⟩ := hrel
    by_cases hlt : j < ts.length
    · have hlu : j < us.length := by rw [HL.out]; exact hlt
      obtain ⟨g, o, rfl, hg, hc⟩ := HA.out (by omega)
      obtain ⟨g', o', rfl, hg', hc'⟩ := HB.out (by omega)
      obtain ⟨a0, a1, a2, a3⟩ := hc j hlt
      obtain ⟨b0, b1, b2, b3⟩ := hc' j hlu
      have hkj : key us[j] = key ts[j] := by
        have h1 := congrArg (fun l => l[j]?) HK.out
        simp only [List.getElem?_map, List.getElem?_eq_getElem hlt, List.getElem?_eq_getElem hlu, Option.map_some] at h1
        injection h1
      simp only [key, Prod.mk.injEq] at hkj
      obtain ⟨k1, k2, k3⟩ := hkj
      rw [k1] at b0
      rw [k2] at b1
      rw [k3] at b2
      clear hc hc' k1 k2 k3 a3 b3
      generalize ts[j] = t at *
      go_wp2_with fail
      go_quiet (fail)
      go_wp2_with fail
      go_roundw
      case rel => exact ⟨j + 1, m + nq, by go_num, by omega, rfl⟩
      case measure => simp [intOf]; omega
    · go_wp2_with fail
      go_ret
      exact ⟨rfl, m, rfl⟩

/-- The texts of tokens with a separator after each one. -/
def textOf (sep : List UInt8) (ts : List Tok) : List UInt8 := ts.flatMap fun t => t.text ++ sep
theorem textOf_snoc (sep : List UInt8) (ts : List Tok) (t : Tok) : textOf sep (ts ++ [t]) = textOf sep ts ++ t.text ++ sep := by simp [textOf]

theorem textOf_take (sep : List UInt8) (ts : List Tok) (j : Nat) : (textOf sep (ts.take j)).length ≤ (textOf sep ts).length := by
  have h : textOf sep ts = textOf sep (ts.take j) ++ textOf sep (ts.drop j) := by
    unfold textOf; rw [← List.flatMap_append, List.take_append_drop]
  rw [h, List.length_append]; omega

set_option maxHeartbeats 1000000 in
theorem text_any (ts : List Tok) (A : Option Addr) (ca : Nat) (sep : ByteArray) (w : World) (hl : ts.length ≤ 1000000) (hsum : (textOf (bs sep) ts).length ≤ 1000000) (ha : TokRow w A ts) :
    Calls Try.prog 15 #[.slice A ts.length ca, .string sep] w fun e w' => (∃ x, e = .returned (.string x) ∧ bs x = textOf (bs sep) ts) ∧ w = w' := by
  have HA := Lib.hid ha; clear ha
  have HS := Lib.hid hsum; clear hsum
  go_enter Try.func15, Try.ntmps15
  go_wp2_with fail
  go_loop [5, 6] (fun out i => ∃ (j : Nat) (x : ByteArray), i = .int .i64 j ∧ out = .string x ∧ j ≤ ts.length ∧ Hid (bs x = textOf (bs sep) (ts.take j))) (fun _ i => ts.length - (intOf i).toNat)
  case atStart => exact ⟨0, ⟨#[]⟩, rfl, rfl, by omega, rfl⟩
  case round =>
    obtain ⟨j, x, rfl, rfl, hj, HX⟩ := hrel
    by_cases hlt : j < ts.length
    · obtain ⟨g, o, rfl, hg, hc⟩ := HA.out (by omega)
      obtain ⟨a0, a1, a2, a3⟩ := hc j hlt
      clear hc a0 a2 a3
      obtain ⟨y, hy⟩ : ∃ y, ByteArray.mk ts[j].text.toArray = y := ⟨_, rfl⟩
      rw [hy] at a1
      have hn : bs (x ++ y ++ sep) = textOf (bs sep) (ts.take (j + 1)) := by
        rw [bs_append, bs_append, ← hy, bs_lit ts[j].text, HX.out, List.take_succ_eq_append_getElem hlt, textOf_snoc]
      have hz : x.size + y.size + sep.size ≤ 1000000 := by
        have h1 := textOf_take (bs sep) ts (j + 1)
        have h2 := HS.out
        rw [← hn, bs_length, ByteArray.size_append, ByteArray.size_append] at h1
        omega
      have HN := Lib.hid hn; clear hn hy
      go_wp2_with fail
      go_round
      case rel => exact ⟨j + 1, _, by go_num, rfl, by omega, HN⟩
      case measure => simp [intOf]; omega
    · go_wp2_with fail
      go_ret
      refine ⟨⟨x, rfl, ?_⟩, rfl⟩
      have := HX.out
      rwa [List.take_of_length_le (by omega)] at this
end Go.Proofs.Ytbehkkgdgfdkaaa.Lx
