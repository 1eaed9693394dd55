/-
  Calendars walked: date.Valid, isDay; slices.Contains at bool; sort.Search over the program's closure.
-/
import Derived.Test.YticlmkfifpkdpaaDoorDlDate
import Derived.Test.YticlmkfifpkdpaaDoorShelf
namespace Go.Proofs.YticlmkfifpkdpaaDoor.Dl
open Go.RowKit Mem Vw
set_option linter.unusedVariables false
set_option linter.unusedSimpArgs false

theorem isDay_any (d : Int) (W : World) : Calls Tryd.prog 56 #[.int .i64 d] W fun e w' => e = .returned (.bool (isDay d)) ∧ w' = W := by
  unfold isDay
  by_cases h : 0 ≤ d
  · rw [decide_eq_true h, Bool.true_and]
    go_enter Tryd.func56, Tryd.ntmps56
    go_wp2_with fail
    go_ret
    exact ⟨rfl, rfl⟩
  · rw [decide_eq_false h, Bool.false_and]
    go_enter Tryd.func56, Tryd.ntmps56
    go_wp2_with fail
    go_ret
    exact ⟨rfl, rfl⟩
theorem contains_of {wk : List Bool} {k : Nat} (h : wk.getD k true = false) : wk.contains false = true := by
  rw [List.getD_eq_getElem?_getD] at h
  cases hk : wk[k]? with
  | none => rw [hk] at h; cases h
  | some b => rw [hk] at h; simp at h; subst h; simpa using List.mem_of_getElem? hk
theorem not_contains_of {wk : List Bool} (h : ∀ j, j < wk.length → wk.getD j true = true) : wk.contains false = false := by
  cases hc : wk.contains false
  · rfl
  · have hm : false ∈ wk := by simpa using hc
    obtain ⟨i, hi, he⟩ := List.getElem_of_mem hm
    have := h i hi
    rw [List.getD_eq_getElem?_getD, List.getElem?_eq_getElem hi, he] at this
    cases this
theorem index_any (b : Nat) (wk : List Bool) (W : World) (h7 : wk.length = 7) (hc : ∀ j, j < 7 → W.cell? ⟨b, j, none⟩ = some (.bool (wk.getD j true))) :
    Calls Tryd.prog 94 #[.slice (some ⟨b, 0, none⟩) 7 7, .bool false] W fun e w' => (∃ i : Int, e = .returned (.int .i64 i) ∧ decide (i ≥ 0) = wk.contains false) ∧ w' = W := by
  have HC := Lib.hid hc; clear hc
  go_enter Tryd.func94, Tryd.ntmps94
  go_wp2_with fail
  go_loopw [8] (fun i wr => ∃ k : Nat, i = .int .i64 k ∧ k ≤ 7 ∧ Hid (∀ j, j < k → wk.getD j true = true) ∧ wr = W) (fun i _ => 7 - (intOf i).toNat)
  case atStart => exact ⟨0, rfl, by omega, (fun j hj => by omega), rfl⟩
  case round =>
    obtain ⟨k, rfl, hk, HA, rfl⟩ := hrel
    by_cases hlt : k < 7
    · have c0 := HC.out k hlt
      have e0 : (⟨b, 0 + k, none⟩ : Addr) = ⟨b, k, none⟩ := by rw [Nat.zero_add]
      cases hv : wk.getD k true
      · rw [hv] at c0
        have HV := Lib.hid hv; clear hv
        go_wp2_with fail
        go_ret
        refine ⟨⟨k, rfl, ?_⟩, rfl⟩
        rw [contains_of HV.out]
        simp
      · rw [hv] at c0
        have HV := Lib.hid hv; clear hv
        go_wp2_with fail
        go_roundw
        case rel =>
          refine ⟨k + 1, by go_num, by omega, ?_, by first | rfl | trivial⟩
          intro j hj
          rcases (by omega : j < k ∨ j = k) with h | rfl
          · exact HA.out j h
          · exact HV.out
        case measure => simp [intOf]; omega
    · have hk7 : k = 7 := by omega
      subst hk7
      go_wp2_with fail
      go_ret
      refine ⟨⟨-1, rfl, ?_⟩, by first | rfl | trivial⟩
      rw [not_contains_of (by rw [h7]; exact HA.out)]
      rfl
theorem contains_any (b : Nat) (wk : List Bool) (W : World) (h7 : wk.length = 7) (hc : ∀ j, j < 7 → W.cell? ⟨b, j, none⟩ = some (.bool (wk.getD j true))) :
    Calls Tryd.prog 62 #[.slice (some ⟨b, 0, none⟩) 7 7, .bool false] W fun e w' => e = .returned (.bool (wk.contains false)) ∧ w' = W := by
  have HI := Lib.hid (index_any b wk W h7 hc); clear hc h7
  go_enter Tryd.func62, Tryd.ntmps62
  go_wp2_with fail
  refine HI.out.mono ?_
  rintro e w' ⟨⟨i, rfl, hi⟩, rfl⟩
  have HJ := Lib.hid hi; clear hi
  go_wp2_with fail
  go_ret
  refine ⟨?_, rfl⟩
  rw [← HJ.out]; rfl
/-- The holidays as they are read. -/
theorem CalAt.slice {W : World} {c : Cal} {hv : Value} (h : CalAt W c hv) : ∃ A n, hv = .slice A c.hol.length n ∧ c.hol.length ≤ n ∧ n ≤ 9223372036854775807 ∧ ∀ k x, c.hol[k]? = some x → ∃ g o, A = some ⟨g, o, none⟩ ∧ g < W.heap.size ∧ W.cell? ⟨g, o + k, none⟩ = some (.int .i64 x) := by
  obtain ⟨A, n, e, h1, h2⟩ := h.hol
  have hl : (nums c.hol).length = c.hol.length := by unfold nums; simp
  rw [hl] at e h1
  refine ⟨A, n, e, h1.1, h1.2, fun k x hk => ?_⟩
  rcases h2 with h2 | ⟨g, o, hA, hg, hr⟩
  · have : c.hol = [] := by unfold nums at h2; simpa using h2
    rw [this] at hk; cases hk
  · refine ⟨g, o, hA, hg, ?_⟩
    have hx : (nums c.hol)[k]? = some [nv x] := by unfold nums; rw [List.getElem?_map, hk]; rfl
    have := hr k _ hx 0 (nv x) rfl
    rwa [Nat.mul_one] at this
theorem ccs_cells {W : World} {b : Nat} {c : Cal} {hv : Value} (h : W.heap[b]? = some (.cells (ccs c hv).toArray 28 (0, 0))) : (∀ j, j < 7 → W.cell? ⟨b, j, none⟩ = some (.bool (c.wk.getD j false))) ∧ W.cell? ⟨b, 7, none⟩ = some hv := by
  refine ⟨fun j hj => ?_, (cell_of_blk h 7).trans rfl⟩
  rw [cell_of_blk h j]
  have : j = 0 ∨ j = 1 ∨ j = 2 ∨ j = 3 ∨ j = 4 ∨ j = 5 ∨ j = 6 := by omega
  rcases this with rfl | rfl | rfl | rfl | rfl | rfl | rfl <;> rfl
theorem getD_tf {wk : List Bool} (h : wk.length = 7) {j : Nat} (hj : j < 7) : wk.getD j true = wk.getD j false := by
  rw [List.getD_eq_getElem?_getD, List.getD_eq_getElem?_getD, List.getElem?_eq_getElem (by omega)]; rfl
def lastOf (l : List Int) (k : Nat) : Int := if k = 0 then -1 else l.getD (k - 1) 0
theorem chain_drop {l : List Int} {k : Nat} {x : Int} (h : l[k]? = some x) (a : Int) : chain a (l.drop k) = (!(decide (x ≤ a) || decide (73048 < x)) && chain x (l.drop (k + 1))) := by
  have : l.drop k = x :: l.drop (k + 1) := by
    obtain ⟨hk, e⟩ := List.getElem?_eq_some_iff.1 h
    rw [List.drop_eq_getElem_cons hk, e]
  rw [this]; rfl
def VRel (c : Cal) (W : World) (l i : Value) (wr : World) : Prop := ∃ (k : Nat) (a : Int), i = .int .i64 k ∧ k ≤ c.hol.length ∧ l = .int .i64 a ∧ Hid (chain (-1) c.hol = chain a (c.hol.drop k)) ∧ wr = W
set_option maxRecDepth 100000 in
theorem cvalid_any (c : Cal) (hv : Value) (W : World) (h : CalAt W c hv) : Calls Tryd.prog 43 #[.agg (ccs c hv).toArray] W fun e w' => e = .returned (.bool c.ok) ∧ Below W.heap.size W w' := by
  have HWK := Lib.hid h.wk
  obtain ⟨A, n, rfl, hn1, hn2, hcell⟩ := h.slice
  have HC := Lib.hid hcell
  clear h hcell
  obtain ⟨w0, HW0⟩ : ∃ w0, Hid (W.alloc (.cells (ccs c (.slice A c.hol.length n)).toArray 28) = w0) := ⟨_, rfl⟩
  have HB0 : Hid (w0.heap[W.heap.size]? = some (.cells (ccs c (.slice A c.hol.length n)).toArray 28 (0, 0))) := by rw [← HW0.out]; exact blk_newn rfl
  have HBE : Hid (Below W.heap.size W w0) := by rw [← HW0.out]; exact (Below.refl _ W).alloc (Nat.le_refl _) _
  have HK := Lib.hid (contains_any W.heap.size c.wk w0 HWK.out (fun j hj => by rw [getD_tf HWK.out hj]; exact (ccs_cells HB0.out).1 j hj))
  have c7 := (ccs_cells HB0.out).2
  obtain ⟨okv, HOK⟩ : ∃ b, Hid (c.ok = b) := ⟨_, rfl⟩
  rw [HOK.out]
  have HOK2 := HOK.out
  unfold Cal.ok at HOK2
  have HO3 := Lib.hid HOK2; clear HOK2
  go_enter Tryd.func43, Tryd.ntmps43
  go_upto_region 1 with fail
  rw [HW0.out]
  clear HW0
  go_wp2_with fail
  refine HK.out.mono ?_
  rintro e w' ⟨rfl, rfl⟩
  clear HK
  cases hct : c.wk.contains false
  · rw [hct] at HO3
    go_wp2_with fail
    go_ret
    exact ⟨by rw [← HO3.out]; rfl, HBE.out⟩
  · rw [hct] at HO3
    clear hct
    by_cases hl : c.hol.length ≤ 400
    · have HO4 : Hid (chain (-1) c.hol = okv) := by have h := HO3.out; rw [decide_eq_true hl] at h; show _ = _; simpa using h
      clear HO3
      go_wp2_with fail
      go_loopw [3, 19] (fun l i wr => VRel c w' l i wr) (fun _ i _ => c.hol.length - (intOf i).toNat)
      case atStart => exact ⟨0, -1, rfl, by omega, rfl, rfl, rfl⟩
      case round =>
        obtain ⟨k, a, rfl, hk, rfl, HCH, rfl⟩ := hrel
        by_cases hlt : k < c.hol.length
        · have hx := List.getElem?_eq_getElem hlt
          generalize c.hol[k] = x at hx
          have HX := Lib.hid hx
          obtain ⟨g, o, hA, hg, c0⟩ := HC.out k x hx
          subst hA
          have c0 := (World.cell?_of_block (a := ⟨g, o + k, none⟩) (HBE.out.block g hg)).trans c0
          have HST := Lib.hid (chain_drop hx a)
          clear hx
          by_cases h1 : x ≤ a
          · have HF : Hid (okv = false) := by show _ = _; rw [← HO4.out, HCH.out, HST.out, decide_eq_true h1]; rfl
            go_wp2_with fail
            go_ret
            exact ⟨by rw [HF.out]; rfl, HBE.out⟩
          · by_cases h2 : 73048 < x
            · have HF : Hid (okv = false) := by show _ = _; rw [← HO4.out, HCH.out, HST.out, decide_eq_true h2]; simp
              go_wp2_with fail
              go_ret
              exact ⟨by rw [HF.out]; rfl, HBE.out⟩
            · have HF : Hid (chain (-1) c.hol = chain x (c.hol.drop (k + 1))) := by show _ = _; rw [HCH.out, HST.out, decide_eq_false h1, decide_eq_false h2]; rfl
              go_wp2_with fail
              go_roundw
              case rel => exact ⟨k + 1, x, by go_num, by omega, rfl, HF, rfl⟩
              case measure => simp [intOf]; omega
        · have hke : k = c.hol.length := by omega
          have HF : Hid (okv = true) := by show _ = _; rw [← HO4.out, HCH.out, hke, List.drop_length]; rfl
          subst hke
          go_wp2_with fail
          go_ret
          exact ⟨by rw [HF.out]; rfl, HBE.out⟩
    · have HF : Hid (okv = false) := by show _ = _; rw [← HO3.out, decide_eq_false hl]; rfl
      go_wp2_with fail
      go_ret
      exact ⟨by rw [HF.out]; rfl, HBE.out⟩
end Go.Proofs.YticlmkfifpkdpaaDoor.Dl
