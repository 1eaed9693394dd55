/-
  Include: the number of items in all, as the program counts it and as the reference does; small sources.
-/
import Derived.Test.YticakdajhmfpoaaIncItem
namespace Go.Proofs.Yticakdajhmfpoaa.Ic
open Go.RowKit Mem Vw Rs
set_option linter.unusedVariables false
set_option linter.unusedSimpArgs false

theorem tsz_take_le (l : List DT) (k : Nat) : tsz (l.take k) ≤ tsz l := by
  have := tsz_app (l.take k) (l.drop k)
  rw [List.take_append_drop] at this
  omega
/-- What number returns. -/
def Num (l : List DT) (lim : Int) (c : Nat) : Prop := ((tsz l : Int) ≤ lim → c = tsz l) ∧ (lim < (tsz l : Int) → lim < (c : Int)) ∧ (c : Int) ≤ lim + 1
def NumR (l : List DT) (lim : Int) (W : World) (nv iv : Value) (wr : World) : Prop := ∃ k : Nat, iv = .int .i64 k ∧ k ≤ l.length ∧ nv = .int .i64 (tsz (l.take k) : Nat) ∧ (tsz (l.take k) : Int) ≤ lim ∧ Hid (Fr (fun _ => False) W wr)
set_option maxRecDepth 100000 in
set_option maxHeartbeats 4000000 in
theorem number_any : ∀ (n : Nat) (l : List DT) (v : Value) (lim : Int) (W : World), tsz l ≤ n → LayL (fun g => g < W.heap.size) W l v → 0 ≤ lim → lim ≤ 1000 →
    Calls Try.prog 24 #[v, .int .i64 lim] W fun e w' => ∃ c : Nat, e = .returned (.int .i64 c) ∧ Num l lim c ∧ Fr (fun _ => False) W w' := by
  intro n
  induction n using Nat.strongRecOn with
  | ind n ih =>
  intro l v lim W hn hL h0 h1
  have HIH : Hid (∀ (y : DT) (lim : Int) (w : World), y ∈ l → LayL (fun g => g < w.heap.size) w y.l y.i → 0 ≤ lim → lim ≤ 1000 → Calls Try.prog 24 #[y.i, .int .i64 lim] w fun e w' => ∃ c : Nat, e = .returned (.int .i64 c) ∧ Num y.l lim c ∧ Fr (fun _ => False) w w') := fun y lim w hy h => ih (tsz y.l) (Nat.lt_of_lt_of_le (tsz_lt hy) hn) y.l y.i lim w (Nat.le_refl _) h
  clear ih hn
  obtain ⟨A, cp, rfl, hc1, hc2⟩ := hL.slice
  have HL := Lib.hid hL
  clear hL
  have hzl : l.length ≤ 9223372036854775807 := by omega
  go_enter Try.func24, Try.ntmps24
  go_wp2_with fail
  go_loopw [5, 10] (fun nv iv wr => NumR l lim W nv iv wr) (fun _ i _ => l.length - (intOf i).toNat)
  case atStart => exact ⟨0, rfl, Nat.zero_le _, rfl, by rw [List.take_zero, tsz_nil]; exact h0, Fr.refl _ _⟩
  case round =>
    obtain ⟨k, rfl, hk, rfl, hle, HF⟩ := hrel
    have i1 : (0 : Int) ≤ (k : Int) := Int.natCast_nonneg _
    by_cases hlt : k < l.length
    · have i2 : (k : Int) < (l.length : Int) := by omega
      obtain ⟨y, hy⟩ : ∃ y, l[k]? = some y := ⟨_, List.getElem?_eq_getElem hlt⟩
      have HLr : Hid (LayL (fun g => g < W.heap.size) wr l (.slice A l.length cp)) := HL.out.fr HF.out (fun _ _ h => h)
      obtain ⟨g, o, hA, hg, hgB, hat⟩ := HLr.out.at hy
      subst hA
      have HAT := Lib.hid hat
      have HLY : Hid (Lay (fun g => g < W.heap.size) wr y) := HLr.out.lay y (List.mem_of_getElem? hy)
      have HYM : Hid (y ∈ l) := List.mem_of_getElem? hy
      have HTK := Lib.hid (tsz_take hy)
      have HTL := Lib.hid (tsz_take_le l (k + 1))
      obtain ⟨Ay, cy, hyi, _, _⟩ := HLY.out.items.slice
      have HYI := Lib.hid hyi
      have HKK := Lib.hid hlt
      obtain ⟨c, hc⟩ : ∃ c, tsz (l.take k) = c := ⟨_, rfl⟩
      rw [hc] at hle HTK ⊢
      clear hat hg hgB hy hc hyi hlt HLr
      have hle' := hle
      go_upto_region 4 with fail
      iterate 4 go_step
      refine wpList_load_mid rfl 41 _ rfl g (o + k * 33) rfl y.cells _ HAT.out Try.underlying41 rfl (info_itl y) ?_
      simp only [Act.put, List.setIfInBounds_toArray, List.set_cons_zero, List.set_cons_succ]
      iterate 3 go_step
      refine wpList_store_row rfl 41 _ _ rfl wr.heap.size y.cells.toArray rfl rfl 41 _ (blk_newn rfl) (info_it y) (cells_size y).symm HLY.out.one ?_
      simp only [Act.put, List.setIfInBounds_toArray, List.set_cons_zero, List.set_cons_succ]
      rw [World.setRow_alloc_new]
      obtain ⟨u, hu⟩ : ∃ u, wr.alloc (.cells y.cells.toArray 41) = u := ⟨_, rfl⟩
      rw [hu]
      have hyb : u.heap[wr.heap.size]? = some (.cells y.cells.toArray 41 (0, 0)) := by rw [← hu]; exact blk_newn rfl
      have HFU : Hid (Fr (fun _ => False) wr u) := by rw [← hu]; exact (Fr.refl _ wr).alloc _
      have k32 : u.cell? ⟨wr.heap.size, 32, none⟩ = some (.slice Ay y.l.length cy) := by
        rw [cell_of_blk hyb, DT.cells_eq, HYI.out]; rfl
      have HFW : Hid (Fr (fun _ => False) W u) := HF.out.trans HFU.out
      clear hu hyb HAT
      by_cases hlim : (c : Int) + 1 ≤ lim
      · have l1 : 0 ≤ lim - ((c : Int) + 1) := by omega
        have l2 : lim - ((c : Int) + 1) ≤ 1000 := by omega
        have HCA := HIH.out y (lim - ((c : Int) + 1)) u HYM.out ((HLY.out.items.fr HFU.out (fun _ _ h => h)).mono (fun g hg _ => hg)) l1 l2
        rw [HYI.out] at HCA
        have HCA := Lib.hid HCA
        go_wp2_with fail
        refine HCA.out.mono ?_
        rintro e w1 ⟨c1, rfl, hnum, hf⟩
        have HNUM := Lib.hid hnum
        have HF1 : Hid (Fr (fun _ => False) W w1) := HFW.out.trans hf
        have b1 : (c1 : Int) ≤ lim - ((c : Int) + 1) + 1 := hnum.2.2
        clear hnum hf HCA k32
        by_cases hgt : lim < (c : Int) + 1 + (c1 : Int)
        · go_wp2_with fail
          go_ret
          refine ⟨c + 1 + c1, by go_num, ⟨fun h => ?_, fun _ => by omega, by omega⟩, HF1.out⟩
          obtain ⟨n1, n2, n3⟩ := HNUM.out
          have t1 := HTK.out; have t2 := HTL.out
          have := n1 (by omega)
          omega
        · have hngt : ¬ (lim < (c : Int) + 1 + (c1 : Int)) := hgt
          have HR : Hid (NumR l lim W (.int .i64 ((c : Int) + 1 + (c1 : Int))) (.int .i64 ((k : Int) + 1)) w1) := by
            obtain ⟨n1, n2, n3⟩ := HNUM.out
            have t1 := HTK.out
            have t3 : c1 = tsz y.l := by
              by_cases h : (tsz y.l : Int) ≤ lim - ((c : Int) + 1)
              · exact n1 h
              · have := n2 (by omega); omega
            have t4 : tsz (l.take (k + 1)) = c + 1 + c1 := by omega
            refine ⟨k + 1, by simp, HKK.out, ?_, ?_, HF1⟩
            · rw [t4]; simp
            · rw [t4]; have := hngt; simp; omega
          go_wp2_with fail
          go_roundw
          case rel => exact HR.out
          case measure => have := HKK.out; simp [intOf]; omega
      · have hlim2 : lim < (c : Int) + 1 := by omega
        go_wp2_with fail
        go_ret
        refine ⟨c + 1, by go_num, ⟨fun h => ?_, fun _ => by omega, by omega⟩, HFW.out⟩
        have t1 := HTK.out; have t2 := HTL.out
        omega
    · obtain rfl : k = l.length := by omega
      rw [List.take_length] at hle ⊢
      go_wp2_with fail
      go_ret
      exact ⟨tsz l, rfl, ⟨fun _ => rfl, fun h => by omega, by omega⟩, HF.out⟩
end Go.Proofs.Yticakdajhmfpoaa.Ic
