/-
  hasEvent, validEvents walked.
-/
import Derived.Test.YticlmkfifpkdpaaDoorDlValid
namespace Go.Proofs.YticlmkfifpkdpaaDoor.Dl
open Go.RowKit Mem Vw
set_option linter.unusedVariables false
set_option linter.unusedSimpArgs false

theorem hasEvent_any (k n e : Int) (b : Bool) (l : List Term) (v : Value) (W : World) :
    Calls Tryd.prog 46 #[.agg #[.int .i64 k, .int .i64 n, .int .i64 e, .bool b, v]] W fun e' w' => e' = .returned (.bool (hasEv (.mk k n e b l))) ∧ Below W.heap.size W w' := by
  obtain ⟨w0, HW0⟩ : ∃ w0, Hid (W.alloc (.cells #[.int .i64 k, .int .i64 n, .int .i64 e, .bool b, v] 31) = w0) := ⟨_, rfl⟩
  have HB0 : Hid (w0.heap[W.heap.size]? = some (.cells #[.int .i64 k, .int .i64 n, .int .i64 e, .bool b, v] 31 (0, 0))) := by rw [← HW0.out]; exact blk_newn rfl
  have HBE : Hid (Below W.heap.size W w0) := by rw [← HW0.out]; exact (Below.refl _ W).alloc (Nat.le_refl _) _
  have s0 : w0.cell? ⟨W.heap.size, 0, none⟩ = some (.int .i64 k) := cell_of_blk HB0.out 0
  have HE : Hid (hasEv (.mk k n e b l) = (decide (k = 2) || decide (k = 3))) := rfl
  clear HB0
  go_enter Tryd.func46, Tryd.ntmps46
  go_upto_region 1 with fail
  rw [HW0.out]
  clear HW0
  by_cases h2 : k = 2
  · have HR : Hid (hasEv (.mk k n e b l) = true) := by show _ = _; rw [HE.out, decide_eq_true h2]; rfl
    go_wp2_with fail
    go_ret
    exact ⟨by rw [HR.out]; rfl, HBE.out⟩
  · have hb2 : (k == 2) = false := beq_eq_false_iff_ne.2 h2
    by_cases h3 : k = 3
    · have HR : Hid (hasEv (.mk k n e b l) = true) := by show _ = _; rw [HE.out, decide_eq_true h3]; simp
      go_wp2_with fail
      go_ret
      exact ⟨by rw [HR.out]; rfl, HBE.out⟩
    · have HR : Hid (hasEv (.mk k n e b l) = false) := by show _ = _; rw [HE.out, decide_eq_false h2, decide_eq_false h3]; rfl
      have hb3 : (k == 3) = false := beq_eq_false_iff_ne.2 h3
      go_wp2_with fail
      go_ret
      exact ⟨by rw [HR.out]; rfl, HBE.out⟩
theorem evsOk_drop {l : List When} {k : Nat} {w : When} (h : l[k]? = some w) : (l.drop k).all When.ok = (w.ok && (l.drop (k + 1)).all When.ok) := by
  obtain ⟨hk, e⟩ := List.getElem?_eq_some_iff.1 h
  rw [List.drop_eq_getElem_cons hk, e]; rfl
theorem EvsAt.slice {W : World} {l : List When} {v : Value} (h : EvsAt W l v) : ∃ A n, v = .slice A l.length n ∧ l.length ≤ n ∧ n ≤ 9223372036854775807 ∧ ∀ k w, l[k]? = some w → ∃ g o, A = some ⟨g, o, none⟩ ∧ g < W.heap.size ∧ W.cell? ⟨g, o + k * 3, none⟩ = some (.bool w.known) ∧ W.cell? ⟨g, o + k * 3 + 1, none⟩ = some (.int .i64 w.day) ∧ W.cell? ⟨g, o + k * 3 + 2, none⟩ = some (.int .i64 w.min) := by
  obtain ⟨A, n, e, h1, h2⟩ := h.row
  rw [List.length_map] at e h1
  refine ⟨A, n, e, h1.1, h1.2, fun k w hk => ?_⟩
  rcases h2 with h2 | ⟨g, o, hA, hg, hr⟩
  · have : l = [] := by simpa using h2
    rw [this] at hk; cases hk
  · have hc := hr k (whenc w) (by rw [List.getElem?_map, hk]; rfl)
    exact ⟨g, o, hA, hg, hc 0 _ rfl, hc 1 _ rfl, hc 2 _ rfl⟩
def ER (l : List When) (W : World) (iv : Value) (wr : World) : Prop := ∃ k : Nat, iv = .int .i64 k ∧ k ≤ l.length ∧ Hid (evsOk l = (l.drop k).all When.ok) ∧ Hid (Below W.heap.size W wr)
set_option maxRecDepth 100000 in
theorem validEvents_any (l : List When) (v : Value) (W : World) (h : EvsAt W l v) : Calls Tryd.prog 44 #[v] W fun e w' => e = .returned (.bool (evsOk l)) ∧ Below W.heap.size W w' := by
  obtain ⟨A, n, rfl, hn1, hn2, hcell⟩ := h.slice
  have HC := Lib.hid hcell; clear hcell h
  obtain ⟨res, HRES⟩ : ∃ r, Hid (evsOk l = r) := ⟨_, rfl⟩
  rw [HRES.out]
  go_enter Tryd.func44, Tryd.ntmps44
  go_wp2_with fail
  go_loopw [7] (fun iv wr => ER l W iv wr) (fun iv _ => l.length - (intOf iv).toNat)
  case atStart => exact ⟨0, rfl, by omega, rfl, Below.refl _ W⟩
  case round =>
    obtain ⟨k, rfl, hk, HA, HB⟩ := hrel
    by_cases hlt : k < l.length
    · obtain ⟨w, hw⟩ : ∃ w, l[k]? = some w := ⟨_, List.getElem?_eq_getElem hlt⟩
      have HST := Lib.hid (evsOk_drop hw)
      obtain ⟨g, o, hA, hg, c0, c1, c2⟩ := HC.out k w hw
      subst hA
      have c0 := (World.cell?_of_block (a := ⟨g, o + k * 3, none⟩) (HB.out.block g hg)).trans c0
      have c1 := (World.cell?_of_block (a := ⟨g, o + k * 3 + 1, none⟩) (HB.out.block g hg)).trans c1
      have c2 := (World.cell?_of_block (a := ⟨g, o + k * 3 + 2, none⟩) (HB.out.block g hg)).trans c2
      clear hw
      obtain ⟨kn, dy, mi⟩ := w
      dsimp only at c0 c1 c2
      have HSZ := Lib.hid HB.out.size
      obtain ⟨w1, HW1⟩ : ∃ w1, Hid (wr.alloc (.cells #[.bool kn, .int .i64 dy, .int .i64 mi] 67) = w1) := ⟨_, rfl⟩
      have HB1 : Hid (w1.heap[wr.heap.size]? = some (.cells #[.bool kn, .int .i64 dy, .int .i64 mi] 67 (0, 0))) := by rw [← HW1.out]; exact blk_newn rfl
      have HBE1 : Hid (Below W.heap.size W w1) := by rw [← HW1.out]; exact HB.out.alloc HSZ.out _
      have HOKW : Hid (When.ok ⟨kn, dy, mi⟩ = (!kn || (isDay dy && within mi 1439))) := rfl
      go_upto_region 4 with fail
      rw [HW1.out]
      clear HW1 c0 c1 c2
      have c0 : w1.cell? ⟨wr.heap.size, 0, none⟩ = some (.bool kn) := cell_of_blk HB1.out 0
      have c1 : w1.cell? ⟨wr.heap.size, 1, none⟩ = some (.int .i64 dy) := cell_of_blk HB1.out 1
      have c2 : w1.cell? ⟨wr.heap.size, 2, none⟩ = some (.int .i64 mi) := cell_of_blk HB1.out 2
      cases kn
      · have HNX : Hid (evsOk l = (l.drop (k + 1)).all When.ok) := by show _ = _; rw [HA.out, HST.out, HOKW.out]; rfl
        go_wp2_with fail
        go_roundw
        case rel => exact ⟨k + 1, by go_num, by omega, HNX, HBE1⟩
        case measure => simp [intOf]; omega
      · have HD := Lib.hid (ddIsDay_any dy w1)
        cases hd : isDay dy
        · have HNO : Hid (res = false) := by show _ = _; rw [← HRES.out, HA.out, HST.out, HOKW.out, hd]; rfl
          rw [hd] at HD
          clear hd
          go_wp2_with fail
          refine HD.out.mono ?_
          rintro e w2 ⟨rfl, rfl⟩
          go_wp2_with fail
          go_ret
          exact ⟨by rw [HNO.out]; rfl, HBE1.out⟩
        · have HWI := Lib.hid (within_any mi 1439 w1)
          cases hi : within mi 1439
          · have HNO : Hid (res = false) := by show _ = _; rw [← HRES.out, HA.out, HST.out, HOKW.out, hd, hi]; rfl
            rw [hd] at HD; rw [hi] at HWI
            clear hd hi
            go_wp2_with fail
            refine HD.out.mono ?_
            rintro e w2 ⟨rfl, rfl⟩
            go_wp2_with fail
            refine HWI.out.mono ?_
            rintro e w1 ⟨rfl, rfl⟩
            go_wp2_with fail
            go_ret
            exact ⟨by rw [HNO.out]; rfl, HBE1.out⟩
          · have HNX : Hid (evsOk l = (l.drop (k + 1)).all When.ok) := by show _ = _; rw [HA.out, HST.out, HOKW.out, hd, hi]; rfl
            rw [hd] at HD; rw [hi] at HWI
            clear hd hi
            go_wp2_with fail
            refine HD.out.mono ?_
            rintro e w2 ⟨rfl, rfl⟩
            go_wp2_with fail
            refine HWI.out.mono ?_
            rintro e w1 ⟨rfl, rfl⟩
            go_wp2_with fail
            go_roundw
            case rel => exact ⟨k + 1, by go_num, by omega, HNX, HBE1⟩
            case measure => simp [intOf]; omega
    · have hke : k = l.length := by omega
      subst hke
      have HYES : Hid (res = true) := by show _ = _; rw [← HRES.out, HA.out, List.drop_length]; rfl
      go_wp2_with fail
      go_ret
      exact ⟨by rw [HYES.out]; rfl, HB.out⟩
end Go.Proofs.YticlmkfifpkdpaaDoor.Dl
