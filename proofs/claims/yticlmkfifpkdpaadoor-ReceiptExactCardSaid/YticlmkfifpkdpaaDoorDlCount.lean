/-
  date.count walked: the number of business days.
-/
import Derived.Test.YticlmkfifpkdpaaDoorDlCal
namespace Go.Proofs.YticlmkfifpkdpaaDoor.Dl
open Go.RowKit Mem Vw
set_option linter.unusedVariables false
set_option linter.unusedSimpArgs false

theorem chain_sorted {last : Int} {l : List Int} (h : chain last l = true) : l.Pairwise (· ≤ ·) := by
  induction l generalizing last with
  | nil => exact List.Pairwise.nil
  | cons x l ih =>
    simp only [chain, Bool.and_eq_true] at h
    exact List.Pairwise.cons (fun y hy => by have := (chain_lt h.2 y hy).1; omega) (ih h.2)
theorem chain_split {last : Int} {l : List Int} (h : chain last l = true) (a : Int) : (∀ x ∈ l.take (l.countP (· < a)), x < a) ∧ ∀ x ∈ l.drop (l.countP (· < a)), a ≤ x := by
  induction l generalizing last with
  | nil => exact ⟨fun x hx => by simp at hx, fun x hx => by simp at hx⟩
  | cons y l ih =>
    simp only [chain, Bool.and_eq_true] at h
    rw [List.countP_cons]
    by_cases hy : y < a
    · rw [decide_eq_true hy, if_pos rfl, List.take_succ_cons, List.drop_succ_cons]
      have := ih h.2
      refine ⟨fun x hx => ?_, this.2⟩
      rcases List.mem_cons.1 hx with rfl | hx
      · exact hy
      · exact this.1 x hx
    · have h0 : l.countP (· < a) = 0 := by
        rw [List.countP_eq_zero]
        intro x hx
        have := (chain_lt h.2 x hx).1
        simp; omega
      rw [decide_eq_false hy, h0]
      refine ⟨fun x hx => by simp at hx, fun x hx => ?_⟩
      have hx2 : x ∈ y :: l := by simpa using hx
      rcases List.mem_cons.1 hx2 with rfl | hx2
      · omega
      · have := (chain_lt h.2 x hx2).1; omega
theorem hin_app (c : Cal) (a b : Int) (x y : List Int) : hin c a b (x ++ y) = hin c a b x + hin c a b y := by
  unfold hin; rw [List.filter_append, List.length_append]
theorem hin_le (c : Cal) (a b : Int) (x : List Int) : hin c a b x ≤ x.length := by unfold hin; exact List.length_filter_le _ _
theorem hin_drop (c : Cal) {last : Int} {l : List Int} (h : chain last l = true) (a b : Int) : hin c a b l = hin c a b (l.drop (l.countP (· < a))) := by
  conv => lhs; rw [← List.take_append_drop (l.countP (· < a)) l]
  rw [hin_app, hin_zero c (fun x hx => by have := (chain_split h a).1 x hx; omega), Nat.zero_add]
theorem hin_take (c : Cal) (a b : Int) {l : List Int} {k : Nat} {x : Int} (h : l[k]? = some x) : hin c a b (l.take (k + 1)) = hin c a b (l.take k) + if decide (a ≤ x) && decide (x < b) && !off c x then 1 else 0 := by
  rw [List.take_add_one, h, hin_app]
  show _ = _ + _
  rw [show (some x).toList = [x] from rfl, hin_cons]
  show _ + (_ + 0) = _
  omega
theorem chain_drop_ok {l : List Int} : ∀ {last : Int} (k : Nat), chain last l = true → ∃ a, chain a (l.drop k) = true := by
  induction l with
  | nil => intro last k h; exact ⟨last, by simp [chain]⟩
  | cons y l ih =>
    intro last k h
    cases k with
    | zero => exact ⟨last, h⟩
    | succ k =>
      simp only [chain, Bool.and_eq_true] at h
      exact ih k h.2
/-- Behind a holiday that is late enough there is none. -/
theorem hin_stop (c : Cal) {last : Int} {l : List Int} (hc : chain last l = true) (a b : Int) {k : Nat} {x : Int} (h : l[k]? = some x) (hx : b ≤ x) : hin c a b l = hin c a b (l.take k) := by
  conv => lhs; rw [← List.take_append_drop k l]
  rw [hin_app, hin_zero c (l := l.drop k), Nat.add_zero]
  intro y hy
  obtain ⟨hk, e⟩ := List.getElem?_eq_some_iff.1 h
  have hd : l.drop k = x :: l.drop (k + 1) := by rw [List.drop_eq_getElem_cons hk, e]
  obtain ⟨la, hla⟩ := chain_drop_ok k hc
  rw [hd] at hy hla
  simp only [chain, Bool.and_eq_true] at hla
  rcases List.mem_cons.1 hy with rfl | hy
  · omega
  · have := (chain_lt hla.2 y hy).1; omega
/-- slices.BinarySearch in the holidays. -/
theorem bs_any (l : List Int) (A : Option Addr) (n : Nat) (x : Int) (W : World) (hs : l.Pairwise (· ≤ ·)) (hl : l.length ≤ 400) (hc : ∀ k y, l[k]? = some y → ∃ g o, A = some ⟨g, o, none⟩ ∧ W.cell? ⟨g, o + k, none⟩ = some (.int .i64 y)) :
    Calls Tryd.prog 57 #[.slice A l.length n, .int .i64 x] W fun e w' => e = .returned (.tuple #[.int .i64 (l.countP (· < x) : Nat), .bool (l.contains x)]) ∧ ∃ q, w' = W.drewN q := by
  cases l with
  | nil => exact (Tryd.slices_BinarySearch_int_empty A n x W).mono fun e w' h => ⟨h.1, 0, h.2⟩
  | cons y l =>
    obtain ⟨g, o, rfl, _⟩ := hc 0 y rfl
    have h := Tryd.slices_BinarySearch_int g o (y :: l).length n (y :: l) x W (Nat.le_refl _) (by omega) (fun j hj => by
      obtain ⟨g', o', e, h⟩ := hc j _ (List.getElem?_eq_getElem hj)
      injection e with e; injection e with e1 e2 e3
      subst e1 e2
      rw [h, List.getD_eq_getElem?_getD, List.getElem?_eq_getElem hj]; rfl) (by rw [List.take_length]; exact hs)
    rw [List.take_length] at h
    exact h
def opn (wk : List Bool) (k : Nat) : Nat := ((wk.take k).filter (fun b => !b)).length
theorem opn_succ {wk : List Bool} {k : Nat} {b : Bool} (h : wk[k]? = some b) : opn wk (k + 1) = opn wk k + if b then 0 else 1 := by
  unfold opn
  rw [List.take_add_one, h, List.filter_append, List.length_append]
  cases b <;> rfl
theorem opn_le (wk : List Bool) (k : Nat) : opn wk k ≤ k := by
  unfold opn
  refine Nat.le_trans (List.length_filter_le _ _) ?_
  rw [List.length_take]; omega
theorem opn_all {c : Cal} (h : c.wk.length = 7) : opn c.wk 7 = open_ c := by
  unfold opn open_
  rw [List.take_of_length_le (by omega)]
def C1R (c : Cal) (W : World) (n i : Value) (wr : World) : Prop := ∃ k : Nat, i = .int .i64 k ∧ k ≤ 7 ∧ n = .int .i64 (opn c.wk k) ∧ W = wr
def C2R (c : Cal) (W : World) (a0 b p : Int) (n d : Value) (wr : World) : Prop := ∃ k : Nat, d = .int .i64 (a0 + k) ∧ a0 + k ≤ b ∧ n = .int .i64 (p + num (fun d => !off c d) a0 k) ∧ W = wr
def C3R (c : Cal) (W : World) (a b s : Int) (l : List Int) (n i : Value) (wr : World) : Prop := ∃ k : Nat, i = .int .i64 k ∧ k ≤ l.length ∧ n = .int .i64 (s - hin c a b (l.take k)) ∧ W = wr
set_option maxRecDepth 100000 in
set_option maxHeartbeats 4000000 in
theorem count_any (c : Cal) (hv : Value) (W : World) (h : CalAt W c hv) (hok : c.ok = true) (a b : Int) (ha : 0 ≤ a) (hab : a ≤ b) (hb : b ≤ 73049) :
    Calls Tryd.prog 98 #[.agg (ccs c hv).toArray, .int .i64 a, .int .i64 b] W fun e w' => e = .returned (.int .i64 (num (biz c) a (b - a).toNat : Nat)) ∧ Below W.heap.size W w' := by
  obtain ⟨wk, hol⟩ := c
  obtain ⟨b0, b1, b2, b3, b4, b5, b6, rfl⟩ : ∃ b0 b1 b2 b3 b4 b5 b6, wk = [b0, b1, b2, b3, b4, b5, b6] := by
    have h7 : wk.length = 7 := h.wk
    match wk, h7 with
    | [b0, b1, b2, b3, b4, b5, b6], _ => exact ⟨_, _, _, _, _, _, _, rfl⟩
  generalize hcd : (⟨[b0, b1, b2, b3, b4, b5, b6], hol⟩ : Cal) = c at h hok ⊢
  have HCD := Lib.hid hcd; clear hcd
  have HWL : Hid (c.wk = [b0, b1, b2, b3, b4, b5, b6]) := by show _ = _; rw [← HCD.out]
  have hce := count_eq c hok h.wk a b hab
  have HWK := Lib.hid h.wk
  have HCH : Hid (chain (-1) c.hol = true) := by unfold Cal.ok at hok; simp only [Bool.and_eq_true] at hok; exact hok.2
  have HL4 : Hid (c.hol.length ≤ 400) := by unfold Cal.ok at hok; simp only [Bool.and_eq_true, decide_eq_true_eq] at hok; exact hok.1.2
  obtain ⟨res, HRES⟩ : ∃ r : Int, Hid (((num (biz c) a (b - a).toNat : Nat) : Int) = r) := ⟨_, rfl⟩
  rw [HRES.out] at hce ⊢
  have HCE := Lib.hid hce; clear hce
  obtain ⟨A, n, rfl, hn1, hn2, hcell⟩ := h.slice
  have HC := Lib.hid hcell
  clear h hcell hok
  obtain ⟨w0, HW0⟩ : ∃ w0, Hid (W.alloc (.cells (ccs c (.slice A c.hol.length n)).toArray 28) = w0) := ⟨_, rfl⟩
  have HB0 : Hid (w0.heap[W.heap.size]? = some (.cells (ccs c (.slice A c.hol.length n)).toArray 28 (0, 0))) := by rw [← HW0.out]; exact blk_newn rfl
  have HBE : Hid (Below W.heap.size W w0) := by rw [← HW0.out]; exact (Below.refl _ W).alloc (Nat.le_refl _) _
  obtain ⟨hcc, c7⟩ := ccs_cells HB0.out
  have HCC := Lib.hid hcc
  have k0 : w0.cell? ⟨W.heap.size, 0, none⟩ = some (.bool b0) := by have h := hcc 0 (by omega); rwa [HWL.out] at h
  have k1 : w0.cell? ⟨W.heap.size, 1, none⟩ = some (.bool b1) := by have h := hcc 1 (by omega); rwa [HWL.out] at h
  have k2 : w0.cell? ⟨W.heap.size, 2, none⟩ = some (.bool b2) := by have h := hcc 2 (by omega); rwa [HWL.out] at h
  have k3 : w0.cell? ⟨W.heap.size, 3, none⟩ = some (.bool b3) := by have h := hcc 3 (by omega); rwa [HWL.out] at h
  have k4 : w0.cell? ⟨W.heap.size, 4, none⟩ = some (.bool b4) := by have h := hcc 4 (by omega); rwa [HWL.out] at h
  have k5 : w0.cell? ⟨W.heap.size, 5, none⟩ = some (.bool b5) := by have h := hcc 5 (by omega); rwa [HWL.out] at h
  have k6 : w0.cell? ⟨W.heap.size, 6, none⟩ = some (.bool b6) := by have h := hcc 6 (by omega); rwa [HWL.out] at h
  clear hcc
  have i0 : ∀ w, (Instr.index 25 (.agg #[.bool b0, .bool b1, .bool b2, .bool b3, .bool b4, .bool b5, .bool b6]) (.int .i64 0)).run Tryd.prog w = .ok (.bool b0) w := fun _ => by kernel_rfl
  have i1 : ∀ w, (Instr.index 25 (.agg #[.bool b0, .bool b1, .bool b2, .bool b3, .bool b4, .bool b5, .bool b6]) (.int .i64 1)).run Tryd.prog w = .ok (.bool b1) w := fun _ => by kernel_rfl
  have i2 : ∀ w, (Instr.index 25 (.agg #[.bool b0, .bool b1, .bool b2, .bool b3, .bool b4, .bool b5, .bool b6]) (.int .i64 2)).run Tryd.prog w = .ok (.bool b2) w := fun _ => by kernel_rfl
  have i3 : ∀ w, (Instr.index 25 (.agg #[.bool b0, .bool b1, .bool b2, .bool b3, .bool b4, .bool b5, .bool b6]) (.int .i64 3)).run Tryd.prog w = .ok (.bool b3) w := fun _ => by kernel_rfl
  have i4 : ∀ w, (Instr.index 25 (.agg #[.bool b0, .bool b1, .bool b2, .bool b3, .bool b4, .bool b5, .bool b6]) (.int .i64 4)).run Tryd.prog w = .ok (.bool b4) w := fun _ => by kernel_rfl
  have i5 : ∀ w, (Instr.index 25 (.agg #[.bool b0, .bool b1, .bool b2, .bool b3, .bool b4, .bool b5, .bool b6]) (.int .i64 5)).run Tryd.prog w = .ok (.bool b5) w := fun _ => by kernel_rfl
  have i6 : ∀ w, (Instr.index 25 (.agg #[.bool b0, .bool b1, .bool b2, .bool b3, .bool b4, .bool b5, .bool b6]) (.int .i64 6)).run Tryd.prog w = .ok (.bool b6) w := fun _ => by kernel_rfl
  obtain ⟨q, HQ, hq0, hq1⟩ : ∃ q : Int, Hid ((b - a) / 7 = q) ∧ 0 ≤ q ∧ q ≤ 10440 := ⟨_, rfl, by omega, by omega⟩
  have hq4 : (b - a).tdiv 7 = q := by rw [Int.tdiv_eq_ediv_of_nonneg (by omega)]; exact HQ.out
  have hq5 : 7 * q ≤ b - a := by have := HQ.out; omega
  obtain ⟨o, HO, ho0, ho1⟩ : ∃ o : Int, Hid (((open_ c : Nat) : Int) = o) ∧ 0 ≤ o ∧ o ≤ 7 := ⟨_, rfl, by omega, by have := opn_le c.wk 7; rw [opn_all HWK.out] at this; omega⟩
  obtain ⟨p, HP, hp0, hp1⟩ : ∃ p : Int, Hid (q * o = p) ∧ 0 ≤ p ∧ p ≤ 80000 := ⟨_, rfl, Int.mul_nonneg hq0 ho0, by
    have h1 := Int.mul_le_mul hq1 ho1 ho0 (by omega : (0 : Int) ≤ 10440)
    omega⟩
  rw [HQ.out, HO.out, HP.out] at HCE
  clear HQ
  go_enter Tryd.func98, Tryd.ntmps98
  go_upto_region 1 with fail
  rw [HW0.out]
  clear HW0
  go_wp2_with fail
  go_loopw [7, 19] (fun n i wr => C1R c w0 n i wr) (fun _ i _ => 7 - (intOf i).toNat)
  case atStart => exact ⟨0, rfl, by omega, rfl, rfl⟩
  case round =>
    obtain ⟨k, rfl, hk, rfl, rfl⟩ := hrel
    have hk7 : k = 0 ∨ k = 1 ∨ k = 2 ∨ k = 3 ∨ k = 4 ∨ k = 5 ∨ k = 6 ∨ k = 7 := by omega
    rcases hk7 with rfl | rfl | rfl | rfl | rfl | rfl | rfl | rfl
    · have HS := Lib.hid (opn_succ (wk := c.wk) (k := 0) (b := b0) (by rw [HWL.out]; rfl))
      have hn := opn_le c.wk 0
      cases b0
      · go_wp2_with fail
        go_roundw
        case rel => exact ⟨1, rfl, by omega, by rw [HS.out]; rfl, rfl⟩
        case measure => simp [intOf]
      · go_wp2_with fail
        go_roundw
        case rel => exact ⟨1, rfl, by omega, by rw [HS.out]; rfl, rfl⟩
        case measure => simp [intOf]
    · have HS := Lib.hid (opn_succ (wk := c.wk) (k := 1) (b := b1) (by rw [HWL.out]; rfl))
      have hn := opn_le c.wk 1
      cases b1
      · go_wp2_with fail
        go_roundw
        case rel => exact ⟨2, rfl, by omega, by rw [HS.out]; rfl, rfl⟩
        case measure => simp [intOf]
      · go_wp2_with fail
        go_roundw
        case rel => exact ⟨2, rfl, by omega, by rw [HS.out]; rfl, rfl⟩
        case measure => simp [intOf]
    · have HS := Lib.hid (opn_succ (wk := c.wk) (k := 2) (b := b2) (by rw [HWL.out]; rfl))
      have hn := opn_le c.wk 2
      cases b2
      · go_wp2_with fail
        go_roundw
        case rel => exact ⟨3, rfl, by omega, by rw [HS.out]; rfl, rfl⟩
        case measure => simp [intOf]
      · go_wp2_with fail
        go_roundw
        case rel => exact ⟨3, rfl, by omega, by rw [HS.out]; rfl, rfl⟩
        case measure => simp [intOf]
    · have HS := Lib.hid (opn_succ (wk := c.wk) (k := 3) (b := b3) (by rw [HWL.out]; rfl))
      have hn := opn_le c.wk 3
      cases b3
      · go_wp2_with fail
        go_roundw
        case rel => exact ⟨4, rfl, by omega, by rw [HS.out]; rfl, rfl⟩
        case measure => simp [intOf]
      · go_wp2_with fail
        go_roundw
        case rel => exact ⟨4, rfl, by omega, by rw [HS.out]; rfl, rfl⟩
        case measure => simp [intOf]
    · have HS := Lib.hid (opn_succ (wk := c.wk) (k := 4) (b := b4) (by rw [HWL.out]; rfl))
      have hn := opn_le c.wk 4
      cases b4
      · go_wp2_with fail
        go_roundw
        case rel => exact ⟨5, rfl, by omega, by rw [HS.out]; rfl, rfl⟩
        case measure => simp [intOf]
      · go_wp2_with fail
        go_roundw
        case rel => exact ⟨5, rfl, by omega, by rw [HS.out]; rfl, rfl⟩
        case measure => simp [intOf]
    · have HS := Lib.hid (opn_succ (wk := c.wk) (k := 5) (b := b5) (by rw [HWL.out]; rfl))
      have hn := opn_le c.wk 5
      cases b5
      · go_wp2_with fail
        go_roundw
        case rel => exact ⟨6, rfl, by omega, by rw [HS.out]; rfl, rfl⟩
        case measure => simp [intOf]
      · go_wp2_with fail
        go_roundw
        case rel => exact ⟨6, rfl, by omega, by rw [HS.out]; rfl, rfl⟩
        case measure => simp [intOf]
    · have HS := Lib.hid (opn_succ (wk := c.wk) (k := 6) (b := b6) (by rw [HWL.out]; rfl))
      have hn := opn_le c.wk 6
      cases b6
      · go_wp2_with fail
        go_roundw
        case rel => exact ⟨7, rfl, by omega, by rw [HS.out]; rfl, rfl⟩
        case measure => simp [intOf]
      · go_wp2_with fail
        go_roundw
        case rel => exact ⟨7, rfl, by omega, by rw [HS.out]; rfl, rfl⟩
        case measure => simp [intOf]
    · rw [opn_all HWK.out, HO.out]
      clear k0 k1 k2 k3 k4 k5 k6
      have hpq : IntKind.i64.wrap (q * o) = p := by rw [HP.out]; exact IntWalk.i64_in _ (by omega)
      clear i0 i1 i2 i3 i4 i5 i6
      obtain ⟨a0, ha0⟩ : ∃ a0, a + q * 7 = a0 := ⟨_, rfl⟩
      have HA0 := Lib.hid ha0
      rw [ha0] at HCE
      have ha1 : 0 ≤ a0 := by omega
      have ha2 : a0 ≤ b := by omega
      go_wp2_with fail
      clear hpq hq4 hq5
      go_loopw [11, 12] (fun n d wr => C2R c w0 a0 b p n d wr) (fun _ d _ => (b - intOf d).toNat)
      case atStart => exact ⟨0, by rw [← ha0]; simp, by omega, by simp [num], rfl⟩
      case round =>
        obtain ⟨k, rfl, hk, rfl, rfl⟩ := hrel
        have hnl := num_le (fun d => !off c d) a0 k
        by_cases hlt : a0 + k < b
        · obtain ⟨r, hr, hr7⟩ : ∃ r : Nat, (a0 + k) % 7 = (r : Int) ∧ r < 7 := ⟨((a0 + k) % 7).toNat, by omega, by omega⟩
          have cr := HCC.out r hr7
          have HOF : Hid (off c (a0 + k) = c.wk.getD r false) := by show _ = _; unfold off; rw [hr]; rfl
          have HNS : Hid (num (fun d => !off c d) a0 (k + 1) = num (fun d => !off c d) a0 k + if !off c (a0 + k) then 1 else 0) := rfl
          rw [HOF.out] at HNS
          cases hv : c.wk.getD r false
          · rw [hv] at cr HNS
            go_wp2_with fail
            go_roundw
            case rel => exact ⟨k + 1, by go_num, by omega, by rw [HNS.out]; go_num, rfl⟩
            case measure => simp [intOf]; omega
          · rw [hv] at cr HNS
            go_wp2_with fail
            go_roundw
            case rel => exact ⟨k + 1, by go_num, by omega, by rw [HNS.out]; go_num, rfl⟩
            case measure => simp [intOf]; omega
        · have hke : k = (b - a0).toNat := by omega
          subst hke
          obtain ⟨s, hs0, HSS, hs1⟩ : ∃ s : Int, 0 ≤ s ∧ Hid (p + num (fun d => !off c d) a0 (b - a0).toNat = s) ∧ s ≤ 160000 := ⟨_, by omega, rfl, by omega⟩
          rw [HSS.out] at HCE ⊢
          clear hnl
          have HBS := Lib.hid (bs_any c.hol A n a w0 (chain_sorted HCH.out) HL4.out (fun k y hk => by
            obtain ⟨g, o, e, hg, h⟩ := HC.out k y hk
            exact ⟨g, o, e, (World.cell?_of_block (a := ⟨g, o + k, none⟩) (HBE.out.block g hg)).trans h⟩))
          have hfl : c.hol.countP (fun x => decide (x < a)) ≤ c.hol.length := List.countP_le_length
          have HDR := Lib.hid (hin_drop c HCH.out a b)
          have HSPL := Lib.hid (chain_split HCH.out a).2
          obtain ⟨f, hf⟩ : ∃ f, c.hol.countP (fun x => decide (x < a)) = f := ⟨_, rfl⟩
          rw [hf] at hfl HDR HBS HSPL
          clear hf
          have HFL := Lib.hid hfl
          go_wp2_with fail
          refine HBS.out.mono ?_
          rintro e w1 ⟨rfl, m, hw1⟩
          have HBE1 : Hid (Below W.heap.size W w1) := by rw [hw1]; exact below_drewN HBE.out m
          have HB1 : Hid (w1.heap[W.heap.size]? = some (.cells (ccs c (.slice A c.hol.length n)).toArray 28 (0, 0))) := by rw [hw1]; exact HB0.out
          have HBS : True := trivial
          clear hw1 HBE HB0 c7 HCC
          have c7 := (ccs_cells HB1.out).2
          have HCC := Lib.hid (ccs_cells HB1.out).1
          have hl4 := HL4.out
          clear HBS
          by_cases hnf : n = f
          · have hlf : c.hol.length = f := by omega
            have HE : Hid (s - (hin c a b c.hol : Nat) = res) := HCE.out.symm
            have HE0 : Hid (hin c a b c.hol = 0) := by show _ = _; rw [HDR.out, ← hlf, List.drop_length]; rfl
            subst hnf
            rw [hlf] at c7
            have HLF := Lib.hid hlf
            rw [hlf]
            clear hlf
            go_wp2_with fail
            go_loopw [11, 63] (fun n i wr => n = .int .i64 s ∧ i = .int .i64 0 ∧ w1 = wr) (fun _ _ _ => 0)
            case atStart => exact ⟨rfl, rfl, rfl⟩
            case round =>
              obtain ⟨rfl, rfl, rfl⟩ := hrel
              go_wp2_with fail
              go_ret
              refine ⟨?_, HBE1.out⟩
              rw [← HE.out, HE0.out]
              show Ending.returned (.int .i64 s) = _
              simp
          · go_wp2_with fail
            go_loopw [11, 63] (fun n i wr => C3R c w1 a b s (c.hol.drop f) n i wr) (fun _ i _ => c.hol.length - f - (intOf i).toNat)
            case atStart => exact ⟨0, rfl, by omega, by simp [hin], rfl⟩
            case round =>
              obtain ⟨k, rfl, hk, rfl, rfl⟩ := hrel
              rw [List.length_drop] at hk
              have hle := hin_le c a b ((c.hol.drop f).take k)
              rw [List.length_take, List.length_drop] at hle
              by_cases hlt : k < c.hol.length - f
              · have hx0 := List.getElem?_eq_getElem (show k < (c.hol.drop f).length by rw [List.length_drop]; omega)
                generalize (c.hol.drop f)[k]'_ = x at hx0
                have HX := Lib.hid hx0
                have hx1 : c.hol[f + k]? = some x := by rw [← hx0, List.getElem?_drop]
                obtain ⟨g, o, hA, hg, hcx⟩ := HC.out (f + k) x hx1
                subst hA
                have c0 := (World.cell?_of_block (a := ⟨g, o + (f + k), none⟩) (HBE1.out.block g hg)).trans hcx
                rw [← Nat.add_assoc] at c0
                have HXL := Lib.hid (chain_lt HCH.out x (List.mem_of_getElem? hx1))
                have hx5 : -1 < x := HXL.out.1
                have hx6 : x ≤ 73048 := HXL.out.2
                have HGE : Hid (a ≤ x) := HSPL.out x (List.mem_of_getElem? hx0)
                have HTK := Lib.hid (hin_take c a b HX.out)
                clear hx0 hx1 hcx
                by_cases hxb : b ≤ x
                · have HST : Hid (hin c a b (c.hol.drop f) = hin c a b ((c.hol.drop f).take k)) := by
                    obtain ⟨la, hla⟩ := chain_drop_ok f HCH.out
                    exact hin_stop c hla a b HX.out hxb
                  go_wp2_with fail
                  go_ret
                  refine ⟨?_, HBE1.out⟩
                  rw [← show s - (hin c a b c.hol : Nat) = res from HCE.out.symm, HDR.out, HST.out]
                  rfl
                · obtain ⟨r, hr, hr7⟩ : ∃ r : Nat, x % 7 = (r : Int) ∧ r < 7 := ⟨(x % 7).toNat, by omega, by omega⟩
                  have cr := HCC.out r hr7
                  have HOF : Hid (off c x = c.wk.getD r false) := by show _ = _; unfold off; rw [hr]; rfl
                  rw [HOF.out] at HTK
                  cases hv : c.wk.getD r false
                  · rw [hv] at cr HTK
                    go_wp2_with fail
                    go_roundw
                    case rel => exact ⟨k + 1, by go_num, by rw [List.length_drop]; omega, by rw [HTK.out, decide_eq_true HGE.out, decide_eq_true (show x < b by omega)]; go_num, rfl⟩
                    case measure => simp [intOf]; omega
                  · rw [hv] at cr HTK
                    go_wp2_with fail
                    go_roundw
                    case rel => exact ⟨k + 1, by go_num, by rw [List.length_drop]; omega, by rw [HTK.out]; simp, rfl⟩
                    case measure => simp [intOf]; omega
              · have hke : k = c.hol.length - f := by omega
                subst hke
                have HTE : Hid ((c.hol.drop f).take (c.hol.length - f) = c.hol.drop f) := by show _ = _; rw [List.take_of_length_le (by rw [List.length_drop]; omega)]
                go_wp2_with fail
                go_ret
                refine ⟨?_, HBE1.out⟩
                rw [← show s - (hin c a b c.hol : Nat) = res from HCE.out.symm, HDR.out, HTE.out]
                rfl
end Go.Proofs.YticlmkfifpkdpaaDoor.Dl
