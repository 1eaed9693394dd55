/-
  What the function stands of the statements returns: items stand in a text with their key words.
-/
import Derived.Test.YtfaflipphkoiiaaDoorParParse
namespace Go.Proofs.YtfaflipphkoiiaaDoor.Pr
open Go.RowKit Mem
open Lx (Tok bs bs_length sl_str_add text_of)
set_option linter.unusedVariables false

/-- The key words of the kinds. -/
def wordsL : List Bytes := [[], [112, 97, 114, 116, 121], [114, 111, 108, 101], [117, 110, 105, 116], [119, 101, 101, 107, 101, 110, 100], [104, 111, 108, 105, 100, 97, 121], [115, 112, 97, 110], [115, 117, 109], [97, 99, 116], [100, 117, 116, 121], [98, 97, 110], [111, 112, 116, 105, 111, 110], [119, 97, 116, 99, 104], [116, 101, 109, 112, 108, 97, 116, 101], [105, 110, 99, 108, 117, 100, 101]]
def kw (k : Nat) : Bytes := wordsL.getD k []
theorem kw_len (k : Nat) : (kw k).length ≤ 8 := by
  by_cases h : k < 15
  · have : ∀ i, i < 15 → (kw i).length ≤ 8 := by decide
    exact this k h
  · have : kw k = [] := by unfold kw; rw [List.getD_eq_getElem?_getD, List.getElem?_eq_none (by show 15 ≤ k; omega)]; rfl
    rw [this]; simp
def wordBlk : Obj := .cells (wordsL.map sv).toArray 9
theorem words_any (w : World) : Calls Tryd.prog 32 #[] w fun e w' => e = .returned (.slice (some ⟨w.heap.size, 0, none⟩) 15 15) ∧ w' = w.alloc wordBlk := by
  go_enter Tryd.func32, Tryd.ntmps32
  go_wp2_with fail
  go_ret
  exact ⟨rfl, rfl⟩
theorem word_cell (u : World) (k : Nat) (h : k < 15) : (u.alloc wordBlk).cell? ⟨u.heap.size, k, none⟩ = some (.string ⟨(kw k).toArray⟩) := by
  refine (cell_of_blk (cs := (wordsL.map sv).toArray) (t := 9) (blk_new u _) k).trans ?_
  have : ∀ i, i < 15 → (wordsL.map sv).toArray[i]? = some (.string ⟨(kw i).toArray⟩) := by
    intro i hi
    have e : (wordsL.map sv).toArray[i]? = (wordsL[i]?).map sv := by simp
    rw [e]
    unfold kw
    have h2 : i < wordsL.length := hi
    rw [List.getD_eq_getElem?_getD, List.getElem?_eq_getElem h2]
    rfl
  exact this k h

def Chain {α : Type} (P : α → Nat → Nat → Prop) : List α → Nat → Nat → Prop
  | [], a, b => a = b
  | x :: l, a, b => ∃ c, P x a c ∧ Chain P l c b
theorem Chain.imp {α : Type} {P Q : α → Nat → Nat → Prop} (l : List α) (h : ∀ x ∈ l, ∀ a b, P x a b → Q x a b) : ∀ a b, Chain P l a b → Chain Q l a b := by
  induction l with
  | nil => intro a b hc; exact hc
  | cons x l ih => intro a b ⟨c, h1, h2⟩; exact ⟨c, h x (by simp) a c h1, ih (fun y hy => h y (by simp [hy])) c b h2⟩
/-- An item stands in a text from an offset on. -/
def Stand1 (s : Bytes) (f : Flat) (a : Nat) : Prop := 1 ≤ f.kind ∧ f.kind ≤ 14 ∧ a ≤ f.pos ∧ f.pos + (kw f.kind).length ≤ s.length ∧ (s.drop f.pos).take (kw f.kind).length = kw f.kind
def StandC (s : ByteArray) (W : World) (x : Sx) (a c : Nat) : Prop :=
  Stand1 (bs s) x.1 a ∧ c ≤ s.size ∧ IsSlice x.2.1 ∧ IsSlice x.2.2.1 ∧ IsSlice x.2.2.2.1 ∧ (∃ A n cap, x.2.2.2.2 = .slice A n cap ∧ (0 < n → x.1.kind = 13)) ∧
    ∀ W', Below W.heap.size W W' → Calls Tryd.prog 21 #[.string s, x.2.2.2.2, .int .i64 ((x.1.pos + (kw x.1.kind).length : Nat) : Int)] W' fun e w' => e = .returned (.tuple #[.int .i64 (c : Int), .bool true]) ∧ Below W'.heap.size W' w'

set_option maxRecDepth 100000 in
set_option maxHeartbeats 2000000 in
theorem stands_any (s : ByteArray) (hs : s.size ≤ 8000) (xs : List Sx) (hxl : xs.length ≤ 1000000) (v : Value) (W : World) (hrow : Row W v 33 (xs.map sxc)) (a b : Nat) (ha : a ≤ s.size) (hch : Chain (StandC s W) xs a b) :
    Calls Tryd.prog 21 #[.string s, v, .int .i64 (a : Int)] W fun e w' => e = .returned (.tuple #[.int .i64 (b : Int), .bool true]) ∧ Below W.heap.size W w' := by
  obtain ⟨A, cap, rfl, hcap, hrow⟩ := hrow
  rw [List.length_map] at hcap ⊢
  have HR := Lib.hid hrow; clear hrow
  have HC := Lib.hid hch; clear hch
  go_enter Tryd.func21, Tryd.ntmps21
  go_wp2_with fail
  go_loopw [2, 8] (fun fr i wr => ∃ (j p : Nat), i = .int .i64 j ∧ fr = .int .i64 p ∧ j ≤ xs.length ∧ p ≤ s.size ∧ Hid (Chain (StandC s W) (xs.drop j) p b) ∧ Hid (Below W.heap.size W wr)) (fun _ i _ => xs.length - (intOf i).toNat)
  case atStart => exact ⟨0, a, rfl, rfl, by omega, ha, HC, Below.refl _ _⟩
  case round =>
    obtain ⟨j, p, rfl, rfl, hj, hp, HK, HB⟩ := hrel
    by_cases hlt : j < xs.length
    · have hk := HK.out
      rw [List.drop_eq_getElem_cons hlt] at hk
      obtain ⟨c, ⟨⟨k1, k2, k3, k4, k5⟩, hc, e1, e2, e3, ⟨A5, n5, c5, e5, k6⟩, hcall⟩, hk⟩ := hk
      obtain ⟨g, o, rfl, hg, hr⟩ := HR.out.resolve_left (by intro e; rw [List.map_eq_nil_iff] at e; rw [e] at hlt; simp at hlt)
      have hr := hr j (sxc xs[j]) (by simp [hlt])
      generalize xs[j] = x at *
      obtain ⟨f, sc, sd, sn, si⟩ := x
      simp only at k1 k2 k3 k4 k5 e1 e2 e3 e5 k6 hcall
      subst e5
      obtain ⟨A1, n1, c1, rfl⟩ := e1
      obtain ⟨A2, n2, c2, rfl⟩ := e2
      obtain ⟨A3, n3, c3, rfl⟩ := e3
      have HRW : Hid (wr.rangeAt g (o + j * 33) (icells f (.slice A1 n1 c1) (.slice A2 n2 c2) (.slice A3 n3 c3) (.slice A5 n5 c5))) := fun i u hi => (HB.out.cell (p := ⟨g, _, none⟩) hg).trans (hr i u hi)
      clear hr HK
      have HK := Lib.hid hk; clear hk
      have HCALL := Lib.hid hcall; clear hcall
      rw [bs_length] at k4
      obtain ⟨u, hu⟩ : ∃ u, wr.alloc (.cells (icells f (.slice A1 n1 c1) (.slice A2 n2 c2) (.slice A3 n3 c3) (.slice A5 n5 c5)).toArray 57) = u := ⟨_, rfl⟩
      have HBU : Hid (Below W.heap.size W u) := by show Below _ _ u; rw [← hu]; exact HB.out.alloc HB.out.size _
      have HI : Hid (IB wr.heap.size f (.slice A1 n1 c1) (.slice A2 n2 c2) (.slice A3 n3 c3) (.slice A5 n5 c5) u) := by show IB _ _ _ _ _ _ u; rw [← hu]; exact blk_newn rfl
      have HU := Lib.hid hu; clear hu
      have i0 : u.cell? ⟨wr.heap.size, 0, none⟩ = some (.int .i64 (f.kind : Int)) := cell_of_blk HI.out 0
      have d1 : decide ((f.kind : Int) < 1) = false := by simp; omega
      have d2 : decide (14 < (f.kind : Int)) = false := by simp; omega
      go_wp2_with (first | (refine wpList_load_mid rfl 57 _ rfl g (o + j * 33) rfl (icells f (.slice A1 n1 c1) (.slice A2 n2 c2) (.slice A3 n3 c3) (.slice A5 n5 c5)) _ HRW.out Tryd.underlying57 rfl (info_len _ _ _ _ _) ?_) | (refine wpList_store_new rfl 57 _ _ rfl rfl (icells f (.slice A1 n1 c1) (.slice A2 n2 c2) (.slice A3 n3 c3) (.slice A5 n5 c5)).toArray rfl info_item (icells_one _ _ _ _ _ ⟨_, _, _, rfl⟩ ⟨_, _, _, rfl⟩ ⟨_, _, _, rfl⟩ ⟨_, _, _, rfl⟩) (by rfl) ?_; rw [HU.out]))
      have i0a : ∀ ob, (u.alloc ob).cell? ⟨wr.heap.size, 0, none⟩ = some (.int .i64 (f.kind : Int)) := fun ob => cell_of_blk (blk_alloc HI.out ob) 0
      have w0 := word_cell u f.kind (by omega)
      have w0d := word_cell u.drew f.kind (by omega)
      go_region_with (go_at_call 32; refine (words_any _).mono ?_; rintro e w' ⟨rfl, rfl⟩)
      all_goals
        have HBD : Hid (Below W.heap.size W (u.alloc wordBlk).drew) := below_drewN (HBU.out.alloc HBU.out.size _) 1
        have HID : Hid (IB wr.heap.size f (.slice A1 n1 c1) (.slice A2 n2 c2) (.slice A3 n3 c3) (.slice A5 n5 c5) (u.alloc wordBlk).drew) := blk_drewN (blk_alloc HI.out _) 1
        clear i0 i0a w0 w0d HBU HI HB HRW HU
        generalize (u.alloc wordBlk).drew = w8 at *
        have j0 : w8.cell? ⟨wr.heap.size, 0, none⟩ = some (.int .i64 (f.kind : Int)) := cell_of_blk HID.out 0
        have j2 : w8.cell? ⟨wr.heap.size, 2, none⟩ = some (.int .i64 (f.pos : Int)) := cell_of_blk HID.out 2
        have j32 : w8.cell? ⟨wr.heap.size, 32, none⟩ = some (.slice A5 n5 c5) := cell_of_blk HID.out 32
        obtain ⟨P, hP⟩ : ∃ P, f.pos = P := ⟨_, rfl⟩
        rw [hP] at k3 k4 k5 j2
        obtain ⟨y, hy, hys⟩ : ∃ y, ByteArray.mk (kw f.kind).toArray = y ∧ (kw f.kind).length = y.size := ⟨_, rfl, by simp [ByteArray.size]⟩
        have hex : s.extract P (P + y.size) = y := by rw [text_of, ← hys, k5, hy]
        have hc8 := HCALL.out w8 HBD.out
        rw [hP, hys] at hc8
        rw [hys] at k4
        rw [hy]
        have HC8 := Lib.hid hc8
        have hs1 : ∀ W, (Instr.slice 9 (.string s) (some (.int .i64 (P : Int))) (some (.int .i64 ((P : Int) + (y.size : Int)))) none).run Tryd.prog W = .ok (.string y) W := by
          intro W; rw [sl_str_add s P y.size (by omega), hex]
        have m1 : decide ((P : Int) < (p : Int)) = false := by simp; omega
        have m2 : decide ((s.size : Int) - (y.size : Int) < (P : Int)) = false := by simp; omega
        have hsum : IntKind.i64.wrap ((P : Int) + (y.size : Int)) = (P : Int) + (y.size : Int) := IntWalk.i64_in _ (by omega)
        have hsub : IntKind.i64.wrap ((s.size : Int) - (y.size : Int)) = (s.size : Int) - (y.size : Int) := IntWalk.i64_in _ (by omega)
        clear hc8 hy hys hex k5 HCALL hP
        go_wp2_with fail
        have ec : ((P : Int) + (y.size : Int)) = ((P + y.size : Nat) : Int) := by omega
        rw [ec]
        refine HC8.out.mono ?_
        rintro e w9 ⟨rfl, hb9⟩
        have HB9 : Hid (Below W.heap.size W w9) := HBD.out.trans (hb9.mono HBD.out.size)
        have HI9 : Hid (IB wr.heap.size f (.slice A1 n1 c1) (.slice A2 n2 c2) (.slice A3 n3 c3) (.slice A5 n5 c5) w9) := (hb9.block _ (lt_of_blk HID.out)).trans HID.out
        clear hb9 HBD HID j0 j2 j32 hs1 m1 m2 hsum hsub HC8 ec
        have l0 : w9.cell? ⟨wr.heap.size, 0, none⟩ = some (.int .i64 (f.kind : Int)) := cell_of_blk HI9.out 0
        have l32 : w9.cell? ⟨wr.heap.size, 32, none⟩ = some (.slice A5 n5 c5) := cell_of_blk HI9.out 32
        by_cases hn5 : 0 < n5
        · have hk13 := k6 hn5
          have dn : decide (0 < (n5 : Int)) = true := by simp; omega
          rw [hk13] at l0
          go_wp2_with fail
          go_roundw
          case rel => exact ⟨j + 1, c, by go_num, rfl, by omega, hc, HK, HB9⟩
          case measure => simp [intOf]; omega
        · have dn : decide (0 < (n5 : Int)) = false := by simp; omega
          go_wp2_with fail
          go_roundw
          case rel => exact ⟨j + 1, c, by go_num, rfl, by omega, hc, HK, HB9⟩
          case measure => simp [intOf]; omega
    · have hjt : j = xs.length := by omega
      have hk := HK.out
      rw [List.drop_eq_nil_of_le (by omega)] at hk
      obtain rfl : p = b := hk
      go_wp2_with fail
      go_ret2
      exact ⟨rfl, HB.out⟩
end Go.Proofs.YtfaflipphkoiiaaDoor.Pr
