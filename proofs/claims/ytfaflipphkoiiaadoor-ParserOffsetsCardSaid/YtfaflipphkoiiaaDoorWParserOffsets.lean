/-
  The walk of the statement ParserOffsets: it returns true for every text.
-/
import Derived.Test.YtfaflipphkoiiaaDoorParOff
import Derived.Test.YtfaflipphkoiiaaDoorParHead
namespace Go.Proofs.YtfaflipphkoiiaaDoor
open Go.RowKit Mem Pr
open Lx (bs bs_length)
set_option linter.unusedVariables false

theorem Chain.zip {α β γ : Type} {P : α → Nat → Nat → Prop} {Q : γ → Nat → Nat → Prop} (g : α × β → γ) : ∀ (l : List α) (vs : List β), vs.length = l.length → (∀ p ∈ l.zip vs, ∀ a b, P p.1 a b → Q (g p) a b) → ∀ a b, Chain P l a b → Chain Q ((l.zip vs).map g) a b
  | [], vs, hl, h, a, b, hc => by simpa [Chain] using hc
  | x :: l, [], hl, h, a, b, hc => by simp at hl
  | x :: l, v :: vs, hl, h, a, b, ⟨c, h1, h2⟩ => ⟨c, h (x, v) (by simp) a c h1, Chain.zip g l vs (by simpa using hl) (fun p hp => h p (by simp [hp])) c b h2⟩
theorem kw_pos (k : Nat) (h1 : 1 ≤ k) (h2 : k ≤ 14) : 1 ≤ (kw k).length := by
  have : ∀ i, i < 15 → 1 ≤ i → 1 ≤ (kw i).length := by decide
  exact this k (by omega) h1
theorem chainF_len {s : Bytes} : ∀ (l : List Flat) (a c : Nat), Chain (StandF s) l a c → a + l.length ≤ c
  | [], a, c, h => by have : a = c := h; simp [this]
  | f :: l, a, c, ⟨b, ⟨h1, _, h3⟩, h2⟩ => by
    have := chainF_len l b c h2
    have k := kw_pos _ h1.1 h1.2.1
    have := h1.2.2.1
    simp only [List.length_cons]
    omega
theorem chainI_len {s : Bytes} : ∀ (l : List Pr.Item) (a c : Nat), Chain (StandI s) l a c → a + l.length ≤ c
  | [], a, c, h => by have : a = c := h; simp [this]
  | x :: l, a, c, ⟨b, ⟨h1, _, _, h3⟩, h2⟩ => by
    have := chainI_len l b c h2
    have := chainF_len _ _ _ h3
    have k := kw_pos _ h1.1 h1.2.1
    have := h1.2.2.1
    simp only [List.length_cons]
    omega
theorem stands_nil (s : ByteArray) (hs : s.size ≤ 8000) (W : World) (a : Nat) (ha : a ≤ s.size) :
    Calls Tryd.prog 21 #[.string s, Pr.nil, .int .i64 (a : Int)] W fun e w' => e = .returned (.tuple #[.int .i64 (a : Int), .bool true]) ∧ Below W.heap.size W w' :=
  stands_any s hs [] (by simp) Pr.nil W (Row.nil W 33) a a ha rfl
theorem stands_inner (s : ByteArray) (hs : s.size ≤ 8000) (l : List Flat) (v : Value) (W : World) (hv : VInner W l v) (a c : Nat) (ha : a ≤ s.size) (hc : c ≤ s.size) (h : Chain (StandF (bs s)) l a c) :
    Calls Tryd.prog 21 #[.string s, v, .int .i64 (a : Int)] W fun e w' => e = .returned (.tuple #[.int .i64 (c : Int), .bool true]) ∧ Below W.heap.size W w' := by
  obtain ⟨vs, hl, hr, hf⟩ := hv
  have hlen := chainF_len _ _ _ h
  refine stands_any s hs ((l.zip vs).map fun p => (p.1, p.2.1, p.2.2.1, p.2.2.2, Pr.nil)) (by rw [List.length_map, zip_len hl]; omega) v W (by rw [List.map_map]; exact hr) a c ha ?_
  refine Chain.zip _ l vs hl ?_ a c h
  intro p hp a b ⟨h1, h2, h3⟩
  have hv := hf p hp
  rw [bs_length] at h2
  refine ⟨h1, h2, hv.1.form, hv.2.1.form, hv.2.2.form, ⟨none, 0, 0, rfl, fun h => absurd h (by omega)⟩, fun W' _ => ?_⟩
  subst h3
  exact stands_nil s hs W' _ h2
theorem stands_items (s : ByteArray) (hs : s.size ≤ 8000) (l : List Pr.Item) (v : Value) (W : World) (hv : VItems W l v) (a c : Nat) (ha : a ≤ s.size) (hc : c ≤ s.size) (h : Chain (StandI (bs s)) l a c) :
    Calls Tryd.prog 21 #[.string s, v, .int .i64 (a : Int)] W fun e w' => e = .returned (.tuple #[.int .i64 (c : Int), .bool true]) ∧ Below W.heap.size W w' := by
  obtain ⟨vs, hl, hr, hf⟩ := hv
  have hlen := chainI_len _ _ _ h
  refine stands_any s hs ((l.zip vs).map fun p => (p.1.flat, p.2.1, p.2.2.1, p.2.2.2.1, p.2.2.2.2)) (by rw [List.length_map, zip_len hl]; omega) v W (by rw [List.map_map]; exact hr) a c ha ?_
  refine Chain.zip _ l vs hl ?_ a c h
  intro p hp a b ⟨h1, h2, h3, h4⟩
  obtain ⟨hv, hi⟩ := hf p hp
  rw [bs_length] at h2
  have h1' := h1.2.2.2.1
  rw [bs_length] at h1'
  refine ⟨h1, h2, hv.1.form, hv.2.1.form, hv.2.2.form, ?_, fun W' hb => ?_⟩
  · obtain ⟨ws, hwl, ⟨A, cap, e, _⟩, _⟩ := hi
    refine ⟨A, _, cap, e, fun hn => h3 ?_⟩
    rw [List.length_map, zip_len hwl] at hn
    intro e
    rw [e] at hn
    simp at hn
  · exact stands_inner s hs p.1.inner p.2.2.2.2 W' (hi.below hb) _ b h1' h2 h4

set_option maxRecDepth 100000 in
set_option maxHeartbeats 2000000 in
theorem walk_ParserOffsets (s : ByteArray) (hs : s.size ≤ maxLen) (w : World) (hw : Wks w) :
    Calls Tryd.prog 8 #[.string s] w fun e w' => e = .returned (.bool true) ∧ Below w.heap.size w w' := by
  unfold maxLen at hs
  have HW := Lib.hid hw; clear hw
  by_cases h3 : 8000 < s.size
  · go_enter Tryd.func8, Tryd.ntmps8
    go_wp2_with fail
    refine (head_any _ HW.out).mono ?_
    rintro e w1 ⟨rfl, hb1⟩
    have HB1 := Lib.hid hb1; clear hb1
    go_wp2_with fail
    go_ret
    exact ⟨rfl, HB1.out⟩
  · cases hl : parse (bs s) with
    | error x =>
      obtain ⟨er, p⟩ := x
      have hne : er ≠ 0 := parse_err_ne hl
      have be : ((er : Int) != 0) = true := by rw [bne_iff_ne]; omega
      have HL := Lib.hid hl; clear hl
      go_enter Tryd.func8, Tryd.ntmps8
      go_wp2_with fail
      refine (head_any _ HW.out).mono ?_
      rintro e w1 ⟨rfl, hb1⟩
      have HB1 := Lib.hid hb1; clear hb1
      go_wp2_with fail
      refine (parse_no s _ (by omega) (HW.out.below HB1.out) er p HL.out).mono ?_
      rintro e w2 ⟨rfl, hb2⟩
      have HB2 := Lib.hid (HB1.out.trans (hb2.mono HB1.out.size)); clear hb2 HB1
      have HB3 : Hid (Below w.heap.size w (w2.alloc (.cells (srcells [] civ0 0 Pr.nil).toArray 27))) := HB2.out.alloc HB2.out.size _
      have HS : Hid (SB w2.heap.size [] civ0 0 Pr.nil (w2.alloc (.cells (srcells [] civ0 0 Pr.nil).toArray 27))) := blk_newn rfl
      have c0 : (w2.alloc (.cells (srcells [] civ0 0 Pr.nil).toArray 27)).cell? ⟨w2.heap.size, 0, none⟩ = some (.string ⟨#[]⟩) := cell_of_blk HS.out 0
      have c5 : (w2.alloc (.cells (srcells [] civ0 0 Pr.nil).toArray 27)).cell? ⟨w2.heap.size, 5, none⟩ = some (.slice none 0 0) := cell_of_blk HS.out 5
      go_wp2_with (refine wpList_store_new rfl 27 _ _ rfl rfl (srcells [] civ0 0 Pr.nil).toArray rfl info_src (srcells_one _ _ _ _ ⟨_, _, _, rfl⟩) (by rfl) ?_)
      go_ret
      exact ⟨rfl, HB3.out⟩
    | ok src =>
      obtain ⟨c, hc, hch⟩ := parse_stand hl
      rw [bs_length] at hc
      have HCH := Lib.hid hch; clear hch
      have HL := Lib.hid hl; clear hl
      go_enter Tryd.func8, Tryd.ntmps8
      go_wp2_with fail
      refine (head_any _ HW.out).mono ?_
      rintro e w1 ⟨rfl, hb1⟩
      have HB1 := Lib.hid hb1; clear hb1
      go_wp2_with fail
      refine (parse_okv s _ (by omega) (HW.out.below HB1.out) src HL.out).mono ?_
      rintro e w2 ⟨⟨si, rfl, hv⟩, hb2⟩
      obtain ⟨A, cap, rfl, _⟩ := hv.form
      have HB2 := Lib.hid (HB1.out.trans (hb2.mono HB1.out.size)); clear hb2 HB1
      have HB3 : Hid (Below w.heap.size w (w2.alloc (.cells (srcells src.name src.frm src.days (.slice A src.items.length cap)).toArray 27))) := HB2.out.alloc HB2.out.size _
      have HS : Hid (SB w2.heap.size src.name src.frm src.days (.slice A src.items.length cap) (w2.alloc (.cells (srcells src.name src.frm src.days (.slice A src.items.length cap)).toArray 27))) := blk_newn rfl
      have HV : Hid (VItems (w2.alloc (.cells (srcells src.name src.frm src.days (.slice A src.items.length cap)).toArray 27)) src.items (.slice A src.items.length cap)) := hv.below ((Below.refl _ w2).alloc (Nat.le_refl _) _)
      clear hv
      have c5 : (w2.alloc (.cells (srcells src.name src.frm src.days (.slice A src.items.length cap)).toArray 27)).cell? ⟨w2.heap.size, 5, none⟩ = some (.slice A src.items.length cap) := cell_of_blk HS.out 5
      go_wp2_with (refine wpList_store_new rfl 27 _ _ rfl rfl (srcells src.name src.frm src.days (.slice A src.items.length cap)).toArray rfl info_src (srcells_one _ _ _ _ ⟨_, _, _, rfl⟩) (by rfl) ?_)
      refine (stands_items s (by omega) src.items _ _ HV.out 0 c (Nat.zero_le _) hc HCH.out).mono ?_
      rintro e w3 ⟨rfl, hb3⟩
      have HB4 := Lib.hid (HB3.out.trans (hb3.mono HB3.out.size)); clear hb3
      go_wp2_with fail
      go_ret
      exact ⟨rfl, HB4.out⟩
end Go.Proofs.YtfaflipphkoiiaaDoor
