/-
  The walk of the statement LexerNumbers: it returns true for every list of numbers.
-/
import Derived.Test.YtbehkkgdgfdkaaaLexRefI
import Derived.Test.YtbehkkgdgfdkaaaWLexerGaps
import Derived.Test.YtbehkkgdgfdkaaaRow
namespace Go.Proofs.Ytbehkkgdgfdkaaa
open Go.RowKit Lx
set_option linter.unusedVariables false

theorem digit_is (d : Nat) (h : d < 10) : isDigit (digit d) = true ∧ (digit d).toNat = 48 + d ∧ isLetter (digit d) = false := by
  have e : (digit d).toNat = 48 + d := by unfold digit; simp [Nat.toUInt8]; omega
  refine ⟨?_, e, ?_⟩
  · unfold isDigit; rw [e]; simp; omega
  · unfold isLetter; rw [e]; simp; omega
theorem dec_digits (f n : Nat) (h : n < 10 ^ (f + 1)) : ∀ c ∈ dec f n, isDigit c = true := by
  induction f generalizing n with
  | zero => intro c hc; simp [dec] at hc; subst hc; exact (digit_is n (by simpa using h)).1
  | succ f ih =>
    intro c hc
    unfold dec at hc
    split at hc
    · rename_i h10; simp at hc; subst hc; exact (digit_is n h10).1
    · rcases List.mem_append.1 hc with hc | hc
      · exact ih (n / 10) (by rw [Nat.pow_succ] at h; omega) c hc
      · simp at hc; subst hc; exact (digit_is _ (Nat.mod_lt _ (by omega))).1
theorem dec_val (f n : Nat) (h : n < 10 ^ (f + 1)) : valFrom 0 (dec f n) = n := by
  induction f generalizing n with
  | zero =>
    have h10 : n < 10 := by simpa using h
    have := valFrom_snoc [] (digit n) 0
    simp only [List.nil_append, valFrom_nil] at this
    show valFrom 0 [digit n] = n
    rw [this, (digit_is n h10).2.1]; omega
  | succ f ih =>
    unfold dec
    split
    · rename_i h10
      have := valFrom_snoc [] (digit n) 0
      simp only [List.nil_append, valFrom_nil] at this
      rw [this, (digit_is n h10).2.1]; omega
    · rw [valFrom_snoc, ih (n / 10) (by rw [Nat.pow_succ] at h; omega), (digit_is (n % 10) (Nat.mod_lt _ (by omega))).2.1]; omega
theorem dec_ne (f n : Nat) : dec f n ≠ [] := by
  cases f with
  | zero => simp [dec]
  | succ f => unfold dec; split <;> simp
theorem numLen_all (l : List UInt8) (h : ∀ c ∈ l, isDigit c = true) : numLen l = l.length := by
  induction l with
  | nil => rfl
  | cons a l ih => rw [numLen, if_pos (h a (by simp)), ih (fun c hc => h c (by simp [hc]))]; rfl
theorem digit_letter (c : UInt8) (h : isDigit c = true) : isLetter c = false := by
  unfold isDigit at h; unfold isLetter; simp at h ⊢; omega
theorem digit_gap (c : UInt8) (l : List UInt8) (h : isDigit c = true) : gapLen false (c :: l) = 0 := by
  unfold isDigit at h; simp at h
  exact gapLen_other c l (by omega) (by omega) (by omega) (by omega)
theorem dec_tok (n : Nat) (h : n < 1000000000000) : tokOf (dec 11 n) = .ok (2, (dec 11 n).length, n) := by
  have hd := dec_digits 11 n (by omega)
  have hv := dec_val 11 n (by omega)
  have hl := dec_len 11 n
  have hn := numLen_all _ hd
  have hne := dec_ne 11 n
  generalize dec 11 n = l at *
  cases l with
  | nil => exact absurd rfl hne
  | cons a l =>
    have ha := hd a (by simp)
    simp only [tokOf, hn]
    rw [if_neg (by rw [digit_letter a ha]; simp), if_pos ha, if_neg (by rw [List.drop_length]; simp [wordAt]; simpa using hl), List.take_length, hv]
theorem dec_skip (n : Nat) (h : n < 1000000000000) (r : List UInt8) : skip (dec 11 n ++ r) = dec 11 n ++ r := by
  have hd := dec_digits 11 n (by omega)
  have hne := dec_ne 11 n
  generalize dec 11 n = l at *
  cases l with
  | nil => exact absurd rfl hne
  | cons a l => unfold skip; rw [List.cons_append, digit_gap a _ (hd a (by simp)), List.drop_zero]

/-- The further numbers, a separator before each. -/
def more (c : UInt8) (ns : List Nat) : List UInt8 := ns.flatMap fun n => c :: dec 11 n
def joined (c : UInt8) : List Nat → List UInt8
  | [] => []
  | n :: ns => dec 11 n ++ more c ns
def moreKeys (minus : Bool) (ns : List Nat) : List (Nat × List UInt8 × Nat) := ns.flatMap fun n => if minus then [(3, [45], 0), (2, dec 11 n, n)] else [(2, dec 11 n, n)]
def keysOf (minus : Bool) : List Nat → List (Nat × List UInt8 × Nat)
  | [] => []
  | n :: ns => (2, dec 11 n, n) :: moreKeys minus ns
def sepOf (minus : Bool) : UInt8 := if minus then 45 else 32
theorem sep_ends (minus : Bool) : ends (sepOf minus) := by cases minus; exact ends32; exact ends45

theorem kt_number {ks : List (Nat × List UInt8 × Nat)} {minus : Bool} {ns : List Nat} (n : Nat) (h : n < 1000000000000) (hk : KT ks (more (sepOf minus) ns)) : KT ((2, dec 11 n, n) :: ks) (dec 11 n ++ more (sepOf minus) ns) := by
  simp only [KT, dec_skip n h]
  refine ⟨?_, by rw [List.take_left], by rw [List.drop_left]; exact hk⟩
  cases ns with
  | nil => simp [more]; exact dec_tok n h
  | cons m ns =>
    have : more (sepOf minus) (m :: ns) = sepOf minus :: (dec 11 m ++ more (sepOf minus) ns) := by simp [more]
    rw [this, tokOf_app _ _ _ (sep_ends minus) (dec_ne 11 n)]
    exact dec_tok n h
theorem kt_more (minus : Bool) (ns : List Nat) (h : ∀ n ∈ ns, n < 1000000000000) : KT (moreKeys minus ns) (more (sepOf minus) ns) := by
  induction ns with
  | nil => rfl
  | cons n ns ih =>
    have hn := h n (by simp)
    have h1 := kt_number (minus := minus) n hn (ih (fun m hm => h m (by simp [hm])))
    have e : more (sepOf minus) (n :: ns) = sepOf minus :: (dec 11 n ++ more (sepOf minus) ns) := by simp [more]
    rw [e]
    cases minus with
    | false => exact kt_blank h1
    | true =>
      have e2 : moreKeys true (n :: ns) = (3, [45], 0) :: (2, dec 11 n, n) :: moreKeys true ns := by simp [moreKeys]
      rw [e2]
      have hs : skip (sepOf true :: (dec 11 n ++ more (sepOf true) ns)) = 45 :: (dec 11 n ++ more (sepOf true) ns) := by
        unfold skip; rw [gapLen_other _ _ (by decide) (by decide) (by decide) (by decide)]; rfl
      show _ ∧ _ ∧ _
      rw [hs]
      refine ⟨?_, rfl, h1⟩
      simp [tokOf, show isLetter 45 = false by decide, show isDigit 45 = false by decide, show isSym 45 = true by decide]
theorem kt_joined (minus : Bool) (ns : List Nat) (h : ∀ n ∈ ns, n < 1000000000000) : KT (keysOf minus ns) (joined (sepOf minus) ns) := by
  cases ns with
  | nil => rfl
  | cons n ns => exact kt_number n (h n (by simp)) (kt_more minus ns (fun m hm => h m (by simp [hm])))
theorem joined_snoc (c : UInt8) (ns : List Nat) (n : Nat) : joined c (ns ++ [n]) = if ns = [] then dec 11 n else joined c ns ++ [c] ++ dec 11 n := by
  cases ns with
  | nil => simp [joined, more]
  | cons m ns => simp [joined, more]
theorem more_len (c : UInt8) (ns : List Nat) : (more c ns).length ≤ 13 * ns.length := by
  induction ns with
  | nil => simp [more]
  | cons n ns ih =>
    have e : more c (n :: ns) = c :: (dec 11 n ++ more c ns) := by simp [more]
    have := dec_len 11 n
    rw [e]; simp only [List.length_cons, List.length_append]; omega
theorem joined_len (c : UInt8) (ns : List Nat) : (joined c ns).length ≤ 13 * ns.length := by
  cases ns with
  | nil => simp [joined]
  | cons n ns => have := dec_len 11 n; have := more_len c ns; simp only [joined, List.length_cons, List.length_append]; omega

/-- What the statement's last loop looks for. -/
def Good (minus : Bool) : List (Nat × List UInt8 × Nat) → List Nat → Prop
  | [], ns => ns = []
  | (k, x, n) :: ks, ns => (k = 3 ∧ minus = true ∧ x = [45] ∧ n = 0 ∧ Good minus ks ns) ∨ (k = 2 ∧ ∃ ms, ns = n :: ms ∧ Good minus ks ms)
theorem good_more (minus : Bool) (ns : List Nat) : Good minus (moreKeys minus ns) ns := by
  induction ns with
  | nil => rfl
  | cons n ns ih =>
    cases minus with
    | false => exact .inr ⟨rfl, ns, rfl, ih⟩
    | true => exact .inl ⟨rfl, rfl, rfl, rfl, .inr ⟨rfl, ns, rfl, ih⟩⟩
theorem good_keys (minus : Bool) (ns : List Nat) : Good minus (keysOf minus ns) ns := by
  cases ns with
  | nil => rfl
  | cons n ns => exact .inr ⟨rfl, ns, rfl, good_more minus ns⟩
theorem good_len (minus : Bool) (ks : List (Nat × List UInt8 × Nat)) (ns : List Nat) (h : Good minus ks ns) : ns.length ≤ ks.length := by
  induction ks generalizing ns with
  | nil => simp only [Good] at h; subst h; simp
  | cons a ks ih =>
    obtain ⟨k, x, n⟩ := a
    rcases h with ⟨_, _, _, _, h⟩ | ⟨_, ms, rfl, h⟩
    · have := ih _ h; simp; omega
    · have := ih _ h; simp; omega

/-- The numbers of the list. -/
def numOf (z : Int) : Nat := (z % 1000000000000).toNat
theorem numOf_lt (z : Int) : numOf z < 1000000000000 := by unfold numOf; omega

set_option maxRecDepth 100000 in
set_option maxHeartbeats 4000000 in
theorem walk_LexerNumbers (A : Option Addr) (cap : Nat) (zs : List Int) (hz : zs.length ≤ maxLen) (minus : Bool) (w : World) (hrow : IntRow .u64 w A zs) :
    Calls Try.prog 9 #[.slice A zs.length cap, .bool minus] w fun e w' => e = .returned (.bool true) ∧ Below w.heap.size w w' := by
  unfold maxLen at hz
  have HROW := Lib.hid hrow; clear hrow
  by_cases h40 : 40 < zs.length
  · go_enter Try.func9, Try.ntmps9
    go_wp2_with fail
    refine (head_any _).mono ?_
    rintro e w1 ⟨rfl, hb1⟩
    have HB1 := Lib.hid hb1; clear hb1
    go_wp2_with fail
    go_ret
    exact ⟨rfl, HB1.out⟩
  · go_enter Try.func9, Try.ntmps9
    go_wp2_with fail
    refine (head_any _).mono ?_
    rintro e w1 ⟨rfl, hb1⟩
    have HR1 := Lib.hid (HROW.out.below hb1)
    have HB1 := Lib.hid hb1; clear hb1
    go_wp2_with fail
    go_loopw [6, 7] (fun tx i wr => ∃ (j : Nat) (x : ByteArray), i = .int .i64 j ∧ tx = .string x ∧ j ≤ zs.length ∧ Hid (bs x = joined (sepOf minus) ((zs.take j).map numOf)) ∧ Hid (IntRow .u64 wr A zs) ∧ Hid (Below w.heap.size w wr)) (fun _ i _ => zs.length - (intOf i).toNat)
    case atStart => exact ⟨0, ⟨#[]⟩, rfl, rfl, by omega, rfl, HR1, HB1⟩
    case round =>
      obtain ⟨j, x, rfl, rfl, hj, HX, HR, HB⟩ := hrel
      have hxs : x.size ≤ 520 := by
        rw [← bs_length, HX.out]
        have := joined_len (sepOf minus) ((zs.take j).map numOf)
        rw [List.length_map, List.length_take] at this
        omega
      by_cases hlt : j < zs.length
      · obtain ⟨g, o, rfl, hg, hc⟩ := HR.out.1 (by omega)
        have hcj := hc j hlt
        have hz0 := bounds_u64 (HR.out.2 zs[j] (List.getElem_mem hlt))
        have hz1 : 0 ≤ zs[j] := hz0.1
        have hN : Hid ((zs.take (j + 1)).map numOf = (zs.take j).map numOf ++ [numOf zs[j]]) := by
          show _ = _
          rw [List.take_succ_eq_append_getElem hlt, List.map_append]; rfl
        have HN := hN; clear hN
        clear hc hz0 hg
        have hv1 : zs[j] % 1000000000000 = (numOf zs[j] : Int) := by unfold numOf; omega
        have hv2 := numOf_lt zs[j]
        generalize numOf zs[j] = v at *
        generalize zs[j] = z at *
        have HD := Lib.hid (decimal_any 11 (by omega) v)
        have hdl := dec_len 11 v
        obtain ⟨y, hy, hys⟩ : ∃ y, ByteArray.mk (dec 11 v).toArray = y ∧ y.size ≤ 12 := ⟨_, rfl, by rw [mk_size]; omega⟩
        rw [hy] at HD
        have HY : Hid (bs y = dec 11 v) := by show _ = _; rw [← hy, bs_lit]
        clear hy hdl
        have hcase : (¬ 0 < j) ∨ (0 < j ∧ minus = true) ∨ (0 < j ∧ minus = false) := by cases minus <;> simp <;> omega
        have HJ1 : Hid (¬ 0 < j → bs (x ++ y) = joined (sepOf minus) ((zs.take (j + 1)).map numOf)) := by
          intro h0
          have : j = 0 := by omega
          subst this
          have hx0 : bs x = [] := by rw [HX.out]; rfl
          rw [bs_append, hx0, HY.out, HN.out, joined_snoc, if_pos (by simp)]
          simp
        have HJ2 : Hid (0 < j → bs (x ++ ⟨#[sepOf minus]⟩ ++ y) = joined (sepOf minus) ((zs.take (j + 1)).map numOf)) := by
          intro h0
          have hne : (zs.take j).map numOf ≠ [] := by
            intro h
            have := congrArg List.length h
            rw [List.length_map, List.length_take, List.length_nil] at this
            omega
          rw [bs_append, bs_append, HY.out, HN.out, joined_snoc, if_neg hne, HX.out]
          rfl
        rcases hcase with h0 | ⟨h0, rfl⟩ | ⟨h0, rfl⟩
        · have HJ := Lib.hid (HJ1.out h0)
          go_wp2_with fail
          refine (HD.out _ (by omega)).mono ?_
          rintro e w2 ⟨rfl, m, rfl⟩
          go_wp2_with fail
          go_roundw
          case rel => exact ⟨j + 1, _, by go_num, rfl, by omega, HJ, HR.out.below (below_drewN (Below.refl _ _) m), below_drewN HB.out m⟩
          case measure => simp [intOf]; omega
        · have HJ := Lib.hid (HJ2.out h0)
          go_wp2_with fail
          refine (HD.out _ (by omega)).mono ?_
          rintro e w2 ⟨rfl, m, rfl⟩
          go_wp2_with fail
          go_roundw
          case rel => exact ⟨j + 1, _, by go_num, rfl, by omega, HJ, HR.out.below (below_drewN (Below.refl _ _) m), below_drewN HB.out m⟩
          case measure => simp [intOf]; omega
        · have HJ := Lib.hid (HJ2.out h0)
          go_wp2_with fail
          refine (HD.out _ (by omega)).mono ?_
          rintro e w2 ⟨rfl, m, rfl⟩
          go_wp2_with fail
          go_roundw
          case rel => exact ⟨j + 1, _, by go_num, rfl, by omega, HJ, HR.out.below (below_drewN (Below.refl _ _) m), below_drewN HB.out m⟩
          case measure => simp [intOf]; omega
      · have hx : bs x = joined (sepOf minus) (zs.map numOf) := by have := HX.out; rwa [List.take_of_length_le (by omega)] at this
        have hlt12 : ∀ n ∈ zs.map numOf, n < 1000000000000 := by
          intro n hn
          obtain ⟨z, _, rfl⟩ := List.mem_map.1 hn
          exact numOf_lt z
        obtain ⟨ts, ht, hk⟩ := kt_toks (kt_joined minus (zs.map numOf) hlt12) 0
        have htl := toks_len ht
        rw [← hx, bs_length] at htl
        have hlex : lex (bs x) = .ok ts := by rw [hx]; exact toks_lex ht (by rw [← hx, bs_length]; omega) (by omega)
        have HG : Hid (Good minus (ts.map key) (zs.map numOf)) := by rw [hk]; exact good_keys minus _
        have HLX := Lib.hid hlex; clear hlex ht hk hlt12 hx
        go_wp2_with fail
        refine (lex_ok x _ (by omega) ts HLX.out).mono ?_
        rintro e w2 ⟨⟨B, cap2, rfl, ho⟩, hb2⟩
        have HT2 := Lib.hid (tokRow_of_own ho); clear ho
        have HR2 := Lib.hid (HR.out.below hb2)
        have HB2 := Lib.hid (HB.out.trans (hb2.mono HB.out.size)); clear hb2
        go_wp2_with fail
        go_loopw [11, 12] (fun kk i wr => ∃ (i' k : Nat), i = .int .i64 i' ∧ kk = .int .i64 k ∧ i' ≤ ts.length ∧ k ≤ zs.length ∧ Hid (Good minus ((ts.drop i').map key) ((zs.drop k).map numOf)) ∧ Hid (TokRow wr B ts) ∧ Hid (IntRow .u64 wr A zs) ∧ Hid (Below w.heap.size w wr)) (fun _ i _ => ts.length - (intOf i).toNat)
        case atStart => exact ⟨0, 0, rfl, rfl, by omega, by omega, HG, HT2, HR2, HB2⟩
        case round =>
          obtain ⟨i, k, rfl, rfl, hi, hk, HGi, HT, HRr, HBr⟩ := hrel
          by_cases hlt2 : i < ts.length
          · obtain ⟨g, o, rfl, hg, hc⟩ := HT.out (by omega)
            obtain ⟨a0, a1, a2, a3⟩ := hc i hlt2
            have hgood := HGi.out
            rw [List.drop_eq_getElem_cons hlt2, List.map_cons] at hgood
            clear hc a3 hg
            generalize ts[i] = t at *
            simp only [key, Good] at hgood
            rcases hgood with ⟨k1, k2, k3, k4, hgood⟩ | ⟨k1, ms, k2, hgood⟩
            · rw [k1] at a0
              rw [k3] at a1
              rw [k4] at a2
              subst k2
              have HGG := Lib.hid hgood
              clear hgood k1 k3 k4
              go_wp2_with fail
              go_roundw
              case rel => exact ⟨i + 1, k, by go_num, rfl, by omega, hk, HGG, HT, HRr, HBr⟩
              case measure => simp [intOf]; omega
            · have hkl : k < zs.length := by
                have := congrArg List.length k2
                rw [List.length_map, List.length_drop, List.length_cons] at this
                omega
              have hd : zs.drop k = zs[k] :: zs.drop (k + 1) := List.drop_eq_getElem_cons hkl
              rw [hd, List.map_cons] at k2
              injection k2 with k2 k3
              subst k3
              obtain ⟨g', o', rfl, hg', hc'⟩ := HRr.out.1 (by omega)
              have hcj := hc' k hkl
              have hz1 : 0 ≤ zs[k] := (bounds_u64 (HRr.out.2 zs[k] (List.getElem_mem hkl))).1
              have hv2 := numOf_lt zs[k]
              have hv1 : zs[k].tmod 1000000000000 = (numOf zs[k] : Int) := by
                rw [Int.tmod_eq_emod_of_nonneg hz1]; unfold numOf; omega
              rw [k1] at a0
              rw [← k2] at a2
              have HGG := Lib.hid hgood
              clear hgood k1 k2 hd hc' hg'
              generalize numOf zs[k] = v at *
              generalize zs[k] = z at *
              have hw1 : IntKind.i64.wrap (v : Int) = (v : Int) := IntWalk.i64_in _ (by omega)
              have d1 : decide ((zs.length : Int) ≤ (k : Int)) = false := by simp; omega
              have HV1 := Lib.hid hv1; have HW1 := Lib.hid hw1
              clear hv1 hw1
              go_wp2_with fail
              have hv1 := HV1.out
              have hw1 := HW1.out
              go_quiet (fail)
              clear hv1 hw1
              go_wp2_with fail
              go_roundw
              case rel => exact ⟨i + 1, k + 1, by go_num, by go_num, by omega, by omega, HGG, HT.out.drewN nq, HRr.out.below (below_drewN (Below.refl _ _) nq), below_drewN HBr.out nq⟩
              case measure => simp [intOf]; omega
          · have hkn : k = zs.length := by
              have := HGi.out
              rw [List.drop_eq_nil_of_le (by omega)] at this
              simp only [List.map_nil, Good] at this
              have := congrArg List.length this
              rw [List.length_map, List.length_drop, List.length_nil] at this
              omega
            have bk : ((k : Int) == (zs.length : Int)) = true := beq_iff_eq.2 (by omega)
            clear hkn
            go_wp2_with fail
            go_ret
            exact ⟨rfl, HBr.out⟩
end Go.Proofs.Ytbehkkgdgfdkaaa
