/-
  The walk of the statement LexerGaps: it returns true for every text, gaps and index.
-/
import Derived.Test.YtbehkkgdgfdkaaaLexRefH
namespace Go.Proofs.Ytbehkkgdgfdkaaa
open Go.RowKit Lx
set_option linter.unusedVariables false

/-- The tokens of a text apart from their offsets. -/
def KT : List (Nat × List UInt8 × Nat) → List UInt8 → Prop
  | [], l => skip l = []
  | (k, x, n) :: ks, l => tokOf (skip l) = .ok (k, x.length, n) ∧ x = (skip l).take x.length ∧ KT ks ((skip l).drop x.length)
theorem toks_kt {ts : List Tok} {l : List UInt8} {p : Nat} (h : Toks ts l p) : KT (ts.map key) l := by
  induction ts generalizing l p with
  | nil => exact h
  | cons t ts ih =>
    obtain ⟨h1, h2, h3, h4⟩ := h
    exact ⟨h1, h2, ih h4⟩
theorem kt_toks {ks : List (Nat × List UInt8 × Nat)} {l : List UInt8} (h : KT ks l) (p : Nat) : ∃ ts, Toks ts l p ∧ ts.map key = ks := by
  induction ks generalizing l p with
  | nil => exact ⟨[], h, rfl⟩
  | cons a ks ih =>
    obtain ⟨k, x, n⟩ := a
    obtain ⟨h1, h2, h3⟩ := h
    obtain ⟨ts, ht, hk⟩ := ih h3 (p + gapLen false l + x.length)
    exact ⟨⟨k, x, n, p + gapLen false l⟩ :: ts, ⟨h1, h2, rfl, ht⟩, by simp only [List.map_cons, hk]; rfl⟩
theorem kt_congr {ks : List (Nat × List UInt8 × Nat)} {l l' : List UInt8} (hs : skip l = skip l') (h : KT ks l) : KT ks l' := by
  cases ks with
  | nil => simp only [KT] at h ⊢; rw [← hs]; exact h
  | cons a ks =>
    obtain ⟨k, x, n⟩ := a
    simp only [KT] at h ⊢
    rw [← hs]; exact h
theorem kt_pre {ks : List (Nat × List UInt8 × Nat)} {l G : List UInt8} (hG : gapLen false G = G.length) (h : KT ks l) : KT ks (G ++ 10 :: l) :=
  kt_congr (skip_append_lf G l (by unfold skip; rw [hG, List.drop_length])).symm h
theorem kt_blank {ks : List (Nat × List UInt8 × Nat)} {l : List UInt8} (h : KT ks l) : KT ks (32 :: l) := by
  refine kt_congr ?_ h
  unfold skip
  rw [gapLen_blank _ _ (.inl rfl), List.drop_succ_cons]
theorem kt_ne {k len v : Nat} {l : List UInt8} (h : tokOf (skip l) = .ok (k, len, v)) : skip l ≠ [] := skip_ne h
theorem kt_end {ks : List (Nat × List UInt8 × Nat)} {l G : List UInt8} (hG : gapLen false G = G.length) (h : KT ks l) : KT ks (l ++ 32 :: 10 :: G) := by
  induction ks generalizing l with
  | nil =>
    simp only [KT] at h ⊢
    have hg := gap_all l h
    obtain ⟨b', hb⟩ := gapLen_append_all false l hg
    unfold skip
    rw [hb, gapLen_blank_lf, hG]
    apply List.drop_eq_nil_of_le
    simp only [List.length_append, List.length_cons]
    omega
  | cons a ks ih =>
    obtain ⟨k, x, n⟩ := a
    obtain ⟨h1, h2, h3⟩ := h
    obtain ⟨e1, e2⟩ := skip_append_lt l (32 :: 10 :: G) (skip_ne h1)
    have hl := tok_len h1
    simp only [KT, e1]
    refine ⟨by rw [tokOf_app _ _ _ ends32 (skip_ne h1)]; exact h1, ?_, ?_⟩
    · rw [List.take_append_of_le_length (by omega)]; exact h2
    · rw [List.drop_append_of_le_length (by omega)]; exact ih h3
theorem kt_split {ts : List Tok} {l G : List UInt8} {p : Nat} (hG : gapLen false G = G.length) (h : Toks ts l p) (i : Nat) (hi : i < ts.length) :
    KT (ts.map key) (l.take (ts[i].pos + ts[i].text.length - p) ++ 32 :: (G ++ 10 :: l.drop (ts[i].pos + ts[i].text.length - p))) := by
  induction ts generalizing l p i with
  | nil => simp at hi
  | cons t ts ih =>
    obtain ⟨h1, h2, h3, h4⟩ := h
    have hl := tok_len h1
    have hsl := skip_length l
    have hgl := gapLen_le false l
    obtain ⟨mid, hmid⟩ : ∃ mid, (t :: ts)[i].pos + (t :: ts)[i].text.length - p = mid := ⟨_, rfl⟩
    have hm : gapLen false l + t.text.length ≤ mid := by
      cases i with
      | zero => simp only [List.getElem_cons_zero] at hmid; omega
      | succ i =>
        have hi' : i < ts.length := by simpa using hi
        have hp : t.pos + t.text.length ≤ ts[i].pos := by
          have := toks_pos h4 ts[i] (List.getElem_mem hi'); omega
        simp only [List.getElem_cons_succ] at hmid
        omega
    have hg : gapLen false (l.take mid) = gapLen false l := by rw [gapLen_take]; omega
    have hk : skip (l.take mid) = (skip l).take (mid - gapLen false l) := by unfold skip; rw [hg, List.drop_take]
    have hne : skip (l.take mid) ≠ [] := by
      intro h0; rw [hk] at h0
      have := congrArg List.length h0
      rw [List.length_take, List.length_nil] at this
      omega
    obtain ⟨e1, e2⟩ := skip_append_lt (l.take mid) (32 :: (G ++ 10 :: l.drop mid)) hne
    have htl : t.text.length ≤ ((skip l).take (mid - gapLen false l)).length := by rw [List.length_take]; omega
    rw [hmid]
    simp only [List.map_cons, key, KT, e1, hk]
    rw [hk] at hne
    refine ⟨by rw [tokOf_app _ _ _ ends32 hne]; exact tokOf_take h1 (by omega), ?_, ?_⟩
    · rw [List.take_append_of_le_length htl, List.take_take, show min t.text.length (mid - gapLen false l) = t.text.length by omega]; exact h2
    · rw [List.drop_append_of_le_length htl, List.drop_take]
      have hd : l.drop mid = ((skip l).drop t.text.length).drop (mid - gapLen false l - t.text.length) := by
        unfold skip; rw [List.drop_drop, List.drop_drop]; congr 1; omega
      rw [hd]
      cases i with
      | zero =>
        simp only [List.getElem_cons_zero] at hmid
        have h0 : mid - gapLen false l - t.text.length = 0 := by omega
        rw [h0, List.take_zero, List.drop_zero, List.nil_append]
        exact kt_blank (kt_pre hG (toks_kt h4))
      | succ i =>
        have hi' : i < ts.length := by simpa using hi
        have hp : t.pos + t.text.length ≤ ts[i].pos := by
          have := toks_pos h4 ts[i] (List.getElem_mem hi'); omega
        simp only [List.getElem_cons_succ] at hmid
        have := ih h4 i hi'
        rw [show mid - gapLen false l - t.text.length = ts[i].pos + ts[i].text.length - (t.pos + t.text.length) by omega]
        exact this
theorem toks_text {ts : List Tok} {l : List UInt8} {p : Nat} (h : Toks ts l p) : ∀ t ∈ ts, 1 ≤ t.text.length := by
  induction ts generalizing l p with
  | nil => simp
  | cons t ts ih =>
    obtain ⟨h1, h2, h3, h4⟩ := h
    have hl := tok_len h1
    intro x hx
    rcases List.mem_cons.1 hx with rfl | hx
    · omega
    · exact ih h4 x hx
/-- The text that the statement lexes again. -/
theorem gaps_plain (s G : ByteArray) (ts : List Tok) (mid : Nat) (hs : s.size ≤ 1500) (hG : G.size ≤ 300) (hg : gapLen false (bs G) = G.size) (h : lex (bs s) = .ok ts)
    (hm : (ts = [] ∧ mid = 0) ∨ ∃ (i : Nat) (hi : i < ts.length), mid = ts[i].pos + ts[i].text.length) :
    ∃ us, lex (bs (G ++ ⟨#[10]⟩ ++ s.extract 0 mid ++ ⟨#[32]⟩ ++ (G ++ ⟨#[10]⟩) ++ s.extract mid s.size ++ ⟨#[32]⟩ ++ ⟨#[10]⟩ ++ G)) = .ok us ∧ us.map key = ts.map key := by
  have ht := lex_toks h
  have hlen := toks_len ht
  rw [bs_length] at hlen
  have hg' : gapLen false (bs G) = (bs G).length := by rw [bs_length]; exact hg
  have e : bs (G ++ ⟨#[10]⟩ ++ s.extract 0 mid ++ ⟨#[32]⟩ ++ (G ++ ⟨#[10]⟩) ++ s.extract mid s.size ++ ⟨#[32]⟩ ++ ⟨#[10]⟩ ++ G) =
      bs G ++ 10 :: (((bs s).take mid ++ 32 :: (bs G ++ 10 :: (bs s).drop mid)) ++ 32 :: 10 :: bs G) := by
    have e1 : bs (s.extract 0 mid) = (bs s).take mid := by rw [bs_extract]; simp
    have e2 : bs (s.extract mid s.size) = (bs s).drop mid := by
      rw [bs_extract]; apply List.take_of_length_le; rw [List.length_drop, bs_length]; omega
    have e3 : bs ⟨#[10]⟩ = [10] := rfl
    have e4 : bs ⟨#[32]⟩ = [32] := rfl
    simp only [bs_append, e1, e2, e3, e4]
    simp
  have hk : KT (ts.map key) ((bs s).take mid ++ 32 :: (bs G ++ 10 :: (bs s).drop mid)) := by
    rcases hm with ⟨rfl, rfl⟩ | ⟨i, hi, rfl⟩
    · rw [List.take_zero, List.drop_zero, List.nil_append]
      exact kt_blank (kt_pre hg' (toks_kt ht))
    · have := kt_split hg' ht i hi
      rwa [Nat.sub_zero] at this
  obtain ⟨us, hu, hku⟩ := kt_toks (kt_pre hg' (kt_end hg' hk)) 0
  have hul : us.length = ts.length := by have := congrArg List.length hku; simpa using this
  refine ⟨us, ?_, hku⟩
  rw [e]
  refine toks_lex hu ?_ (by omega)
  simp only [List.length_append, List.length_cons, List.length_take, List.length_drop, bs_length]
  omega

set_option maxRecDepth 100000 in
set_option maxHeartbeats 2000000 in
theorem walk_LexerGaps (s : ByteArray) (hs : s.size ≤ maxLen) (G : ByteArray) (hG : G.size ≤ maxLen) (a : Int) (ha : (Lit.int .u16 a).wf = true) (w : World) :
    Calls Try.prog 8 #[.string s, .string G, .int .u16 a] w fun e w' => e = .returned (.bool true) ∧ Below w.heap.size w w' := by
  unfold maxLen at hs hG
  have hbd := bounds_u16 ha
  obtain ⟨k, rfl⟩ := Int.eq_ofNat_of_zero_le hbd.1
  have hbig : 1500 < s.size ∨ (¬ 1500 < s.size ∧ 300 < G.size) ∨ (¬ 1500 < s.size ∧ ¬ 300 < G.size) := by omega
  rcases hbig with h3 | ⟨h3, h4⟩ | ⟨h3, h4⟩
  · go_enter Try.func8, Try.ntmps8
    go_wp2_with fail
    refine (head_any _).mono ?_
    rintro e w1 ⟨rfl, hb1⟩
    have HB1 := Lib.hid hb1; clear hb1
    go_wp2_with fail
    go_ret
    exact ⟨rfl, HB1.out⟩
  · go_enter Try.func8, Try.ntmps8
    go_wp2_with fail
    refine (head_any _).mono ?_
    rintro e w1 ⟨rfl, hb1⟩
    have HB1 := Lib.hid hb1; clear hb1
    go_wp2_with fail
    go_ret
    exact ⟨rfl, HB1.out⟩
  · by_cases hgap : gapLen false (bs G) = G.size
    · have HG := Lib.hid hgap; clear hgap
      cases hl : lex (bs s) with
      | error x =>
        obtain ⟨er, p⟩ := x
        have be : ((er : Int) != 0) = true := by
          obtain ⟨ts, r, rfl, he⟩ := lex_errs hl (by rw [bs_length]; omega)
          have := errs_len he
          rw [bne_iff_ne]; omega
        have HL := Lib.hid hl; clear hl
        go_enter Try.func8, Try.ntmps8
        go_wp2_with fail
        refine (head_any _).mono ?_
        rintro e w1 ⟨rfl, hb1⟩
        have HB1 := Lib.hid hb1; clear hb1
        go_wp2_with (go_at_call 14; refine (refGaps_true G _ (by omega) HG.out).mono ?_; rintro e w' ⟨rfl, rfl⟩)
        refine (lex_no s _ (by omega) er p HL.out).mono ?_
        rintro e w2 ⟨rfl, hb2⟩
        have HB2 := Lib.hid (HB1.out.trans (hb2.mono HB1.out.size)); clear hb2 HB1
        go_wp2_with fail
        go_ret
        exact ⟨rfl, HB2.out⟩
      | ok ts =>
        have HP := Lib.hid (toks_pos (lex_toks hl))
        have hlen := toks_len (lex_toks hl)
        rw [bs_length] at hlen
        have HL := Lib.hid hl; clear hl
        by_cases h0 : ts.length = 0
        · have hnil : ts = [] := List.eq_nil_of_length_eq_zero h0
          subst hnil
          clear h0
          obtain ⟨us, hu, hku⟩ := gaps_plain s G [] 0 (by omega) (by omega) HG.out HL.out (.inl ⟨rfl, rfl⟩)
          have HU := Lib.hid hu; clear hu
          have hsl0 : ∀ W, (Instr.slice 9 (.string s) (some (.int .i64 0)) none none).run Try.prog W = .ok (.string (s.extract 0 s.size)) W := fun W => by
            have := run_slice_string_l (P := Try.prog) W 9 s Try.underlying9 .i64 0 (by omega) (by omega)
            simpa using this
          go_enter Try.func8, Try.ntmps8
          go_wp2_with fail
          refine (head_any _).mono ?_
          rintro e w1 ⟨rfl, hb1⟩
          have HB1 := Lib.hid hb1; clear hb1
          go_wp2_with (go_at_call 14; refine (refGaps_true G _ (by omega) HG.out).mono ?_; rintro e w' ⟨rfl, rfl⟩)
          refine (lex_ok s _ (by omega) [] HL.out).mono ?_
          rintro e w2 ⟨⟨A, cap, rfl, ho⟩, hb2⟩
          have HB2 := Lib.hid (HB1.out.trans (hb2.mono HB1.out.size)); clear hb2 HB1 ho
          have hz : (G ++ ⟨#[10]⟩ ++ ⟨#[32]⟩ ++ (G ++ ⟨#[10]⟩) ++ s ++ ⟨#[32]⟩ ++ ⟨#[10]⟩ ++ G).size ≤ 9223372036854775807 := by
            simp only [ByteArray.size_append]; show G.size + 1 + 1 + (G.size + 1) + s.size + 1 + 1 + G.size ≤ _; omega
          have hu2 : lex (bs (G ++ ⟨#[10]⟩ ++ ⟨#[32]⟩ ++ (G ++ ⟨#[10]⟩) ++ s ++ ⟨#[32]⟩ ++ ⟨#[10]⟩ ++ G)) = .ok us := by
            have := HU.out
            have e1 : bs (s.extract 0 0) = [] := by rw [bs_extract]; simp
            have e2 : bs (s.extract 0 s.size) = bs s := by
              rw [bs_extract]; simp only [List.drop_zero, Nat.sub_zero]; apply List.take_of_length_le; rw [bs_length]; omega
            simp only [bs_append, e1, e2, List.append_nil] at this ⊢
            exact this
          have hul : us.length = 0 := by have := congrArg List.length hku; simpa using this
          have hun : us = [] := List.eq_nil_of_length_eq_zero hul
          subst hun
          have HZ := Lib.hid hz
          have HU2 := Lib.hid hu2; clear hz hu2 HU hul hku
          go_wp2_with fail
          refine (lex_ok _ _ HZ.out [] HU2.out).mono ?_
          rintro e w3 ⟨⟨A3, cap3, rfl, ho3⟩, hb3⟩
          have HB3 := Lib.hid (HB2.out.trans (hb3.mono HB2.out.size)); clear hb3 HB2 ho3
          go_wp2_with fail
          refine (alike_true [] [] A A3 cap cap3 _ (by simp) rfl (fun h => by simp at h) (fun h => by simp at h)).mono ?_
          rintro e w4 ⟨rfl, m, rfl⟩
          go_wp2_with fail
          go_ret
          exact ⟨rfl, below_drewN HB3.out m⟩
        · obtain ⟨i, hi⟩ : ∃ i, k % ts.length = i := ⟨_, rfl⟩
          have hit : i < ts.length := by rw [← hi]; exact Nat.mod_lt _ (by omega)
          obtain ⟨us, hu, hku⟩ := gaps_plain s G ts (ts[i].pos + ts[i].text.length) (by omega) (by omega) HG.out HL.out (.inr ⟨i, hit, rfl⟩)
          have hul : us.length = ts.length := by have := congrArg List.length hku; simpa using this
          have hpi := HP.out ts[i] (List.getElem_mem hit)
          rw [bs_length, Nat.zero_add] at hpi
          have hti := toks_text (lex_toks HL.out) ts[i] (List.getElem_mem hit)
          have HU := Lib.hid hu; clear hu
          have HKU := Lib.hid hku; clear hku
          have HUL := Lib.hid hul; clear hul
          have HI := Lib.hid hi; clear hi
          have hmod : (k : Int) % (ts.length : Int) = (i : Int) := by rw [← HI.out]; rfl
          go_enter Try.func8, Try.ntmps8
          go_wp2_with fail
          refine (head_any _).mono ?_
          rintro e w1 ⟨rfl, hb1⟩
          have HB1 := Lib.hid hb1; clear hb1
          go_wp2_with (go_at_call 14; refine (refGaps_true G _ (by omega) HG.out).mono ?_; rintro e w' ⟨rfl, rfl⟩)
          refine (lex_ok s _ (by omega) ts HL.out).mono ?_
          rintro e w2 ⟨⟨A, cap, rfl, ho⟩, hb2⟩
          have HB2 := Lib.hid (HB1.out.trans (hb2.mono HB1.out.size)); clear hb2 HB1
          have hrow := tokRow_of_own ho
          have HR := Lib.hid hrow; clear ho
          obtain ⟨g, o, rfl, hg, hc⟩ := hrow (by omega)
          obtain ⟨a0, a1, a2, a3⟩ := hc i hit
          clear hc hrow hg
          obtain ⟨x, hx, hxs⟩ : ∃ x, ByteArray.mk ts[i].text.toArray = x ∧ ts[i].text.length = x.size := ⟨_, rfl, (mk_size _).symm⟩
          rw [hx] at a1
          clear hx
          rw [hxs] at HU hpi hti
          generalize ts[i].pos = P at *
          generalize ts[i].kind = K0 at *
          generalize ts[i].n = N0 at *
          clear hxs
          have bz : (((P : Int) + (x.size : Int)) == 0) = false := beq_eq_false_iff_ne.2 (by omega)
          have hz : (G ++ ⟨#[10]⟩ ++ s.extract 0 (P + x.size) ++ ⟨#[32]⟩ ++ (G ++ ⟨#[10]⟩) ++ s.extract (P + x.size) s.size ++ ⟨#[32]⟩ ++ ⟨#[10]⟩ ++ G).size ≤ 9223372036854775807 := by
            simp only [ByteArray.size_append, ByteArray.size_extract]
            show G.size + 1 + (min (P + x.size) s.size - 0) + 1 + (G.size + 1) + (min s.size s.size - (P + x.size)) + 1 + 1 + G.size ≤ _; omega
          have HZ := Lib.hid hz; clear hz
          go_wp2_with fail
          refine (lex_ok _ _ HZ.out us HU.out).mono ?_
          rw [HUL.out]
          rintro e w3 ⟨⟨A3, cap3, rfl, ho3⟩, hb3⟩
          have hr3 : TokRow w3 A3 us := tokRow_of_own (n := ts.length) (cap := cap3) (by rw [HUL.out]; exact ho3)
          have HR3 := Lib.hid hr3; clear hr3 ho3
          have hal := (Below.refl w2.heap.size w2).alloc (Nat.le_refl _) (.cells #[.int .i64 K0, .string x, .int .i64 N0, .int .i64 P] 30)
          have hb23 : Below w2.heap.size w2 w3 := hal.trans (hb3.mono (by simp))
          have HT3 := Lib.hid (HR.out.below hb23)
          have HB3 := Lib.hid (HB2.out.trans (hb23.mono HB2.out.size)); clear hb3 hb23 hal HB2
          go_wp2_with fail
          refine (alike_true ts us _ A3 cap cap3 _ (by omega) HKU.out HT3.out HR3.out).mono ?_
          rintro e w4 ⟨rfl, m, rfl⟩
          go_wp2_with fail
          go_ret
          exact ⟨rfl, below_drewN HB3.out m⟩
    · have HG := Lib.hid hgap; clear hgap
      go_enter Try.func8, Try.ntmps8
      go_wp2_with fail
      refine (head_any _).mono ?_
      rintro e w1 ⟨rfl, hb1⟩
      have HB1 := Lib.hid hb1; clear hb1
      go_wp2_with (go_at_call 14; refine (refGaps_false G _ (by omega) HG.out).mono ?_; rintro e w' ⟨rfl, rfl⟩)
      go_ret
      exact ⟨rfl, HB1.out⟩
end Go.Proofs.Ytbehkkgdgfdkaaa
