/-
  What the parser's method template returns.
-/
import Derived.Test.YtfaflipphkoiiaaDoorParItemFn
namespace Go.Proofs.YtfaflipphkoiiaaDoor.Pr
open Go.RowKit Mem
open Lx (Tok)
set_option linter.unusedVariables false

theorem icells_one' (f : Flat) (sc sd sn si : Value) (h1 : ∃ A n c, sc = .slice A n c) (h2 : ∃ A n c, sd = .slice A n c) (h3 : ∃ A n c, sn = .slice A n c) (h4 : ∃ A n c, si = .slice A n c) : ∀ u ∈ icells f sc sd sn si, u.oneCell' = true := by
  have := icells_one f sc sd sn si h1 h2 h3 h4
  rw [← Array.all_toList] at this
  exact List.all_eq_true.1 this
theorem fold_icells (f : Flat) (sc sd sn si : Value) : List.foldl (fun (cs : Array Value) (x : Value × Nat) => cs.setIfInBounds x.snd x.fst) #[.int .i64 0, .string ⟨#[]⟩, .int .i64 0, .string ⟨#[]⟩, .string ⟨#[]⟩, .int .i64 0, .int .i64 0, .int .i64 0, .bool false, .string ⟨#[]⟩, .int .i64 0, .bool false, .string ⟨#[]⟩, .slice none 0 0, .string ⟨#[]⟩, .string ⟨#[]⟩, .int .i64 0, .int .i64 0, .string ⟨#[]⟩, .string ⟨#[]⟩, .bool false, .string ⟨#[]⟩, .string ⟨#[]⟩, .bool false, .bool false, .bool false, .bool false, .bool false, .bool false, .bool false, .slice none 0 0, .slice none 0 0, .slice none 0 0] (icells f sc sd sn si).zipIdx = (icells f sc sd sn si).toArray := by kernel_rfl
theorem solo_len (l : List Flat) : (solo l).length = l.length := by simp [solo]
theorem solo_snoc (l : List Flat) (x : Flat) : solo (l ++ [x]) = solo l ++ [⟨x, []⟩] := by simp [solo]
/-- What the loop over the items of a template holds. -/
def TRel (E : Env) (b q : Nat) (fl : Flat) (sn : Value) (w0 : World) (R : List Flat) (sr : St) (wr : World) : Prop :=
  ∃ (l : List Flat) (s' : St) (f : Nat) (vs : List Sl) (si : Value), IB q fl nil nil sn si wr ∧ RowSv w0.heap.size (solo l) vs si wr ∧ After2 E b q s' w0 wr ∧ (s'.err = 0 → s'.rest.length < f) ∧ (solo l).length + s'.rest.length + (if s'.err = 0 then 1 else 0) ≤ 5002 ∧ (l ++ (tmplMore f s').1, (tmplMore f s').2) = (R, sr)
theorem is_after (E : Env) (b : Nat) (s : St) (x : Bytes) (W : World) (h : PW E b s W) :
    Calls Tryd.prog 87 #[.pointer (some ⟨b, 0, none⟩), .string ⟨x.toArray⟩] W fun e w' => e = .returned (.bool (isT x s)) ∧ After E b s W w' :=
  (is_any E b s x W h).mono fun e w' ⟨he, m, hm⟩ => ⟨he, by subst hm; exact (After.start h).drewN m⟩
theorem acc_isT (x : Bytes) (s : St) : (acc x s).1 = isT x s := by unfold acc; cases isT x s <;> rfl
theorem acc_same {x : Bytes} {s : St} (h : isT x s = false) : (acc x s).2 = s := by unfold acc; rw [h]; rfl
theorem expect_yes {x : Bytes} {s : St} (h : isT x s = true) : (expect [x] s).2 = (acc x s).2 := by
  have : acc x s = (true, (acc x s).2) := by rw [← h, ← acc_isT]
  show (bnd (acc x) (fun b => if b then expect [] else Pr.fail) s).2 = _
  rw [acc_yes this]
  rfl
theorem isT_bad {x : Bytes} {s : St} (h : s.err ≠ 0) : isT x s = false := by simp [isT, h]
theorem expect_bad {x : Bytes} {s : St} (h : s.err ≠ 0) : (expect [x] s).2 = s := by
  have : acc x s = (false, s) := by unfold acc; rw [isT_bad h]; rfl
  show (bnd (acc x) (fun b => if b then expect [] else Pr.fail) s).2 = _
  rw [acc_no this]
  show (if s.err ≠ 0 then s else _) = s
  rw [if_pos h]

set_option maxRecDepth 100000 in
set_option maxHeartbeats 4000000 in
theorem template_any (E : Env) (b : Nat) (s : St) (W : World) (h : PW E b s W) :
    Calls Tryd.prog 69 #[.pointer (some ⟨b, 0, none⟩)] W fun e w' => ItemEnd E b (template s).1 (template s).2 W e w' := by
  have hbl := h.2.2.1
  obtain ⟨zv, hzz, hz33⟩ := info_itemz
  obtain ⟨i0, hi, hz0, hz1, hz2⟩ := info_parts hzz
  obtain ⟨n, s1, h1⟩ : ∃ x s', name s = (x, s') := ⟨_, _, rfl⟩
  obtain ⟨L, s2, h2⟩ : ∃ x s', names s1 = (x, s') := ⟨_, _, rfl⟩
  obtain ⟨u3, s3, h3⟩ : ∃ x s', expect [[123]] s2 = (x, s') := ⟨_, _, rfl⟩
  obtain ⟨R, sr, h4⟩ : ∃ R sr, long tmplMore s3 = (R, sr) := ⟨_, _, rfl⟩
  have hp : template s = (⟨{ flat0 with kind := 13, name := n, names := L }, R⟩, sr) := (bnd_eq h1).trans ((bnd_eq h2).trans ((seq_eq h3).trans ((bnd_eq h4).trans rfl)))
  rw [hp]
  have HP := Lib.hid h; have H1 := Lib.hid h1; have H2 := Lib.hid h2; have H3 := Lib.hid h3; have H4 := Lib.hid h4
  clear h h1 h2 h3 h4 hp hzz
  go_enter Tryd.func69, Tryd.ntmps69
  go_wp2_with fail
  refine (name_any E b s _ ((After.start HP.out).alloc _).1).mono ?_
  rw [H1.out]
  rintro e w1 ⟨rfl, hA⟩
  have HR : Hid (IB W.heap.size flat0 nil nil nil nil w1) := hA.2.blk (blk_newn (by simp)) (by omega)
  have HA := Lib.hid (((After.start HP.out).alloc _).trans hA)
  have hs1 : W.heap.size < w1.heap.size := by have := hA.2.size; simp only [World.size_alloc] at this; omega
  clear hA
  go_wp2_with (first | (refine wpList_build rfl 57 _ rfl #[(0, .int .i64 13), (1, .string ⟨n.toArray⟩)] ?_ _ (build_tmpl n _) ?_; (simp [Act.eval])) | (refine wpList_store_new rfl 57 _ _ rfl rfl (icells { flat0 with kind := 13, name := n } nil nil nil nil).toArray rfl (info_size _ _ _ _ _) (icells_one _ _ _ _ _ ⟨_, _, _, rfl⟩ ⟨_, _, _, rfl⟩ ⟨_, _, _, rfl⟩ ⟨_, _, _, rfl⟩) (by rfl) ?_))
  refine (names_any E b s1 _ (HA.out.alloc _).1).mono ?_
  rw [H2.out]
  rintro e w2 ⟨⟨sn, rfl, hO⟩, hA⟩
  obtain ⟨An, cn, rfl⟩ := own_form hO
  have HR2 : Hid (IB W.heap.size flat0 nil nil nil nil w2) := hA.2.blk (blk_alloc HR.out _) (by omega)
  have HI2 : Hid (IB w1.heap.size { flat0 with kind := 13, name := n } nil nil nil nil w2) := hA.2.blk (blk_newn (by simp)) (by omega)
  have HN2 : Hid (w2.ownsRow (w1.heap.size + 1) 9 1 (.slice An L.length cn) L.length (L.map sv)) := own_base hO (by simp only [World.size_alloc]; omega)
  have HA2 := Lib.hid ((HA.out.alloc _).trans hA)
  clear hA hO HA HR
  have hq2 := lt_of_blk HI2.out
  have kn : w2.cell? ⟨w1.heap.size, 31, none⟩ = some nil := cell_of_blk HI2.out 31
  unfold nil at kn
  have fn : w2.frozen? ⟨w1.heap.size, 31, none⟩ = false := froz_of_blk HI2.out 31
  go_wp2_with fail
  refine (expect1 E b s2 [123] _ _ (by simp) (HA2.out.set (i := 31) (by omega) (by omega) (.slice An L.length cn)).1).mono ?_
  rw [H3.out]
  rintro e w3 ⟨rfl, hA⟩
  have HR3 : Hid (IB W.heap.size flat0 nil nil nil nil w3) := hA.2.blk (blk_farq HR2.out (by omega) (.slice An L.length cn)) (by omega)
  have HI3 : Hid (IB w1.heap.size { flat0 with kind := 13, name := n, names := L } nil nil (.slice An L.length cn) nil w3) := hA.2.blk (IB.set_sn HI2.out (.slice An L.length cn)) (by omega)
  have HN3 := Lib.hid (own_fr (own_setn (c := w1.heap.size) (i := 31) HN2.out (fun g hg => by have := (own_lt HN2.out g hg).1; omega) (.slice An L.length cn)) hA.2 (fun k hk _ e => by omega))
  have HA3 := Lib.hid ((HA2.out.set (i := 31) (by omega) (by omega) (.slice An L.length cn)).trans hA)
  clear hA HA2 HR2 HI2 HN2 kn fn
  have hq3 := lt_of_blk HI3.out
  go_wp2_with fail
  refine (innerKinds_any _).mono ?_
  rintro e w4 ⟨rfl, hm4, hfr⟩
  have HR0 : Hid (IB W.heap.size flat0 nil nil nil nil w4) := hfr.blk HR3.out (fun h => h)
  have HI0 : Hid (IB w1.heap.size { flat0 with kind := 13, name := n, names := L } nil nil (.slice An L.length cn) nil w4) := hfr.blk HI3.out (fun h => h)
  have HN0 := Lib.hid (own_fr HN3.out hfr (fun k hk _ h => h))
  have HA0 : Hid (After E b s3 W w4) := ⟨HA3.out.1.fr hfr (fun k hk h => h), HA3.out.2.trans' hfr (fun i hi h => h.elim)⟩
  have HM0 := Lib.hid hm4
  have hr4 := lt_of_blk hm4
  clear hm4 hfr HA3 HR3 HI3 HN3
  generalize hqq : w1.heap.size = q at *
  generalize hrr : w3.heap.size = r at *
  have hln := HA0.out.1.len
  go_wp2_with fail
  go_loopw [] (fun wr => TRel E b q { flat0 with kind := 13, name := n, names := L } (.slice An L.length cn) w4 R sr wr) (fun wr => 2 * lft E b wr + okn b wr)
  case atStart => exact ⟨[], s3, s3.rest.length + 1, [], nil, HI0.out, RowSv.nil _ _, After2.start HA0.out.1, fun _ => by omega, by simp [solo]; split <;> omega, by have := H4.out; unfold long at this; rw [this]; rfl⟩
  case round =>
    obtain ⟨l, s', f, vs, si, hI, hRS, hA, hf, hb, hX⟩ := hrel
    have hlf := hA.1.lft
    have hok := hA.1.okn
    have hsz := hA.2.size
    obtain ⟨A5, cap5, rfl⟩ := hRS.form
    have HA := Lib.hid hA; clear hA
    have HI := Lib.hid hI; clear hI
    have HRS := Lib.hid hRS; clear hRS
    by_cases he : s'.err = 0
    · obtain ⟨f, rfl⟩ : ∃ g, f = g + 1 := ⟨f - 1, by have := hf he; omega⟩
      rw [tmplMore_succ f s' he] at hX
      cases hT : isT [125] s' with
      | true =>
        rw [acc_isT, hT] at hX
        simp only [if_true] at hX
        have hex : (expect [[125]] s').2 = sr := by rw [expect_yes hT]; injection hX
        have hRl : l = R := by have := congrArg Prod.fst hX; simpa using this
        subst hRl
        have HEX := Lib.hid hex; have HT := Lib.hid hT; have HE := Lib.hid he
        clear hex hT hX he hlf hok hf hb
        go_wp2_with fail
        refine (ok_yes E b s' _ HA.out.1 HE.out).mono ?_
        rintro e w7 ⟨rfl, rfl⟩
        go_wp2_with fail
        refine (is_after E b s' [125] _ HA.out.1).mono ?_
        rw [HT.out]
        rintro e w8 ⟨rfl, hA8⟩
        have HI8 : Hid (IB q { flat0 with kind := 13, name := n, names := L } nil nil (.slice An L.length cn) (.slice A5 (solo l).length cap5) w8) := hA8.2.blk HI.out (by omega)
        have HRS8 := Lib.hid (HRS.out.fr hA8.2 (fun k hk _ e => by omega))
        have HA8 := Lib.hid (HA.out.trans hA8)
        have hsz8 := hA8.2.size
        clear hA8 HA HI HRS
        have HA := Lib.hid HA8.out; have HI := Lib.hid HI8.out; have HRS := Lib.hid HRS8.out
        clear HA8 HI8 HRS8
        go_wp2_with fail
        refine (expect1 E b s' [125] _ _ (by simp) HA.out.1).mono ?_
        rw [HEX.out]
        rintro e w9 ⟨rfl, hA9⟩
        have HA9 := Lib.hid (HA.out.trans hA9)
        have HI9 : Hid (IB q { flat0 with kind := 13, name := n, names := L } nil nil (.slice An L.length cn) (.slice A5 (solo l).length cap5) w9) := hA9.2.blk HI.out (by omega)
        have HRS9 := Lib.hid (HRS.out.fr hA9.2 (fun k hk _ e => by omega))
        have HAW := Lib.hid (HA0.out.ptr HA9.out (by omega))
        have HR9 : Hid (IB W.heap.size flat0 nil nil nil nil w9) := HA9.out.2.blk HR0.out (by omega)
        have HN9 := Lib.hid (own_fr HN0.out HA9.out.2 (fun k hk _ e => by omega))
        clear hA9 HA HI HRS
        obtain ⟨w99, hw99, hA99, hl99, ho99⟩ := item_end HR9.out HAW.out hbl { flat0 with kind := 13, name := n, names := L } nil nil (.slice An L.length cn) (.slice A5 (solo l).length cap5)
        have R99 := Lib.hid (own_base (ho99 _ _ _ _ _ _ (by omega) HN9.out) (by omega : W.heap.size ≤ _))
        have RI99 : Hid (RowI W.heap.size l (.slice A5 (solo l).length cap5) w99) := HRS9.out.inner.carry fun e z v n xs ho => own_base (ho99 _ _ _ _ _ _ (by omega) ho) (by omega)
        have HW99 := Lib.hid hw99; clear hw99
        have HA99 := Lib.hid hA99; clear hA99
        have HL99 := Lib.hid hl99; clear hl99 ho99
        go_wp2_with (first | (refine wpList_load_mid rfl 57 _ rfl q 0 rfl (icells { flat0 with kind := 13, name := n, names := L } nil nil (.slice An L.length cn) (.slice A5 (solo l).length cap5)) _ HI9.out.range Tryd.underlying57 rfl (info_len _ _ _ _ _) ?_) | (refine wpList_store_mid rfl 57 _ _ rfl W.heap.size 0 (icells { flat0 with kind := 13, name := n, names := L } nil nil (.slice An L.length cn) (.slice A5 (solo l).length cap5)).toArray rfl rfl (HR9.out.there' _ _ _ _ _) (info_size _ _ _ _ _) (icells_one _ _ _ _ _ ⟨_, _, _, rfl⟩ ⟨_, _, _, rfl⟩ ⟨_, _, _, rfl⟩ ⟨_, _, _, rfl⟩) ?_; rw [HW99.out]))
        exact bodyPost_ret (v := .agg (icells { flat0 with kind := 13, name := n, names := L } nil nil (.slice An L.length cn) (.slice A5 (solo l).length cap5)).toArray) (results_cell Tryd.results69 rfl HL99.out) rfl ⟨⟨nil, nil, _, _, rfl, ⟨World.ownsRow_nil _ _ _ _, World.ownsRow_nil _ _ _ _, R99.out⟩, RI99.out⟩, HA99.out⟩
      | false =>
        have hac := acc_same hT
        have hX3 : (l ++ (inner s').1 :: (tmplMore f (inner s').2).1, (tmplMore f (inner s').2).2) = (R, sr) := by rw [acc_isT, hT, hac] at hX; exact hX
        have hpr := inner_prog s'
        obtain ⟨x, sx, hx⟩ : ∃ x sx, inner s' = (x, sx) := ⟨_, _, rfl⟩
        rw [hx] at hX3 hpr
        have hf2 := hf he
        rw [if_pos he] at hb hok
        have HX := Lib.hid hX3; have HXX := Lib.hid hx; have HT := Lib.hid hT; have HE := Lib.hid he; have HLF := Lib.hid hlf; have HOK := Lib.hid hok
        clear hX3 hx hT hX he hlf hok hf hac
        go_wp2_with fail
        refine (ok_yes E b s' _ HA.out.1 HE.out).mono ?_
        rintro e w7 ⟨rfl, rfl⟩
        go_wp2_with fail
        refine (is_after E b s' [125] _ HA.out.1).mono ?_
        rw [HT.out]
        rintro e w8 ⟨rfl, hA8⟩
        have HI8 : Hid (IB q { flat0 with kind := 13, name := n, names := L } nil nil (.slice An L.length cn) (.slice A5 (solo l).length cap5) w8) := hA8.2.blk HI.out (by omega)
        have HRS8 := Lib.hid (HRS.out.fr hA8.2 (fun k hk _ e => by omega))
        have HA8 := Lib.hid (HA.out.trans hA8)
        have hsz8 := hA8.2.size
        clear hA8 HA HI HRS
        have HA := Lib.hid HA8.out; have HI := Lib.hid HI8.out; have HRS := Lib.hid HRS8.out
        clear HA8 HI8 HRS8
        have HAd : Hid (After2 E b q s' w4 w8.drew) := HA.out.drewN 1
        have HId : Hid (IB q { flat0 with kind := 13, name := n, names := L } nil nil (.slice An L.length cn) (.slice A5 (solo l).length cap5) w8.drew) := HI.out
        have HRd : Hid (RowSv w4.heap.size (solo l) vs (.slice A5 (solo l).length cap5) w8.drew) := HRS.out
        have HMd : Hid (w8.drew.heap[r]? = some (.map innerEnts 5)) := HAd.out.2.blk HM0.out (by omega)
        have hqlt := lt_of_blk HId.out
        have k32 : w8.cell? ⟨q, 32, none⟩ = some (.slice A5 (solo l).length cap5) := cell_of_blk HId.out 32
        clear HA HI HRS
        go_wp2_with fail
        go_region_law (first | (refine step_call2 rfl 39 _ _ _ rfl ent_item (.pointer (some ⟨b, 0, none⟩)) (.map (some r)) (by rfl) (by rfl) (inner_any E b s' w8.drew HAd.out.1 r HMd.out (by omega)) ?_; rw [HXX.out]; rintro e v2 ⟨⟨sc, sd, sn, rfl, hF2⟩, hA2⟩; refine ⟨_, rfl, ?_⟩; have HA2 := Lib.hid (HAd.out.trans hA2); have HI2 : Hid (IB q { flat0 with kind := 13, name := n, names := L } nil nil (.slice An L.length cn) (.slice A5 (solo l).length cap5) v2) := (hA2.2.blk HId.out (by omega)); have HF2 := Lib.hid hF2; have hil := icells_len x sc sd sn nil; have hif := fold_icells x sc sd sn nil; have HFR2 := Lib.hid hA2.2; have HR2 := Lib.hid (HRd.out.fr hA2.2 (fun k hk _ e => by omega)); have j32 : v2.cell? ⟨q, 32, none⟩ = some (.slice A5 (solo l).length cap5) := (cell_of_blk HI2.out 32); have j32a : ∀ o, (v2.alloc o).cell? ⟨q, 32, none⟩ = some (.slice A5 (solo l).length cap5) := (fun o => cell_of_blk (blk_alloc HI2.out o) 32); have hz2w := hA2.2.size; clear hA2 hF2) | (refine step_append_lies _ rfl (.tmp 23) (.tmp 27) 25 rfl w4.heap.size 57 i0 _ 33 368 Tryd.underlying25 hi hz0 hz1 hz2 hz33 (by decide) (.slice A5 (solo l).length cap5) (solo l).length _ (by rfl) (HR2.out.2.2.1.alloc _) ⟨v2.heap.size, 0, none⟩ 1 1 (icells x sc sd sn nil) (by rfl) (by rfl) (World.news_of_block (cs := (icells x sc sd sn nil).toArray) (t := 57) (fr := (0, 0)) (heap_alloc_new v2 _)) (icells_one' _ _ _ _ _ HF2.out.forms.1 HF2.out.forms.2.1 HF2.out.forms.2.2 ⟨_, _, _, rfl⟩) (by decide) (by simp only [maxLen]; omega) (by omega) (by simp only [World.size_alloc]; have : w8.drew.heap.size = w8.heap.size := rfl; omega) (v2.heap.size + 1) (by simp) ?_; intro gg cap1 w5 hown5 hgrow hat hlt5; have HS5 := Lib.hid (HRd.out.snoc (x := ⟨x, []⟩) HFR2.out (fun k hk _ e => by omega) (by show _ ≤ w8.heap.size; omega) HF2.out (RowI.nil _ _) hgrow hown5 hat); have HA5 := Lib.hid (HA2.out.grown hgrow (fun g hg => (own_lt HR2.out.2.2.1 g hg).1) (by omega)); have HI5 : Hid (IB q { flat0 with kind := 13, name := n, names := L } nil nil (.slice An L.length cn) (.slice A5 (solo l).length cap5) w5) := (grown_blk hgrow HI2.out (fun g hg e => by have := (own_lt HR2.out.2.2.1 g hg).1; omega)); have e0 : w5.cell? ⟨q, 32, none⟩ = some (.slice A5 (solo l).length cap5) := (cell_of_blk HI5.out 32); have e1 : w5.frozen? ⟨q, 32, none⟩ = false := (froz_of_blk HI5.out 32); clear hown5 hgrow hat))
        all_goals
          have HI6 := Lib.hid (IB.set_si HI5.out (.slice (some ⟨gg, 0, none⟩) ((solo l).length + 1) cap1))
          have HS6 := Lib.hid (HS5.out.set (q := q) (i := 32) (by omega) (.slice (some ⟨gg, 0, none⟩) ((solo l).length + 1) cap1))
          have HA6 := Lib.hid (HA5.out.set (i := 32) (by omega) (.slice (some ⟨gg, 0, none⟩) ((solo l).length + 1) cap1))
          have hlf6 := HA6.out.1.lft
          have hok6 := HA6.out.1.okn
          have HN : Hid (TRel E b q { flat0 with kind := 13, name := n, names := L } (.slice An L.length cn) w4 R sr (w5.setCell ⟨q, 32, none⟩ (.slice (some ⟨gg, 0, none⟩) ((solo l).length + 1) cap1))) := by
            refine ⟨l ++ [x], sx, f, _, _, HI6.out, by rw [solo_snoc]; exact HS6.out, HA6.out, fun he => by have := hpr.2 he; omega, ?_, by rw [← HX.out]; simp⟩
            rw [solo_snoc, List.length_append]
            simp only [List.length_cons, List.length_nil]
            by_cases he : sx.err = 0
            · rw [if_pos he]; have := hpr.2 he; omega
            · rw [if_neg he]; have := hpr.1; omega
          have HM : Hid (2 * lft E b (w5.setCell ⟨q, 32, none⟩ (.slice (some ⟨gg, 0, none⟩) ((solo l).length + 1) cap1)) + okn b (w5.setCell ⟨q, 32, none⟩ (.slice (some ⟨gg, 0, none⟩) ((solo l).length + 1) cap1)) < 2 * lft E b w7 + okn b w7) := by
            show _ < _
            rw [hlf6, hok6, HLF.out, HOK.out]
            show 2 * sx.rest.length + (if sx.err = 0 then 1 else 0) < _
            by_cases he : sx.err = 0
            · rw [if_pos he]; have := hpr.2 he; omega
            · rw [if_neg he]; have := hpr.1; omega
          clear hil hif HI6 HS6 HA6 hlf6 hok6 HI5 HS5 HA5 e0 e1 j32 j32a k32 HAd HId HRd HMd HA2 HI2 HF2 HFR2 HR2
          go_wp2_with fail
          go_roundw
          case rel => exact HN.out
          case measure => exact HM.out
    · rw [tmplMore_err f s' he] at hX
      have hex : (expect [[125]] s').2 = sr := by rw [expect_bad he]; injection hX
      have hRl : l = R := by have := congrArg Prod.fst hX; simpa using this
      subst hRl
      have HEX := Lib.hid hex; have HE := Lib.hid he
      clear hex hX he hlf hok hf hb
      go_wp2_with fail
      refine (ok_no E b s' _ HA.out.1 HE.out).mono ?_
      rintro e w7 ⟨rfl, rfl⟩
      go_wp2_with fail
      refine (expect1 E b s' [125] _ _ (by simp) HA.out.1).mono ?_
      rw [HEX.out]
      rintro e w9 ⟨rfl, hA9⟩
      have HA9 := Lib.hid (HA.out.trans hA9)
      have HI9 : Hid (IB q { flat0 with kind := 13, name := n, names := L } nil nil (.slice An L.length cn) (.slice A5 (solo l).length cap5) w9) := hA9.2.blk HI.out (by omega)
      have HRS9 := Lib.hid (HRS.out.fr hA9.2 (fun k hk _ e => by omega))
      have HAW := Lib.hid (HA0.out.ptr HA9.out (by omega))
      have HR9 : Hid (IB W.heap.size flat0 nil nil nil nil w9) := HA9.out.2.blk HR0.out (by omega)
      have HN9 := Lib.hid (own_fr HN0.out HA9.out.2 (fun k hk _ e => by omega))
      clear hA9 HA HI HRS
      obtain ⟨w99, hw99, hA99, hl99, ho99⟩ := item_end HR9.out HAW.out hbl { flat0 with kind := 13, name := n, names := L } nil nil (.slice An L.length cn) (.slice A5 (solo l).length cap5)
      have R99 := Lib.hid (own_base (ho99 _ _ _ _ _ _ (by omega) HN9.out) (by omega : W.heap.size ≤ _))
      have RI99 : Hid (RowI W.heap.size l (.slice A5 (solo l).length cap5) w99) := HRS9.out.inner.carry fun e z v n xs ho => own_base (ho99 _ _ _ _ _ _ (by omega) ho) (by omega)
      have HW99 := Lib.hid hw99; clear hw99
      have HA99 := Lib.hid hA99; clear hA99
      have HL99 := Lib.hid hl99; clear hl99 ho99
      go_wp2_with (first | (refine wpList_load_mid rfl 57 _ rfl q 0 rfl (icells { flat0 with kind := 13, name := n, names := L } nil nil (.slice An L.length cn) (.slice A5 (solo l).length cap5)) _ HI9.out.range Tryd.underlying57 rfl (info_len _ _ _ _ _) ?_) | (refine wpList_store_mid rfl 57 _ _ rfl W.heap.size 0 (icells { flat0 with kind := 13, name := n, names := L } nil nil (.slice An L.length cn) (.slice A5 (solo l).length cap5)).toArray rfl rfl (HR9.out.there' _ _ _ _ _) (info_size _ _ _ _ _) (icells_one _ _ _ _ _ ⟨_, _, _, rfl⟩ ⟨_, _, _, rfl⟩ ⟨_, _, _, rfl⟩ ⟨_, _, _, rfl⟩) ?_; rw [HW99.out]))
      exact bodyPost_ret (v := .agg (icells { flat0 with kind := 13, name := n, names := L } nil nil (.slice An L.length cn) (.slice A5 (solo l).length cap5)).toArray) (results_cell Tryd.results69 rfl HL99.out) rfl ⟨⟨nil, nil, _, _, rfl, ⟨World.ownsRow_nil _ _ _ _, World.ownsRow_nil _ _ _ _, R99.out⟩, RI99.out⟩, HA99.out⟩
end Go.Proofs.YtfaflipphkoiiaaDoor.Pr
