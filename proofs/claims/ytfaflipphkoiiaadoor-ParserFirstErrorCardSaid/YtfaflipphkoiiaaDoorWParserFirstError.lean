/-
  The walk of the statement ParserFirstError: it returns true for every two texts.
-/
import Derived.Test.YtfaflipphkoiiaaDoorParFirst
import Derived.Test.YtfaflipphkoiiaaDoorParHead
namespace Go.Proofs.YtfaflipphkoiiaaDoor
open Go.RowKit Mem Pr
open Lx (bs bs_length cellsOf cellsAll Tok)
set_option linter.unusedVariables false

/-- Parse, with the tree left aside. -/
theorem parse_e (s : ByteArray) (w : World) (hs : s.size ≤ 9223372036854775807) (hw : Wks w) :
    Calls Tryd.prog 11 #[.string s] w fun e w' => (∃ n c k A m cap, e = .returned (.tuple #[.agg (srcells n c k (.slice A m cap)).toArray, .int .i64 (perr (bs s)), .int .i64 (ppos (bs s))])) ∧ Below w.heap.size w w' := by
  unfold perr ppos
  cases h : parse (bs s) with
  | error x =>
    obtain ⟨er, p⟩ := x
    exact (parse_no s w hs hw er p h).mono fun e w' ⟨he, hb⟩ => ⟨⟨_, _, _, _, _, _, he⟩, hb⟩
  | ok src =>
    refine (parse_okv s w hs hw src h).mono ?_
    rintro e w' ⟨⟨si, he, hv⟩, hb⟩
    obtain ⟨A, cap, rfl, _⟩ := hv.form
    exact ⟨⟨_, _, _, _, _, _, he⟩, hb⟩
/-- Lex, with the tokens left aside. -/
theorem lex_e (s : ByteArray) (w : World) (hs : s.size ≤ 9223372036854775807) :
    Calls Tryd.prog 14 #[.string s] w fun e w' => (∃ A n cap p, e = .returned (.tuple #[.slice A n cap, .int .i64 (lerr (bs s)), .int .i64 p])) ∧ Below w.heap.size w w' := by
  unfold lerr
  cases h : Lx.lex (bs s) with
  | error x =>
    obtain ⟨er, p⟩ := x
    exact (Lx.lex_no s w hs er p h).mono fun e w' ⟨he, hb⟩ => ⟨⟨_, _, _, _, he⟩, hb⟩
  | ok ts => exact (Lx.lex_ok s w hs ts h).mono fun e w' ⟨⟨A, cap, he, _⟩, hb⟩ => ⟨⟨_, _, _, _, he⟩, hb⟩
theorem sl_to (s : ByteArray) (i : Nat) (h : i ≤ s.size) (W : World) :
    (Instr.slice 9 (.string s) none (some (.int .i64 (i : Int))) none).run Tryd.prog W = .ok (.string (s.extract 0 i)) W := by
  have := run_slice_string_h (P := Tryd.prog) W 9 s Tryd.underlying9 .i64 (i : Int) (by omega) (by omega)
  simpa using this
theorem bs_pre (s : ByteArray) (i : Nat) : bs (s.extract 0 i) = (bs s).take i := by rw [Lx.bs_extract]; simp
theorem bs_mid (a b : ByteArray) : bs (a ++ ⟨#[32]⟩ ++ b) = bs a ++ 32 :: bs b := by simp [bs, ByteArray.data_append]

set_option maxRecDepth 100000 in
set_option maxHeartbeats 2000000 in
theorem walk_ParserFirstError (s : ByteArray) (hs : s.size ≤ maxLen) (o : ByteArray) (ho : o.size ≤ maxLen) (w : World) (hw : Wks w) :
    Calls Tryd.prog 6 #[.string s, .string o] w fun e w' => e = .returned (.bool true) ∧ Below w.heap.size w w' := by
  unfold maxLen at hs ho
  have HW := Lib.hid hw; clear hw
  by_cases h3 : 3000 < s.size
  · go_enter Tryd.func6, Tryd.ntmps6
    go_wp2_with fail
    refine (head_any _ HW.out).mono ?_
    rintro e w1 ⟨rfl, hb1⟩
    have HB1 := Lib.hid hb1; clear hb1
    go_wp2_with fail
    go_ret
    exact ⟨rfl, HB1.out⟩
  by_cases h4 : 3000 < o.size
  · go_enter Tryd.func6, Tryd.ntmps6
    go_wp2_with fail
    refine (head_any _ HW.out).mono ?_
    rintro e w1 ⟨rfl, hb1⟩
    have HB1 := Lib.hid hb1; clear hb1
    go_wp2_with fail
    go_ret
    exact ⟨rfl, HB1.out⟩
  by_cases h6 : perr (bs s) = 6
  · obtain ⟨ts, r, t, vs, hl, hts, hpp, hte, hr1, hr2, hsh, hel⟩ := first_parse (txt := bs s) (other := bs o) (by rw [bs_length]; omega) (by rw [bs_length]; omega) h6
    rw [bs_length] at hte
    have hlen := lex_len hl
    rw [← bs_pre] at hsh
    rw [← bs_pre, ← bs_mid] at hel
    have HL := Lib.hid hl; have HP := Lib.hid hpp; have H6 := Lib.hid h6; have HSH := Lib.hid hsh; have HEL := Lib.hid hel; have HR1 := Lib.hid hr1; have HR2 := Lib.hid hr2; have HTS := Lib.hid hts
    clear hl hpp h6 hsh hel hr1 hr2 hts
    go_enter Tryd.func6, Tryd.ntmps6
    go_wp2_with fail
    refine (head_any _ HW.out).mono ?_
    rintro e w1 ⟨rfl, hb1⟩
    have HB1 := Lib.hid hb1; clear hb1
    go_wp2_with fail
    refine (parse_e s _ (by omega) (HW.out.below HB1.out)).mono ?_
    rw [H6.out, HP.out]
    rintro e w2 ⟨⟨n1, c1, k1, A1, m1, cap1, rfl⟩, hb2⟩
    have HB2 := Lib.hid (HB1.out.trans (hb2.mono HB1.out.size)); clear hb2 HB1
    have HB3 : Hid (Below w.heap.size w (w2.alloc (.cells (srcells n1 c1 k1 (.slice A1 m1 cap1)).toArray 27))) := HB2.out.alloc HB2.out.size _
    go_wp2_with (refine wpList_store_new rfl 27 _ _ rfl rfl (srcells n1 c1 k1 (.slice A1 m1 cap1)).toArray rfl info_src (srcells_one _ _ _ _ ⟨_, _, _, rfl⟩) (by rfl) ?_)
    clear HB2
    generalize w2.alloc (.cells (srcells n1 c1 k1 (.slice A1 m1 cap1)).toArray 27) = u2 at *
    refine (Lx.lex_ok s _ (by omega) ts HL.out).mono ?_
    rintro e w3 ⟨⟨A, cap, rfl, hown⟩, hb3⟩
    have HB4 := Lib.hid (HB3.out.trans (hb3.mono HB3.out.size)); clear hb3 HB3
    have HRW : Hid (Row w3 (.slice A ts.length cap) 4 (ts.map cellsOf)) := Row.of_own hown (fun _ _ => rfl)
    clear hown
    have hkl : r.length < ts.length := by rw [HTS.out]; simp
    obtain ⟨g, oo, cp, eA, hg, hrow⟩ := HRW.out.at (by intro e; rw [List.map_eq_nil_iff] at e; rw [e] at hkl; simp at hkl)
    rw [List.length_map] at eA
    injection eA with eA _ eC
    subst eA eC
    have HROW := Lib.hid hrow; clear hrow HRW
    go_wp2_with fail
    go_loopw [12, 13] (fun en i wr => ∃ (j : Nat), i = .int .i64 j ∧ en = .int .i64 (if j ≤ r.length then -1 else ((t.pos + t.text.length : Nat) : Int)) ∧ j ≤ ts.length ∧ wr = w3) (fun _ i _ => ts.length - (intOf i).toNat)
    case atStart => exact ⟨0, rfl, by simp, by omega, rfl⟩
    case round =>
      obtain ⟨j, rfl, rfl, hj, rfl⟩ := hrel
      by_cases hlt : j < ts.length
      · have hcl := HROW.out j (cellsOf ts[j]) (by simp [hlt])
        have a1 : wr.cell? ⟨g, oo + j * 4 + 1, none⟩ = some (.string ⟨ts[j].text.toArray⟩) := hcl 1 _ rfl
        have a3 : wr.cell? ⟨g, oo + j * 4 + 3, none⟩ = some (.int .i64 (ts[j].pos : Int)) := hcl 3 _ rfl
        clear hcl
        by_cases hjk : j = r.length
        · subst hjk
          have htj : ts[r.length] = t := by
            have h1 : ts[r.length]? = some t := by rw [HTS.out]; simp
            rw [List.getElem?_eq_getElem hlt] at h1
            injection h1
          rw [htj] at a1 a3
          obtain ⟨y, hy, hys⟩ : ∃ y, ByteArray.mk t.text.toArray = y ∧ t.text.length = y.size := ⟨_, rfl, by simp [ByteArray.size]⟩
          rw [hy] at a1
          have d1 : (if r.length ≤ r.length then (-1 : Int) else ((t.pos + t.text.length : Nat) : Int)) = -1 := if_pos (by omega)
          have d2 : (if r.length + 1 ≤ r.length then (-1 : Int) else ((t.pos + t.text.length : Nat) : Int)) = (t.pos : Int) + (y.size : Int) := by rw [if_neg (by omega), ← hys]; omega
          have HD2 := Lib.hid d2
          rw [hys] at hte
          have hsum : IntKind.i64.wrap ((t.pos : Int) + (y.size : Int)) = (t.pos : Int) + (y.size : Int) := IntWalk.i64_in _ (by omega)
          clear d2 htj hys hy
          go_wp2_with fail
          go_roundw
          case rel => exact ⟨r.length + 1, by go_num, by rw [HD2.out], by omega, by first | rfl | trivial⟩
          case measure => simp [intOf]; omega
        · have hne : ts[j].pos ≠ t.pos := by
            have hmem : ts[j]? = some ts[j] := List.getElem?_eq_getElem hlt
            rcases Nat.lt_or_gt_of_ne hjk with hjl | hjg
            · have h1 : r[j]? = some ts[j] := by rw [← hmem, HTS.out, List.getElem?_append_left hjl]
              have := HR1.out _ (List.mem_of_getElem? h1)
              omega
            · have h1 : vs[j - r.length - 1]? = some ts[j] := by
                rw [← hmem, HTS.out, List.getElem?_append_right (by omega), show j - r.length = (j - r.length - 1) + 1 by omega, List.getElem?_cons_succ]
                rfl
              have := HR2.out _ (List.mem_of_getElem? h1)
              omega
          have d0 : ((ts[j].pos : Int) == (t.pos : Int)) = false := beq_eq_false_iff_ne.2 (by omega)
          have d2 : (if j + 1 ≤ r.length then (-1 : Int) else ((t.pos + t.text.length : Nat) : Int)) = (if j ≤ r.length then (-1 : Int) else ((t.pos + t.text.length : Nat) : Int)) := by
            by_cases h : j ≤ r.length
            · rw [if_pos h, if_pos (by omega)]
            · rw [if_neg h, if_neg (by omega)]
          have HD2 := Lib.hid d2
          obtain ⟨en, hen⟩ : ∃ en, (if j ≤ r.length then (-1 : Int) else ((t.pos + t.text.length : Nat) : Int)) = en := ⟨_, rfl⟩
          rw [hen] at HD2 ⊢
          clear d2 hne hen
          go_wp2_with fail
          go_roundw
          case rel => exact ⟨j + 1, by go_num, by rw [HD2.out], by omega, by first | rfl | trivial⟩
          case measure => simp [intOf]; omega
      · have d1 : (if j ≤ r.length then (-1 : Int) else ((t.pos + t.text.length : Nat) : Int)) = ((t.pos + t.text.length : Nat) : Int) := if_neg (by omega)
        rw [d1]
        obtain ⟨E, hE⟩ : ∃ E, t.pos + t.text.length = E := ⟨_, rfl⟩
        rw [hE] at HEL hte ⊢
        clear d1 HROW HR1 HR2 HTS HL
        have e1 : decide ((E : Int) < 0) = false := by simp
        have e2 : decide ((t.pos : Int) < 0) = false := by simp
        have e3 : decide ((s.size : Int) < (E : Int)) = false := by simp; omega
        have s1 := sl_to s t.pos (by omega)
        have s2 := sl_to s E (by omega)
        obtain ⟨x, hx⟩ : ∃ x, s.extract 0 t.pos = x := ⟨_, rfl⟩
        obtain ⟨z, hz⟩ : ∃ z, s.extract 0 E = z := ⟨_, rfl⟩
        have hxs : x.size = t.pos := by rw [← hx, ByteArray.size_extract]; omega
        have hzs : z.size = E := by rw [← hz, ByteArray.size_extract]; omega
        rw [hx] at HSH s1
        rw [hz] at HEL s2
        clear hx hz
        have hcs : (z ++ ⟨#[32]⟩ ++ o).size ≤ 9223372036854775807 := by rw [ByteArray.size_append, ByteArray.size_append]; show z.size + 1 + o.size ≤ _; omega
        go_wp2_with fail
        refine (parse_e x _ (by omega) (HW.out.below HB4.out)).mono ?_
        rintro e w5 ⟨⟨n5, c5, k5, A5, m5, cap5, rfl⟩, hb5⟩
        have HB5 := Lib.hid (HB4.out.trans (hb5.mono HB4.out.size)); clear hb5
        have HB6 : Hid (Below w.heap.size w (w5.alloc (.cells (srcells n5 c5 k5 (.slice A5 m5 cap5)).toArray 27))) := HB5.out.alloc HB5.out.size _
        go_wp2_with (refine wpList_store_new rfl 27 _ _ rfl rfl (srcells n5 c5 k5 (.slice A5 m5 cap5)).toArray rfl info_src (srcells_one _ _ _ _ ⟨_, _, _, rfl⟩) (by rfl) ?_)
        clear HB5
        generalize w5.alloc (.cells (srcells n5 c5 k5 (.slice A5 m5 cap5)).toArray 27) = u5 at *
        refine (parse_e _ _ hcs (HW.out.below HB6.out)).mono ?_
        rintro e w7 ⟨⟨n7, c7, k7, A7, m7, cap7, rfl⟩, hb7⟩
        have HB7 := Lib.hid (HB6.out.trans (hb7.mono HB6.out.size)); clear hb7
        have HB8 : Hid (Below w.heap.size w (w7.alloc (.cells (srcells n7 c7 k7 (.slice A7 m7 cap7)).toArray 27))) := HB7.out.alloc HB7.out.size _
        go_wp2_with (refine wpList_store_new rfl 27 _ _ rfl rfl (srcells n7 c7 k7 (.slice A7 m7 cap7)).toArray rfl info_src (srcells_one _ _ _ _ ⟨_, _, _, rfl⟩) (by rfl) ?_)
        clear HB7
        generalize w7.alloc (.cells (srcells n7 c7 k7 (.slice A7 m7 cap7)).toArray 27) = u7 at *
        refine (lex_e _ _ hcs).mono ?_
        rintro e w9 ⟨⟨A9, n9, cap9, p9, rfl⟩, hb9⟩
        have HB9 := Lib.hid (HB8.out.trans (hb9.mono HB8.out.size)); clear hb9
        have hsh := HSH.out
        have hel := HEL.out
        clear HSH HEL
        generalize perr (bs x) = pf at *
        generalize ppos (bs x) = pq at *
        generalize perr (bs (z ++ ⟨#[32]⟩ ++ o)) = pg at *
        generalize ppos (bs (z ++ ⟨#[32]⟩ ++ o)) = pr at *
        generalize lerr (bs (z ++ ⟨#[32]⟩ ++ o)) = le at *
        by_cases hle : le = 0
        · obtain ⟨rfl, rfl⟩ := hel.resolve_left (fun h => h hle)
          subst hle
          rcases hsh with rfl | ⟨rfl, rfl⟩
          · go_wp2_with fail
            go_ret
            exact ⟨rfl, HB9.out⟩
          · go_wp2_with fail
            go_ret
            exact ⟨rfl, HB9.out⟩
        · have bl : (le != 0) = true := by rw [bne_iff_ne]; exact hle
          clear hel hle
          rcases hsh with rfl | ⟨rfl, rfl⟩
          · go_wp2_with fail
            go_ret
            exact ⟨rfl, HB9.out⟩
          · go_wp2_with fail
            go_ret
            exact ⟨rfl, HB9.out⟩
  · have be : (perr (bs s) != 6) = true := by rw [bne_iff_ne]; exact h6
    obtain ⟨pe, hpe⟩ : ∃ pe, perr (bs s) = pe := ⟨_, rfl⟩
    rw [hpe] at be
    have HPE := Lib.hid hpe; clear hpe h6
    go_enter Tryd.func6, Tryd.ntmps6
    go_wp2_with fail
    refine (head_any _ HW.out).mono ?_
    rintro e w1 ⟨rfl, hb1⟩
    have HB1 := Lib.hid hb1; clear hb1
    go_wp2_with fail
    refine (parse_e s _ (by omega) (HW.out.below HB1.out)).mono ?_
    rw [HPE.out]
    rintro e w2 ⟨⟨n1, c1, k1, A1, m1, cap1, rfl⟩, hb2⟩
    have HB2 := Lib.hid (HB1.out.trans (hb2.mono HB1.out.size)); clear hb2 HB1
    have HB3 : Hid (Below w.heap.size w (w2.alloc (.cells (srcells n1 c1 k1 (.slice A1 m1 cap1)).toArray 27))) := HB2.out.alloc HB2.out.size _
    go_wp2_with (refine wpList_store_new rfl 27 _ _ rfl rfl (srcells n1 c1 k1 (.slice A1 m1 cap1)).toArray rfl info_src (srcells_one _ _ _ _ ⟨_, _, _, rfl⟩) (by rfl) ?_)
    clear HB2
    generalize w2.alloc (.cells (srcells n1 c1 k1 (.slice A1 m1 cap1)).toArray 27) = u2 at *
    refine (lex_e s _ (by omega)).mono ?_
    rintro e w3 ⟨⟨A, n, cap, p, rfl⟩, hb3⟩
    have HB4 := Lib.hid (HB3.out.trans (hb3.mono HB3.out.size)); clear hb3 HB3
    go_wp2_with fail
    go_ret
    exact ⟨rfl, HB4.out⟩
end Go.Proofs.YtfaflipphkoiiaaDoor
