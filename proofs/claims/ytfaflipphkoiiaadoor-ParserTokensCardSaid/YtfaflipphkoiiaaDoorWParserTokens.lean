/-
  The walk of the statement ParserTokens: it returns true for every text.
-/
import Derived.Test.YtfaflipphkoiiaaDoorParToks
import Derived.Test.YtfaflipphkoiiaaDoorParSame
import Derived.Test.YtfaflipphkoiiaaDoorParHead
import Derived.OwnWalk
namespace Go.Proofs.YtfaflipphkoiiaaDoor
open Go.RowKit Mem Pr
open Lx (Tok bs bs_length cellsOf cellsAll own_keep)
set_option linter.unusedVariables false

theorem info_int : (Tryd.prog.info? 3).map (fun i => (i.zero, i.size, i.bytes)) = some (some (.int .i64 0), 1, 8) := by kernel_rfl
/-- The offsets of the first tokens in the joined text. -/
def offs (ts : List Tok) (j : Nat) : List Value := (List.range j).map fun n => .int .i64 ((textOf [32] (ts.take n)).length : Int)
theorem offs_succ (ts : List Tok) (j : Nat) : offs ts (j + 1) = offs ts j ++ [.int .i64 ((textOf [32] (ts.take j)).length : Int)] := by simp [offs, List.range_succ]
theorem textOf_succ (ts : List Tok) (j : Nat) (h : j < ts.length) : textOf [32] (ts.take (j + 1)) = textOf [32] (ts.take j) ++ ts[j].text ++ [32] := by
  rw [List.take_succ_eq_append_getElem h]
  unfold textOf
  rw [List.flatMap_append]
  simp only [List.flatMap_cons, List.flatMap_nil, List.append_nil, List.append_assoc]
theorem textOf_le (ts : List Tok) (j : Nat) : (textOf [32] (ts.take j)).length ≤ (textOf [32] ts).length := by
  conv => rhs; rw [← List.take_append_drop j ts]
  unfold textOf
  rw [List.flatMap_append, List.length_append]
  omega
theorem joined_str (a b : List UInt8) : Value.string ((⟨a.toArray⟩ : ByteArray) ++ ⟨b.toArray⟩ ++ ⟨#[32]⟩) = .string ⟨(a ++ b ++ [32]).toArray⟩ := by
  congr 1
theorem own_form' {w : World} {base : Nat} {e : TypeId} {size : Nat} {v : Value} {n : Nat} {xs : List Value} (h : w.ownsRow base e size v n xs) : ∃ A cap, v = .slice A n cap := own_form h
set_option maxRecDepth 100000 in
set_option maxHeartbeats 2000000 in
theorem joined_any (ts : List Tok) (A : Option Addr) (cap : Nat) (w : World) (hl : ts.length ≤ 100000) (ht : (textOf [32] ts).length ≤ 100000) (hrow : Row w (.slice A ts.length cap) 4 (ts.map cellsOf)) :
    Calls Tryd.prog 15 #[.slice A ts.length cap] w fun e w' => (∃ B c, e = .returned (.tuple #[.string ⟨(textOf [32] ts).toArray⟩, .slice B ts.length c]) ∧ w'.ownsRow w.heap.size 3 1 (.slice B ts.length c) ts.length (offs ts ts.length)) ∧ Below w.heap.size w w' := by
  obtain ⟨i0, hi, hz0, hz1, hz2⟩ := info_parts info_int
  have HR := Lib.hid hrow; clear hrow
  go_enter Tryd.func15, Tryd.ntmps15
  go_wp2_with fail
  go_loopw [4, 5, 6] (fun sv v i wr => ∃ (j : Nat), i = .int .i64 j ∧ j ≤ ts.length ∧ sv = .string ⟨(textOf [32] (ts.take j)).toArray⟩ ∧ Hid (wr.ownsRow w.heap.size 3 1 v j (offs ts j)) ∧ Hid (Below w.heap.size w wr)) (fun _ _ i _ => ts.length - (intOf i).toNat)
  case atStart => exact ⟨0, rfl, by omega, rfl, ⟨rfl, .inl ⟨rfl, rfl⟩⟩, Below.refl _ _⟩
  case round =>
    obtain ⟨j, rfl, hj, rfl, HO, HB⟩ := hrel
    obtain ⟨B, c, rfl⟩ := own_form' HO.out
    by_cases hlt : j < ts.length
    · have hne : ts.map cellsOf ≠ [] := by intro e; rw [List.map_eq_nil_iff] at e; rw [e] at hlt; simp at hlt
      obtain ⟨g, o, cap', he, hg, hr⟩ := HR.out.at hne
      injection he with he1 he2 he3
      subst he1
      clear he2 he3
      have hcj : w.cell? ⟨g, o + j * 4 + 1, none⟩ = some (.string ⟨ts[j].text.toArray⟩) := hr j (cellsOf ts[j]) (by simp [hlt]) 1 _ rfl
      clear hr
      have HC := Lib.hid hcj; clear hcj
      have HT := Lib.hid (textOf_succ ts j hlt)
      have htl := textOf_le ts j
      have htl2 := textOf_le ts (j + 1)
      rw [textOf_succ ts j hlt, List.length_append, List.length_append] at htl2
      have hsz : w.heap.size ≤ wr.heap.size := HB.out.size
      obtain ⟨y, hy⟩ : ∃ y : ByteArray, ⟨(textOf [32] (ts.take j)).toArray⟩ = y := ⟨_, rfl⟩
      have hys : (textOf [32] (ts.take j)).length = y.size := by rw [← hy]; simp [ByteArray.size]
      obtain ⟨z, hz⟩ : ∃ z : ByteArray, ⟨ts[j].text.toArray⟩ = z := ⟨_, rfl⟩
      rw [hz] at HC
      rw [hy]
      have HYS := Lib.hid hys
      have hzs : ts[j].text.length = z.size := by rw [← hz]; simp [ByteArray.size]
      rw [hys, hzs] at htl2
      simp only [List.length_cons, List.length_nil] at htl2
      have hzb : y.size + z.size + 1 ≤ 100000 := by omega
      rw [hys] at htl
      have HY := Lib.hid hy; have HZ := Lib.hid hz
      clear hy hz hys hzs htl2
      go_wp2_with (at_builtin; refine wpList_append_own_at _ rfl _ _ 36 rfl w.heap.size 3 i0 _ 1 8 Tryd.underlying36 hi hz0 hz1 hz2 rfl (by decide) _ _ _ rfl (own_keep HO.out ((Below.refl _ _).alloc (Nat.le_refl _) _)) ⟨wr.heap.size, 0, none⟩ 1 1 [.int .i64 (y.size : Int)] rfl rfl ?c1 ?c2 ?c3 ?c4 ?c5 ?_)
      case c1 => exact one_new _ _ _ _ rfl
      case c2 => intro u hu; simp at hu; subst hu; rfl
      case c3 => simp only [maxLen]; omega
      case c4 => omega
      case c5 => simp only [World.size_alloc]; omega
      intro v4 w4 hown4 hg4 hnil4 hat4
      have HB4 : Hid (Below w.heap.size w w4) := (HB.out.alloc HB.out.size _).grown hg4 (by simp only [World.size_alloc]; omega) (fun k hk => (own_lt HO.out k hk).1)
      have HO4 : Hid (w4.ownsRow w.heap.size 3 1 v4 (j + 1) (offs ts (j + 1))) := by rw [offs_succ, HYS.out]; exact hown4
      have hc4 : w4.cell? ⟨g, o + j * 4 + 1, none⟩ = some (.string z) := (HB4.out.cell (p := ⟨g, _, none⟩) hg).trans HC.out
      clear hown4 hg4 hnil4 hat4
      go_wp2_with fail
      go_roundw
      case rel => exact ⟨j + 1, by go_num, by omega, by rw [HT.out, ← HY.out, ← HZ.out]; exact joined_str _ _, HO4, HB4⟩
      case measure => simp [intOf]; omega
    · have hjt : j = ts.length := by omega
      subst hjt
      rw [List.take_length]
      go_wp2_with fail
      go_ret2
      exact ⟨⟨B, c, rfl, HO.out⟩, HB.out⟩

/-- Parse: the tree, the error and its offset. -/
theorem parse_v (s : ByteArray) (w : World) (hs : s.size ≤ 9223372036854775807) (hw : Wks w) :
    Calls Tryd.prog 11 #[.string s] w fun e w' => (∃ si, e = .returned (.tuple #[.agg (srcells (ptree (bs s)).name (ptree (bs s)).frm (ptree (bs s)).days si).toArray, .int .i64 (perr (bs s)), .int .i64 (ppos (bs s))]) ∧ VItems w' (ptree (bs s)).items si) ∧ Below w.heap.size w w' := by
  unfold perr ppos ptree
  cases h : parse (bs s) with
  | error x =>
    obtain ⟨er, p⟩ := x
    exact (parse_no s w hs hw er p h).mono fun e w' ⟨he, hb⟩ => ⟨⟨_, he, [], rfl, Row.nil w' 33, fun p hp => by cases hp⟩, hb⟩
  | ok src => exact (parse_okv s w hs hw src h).mono fun e w' ⟨⟨si, he, hv⟩, hb⟩ => ⟨⟨si, he, hv⟩, hb⟩
theorem bs_mk (l : List UInt8) : bs ⟨l.toArray⟩ = l := by simp [bs]
theorem row_ints {W : World} {base : Nat} {e : TypeId} {v : Value} {n : Nat} {l : List Value} (hl : l.length = n) (h : W.ownsRow base e 1 v n l) : Row W v 1 (l.map fun x => [x]) := by
  have e1 : l.flatMap (fun x => [x]) = l := by induction l with | nil => rfl | cons a l ih => simp
  have h' : W.ownsRow base e 1 v l.length (l.flatMap fun x => [x]) := by rw [e1, hl]; exact h
  exact Row.of_own h' (fun _ _ => rfl)
theorem offs_len (ts : List Tok) (j : Nat) : (offs ts j).length = j := by simp [offs]

set_option maxRecDepth 100000 in
set_option maxHeartbeats 4000000 in
theorem walk_ParserTokens (s : ByteArray) (hs : s.size ≤ maxLen) (w : World) (hw : Wks w) :
    Calls Tryd.prog 4 #[.string s] w fun e w' => e = .returned (.bool true) ∧ Below w.heap.size w w' := by
  unfold maxLen at hs
  have HW := Lib.hid hw; clear hw
  by_cases h3 : 3000 < s.size
  · go_enter Tryd.func4, Tryd.ntmps4
    go_wp2_with fail
    refine (head_any _ HW.out).mono ?_
    rintro e w1 ⟨rfl, hb1⟩
    have HB1 := Lib.hid hb1; clear hb1
    go_wp2_with fail
    go_ret
    exact ⟨rfl, HB1.out⟩
  · cases hl : Lx.lex (bs s) with
    | error x =>
      obtain ⟨er, p⟩ := x
      have hne : er ≠ 0 := lex_err_ne hl
      have be : ((er : Int) != 0) = true := by rw [bne_iff_ne]; omega
      have HPN : Hid (parse (bs s) = .error (er, p)) := by show parse (bs s) = _; unfold parse; rw [hl]
      have HL := Lib.hid hl; clear hl
      go_enter Tryd.func4, Tryd.ntmps4
      go_wp2_with fail
      refine (head_any _ HW.out).mono ?_
      rintro e w1 ⟨rfl, hb1⟩
      have HB1 := Lib.hid hb1; clear hb1
      go_wp2_with fail
      refine (Lx.lex_no s _ (by omega) er p HL.out).mono ?_
      rintro e w2 ⟨rfl, hb2⟩
      have HB2 := Lib.hid (HB1.out.trans (hb2.mono HB1.out.size)); clear hb2 HB1
      go_wp2_with fail
      refine (parse_no s _ (by omega) (HW.out.below HB2.out) er p HPN.out).mono ?_
      rintro e w3 ⟨rfl, hb3⟩
      have HB3 := Lib.hid (HB2.out.trans (hb3.mono HB2.out.size)); clear hb3 HB2
      have HB4 : Hid (Below w.heap.size w (w3.alloc (.cells (srcells [] civ0 0 Pr.nil).toArray 27))) := HB3.out.alloc HB3.out.size _
      go_wp2_with (refine wpList_store_new rfl 27 _ _ rfl rfl (srcells [] civ0 0 Pr.nil).toArray rfl info_src (srcells_one _ _ _ _ ⟨_, _, _, rfl⟩) (by rfl) ?_)
      go_ret
      exact ⟨rfl, HB4.out⟩
    | ok ts =>
      obtain ⟨f1, f2, f3, f4⟩ := tokens_plain (by rw [bs_length]; omega) hl
      have hlen := lex_len hl
      rw [bs_length] at f4
      have HL := Lib.hid hl; clear hl
      have HF2 := Lib.hid f2; have HF3 := Lib.hid f3; have HF4 := Lib.hid f4
      clear f2 f3 f4
      go_enter Tryd.func4, Tryd.ntmps4
      go_wp2_with fail
      refine (head_any _ HW.out).mono ?_
      rintro e w1 ⟨rfl, hb1⟩
      have HB1 := Lib.hid hb1; clear hb1
      go_wp2_with fail
      refine (Lx.lex_ok s _ (by omega) ts HL.out).mono ?_
      rintro e w2 ⟨⟨A, cap, rfl, ho⟩, hb2⟩
      have HR2 : Hid (Row w2 (.slice A ts.length cap) 4 (ts.map cellsOf)) := Row.of_own ho (fun _ _ => rfl)
      have HB2 := Lib.hid (HB1.out.trans (hb2.mono HB1.out.size)); clear hb2 HB1 ho
      go_wp2_with fail
      refine (joined_any ts A cap _ (by omega) (by omega) HR2.out).mono ?_
      rintro e w3 ⟨⟨B, c, rfl, ho⟩, hb3⟩
      have HR3 := Lib.hid (HR2.out.below hb3)
      have HO3 : Hid (Row w3 (.slice B ts.length c) 1 ((offs ts ts.length).map fun x => [x])) := row_ints (offs_len _ _) ho
      have HB3 := Lib.hid (HB2.out.trans (hb3.mono HB2.out.size)); clear hb3 HB2 ho HR2
      go_wp2_with fail
      refine (parse_v s _ (by omega) (HW.out.below HB3.out)).mono ?_
      rintro e w4 ⟨⟨si, rfl, hv⟩, hb4⟩
      obtain ⟨A4, n4, c4, rfl⟩ := hv.slice
      have HV4 := Lib.hid hv
      have HR4 := Lib.hid (HR3.out.below hb4)
      have HO4 := Lib.hid (HO3.out.below hb4)
      have HB4 := Lib.hid (HB3.out.trans (hb4.mono HB3.out.size)); clear hb4 HB3 HR3 HO3 hv
      have HB5 : Hid (Below w.heap.size w (w4.alloc (.cells (srcells (ptree (bs s)).name (ptree (bs s)).frm (ptree (bs s)).days (.slice A4 n4 c4)).toArray 27))) := HB4.out.alloc HB4.out.size _
      have HS5 : Hid (SB w4.heap.size (ptree (bs s)).name (ptree (bs s)).frm (ptree (bs s)).days (.slice A4 n4 c4) (w4.alloc (.cells (srcells (ptree (bs s)).name (ptree (bs s)).frm (ptree (bs s)).days (.slice A4 n4 c4)).toArray 27))) := blk_newn rfl
      have HV5 := Lib.hid (HV4.out.below ((Below.refl _ w4).alloc (Nat.le_refl _) (.cells (srcells (ptree (bs s)).name (ptree (bs s)).frm (ptree (bs s)).days (.slice A4 n4 c4)).toArray 27)))
      have HR5 := Lib.hid (HR4.out.below ((Below.refl _ w4).alloc (Nat.le_refl _) (.cells (srcells (ptree (bs s)).name (ptree (bs s)).frm (ptree (bs s)).days (.slice A4 n4 c4)).toArray 27)))
      have HO5 := Lib.hid (HO4.out.below ((Below.refl _ w4).alloc (Nat.le_refl _) (.cells (srcells (ptree (bs s)).name (ptree (bs s)).frm (ptree (bs s)).days (.slice A4 n4 c4)).toArray 27)))
      clear HV4 HR4 HO4 HB4
      go_upto_region 10 with (refine wpList_store_new rfl 27 _ _ rfl rfl (srcells (ptree (bs s)).name (ptree (bs s)).frm (ptree (bs s)).days (.slice A4 n4 c4)).toArray rfl info_src (srcells_one _ _ _ _ ⟨_, _, _, rfl⟩) (by rfl) ?_)
      generalize (w4.alloc (.cells (srcells (ptree (bs s)).name (ptree (bs s)).frm (ptree (bs s)).days (.slice A4 n4 c4)).toArray 27)) = u5 at *
      go_wp2_with fail
      refine (parse_v ⟨(textOf [32] ts).toArray⟩ _ (by show (textOf [32] ts).toArray.size ≤ _; rw [List.size_toArray]; omega) (HW.out.below HB5.out)).mono ?_
      rw [bs_mk, HF2.out]
      rintro e w6 ⟨⟨ti, rfl, hv⟩, hb6⟩
      obtain ⟨A6, n6, c6, rfl⟩ := hv.slice
      have HB6 := Lib.hid (HB5.out.trans (hb6.mono HB5.out.size))
      have HB7 : Hid (Below w.heap.size w (w6.alloc (.cells (srcells (ptree (textOf [32] ts)).name (ptree (textOf [32] ts)).frm (ptree (textOf [32] ts)).days (.slice A6 n6 c6)).toArray 27))) := HB6.out.alloc HB6.out.size _
      have hbb : Below u5.heap.size u5 (w6.alloc (.cells (srcells (ptree (textOf [32] ts)).name (ptree (textOf [32] ts)).frm (ptree (textOf [32] ts)).days (.slice A6 n6 c6)).toArray 27)) := hb6.alloc hb6.size _
      have HS7 : Hid (SB w4.heap.size (ptree (bs s)).name (ptree (bs s)).frm (ptree (bs s)).days (.slice A4 n4 c4) (w6.alloc (.cells (srcells (ptree (textOf [32] ts)).name (ptree (textOf [32] ts)).frm (ptree (textOf [32] ts)).days (.slice A6 n6 c6)).toArray 27))) := (hbb.block _ (lt_of_blk HS5.out)).trans HS5.out
      have HT7 : Hid (SB w6.heap.size (ptree (textOf [32] ts)).name (ptree (textOf [32] ts)).frm (ptree (textOf [32] ts)).days (.slice A6 n6 c6) (w6.alloc (.cells (srcells (ptree (textOf [32] ts)).name (ptree (textOf [32] ts)).frm (ptree (textOf [32] ts)).days (.slice A6 n6 c6)).toArray 27))) := blk_newn rfl
      have HV7 := Lib.hid (HV5.out.below hbb)
      have HR7 := Lib.hid (HR5.out.below hbb)
      have HO7 := Lib.hid (HO5.out.below hbb)
      have HU7 := Lib.hid (hv.below ((Below.refl _ w6).alloc (Nat.le_refl _) (.cells (srcells (ptree (textOf [32] ts)).name (ptree (textOf [32] ts)).frm (ptree (textOf [32] ts)).days (.slice A6 n6 c6)).toArray 27)))
      clear HV5 HR5 HO5 HB5 HB6 HS5 hbb hb6 hv
      go_upto_region 11 with (refine wpList_store_new rfl 27 _ _ rfl rfl (srcells (ptree (textOf [32] ts)).name (ptree (textOf [32] ts)).frm (ptree (textOf [32] ts)).days (.slice A6 n6 c6)).toArray rfl info_src (srcells_one _ _ _ _ ⟨_, _, _, rfl⟩) (by rfl) ?_)
      generalize (w6.alloc (.cells (srcells (ptree (textOf [32] ts)).name (ptree (textOf [32] ts)).frm (ptree (textOf [32] ts)).days (.slice A6 n6 c6)).toArray 27)) = u7 at *
      have HF3' := HF3
      generalize hpe : perr (bs s) = pe at *
      generalize hpi : ppos (bs s) = pi at *
      generalize hpk : ppos (textOf [32] ts) = pk at *
      clear hpe hpi hpk HF2 HL
      have hpp : (pe != pe) = false := by simp
      go_wp2_with (first | (refine wpList_load_mid_g (op := ⟨some 65, _, _, _, _, _⟩) ?hw 27 _ rfl w4.heap.size 0 rfl (srcells (ptree (bs s)).name (ptree (bs s)).frm (ptree (bs s)).days (.slice A4 n4 c4)) _ (range_of_blk HS7.out) Tryd.underlying27 rfl info_src ?_; (case hw => rfl)) | (refine wpList_load_mid_g (op := ⟨some 66, _, _, _, _, _⟩) ?hw 27 _ rfl w6.heap.size 0 rfl (srcells (ptree (textOf [32] ts)).name (ptree (textOf [32] ts)).frm (ptree (textOf [32] ts)).days (.slice A6 n6 c6)) _ (range_of_blk HT7.out) Tryd.underlying27 rfl info_src ?_; (case hw => rfl)))
      refine (same_true false (ptree (bs s)) (ptree (textOf [32] ts)) _ _ u7 HF3.out.1 HF3.out.2.1 HF3.out.2.2.1 HF3.out.2.2.2 HV7.out HU7.out).mono ?_
      rintro e w8 ⟨rfl, hb8⟩
      have HB8 := Lib.hid (HB7.out.trans (hb8.mono HB7.out.size))
      have HR8 := Lib.hid (HR7.out.below hb8)
      have HO8 := Lib.hid (HO7.out.below hb8)
      clear hb8 HB7 HR7 HO7 HV7 HU7 HS7 HT7 HF3 HF3' hpp
      have hts : (⟨(textOf [32] ts).toArray⟩ : ByteArray).size = (textOf [32] ts).length := by simp [ByteArray.size]
      rcases HF4.out with ⟨rfl, rfl, rfl⟩ | ⟨rfl, rfl, rfl⟩ | ⟨k1, k2, n, hn, rfl, rfl, k5⟩
      · clear HF4
        go_wp2_with fail
        go_ret
        exact ⟨rfl, HB8.out⟩
      · clear HF4
        go_wp2_with fail
        go_ret
        exact ⟨rfl, HB8.out⟩
      · clear HF4
        have d0 : (pe == 0) = false := by rw [beq_eq_false_iff_ne]; exact k1
        have d7 : (pe == 7) = false := by rw [beq_eq_false_iff_ne]; exact k2
        have HK := Lib.hid k5
        clear k1 k2 k5 hts
        go_wp2_with fail
        go_loop [18] (fun i => ∃ j : Nat, i = .int .i64 j ∧ j ≤ n) (fun i => ts.length - (intOf i).toNat)
        case atStart => exact ⟨0, rfl, by omega⟩
        case round =>
          obtain ⟨j, rfl, hj⟩ := hrel
          have hne : ts.map cellsOf ≠ [] := by intro e; rw [List.map_eq_nil_iff] at e; rw [e] at hn; simp at hn
          obtain ⟨g, o, cap', he, hg, hr⟩ := HR8.out.at hne
          injection he with he1 he2 he3
          subst he1
          clear he2 he3
          have hjt : j < ts.length := by omega
          have cj : w8.cell? ⟨g, o + j * 4 + 3, none⟩ = some (.int .i64 (ts[j].pos : Int)) := hr j (cellsOf ts[j]) (by simp [hjt]) 3 _ rfl
          clear hr
          by_cases hjn : j < n
          · have hd : ((ts[j].pos : Int) == (ts[n].pos : Int)) = false := by rw [beq_eq_false_iff_ne]; have := HK.out j hjt hjn; omega
            go_wp2_with fail
            go_round
            case rel => exact ⟨j + 1, by go_num, by omega⟩
            case measure => simp [intOf]; omega
          · obtain rfl : n = j := by omega
            have hne2 : ((offs ts ts.length).map fun x => [x]) ≠ [] := by intro e; rw [List.map_eq_nil_iff] at e; have := offs_len ts ts.length; rw [e] at this; simp at this; omega
            obtain ⟨g2, o2, cap2, he, hg2, hr2⟩ := HO8.out.at hne2
            injection he with he1 he2 he3
            subst he1
            clear he2 he3
            have ck : w8.cell? ⟨g2, o2 + n, none⟩ = some (.int .i64 ((textOf [32] (ts.take n)).length : Int)) := by
              have := hr2 n [.int .i64 ((textOf [32] (ts.take n)).length : Int)] (by simp [offs, hn]) 0 _ rfl
              simpa using this
            clear hr2
            have he : ((ts[n].pos : Int) == (ts[n].pos : Int)) = true := beq_self_eq_true _
            have he2 : (((textOf [32] (ts.take n)).length : Int) == ((textOf [32] (ts.take n)).length : Int)) = true := beq_self_eq_true _
            go_wp2_with fail
            go_ret
            exact ⟨rfl, HB8.out⟩
end Go.Proofs.YtfaflipphkoiiaaDoor
