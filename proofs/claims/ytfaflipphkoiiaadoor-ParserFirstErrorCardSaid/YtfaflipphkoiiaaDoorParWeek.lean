/-
  What the parser's method weekend returns.
-/
import Derived.Test.YtfaflipphkoiiaaDoorParCirc
namespace Go.Proofs.YtfaflipphkoiiaaDoor.Pr
open Go.RowKit Mem
open Lx (Tok)
set_option linter.unusedVariables false

theorem build_week (w : World) : (Instr.build 57 #[(0, .int .i64 4)]).run Tryd.prog w = .ok (.agg (icells { flat0 with kind := 4 } nil nil nil nil).toArray) w := by kernel_rfl
theorem IB.set_day {q : Nat} {f : Flat} {sc sd sn si : Value} {W : World} {l : List Bool} (h : IB q { f with days := l } sc sd sn si W) (hl : l.length = 7) (d : Nat) (hd : d < 7) : IB q { f with days := l.set d true } sc sd sn si (W.setCell ⟨q, 23 + d, none⟩ (.bool true)) := by
  match l, hl with
  | [a0, a1, a2, a3, a4, a5, a6], _ =>
    have hc : d = 0 ∨ d = 1 ∨ d = 2 ∨ d = 3 ∨ d = 4 ∨ d = 5 ∨ d = 6 := by omega
    rcases hc with rfl | rfl | rfl | rfl | rfl | rfl | rfl
    · exact blk_set h 23 (.bool true)
    · exact blk_set h 24 (.bool true)
    · exact blk_set h 25 (.bool true)
    · exact blk_set h 26 (.bool true)
    · exact blk_set h 27 (.bool true)
    · exact blk_set h 28 (.bool true)
    · exact blk_set h 29 (.bool true)
theorem IB.day {q : Nat} {f : Flat} {sc sd sn si : Value} {W : World} (h : IB q f sc sd sn si W) (d : Nat) (hd : d < 7) : ∃ v, W.cell? ⟨q, 23 + d, none⟩ = some v := by
  rw [cell_of_blk h]
  have : 23 + d < (icells f sc sd sn si).length := by show 23 + d < 33; omega
  exact ⟨_, by simp [this]; rfl⟩
theorem anyOf_lt (l : List Bytes) : ∀ (i n : Nat) (s : St), i + l.length ≤ n → 0 < n → (anyOf l i s).1 < n := by
  induction l with
  | nil => intro i n s h h0; exact h0
  | cons x r ih =>
    intro i n s h h0
    rw [anyOf_cons]
    simp only [List.length_cons] at h
    split
    · show i < n; omega
    · exact ih _ _ _ (by omega) h0
/-- What the loop over days holds. -/
def KRel (E : Env) (b : Nat) (W : World) (R : List Bool) (sr : St) (v : Value) (wr : World) : Prop :=
  ∃ (m : Bool) (l : List Bool) (s' : St), v = .bool m ∧ IB (W.heap.size + 1) { flat0 with kind := 4, days := l } nil nil nil nil wr ∧ IB W.heap.size flat0 nil nil nil nil wr ∧ After E b s' W wr ∧ l.length = 7 ∧
    (m = true → ∃ n, s'.rest.length < n ∧ weekendMore n l s' = (R, sr)) ∧ (m = false → (l, (expect [[59]] s').2) = (R, sr))

set_option maxRecDepth 100000 in
set_option maxHeartbeats 4000000 in
theorem weekend_any (E : Env) (b : Nat) (s : St) (W : World) (h : PW E b s W) :
    Calls Tryd.prog 64 #[.pointer (some ⟨b, 0, none⟩)] W fun e w' => (∃ sc sd sn, e = .returned (.agg (icells (weekend s).1 sc sd sn nil).toArray) ∧ FlatOK W.heap.size (weekend s).1 sc sd sn w') ∧ After E b (weekend s).2 W w' := by
  have hbl := h.2.2.1
  obtain ⟨R, sr, h1⟩ : ∃ R sr, long (fun f => weekendMore f flat0.days) s = (R, sr) := ⟨_, _, rfl⟩
  have hp : weekend s = ({ flat0 with kind := 4, days := R }, sr) := (bnd_eq h1).trans rfl
  rw [hp]
  have HP := Lib.hid h; have H1 := Lib.hid h1
  clear h h1 hp
  go_enter Tryd.func64, Tryd.ntmps64
  go_wp2_with (first | (refine wpList_build rfl 57 _ rfl #[(0, .int .i64 4)] ?_ _ (build_week _) ?_; (simp [Act.eval])) | (refine wpList_store_new rfl 57 _ _ rfl (by simp [Act.eval]) (icells { flat0 with kind := 4 } nil nil nil nil).toArray rfl (info_size _ _ _ _ _) (icells_one _ _ _ _ _ ⟨_, _, _, rfl⟩ ⟨_, _, _, rfl⟩ ⟨_, _, _, rfl⟩ ⟨_, _, _, rfl⟩) (by rfl) ?_))
  go_loopw [4] (fun v wr => KRel E b W R sr v wr) (fun v wr => 2 * lft E b wr + boolNat v)
  case atStart => exact ⟨true, flat0.days, s, rfl, blk_newn (by simp), blk_alloc (blk_newn (by simp)) _, ((After.start HP.out).alloc _).alloc _, rfl, fun _ => ⟨_, Nat.lt_succ_self _, H1.out⟩, (fun h => by cases h)⟩
  case round =>
    obtain ⟨m, l, s', rfl, hI, hR, hA, hl7, hT, hF⟩ := hrel
    have hlf := hA.1.lft
    have HA := Lib.hid hA; clear hA
    have HI := Lib.hid hI; clear hI
    have HR := Lib.hid hR; clear hR
    have HL7 := Lib.hid hl7; clear hl7
    cases m with
    | true =>
      obtain ⟨n, hn, hX⟩ := hT rfl
      clear hT hF
      obtain ⟨n, rfl⟩ : ∃ g, n = g + 1 := ⟨n - 1, by omega⟩
      rw [weekendMore_succ] at hX
      obtain ⟨d, s3, hd⟩ : ∃ d s3, weekday s' = (d, s3) := ⟨_, _, rfl⟩
      have hd2 : anyOf wdays 0 s' = (d, s3) := hd
      have m1 := Mono.anyOf wdays 0 s'
      have hlt := anyOf_lt wdays 0 7 s' (by decide) (by decide)
      rw [hd2] at m1 hlt
      rw [hd] at hX
      have hlt7 : d < 7 := hlt
      have HX := Lib.hid hX; have HD := Lib.hid hd; have HLF := Lib.hid hlf
      clear hX hd hd2 hlf hlt
      by_cases he : s3.err = 0
      · have HE := Lib.hid he; clear he
        have i1 : (0 : Int) ≤ (d : Int) := Int.natCast_nonneg _
        have i2 : (d : Int) < 7 := by omega
        go_wp2_with fail
        refine (weekday_any E b s' _ HA.out.1).mono ?_
        rw [HD.out]
        rintro e w2 ⟨rfl, hA2⟩
        have HI2 : Hid (IB (W.heap.size + 1) { flat0 with kind := 4, days := l } nil nil nil nil w2) := hA2.2.blk HI.out (by omega)
        have HR2 : Hid (IB W.heap.size flat0 nil nil nil nil w2) := hA2.2.blk HR.out (by omega)
        have HA2 := Lib.hid (HA.out.trans hA2); clear hA2 HA HI HR
        obtain ⟨vd, kd⟩ := HI2.out.day d hlt7
        have fd : w2.frozen? ⟨W.heap.size + 1, 23 + d, none⟩ = false := froz_of_blk HI2.out _
        go_wp2_with fail
        refine (ok_yes E b s3 _ HA2.out.1 HE.out).mono ?_
        rintro e w3 ⟨rfl, hw3⟩
        subst hw3
        go_wp2_with fail
        have HI6 := Lib.hid (IB.set_day (f := { flat0 with kind := 4 }) HI2.out HL7.out d hlt7)
        have HR6 : Hid (IB W.heap.size flat0 nil nil nil nil _) := blk_farq (q := W.heap.size + 1) (i := 23 + d) HR2.out (by omega) (.bool true)
        have HA6 := Lib.hid (HA2.out.set (q := W.heap.size + 1) (i := 23 + d) (by omega) (by omega) (.bool true))
        clear HI2 HR2 HA2 kd fd
        cases ha : (acc [44] s3).1 with
        | true =>
          obtain ⟨hl1, _⟩ := acc_len ha
          have hX3 : weekendMore n (l.set d true) (acc [44] s3).2 = (R, sr) := by have := HX.out; rw [if_pos HE.out, if_pos ha] at this; exact this
          have HX3 := Lib.hid hX3
          have HAA := Lib.hid ha
          clear hX3 ha
          refine (accept_any E b s3 [44] _ HA6.out.1).mono ?_
          rw [HAA.out]
          rintro e w7 ⟨rfl, hA7⟩
          have HA7 := Lib.hid (HA6.out.trans hA7)
          have hlf7 := HA7.out.1.lft
          have HN : Hid (KRel E b W R sr (.bool true) w7) := by
            refine ⟨true, l.set d true, _, rfl, hA7.2.blk HI6.out (by omega), hA7.2.blk HR6.out (by omega), HA7.out, by rw [List.length_set]; exact HL7.out, fun _ => ⟨n, by omega, HX3.out⟩, (fun h => by cases h)⟩
          have HM : Hid (2 * lft E b w7 + boolNat (.bool true) < 2 * lft E b wr + boolNat (.bool true)) := by show _ < _; rw [hlf7, HLF.out]; show 2 * _ + 1 < 2 * _ + 1; omega
          clear hA7 hlf7 HI6 HR6 HA6
          go_wp2_with fail
          go_roundw
          case rel => exact HN.out
          case measure => exact HM.out
        | false =>
          have hm3 := Mono.acc [44] s3
          have hX3 : (l.set d true, (expect [[59]] (acc [44] s3).2).2) = (R, sr) := by have := HX.out; rw [if_pos HE.out, if_neg (by rw [ha]; simp)] at this; exact this
          have HX3 := Lib.hid hX3
          have HAA := Lib.hid ha
          clear hX3 ha
          refine (accept_any E b s3 [44] _ HA6.out.1).mono ?_
          rw [HAA.out]
          rintro e w7 ⟨rfl, hA7⟩
          have HA7 := Lib.hid (HA6.out.trans hA7)
          have hlf7 := HA7.out.1.lft
          have HN : Hid (KRel E b W R sr (.bool false) w7) := by
            refine ⟨false, l.set d true, _, rfl, hA7.2.blk HI6.out (by omega), hA7.2.blk HR6.out (by omega), HA7.out, by rw [List.length_set]; exact HL7.out, (fun h => by cases h), fun _ => HX3.out⟩
          have HM : Hid (2 * lft E b w7 + boolNat (.bool false) < 2 * lft E b wr + boolNat (.bool true)) := by show _ < _; rw [hlf7, HLF.out]; show 2 * _ + 0 < 2 * _ + 1; omega
          clear hA7 hlf7 HI6 HR6 HA6
          go_wp2_with fail
          go_roundw
          case rel => exact HN.out
          case measure => exact HM.out
      · have HE := Lib.hid he; clear he
        have hX3 : (l, s3) = (R, sr) := by have := HX.out; rw [if_neg HE.out] at this; exact this
        injection hX3 with e1 e2
        subst e1 e2
        go_wp2_with fail
        refine (weekday_any E b s' _ HA.out.1).mono ?_
        rw [HD.out]
        rintro e w2 ⟨rfl, hA2⟩
        have HI2 : Hid (IB (W.heap.size + 1) { flat0 with kind := 4, days := l } nil nil nil nil w2) := hA2.2.blk HI.out (by omega)
        have HR2 : Hid (IB W.heap.size flat0 nil nil nil nil w2) := hA2.2.blk HR.out (by omega)
        have HA2 := Lib.hid (HA.out.trans hA2); clear hA2 HA HI HR
        go_wp2_with fail
        refine (ok_no E b s3 _ HA2.out.1 HE.out).mono ?_
        rintro e w3 ⟨rfl, hw3⟩
        subst hw3
        obtain ⟨w99, hw99, hA99, hl99, ho99⟩ := item_end HR2.out HA2.out hbl { flat0 with kind := 4, days := l } nil nil nil nil
        have HW99 := Lib.hid hw99; clear hw99
        have HA99 := Lib.hid hA99; clear hA99
        have HL99 := Lib.hid hl99; clear hl99 ho99
        go_wp2_with (first | (refine wpList_load_mid rfl 57 _ rfl (W.heap.size + 1) 0 rfl (icells { flat0 with kind := 4, days := l } nil nil nil nil) _ HI2.out.range Tryd.underlying57 rfl (info_len _ _ _ _ _) ?_) | (refine wpList_store_mid rfl 57 _ _ rfl W.heap.size 0 (icells { flat0 with kind := 4, days := l } nil nil nil nil).toArray rfl rfl (HR2.out.there' _ _ _ _ _) (info_size _ _ _ _ _) (icells_one _ _ _ _ _ ⟨_, _, _, rfl⟩ ⟨_, _, _, rfl⟩ ⟨_, _, _, rfl⟩ ⟨_, _, _, rfl⟩) ?_; rw [HW99.out]))
        exact bodyPost_ret (v := .agg (icells { flat0 with kind := 4, days := l } nil nil nil nil).toArray) (results_cell Tryd.results64 rfl HL99.out) rfl ⟨⟨nil, nil, nil, rfl, FlatOK.nil _ _ _ rfl rfl rfl⟩, HA99.out⟩
    | false =>
      obtain ⟨u5, s5, h5⟩ : ∃ x z, expect [[59]] s' = (x, z) := ⟨_, _, rfl⟩
      have e := hF rfl
      rw [h5] at e
      injection e with e1 e2
      have e3 : s5 = sr := e2
      subst e1 e3
      have H5 := Lib.hid h5
      clear hT hF hlf e2 h5
      go_wp2_with fail
      refine (expect1 E b s' [59] _ _ (by simp) HA.out.1).mono ?_
      rw [H5.out]
      rintro e w2 ⟨rfl, hA2⟩
      have HI2 : Hid (IB (W.heap.size + 1) { flat0 with kind := 4, days := l } nil nil nil nil w2) := hA2.2.blk HI.out (by omega)
      have HR2 : Hid (IB W.heap.size flat0 nil nil nil nil w2) := hA2.2.blk HR.out (by omega)
      have HA2 := Lib.hid (HA.out.trans hA2); clear hA2 HA HI HR
      obtain ⟨w99, hw99, hA99, hl99, ho99⟩ := item_end HR2.out HA2.out hbl { flat0 with kind := 4, days := l } nil nil nil nil
      have HW99 := Lib.hid hw99; clear hw99
      have HA99 := Lib.hid hA99; clear hA99
      have HL99 := Lib.hid hl99; clear hl99 ho99
      go_wp2_with (first | (refine wpList_load_mid rfl 57 _ rfl (W.heap.size + 1) 0 rfl (icells { flat0 with kind := 4, days := l } nil nil nil nil) _ HI2.out.range Tryd.underlying57 rfl (info_len _ _ _ _ _) ?_) | (refine wpList_store_mid rfl 57 _ _ rfl W.heap.size 0 (icells { flat0 with kind := 4, days := l } nil nil nil nil).toArray rfl rfl (HR2.out.there' _ _ _ _ _) (info_size _ _ _ _ _) (icells_one _ _ _ _ _ ⟨_, _, _, rfl⟩ ⟨_, _, _, rfl⟩ ⟨_, _, _, rfl⟩ ⟨_, _, _, rfl⟩) ?_; rw [HW99.out]))
      exact bodyPost_ret (v := .agg (icells { flat0 with kind := 4, days := l } nil nil nil nil).toArray) (results_cell Tryd.results64 rfl HL99.out) rfl ⟨⟨nil, nil, nil, rfl, FlatOK.nil _ _ _ rfl rfl rfl⟩, HA99.out⟩
end Go.Proofs.YtfaflipphkoiiaaDoor.Pr
