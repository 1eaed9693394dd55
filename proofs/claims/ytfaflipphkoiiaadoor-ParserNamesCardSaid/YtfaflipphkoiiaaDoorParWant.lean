/-
  The statement ParserNames: texts that are no names; the tree that is wanted.
-/
import Derived.Test.YtfaflipphkoiiaaDoorParAlone
import Derived.Test.YtfaflipphkoiiaaDoorParJoins
import Derived.Test.YtfaflipphkoiiaaDoorParSame
import Derived.Test.YtfaflipphkoiiaaDoorParHead
import Derived.OpenShut
namespace Go.Proofs.YtfaflipphkoiiaaDoor
open Go.RowKit Mem Pr
open Lx (bs bs_length)
set_option linter.unusedVariables false

theorem names_text (l0 l1 l2 l3 l4 : Bytes) (n : Nat) : bs ((⟨#[99, 111, 110, 116, 114, 97, 99, 116, 32]⟩ : ByteArray) ++ ⟨l0.toArray⟩ ++ ⟨#[32, 102, 114, 111, 109, 32, 49, 45, 50, 45, 51, 32, 102, 111, 114, 32]⟩ ++ ⟨(dec 11 n).toArray⟩ ++ ⟨#[32, 100, 97, 121, 115, 59, 32, 112, 97, 114, 116, 121, 32]⟩ ++ ⟨l1.toArray⟩ ++ ⟨#[59, 32, 114, 111, 108, 101, 32]⟩ ++ ⟨l2.toArray⟩ ++ ⟨#[32, 111, 102, 32]⟩ ++ ⟨l1.toArray⟩ ++ ⟨#[59, 32, 97, 99, 116, 32]⟩ ++ ⟨l3.toArray⟩ ++ ⟨#[32, 98, 121, 32]⟩ ++ ⟨l2.toArray⟩ ++ ⟨#[32, 116, 111, 32]⟩ ++ ⟨l1.toArray⟩ ++ ⟨#[59, 32, 100, 117, 116, 121, 32]⟩ ++ ⟨l4.toArray⟩ ++ ⟨#[32, 111, 102, 32]⟩ ++ ⟨l2.toArray⟩ ++ ⟨#[32, 58, 32]⟩ ++ ⟨l3.toArray⟩ ++ ⟨#[32, 119, 105, 116, 104, 105, 110, 32]⟩ ++ ⟨l0.toArray⟩ ++ ⟨#[32, 105, 102, 32]⟩ ++ ⟨l4.toArray⟩ ++ ⟨#[32, 115, 116, 97, 114, 116, 101, 100, 32, 112, 97, 117, 115, 101, 100, 32, 98, 121, 32]⟩ ++ ⟨l3.toArray⟩ ++ ⟨#[32, 117, 110, 116, 105, 108, 32]⟩ ++ ⟨l0.toArray⟩ ++ ⟨#[32, 118, 97, 108, 117, 101, 32]⟩ ++ ⟨l1.toArray⟩ ++ ⟨#[32, 116, 111, 32]⟩ ++ ⟨l2.toArray⟩ ++ ⟨#[59]⟩) = ptext (namesPieces l0 l1 l2 l3 l4 n false) := by
  simp [bs, ByteArray.data_append, ptext, namesPieces, namesTail, Piece.all, wd, we, nu, sy]
theorem names_textf (l0 l1 l2 l3 l4 : Bytes) (n : Nat) : bs ((⟨#[99, 111, 110, 116, 114, 97, 99, 116, 32]⟩ : ByteArray) ++ ⟨l0.toArray⟩ ++ ⟨#[32, 102, 114, 111, 109, 32, 49, 45, 50, 45, 51, 32, 102, 111, 114, 32]⟩ ++ ⟨(dec 11 n).toArray⟩ ++ ⟨#[32, 100, 97, 121, 115, 59, 32, 112, 97, 114, 116, 121, 32]⟩ ++ ⟨l1.toArray⟩ ++ ⟨#[59, 32, 114, 111, 108, 101, 32]⟩ ++ ⟨l2.toArray⟩ ++ ⟨#[32, 111, 102, 32]⟩ ++ ⟨l1.toArray⟩ ++ ⟨#[59, 32, 97, 99, 116, 32]⟩ ++ ⟨l3.toArray⟩ ++ ⟨#[32, 98, 121, 32]⟩ ++ ⟨l2.toArray⟩ ++ ⟨#[32, 116, 111, 32]⟩ ++ ⟨l1.toArray⟩ ++ ⟨#[59, 32, 100, 117, 116, 121, 32]⟩ ++ ⟨l4.toArray⟩ ++ ⟨#[32, 111, 102, 32]⟩ ++ ⟨l2.toArray⟩ ++ ⟨#[32, 58, 32]⟩ ++ ⟨l3.toArray⟩ ++ ⟨#[32, 119, 105, 116, 104, 105, 110, 32]⟩ ++ ⟨l0.toArray⟩ ++ ⟨#[32, 105, 102, 32]⟩ ++ ⟨l4.toArray⟩ ++ ⟨#[32, 115, 116, 97, 114, 116, 101, 100, 32, 112, 97, 117, 115, 101, 100, 32, 98, 121, 32]⟩ ++ ⟨l3.toArray⟩ ++ ⟨#[32, 117, 110, 116, 105, 108, 32]⟩ ++ ⟨l0.toArray⟩ ++ ⟨#[32, 118, 97, 108, 117, 101, 32]⟩ ++ ⟨l1.toArray⟩ ++ ⟨#[32, 116, 111, 32]⟩ ++ ⟨l2.toArray⟩ ++ ⟨#[32, 102, 105, 110, 97, 108]⟩ ++ ⟨#[59]⟩) = ptext (namesPieces l0 l1 l2 l3 l4 n true) := by
  simp [bs, ByteArray.data_append, ptext, namesPieces, namesTail, Piece.all, wd, we, nu, sy]
theorem build_1 (x : Bytes) (w : World) : (Instr.build 57 #[(0, .int .i64 1), (1, .string ⟨x.toArray⟩)]).run Tryd.prog w = .ok (.agg (icells { flat0 with kind := 1, name := x } nil nil nil nil).toArray) w := by kernel_rfl
theorem build_2 (x y : Bytes) (w : World) : (Instr.build 57 #[(0, .int .i64 2), (1, .string ⟨x.toArray⟩), (3, .string ⟨y.toArray⟩)]).run Tryd.prog w = .ok (.agg (icells { flat0 with kind := 2, name := x, of_ := y } nil nil nil nil).toArray) w := by kernel_rfl
theorem build_3 (x y z : Bytes) (w : World) : (Instr.build 57 #[(0, .int .i64 8), (1, .string ⟨x.toArray⟩), (5, .int .i64 1), (3, .string ⟨y.toArray⟩), (17, .string ⟨z.toArray⟩)]).run Tryd.prog w = .ok (.agg (icells { flat0 with kind := 8, name := x, of_ := y, word := 1, to_ := z } nil nil nil nil).toArray) w := by kernel_rfl
theorem build_4 (l0 l1 l2 l3 l4 : Bytes) (g : Nat) (fin : Bool) (w : World) : (Instr.build 57 #[(0, .int .i64 9), (1, .string ⟨l4.toArray⟩), (3, .string ⟨l2.toArray⟩), (4, .string ⟨l3.toArray⟩), (6, .int .i64 1), (7, .agg #[.int .i64 0, .bool false, .string ⟨l0.toArray⟩]), (9, .slice (some ⟨g, 0, none⟩) 1 1), (10, .string ⟨l3.toArray⟩), (11, .string ⟨l0.toArray⟩), (14, .string ⟨l1.toArray⟩), (17, .string ⟨l2.toArray⟩), (15, .bool fin)]).run Tryd.prog w
    = .ok (.agg (icells { flat0 with kind := 9, name := l4, of_ := l2, act := l3, times := 1, within := ⟨0, false, l0⟩, conds := [⟨l4, 1⟩], by_ := l3, til := l0, sum := l1, to_ := l2, fin := fin } (.slice (some ⟨g, 0, none⟩) 1 1) nil nil nil).toArray) w := by kernel_rfl
theorem build_all (f0 f1 f2 f3 : Flat) (sc : Value) (w : World) : (Instr.buildSlice 25 4 #[(0, .agg (icells f0 nil nil nil nil).toArray), (1, .agg (icells f1 nil nil nil nil).toArray), (2, .agg (icells f2 nil nil nil nil).toArray), (3, .agg (icells f3 sc nil nil nil).toArray)]).run Tryd.prog w
    = .ok (.slice (some ⟨w.heap.size, 0, none⟩) 4 4) (w.alloc (.cells (icells f0 nil nil nil nil ++ icells f1 nil nil nil nil ++ icells f2 nil nil nil nil ++ icells f3 sc nil nil nil).toArray 57)) := by kernel_rfl
theorem wpList_buildSlice {ops : Array Oper} {rest : List Oper} {o : Oper} {a : Act} {w w' : World} {Q : Exit → Act → World → Prop} (hg : o.guard = none) (t : TypeId) (len : Nat) (parts : Array (Nat × Operand)) (hop : o.op = .buildSlice t len parts) (ps : Array (Nat × Value))
    (hp : parts.map (fun (i, x) => (i, a.eval x)) = ps) (v : Value) (hb : (Instr.buildSlice t len ps).run Tryd.prog w = .ok v w') (h : wpList Tryd.prog ops Q rest (a.put o.dst v) w') : wpList Tryd.prog ops Q (o :: rest) a w := by
  refine wpList_plain hg fun K hK => ?_
  unfold Oper.wp
  simp [execOp, hop, hp, hb, Result.andThen]
  exact hK _ _ h
/-- A name of at most 100 bytes. -/
def okName (x : Bytes) : Bool := decide (x.length ≤ 100) && isName x
theorem okName_iff {x : Bytes} (h : okName x = true) : x.length ≤ 100 ∧ isName x = true := by
  unfold okName at h; simpa using h
/-- The array of names in memory. -/
def NB (q : Nat) (nm : List Bytes) (u : World) : Prop := u.heap[q]? = some (.cells (nm.map sv).toArray 45 (0, 0))
theorem NB.below {q : Nat} {nm : List Bytes} {u u' : World} (h : NB q nm u) (hb : Below u.heap.size u u') : NB q nm u' := (hb.block _ (lt_of_blk h)).trans h
theorem NB.cell {q : Nat} {nm : List Bytes} {u : World} (h : NB q nm u) (j : Nat) (hj : j < nm.length) : u.cell? ⟨q, j, none⟩ = some (.string ⟨nm[j].toArray⟩) := by
  refine (cell_of_blk h j).trans ?_
  simp [sv, hj]

set_option maxRecDepth 100000 in
set_option maxHeartbeats 4000000 in
theorem names_no (l0 l1 l2 l3 l4 : Bytes) (hs : ∀ x ∈ [l0, l1, l2, l3, l4], x.length ≤ 9223372036854775807) (a : Int) (fin : Bool) (w : World) (hw : Wks w) (j : Nat) (hj : j < 5) (hno : okName ([l0, l1, l2, l3, l4][j]) = false) (hyes : ∀ i (h : i < j), okName ([l0, l1, l2, l3, l4][i]'(by simp; omega)) = true) :
    Calls Tryd.prog 7 #[.agg #[.string ⟨l0.toArray⟩, .string ⟨l1.toArray⟩, .string ⟨l2.toArray⟩, .string ⟨l3.toArray⟩, .string ⟨l4.toArray⟩], .int .u32 a, .bool fin] w fun e w' => e = .returned (.bool true) ∧ Below w.heap.size w w' := by
  have HW := Lib.hid hw; clear hw
  have HNO := Lib.hid hno; have HYES := Lib.hid hyes; have HS := Lib.hid hs
  clear hno hyes hs
  have HB0 : Hid (Below w.heap.size w (w.alloc (.cells ([l0, l1, l2, l3, l4].map sv).toArray 45))) := (Below.refl _ w).alloc (Nat.le_refl _) _
  have HN0 : Hid (NB w.heap.size [l0, l1, l2, l3, l4] (w.alloc (.cells ([l0, l1, l2, l3, l4].map sv).toArray 45))) := blk_newn rfl
  go_enter Tryd.func7, Tryd.ntmps7
  go_upto_region 1 with fail
  change Code.wp _ _ _ _ (w.alloc (.cells ([l0, l1, l2, l3, l4].map sv).toArray 45))
  generalize (w.alloc (.cells ([l0, l1, l2, l3, l4].map sv).toArray 45)) = u0 at *
  obtain ⟨nm, HNM⟩ : ∃ nm, Hid ([l0, l1, l2, l3, l4] = nm) := ⟨_, rfl⟩
  have hlen : nm.length = 5 := by rw [← HNM.out]; rfl
  rw [HNM.out] at HN0
  go_wp2_with fail
  refine (head_any _ (HW.out.below HB0.out)).mono ?_
  rintro e w1 ⟨rfl, hb1⟩
  have HB1 := Lib.hid (HB0.out.trans (hb1.mono HB0.out.size))
  have HN1 := Lib.hid (HN0.out.below hb1)
  clear hb1 HB0 HN0
  have HLEN := Lib.hid hlen; clear hlen
  go_wp2_with fail
  go_loopw [8] (fun i wr => ∃ k : Nat, i = .int .i64 k ∧ k ≤ j ∧ Hid (Below w.heap.size w wr) ∧ Hid (NB w.heap.size nm wr)) (fun i _ => 5 - (intOf i).toNat)
  case atStart => exact ⟨0, rfl, by omega, HB1, HN1⟩
  case round =>
    obtain ⟨k, rfl, hk, HB, HN⟩ := hrel
    have hkn : k < nm.length := by rw [HLEN.out]; omega
    have ck := HN.out.cell k hkn
    have hsz : nm[k].length ≤ 9223372036854775807 := HS.out _ (by rw [HNM.out]; exact List.getElem_mem _)
    obtain ⟨x, hx⟩ : ∃ x, nm[k] = x := ⟨_, rfl⟩
    have HX := Lib.hid hx; clear hx
    rw [HX.out] at ck hsz
    have hk5 : (k : Int) < 5 := by omega
    by_cases hkj : k < j
    · have hok : okName x = true := by rw [← HX.out, ← (show nm[k] = nm[k] from rfl)]; have := HYES.out k hkj; simp only [HNM.out] at this; exact this
      obtain ⟨hl, hn⟩ := okName_iff hok
      clear hok
      have hz : (⟨x.toArray⟩ : ByteArray).size ≤ 100 := by rw [size_mk]; exact hl
      obtain ⟨y, HY⟩ : ∃ y : ByteArray, Hid ((⟨x.toArray⟩ : ByteArray) = y) := ⟨_, rfl⟩
      have ha := alone_any x wr (by omega)
      rw [hn, HY.out] at ha
      rw [HY.out] at ck hz
      have HA := Lib.hid ha; clear ha hn
      go_wp2_with fail
      refine HA.out.mono ?_
      rintro e w2 ⟨rfl, hb2⟩
      have HB2 := Lib.hid (HB.out.trans (hb2.mono HB.out.size))
      have HN2 := Lib.hid (HN.out.below hb2)
      clear hb2
      go_wp2_with fail
      go_roundw
      case rel => exact ⟨k + 1, by go_num, by omega, HB2, HN2⟩
      case measure => simp [intOf]; omega
    · obtain rfl : j = k := by omega
      have hok : okName x = false := by rw [← HX.out]; have := HNO.out; simp only [HNM.out] at this; exact this
      obtain ⟨y, HY⟩ : ∃ y : ByteArray, Hid ((⟨x.toArray⟩ : ByteArray) = y) := ⟨_, rfl⟩
      have hz : y.size = x.length := by rw [← HY.out]; exact size_mk x
      by_cases h100 : 100 < x.length
      · have hz2 : 100 < y.size := by omega
        have hz3 : y.size ≤ 9223372036854775807 := by omega
        rw [HY.out] at ck
        clear hz hok
        go_wp2_with fail
        go_ret
        exact ⟨rfl, HB.out⟩
      · have hn : isName x = false := by
          unfold okName at hok
          have : decide (x.length ≤ 100) = true := by simp; omega
          rw [this, Bool.true_and] at hok
          exact hok
        have hz2 : y.size ≤ 100 := by omega
        have ha := alone_any x wr (by omega)
        rw [hn, HY.out] at ha
        rw [HY.out] at ck
        have HA := Lib.hid ha; clear ha hn hz hok
        go_wp2_with fail
        refine HA.out.mono ?_
        rintro e w2 ⟨rfl, hb2⟩
        have HB2 := Lib.hid (HB.out.trans (hb2.mono HB.out.size))
        clear hb2
        go_wp2_with fail
        go_ret
        exact ⟨rfl, HB2.out⟩
theorem want_view {g b : Nat} {l0 l1 l2 l3 l4 : Bytes} {fin : Bool} {u : World} (hg : u.heap[g]? = some (.cells #[.string ⟨l4.toArray⟩, .int .i64 1] 59 (0, 0))) (hb : u.heap[b]? = some (.cells (icells { flat0 with kind := 1, name := l1 } nil nil nil nil ++ icells { flat0 with kind := 2, name := l2, of_ := l1 } nil nil nil nil ++ icells { flat0 with kind := 8, name := l3, of_ := nature l2, word := 1, to_ := l1 } nil nil nil nil ++ icells { flat0 with kind := 9, name := l4, of_ := l2, act := l3, times := 1, within := ⟨0, false, l0⟩, conds := [⟨l4, 1⟩], by_ := l3, til := l0, sum := l1, to_ := l2, fin := fin } (.slice (some ⟨g, 0, none⟩) 1 1) nil nil nil).toArray 57 (0, 0))) :
    VItems u (namesWant l0 l1 l2 l3 l4 fin) (.slice (some ⟨b, 0, none⟩) 4 4) := by
  refine ⟨[(nil, nil, nil, nil), (nil, nil, nil, nil), (nil, nil, nil, nil), (.slice (some ⟨g, 0, none⟩) 1 1, nil, nil, nil)], rfl, ?_, ?_⟩
  · refine ⟨some ⟨b, 0, none⟩, 4, rfl, ⟨Nat.le_refl _, by decide⟩, .inr ⟨b, 0, rfl, lt_of_blk hb, ?_⟩⟩
    have hr := range_of_blk hb
    intro i x hx j v hj
    have key : ∀ i, i < 4 → ∀ j, j < 33 → ∀ x v, ((namesWant l0 l1 l2 l3 l4 fin).zip [(nil, nil, nil, nil), (nil, nil, nil, nil), (nil, nil, nil, nil), (Value.slice (some ⟨g, 0, none⟩) 1 1, nil, nil, nil)] |>.map fun p => icells p.1.flat p.2.1 p.2.2.1 p.2.2.2.1 p.2.2.2.2)[i]? = some x → x[j]? = some v → (icells { flat0 with kind := 1, name := l1 } nil nil nil nil ++ icells { flat0 with kind := 2, name := l2, of_ := l1 } nil nil nil nil ++ icells { flat0 with kind := 8, name := l3, of_ := nature l2, word := 1, to_ := l1 } nil nil nil nil ++ icells { flat0 with kind := 9, name := l4, of_ := l2, act := l3, times := 1, within := ⟨0, false, l0⟩, conds := [⟨l4, 1⟩], by_ := l3, til := l0, sum := l1, to_ := l2, fin := fin } (.slice (some ⟨g, 0, none⟩) 1 1) nil nil nil)[i * 33 + j]? = some v := by
      intro i hi j hj x v h1 h2
      have := flat_at (fun p : Pr.Item × Sl => icells p.1.flat p.2.1 p.2.2.1 p.2.2.2.1 p.2.2.2.2) 33 ((namesWant l0 l1 l2 l3 l4 fin).zip [(nil, nil, nil, nil), (nil, nil, nil, nil), (nil, nil, nil, nil), (Value.slice (some ⟨g, 0, none⟩) 1 1, nil, nil, nil)]) (fun _ _ => rfl) i x h1 j v h2
      exact this
    have hi : i < 4 := by
      have := (List.getElem?_eq_some_iff.1 hx).1
      simpa [namesWant] using this
    have hj33 : j < 33 := by
      obtain ⟨p, _, rfl⟩ := List.mem_map.1 (List.mem_of_getElem? hx)
      exact (List.getElem?_eq_some_iff.1 hj).1
    have := hr _ _ (key i hi j hj33 x v hx hj)
    rw [Nat.zero_add] at this ⊢
    exact this
  · have hn : ∀ z, Row u nil z [] := fun z => Row.nil u z
    have hin : VInner u [] nil := ⟨[], rfl, Row.nil u 33, fun p hp => by cases hp⟩
    have hc : Row u (.slice (some ⟨g, 0, none⟩) 1 1) 2 [cval ⟨l4, 1⟩] := by
      refine ⟨some ⟨g, 0, none⟩, 1, rfl, ⟨Nat.le_refl _, by decide⟩, .inr ⟨g, 0, rfl, lt_of_blk hg, ?_⟩⟩
      intro i x hx j v hj
      have hi : i = 0 := by have := (List.getElem?_eq_some_iff.1 hx).1; simpa using this
      subst hi
      simp only [List.getElem?_cons_zero, Option.some.injEq] at hx
      subst hx
      rw [cell_of_blk hg]
      simpa [cval] using hj
    intro p hp
    simp only [namesWant, List.zip_cons_cons, List.zip_nil_right, List.mem_cons, List.not_mem_nil, or_false] at hp
    rcases hp with rfl | rfl | rfl | rfl
    · exact ⟨⟨hn _, hn _, hn _⟩, hin⟩
    · exact ⟨⟨hn _, hn _, hn _⟩, hin⟩
    · exact ⟨⟨hn _, hn _, hn _⟩, hin⟩
    · exact ⟨⟨hc, hn _, hn _⟩, hin⟩
end Go.Proofs.YtfaflipphkoiiaaDoor
