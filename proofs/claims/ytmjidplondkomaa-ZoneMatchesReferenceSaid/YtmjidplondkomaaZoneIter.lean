/-
  The iterator of package zone over the stretches of a zone: what it hands to whatever loop body keeps its memory.
-/
import Derived.RangeFuncNested
import Derived.RangeFuncBound
import Derived.RangeFuncCalls
import Derived.RangeFuncLeaves
import Derived.Shelf.Abstract
import Derived.Shelf.RegionOpen
import Derived.WalkKit
import Derived.OwnWalkIn
import Derived.TacticsInMore
import Derived.LoopNIn
import Derived.LoopIn
import Derived.Lib.Hide
import Derived.Outline
import Derived.Test.YtmjidplondkomaaProg
import Derived.Test.YtmjidplondkomaaZonePlain
namespace Go.Proofs.Ytmjidplondkomaa.Zn
open Go.RowKit Go.Shelf
set_option linter.unusedVariables false
attribute [local go_sem] Oper.semAt_some

/-- A slice of changes that reads as a list. -/
def ChRow (w : World) (A : Option Addr) (cs : List (Int × Int)) : Prop :=
  0 < cs.length → ∃ g o, A = some ⟨g, o, none⟩ ∧ g < w.heap.size ∧ ∀ i (h : i < cs.length), w.cell? ⟨g, o + i * 2, none⟩ = some (.int .i64 cs[i].1) ∧ w.cell? ⟨g, o + i * 2 + 1, none⟩ = some (.int .i64 cs[i].2)

/-- What a loop's body keeps: what lay below n0, and every zone, change and stretch. -/
structure Keep (n0 : Nat) (W W' : World) : Prop where
  bel : Below n0 W W'
  typ : ∀ (k : Nat) (cs : Array Value) (t : TypeId) (f : Nat × Nat), (t = 24 ∨ t = 46 ∨ t = 51) → W.heap[k]? = some (Obj.cells cs t f) → W'.heap[k]? = some (Obj.cells cs t f)

theorem cell_of_blk {w : World} {g : Nat} {cs : Array Value} {t : TypeId} (h : w.heap[g]? = some (.cells cs t (0, 0))) (i : Nat) : w.cell? ⟨g, i, none⟩ = cs[i]? := by
  unfold World.cell?; simp [h]
theorem froz_of_blk {w : World} {g : Nat} {cs : Array Value} {t : TypeId} (h : w.heap[g]? = some (.cells cs t (0, 0))) (i : Nat) : w.frozen? ⟨g, i, none⟩ = false := by
  simp [World.frozen?, h]
theorem lt_of_blk {w : World} {g : Nat} {o : Obj} (h : w.heap[g]? = some o) : g < w.heap.size := (Array.getElem?_eq_some_iff.1 h).1

theorem cell_set_same {w : World} {a : Addr} {v : Value} (h : (w.cell? a).isSome = true) : (w.setCell a v).cell? a = some v := by
  cases hu : w.cell? a with
  | none => rw [hu] at h; cases h
  | some u => exact World.cell?_setCell_same _ _ _ hu
theorem blk_alloc {w : World} {g : Nat} {o : Obj} (h : w.heap[g]? = some o) (o' : Obj) : (w.alloc o').heap[g]? = some o := (Below.heap_alloc w o' g (lt_of_blk h)).trans h
theorem blk_set {w : World} {g : Nat} {cs : Array Value} {t : TypeId} (h : w.heap[g]? = some (.cells cs t (0, 0))) (i : Nat) (u : Value) : (w.setCell ⟨g, i, none⟩ u).heap[g]? = some (.cells (cs.setIfInBounds i u) t (0, 0)) := by
  simp [World.setCell, Array.getElem?_modify, h]
theorem blk_far {w : World} {g : Nat} {o : Obj} (h : w.heap[g]? = some o) {a : Addr} (ha : g ≠ a.block) (u : Value) : (w.setCell a u).heap[g]? = some o := (Below.heap_setCell w a u g ha).trans h
theorem chRow_keep {w w' : World} {A : Option Addr} {cs : List (Int × Int)} (h : ChRow w A cs) (hs : w.heap.size ≤ w'.heap.size) (hk : ∀ g o, A = some ⟨g, o, none⟩ → 0 < cs.length → w'.heap[g]? = w.heap[g]?) : ChRow w' A cs := by
  intro hp
  obtain ⟨g, o, hA, hg, hc⟩ := h hp
  have hb := hk g o hA hp
  exact ⟨g, o, hA, by omega, fun i hi => ⟨(World.cell?_of_block hb).trans (hc i hi).1, (World.cell?_of_block hb).trans (hc i hi).2⟩⟩
theorem tto_lt (z : Zone) (j : Nat) (h : j < z.chs.length) : tto z j = z.chs[j].1 := by
  unfold tto; rw [if_pos h, List.getD_eq_getElem?_getD, List.getElem?_eq_getElem h]; rfl
theorem frm_succ (z : Zone) (j : Nat) (h : j < z.chs.length) : frm z (j + 1) = z.chs[j].1 := by
  unfold frm; rw [if_neg (by omega), Nat.add_sub_cancel, List.getD_eq_getElem?_getD, List.getElem?_eq_getElem h]; rfl
theorem ofs_succ (z : Zone) (j : Nat) (h : j < z.chs.length) : ofs z (j + 1) = z.chs[j].2 := by
  unfold ofs; rw [if_neg (by omega), Nat.add_sub_cancel, List.getD_eq_getElem?_getD, List.getElem?_eq_getElem h]; rfl
theorem tto_end (z : Zone) : tto z z.chs.length = 105190560 := by unfold tto; rw [if_neg (by omega)]

set_option maxHeartbeats 2000000 in
theorem iter_in (m : Nat) (hm : 1 ≤ m) (l bz n0 : Nat) (z : Zone) (A : Option Addr) (cap : Nat) (J Jx : Nat → World → Prop) (W : World)
    (hja : ∀ k W o, J k W → J k (W.alloc o)) (hjs : ∀ k W' a v, a.block = W.heap.size → J k W' → J k (W'.setCell a v))
    (hY : ∀ k W0, k < cnt z → W.heap.size < W0.heap.size → J k W0 → YieldAt Fence.wide (m - 1) Try.prog l #[.agg #[.int .i64 (frm z k), .int .i64 (tto z k), .int .i64 (ofs z k)]] W0 fun e W' =>
      (e = .returned (.bool true) ∧ J (k + 1) W' ∧ Keep n0 W0 W') ∨ (e = .returned (.bool false) ∧ Jx (k + 1) W'))
    (hn0 : n0 ≤ W.heap.size) (hz : W.heap[bz]? = some (.cells #[.int .i64 z.off, .slice A z.chs.length cap] 24 (0, 0)))
    (hrow : ChRow W A z.chs) (hrn : ∀ g o, A = some ⟨g, o, none⟩ → 0 < z.chs.length → g < n0) (hlen : z.chs.length ≤ 1000000) (h0 : J 0 W) :
    CallsIn Fence.wide m Try.prog 31 #[.func (.yield l) #[] #[], .pointer (some ⟨bz, 0, none⟩)] W fun e W' =>
      (∃ v, e = .returned v) ∧ (J (cnt z) W' ∨ ∃ k, k < cnt z ∧ Jx (k + 1) W') := by
  have z0 := cell_of_blk hz 0
  have z1 := cell_of_blk hz 1
  simp only [List.getElem?_toArray, List.getElem?_cons_zero, List.getElem?_cons_succ] at z0 z1
  refine callsIn_of_wp Try.func31 rfl trivial ?_ rfl
  simp only [Try.ntmps31, List.size_toArray, List.length_cons, List.length_nil, Nat.reduceAdd, Nat.reduceSub, Array.replicate_succ, Array.replicate_zero, List.push_toArray, List.append_toArray, List.nil_append, List.cons_append]
  have HJA := Lib.hid hja; clear hja
  have HJS := Lib.hid hjs; clear hjs
  have HY := Lib.hid hY; clear hY
  have HROW := Lib.hid hrow; clear hrow
  have HRN := Lib.hid hrn; clear hrn
  have HZ := Lib.hid hz; clear hz
  have H0 := Lib.hid h0; clear h0
  have z1' : ∀ o, (W.alloc o).cell? ⟨bz, 1, none⟩ = some (.slice A z.chs.length cap) := fun o => (World.cell?_alloc_lt W o ⟨bz, 1, none⟩ (lt_of_blk HZ.out)).trans z1
  gi_wp2
  gi_loopw [12] (fun i wr => ∃ (j : Nat) (x : Int), i = .int .i64 j ∧ j ≤ z.chs.length ∧ Hid (wr.heap[W.heap.size]? = some (.cells #[.int .i64 (frm z j), .int .i64 x, .int .i64 (ofs z j)] 51 (0, 0))) ∧
      Hid (W.heap.size < wr.heap.size) ∧ Hid (ChRow wr A z.chs) ∧ Hid (J j wr)) (fun i _ => z.chs.length - (intOf i).toNat)
  case atStart =>
    refine ⟨0, 0, rfl, by omega, heap_alloc_new W _, ?_, ?_, HJA.out _ _ _ H0.out⟩
    · show _ < _; simp
    · show ChRow _ _ _
      intro hp
      obtain ⟨g, o, hA, hg, hc⟩ := HROW.out hp
      exact ⟨g, o, hA, by simp; omega, fun i hi => ⟨(World.cell?_alloc_lt W _ ⟨g, _, none⟩ hg).trans (hc i hi).1, (World.cell?_alloc_lt W _ ⟨g, _, none⟩ hg).trans (hc i hi).2⟩⟩
  case round =>
    obtain ⟨j, x, rfl, hj, HS, HSZ, HC, HJ⟩ := hrel
    by_cases hlt : j < z.chs.length
    · obtain ⟨g, o, hA, hg, hc⟩ := HC.out (by omega)
      have hgn := HRN.out g o hA (by omega)
      subst hA
      obtain ⟨c0, c1⟩ := hc j hlt
      clear hc
      have htt := tto_lt z j hlt
      have HF := Lib.hid (frm_succ z j hlt)
      have HO := Lib.hid (ofs_succ z j hlt)
      generalize hcv : z.chs[j] = cv at *
      obtain ⟨at_, of_⟩ := cv
      simp only at c0 c1 htt HF HO
      clear hcv
      have s0 : ∀ o, (wr.alloc o).cell? ⟨W.heap.size, 0, none⟩ = some (.int .i64 (frm z j)) := fun o => cell_of_blk (blk_alloc HS.out o) 0
      have s1 : ∀ o, (wr.alloc o).cell? ⟨W.heap.size, 1, none⟩ = some (.int .i64 x) := fun o => cell_of_blk (blk_alloc HS.out o) 1
      have s2 : ∀ o, (wr.alloc o).cell? ⟨W.heap.size, 2, none⟩ = some (.int .i64 (ofs z j)) := fun o => cell_of_blk (blk_alloc HS.out o) 2
      have sf : ∀ o, (wr.alloc o).frozen? ⟨W.heap.size, 1, none⟩ = false := fun o => froz_of_blk (blk_alloc HS.out o) 1
      have hsz := HSZ.out
      have HW2 : ∀ o, Hid (((wr.setCell ⟨W.heap.size, 1, none⟩ (.int .i64 at_)).alloc o).heap[W.heap.size]? = some (.cells #[.int .i64 (frm z j), .int .i64 at_, .int .i64 (ofs z j)] 51 (0, 0))) := fun o => blk_alloc (blk_set HS.out 1 _) o
      have t0 : ∀ o, ((wr.setCell ⟨W.heap.size, 1, none⟩ (.int .i64 at_)).alloc o).cell? ⟨W.heap.size, 0, none⟩ = some (.int .i64 (frm z j)) := fun o => cell_of_blk (HW2 o).out 0
      have t1 : ∀ o, ((wr.setCell ⟨W.heap.size, 1, none⟩ (.int .i64 at_)).alloc o).cell? ⟨W.heap.size, 1, none⟩ = some (.int .i64 at_) := fun o => cell_of_blk (HW2 o).out 1
      have t2 : ∀ o, ((wr.setCell ⟨W.heap.size, 1, none⟩ (.int .i64 at_)).alloc o).cell? ⟨W.heap.size, 2, none⟩ = some (.int .i64 (ofs z j)) := fun o => cell_of_blk (HW2 o).out 2
      obtain ⟨fn, tmps, assign, body, hy, hR⟩ := HY.out j ((wr.setCell ⟨W.heap.size, 1, none⟩ (.int .i64 at_)).alloc (.cells #[.int .i64 at_, .int .i64 of_] 46)) (by unfold cnt; omega) (by simp only [World.size_alloc, World.size_setCell]; omega) (HJA.out _ _ _ (HJS.out _ _ _ _ rfl HJ.out))
      rw [htt] at hy
      clear htt
      gi_wp2
      refine hR.mono ?_
      rintro e W3 (⟨rfl, hJ3, hk3⟩ | ⟨rfl, hJx3⟩)
      · have hb3 : W3.heap[W.heap.size]? = some (.cells #[.int .i64 (frm z j), .int .i64 at_, .int .i64 (ofs z j)] 51 (0, 0)) := hk3.typ _ _ _ _ (.inr (.inr rfl)) (HW2 _).out
        have hc3 : W3.heap[wr.heap.size]? = some (.cells #[.int .i64 at_, .int .i64 of_] 46 (0, 0)) := hk3.typ _ _ _ _ (.inr (.inl rfl)) (by
          have := heap_alloc_new (wr.setCell ⟨W.heap.size, 1, none⟩ (.int .i64 at_)) (.cells #[.int .i64 at_, .int .i64 of_] 46)
          rwa [World.size_setCell] at this)
        have p0 : W3.cell? ⟨W.heap.size, 0, none⟩ = some (.int .i64 (frm z j)) := cell_of_blk hb3 0
        have p1 : W3.cell? ⟨W.heap.size, 1, none⟩ = some (.int .i64 at_) := cell_of_blk hb3 1
        have p2 : W3.cell? ⟨W.heap.size, 2, none⟩ = some (.int .i64 (ofs z j)) := cell_of_blk hb3 2
        have pf0 := froz_of_blk hb3 0
        have pf1 := froz_of_blk hb3 1
        have pf2 := froz_of_blk hb3 2
        have q0 : W3.cell? ⟨wr.heap.size, 0, none⟩ = some (.int .i64 at_) := cell_of_blk hc3 0
        have q1 : W3.cell? ⟨wr.heap.size, 1, none⟩ = some (.int .i64 of_) := cell_of_blk hc3 1
        have hs3 := hk3.bel.size
        simp only [World.size_alloc, World.size_setCell] at hs3
        have HCR : Hid (ChRow W3 (some ⟨g, o, none⟩) z.chs) := by
          refine chRow_keep HC.out (by omega) (fun g' o' e hp => ?_)
          injection e with e
          injection e with e1 e2 e3
          subst e1
          have h1 := hk3.bel.block g hgn
          rw [h1, Below.heap_alloc _ _ _ (by rw [World.size_setCell]; exact hg), Below.heap_setCell _ _ _ _ (by show g ≠ W.heap.size; omega)]
        have HB3 := Lib.hid hb3; clear hb3 hc3
        have HJ3 := Lib.hid hJ3; clear hJ3
        have HK3 := Lib.hid hk3; clear hk3
        clear t0 t1 t2 s0 s1 s2 sf hy
        gi_wp2
        go_roundw
        case rel =>
          refine ⟨j + 1, 0, by go_num, by omega, ?_, ?_, ?_, ?_⟩
          · show _ = _
            rw [HF.out, HO.out]
            exact blk_set (blk_set (blk_set HB3.out 0 _) 1 _) 2 _
          · show _ < _; simp only [World.size_setCell]; omega
          · refine chRow_keep HCR.out (by simp only [World.size_setCell]; omega) (fun g' o' e hp => ?_)
            injection e with e
            injection e with e1 e2 e3
            subst e1
            rw [Below.heap_setCell _ _ _ _ (by show g ≠ W.heap.size; omega), Below.heap_setCell _ _ _ _ (by show g ≠ W.heap.size; omega), Below.heap_setCell _ _ _ _ (by show g ≠ W.heap.size; omega)]
          · exact HJS.out _ _ _ _ rfl (HJS.out _ _ _ _ rfl (HJS.out _ _ _ _ rfl HJ3.out))
        case measure => simp [intOf]; omega
      · gi_wp2
        refine bodyPost_ret (results_none rfl _ _ _) rfl ?_
        exact ⟨⟨_, rfl⟩, .inr ⟨j, by unfold cnt; omega, hJx3⟩⟩
    · have hjn : j = z.chs.length := by omega
      subst hjn
      have HTE := Lib.hid (tto_end z)
      have s0 : wr.cell? ⟨W.heap.size, 0, none⟩ = some (.int .i64 (frm z z.chs.length)) := cell_of_blk HS.out 0
      have s1 : wr.cell? ⟨W.heap.size, 1, none⟩ = some (.int .i64 x) := cell_of_blk HS.out 1
      have s2 : wr.cell? ⟨W.heap.size, 2, none⟩ = some (.int .i64 (ofs z z.chs.length)) := cell_of_blk HS.out 2
      have sf := froz_of_blk HS.out 1
      have HW2 : Hid ((wr.setCell ⟨W.heap.size, 1, none⟩ (.int .i64 105190560)).heap[W.heap.size]? = some (.cells #[.int .i64 (frm z z.chs.length), .int .i64 105190560, .int .i64 (ofs z z.chs.length)] 51 (0, 0))) := blk_set HS.out 1 _
      have t1 : (wr.setCell ⟨W.heap.size, 1, none⟩ (.int .i64 105190560)).cell? ⟨W.heap.size, 1, none⟩ = some (.int .i64 105190560) := cell_of_blk HW2.out 1
      obtain ⟨fn, tmps, assign, body, hy, hR⟩ := HY.out z.chs.length (wr.setCell ⟨W.heap.size, 1, none⟩ (.int .i64 105190560)) (by unfold cnt; omega) (by simp only [World.size_setCell]; exact HSZ.out) (HJS.out _ _ _ _ rfl HJ.out)
      rw [HTE.out] at hy
      gi_wp2
      refine hR.mono ?_
      rintro e W3 (⟨rfl, hJ3, hk3⟩ | ⟨rfl, hJx3⟩)
      · gi_wp2
        go_end0
        exact ⟨⟨_, rfl⟩, .inl hJ3⟩
      · gi_wp2
        go_end0
        exact ⟨⟨_, rfl⟩, .inr ⟨z.chs.length, by unfold cnt; omega, hJx3⟩⟩
end Go.Proofs.Ytmjidplondkomaa.Zn
