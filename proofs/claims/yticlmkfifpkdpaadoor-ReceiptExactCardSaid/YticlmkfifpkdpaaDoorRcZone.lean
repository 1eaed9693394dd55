/-
  Time zones in plain Lean: the stretches of equal offset, local times, instants. No condition. The iterator of package zone over the stretches of a zone: what it hands to whatever loop body keeps its memory. A loop over the stretches of a zone: from what its body does to what the loop does. What the functions isOffset, Valid and isLocal of package zone return. What the function Local of package zone returns. What the function Local of package zone returns, for every zone and instant. Plain facts about valid zones: the stretches lie apart, every instant lies in one, the instants of a local time.
-/
import Derived.Below
import Derived.RangeFuncNested
import Derived.RangeFuncBound
import Derived.RangeFuncCalls
import Derived.RangeFuncLeaves
import Derived.Shelf.Abstract
import Derived.Shelf.RegionOpen
import Derived.WalkKit
import Derived.OwnWalkIn
import Derived.TacticsInMore
import Derived.LoopNIn
import Derived.LoopIn
import Derived.Lib.Hide
import Derived.Outline
import Derived.Test.YticlmkfifpkdpaaDoorProg
import Derived.Handy
import Derived.WalkLawsBesides
import Derived.Deep.QuietTactic
import Derived.BigQuiet
namespace Go.Proofs.YticlmkfifpkdpaaDoor.Zn

/-- A zone: its offset and its changes (instant, offset). -/
structure Zone where
  off : Int
  chs : List (Int × Int)

/-- The stretch with a number: from, to, offset. -/
def frm (z : Zone) (k : Nat) : Int := if k = 0 then 0 else (z.chs.getD (k - 1) (0, 0)).1
def tto (z : Zone) (k : Nat) : Int := if k < z.chs.length then (z.chs.getD k (0, 0)).1 else 105190560
def ofs (z : Zone) (k : Nat) : Int := if k = 0 then z.off else (z.chs.getD (k - 1) (0, 0)).2
/-- How many stretches there are. -/
def cnt (z : Zone) : Nat := z.chs.length + 1

def okOff (o : Int) : Bool := decide (-840 ≤ o) && decide (o ≤ 840)
/-- The changes are far enough apart, before the end, with permitted offsets. -/
def okFrom : Int → List (Int × Int) → Bool
  | _, [] => true
  | last, (a, o) :: r => okOff o && decide (last + 5760 < a) && decide (a < 105190560) && okFrom a r
def valid (z : Zone) : Bool := okOff z.off && decide (z.chs.length ≤ 40) && okFrom 0 z.chs
end Go.Proofs.YticlmkfifpkdpaaDoor.Zn
namespace Go.Proofs.YticlmkfifpkdpaaDoor.Zn
open Go.RowKit Go.Shelf
set_option linter.unusedVariables false
attribute [local go_sem] Oper.semAt_some

/-- A slice of changes that reads as a list. -/
def ChRow (w : World) (A : Option Addr) (cs : List (Int × Int)) : Prop :=
  0 < cs.length → ∃ g o, A = some ⟨g, o, none⟩ ∧ g < w.heap.size ∧ ∀ i (h : i < cs.length), w.cell? ⟨g, o + i * 2, none⟩ = some (.int .i64 cs[i].1) ∧ w.cell? ⟨g, o + i * 2 + 1, none⟩ = some (.int .i64 cs[i].2)

/-- What a loop's body keeps: what lay below n0, and every zone, change and stretch. -/
structure Keep (n0 : Nat) (W W' : World) : Prop where
  bel : Below n0 W W'
  typ : ∀ (k : Nat) (cs : Array Value) (t : TypeId) (f : Nat × Nat), (t = 24 ∨ t = 126 ∨ t = 134) → W.heap[k]? = some (Obj.cells cs t f) → W'.heap[k]? = some (Obj.cells cs t f)

theorem cell_of_blk {w : World} {g : Nat} {cs : Array Value} {t : TypeId} (h : w.heap[g]? = some (.cells cs t (0, 0))) (i : Nat) : w.cell? ⟨g, i, none⟩ = cs[i]? := by
  unfold World.cell?; simp [h]
theorem froz_of_blk {w : World} {g : Nat} {cs : Array Value} {t : TypeId} (h : w.heap[g]? = some (.cells cs t (0, 0))) (i : Nat) : w.frozen? ⟨g, i, none⟩ = false := by
  simp [World.frozen?, h]
theorem lt_of_blk {w : World} {g : Nat} {o : Obj} (h : w.heap[g]? = some o) : g < w.heap.size := (Array.getElem?_eq_some_iff.1 h).1

theorem cell_set_same {w : World} {a : Addr} {v : Value} (h : (w.cell? a).isSome = true) : (w.setCell a v).cell? a = some v := by
  cases hu : w.cell? a with
  | none => rw [hu] at h; cases h
  | some u => exact World.cell?_setCell_same _ _ _ hu
theorem blk_alloc {w : World} {g : Nat} {o : Obj} (h : w.heap[g]? = some o) (o' : Obj) : (w.alloc o').heap[g]? = some o := (Below.heap_alloc w o' g (lt_of_blk h)).trans h
theorem blk_set {w : World} {g : Nat} {cs : Array Value} {t : TypeId} (h : w.heap[g]? = some (.cells cs t (0, 0))) (i : Nat) (u : Value) : (w.setCell ⟨g, i, none⟩ u).heap[g]? = some (.cells (cs.setIfInBounds i u) t (0, 0)) := by
  simp [World.setCell, Array.getElem?_modify, h]
theorem blk_far {w : World} {g : Nat} {o : Obj} (h : w.heap[g]? = some o) {a : Addr} (ha : g ≠ a.block) (u : Value) : (w.setCell a u).heap[g]? = some o := (Below.heap_setCell w a u g ha).trans h
theorem chRow_keep {w w' : World} {A : Option Addr} {cs : List (Int × Int)} (h : ChRow w A cs) (hs : w.heap.size ≤ w'.heap.size) (hk : ∀ g o, A = some ⟨g, o, none⟩ → 0 < cs.length → w'.heap[g]? = w.heap[g]?) : ChRow w' A cs := by
  intro hp
  obtain ⟨g, o, hA, hg, hc⟩ := h hp
  have hb := hk g o hA hp
  exact ⟨g, o, hA, by omega, fun i hi => ⟨(World.cell?_of_block hb).trans (hc i hi).1, (World.cell?_of_block hb).trans (hc i hi).2⟩⟩
theorem tto_lt (z : Zone) (j : Nat) (h : j < z.chs.length) : tto z j = z.chs[j].1 := by
  unfold tto; rw [if_pos h, List.getD_eq_getElem?_getD, List.getElem?_eq_getElem h]; rfl
theorem frm_succ (z : Zone) (j : Nat) (h : j < z.chs.length) : frm z (j + 1) = z.chs[j].1 := by
  unfold frm; rw [if_neg (by omega), Nat.add_sub_cancel, List.getD_eq_getElem?_getD, List.getElem?_eq_getElem h]; rfl
theorem ofs_succ (z : Zone) (j : Nat) (h : j < z.chs.length) : ofs z (j + 1) = z.chs[j].2 := by
  unfold ofs; rw [if_neg (by omega), Nat.add_sub_cancel, List.getD_eq_getElem?_getD, List.getElem?_eq_getElem h]; rfl
theorem tto_end (z : Zone) : tto z z.chs.length = 105190560 := by unfold tto; rw [if_neg (by omega)]

set_option maxHeartbeats 2000000 in
theorem iter_in (m : Nat) (hm : 1 ≤ m) (l bz n0 : Nat) (z : Zone) (A : Option Addr) (cap : Nat) (J Jx : Nat → World → Prop) (W : World)
    (hja : ∀ k W o, J k W → J k (W.alloc o)) (hjs : ∀ k W' a v, a.block = W.heap.size → J k W' → J k (W'.setCell a v))
    (hY : ∀ k W0, k < cnt z → W.heap.size < W0.heap.size → J k W0 → YieldAt Fence.wide (m - 1) Tryd.prog l #[.agg #[.int .i64 (frm z k), .int .i64 (tto z k), .int .i64 (ofs z k)]] W0 fun e W' =>
      (e = .returned (.bool true) ∧ J (k + 1) W' ∧ Keep n0 W0 W') ∨ (e = .returned (.bool false) ∧ Jx (k + 1) W'))
    (hn0 : n0 ≤ W.heap.size) (hz : W.heap[bz]? = some (.cells #[.int .i64 z.off, .slice A z.chs.length cap] 24 (0, 0)))
    (hrow : ChRow W A z.chs) (hrn : ∀ g o, A = some ⟨g, o, none⟩ → 0 < z.chs.length → g < n0) (hlen : z.chs.length ≤ 1000000) (h0 : J 0 W) :
    CallsIn Fence.wide m Tryd.prog 110 #[.func (.yield l) #[] #[], .pointer (some ⟨bz, 0, none⟩)] W fun e W' =>
      (∃ v, e = .returned v) ∧ (J (cnt z) W' ∨ ∃ k, k < cnt z ∧ Jx (k + 1) W') := by
  have z0 := cell_of_blk hz 0
  have z1 := cell_of_blk hz 1
  simp only [List.getElem?_toArray, List.getElem?_cons_zero, List.getElem?_cons_succ] at z0 z1
  refine callsIn_of_wp Tryd.func110 rfl trivial ?_ rfl
  simp only [Tryd.ntmps110, List.size_toArray, List.length_cons, List.length_nil, Nat.reduceAdd, Nat.reduceSub, Array.replicate_succ, Array.replicate_zero, List.push_toArray, List.append_toArray, List.nil_append, List.cons_append]
  have HJA := Lib.hid hja; clear hja
  have HJS := Lib.hid hjs; clear hjs
  have HY := Lib.hid hY; clear hY
  have HROW := Lib.hid hrow; clear hrow
  have HRN := Lib.hid hrn; clear hrn
  have HZ := Lib.hid hz; clear hz
  have H0 := Lib.hid h0; clear h0
  have z1' : ∀ o, (W.alloc o).cell? ⟨bz, 1, none⟩ = some (.slice A z.chs.length cap) := fun o => (World.cell?_alloc_lt W o ⟨bz, 1, none⟩ (lt_of_blk HZ.out)).trans z1
  gi_wp2
  gi_loopw [12] (fun i wr => ∃ (j : Nat) (x : Int), i = .int .i64 j ∧ j ≤ z.chs.length ∧ Hid (wr.heap[W.heap.size]? = some (.cells #[.int .i64 (frm z j), .int .i64 x, .int .i64 (ofs z j)] 134 (0, 0))) ∧
      Hid (W.heap.size < wr.heap.size) ∧ Hid (ChRow wr A z.chs) ∧ Hid (J j wr)) (fun i _ => z.chs.length - (intOf i).toNat)
  case atStart =>
    refine ⟨0, 0, rfl, by omega, heap_alloc_new W _, ?_, ?_, HJA.out _ _ _ H0.out⟩
    · show _ < _; simp
    · show ChRow _ _ _
      intro hp
      obtain ⟨g, o, hA, hg, hc⟩ := HROW.out hp
      exact ⟨g, o, hA, by simp; omega, fun i hi => ⟨(World.cell?_alloc_lt W _ ⟨g, _, none⟩ hg).trans (hc i hi).1, (World.cell?_alloc_lt W _ ⟨g, _, none⟩ hg).trans (hc i hi).2⟩⟩
  case round =>
    obtain ⟨j, x, rfl, hj, HS, HSZ, HC, HJ⟩ := hrel
    by_cases hlt : j < z.chs.length
    · obtain ⟨g, o, hA, hg, hc⟩ := HC.out (by omega)
      have hgn := HRN.out g o hA (by omega)
      subst hA
      obtain ⟨c0, c1⟩ := hc j hlt
      clear hc
      have htt := tto_lt z j hlt
      have HF := Lib.hid (frm_succ z j hlt)
      have HO := Lib.hid (ofs_succ z j hlt)
      generalize hcv : z.chs[j] = cv at *
      obtain ⟨at_, of_⟩ := cv
      simp only at c0 c1 htt HF HO
      clear hcv
      have s0 : ∀ o, (wr.alloc o).cell? ⟨W.heap.size, 0, none⟩ = some (.int .i64 (frm z j)) := fun o => cell_of_blk (blk_alloc HS.out o) 0
      have s1 : ∀ o, (wr.alloc o).cell? ⟨W.heap.size, 1, none⟩ = some (.int .i64 x) := fun o => cell_of_blk (blk_alloc HS.out o) 1
      have s2 : ∀ o, (wr.alloc o).cell? ⟨W.heap.size, 2, none⟩ = some (.int .i64 (ofs z j)) := fun o => cell_of_blk (blk_alloc HS.out o) 2
      have sf : ∀ o, (wr.alloc o).frozen? ⟨W.heap.size, 1, none⟩ = false := fun o => froz_of_blk (blk_alloc HS.out o) 1
      have hsz := HSZ.out
      have HW2 : ∀ o, Hid (((wr.setCell ⟨W.heap.size, 1, none⟩ (.int .i64 at_)).alloc o).heap[W.heap.size]? = some (.cells #[.int .i64 (frm z j), .int .i64 at_, .int .i64 (ofs z j)] 134 (0, 0))) := fun o => blk_alloc (blk_set HS.out 1 _) o
      have t0 : ∀ o, ((wr.setCell ⟨W.heap.size, 1, none⟩ (.int .i64 at_)).alloc o).cell? ⟨W.heap.size, 0, none⟩ = some (.int .i64 (frm z j)) := fun o => cell_of_blk (HW2 o).out 0
      have t1 : ∀ o, ((wr.setCell ⟨W.heap.size, 1, none⟩ (.int .i64 at_)).alloc o).cell? ⟨W.heap.size, 1, none⟩ = some (.int .i64 at_) := fun o => cell_of_blk (HW2 o).out 1
      have t2 : ∀ o, ((wr.setCell ⟨W.heap.size, 1, none⟩ (.int .i64 at_)).alloc o).cell? ⟨W.heap.size, 2, none⟩ = some (.int .i64 (ofs z j)) := fun o => cell_of_blk (HW2 o).out 2
      obtain ⟨fn, tmps, assign, body, hy, hR⟩ := HY.out j ((wr.setCell ⟨W.heap.size, 1, none⟩ (.int .i64 at_)).alloc (.cells #[.int .i64 at_, .int .i64 of_] 126)) (by unfold cnt; omega) (by simp only [World.size_alloc, World.size_setCell]; omega) (HJA.out _ _ _ (HJS.out _ _ _ _ rfl HJ.out))
      rw [htt] at hy
      clear htt
      gi_wp2
      refine hR.mono ?_
      rintro e W3 (⟨rfl, hJ3, hk3⟩ | ⟨rfl, hJx3⟩)
      · have hb3 : W3.heap[W.heap.size]? = some (.cells #[.int .i64 (frm z j), .int .i64 at_, .int .i64 (ofs z j)] 134 (0, 0)) := hk3.typ _ _ _ _ (.inr (.inr rfl)) (HW2 _).out
        have hc3 : W3.heap[wr.heap.size]? = some (.cells #[.int .i64 at_, .int .i64 of_] 126 (0, 0)) := hk3.typ _ _ _ _ (.inr (.inl rfl)) (by
          have := heap_alloc_new (wr.setCell ⟨W.heap.size, 1, none⟩ (.int .i64 at_)) (.cells #[.int .i64 at_, .int .i64 of_] 126)
          rwa [World.size_setCell] at this)
        have p0 : W3.cell? ⟨W.heap.size, 0, none⟩ = some (.int .i64 (frm z j)) := cell_of_blk hb3 0
        have p1 : W3.cell? ⟨W.heap.size, 1, none⟩ = some (.int .i64 at_) := cell_of_blk hb3 1
        have p2 : W3.cell? ⟨W.heap.size, 2, none⟩ = some (.int .i64 (ofs z j)) := cell_of_blk hb3 2
        have pf0 := froz_of_blk hb3 0
        have pf1 := froz_of_blk hb3 1
        have pf2 := froz_of_blk hb3 2
        have q0 : W3.cell? ⟨wr.heap.size, 0, none⟩ = some (.int .i64 at_) := cell_of_blk hc3 0
        have q1 : W3.cell? ⟨wr.heap.size, 1, none⟩ = some (.int .i64 of_) := cell_of_blk hc3 1
        have hs3 := hk3.bel.size
        simp only [World.size_alloc, World.size_setCell] at hs3
        have HCR : Hid (ChRow W3 (some ⟨g, o, none⟩) z.chs) := by
          refine chRow_keep HC.out (by omega) (fun g' o' e hp => ?_)
          injection e with e
          injection e with e1 e2 e3
          subst e1
          have h1 := hk3.bel.block g hgn
          rw [h1, Below.heap_alloc _ _ _ (by rw [World.size_setCell]; exact hg), Below.heap_setCell _ _ _ _ (by show g ≠ W.heap.size; omega)]
        have HB3 := Lib.hid hb3; clear hb3 hc3
        have HJ3 := Lib.hid hJ3; clear hJ3
        have HK3 := Lib.hid hk3; clear hk3
        clear t0 t1 t2 s0 s1 s2 sf hy
        gi_wp2
        go_roundw
        case rel =>
          refine ⟨j + 1, 0, by go_num, by omega, ?_, ?_, ?_, ?_⟩
          · show _ = _
            rw [HF.out, HO.out]
            exact blk_set (blk_set (blk_set HB3.out 0 _) 1 _) 2 _
          · show _ < _; simp only [World.size_setCell]; omega
          · refine chRow_keep HCR.out (by simp only [World.size_setCell]; omega) (fun g' o' e hp => ?_)
            injection e with e
            injection e with e1 e2 e3
            subst e1
            rw [Below.heap_setCell _ _ _ _ (by show g ≠ W.heap.size; omega), Below.heap_setCell _ _ _ _ (by show g ≠ W.heap.size; omega), Below.heap_setCell _ _ _ _ (by show g ≠ W.heap.size; omega)]
          · exact HJS.out _ _ _ _ rfl (HJS.out _ _ _ _ rfl (HJS.out _ _ _ _ rfl HJ3.out))
        case measure => simp [intOf]; omega
      · gi_wp2
        refine bodyPost_ret (results_none rfl _ _ _) rfl ?_
        exact ⟨⟨_, rfl⟩, .inr ⟨j, by unfold cnt; omega, hJx3⟩⟩
    · have hjn : j = z.chs.length := by omega
      subst hjn
      have HTE := Lib.hid (tto_end z)
      have s0 : wr.cell? ⟨W.heap.size, 0, none⟩ = some (.int .i64 (frm z z.chs.length)) := cell_of_blk HS.out 0
      have s1 : wr.cell? ⟨W.heap.size, 1, none⟩ = some (.int .i64 x) := cell_of_blk HS.out 1
      have s2 : wr.cell? ⟨W.heap.size, 2, none⟩ = some (.int .i64 (ofs z z.chs.length)) := cell_of_blk HS.out 2
      have sf := froz_of_blk HS.out 1
      have HW2 : Hid ((wr.setCell ⟨W.heap.size, 1, none⟩ (.int .i64 105190560)).heap[W.heap.size]? = some (.cells #[.int .i64 (frm z z.chs.length), .int .i64 105190560, .int .i64 (ofs z z.chs.length)] 134 (0, 0))) := blk_set HS.out 1 _
      have t1 : (wr.setCell ⟨W.heap.size, 1, none⟩ (.int .i64 105190560)).cell? ⟨W.heap.size, 1, none⟩ = some (.int .i64 105190560) := cell_of_blk HW2.out 1
      obtain ⟨fn, tmps, assign, body, hy, hR⟩ := HY.out z.chs.length (wr.setCell ⟨W.heap.size, 1, none⟩ (.int .i64 105190560)) (by unfold cnt; omega) (by simp only [World.size_setCell]; exact HSZ.out) (HJS.out _ _ _ _ rfl HJ.out)
      rw [HTE.out] at hy
      gi_wp2
      refine hR.mono ?_
      rintro e W3 (⟨rfl, hJ3, hk3⟩ | ⟨rfl, hJx3⟩)
      · gi_wp2
        go_end0
        exact ⟨⟨_, rfl⟩, .inl hJ3⟩
      · gi_wp2
        go_end0
        exact ⟨⟨_, rfl⟩, .inr ⟨z.chs.length, by unfold cnt; omega, hJx3⟩⟩
end Go.Proofs.YticlmkfifpkdpaaDoor.Zn
namespace Go.Proofs.YticlmkfifpkdpaaDoor.Zn
open Go.RowKit Go.Shelf
set_option linter.unusedVariables false
attribute [local go_sem] Oper.semAt_some

theorem Keep.refl (n0 : Nat) (W : World) : Keep n0 W W := ⟨Below.refl _ _, fun _ _ _ _ _ h => h⟩
theorem Keep.trans {n0 : Nat} {A B C : World} (h : Keep n0 A B) (k : Keep n0 B C) : Keep n0 A C := ⟨h.bel.trans k.bel, fun i cs t f ht hh => k.typ i cs t f ht (h.typ i cs t f ht hh)⟩
theorem Keep.alloc {n0 : Nat} {A W : World} (h : Keep n0 A W) (hn : n0 ≤ W.heap.size) (o : Obj) : Keep n0 A (W.alloc o) := ⟨h.bel.alloc hn o, fun i cs t f ht hh => blk_alloc (h.typ i cs t f ht hh) o⟩
theorem below_putObj {n0 l : Nat} (W : World) (o : Obj) (hn : n0 ≤ l) (hl : l < W.heap.size) : Below n0 W (W.putObj l o) :=
  ⟨rfl, rfl, rfl, by simp [World.putObj], fun k hk => World.putObj_heap_other (by omega)⟩
theorem Keep.putObj {n0 l : Nat} {A W : World} {r : Obj} (h : Keep n0 A W) (hn : n0 ≤ l) (hl : W.heap[l]? = some r) (hr : r.isCells = false) (o : Obj) : Keep n0 A (W.putObj l o) := by
  refine ⟨h.bel.trans (below_putObj W o hn (lt_of_blk hl)), fun i cs t f ht hh => ?_⟩
  have h1 := h.typ i cs t f ht hh
  have hne : i ≠ l := by
    rintro rfl
    rw [hl] at h1
    injection h1 with h1
    subst h1
    cases hr
  rw [World.putObj_heap_other (by omega)]
  exact h1

/-- What a round of a loop's body owes. -/
def RoundPost (n0 D : Nat) (I : Nat → World → Prop) (Ix : Code → Nat → World → Prop) (k : Nat) (W : World) : Exit → Act → World → Prop
  | .normal, _, W' => I (k + 1) W' ∧ Keep n0 W W' ∧ W'.heap[D]? = W.heap[D]? ∧ W'.heap[D + 1]? = W.heap[D + 1]?
  | .ret, _, W' => Ix .ret (k + 1) W' ∧ W'.heap[D]? = W.heap[D]? ∧ W'.heap[D + 1]? = W.heap[D + 1]?
  | .exit id, _, W' => Ix (.exit id) (k + 1) W' ∧ W'.heap[D]? = W.heap[D]? ∧ W'.heap[D + 1]? = W.heap[D + 1]?
  | _, _, _ => False

def stv (z : Zone) (k : Nat) : Value := .agg #[.int .i64 (frm z k), .int .i64 (tto z k), .int .i64 (ofs z k)]
def stc (z : Zone) (k : Nat) : Obj := .cells #[.int .i64 (frm z k), .int .i64 (tto z k), .int .i64 (ofs z k)] 134 (0, 0)

theorem range_zone {g : Operand} {ps : Array Tmp} {assign body : Code} {Q : Exit → Act → World → Prop} {a : Act} {w : World} (m : Nat) (hm : 3 ≤ m) (bz n0 : Nat) (z : Zone) (A : Option Addr) (cap : Nat)
    (hg : a.eval g = .func (.func 110) #[] #[.pointer (some ⟨bz, 0, none⟩)]) (hps : ps.size = 1)
    (hn0 : n0 ≤ w.heap.size) (hz : w.heap[bz]? = some (.cells #[.int .i64 z.off, .slice A z.chs.length cap] 24 (0, 0)))
    (hrow : ChRow w A z.chs) (hrn : ∀ g o, A = some ⟨g, o, none⟩ → 0 < z.chs.length → g < n0) (hlen : z.chs.length ≤ 1000000)
    (I : Nat → World → Prop) (Ix : Code → Nat → World → Prop)
    (hia : ∀ k W o, I k W → I k (W.alloc o)) (his : ∀ k W' a v, a.block = w.heap.size + 2 → I k W' → I k (W'.setCell a v))
    (hip : ∀ k W i o, (i = w.heap.size ∨ i = w.heap.size + 1) → I k W → I k (W.putObj i o))
    (hix : ∀ c k W i o, (i = w.heap.size ∨ i = w.heap.size + 1) → Ix c k W → Ix c k (W.putObj i o))
    (h0 : I 0 w) (a₁ : Nat → Nat → Act)
    (hassign : ∀ (k : Nat) (W : World) (K : Act → World → Prop), K (a₁ k W.heap.size) (W.alloc (stc z k)) →
      assign.wpIn (Fence.wide.inRound (w.heap.size + 1)) (m - 1 - 1) Tryd.prog (Exit.then K (fun _ _ _ => False)) { tmps := (ps.zip #[stv z k]).foldl (fun t (p, v) => t.setIfInBounds p v) a.tmps, defers := [] } W)
    (hbody : ∀ (k b : Nat) (W : World), k < cnt z → I k W → W.heap[b]? = some (stc z k) → w.heap.size + 2 < b →
      body.wpIn (Fence.wide.inRound (w.heap.size + 1)) (m - 1 - 1) Tryd.prog (RoundPost n0 w.heap.size I Ix k W) (a₁ k b) W)
    (hdone : ∀ (W : World), I (cnt z) W → W.heap[w.heap.size]? = some (.deferred (some [])) → Q .normal { a with defers := { target := .collected w.heap.size, args := #[] } :: a.defers } W)
    (hstop : ∀ (c : Code) (k : Nat) (W : World), k < cnt z → Ix c (k + 1) W → W.heap[w.heap.size]? = some (.deferred (some [])) → c.wpIn Fence.wide m Tryd.prog Q { a with defers := { target := .collected w.heap.size, args := #[] } :: a.defers } W) :
    (Code.rangeFunc g ps assign body).wpIn Fence.wide m Tryd.prog Q a w := by
  refine wpIn_rangeFunc ?_
  intro fn hfn
  obtain ⟨rec, hrec⟩ : ∃ rec : LoopState → Option Code → Loop, rec = fun st pe => { state := st, pending := pe, fn, tmps := a.tmps, params := ps, assign, body, defers := w.heap.size } := ⟨_, rfl⟩
  obtain ⟨W1, hW1⟩ : ∃ W1, (w.alloc (.deferred (some []))).alloc (.loop (rec .ready none)) = W1 := ⟨_, rfl⟩
  have hs1 : W1.heap.size = w.heap.size + 2 := by rw [← hW1]; simp
  have hL1 : W1.heap[w.heap.size + 1]? = some (.loop (rec .ready none)) := by
    rw [← hW1]; have := World.alloc_heap_new (w.alloc (.deferred (some []))) (.loop (rec .ready none)); rwa [World.size_alloc] at this
  have hD1 : W1.heap[w.heap.size]? = some (.deferred (some [])) := by
    rw [← hW1]; exact blk_alloc (World.alloc_heap_new w _) _
  have hz1 : W1.heap[bz]? = some (.cells #[.int .i64 z.off, .slice A z.chs.length cap] 24 (0, 0)) := by rw [← hW1]; exact blk_alloc (blk_alloc hz _) _
  have hr1 : ChRow W1 A z.chs := by
    refine chRow_keep hrow (by omega) (fun g o e hp => ?_)
    obtain ⟨g', o', hA, hg', _⟩ := hrow hp
    rw [e] at hA
    injection hA with hA
    injection hA with e1 _ _
    rw [← hW1, Below.heap_alloc _ _ _ (by simp; omega), Below.heap_alloc _ _ _ (by omega)]
  refine ⟨w.heap.size + 1, [{ target := .collected w.heap.size, args := #[] }], W1, { target := .fn (.func 110) #[.pointer (some ⟨bz, 0, none⟩)], args := #[.func (.yield (w.heap.size + 1)) #[] #[]] }, W1, 110,
    #[.func (.yield (w.heap.size + 1)) #[] #[], .pointer (some ⟨bz, 0, none⟩)], W1, ?_, ?_, fun _ _ => trivial, ?_, fun _ => by omega, ?_⟩
  · rw [← hW1, hrec]; exact run_enterLoop_outer _ _ _ _ _
  · simp only [resolve, hg]
    simp [go_sem]
  · have eg : ∀ args W, (callFunc 110 args).run Tryd.prog W = .ok (.enter 110 args) W := fun args W => by kernel_rfl
    simp [invoke, go_sem, eg]
  · refine (iter_in (m - 1) (by omega) (w.heap.size + 1) bz n0 z A cap
      (fun k W => I k W ∧ W.heap[w.heap.size + 1]? = some (.loop (rec .ready none)) ∧ W.heap[w.heap.size]? = some (.deferred (some [])) ∧ w.heap.size + 2 ≤ W.heap.size)
      (fun k W => ∃ c, Ix c k W ∧ W.heap[w.heap.size + 1]? = some (.loop (rec .done (some c))) ∧ W.heap[w.heap.size]? = some (.deferred (some [])))
      W1 ?_ ?_ ?_ (by omega) hz1 hr1 hrn hlen ⟨by rw [← hW1]; exact hia _ _ _ (hia _ _ _ h0), hL1, hD1, by omega⟩).mono ?_
    · rintro k W o ⟨h1, h2, h3, h4⟩
      exact ⟨hia _ _ _ h1, blk_alloc h2 o, blk_alloc h3 o, by simp; omega⟩
    · rintro k W' a' v ha ⟨h1, h2, h3, h4⟩
      rw [hs1] at ha
      exact ⟨his _ _ _ _ ha h1, blk_far h2 (by omega) v, blk_far h3 (by omega) v, by simp only [World.size_setCell]; omega⟩
    · rintro k W hk hws ⟨hi, hl, hd, hsz⟩
      rw [hs1] at hws
      have hlt : w.heap.size + 1 < W.heap.size := lt_of_blk hl
      have hy := run_yield (P := Tryd.prog) (args := #[stv z k]) hl (by rw [hrec]; exact hps.symm)
      rw [hrec] at hy
      refine ⟨fn, _, assign, body, hy, roundIn_of_wpIn hfn (hassign k W _ ⟨_, run_beginRound (blk_alloc hl _) (by rw [hrec]), ?_⟩)⟩
      obtain ⟨W2, hW2⟩ : ∃ W2, (W.alloc (stc z k)).putObj (w.heap.size + 1) (.loop { rec .ready none with state := .busy }) = W2 := ⟨_, rfl⟩
      have hl2 : W2.heap[w.heap.size + 1]? = some (.loop { rec .ready none with state := .busy }) := by rw [← hW2]; exact World.putObj_heap_same (by simp; omega)
      have hd2 : W2.heap[w.heap.size]? = some (.deferred (some [])) := by rw [← hW2, World.putObj_heap_other (by omega)]; exact blk_alloc hd _
      have hb2 : W2.heap[W.heap.size]? = some (stc z k) := by rw [← hW2, World.putObj_heap_other (by omega)]; exact World.alloc_heap_new W _
      have hi2 : I k W2 := by rw [← hW2]; exact hip _ _ _ _ (.inr rfl) (hia _ _ _ hi)
      have hk2 : Keep n0 W W2 := by
        rw [← hW2]
        exact Keep.putObj (Keep.alloc (Keep.refl _ _) (by omega) _) (by omega) (blk_alloc hl _) rfl _
      rw [hW2]
      refine wpIn_mono (hbody k W.heap.size W2 hk hi2 hb2 hws) ?_
      have fin : ∀ (jump : Option Code) (W3 : World), W3.heap[w.heap.size]? = W2.heap[w.heap.size]? → W3.heap[w.heap.size + 1]? = W2.heap[w.heap.size + 1]? →
          (Instr.endRound (w.heap.size + 1) jump).run Tryd.prog W3 = .ok (.bool jump.isNone) (W3.putObj (w.heap.size + 1) (.loop (rec (if jump.isNone then .ready else .done) jump))) ∧
          W3.heap[w.heap.size + 1]? = some (.loop { rec .ready none with state := .busy }) ∧
          (W3.putObj (w.heap.size + 1) (.loop (rec (if jump.isNone then .ready else .done) jump))).heap[w.heap.size + 1]? = some (.loop (rec (if jump.isNone then .ready else .done) jump)) ∧
          (W3.putObj (w.heap.size + 1) (.loop (rec (if jump.isNone then .ready else .done) jump))).heap[w.heap.size]? = some (.deferred (some [])) := by
        intro jump W3 e1 e2
        have hl3 := e2.trans hl2
        have hr := run_endRound (P := Tryd.prog) jump hl3
        rw [hrec] at hr ⊢
        refine ⟨hr, by rw [hrec] at hl3; exact hl3, World.putObj_heap_same (lt_of_blk hl3), ?_⟩
        rw [World.putObj_heap_other (by omega)]
        exact e1.trans hd2
      rintro e a3 W3 hp
      cases e with
      | normal =>
        obtain ⟨hi3, hk3, e1, e2⟩ := hp
        obtain ⟨hr, hl3, hl4, hd4⟩ := fin none W3 e1 e2
        have hsz3 := hk3.bel.size
        have hsz2 := hk2.bel.size
        exact ⟨_, _, hr, .inl ⟨rfl, ⟨hip _ _ _ _ (.inr rfl) hi3, hl4, hd4, by simp only [World.putObj_size]; omega⟩, Keep.putObj (hk2.trans hk3) (by omega) hl3 rfl _⟩⟩
      | ret =>
        obtain ⟨hi3, e1, e2⟩ := hp
        obtain ⟨hr, hl3, hl4, hd4⟩ := fin (some .ret) W3 e1 e2
        exact ⟨_, _, hr, .inr ⟨rfl, .ret, hix _ _ _ _ _ (.inr rfl) hi3, hl4, hd4⟩⟩
      | exit id =>
        obtain ⟨hi3, e1, e2⟩ := hp
        obtain ⟨hr, hl3, hl4, hd4⟩ := fin (some (.exit id)) W3 e1 e2
        exact ⟨_, _, hr, .inr ⟨rfl, .exit id, hix _ _ _ _ _ (.inr rfl) hi3, hl4, hd4⟩⟩
      | goto t => exact hp.elim
      | panic ch => exact hp.elim
      | outgrown => exact hp.elim
    · rintro e W2 ⟨⟨v, rfl⟩, (⟨hi, hl, hd, _⟩ | ⟨k, hk, c, hi, hl, hd⟩)⟩
      · exact ⟨none, _, by have := run_endLoop (P := Tryd.prog) hl (by rw [hrec]; simp); rw [hrec] at this; exact this, hdone _ (hip _ _ _ _ (.inr rfl) hi) ((World.putObj_heap_other (by omega)).trans hd)⟩
      · exact ⟨some c, _, by have := run_endLoop (P := Tryd.prog) hl (by rw [hrec]; simp); rw [hrec] at this; exact this, hstop c k _ hk (hix _ _ _ _ _ (.inr rfl) hi) ((World.putObj_heap_other (by omega)).trans hd)⟩
theorem zip1 (p : Tmp) (v : Value) (tm : Array Value) : ((#[p] : Array Tmp).zip #[v]).foldl (fun t (p, v) => t.setIfInBounds p v) tm = tm.setIfInBounds p v := by
  simp

theorem range_zone_at {g : Operand} {assign body : Code} {Q : Exit → Act → World → Prop} {a : Act} {w : World} (m : Nat) (hm : 3 ≤ m) (bz n0 : Nat) (z : Zone) (A : Option Addr) (cap : Nat)
    (hg : a.eval g = .func (.func 110) #[] #[.pointer (some ⟨bz, 0, none⟩)])
    (hn0 : n0 ≤ w.heap.size) (hz : w.heap[bz]? = some (.cells #[.int .i64 z.off, .slice A z.chs.length cap] 24 (0, 0)))
    (hrow : ChRow w A z.chs) (hrn : ∀ g o, A = some ⟨g, o, none⟩ → 0 < z.chs.length → g < n0) (hlen : z.chs.length ≤ 1000000)
    (I : Nat → World → Prop) (Ix : Code → Nat → World → Prop)
    (hia : ∀ k W o, I k W → I k (W.alloc o)) (his : ∀ k W' a v, a.block = w.heap.size + 2 → I k W' → I k (W'.setCell a v))
    (hip : ∀ k W i o, (i = w.heap.size ∨ i = w.heap.size + 1) → I k W → I k (W.putObj i o))
    (hix : ∀ c k W i o, (i = w.heap.size ∨ i = w.heap.size + 1) → Ix c k W → Ix c k (W.putObj i o))
    (h0 : I 0 w) (p q : Nat)
    (hassign : ∀ (k : Nat) (W : World) (K : Act → World → Prop), K { tmps := (a.tmps.setIfInBounds p (stv z k)).setIfInBounds q (.pointer (some ⟨W.heap.size, 0, none⟩)), defers := [] } (W.alloc (stc z k)) →
      assign.wpIn (Fence.wide.inRound (w.heap.size + 1)) (m - 1 - 1) Tryd.prog (Exit.then K (fun _ _ _ => False)) { tmps := a.tmps.setIfInBounds p (stv z k), defers := [] } W)
    (hbody : ∀ (k b : Nat) (W : World), k < cnt z → I k W → W.heap[b]? = some (stc z k) → w.heap.size + 2 < b →
      body.wpIn (Fence.wide.inRound (w.heap.size + 1)) (m - 1 - 1) Tryd.prog (RoundPost n0 w.heap.size I Ix k W) { tmps := (a.tmps.setIfInBounds p (stv z k)).setIfInBounds q (.pointer (some ⟨b, 0, none⟩)), defers := [] } W)
    (hdone : ∀ (W : World), I (cnt z) W → W.heap[w.heap.size]? = some (.deferred (some [])) → Q .normal { a with defers := { target := .collected w.heap.size, args := #[] } :: a.defers } W)
    (hstop : ∀ (c : Code) (k : Nat) (W : World), k < cnt z → Ix c (k + 1) W → W.heap[w.heap.size]? = some (.deferred (some [])) → c.wpIn Fence.wide m Tryd.prog Q { a with defers := { target := .collected w.heap.size, args := #[] } :: a.defers } W) :
    (Code.rangeFunc g #[p] assign body).wpIn Fence.wide m Tryd.prog Q a w :=
  range_zone m hm bz n0 z A cap hg rfl hn0 hz hrow hrn hlen I Ix hia his hip hix h0 (fun k b => { tmps := (a.tmps.setIfInBounds p (stv z k)).setIfInBounds q (.pointer (some ⟨b, 0, none⟩)), defers := [] }) (fun k W K h => by rw [zip1]; exact hassign k W K h) hbody hdone hstop
end Go.Proofs.YticlmkfifpkdpaaDoor.Zn
namespace Go.Proofs.YticlmkfifpkdpaaDoor.Zn
open Go.RowKit
set_option linter.unusedVariables false

theorem ret_bool {a b : Bool} (h : a = b) : Ending.returned (.bool a) = .returned (.bool b) := by rw [h]
theorem ret_int {k : IntKind} {a b : Int} (h : a = b) : Ending.returned (.int k a) = .returned (.int k b) := by rw [h]

theorem isOffset_any (o : Int) (w : World) :
    Calls Tryd.prog 83 #[.int .i64 o] w fun e w' => e = .returned (.bool (okOff o)) ∧ w = w' := by
  go_enter Tryd.func83, Tryd.ntmps83
  go_wp2
  all_goals
    go_ret
    exact ⟨ret_bool (by unfold okOff; rw [Bool.eq_iff_iff]; simp; omega), rfl⟩

theorem ChRow.below {w w' : World} {A : Option Addr} {cs : List (Int × Int)} (h : ChRow w A cs) (hb : Below w.heap.size w w') : ChRow w' A cs :=
  chRow_keep h hb.size (fun g o e hp => by
    obtain ⟨g', o', hA, hg, _⟩ := h hp
    rw [e] at hA; injection hA with hA; injection hA with e1 _ _
    exact hb.block g (by omega))
theorem okFrom_cons (l a o : Int) (r : List (Int × Int)) : okFrom l ((a, o) :: r) = (okOff o && decide (l + 5760 < a) && decide (a < 105190560) && okFrom a r) := rfl

set_option maxHeartbeats 2000000 in
theorem valid_any (z : Zone) (A : Option Addr) (cap : Nat) (w : World) (hlen : z.chs.length ≤ 9223372036854775807) (hrow : ChRow w A z.chs) :
    Calls Tryd.prog 49 #[.agg #[.int .i64 z.off, .slice A z.chs.length cap]] w fun e w' => e = .returned (.bool (valid z)) ∧ Below w.heap.size w w' := by
  have HROW := Lib.hid hrow; clear hrow
  cases ho : okOff z.off with
  | false =>
    have HV : Hid (valid z = false) := by show _ = _; simp [valid, ho]
    rw [HV.out]
    go_enter Tryd.func49, Tryd.ntmps49
    go_wp2_with (go_at_call 83; refine (isOffset_any _ _).mono ?_; rintro e w' ⟨rfl, rfl⟩)
    go_ret
    exact ⟨rfl, by go_grown⟩
  | true =>
    by_cases h40 : 40 < z.chs.length
    · have HV : Hid (valid z = false) := by show _ = _; simp [valid]; omega
      rw [HV.out]
      go_enter Tryd.func49, Tryd.ntmps49
      go_wp2_with (go_at_call 83; refine (isOffset_any _ _).mono ?_; rintro e w' ⟨rfl, rfl⟩)
      go_ret
      exact ⟨rfl, by go_grown⟩
    · have HV : Hid (valid z = okFrom 0 z.chs) := by show _ = _; simp [valid, ho, show z.chs.length ≤ 40 by omega]
      rw [HV.out]
      generalize hR : okFrom 0 z.chs = R
      have HR := Lib.hid hR; clear hR
      go_enter Tryd.func49, Tryd.ntmps49
      go_wp2_with (go_at_call 83; refine (isOffset_any _ _).mono ?_; rintro e w' ⟨rfl, rfl⟩)
      go_loopw [3, 19] (fun la i wr => ∃ (j : Nat) (l : Int), la = .int .i64 l ∧ i = .int .i64 j ∧ j ≤ z.chs.length ∧ 0 ≤ l ∧ l < 105190560 ∧ Hid (okFrom l (z.chs.drop j) = R) ∧ Hid (ChRow wr A z.chs) ∧ Hid (Below w.heap.size w wr)) (fun _ i _ => z.chs.length - (intOf i).toNat)
      case atStart =>
        have hb : Below w.heap.size w (w.alloc (.cells #[.int .i64 z.off, .slice A z.chs.length cap] 24)) := (Below.refl _ _).alloc (Nat.le_refl _) _
        exact ⟨0, 0, rfl, rfl, by omega, by omega, by omega, HR, HROW.out.below hb, hb⟩
      case round =>
        obtain ⟨j, l, rfl, rfl, hj, hl0, hl1, HK, HC, HB⟩ := hrel
        by_cases hlt : j < z.chs.length
        · obtain ⟨g, o, hA, hg, hc⟩ := HC.out (by omega)
          subst hA
          obtain ⟨c0, c1⟩ := hc j hlt
          have hkk := HK.out
          rw [List.drop_eq_getElem_cons hlt] at hkk
          clear hc hg
          generalize hcv : z.chs[j] = cv at *
          obtain ⟨a, o2⟩ := cv
          simp only at c0 c1
          rw [okFrom_cons] at hkk
          have HKK := Lib.hid hkk; clear hkk hcv
          have hbs := HB.out.size
          cases ho2 : okOff o2 with
          | false =>
            have HF : Hid (false = R) := by show _ = _; have := HKK.out; rw [ho2] at this; simpa using this
            go_wp2_with (go_at_call 83; refine (isOffset_any _ _).mono ?_; rintro e w' ⟨rfl, rfl⟩)
            go_ret
            exact ⟨ret_bool HF.out, HB.out.alloc hbs _⟩
          | true =>
            by_cases h1 : l + 5760 < a
            · by_cases h2 : a < 105190560
              · have HF : Hid (okFrom a (z.chs.drop (j + 1)) = R) := by show _ = _; have := HKK.out; rw [ho2, decide_eq_true h1, decide_eq_true h2] at this; simpa using this
                go_wp2_with (go_at_call 83; refine (isOffset_any _ _).mono ?_; rintro e w' ⟨rfl, rfl⟩)
                go_roundw
                case rel => exact ⟨j + 1, a, rfl, by go_num, by omega, by omega, by omega, HF, HC.out.below ((Below.refl _ _).alloc (Nat.le_refl _) _), HB.out.alloc hbs _⟩
                case measure => simp [intOf]; omega
              · have HF : Hid (false = R) := by show _ = _; have := HKK.out; rw [ho2, decide_eq_true h1, decide_eq_false h2] at this; simpa using this
                go_wp2_with (go_at_call 83; refine (isOffset_any _ _).mono ?_; rintro e w' ⟨rfl, rfl⟩)
                go_ret
                exact ⟨ret_bool HF.out, HB.out.alloc hbs _⟩
            · have HF : Hid (false = R) := by show _ = _; have := HKK.out; rw [ho2, decide_eq_false h1] at this; simpa using this
              go_wp2_with (go_at_call 83; refine (isOffset_any _ _).mono ?_; rintro e w' ⟨rfl, rfl⟩)
              go_ret
              exact ⟨ret_bool HF.out, HB.out.alloc hbs _⟩
        · have HF : Hid (true = R) := by
            have := HK.out
            rw [List.drop_eq_nil_of_le (by omega)] at this
            exact this
          go_wp2_with fail
          go_ret
          exact ⟨ret_bool HF.out, HB.out⟩
end Go.Proofs.YticlmkfifpkdpaaDoor.Zn
namespace Go.Proofs.YticlmkfifpkdpaaDoor.Zn
open Go.RowKit Go.Shelf
set_option linter.unusedVariables false
attribute [local go_sem] Oper.semAt_some

theorem mkFunc (fn : Fn) (first cap : Array Value) (w : World) : (Instr.makeFunc fn first cap).run Tryd.prog w = .ok (.func fn first cap) w := rfl

theorem stretches_any (z : Zone) (A : Option Addr) (cap : Nat) (w : World) :
    Calls Tryd.prog 90 #[.agg #[.int .i64 z.off, .slice A z.chs.length cap]] w fun e w' => e = .returned (.func (.func 110) #[] #[.pointer (some ⟨w.heap.size, 0, none⟩)]) ∧
      w.alloc (.cells #[.int .i64 z.off, .slice A z.chs.length cap] 24) = w' := by
  have hmf := mkFunc
  go_enter Tryd.func90, Tryd.ntmps90
  go_wp2_with fail
  go_ret
  exact ⟨rfl, rfl⟩

/-- The offset at an instant: that of the first stretch that ends after it. -/
def offAt (z : Zone) (t : Int) : Nat → Nat → Int
  | 0, _ => 0
  | f + 1, k => if t < tto z k then ofs z k else offAt z t f (k + 1)

theorem offAt_step (z : Zone) (t : Int) (k : Nat) (hk : k < cnt z) : offAt z t (cnt z - k) k = if t < tto z k then ofs z k else offAt z t (cnt z - (k + 1)) (k + 1) := by
  obtain ⟨f, hf⟩ : ∃ f, cnt z - k = f + 1 := ⟨cnt z - k - 1, by omega⟩
  rw [hf, show cnt z - (k + 1) = f by omega]; rfl

set_option maxHeartbeats 2000000 in
theorem local_in (z : Zone) (A : Option Addr) (cap : Nat) (t : Int) (w : World) (hlen : z.chs.length ≤ 40) (hrow : ChRow w A z.chs) (hv : valid z = true) (h0 : 0 ≤ t) (h1 : t < 105190560)
    (L : Int) (hL : t + offAt z t (cnt z) 0 = L) (hlo : -100000 ≤ L) (hhi : L ≤ 200000000) (hofs : ∀ k, -840 ≤ ofs z k ∧ ofs z k ≤ 840) (R : Ending → Prop)
    (hR1 : L < 0 ∨ 105190560 ≤ L → R (.returned (.tuple #[.int .i64 0, .int .i64 0, .int .i64 2])))
    (hR2 : 0 ≤ L → L < 105190560 → R (.returned (.tuple #[.int .i64 (L / 1440), .int .i64 (L % 1440), .int .i64 0]))) :
    CallsIn Fence.wide 5 Tryd.prog 60 #[.agg #[.int .i64 z.off, .slice A z.chs.length cap], .int .i64 t] w fun e w' => R e ∧ Below w.heap.size w w' := by
  have HROW := Lib.hid hrow; clear hrow
  have HV := Lib.hid hv; clear hv
  have HL := Lib.hid hL; clear hL
  have HR1 := Lib.hid hR1; clear hR1
  have HR2 := Lib.hid hR2; clear hR2
  have HO := Lib.hid hofs; clear hofs
  refine callsIn_of_wp_marks Tryd.func60 rfl trivial ?_ rfl
  simp only [Tryd.ntmps60, List.size_toArray, List.length_cons, List.length_nil, Nat.reduceAdd, Nat.reduceSub, Array.replicate_succ, Array.replicate_zero, List.push_toArray, List.append_toArray, List.nil_append, List.cons_append]
  gi_wp2_with fail
  refine ⟨trivial, (callsIn_wide.2 (valid_any z A cap _ (by omega) (HROW.out.below (by go_grown)))).mono ?_⟩
  rw [HV.out]
  rintro e w1 ⟨rfl, hb1⟩
  have hw0 : Below w.heap.size w ((w.alloc (.cells #[.int .i64 z.off, .slice A z.chs.length cap] 24)).alloc (.cells #[.int .i64 t] 3)) := by go_grown
  have hbz : w1.heap[w.heap.size]? = some (.cells #[.int .i64 z.off, .slice A z.chs.length cap] 24 (0, 0)) := (hb1.block _ (by simp; omega)).trans (blk_alloc (heap_alloc_new w _) _)
  have hbt : w1.heap[w.heap.size + 1]? = some (.cells #[.int .i64 t] 3 (0, 0)) := (hb1.block _ (by simp)).trans (by have := heap_alloc_new (w.alloc (.cells #[.int .i64 z.off, .slice A z.chs.length cap] 24)) (.cells #[.int .i64 t] 3); rwa [World.size_alloc] at this)
  have hsz1 := hb1.size
  simp only [World.size_alloc] at hsz1 hb1
  have HB1 : Hid (Below w.heap.size w w1) := hw0.trans (hb1.mono (by omega))
  clear hb1 hw0
  have c0 : w1.cell? ⟨w.heap.size, 0, none⟩ = some (.int .i64 z.off) := cell_of_blk hbz 0
  have c1 : w1.cell? ⟨w.heap.size, 1, none⟩ = some (.slice A z.chs.length cap) := cell_of_blk hbz 1
  have c2 : w1.cell? ⟨w.heap.size + 1, 0, none⟩ = some (.int .i64 t) := cell_of_blk hbt 0
  have HBZ := Lib.hid hbz; clear hbz
  have HBT := Lib.hid hbt; clear hbt
  have e0 : ∀ o, (w1.alloc o).cell? ⟨w.heap.size, 0, none⟩ = some (.int .i64 z.off) := fun o => cell_of_blk (blk_alloc HBZ.out o) 0
  have e1 : ∀ o, (w1.alloc o).cell? ⟨w.heap.size, 1, none⟩ = some (.slice A z.chs.length cap) := fun o => cell_of_blk (blk_alloc HBZ.out o) 1
  gi_wp2_with fail
  refine ⟨trivial, (callsIn_wide.2 (stretches_any z A cap _)).mono ?_⟩
  rintro e w2 ⟨rfl, rfl⟩
  gi_wp2_with fail
  have hbz2 : ((w1.alloc (.cells #[.int .i64 t] 3)).alloc (.cells #[.int .i64 z.off, .slice A z.chs.length cap] 24)).heap[w1.heap.size + 1]? = some (.cells #[.int .i64 z.off, .slice A z.chs.length cap] 24 (0, 0)) := by
    have := heap_alloc_new (w1.alloc (.cells #[.int .i64 t] 3)) (.cells #[.int .i64 z.off, .slice A z.chs.length cap] 24); rwa [World.size_alloc] at this
  have hb7 : ((w1.alloc (.cells #[.int .i64 t] 3)).alloc (.cells #[.int .i64 z.off, .slice A z.chs.length cap] 24)).heap[w1.heap.size]? = some (.cells #[.int .i64 t] 3 (0, 0)) := blk_alloc (heap_alloc_new w1 _) _
  have hbt2 : ((w1.alloc (.cells #[.int .i64 t] 3)).alloc (.cells #[.int .i64 z.off, .slice A z.chs.length cap] 24)).heap[w.heap.size + 1]? = some (.cells #[.int .i64 t] 3 (0, 0)) := blk_alloc (blk_alloc HBT.out _) _
  have hsz2 : ((w1.alloc (.cells #[.int .i64 t] 3)).alloc (.cells #[.int .i64 z.off, .slice A z.chs.length cap] 24)).heap.size = w1.heap.size + 2 := by simp
  have hbel2 : Below w.heap.size w ((w1.alloc (.cells #[.int .i64 t] 3)).alloc (.cells #[.int .i64 z.off, .slice A z.chs.length cap] 24)) := (HB1.out.alloc (by omega) _).alloc (by simp; omega) _
  have hrow2 : ChRow ((w1.alloc (.cells #[.int .i64 t] 3)).alloc (.cells #[.int .i64 z.off, .slice A z.chs.length cap] 24)) A z.chs := HROW.out.below hbel2
  clear c0 c1 c2 e0 e1
  refine range_zone_at 5 (by omega) (w1.heap.size + 1) w.heap.size z A cap rfl (by rw [hsz2]; omega) hbz2 hrow2 ?hrn (by omega)
    (fun k W => W.heap[w1.heap.size]? = some (.cells #[.int .i64 t] 3 (0, 0)) ∧ W.heap[w.heap.size + 1]? = some (.cells #[.int .i64 t] 3 (0, 0)) ∧ Below w.heap.size w W ∧ offAt z t (cnt z) 0 = offAt z t (cnt z - k) k)
    (fun c k W => c = .exit 0 ∧ W.heap[w1.heap.size]? = some (.cells #[.int .i64 L] 3 (0, 0)) ∧ Below w.heap.size w W)
    ?hia ?his ?hip ?hix ⟨hb7, hbt2, hbel2, rfl⟩ 23 8 ?hassign ?hbody ?hdone ?hstop
  case hrn =>
    intro g o e hp
    obtain ⟨g', o', hA, hg, _⟩ := HROW.out hp
    rw [e] at hA; injection hA with hA; injection hA with e1 _ _
    omega
  case hia =>
    rintro k W o ⟨h1, h2, h3, h4⟩
    exact ⟨blk_alloc h1 o, blk_alloc h2 o, h3.alloc h3.size o, h4⟩
  case his =>
    rintro k W a v ha ⟨h1, h2, h3, h4⟩
    rw [hsz2] at ha
    exact ⟨blk_far h1 (by omega) v, blk_far h2 (by omega) v, h3.setCell (by omega) v, h4⟩
  case hip =>
    rintro k W i o hi ⟨h1, h2, h3, h4⟩
    rw [hsz2] at hi
    have hlt := lt_of_blk h1
    refine ⟨by rw [World.putObj_heap_other (by omega)]; exact h1, by rw [World.putObj_heap_other (by omega)]; exact h2, h3.trans ⟨rfl, rfl, rfl, by simp [World.putObj], fun k hk => World.putObj_heap_other (by omega)⟩, h4⟩
  case hix =>
    rintro c k W i o hi ⟨h1, h2, h3⟩
    rw [hsz2] at hi
    exact ⟨h1, by rw [World.putObj_heap_other (by omega)]; exact h2, h3.trans ⟨rfl, rfl, rfl, by simp [World.putObj], fun k hk => World.putObj_heap_other (by omega)⟩⟩
  case hassign =>
    intro k W K hK
    simp only [stv, stc] at hK ⊢
    gi_wp2
    exact hK
  case hbody =>
    rintro k b W hk ⟨i1, i2, i3, i4⟩ hb hbb
    rw [hsz2] at hbb
    simp only [stv, stc] at hb ⊢
    have s0 : W.cell? ⟨b, 0, none⟩ = some (.int .i64 (frm z k)) := cell_of_blk hb 0
    have s1 : W.cell? ⟨b, 1, none⟩ = some (.int .i64 (tto z k)) := cell_of_blk hb 1
    have s2 : W.cell? ⟨b, 2, none⟩ = some (.int .i64 (ofs z k)) := cell_of_blk hb 2
    have s3 : W.cell? ⟨w1.heap.size, 0, none⟩ = some (.int .i64 t) := cell_of_blk i1 0
    have s4 : W.cell? ⟨w.heap.size + 1, 0, none⟩ = some (.int .i64 t) := cell_of_blk i2 0
    have f3 := froz_of_blk i1 0
    have hof := HO.out k
    rw [offAt_step z t k hk] at i4
    have hl := HL.out
    rw [i4] at hl
    have HI1 := Lib.hid i1; have HI2 := Lib.hid i2; have HI3 := Lib.hid i3; have HI4 := Lib.hid i4; have HHL := Lib.hid hl
    clear i1 i2 i3 i4 hl hb
    by_cases hlt : t < tto z k
    · generalize hof2 : ofs z k = of_ at *
      generalize htt : tto z k = tt at *
      generalize hff : frm z k = ff at *
      clear hof2 htt hff
      have HLE : Hid (t + of_ = L) := by have := HHL.out; rw [if_pos hlt] at this; exact this
      gi_wp2
      refine ⟨⟨rfl, ?_, HI3.out.setCell (by show w.heap.size ≤ w1.heap.size; omega) _⟩, Below.heap_setCell _ _ _ _ (by show _ ≠ w1.heap.size; omega), Below.heap_setCell _ _ _ _ (by show _ ≠ w1.heap.size; omega)⟩
      have := blk_set HI1.out 0 (.int .i64 (t + of_))
      rw [HLE.out] at this ⊢
      exact this
    · have HI5 : Hid (offAt z t (cnt z) 0 = offAt z t (cnt z - (k + 1)) (k + 1)) := by have := HI4.out; rw [if_neg hlt] at this; exact this
      gi_wp2
      exact ⟨⟨HI1.out, HI2.out, HI3.out, HI5.out⟩, Keep.refl _ _, rfl, rfl⟩
  case hdone =>
    rintro W ⟨i1, i2, i3, i4⟩ hD
    have hLt : t = L := by
      have := HL.out
      rw [i4, Nat.sub_self] at this
      simpa [offAt] using this
    rw [hLt] at i1
    have s3 : W.cell? ⟨w1.heap.size, 0, none⟩ = some (.int .i64 L) := cell_of_blk i1 0
    have HI3 := Lib.hid i3
    have HD := Lib.hid hD
    clear i1 i2 i3 i4 hLt hD
    have hput : ∀ W0, Below w.heap.size w W0 → w1.heap.size + 2 < W0.heap.size → Below w.heap.size w (W0.putObj (w1.heap.size + 2) (.deferred none)) :=
      fun W0 h hs => h.trans ⟨rfl, rfl, rfl, by simp [World.putObj], fun k hk => World.putObj_heap_other (by omega)⟩
    have HP := Lib.hid hput; clear hput
    rw [hsz2] at HD
    have hlt := lt_of_blk HD.out
    by_cases hl0 : L < 0 ∨ 105190560 ≤ L
    · have hr := Lib.hid (HR1.out hl0)
      rcases hl0 with hl0 | hl0
      all_goals
        gi_wp2
        try rw [hsz2]
        refine ⟨by simp, .inl ⟨_, _, rfl, run_takeDeferred HD.out, ?_⟩⟩
        exact ⟨.tuple #[.int .i64 0, .int .i64 0, .int .i64 2], results_tmp3 (t := 4) (u := 5) (v := 6) rfl _ _ _, hr.out, HP.out _ HI3.out hlt⟩
    · have hl1 : 0 ≤ L := by omega
      have hl2 : L < 105190560 := by omega
      have hr := Lib.hid (HR2.out hl1 hl2)
      gi_wp2
      gi_region
      gi_wp2
      try rw [hsz2]
      refine ⟨by simp, .inl ⟨_, _, rfl, run_takeDeferred HD.out, ?_⟩⟩
      exact ⟨.tuple #[.int .i64 (L / 1440), .int .i64 (L % 1440), .int .i64 0], results_tmp3 (t := 4) (u := 5) (v := 6) rfl _ _ _, hr.out, HP.out _ HI3.out.drew hlt⟩
  case hstop =>
    rintro c k W hk ⟨rfl, i1, i3⟩ hD
    have s3 : W.cell? ⟨w1.heap.size, 0, none⟩ = some (.int .i64 L) := cell_of_blk i1 0
    have HI3 := Lib.hid i3
    have HD := Lib.hid hD
    clear i1 i3 hD
    have hput : ∀ W0, Below w.heap.size w W0 → w1.heap.size + 2 < W0.heap.size → Below w.heap.size w (W0.putObj (w1.heap.size + 2) (.deferred none)) :=
      fun W0 h hs => h.trans ⟨rfl, rfl, rfl, by simp [World.putObj], fun k hk => World.putObj_heap_other (by omega)⟩
    have HP := Lib.hid hput; clear hput
    rw [hsz2] at HD
    have hlt := lt_of_blk HD.out
    by_cases hl0 : L < 0 ∨ 105190560 ≤ L
    · have hr := Lib.hid (HR1.out hl0)
      rcases hl0 with hl0 | hl0
      all_goals
        gi_wp2
        try rw [hsz2]
        refine ⟨by simp, .inl ⟨_, _, rfl, run_takeDeferred HD.out, ?_⟩⟩
        exact ⟨.tuple #[.int .i64 0, .int .i64 0, .int .i64 2], results_tmp3 (t := 4) (u := 5) (v := 6) rfl _ _ _, hr.out, HP.out _ HI3.out hlt⟩
    · have hl1 : 0 ≤ L := by omega
      have hl2 : L < 105190560 := by omega
      have hr := Lib.hid (HR2.out hl1 hl2)
      gi_wp2
      gi_region
      gi_wp2
      try rw [hsz2]
      refine ⟨by simp, .inl ⟨_, _, rfl, run_takeDeferred HD.out, ?_⟩⟩
      exact ⟨.tuple #[.int .i64 (L / 1440), .int .i64 (L % 1440), .int .i64 0], results_tmp3 (t := 4) (u := 5) (v := 6) rfl _ _ _, hr.out, HP.out _ HI3.out.drew hlt⟩
end Go.Proofs.YticlmkfifpkdpaaDoor.Zn
namespace Go.Proofs.YticlmkfifpkdpaaDoor.Zn
open Go.RowKit Go.Shelf
set_option linter.unusedVariables false

theorem okFrom_ofs (l : Int) (cs : List (Int × Int)) (h : okFrom l cs = true) : ∀ k, (cs.getD k (0, 0)).2 ≤ 840 ∧ -840 ≤ (cs.getD k (0, 0)).2 := by
  induction cs generalizing l with
  | nil => intro k; simp
  | cons c cs ih =>
    obtain ⟨a, o⟩ := c
    rw [okFrom_cons] at h
    simp only [Bool.and_eq_true] at h
    intro k
    cases k with
    | zero => have := h.1.1.1; unfold okOff at this; simp at this; simp; omega
    | succ k => simpa using ih a h.2 k
theorem valid_parts (z : Zone) (h : valid z = true) : z.chs.length ≤ 40 ∧ okOff z.off = true ∧ okFrom 0 z.chs = true := by
  unfold valid at h
  simp only [Bool.and_eq_true, decide_eq_true_eq] at h
  exact ⟨h.1.2, h.1.1, h.2⟩
theorem ofs_bd (z : Zone) (h : valid z = true) (k : Nat) : -840 ≤ ofs z k ∧ ofs z k ≤ 840 := by
  obtain ⟨_, h1, h2⟩ := valid_parts z h
  unfold ofs
  split
  · unfold okOff at h1; simp at h1; omega
  · have := okFrom_ofs 0 z.chs h2 (k - 1); omega
theorem offAt_bd (z : Zone) (t : Int) (h : valid z = true) (f k : Nat) : -840 ≤ offAt z t f k ∧ offAt z t f k ≤ 840 := by
  induction f generalizing k with
  | zero => simp [offAt]
  | succ f ih =>
    unfold offAt
    split
    · exact ofs_bd z h k
    · exact ih (k + 1)
/-- The local time of an instant, as a number of minutes. -/
def loc (z : Zone) (t : Int) : Int := t + offAt z t (cnt z) 0
/-- Day, minute and error of an instant. -/
def localOf (z : Zone) (t : Int) : Int × Int × Int :=
  if valid z = true ∧ 0 ≤ t ∧ t < 105190560 then (if 0 ≤ loc z t ∧ loc z t < 105190560 then (loc z t / 1440, loc z t % 1440, 0) else (0, 0, 2)) else (0, 0, 1)

set_option maxHeartbeats 2000000 in
theorem local_bad (z : Zone) (A : Option Addr) (cap : Nat) (t : Int) (w : World) (hlen : z.chs.length ≤ 9223372036854775807) (hrow : ChRow w A z.chs) (h : ¬ (valid z = true ∧ 0 ≤ t ∧ t < 105190560)) :
    Calls Tryd.prog 60 #[.agg #[.int .i64 z.off, .slice A z.chs.length cap], .int .i64 t] w fun e w' => e = .returned (.tuple #[.int .i64 0, .int .i64 0, .int .i64 1]) ∧ Below w.heap.size w w' := by
  have HROW := Lib.hid hrow; clear hrow
  have hcase : valid z = false ∨ (valid z = true ∧ t < 0) ∨ (valid z = true ∧ 0 ≤ t ∧ 105190560 ≤ t) := by
    cases hv : valid z with
    | false => exact .inl rfl
    | true =>
      right
      by_cases h0 : t < 0
      · exact .inl ⟨rfl, h0⟩
      · exact .inr ⟨rfl, by omega, by
          rcases Int.lt_or_le t 105190560 with h1 | h1
          · exact absurd ⟨hv, by omega, h1⟩ h
          · exact h1⟩
  clear h
  rcases hcase with hv | ⟨hv, h0⟩ | ⟨hv, h0, h1⟩
  all_goals
    have HV := Lib.hid hv; clear hv
    go_enter Tryd.func60, Tryd.ntmps60
    go_wp2_with fail
    refine (valid_any z A cap _ (by omega) (HROW.out.below (by go_grown))).mono ?_
    rw [HV.out]
    rintro e w1 ⟨rfl, hb1⟩
    have hw0 : Below w.heap.size w ((w.alloc (.cells #[.int .i64 z.off, .slice A z.chs.length cap] 24)).alloc (.cells #[.int .i64 t] 3)) := by go_grown
    have hbt : w1.heap[w.heap.size + 1]? = some (.cells #[.int .i64 t] 3 (0, 0)) := (hb1.block _ (by simp)).trans (by have := heap_alloc_new (w.alloc (.cells #[.int .i64 z.off, .slice A z.chs.length cap] 24)) (.cells #[.int .i64 t] 3); rwa [World.size_alloc] at this)
    simp only [World.size_alloc] at hb1
    have HB1 : Hid (Below w.heap.size w w1) := hw0.trans (hb1.mono (by omega))
    clear hb1 hw0
    have c2 : w1.cell? ⟨w.heap.size + 1, 0, none⟩ = some (.int .i64 t) := cell_of_blk hbt 0
    clear hbt
    go_wp2_with fail
    go_ret3
    exact ⟨rfl, HB1.out⟩

theorem local_any (z : Zone) (A : Option Addr) (cap : Nat) (t : Int) (w : World) (hlen : z.chs.length ≤ 9223372036854775807) (hrow : ChRow w A z.chs) :
    Calls Tryd.prog 60 #[.agg #[.int .i64 z.off, .slice A z.chs.length cap], .int .i64 t] w fun e w' => e = .returned (.tuple #[.int .i64 (localOf z t).1, .int .i64 (localOf z t).2.1, .int .i64 (localOf z t).2.2]) ∧ Below w.heap.size w w' := by
  by_cases h : valid z = true ∧ 0 ≤ t ∧ t < 105190560
  · obtain ⟨hv, h0, h1⟩ := h
    have hb := offAt_bd z t hv (cnt z) 0
    have e : localOf z t = if 0 ≤ loc z t ∧ loc z t < 105190560 then (loc z t / 1440, loc z t % 1440, 0) else (0, 0, 2) := by unfold localOf; rw [if_pos ⟨hv, h0, h1⟩]
    refine callsIn_wide.1 (local_in z A cap t w (valid_parts z hv).1 hrow hv h0 h1 (loc z t) rfl (by unfold loc; omega) (by unfold loc; omega) (ofs_bd z hv) (fun e => e = .returned (.tuple #[.int .i64 (localOf z t).1, .int .i64 (localOf z t).2.1, .int .i64 (localOf z t).2.2])) ?_ ?_)
    · intro hl; rw [e, if_neg (by omega)]
    · intro hl1 hl2; rw [e, if_pos ⟨hl1, hl2⟩]
  · have e : localOf z t = (0, 0, 1) := by unfold localOf; rw [if_neg h]
    rw [e]
    exact local_bad z A cap t w hlen hrow h
end Go.Proofs.YticlmkfifpkdpaaDoor.Zn
namespace Go.Proofs.YticlmkfifpkdpaaDoor.Zn
open Go.RowKit Go.Shelf
set_option linter.unusedVariables false

theorem below_drewN {B : Nat} {a w : World} (h : Below B a w) (n : Nat) : Below B a (w.drewN n) := ⟨h.os, h.tape, h.output, h.size, h.block⟩

theorem okFrom_at (l : Int) (cs : List (Int × Int)) (h : okFrom l cs = true) (k : Nat) (hk : k < cs.length) : l + 5760 < cs[k].1 ∧ cs[k].1 < 105190560 := by
  induction cs generalizing l k with
  | nil => simp at hk
  | cons c cs ih =>
    obtain ⟨a, o⟩ := c
    rw [okFrom_cons] at h
    simp only [Bool.and_eq_true, decide_eq_true_eq] at h
    cases k with
    | zero => exact ⟨h.1.1.2, h.1.2⟩
    | succ k =>
      have := ih a h.2 k (by simpa using hk)
      simp only [List.getElem_cons_succ]
      have h2 := h.1.1.2
      omega
theorem tto_bd (z : Zone) (h : valid z = true) (k : Nat) (hk : k < z.chs.length) : 0 < tto z k ∧ tto z k < 105190560 := by
  rw [tto_lt z k hk]
  have := okFrom_at 0 z.chs (valid_parts z h).2.2 k hk
  omega

theorem okFrom_step (l : Int) (cs : List (Int × Int)) (h : okFrom l cs = true) (k : Nat) (hk : k + 1 < cs.length) : cs[k].1 + 5760 < cs[k + 1].1 := by
  induction cs generalizing l k with
  | nil => simp at hk
  | cons c cs ih =>
    obtain ⟨a, o⟩ := c
    rw [okFrom_cons] at h
    simp only [Bool.and_eq_true, decide_eq_true_eq] at h
    cases k with
    | zero =>
      have := (okFrom_at a cs h.2 0 (by simpa using hk)).1
      simpa using this
    | succ k => exact ih a h.2 k (by simpa using hk)
theorem frm_tto (z : Zone) (hv : valid z = true) (k : Nat) (hk : k < z.chs.length) : frm z k + 5760 < tto z k := by
  have h := (valid_parts z hv).2.2
  rw [tto_lt z k hk]
  cases k with
  | zero => have := (okFrom_at 0 z.chs h 0 hk).1; simpa [frm] using this
  | succ j => rw [frm_succ z j (by omega)]; exact okFrom_step 0 z.chs h j hk
theorem frm_end (z : Zone) (hv : valid z = true) : frm z z.chs.length < 105190560 := by
  have h := (valid_parts z hv).2.2
  rcases Nat.eq_zero_or_pos z.chs.length with h0 | h0
  · rw [h0]; simp [frm]
  · obtain ⟨j, hj⟩ : ∃ j, z.chs.length = j + 1 := ⟨z.chs.length - 1, by omega⟩
    have := (okFrom_at 0 z.chs h j (by omega)).2
    rw [hj, frm_succ z j (by omega)]; exact this
theorem frm_next (z : Zone) (k : Nat) (hk : k < z.chs.length) : frm z (k + 1) = tto z k := by rw [frm_succ z k hk, tto_lt z k hk]
theorem tto_frm (z : Zone) (hv : valid z = true) (j k : Nat) (hj : j < k) (hk : k ≤ z.chs.length) : tto z j ≤ frm z k := by
  induction k with
  | zero => omega
  | succ k ih =>
    rw [frm_next z k (by omega)]
    rcases Nat.lt_or_ge j k with h | h
    · have h1 := ih h (by omega)
      have h2 := frm_tto z hv k (by omega)
      omega
    · have : j = k := by omega
      rw [this]; omega
theorem frm_pos (z : Zone) (hv : valid z = true) (k : Nat) (hk : k ≤ z.chs.length) : 0 ≤ frm z k := by
  cases k with
  | zero => simp [frm]
  | succ k => rw [frm_next z k (by omega)]; have := (tto_bd z hv k (by omega)).1; omega
/-- An instant lies in a stretch. -/
def At (z : Zone) (k : Nat) (x : Int) : Prop := k ≤ z.chs.length ∧ frm z k ≤ x ∧ x < tto z k
theorem At.range {z : Zone} {k : Nat} {x : Int} (h : At z k x) (hv : valid z = true) : 0 ≤ x ∧ x < 105190560 := by
  have h1 := frm_pos z hv k h.1
  refine ⟨by have := h.2.1; omega, ?_⟩
  rcases Nat.lt_or_ge k z.chs.length with h2 | h2
  · have := (tto_bd z hv k h2).2; have := h.2.2; omega
  · have e : k = z.chs.length := by have := h.1; omega
    have := h.2.2; rw [e, tto_end] at this; exact this
theorem at_lt {z : Zone} {j k : Nat} {x y : Int} (hv : valid z = true) (hx : At z j x) (hy : At z k y) (h : j < k) : x < y := by
  have := tto_frm z hv j k h hy.1
  have := hx.2.2; have := hy.2.1
  omega
theorem at_one {z : Zone} {j k : Nat} {x : Int} (hv : valid z = true) (hx : At z j x) (hy : At z k x) : j = k := by
  rcases Nat.lt_trichotomy j k with h | h | h
  · have := at_lt hv hx hy h; omega
  · exact h
  · have := at_lt hv hy hx h; omega
theorem at_offAt (z : Zone) (t : Int) (ht : t < 105190560) : ∀ (m k : Nat), m = z.chs.length - k → k ≤ z.chs.length → frm z k ≤ t → ∃ j, At z j t ∧ offAt z t (cnt z - k) k = ofs z j := by
  intro m
  induction m with
  | zero =>
    intro k hm hk hf
    have e : k = z.chs.length := by omega
    rw [offAt_step z t k (by unfold cnt; omega), if_pos (by rw [e, tto_end]; exact ht)]
    exact ⟨k, ⟨hk, hf, by rw [e, tto_end]; exact ht⟩, rfl⟩
  | succ m ih =>
    intro k hm hk hf
    rw [offAt_step z t k (by unfold cnt; omega)]
    split
    · rename_i h; exact ⟨k, ⟨hk, hf, h⟩, rfl⟩
    · rename_i h; exact ih (k + 1) (by omega) (by omega) (by rw [frm_next z k (by omega)]; omega)
theorem at_loc (z : Zone) (t : Int) (h0 : 0 ≤ t) (ht : t < 105190560) : ∃ j, At z j t ∧ loc z t = t + ofs z j := by
  obtain ⟨j, hj, e⟩ := at_offAt z t ht z.chs.length 0 rfl (by omega) (by simpa [frm] using h0)
  refine ⟨j, hj, ?_⟩
  unfold loc
  rw [Nat.sub_zero] at e
  rw [e]
theorem loc_at {z : Zone} {k : Nat} {x : Int} (hv : valid z = true) (h : At z k x) : loc z x = x + ofs z k := by
  obtain ⟨h0, h1⟩ := h.range hv
  obtain ⟨j, hj, e⟩ := at_loc z x h0 h1
  rw [e, at_one hv hj h]
theorem few_any (z : Zone) (A : Option Addr) (cap : Nat) (w : World) :
    Calls Tryd.prog 35 #[.agg #[.int .i64 z.off, .slice A z.chs.length cap]] w fun e w' => e = .returned (.bool (decide (z.chs.length ≤ 100))) ∧ Below w.heap.size w w' := by
  go_enter Tryd.func35, Tryd.ntmps35
  go_wp2_with fail
  go_ret
  exact ⟨ret_bool (by rw [Bool.eq_iff_iff]; simp; try omega), by go_grown⟩

/-- A zone lies in memory at a block. -/
def ZW (w : World) (b : Nat) (z : Zone) (A : Option Addr) (cap : Nat) (W : World) : Prop :=
  W.heap[b]? = some (.cells #[.int .i64 z.off, .slice A z.chs.length cap] 24 (0, 0)) ∧ ChRow W A z.chs ∧ Below w.heap.size w W
theorem ZW.below {w W W' : World} {b : Nat} {z : Zone} {A : Option Addr} {cap : Nat} (h : ZW w b z A cap W) (hb : Below W.heap.size W W') : ZW w b z A cap W' :=
  ⟨(hb.block _ (lt_of_blk h.1)).trans h.1, h.2.1.below hb, h.2.2.trans (hb.mono h.2.2.size)⟩
theorem ZW.cells {w W : World} {b : Nat} {z : Zone} {A : Option Addr} {cap : Nat} (h : ZW w b z A cap W) : W.cell? ⟨b, 0, none⟩ = some (.int .i64 z.off) ∧ W.cell? ⟨b, 1, none⟩ = some (.slice A z.chs.length cap) :=
  ⟨cell_of_blk h.1 0, cell_of_blk h.1 1⟩
theorem ZW.start (w : World) (z : Zone) (A : Option Addr) (cap : Nat) (h : ChRow w A z.chs) : ZW w w.heap.size z A cap (w.alloc (.cells #[.int .i64 z.off, .slice A z.chs.length cap] 24)) :=
  ⟨heap_alloc_new w _, h.below (by go_grown), by go_grown⟩
theorem ZW.drewN {w W : World} {b : Nat} {z : Zone} {A : Option Addr} {cap : Nat} (h : ZW w b z A cap W) (n : Nat) : ZW w b z A cap (W.drewN n) :=
  h.below (below_drewN (Below.refl _ _) n)

theorem localOf_bad (z : Zone) (t : Int) : (∃ e, (e = 1 ∨ e = 2) ∧ localOf z t = (0, 0, e)) ∨ (valid z = true ∧ 0 ≤ t ∧ t < 105190560 ∧ 0 ≤ loc z t ∧ loc z t < 105190560 ∧ localOf z t = (loc z t / 1440, loc z t % 1440, 0)) := by
  unfold localOf
  split
  · rename_i h
    split
    · rename_i h2; exact .inr ⟨h.1, h.2.1, h.2.2, h2.1, h2.2, rfl⟩
    · exact .inl ⟨2, .inr rfl, rfl⟩
  · exact .inl ⟨1, .inl rfl, rfl⟩
end Go.Proofs.YticlmkfifpkdpaaDoor.Zn
