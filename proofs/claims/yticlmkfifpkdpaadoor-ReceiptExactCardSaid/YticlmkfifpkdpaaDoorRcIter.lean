/-
  The iterator of package receipt over the instants at which the local time can be extreme; a loop over them.
-/
import Derived.Test.YticlmkfifpkdpaaDoorRcZone
import Derived.Test.YticlmkfifpkdpaaDoorRcPlain
namespace Go.Proofs.YticlmkfifpkdpaaDoor.Rc
open Go.RowKit Go.Shelf
open Zn (Zone ChRow cell_of_blk froz_of_blk lt_of_blk blk_alloc blk_far chRow_keep)
set_option linter.unusedVariables false
attribute [local go_sem] Oper.semAt_some

/-- What a loop's body keeps: what lay below n0, and every zone, change and stretch. -/
structure Keep (n0 : Nat) (W W' : World) : Prop where
  bel : Below n0 W W'
  typ : ∀ (k : Nat) (cs : Array Value) (t : TypeId) (f : Nat × Nat), (t = 24 ∨ t = 126 ∨ t = 82) → W.heap[k]? = some (Obj.cells cs t f) → W'.heap[k]? = some (Obj.cells cs t f)
theorem Keep.refl (n0 : Nat) (W : World) : Keep n0 W W := ⟨Below.refl _ _, fun _ _ _ _ _ h => h⟩
theorem Keep.trans {n0 : Nat} {A B C : World} (h : Keep n0 A B) (k : Keep n0 B C) : Keep n0 A C := ⟨h.bel.trans k.bel, fun i cs t f ht hh => k.typ i cs t f ht (h.typ i cs t f ht hh)⟩
theorem Keep.alloc {n0 : Nat} {A W : World} (h : Keep n0 A W) (hn : n0 ≤ W.heap.size) (o : Obj) : Keep n0 A (W.alloc o) := ⟨h.bel.alloc hn o, fun i cs t f ht hh => blk_alloc (h.typ i cs t f ht hh) o⟩
theorem Keep.below {n0 : Nat} {A W : World} (h : Below A.heap.size A W) (hn : n0 ≤ A.heap.size) : Keep n0 A W := ⟨h.mono hn, fun i cs t f ht hh => (h.block _ (lt_of_blk hh)).trans hh⟩
/-- A cell of another type is written. -/
theorem Keep.set {n0 b i : Nat} {A W : World} {cs : Array Value} {T : TypeId} {fz : Nat × Nat} (h : Keep n0 A W) (hn : n0 ≤ b) (hb : W.heap[b]? = some (.cells cs T fz)) (hT : T ≠ 24 ∧ T ≠ 126 ∧ T ≠ 82) (v : Value) : Keep n0 A (W.setCell ⟨b, i, none⟩ v) := by
  refine ⟨h.bel.setCell hn v, fun k cs' t f ht hh => ?_⟩
  have h1 := h.typ k cs' t f ht hh
  refine blk_far h1 ?_ v
  rintro rfl
  rw [hb] at h1
  injection h1 with h1
  injection h1 with _ h1 _
  subst h1
  rcases ht with ht | ht | ht
  · exact hT.1 ht
  · exact hT.2.1 ht
  · exact hT.2.2 ht
theorem Keep.putObj {n0 l : Nat} {A W : World} {r : Obj} (h : Keep n0 A W) (hn : n0 ≤ l) (hl : W.heap[l]? = some r) (hr : r.isCells = false) (o : Obj) : Keep n0 A (W.putObj l o) := by
  refine ⟨h.bel.trans (Zn.below_putObj W o hn (lt_of_blk hl)), fun i cs t f ht hh => ?_⟩
  have h1 := h.typ i cs t f ht hh
  have hne : i ≠ l := by
    rintro rfl
    rw [hl] at h1
    injection h1 with h1
    subst h1
    cases hr
  rw [World.putObj_heap_other (by omega)]
  exact h1
theorem turnsC_step (lo hi : Int) (cs : List (Int × Int)) (j : Nat) (h : j < cs.length) : turnsC lo hi (cs.take (j + 1)) = turnsC lo hi (cs.take j) ++ (if cs[j].1 ≤ lo ∨ cs[j].1 > hi then [] else [cs[j].1 - 1, cs[j].1]) := by
  unfold turnsC
  rw [List.take_succ_eq_append_getElem h, List.flatMap_append, List.flatMap_cons, List.flatMap_nil, List.append_nil]
theorem turnsC_split (lo hi : Int) (cs : List (Int × Int)) (j : Nat) (h : j < cs.length) (h1 : ¬ (cs[j].1 ≤ lo ∨ cs[j].1 > hi)) : turnsC lo hi cs = turnsC lo hi (cs.take j) ++ (cs[j].1 - 1) :: cs[j].1 :: turnsC lo hi (cs.drop (j + 1)) := by
  have e : cs = cs.take j ++ cs[j] :: cs.drop (j + 1) := by rw [← List.drop_eq_getElem_cons h, List.take_append_drop]
  have e2 : turnsC lo hi cs = turnsC lo hi (cs.take j ++ cs[j] :: cs.drop (j + 1)) := by rw [← e]
  rw [e2]
  unfold turnsC
  rw [List.flatMap_append, List.flatMap_cons, if_neg h1]
  rfl
set_option maxHeartbeats 4000000 in
theorem turns_in (m : Nat) (hm : 1 ≤ m) (l bs bz n0 : Nat) (gv : Bool) (lo hi : Int) (z : Zone) (A : Option Addr) (cap : Nat) (J Jx : List Int → World → Prop) (W : World)
    (hja : ∀ p W o, J p W → J p (W.alloc o))
    (hY : ∀ p x r W0, turnsL lo hi z.chs = p ++ x :: r → J p W0 → YieldAt Fence.wide (m - 1) Tryd.prog l #[.int .i64 x] W0 fun e W' =>
      (e = .returned (.bool true) ∧ J (p ++ [x]) W' ∧ Keep n0 W0 W') ∨ (e = .returned (.bool false) ∧ Jx (p ++ [x]) W'))
    (hn0 : n0 ≤ W.heap.size) (hs : W.heap[bs]? = some (.cells #[.bool gv, .int .i64 lo, .int .i64 hi] 82 (0, 0)))
    (hz : W.heap[bz]? = some (.cells #[.int .i64 z.off, .slice A z.chs.length cap] 24 (0, 0)))
    (hrow : ChRow W A z.chs) (hrn : ∀ g o, A = some ⟨g, o, none⟩ → 0 < z.chs.length → g < n0) (hlen : z.chs.length ≤ 1000000) (hwf : ∀ c ∈ z.chs, -1000000000000000000 ≤ c.1 ∧ c.1 ≤ 1000000000000000000) (h0 : J [] W) :
    CallsIn Fence.wide m Tryd.prog 89 #[.func (.yield l) #[] #[], .pointer (some ⟨bs, 0, none⟩), .pointer (some ⟨bz, 0, none⟩)] W fun e W' =>
      (∃ v, e = .returned v) ∧ (J (turnsL lo hi z.chs) W' ∨ ∃ p, Jx p W') := by
  have s1 : W.cell? ⟨bs, 1, none⟩ = some (.int .i64 lo) := cell_of_blk hs 1
  refine callsIn_of_wp Tryd.func89 rfl trivial ?_ rfl
  simp only [Tryd.ntmps89, List.size_toArray, List.length_cons, List.length_nil, Nat.reduceAdd, Nat.reduceSub, Array.replicate_succ, Array.replicate_zero, List.push_toArray, List.append_toArray, List.nil_append, List.cons_append]
  have HJA := Lib.hid hja; have HY := Lib.hid hY; have HROW := Lib.hid hrow; have HRN := Lib.hid hrn; have HS := Lib.hid hs; have HZ := Lib.hid hz; have H0 := Lib.hid h0; have HWF := Lib.hid hwf
  clear hja hY hrow hrn hs hz h0 hwf
  obtain ⟨fn, tmps, assign, body, hy, hR⟩ := HY.out [] lo (hi :: turnsC lo hi z.chs) W rfl H0.out
  gi_wp2
  refine hR.mono ?_
  rintro e W1 (⟨rfl, hJ1, hk1⟩ | ⟨rfl, hJx1⟩)
  case inr =>
    gi_wp2
    refine ⟨(fun f h => by cases h), ?_⟩
    gi_wp2
    refine bodyPost_ret (results_none rfl _ _ _) rfl ?_
    exact ⟨⟨_, rfl⟩, .inr ⟨_, hJx1⟩⟩
  have HJ1 := Lib.hid hJ1; have HK1 := Lib.hid hk1
  clear hJ1 hk1 hy s1
  have HS1 : Hid (W1.heap[bs]? = some (.cells #[.bool gv, .int .i64 lo, .int .i64 hi] 82 (0, 0))) := HK1.out.typ _ _ _ _ (.inr (.inr rfl)) HS.out
  have HZ1 : Hid (W1.heap[bz]? = some (.cells #[.int .i64 z.off, .slice A z.chs.length cap] 24 (0, 0))) := HK1.out.typ _ _ _ _ (.inl rfl) HZ.out
  have s2 : W1.cell? ⟨bs, 2, none⟩ = some (.int .i64 hi) := cell_of_blk HS1.out 2
  obtain ⟨fn, tmps, assign, body, hy, hR⟩ := HY.out [lo] hi (turnsC lo hi z.chs) W1 rfl HJ1.out
  gi_wp2
  refine hR.mono ?_
  rintro e W2 (⟨rfl, hJ2, hk2⟩ | ⟨rfl, hJx2⟩)
  case inr =>
    gi_wp2
    refine bodyPost_ret (results_none rfl _ _ _) rfl ?_
    exact ⟨⟨_, rfl⟩, .inr ⟨_, hJx2⟩⟩
  have HJ2 := Lib.hid hJ2; have HK2 := Lib.hid (HK1.out.trans hk2)
  clear hJ2 hk2 hy s2
  have HS2 : Hid (W2.heap[bs]? = some (.cells #[.bool gv, .int .i64 lo, .int .i64 hi] 82 (0, 0))) := HK2.out.typ _ _ _ _ (.inr (.inr rfl)) HS.out
  have HZ2 : Hid (W2.heap[bz]? = some (.cells #[.int .i64 z.off, .slice A z.chs.length cap] 24 (0, 0))) := HK2.out.typ _ _ _ _ (.inl rfl) HZ.out
  have HC2 : Hid (ChRow W2 A z.chs) := chRow_keep HROW.out (by have := HK2.out.bel.size; omega) (fun g o e hp => HK2.out.bel.block g (HRN.out g o e hp))
  have hsz : n0 ≤ W2.heap.size := by have := HK2.out.bel.size; omega
  have z1 : W2.cell? ⟨bz, 1, none⟩ = some (.slice A z.chs.length cap) := cell_of_blk HZ2.out 1
  clear HZ HZ1 HS1 HK1 HK2 HS HJ1 H0 HROW
  gi_wp2
  gi_loopw [21] (fun i wr => ∃ j : Nat, i = .int .i64 j ∧ j ≤ z.chs.length ∧ Hid (wr.heap[bs]? = some (.cells #[.bool gv, .int .i64 lo, .int .i64 hi] 82 (0, 0))) ∧ Hid (n0 ≤ wr.heap.size) ∧ Hid (ChRow wr A z.chs) ∧ Hid (J (lo :: hi :: turnsC lo hi (z.chs.take j)) wr)) (fun i _ => z.chs.length - (intOf i).toNat)
  case atStart => exact ⟨0, rfl, by omega, HS2, hsz, HC2, HJ2⟩
  case round =>
    obtain ⟨j, rfl, hj, HS, HSZ, HC, HJ⟩ := hrel
    by_cases hlt : j < z.chs.length
    · obtain ⟨g, o, hA, hg, hc⟩ := HC.out (by omega)
      have hgn := HRN.out g o hA (by omega)
      subst hA
      obtain ⟨c0, c1⟩ := hc j hlt
      clear hc
      have HST := Lib.hid (turnsC_step lo hi z.chs j hlt)
      have HSP := Lib.hid (turnsC_split lo hi z.chs j hlt)
      have hwf := HWF.out _ (List.getElem_mem hlt)
      generalize hcv : z.chs[j] = cv at *
      obtain ⟨at_, of_⟩ := cv
      dsimp only at c0 c1 HST HSP hwf
      clear hcv
      obtain ⟨w1, HW1⟩ : ∃ w1, Hid (wr.alloc (.cells #[.int .i64 at_, .int .i64 of_] 126) = w1) := ⟨_, rfl⟩
      have HB1 : Hid (w1.heap[wr.heap.size]? = some (.cells #[.int .i64 at_, .int .i64 of_] 126 (0, 0))) := by rw [← HW1.out]; exact heap_alloc_new wr _
      have HS1 : Hid (w1.heap[bs]? = some (.cells #[.bool gv, .int .i64 lo, .int .i64 hi] 82 (0, 0))) := by rw [← HW1.out]; exact blk_alloc HS.out _
      have HJ1 : Hid (J (lo :: hi :: turnsC lo hi (z.chs.take j)) w1) := by rw [← HW1.out]; exact HJA.out _ _ _ HJ.out
      have HC1 : Hid (ChRow w1 (some ⟨g, o, none⟩) z.chs) := by rw [← HW1.out]; exact chRow_keep HC.out (by simp) (fun g' o' e hp => by injection e with e; injection e with e1 _ _; subst e1; exact Below.heap_alloc _ _ _ hg)
      have hsz1 : n0 ≤ w1.heap.size := by rw [← HW1.out]; simp; have := HSZ.out; omega
      have HSZ1 := Lib.hid hsz1
      have q0 : w1.cell? ⟨wr.heap.size, 0, none⟩ = some (.int .i64 at_) := cell_of_blk HB1.out 0
      have p1 : w1.cell? ⟨bs, 1, none⟩ = some (.int .i64 lo) := cell_of_blk HS1.out 1
      have p2 : w1.cell? ⟨bs, 2, none⟩ = some (.int .i64 hi) := cell_of_blk HS1.out 2
      gi_upto_region 4 with fail
      rw [HW1.out]
      clear HW1 HS HC HJ HSZ hsz1
      by_cases h1 : at_ ≤ lo
      · have HJN : Hid (J (lo :: hi :: turnsC lo hi (z.chs.take (j + 1))) w1) := by show J _ _; rw [HST.out, if_pos (.inl h1), List.append_nil]; exact HJ1.out
        gi_wp2
        go_roundw
        case rel => exact ⟨j + 1, by go_num, by omega, HS1, HSZ1, HC1, HJN⟩
        case measure => simp [intOf]; omega
      by_cases h2 : at_ > hi
      · have HJN : Hid (J (lo :: hi :: turnsC lo hi (z.chs.take (j + 1))) w1) := by show J _ _; rw [HST.out, if_pos (.inr h2), List.append_nil]; exact HJ1.out
        gi_wp2
        go_roundw
        case rel => exact ⟨j + 1, by go_num, by omega, HS1, HSZ1, HC1, HJN⟩
        case measure => simp [intOf]; omega
      have hsp := HSP.out (by omega)
      have HE1 : Hid (turnsL lo hi z.chs = (lo :: hi :: turnsC lo hi (z.chs.take j)) ++ (at_ - 1) :: at_ :: turnsC lo hi (z.chs.drop (j + 1))) := by show turnsL _ _ _ = _; unfold turnsL; rw [hsp]; rfl
      have HE2 : Hid (turnsL lo hi z.chs = (lo :: hi :: turnsC lo hi (z.chs.take j) ++ [at_ - 1]) ++ at_ :: turnsC lo hi (z.chs.drop (j + 1))) := by show turnsL _ _ _ = _; rw [HE1.out, List.append_assoc]; rfl
      clear hsp
      obtain ⟨fn, tmps, assign, body, hy, hR⟩ := HY.out _ _ _ w1 HE1.out HJ1.out
      gi_wp2
      refine hR.mono ?_
      rintro e W3 (⟨rfl, hJ3, hk3⟩ | ⟨rfl, hJx3⟩)
      case inr =>
        gi_wp2
        refine ⟨(fun f h => by cases h), ?_⟩
        gi_wp2
        refine bodyPost_ret (results_none rfl _ _ _) rfl ?_
        exact ⟨⟨_, rfl⟩, .inr ⟨_, hJx3⟩⟩
      have HJ3 := Lib.hid hJ3; have HK3 := Lib.hid hk3
      clear hJ3 hk3 hy q0 p1 p2
      have HB3 : Hid (W3.heap[wr.heap.size]? = some (.cells #[.int .i64 at_, .int .i64 of_] 126 (0, 0))) := HK3.out.typ _ _ _ _ (.inr (.inl rfl)) HB1.out
      have q0 : W3.cell? ⟨wr.heap.size, 0, none⟩ = some (.int .i64 at_) := cell_of_blk HB3.out 0
      obtain ⟨fn, tmps, assign, body, hy, hR⟩ := HY.out _ _ _ W3 HE2.out HJ3.out
      gi_wp2
      refine hR.mono ?_
      rintro e W4 (⟨rfl, hJ4, hk4⟩ | ⟨rfl, hJx4⟩)
      case inr =>
        gi_wp2
        refine bodyPost_ret (results_none rfl _ _ _) rfl ?_
        exact ⟨⟨_, rfl⟩, .inr ⟨_, hJx4⟩⟩
      have HK4 := Lib.hid (HK3.out.trans hk4)
      have HJN : Hid (J (lo :: hi :: turnsC lo hi (z.chs.take (j + 1))) W4) := by show J _ _; rw [HST.out, if_neg (by omega)]; simpa using hJ4
      have HS4 : Hid (W4.heap[bs]? = some (.cells #[.bool gv, .int .i64 lo, .int .i64 hi] 82 (0, 0))) := HK4.out.typ _ _ _ _ (.inr (.inr rfl)) HS1.out
      have HC4 : Hid (ChRow W4 (some ⟨g, o, none⟩) z.chs) := chRow_keep HC1.out (by have := HK4.out.bel.size; omega) (fun g' o' e hp => HK4.out.bel.block g' (HRN.out g' o' e hp))
      have HSZ4 : Hid (n0 ≤ W4.heap.size) := by show _ ≤ _; have := HK4.out.bel.size; have := HSZ1.out; omega
      clear hJ4 hk4 hy q0
      gi_wp2
      go_roundw
      case rel => exact ⟨j + 1, by go_num, by omega, HS4, HSZ4, HC4, HJN⟩
      case measure => simp [intOf]; omega
    · have hjn : j = z.chs.length := by omega
      subst hjn
      have HJE : Hid (J (turnsL lo hi z.chs) wr) := by show J _ _; have h := HJ.out; rw [List.take_length] at h; exact h
      gi_wp2
      go_end0
      exact ⟨⟨_, rfl⟩, .inl HJE.out⟩

/-- What a round of a loop's body owes. -/
def RoundPost (n0 D : Nat) (I : World → Prop) (Ix : Code → World → Prop) (W : World) : Exit → Act → World → Prop
  | .normal, _, W' => I W' ∧ Keep n0 W W' ∧ W'.heap[D]? = W.heap[D]? ∧ W'.heap[D + 1]? = W.heap[D + 1]?
  | .ret, _, W' => Ix .ret W' ∧ W'.heap[D]? = W.heap[D]? ∧ W'.heap[D + 1]? = W.heap[D + 1]?
  | .exit id, _, W' => Ix (.exit id) W' ∧ W'.heap[D]? = W.heap[D]? ∧ W'.heap[D + 1]? = W.heap[D + 1]?
  | _, _, _ => False
theorem range_turns {g : Operand} {assign body : Code} {Q : Exit → Act → World → Prop} {a : Act} {w : World} (m : Nat) (hm : 3 ≤ m) (bs bz n0 : Nat) (gv : Bool) (lo hi : Int) (z : Zone) (A : Option Addr) (cap : Nat) (ps q : Tmp)
    (hg : a.eval g = .func (.func 89) #[] #[.pointer (some ⟨bs, 0, none⟩), .pointer (some ⟨bz, 0, none⟩)])
    (hn0 : n0 ≤ w.heap.size) (hs : w.heap[bs]? = some (.cells #[.bool gv, .int .i64 lo, .int .i64 hi] 82 (0, 0))) (hz : w.heap[bz]? = some (.cells #[.int .i64 z.off, .slice A z.chs.length cap] 24 (0, 0)))
    (hrow : ChRow w A z.chs) (hrn : ∀ g o, A = some ⟨g, o, none⟩ → 0 < z.chs.length → g < n0) (hlen : z.chs.length ≤ 1000000) (hwf : ∀ c ∈ z.chs, -1000000000000000000 ≤ c.1 ∧ c.1 ≤ 1000000000000000000)
    (I : List Int → World → Prop) (Ix : Code → World → Prop)
    (hia : ∀ p W o, I p W → I p (W.alloc o))
    (hip : ∀ p W i o, (i = w.heap.size ∨ i = w.heap.size + 1) → I p W → I p (W.putObj i o))
    (hix : ∀ c W i o, (i = w.heap.size ∨ i = w.heap.size + 1) → Ix c W → Ix c (W.putObj i o))
    (h0 : I [] w)
    (hassign : ∀ (x : Int) (W : World) (K : Act → World → Prop), K { tmps := (a.tmps.setIfInBounds ps (.int .i64 x)).setIfInBounds q (.int .i64 x), defers := [] } W →
      assign.wpIn (Fence.wide.inRound (w.heap.size + 1)) (m - 1 - 1) Tryd.prog (Exit.then K (fun _ _ _ => False)) { tmps := a.tmps.setIfInBounds ps (.int .i64 x), defers := [] } W)
    (hbody : ∀ (p : List Int) (x : Int) (r : List Int) (W : World), turnsL lo hi z.chs = p ++ x :: r → I p W → w.heap.size + 2 ≤ W.heap.size →
      body.wpIn (Fence.wide.inRound (w.heap.size + 1)) (m - 1 - 1) Tryd.prog (RoundPost n0 w.heap.size (I (p ++ [x])) Ix W) { tmps := (a.tmps.setIfInBounds ps (.int .i64 x)).setIfInBounds q (.int .i64 x), defers := [] } W)
    (hdone : ∀ (W : World), I (turnsL lo hi z.chs) W → W.heap[w.heap.size]? = some (.deferred (some [])) → Q .normal { a with defers := { target := .collected w.heap.size, args := #[] } :: a.defers } W)
    (hstop : ∀ (c : Code) (W : World), Ix c W → W.heap[w.heap.size]? = some (.deferred (some [])) → c.wpIn Fence.wide m Tryd.prog Q { a with defers := { target := .collected w.heap.size, args := #[] } :: a.defers } W) :
    (Code.rangeFunc g #[ps] assign body).wpIn Fence.wide m Tryd.prog Q a w := by
  refine wpIn_rangeFunc ?_
  intro fn hfn
  obtain ⟨rec, hrec⟩ : ∃ rec : LoopState → Option Code → Loop, rec = fun st pe => { state := st, pending := pe, fn, tmps := a.tmps, params := #[ps], assign, body, defers := w.heap.size } := ⟨_, rfl⟩
  obtain ⟨W1, hW1⟩ : ∃ W1, (w.alloc (.deferred (some []))).alloc (.loop (rec .ready none)) = W1 := ⟨_, rfl⟩
  have hs1 : W1.heap.size = w.heap.size + 2 := by rw [← hW1]; simp
  have hL1 : W1.heap[w.heap.size + 1]? = some (.loop (rec .ready none)) := by
    rw [← hW1]; have := World.alloc_heap_new (w.alloc (.deferred (some []))) (.loop (rec .ready none)); rwa [World.size_alloc] at this
  have hD1 : W1.heap[w.heap.size]? = some (.deferred (some [])) := by
    rw [← hW1]; exact blk_alloc (World.alloc_heap_new w _) _
  have hz1 : W1.heap[bz]? = some (.cells #[.int .i64 z.off, .slice A z.chs.length cap] 24 (0, 0)) := by rw [← hW1]; exact blk_alloc (blk_alloc hz _) _
  have hss1 : W1.heap[bs]? = some (.cells #[.bool gv, .int .i64 lo, .int .i64 hi] 82 (0, 0)) := by rw [← hW1]; exact blk_alloc (blk_alloc hs _) _
  have hr1 : ChRow W1 A z.chs := by
    refine chRow_keep hrow (by omega) (fun g o e hp => ?_)
    obtain ⟨g', o', hA, hg', _⟩ := hrow hp
    rw [e] at hA
    injection hA with hA
    injection hA with e1 _ _
    rw [← hW1, Below.heap_alloc _ _ _ (by simp; omega), Below.heap_alloc _ _ _ (by omega)]
  refine ⟨w.heap.size + 1, [{ target := .collected w.heap.size, args := #[] }], W1, { target := .fn (.func 89) #[.pointer (some ⟨bs, 0, none⟩), .pointer (some ⟨bz, 0, none⟩)], args := #[.func (.yield (w.heap.size + 1)) #[] #[]] }, W1, 89,
    #[.func (.yield (w.heap.size + 1)) #[] #[], .pointer (some ⟨bs, 0, none⟩), .pointer (some ⟨bz, 0, none⟩)], W1, ?_, ?_, fun _ _ => trivial, ?_, fun _ => by omega, ?_⟩
  · rw [← hW1, hrec]; exact run_enterLoop_outer _ _ _ _ _
  · simp only [resolve, hg]
    simp [go_sem]
  · have eg : ∀ args W, (callFunc 89 args).run Tryd.prog W = .ok (.enter 89 args) W := fun args W => by kernel_rfl
    simp [invoke, go_sem, eg]
  · refine (turns_in (m - 1) (by omega) (w.heap.size + 1) bs bz n0 gv lo hi z A cap
      (fun p W => I p W ∧ W.heap[w.heap.size + 1]? = some (.loop (rec .ready none)) ∧ W.heap[w.heap.size]? = some (.deferred (some [])) ∧ w.heap.size + 2 ≤ W.heap.size)
      (fun p W => ∃ c, Ix c W ∧ W.heap[w.heap.size + 1]? = some (.loop (rec .done (some c))) ∧ W.heap[w.heap.size]? = some (.deferred (some [])))
      W1 ?_ ?_ (by omega) hss1 hz1 hr1 hrn hlen hwf ⟨by rw [← hW1]; exact hia _ _ _ (hia _ _ _ h0), hL1, hD1, by omega⟩).mono ?_
    · rintro p W o ⟨h1, h2, h3, h4⟩
      exact ⟨hia _ _ _ h1, blk_alloc h2 o, blk_alloc h3 o, by simp; omega⟩
    · rintro p x r W hpx ⟨hi9, hl, hd, hsz⟩
      have hlt : w.heap.size + 1 < W.heap.size := lt_of_blk hl
      have hy := run_yield (P := Tryd.prog) (args := #[.int .i64 x]) hl (by rw [hrec]; rfl)
      rw [hrec] at hy
      have hga : ∀ (K : Act → World → Prop), K { tmps := (a.tmps.setIfInBounds ps (.int .i64 x)).setIfInBounds q (.int .i64 x), defers := [] } W → assign.wpIn (Fence.wide.inRound (w.heap.size + 1)) (m - 1 - 1) Tryd.prog (Exit.then K (fun _ _ _ => False)) { tmps := ((#[ps] : Array Tmp).zip #[.int .i64 x]).foldl (fun t (p, v) => t.setIfInBounds p v) a.tmps, defers := [] } W := fun K h => by
        rw [Zn.zip1]; exact hassign x W K h
      refine ⟨fn, _, assign, body, hy, roundIn_of_wpIn hfn (hga _ ⟨_, run_beginRound hl (by rw [hrec]), ?_⟩)⟩
      obtain ⟨W2, hW2⟩ : ∃ W2, W.putObj (w.heap.size + 1) (.loop { rec .ready none with state := .busy }) = W2 := ⟨_, rfl⟩
      have hl2 : W2.heap[w.heap.size + 1]? = some (.loop { rec .ready none with state := .busy }) := by rw [← hW2]; exact World.putObj_heap_same (by omega)
      have hd2 : W2.heap[w.heap.size]? = some (.deferred (some [])) := by rw [← hW2, World.putObj_heap_other (by omega)]; exact hd
      have hi2 : I p W2 := by rw [← hW2]; exact hip _ _ _ _ (.inr rfl) hi9
      have hk2 : Keep n0 W W2 := by
        rw [← hW2]
        exact Keep.putObj (Keep.refl _ _) (by omega) hl rfl _
      rw [hW2]
      refine wpIn_mono (hbody p x r W2 hpx hi2 (by rw [← hW2]; simp only [World.putObj_size]; omega)) ?_
      have fin : ∀ (jump : Option Code) (W3 : World), W3.heap[w.heap.size]? = W2.heap[w.heap.size]? → W3.heap[w.heap.size + 1]? = W2.heap[w.heap.size + 1]? →
          (Instr.endRound (w.heap.size + 1) jump).run Tryd.prog W3 = .ok (.bool jump.isNone) (W3.putObj (w.heap.size + 1) (.loop (rec (if jump.isNone then .ready else .done) jump))) ∧
          W3.heap[w.heap.size + 1]? = some (.loop { rec .ready none with state := .busy }) ∧
          (W3.putObj (w.heap.size + 1) (.loop (rec (if jump.isNone then .ready else .done) jump))).heap[w.heap.size + 1]? = some (.loop (rec (if jump.isNone then .ready else .done) jump)) ∧
          (W3.putObj (w.heap.size + 1) (.loop (rec (if jump.isNone then .ready else .done) jump))).heap[w.heap.size]? = some (.deferred (some [])) := by
        intro jump W3 e1 e2
        have hl3 := e2.trans hl2
        have hr := run_endRound (P := Tryd.prog) jump hl3
        rw [hrec] at hr ⊢
        refine ⟨hr, by rw [hrec] at hl3; exact hl3, World.putObj_heap_same (lt_of_blk hl3), ?_⟩
        rw [World.putObj_heap_other (by omega)]
        exact e1.trans hd2
      rintro e a3 W3 hp
      cases e with
      | normal =>
        obtain ⟨hi3, hk3, e1, e2⟩ := hp
        obtain ⟨hr, hl3, hl4, hd4⟩ := fin none W3 e1 e2
        have hsz3 := hk3.bel.size
        have hsz2 := hk2.bel.size
        have hszl := lt_of_blk hl3
        exact ⟨_, _, hr, .inl ⟨rfl, ⟨hip _ _ _ _ (.inr rfl) hi3, hl4, hd4, by simp only [World.putObj_size]; omega⟩, Keep.putObj (hk2.trans hk3) (by omega) hl3 rfl _⟩⟩
      | ret =>
        obtain ⟨hi3, e1, e2⟩ := hp
        obtain ⟨hr, hl3, hl4, hd4⟩ := fin (some .ret) W3 e1 e2
        exact ⟨_, _, hr, .inr ⟨rfl, .ret, hix _ _ _ _ (.inr rfl) hi3, hl4, hd4⟩⟩
      | exit id =>
        obtain ⟨hi3, e1, e2⟩ := hp
        obtain ⟨hr, hl3, hl4, hd4⟩ := fin (some (.exit id)) W3 e1 e2
        exact ⟨_, _, hr, .inr ⟨rfl, .exit id, hix _ _ _ _ (.inr rfl) hi3, hl4, hd4⟩⟩
      | goto t => exact hp.elim
      | panic ch => exact hp.elim
      | outgrown => exact hp.elim
    · rintro e W2 ⟨⟨v, rfl⟩, (⟨hi9, hl, hd, _⟩ | ⟨p, c, hi9, hl, hd⟩)⟩
      · exact ⟨none, _, by have := run_endLoop (P := Tryd.prog) hl (by rw [hrec]; simp); rw [hrec] at this; exact this, hdone _ (hip _ _ _ _ (.inr rfl) hi9) ((World.putObj_heap_other (by omega)).trans hd)⟩
      · exact ⟨some c, _, by have := run_endLoop (P := Tryd.prog) hl (by rw [hrec]; simp); rw [hrec] at this; exact this, hstop c _ (hix _ _ _ _ (.inr rfl) hi9) ((World.putObj_heap_other (by omega)).trans hd)⟩
end Go.Proofs.YticlmkfifpkdpaaDoor.Rc
