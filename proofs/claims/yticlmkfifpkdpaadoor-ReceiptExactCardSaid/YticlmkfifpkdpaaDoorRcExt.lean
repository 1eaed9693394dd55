/-
  receipt.turns, earlier, later, extreme walked. receipt.extreme walked.
-/
import Derived.Test.YticlmkfifpkdpaaDoorRcIter
import Derived.Test.YticlmkfifpkdpaaDoorDlEval
namespace Go.Proofs.YticlmkfifpkdpaaDoor.Rc
open Go.RowKit Go.Shelf Mem Vw
open Zn (Zone ChRow loc localOf)
open Dl (When noev whenc)
set_option linter.unusedVariables false
set_option linter.unusedSimpArgs false
attribute [local go_sem] Oper.semAt_some

def zc (z : Zone) (A : Option Addr) (cap : Nat) : Array Value := #[.int .i64 z.off, .slice A z.chs.length cap]
theorem turns_any (z : Zone) (A : Option Addr) (cap : Nat) (gv : Bool) (lo hi : Int) (w : World) :
    Calls Tryd.prog 59 #[.agg #[.int .i64 z.off, .slice A z.chs.length cap], .agg #[.bool gv, .int .i64 lo, .int .i64 hi]] w fun e w' => e = .returned (.func (.func 89) #[] #[.pointer (some ⟨w.heap.size + 1, 0, none⟩), .pointer (some ⟨w.heap.size, 0, none⟩)]) ∧
      (w.alloc (.cells #[.int .i64 z.off, .slice A z.chs.length cap] 24)).alloc (.cells #[.bool gv, .int .i64 lo, .int .i64 hi] 82) = w' := by
  have hmf := Zn.mkFunc
  go_enter Tryd.func59, Tryd.ntmps59
  go_wp2_with fail
  go_ret
  exact ⟨rfl, rfl⟩
set_option maxRecDepth 100000 in
theorem earlier_any (a b : When) (w : World) : Calls Tryd.prog 40 #[.agg (whenc a).toArray, .agg (whenc b).toArray] w fun e w' => e = .returned (.bool (earlier a b)) ∧ Below w.heap.size w w' := by
  obtain ⟨ak, ad, am⟩ := a
  obtain ⟨bk, bd, bm⟩ := b
  show Calls Tryd.prog 40 #[.agg #[.bool ak, .int .i64 ad, .int .i64 am], .agg #[.bool bk, .int .i64 bd, .int .i64 bm]] w _
  have HE : Hid (earlier ⟨ak, ad, am⟩ ⟨bk, bd, bm⟩ = (decide (ad < bd) || (decide (ad = bd) && decide (am < bm)))) := rfl
  by_cases h1 : ad < bd
  · have HR : Hid (earlier ⟨ak, ad, am⟩ ⟨bk, bd, bm⟩ = true) := by show _ = _; rw [HE.out]; simp [h1]
    rw [HR.out]
    go_enter Tryd.func40, Tryd.ntmps40
    go_wp2_with fail
    go_ret
    exact ⟨rfl, ((Below.refl _ w).alloc (Nat.le_refl _) _).alloc (by simp) _⟩
  · by_cases h2 : ad = bd
    · subst h2
      by_cases h3 : am < bm
      · have HR : Hid (earlier ⟨ak, ad, am⟩ ⟨bk, ad, bm⟩ = true) := by show _ = _; rw [HE.out]; simp [h3]
        rw [HR.out]
        go_enter Tryd.func40, Tryd.ntmps40
        go_wp2_with fail
        go_ret
        exact ⟨rfl, ((Below.refl _ w).alloc (Nat.le_refl _) _).alloc (by simp) _⟩
      · have HR : Hid (earlier ⟨ak, ad, am⟩ ⟨bk, ad, bm⟩ = false) := by show _ = _; rw [HE.out]; simp [h3]
        have h3b : decide (am < bm) = false := decide_eq_false h3
        rw [HR.out]
        go_enter Tryd.func40, Tryd.ntmps40
        go_wp2_with fail
        go_ret
        exact ⟨rfl, ((Below.refl _ w).alloc (Nat.le_refl _) _).alloc (by simp) _⟩
    · have HR : Hid (earlier ⟨ak, ad, am⟩ ⟨bk, bd, bm⟩ = false) := by show _ = _; rw [HE.out]; simp [h1, h2]
      have h2b : (ad == bd) = false := beq_eq_false_iff_ne.2 h2
      rw [HR.out]
      go_enter Tryd.func40, Tryd.ntmps40
      go_wp2_with fail
      go_ret
      exact ⟨rfl, ((Below.refl _ w).alloc (Nat.le_refl _) _).alloc (by simp) _⟩
theorem later_any (a b : When) (w : World) : Calls Tryd.prog 41 #[.agg (whenc a).toArray, .agg (whenc b).toArray] w fun e w' => e = .returned (.bool (later a b)) ∧ Below w.heap.size w w' := by
  have HE : Hid (∀ Y, Calls Tryd.prog 40 #[.agg (whenc b).toArray, .agg (whenc a).toArray] Y fun e w' => e = .returned (.bool (later a b)) ∧ Below Y.heap.size Y w') := fun Y => earlier_any b a Y
  obtain ⟨ak, ad, am⟩ := a
  obtain ⟨bk, bd, bm⟩ := b
  show Calls Tryd.prog 41 #[.agg #[.bool ak, .int .i64 ad, .int .i64 am], .agg #[.bool bk, .int .i64 bd, .int .i64 bm]] w _
  obtain ⟨r, HR⟩ : ∃ r, Hid (later ⟨ak, ad, am⟩ ⟨bk, bd, bm⟩ = r) := ⟨_, rfl⟩
  rw [HR.out] at HE ⊢
  go_enter Tryd.func41, Tryd.ntmps41
  go_wp2_with fail
  refine (HE.out _).mono ?_
  rintro e w1 ⟨rfl, hb⟩
  have HB : Hid (Below w.heap.size w w1) := (((Below.refl _ w).alloc (Nat.le_refl _) _).alloc (by simp) _).trans (hb.mono (by simp; omega))
  clear hb
  go_wp2_with fail
  go_ret
  exact ⟨rfl, HB.out⟩
theorem results_cells2 {fn : Func} {r1 r2 : Nat} {T1 T2 : TypeId} (hf : fn.results = #[.cell r1 T1, .cell r2 T2]) {tmps : Array Value} {w : World} {a1 a2 : Addr} {v1 v2 : Value}
    (h1 : tmps.getD r1 undef = .pointer (some a1)) (h2 : tmps.getD r2 undef = .pointer (some a2))
    (l1 : (loadVar T1 a1).run Tryd.prog w = .ok v1 w) (l2 : (loadVar T2 a2).run Tryd.prog w = .ok v2 w) : (results fn tmps).run Tryd.prog w = .ok (.tuple #[v1, v2]) w := by
  have h1' : tmps[r1]?.getD undef = .pointer (some a1) := by simpa using h1
  have h2' : tmps[r2]?.getD undef = .pointer (some a2) := by simpa using h2
  unfold results
  rw [hf]
  simp [h1', h2', asAddr, l1, l2]
/-- What the boxes of extreme hold; R is the extreme time so far. -/
structure EI (W : World) (z : Zone) (A : Option Addr) (cap : Nat) (gv : Bool) (lo hi : Int) (F : FuncId) (B : Nat) (R : When) (X : World) : Prop where
  be : Below B W X
  zb : X.heap[B]? = some (.cells #[.int .i64 z.off, .slice A z.chs.length cap] 24 (0, 0))
  sb : X.heap[B + 1]? = some (.cells #[.bool gv, .int .i64 lo, .int .i64 hi] 82 (0, 0))
  fb : X.heap[B + 1 + 1]? = some (.cells #[.func (.func F) #[] #[]] 88 (0, 0))
  rw : X.heap[B + 1 + 1 + 1]? = some (.cells #[.bool false, .int .i64 0, .int .i64 0] 67 (0, 0))
  re : X.heap[B + 1 + 1 + 1 + 1]? = some (.cells #[.int .i64 0] 39 (0, 0))
  r : X.heap[B + 1 + 1 + 1 + 1 + 1]? = some (.cells (whenc R).toArray 67 (0, 0))
theorem EI.fr {W : World} {z : Zone} {A : Option Addr} {cap : Nat} {gv : Bool} {lo hi : Int} {F : FuncId} {B : Nat} {R : When} {X X' : World} (h : EI W z A cap gv lo hi F B R X) (hb : Fr (fun k => B + 1 + 1 + 1 + 1 + 1 < k) X X') : EI W z A cap gv lo hi F B R X' :=
  have hl := lt_of_blk h.r
  ⟨h.be.trans ⟨hb.os, hb.tape, hb.output, hb.size, fun k hk => hb.block k (by omega) (by omega)⟩, (hb.block _ (by omega) (by omega)).trans h.zb, (hb.block _ (by omega) (by omega)).trans h.sb, (hb.block _ (by omega) (by omega)).trans h.fb, (hb.block _ (by omega) (by omega)).trans h.rw, (hb.block _ (by omega) (by omega)).trans h.re, (hb.block _ (by omega) (by omega)).trans h.r⟩
theorem EI.below {W : World} {z : Zone} {A : Option Addr} {cap : Nat} {gv : Bool} {lo hi : Int} {F : FuncId} {B : Nat} {R : When} {X X' : World} (h : EI W z A cap gv lo hi F B R X) (hb : Below X.heap.size X X') : EI W z A cap gv lo hi F B R X' := h.fr (Fr.of_below hb)
theorem EI.set {W : World} {z : Zone} {A : Option Addr} {cap : Nat} {gv : Bool} {lo hi : Int} {F : FuncId} {B : Nat} {R R' : When} {X X' : World} (h : EI W z A cap gv lo hi F B R X) (hn : B ≤ B) (hb : Fr (fun k => k = B + 1 + 1 + 1 + 1 + 1) X X') (hr : X'.heap[B + 1 + 1 + 1 + 1 + 1]? = some (.cells (whenc R').toArray 67 (0, 0))) (hB : B ≤ W.heap.size) : EI W z A cap gv lo hi F B R' X' :=
  have hl := lt_of_blk h.r
  ⟨h.be.trans ⟨hb.os, hb.tape, hb.output, hb.size, fun k hk => hb.block k (by omega) (by omega)⟩, (hb.block _ (by omega) (by omega)).trans h.zb, (hb.block _ (by omega) (by omega)).trans h.sb, (hb.block _ (by omega) (by omega)).trans h.fb, (hb.block _ (by omega) (by omega)).trans h.rw, (hb.block _ (by omega) (by omega)).trans h.re, hr⟩
theorem fr_putObj {B i : Nat} (X : World) (o : Obj) (h : B < i) : Fr (fun k => B < k) X (X.putObj i o) :=
  ⟨rfl, rfl, rfl, by simp [World.putObj], fun k hk hs => World.putObj_heap_other (by omega)⟩
theorem zone_wf {z : Zone} (hv : Zn.valid z = true) : ∀ c ∈ z.chs, -1000000000000000000 ≤ c.1 ∧ c.1 ≤ 1000000000000000000 := by
  intro c hc
  obtain ⟨i, hi, rfl⟩ := List.getElem_of_mem hc
  have := Zn.okFrom_at 0 z.chs (Zn.valid_parts z hv).2.2 i hi
  omega
end Go.Proofs.YticlmkfifpkdpaaDoor.Rc
namespace Go.Proofs.YticlmkfifpkdpaaDoor.Rc
open Go.RowKit Go.Shelf Mem Vw
open Zn (Zone ChRow loc localOf)
open Dl (When noev whenc)
set_option linter.unusedVariables false
set_option linter.unusedSimpArgs false
attribute [local go_sem] Oper.semAt_some
/-- What a function that compares local times owes. -/
structure Cmp (F : FuncId) (cmp : When → When → Bool) : Prop where
  enter : ∀ args w, (callFunc F args).run Tryd.prog w = .ok (.enter F args) w
  call : ∀ a b Y, Calls Tryd.prog F #[.agg (whenc a).toArray, .agg (whenc b).toArray] Y fun e w' => e = .returned (.bool (cmp a b)) ∧ Below Y.heap.size Y w'
theorem cmp_earlier : Cmp 40 earlier := ⟨fun args w => by kernel_rfl, earlier_any⟩
theorem cmp_later : Cmp 41 later := ⟨fun args w => by kernel_rfl, later_any⟩
def exv (r : When × Int) : Value := .tuple #[.agg (whenc r.1).toArray, .int .i64 r.2]
/-- The loop's relation. -/
def EL (W : World) (z : Zone) (A : Option Addr) (cap : Nat) (gv : Bool) (lo hi : Int) (F : FuncId) (cmp : When → When → Bool) (p : List Int) (X : World) : Prop :=
  ∃ R, EI W z A cap gv lo hi F W.heap.size R X ∧ ∀ r, turnsL lo hi z.chs = p ++ r → exFrom z cmp noev (turnsL lo hi z.chs) = exFrom z cmp R r
/-- What stands when the loop is left. -/
def EX (W : World) (z : Zone) (lo hi : Int) (cmp : When → When → Bool) (c : Code) (X : World) : Prop :=
  c = .ret ∧ Below W.heap.size W X ∧ ∃ e, exFrom z cmp noev (turnsL lo hi z.chs) = (noev, e) ∧ X.heap[W.heap.size + 1 + 1 + 1]? = some (.cells #[.bool false, .int .i64 0, .int .i64 0] 67 (0, 0)) ∧ X.heap[W.heap.size + 1 + 1 + 1 + 1]? = some (.cells #[.int .i64 e] 39 (0, 0))
theorem res_ext {X : World} {B : Nat} {R : When} {e : Int} {tmps : Array Value} (h1 : tmps.getD 6 undef = .pointer (some ⟨B + 1 + 1 + 1, 0, none⟩)) (h2 : tmps.getD 7 undef = .pointer (some ⟨B + 1 + 1 + 1 + 1, 0, none⟩)) (c1 : X.heap[B + 1 + 1 + 1]? = some (.cells (whenc R).toArray 67 (0, 0))) (c2 : X.heap[B + 1 + 1 + 1 + 1]? = some (.cells #[.int .i64 e] 39 (0, 0))) :
    (results Tryd.f39 tmps).run Tryd.prog X = .ok (exv (R, e)) X :=
  results_cells2 rfl h1 h2 (run_loadVar_row (P := Tryd.prog) _ (B + 1 + 1 + 1) 67 67 _ (0, 0) _ c1 Tryd.underlying67 rfl (by kernel_rfl)) (Dl.load_errno (Mem.cell_of_blk c2 0))
set_option maxRecDepth 100000 in
set_option maxHeartbeats 8000000 in
theorem extreme_any (z : Zone) (A : Option Addr) (cap : Nat) (gv : Bool) (lo hi : Int) (F : FuncId) (cmp : When → When → Bool) (hcmp : Cmp F cmp) (W : World) (hv : Zn.valid z = true) (hrow : ChRow W A z.chs) :
    Calls Tryd.prog 39 #[.agg #[.int .i64 z.off, .slice A z.chs.length cap], .agg #[.bool gv, .int .i64 lo, .int .i64 hi], .func (.func F) #[] #[]] W fun e w' => e = .returned (exv (extreme z ⟨gv, lo, hi⟩ cmp)) ∧ Below W.heap.size W w' := by
  refine (callsIn_wide (n := 5)).1 ?_
  have HV := Lib.hid hv; have HROW := Lib.hid hrow; have HCMP := Lib.hid hcmp
  clear hv hrow hcmp
  obtain ⟨X0, HX0⟩ : ∃ X0, Hid ((((((W.alloc (.cells #[.int .i64 z.off, .slice A z.chs.length cap] 24)).alloc (.cells #[.bool gv, .int .i64 lo, .int .i64 hi] 82)).alloc (.cells #[.func (.func F) #[] #[]] 88)).alloc (.cells #[.bool false, .int .i64 0, .int .i64 0] 67)).alloc (.cells #[.int .i64 0] 39)).alloc (.cells #[.bool false, .int .i64 0, .int .i64 0] 67) = X0) := ⟨_, rfl⟩
  have HI0 : Hid (EI W z A cap gv lo hi F W.heap.size noev X0) := by
    rw [← HX0.out]
    refine ⟨(((((((Below.refl _ W).alloc (Nat.le_refl _) _).alloc (by simp) _).alloc (by simp; omega) _).alloc (by simp; omega) _).alloc (by simp; omega) _).alloc (by simp; omega) _), ?_, ?_, ?_, ?_, ?_, ?_⟩
    · exact blk_alloc (blk_alloc (blk_alloc (blk_alloc (blk_alloc (blk_newn rfl) _) _) _) _) _
    · exact blk_alloc (blk_alloc (blk_alloc (blk_alloc (blk_newn (by simp)) _) _) _) _
    · exact blk_alloc (blk_alloc (blk_alloc (blk_newn (by simp)) _) _) _
    · exact blk_alloc (blk_alloc (blk_newn (by simp)) _) _
    · exact blk_alloc (blk_newn (by simp)) _
    · exact blk_newn (by simp)
  have HSZ0 : Hid (X0.heap.size = W.heap.size + 6) := by show _ = _; rw [← HX0.out]; simp
  refine callsIn_of_wp_marks Tryd.func39 rfl trivial ?_ rfl
  simp only [Tryd.ntmps39, List.size_toArray, List.length_cons, List.length_nil, Nat.reduceAdd, Nat.reduceSub, Array.replicate_succ, Array.replicate_zero, List.push_toArray, List.append_toArray, List.nil_append, List.cons_append]
  gi_upto_region 2 with fail
  rw [HX0.out]
  clear HX0
  have s0 : X0.cell? ⟨W.heap.size + 1, 0, none⟩ = some (.bool gv) := Mem.cell_of_blk HI0.out.sb 0
  have s1 : X0.cell? ⟨W.heap.size + 1, 1, none⟩ = some (.int .i64 lo) := Mem.cell_of_blk HI0.out.sb 1
  have s2 : X0.cell? ⟨W.heap.size + 1, 2, none⟩ = some (.int .i64 hi) := Mem.cell_of_blk HI0.out.sb 2
  have z0 : X0.cell? ⟨W.heap.size, 0, none⟩ = some (.int .i64 z.off) := Mem.cell_of_blk HI0.out.zb 0
  have z1 : X0.cell? ⟨W.heap.size, 1, none⟩ = some (.slice A z.chs.length cap) := Mem.cell_of_blk HI0.out.zb 1
  have r0 : X0.cell? ⟨W.heap.size + 1 + 1 + 1 + 1 + 1, 0, none⟩ = some (.bool false) := Mem.cell_of_blk HI0.out.r 0
  have r1 : X0.cell? ⟨W.heap.size + 1 + 1 + 1 + 1 + 1, 1, none⟩ = some (.int .i64 0) := Mem.cell_of_blk HI0.out.r 1
  have r2 : X0.cell? ⟨W.heap.size + 1 + 1 + 1 + 1 + 1, 2, none⟩ = some (.int .i64 0) := Mem.cell_of_blk HI0.out.r 2
  cases gv
  · have k0 : X0.cell? ⟨W.heap.size + 1 + 1 + 1, 0, none⟩ = some (.bool false) := Mem.cell_of_blk HI0.out.rw 0
    have k1 : X0.cell? ⟨W.heap.size + 1 + 1 + 1, 1, none⟩ = some (.int .i64 0) := Mem.cell_of_blk HI0.out.rw 1
    have k2 : X0.cell? ⟨W.heap.size + 1 + 1 + 1, 2, none⟩ = some (.int .i64 0) := Mem.cell_of_blk HI0.out.rw 2
    have e0 : X0.cell? ⟨W.heap.size + 1 + 1 + 1 + 1, 0, none⟩ = some (.int .i64 0) := Mem.cell_of_blk HI0.out.re 0
    have f0 := Mem.froz_of_blk HI0.out.rw 0; have f1 := Mem.froz_of_blk HI0.out.rw 1; have f2 := Mem.froz_of_blk HI0.out.rw 2; have f3 := Mem.froz_of_blk HI0.out.re 0
    gi_wp2
    refine ⟨exv (noev, 0), res_ext (B := W.heap.size) (R := noev) (e := 0) rfl rfl ?_ ?_, rfl, ?_⟩
    · exact blk_farq (blk_set (blk_set (blk_set HI0.out.rw 0 _) 1 _) 2 _) (by omega) _
    · exact blk_set (blk_farq (blk_farq (blk_farq HI0.out.re (by omega) _) (by omega) _) (by omega) _) 0 _
    · exact (((HI0.out.be.setCell (by show W.heap.size ≤ W.heap.size + 1 + 1 + 1; omega) _).setCell (by show W.heap.size ≤ W.heap.size + 1 + 1 + 1; omega) _).setCell (by show W.heap.size ≤ W.heap.size + 1 + 1 + 1; omega) _).setCell (by show W.heap.size ≤ W.heap.size + 1 + 1 + 1 + 1; omega) _
  obtain ⟨w0, HW0⟩ : ∃ w0, Hid ((X0.alloc (.cells #[.int .i64 z.off, .slice A z.chs.length cap] 24)).alloc (.cells #[.bool true, .int .i64 lo, .int .i64 hi] 82) = w0) := ⟨_, rfl⟩
  have HB0 : Hid (Below X0.heap.size X0 w0) := by rw [← HW0.out]; exact ((Below.refl _ X0).alloc (Nat.le_refl _) _).alloc (by simp) _
  have HZ0 : Hid (w0.heap[X0.heap.size]? = some (.cells #[.int .i64 z.off, .slice A z.chs.length cap] 24 (0, 0))) := by rw [← HW0.out]; exact blk_alloc (blk_newn rfl) _
  have HS0 : Hid (w0.heap[X0.heap.size + 1]? = some (.cells #[.bool true, .int .i64 lo, .int .i64 hi] 82 (0, 0))) := by rw [← HW0.out]; exact blk_newn (by simp)
  have HI1 := Lib.hid (HI0.out.below HB0.out)
  gi_wp2_with fail
  refine ⟨trivial, (callsIn_wide.2 (turns_any z A cap true lo hi X0)).mono ?_⟩
  rintro e9 w9 ⟨rfl, hw9⟩
  rw [HW0.out] at hw9
  subst hw9
  clear s0 s1 s2 z0 z1 r0 r1 r2 HW0
  gi_wp2_with fail
  have hszw : X0.heap.size + 1 < w0.heap.size := lt_of_blk HS0.out
  have hsz5 := lt_of_blk HI0.out.r
  have hlew : W.heap.size ≤ w0.heap.size := by have := HSZ0.out; omega
  have HDW : Hid (W.heap.size + 1 + 1 + 1 + 1 + 1 + 1 + 1 < w0.heap.size) := by show _ < _; have := HSZ0.out; omega
  refine range_turns 5 (by omega) (X0.heap.size + 1) X0.heap.size W.heap.size true lo hi z A cap 21 9 rfl hlew HS0.out HZ0.out (HROW.out.below HI1.out.be) ?hrn ?hlen (zone_wf HV.out)
    (EL W z A cap true lo hi F cmp) (EX W z lo hi cmp) ?hia ?hip ?hix ?h0 ?hassign ?hbody ?hdone ?hstop
  case hrn =>
    intro g o e hp
    obtain ⟨g', o', hA, hg, _⟩ := HROW.out hp
    rw [e] at hA
    injection hA with hA
    injection hA with e1 _ _
    omega
  case hlen => have := (Zn.valid_parts z HV.out).1; omega
  case hia =>
    rintro p X o ⟨R, h1, h2⟩
    exact ⟨R, h1.below ((Below.refl _ X).alloc (Nat.le_refl _) o), h2⟩
  case hip =>
    rintro p X i o hi ⟨R, h1, h2⟩
    exact ⟨R, h1.fr (fr_putObj X o (by have := HDW.out; omega)), h2⟩
  case hix =>
    rintro c X i o hi ⟨h1, h2, e, h3, h4, h5⟩
    have hf := fr_putObj (B := W.heap.size + 1 + 1 + 1 + 1 + 1) X o (i := i) (by have := HDW.out; omega)
    exact ⟨h1, h2.trans ⟨rfl, rfl, rfl, hf.size, fun k hk => World.putObj_heap_other (by have := HDW.out; omega)⟩, e, h3, by rw [World.putObj_heap_other (by have := HDW.out; omega)]; exact h4, by rw [World.putObj_heap_other (by have := HDW.out; omega)]; exact h5⟩
  case h0 => exact ⟨noev, HI1.out, fun r hr => by rw [hr]; rfl⟩
  case hassign =>
    intro x X K hK
    gi_wp2
    exact hK
  case hbody =>
    rintro p x r X hpx ⟨R, hI, hR⟩ hDX
    have HDX := Lib.hid hDX; clear hDX
    have hR1 := hR (x :: r) hpx
    rw [exFrom_cons] at hR1
    have HI := Lib.hid hI; have HR1 := Lib.hid hR1; have HPX := Lib.hid hpx
    clear hI hR hR1 hpx
    have z0 : X.cell? ⟨W.heap.size, 0, none⟩ = some (.int .i64 z.off) := Mem.cell_of_blk HI.out.zb 0
    have z1 : X.cell? ⟨W.heap.size, 1, none⟩ = some (.slice A z.chs.length cap) := Mem.cell_of_blk HI.out.zb 1
    have HL := Lib.hid (Zn.local_any z A cap x X (by have := (Zn.valid_parts z HV.out).1; omega) (HROW.out.below HI.out.be))
    have HERR : Hid (err z x = (localOf z x).2.2) := rfl
    have HLW : Hid (lwhen z x = ⟨true, (localOf z x).1, (localOf z x).2.1⟩) := rfl
    obtain ⟨⟨d, mi, er⟩, HLO⟩ : ∃ q, Hid (localOf z x = q) := ⟨_, rfl⟩
    rw [HLO.out] at HL HERR HLW
    rw [HERR.out, HLW.out] at HR1
    clear HERR HLW
    gi_wp2_with fail
    refine ⟨(by first | trivial | (intro h; cases h; trivial)), CallsIn.mono (CallsIn.inRound _ ((callsIn_wide (n := _)).2 HL.out)) ?_⟩
    rintro e8 X1 ⟨rfl, hb1⟩
    dsimp only
    have HI2 := Lib.hid (HI.out.below hb1)
    have HB1 := Lib.hid hb1
    clear hb1 z0 z1 HL
    by_cases her : er = 0
    case neg =>
      have herb : (er != 0) = true := by simpa using her
      have k0 : X1.cell? ⟨W.heap.size + 1 + 1 + 1, 0, none⟩ = some (.bool false) := Mem.cell_of_blk HI2.out.rw 0
      have k1 : X1.cell? ⟨W.heap.size + 1 + 1 + 1, 1, none⟩ = some (.int .i64 0) := Mem.cell_of_blk HI2.out.rw 1
      have k2 : X1.cell? ⟨W.heap.size + 1 + 1 + 1, 2, none⟩ = some (.int .i64 0) := Mem.cell_of_blk HI2.out.rw 2
      have e0 : X1.cell? ⟨W.heap.size + 1 + 1 + 1 + 1, 0, none⟩ = some (.int .i64 0) := Mem.cell_of_blk HI2.out.re 0
      have f0 := Mem.froz_of_blk HI2.out.rw 0; have f1 := Mem.froz_of_blk HI2.out.rw 1; have f2 := Mem.froz_of_blk HI2.out.rw 2; have f3 := Mem.froz_of_blk HI2.out.re 0
      have HNO : Hid (exFrom z cmp noev (turnsL lo hi z.chs) = (noev, er)) := by show _ = _; rw [HR1.out, if_pos her]
      gi_wp2_with fail
      have hd1 := HDX.out
      have hd2 := HDW.out
      refine ⟨⟨rfl, ?_, er, HNO.out, ?_, ?_⟩, ?_, ?_⟩
      · exact (((HI2.out.be.setCell (by show W.heap.size ≤ W.heap.size + 1 + 1 + 1; omega) _).setCell (by show W.heap.size ≤ W.heap.size + 1 + 1 + 1; omega) _).setCell (by show W.heap.size ≤ W.heap.size + 1 + 1 + 1; omega) _).setCell (by show W.heap.size ≤ W.heap.size + 1 + 1 + 1 + 1; omega) _
      · exact blk_farq (blk_set (blk_set (blk_set HI2.out.rw 0 _) 1 _) 2 _) (by omega) _
      · exact blk_set (blk_farq (blk_farq (blk_farq HI2.out.re (by omega) _) (by omega) _) (by omega) _) 0 _
      · rw [Below.heap_setCell _ _ _ _ (by show _ ≠ W.heap.size + 1 + 1 + 1 + 1; omega), Below.heap_setCell _ _ _ _ (by show _ ≠ W.heap.size + 1 + 1 + 1; omega), Below.heap_setCell _ _ _ _ (by show _ ≠ W.heap.size + 1 + 1 + 1; omega), Below.heap_setCell _ _ _ _ (by show _ ≠ W.heap.size + 1 + 1 + 1; omega)]
        exact HB1.out.block _ (by omega)
      · rw [Below.heap_setCell _ _ _ _ (by show _ ≠ W.heap.size + 1 + 1 + 1 + 1; omega), Below.heap_setCell _ _ _ _ (by show _ ≠ W.heap.size + 1 + 1 + 1; omega), Below.heap_setCell _ _ _ _ (by show _ ≠ W.heap.size + 1 + 1 + 1; omega), Below.heap_setCell _ _ _ _ (by show _ ≠ W.heap.size + 1 + 1 + 1; omega)]
        exact HB1.out.block _ (by omega)
    subst her
    rw [if_neg (by decide)] at HR1
    obtain ⟨rk, rd, rm⟩ := R
    obtain ⟨X2, HX2⟩ : ∃ X2, Hid (X1.alloc (.cells #[.bool true, .int .i64 d, .int .i64 mi] 67) = X2) := ⟨_, rfl⟩
    have HX12 : Hid (Below X1.heap.size X1 X2) := by rw [← HX2.out]; exact (Below.refl _ X1).alloc (Nat.le_refl _) _
    have HX02 : Hid (Below X.heap.size X X2) := HB1.out.trans (HX12.out.mono HB1.out.size)
    have HWB : Hid (X2.heap[X1.heap.size]? = some (.cells #[.bool true, .int .i64 d, .int .i64 mi] 67 (0, 0))) := by rw [← HX2.out]; exact blk_newn rfl
    have HI3 := Lib.hid (HI2.out.below HX12.out)
    have HSTEP : Hid (step cmp ⟨rk, rd, rm⟩ ⟨true, d, mi⟩ = if !rk || cmp ⟨true, d, mi⟩ ⟨rk, rd, rm⟩ then ⟨true, d, mi⟩ else ⟨rk, rd, rm⟩) := rfl
    have HSETF : Hid (∀ X3, Below X2.heap.size X2 X3 → step cmp ⟨rk, rd, rm⟩ ⟨true, d, mi⟩ = ⟨true, d, mi⟩ → ∀ a, RoundPost W.heap.size w0.heap.size (EL W z A cap true lo hi F cmp (p ++ [x])) (EX W z lo hi cmp) X .normal a (((X3.setCell ⟨W.heap.size + 1 + 1 + 1 + 1 + 1, 0, none⟩ (.bool true)).setCell ⟨W.heap.size + 1 + 1 + 1 + 1 + 1, 1, none⟩ (.int .i64 d)).setCell ⟨W.heap.size + 1 + 1 + 1 + 1 + 1, 2, none⟩ (.int .i64 mi))) := by
      intro X3 hb hs a
      have h3 := HI3.out.below hb
      have hd1 := HDX.out
      have hd2 := HDW.out
      have hb0 : Below X.heap.size X X3 := HX02.out.trans (hb.mono HX02.out.size)
      refine ⟨⟨⟨true, d, mi⟩, h3.set (Nat.le_refl _) (((Fr.refl _ X3).setb 0 _).setb 1 _ |>.setb 2 _) (blk_set (blk_set (blk_set h3.r 0 _) 1 _) 2 _) (Nat.le_refl _), fun q hq => ?_⟩, ?_, ?_, ?_⟩
      · have hpx := HPX.out
        have hq2 := hq
        rw [hpx, List.append_assoc] at hq2
        have : x :: r = x :: q := List.append_cancel_left hq2
        injection this with _ this
        subst this
        rw [HR1.out, hs]
      · refine (((Keep.below hb0 (by omega)).set (i := 0) (by omega) h3.r (by decide) _).set (i := 1) (by omega) (blk_set h3.r 0 _) (by decide) _).set (i := 2) (by omega) (blk_set (blk_set h3.r 0 _) 1 _) (by decide) _
      · rw [Below.heap_setCell _ _ _ _ (by show _ ≠ W.heap.size + 1 + 1 + 1 + 1 + 1; omega), Below.heap_setCell _ _ _ _ (by show _ ≠ W.heap.size + 1 + 1 + 1 + 1 + 1; omega), Below.heap_setCell _ _ _ _ (by show _ ≠ W.heap.size + 1 + 1 + 1 + 1 + 1; omega)]
        exact hb0.block _ (by omega)
      · rw [Below.heap_setCell _ _ _ _ (by show _ ≠ W.heap.size + 1 + 1 + 1 + 1 + 1; omega), Below.heap_setCell _ _ _ _ (by show _ ≠ W.heap.size + 1 + 1 + 1 + 1 + 1; omega), Below.heap_setCell _ _ _ _ (by show _ ≠ W.heap.size + 1 + 1 + 1 + 1 + 1; omega)]
        exact hb0.block _ (by omega)
    have HKEEPF : Hid (∀ X3, Below X2.heap.size X2 X3 → step cmp ⟨rk, rd, rm⟩ ⟨true, d, mi⟩ = ⟨rk, rd, rm⟩ → ∀ a, RoundPost W.heap.size w0.heap.size (EL W z A cap true lo hi F cmp (p ++ [x])) (EX W z lo hi cmp) X .normal a X3) := by
      intro X3 hb hs a
      have h3 := HI3.out.below hb
      have hd1 := HDX.out
      have hd2 := HDW.out
      have hb0 : Below X.heap.size X X3 := HX02.out.trans (hb.mono HX02.out.size)
      refine ⟨⟨⟨rk, rd, rm⟩, h3, fun q hq => ?_⟩, Keep.below hb0 (by omega), hb0.block _ (by omega), hb0.block _ (by omega)⟩
      have hpx := HPX.out
      have hq2 := hq
      rw [hpx, List.append_assoc] at hq2
      have : x :: r = x :: q := List.append_cancel_left hq2
      injection this with _ this
      subst this
      rw [HR1.out, hs]
    have a0 : X2.cell? ⟨X1.heap.size, 0, none⟩ = some (.bool true) := Mem.cell_of_blk HWB.out 0
    have a1 : X2.cell? ⟨X1.heap.size, 1, none⟩ = some (.int .i64 d) := Mem.cell_of_blk HWB.out 1
    have a2 : X2.cell? ⟨X1.heap.size, 2, none⟩ = some (.int .i64 mi) := Mem.cell_of_blk HWB.out 2
    have b0 : X2.cell? ⟨W.heap.size + 1 + 1 + 1 + 1 + 1, 0, none⟩ = some (.bool rk) := Mem.cell_of_blk HI3.out.r 0
    have b1 : X2.cell? ⟨W.heap.size + 1 + 1 + 1 + 1 + 1, 1, none⟩ = some (.int .i64 rd) := Mem.cell_of_blk HI3.out.r 1
    have b2 : X2.cell? ⟨W.heap.size + 1 + 1 + 1 + 1 + 1, 2, none⟩ = some (.int .i64 rm) := Mem.cell_of_blk HI3.out.r 2
    have ff : X2.cell? ⟨W.heap.size + 1 + 1, 0, none⟩ = some (.func (.func F) #[] #[]) := Mem.cell_of_blk HI3.out.fb 0
    gi_upto_region 10 with fail
    rw [HX2.out]
    clear HX2
    cases rk
    · have hs : step cmp ⟨false, rd, rm⟩ ⟨true, d, mi⟩ = ⟨true, d, mi⟩ := rfl
      have HS := Lib.hid hs
      have g0 := Mem.froz_of_blk HI3.out.r 0; have g1 := Mem.froz_of_blk HI3.out.r 1; have g2 := Mem.froz_of_blk HI3.out.r 2
      clear hs ff
      gi_wp2_with fail
      refine ⟨(by intro f hf; cases hf), ?_⟩
      gi_wp2_with fail
      exact HSETF.out X2 (Below.refl _ _) HS.out _
    · have hen := HCMP.out.enter
      have HCL := Lib.hid (HCMP.out.call ⟨true, d, mi⟩ ⟨true, rd, rm⟩ X2)
      obtain ⟨cr, HCR⟩ : ∃ cr, Hid (cmp ⟨true, d, mi⟩ ⟨true, rd, rm⟩ = cr) := ⟨_, rfl⟩
      rw [HCR.out] at HCL HSTEP
      have HCL : Hid (Calls Tryd.prog F #[.agg #[.bool true, .int .i64 d, .int .i64 mi], .agg #[.bool true, .int .i64 rd, .int .i64 rm]] X2 fun e w' => e = .returned (.bool cr) ∧ Below X2.heap.size X2 w') := HCL.out
      gi_wp2_with fail
      refine ⟨(by first | trivial | (intro h; cases h; trivial)), CallsIn.mono (CallsIn.inRound _ ((callsIn_wide (n := _)).2 HCL.out)) ?_⟩
      rintro e7 X3 ⟨rfl, hb3⟩
      have HI4 := Lib.hid (HI3.out.below hb3)
      have hw3 := (hb3.block _ (lt_of_blk HWB.out)).trans HWB.out
      have HB3 := Lib.hid hb3
      clear hb3 a0 a1 a2 b0 b1 b2 ff HCL hen
      cases cr
      · gi_wp2_with fail
        exact HKEEPF.out X3 HB3.out (by rw [HSTEP.out]; rfl) _
      · have a0 : X3.cell? ⟨X1.heap.size, 0, none⟩ = some (.bool true) := Mem.cell_of_blk hw3 0
        have a1 : X3.cell? ⟨X1.heap.size, 1, none⟩ = some (.int .i64 d) := Mem.cell_of_blk hw3 1
        have a2 : X3.cell? ⟨X1.heap.size, 2, none⟩ = some (.int .i64 mi) := Mem.cell_of_blk hw3 2
        have b0 : X3.cell? ⟨W.heap.size + 1 + 1 + 1 + 1 + 1, 0, none⟩ = some (.bool true) := Mem.cell_of_blk HI4.out.r 0
        have b1 : X3.cell? ⟨W.heap.size + 1 + 1 + 1 + 1 + 1, 1, none⟩ = some (.int .i64 rd) := Mem.cell_of_blk HI4.out.r 1
        have b2 : X3.cell? ⟨W.heap.size + 1 + 1 + 1 + 1 + 1, 2, none⟩ = some (.int .i64 rm) := Mem.cell_of_blk HI4.out.r 2
        have g0 := Mem.froz_of_blk HI4.out.r 0; have g1 := Mem.froz_of_blk HI4.out.r 1; have g2 := Mem.froz_of_blk HI4.out.r 2
        clear hw3
        gi_wp2_with fail
        exact HSETF.out X3 HB3.out (by rw [HSTEP.out]; rfl) _
  case hdone =>
    rintro X ⟨R, hI, hR⟩ hD
    have hR0 := hR [] (by simp)
    have HRE : Hid (extreme z ⟨true, lo, hi⟩ cmp = (R, 0)) := hR0
    have HI := Lib.hid hI; have HD := Lib.hid hD
    clear hI hR hR0 hD
    obtain ⟨rk, rd, rm⟩ := R
    have hd2 := HDW.out
    have HLX : Hid (w0.heap.size < X.heap.size) := lt_of_blk HD.out
    have b0 : X.cell? ⟨W.heap.size + 1 + 1 + 1 + 1 + 1, 0, none⟩ = some (.bool rk) := Mem.cell_of_blk HI.out.r 0
    have b1 : X.cell? ⟨W.heap.size + 1 + 1 + 1 + 1 + 1, 1, none⟩ = some (.int .i64 rd) := Mem.cell_of_blk HI.out.r 1
    have b2 : X.cell? ⟨W.heap.size + 1 + 1 + 1 + 1 + 1, 2, none⟩ = some (.int .i64 rm) := Mem.cell_of_blk HI.out.r 2
    have k0 : X.cell? ⟨W.heap.size + 1 + 1 + 1, 0, none⟩ = some (.bool false) := Mem.cell_of_blk HI.out.rw 0
    have k1 : X.cell? ⟨W.heap.size + 1 + 1 + 1, 1, none⟩ = some (.int .i64 0) := Mem.cell_of_blk HI.out.rw 1
    have k2 : X.cell? ⟨W.heap.size + 1 + 1 + 1, 2, none⟩ = some (.int .i64 0) := Mem.cell_of_blk HI.out.rw 2
    have e0 : X.cell? ⟨W.heap.size + 1 + 1 + 1 + 1, 0, none⟩ = some (.int .i64 0) := Mem.cell_of_blk HI.out.re 0
    have f0 := Mem.froz_of_blk HI.out.rw 0; have f1 := Mem.froz_of_blk HI.out.rw 1; have f2 := Mem.froz_of_blk HI.out.rw 2; have f3 := Mem.froz_of_blk HI.out.re 0
    have HLD := Lib.hid hd2; clear hd2
    gi_wp2
    have hd2 := HLD.out
    refine ⟨by simp, .inl ⟨_, _, rfl, run_takeDeferred (blk_farq (blk_farq (blk_farq (blk_farq HD.out (by omega) _) (by omega) _) (by omega) _) (by omega) _), ?_⟩⟩
    refine ⟨exv (⟨rk, rd, rm⟩, 0), res_ext (B := W.heap.size) (R := ⟨rk, rd, rm⟩) (e := 0) rfl rfl ?_ ?_, by rw [HRE.out], ?_⟩
    · rw [World.putObj_heap_other (by omega)]
      exact blk_farq (blk_set (blk_set (blk_set HI.out.rw 0 _) 1 _) 2 _) (by omega) _
    · rw [World.putObj_heap_other (by omega)]
      exact blk_set (blk_farq (blk_farq (blk_farq HI.out.re (by omega) _) (by omega) _) (by omega) _) 0 _
    · exact ((((HI.out.be.setCell (by show W.heap.size ≤ W.heap.size + 1 + 1 + 1; omega) _).setCell (by show W.heap.size ≤ W.heap.size + 1 + 1 + 1; omega) _).setCell (by show W.heap.size ≤ W.heap.size + 1 + 1 + 1; omega) _).setCell (by show W.heap.size ≤ W.heap.size + 1 + 1 + 1 + 1; omega) _).trans (Zn.below_putObj _ _ (by omega) (by simp only [World.size_setCell]; exact HLX.out))
  case hstop =>
    rintro c X ⟨rfl, hbe, e, hE, h4, h5⟩ hD
    have HRE : Hid (extreme z ⟨true, lo, hi⟩ cmp = (noev, e)) := hE
    have HBE := Lib.hid hbe; have H4 := Lib.hid h4; have H5 := Lib.hid h5; have HD := Lib.hid hD
    clear hbe hE h4 h5 hD
    have HLX : Hid (w0.heap.size < X.heap.size) := lt_of_blk HD.out
    gi_wp2
    have hd2 := HDW.out
    refine ⟨by simp, .inl ⟨_, _, rfl, run_takeDeferred HD.out, ?_⟩⟩
    refine ⟨exv (noev, e), res_ext (B := W.heap.size) (R := noev) (e := e) rfl rfl ?_ ?_, by rw [HRE.out], ?_⟩
    · rw [World.putObj_heap_other (by omega)]; exact H4.out
    · rw [World.putObj_heap_other (by omega)]; exact H5.out
    · exact HBE.out.trans (Zn.below_putObj _ _ (by omega) HLX.out)
end Go.Proofs.YticlmkfifpkdpaaDoor.Rc
