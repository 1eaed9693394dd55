/-
  The parser in memory; what its methods ok, fail, is and isKind return.
-/
import Derived.Test.YtfaflipphkoiiaaDoorMem
import Derived.Test.YtfaflipphkoiiaaDoorParPlain
import Derived.Test.YtfaflipphkoiiaaDoorProg
import Derived.Outline
import Derived.WalkLawsBesides
import Derived.RegionTactic
import Derived.ChangeAlike
import Derived.BigRegion
import Derived.Deep.RegionHeld3
import Derived.Deep.DrawnRows
namespace Go.Proofs.YtfaflipphkoiiaaDoor.Pr
open Go.RowKit Mem
open Lx (Tok)
set_option linter.unusedVariables false

/-- What a run of the parser has: the tokens, where they lie, the size of the text. -/
structure Env where
  ts : List Tok
  A : Option Addr
  cap : Nat
  size : Nat

/-- The days of the week, as the package's variable holds them. -/
def wdays : List Bytes := [[109, 111, 110], [116, 117, 101], [119, 101, 100], [116, 104, 117], [102, 114, 105], [115, 97, 116], [115, 117, 110]]
/-- The package's variable holds the days of the week. -/
def Wk (W : World) : Prop := ∀ i x, wdays[i]? = some x → W.cell? ⟨0, i, none⟩ = some (.string ⟨x.toArray⟩)
/-- The tokens lie in memory, in a block below a number. -/
def PTok (E : Env) (b : Nat) (W : World) : Prop := (0 < b ∧ Wk W) ∧ (
  0 < E.ts.length → ∃ g o, E.A = some ⟨g, o, none⟩ ∧ g < b ∧ ∀ i (h : i < E.ts.length), W.cell? ⟨g, o + i * 4, none⟩ = some (.int .i64 (E.ts[i].kind : Int)) ∧ W.cell? ⟨g, o + i * 4 + 1, none⟩ = some (.string ⟨E.ts[i].text.toArray⟩) ∧
    W.cell? ⟨g, o + i * 4 + 2, none⟩ = some (.int .i64 (E.ts[i].n : Int)) ∧ W.cell? ⟨g, o + i * 4 + 3, none⟩ = some (.int .i64 (E.ts[i].pos : Int)))

def pcells (E : Env) (n : Nat) (s : St) : Array Value := #[.slice E.A E.ts.length E.cap, .int .i64 (n : Int), .int .i64 (E.size : Int), .int .i64 (s.items : Int), .int .i64 (s.err : Int), .int .i64 (atOf E.size s : Int)]

/-- The parser lies in a block, in a state. -/
def PW (E : Env) (b : Nat) (s : St) (W : World) : Prop :=
  E.ts.length ≤ 5000 ∧ s.items ≤ 600 ∧ b < W.heap.size ∧ PTok E b W ∧ ∃ n, n ≤ E.ts.length ∧ s.rest = E.ts.drop n ∧ W.heap[b]? = some (.cells (pcells E n s) 67 (0, 0))

theorem PTok.fr {E : Env} {b : Nat} {W W' : World} {S : Nat → Prop} (h : PTok E b W) (hl : b < W.heap.size) (hf : Fr S W W') (hS : ∀ k, k < b → ¬ S k) : PTok E b W' := by
  refine ⟨⟨h.1.1, fun i x hx => (World.cell?_of_block (a := ⟨0, i, none⟩) (hf.block _ (Nat.lt_trans h.1.1 hl) (hS _ h.1.1))).trans (h.1.2 i x hx)⟩, ?_⟩
  intro hp
  obtain ⟨g, o, hA, hg, hc⟩ := h.2 hp
  have hb : W'.heap[g]? = W.heap[g]? := hf.block g (by omega) (hS g hg)
  refine ⟨g, o, hA, hg, fun i hi => ?_⟩
  obtain ⟨a0, a1, a2, a3⟩ := hc i hi
  exact ⟨(World.cell?_of_block hb).trans a0, (World.cell?_of_block hb).trans a1, (World.cell?_of_block hb).trans a2, (World.cell?_of_block hb).trans a3⟩
theorem PW.fr {E : Env} {b : Nat} {s : St} {W W' : World} {S : Nat → Prop} (h : PW E b s W) (hf : Fr S W W') (hS : ∀ k, k ≤ b → ¬ S k) : PW E b s W' := by
  obtain ⟨h1, h2, h3, h4, n, h5, h6, h7⟩ := h
  exact ⟨h1, h2, Nat.lt_of_lt_of_le h3 hf.size, h4.fr h3 hf (fun k hk => hS k (by omega)), n, h5, h6, hf.blk h7 (hS b (Nat.le_refl _))⟩
theorem PW.drewN {E : Env} {b : Nat} {s : St} {W : World} (h : PW E b s W) (n : Nat) : PW E b s (W.drewN n) := h.fr (S := fun _ => False) ((Fr.refl _ _).drewN n) (fun _ _ h => h)

/-- The cells of the parser's block. -/
theorem PW.cells {E : Env} {b : Nat} {s : St} {W : World} (h : PW E b s W) : ∃ n, n ≤ E.ts.length ∧ s.rest = E.ts.drop n ∧ W.cell? ⟨b, 0, none⟩ = some (.slice E.A E.ts.length E.cap) ∧ W.cell? ⟨b, 1, none⟩ = some (.int .i64 (n : Int)) ∧ W.cell? ⟨b, 2, none⟩ = some (.int .i64 (E.size : Int)) ∧
    W.cell? ⟨b, 3, none⟩ = some (.int .i64 (s.items : Int)) ∧ W.cell? ⟨b, 4, none⟩ = some (.int .i64 (s.err : Int)) ∧ W.cell? ⟨b, 5, none⟩ = some (.int .i64 (atOf E.size s : Int)) := by
  obtain ⟨_, _, _, _, n, h1, h2, h3⟩ := h
  exact ⟨n, h1, h2, cell_of_blk h3 0, cell_of_blk h3 1, cell_of_blk h3 2, cell_of_blk h3 3, cell_of_blk h3 4, cell_of_blk h3 5⟩
theorem drop_cons {ts r : List Tok} {n : Nat} {t : Tok} (h : t :: r = ts.drop n) : ∃ hn : n < ts.length, ts[n] = t ∧ r = ts.drop (n + 1) := by
  have hn : n < ts.length := by
    rcases Nat.lt_or_ge n ts.length with h1 | h1
    · exact h1
    · rw [List.drop_eq_nil_of_le h1] at h; cases h
  rw [List.drop_eq_getElem_cons hn] at h
  injection h with h1 h2
  exact ⟨hn, h1.symm, h2⟩
theorem drop_nil {ts : List Tok} {n : Nat} (h : [] = ts.drop n) (hn : n ≤ ts.length) : n = ts.length := by
  have := congrArg List.length h
  simp at this
  omega

theorem ok_any (E : Env) (b : Nat) (s : St) (W : World) (h : PW E b s W) :
    Calls Tryd.prog 38 #[.pointer (some ⟨b, 0, none⟩)] W fun e w' => e = .returned (.bool (s.err == 0)) ∧ w' = W := by
  obtain ⟨n, h1, h2, c0, c1, c2, c3, c4, c5⟩ := h.cells
  have HP := Lib.hid h; clear h h1 h2
  go_enter Tryd.func38, Tryd.ntmps38
  go_wp2_with fail
  go_ret
  exact ⟨ret_bool (by rw [Bool.eq_iff_iff]; simp), rfl⟩
theorem ok_yes (E : Env) (b : Nat) (s : St) (W : World) (h : PW E b s W) (he : s.err = 0) :
    Calls Tryd.prog 38 #[.pointer (some ⟨b, 0, none⟩)] W fun e w' => e = .returned (.bool true) ∧ w' = W := by
  have := ok_any E b s W h; rw [he] at this; exact this
theorem ok_no (E : Env) (b : Nat) (s : St) (W : World) (h : PW E b s W) (he : s.err ≠ 0) :
    Calls Tryd.prog 38 #[.pointer (some ⟨b, 0, none⟩)] W fun e w' => e = .returned (.bool false) ∧ w' = W := by
  have := ok_any E b s W h; rw [beq_eq_false_iff_ne.2 he] at this; exact this

set_option maxHeartbeats 2000000 in
theorem is_any (E : Env) (b : Nat) (s : St) (x : Bytes) (W : World) (h : PW E b s W) :
    Calls Tryd.prog 87 #[.pointer (some ⟨b, 0, none⟩), .string ⟨x.toArray⟩] W fun e w' => e = .returned (.bool (isT x s)) ∧ ∃ m, w' = W.drewN m := by
  obtain ⟨n, h1, h2, c0, c1, c2, c3, c4, c5⟩ := h.cells
  have hl := h.1
  have HP := Lib.hid h; clear h
  by_cases he : s.err = 0
  · cases hr : s.rest with
    | nil =>
      have hv : isT x s = false := by simp [isT, hr]
      rw [hr] at h2
      have hn := drop_nil h2 h1
      rw [hv]
      have HE := Lib.hid he; clear he
      have HR := Lib.hid hr; clear hr hv h2
      have hlt : decide (n < E.ts.length) = false := decide_eq_false (by omega)
      have HN := Lib.hid hn; clear hn
      go_enter Tryd.func87, Tryd.ntmps87
      go_wp2_with fail
      go_quiet ((go_at_call 38; exact Calls.quiet_of_same (ok_yes E b s _ (HP.out.drewN _) HE.out)))
      go_wp2_with fail
      go_ret
      exact ⟨rfl, _, rfl⟩
    | cons t r =>
      rw [hr] at h2
      obtain ⟨hn, ht, hr2⟩ := drop_cons h2
      obtain ⟨g, o, hA, hg, hc⟩ := HP.out.2.2.2.1.2 (by omega)
      obtain ⟨q0, q1, q2, q3⟩ := hc n hn
      have hv : isT x s = (t.text == x) := by simp [isT, hr, he]
      rw [hv]
      rw [ht] at q0 q1 q2 q3
      have HE := Lib.hid he; clear he
      have HR := Lib.hid hr; clear hr hv h2 hr2 ht hc
      rw [hA] at c0
      have i1 : (0 : Int) ≤ (n : Int) := Int.natCast_nonneg _
      have i2 : (n : Int) < (E.ts.length : Int) := by omega
      have HA := Lib.hid hA; clear hA
      go_enter Tryd.func87, Tryd.ntmps87
      go_wp2_with fail
      go_quiet ((go_at_call 38; exact Calls.quiet_of_same (ok_yes E b s _ (HP.out.drewN _) HE.out)))
      go_wp2_with fail
      go_ret
      exact ⟨rfl, _, rfl⟩
  · have hv : isT x s = false := by simp [isT, he]
    rw [hv]
    have HE := Lib.hid he; clear he hv
    go_enter Tryd.func87, Tryd.ntmps87
    go_wp2_with fail
    go_quiet ((go_at_call 38; exact Calls.quiet_of_same (ok_no E b s _ (HP.out.drewN _) HE.out)))
    go_wp2_with fail
    go_ret
    exact ⟨rfl, _, rfl⟩
set_option maxHeartbeats 2000000 in
theorem isKind_any (E : Env) (b : Nat) (s : St) (x : Nat) (W : World) (h : PW E b s W) :
    Calls Tryd.prog 70 #[.pointer (some ⟨b, 0, none⟩), .int .i64 (x : Int)] W fun e w' => e = .returned (.bool (isK x s)) ∧ ∃ m, w' = W.drewN m := by
  obtain ⟨n, h1, h2, c0, c1, c2, c3, c4, c5⟩ := h.cells
  have hl := h.1
  have HP := Lib.hid h; clear h
  by_cases he : s.err = 0
  · cases hr : s.rest with
    | nil =>
      have hv : isK x s = false := by simp [isK, hr]
      rw [hr] at h2
      have hn := drop_nil h2 h1
      rw [hv]
      have HE := Lib.hid he; clear he
      have HR := Lib.hid hr; clear hr hv h2
      have hlt : decide (n < E.ts.length) = false := decide_eq_false (by omega)
      have HN := Lib.hid hn; clear hn
      go_enter Tryd.func70, Tryd.ntmps70
      go_wp2_with fail
      go_quiet ((go_at_call 38; exact Calls.quiet_of_same (ok_yes E b s _ (HP.out.drewN _) HE.out)))
      go_wp2_with fail
      go_ret
      exact ⟨rfl, _, rfl⟩
    | cons t r =>
      rw [hr] at h2
      obtain ⟨hn, ht, hr2⟩ := drop_cons h2
      obtain ⟨g, o, hA, hg, hc⟩ := HP.out.2.2.2.1.2 (by omega)
      obtain ⟨q0, q1, q2, q3⟩ := hc n hn
      have hv : isK x s = (t.kind == x) := by simp [isK, hr, he]
      rw [hv]
      rw [ht] at q0 q1 q2 q3
      have HE := Lib.hid he; clear he
      have HR := Lib.hid hr; clear hr hv h2 hr2 ht hc
      rw [hA] at c0
      have i1 : (0 : Int) ≤ (n : Int) := Int.natCast_nonneg _
      have i2 : (n : Int) < (E.ts.length : Int) := by omega
      have HA := Lib.hid hA; clear hA
      go_enter Tryd.func70, Tryd.ntmps70
      go_wp2_with fail
      go_quiet ((go_at_call 38; exact Calls.quiet_of_same (ok_yes E b s _ (HP.out.drewN _) HE.out)))
      go_wp2_with fail
      go_ret
      exact ⟨ret_bool (by rw [Bool.eq_iff_iff]; simp; omega), _, rfl⟩
  · have hv : isK x s = false := by simp [isK, he]
    rw [hv]
    have HE := Lib.hid he; clear he hv
    go_enter Tryd.func70, Tryd.ntmps70
    go_wp2_with fail
    go_quiet ((go_at_call 38; exact Calls.quiet_of_same (ok_no E b s _ (HP.out.drewN _) HE.out)))
    go_wp2_with fail
    go_ret
    exact ⟨rfl, _, rfl⟩

theorem mod_PW {E : Env} {b : Nat} {s : St} {W : World} (h : PW E b s W) {s' : St} {n' : Nat} {W' : World} (hf : Fr (fun k => k = b) W W') (hi : s'.items ≤ 600) (hn : n' ≤ E.ts.length) (hr : s'.rest = E.ts.drop n')
    (hb : W'.heap[b]? = some (.cells (pcells E n' s') 67 (0, 0))) : PW E b s' W' :=
  ⟨h.1, hi, Nat.lt_of_lt_of_le h.2.2.1 hf.size, h.2.2.2.1.fr h.2.2.1 hf (fun k hk e => by omega), n', hn, hr, hb⟩

theorem set_err {E : Env} {b n : Nat} {s : St} {W : World} (h : W.heap[b]? = some (.cells (pcells E n s) 67 (0, 0))) (er a : Nat) (s' : St) (hi : s'.items = s.items) (he : s'.err = er) (ha : atOf E.size s' = a) :
    ((W.setCell ⟨b, 4, none⟩ (.int .i64 er)).setCell ⟨b, 5, none⟩ (.int .i64 a)).heap[b]? = some (.cells (pcells E n s') 67 (0, 0)) := by
  have := blk_set (blk_set h 4 (.int .i64 er)) 5 (.int .i64 a)
  subst he ha
  unfold pcells
  rw [hi]
  exact this
theorem set_err' {E : Env} {b n : Nat} {s : St} {W : World} (h : W.heap[b]? = some (.cells (pcells E n s) 67 (0, 0))) (er a : Nat) (s' : St) (hi : s'.items = s.items) (he : s'.err = er) (ha : atOf E.size s' = a) :
    ((W.setCell ⟨b, 5, none⟩ (.int .i64 a)).setCell ⟨b, 4, none⟩ (.int .i64 er)).heap[b]? = some (.cells (pcells E n s') 67 (0, 0)) := by
  have := blk_set (blk_set h 5 (.int .i64 a)) 4 (.int .i64 er)
  subst he ha
  unfold pcells
  rw [hi]
  exact this
theorem set_next {E : Env} {b n : Nat} {s : St} {W : World} (h : W.heap[b]? = some (.cells (pcells E n s) 67 (0, 0))) (he : s.err = 0) :
    (W.setCell ⟨b, 1, none⟩ (.int .i64 ((n : Int) + 1))).heap[b]? = some (.cells (pcells E (n + 1) { s with rest := s.rest.tail }) 67 (0, 0)) := by
  have := blk_set h 1 (.int .i64 ((n : Int) + 1))
  have e : atOf E.size { s with rest := s.rest.tail } = atOf E.size s := by simp [atOf, he]
  unfold pcells
  rw [e]
  exact this

set_option maxHeartbeats 2000000 in
theorem fail_any (E : Env) (b : Nat) (s : St) (W : World) (h : PW E b s W) :
    Calls Tryd.prog 58 #[.pointer (some ⟨b, 0, none⟩)] W fun e w' => e = .returned (.tuple #[]) ∧ PW E b (fail s).2 w' ∧ Fr (fun k => k = b) W w' := by
  obtain ⟨_, hit, hbl, hpt, n, h1, h2, hblk⟩ := id h
  have c0 : W.cell? ⟨b, 0, none⟩ = some (.slice E.A E.ts.length E.cap) := cell_of_blk hblk 0
  have c1 : W.cell? ⟨b, 1, none⟩ = some (.int .i64 (n : Int)) := cell_of_blk hblk 1
  have c2 : W.cell? ⟨b, 2, none⟩ = some (.int .i64 (E.size : Int)) := cell_of_blk hblk 2
  have c4 : W.cell? ⟨b, 4, none⟩ = some (.int .i64 (s.err : Int)) := cell_of_blk hblk 4
  have c5 : W.cell? ⟨b, 5, none⟩ = some (.int .i64 (atOf E.size s : Int)) := cell_of_blk hblk 5
  have f4 : W.frozen? ⟨b, 4, none⟩ = false := froz_of_blk hblk 4
  have f5 : W.frozen? ⟨b, 5, none⟩ = false := froz_of_blk hblk 5
  have hl := h.1
  have HP := Lib.hid h; clear h
  have HBLK := Lib.hid hblk; clear hblk
  have HPT := Lib.hid hpt; clear hpt
  by_cases he : s.err = 0
  · cases hr : s.rest with
    | nil =>
      have hv : (fail s).2 = { s with err := 7 } := by simp [fail, hr, he]
      have hat : atOf E.size { s with err := 7 } = E.size := by simp [atOf]
      rw [hr] at h2
      have hn := drop_nil h2 h1
      rw [hv]
      have HE := Lib.hid he; clear he
      have HR := Lib.hid hr
      rw [← hr] at h2
      have HH2 := Lib.hid h2; clear hr hv h2
      have HAT := Lib.hid hat; clear hat
      have hlt : decide (n < E.ts.length) = false := decide_eq_false (by omega)
      have HN := Lib.hid hn; clear hn
      go_enter Tryd.func58, Tryd.ntmps58
      go_wp2_with (go_at_call 38; refine (ok_yes E b s _ HP.out HE.out).mono ?_; rintro e w' ⟨rfl, rfl⟩)
      go_quiet (fail)
      go_wp2_with fail
      go_end0
      have hfr : Fr (fun k => k = b) w' (((w'.drewN nq).setCell ⟨b, 4, none⟩ (.int .i64 7)).setCell ⟨b, 5, none⟩ (.int .i64 (E.size : Int))) := (((Fr.refl _ _).drewN nq).setb 4 _).setb 5 _
      exact ⟨rfl, mod_PW HP.out hfr hit (by omega) (by rw [HH2.out]) (set_err (W := w'.drewN nq) HBLK.out 7 E.size { s with err := 7 } rfl rfl HAT.out), hfr⟩
    | cons t r =>
      rw [hr] at h2
      obtain ⟨hn, ht, hr2⟩ := drop_cons h2
      obtain ⟨g, o, hA, hg, hc⟩ := HPT.out.2 (by omega)
      obtain ⟨q0, q1, q2, q3⟩ := hc n hn
      rw [ht] at q0 q1 q2 q3
      have hv : (fail s).2 = { s with err := 6 } := by simp [fail, hr, he]
      have hat : atOf E.size { s with err := 6 } = t.pos := by simp [atOf, hr]
      rw [hv]
      have HE := Lib.hid he; clear he
      have HR := Lib.hid hr; clear hr hv hr2 ht hc
      rw [← HR.out] at h2
      have HH2 := Lib.hid h2; clear h2
      have HAT := Lib.hid hat; clear hat
      rw [hA] at c0
      have i1 : (0 : Int) ≤ (n : Int) := Int.natCast_nonneg _
      have i2 : (n : Int) < (E.ts.length : Int) := by omega
      have HA := Lib.hid hA; clear hA
      go_enter Tryd.func58, Tryd.ntmps58
      go_wp2_with (go_at_call 38; refine (ok_yes E b s _ HP.out HE.out).mono ?_; rintro e w' ⟨rfl, rfl⟩)
      go_quiet (fail)
      go_wp2_with fail
      go_region_held3 (fun w' => w'.cell? ⟨b, 0, none⟩ = some (.slice (some ⟨g, o, none⟩) E.ts.length E.cap) ∧ w'.cell? ⟨b, 1, none⟩ = some (.int .i64 (n : Int)) ∧ w'.cell? ⟨g, o + n * 4 + 3, none⟩ = some (.int .i64 (t.pos : Int))) (first | go_keep | (go_split_ands; refine ⟨?_, ?_, ?_⟩ <;> first | assumption | (rw [far_off (by decide)]; assumption) | (rw [far_blk (by omega)]; assumption))) (fail)
      all_goals
        go_wp2_with fail
        have hfr : Fr (fun k => k = b) w' (((w'.drewN (nq + 1)).setCell ⟨b, 4, none⟩ (.int .i64 6)).setCell ⟨b, 5, none⟩ (.int .i64 (t.pos : Int))) := (((Fr.refl _ _).drewN (nq + 1)).setb 4 _).setb 5 _
        exact bodyPost_ret (results_none rfl _ _ _) rfl ⟨rfl, mod_PW HP.out hfr hit (by omega) (by rw [HH2.out]) (set_err (W := w'.drewN (nq + 1)) HBLK.out 6 t.pos { s with err := 6 } rfl rfl HAT.out), hfr⟩
  · have hv : (fail s).2 = s := by simp [fail, he]
    rw [hv]
    have HE := Lib.hid he; clear he hv
    go_enter Tryd.func58, Tryd.ntmps58
    go_wp2_with (go_at_call 38; refine (ok_no E b s _ HP.out HE.out).mono ?_; rintro e w' ⟨rfl, rfl⟩)
    exact bodyPost_ret (results_none rfl _ _ _) rfl ⟨rfl, HP.out, Fr.refl _ _⟩
end Go.Proofs.YtfaflipphkoiiaaDoor.Pr
