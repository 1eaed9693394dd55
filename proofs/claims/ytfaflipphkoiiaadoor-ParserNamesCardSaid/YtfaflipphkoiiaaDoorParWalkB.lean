/-
  What the parser's methods accept, expect, take, name and number return. What the parser's methods name, number, ratio, date, days and span return.
-/
import Derived.Test.YtfaflipphkoiiaaDoorParWalkA
namespace Go.Proofs.YtfaflipphkoiiaaDoor.Pr
open Go.RowKit Mem
open Lx (Tok)
set_option linter.unusedVariables false

/-- A contract of a method of the parser: the state becomes another one, and only the parser is written. -/
def After (E : Env) (b : Nat) (s : St) (W w' : World) : Prop := PW E b s w' ∧ Fr (fun k => k = b) W w'
theorem After.trans {E : Env} {b : Nat} {s s' : St} {W W1 W2 : World} (h : After E b s W W1) (h2 : After E b s' W1 W2) : After E b s' W W2 := ⟨h2.1, h.2.trans h2.2⟩
theorem After.start {E : Env} {b : Nat} {s : St} {W : World} (h : PW E b s W) : After E b s W W := ⟨h, Fr.refl _ _⟩
theorem After.drewN {E : Env} {b : Nat} {s : St} {W W1 : World} (h : After E b s W W1) (n : Nat) : After E b s W (W1.drewN n) := ⟨h.1.drewN n, h.2.drewN n⟩

theorem isT_err {x : Bytes} {s : St} (h : isT x s = true) : s.err = 0 ∧ ∃ t r, s.rest = t :: r ∧ t.text = x := by
  unfold isT at h
  simp only [Bool.and_eq_true, beq_iff_eq] at h
  refine ⟨h.1, ?_⟩
  cases hr : s.rest with
  | nil => rw [hr] at h; simp at h
  | cons t r => rw [hr] at h; exact ⟨t, r, rfl, by simpa using h.2⟩
theorem isK_err {x : Nat} {s : St} (h : isK x s = true) : s.err = 0 ∧ ∃ t r, s.rest = t :: r ∧ t.kind = x := by
  unfold isK at h
  simp only [Bool.and_eq_true, beq_iff_eq] at h
  refine ⟨h.1, ?_⟩
  cases hr : s.rest with
  | nil => rw [hr] at h; simp at h
  | cons t r => rw [hr] at h; exact ⟨t, r, rfl, by simpa using h.2⟩

set_option maxHeartbeats 2000000 in
theorem accept_any (E : Env) (b : Nat) (s : St) (x : Bytes) (W : World) (h : PW E b s W) :
    Calls Tryd.prog 57 #[.pointer (some ⟨b, 0, none⟩), .string ⟨x.toArray⟩] W fun e w' => e = .returned (.bool (acc x s).1) ∧ After E b (acc x s).2 W w' := by
  cases hi : isT x s with
  | false =>
    have e : acc x s = (false, s) := by simp [acc, hi]
    rw [e]
    have HI := Lib.hid hi
    have HP := Lib.hid h; clear h hi e
    go_enter Tryd.func57, Tryd.ntmps57
    go_wp2_with fail
    refine (is_any E b s x _ HP.out).mono ?_
    rw [HI.out]
    rintro e w1 ⟨rfl, m, rfl⟩
    go_wp2_with fail
    go_ret
    exact ⟨rfl, (After.start HP.out).drewN m⟩
  | true =>
    have e : acc x s = (true, { s with rest := s.rest.tail }) := by simp [acc, hi]
    rw [e]
    obtain ⟨he, t, r, hr, ht⟩ := isT_err hi
    obtain ⟨_, hit, hbl, hpt, n, h1, h2, hblk⟩ := id h
    have c1 : W.cell? ⟨b, 1, none⟩ = some (.int .i64 (n : Int)) := cell_of_blk hblk 1
    have f1 : W.frozen? ⟨b, 1, none⟩ = false := froz_of_blk hblk 1
    have hl := h.1
    have hd : t :: r = E.ts.drop n := by rw [← hr]; exact h2
    obtain ⟨hn, _, hr2⟩ := drop_cons hd
    have HRR : Hid (s.rest.tail = E.ts.drop (n + 1)) := by show _ = _; rw [hr]; exact hr2
    have HE := Lib.hid he
    have HI := Lib.hid hi
    have HP := Lib.hid h
    have HB := Lib.hid hblk
    clear e he hr ht h2 hd hr2 hi h hpt hblk
    go_enter Tryd.func57, Tryd.ntmps57
    go_wp2_with fail
    refine (is_any E b s x _ HP.out).mono ?_
    rw [HI.out]
    rintro e w1 ⟨rfl, m, rfl⟩
    go_wp2_with fail
    go_ret
    have hfr : Fr (fun k => k = b) W ((W.drewN m).setCell ⟨b, 1, none⟩ (.int .i64 ((n : Int) + 1))) := ((Fr.refl _ _).drewN m).setb 1 _
    exact ⟨rfl, mod_PW HP.out hfr hit (by omega) HRR.out (set_next (W := W.drewN m) HB.out HE.out), hfr⟩

/-- A slice of words that reads as a list. -/
def WRow (W : World) (a : Addr) (xs : List Bytes) : Prop := ∃ g o, a = ⟨g, o, none⟩ ∧ ∀ i (h : i < xs.length), W.cell? ⟨g, o + i, none⟩ = some (.string ⟨xs[i].toArray⟩)
theorem expect_cons (x : Bytes) (r : List Bytes) (s : St) : expect (x :: r) s = if (acc x s).1 then expect r (acc x s).2 else fail (acc x s).2 := by
  show bnd (acc x) (fun b => if b then expect r else fail) s = _
  unfold bnd
  cases (acc x s).1 <;> rfl

set_option maxHeartbeats 2000000 in
theorem expect_any (E : Env) (b : Nat) (s : St) (xs : List Bytes) (g o cap : Nat) (W : World) (h : PW E b s W) (hl : xs.length ≤ 100) (hg : b < g) (hr : ∀ i (h : i < xs.length), W.cell? ⟨g, o + i, none⟩ = some (.string ⟨xs[i].toArray⟩)) (hgl : g < W.heap.size) :
    Calls Tryd.prog 33 #[.pointer (some ⟨b, 0, none⟩), .slice (some ⟨g, o, none⟩) xs.length cap] W fun e w' => e = .returned (.tuple #[]) ∧ After E b (expect xs s).2 W w' := by
  have HP := Lib.hid h; clear h
  have HR := Lib.hid hr; clear hr
  obtain ⟨R, hR⟩ : ∃ R, (expect xs s).2 = R := ⟨_, rfl⟩
  rw [hR]
  have HRR := Lib.hid hR; clear hR
  go_enter Tryd.func33, Tryd.ntmps33
  go_wp2_with fail
  go_loopw [8] (fun i wr => ∃ (j : Nat) (s' : St), i = .int .i64 j ∧ j ≤ xs.length ∧ Hid ((expect (xs.drop j) s').2 = R) ∧ Hid (After E b s' W wr)) (fun i _ => xs.length - (intOf i).toNat)
  case atStart => exact ⟨0, s, rfl, by omega, HRR, After.start HP.out⟩
  case round =>
    obtain ⟨j, s', rfl, hj, HX, HA⟩ := hrel
    by_cases hlt : j < xs.length
    · have c0 : wr.cell? ⟨g, o + j, none⟩ = some (.string ⟨xs[j].toArray⟩) := (World.cell?_of_block (HA.out.2.block g hgl (by omega))).trans (HR.out j hlt)
      have hx := HX.out
      rw [List.drop_eq_getElem_cons hlt, expect_cons] at hx
      have HX2 := Lib.hid hx; clear hx
      generalize xs[j] = x at *
      cases ha : (acc x s').1 with
      | true =>
        have HX3 : Hid ((expect (xs.drop (j + 1)) (acc x s').2).2 = R) := by have := HX2.out; rw [ha] at this; exact this
        have HAA := Lib.hid ha; clear ha
        go_wp2_with fail
        refine (accept_any E b s' x _ HA.out.1).mono ?_
        rw [HAA.out]
        rintro e w1 ⟨rfl, hA1⟩
        have HA1 := Lib.hid (HA.out.trans hA1); clear hA1
        go_wp2_with fail
        go_roundw
        case rel => exact ⟨j + 1, _, by go_num, by omega, HX3, HA1⟩
        case measure => simp [intOf]; omega
      | false =>
        have HX3 : Hid ((fail (acc x s').2).2 = R) := by have := HX2.out; rw [ha] at this; exact this
        have HAA := Lib.hid ha; clear ha
        go_wp2_with fail
        refine (accept_any E b s' x _ HA.out.1).mono ?_
        rw [HAA.out]
        rintro e w1 ⟨rfl, hA1⟩
        have HA1 := Lib.hid (HA.out.trans hA1); clear hA1
        go_wp2_with fail
        refine (fail_any E b _ _ HA1.out.1).mono ?_
        rw [HX3.out]
        rintro e w2 ⟨rfl, hA2⟩
        go_wp2_with fail
        exact bodyPost_ret (results_none rfl _ _ _) rfl ⟨rfl, HA1.out.trans hA2⟩
    · have HX3 : Hid (s' = R) := by have := HX.out; rw [List.drop_eq_nil_of_le (by omega)] at this; exact this
      go_wp2_with fail
      go_end0
      exact ⟨rfl, by rw [← HX3.out]; exact HA.out⟩
theorem PW.alloc {E : Env} {b : Nat} {s : St} {W : World} (h : PW E b s W) (o : Obj) : PW E b s (W.alloc o) := h.fr (S := fun _ => False) ((Fr.refl _ _).alloc o) (fun _ _ h => h)
theorem After.alloc {E : Env} {b : Nat} {s : St} {W W1 : World} (h : After E b s W W1) (o : Obj) : After E b s W (W1.alloc o) := ⟨h.1.alloc o, h.2.alloc o⟩
/-- A store into a new block. -/
theorem PW.set {E : Env} {b : Nat} {s : St} {W : World} (h : PW E b s W) {q i : Nat} (hq : b < q) (u : Value) : PW E b s (W.setCell ⟨q, i, none⟩ u) :=
  h.fr (S := fun k => k = q) ((Fr.refl _ _).setb i u) (fun k hk e => by omega)
theorem After.set {E : Env} {b : Nat} {s : St} {W W1 : World} (h : After E b s W W1) {q i : Nat} (hq : W.heap.size ≤ q) (hb : b < q) (u : Value) : After E b s W (W1.setCell ⟨q, i, none⟩ u) :=
  ⟨h.1.set hb u, h.2.setCell (p := ⟨q, i, none⟩) (.inr hq) u⟩
def tokVal (t : Tok) : Value := .agg #[.int .i64 (t.kind : Int), .string ⟨t.text.toArray⟩, .int .i64 (t.n : Int), .int .i64 (t.pos : Int)]

theorem far4 {W : World} {q g j : Nat} {a b c d u : Value} (h : g ≠ q) (hc : W.cell? ⟨g, j, none⟩ = some u) : ((((W.setCell ⟨q, 0, none⟩ a).setCell ⟨q, 1, none⟩ b).setCell ⟨q, 2, none⟩ c).setCell ⟨q, 3, none⟩ d).drew.cell? ⟨g, j, none⟩ = some u :=
  (far_blk h).trans ((far_blk h).trans ((far_blk h).trans ((far_blk h).trans hc)))
set_option maxHeartbeats 2000000 in
theorem take_any (E : Env) (b : Nat) (s : St) (k : Nat) (W : World) (h : PW E b s W) :
    Calls Tryd.prog 59 #[.pointer (some ⟨b, 0, none⟩), .int .i64 (k : Int)] W fun e w' => e = .returned (tokVal (take k s).1) ∧ After E b (take k s).2 W w' := by
  have hbl := h.2.2.1
  cases hi : isK k s with
  | false =>
    have e : take k s = (tok0, (fail s).2) := by simp [take, bnd, opt, hi, seq, ret]
    rw [e]
    have HI := Lib.hid hi
    have HA0 := Lib.hid ((After.start h).alloc (.cells #[.int .i64 0, .string ⟨#[]⟩, .int .i64 0, .int .i64 0] 40)); clear h hi e
    go_enter Tryd.func59, Tryd.ntmps59
    go_wp2_with fail
    refine (isKind_any E b s k _ HA0.out.1).mono ?_
    rw [HI.out]
    rintro e w1 ⟨rfl, m, rfl⟩
    go_wp2_with fail
    refine (fail_any E b s _ (HA0.out.1.drewN m)).mono ?_
    rintro e w2 ⟨rfl, hA2⟩
    have HA2 := Lib.hid ((HA0.out.drewN m).trans hA2)
    have hq : w2.heap[W.heap.size]? = some (.cells #[.int .i64 0, .string ⟨#[]⟩, .int .i64 0, .int .i64 0] 40 (0, 0)) := hA2.2.blk (by exact blk_new W _) (by omega)
    have q0 : w2.cell? ⟨W.heap.size, 0, none⟩ = some (.int .i64 0) := cell_of_blk hq 0
    have q1 : w2.cell? ⟨W.heap.size, 1, none⟩ = some (.string ⟨#[]⟩) := cell_of_blk hq 1
    have q2 : w2.cell? ⟨W.heap.size, 2, none⟩ = some (.int .i64 0) := cell_of_blk hq 2
    have q3 : w2.cell? ⟨W.heap.size, 3, none⟩ = some (.int .i64 0) := cell_of_blk hq 3
    have f0 : w2.frozen? ⟨W.heap.size, 0, none⟩ = false := froz_of_blk hq 0
    have f1 : w2.frozen? ⟨W.heap.size, 1, none⟩ = false := froz_of_blk hq 1
    have f2 : w2.frozen? ⟨W.heap.size, 2, none⟩ = false := froz_of_blk hq 2
    have f3 : w2.frozen? ⟨W.heap.size, 3, none⟩ = false := froz_of_blk hq 3
    have HQ := Lib.hid hq; clear hq hA2
    go_wp2_with fail
    have hbk := blk_set (blk_set (blk_set (blk_set HQ.out 0 (.int .i64 0)) 1 (.string ⟨#[]⟩)) 2 (.int .i64 0)) 3 (.int .i64 0)
    have hA3 := (((HA2.out.set (i := 0) (Nat.le_refl _) hbl (.int .i64 0)).set (i := 1) (Nat.le_refl _) hbl (.string ⟨#[]⟩)).set (i := 2) (Nat.le_refl _) hbl (.int .i64 0)).set (i := 3) (Nat.le_refl _) hbl (.int .i64 0)
    generalize (((w2.setCell ⟨W.heap.size, 0, none⟩ (.int .i64 0)).setCell ⟨W.heap.size, 1, none⟩ (.string ⟨#[]⟩)).setCell ⟨W.heap.size, 2, none⟩ (.int .i64 0)).setCell ⟨W.heap.size, 3, none⟩ (.int .i64 0) = W3 at *
    have k0 : W3.cell? ⟨W.heap.size, 0, none⟩ = some (.int .i64 0) := cell_of_blk hbk 0
    have k1 : W3.cell? ⟨W.heap.size, 1, none⟩ = some (.string ⟨#[]⟩) := cell_of_blk hbk 1
    have k2 : W3.cell? ⟨W.heap.size, 2, none⟩ = some (.int .i64 0) := cell_of_blk hbk 2
    have k3 : W3.cell? ⟨W.heap.size, 3, none⟩ = some (.int .i64 0) := cell_of_blk hbk 3
    exact bodyPost_ret (v := tokVal tok0) (by simp [results, Tryd.results59, go_sem, k0, k1, k2, k3, tokVal, tok0]) rfl ⟨rfl, hA3⟩
  | true =>
    obtain ⟨he, t, r, hr, ht⟩ := isK_err hi
    have e : take k s = (t, { s with rest := s.rest.tail }) := by simp [take, bnd, opt, hi, ret, hr]
    rw [e]
    obtain ⟨_, hit, _, hpt, n, h1, h2, hblk⟩ := id h
    have hl := h.1
    have hd : t :: r = E.ts.drop n := by rw [← hr]; exact h2
    obtain ⟨hn, hti, hr2⟩ := drop_cons hd
    obtain ⟨g, o, hA, hg, hc⟩ := hpt.2 (by omega)
    obtain ⟨q0, q1, q2, q3⟩ := hc n hn
    rw [hti] at q0 q1 q2 q3
    have hrr : s.rest.tail = E.ts.drop (n + 1) := by rw [hr]; exact hr2
    have HRR := Lib.hid hrr
    have HE := Lib.hid he
    have HI := Lib.hid hi
    have HB := Lib.hid hblk
    have HPW := Lib.hid h
    have HA0 := Lib.hid ((After.start h).alloc (.cells #[.int .i64 0, .string ⟨#[]⟩, .int .i64 0, .int .i64 0] 40))
    have HG := Lib.hid hA
    have d1 : ∀ ob, (W.alloc ob).cell? ⟨b, 1, none⟩ = some (.int .i64 (n : Int)) := fun ob => cell_of_blk (blk_alloc hblk ob) 1
    have f1 : ∀ ob, (W.alloc ob).frozen? ⟨b, 1, none⟩ = false := fun ob => froz_of_blk (blk_alloc hblk ob) 1
    clear e he hr ht h2 hd hr2 hi h hpt hblk hti hc hrr hA
    go_enter Tryd.func59, Tryd.ntmps59
    go_wp2_with fail
    refine (isKind_any E b s k _ HA0.out.1).mono ?_
    rw [HI.out]
    rintro e w1 ⟨rfl, m, rfl⟩
    go_wp2_with fail
    have hfr : Fr (fun k => k = b) W (((W.alloc (.cells #[.int .i64 0, .string ⟨#[]⟩, .int .i64 0, .int .i64 0] 40)).drewN m).setCell ⟨b, 1, none⟩ (.int .i64 ((n : Int) + 1))) := (((Fr.refl _ _).alloc _).drewN m).setb 1 _
    have hbk := set_next (W := (W.alloc (.cells #[.int .i64 0, .string ⟨#[]⟩, .int .i64 0, .int .i64 0] 40)).drewN m) (blk_alloc HB.out _) HE.out
    have hA2 : After E b { s with rest := s.rest.tail } W (((W.alloc (.cells #[.int .i64 0, .string ⟨#[]⟩, .int .i64 0, .int .i64 0] 40)).drewN m).setCell ⟨b, 1, none⟩ (.int .i64 ((n : Int) + 1))) := ⟨mod_PW HPW.out hfr hit (by omega) HRR.out hbk, hfr⟩
    have hq : (((W.alloc (.cells #[.int .i64 0, .string ⟨#[]⟩, .int .i64 0, .int .i64 0] 40)).drewN m).setCell ⟨b, 1, none⟩ (.int .i64 ((n : Int) + 1))).heap[W.heap.size]? = some (.cells #[.int .i64 0, .string ⟨#[]⟩, .int .i64 0, .int .i64 0] 40 (0, 0)) := blk_far (w := (W.alloc _).drewN m) (blk_new W _) (by show W.heap.size ≠ b; omega) _
    have hgb := hfr.block g (by omega) (by omega)
    generalize (((W.alloc (.cells #[.int .i64 0, .string ⟨#[]⟩, .int .i64 0, .int .i64 0] 40)).drewN m).setCell ⟨b, 1, none⟩ (.int .i64 ((n : Int) + 1))) = W2 at *
    have p0 := (World.cell?_of_block (a := ⟨g, o + n * 4, none⟩) hgb).trans q0
    have p1 := (World.cell?_of_block (a := ⟨g, o + n * 4 + 1, none⟩) hgb).trans q1
    have p2 := (World.cell?_of_block (a := ⟨g, o + n * 4 + 2, none⟩) hgb).trans q2
    have p3 := (World.cell?_of_block (a := ⟨g, o + n * 4 + 3, none⟩) hgb).trans q3
    have c0 : W2.cell? ⟨b, 0, none⟩ = some (.slice (some ⟨g, o, none⟩) E.ts.length E.cap) := by rw [← HG.out]; exact cell_of_blk hbk 0
    have c1 : W2.cell? ⟨b, 1, none⟩ = some (.int .i64 ((n : Int) + 1)) := cell_of_blk hbk 1
    have z0 : W2.cell? ⟨W.heap.size, 0, none⟩ = some (.int .i64 0) := cell_of_blk hq 0
    have z1 : W2.cell? ⟨W.heap.size, 1, none⟩ = some (.string ⟨#[]⟩) := cell_of_blk hq 1
    have z2 : W2.cell? ⟨W.heap.size, 2, none⟩ = some (.int .i64 0) := cell_of_blk hq 2
    have z3 : W2.cell? ⟨W.heap.size, 3, none⟩ = some (.int .i64 0) := cell_of_blk hq 3
    have f0 : W2.frozen? ⟨W.heap.size, 0, none⟩ = false := froz_of_blk hq 0
    have f1 : W2.frozen? ⟨W.heap.size, 1, none⟩ = false := froz_of_blk hq 1
    have f2 : W2.frozen? ⟨W.heap.size, 2, none⟩ = false := froz_of_blk hq 2
    have f3 : W2.frozen? ⟨W.heap.size, 3, none⟩ = false := froz_of_blk hq 3
    have HQ := Lib.hid hq
    have HA2 := Lib.hid hA2
    clear hq hA2 hbk hgb hfr q0 q1 q2 q3 d1
    have HN1 : Hid (b ≠ W.heap.size) := by show _ ≠ _; omega
    have HN2 : Hid (g ≠ W.heap.size) := by show _ ≠ _; omega
    have hw1 : IntKind.i64.wrap ((n : Int) + 1 - 1) = n := by rw [IntWalk.i64_in _ (by omega)]; omega
    have hw2 : IntKind.i64.wrap (n : Int) = n := IntWalk.i64_in _ (by omega)
    have i1 : (0 : Int) ≤ (n : Int) := Int.natCast_nonneg _
    have i2 : (n : Int) < (E.ts.length : Int) := by omega
    go_region_held3 (fun w' => w'.cell? ⟨b, 0, none⟩ = some (.slice (some ⟨g, o, none⟩) E.ts.length E.cap) ∧ w'.cell? ⟨b, 1, none⟩ = some (.int .i64 ((n : Int) + 1)) ∧ w'.cell? ⟨g, o + n * 4, none⟩ = some (.int .i64 (t.kind : Int)) ∧ w'.cell? ⟨g, o + n * 4 + 1, none⟩ = some (.string ⟨t.text.toArray⟩) ∧ w'.cell? ⟨g, o + n * 4 + 2, none⟩ = some (.int .i64 (t.n : Int)) ∧ w'.cell? ⟨g, o + n * 4 + 3, none⟩ = some (.int .i64 (t.pos : Int))) (first | exact ⟨c0, c1, p0, p1, p2, p3⟩ | exact ⟨far4 HN1.out c0, far4 HN1.out c1, far4 HN2.out p0, far4 HN2.out p1, far4 HN2.out p2, far4 HN2.out p3⟩) (fail)
    all_goals
      go_wp2_with fail
      have hbk := blk_set (blk_set (blk_set (blk_set HQ.out 0 (.int .i64 (t.kind : Int))) 1 (.string ⟨t.text.toArray⟩)) 2 (.int .i64 (t.n : Int))) 3 (.int .i64 (t.pos : Int))
      have hA3 := (((HA2.out.set (i := 0) (Nat.le_refl _) hbl (.int .i64 (t.kind : Int))).set (i := 1) (Nat.le_refl _) hbl (.string ⟨t.text.toArray⟩)).set (i := 2) (Nat.le_refl _) hbl (.int .i64 (t.n : Int))).set (i := 3) (Nat.le_refl _) hbl (.int .i64 (t.pos : Int))
      have hA4 := hA3.drewN 1
      have hbk4 : (((((W2.setCell ⟨W.heap.size, 0, none⟩ (.int .i64 (t.kind : Int))).setCell ⟨W.heap.size, 1, none⟩ (.string ⟨t.text.toArray⟩)).setCell ⟨W.heap.size, 2, none⟩ (.int .i64 (t.n : Int))).setCell ⟨W.heap.size, 3, none⟩ (.int .i64 (t.pos : Int))).drewN 1).heap[W.heap.size]? = _ := hbk
      show bodyPost _ _ _ _ _ (((((W2.setCell ⟨W.heap.size, 0, none⟩ (.int .i64 (t.kind : Int))).setCell ⟨W.heap.size, 1, none⟩ (.string ⟨t.text.toArray⟩)).setCell ⟨W.heap.size, 2, none⟩ (.int .i64 (t.n : Int))).setCell ⟨W.heap.size, 3, none⟩ (.int .i64 (t.pos : Int))).drewN 1)
      generalize ((((W2.setCell ⟨W.heap.size, 0, none⟩ (.int .i64 (t.kind : Int))).setCell ⟨W.heap.size, 1, none⟩ (.string ⟨t.text.toArray⟩)).setCell ⟨W.heap.size, 2, none⟩ (.int .i64 (t.n : Int))).setCell ⟨W.heap.size, 3, none⟩ (.int .i64 (t.pos : Int))).drewN 1 = W3 at *
      have k0 : W3.cell? ⟨W.heap.size, 0, none⟩ = some (.int .i64 (t.kind : Int)) := cell_of_blk hbk4 0
      have k1 : W3.cell? ⟨W.heap.size, 1, none⟩ = some (.string ⟨t.text.toArray⟩) := cell_of_blk hbk4 1
      have k2 : W3.cell? ⟨W.heap.size, 2, none⟩ = some (.int .i64 (t.n : Int)) := cell_of_blk hbk4 2
      have k3 : W3.cell? ⟨W.heap.size, 3, none⟩ = some (.int .i64 (t.pos : Int)) := cell_of_blk hbk4 3
      exact bodyPost_ret (v := tokVal t) (by simp [results, Tryd.results59, go_sem, k0, k1, k2, k3, tokVal]) rfl ⟨rfl, hA4⟩

end Go.Proofs.YtfaflipphkoiiaaDoor.Pr
namespace Go.Proofs.YtfaflipphkoiiaaDoor.Pr
open Go.RowKit Mem
open Lx (Tok)
set_option linter.unusedVariables false

theorem field_text (a b c d : Value) (w : World) : (Instr.field 40 (.agg #[a, b, c, d]) 1).run Tryd.prog w = .ok b w := by kernel_rfl
theorem field_n (a b c d : Value) (w : World) : (Instr.field 40 (.agg #[a, b, c, d]) 2).run Tryd.prog w = .ok c w := by kernel_rfl
set_option maxRecDepth 100000 in
theorem name_any (E : Env) (b : Nat) (s : St) (W : World) (h : PW E b s W) :
    Calls Tryd.prog 34 #[.pointer (some ⟨b, 0, none⟩)] W fun e w' => e = .returned (.string ⟨(name s).1.toArray⟩) ∧ After E b (name s).2 W w' := by
  obtain ⟨t, s1, hts⟩ : ∃ t s1, take 1 s = (t, s1) := ⟨_, _, rfl⟩
  have e : name s = ((take 1 s).1.text, (take 1 s).2) := rfl
  rw [e, hts]
  have HT := Lib.hid hts
  have HP := Lib.hid h; clear h e hts
  have hft := field_text
  go_enter Tryd.func34, Tryd.ntmps34
  go_wp2_with fail
  refine (take_any E b s 1 _ HP.out).mono ?_
  rw [HT.out]
  unfold tokVal
  rintro e w1 ⟨rfl, hA⟩
  have HA := Lib.hid hA; clear hA
  go_wp2_with fail
  go_ret
  exact ⟨rfl, HA.out⟩
set_option maxRecDepth 100000 in
theorem number_any (E : Env) (b : Nat) (s : St) (W : World) (h : PW E b s W) :
    Calls Tryd.prog 36 #[.pointer (some ⟨b, 0, none⟩)] W fun e w' => e = .returned (.int .i64 ((number s).1 : Int)) ∧ After E b (number s).2 W w' := by
  obtain ⟨t, s1, hts⟩ : ∃ t s1, take 2 s = (t, s1) := ⟨_, _, rfl⟩
  have e : number s = ((take 2 s).1.n, (take 2 s).2) := rfl
  rw [e, hts]
  have HT := Lib.hid hts
  have HP := Lib.hid h; clear h e hts
  have hft := field_n
  go_enter Tryd.func36, Tryd.ntmps36
  go_wp2_with fail
  refine (take_any E b s 2 _ HP.out).mono ?_
  rw [HT.out]
  unfold tokVal
  rintro e w1 ⟨rfl, hA⟩
  have HA := Lib.hid hA; clear hA
  go_wp2_with fail
  go_ret
  exact ⟨rfl, HA.out⟩
end Go.Proofs.YtfaflipphkoiiaaDoor.Pr
