/-
  What the function Lex of package lexer returns.
-/
import Derived.Test.YtfaflipphkoiiaaDoorLexWalkF
import Derived.Defers
import Derived.Recover
import Derived.RegionTactic
import Derived.ChangeAlike
import Derived.Laws.Pointers
namespace Go.Proofs.YtfaflipphkoiiaaDoor.Lx
open Go.RowKit
set_option linter.unusedVariables false

theorem frame18 (a0 a1 a2 v : Value) : #[a0, a1, a2] ++ ((Array.replicate 18 undef).setIfInBounds 3 v).setIfInBounds 0 v =
    #[a0, a1, a2, v, undef, undef, v, undef, undef, undef, undef, undef, undef, undef, undef, undef, undef, undef, undef, undef, undef] := by
  simp [Array.replicate, List.replicate]

set_option maxHeartbeats 400000 in
theorem catch_idle (a0 a1 a2 : Value) (w : World) :
    CallsD Tryd.prog 29 #[a0, a1, a2] .returning w fun e u' w' => e = .returned (.tuple #[]) ∧ u' = .returning ∧ w' = w := by
  refine callsD_of_wpS Tryd.func29 rfl fun c₀ cs hu => ?_
  apply wpS_seq
  apply wpS_region
  simp [wpOpsS, go_sem, recoverD, hu, Tryd.ntmps29, Exit.thenS]
  refine wpS_of_wp ?_
  rw [frame18]
  go_wp2
  cases c₀
  simp_all [bodyPostS, results, Tryd.results29]

theorem assert_fail (er k : Int) (W : World) : (Instr.typeAssert (.iface 78 (.agg #[.int .i64 er, .int .i64 k])) 20 78 true).run Tryd.prog W = .ok (.tuple #[.agg #[.int .i64 er, .int .i64 k], .bool true]) W := by kernel_rfl

set_option maxHeartbeats 1000000 in
theorem catch_fail (b : Nat) (er : Int) (k : Nat) (w : World) (v0 v1 v2 : Value) (c0 : w.cell? ⟨b, 0, none⟩ = some v0) (c1 : w.cell? ⟨b + 1, 0, none⟩ = some v1) (c2 : w.cell? ⟨b + 1 + 1, 0, none⟩ = some v2)
    (z0 : w.frozen? ⟨b, 0, none⟩ = false) (z1 : w.frozen? ⟨b + 1, 0, none⟩ = false) (z2 : w.frozen? ⟨b + 1 + 1, 0, none⟩ = false) (hb : b + 2 < w.heap.size) :
    CallsD Tryd.prog 29 #[.pointer (some ⟨b, 0, none⟩), .pointer (some ⟨b + 1, 0, none⟩), .pointer (some ⟨b + 1 + 1, 0, none⟩)] (.panicking (fail_ er k)) w fun e u' w' =>
      e = .returned (.tuple #[]) ∧ u' = .panicking [{ v := .iface 78 (.agg #[.int .i64 er, .int .i64 k]), recovered := true }] ∧
      w'.cell? ⟨b, 0, none⟩ = some (.slice none 0 0) ∧ w'.cell? ⟨b + 1, 0, none⟩ = some (.int .i64 er) ∧ w'.cell? ⟨b + 1 + 1, 0, none⟩ = some (.int .i64 k) ∧ Below b w w' := by
  unfold fail_
  refine callsD_of_wpS Tryd.func29 rfl fun c₀ cs hu => ?_
  apply wpS_seq
  apply wpS_region
  simp [wpOpsS, go_sem, recoverD, hu, Tryd.ntmps29, Exit.thenS]
  refine wpS_of_wp ?_
  rw [frame18]
  have HU := Lib.hid hu; clear hu
  have hta := assert_fail er k
  have hal := (Below.refl w.heap.size w).alloc (Nat.le_refl _) (.cells #[.int .i64 er, .int .i64 k] 78)
  have c0' := (hal.cell (p := ⟨b, 0, none⟩) (by show b < _; omega)).trans c0
  have c1' := (hal.cell (p := ⟨b + 1, 0, none⟩) (by show b + 1 < _; omega)).trans c1
  have c2' := (hal.cell (p := ⟨b + 1 + 1, 0, none⟩) (by show b + 1 + 1 < _; omega)).trans c2
  have z0' := (hal.frozen (p := ⟨b, 0, none⟩) (by show b < _; omega)).trans z0
  have z1' := (hal.frozen (p := ⟨b + 1, 0, none⟩) (by show b + 1 < _; omega)).trans z1
  have z2' := (hal.frozen (p := ⟨b + 1 + 1, 0, none⟩) (by show b + 1 + 1 < _; omega)).trans z2
  clear hal
  go_wp2
  go_region
  have hne1 : (⟨b, 0, none⟩ : Addr) ≠ ⟨b + 1, 0, none⟩ := by intro h; injection h; omega
  have hne2 : (⟨b, 0, none⟩ : Addr) ≠ ⟨b + 1 + 1, 0, none⟩ := by intro h; injection h; omega
  have hne3 : (⟨b + 1, 0, none⟩ : Addr) ≠ ⟨b + 1 + 1, 0, none⟩ := by intro h; injection h; omega
  refine ⟨rfl, _, rfl, .tuple #[], by simp [results, Tryd.results29], rfl, rfl, ?_, ?_, ?_, ?_⟩
  · show World.cell? (World.setCell _ _ _) _ = _
    rw [World.cell?_setCell_other _ _ _ _ hne2.symm, World.cell?_setCell_other _ _ _ _ hne1.symm]
    exact cell_set_same (by rw [c0']; rfl)
  · show World.cell? (World.setCell _ _ _) _ = _
    rw [World.cell?_setCell_other _ _ _ _ hne3.symm]
    exact cell_set_same (by rw [World.cell?_setCell_other _ _ _ _ hne1, c1']; rfl)
  · show World.cell? (World.setCell _ _ _) _ = _
    exact cell_set_same (by rw [World.cell?_setCell_other _ _ _ _ hne3, World.cell?_setCell_other _ _ _ _ hne2, c2']; rfl)
  · have h0 := (Below.refl b w).alloc (by omega) (.cells #[.int .i64 er, .int .i64 k] 78)
    have h1 := h0.setCell (p := ⟨b, 0, none⟩) (Nat.le_refl _) (.slice none 0 0)
    have h2 := h1.setCell (p := ⟨b + 1, 0, none⟩) (by show b ≤ b + 1; omega) (.int .i64 er)
    exact (h2.setCell (p := ⟨b + 1 + 1, 0, none⟩) (by show b ≤ b + 1 + 1; omega) (.int .i64 k)).drew

theorem scan_ok (s : ByteArray) (w : World) (hs : s.size ≤ 20000) (ts : List Tok) (h : lexP (s.size + 1) (bs s) (gapLen false (bs s)) 0 = .ok ts) :
    Calls Tryd.prog 30 #[.string s] w fun e w' => (∃ A cap, e = .returned (.slice A ts.length cap) ∧ w'.ownsRow w.heap.size 40 4 (.slice A ts.length cap) ts.length (cellsAll ts)) ∧ Below w.heap.size w w' := by
  refine (scan_any s w hs).mono fun e w' ⟨h1, h2⟩ => ⟨?_, h2⟩
  unfold ScanEnd at h1
  rw [h] at h1
  obtain ⟨v, he, ho⟩ := h1
  obtain ⟨A, cap, rfl⟩ := own_form ho
  exact ⟨A, cap, he, ho⟩
theorem scan_no (s : ByteArray) (w : World) (hs : s.size ≤ 20000) (er p : Nat) (h : lexP (s.size + 1) (bs s) (gapLen false (bs s)) 0 = .error (er, p)) :
    Calls Tryd.prog 30 #[.string s] w fun e w' => e = .panicked (fail_ er p) ∧ Below w.heap.size w w' := by
  refine (scan_any s w hs).mono fun e w' ⟨h1, h2⟩ => ⟨?_, h2⟩
  unfold ScanEnd at h1
  rw [h] at h1
  exact h1
/-- Three variables of one cell each, in a later world. -/
theorem kept111 {w w1 : World} {c0 c1 c2 : Value} {t0 t1 t2 : TypeId} {B : Nat} (hb : Below B (((w.alloc (.cells #[c0] t0)).alloc (.cells #[c1] t1)).alloc (.cells #[c2] t2)) w1) (hB : w.heap.size + 1 + 1 < B) :
    w1.cell? ⟨w.heap.size, 0, none⟩ = some c0 ∧ w1.cell? ⟨w.heap.size + 1, 0, none⟩ = some c1 ∧ w1.cell? ⟨w.heap.size + 1 + 1, 0, none⟩ = some c2 ∧
    w1.frozen? ⟨w.heap.size, 0, none⟩ = false ∧ w1.frozen? ⟨w.heap.size + 1, 0, none⟩ = false ∧ w1.frozen? ⟨w.heap.size + 1 + 1, 0, none⟩ = false :=
  ⟨(hb.cell (p := ⟨w.heap.size, 0, none⟩) (by show w.heap.size < B; omega)).trans (by simp [go_sem]), (hb.cell (p := ⟨w.heap.size + 1, 0, none⟩) (by show w.heap.size + 1 < B; omega)).trans (by simp [go_sem]), (hb.cell (p := ⟨w.heap.size + 1 + 1, 0, none⟩) hB).trans (by simp [go_sem]),
   (hb.frozen (p := ⟨w.heap.size, 0, none⟩) (by show w.heap.size < B; omega)).trans (by simp [go_sem]), (hb.frozen (p := ⟨w.heap.size + 1, 0, none⟩) (by show w.heap.size + 1 < B; omega)).trans (by simp [go_sem]), (hb.frozen (p := ⟨w.heap.size + 1 + 1, 0, none⟩) hB).trans (by simp [go_sem])⟩

/-- How Lex ends. -/
def LexEnd (s : ByteArray) (B : Nat) (e : Ending) (w' : World) : Prop :=
  match lex (bs s) with
  | .ok ts => ∃ A cap, e = .returned (.tuple #[.slice A ts.length cap, .int .i64 0, .int .i64 0]) ∧ w'.ownsRow B 40 4 (.slice A ts.length cap) ts.length (cellsAll ts)
  | .error (er, p) => e = .returned (.tuple #[.slice none 0 0, .int .i64 er, .int .i64 p])
theorem LexEnd.of_ok {s : ByteArray} {B : Nat} {e : Ending} {w' : World} {ts : List Tok} {A : Option Addr} {cap : Nat} (h : lex (bs s) = .ok ts) (he : e = .returned (.tuple #[.slice A ts.length cap, .int .i64 0, .int .i64 0]))
    (ho : w'.ownsRow B 40 4 (.slice A ts.length cap) ts.length (cellsAll ts)) : LexEnd s B e w' := by
  unfold LexEnd; rw [h]; exact ⟨A, cap, he, ho⟩
theorem LexEnd.of_err {s : ByteArray} {B : Nat} {e : Ending} {w' : World} {er : Nat} {p : Int} (h : lex (bs s) = .error (er, p)) (he : e = .returned (.tuple #[.slice none 0 0, .int .i64 er, .int .i64 p])) : LexEnd s B e w' := by
  unfold LexEnd; rw [h]; exact he
theorem lex_of_ok {s : ByteArray} {ts : List Tok} (hs : ¬ 20000 < s.size) (h : lexP (s.size + 1) (bs s) (gapLen false (bs s)) 0 = .ok ts) : lex (bs s) = .ok ts := by
  unfold lex; rw [if_neg (by rw [bs_length]; exact hs), bs_length, h]
theorem lex_of_err {s : ByteArray} {er p : Nat} (hs : ¬ 20000 < s.size) (h : lexP (s.size + 1) (bs s) (gapLen false (bs s)) 0 = .error (er, p)) : lex (bs s) = .error (er, (p : Int)) := by
  unfold lex; rw [if_neg (by rw [bs_length]; exact hs), bs_length, h]
/-- A row stays owned while cells of other element types are written. -/
theorem own_base {w : World} {base base' : Nat} {e : TypeId} {size : Nat} {v : Value} {n : Nat} {xs : List Value} (h : w.ownsRow base e size v n xs) (hb : base' ≤ base) : w.ownsRow base' e size v n xs := by
  refine ⟨h.1, ?_⟩
  rcases h.2 with h2 | ⟨g, cap, cur, hv, hg, r⟩
  · exact .inl h2
  · exact .inr ⟨g, cap, cur, hv, by omega, r⟩
theorem own_set_far {w : World} {base : Nat} {e : TypeId} {size : Nat} {v : Value} {n : Nat} {xs : List Value} (h : w.ownsRow base e size v n xs) {a : Addr} (ha : a.block < base) (u : Value) : (w.setCell a u).ownsRow base e size v n xs := ownsRow_setCell_below h ha u

set_option maxHeartbeats 1000000 in
theorem lex_any (s : ByteArray) (w : World) (hs : s.size ≤ 9223372036854775807) :
    Calls Tryd.prog 14 #[.string s] w fun e w' => LexEnd s w.heap.size e w' ∧ Below w.heap.size w w' := by
  have hmf := mkFunc
  by_cases h2 : 20000 < s.size
  · have HL : Hid (lex (bs s) = .error (3, -1)) := by unfold lex; rw [if_pos (by rw [bs_length]; exact h2)]; rfl
    go_enter_defers Tryd.func14, Tryd.ntmps14
    go_wp2
    refine ⟨.tuple #[.slice none 0 0, .int .i64 3, .int .i64 (-1)], by simp [results, Tryd.results14, go_sem], LexEnd.of_err HL.out rfl, by go_grown⟩
  · cases hl : lexP (s.size + 1) (bs s) (gapLen false (bs s)) 0 with
    | ok ts =>
      have HL := Lib.hid hl; clear hl
      go_enter_defers Tryd.func14, Tryd.ntmps14
      go_wp2_with fail
      refine (scan_ok s _ (by omega) ts HL.out).mono ?_
      rintro e w1 ⟨⟨A, cap, rfl, ho⟩, hb⟩
      obtain ⟨q0, q1, q2, f0, f1, f2⟩ := kept111 hb (by simp)
      simp only [World.size_alloc] at ho hb
      have HO := Lib.hid ho; clear ho
      have HB : Hid (Below w.heap.size w w1) := ((((Below.refl _ w).alloc (Nat.le_refl _) _).alloc (by simp only [World.size_alloc]; omega) _).alloc (by simp only [World.size_alloc]; omega) _).trans (hb.mono (by omega))
      clear hb
      go_wp2_with fail
      refine leaves_cons (f := 29) (args := #[.pointer (some ⟨w.heap.size, 0, none⟩), .pointer (some ⟨w.heap.size + 1, 0, none⟩), .pointer (some ⟨w.heap.size + 1 + 1, 0, none⟩)]) (by simp) (by simp [go_sem]) ?_
      refine (catch_idle _ _ _ _).mono ?_
      rintro e u' w2 ⟨rfl, rfl, rfl⟩
      refine ⟨.tuple #[.slice A ts.length cap, .int .i64 0, .int .i64 0], by simp [results, Tryd.results14, go_sem, cell_set_same, q0, q1, q2], LexEnd.of_ok (lex_of_ok h2 HL.out) rfl ?_, ?_⟩
      · have h3 := own_set_far (own_set_far (own_set_far HO.out (a := ⟨w.heap.size, 0, none⟩) (by show w.heap.size < _; omega) (.slice A ts.length cap)) (a := ⟨w.heap.size + 1, 0, none⟩) (by show w.heap.size + 1 < _; omega) (.int .i64 0)) (a := ⟨w.heap.size + 1 + 1, 0, none⟩) (by show w.heap.size + 1 + 1 < _; omega) (.int .i64 0)
        exact own_base h3 (by omega)
      · have h1 := HB.out.setCell (p := ⟨w.heap.size, 0, none⟩) (Nat.le_refl _) (.slice A ts.length cap)
        have h2 := h1.setCell (p := ⟨w.heap.size + 1, 0, none⟩) (by show w.heap.size ≤ w.heap.size + 1; omega) (.int .i64 0)
        exact h2.setCell (p := ⟨w.heap.size + 1 + 1, 0, none⟩) (by show w.heap.size ≤ w.heap.size + 1 + 1; omega) (.int .i64 0)
    | error x =>
      obtain ⟨er, p⟩ := x
      have HL := Lib.hid hl; clear hl
      go_enter_defers Tryd.func14, Tryd.ntmps14
      go_wp2_with fail
      refine (scan_no s _ (by omega) er p HL.out).mono ?_
      rintro e w1 ⟨rfl, hb⟩
      obtain ⟨q0, q1, q2, f0, f1, f2⟩ := kept111 hb (by simp)
      have hz := hb.size
      simp only [World.size_alloc] at hb hz
      have HB : Hid (Below w.heap.size w w1) := ((((Below.refl _ w).alloc (Nat.le_refl _) _).alloc (by simp only [World.size_alloc]; omega) _).alloc (by simp only [World.size_alloc]; omega) _).trans (hb.mono (by omega))
      clear hb
      refine leaves_cons (f := 29) (args := #[.pointer (some ⟨w.heap.size, 0, none⟩), .pointer (some ⟨w.heap.size + 1, 0, none⟩), .pointer (some ⟨w.heap.size + 1 + 1, 0, none⟩)]) (by simp) (by simp [go_sem]) ?_
      refine (catch_fail w.heap.size er p w1 _ _ _ q0 q1 q2 f0 f1 f2 (by omega)).mono ?_
      rintro e u' w2 ⟨rfl, rfl, g0, g1, g2, hb2⟩
      refine ⟨.tuple #[.slice none 0 0, .int .i64 er, .int .i64 p], by simp [results, Tryd.results14, go_sem, g0, g1, g2], LexEnd.of_err (lex_of_err h2 HL.out) rfl, HB.out.trans hb2⟩

theorem lex_ok (s : ByteArray) (w : World) (hs : s.size ≤ 9223372036854775807) (ts : List Tok) (h : lex (bs s) = .ok ts) :
    Calls Tryd.prog 14 #[.string s] w fun e w' => (∃ A cap, e = .returned (.tuple #[.slice A ts.length cap, .int .i64 0, .int .i64 0]) ∧ w'.ownsRow w.heap.size 40 4 (.slice A ts.length cap) ts.length (cellsAll ts)) ∧ Below w.heap.size w w' := by
  refine (lex_any s w hs).mono fun e w' ⟨h1, h2⟩ => ⟨?_, h2⟩
  unfold LexEnd at h1
  rw [h] at h1
  exact h1
theorem lex_no (s : ByteArray) (w : World) (hs : s.size ≤ 9223372036854775807) (er : Nat) (p : Int) (h : lex (bs s) = .error (er, p)) :
    Calls Tryd.prog 14 #[.string s] w fun e w' => e = .returned (.tuple #[.slice none 0 0, .int .i64 er, .int .i64 p]) ∧ Below w.heap.size w w' := by
  refine (lex_any s w hs).mono fun e w' ⟨h1, h2⟩ => ⟨?_, h2⟩
  unfold LexEnd at h1
  rw [h] at h1
  exact h1
end Go.Proofs.YtfaflipphkoiiaaDoor.Lx
