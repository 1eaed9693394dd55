/-
  Terms, calendars and events as they lie in memory; arguments of these types, opened.
-/
import Derived.Test.YticlmkfifpkdpaaDoorVw
import Derived.Test.YticlmkfifpkdpaaDoorDlTerm
import Derived.Test.YticlmkfifpkdpaaDoorProg
namespace Go.Proofs.YticlmkfifpkdpaaDoor.Dl
open Go.ChangeShapes Go.WideShapes Go.RowKit Mem Vw
set_option linter.unusedVariables false
set_option linter.unusedSimpArgs false

def nv (x : Int) : Value := .int .i64 x
def wf (n : Int) : Prop := -9223372036854775808 ≤ n ∧ n ≤ 9223372036854775807
/-- A term's cells; the slice of its kids is given. -/
def tc (x : Term × Value) : List Value := [nv x.1.kind, nv x.1.n, nv x.1.ev, .bool x.1.bus, x.2]
theorem tc_len (x : Term × Value) : (tc x).length = 5 := rfl
/-- The slice of a term's kids reads as they are. -/
inductive Tree (W : World) : Term → Value → Prop
  | mk {t : Term} {v : Value} (ks : List (Term × Value)) (e : ks.map Prod.fst = t.kids) (r : Row W v 5 (ks.map tc)) (h : ∀ x ∈ ks, Tree W x.1 x.2) (hl : t.kids.length ≤ 9223372036854775807) (w : wf t.n ∧ wf t.ev) : Tree W t v
theorem Tree.kids {W : World} {t : Term} {v : Value} (h : Tree W t v) : ∃ ks : List (Term × Value), ks.map Prod.fst = t.kids ∧ Row W v 5 (ks.map tc) ∧ ∀ x ∈ ks, Tree W x.1 x.2 := by
  cases h with
  | mk ks e r h hl w => exact ⟨ks, e, r, h⟩
theorem Tree.wf {W : World} {t : Term} {v : Value} (h : Tree W t v) : wf t.n ∧ wf t.ev := by
  cases h with
  | mk ks e r h hl w => exact w
theorem Tree.keep {W W' : World} (hb : Below W.heap.size W W') {t : Term} {v : Value} (h : Tree W t v) : Tree W' t v := by
  induction h with
  | mk ks e r h hl w ih => exact .mk ks e (r.below hb) ih hl w
theorem Tree.slice {W : World} {t : Term} {v : Value} (h : Tree W t v) : ∃ A c, v = .slice A t.kids.length c ∧ t.kids.length ≤ c ∧ c ≤ 9223372036854775807 := by
  cases h with
  | mk ks e r h hl w =>
    obtain ⟨A, c, e1, h1, h2⟩ := r.slice
    have : (ks.map tc).length = t.kids.length := by rw [List.length_map, ← e, List.length_map]
    rw [this] at e1 h1
    exact ⟨A, c, e1, h1, h2⟩
def nums (l : List Int) : List (List Value) := l.map fun x => [nv x]
/-- A calendar's cells; the slice of its holidays is given. -/
def ccs (c : Cal) (hv : Value) : List Value := [.bool (c.wk.getD 0 false), .bool (c.wk.getD 1 false), .bool (c.wk.getD 2 false), .bool (c.wk.getD 3 false), .bool (c.wk.getD 4 false), .bool (c.wk.getD 5 false), .bool (c.wk.getD 6 false), hv]
/-- A calendar as it is read. -/
structure CalAt (W : World) (c : Cal) (hv : Value) : Prop where
  wk : c.wk.length = 7
  hol : Row W hv 1 (nums c.hol)
  wf : ∀ x ∈ c.hol, wf x
theorem CalAt.below {W W' : World} {c : Cal} {hv : Value} (h : CalAt W c hv) (hb : Below W.heap.size W W') : CalAt W' c hv := ⟨h.wk, h.hol.below hb, h.wf⟩
def whenc (w : When) : List Value := [.bool w.known, nv w.day, nv w.min]
/-- Events as they are read. -/
structure EvsAt (W : World) (l : List When) (v : Value) : Prop where
  row : Row W v 3 (l.map whenc)
  wf : ∀ w ∈ l, wf w.day ∧ wf w.min
theorem EvsAt.below {W W' : World} {l : List When} {v : Value} (h : EvsAt W l v) (hb : Below W.heap.size W W') : EvsAt W' l v := ⟨h.row.below hb, h.wf⟩

section
variable {H : Type} {enc : TypeId × Value → H} {W : World} {base : Nat} {spare : Nat → Bool} {held : Bool}
theorem op_int {n : Nat} {cs : List Value} {y : DataW H × List MemPlace} (h : DataW.trod enc Tryd.prog W base spare held n 3 cs = some y) : ∃ x : Int, cs = [nv x] ∧ wf x := by
  obtain ⟨x, e, _, w⟩ := DataW.trod_int Tryd.underlying3 h
  exact ⟨x, e, bounds_i64 w⟩
theorem op_bool {n : Nat} {cs : List Value} {y : DataW H × List MemPlace} (h : DataW.trod enc Tryd.prog W base spare held n 4 cs = some y) : ∃ x : Bool, cs = [.bool x] := by
  obtain ⟨x, e, _⟩ := DataW.trod_bool Tryd.underlying4 h
  exact ⟨x, e⟩
theorem cons_of {α : Type} {l : List α} {n : Nat} (h : l.length = n + 1) : ∃ a r, l = a :: r ∧ r.length = n := by
  cases l with
  | nil => simp at h
  | cons a r => exact ⟨a, r, rfl, by simpa using h⟩
theorem nil_of {α : Type} {l : List α} (h : l.length = 0) : l = [] := List.eq_nil_of_length_eq_zero h
/-- The fields of a struct, one by one. -/
theorem fields {n : Nat} {t : TypeId} {fs : Array Field} {cs : List Value} {y : DataW H × List MemPlace} (ht : Tryd.prog.underlying t = some (.struct fs)) (h : DataW.trod enc Tryd.prog W base spare held n t cs = some y) :
    ∃ m, n = m + 1 ∧ cs.length = Tryd.prog.cellsOf t ∧ ∀ (i : Nat) (f : Field) (s : Nat), fs[i]? = some f → Tryd.prog.cellsOf f.type = s → ∃ z, DataW.trod enc Tryd.prog W base spare held m f.type ((cs.drop f.offset).take s) = some z := by
  obtain ⟨xs, m, e, _, hl, hx, hf⟩ := DataW.trod_struct ht h
  refine ⟨m, e, hl, fun i f s hi hs => ?_⟩
  subst hs
  have hi2 : i < xs.length := by rw [hx]; exact (Array.getElem?_eq_some_iff.1 hi).1
  exact ⟨xs[i], by rw [hf i f hi, List.getElem?_eq_getElem hi2]⟩
theorem sizeint : Tryd.prog.cellsOf 3 = 1 := by kernel_rfl
theorem sizebool : Tryd.prog.cellsOf 4 = 1 := by kernel_rfl
theorem sizeTerm : Tryd.prog.cellsOf 31 = 5 := by kernel_rfl
theorem sizeTerms : Tryd.prog.cellsOf 29 = 1 := by kernel_rfl
theorem sizeWhen : Tryd.prog.cellsOf 67 = 3 := by kernel_rfl
theorem sizeCal : Tryd.prog.cellsOf 28 = 8 := by kernel_rfl
theorem sizeA7bool : Tryd.prog.cellsOf 25 = 7 := by kernel_rfl
theorem sizeInts : Tryd.prog.cellsOf 26 = 1 := by kernel_rfl
theorem op_term : ∀ (n : Nat) {cs : List Value} {y : DataW H × List MemPlace} (h : DataW.trod enc Tryd.prog W base spare held n 31 cs = some y), ∃ x : Term × Value, cs = tc x ∧ Tree W x.1 x.2 := by
  intro n
  induction n using Nat.strongRecOn with
  | _ n ih =>
  intro cs y h
  obtain ⟨m, rfl, hl, hf⟩ := fields Tryd.underlying31 h
  rw [sizeTerm] at hl
  obtain ⟨c0, cs0, rfl, hl0⟩ := cons_of hl
  obtain ⟨c1, cs1, rfl, hl1⟩ := cons_of hl0
  obtain ⟨c2, cs2, rfl, hl2⟩ := cons_of hl1
  obtain ⟨c3, cs3, rfl, hl3⟩ := cons_of hl2
  obtain ⟨c4, cs4, rfl, hl4⟩ := cons_of hl3
  obtain rfl := nil_of hl4
  obtain ⟨z0, j0⟩ : ∃ z, DataW.trod enc Tryd.prog W base spare held m 3 [c0] = some z := by have := hf 0 _ 1 rfl sizeint; exact this
  obtain ⟨x0, e0, w0⟩ := op_int j0
  simp only [List.cons.injEq, and_true] at e0; subst e0
  obtain ⟨z1, j1⟩ : ∃ z, DataW.trod enc Tryd.prog W base spare held m 3 [c1] = some z := by have := hf 1 _ 1 rfl sizeint; exact this
  obtain ⟨x1, e1, w1⟩ := op_int j1
  simp only [List.cons.injEq, and_true] at e1; subst e1
  obtain ⟨z2, j2⟩ : ∃ z, DataW.trod enc Tryd.prog W base spare held m 3 [c2] = some z := by have := hf 2 _ 1 rfl sizeint; exact this
  obtain ⟨x2, e2, w2⟩ := op_int j2
  simp only [List.cons.injEq, and_true] at e2; subst e2
  obtain ⟨z3, j3⟩ : ∃ z, DataW.trod enc Tryd.prog W base spare held m 4 [c3] = some z := by have := hf 3 _ 1 rfl sizebool; exact this
  obtain ⟨x3, e3⟩ := op_bool j3
  simp only [List.cons.injEq, and_true] at e3; subst e3
  obtain ⟨z4, j4⟩ : ∃ z, DataW.trod enc Tryd.prog W base spare held m 29 [c4] = some z := by have := hf 4 _ 1 rfl sizeTerms; exact this
  obtain ⟨ks, r, hq, hlen⟩ := row_of_trod Tryd.underlying29 sizeTerm (by omega) tc (fun x => Tree W x.1 x.2) (fun k cs y e h => ih k (by omega) h) j4
  exact ⟨(.mk x0 x1 x2 x3 (ks.map Prod.fst), c4), rfl, .mk ks rfl r hq (by unfold maxLen at hlen; show (ks.map Prod.fst).length ≤ _; rw [List.length_map]; omega) ⟨w1, w2⟩⟩
theorem op_when {n : Nat} {cs : List Value} {y : DataW H × List MemPlace} (h : DataW.trod enc Tryd.prog W base spare held n 67 cs = some y) : ∃ x : When, cs = whenc x ∧ (wf x.day ∧ wf x.min) := by
  obtain ⟨m, rfl, hl, hf⟩ := fields Tryd.underlying67 h
  rw [sizeWhen] at hl
  obtain ⟨c0, cs0, rfl, hl0⟩ := cons_of hl
  obtain ⟨c1, cs1, rfl, hl1⟩ := cons_of hl0
  obtain ⟨c2, cs2, rfl, hl2⟩ := cons_of hl1
  obtain rfl := nil_of hl2
  obtain ⟨z0, j0⟩ : ∃ z, DataW.trod enc Tryd.prog W base spare held m 4 [c0] = some z := by have := hf 0 _ 1 rfl sizebool; exact this
  obtain ⟨x0, e0⟩ := op_bool j0
  simp only [List.cons.injEq, and_true] at e0; subst e0
  obtain ⟨z1, j1⟩ : ∃ z, DataW.trod enc Tryd.prog W base spare held m 3 [c1] = some z := by have := hf 1 _ 1 rfl sizeint; exact this
  obtain ⟨x1, e1, w1⟩ := op_int j1
  simp only [List.cons.injEq, and_true] at e1; subst e1
  obtain ⟨z2, j2⟩ : ∃ z, DataW.trod enc Tryd.prog W base spare held m 3 [c2] = some z := by have := hf 2 _ 1 rfl sizeint; exact this
  obtain ⟨x2, e2, w2⟩ := op_int j2
  simp only [List.cons.injEq, and_true] at e2; subst e2
  exact ⟨⟨x0, x1, x2⟩, rfl, w1, w2⟩
theorem op_days {n : Nat} {cs : List Value} {y : DataW H × List MemPlace} (h : DataW.trod enc Tryd.prog W base spare held n 25 cs = some y) : ∃ b0 b1 b2 b3 b4 b5 b6 : Bool, cs = [.bool b0, .bool b1, .bool b2, .bool b3, .bool b4, .bool b5, .bool b6] := by
  obtain ⟨xs, m, _, _, hl, hx, hf⟩ := DataW.trod_array Tryd.underlying25 h
  rw [sizeA7bool] at hl
  rw [sizebool] at hf
  obtain ⟨c0, cs0, rfl, hl0⟩ := cons_of hl
  obtain ⟨c1, cs1, rfl, hl1⟩ := cons_of hl0
  obtain ⟨c2, cs2, rfl, hl2⟩ := cons_of hl1
  obtain ⟨c3, cs3, rfl, hl3⟩ := cons_of hl2
  obtain ⟨c4, cs4, rfl, hl4⟩ := cons_of hl3
  obtain ⟨c5, cs5, rfl, hl5⟩ := cons_of hl4
  obtain ⟨c6, cs6, rfl, hl6⟩ := cons_of hl5
  obtain rfl := nil_of hl6
  have k0 := hf 0 (by omega); rw [List.getElem?_eq_getElem (show 0 < xs.length by omega)] at k0
  obtain ⟨b0, e0⟩ := op_bool (cs := [c0]) k0; simp only [List.cons.injEq, and_true] at e0; subst e0
  have k1 := hf 1 (by omega); rw [List.getElem?_eq_getElem (show 1 < xs.length by omega)] at k1
  obtain ⟨b1, e1⟩ := op_bool (cs := [c1]) k1; simp only [List.cons.injEq, and_true] at e1; subst e1
  have k2 := hf 2 (by omega); rw [List.getElem?_eq_getElem (show 2 < xs.length by omega)] at k2
  obtain ⟨b2, e2⟩ := op_bool (cs := [c2]) k2; simp only [List.cons.injEq, and_true] at e2; subst e2
  have k3 := hf 3 (by omega); rw [List.getElem?_eq_getElem (show 3 < xs.length by omega)] at k3
  obtain ⟨b3, e3⟩ := op_bool (cs := [c3]) k3; simp only [List.cons.injEq, and_true] at e3; subst e3
  have k4 := hf 4 (by omega); rw [List.getElem?_eq_getElem (show 4 < xs.length by omega)] at k4
  obtain ⟨b4, e4⟩ := op_bool (cs := [c4]) k4; simp only [List.cons.injEq, and_true] at e4; subst e4
  have k5 := hf 5 (by omega); rw [List.getElem?_eq_getElem (show 5 < xs.length by omega)] at k5
  obtain ⟨b5, e5⟩ := op_bool (cs := [c5]) k5; simp only [List.cons.injEq, and_true] at e5; subst e5
  have k6 := hf 6 (by omega); rw [List.getElem?_eq_getElem (show 6 < xs.length by omega)] at k6
  obtain ⟨b6, e6⟩ := op_bool (cs := [c6]) k6; simp only [List.cons.injEq, and_true] at e6; subst e6
  exact ⟨b0, b1, b2, b3, b4, b5, b6, rfl⟩
theorem op_cal {n : Nat} {cs : List Value} {y : DataW H × List MemPlace} (h : DataW.trod enc Tryd.prog W base spare held n 28 cs = some y) : ∃ (c : Cal) (hv : Value), cs = ccs c hv ∧ CalAt W c hv := by
  obtain ⟨m, rfl, hl, hf⟩ := fields Tryd.underlying28 h
  rw [sizeCal] at hl
  obtain ⟨c0, cs0, rfl, hl0⟩ := cons_of hl
  obtain ⟨c1, cs1, rfl, hl1⟩ := cons_of hl0
  obtain ⟨c2, cs2, rfl, hl2⟩ := cons_of hl1
  obtain ⟨c3, cs3, rfl, hl3⟩ := cons_of hl2
  obtain ⟨c4, cs4, rfl, hl4⟩ := cons_of hl3
  obtain ⟨c5, cs5, rfl, hl5⟩ := cons_of hl4
  obtain ⟨c6, cs6, rfl, hl6⟩ := cons_of hl5
  obtain ⟨c7, cs7, rfl, hl7⟩ := cons_of hl6
  obtain rfl := nil_of hl7
  obtain ⟨z0, j0⟩ : ∃ z, DataW.trod enc Tryd.prog W base spare held m 25 [c0, c1, c2, c3, c4, c5, c6] = some z := by have := hf 0 _ 7 rfl sizeA7bool; exact this
  obtain ⟨b0, b1, b2, b3, b4, b5, b6, e0⟩ := op_days j0
  simp only [List.cons.injEq, and_true] at e0; obtain ⟨rfl, rfl, rfl, rfl, rfl, rfl, rfl⟩ := e0
  obtain ⟨z1, j1⟩ : ∃ z, DataW.trod enc Tryd.prog W base spare held m 26 [c7] = some z := by have := hf 1 _ 1 rfl sizeInts; exact this
  obtain ⟨hs, r, hq, _⟩ := row_of_trod Tryd.underlying26 sizeint (by omega) (fun x : Int => [nv x]) wf (fun _ _ _ _ h => op_int h) j1
  exact ⟨⟨[b0, b1, b2, b3, b4, b5, b6], hs⟩, c7, rfl, rfl, r, hq⟩
set_option maxRecDepth 100000 in
theorem open_term {b0 : Nat} {r : Reach} {v : Value} {d : DataW H} {p : List MemPlace} (hv : Value.okWide Tryd.prog W r b0 31 v) (h : DataW.Trod enc Tryd.prog W base spare held 31 v d p) : ∃ x : Term × Value, v = .agg (tc x).toArray ∧ Tree W x.1 x.2 := by
  obtain ⟨cs, rfl, hsz⟩ := okWide_struct Tryd.underlying31 hv
  obtain ⟨cs⟩ := cs
  obtain ⟨n, hn⟩ := h
  have hn' : DataW.trod enc Tryd.prog W base spare held n 31 cs = some (d, p) := hn
  obtain ⟨x, e, h1⟩ := op_term n hn'
  exact ⟨x, by rw [e], h1⟩
set_option maxRecDepth 100000 in
theorem open_cal {b0 : Nat} {r : Reach} {v : Value} {d : DataW H} {p : List MemPlace} (hv : Value.okWide Tryd.prog W r b0 28 v) (h : DataW.Trod enc Tryd.prog W base spare held 28 v d p) : ∃ (c : Cal) (hv : Value), v = .agg (ccs c hv).toArray ∧ CalAt W c hv := by
  obtain ⟨cs, rfl, hsz⟩ := okWide_struct Tryd.underlying28 hv
  obtain ⟨cs⟩ := cs
  obtain ⟨n, hn⟩ := h
  have hn' : DataW.trod enc Tryd.prog W base spare held n 28 cs = some (d, p) := hn
  obtain ⟨c, x, e, h1⟩ := op_cal hn'
  exact ⟨c, x, by rw [e], h1⟩
set_option maxRecDepth 100000 in
theorem open_evs {b0 : Nat} {r : Reach} {v : Value} {d : DataW H} {p : List MemPlace} (hv : Value.okWide Tryd.prog W r b0 42 v) (h : DataW.Trod enc Tryd.prog W base spare held 42 v d p) : ∃ l : List When, EvsAt W l v := by
  obtain ⟨a, len, cap, rfl⟩ := okWide_slice Tryd.underlying42 hv
  obtain ⟨n, hn⟩ := h
  have hn' : DataW.trod enc Tryd.prog W base spare held n 42 [.slice a len cap] = some (d, p) := hn
  obtain ⟨l, r, hq, _⟩ := row_of_trod Tryd.underlying42 sizeWhen (by omega) whenc (fun x => wf x.day ∧ wf x.min) (fun _ _ _ _ h => op_when h) hn'
  exact ⟨l, r, hq⟩
set_option maxRecDepth 100000 in
theorem open_terms {b0 : Nat} {r : Reach} {v : Value} {d : DataW H} {p : List MemPlace} (hv : Value.okWide Tryd.prog W r b0 29 v) (h : DataW.Trod enc Tryd.prog W base spare held 29 v d p) : ∃ ks : List (Term × Value), Row W v 5 (ks.map tc) ∧ (∀ x ∈ ks, Tree W x.1 x.2) ∧ ks.length ≤ maxLen := by
  obtain ⟨a, len, cap, rfl⟩ := okWide_slice Tryd.underlying29 hv
  obtain ⟨n, hn⟩ := h
  have hn' : DataW.trod enc Tryd.prog W base spare held n 29 [.slice a len cap] = some (d, p) := hn
  exact row_of_trod Tryd.underlying29 sizeTerm (by omega) tc (fun x => Tree W x.1 x.2) (fun _ _ _ _ h => op_term _ h) hn'
end
end Go.Proofs.YticlmkfifpkdpaaDoor.Dl
