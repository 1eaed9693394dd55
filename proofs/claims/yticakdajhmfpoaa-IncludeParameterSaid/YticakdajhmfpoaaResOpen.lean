/-
  Arguments that are items and sources, opened (printed by genopen.py).
-/
import Derived.Test.YticakdajhmfpoaaVw
import Derived.Test.YticakdajhmfpoaaResPlain
import Derived.Test.YticakdajhmfpoaaProg
namespace Go.Proofs.Yticakdajhmfpoaa.Rs
open Go.ChangeShapes Go.WideShapes Go.RowKit Mem Vw
set_option linter.unusedVariables false
set_option linter.unusedSimpArgs false

def sv (x : Bytes) : Value := .string ⟨x.toArray⟩
def nv (x : Int) : Value := .int .i64 x
def spanc (s : Span) : List Value := [nv s.days, .bool s.bus, sv s.name]
def ratioc (r : Ratio) : List Value := [nv r.num, nv r.den]
def namedc (c : Named) : List Value := [sv c.name, nv c.is_]
def civilc (c : Civil) : List Value := [nv c.y, nv c.m, nv c.d]
/-- The cells of an item; the slices' headers are given. -/
def icells (f : Item) (sc sd sn si : Value) : List Value :=
  [nv f.kind, sv f.name, nv f.pos, sv f.of_, sv f.act, nv f.word, nv f.times, nv f.within.days, .bool f.within.bus, sv f.within.name, nv f.grace.days, .bool f.grace.bus, sv f.grace.name, sc, sv f.by_, sv f.til, nv f.num.num, nv f.num.den, sv f.unit, sv f.sum, .bool f.fin, sv f.give, sv f.to_,
   .bool (f.days.getD 0 false), .bool (f.days.getD 1 false), .bool (f.days.getD 2 false), .bool (f.days.getD 3 false), .bool (f.days.getD 4 false), .bool (f.days.getD 5 false), .bool (f.days.getD 6 false), sd, sn, si]
theorem icells_len (f : Item) (sc sd sn si : Value) : (icells f sc sd sn si).length = 33 := rfl
def wf (n : Int) : Prop := -9223372036854775808 ≤ n ∧ n ≤ 9223372036854775807
def okS (x : Bytes) : Prop := x.length ≤ maxLen
structure SpanOk (s : Span) : Prop where
  days : wf s.days
  name : okS s.name
structure RatioOk (r : Ratio) : Prop where
  num : wf r.num
  den : wf r.den
structure NamedOk (c : Named) : Prop where
  name : okS c.name
  is_ : wf c.is_
structure CivilOk (c : Civil) : Prop where
  y : wf c.y
  m : wf c.m
  d : wf c.d
/-- Numbers and texts as Go's types hold them. -/
structure ItemOk (f : Item) : Prop where
  kind : wf f.kind
  name : okS f.name
  pos : wf f.pos
  of_ : okS f.of_
  act : okS f.act
  word : wf f.word
  times : wf f.times
  within : SpanOk f.within
  grace : SpanOk f.grace
  conds : ∀ c ∈ f.conds, NamedOk c
  by_ : okS f.by_
  til : okS f.til
  num : RatioOk f.num
  unit : okS f.unit
  sum : okS f.sum
  give : okS f.give
  to_ : okS f.to_
  days : f.days.length = 7
  dates : ∀ c ∈ f.dates, CivilOk c
  names : ∀ c ∈ f.names, okS c
/-- The lists of an item as they are read. -/
structure Flat (W : World) (f : Item) (sc sd sn : Value) : Prop where
  conds : Row W sc 2 (f.conds.map namedc)
  dates : Row W sd 3 (f.dates.map civilc)
  names : Row W sn 1 (f.names.map fun x => [sv x])
theorem Flat.below {W W' : World} {f : Item} {sc sd sn : Value} (h : Flat W f sc sd sn) (hb : Below W.heap.size W W') : Flat W' f sc sd sn := ⟨h.conds.below hb, h.dates.below hb, h.names.below hb⟩

section
variable {H : Type} {enc : TypeId × Value → H} {W : World} {base : Nat} {spare : Nat → Bool} {held : Bool}
theorem op_int {n : Nat} {cs : List Value} {y : DataW H × List MemPlace} (h : DataW.trod enc Try.prog W base spare held n 3 cs = some y) : ∃ x : Int, cs = [nv x] ∧ wf x := by
  obtain ⟨x, e, _, w⟩ := DataW.trod_int Try.underlying3 h
  exact ⟨x, e, bounds_i64 w⟩
theorem op_bool {n : Nat} {cs : List Value} {y : DataW H × List MemPlace} (h : DataW.trod enc Try.prog W base spare held n 4 cs = some y) : ∃ x : Bool, cs = [.bool x] := by
  obtain ⟨x, e, _⟩ := DataW.trod_bool Try.underlying4 h
  exact ⟨x, e⟩
theorem op_str {n : Nat} {cs : List Value} {y : DataW H × List MemPlace} (h : DataW.trod enc Try.prog W base spare held n 9 cs = some y) : ∃ x : Bytes, cs = [sv x] ∧ okS x := by
  obtain ⟨s, e, _, w⟩ := DataW.trod_string Try.underlying9 h
  refine ⟨s.data.toList, by rw [e]; rfl, ?_⟩
  show s.data.toList.length ≤ maxLen
  have hl : s.data.toList.length = s.size := by simp only [Array.length_toList]; rfl
  rw [hl]; exact w
theorem cons_of {α : Type} {l : List α} {n : Nat} (h : l.length = n + 1) : ∃ a r, l = a :: r ∧ r.length = n := by
  cases l with
  | nil => simp at h
  | cons a r => exact ⟨a, r, rfl, by simpa using h⟩
theorem nil_of {α : Type} {l : List α} (h : l.length = 0) : l = [] := List.eq_nil_of_length_eq_zero h
/-- The fields of a struct, one by one. -/
theorem fields {n : Nat} {t : TypeId} {fs : Array Field} {cs : List Value} {y : DataW H × List MemPlace} (ht : Try.prog.underlying t = some (.struct fs)) (h : DataW.trod enc Try.prog W base spare held n t cs = some y) :
    ∃ m, n = m + 1 ∧ cs.length = Try.prog.cellsOf t ∧ ∀ (i : Nat) (f : Field) (s : Nat), fs[i]? = some f → Try.prog.cellsOf f.type = s → ∃ z, DataW.trod enc Try.prog W base spare held m f.type ((cs.drop f.offset).take s) = some z := by
  obtain ⟨xs, m, e, _, hl, hx, hf⟩ := DataW.trod_struct ht h
  refine ⟨m, e, hl, fun i f s hi hs => ?_⟩
  subst hs
  have hi2 : i < xs.length := by rw [hx]; exact (Array.getElem?_eq_some_iff.1 hi).1
  exact ⟨xs[i], by rw [hf i f hi, List.getElem?_eq_getElem hi2]⟩

theorem sizeint : Try.prog.cellsOf 3 = 1 := by kernel_rfl
theorem sizebool : Try.prog.cellsOf 4 = 1 := by kernel_rfl
theorem sizestring : Try.prog.cellsOf 9 = 1 := by kernel_rfl
theorem sizeapiSpan : Try.prog.cellsOf 33 = 3 := by kernel_rfl
theorem sizeapiRatio : Try.prog.cellsOf 36 = 2 := by kernel_rfl
theorem sizeA7bool : Try.prog.cellsOf 37 = 7 := by kernel_rfl
theorem sizeSapiNamed : Try.prog.cellsOf 34 = 1 := by kernel_rfl
theorem sizeSapiCivil : Try.prog.cellsOf 38 = 1 := by kernel_rfl
theorem sizeSstring : Try.prog.cellsOf 39 = 1 := by kernel_rfl
theorem sizeSapiItem : Try.prog.cellsOf 24 = 1 := by kernel_rfl
theorem sizeapiItem : Try.prog.cellsOf 41 = 33 := by kernel_rfl
theorem sizeapiNamed : Try.prog.cellsOf 57 = 2 := by kernel_rfl
theorem sizeapiCivil : Try.prog.cellsOf 23 = 3 := by kernel_rfl
theorem op_span {n : Nat} {cs : List Value} {y : DataW H × List MemPlace} (h : DataW.trod enc Try.prog W base spare held n 33 cs = some y) : ∃ x : Span, cs = spanc x ∧ SpanOk x := by
  obtain ⟨m, rfl, hl, hf⟩ := fields Try.underlying33 h
  rw [sizeapiSpan] at hl
  obtain ⟨c0, cs0, rfl, hl0⟩ := cons_of hl
  obtain ⟨c1, cs1, rfl, hl1⟩ := cons_of hl0
  obtain ⟨c2, cs2, rfl, hl2⟩ := cons_of hl1
  obtain rfl := nil_of hl2
  obtain ⟨z0, j0⟩ : ∃ z, DataW.trod enc Try.prog W base spare held m 3 [c0] = some z := by have := hf 0 _ 1 rfl sizeint; exact this
  obtain ⟨x0, e0, w0⟩ := op_int j0
  simp only [List.cons.injEq, and_true] at e0; subst e0
  obtain ⟨z1, j1⟩ : ∃ z, DataW.trod enc Try.prog W base spare held m 4 [c1] = some z := by have := hf 1 _ 1 rfl sizebool; exact this
  obtain ⟨x1, e1⟩ := op_bool j1
  simp only [List.cons.injEq, and_true] at e1; subst e1
  obtain ⟨z2, j2⟩ : ∃ z, DataW.trod enc Try.prog W base spare held m 9 [c2] = some z := by have := hf 2 _ 1 rfl sizestring; exact this
  obtain ⟨x2, e2, w2⟩ := op_str j2
  simp only [List.cons.injEq, and_true] at e2; subst e2
  exact ⟨⟨x0, x1, x2⟩, rfl, ⟨w0, w2⟩⟩
theorem op_ratio {n : Nat} {cs : List Value} {y : DataW H × List MemPlace} (h : DataW.trod enc Try.prog W base spare held n 36 cs = some y) : ∃ x : Ratio, cs = ratioc x ∧ RatioOk x := by
  obtain ⟨m, rfl, hl, hf⟩ := fields Try.underlying36 h
  rw [sizeapiRatio] at hl
  obtain ⟨c0, cs0, rfl, hl0⟩ := cons_of hl
  obtain ⟨c1, cs1, rfl, hl1⟩ := cons_of hl0
  obtain rfl := nil_of hl1
  obtain ⟨z0, j0⟩ : ∃ z, DataW.trod enc Try.prog W base spare held m 3 [c0] = some z := by have := hf 0 _ 1 rfl sizeint; exact this
  obtain ⟨x0, e0, w0⟩ := op_int j0
  simp only [List.cons.injEq, and_true] at e0; subst e0
  obtain ⟨z1, j1⟩ : ∃ z, DataW.trod enc Try.prog W base spare held m 3 [c1] = some z := by have := hf 1 _ 1 rfl sizeint; exact this
  obtain ⟨x1, e1, w1⟩ := op_int j1
  simp only [List.cons.injEq, and_true] at e1; subst e1
  exact ⟨⟨x0, x1⟩, rfl, ⟨w0, w1⟩⟩
theorem op_named {n : Nat} {cs : List Value} {y : DataW H × List MemPlace} (h : DataW.trod enc Try.prog W base spare held n 57 cs = some y) : ∃ x : Named, cs = namedc x ∧ NamedOk x := by
  obtain ⟨m, rfl, hl, hf⟩ := fields Try.underlying57 h
  rw [sizeapiNamed] at hl
  obtain ⟨c0, cs0, rfl, hl0⟩ := cons_of hl
  obtain ⟨c1, cs1, rfl, hl1⟩ := cons_of hl0
  obtain rfl := nil_of hl1
  obtain ⟨z0, j0⟩ : ∃ z, DataW.trod enc Try.prog W base spare held m 9 [c0] = some z := by have := hf 0 _ 1 rfl sizestring; exact this
  obtain ⟨x0, e0, w0⟩ := op_str j0
  simp only [List.cons.injEq, and_true] at e0; subst e0
  obtain ⟨z1, j1⟩ : ∃ z, DataW.trod enc Try.prog W base spare held m 3 [c1] = some z := by have := hf 1 _ 1 rfl sizeint; exact this
  obtain ⟨x1, e1, w1⟩ := op_int j1
  simp only [List.cons.injEq, and_true] at e1; subst e1
  exact ⟨⟨x0, x1⟩, rfl, ⟨w0, w1⟩⟩
theorem op_civil {n : Nat} {cs : List Value} {y : DataW H × List MemPlace} (h : DataW.trod enc Try.prog W base spare held n 23 cs = some y) : ∃ x : Civil, cs = civilc x ∧ CivilOk x := by
  obtain ⟨m, rfl, hl, hf⟩ := fields Try.underlying23 h
  rw [sizeapiCivil] at hl
  obtain ⟨c0, cs0, rfl, hl0⟩ := cons_of hl
  obtain ⟨c1, cs1, rfl, hl1⟩ := cons_of hl0
  obtain ⟨c2, cs2, rfl, hl2⟩ := cons_of hl1
  obtain rfl := nil_of hl2
  obtain ⟨z0, j0⟩ : ∃ z, DataW.trod enc Try.prog W base spare held m 3 [c0] = some z := by have := hf 0 _ 1 rfl sizeint; exact this
  obtain ⟨x0, e0, w0⟩ := op_int j0
  simp only [List.cons.injEq, and_true] at e0; subst e0
  obtain ⟨z1, j1⟩ : ∃ z, DataW.trod enc Try.prog W base spare held m 3 [c1] = some z := by have := hf 1 _ 1 rfl sizeint; exact this
  obtain ⟨x1, e1, w1⟩ := op_int j1
  simp only [List.cons.injEq, and_true] at e1; subst e1
  obtain ⟨z2, j2⟩ : ∃ z, DataW.trod enc Try.prog W base spare held m 3 [c2] = some z := by have := hf 2 _ 1 rfl sizeint; exact this
  obtain ⟨x2, e2, w2⟩ := op_int j2
  simp only [List.cons.injEq, and_true] at e2; subst e2
  exact ⟨⟨x0, x1, x2⟩, rfl, ⟨w0, w1, w2⟩⟩
theorem op_days {n : Nat} {cs : List Value} {y : DataW H × List MemPlace} (h : DataW.trod enc Try.prog W base spare held n 37 cs = some y) : ∃ b0 b1 b2 b3 b4 b5 b6 : Bool, cs = [.bool b0, .bool b1, .bool b2, .bool b3, .bool b4, .bool b5, .bool b6] := by
  obtain ⟨xs, m, _, _, hl, hx, hf⟩ := DataW.trod_array Try.underlying37 h
  rw [sizeA7bool] at hl
  rw [sizebool] at hf
  obtain ⟨c0, cs0, rfl, hl0⟩ := cons_of hl
  obtain ⟨c1, cs1, rfl, hl1⟩ := cons_of hl0
  obtain ⟨c2, cs2, rfl, hl2⟩ := cons_of hl1
  obtain ⟨c3, cs3, rfl, hl3⟩ := cons_of hl2
  obtain ⟨c4, cs4, rfl, hl4⟩ := cons_of hl3
  obtain ⟨c5, cs5, rfl, hl5⟩ := cons_of hl4
  obtain ⟨c6, cs6, rfl, hl6⟩ := cons_of hl5
  obtain rfl := nil_of hl6
  have k0 := hf 0 (by omega); rw [List.getElem?_eq_getElem (show 0 < xs.length by omega)] at k0
  obtain ⟨b0, e0⟩ := op_bool (cs := [c0]) k0; simp only [List.cons.injEq, and_true] at e0; subst e0
  have k1 := hf 1 (by omega); rw [List.getElem?_eq_getElem (show 1 < xs.length by omega)] at k1
  obtain ⟨b1, e1⟩ := op_bool (cs := [c1]) k1; simp only [List.cons.injEq, and_true] at e1; subst e1
  have k2 := hf 2 (by omega); rw [List.getElem?_eq_getElem (show 2 < xs.length by omega)] at k2
  obtain ⟨b2, e2⟩ := op_bool (cs := [c2]) k2; simp only [List.cons.injEq, and_true] at e2; subst e2
  have k3 := hf 3 (by omega); rw [List.getElem?_eq_getElem (show 3 < xs.length by omega)] at k3
  obtain ⟨b3, e3⟩ := op_bool (cs := [c3]) k3; simp only [List.cons.injEq, and_true] at e3; subst e3
  have k4 := hf 4 (by omega); rw [List.getElem?_eq_getElem (show 4 < xs.length by omega)] at k4
  obtain ⟨b4, e4⟩ := op_bool (cs := [c4]) k4; simp only [List.cons.injEq, and_true] at e4; subst e4
  have k5 := hf 5 (by omega); rw [List.getElem?_eq_getElem (show 5 < xs.length by omega)] at k5
  obtain ⟨b5, e5⟩ := op_bool (cs := [c5]) k5; simp only [List.cons.injEq, and_true] at e5; subst e5
  have k6 := hf 6 (by omega); rw [List.getElem?_eq_getElem (show 6 < xs.length by omega)] at k6
  obtain ⟨b6, e6⟩ := op_bool (cs := [c6]) k6; simp only [List.cons.injEq, and_true] at e6; subst e6
  exact ⟨b0, b1, b2, b3, b4, b5, b6, rfl⟩
/-- An item, opened; its inner items' slice is left as it is, with its reading. -/
theorem op_item {n : Nat} {cs : List Value} {y : DataW H × List MemPlace} (h : DataW.trod enc Try.prog W base spare held n 41 cs = some y) :
    ∃ (f : Item) (sc sd sn si : Value) (m : Nat) (z : DataW H × List MemPlace), cs = icells f sc sd sn si ∧ ItemOk f ∧ Flat W f sc sd sn ∧ n = m + 1 ∧ DataW.trod enc Try.prog W base spare held m 24 [si] = some z := by
  obtain ⟨m, rfl, hl, hf⟩ := fields Try.underlying41 h
  rw [sizeapiItem] at hl
  obtain ⟨c0, cs0, rfl, hl0⟩ := cons_of hl
  obtain ⟨c1, cs1, rfl, hl1⟩ := cons_of hl0
  obtain ⟨c2, cs2, rfl, hl2⟩ := cons_of hl1
  obtain ⟨c3, cs3, rfl, hl3⟩ := cons_of hl2
  obtain ⟨c4, cs4, rfl, hl4⟩ := cons_of hl3
  obtain ⟨c5, cs5, rfl, hl5⟩ := cons_of hl4
  obtain ⟨c6, cs6, rfl, hl6⟩ := cons_of hl5
  obtain ⟨c7, cs7, rfl, hl7⟩ := cons_of hl6
  obtain ⟨c8, cs8, rfl, hl8⟩ := cons_of hl7
  obtain ⟨c9, cs9, rfl, hl9⟩ := cons_of hl8
  obtain ⟨c10, cs10, rfl, hl10⟩ := cons_of hl9
  obtain ⟨c11, cs11, rfl, hl11⟩ := cons_of hl10
  obtain ⟨c12, cs12, rfl, hl12⟩ := cons_of hl11
  obtain ⟨c13, cs13, rfl, hl13⟩ := cons_of hl12
  obtain ⟨c14, cs14, rfl, hl14⟩ := cons_of hl13
  obtain ⟨c15, cs15, rfl, hl15⟩ := cons_of hl14
  obtain ⟨c16, cs16, rfl, hl16⟩ := cons_of hl15
  obtain ⟨c17, cs17, rfl, hl17⟩ := cons_of hl16
  obtain ⟨c18, cs18, rfl, hl18⟩ := cons_of hl17
  obtain ⟨c19, cs19, rfl, hl19⟩ := cons_of hl18
  obtain ⟨c20, cs20, rfl, hl20⟩ := cons_of hl19
  obtain ⟨c21, cs21, rfl, hl21⟩ := cons_of hl20
  obtain ⟨c22, cs22, rfl, hl22⟩ := cons_of hl21
  obtain ⟨c23, cs23, rfl, hl23⟩ := cons_of hl22
  obtain ⟨c24, cs24, rfl, hl24⟩ := cons_of hl23
  obtain ⟨c25, cs25, rfl, hl25⟩ := cons_of hl24
  obtain ⟨c26, cs26, rfl, hl26⟩ := cons_of hl25
  obtain ⟨c27, cs27, rfl, hl27⟩ := cons_of hl26
  obtain ⟨c28, cs28, rfl, hl28⟩ := cons_of hl27
  obtain ⟨c29, cs29, rfl, hl29⟩ := cons_of hl28
  obtain ⟨c30, cs30, rfl, hl30⟩ := cons_of hl29
  obtain ⟨c31, cs31, rfl, hl31⟩ := cons_of hl30
  obtain ⟨c32, cs32, rfl, hl32⟩ := cons_of hl31
  obtain rfl := nil_of hl32
  obtain ⟨z0, j0⟩ : ∃ z, DataW.trod enc Try.prog W base spare held m 3 [c0] = some z := by have := hf 0 _ 1 rfl sizeint; exact this
  obtain ⟨x0, e0, w0⟩ := op_int j0
  simp only [List.cons.injEq, and_true] at e0; subst e0
  obtain ⟨z1, j1⟩ : ∃ z, DataW.trod enc Try.prog W base spare held m 9 [c1] = some z := by have := hf 1 _ 1 rfl sizestring; exact this
  obtain ⟨x1, e1, w1⟩ := op_str j1
  simp only [List.cons.injEq, and_true] at e1; subst e1
  obtain ⟨z2, j2⟩ : ∃ z, DataW.trod enc Try.prog W base spare held m 3 [c2] = some z := by have := hf 2 _ 1 rfl sizeint; exact this
  obtain ⟨x2, e2, w2⟩ := op_int j2
  simp only [List.cons.injEq, and_true] at e2; subst e2
  obtain ⟨z3, j3⟩ : ∃ z, DataW.trod enc Try.prog W base spare held m 9 [c3] = some z := by have := hf 3 _ 1 rfl sizestring; exact this
  obtain ⟨x3, e3, w3⟩ := op_str j3
  simp only [List.cons.injEq, and_true] at e3; subst e3
  obtain ⟨z4, j4⟩ : ∃ z, DataW.trod enc Try.prog W base spare held m 9 [c4] = some z := by have := hf 4 _ 1 rfl sizestring; exact this
  obtain ⟨x4, e4, w4⟩ := op_str j4
  simp only [List.cons.injEq, and_true] at e4; subst e4
  obtain ⟨z5, j5⟩ : ∃ z, DataW.trod enc Try.prog W base spare held m 3 [c5] = some z := by have := hf 5 _ 1 rfl sizeint; exact this
  obtain ⟨x5, e5, w5⟩ := op_int j5
  simp only [List.cons.injEq, and_true] at e5; subst e5
  obtain ⟨z6, j6⟩ : ∃ z, DataW.trod enc Try.prog W base spare held m 3 [c6] = some z := by have := hf 6 _ 1 rfl sizeint; exact this
  obtain ⟨x6, e6, w6⟩ := op_int j6
  simp only [List.cons.injEq, and_true] at e6; subst e6
  obtain ⟨z7, j7⟩ : ∃ z, DataW.trod enc Try.prog W base spare held m 33 [c7, c8, c9] = some z := by have := hf 7 _ 3 rfl sizeapiSpan; exact this
  obtain ⟨x7, e7, w7⟩ := op_span j7
  simp only [spanc, ratioc, List.cons.injEq, and_true] at e7; obtain ⟨rfl, rfl, rfl⟩ := e7
  obtain ⟨z8, j8⟩ : ∃ z, DataW.trod enc Try.prog W base spare held m 33 [c10, c11, c12] = some z := by have := hf 8 _ 3 rfl sizeapiSpan; exact this
  obtain ⟨x8, e8, w8⟩ := op_span j8
  simp only [spanc, ratioc, List.cons.injEq, and_true] at e8; obtain ⟨rfl, rfl, rfl⟩ := e8
  obtain ⟨z9, j9⟩ : ∃ z, DataW.trod enc Try.prog W base spare held m 34 [c13] = some z := by have := hf 9 _ 1 rfl sizeSapiNamed; exact this
  obtain ⟨x9, r9, w9, _⟩ := row_of_trod Try.underlying34 sizeapiNamed (by omega) namedc NamedOk (fun _ _ _ _ h => op_named h) j9
  obtain ⟨z10, j10⟩ : ∃ z, DataW.trod enc Try.prog W base spare held m 9 [c14] = some z := by have := hf 10 _ 1 rfl sizestring; exact this
  obtain ⟨x10, e10, w10⟩ := op_str j10
  simp only [List.cons.injEq, and_true] at e10; subst e10
  obtain ⟨z11, j11⟩ : ∃ z, DataW.trod enc Try.prog W base spare held m 9 [c15] = some z := by have := hf 11 _ 1 rfl sizestring; exact this
  obtain ⟨x11, e11, w11⟩ := op_str j11
  simp only [List.cons.injEq, and_true] at e11; subst e11
  obtain ⟨z12, j12⟩ : ∃ z, DataW.trod enc Try.prog W base spare held m 36 [c16, c17] = some z := by have := hf 12 _ 2 rfl sizeapiRatio; exact this
  obtain ⟨x12, e12, w12⟩ := op_ratio j12
  simp only [spanc, ratioc, List.cons.injEq, and_true] at e12; obtain ⟨rfl, rfl⟩ := e12
  obtain ⟨z13, j13⟩ : ∃ z, DataW.trod enc Try.prog W base spare held m 9 [c18] = some z := by have := hf 13 _ 1 rfl sizestring; exact this
  obtain ⟨x13, e13, w13⟩ := op_str j13
  simp only [List.cons.injEq, and_true] at e13; subst e13
  obtain ⟨z14, j14⟩ : ∃ z, DataW.trod enc Try.prog W base spare held m 9 [c19] = some z := by have := hf 14 _ 1 rfl sizestring; exact this
  obtain ⟨x14, e14, w14⟩ := op_str j14
  simp only [List.cons.injEq, and_true] at e14; subst e14
  obtain ⟨z15, j15⟩ : ∃ z, DataW.trod enc Try.prog W base spare held m 4 [c20] = some z := by have := hf 15 _ 1 rfl sizebool; exact this
  obtain ⟨x15, e15⟩ := op_bool j15
  simp only [List.cons.injEq, and_true] at e15; subst e15
  obtain ⟨z16, j16⟩ : ∃ z, DataW.trod enc Try.prog W base spare held m 9 [c21] = some z := by have := hf 16 _ 1 rfl sizestring; exact this
  obtain ⟨x16, e16, w16⟩ := op_str j16
  simp only [List.cons.injEq, and_true] at e16; subst e16
  obtain ⟨z17, j17⟩ : ∃ z, DataW.trod enc Try.prog W base spare held m 9 [c22] = some z := by have := hf 17 _ 1 rfl sizestring; exact this
  obtain ⟨x17, e17, w17⟩ := op_str j17
  simp only [List.cons.injEq, and_true] at e17; subst e17
  obtain ⟨z18, j18⟩ : ∃ z, DataW.trod enc Try.prog W base spare held m 37 [c23, c24, c25, c26, c27, c28, c29] = some z := by have := hf 18 _ 7 rfl sizeA7bool; exact this
  obtain ⟨b0, b1, b2, b3, b4, b5, b6, e18⟩ := op_days j18
  simp only [spanc, ratioc, List.cons.injEq, and_true] at e18; obtain ⟨rfl, rfl, rfl, rfl, rfl, rfl, rfl⟩ := e18
  obtain ⟨z19, j19⟩ : ∃ z, DataW.trod enc Try.prog W base spare held m 38 [c30] = some z := by have := hf 19 _ 1 rfl sizeSapiCivil; exact this
  obtain ⟨x19, r19, w19, _⟩ := row_of_trod Try.underlying38 sizeapiCivil (by omega) civilc CivilOk (fun _ _ _ _ h => op_civil h) j19
  obtain ⟨z20, j20⟩ : ∃ z, DataW.trod enc Try.prog W base spare held m 39 [c31] = some z := by have := hf 20 _ 1 rfl sizeSstring; exact this
  obtain ⟨x20, r20, w20, _⟩ := row_of_trod Try.underlying39 sizestring (by omega) (fun x => [sv x]) okS (fun _ _ _ _ h => op_str h) j20
  obtain ⟨z21, j21⟩ : ∃ z, DataW.trod enc Try.prog W base spare held m 24 [c32] = some z := by have := hf 21 _ 1 rfl sizeSapiItem; exact this
  exact ⟨⟨x0, x1, x2, x3, x4, x5, x6, x7, x8, x9, x10, x11, x12, x13, x14, x15, x16, x17, [b0, b1, b2, b3, b4, b5, b6], x19, x20⟩, c13, c30, c31, c32, m, z21, rfl, ⟨w0, w1, w2, w3, w4, w5, w6, w7, w8, w9, w10, w11, w12, w13, w14, w16, w17, rfl, w19, w20⟩, ⟨r9, r19, r20⟩, rfl, j21⟩
end
end Go.Proofs.Yticakdajhmfpoaa.Rs
