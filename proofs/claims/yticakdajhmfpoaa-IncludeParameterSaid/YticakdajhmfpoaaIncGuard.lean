/-
  Include: operations behind a guard; items made bare.
-/
import Derived.Test.YticakdajhmfpoaaIncBld
import Derived.Test.YticakdajhmfpoaaApp
namespace Go.Proofs.Yticakdajhmfpoaa.Ic
open Go.RowKit Mem Vw Rs
set_option linter.unusedVariables false
set_option linter.unusedSimpArgs false

theorem wpList_load_row_g {P : Program} {ops : Array Oper} {rest : List Oper} {op : Oper} {a : Act} {w : World} {Q : Exit → Act → World → Prop} (hw : Region.wanted op (yielded ops a.tmps) = true) (ty : TypeId) (x : Operand) (ho : op.op = .load ty x)
    (b : Nat) (hx : a.eval x = .pointer (some ⟨b, 0, none⟩)) (cs : List Value) (t : TypeId) (d : TypeDesc) (hc : w.heap[b]? = some (.cells cs.toArray t (0, 0)))
    (hu : P.underlying ty = some d) (hd : d.isRow = true) (hi : (P.info? ty).map (·.size) = some cs.length)
    (h : wpList P ops Q rest (a.put op.dst (.agg cs.toArray)) w) : wpList P ops Q (op :: rest) a w :=
  wpList_step fun _ hK => by rw [if_pos hw]; exact wp_load_mid ty x ho b 0 hx cs d (At.of_blk hc) hu hd hi (hK _ _ h)
theorem wpList_bsl1_g {ops : Array Oper} {rest : List Oper} {o : Oper} {a : Act} {w : World} {Q : Exit → Act → World → Prop} (hw : Region.wanted o (yielded ops a.tmps) = true) (t : TypeId) (x : Operand) (hop : o.op = .buildSlice t 1 #[(0, x)]) {v0 : Value} (hx : a.eval x = v0) (v : Value) (w' : World) (hb : (Instr.buildSlice t 1 #[(0, v0)]).run Try.prog w = .ok v w') (h : wpList Try.prog ops Q rest (a.put o.dst v) w') : wpList Try.prog ops Q (o :: rest) a w :=
  wpList_step fun _ hK => by rw [if_pos hw]; exact wp_bsl1 t x hop hx v w' hb (hK _ _ h)
/-- An item that is made an inclusion without items. -/
def asIncl (x : DT) : DT := .node { x.h with kind := 14 } x.c x.d x.n Vw.nil []
theorem asIncl_lay {B : Nat → Prop} {w : World} {x : DT} (h : Lay B w x) : Lay B w (asIncl x) := .node _ _ _ _ _ _ h.conds h.dates h.names (RowB.nil B w 33) (fun y hy => absurd hy List.not_mem_nil)
theorem asIncl_cells (x : DT) : (x.cells.set 0 (.int .i64 14)).set 32 (.slice none 0 0) = (asIncl x).cells := by
  cases x; rfl
theorem asIncl_tsz (x : DT) : tsz [asIncl x] = 1 := rfl
/-- An item without its items. -/
def bare (x : DT) : DT := .node x.h x.c x.d x.n Vw.nil []
theorem bare_lay {B : Nat → Prop} {w : World} {x : DT} (h : Lay B w x) : Lay B w (bare x) := .node _ _ _ _ _ _ h.conds h.dates h.names (RowB.nil B w 33) (fun y hy => absurd hy List.not_mem_nil)
theorem bare_cells (x : DT) : x.cells.set 32 (.slice none 0 0) = (bare x).cells := by
  cases x; rfl
theorem bare_tsz (x : DT) : tsz [bare x] = 1 := rfl
theorem RowB.take {B : Nat → Prop} {w : World} {A : Option Addr} {c z n : Nat} {xs : List (List Value)} (h : RowB B w (.slice A xs.length c) z xs) (hn : n ≤ xs.length) : RowB B w (.slice A n c) z (xs.take n) := by
  obtain ⟨⟨A', cap, e, hc, hr⟩, hb⟩ := h
  injection e with e1 _ e3
  subst e1; subst e3
  have hl : (xs.take n).length = n := by rw [List.length_take]; omega
  refine ⟨⟨A, c, by rw [hl], ⟨by rw [hl]; omega, hc.2⟩, ?_⟩, fun g o m c' e hne => ?_⟩
  · rcases hr with hr | ⟨g, o, hA, hg, hr⟩
    · exact .inl (by rw [hr]; simp)
    · exact .inr ⟨g, o, hA, hg, fun i x hx => hr i x (by
        rw [List.getElem?_take] at hx
        split at hx
        · exact hx
        · cases hx)⟩
  · injection e with e1 e2 e3
    subst e1; subst e3
    exact hb g o _ _ rfl (fun e => hne (by rw [e]; simp))
theorem RowB.drop {B : Nat → Prop} {w : World} {A : Option Addr} {c z n : Nat} {xs : List (List Value)} (h : RowB B w (.slice A xs.length c) z xs) (hn : n ≤ xs.length) : RowB B w (.slice (if c = n then A else A.map fun x => x.add (n * z)) (xs.length - n) (c - n)) z (xs.drop n) := by
  obtain ⟨⟨A', cap, e, hc, hr⟩, hb⟩ := h
  injection e with e1 _ e3
  subst e1; subst e3
  have hl : (xs.drop n).length = xs.length - n := by rw [List.length_drop]
  by_cases hd : xs.drop n = []
  · exact ⟨⟨_, c - n, by rw [hl], ⟨by rw [hl]; omega, by omega⟩, .inl hd⟩, fun g o m c' e hne => absurd hd hne⟩
  · have hlt : n < xs.length := by
      rcases Nat.lt_or_ge n xs.length with h | h
      · exact h
      · exact absurd (List.drop_eq_nil_of_le h) hd
    rcases hr with hr | ⟨g, o, hA, hg, hr⟩
    · exact absurd (by rw [hr]; simp) hd
    · subst hA
      rw [if_neg (by omega)]
      have e1 : (some (⟨g, o, none⟩ : Addr)).map (fun x => x.add (n * z)) = some ⟨g, o + n * z, none⟩ := by
        show some ((⟨g, o, none⟩ : Addr).add (n * z)) = _
        rw [Go.WideShapes.add_plain]
      rw [e1]
      refine ⟨⟨_, c - n, by rw [hl], ⟨by rw [hl]; omega, by omega⟩, .inr ⟨g, o + n * z, rfl, hg, fun i x hx => ?_⟩⟩, fun g' o' m c' e hne => ?_⟩
      · rw [List.getElem?_drop] at hx
        have := hr _ _ hx
        have e2 : o + n * z + i * z = o + (n + i) * z := by rw [Nat.add_mul, Nat.add_assoc]
        rw [e2]
        exact this
      · injection e with e1 _ _
        injection e1 with e1; injection e1 with e1 _ _
        subst e1
        exact hb g o _ _ rfl (fun e => hd (by rw [e]; simp))
theorem LayL.take {B : Nat → Prop} {w : World} {A : Option Addr} {c n : Nat} {l : List DT} (h : LayL B w l (.slice A l.length c)) (hn : n ≤ l.length) : LayL B w (l.take n) (.slice A n c) := by
  have h1 := h.row
  have e : l.length = (l.map DT.cells).length := by rw [List.length_map]
  rw [e] at h1
  have := h1.take (n := n) (by rw [List.length_map]; exact hn)
  rw [← List.map_take] at this
  exact ⟨this, fun x hx => h.lay x (List.mem_of_mem_take hx)⟩
theorem LayL.drop {B : Nat → Prop} {w : World} {A : Option Addr} {c n : Nat} {l : List DT} (h : LayL B w l (.slice A l.length c)) (hn : n ≤ l.length) : LayL B w (l.drop n) (.slice (if c = n then A else A.map fun x => x.add (n * 33)) (l.length - n) (c - n)) := by
  have h1 := h.row
  have e : l.length = (l.map DT.cells).length := by rw [List.length_map]
  rw [e] at h1
  have := h1.drop (n := n) (by rw [List.length_map]; exact hn)
  rw [← List.map_drop, List.length_map] at this
  exact ⟨this, fun x hx => h.lay x (List.mem_of_mem_drop hx)⟩
end Go.Proofs.Yticakdajhmfpoaa.Ic
