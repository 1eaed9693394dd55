/-
  Include: the items that the reference's Renamed builds.
-/
import Derived.Test.YticakdajhmfpoaaIncRen1
namespace Go.Proofs.Yticakdajhmfpoaa.Ic
open Go.RowKit Mem Vw Rs
set_option linter.unusedVariables false
set_option linter.unusedSimpArgs false

/-- The item that is being built: its block, the row of its items. -/
structure It (D : Nat → Prop) (bo go : Nat) (h : Rs.Item) (c d nv : Value) (f g : Rs.Bytes) (l : List DT) (k : Nat) (ts : List DT) (iv : Value) (Wb w : World) : Prop where
  sz : bo ≤ Wb.heap.size
  blk : w.heap[go]? = some (.cells (icells h c d nv iv).toArray 41 (0, 0))
  own : w.ownsRow bo 41 33 iv ts.length (ts.flatMap DT.cells)
  ne : iv.ownBlock ≠ some go
  fr : Fr (fun q => q = go ∨ bo ≤ q) Wb w
  lay : ∀ x ∈ ts, Lay (fun q => D q ∧ q ≠ go ∧ iv.ownBlock ≠ some q) w x
  tr : ts.map DT.tree = (l.take k).map fun y => rename1 f g y.tree
theorem It.next {D : Nat → Prop} {bo go : Nat} {h : Rs.Item} {c d nv : Value} {f g : Rs.Bytes} {l : List DT} {k : Nat} {ts : List DT} {iv : Value} {Wb wr w5 w6 : World} {x y : DT} {g2 cn : Nat} (hi : It D bo go h c d nv f g l k ts iv Wb wr) (hg : go < bo) (hy : l[k]? = some y) (hf : Fr (fun _ => False) wr w5)
    (hx : Lay (fun q => D q ∧ q ≠ go ∧ iv.ownBlock ≠ some q) w5 x) (hxt : x.tree = rename1 f g y.tree)
    (k1 : w6.ownsRow bo 41 33 (.slice (some ⟨g2, 0, none⟩) (ts.length + 1) cn) (ts.length + 1) (ts.flatMap DT.cells ++ x.cells)) (k2 : w5.grownBy w6 iv.ownBlock) (k3 : iv.ownBlock = some g2 ∨ g2 = w5.heap.size) :
    It D bo go h c d nv f g l (k + 1) (ts ++ [x]) (.slice (some ⟨g2, 0, none⟩) (ts.length + 1) cn) Wb (w6.setCell ⟨go, 32, none⟩ (.slice (some ⟨g2, 0, none⟩) (ts.length + 1) cn)) := by
  have hgt := lt_of_blk hi.blk
  have hne : g2 ≠ go := fun e => by
    rcases k3 with k3 | k3
    · exact hi.ne (by rw [k3, e])
    · have := hf.size; omega
  have hgr := Fr.of_grown k2
  have hb6 : w6.heap[go]? = some (.cells (icells h c d nv iv).toArray 41 (0, 0)) := hgr.blk (hf.blk hi.blk (fun e => e)) (fun e => hi.ne e)
  have hfs : Fr (fun q => q = go) w6 (w6.setCell ⟨go, 32, none⟩ (.slice (some ⟨g2, 0, none⟩) (ts.length + 1) cn)) := (Fr.refl (fun q => q = go) w6).setb 32 _
  have ho : ∀ q, iv.ownBlock = some q → bo ≤ q ∧ q < wr.heap.size := fun q e => own_lt hi.own q e
  have e1 : (ts ++ [x]).length = ts.length + 1 := by simp
  have e2 : (ts ++ [x]).flatMap DT.cells = ts.flatMap DT.cells ++ x.cells := by simp [List.flatMap_append]
  have key : ∀ z : DT, Lay (fun q => D q ∧ q ≠ go ∧ iv.ownBlock ≠ some q) w5 z → Lay (fun q => D q ∧ q ≠ go ∧ (Value.slice (some ⟨g2, 0, none⟩) (ts.length + 1) cn).ownBlock ≠ some q) (w6.setCell ⟨go, 32, none⟩ (.slice (some ⟨g2, 0, none⟩) (ts.length + 1) cn)) z := fun z hz => by
    have h1 : Lay (fun q => (D q ∧ q ≠ go ∧ iv.ownBlock ≠ some q) ∧ q < w5.heap.size) w5 z := hz.mono (fun q a b => ⟨b, a⟩)
    refine ((h1.fr hgr (fun q hq e => hq.1.2.2 e)).fr hfs (fun q hq e => hq.1.2.1 e)).mono (fun q _ h4 => ⟨h4.1.1, h4.1.2.1, fun e => ?_⟩)
    have : g2 = q := by simpa [Value.ownBlock] using e
    subst this
    rcases k3 with k3 | k3
    · exact h4.1.2.2 k3
    · omega
  refine ⟨hi.sz, ?_, ?_, by simpa [Value.ownBlock] using hne, ?_, fun z hz => ?_, ?_⟩
  · have := blk_set hb6 32 (.slice (some ⟨g2, 0, none⟩) (ts.length + 1) cn)
    exact this
  · rw [e1, e2]
    exact own_frb k1 hfs (fun k hk e => by
      have : g2 = k := by simpa [Value.ownBlock] using hk
      omega)
  · exact ((hi.fr.trans' hf (fun _ _ e => e.elim)).grown k2 (fun q e => .inl (.inr (ho q e).1))).trans' hfs (fun q _ e => .inl e)
  · rcases List.mem_append.1 hz with hz | hz
    · exact key z ((hi.lay z hz).fr hf (fun _ _ e => e))
    · simp only [List.mem_cons, List.not_mem_nil, or_false] at hz
      subst hz
      exact key z hx
  · rw [List.map_append, hi.tr, List.map_cons, List.map_nil, hxt, List.take_add_one, hy, List.map_append]
    rfl
theorem rename1_clause {f g : Rs.Bytes} {y : DT} (hc : isClause y.h.kind = true) : rename1 f g y.tree = .node { y.h with of_ := change f g y.h.of_, act := change f g y.h.act, by_ := change f g y.h.by_, til := change f g y.h.til, unit := change f g y.h.unit, sum := change f g y.h.sum, to_ := change f g y.h.to_, within := { y.h.within with name := change f g y.h.within.name }, grace := { y.h.grace with name := change f g y.h.grace.name }, conds := y.h.conds.map fun k => { k with name := change f g k.name } } (y.l.map DT.tree) := by
  unfold rename1
  simp only [DT.tree_h, DT.tree_l]
  exact if_pos hc
theorem rename1_incl {f g : Rs.Bytes} {y : DT} (hk : y.h.kind = 14) : rename1 f g y.tree = .node { y.h with names := y.h.names.map (change f g) } (y.l.map DT.tree) := by
  unfold rename1
  simp only [DT.tree_h, DT.tree_l]
  exact (if_neg (by rw [hk]; decide)).trans (if_pos hk)
theorem rename1_rest {f g : Rs.Bytes} {y : DT} (hc : isClause y.h.kind = false) (hk : y.h.kind ≠ 14) : rename1 f g y.tree = y.tree := by
  unfold rename1
  simp only [DT.tree_h, DT.tree_l]
  exact (if_neg (by rw [hc]; decide)).trans (if_neg hk)
end Go.Proofs.Yticakdajhmfpoaa.Ic
