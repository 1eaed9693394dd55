/-
  What the walks of the laws share: an item appended to a source's items.
-/
import Derived.Test.YtdhjibnkebbejaaDoorResLaid
import Derived.Test.YtdhjibnkebbejaaDoorResHead
import Derived.Test.YtdhjibnkebbejaaDoorResSmall
import Derived.Test.YtdhjibnkebbejaaDoorResSameS
import Derived.Test.YtdhjibnkebbejaaDoorResLow
import Derived.Test.YtdhjibnkebbejaaDoorReg2
import Derived.Test.YtdhjibnkebbejaaDoorResLawA
import Derived.Test.YtdhjibnkebbejaaDoorApp
import Derived.Deep.DeepCutAuto
namespace Go.Proofs.YtdhjibnkebbejaaDoor.Rs
open Go.RowKit Mem Vw
set_option linter.unusedVariables false
set_option linter.unusedSimpArgs false

theorem wp_builtS {o : Oper} {a : Act} {w : World} {K : Act → World → Prop} {Q : Exit → Act → World → Prop} (t : TypeId) (n : Nat) (parts : Array (Nat × Operand)) (hop : o.op = .buildSlice t n parts) (ps : Array (Nat × Value))
    (hp : parts.map (fun (i, x) => (i, a.eval x)) = ps) (v : Value) (w' : World) (hb : (Instr.buildSlice t n ps).run Tryd.prog w = .ok v w') (h : K (a.put o.dst v) w') : o.wp Tryd.prog a w K Q := by
  unfold Oper.wp
  simp [execOp, hop, hp, hb, Result.andThen]
  exact h
theorem answer_fine {src sa : Rs.Source} {ya : Sy} (h : answer src = (sa, ya, [])) : (Rs.run src.items).2 = [] ∧ sa = src ∧ ya = { (Rs.run src.items).1 with hol := dsort (Rs.run src.items).1.hol } := by
  unfold answer at h
  by_cases h0 : (Rs.run src.items).2 = []
  · rw [if_pos h0] at h
    simp only [Prod.mk.injEq, and_true] at h
    exact ⟨h0, h.1.symm, h.2.symm⟩
  · rw [if_neg h0] at h
    simp only [Prod.mk.injEq] at h
    exact absurd h.2.2 h0
theorem answer_faults (src : Rs.Source) : (answer src).2.2 = (Rs.run src.items).2 := by
  unfold answer
  by_cases h0 : (Rs.run src.items).2 = []
  · rw [if_pos h0, h0]
  · rw [if_neg h0]
theorem bslice1i (x : Item) (Ac : Option Addr) (nc cc : Nat) (Ad : Option Addr) (nd cd : Nat) (An : Option Addr) (nn cn : Nat) (Ax : Option Addr) (nx cx : Nat) (w : World) : (Instr.buildSlice 24 1 #[(0, .agg (ic (x, .slice Ac nc cc, .slice Ad nd cd, .slice An nn cn, .slice Ax nx cx)).toArray)]).run Tryd.prog w = .ok (.slice (some ⟨w.heap.size, 0, none⟩) 1 1) (w.alloc (.cells (ic (x, .slice Ac nc cc, .slice Ad nd cd, .slice An nn cn, .slice Ax nx cx)).toArray 55)) := by kernel_rfl
theorem bslice_any {W : World} {p : Item × Sl} (h : Flat W p.1 p.2.1 p.2.2.1 p.2.2.2.1 ∧ IsSlice p.2.2.2.2) (w : World) : (Instr.buildSlice 24 1 #[(0, .agg (ic p).toArray)]).run Tryd.prog w = .ok (.slice (some ⟨w.heap.size, 0, none⟩) 1 1) (w.alloc (.cells (ic p).toArray 55)) := by
  obtain ⟨x, sc, sd, sn, sx⟩ := p
  obtain ⟨hf, hs⟩ := h
  dsimp only at hf hs
  obtain ⟨_, _, _, rfl⟩ := hf.conds.form
  obtain ⟨_, _, _, rfl⟩ := hf.dates.form
  obtain ⟨_, _, _, rfl⟩ := hf.names.form
  obtain ⟨_, _, _, rfl⟩ := hs
  exact bslice1i ..
theorem run_load_range {P : Program} {o : Oper} {a : Act} {w : World} (ty : TypeId) (x : Operand) (ho : o.op = .load ty x) (g off : Nat) (hx : a.eval x = .pointer (some ⟨g, off, none⟩)) (cs : List Value) (d : TypeDesc) (hc : w.rangeAt g off cs)
    (hu : P.underlying ty = some d) (hd : d.isRow = true) (hi : (P.info? ty).map (·.size) = some cs.length) : (execOp a.eval o).run P w = .ok (.value (.agg cs.toArray)) w := by
  have hl := run_loadVar_mid (P := P) w g off ty cs d hc hu hd hi
  unfold execOp
  simp only [ho, hx, Instr.loadAt, Instr.sureAddr, Sem.run_bind, Sem.run_pure, Result.andThen_ok, hl]
theorem items_flen (t : Tab) (l : List Item) : ∀ (ms : List (Bool × Bool)) (s : Sy) (f : List Fault), (items t s f l ms).2.length ≤ f.length + l.length := by
  induction l with
  | nil => intro ms s f; unfold items; exact Nat.le_refl _
  | cons x l ih =>
    intro ms s f
    cases ms with
    | nil => unfold items; exact Nat.le_add_right _ _
    | cons m ms =>
      rw [items_step]
      refine Nat.le_trans (ih ms _ _) ?_
      rw [List.length_cons]
      split
      · omega
      · rw [List.length_append, List.length_cons, List.length_nil]; omega
theorem run_flen (l : List Item) : (Rs.run l).2.length ≤ l.length := by
  have := items_flen (tabs tab0 l) l (marks tab0 l) sy0 []
  unfold Rs.run
  simpa using this
theorem answer_perm (n : Bytes) (f : Civil) (d : Int) {l l' : List Item} (h : (Rs.run l).1 = (Rs.run l').1) (hp : (Rs.run l).2.Perm (Rs.run l').2) :
    (answer ⟨n, f, d, l'⟩).2.1 = (answer ⟨n, f, d, l⟩).2.1 ∧ (answer ⟨n, f, d, l'⟩).1.name = (answer ⟨n, f, d, l⟩).1.name ∧ (answer ⟨n, f, d, l'⟩).1.frm = (answer ⟨n, f, d, l⟩).1.frm ∧ (answer ⟨n, f, d, l'⟩).1.days = (answer ⟨n, f, d, l⟩).1.days ∧ (answer ⟨n, f, d, l⟩).2.2.Perm (answer ⟨n, f, d, l'⟩).2.2 := by
  unfold answer
  dsimp only
  by_cases h0 : (Rs.run l).2 = []
  · have h1 : (Rs.run l').2 = [] := by rw [h0] at hp; exact hp.nil_eq.symm
    rw [if_pos h0, if_pos h1, h]
    exact ⟨rfl, rfl, rfl, rfl, List.Perm.refl _⟩
  · have h1 : (Rs.run l').2 ≠ [] := fun e => by rw [e] at hp; exact h0 hp.eq_nil
    rw [if_neg h0, if_neg h1]
    exact ⟨rfl, rfl, rfl, rfl, hp⟩
theorem symc_head {a b : Source} (h1 : a.name = b.name) (h2 : a.frm = b.frm) (h3 : a.days = b.days) (wk : List Bool) (H : RH) : symc a wk H = symc b wk H := by
  unfold symc; rw [h1, h2, h3]
/-- A source's block with a row of items of its own, appended to in a loop. -/
structure AppSt (B tb : Nat) (src : Source) (u : World) (vi : Value) (K : List (Item × Sl)) (wr : World) : Prop where
  own : wr.ownsRow B 55 33 vi K.length (K.flatMap ic)
  tbk : wr.heap[tb]? = some (.cells (scells src.name src.frm src.days vi).toArray 26 (0, 0))
  fr : Fr (fun k => k = tb) u wr
theorem AppSt.step {B tb : Nat} {src : Source} {u wr wa wc : World} {vi : Value} {K : List (Item × Sl)} {p : Item × Sl} (st : AppSt B tb src u vi K wr) (hB : u.heap.size = B) (ht : tb < B) (hwa : Fr (fun _ => False) wr wa) {g cap : Nat} (g1 : wc.ownsRow B 55 33 (.slice (some ⟨g, 0, none⟩) (K.length + 1) cap) (K.length + 1) (K.flatMap ic ++ ic p)) (g2 : wa.grownBy wc vi.ownBlock) :
    AppSt B tb src u (.slice (some ⟨g, 0, none⟩) (K.length + 1) cap) (K ++ [p]) (wc.setCell ⟨tb, 5, none⟩ (.slice (some ⟨g, 0, none⟩) (K.length + 1) cap)) := by
  have hne : ∀ k, vi.ownBlock = some k → B ≤ k := fun k hk => (own_lt st.own k hk).1
  have h1 : Fr (fun k => k = tb) u wa := st.fr.trans' hwa (fun _ _ h => h.elim)
  have h2 : Fr (fun k => k = tb) u wc := h1.grown g2 (fun k hk => .inr (by have := hne k hk; omega))
  have hs : Fr (fun k => k = tb) wc (wc.setCell ⟨tb, 5, none⟩ (.slice (some ⟨g, 0, none⟩) (K.length + 1) cap)) := (Fr.refl (fun k => k = tb) wc).setCell (p := ⟨tb, 5, none⟩) (.inl rfl) _
  refine ⟨?_, ?_, h2.trans hs⟩
  · have := own_fr g1 hs (fun k hk _ e => by omega)
    rw [List.length_append, List.flatMap_append]
    simpa using this
  · have hb := (Fr.of_grown g2).blk (hwa.blk st.tbk (fun h => h)) (fun h => by have := hne _ h; omega)
    exact (blk_set hb 5 _).trans rfl
theorem AppSt.keep {B tb : Nat} {src : Source} {u wr w : World} {vi : Value} {K : List (Item × Sl)} (st : AppSt B tb src u vi K wr) (h : Fr (fun _ => False) wr w) : AppSt B tb src u vi K w :=
  ⟨own_fr st.own h (fun _ _ _ h => h), h.blk st.tbk (fun h => h), st.fr.trans' h (fun _ _ h => h.elim)⟩
/-- Another row stays while the items grow. -/
theorem AppSt.other {B tb : Nat} {src : Source} {u wr wa wc : World} {vi : Value} {K : List (Item × Sl)} (st : AppSt B tb src u vi K wr) (hB : u.heap.size = B) (ht : tb < B) (hwa : Fr (fun _ => False) wr wa) (g2 : wa.grownBy wc vi.ownBlock) {e : TypeId} {size n : Nat} {v : Value} {xs : List Value} (ho : wr.ownsRow B e size v n xs) (hne : ∀ g, v.ownBlock = some g → vi.ownBlock ≠ some g) (x : Value) : (wc.setCell ⟨tb, 5, none⟩ x).ownsRow B e size v n xs := by
  have hs : Fr (fun k => k = tb) wc (wc.setCell ⟨tb, 5, none⟩ x) := (Fr.refl (fun k => k = tb) wc).setCell (p := ⟨tb, 5, none⟩) (.inl rfl) _
  have h1 := own_fr ho hwa (fun _ _ _ h => h)
  exact own_fr (own_grown h1 g2 hne) hs (fun k hk _ e => by omega)
end Go.Proofs.YtdhjibnkebbejaaDoor.Rs
