/-
  What the closure 'size' of the law ResolveAppends returns; how many elements the tables have at most.
-/
import Derived.Test.YtdhjibnkebbejaaDoorResSame
import Derived.Test.YtdhjibnkebbejaaDoorResLawA
namespace Go.Proofs.YtdhjibnkebbejaaDoor.Rs
open Go.RowKit Mem Vw
set_option linter.unusedVariables false
set_option linter.unusedSimpArgs false

theorem item_total (t : Tab) (s : Sy) (x : Item) (tw mb : Bool) : total (item t s x tw mb).1 ≤ total s + 1 := by
  unfold item
  rw [holiday_eq]
  unfold total
  repeat' split
  all_goals (simp only [List.length_append, List.length_cons, List.length_nil]; omega)
theorem items_total (t : Tab) (l : List Item) : ∀ (ms : List (Bool × Bool)) (s : Sy) (f : List Fault), total (items t s f l ms).1 ≤ total s + l.length := by
  induction l with
  | nil => intro ms s f; unfold items; exact Nat.le_refl _
  | cons x l ih =>
    intro ms s f
    cases ms with
    | nil => unfold items; exact Nat.le_add_right _ _
    | cons m ms =>
      rw [items_step]
      have h1 := ih ms (item t s x m.1 m.2).1 (if (item t s x m.1 m.2).2 = 0 then f else f ++ [⟨(item t s x m.1 m.2).2, x.pos⟩])
      have h2 := item_total t s x m.1 m.2
      rw [List.length_cons]
      omega
theorem run_total (l : List Item) : total (run l).1 ≤ l.length := by
  have := items_total (tabs tab0 l) l (marks tab0 l) sy0 []
  unfold run
  have e : total sy0 = 0 := rfl
  omega
set_option maxRecDepth 100000 in
theorem size_any (src : Source) (s : Sy) (H : RH) (cl : List (ClauseSym × Value)) (w : World) (h : SyRows w s H cl) (hl : total s ≤ 1000000) :
    Calls Tryd.prog 23 #[.agg (symc src s.weekend H).toArray] w fun e w' => e = .returned (.int .i64 ((total s : Nat) : Int)) ∧ Below w.heap.size w w' := by
  obtain ⟨hol, par, rol, uni, act, cla, flt⟩ := H
  obtain ⟨_, rpar, rrol, runi, ract, rcla, rcls, _, _⟩ := h
  have hc : cl.length = s.clauses.length := by rw [← rcls, List.length_map]
  obtain ⟨Ap, cp, e2, _⟩ := rpar.slice
  obtain ⟨Ar, cr, e3, _⟩ := rrol.slice
  obtain ⟨Au, cu, e4, _⟩ := runi.slice
  obtain ⟨Aa, ca, e5, _⟩ := ract.slice
  obtain ⟨Ac, cc, e6, _⟩ := rcla.slice
  rw [List.length_map] at e2 e3 e4 e5 e6
  dsimp only at e2 e3 e4 e5 e6
  subst e2 e3 e4 e5 e6
  rw [hc]
  clear rpar rrol runi ract rcla rcls hc
  unfold total at *
  obtain ⟨u, hu⟩ : ∃ u, w.alloc (.cells (symc src s.weekend ⟨hol, .slice Ap s.parties.length cp, .slice Ar s.roles.length cr, .slice Au s.units.length cu, .slice Aa s.acts.length ca, .slice Ac s.clauses.length cc, flt⟩).toArray 39) = u := ⟨_, rfl⟩
  have hb : u.heap[w.heap.size]? = some (.cells (symc src s.weekend ⟨hol, .slice Ap s.parties.length cp, .slice Ar s.roles.length cr, .slice Au s.units.length cu, .slice Aa s.acts.length ca, .slice Ac s.clauses.length cc, flt⟩).toArray 39 (0, 0)) := by rw [← hu]; exact blk_newn rfl
  have HBL : Hid (Below w.heap.size w u) := by rw [← hu]; exact (Below.refl _ w).alloc (Nat.le_refl _) _
  have q4 : u.cell? ⟨w.heap.size, 13, none⟩ = some (.slice Ap s.parties.length cp) := (cell_of_blk hb 13).trans rfl
  have q5 : u.cell? ⟨w.heap.size, 14, none⟩ = some (.slice Ar s.roles.length cr) := (cell_of_blk hb 14).trans rfl
  have q6 : u.cell? ⟨w.heap.size, 15, none⟩ = some (.slice Au s.units.length cu) := (cell_of_blk hb 15).trans rfl
  have q7 : u.cell? ⟨w.heap.size, 16, none⟩ = some (.slice Aa s.acts.length ca) := (cell_of_blk hb 16).trans rfl
  have q8 : u.cell? ⟨w.heap.size, 17, none⟩ = some (.slice Ac s.clauses.length cc) := (cell_of_blk hb 17).trans rfl
  have HU := Lib.hid hu
  clear hb hu
  go_enter Tryd.func23, Tryd.ntmps23
  go_upto_region 1 with fail
  rw [HU.out]
  clear HU
  go_wp2_with fail
  go_ret
  exact ⟨by push_cast; rfl, HBL.out⟩
end Go.Proofs.YtdhjibnkebbejaaDoor.Rs
