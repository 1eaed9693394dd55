/-
  What the reference's function Same returns for equal symbols.
-/
import Derived.Test.YtdhjibnkebbejaaDoorResSame
namespace Go.Proofs.YtdhjibnkebbejaaDoor.Rs
open Go.RowKit Mem Vw
set_option linter.unusedVariables false
set_option linter.unusedSimpArgs false

/-- A load of many cells behind a guard. -/
theorem wpList_load_mid_g {P : Program} {ops : Array Oper} {rest : List Oper} {op : Oper} {a : Act} {w : World} {Q : Exit → Act → World → Prop} (hw : Region.wanted op (yielded ops a.tmps) = true) (ty : TypeId) (x : Operand) (ho : op.op = .load ty x)
    (b o : Nat) (hx : a.eval x = .pointer (some ⟨b, o, none⟩)) (cs : List Value) (d : TypeDesc) (hc : w.rangeAt b o cs)
    (hu : P.underlying ty = some d) (hd : d.isRow = true) (hi : (P.info? ty).map (·.size) = some cs.length)
    (h : wpList P ops Q rest (a.put op.dst (.agg cs.toArray)) w) : wpList P ops Q (op :: rest) a w :=
  wpList_step fun _ hK => by rw [if_pos hw]; exact wp_load_mid ty x ho b o hx cs d hc hu hd hi (hK _ _ h)
theorem range_of_blk {w : World} {g : Nat} {l : List Value} {t : TypeId} (h : w.heap[g]? = some (.cells l.toArray t (0, 0))) : w.rangeAt g 0 l := fun j v hv => by
  rw [Nat.zero_add, cell_of_blk h]
  simpa using hv
set_option maxRecDepth 100000 in
set_option maxHeartbeats 8000000 in
theorem same_true (src : Source) (s : Sy) (Ha Hb : RH) (cla clb : List (ClauseSym × Value)) (w : World) (ha : SyRows w s Ha cla) (hb : SyRows w s Hb clb) :
    Calls Tryd.prog 14 #[.agg (symc src s.weekend Ha).toArray, .agg (symc src s.weekend Hb).toArray] w fun e w' => e = .returned (.bool true) ∧ Below w.heap.size w w' := by
  obtain ⟨b0, b1, b2, b3, b4, b5, b6, hw⟩ : ∃ w0 w1 w2 w3 w4 w5 w6, s.weekend = [w0, w1, w2, w3, w4, w5, w6] := by
    have := ha.wk
    match hs : s.weekend, this with
    | [a, b, c, d, e, f, g], _ => exact ⟨a, b, c, d, e, f, g, rfl⟩
  rw [hw]
  clear hw
  have HPA : Hid (∀ w', Below w.heap.size w w' → Calls Tryd.prog 24 #[.agg (symc src [b0, b1, b2, b3, b4, b5, b6] Ha).toArray, .agg (symc src [b0, b1, b2, b3, b4, b5, b6] Hb).toArray] w' fun e w2 => e = .returned (.bool true) ∧ Below w'.heap.size w' w2) := fun w' h =>
    begins_true src src _ _ s s Ha Hb cla clb w' (ha.below h) (hb.below h) ⟨List.prefix_rfl, List.prefix_rfl, List.prefix_rfl, List.prefix_rfl, List.prefix_rfl⟩
  have HPB : Hid (∀ w', Below w.heap.size w w' → Calls Tryd.prog 24 #[.agg (symc src [b0, b1, b2, b3, b4, b5, b6] Hb).toArray, .agg (symc src [b0, b1, b2, b3, b4, b5, b6] Ha).toArray] w' fun e w2 => e = .returned (.bool true) ∧ Below w'.heap.size w' w2) := fun w' h =>
    begins_true src src _ _ s s Hb Ha clb cla w' (hb.below h) (ha.below h) ⟨List.prefix_rfl, List.prefix_rfl, List.prefix_rfl, List.prefix_rfl, List.prefix_rfl⟩
  obtain ⟨Ahol, Apar, Arol, Auni, Aact, Acla, Aflt⟩ := Ha
  obtain ⟨Bhol, Bpar, Brol, Buni, Bact, Bcla, Bflt⟩ := Hb
  have hlen := ha.hol.len
  rw [List.length_map] at hlen
  have hah := ha.hol
  have hbh := hb.hol
  clear ha hb
  obtain ⟨u, hu⟩ : ∃ u, (w.alloc (.cells (symc src [b0, b1, b2, b3, b4, b5, b6] ⟨Ahol, Apar, Arol, Auni, Aact, Acla, Aflt⟩).toArray 39)).alloc (.cells (symc src [b0, b1, b2, b3, b4, b5, b6] ⟨Bhol, Bpar, Brol, Buni, Bact, Bcla, Bflt⟩).toArray 39) = u := ⟨_, rfl⟩
  have hx : u.heap[w.heap.size]? = some (.cells (symc src [b0, b1, b2, b3, b4, b5, b6] ⟨Ahol, Apar, Arol, Auni, Aact, Acla, Aflt⟩).toArray 39 (0, 0)) := by rw [← hu]; exact blk_alloc (blk_newn rfl) _
  have hy : u.heap[w.heap.size + 1]? = some (.cells (symc src [b0, b1, b2, b3, b4, b5, b6] ⟨Bhol, Bpar, Brol, Buni, Bact, Bcla, Bflt⟩).toArray 39 (0, 0)) := by rw [← hu]; exact blk_newn (by simp)
  have HBL : Hid (Below w.heap.size w u) := by rw [← hu]; exact ((Below.refl _ w).alloc (Nat.le_refl _) _).alloc (by simp) _
  have hzu : w.heap.size + 2 ≤ u.heap.size := by have := lt_of_blk hy; omega
  have ha := hah.below HBL.out
  have hb := hbh.below HBL.out
  clear hah hbh
  obtain ⟨A, ca, e1, _, ha⟩ := ha
  obtain ⟨B, cb, e2, _, hb⟩ := hb
  dsimp only at e1 e2
  subst e1
  subst e2
  rw [List.length_map] at *
  have HA := Lib.hid ha; clear ha
  have HB := Lib.hid hb; clear hb
  have x0 : u.cell? ⟨w.heap.size, 0, none⟩ = some (.string ⟨src.name.toArray⟩) := (cell_of_blk hx 0).trans rfl
  have x1 : u.cell? ⟨w.heap.size, 1, none⟩ = some (.int .i64 src.frm.y) := (cell_of_blk hx 1).trans rfl
  have x2 : u.cell? ⟨w.heap.size, 2, none⟩ = some (.int .i64 src.frm.m) := (cell_of_blk hx 2).trans rfl
  have x3 : u.cell? ⟨w.heap.size, 3, none⟩ = some (.int .i64 src.frm.d) := (cell_of_blk hx 3).trans rfl
  have x4 : u.cell? ⟨w.heap.size, 4, none⟩ = some (.int .i64 src.days) := (cell_of_blk hx 4).trans rfl
  have x5 : u.cell? ⟨w.heap.size, 5, none⟩ = some (.bool b0) := (cell_of_blk hx 5).trans rfl
  have x6 : u.cell? ⟨w.heap.size, 6, none⟩ = some (.bool b1) := (cell_of_blk hx 6).trans rfl
  have x7 : u.cell? ⟨w.heap.size, 7, none⟩ = some (.bool b2) := (cell_of_blk hx 7).trans rfl
  have x8 : u.cell? ⟨w.heap.size, 8, none⟩ = some (.bool b3) := (cell_of_blk hx 8).trans rfl
  have x9 : u.cell? ⟨w.heap.size, 9, none⟩ = some (.bool b4) := (cell_of_blk hx 9).trans rfl
  have x10 : u.cell? ⟨w.heap.size, 10, none⟩ = some (.bool b5) := (cell_of_blk hx 10).trans rfl
  have x11 : u.cell? ⟨w.heap.size, 11, none⟩ = some (.bool b6) := (cell_of_blk hx 11).trans rfl
  have x12 : u.cell? ⟨w.heap.size, 12, none⟩ = some (.slice A s.hol.length ca) := (cell_of_blk hx 12).trans rfl
  have x13 : u.cell? ⟨w.heap.size, 13, none⟩ = some (Apar) := (cell_of_blk hx 13).trans rfl
  have x14 : u.cell? ⟨w.heap.size, 14, none⟩ = some (Arol) := (cell_of_blk hx 14).trans rfl
  have x15 : u.cell? ⟨w.heap.size, 15, none⟩ = some (Auni) := (cell_of_blk hx 15).trans rfl
  have x16 : u.cell? ⟨w.heap.size, 16, none⟩ = some (Aact) := (cell_of_blk hx 16).trans rfl
  have x17 : u.cell? ⟨w.heap.size, 17, none⟩ = some (Acla) := (cell_of_blk hx 17).trans rfl
  have y0 : u.cell? ⟨w.heap.size + 1, 0, none⟩ = some (.string ⟨src.name.toArray⟩) := (cell_of_blk hy 0).trans rfl
  have y1 : u.cell? ⟨w.heap.size + 1, 1, none⟩ = some (.int .i64 src.frm.y) := (cell_of_blk hy 1).trans rfl
  have y2 : u.cell? ⟨w.heap.size + 1, 2, none⟩ = some (.int .i64 src.frm.m) := (cell_of_blk hy 2).trans rfl
  have y3 : u.cell? ⟨w.heap.size + 1, 3, none⟩ = some (.int .i64 src.frm.d) := (cell_of_blk hy 3).trans rfl
  have y4 : u.cell? ⟨w.heap.size + 1, 4, none⟩ = some (.int .i64 src.days) := (cell_of_blk hy 4).trans rfl
  have y5 : u.cell? ⟨w.heap.size + 1, 5, none⟩ = some (.bool b0) := (cell_of_blk hy 5).trans rfl
  have y6 : u.cell? ⟨w.heap.size + 1, 6, none⟩ = some (.bool b1) := (cell_of_blk hy 6).trans rfl
  have y7 : u.cell? ⟨w.heap.size + 1, 7, none⟩ = some (.bool b2) := (cell_of_blk hy 7).trans rfl
  have y8 : u.cell? ⟨w.heap.size + 1, 8, none⟩ = some (.bool b3) := (cell_of_blk hy 8).trans rfl
  have y9 : u.cell? ⟨w.heap.size + 1, 9, none⟩ = some (.bool b4) := (cell_of_blk hy 9).trans rfl
  have y10 : u.cell? ⟨w.heap.size + 1, 10, none⟩ = some (.bool b5) := (cell_of_blk hy 10).trans rfl
  have y11 : u.cell? ⟨w.heap.size + 1, 11, none⟩ = some (.bool b6) := (cell_of_blk hy 11).trans rfl
  have y12 : u.cell? ⟨w.heap.size + 1, 12, none⟩ = some (.slice B s.hol.length cb) := (cell_of_blk hy 12).trans rfl
  have y13 : u.cell? ⟨w.heap.size + 1, 13, none⟩ = some (Bpar) := (cell_of_blk hy 13).trans rfl
  have y14 : u.cell? ⟨w.heap.size + 1, 14, none⟩ = some (Brol) := (cell_of_blk hy 14).trans rfl
  have y15 : u.cell? ⟨w.heap.size + 1, 15, none⟩ = some (Buni) := (cell_of_blk hy 15).trans rfl
  have y16 : u.cell? ⟨w.heap.size + 1, 16, none⟩ = some (Bact) := (cell_of_blk hy 16).trans rfl
  have y17 : u.cell? ⟨w.heap.size + 1, 17, none⟩ = some (Bcla) := (cell_of_blk hy 17).trans rfl
  have HU := Lib.hid hu; have HX := Lib.hid hx; have HY := Lib.hid hy
  have hd := ne_days b0 b1 b2 b3 b4 b5 b6
  have hc := ne_civil src.frm.y src.frm.m src.frm.d
  clear hu hx hy
  go_enter Tryd.func14, Tryd.ntmps14
  go_upto_region 1 with fail
  rw [HU.out]
  clear HU
  go_wp2_with fail
  go_loopw [5] (fun i wr => ∃ (j m : Nat), i = .int .i64 j ∧ j ≤ s.hol.length ∧ wr = u.drewN m) (fun i _ => s.hol.length - (intOf i).toNat)
  case atStart => exact ⟨0, 0, rfl, by omega, rfl⟩
  case round =>
    obtain ⟨j, m, rfl, hj, rfl⟩ := hrel
    by_cases hlt : j < s.hol.length
    · have hne : (s.hol.map fun d => [nv d]) ≠ [] := by intro e; rw [List.map_eq_nil_iff] at e; rw [e] at hlt; simp at hlt
      obtain ⟨g1, o1, rfl, hg1, hr⟩ := HA.out.resolve_left hne
      obtain ⟨g2, o2, rfl, hg2, hr'⟩ := HB.out.resolve_left hne
      have c1 : u.cell? ⟨g1, o1 + j, none⟩ = some (.int .i64 s.hol[j]) := by have := hr j [nv s.hol[j]] (by simp [hlt]) 0 _ rfl; simpa [nv] using this
      have c2 : u.cell? ⟨g2, o2 + j, none⟩ = some (.int .i64 s.hol[j]) := by have := hr' j [nv s.hol[j]] (by simp [hlt]) 0 _ rfl; simpa [nv] using this
      clear hr hr'
      generalize s.hol[j] = z at *
      go_wp2_with fail
      go_quiet (fail)
      go_wp2_with fail
      go_roundw
      case rel => exact ⟨j + 1, m + nq, by go_num, by omega, rfl⟩
      case measure => simp [intOf]; omega
    · clear HA HB
      have HBm : Hid (Below w.heap.size w (u.drewN m)) := below_drewN HBL.out m
      have HC1 := Lib.hid (HPA.out (u.drewN m) HBm.out)
      clear x0 y0 x1 y1 x2 y2 x3 y3 x4 y4 x5 y5 x6 y6 x7 y7 x8 y8 x9 y9 x10 y10 x11 y11 x13 y13 x14 y14 x15 y15 x16 y16 x17 y17
      go_upto_region 8 with fail
      as_aux_lemma =>
        go_wp2_with (first | (refine wpList_load_mid_g (op := ⟨some 66, _, _, _, _, _⟩) ?hw 39 _ rfl w.heap.size 0 rfl (symc src [b0, b1, b2, b3, b4, b5, b6] ⟨.slice A s.hol.length ca, Apar, Arol, Auni, Aact, Acla, Aflt⟩) _ (range_of_blk (w := u.drewN m) HX.out) Tryd.underlying39 rfl (info_symcl _ _ _) ?_; (case hw => rfl)) | (refine wpList_load_mid_g (op := ⟨some 67, _, _, _, _, _⟩) ?hw 39 _ rfl (w.heap.size + 1) 0 rfl (symc src [b0, b1, b2, b3, b4, b5, b6] ⟨.slice B s.hol.length cb, Bpar, Brol, Buni, Bact, Bcla, Bflt⟩) _ (range_of_blk (w := u.drewN m) HY.out) Tryd.underlying39 rfl (info_symcl _ _ _) ?_; (case hw => rfl)))
        refine HC1.out.mono ?_
        rintro e w5 ⟨rfl, hb5⟩
        have HB5 : Hid (Below w.heap.size w w5) := HBm.out.trans (hb5.mono HBm.out.size)
        have HX5 : Hid (w5.heap[w.heap.size]? = some (.cells (symc src [b0, b1, b2, b3, b4, b5, b6] ⟨.slice A s.hol.length ca, Apar, Arol, Auni, Aact, Acla, Aflt⟩).toArray 39 (0, 0))) := (hb5.block _ (by show w.heap.size < u.heap.size; omega)).trans HX.out
        have HY5 : Hid (w5.heap[w.heap.size + 1]? = some (.cells (symc src [b0, b1, b2, b3, b4, b5, b6] ⟨.slice B s.hol.length cb, Bpar, Brol, Buni, Bact, Bcla, Bflt⟩).toArray 39 (0, 0))) := (hb5.block _ (by show w.heap.size + 1 < u.heap.size; omega)).trans HY.out
        clear hb5
        have HC2 := Lib.hid (HPB.out w5 HB5.out)
        go_wp2_with (first | (refine wpList_load_mid_g (op := ⟨some 70, _, _, _, _, _⟩) ?hw 39 _ rfl (w.heap.size + 1) 0 rfl (symc src [b0, b1, b2, b3, b4, b5, b6] ⟨.slice B s.hol.length cb, Bpar, Brol, Buni, Bact, Bcla, Bflt⟩) _ (range_of_blk HY5.out) Tryd.underlying39 rfl (info_symcl _ _ _) ?_; (case hw => rfl)) | (refine wpList_load_mid_g (op := ⟨some 71, _, _, _, _, _⟩) ?hw 39 _ rfl w.heap.size 0 rfl (symc src [b0, b1, b2, b3, b4, b5, b6] ⟨.slice A s.hol.length ca, Apar, Arol, Auni, Aact, Acla, Aflt⟩) _ (range_of_blk HX5.out) Tryd.underlying39 rfl (info_symcl _ _ _) ?_; (case hw => rfl)))
        refine HC2.out.mono ?_
        rintro e w6 ⟨rfl, hb6⟩
        have HB6 : Hid (Below w.heap.size w w6) := HB5.out.trans (hb6.mono HB5.out.size)
        clear hb6
        go_wp2_with fail
        go_ret
        exact ⟨rfl, HB6.out⟩
end Go.Proofs.YtdhjibnkebbejaaDoor.Rs
