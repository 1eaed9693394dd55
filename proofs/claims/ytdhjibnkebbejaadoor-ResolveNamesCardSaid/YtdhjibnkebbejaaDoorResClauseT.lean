/-
  What the law's function clause returns for a clause that is made of an item.
-/
import Derived.Test.YtdhjibnkebbejaaDoorResNames
import Derived.Test.YtdhjibnkebbejaaDoorResCalled
import Derived.Test.YtdhjibnkebbejaaDoorResLawN
namespace Go.Proofs.YtdhjibnkebbejaaDoor.Rs
open Go.RowKit Mem Vw
set_option linter.unusedVariables false
set_option linter.unusedSimpArgs false

theorem called_m1 (l : List Bytes) (v : Value) (n : Bytes) (W : World) : Calls Tryd.prog 18 #[v, .int .i64 (-1), .string ⟨n.toArray⟩, .bool false] W fun e w' => e = .returned (.bool false) ∧ W = w' := by
  have HA : Hid (Calls Tryd.prog 38 #[v, .int .i64 (-1)] W fun e w' => e = .returned (.tuple #[.string ⟨#[]⟩, .bool false]) ∧ W = w') := by
    show Calls _ _ _ _ _
    go_enter Tryd.func38, Tryd.ntmps38
    go_wp2_with fail
    go_ret2
    exact ⟨rfl, rfl⟩
  go_enter Tryd.func18, Tryd.ntmps18
  go_wp2_with fail
  refine HA.out.mono ?_
  rintro e w5 ⟨rfl, rfl⟩
  go_wp2_with fail
  go_ret
  exact ⟨rfl, rfl⟩
/-- The index of a name that is there. -/
def Ind (l : List Bytes) (i : Int) (n : Bytes) (e : Bool) : Prop := (e = true ∧ n = [] ∧ i = -1) ∨ (¬ (e = true ∧ n = []) ∧ ∃ k : Nat, i = (k : Int) ∧ l[k]? = some n)
theorem ind_f {T : Tab} {g : Nat} {n : Bytes} (h : has T g n = true) : Ind (T g) (ix T g n) n false := .inr ⟨by simp, ix_at h⟩
theorem ind_o {T : Tab} {g : Nat} {n : Bytes} (h : haso T g n = true) : Ind (T g) (ixo T g n) n true := by
  unfold haso at h
  unfold ixo
  by_cases hn : n = []
  · exact .inl ⟨rfl, hn, if_pos hn⟩
  · rw [if_neg hn]
    rw [decide_eq_false hn, Bool.false_or] at h
    exact .inr ⟨fun h => hn h.2, ix_at h⟩
/-- The fields of a clause that is made of an item. -/
structure ClF (T : Tab) (x : Item) (K : Clause) : Prop where
  role : x.kind ≠ 12 → Ind (T 2) K.role x.of_ false
  role12 : x.kind = 12 → K.role = -1
  act : Ind (T 4) K.act x.act false
  pause : Ind (T 4) K.pause x.by_ true
  resume : Ind (T 4) K.resume x.til true
  unit : Ind (T 3) K.unit x.unit true
  to0 : x.unit = [] → K.to_ = -1
  to1 : x.unit ≠ [] → Ind (T 2) K.to_ x.to_ false ∧ K.value = x.num
  start : K.start = x.conds.map (condOf T)
  conds : ∀ c ∈ x.conds, Ind (T 5) (ix T 5 c.name) c.name false
theorem clf_of {T : Tab} {x : Item} (h : clauseOk T x = true) : ClF T x (clauseOf T x) := by
  unfold clauseOk at h
  obtain ⟨h, k9⟩ := and_split h
  obtain ⟨h, k8⟩ := and_split h
  obtain ⟨h, k7⟩ := and_split h
  obtain ⟨h, k6⟩ := and_split h
  obtain ⟨h, k5⟩ := and_split h
  obtain ⟨h, k4⟩ := and_split h
  refine ⟨fun h12 => ?_, fun h12 => ?_, ind_f k5, ind_o k7, ind_o k8, ?_, fun hu => ?_, fun hu => ?_, rfl, fun c hc => ind_f (List.all_eq_true.1 k6 c hc)⟩
  · show Ind (T 2) (if x.kind = 12 then -1 else ix T 2 x.of_) x.of_ false
    rw [if_neg h12]
    rw [decide_eq_false h12, Bool.false_or] at k4
    exact ind_f k4
  · show (if x.kind = 12 then -1 else ix T 2 x.of_) = -1
    rw [if_pos h12]
  · refine ind_o ?_
    unfold haso
    by_cases hu : x.unit = []
    · simp [hu]
    · rw [decide_eq_false hu, Bool.false_or] at k9 ⊢
      exact (and_split k9).1
  · show (if x.unit = [] then -1 else ix T 2 x.to_) = -1
    rw [if_pos hu]
  · rw [decide_eq_false hu, Bool.false_or] at k9
    refine ⟨?_, ?_⟩
    · show Ind (T 2) (if x.unit = [] then -1 else ix T 2 x.to_) x.to_ false
      rw [if_neg hu]; exact ind_f (and_split k9).2
    · show (if x.unit = [] then ⟨0, 1⟩ else x.num) = x.num
      rw [if_neg hu]
theorem eq_ratioT (a b : Int) (w : World) : (binOp .eql 52 (.agg #[.int .i64 a, .int .i64 b]) (.agg #[.int .i64 a, .int .i64 b])).run Tryd.prog w = .ok (.bool true) w := by
  go_simp
def CLr (x : Item) (u : World) (iv : Value) (wr : World) : Prop := ∃ j m : Nat, iv = .int .i64 (j : Int) ∧ j ≤ x.conds.length ∧ wr = u.drewN m
set_option maxRecDepth 100000 in
set_option maxHeartbeats 8000000 in
theorem clause_true (T : Tab) (x : Item) (sl : Sl) (K : Clause) (st v0 v1 v2 v3 v4 : Value) (W : World) (hf : ClF T x K) (h2 : Row W v1 1 ((T 2).map fun x => [sv x])) (h3 : Row W v2 1 ((T 3).map fun x => [sv x])) (h4 : Row W v3 1 ((T 4).map fun x => [sv x])) (h5 : Row W v4 1 ((T 5).map fun x => [sv x]))
    (hst : Row W st 2 (K.start.map condv)) (hfl : Flat W x sl.1 sl.2.1 sl.2.2.1) :
    Calls Tryd.prog 19 #[.agg #[v0, v1, v2, v3, v4], .agg (csymv ⟨x.name, x.pos, x.within, x.grace, K⟩ st).toArray, .agg (ic (x, sl)).toArray] W fun e w' => e = .returned (.bool true) ∧ Below W.heap.size W w' := by
  obtain ⟨sc, sd, sn, sx⟩ := sl
  dsimp only at hfl
  have hcd := hfl.conds
  obtain ⟨Ac, cc, hcs, _, _⟩ := hcd.slice
  rw [List.length_map] at hcs
  subst hcs
  have hcl := hcd.len
  rw [List.length_map] at hcl
  obtain ⟨As, cs, hss, _, _⟩ := hst.slice
  rw [List.length_map, hf.start, List.length_map] at hss
  subst hss
  obtain ⟨u, hu⟩ : ∃ u, ((W.alloc (.cells #[v0, v1, v2, v3, v4] 45)).alloc (.cells (csymv ⟨x.name, x.pos, x.within, x.grace, K⟩ (.slice As x.conds.length cs)).toArray 71)).alloc (.cells (ic (x, .slice Ac x.conds.length cc, sd, sn, sx)).toArray 55) = u := ⟨_, rfl⟩
  have HNB : Hid (u.heap[W.heap.size]? = some (.cells #[v0, v1, v2, v3, v4] 45 (0, 0))) := by rw [← hu]; exact blk_alloc (blk_alloc (blk_newn rfl) _) _
  have HKB : Hid (u.heap[W.heap.size + 1]? = some (.cells (csymv ⟨x.name, x.pos, x.within, x.grace, K⟩ (.slice As x.conds.length cs)).toArray 71 (0, 0))) := by rw [← hu]; exact blk_alloc (blk_newn (by simp)) _
  have HXB : Hid (u.heap[W.heap.size + 1 + 1]? = some (.cells (ic (x, .slice Ac x.conds.length cc, sd, sn, sx)).toArray 55 (0, 0))) := by rw [← hu]; exact blk_newn (by simp)
  have HBA : Hid (Below W.heap.size W u) := by rw [← hu]; exact (((Below.refl _ W).alloc (Nat.le_refl _) _).alloc (by simp) _).alloc (by simp only [World.size_alloc]; omega) _
  have HU := Lib.hid hu; clear hu
  have n1 : u.cell? ⟨W.heap.size, 1, none⟩ = some v1 := cell_of_blk HNB.out 1
  have n2 : u.cell? ⟨W.heap.size, 2, none⟩ = some v2 := cell_of_blk HNB.out 2
  have n3 : u.cell? ⟨W.heap.size, 3, none⟩ = some v3 := cell_of_blk HNB.out 3
  have n4 : u.cell? ⟨W.heap.size, 4, none⟩ = some v4 := cell_of_blk HNB.out 4
  have kn : u.cell? ⟨W.heap.size + 1, 0, none⟩ = some (.string ⟨x.name.toArray⟩) := (cell_of_blk HKB.out 0).trans rfl
  have kp : u.cell? ⟨W.heap.size + 1, 1, none⟩ = some (.int .i64 x.pos) := (cell_of_blk HKB.out 1).trans rfl
  have kr : u.cell? ⟨W.heap.size + 1, 9, none⟩ = some (.int .i64 K.role) := (cell_of_blk HKB.out 9).trans rfl
  have ka : u.cell? ⟨W.heap.size + 1, 10, none⟩ = some (.int .i64 K.act) := (cell_of_blk HKB.out 10).trans rfl
  have ks : u.cell? ⟨W.heap.size + 1, 12, none⟩ = some (.slice As x.conds.length cs) := (cell_of_blk HKB.out 12).trans rfl
  have kz : u.cell? ⟨W.heap.size + 1, 17, none⟩ = some (.int .i64 K.pause) := (cell_of_blk HKB.out 17).trans rfl
  have ke : u.cell? ⟨W.heap.size + 1, 18, none⟩ = some (.int .i64 K.resume) := (cell_of_blk HKB.out 18).trans rfl
  have kv : u.cell? ⟨W.heap.size + 1, 19, none⟩ = some (.int .i64 K.value.num) := (cell_of_blk HKB.out 19).trans rfl
  have kw : u.cell? ⟨W.heap.size + 1, 20, none⟩ = some (.int .i64 K.value.den) := (cell_of_blk HKB.out 20).trans rfl
  have ku : u.cell? ⟨W.heap.size + 1, 21, none⟩ = some (.int .i64 K.unit) := (cell_of_blk HKB.out 21).trans rfl
  have kt : u.cell? ⟨W.heap.size + 1, 22, none⟩ = some (.int .i64 K.to_) := (cell_of_blk HKB.out 22).trans rfl
  have xk : u.cell? ⟨W.heap.size + 1 + 1, 0, none⟩ = some (.int .i64 x.kind) := (cell_of_blk HXB.out 0).trans rfl
  have xn : u.cell? ⟨W.heap.size + 1 + 1, 1, none⟩ = some (.string ⟨x.name.toArray⟩) := (cell_of_blk HXB.out 1).trans rfl
  have xp : u.cell? ⟨W.heap.size + 1 + 1, 2, none⟩ = some (.int .i64 x.pos) := (cell_of_blk HXB.out 2).trans rfl
  have xo : u.cell? ⟨W.heap.size + 1 + 1, 3, none⟩ = some (.string ⟨x.of_.toArray⟩) := (cell_of_blk HXB.out 3).trans rfl
  have xa : u.cell? ⟨W.heap.size + 1 + 1, 4, none⟩ = some (.string ⟨x.act.toArray⟩) := (cell_of_blk HXB.out 4).trans rfl
  have xc : u.cell? ⟨W.heap.size + 1 + 1, 13, none⟩ = some (.slice Ac x.conds.length cc) := (cell_of_blk HXB.out 13).trans rfl
  have xb : u.cell? ⟨W.heap.size + 1 + 1, 14, none⟩ = some (.string ⟨x.by_.toArray⟩) := (cell_of_blk HXB.out 14).trans rfl
  have xt : u.cell? ⟨W.heap.size + 1 + 1, 15, none⟩ = some (.string ⟨x.til.toArray⟩) := (cell_of_blk HXB.out 15).trans rfl
  have xm : u.cell? ⟨W.heap.size + 1 + 1, 16, none⟩ = some (.int .i64 x.num.num) := (cell_of_blk HXB.out 16).trans rfl
  have xd : u.cell? ⟨W.heap.size + 1 + 1, 17, none⟩ = some (.int .i64 x.num.den) := (cell_of_blk HXB.out 17).trans rfl
  have xu : u.cell? ⟨W.heap.size + 1 + 1, 18, none⟩ = some (.string ⟨x.unit.toArray⟩) := (cell_of_blk HXB.out 18).trans rfl
  have xx : u.cell? ⟨W.heap.size + 1 + 1, 22, none⟩ = some (.string ⟨x.to_.toArray⟩) := (cell_of_blk HXB.out 22).trans rfl
  have HF := Lib.hid hf
  have HR2 := Lib.hid (h2.below HBA.out); have HR3 := Lib.hid (h3.below HBA.out); have HR4 := Lib.hid (h4.below HBA.out); have HR5 := Lib.hid (h5.below HBA.out)
  have HST := Lib.hid (hst.below HBA.out); have HCD := Lib.hid (hcd.below HBA.out)
  clear h2 h3 h4 h5 hst hcd hfl hf
  have HCA := Lib.hid (called_true (T 4) v3 K.act x.act false u HR4.out HF.out.act)
  have HCP := Lib.hid (called_true (T 4) v3 K.pause x.by_ true u HR4.out HF.out.pause)
  have HCE := Lib.hid (called_true (T 4) v3 K.resume x.til true u HR4.out HF.out.resume)
  go_enter Tryd.func19, Tryd.ntmps19
  go_upto_region 1 with fail
  rw [HU.out]
  clear HU
  by_cases h12 : x.kind = 12
  · have hb : (x.kind == 12) = true := by simpa using h12
    have hrm := HF.out.role12 h12
    have HM := Lib.hid (called_m1 (T 2) v1 x.of_ u)
    rw [hrm] at kr
    go_wp2_with fail
    refine HM.out.mono ?_
    rintro e w5 ⟨rfl, rfl⟩
    go_wp2_with fail
    refine HCA.out.mono ?_
    rintro e w5 ⟨rfl, rfl⟩
    go_wp2_with fail
    refine HCP.out.mono ?_
    rintro e w5 ⟨rfl, rfl⟩
    go_wp2_with fail
    refine HCE.out.mono ?_
    rintro e w5 ⟨rfl, rfl⟩
    go_wp2_with fail
    go_loopw [8] (fun iv wr => CLr x u iv wr) (fun i _ => x.conds.length - (intOf i).toNat)
    case atStart => exact ⟨0, 0, rfl, Nat.zero_le _, rfl⟩
    case round =>
      obtain ⟨j, m, rfl, hj, rfl⟩ := hrel
      have j0 : (0 : Int) ≤ (j : Int) := Int.natCast_nonneg _
      by_cases hjl : j < x.conds.length
      · obtain ⟨cg, co, _, hca, hcg, _, _, hcat⟩ := HCD.out.at (by intro e; rw [List.map_eq_nil_iff] at e; rw [e] at hjl; simp at hjl)
        have hAc : Ac = some ⟨cg, co, none⟩ := by injection hca
        obtain ⟨sg, so, _, hsa, hsg, _, _, hsat⟩ := HST.out.at (by intro e; rw [List.map_eq_nil_iff] at e; rw [HF.out.start, List.map_eq_nil_iff] at e; rw [e] at hjl; simp at hjl)
        have hAs : As = some ⟨sg, so, none⟩ := by injection hsa
        subst hAc hAs
        obtain ⟨a, ha⟩ : ∃ a, x.conds[j]? = some a := ⟨_, List.getElem?_eq_getElem hjl⟩
        have c1 : u.cell? ⟨cg, co + j * 2, none⟩ = some (.string ⟨a.name.toArray⟩) := hcat j _ (by rw [List.getElem?_map, ha]; rfl) 0 _ rfl
        have c2 : u.cell? ⟨cg, co + j * 2 + 1, none⟩ = some (.int .i64 a.is_) := hcat j _ (by rw [List.getElem?_map, ha]; rfl) 1 _ rfl
        have hsj : (K.start.map condv)[j]? = some (condv (condOf T a)) := by rw [HF.out.start, List.getElem?_map, List.getElem?_map, ha]; rfl
        have s1 : u.cell? ⟨sg, so + j * 2, none⟩ = some (.int .i64 (ix T 5 a.name)) := hsat j _ hsj 0 _ rfl
        have s2 : u.cell? ⟨sg, so + j * 2 + 1, none⟩ = some (.int .i64 a.is_) := hsat j _ hsj 1 _ rfl
        have HC1 := Lib.hid c1; have HC2 := Lib.hid c2; have HS1 := Lib.hid s1; have HS2 := Lib.hid s2
        have HN4 := Lib.hid n4; have HKS := Lib.hid ks; have HXC := Lib.hid xc
        have HCN := Lib.hid (called_true (T 5) v4 (ix T 5 a.name) a.name false (u.drewN m).drew (HR5.out.below (below_drewN (below_drewN (Below.refl _ u) m) 1)) (HF.out.conds a (List.mem_of_getElem? ha)))
        have j2 : (j : Int) < (x.conds.length : Int) := by omega
        clear hca hcg hcat hsa hsg hsat ha hsj c1 c2 s1 s2
        go_upto_region 9 with fail
        refine Reg.G.start (by kernel_rfl) ?_
        refine' Reg.G.pure (i := 0) (v := _) rfl (by rfl) (by kernel_rfl) (by kernel_rfl) (by kernel_rfl) (fun _ _ _ h => h) ?hyra9_0 ?rera9_0
        case hyra9_0 => exact fun w => by first | (go_simp; done) | (go_simp; with_reducible rfl)
        simp only [Act.put, List.setIfInBounds_toArray, List.set_cons_zero, List.set_cons_succ]
        refine' Reg.G.take (i := 1) (v := _) (F := (fun w => w.cell? ⟨W.heap.size, 4, none⟩ = some (v4))) rfl (by rfl) (by kernel_rfl) (by kernel_rfl) (by kernel_rfl) (fun _ _ _ h => h) (HN4.out) ?hyra9_1 ?rera9_1
        case hyra9_1 => intro w hw; first | (go_simp; done) | (go_simp; with_reducible rfl)
        simp only [Act.put, List.setIfInBounds_toArray, List.set_cons_zero, List.set_cons_succ]
        refine' Reg.G.pure (i := 2) (v := _) rfl (by rfl) (by kernel_rfl) (by kernel_rfl) (by kernel_rfl) (fun _ _ _ h => h) ?hyra9_2 ?rera9_2
        case hyra9_2 => exact fun w => by first | (go_simp; done) | (go_simp; with_reducible rfl)
        simp only [Act.put, List.setIfInBounds_toArray, List.set_cons_zero, List.set_cons_succ]
        refine' Reg.G.pure (i := 3) (v := _) rfl (by rfl) (by kernel_rfl) (by kernel_rfl) (by kernel_rfl) (fun _ _ _ h => h) ?hyra9_3 ?rera9_3
        case hyra9_3 => exact fun w => by first | (go_simp; done) | (go_simp; with_reducible rfl)
        simp only [Act.put, List.setIfInBounds_toArray, List.set_cons_zero, List.set_cons_succ]
        refine' Reg.G.take (i := 4) (v := _) (F := (fun w => w.cell? ⟨W.heap.size + 1, 12, none⟩ = some (.slice (some ⟨sg, so, none⟩) x.conds.length cs))) rfl (by rfl) (by kernel_rfl) (by kernel_rfl) (by kernel_rfl) (fun _ _ _ h => h) (HKS.out) ?hyra9_4 ?rera9_4
        case hyra9_4 => intro w hw; first | (go_simp; done) | (go_simp; with_reducible rfl)
        simp only [Act.put, List.setIfInBounds_toArray, List.set_cons_zero, List.set_cons_succ]
        refine' Reg.G.pure (i := 5) (v := _) rfl (by rfl) (by kernel_rfl) (by kernel_rfl) (by kernel_rfl) (fun _ _ _ h => h) ?hyra9_5 ?rera9_5
        case hyra9_5 => exact fun w => by first | (go_simp; done) | (go_simp; with_reducible rfl)
        simp only [Act.put, List.setIfInBounds_toArray, List.set_cons_zero, List.set_cons_succ]
        refine' Reg.G.pure (i := 6) (v := _) rfl (by rfl) (by kernel_rfl) (by kernel_rfl) (by kernel_rfl) (fun _ _ _ h => h) ?hyra9_6 ?rera9_6
        case hyra9_6 => exact fun w => by first | (go_simp; done) | (go_simp; with_reducible rfl)
        simp only [Act.put, List.setIfInBounds_toArray, List.set_cons_zero, List.set_cons_succ]
        refine' Reg.G.pure (i := 7) (v := _) rfl (by rfl) (by kernel_rfl) (by kernel_rfl) (by kernel_rfl) (fun _ _ _ h => h) ?hyra9_7 ?rera9_7
        case hyra9_7 => exact fun w => by first | (go_simp; done) | (go_simp; with_reducible rfl)
        simp only [Act.put, List.setIfInBounds_toArray, List.set_cons_zero, List.set_cons_succ]
        refine' Reg.G.take (i := 8) (v := _) (F := (fun w => w.cell? ⟨sg, so + j * 2, none⟩ = some (.int .i64 (ix T 5 a.name)))) rfl (by rfl) (by kernel_rfl) (by kernel_rfl) (by kernel_rfl) (fun _ _ _ h => h) (HS1.out) ?hyra9_8 ?rera9_8
        case hyra9_8 => intro w hw; first | (go_simp; done) | (go_simp; with_reducible rfl)
        simp only [Act.put, List.setIfInBounds_toArray, List.set_cons_zero, List.set_cons_succ]
        refine' Reg.G.pure (i := 9) (v := _) rfl (by rfl) (by kernel_rfl) (by kernel_rfl) (by kernel_rfl) (fun _ _ _ h => h) ?hyra9_9 ?rera9_9
        case hyra9_9 => exact fun w => by first | (go_simp; done) | (go_simp; with_reducible rfl)
        simp only [Act.put, List.setIfInBounds_toArray, List.set_cons_zero, List.set_cons_succ]
        refine' Reg.G.take (i := 10) (v := _) (F := (fun w => w.cell? ⟨W.heap.size + 1 + 1, 13, none⟩ = some (.slice (some ⟨cg, co, none⟩) x.conds.length cc))) rfl (by rfl) (by kernel_rfl) (by kernel_rfl) (by kernel_rfl) (fun _ _ _ h => h) (HXC.out) ?hyra9_10 ?rera9_10
        case hyra9_10 => intro w hw; first | (go_simp; done) | (go_simp; with_reducible rfl)
        simp only [Act.put, List.setIfInBounds_toArray, List.set_cons_zero, List.set_cons_succ]
        refine' Reg.G.pure (i := 11) (v := _) rfl (by rfl) (by kernel_rfl) (by kernel_rfl) (by kernel_rfl) (fun _ _ _ h => h) ?hyra9_11 ?rera9_11
        case hyra9_11 => exact fun w => by first | (go_simp; done) | (go_simp; with_reducible rfl)
        simp only [Act.put, List.setIfInBounds_toArray, List.set_cons_zero, List.set_cons_succ]
        refine' Reg.G.pure (i := 12) (v := _) rfl (by rfl) (by kernel_rfl) (by kernel_rfl) (by kernel_rfl) (fun _ _ _ h => h) ?hyra9_12 ?rera9_12
        case hyra9_12 => exact fun w => by first | (go_simp; done) | (go_simp; with_reducible rfl)
        simp only [Act.put, List.setIfInBounds_toArray, List.set_cons_zero, List.set_cons_succ]
        refine' Reg.G.pure (i := 13) (v := _) rfl (by rfl) (by kernel_rfl) (by kernel_rfl) (by kernel_rfl) (fun _ _ _ h => h) ?hyra9_13 ?rera9_13
        case hyra9_13 => exact fun w => by first | (go_simp; done) | (go_simp; with_reducible rfl)
        simp only [Act.put, List.setIfInBounds_toArray, List.set_cons_zero, List.set_cons_succ]
        refine' Reg.G.take (i := 14) (v := _) (F := (fun w => w.cell? ⟨cg, co + j * 2, none⟩ = some (.string ⟨a.name.toArray⟩))) rfl (by rfl) (by kernel_rfl) (by kernel_rfl) (by kernel_rfl) (fun _ _ _ h => h) (HC1.out) ?hyra9_14 ?rera9_14
        case hyra9_14 => intro w hw; first | (go_simp; done) | (go_simp; with_reducible rfl)
        simp only [Act.put, List.setIfInBounds_toArray, List.set_cons_zero, List.set_cons_succ]
        refine Reg.G.step (j := 15) (m := [false, false, false, false, false]) [14, 10, 8, 4, 1] rfl (by kernel_rfl) rfl (by kernel_rfl) (fun K hK => ?_)
        -- Op.call { callee := Callee.value (func 18), args := #[t91, t98, t104, const (bool false)], argTypes := #[33, 3, 9, 4] }
        rw [if_pos (by rfl)]
        go_simp
        refine HCN.out.mono ?_
        rintro e wg ⟨rfl, rfl⟩
        refine hK.out _ _ trivial ?_
        clear hK K
        simp only [Act.put, List.setIfInBounds_toArray, List.set_cons_zero, List.set_cons_succ, Reg.Kept]
        refine' Reg.G.pure (i := 16) (v := _) rfl (by rfl) (by kernel_rfl) (by kernel_rfl) (by kernel_rfl) (fun _ _ _ h => h) ?hyra9_16 ?rera9_16
        case hyra9_16 => exact fun w => by first | (go_simp; done) | (go_simp; with_reducible rfl)
        simp only [Act.put, List.setIfInBounds_toArray, List.set_cons_zero, List.set_cons_succ]
        refine' Reg.G.pure (i := 17) (v := _) rfl (by rfl) (by kernel_rfl) (by kernel_rfl) (by kernel_rfl) (fun _ _ _ h => h) ?hyra9_17 ?rera9_17
        case hyra9_17 => exact fun w => by first | (go_simp; done) | (go_simp; with_reducible rfl)
        simp only [Act.put, List.setIfInBounds_toArray, List.set_cons_zero, List.set_cons_succ]
        refine' Reg.G.pure (i := 18) (v := _) rfl (by rfl) (by kernel_rfl) (by kernel_rfl) (by kernel_rfl) (fun _ _ _ h => h) ?hyra9_18 ?rera9_18
        case hyra9_18 => exact fun w => by first | (go_simp; done) | (go_simp; with_reducible rfl)
        simp only [Act.put, List.setIfInBounds_toArray, List.set_cons_zero, List.set_cons_succ]
        refine' Reg.G.pure (i := 19) (v := _) rfl (by rfl) (by kernel_rfl) (by kernel_rfl) (by kernel_rfl) (fun _ _ _ h => h) ?hyra9_19 ?rera9_19
        case hyra9_19 => exact fun w => by first | (go_simp; done) | (go_simp; with_reducible rfl)
        simp only [Act.put, List.setIfInBounds_toArray, List.set_cons_zero, List.set_cons_succ]
        refine' Reg.G.take (i := 20) (v := _) (F := (fun w => w.cell? ⟨W.heap.size + 1, 12, none⟩ = some (.slice (some ⟨sg, so, none⟩) x.conds.length cs))) rfl (by rfl) (by kernel_rfl) (by kernel_rfl) (by kernel_rfl) (fun _ _ _ h => h) (HKS.out) ?hyra9_20 ?rera9_20
        case hyra9_20 => intro w hw; first | (go_simp; done) | (go_simp; with_reducible rfl)
        simp only [Act.put, List.setIfInBounds_toArray, List.set_cons_zero, List.set_cons_succ]
        refine' Reg.G.pure (i := 21) (v := _) rfl (by rfl) (by kernel_rfl) (by kernel_rfl) (by kernel_rfl) (fun _ _ _ h => h) ?hyra9_21 ?rera9_21
        case hyra9_21 => exact fun w => by first | (go_simp; done) | (go_simp; with_reducible rfl)
        simp only [Act.put, List.setIfInBounds_toArray, List.set_cons_zero, List.set_cons_succ]
        refine' Reg.G.pure (i := 22) (v := _) rfl (by rfl) (by kernel_rfl) (by kernel_rfl) (by kernel_rfl) (fun _ _ _ h => h) ?hyra9_22 ?rera9_22
        case hyra9_22 => exact fun w => by first | (go_simp; done) | (go_simp; with_reducible rfl)
        simp only [Act.put, List.setIfInBounds_toArray, List.set_cons_zero, List.set_cons_succ]
        refine' Reg.G.pure (i := 23) (v := _) rfl (by rfl) (by kernel_rfl) (by kernel_rfl) (by kernel_rfl) (fun _ _ _ h => h) ?hyra9_23 ?rera9_23
        case hyra9_23 => exact fun w => by first | (go_simp; done) | (go_simp; with_reducible rfl)
        simp only [Act.put, List.setIfInBounds_toArray, List.set_cons_zero, List.set_cons_succ]
        refine' Reg.G.take (i := 24) (v := _) (F := (fun w => w.cell? ⟨sg, so + j * 2 + 1, none⟩ = some (.int .i64 a.is_))) rfl (by rfl) (by kernel_rfl) (by kernel_rfl) (by kernel_rfl) (fun _ _ _ h => h) (HS2.out) ?hyra9_24 ?rera9_24
        case hyra9_24 => intro w hw; first | (go_simp; done) | (go_simp; with_reducible rfl)
        simp only [Act.put, List.setIfInBounds_toArray, List.set_cons_zero, List.set_cons_succ]
        refine' Reg.G.pure (i := 25) (v := _) rfl (by rfl) (by kernel_rfl) (by kernel_rfl) (by kernel_rfl) (fun _ _ _ h => h) ?hyra9_25 ?rera9_25
        case hyra9_25 => exact fun w => by first | (go_simp; done) | (go_simp; with_reducible rfl)
        simp only [Act.put, List.setIfInBounds_toArray, List.set_cons_zero, List.set_cons_succ]
        refine' Reg.G.take (i := 26) (v := _) (F := (fun w => w.cell? ⟨W.heap.size + 1 + 1, 13, none⟩ = some (.slice (some ⟨cg, co, none⟩) x.conds.length cc))) rfl (by rfl) (by kernel_rfl) (by kernel_rfl) (by kernel_rfl) (fun _ _ _ h => h) (HXC.out) ?hyra9_26 ?rera9_26
        case hyra9_26 => intro w hw; first | (go_simp; done) | (go_simp; with_reducible rfl)
        simp only [Act.put, List.setIfInBounds_toArray, List.set_cons_zero, List.set_cons_succ]
        refine' Reg.G.pure (i := 27) (v := _) rfl (by rfl) (by kernel_rfl) (by kernel_rfl) (by kernel_rfl) (fun _ _ _ h => h) ?hyra9_27 ?rera9_27
        case hyra9_27 => exact fun w => by first | (go_simp; done) | (go_simp; with_reducible rfl)
        simp only [Act.put, List.setIfInBounds_toArray, List.set_cons_zero, List.set_cons_succ]
        refine' Reg.G.pure (i := 28) (v := _) rfl (by rfl) (by kernel_rfl) (by kernel_rfl) (by kernel_rfl) (fun _ _ _ h => h) ?hyra9_28 ?rera9_28
        case hyra9_28 => exact fun w => by first | (go_simp; done) | (go_simp; with_reducible rfl)
        simp only [Act.put, List.setIfInBounds_toArray, List.set_cons_zero, List.set_cons_succ]
        refine' Reg.G.pure (i := 29) (v := _) rfl (by rfl) (by kernel_rfl) (by kernel_rfl) (by kernel_rfl) (fun _ _ _ h => h) ?hyra9_29 ?rera9_29
        case hyra9_29 => exact fun w => by first | (go_simp; done) | (go_simp; with_reducible rfl)
        simp only [Act.put, List.setIfInBounds_toArray, List.set_cons_zero, List.set_cons_succ]
        refine' Reg.G.take (i := 30) (v := _) (F := (fun w => w.cell? ⟨cg, co + j * 2 + 1, none⟩ = some (.int .i64 a.is_))) rfl (by rfl) (by kernel_rfl) (by kernel_rfl) (by kernel_rfl) (fun _ _ _ h => h) (HC2.out) ?hyra9_30 ?rera9_30
        case hyra9_30 => intro w hw; first | (go_simp; done) | (go_simp; with_reducible rfl)
        simp only [Act.put, List.setIfInBounds_toArray, List.set_cons_zero, List.set_cons_succ]
        refine' Reg.G.pure (i := 31) (v := _) rfl (by rfl) (by kernel_rfl) (by kernel_rfl) (by kernel_rfl) (fun _ _ _ h => h) ?hyra9_31 ?rera9_31
        case hyra9_31 => exact fun w => by first | (go_simp; done) | (go_simp; with_reducible rfl)
        simp only [Act.put, List.setIfInBounds_toArray, List.set_cons_zero, List.set_cons_succ]
        refine' Reg.G.pure (i := 32) (v := _) rfl (by rfl) (by kernel_rfl) (by kernel_rfl) (by kernel_rfl) (fun _ _ _ h => h) ?hyra9_32 ?rera9_32
        case hyra9_32 => exact fun w => by first | (go_simp; done) | (go_simp; with_reducible rfl)
        simp only [Act.put, List.setIfInBounds_toArray, List.set_cons_zero, List.set_cons_succ]
        refine Reg.G.done (by kernel_rfl) ?_
        go_wp2_with fail
        go_roundw
        case rel => exact ⟨j + 1, m + 1, by go_num, hjl, rfl⟩
        case measure => simp [intOf]; omega
      · have j2 : ¬ ((j : Int) < (x.conds.length : Int)) := by omega
        have HCU := Lib.hid (called_true (T 3) v2 K.unit x.unit true (u.drewN m) (HR3.out.below (below_drewN (Below.refl _ u) m)) HF.out.unit)
        by_cases hu : x.unit = []
        · have hto := HF.out.to0 hu
          have HCU0 : Hid (Calls Tryd.prog 18 #[v2, .int .i64 K.unit, .string ⟨#[]⟩, .bool true] (u.drewN m) fun e w' => e = .returned (.bool true) ∧ (u.drewN m) = w') := by
            have h := HCU.out
            rw [hu] at h
            exact h
          have xu0 : u.cell? ⟨W.heap.size + 1 + 1, 18, none⟩ = some (.string ⟨#[]⟩) := by rw [xu, hu]
          rw [hto] at kt
          clear xu hu HCU
          have HCU := HCU0
          go_wp2_with fail
          refine HCU.out.mono ?_
          rintro e w5 ⟨rfl, rfl⟩
          go_wp2_with fail
          go_ret
          exact ⟨by simp, below_drewN HBA.out m⟩
        · have hub : (x.unit == []) = false := by simpa using hu
          obtain ⟨ht1, hv1⟩ := HF.out.to1 hu
          rw [hv1] at kv kw
          have HCT := Lib.hid (called_true (T 2) v1 K.to_ x.to_ false (u.drewN m) (HR2.out.below (below_drewN (Below.refl _ u) m)) ht1)
          have her := eq_ratioT x.num.num x.num.den
          clear ht1 hv1
          go_wp2_with fail
          refine HCU.out.mono ?_
          rintro e w5 ⟨rfl, rfl⟩
          go_wp2_with fail
          refine HCT.out.mono ?_
          rintro e w5 ⟨rfl, rfl⟩
          go_wp2_with fail
          go_ret
          exact ⟨by simp, below_drewN HBA.out m⟩
  · have hb : (x.kind == 12) = false := by simpa using h12
    have HM := Lib.hid (called_true (T 2) v1 K.role x.of_ false u HR2.out (HF.out.role h12))
    go_wp2_with fail
    refine HM.out.mono ?_
    rintro e w5 ⟨rfl, rfl⟩
    go_wp2_with fail
    refine HCA.out.mono ?_
    rintro e w5 ⟨rfl, rfl⟩
    go_wp2_with fail
    refine HCP.out.mono ?_
    rintro e w5 ⟨rfl, rfl⟩
    go_wp2_with fail
    refine HCE.out.mono ?_
    rintro e w5 ⟨rfl, rfl⟩
    go_wp2_with fail
    go_loopw [8] (fun iv wr => CLr x u iv wr) (fun i _ => x.conds.length - (intOf i).toNat)
    case atStart => exact ⟨0, 0, rfl, Nat.zero_le _, rfl⟩
    case round =>
      obtain ⟨j, m, rfl, hj, rfl⟩ := hrel
      have j0 : (0 : Int) ≤ (j : Int) := Int.natCast_nonneg _
      by_cases hjl : j < x.conds.length
      · obtain ⟨cg, co, _, hca, hcg, _, _, hcat⟩ := HCD.out.at (by intro e; rw [List.map_eq_nil_iff] at e; rw [e] at hjl; simp at hjl)
        have hAc : Ac = some ⟨cg, co, none⟩ := by injection hca
        obtain ⟨sg, so, _, hsa, hsg, _, _, hsat⟩ := HST.out.at (by intro e; rw [List.map_eq_nil_iff] at e; rw [HF.out.start, List.map_eq_nil_iff] at e; rw [e] at hjl; simp at hjl)
        have hAs : As = some ⟨sg, so, none⟩ := by injection hsa
        subst hAc hAs
        obtain ⟨a, ha⟩ : ∃ a, x.conds[j]? = some a := ⟨_, List.getElem?_eq_getElem hjl⟩
        have c1 : u.cell? ⟨cg, co + j * 2, none⟩ = some (.string ⟨a.name.toArray⟩) := hcat j _ (by rw [List.getElem?_map, ha]; rfl) 0 _ rfl
        have c2 : u.cell? ⟨cg, co + j * 2 + 1, none⟩ = some (.int .i64 a.is_) := hcat j _ (by rw [List.getElem?_map, ha]; rfl) 1 _ rfl
        have hsj : (K.start.map condv)[j]? = some (condv (condOf T a)) := by rw [HF.out.start, List.getElem?_map, List.getElem?_map, ha]; rfl
        have s1 : u.cell? ⟨sg, so + j * 2, none⟩ = some (.int .i64 (ix T 5 a.name)) := hsat j _ hsj 0 _ rfl
        have s2 : u.cell? ⟨sg, so + j * 2 + 1, none⟩ = some (.int .i64 a.is_) := hsat j _ hsj 1 _ rfl
        have HC1 := Lib.hid c1; have HC2 := Lib.hid c2; have HS1 := Lib.hid s1; have HS2 := Lib.hid s2
        have HN4 := Lib.hid n4; have HKS := Lib.hid ks; have HXC := Lib.hid xc
        have HCN := Lib.hid (called_true (T 5) v4 (ix T 5 a.name) a.name false (u.drewN m).drew (HR5.out.below (below_drewN (below_drewN (Below.refl _ u) m) 1)) (HF.out.conds a (List.mem_of_getElem? ha)))
        have j2 : (j : Int) < (x.conds.length : Int) := by omega
        clear hca hcg hcat hsa hsg hsat ha hsj c1 c2 s1 s2
        go_upto_region 9 with fail
        refine Reg.G.start (by kernel_rfl) ?_
        refine' Reg.G.pure (i := 0) (v := _) rfl (by rfl) (by kernel_rfl) (by kernel_rfl) (by kernel_rfl) (fun _ _ _ h => h) ?hyrb9_0 ?rerb9_0
        case hyrb9_0 => exact fun w => by first | (go_simp; done) | (go_simp; with_reducible rfl)
        simp only [Act.put, List.setIfInBounds_toArray, List.set_cons_zero, List.set_cons_succ]
        refine' Reg.G.take (i := 1) (v := _) (F := (fun w => w.cell? ⟨W.heap.size, 4, none⟩ = some (v4))) rfl (by rfl) (by kernel_rfl) (by kernel_rfl) (by kernel_rfl) (fun _ _ _ h => h) (HN4.out) ?hyrb9_1 ?rerb9_1
        case hyrb9_1 => intro w hw; first | (go_simp; done) | (go_simp; with_reducible rfl)
        simp only [Act.put, List.setIfInBounds_toArray, List.set_cons_zero, List.set_cons_succ]
        refine' Reg.G.pure (i := 2) (v := _) rfl (by rfl) (by kernel_rfl) (by kernel_rfl) (by kernel_rfl) (fun _ _ _ h => h) ?hyrb9_2 ?rerb9_2
        case hyrb9_2 => exact fun w => by first | (go_simp; done) | (go_simp; with_reducible rfl)
        simp only [Act.put, List.setIfInBounds_toArray, List.set_cons_zero, List.set_cons_succ]
        refine' Reg.G.pure (i := 3) (v := _) rfl (by rfl) (by kernel_rfl) (by kernel_rfl) (by kernel_rfl) (fun _ _ _ h => h) ?hyrb9_3 ?rerb9_3
        case hyrb9_3 => exact fun w => by first | (go_simp; done) | (go_simp; with_reducible rfl)
        simp only [Act.put, List.setIfInBounds_toArray, List.set_cons_zero, List.set_cons_succ]
        refine' Reg.G.take (i := 4) (v := _) (F := (fun w => w.cell? ⟨W.heap.size + 1, 12, none⟩ = some (.slice (some ⟨sg, so, none⟩) x.conds.length cs))) rfl (by rfl) (by kernel_rfl) (by kernel_rfl) (by kernel_rfl) (fun _ _ _ h => h) (HKS.out) ?hyrb9_4 ?rerb9_4
        case hyrb9_4 => intro w hw; first | (go_simp; done) | (go_simp; with_reducible rfl)
        simp only [Act.put, List.setIfInBounds_toArray, List.set_cons_zero, List.set_cons_succ]
        refine' Reg.G.pure (i := 5) (v := _) rfl (by rfl) (by kernel_rfl) (by kernel_rfl) (by kernel_rfl) (fun _ _ _ h => h) ?hyrb9_5 ?rerb9_5
        case hyrb9_5 => exact fun w => by first | (go_simp; done) | (go_simp; with_reducible rfl)
        simp only [Act.put, List.setIfInBounds_toArray, List.set_cons_zero, List.set_cons_succ]
        refine' Reg.G.pure (i := 6) (v := _) rfl (by rfl) (by kernel_rfl) (by kernel_rfl) (by kernel_rfl) (fun _ _ _ h => h) ?hyrb9_6 ?rerb9_6
        case hyrb9_6 => exact fun w => by first | (go_simp; done) | (go_simp; with_reducible rfl)
        simp only [Act.put, List.setIfInBounds_toArray, List.set_cons_zero, List.set_cons_succ]
        refine' Reg.G.pure (i := 7) (v := _) rfl (by rfl) (by kernel_rfl) (by kernel_rfl) (by kernel_rfl) (fun _ _ _ h => h) ?hyrb9_7 ?rerb9_7
        case hyrb9_7 => exact fun w => by first | (go_simp; done) | (go_simp; with_reducible rfl)
        simp only [Act.put, List.setIfInBounds_toArray, List.set_cons_zero, List.set_cons_succ]
        refine' Reg.G.take (i := 8) (v := _) (F := (fun w => w.cell? ⟨sg, so + j * 2, none⟩ = some (.int .i64 (ix T 5 a.name)))) rfl (by rfl) (by kernel_rfl) (by kernel_rfl) (by kernel_rfl) (fun _ _ _ h => h) (HS1.out) ?hyrb9_8 ?rerb9_8
        case hyrb9_8 => intro w hw; first | (go_simp; done) | (go_simp; with_reducible rfl)
        simp only [Act.put, List.setIfInBounds_toArray, List.set_cons_zero, List.set_cons_succ]
        refine' Reg.G.pure (i := 9) (v := _) rfl (by rfl) (by kernel_rfl) (by kernel_rfl) (by kernel_rfl) (fun _ _ _ h => h) ?hyrb9_9 ?rerb9_9
        case hyrb9_9 => exact fun w => by first | (go_simp; done) | (go_simp; with_reducible rfl)
        simp only [Act.put, List.setIfInBounds_toArray, List.set_cons_zero, List.set_cons_succ]
        refine' Reg.G.take (i := 10) (v := _) (F := (fun w => w.cell? ⟨W.heap.size + 1 + 1, 13, none⟩ = some (.slice (some ⟨cg, co, none⟩) x.conds.length cc))) rfl (by rfl) (by kernel_rfl) (by kernel_rfl) (by kernel_rfl) (fun _ _ _ h => h) (HXC.out) ?hyrb9_10 ?rerb9_10
        case hyrb9_10 => intro w hw; first | (go_simp; done) | (go_simp; with_reducible rfl)
        simp only [Act.put, List.setIfInBounds_toArray, List.set_cons_zero, List.set_cons_succ]
        refine' Reg.G.pure (i := 11) (v := _) rfl (by rfl) (by kernel_rfl) (by kernel_rfl) (by kernel_rfl) (fun _ _ _ h => h) ?hyrb9_11 ?rerb9_11
        case hyrb9_11 => exact fun w => by first | (go_simp; done) | (go_simp; with_reducible rfl)
        simp only [Act.put, List.setIfInBounds_toArray, List.set_cons_zero, List.set_cons_succ]
        refine' Reg.G.pure (i := 12) (v := _) rfl (by rfl) (by kernel_rfl) (by kernel_rfl) (by kernel_rfl) (fun _ _ _ h => h) ?hyrb9_12 ?rerb9_12
        case hyrb9_12 => exact fun w => by first | (go_simp; done) | (go_simp; with_reducible rfl)
        simp only [Act.put, List.setIfInBounds_toArray, List.set_cons_zero, List.set_cons_succ]
        refine' Reg.G.pure (i := 13) (v := _) rfl (by rfl) (by kernel_rfl) (by kernel_rfl) (by kernel_rfl) (fun _ _ _ h => h) ?hyrb9_13 ?rerb9_13
        case hyrb9_13 => exact fun w => by first | (go_simp; done) | (go_simp; with_reducible rfl)
        simp only [Act.put, List.setIfInBounds_toArray, List.set_cons_zero, List.set_cons_succ]
        refine' Reg.G.take (i := 14) (v := _) (F := (fun w => w.cell? ⟨cg, co + j * 2, none⟩ = some (.string ⟨a.name.toArray⟩))) rfl (by rfl) (by kernel_rfl) (by kernel_rfl) (by kernel_rfl) (fun _ _ _ h => h) (HC1.out) ?hyrb9_14 ?rerb9_14
        case hyrb9_14 => intro w hw; first | (go_simp; done) | (go_simp; with_reducible rfl)
        simp only [Act.put, List.setIfInBounds_toArray, List.set_cons_zero, List.set_cons_succ]
        refine Reg.G.step (j := 15) (m := [false, false, false, false, false]) [14, 10, 8, 4, 1] rfl (by kernel_rfl) rfl (by kernel_rfl) (fun K hK => ?_)
        -- Op.call { callee := Callee.value (func 18), args := #[t91, t98, t104, const (bool false)], argTypes := #[33, 3, 9, 4] }
        rw [if_pos (by rfl)]
        go_simp
        refine HCN.out.mono ?_
        rintro e wg ⟨rfl, rfl⟩
        refine hK.out _ _ trivial ?_
        clear hK K
        simp only [Act.put, List.setIfInBounds_toArray, List.set_cons_zero, List.set_cons_succ, Reg.Kept]
        refine' Reg.G.pure (i := 16) (v := _) rfl (by rfl) (by kernel_rfl) (by kernel_rfl) (by kernel_rfl) (fun _ _ _ h => h) ?hyrb9_16 ?rerb9_16
        case hyrb9_16 => exact fun w => by first | (go_simp; done) | (go_simp; with_reducible rfl)
        simp only [Act.put, List.setIfInBounds_toArray, List.set_cons_zero, List.set_cons_succ]
        refine' Reg.G.pure (i := 17) (v := _) rfl (by rfl) (by kernel_rfl) (by kernel_rfl) (by kernel_rfl) (fun _ _ _ h => h) ?hyrb9_17 ?rerb9_17
        case hyrb9_17 => exact fun w => by first | (go_simp; done) | (go_simp; with_reducible rfl)
        simp only [Act.put, List.setIfInBounds_toArray, List.set_cons_zero, List.set_cons_succ]
        refine' Reg.G.pure (i := 18) (v := _) rfl (by rfl) (by kernel_rfl) (by kernel_rfl) (by kernel_rfl) (fun _ _ _ h => h) ?hyrb9_18 ?rerb9_18
        case hyrb9_18 => exact fun w => by first | (go_simp; done) | (go_simp; with_reducible rfl)
        simp only [Act.put, List.setIfInBounds_toArray, List.set_cons_zero, List.set_cons_succ]
        refine' Reg.G.pure (i := 19) (v := _) rfl (by rfl) (by kernel_rfl) (by kernel_rfl) (by kernel_rfl) (fun _ _ _ h => h) ?hyrb9_19 ?rerb9_19
        case hyrb9_19 => exact fun w => by first | (go_simp; done) | (go_simp; with_reducible rfl)
        simp only [Act.put, List.setIfInBounds_toArray, List.set_cons_zero, List.set_cons_succ]
        refine' Reg.G.take (i := 20) (v := _) (F := (fun w => w.cell? ⟨W.heap.size + 1, 12, none⟩ = some (.slice (some ⟨sg, so, none⟩) x.conds.length cs))) rfl (by rfl) (by kernel_rfl) (by kernel_rfl) (by kernel_rfl) (fun _ _ _ h => h) (HKS.out) ?hyrb9_20 ?rerb9_20
        case hyrb9_20 => intro w hw; first | (go_simp; done) | (go_simp; with_reducible rfl)
        simp only [Act.put, List.setIfInBounds_toArray, List.set_cons_zero, List.set_cons_succ]
        refine' Reg.G.pure (i := 21) (v := _) rfl (by rfl) (by kernel_rfl) (by kernel_rfl) (by kernel_rfl) (fun _ _ _ h => h) ?hyrb9_21 ?rerb9_21
        case hyrb9_21 => exact fun w => by first | (go_simp; done) | (go_simp; with_reducible rfl)
        simp only [Act.put, List.setIfInBounds_toArray, List.set_cons_zero, List.set_cons_succ]
        refine' Reg.G.pure (i := 22) (v := _) rfl (by rfl) (by kernel_rfl) (by kernel_rfl) (by kernel_rfl) (fun _ _ _ h => h) ?hyrb9_22 ?rerb9_22
        case hyrb9_22 => exact fun w => by first | (go_simp; done) | (go_simp; with_reducible rfl)
        simp only [Act.put, List.setIfInBounds_toArray, List.set_cons_zero, List.set_cons_succ]
        refine' Reg.G.pure (i := 23) (v := _) rfl (by rfl) (by kernel_rfl) (by kernel_rfl) (by kernel_rfl) (fun _ _ _ h => h) ?hyrb9_23 ?rerb9_23
        case hyrb9_23 => exact fun w => by first | (go_simp; done) | (go_simp; with_reducible rfl)
        simp only [Act.put, List.setIfInBounds_toArray, List.set_cons_zero, List.set_cons_succ]
        refine' Reg.G.take (i := 24) (v := _) (F := (fun w => w.cell? ⟨sg, so + j * 2 + 1, none⟩ = some (.int .i64 a.is_))) rfl (by rfl) (by kernel_rfl) (by kernel_rfl) (by kernel_rfl) (fun _ _ _ h => h) (HS2.out) ?hyrb9_24 ?rerb9_24
        case hyrb9_24 => intro w hw; first | (go_simp; done) | (go_simp; with_reducible rfl)
        simp only [Act.put, List.setIfInBounds_toArray, List.set_cons_zero, List.set_cons_succ]
        refine' Reg.G.pure (i := 25) (v := _) rfl (by rfl) (by kernel_rfl) (by kernel_rfl) (by kernel_rfl) (fun _ _ _ h => h) ?hyrb9_25 ?rerb9_25
        case hyrb9_25 => exact fun w => by first | (go_simp; done) | (go_simp; with_reducible rfl)
        simp only [Act.put, List.setIfInBounds_toArray, List.set_cons_zero, List.set_cons_succ]
        refine' Reg.G.take (i := 26) (v := _) (F := (fun w => w.cell? ⟨W.heap.size + 1 + 1, 13, none⟩ = some (.slice (some ⟨cg, co, none⟩) x.conds.length cc))) rfl (by rfl) (by kernel_rfl) (by kernel_rfl) (by kernel_rfl) (fun _ _ _ h => h) (HXC.out) ?hyrb9_26 ?rerb9_26
        case hyrb9_26 => intro w hw; first | (go_simp; done) | (go_simp; with_reducible rfl)
        simp only [Act.put, List.setIfInBounds_toArray, List.set_cons_zero, List.set_cons_succ]
        refine' Reg.G.pure (i := 27) (v := _) rfl (by rfl) (by kernel_rfl) (by kernel_rfl) (by kernel_rfl) (fun _ _ _ h => h) ?hyrb9_27 ?rerb9_27
        case hyrb9_27 => exact fun w => by first | (go_simp; done) | (go_simp; with_reducible rfl)
        simp only [Act.put, List.setIfInBounds_toArray, List.set_cons_zero, List.set_cons_succ]
        refine' Reg.G.pure (i := 28) (v := _) rfl (by rfl) (by kernel_rfl) (by kernel_rfl) (by kernel_rfl) (fun _ _ _ h => h) ?hyrb9_28 ?rerb9_28
        case hyrb9_28 => exact fun w => by first | (go_simp; done) | (go_simp; with_reducible rfl)
        simp only [Act.put, List.setIfInBounds_toArray, List.set_cons_zero, List.set_cons_succ]
        refine' Reg.G.pure (i := 29) (v := _) rfl (by rfl) (by kernel_rfl) (by kernel_rfl) (by kernel_rfl) (fun _ _ _ h => h) ?hyrb9_29 ?rerb9_29
        case hyrb9_29 => exact fun w => by first | (go_simp; done) | (go_simp; with_reducible rfl)
        simp only [Act.put, List.setIfInBounds_toArray, List.set_cons_zero, List.set_cons_succ]
        refine' Reg.G.take (i := 30) (v := _) (F := (fun w => w.cell? ⟨cg, co + j * 2 + 1, none⟩ = some (.int .i64 a.is_))) rfl (by rfl) (by kernel_rfl) (by kernel_rfl) (by kernel_rfl) (fun _ _ _ h => h) (HC2.out) ?hyrb9_30 ?rerb9_30
        case hyrb9_30 => intro w hw; first | (go_simp; done) | (go_simp; with_reducible rfl)
        simp only [Act.put, List.setIfInBounds_toArray, List.set_cons_zero, List.set_cons_succ]
        refine' Reg.G.pure (i := 31) (v := _) rfl (by rfl) (by kernel_rfl) (by kernel_rfl) (by kernel_rfl) (fun _ _ _ h => h) ?hyrb9_31 ?rerb9_31
        case hyrb9_31 => exact fun w => by first | (go_simp; done) | (go_simp; with_reducible rfl)
        simp only [Act.put, List.setIfInBounds_toArray, List.set_cons_zero, List.set_cons_succ]
        refine' Reg.G.pure (i := 32) (v := _) rfl (by rfl) (by kernel_rfl) (by kernel_rfl) (by kernel_rfl) (fun _ _ _ h => h) ?hyrb9_32 ?rerb9_32
        case hyrb9_32 => exact fun w => by first | (go_simp; done) | (go_simp; with_reducible rfl)
        simp only [Act.put, List.setIfInBounds_toArray, List.set_cons_zero, List.set_cons_succ]
        refine Reg.G.done (by kernel_rfl) ?_
        go_wp2_with fail
        go_roundw
        case rel => exact ⟨j + 1, m + 1, by go_num, hjl, rfl⟩
        case measure => simp [intOf]; omega
      · have j2 : ¬ ((j : Int) < (x.conds.length : Int)) := by omega
        have HCU := Lib.hid (called_true (T 3) v2 K.unit x.unit true (u.drewN m) (HR3.out.below (below_drewN (Below.refl _ u) m)) HF.out.unit)
        by_cases hu : x.unit = []
        · have hto := HF.out.to0 hu
          have HCU0 : Hid (Calls Tryd.prog 18 #[v2, .int .i64 K.unit, .string ⟨#[]⟩, .bool true] (u.drewN m) fun e w' => e = .returned (.bool true) ∧ (u.drewN m) = w') := by
            have h := HCU.out
            rw [hu] at h
            exact h
          have xu0 : u.cell? ⟨W.heap.size + 1 + 1, 18, none⟩ = some (.string ⟨#[]⟩) := by rw [xu, hu]
          rw [hto] at kt
          clear xu hu HCU
          have HCU := HCU0
          go_wp2_with fail
          refine HCU.out.mono ?_
          rintro e w5 ⟨rfl, rfl⟩
          go_wp2_with fail
          go_ret
          exact ⟨by simp, below_drewN HBA.out m⟩
        · have hub : (x.unit == []) = false := by simpa using hu
          obtain ⟨ht1, hv1⟩ := HF.out.to1 hu
          rw [hv1] at kv kw
          have HCT := Lib.hid (called_true (T 2) v1 K.to_ x.to_ false (u.drewN m) (HR2.out.below (below_drewN (Below.refl _ u) m)) ht1)
          have her := eq_ratioT x.num.num x.num.den
          clear ht1 hv1
          go_wp2_with fail
          refine HCU.out.mono ?_
          rintro e w5 ⟨rfl, rfl⟩
          go_wp2_with fail
          refine HCT.out.mono ?_
          rintro e w5 ⟨rfl, rfl⟩
          go_wp2_with fail
          go_ret
          exact ⟨by simp, below_drewN HBA.out m⟩
end Go.Proofs.YtdhjibnkebbejaaDoor.Rs
