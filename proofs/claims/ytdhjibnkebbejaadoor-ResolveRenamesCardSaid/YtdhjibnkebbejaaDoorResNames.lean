/-
  What the law's function names returns.
-/
import Derived.Test.YtdhjibnkebbejaaDoorResLawW
import Derived.Test.YtdhjibnkebbejaaDoorResSize
namespace Go.Proofs.YtdhjibnkebbejaaDoor.Rs
open Go.RowKit Mem Vw
set_option linter.unusedVariables false
set_option linter.unusedSimpArgs false

theorem wp_builtT {o : Oper} {a : Act} {w : World} {K : Act → World → Prop} {Q : Exit → Act → World → Prop} (n : Bytes) (x : Operand) (hop : o.op = .buildSlice 33 1 #[(0, x)]) (hx : a.eval x = .string ⟨n.toArray⟩) (h : K (a.put o.dst (.slice (some ⟨w.heap.size, 0, none⟩) 1 1)) (w.alloc (.cells #[.string ⟨n.toArray⟩] 9))) : o.wp Tryd.prog a w K Q := by
  have hb : (Instr.buildSlice 33 1 #[(0, .string ⟨n.toArray⟩)]).run Tryd.prog w = .ok (.slice (some ⟨w.heap.size, 0, none⟩) 1 1) (w.alloc (.cells #[.string ⟨n.toArray⟩] 9)) := by kernel_rfl
  refine wp_builtS 33 1 _ hop #[(0, .string ⟨n.toArray⟩)] ?_ _ _ hb h
  simp [hx]
theorem info_strN : (Tryd.prog.info? 9).map (fun i => (i.zero, i.size, i.bytes)) = some (some (.string ⟨#[]⟩), 1, 16) := by kernel_rfl
theorem info_five (a b c d e : Value) : (Tryd.prog.info? 45).map (·.size) = some (#[a, b, c, d, e] : Array Value).size := by kernel_rfl
theorem flat_sv (l : List Bytes) : (l.flatMap fun x => [sv x]) = l.map sv := by
  induction l with
  | nil => rfl
  | cons a l ih => rw [List.flatMap_cons, ih]; rfl
/-- The table of names while one of its rows is filled. -/
structure NSt (B tb g : Nat) (u : World) (vs : List Value) (v : Value) (ns : List Bytes) (wr : World) : Prop where
  tbk : wr.heap[tb]? = some (.cells (vs.set g v).toArray 45 (0, 0))
  own : wr.ownsRow B 9 1 v ns.length (ns.map sv)
  fr : Fr (fun k => k = tb) u wr
def NRl (B tb g : Nat) (u : World) (vs : List Value) (ns : List Bytes) (iv : Value) (wr : World) : Prop := ∃ k : Nat, iv = .int .i64 (k : Int) ∧ k ≤ ns.length ∧ ∃ v, Hid (NSt B tb g u vs v (ns.take k) wr)
theorem NSt.step {B tb g : Nat} {u wr wa wc : World} {vs : List Value} {v : Value} {ns : List Bytes} {n : Bytes} (st : NSt B tb g u vs v ns wr) (hB : B ≤ u.heap.size) (ht : tb < B) (hwa : Fr (fun _ => False) wr wa) {gn cn : Nat} (g1 : wc.ownsRow B 9 1 (.slice (some ⟨gn, 0, none⟩) (ns.length + 1) cn) (ns.length + 1) (ns.map sv ++ [sv n])) (g2 : wa.grownBy wc v.ownBlock) (hv : ∀ k, v.ownBlock = some k → u.heap.size ≤ k) :
    NSt B tb g u vs (.slice (some ⟨gn, 0, none⟩) (ns.length + 1) cn) (ns ++ [n]) (wc.setCell ⟨tb, g, none⟩ (.slice (some ⟨gn, 0, none⟩) (ns.length + 1) cn)) := by
  have h1 : Fr (fun k => k = tb) u wa := st.fr.trans' hwa (fun _ _ h => h.elim)
  have h2 : Fr (fun k => k = tb) u wc := h1.grown g2 (fun k hk => .inr (hv k hk))
  have hs : Fr (fun k => k = tb) wc (wc.setCell ⟨tb, g, none⟩ (.slice (some ⟨gn, 0, none⟩) (ns.length + 1) cn)) := (Fr.refl (fun k => k = tb) wc).setCell (p := ⟨tb, g, none⟩) (.inl rfl) _
  refine ⟨?_, ?_, h2.trans hs⟩
  · have hb := (Fr.of_grown g2).blk (hwa.blk st.tbk (fun h => h)) (fun h => by have := (own_lt st.own _ h).1; omega)
    have := blk_set hb g (.slice (some ⟨gn, 0, none⟩) (ns.length + 1) cn)
    rw [this, List.setIfInBounds_toArray, List.set_set]
  · have := own_fr g1 hs (fun k hk _ e => by omega)
    rw [List.length_append, List.map_append]
    simpa using this
set_option maxRecDepth 100000 in
set_option maxHeartbeats 8000000 in
theorem names_any (src : Source) (wk : List Bool) (s : Sy) (H : RH) (cl : List (ClauseSym × Value)) (W : World) (h : SyRows W s H cl) (hl : total s ≤ 1000000) :
    Calls Tryd.prog 16 #[.agg (symc src wk H).toArray] W fun e w' => ∃ v0 v1 v2 v3 v4, e = .returned (.agg #[v0, v1, v2, v3, v4]) ∧ Row w' v0 1 (s.parties.map fun x => [sv x]) ∧ Row w' v1 1 ((s.roles.map Prod.fst).map fun x => [sv x]) ∧ Row w' v2 1 ((s.units.map Unit_.name).map fun x => [sv x]) ∧ Row w' v3 1 ((s.acts.map ActSym.name).map fun x => [sv x]) ∧ Row w' v4 1 ((s.clauses.map ClauseSym.name).map fun x => [sv x]) ∧ Below W.heap.size W w' := by
  have hone : (symc src wk H).toArray.all (·.oneCell') = true := one_symc src wk H h.hol.form h.par.form h.rol.form h.uni.form h.act.form h.cla.form
  have HSY := Lib.hid h
  obtain ⟨Ap, cp, ep, _⟩ := h.par.slice
  obtain ⟨Ar, cr, er, _⟩ := h.rol.slice
  obtain ⟨Au, cu, eu, _⟩ := h.uni.slice
  obtain ⟨Aa, ca, ea, _⟩ := h.act.slice
  obtain ⟨Ac, cc, ec, _⟩ := h.cla.slice
  rw [List.length_map] at ep er eu ea ec
  have hc : cl.length = s.clauses.length := by rw [← h.cls, List.length_map]
  rw [hc] at ec
  clear h
  unfold total at hl
  obtain ⟨u, hu⟩ : ∃ u, ((W.alloc (.cells (symc src wk H).toArray 39)).alloc (.cells #[.slice none 0 0, .slice none 0 0, .slice none 0 0, .slice none 0 0, .slice none 0 0] 45)).alloc (.cells #[.slice none 0 0, .slice none 0 0, .slice none 0 0, .slice none 0 0, .slice none 0 0] 45) = u := ⟨_, rfl⟩
  have HSB : Hid (u.heap[W.heap.size]? = some (.cells (symc src wk H).toArray 39 (0, 0))) := by rw [← hu]; exact blk_alloc (blk_alloc (blk_newn rfl) _) _
  have HRB : Hid (u.heap[W.heap.size + 1]? = some (.cells #[Vw.nil, Vw.nil, Vw.nil, Vw.nil, Vw.nil] 45 (0, 0))) := by rw [← hu]; exact blk_alloc (blk_newn (by simp)) _
  have HTK : Hid (u.heap[W.heap.size + 1 + 1]? = some (.cells #[Vw.nil, Vw.nil, Vw.nil, Vw.nil, Vw.nil] 45 (0, 0))) := by rw [← hu]; exact blk_newn (by simp)
  have HBA : Hid (Below W.heap.size W u) := by rw [← hu]; exact (((Below.refl _ W).alloc (Nat.le_refl _) _).alloc (by simp) _).alloc (by simp only [World.size_alloc]; omega) _
  have HSZ : Hid (u.heap.size = W.heap.size + 3) := by show _ = _; rw [← hu]; simp
  have HU := Lib.hid hu; clear hu
  have q13 : u.cell? ⟨W.heap.size, 13, none⟩ = some (.slice Ap s.parties.length cp) := (cell_of_blk HSB.out 13).trans (congrArg some ep)
  have t0 : u.cell? ⟨W.heap.size + 1 + 1, 0, none⟩ = some (.slice none 0 0) := cell_of_blk HTK.out 0
  have t0f : u.frozen? ⟨W.heap.size + 1 + 1, 0, none⟩ = false := froz_of_blk HTK.out 0
  have EP := Lib.hid ep; have ER := Lib.hid er; have EU := Lib.hid eu; have EA := Lib.hid ea; have EC := Lib.hid ec; have HCL := Lib.hid hc
  clear ep er eu ea ec hc hone
  go_enter Tryd.func16, Tryd.ntmps16
  go_upto_region 2 with fail
  rw [HU.out]
  clear HU
  go_upto_region 3 with fail
  obtain ⟨u1, hu1⟩ : ∃ u1, u.setCell ⟨W.heap.size + 1 + 1, 0, none⟩ (.slice Ap s.parties.length cp) = u1 := ⟨_, rfl⟩
  rw [hu1]
  have hf1 : Fr (fun k => k = W.heap.size + 1 + 1) u u1 := by rw [← hu1]; exact (Fr.refl (fun k => k = W.heap.size + 1 + 1) u).setCell (p := ⟨W.heap.size + 1 + 1, 0, none⟩) (.inl rfl) _
  have HT1 : Hid (u1.heap[W.heap.size + 1 + 1]? = some (.cells [.slice Ap s.parties.length cp, Vw.nil, Vw.nil, Vw.nil, Vw.nil].toArray 45 (0, 0))) := by rw [← hu1]; exact (blk_set HTK.out 0 _).trans rfl
  have HS1 := Lib.hid (hf1.blk HSB.out (by omega))
  have HR1 := Lib.hid (hf1.blk HRB.out (by omega))
  have HB1 : Hid (Below W.heap.size W u1) := HBA.out.trans (hf1.below HBA.out.size (fun k h => by omega))
  have HZ1 : Hid (W.heap.size + 3 ≤ u1.heap.size) := by have h1 := hf1.size; have h2 := HSZ.out; show _ ≤ _; omega
  clear hu1 hf1 q13 t0 t0f HSB HRB HTK HBA HSZ
  obtain ⟨i0, hi, hz0, hz1, hz2⟩ := info_parts info_strN
  go_wp2_with fail
  go_loopw [4] (fun iv wr => NRl u1.heap.size (W.heap.size + 1 + 1) 1 u1 [.slice Ap s.parties.length cp, Vw.nil, Vw.nil, Vw.nil, Vw.nil] (s.roles.map Prod.fst) iv wr) (fun i _ => s.roles.length - (intOf i).toNat)
  case atStart => exact ⟨0, rfl, Nat.zero_le _, Vw.nil, HT1.out, World.ownsRow_nil _ _ _ _, Fr.refl _ _⟩
  case round =>
    obtain ⟨k, rfl, hk, v, HN⟩ := hrel
    rw [List.length_map] at hk
    have HSk : Hid (wr.heap[W.heap.size]? = some (.cells (symc src wk H).toArray 39 (0, 0))) := HN.out.fr.blk HS1.out (by omega)
    have HBk : Hid (Below W.heap.size W wr) := HB1.out.trans (HN.out.fr.below HB1.out.size (fun k h => by omega))
    have q1 : wr.cell? ⟨W.heap.size, 14, none⟩ = some (.slice Ar s.roles.length cr) := (cell_of_blk HSk.out 14).trans (congrArg some ER.out)
    have k0 : (0 : Int) ≤ (k : Int) := Int.natCast_nonneg _
    by_cases hlt : k < s.roles.length
    · have hrow := HSY.out.rol
      rw [ER.out] at hrow
      obtain ⟨gx, ox, _, hda, hgl, _, _, hat⟩ := hrow.at (by intro e; rw [List.map_eq_nil_iff] at e; rw [e] at hlt; simp at hlt)
      have hA : Ar = some ⟨gx, ox, none⟩ := by injection hda
      subst hA
      obtain ⟨x, hx⟩ : ∃ x, s.roles[k]? = some x := ⟨_, List.getElem?_eq_getElem (by exact hlt)⟩
      obtain ⟨nm, hnm⟩ : ∃ nm, x.1 = nm := ⟨_, rfl⟩
      have HC1 : Hid (wr.cell? ⟨gx, ox + k * 2, none⟩ = some (.string ⟨nm.toArray⟩)) := by
        have h := hat k _ (by rw [List.getElem?_map, hx]; rfl) 0 _ rfl
        rw [← hnm]
        exact (HBk.out.cell (p := ⟨gx, _, none⟩) hgl).trans h
      have HNM : Hid ((s.roles.map Prod.fst)[k]? = some nm) := by show _ = _; rw [List.getElem?_map, hx, ← hnm]; rfl
      have HQ1 := Lib.hid q1
      have hk7 : k ≤ 1000000 := by omega
      clear hat hda hgl hx hnm hrow
      have k2 : (k : Int) < (s.roles.length : Int) := by omega
      go_upto_region 6 with fail
      refine Reg.G.start (by kernel_rfl) ?_
      refine' Reg.G.pure (i := 0) (v := _) rfl (by rfl) (by kernel_rfl) (by kernel_rfl) (by kernel_rfl) (fun _ _ _ h => h) ?hyr6_0 ?rer6_0
      case hyr6_0 => exact fun w => by first | (go_simp; done) | (go_simp; with_reducible rfl)
      simp only [Act.put, List.setIfInBounds_toArray, List.set_cons_zero, List.set_cons_succ]
      refine' Reg.G.take (i := 1) (v := _) (F := (fun w => w.cell? ⟨W.heap.size + 1 + 1, 1, none⟩ = some v)) rfl (by rfl) (by kernel_rfl) (by kernel_rfl) (by kernel_rfl) (fun _ _ _ h => h) ((cell_of_blk HN.out.tbk 1).trans rfl) ?hyr6_1 ?rer6_1
      case hyr6_1 => intro w hw; first | (go_simp; done) | (go_simp; with_reducible rfl)
      simp only [Act.put, List.setIfInBounds_toArray, List.set_cons_zero, List.set_cons_succ]
      refine' Reg.G.pure (i := 2) (v := _) rfl (by rfl) (by kernel_rfl) (by kernel_rfl) (by kernel_rfl) (fun _ _ _ h => h) ?hyr6_2 ?rer6_2
      case hyr6_2 => exact fun w => by first | (go_simp; done) | (go_simp; with_reducible rfl)
      simp only [Act.put, List.setIfInBounds_toArray, List.set_cons_zero, List.set_cons_succ]
      refine' Reg.G.take (i := 3) (v := _) (F := (fun w => w.cell? ⟨W.heap.size, 14, none⟩ = some (.slice (some ⟨gx, ox, none⟩) s.roles.length cr))) rfl (by rfl) (by kernel_rfl) (by kernel_rfl) (by kernel_rfl) (fun _ _ _ h => h) (HQ1.out) ?hyr6_3 ?rer6_3
      case hyr6_3 => intro w hw; first | (go_simp; done) | (go_simp; with_reducible rfl)
      simp only [Act.put, List.setIfInBounds_toArray, List.set_cons_zero, List.set_cons_succ]
      refine' Reg.G.pure (i := 4) (v := _) rfl (by rfl) (by kernel_rfl) (by kernel_rfl) (by kernel_rfl) (fun _ _ _ h => h) ?hyr6_4 ?rer6_4
      case hyr6_4 => exact fun w => by first | (go_simp; done) | (go_simp; with_reducible rfl)
      simp only [Act.put, List.setIfInBounds_toArray, List.set_cons_zero, List.set_cons_succ]
      refine' Reg.G.pure (i := 5) (v := _) rfl (by rfl) (by kernel_rfl) (by kernel_rfl) (by kernel_rfl) (fun _ _ _ h => h) ?hyr6_5 ?rer6_5
      case hyr6_5 => exact fun w => by first | (go_simp; done) | (go_simp; with_reducible rfl)
      simp only [Act.put, List.setIfInBounds_toArray, List.set_cons_zero, List.set_cons_succ]
      refine' Reg.G.pure (i := 6) (v := _) rfl (by rfl) (by kernel_rfl) (by kernel_rfl) (by kernel_rfl) (fun _ _ _ h => h) ?hyr6_6 ?rer6_6
      case hyr6_6 => exact fun w => by first | (go_simp; done) | (go_simp; with_reducible rfl)
      simp only [Act.put, List.setIfInBounds_toArray, List.set_cons_zero, List.set_cons_succ]
      refine' Reg.G.take (i := 7) (v := _) (F := (fun w => w.cell? ⟨gx, ox + k * 2, none⟩ = some (.string ⟨nm.toArray⟩))) rfl (by rfl) (by kernel_rfl) (by kernel_rfl) (by kernel_rfl) (fun _ _ _ h => h) (HC1.out) ?hyr6_7 ?rer6_7
      case hyr6_7 => intro w hw; first | (go_simp; done) | (go_simp; with_reducible rfl)
      simp only [Act.put, List.setIfInBounds_toArray, List.set_cons_zero, List.set_cons_succ]
      refine Reg.G.step (j := 8) (m := [false, false, true]) [7, 3, 1] rfl (by kernel_rfl) rfl (by kernel_rfl) (fun K hK => ?_)
      -- Op.buildSlice 33 1 #[(0, t25)]
      rw [if_pos (by rfl)]
      refine wp_builtT nm _ rfl (by rfl) ?_
      obtain ⟨wa, hwa⟩ : ∃ v, (wr.drew).alloc (.cells #[.string ⟨nm.toArray⟩] 9) = v := ⟨_, rfl⟩
      rw [hwa]
      have HFA : Hid (Fr (fun _ => False) wr wa) := by rw [← hwa]; exact (Fr.refl _ wr).drew.alloc _
      have HKE : Hid (((s.roles.map Prod.fst).take k).length = k) := by show _ = _; rw [List.length_take, List.length_map]; omega
      have HOA : Hid (wa.ownsRow u1.heap.size 9 1 v k (((s.roles.map Prod.fst).take k).map sv)) := by have h := own_fr HN.out.own HFA.out (fun _ _ _ h => h); rw [HKE.out] at h; exact h
      have HNA : Hid (∀ j u, ([.string ⟨nm.toArray⟩] : List Value)[j]? = some u → wa.cell? ((⟨wr.heap.size, 0, none⟩ : Addr).add j) = some u) := by rw [← hwa]; exact World.news_of_block (cs := #[.string ⟨nm.toArray⟩]) (t := 9) (fr := (0, 0)) (heap_alloc_new wr.drew _)
      have HSA : Hid (wa.heap.size = wr.heap.size + 1) := by show _ = _; rw [← hwa]; simp
      clear hwa
      refine hK.out _ _ ⟨(cell_of_blk (HFA.out.blk HN.out.tbk (fun h => h)) 1).trans rfl, trivial⟩ ?_
      clear hK K
      simp only [Act.put, List.setIfInBounds_toArray, List.set_cons_zero, List.set_cons_succ, Reg.Kept]
      refine Reg.G.step (j := 9) (m := [false]) [1] rfl (by kernel_rfl) rfl (by kernel_rfl) (fun K hK => ?_)
      -- Op.call { callee := Callee.builtin Builtin.append, args := #[t19, t26], argTypes := #[33, 33] }
      rw [if_pos (by rfl)]
      refine wp_append_lies wa (.tmp 19) (.tmp 26) 33 rfl u1.heap.size 9 i0 _ 1 16 Tryd.underlying33 hi hz0 hz1 hz2 rfl (by decide) v k (((s.roles.map Prod.fst).take k).map sv) (by rfl) HOA.out ⟨wr.heap.size, 0, none⟩ 1 1 [.string ⟨nm.toArray⟩] (by rfl) rfl HNA.out (by simp [Value.oneCell']) (by decide) (by simp only [maxLen]; omega) (by omega) (by have h1 := HN.out.fr.size; have h2 := HSA.out; omega) (wr.heap.size + 1) HSA.out ?_
      intro gn cn wc g1 g2 g3 _
      have HNX : Hid (NSt u1.heap.size (W.heap.size + 1 + 1) 1 u1 [.slice Ap s.parties.length cp, Vw.nil, Vw.nil, Vw.nil, Vw.nil] (.slice (some ⟨gn, 0, none⟩) (k + 1) cn) ((s.roles.map Prod.fst).take k ++ [nm]) (wc.setCell ⟨W.heap.size + 1 + 1, 1, none⟩ (.slice (some ⟨gn, 0, none⟩) (k + 1) cn))) := by
        have h := HN.out.step (gn := gn) (cn := cn) (n := nm) (Nat.le_refl _) (by have := HZ1.out; omega) HFA.out (by rw [HKE.out]; exact g1) g2 (fun j hj => (own_lt HN.out.own j hj).1)
        rw [HKE.out] at h
        exact h
      have HTC : Hid (wc.heap[W.heap.size + 1 + 1]? = some (.cells ([.slice Ap s.parties.length cp, Vw.nil, Vw.nil, Vw.nil, Vw.nil].set 1 v).toArray 45 (0, 0))) := (Fr.of_grown g2).blk (HFA.out.blk HN.out.tbk (fun h => h)) (fun h => by have h1 := (own_lt HN.out.own _ h).1; have h2 := HZ1.out; omega)
      clear g1 g2 g3
      refine hK.out _ _ trivial ?_
      clear hK K
      simp only [Act.put, List.setIfInBounds_toArray, List.set_cons_zero, List.set_cons_succ, Reg.Kept]
      refine' Reg.G.pure (i := 10) (v := _) rfl (by rfl) (by kernel_rfl) (by kernel_rfl) (by kernel_rfl) (fun _ _ _ h => h) ?hyr6_10 ?rer6_10
      case hyr6_10 => exact fun w => by first | (go_simp; done) | (go_simp; with_reducible rfl)
      simp only [Act.put, List.setIfInBounds_toArray, List.set_cons_zero, List.set_cons_succ]
      refine Reg.G.step (j := 11) (m := []) [] rfl (by kernel_rfl) rfl (by kernel_rfl) (fun K hK => ?_)
      -- Op.store 33 (t28) (t27)
      have k5 : wc.cell? ⟨W.heap.size + 1 + 1, 1, none⟩ = some v := (cell_of_blk HTC.out 1).trans rfl
      have f5 : wc.frozen? ⟨W.heap.size + 1 + 1, 1, none⟩ = false := froz_of_blk HTC.out 1
      go_simp
      clear k5 f5
      refine hK.out _ _ trivial ?_
      clear hK K
      simp only [Act.put, List.setIfInBounds_toArray, List.set_cons_zero, List.set_cons_succ, Reg.Kept]
      refine Reg.G.done (by kernel_rfl) ?_
      go_wp2_with fail
      go_roundw
      case rel => exact ⟨k + 1, by go_num, by rw [List.length_map]; exact hlt, _, by rw [List.take_add_one, HNM.out]; exact HNX.out⟩
      case measure => simp [intOf]; omega
    · have k9 : ¬ ((k : Int) < (s.roles.length : Int)) := by omega
      go_wp2_with fail
      clear k9
      obtain ⟨v1, rfl⟩ : ∃ v', v' = v := ⟨_, rfl⟩
      have hke : k = s.roles.length := by omega
      obtain ⟨u2, rfl⟩ : ∃ w : World, w = wr := ⟨_, rfl⟩
      have HT2 : Hid (u2.heap[W.heap.size + 1 + 1]? = some (.cells ([.slice Ap s.parties.length cp, v1, Vw.nil, Vw.nil, Vw.nil] : List Value).toArray 45 (0, 0))) := HN.out.tbk
      have HS2 := HSk
      have HR2 := Lib.hid (HN.out.fr.blk HR1.out (by omega))
      have HB2 := HBk
      have HZ2 : Hid (W.heap.size + 3 ≤ u2.heap.size) := by have h1 := HN.out.fr.size; have h2 := HZ1.out; show _ ≤ _; omega
      have HV1 : Hid (u2.ownsRow u1.heap.size 9 1 v1 (s.roles.map Prod.fst).length ((s.roles.map Prod.fst).map sv)) := by
        have h := HN.out.own
        rw [hke, List.take_of_length_le (by rw [List.length_map]; exact Nat.le_refl _)] at h
        exact h
      have HW1 : Hid (W.heap.size + 3 ≤ u1.heap.size) := HZ1.out
      clear HSk HBk q1 k0 hk HN hlt HT1 HS1 HR1 HB1
      clear hke
      go_loopw [5] (fun iv wr => NRl u2.heap.size (W.heap.size + 1 + 1) 2 u2 [.slice Ap s.parties.length cp, v1, Vw.nil, Vw.nil, Vw.nil] (s.units.map Unit_.name) iv wr) (fun i _ => s.units.length - (intOf i).toNat)
      case atStart => exact ⟨0, rfl, Nat.zero_le _, Vw.nil, HT2.out, World.ownsRow_nil _ _ _ _, Fr.refl _ _⟩
      case round =>
        obtain ⟨k, rfl, hk, v, HN⟩ := hrel
        rw [List.length_map] at hk
        have HSk : Hid (wr.heap[W.heap.size]? = some (.cells (symc src wk H).toArray 39 (0, 0))) := HN.out.fr.blk HS2.out (by omega)
        have HBk : Hid (Below W.heap.size W wr) := HB2.out.trans (HN.out.fr.below HB2.out.size (fun k h => by omega))
        have q1 : wr.cell? ⟨W.heap.size, 15, none⟩ = some (.slice Au s.units.length cu) := (cell_of_blk HSk.out 15).trans (congrArg some EU.out)
        have k0 : (0 : Int) ≤ (k : Int) := Int.natCast_nonneg _
        by_cases hlt : k < s.units.length
        · have hrow := HSY.out.uni
          rw [EU.out] at hrow
          obtain ⟨gx, ox, _, hda, hgl, _, _, hat⟩ := hrow.at (by intro e; rw [List.map_eq_nil_iff] at e; rw [e] at hlt; simp at hlt)
          have hA : Au = some ⟨gx, ox, none⟩ := by injection hda
          subst hA
          obtain ⟨x, hx⟩ : ∃ x, s.units[k]? = some x := ⟨_, List.getElem?_eq_getElem (by exact hlt)⟩
          obtain ⟨nm, hnm⟩ : ∃ nm, x.name = nm := ⟨_, rfl⟩
          have HC1 : Hid (wr.cell? ⟨gx, ox + k * 5, none⟩ = some (.string ⟨nm.toArray⟩)) := by
            have h := hat k _ (by rw [List.getElem?_map, hx]; rfl) 0 _ rfl
            rw [← hnm]
            exact (HBk.out.cell (p := ⟨gx, _, none⟩) hgl).trans h
          have HNM : Hid ((s.units.map Unit_.name)[k]? = some nm) := by show _ = _; rw [List.getElem?_map, hx, ← hnm]; rfl
          have HQ1 := Lib.hid q1
          have hk7 : k ≤ 1000000 := by omega
          clear hat hda hgl hx hnm hrow
          have k2 : (k : Int) < (s.units.length : Int) := by omega
          go_upto_region 10 with fail
          refine Reg.G.start (by kernel_rfl) ?_
          refine' Reg.G.pure (i := 0) (v := _) rfl (by rfl) (by kernel_rfl) (by kernel_rfl) (by kernel_rfl) (fun _ _ _ h => h) ?hyr10_0 ?rer10_0
          case hyr10_0 => exact fun w => by first | (go_simp; done) | (go_simp; with_reducible rfl)
          simp only [Act.put, List.setIfInBounds_toArray, List.set_cons_zero, List.set_cons_succ]
          refine' Reg.G.take (i := 1) (v := _) (F := (fun w => w.cell? ⟨W.heap.size + 1 + 1, 2, none⟩ = some v)) rfl (by rfl) (by kernel_rfl) (by kernel_rfl) (by kernel_rfl) (fun _ _ _ h => h) ((cell_of_blk HN.out.tbk 2).trans rfl) ?hyr10_1 ?rer10_1
          case hyr10_1 => intro w hw; first | (go_simp; done) | (go_simp; with_reducible rfl)
          simp only [Act.put, List.setIfInBounds_toArray, List.set_cons_zero, List.set_cons_succ]
          refine' Reg.G.pure (i := 2) (v := _) rfl (by rfl) (by kernel_rfl) (by kernel_rfl) (by kernel_rfl) (fun _ _ _ h => h) ?hyr10_2 ?rer10_2
          case hyr10_2 => exact fun w => by first | (go_simp; done) | (go_simp; with_reducible rfl)
          simp only [Act.put, List.setIfInBounds_toArray, List.set_cons_zero, List.set_cons_succ]
          refine' Reg.G.take (i := 3) (v := _) (F := (fun w => w.cell? ⟨W.heap.size, 15, none⟩ = some (.slice (some ⟨gx, ox, none⟩) s.units.length cu))) rfl (by rfl) (by kernel_rfl) (by kernel_rfl) (by kernel_rfl) (fun _ _ _ h => h) (HQ1.out) ?hyr10_3 ?rer10_3
          case hyr10_3 => intro w hw; first | (go_simp; done) | (go_simp; with_reducible rfl)
          simp only [Act.put, List.setIfInBounds_toArray, List.set_cons_zero, List.set_cons_succ]
          refine' Reg.G.pure (i := 4) (v := _) rfl (by rfl) (by kernel_rfl) (by kernel_rfl) (by kernel_rfl) (fun _ _ _ h => h) ?hyr10_4 ?rer10_4
          case hyr10_4 => exact fun w => by first | (go_simp; done) | (go_simp; with_reducible rfl)
          simp only [Act.put, List.setIfInBounds_toArray, List.set_cons_zero, List.set_cons_succ]
          refine' Reg.G.pure (i := 5) (v := _) rfl (by rfl) (by kernel_rfl) (by kernel_rfl) (by kernel_rfl) (fun _ _ _ h => h) ?hyr10_5 ?rer10_5
          case hyr10_5 => exact fun w => by first | (go_simp; done) | (go_simp; with_reducible rfl)
          simp only [Act.put, List.setIfInBounds_toArray, List.set_cons_zero, List.set_cons_succ]
          refine' Reg.G.pure (i := 6) (v := _) rfl (by rfl) (by kernel_rfl) (by kernel_rfl) (by kernel_rfl) (fun _ _ _ h => h) ?hyr10_6 ?rer10_6
          case hyr10_6 => exact fun w => by first | (go_simp; done) | (go_simp; with_reducible rfl)
          simp only [Act.put, List.setIfInBounds_toArray, List.set_cons_zero, List.set_cons_succ]
          refine' Reg.G.take (i := 7) (v := _) (F := (fun w => w.cell? ⟨gx, ox + k * 5, none⟩ = some (.string ⟨nm.toArray⟩))) rfl (by rfl) (by kernel_rfl) (by kernel_rfl) (by kernel_rfl) (fun _ _ _ h => h) (HC1.out) ?hyr10_7 ?rer10_7
          case hyr10_7 => intro w hw; first | (go_simp; done) | (go_simp; with_reducible rfl)
          simp only [Act.put, List.setIfInBounds_toArray, List.set_cons_zero, List.set_cons_succ]
          refine Reg.G.step (j := 8) (m := [false, false, true]) [7, 3, 1] rfl (by kernel_rfl) rfl (by kernel_rfl) (fun K hK => ?_)
          -- Op.buildSlice 33 1 #[(0, t43)]
          rw [if_pos (by rfl)]
          refine wp_builtT nm _ rfl (by rfl) ?_
          obtain ⟨wa, hwa⟩ : ∃ v, (wr.drew).alloc (.cells #[.string ⟨nm.toArray⟩] 9) = v := ⟨_, rfl⟩
          rw [hwa]
          have HFA : Hid (Fr (fun _ => False) wr wa) := by rw [← hwa]; exact (Fr.refl _ wr).drew.alloc _
          have HKE : Hid (((s.units.map Unit_.name).take k).length = k) := by show _ = _; rw [List.length_take, List.length_map]; omega
          have HOA : Hid (wa.ownsRow u2.heap.size 9 1 v k (((s.units.map Unit_.name).take k).map sv)) := by have h := own_fr HN.out.own HFA.out (fun _ _ _ h => h); rw [HKE.out] at h; exact h
          have HNA : Hid (∀ j u, ([.string ⟨nm.toArray⟩] : List Value)[j]? = some u → wa.cell? ((⟨wr.heap.size, 0, none⟩ : Addr).add j) = some u) := by rw [← hwa]; exact World.news_of_block (cs := #[.string ⟨nm.toArray⟩]) (t := 9) (fr := (0, 0)) (heap_alloc_new wr.drew _)
          have HSA : Hid (wa.heap.size = wr.heap.size + 1) := by show _ = _; rw [← hwa]; simp
          clear hwa
          refine hK.out _ _ ⟨(cell_of_blk (HFA.out.blk HN.out.tbk (fun h => h)) 2).trans rfl, trivial⟩ ?_
          clear hK K
          simp only [Act.put, List.setIfInBounds_toArray, List.set_cons_zero, List.set_cons_succ, Reg.Kept]
          refine Reg.G.step (j := 9) (m := [false]) [1] rfl (by kernel_rfl) rfl (by kernel_rfl) (fun K hK => ?_)
          -- Op.call { callee := Callee.builtin Builtin.append, args := #[t37, t44], argTypes := #[33, 33] }
          rw [if_pos (by rfl)]
          refine wp_append_lies wa (.tmp 37) (.tmp 44) 33 rfl u2.heap.size 9 i0 _ 1 16 Tryd.underlying33 hi hz0 hz1 hz2 rfl (by decide) v k (((s.units.map Unit_.name).take k).map sv) (by rfl) HOA.out ⟨wr.heap.size, 0, none⟩ 1 1 [.string ⟨nm.toArray⟩] (by rfl) rfl HNA.out (by simp [Value.oneCell']) (by decide) (by simp only [maxLen]; omega) (by omega) (by have h1 := HN.out.fr.size; have h2 := HSA.out; omega) (wr.heap.size + 1) HSA.out ?_
          intro gn cn wc g1 g2 g3 _
          have HNX : Hid (NSt u2.heap.size (W.heap.size + 1 + 1) 2 u2 [.slice Ap s.parties.length cp, v1, Vw.nil, Vw.nil, Vw.nil] (.slice (some ⟨gn, 0, none⟩) (k + 1) cn) ((s.units.map Unit_.name).take k ++ [nm]) (wc.setCell ⟨W.heap.size + 1 + 1, 2, none⟩ (.slice (some ⟨gn, 0, none⟩) (k + 1) cn))) := by
            have h := HN.out.step (gn := gn) (cn := cn) (n := nm) (Nat.le_refl _) (by have := HZ2.out; omega) HFA.out (by rw [HKE.out]; exact g1) g2 (fun j hj => (own_lt HN.out.own j hj).1)
            rw [HKE.out] at h
            exact h
          have HTC : Hid (wc.heap[W.heap.size + 1 + 1]? = some (.cells ([.slice Ap s.parties.length cp, v1, Vw.nil, Vw.nil, Vw.nil].set 2 v).toArray 45 (0, 0))) := (Fr.of_grown g2).blk (HFA.out.blk HN.out.tbk (fun h => h)) (fun h => by have h1 := (own_lt HN.out.own _ h).1; have h2 := HZ2.out; omega)
          clear g1 g2 g3
          refine hK.out _ _ trivial ?_
          clear hK K
          simp only [Act.put, List.setIfInBounds_toArray, List.set_cons_zero, List.set_cons_succ, Reg.Kept]
          refine' Reg.G.pure (i := 10) (v := _) rfl (by rfl) (by kernel_rfl) (by kernel_rfl) (by kernel_rfl) (fun _ _ _ h => h) ?hyr10_10 ?rer10_10
          case hyr10_10 => exact fun w => by first | (go_simp; done) | (go_simp; with_reducible rfl)
          simp only [Act.put, List.setIfInBounds_toArray, List.set_cons_zero, List.set_cons_succ]
          refine Reg.G.step (j := 11) (m := []) [] rfl (by kernel_rfl) rfl (by kernel_rfl) (fun K hK => ?_)
          -- Op.store 33 (t46) (t45)
          have k5 : wc.cell? ⟨W.heap.size + 1 + 1, 2, none⟩ = some v := (cell_of_blk HTC.out 2).trans rfl
          have f5 : wc.frozen? ⟨W.heap.size + 1 + 1, 2, none⟩ = false := froz_of_blk HTC.out 2
          go_simp
          clear k5 f5
          refine hK.out _ _ trivial ?_
          clear hK K
          simp only [Act.put, List.setIfInBounds_toArray, List.set_cons_zero, List.set_cons_succ, Reg.Kept]
          refine Reg.G.done (by kernel_rfl) ?_
          go_wp2_with fail
          go_roundw
          case rel => exact ⟨k + 1, by go_num, by rw [List.length_map]; exact hlt, _, by rw [List.take_add_one, HNM.out]; exact HNX.out⟩
          case measure => simp [intOf]; omega
        · have k9 : ¬ ((k : Int) < (s.units.length : Int)) := by omega
          go_wp2_with fail
          clear k9
          obtain ⟨v2, rfl⟩ : ∃ v', v' = v := ⟨_, rfl⟩
          have hke : k = s.units.length := by omega
          obtain ⟨u3, rfl⟩ : ∃ w : World, w = wr := ⟨_, rfl⟩
          have HT3 : Hid (u3.heap[W.heap.size + 1 + 1]? = some (.cells ([.slice Ap s.parties.length cp, v1, v2, Vw.nil, Vw.nil] : List Value).toArray 45 (0, 0))) := HN.out.tbk
          have HS3 := HSk
          have HR3 := Lib.hid (HN.out.fr.blk HR2.out (by omega))
          have HB3 := HBk
          have HZ3 : Hid (W.heap.size + 3 ≤ u3.heap.size) := by have h1 := HN.out.fr.size; have h2 := HZ2.out; show _ ≤ _; omega
          have HV2 : Hid (u3.ownsRow u2.heap.size 9 1 v2 (s.units.map Unit_.name).length ((s.units.map Unit_.name).map sv)) := by
            have h := HN.out.own
            rw [hke, List.take_of_length_le (by rw [List.length_map]; exact Nat.le_refl _)] at h
            exact h
          have HW2 : Hid (W.heap.size + 3 ≤ u2.heap.size) := HZ2.out
          have HV1 : Hid (u3.ownsRow u1.heap.size 9 1 v1 (s.roles.map Prod.fst).length ((s.roles.map Prod.fst).map sv)) := own_fr HV1.out HN.out.fr (fun j hj _ e => by have := HW1.out; omega)
          clear HSk HBk q1 k0 hk HN hlt HT2 HS2 HR2 HB2
          clear hke
          go_loopw [6] (fun iv wr => NRl u3.heap.size (W.heap.size + 1 + 1) 3 u3 [.slice Ap s.parties.length cp, v1, v2, Vw.nil, Vw.nil] (s.acts.map ActSym.name) iv wr) (fun i _ => s.acts.length - (intOf i).toNat)
          case atStart => exact ⟨0, rfl, Nat.zero_le _, Vw.nil, HT3.out, World.ownsRow_nil _ _ _ _, Fr.refl _ _⟩
          case round =>
            obtain ⟨k, rfl, hk, v, HN⟩ := hrel
            rw [List.length_map] at hk
            have HSk : Hid (wr.heap[W.heap.size]? = some (.cells (symc src wk H).toArray 39 (0, 0))) := HN.out.fr.blk HS3.out (by omega)
            have HBk : Hid (Below W.heap.size W wr) := HB3.out.trans (HN.out.fr.below HB3.out.size (fun k h => by omega))
            have q1 : wr.cell? ⟨W.heap.size, 16, none⟩ = some (.slice Aa s.acts.length ca) := (cell_of_blk HSk.out 16).trans (congrArg some EA.out)
            have k0 : (0 : Int) ≤ (k : Int) := Int.natCast_nonneg _
            by_cases hlt : k < s.acts.length
            · have hrow := HSY.out.act
              rw [EA.out] at hrow
              obtain ⟨gx, ox, _, hda, hgl, _, _, hat⟩ := hrow.at (by intro e; rw [List.map_eq_nil_iff] at e; rw [e] at hlt; simp at hlt)
              have hA : Aa = some ⟨gx, ox, none⟩ := by injection hda
              subst hA
              obtain ⟨x, hx⟩ : ∃ x, s.acts[k]? = some x := ⟨_, List.getElem?_eq_getElem (by exact hlt)⟩
              obtain ⟨nm, hnm⟩ : ∃ nm, x.name = nm := ⟨_, rfl⟩
              have HC1 : Hid (wr.cell? ⟨gx, ox + k * 9, none⟩ = some (.string ⟨nm.toArray⟩)) := by
                have h := hat k _ (by rw [List.getElem?_map, hx]; rfl) 0 _ rfl
                rw [← hnm]
                exact (HBk.out.cell (p := ⟨gx, _, none⟩) hgl).trans h
              have HNM : Hid ((s.acts.map ActSym.name)[k]? = some nm) := by show _ = _; rw [List.getElem?_map, hx, ← hnm]; rfl
              have HQ1 := Lib.hid q1
              have hk7 : k ≤ 1000000 := by omega
              clear hat hda hgl hx hnm hrow
              have k2 : (k : Int) < (s.acts.length : Int) := by omega
              go_upto_region 14 with fail
              refine Reg.G.start (by kernel_rfl) ?_
              refine' Reg.G.pure (i := 0) (v := _) rfl (by rfl) (by kernel_rfl) (by kernel_rfl) (by kernel_rfl) (fun _ _ _ h => h) ?hyr14_0 ?rer14_0
              case hyr14_0 => exact fun w => by first | (go_simp; done) | (go_simp; with_reducible rfl)
              simp only [Act.put, List.setIfInBounds_toArray, List.set_cons_zero, List.set_cons_succ]
              refine' Reg.G.take (i := 1) (v := _) (F := (fun w => w.cell? ⟨W.heap.size + 1 + 1, 3, none⟩ = some v)) rfl (by rfl) (by kernel_rfl) (by kernel_rfl) (by kernel_rfl) (fun _ _ _ h => h) ((cell_of_blk HN.out.tbk 3).trans rfl) ?hyr14_1 ?rer14_1
              case hyr14_1 => intro w hw; first | (go_simp; done) | (go_simp; with_reducible rfl)
              simp only [Act.put, List.setIfInBounds_toArray, List.set_cons_zero, List.set_cons_succ]
              refine' Reg.G.pure (i := 2) (v := _) rfl (by rfl) (by kernel_rfl) (by kernel_rfl) (by kernel_rfl) (fun _ _ _ h => h) ?hyr14_2 ?rer14_2
              case hyr14_2 => exact fun w => by first | (go_simp; done) | (go_simp; with_reducible rfl)
              simp only [Act.put, List.setIfInBounds_toArray, List.set_cons_zero, List.set_cons_succ]
              refine' Reg.G.take (i := 3) (v := _) (F := (fun w => w.cell? ⟨W.heap.size, 16, none⟩ = some (.slice (some ⟨gx, ox, none⟩) s.acts.length ca))) rfl (by rfl) (by kernel_rfl) (by kernel_rfl) (by kernel_rfl) (fun _ _ _ h => h) (HQ1.out) ?hyr14_3 ?rer14_3
              case hyr14_3 => intro w hw; first | (go_simp; done) | (go_simp; with_reducible rfl)
              simp only [Act.put, List.setIfInBounds_toArray, List.set_cons_zero, List.set_cons_succ]
              refine' Reg.G.pure (i := 4) (v := _) rfl (by rfl) (by kernel_rfl) (by kernel_rfl) (by kernel_rfl) (fun _ _ _ h => h) ?hyr14_4 ?rer14_4
              case hyr14_4 => exact fun w => by first | (go_simp; done) | (go_simp; with_reducible rfl)
              simp only [Act.put, List.setIfInBounds_toArray, List.set_cons_zero, List.set_cons_succ]
              refine' Reg.G.pure (i := 5) (v := _) rfl (by rfl) (by kernel_rfl) (by kernel_rfl) (by kernel_rfl) (fun _ _ _ h => h) ?hyr14_5 ?rer14_5
              case hyr14_5 => exact fun w => by first | (go_simp; done) | (go_simp; with_reducible rfl)
              simp only [Act.put, List.setIfInBounds_toArray, List.set_cons_zero, List.set_cons_succ]
              refine' Reg.G.pure (i := 6) (v := _) rfl (by rfl) (by kernel_rfl) (by kernel_rfl) (by kernel_rfl) (fun _ _ _ h => h) ?hyr14_6 ?rer14_6
              case hyr14_6 => exact fun w => by first | (go_simp; done) | (go_simp; with_reducible rfl)
              simp only [Act.put, List.setIfInBounds_toArray, List.set_cons_zero, List.set_cons_succ]
              refine' Reg.G.take (i := 7) (v := _) (F := (fun w => w.cell? ⟨gx, ox + k * 9, none⟩ = some (.string ⟨nm.toArray⟩))) rfl (by rfl) (by kernel_rfl) (by kernel_rfl) (by kernel_rfl) (fun _ _ _ h => h) (HC1.out) ?hyr14_7 ?rer14_7
              case hyr14_7 => intro w hw; first | (go_simp; done) | (go_simp; with_reducible rfl)
              simp only [Act.put, List.setIfInBounds_toArray, List.set_cons_zero, List.set_cons_succ]
              refine Reg.G.step (j := 8) (m := [false, false, true]) [7, 3, 1] rfl (by kernel_rfl) rfl (by kernel_rfl) (fun K hK => ?_)
              -- Op.buildSlice 33 1 #[(0, t61)]
              rw [if_pos (by rfl)]
              refine wp_builtT nm _ rfl (by rfl) ?_
              obtain ⟨wa, hwa⟩ : ∃ v, (wr.drew).alloc (.cells #[.string ⟨nm.toArray⟩] 9) = v := ⟨_, rfl⟩
              rw [hwa]
              have HFA : Hid (Fr (fun _ => False) wr wa) := by rw [← hwa]; exact (Fr.refl _ wr).drew.alloc _
              have HKE : Hid (((s.acts.map ActSym.name).take k).length = k) := by show _ = _; rw [List.length_take, List.length_map]; omega
              have HOA : Hid (wa.ownsRow u3.heap.size 9 1 v k (((s.acts.map ActSym.name).take k).map sv)) := by have h := own_fr HN.out.own HFA.out (fun _ _ _ h => h); rw [HKE.out] at h; exact h
              have HNA : Hid (∀ j u, ([.string ⟨nm.toArray⟩] : List Value)[j]? = some u → wa.cell? ((⟨wr.heap.size, 0, none⟩ : Addr).add j) = some u) := by rw [← hwa]; exact World.news_of_block (cs := #[.string ⟨nm.toArray⟩]) (t := 9) (fr := (0, 0)) (heap_alloc_new wr.drew _)
              have HSA : Hid (wa.heap.size = wr.heap.size + 1) := by show _ = _; rw [← hwa]; simp
              clear hwa
              refine hK.out _ _ ⟨(cell_of_blk (HFA.out.blk HN.out.tbk (fun h => h)) 3).trans rfl, trivial⟩ ?_
              clear hK K
              simp only [Act.put, List.setIfInBounds_toArray, List.set_cons_zero, List.set_cons_succ, Reg.Kept]
              refine Reg.G.step (j := 9) (m := [false]) [1] rfl (by kernel_rfl) rfl (by kernel_rfl) (fun K hK => ?_)
              -- Op.call { callee := Callee.builtin Builtin.append, args := #[t55, t62], argTypes := #[33, 33] }
              rw [if_pos (by rfl)]
              refine wp_append_lies wa (.tmp 55) (.tmp 62) 33 rfl u3.heap.size 9 i0 _ 1 16 Tryd.underlying33 hi hz0 hz1 hz2 rfl (by decide) v k (((s.acts.map ActSym.name).take k).map sv) (by rfl) HOA.out ⟨wr.heap.size, 0, none⟩ 1 1 [.string ⟨nm.toArray⟩] (by rfl) rfl HNA.out (by simp [Value.oneCell']) (by decide) (by simp only [maxLen]; omega) (by omega) (by have h1 := HN.out.fr.size; have h2 := HSA.out; omega) (wr.heap.size + 1) HSA.out ?_
              intro gn cn wc g1 g2 g3 _
              have HNX : Hid (NSt u3.heap.size (W.heap.size + 1 + 1) 3 u3 [.slice Ap s.parties.length cp, v1, v2, Vw.nil, Vw.nil] (.slice (some ⟨gn, 0, none⟩) (k + 1) cn) ((s.acts.map ActSym.name).take k ++ [nm]) (wc.setCell ⟨W.heap.size + 1 + 1, 3, none⟩ (.slice (some ⟨gn, 0, none⟩) (k + 1) cn))) := by
                have h := HN.out.step (gn := gn) (cn := cn) (n := nm) (Nat.le_refl _) (by have := HZ3.out; omega) HFA.out (by rw [HKE.out]; exact g1) g2 (fun j hj => (own_lt HN.out.own j hj).1)
                rw [HKE.out] at h
                exact h
              have HTC : Hid (wc.heap[W.heap.size + 1 + 1]? = some (.cells ([.slice Ap s.parties.length cp, v1, v2, Vw.nil, Vw.nil].set 3 v).toArray 45 (0, 0))) := (Fr.of_grown g2).blk (HFA.out.blk HN.out.tbk (fun h => h)) (fun h => by have h1 := (own_lt HN.out.own _ h).1; have h2 := HZ3.out; omega)
              clear g1 g2 g3
              refine hK.out _ _ trivial ?_
              clear hK K
              simp only [Act.put, List.setIfInBounds_toArray, List.set_cons_zero, List.set_cons_succ, Reg.Kept]
              refine' Reg.G.pure (i := 10) (v := _) rfl (by rfl) (by kernel_rfl) (by kernel_rfl) (by kernel_rfl) (fun _ _ _ h => h) ?hyr14_10 ?rer14_10
              case hyr14_10 => exact fun w => by first | (go_simp; done) | (go_simp; with_reducible rfl)
              simp only [Act.put, List.setIfInBounds_toArray, List.set_cons_zero, List.set_cons_succ]
              refine Reg.G.step (j := 11) (m := []) [] rfl (by kernel_rfl) rfl (by kernel_rfl) (fun K hK => ?_)
              -- Op.store 33 (t64) (t63)
              have k5 : wc.cell? ⟨W.heap.size + 1 + 1, 3, none⟩ = some v := (cell_of_blk HTC.out 3).trans rfl
              have f5 : wc.frozen? ⟨W.heap.size + 1 + 1, 3, none⟩ = false := froz_of_blk HTC.out 3
              go_simp
              clear k5 f5
              refine hK.out _ _ trivial ?_
              clear hK K
              simp only [Act.put, List.setIfInBounds_toArray, List.set_cons_zero, List.set_cons_succ, Reg.Kept]
              refine Reg.G.done (by kernel_rfl) ?_
              go_wp2_with fail
              go_roundw
              case rel => exact ⟨k + 1, by go_num, by rw [List.length_map]; exact hlt, _, by rw [List.take_add_one, HNM.out]; exact HNX.out⟩
              case measure => simp [intOf]; omega
            · have k9 : ¬ ((k : Int) < (s.acts.length : Int)) := by omega
              go_wp2_with fail
              clear k9
              obtain ⟨v3, rfl⟩ : ∃ v', v' = v := ⟨_, rfl⟩
              have hke : k = s.acts.length := by omega
              obtain ⟨u4, rfl⟩ : ∃ w : World, w = wr := ⟨_, rfl⟩
              have HT4 : Hid (u4.heap[W.heap.size + 1 + 1]? = some (.cells ([.slice Ap s.parties.length cp, v1, v2, v3, Vw.nil] : List Value).toArray 45 (0, 0))) := HN.out.tbk
              have HS4 := HSk
              have HR4 := Lib.hid (HN.out.fr.blk HR3.out (by omega))
              have HB4 := HBk
              have HZ4 : Hid (W.heap.size + 3 ≤ u4.heap.size) := by have h1 := HN.out.fr.size; have h2 := HZ3.out; show _ ≤ _; omega
              have HV3 : Hid (u4.ownsRow u3.heap.size 9 1 v3 (s.acts.map ActSym.name).length ((s.acts.map ActSym.name).map sv)) := by
                have h := HN.out.own
                rw [hke, List.take_of_length_le (by rw [List.length_map]; exact Nat.le_refl _)] at h
                exact h
              have HW3 : Hid (W.heap.size + 3 ≤ u3.heap.size) := HZ3.out
              have HV1 : Hid (u4.ownsRow u1.heap.size 9 1 v1 (s.roles.map Prod.fst).length ((s.roles.map Prod.fst).map sv)) := own_fr HV1.out HN.out.fr (fun j hj _ e => by have := HW1.out; omega)
              have HV2 : Hid (u4.ownsRow u2.heap.size 9 1 v2 (s.units.map Unit_.name).length ((s.units.map Unit_.name).map sv)) := own_fr HV2.out HN.out.fr (fun j hj _ e => by have := HW2.out; omega)
              clear HSk HBk q1 k0 hk HN hlt HT3 HS3 HR3 HB3
              clear hke
              go_loopw [7] (fun iv wr => NRl u4.heap.size (W.heap.size + 1 + 1) 4 u4 [.slice Ap s.parties.length cp, v1, v2, v3, Vw.nil] (s.clauses.map ClauseSym.name) iv wr) (fun i _ => s.clauses.length - (intOf i).toNat)
              case atStart => exact ⟨0, rfl, Nat.zero_le _, Vw.nil, HT4.out, World.ownsRow_nil _ _ _ _, Fr.refl _ _⟩
              case round =>
                obtain ⟨k, rfl, hk, v, HN⟩ := hrel
                rw [List.length_map] at hk
                have HSk : Hid (wr.heap[W.heap.size]? = some (.cells (symc src wk H).toArray 39 (0, 0))) := HN.out.fr.blk HS4.out (by omega)
                have HBk : Hid (Below W.heap.size W wr) := HB4.out.trans (HN.out.fr.below HB4.out.size (fun k h => by omega))
                have q1 : wr.cell? ⟨W.heap.size, 17, none⟩ = some (.slice Ac s.clauses.length cc) := (cell_of_blk HSk.out 17).trans (congrArg some EC.out)
                have k0 : (0 : Int) ≤ (k : Int) := Int.natCast_nonneg _
                by_cases hlt : k < s.clauses.length
                · have hrow := HSY.out.cla
                  rw [EC.out] at hrow
                  obtain ⟨gx, ox, _, hda, hgl, _, _, hat⟩ := hrow.at (by intro e; rw [List.map_eq_nil_iff] at e; have h := HCL.out; rw [e] at h; simp at h; omega)
                  have hA : Ac = some ⟨gx, ox, none⟩ := by injection hda
                  subst hA
                  obtain ⟨x, hx⟩ : ∃ x, cl[k]? = some x := ⟨_, List.getElem?_eq_getElem (by have := HCL.out; omega)⟩
                  obtain ⟨nm, hnm⟩ : ∃ nm, x.1.name = nm := ⟨_, rfl⟩
                  have HC1 : Hid (wr.cell? ⟨gx, ox + k * 24, none⟩ = some (.string ⟨nm.toArray⟩)) := by
                    have h := hat k _ (by rw [List.getElem?_map, hx]; rfl) 0 _ rfl
                    rw [← hnm]
                    exact (HBk.out.cell (p := ⟨gx, _, none⟩) hgl).trans h
                  have HNM : Hid ((s.clauses.map ClauseSym.name)[k]? = some nm) := by show _ = _; rw [← HSY.out.cls, List.map_map, List.getElem?_map, hx, ← hnm]; rfl
                  have HQ1 := Lib.hid q1
                  have hk7 : k ≤ 1000000 := by omega
                  clear hat hda hgl hx hnm hrow
                  have k2 : (k : Int) < (s.clauses.length : Int) := by omega
                  go_upto_region 18 with fail
                  refine Reg.G.start (by kernel_rfl) ?_
                  refine' Reg.G.pure (i := 0) (v := _) rfl (by rfl) (by kernel_rfl) (by kernel_rfl) (by kernel_rfl) (fun _ _ _ h => h) ?hyr18_0 ?rer18_0
                  case hyr18_0 => exact fun w => by first | (go_simp; done) | (go_simp; with_reducible rfl)
                  simp only [Act.put, List.setIfInBounds_toArray, List.set_cons_zero, List.set_cons_succ]
                  refine' Reg.G.take (i := 1) (v := _) (F := (fun w => w.cell? ⟨W.heap.size + 1 + 1, 4, none⟩ = some v)) rfl (by rfl) (by kernel_rfl) (by kernel_rfl) (by kernel_rfl) (fun _ _ _ h => h) ((cell_of_blk HN.out.tbk 4).trans rfl) ?hyr18_1 ?rer18_1
                  case hyr18_1 => intro w hw; first | (go_simp; done) | (go_simp; with_reducible rfl)
                  simp only [Act.put, List.setIfInBounds_toArray, List.set_cons_zero, List.set_cons_succ]
                  refine' Reg.G.pure (i := 2) (v := _) rfl (by rfl) (by kernel_rfl) (by kernel_rfl) (by kernel_rfl) (fun _ _ _ h => h) ?hyr18_2 ?rer18_2
                  case hyr18_2 => exact fun w => by first | (go_simp; done) | (go_simp; with_reducible rfl)
                  simp only [Act.put, List.setIfInBounds_toArray, List.set_cons_zero, List.set_cons_succ]
                  refine' Reg.G.take (i := 3) (v := _) (F := (fun w => w.cell? ⟨W.heap.size, 17, none⟩ = some (.slice (some ⟨gx, ox, none⟩) s.clauses.length cc))) rfl (by rfl) (by kernel_rfl) (by kernel_rfl) (by kernel_rfl) (fun _ _ _ h => h) (HQ1.out) ?hyr18_3 ?rer18_3
                  case hyr18_3 => intro w hw; first | (go_simp; done) | (go_simp; with_reducible rfl)
                  simp only [Act.put, List.setIfInBounds_toArray, List.set_cons_zero, List.set_cons_succ]
                  refine' Reg.G.pure (i := 4) (v := _) rfl (by rfl) (by kernel_rfl) (by kernel_rfl) (by kernel_rfl) (fun _ _ _ h => h) ?hyr18_4 ?rer18_4
                  case hyr18_4 => exact fun w => by first | (go_simp; done) | (go_simp; with_reducible rfl)
                  simp only [Act.put, List.setIfInBounds_toArray, List.set_cons_zero, List.set_cons_succ]
                  refine' Reg.G.pure (i := 5) (v := _) rfl (by rfl) (by kernel_rfl) (by kernel_rfl) (by kernel_rfl) (fun _ _ _ h => h) ?hyr18_5 ?rer18_5
                  case hyr18_5 => exact fun w => by first | (go_simp; done) | (go_simp; with_reducible rfl)
                  simp only [Act.put, List.setIfInBounds_toArray, List.set_cons_zero, List.set_cons_succ]
                  refine' Reg.G.pure (i := 6) (v := _) rfl (by rfl) (by kernel_rfl) (by kernel_rfl) (by kernel_rfl) (fun _ _ _ h => h) ?hyr18_6 ?rer18_6
                  case hyr18_6 => exact fun w => by first | (go_simp; done) | (go_simp; with_reducible rfl)
                  simp only [Act.put, List.setIfInBounds_toArray, List.set_cons_zero, List.set_cons_succ]
                  refine' Reg.G.take (i := 7) (v := _) (F := (fun w => w.cell? ⟨gx, ox + k * 24, none⟩ = some (.string ⟨nm.toArray⟩))) rfl (by rfl) (by kernel_rfl) (by kernel_rfl) (by kernel_rfl) (fun _ _ _ h => h) (HC1.out) ?hyr18_7 ?rer18_7
                  case hyr18_7 => intro w hw; first | (go_simp; done) | (go_simp; with_reducible rfl)
                  simp only [Act.put, List.setIfInBounds_toArray, List.set_cons_zero, List.set_cons_succ]
                  refine Reg.G.step (j := 8) (m := [false, false, true]) [7, 3, 1] rfl (by kernel_rfl) rfl (by kernel_rfl) (fun K hK => ?_)
                  -- Op.buildSlice 33 1 #[(0, t79)]
                  rw [if_pos (by rfl)]
                  refine wp_builtT nm _ rfl (by rfl) ?_
                  obtain ⟨wa, hwa⟩ : ∃ v, (wr.drew).alloc (.cells #[.string ⟨nm.toArray⟩] 9) = v := ⟨_, rfl⟩
                  rw [hwa]
                  have HFA : Hid (Fr (fun _ => False) wr wa) := by rw [← hwa]; exact (Fr.refl _ wr).drew.alloc _
                  have HKE : Hid (((s.clauses.map ClauseSym.name).take k).length = k) := by show _ = _; rw [List.length_take, List.length_map]; omega
                  have HOA : Hid (wa.ownsRow u4.heap.size 9 1 v k (((s.clauses.map ClauseSym.name).take k).map sv)) := by have h := own_fr HN.out.own HFA.out (fun _ _ _ h => h); rw [HKE.out] at h; exact h
                  have HNA : Hid (∀ j u, ([.string ⟨nm.toArray⟩] : List Value)[j]? = some u → wa.cell? ((⟨wr.heap.size, 0, none⟩ : Addr).add j) = some u) := by rw [← hwa]; exact World.news_of_block (cs := #[.string ⟨nm.toArray⟩]) (t := 9) (fr := (0, 0)) (heap_alloc_new wr.drew _)
                  have HSA : Hid (wa.heap.size = wr.heap.size + 1) := by show _ = _; rw [← hwa]; simp
                  clear hwa
                  refine hK.out _ _ ⟨(cell_of_blk (HFA.out.blk HN.out.tbk (fun h => h)) 4).trans rfl, trivial⟩ ?_
                  clear hK K
                  simp only [Act.put, List.setIfInBounds_toArray, List.set_cons_zero, List.set_cons_succ, Reg.Kept]
                  refine Reg.G.step (j := 9) (m := [false]) [1] rfl (by kernel_rfl) rfl (by kernel_rfl) (fun K hK => ?_)
                  -- Op.call { callee := Callee.builtin Builtin.append, args := #[t73, t80], argTypes := #[33, 33] }
                  rw [if_pos (by rfl)]
                  refine wp_append_lies wa (.tmp 73) (.tmp 80) 33 rfl u4.heap.size 9 i0 _ 1 16 Tryd.underlying33 hi hz0 hz1 hz2 rfl (by decide) v k (((s.clauses.map ClauseSym.name).take k).map sv) (by rfl) HOA.out ⟨wr.heap.size, 0, none⟩ 1 1 [.string ⟨nm.toArray⟩] (by rfl) rfl HNA.out (by simp [Value.oneCell']) (by decide) (by simp only [maxLen]; omega) (by omega) (by have h1 := HN.out.fr.size; have h2 := HSA.out; omega) (wr.heap.size + 1) HSA.out ?_
                  intro gn cn wc g1 g2 g3 _
                  have HNX : Hid (NSt u4.heap.size (W.heap.size + 1 + 1) 4 u4 [.slice Ap s.parties.length cp, v1, v2, v3, Vw.nil] (.slice (some ⟨gn, 0, none⟩) (k + 1) cn) ((s.clauses.map ClauseSym.name).take k ++ [nm]) (wc.setCell ⟨W.heap.size + 1 + 1, 4, none⟩ (.slice (some ⟨gn, 0, none⟩) (k + 1) cn))) := by
                    have h := HN.out.step (gn := gn) (cn := cn) (n := nm) (Nat.le_refl _) (by have := HZ4.out; omega) HFA.out (by rw [HKE.out]; exact g1) g2 (fun j hj => (own_lt HN.out.own j hj).1)
                    rw [HKE.out] at h
                    exact h
                  have HTC : Hid (wc.heap[W.heap.size + 1 + 1]? = some (.cells ([.slice Ap s.parties.length cp, v1, v2, v3, Vw.nil].set 4 v).toArray 45 (0, 0))) := (Fr.of_grown g2).blk (HFA.out.blk HN.out.tbk (fun h => h)) (fun h => by have h1 := (own_lt HN.out.own _ h).1; have h2 := HZ4.out; omega)
                  clear g1 g2 g3
                  refine hK.out _ _ trivial ?_
                  clear hK K
                  simp only [Act.put, List.setIfInBounds_toArray, List.set_cons_zero, List.set_cons_succ, Reg.Kept]
                  refine' Reg.G.pure (i := 10) (v := _) rfl (by rfl) (by kernel_rfl) (by kernel_rfl) (by kernel_rfl) (fun _ _ _ h => h) ?hyr18_10 ?rer18_10
                  case hyr18_10 => exact fun w => by first | (go_simp; done) | (go_simp; with_reducible rfl)
                  simp only [Act.put, List.setIfInBounds_toArray, List.set_cons_zero, List.set_cons_succ]
                  refine Reg.G.step (j := 11) (m := []) [] rfl (by kernel_rfl) rfl (by kernel_rfl) (fun K hK => ?_)
                  -- Op.store 33 (t82) (t81)
                  have k5 : wc.cell? ⟨W.heap.size + 1 + 1, 4, none⟩ = some v := (cell_of_blk HTC.out 4).trans rfl
                  have f5 : wc.frozen? ⟨W.heap.size + 1 + 1, 4, none⟩ = false := froz_of_blk HTC.out 4
                  go_simp
                  clear k5 f5
                  refine hK.out _ _ trivial ?_
                  clear hK K
                  simp only [Act.put, List.setIfInBounds_toArray, List.set_cons_zero, List.set_cons_succ, Reg.Kept]
                  refine Reg.G.done (by kernel_rfl) ?_
                  go_wp2_with fail
                  go_roundw
                  case rel => exact ⟨k + 1, by go_num, by rw [List.length_map]; exact hlt, _, by rw [List.take_add_one, HNM.out]; exact HNX.out⟩
                  case measure => simp [intOf]; omega
                · have k9 : ¬ ((k : Int) < (s.clauses.length : Int)) := by omega
                  go_upto_region 19 with fail
                  clear k9
                  obtain ⟨v4, rfl⟩ : ∃ v', v' = v := ⟨_, rfl⟩
                  have hke : k = s.clauses.length := by omega
                  obtain ⟨u5, rfl⟩ : ∃ w : World, w = wr := ⟨_, rfl⟩
                  have HT5 : Hid (u5.heap[W.heap.size + 1 + 1]? = some (.cells ([.slice Ap s.parties.length cp, v1, v2, v3, v4] : List Value).toArray 45 (0, 0))) := HN.out.tbk
                  have HS5 := HSk
                  have HR5 := Lib.hid (HN.out.fr.blk HR4.out (by omega))
                  have HB5 := HBk
                  have HZ5 : Hid (W.heap.size + 3 ≤ u5.heap.size) := by have h1 := HN.out.fr.size; have h2 := HZ4.out; show _ ≤ _; omega
                  have HV4 : Hid (u5.ownsRow u4.heap.size 9 1 v4 (s.clauses.map ClauseSym.name).length ((s.clauses.map ClauseSym.name).map sv)) := by
                    have h := HN.out.own
                    rw [hke, List.take_of_length_le (by rw [List.length_map]; exact Nat.le_refl _)] at h
                    exact h
                  have HW4 : Hid (W.heap.size + 3 ≤ u4.heap.size) := HZ4.out
                  have HV1 : Hid (u5.ownsRow u1.heap.size 9 1 v1 (s.roles.map Prod.fst).length ((s.roles.map Prod.fst).map sv)) := own_fr HV1.out HN.out.fr (fun j hj _ e => by have := HW1.out; omega)
                  have HV2 : Hid (u5.ownsRow u2.heap.size 9 1 v2 (s.units.map Unit_.name).length ((s.units.map Unit_.name).map sv)) := own_fr HV2.out HN.out.fr (fun j hj _ e => by have := HW2.out; omega)
                  have HV3 : Hid (u5.ownsRow u3.heap.size 9 1 v3 (s.acts.map ActSym.name).length ((s.acts.map ActSym.name).map sv)) := own_fr HV3.out HN.out.fr (fun j hj _ e => by have := HW3.out; omega)
                  clear HSk HBk q1 k0 hk HN hlt HT4 HS4 HR4 HB4
                  have HVS : Hid (([.slice Ap s.parties.length cp, v1, v2, v3, v4] : List Value).toArray.all (·.oneCell') = true) := by
                    obtain ⟨_, _, e1⟩ := own_form HV1.out
                    obtain ⟨_, _, e2⟩ := own_form HV2.out
                    obtain ⟨_, _, e3⟩ := own_form HV3.out
                    obtain ⟨_, _, e4⟩ := own_form HV4.out
                    show _ = _
                    rw [e1, e2, e3, e4]; simp [Value.oneCell']
                  iterate 1 go_step
                  refine wpList_load_mid rfl 45 _ rfl (W.heap.size + 1 + 1) 0 rfl [.slice Ap s.parties.length cp, v1, v2, v3, v4] _ (range_of_blk HT5.out) Tryd.underlying45 rfl (by kernel_rfl) ?_
                  simp only [Act.put, List.setIfInBounds_toArray, List.set_cons_zero, List.set_cons_succ]
                  refine wpList_store_row rfl 45 _ _ rfl (W.heap.size + 1) ([.slice Ap s.parties.length cp, v1, v2, v3, v4] : List Value).toArray rfl rfl 45 _ HR5.out (by kernel_rfl) rfl HVS.out ?_
                  simp only [Act.put, List.setIfInBounds_toArray, List.set_cons_zero, List.set_cons_succ]
                  obtain ⟨w9, hw9⟩ : ∃ w9, u5.setRow (W.heap.size + 1) ([.slice Ap s.parties.length cp, v1, v2, v3, v4] : List Value).toArray = w9 := ⟨_, rfl⟩
                  rw [hw9]
                  have hfr : Fr (fun j => j = W.heap.size + 1) u5 w9 := by rw [← hw9]; exact (Fr.refl (fun j => j = W.heap.size + 1) u5).setRow (.inl rfl) _
                  have HB9 : Hid (w9.heap[W.heap.size + 1]? = some (.cells ([.slice Ap s.parties.length cp, v1, v2, v3, v4] : List Value).toArray 45 (0, 0))) := by rw [← hw9]; exact blk_row HR5.out _
                  have HBW : Hid (Below W.heap.size W w9) := HB5.out.trans (hfr.below HB5.out.size (fun k h => by omega))
                  have HF9 := Lib.hid hfr
                  clear hw9 hfr
                  go_wp2_with fail
                  refine bodyPost_ret (v := .agg ([.slice Ap s.parties.length cp, v1, v2, v3, v4] : List Value).toArray) (results_blk Tryd.results16 rfl HB9.out Tryd.underlying45 rfl (by kernel_rfl)) rfl ⟨_, _, _, _, _, rfl, ?_, ?_, ?_, ?_, ?_, HBW.out⟩
                  · have h := HSY.out.par.below HBW.out
                    rw [EP.out] at h; exact h
                  · have h := Row.of_own (f := fun x => [sv x]) (l := (s.roles.map Prod.fst)) (by rw [flat_sv]; exact own_fr HV1.out HF9.out (fun k hk _ e => by have := HW1.out; omega)) (fun _ _ => rfl)
                    exact h
                  · have h := Row.of_own (f := fun x => [sv x]) (l := (s.units.map Unit_.name)) (by rw [flat_sv]; exact own_fr HV2.out HF9.out (fun k hk _ e => by have := HW2.out; omega)) (fun _ _ => rfl)
                    exact h
                  · have h := Row.of_own (f := fun x => [sv x]) (l := (s.acts.map ActSym.name)) (by rw [flat_sv]; exact own_fr HV3.out HF9.out (fun k hk _ e => by have := HW3.out; omega)) (fun _ _ => rfl)
                    exact h
                  · have h := Row.of_own (f := fun x => [sv x]) (l := (s.clauses.map ClauseSym.name)) (by rw [flat_sv]; exact own_fr HV4.out HF9.out (fun k hk _ e => by have := HW4.out; omega)) (fun _ _ => rfl)
                    exact h
end Go.Proofs.YtdhjibnkebbejaaDoor.Rs
