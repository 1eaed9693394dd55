/-
  What the law's function renamed returns: the items with the text behind their names, in rows of their own. Condition: at most 700 items, names that small allows, and no text longer than 2^47 bytes.
-/
import Derived.Test.YtdhjibnkebbejaaDoorResLawW
import Derived.Test.YtdhjibnkebbejaaDoorResNamed
namespace Go.Proofs.YtdhjibnkebbejaaDoor.Rs
open Go.RowKit Mem Vw
set_option linter.unusedVariables false
set_option linter.unusedSimpArgs false

/-- An item whose texts may be made longer. -/
structure RenB (x : Item) : Prop where
  sm : SmallI x
  sum : x.sum.length ≤ 140737488355328
  cnd : ∀ c ∈ x.conds, c.name.length ≤ 140737488355328
def rn0 (t : Bytes) (x : Item) : Item := x
def rn1 (t : Bytes) (x : Item) : Item := { rn0 t x with name := nm t x.name }
def rn2 (t : Bytes) (x : Item) : Item := { rn1 t x with of_ := nm t x.of_ }
def rn3 (t : Bytes) (x : Item) : Item := { rn2 t x with act := nm t x.act }
def rn4 (t : Bytes) (x : Item) : Item := { rn3 t x with by_ := nm t x.by_ }
def rn5 (t : Bytes) (x : Item) : Item := { rn4 t x with til := nm t x.til }
def rn6 (t : Bytes) (x : Item) : Item := { rn5 t x with unit := nm t x.unit }
def rn7 (t : Bytes) (x : Item) : Item := { rn6 t x with sum := nm t x.sum }
def rn8 (t : Bytes) (x : Item) : Item := { rn7 t x with give := nm t x.give }
def rn9 (t : Bytes) (x : Item) : Item := { rn8 t x with to_ := nm t x.to_ }
theorem rn_ren (t : Bytes) (x : Item) : ren t x = { rn9 t x with conds := x.conds.map (rcond t) } := rfl
def itemRow (vi : Value) (K : List (Item × Sl)) : OR := ⟨55, 33, vi, K.length, K.flatMap ic⟩
def condRow (p : Item × Sl) : OR := ⟨116, 2, p.2.1, p.1.conds.length, p.1.conds.flatMap namedc⟩
/-- A new item beside the one that it was made from. -/
structure Like (z : List (Item × Sl)) (p : Item × Sl) : Prop where
  like : ∃ q ∈ z, p.2.2 = q.2.2 ∧ p.1.dates = q.1.dates ∧ p.1.names = q.1.names
/-- What the loop over the items holds. -/
structure RSt (B tb : Nat) (src : Source) (u : World) (t : Bytes) (z : List (Item × Sl)) (k : Nat) (vi : Value) (K : List (Item × Sl)) (wr : World) : Prop where
  rows : ORs B wr (itemRow vi K :: K.map condRow)
  tbk : wr.heap[tb]? = some (.cells (scells src.name src.frm src.days vi).toArray 26 (0, 0))
  fr : Fr (fun k => k = tb) u wr
  eq : K.map Prod.fst = ((z.map Prod.fst).take k).map (ren t)
  like : ∀ p ∈ K, Like z p
def RRel (B tb : Nat) (src : Source) (u : World) (t : Bytes) (z : List (Item × Sl)) (ki : Value) (wr : World) : Prop := ∃ k : Nat, ki = .int .i64 (k : Int) ∧ k ≤ z.length ∧ ∃ vi K, Hid (RSt B tb src u t z k vi K wr)
/-- What the loop over an item's conditions holds. -/
structure CSt (b : Nat) (X : World) (t : Bytes) (cs : List Named) (k : Nat) (st : Value) (wr : World) : Prop where
  own : wr.ownsRow X.heap.size 116 2 st k (((cs.take k).map (rcond t)).flatMap namedc)
  fr : Fr (fun _ => False) X wr
def CRl (b : Nat) (X : World) (t : Bytes) (cs : List Named) (ki : Value) (st : Value) (wr : World) : Prop := ∃ (k : Nat) (sv' : Value), ki = .int .i64 (k : Int) ∧ sv' = st ∧ k ≤ cs.length ∧ Hid (CSt b X t cs k sv' wr)
theorem info_named : (Tryd.prog.info? 116).map (fun i => (i.zero, i.size, i.bytes)) = some (some (.agg #[.string ⟨#[]⟩, .int .i64 0]), 2, 24) := by kernel_rfl
theorem bsl_named (n : Bytes) (i : Int) (w : World) : (Instr.buildSlice 50 1 #[(0, .agg #[.string ⟨n.toArray⟩, .int .i64 i])]).run Tryd.prog w = .ok (.slice (some ⟨w.heap.size, 0, none⟩) 1 1) (w.alloc (.cells #[.string ⟨n.toArray⟩, .int .i64 i] 116)) := by kernel_rfl
theorem nm_len (t n : Bytes) : (nm t n).length ≤ n.length + t.length := by
  unfold nm
  split
  · simp
  · rw [List.length_append]; omega
theorem RSt.zero {B tb : Nat} {src : Source} {u : World} {t : Bytes} {z : List (Item × Sl)} (h : u.heap[tb]? = some (.cells (scells src.name src.frm src.days Vw.nil).toArray 26 (0, 0))) : RSt B tb src u t z 0 Vw.nil [] u := by
  refine ⟨⟨fun r hr => ?_, by simp⟩, h, Fr.refl _ u, rfl, fun p hp => absurd hp (List.not_mem_nil)⟩
  have hr2 : r = itemRow Vw.nil [] := by
    rcases List.mem_cons.1 hr with h | h
    · exact h
    · cases h
  subst hr2
  exact World.ownsRow_nil _ _ _ _
theorem RSt.lies {B tb : Nat} {src : Source} {u wr W : World} {t : Bytes} {z : List (Item × Sl)} {k : Nat} {vi v : Value} {K : List (Item × Sl)} (h : RSt B tb src u t z k vi K wr) (hz : Lies wr z v) : Lies wr K vi := by
  have h0 : wr.ownsRow B 55 33 vi K.length (K.flatMap ic) := h.rows.ok (itemRow vi K) (by simp)
  refine ⟨Row.of_own h0 (fun _ _ => rfl), fun p hp => ?_⟩
  obtain ⟨q, hq, h1, h2, h3⟩ := (h.like p hp).like
  have h4 : wr.ownsRow B 116 2 p.2.1 p.1.conds.length (p.1.conds.flatMap namedc) := h.rows.ok (condRow p) (List.mem_cons_of_mem _ (List.mem_map_of_mem hp))
  obtain ⟨hf, hs⟩ := hz.flat q hq
  refine ⟨⟨Row.of_own h4 (fun _ _ => rfl), ?_, ?_⟩, ?_⟩
  · rw [h1, h2]; exact hf.dates
  · rw [h1, h3]; exact hf.names
  · rw [h1]; exact hs
/-- An item is appended; its conditions lie in a row behind X. -/
theorem RSt.step {B tb : Nat} {src : Source} {u wr X wa wc : World} {t : Bytes} {z : List (Item × Sl)} {k : Nat} {vi : Value} {K : List (Item × Sl)} {p q : Item × Sl} (st : RSt B tb src u t z k vi K wr) (hB : u.heap.size = B) (ht : tb < B)
    (hX : Fr (fun _ => False) wr X) (hwa : ∃ X1 X2, Fr (fun _ => False) X X1 ∧ X1.ownsRow X.heap.size 116 2 p.2.1 p.1.conds.length (p.1.conds.flatMap namedc) ∧ Fr (fun k => wr.heap.size ≤ k ∧ k < X.heap.size) X1 X2 ∧ Fr (fun _ => False) X2 wa)
    {g cap : Nat} (g1 : wc.ownsRow B 55 33 (.slice (some ⟨g, 0, none⟩) (K.length + 1) cap) (K.length + 1) (K.flatMap ic ++ ic p)) (g2 : wa.grownBy wc vi.ownBlock) (g3 : vi.ownBlock = some g ∨ g = wa.heap.size)
    (hq : z[k]? = some q) (hp : p.1 = ren t q.1) (hsl : p.2.2 = q.2.2) :
    RSt B tb src u t z (k + 1) (.slice (some ⟨g, 0, none⟩) (K.length + 1) cap) (K ++ [p]) (wc.setCell ⟨tb, 5, none⟩ (.slice (some ⟨g, 0, none⟩) (K.length + 1) cap)) := by
  obtain ⟨X1, X2, hx1, hown, hx2, hxa⟩ := hwa
  have h0 : wr.ownsRow B 55 33 vi K.length (K.flatMap ic) := st.rows.ok (itemRow vi K) (by simp)
  have hne : ∀ k, vi.ownBlock = some k → B ≤ k ∧ k < wr.heap.size := fun k hk => own_lt h0 k hk
  have hXwa : Fr (fun k => wr.heap.size ≤ k ∧ k < X.heap.size) X wa := (hx1.mono (fun _ _ h => h.elim)).trans (hx2.trans (hxa.mono (fun _ _ h => h.elim)))
  have hwr : Fr (fun _ => False) wr wa := hX.trans' hXwa (fun i hi h => by omega)
  have h1 : Fr (fun k => k = tb) u wa := st.fr.trans' hwr (fun _ _ h => h.elim)
  have h2 : Fr (fun k => k = tb) u wc := h1.grown g2 (fun k hk => .inr (by have := hne k hk; omega))
  have hs : Fr (fun k => k = tb) wc (wc.setCell ⟨tb, 5, none⟩ (.slice (some ⟨g, 0, none⟩) (K.length + 1) cap)) := (Fr.refl (fun k => k = tb) wc).setCell (p := ⟨tb, 5, none⟩) (.inl rfl) _
  have hbs : B ≤ wr.heap.size := by have := st.fr.size; omega
  have hro : ORs B wa (itemRow vi K :: K.map condRow) := st.rows.fr hwr (fun _ _ _ h => h)
  have hnew : wa.ownsRow X.heap.size 116 2 p.2.1 p.1.conds.length (p.1.conds.flatMap namedc) :=
    own_fr (own_fr hown hx2 (fun j h1 _ h2 => by omega)) hxa (fun _ _ _ h => h)
  have hsn : ORs B wa ((itemRow vi K :: K.map condRow) ++ [condRow p]) := st.rows.snoc hro (r := condRow p) hnew hX.size (Nat.le_trans hbs hX.size)
  have happ : ORs B wc (((itemRow vi K :: K.map condRow) ++ [condRow p]).set 0 (itemRow (.slice (some ⟨g, 0, none⟩) (K.length + 1) cap) (K ++ [p]))) := hsn.app (k := 0) (r := itemRow vi K) rfl g2 (by
      show wc.ownsRow B 55 33 (.slice (some ⟨g, 0, none⟩) (K.length + 1) cap) (K ++ [p]).length ((K ++ [p]).flatMap ic)
      rw [List.length_append, List.flatMap_append]
      simpa using g1) (fun g' hg' => by
      have : g = g' := by simpa [itemRow, Value.ownBlock] using hg'
      subst this
      rcases g3 with g3 | g3
      · exact .inl g3
      · exact .inr (by omega))
  refine ⟨?_, ?_, h2.trans hs, ?_, ?_⟩
  · have := happ.fr hs (fun j hj _ e => by omega)
    rw [List.map_append]
    simpa using this
  · have hb := (Fr.of_grown g2).blk (hwr.blk st.tbk (fun h => h)) (fun h => by have := hne _ h; omega)
    exact (blk_set hb 5 _).trans rfl
  · rw [List.map_append, st.eq, List.take_add_one, List.getElem?_map, hq]
    simp [hp]
  · intro y hy
    rcases List.mem_append.1 hy with hy | hy
    · exact st.like y hy
    · obtain rfl : y = p := by simpa using hy
      exact ⟨⟨q, List.mem_of_getElem? hq, hsl, by rw [hp]; rfl, by rw [hp]; rfl⟩⟩
set_option maxRecDepth 100000 in
set_option maxHeartbeats 8000000 in
theorem renamed_any (src : Source) (t : Bytes) (v : Value) (z : List (Item × Sl)) (W : World) (hz : Lies W z v) (hlen : z.length ≤ 700) (ht : t.length ≤ 60) (hsm : ∀ p ∈ z, RenB p.1) :
    Calls Tryd.prog 21 #[.agg (scells src.name src.frm src.days v).toArray, .string ⟨t.toArray⟩] W fun e w' => ∃ vi K, e = .returned (.agg (scells src.name src.frm src.days vi).toArray) ∧ Lies w' K vi ∧ K.map Prod.fst = (z.map Prod.fst).map (ren t) ∧ Below W.heap.size W w' := by
  obtain ⟨Ai, ci, hv, hc1, hc2⟩ := hz.row.slice
  rw [List.length_map] at hv hc1
  subst hv
  have HZ := Lib.hid hz; have H7 := Lib.hid hlen; have HT := Lib.hid ht; have HSM := Lib.hid hsm
  clear hz hsm hc1 hc2 ht hlen
  obtain ⟨u0, hu0⟩ : ∃ u, (W.alloc (.cells (scells src.name src.frm src.days (.slice Ai z.length ci)).toArray 26)).alloc (.cells #[.string ⟨#[]⟩, .int .i64 0, .int .i64 0, .int .i64 0, .int .i64 0, .slice none 0 0] 26) = u := ⟨_, rfl⟩
  have HSB0 : Hid (u0.heap[W.heap.size]? = some (.cells (scells src.name src.frm src.days (.slice Ai z.length ci)).toArray 26 (0, 0))) := by rw [← hu0]; exact blk_alloc (blk_newn rfl) _
  have HRB0 : Hid (u0.heap[W.heap.size + 1]? = some (.cells #[.string ⟨#[]⟩, .int .i64 0, .int .i64 0, .int .i64 0, .int .i64 0, .slice none 0 0] 26 (0, 0))) := by rw [← hu0]; exact blk_newn (by simp)
  have HBW0 : Hid (Below W.heap.size W u0) := by rw [← hu0]; exact ((Below.refl _ W).alloc (Nat.le_refl _) _).alloc (by simp) _
  have hz00 : u0.heap.size = W.heap.size + 1 + 1 := by rw [← hu0]; simp
  obtain ⟨u, hu⟩ : ∃ u, u0.alloc (.cells (scells src.name src.frm src.days Vw.nil).toArray 26) = u := ⟨_, rfl⟩
  have HSBu : Hid (u.heap[W.heap.size]? = some (.cells (scells src.name src.frm src.days (.slice Ai z.length ci)).toArray 26 (0, 0))) := by rw [← hu]; exact blk_alloc HSB0.out _
  have HRBu : Hid (u.heap[W.heap.size + 1]? = some (.cells #[.string ⟨#[]⟩, .int .i64 0, .int .i64 0, .int .i64 0, .int .i64 0, .slice none 0 0] 26 (0, 0))) := by rw [← hu]; exact blk_alloc HRB0.out _
  have HTBu : Hid (u.heap[W.heap.size + 1 + 1]? = some (.cells (scells src.name src.frm src.days Vw.nil).toArray 26 (0, 0))) := by rw [← hu]; exact blk_newn hz00.symm
  have HBWu : Hid (Below W.heap.size W u) := by rw [← hu]; exact HBW0.out.alloc (by omega) _
  have HSZu : Hid (u.heap.size = W.heap.size + 3) := by show _ = _; rw [← hu]; simp [hz00]
  have HU0 := Lib.hid hu0; have HZ00 := Lib.hid hz00
  clear hu0 hz00
  have HU := Lib.hid hu; clear hu
  obtain ⟨B, hB⟩ : ∃ B, u.heap.size = B := ⟨_, rfl⟩
  have HB := Lib.hid hB; clear hB
  have HTB : Hid (W.heap.size + 1 + 1 < B) := by have h1 := HSZu.out; have h2 := HB.out; show _ < _; omega
  have HG0 : Hid (RSt B (W.heap.size + 1 + 1) src u t z 0 Vw.nil [] u) := RSt.zero HTBu.out
  clear HTBu
  go_enter Tryd.func21, Tryd.ntmps21
  go_upto_region 1 with fail
  rw [HU0.out]
  have s0 : u0.cell? ⟨W.heap.size, 0, none⟩ = some (.string ⟨src.name.toArray⟩) := (cell_of_blk HSB0.out 0).trans rfl
  have s1 : u0.cell? ⟨W.heap.size, 1, none⟩ = some (.int .i64 src.frm.y) := (cell_of_blk HSB0.out 1).trans rfl
  have s2 : u0.cell? ⟨W.heap.size, 2, none⟩ = some (.int .i64 src.frm.m) := (cell_of_blk HSB0.out 2).trans rfl
  have s3 : u0.cell? ⟨W.heap.size, 3, none⟩ = some (.int .i64 src.frm.d) := (cell_of_blk HSB0.out 3).trans rfl
  have s4 : u0.cell? ⟨W.heap.size, 4, none⟩ = some (.int .i64 src.days) := (cell_of_blk HSB0.out 4).trans rfl
  have s5 : u0.cell? ⟨W.heap.size, 5, none⟩ = some (.slice Ai z.length ci) := (cell_of_blk HSB0.out 5).trans rfl
  go_upto_region 2 with fail
  rw [HZ00.out, show u0.alloc (.cells #[.string ⟨src.name.toArray⟩, .int .i64 src.frm.y, .int .i64 src.frm.m, .int .i64 src.frm.d, .int .i64 src.days, .slice none 0 0] 26) = u from HU.out]
  clear HU HU0 s0 s1 s2 s3 s4 s5
  obtain ⟨z0, hzi, hzz⟩ := info_item3
  obtain ⟨i0, hi, hz0, hz1, hz2⟩ := info_parts hzi
  obtain ⟨j0, hj, hj0, hj1, hj2⟩ := info_parts info_named
  go_wp2_with fail
  go_loopw [6] (fun ki wr => RRel B (W.heap.size + 1 + 1) src u t z ki wr) (fun ki _ => z.length - (intOf ki).toNat)
  case atStart => exact ⟨0, rfl, Nat.zero_le _, _, _, HG0⟩
  case round =>
    obtain ⟨k, rfl, hk, vi, KL, HGS⟩ := hrel
    clear HG0
    have HSCk : Hid (wr.heap[W.heap.size]? = some (.cells (scells src.name src.frm src.days (.slice Ai z.length ci)).toArray 26 (0, 0))) := HGS.out.fr.blk HSBu.out (fun e => by omega)
    have k5 : wr.cell? ⟨W.heap.size, 5, none⟩ = some (.slice Ai z.length ci) := cell_of_blk HSCk.out 5
    have HBWr : Hid (Below W.heap.size W wr) := HBWu.out.trans (HGS.out.fr.below HBWu.out.size (fun j h => by omega))
    have hz7 : z.length ≤ 700 := H7.out
    have i1 : (0 : Int) ≤ (k : Int) := Int.natCast_nonneg _
    by_cases hlt : k < z.length
    · obtain ⟨g0, o, cap0, hs1, hgl, _, _, hat⟩ := (HZ.out.below HBWr.out).row.at (by intro e; rw [List.map_eq_nil_iff] at e; rw [e] at hlt; simp at hlt)
      have hAi : Ai = some ⟨g0, o, none⟩ := by injection hs1
      subst hAi
      obtain ⟨p, hp⟩ : ∃ p, z[k]? = some p := ⟨_, List.getElem?_eq_getElem hlt⟩
      have hpm : p ∈ z := List.mem_of_getElem? hp
      obtain ⟨hf, his⟩ := HZ.out.flat p hpm
      have hrb := HSM.out p hpm
      obtain ⟨x, sc, sd, sn, sx⟩ := p
      dsimp only at hf his hrb
      obtain ⟨Ac, cc, hcs, hcc1, hcc2⟩ := hf.conds.slice
      rw [List.length_map] at hcs hcc1
      subst hcs
      have HAT0 : Hid (At wr g0 (o + k * 33) (ic (x, .slice Ac x.conds.length cc, sd, sn, sx))) := hat k _ (by rw [List.getElem?_map, hp]; rfl)
      have HGL : Hid (g0 < wr.heap.size) := hgl
      have HP := Lib.hid hp; have HF := Lib.hid (hf.below HBWr.out); have HIS := Lib.hid his; have HRB := Lib.hid hrb
      have HONE : Hid ((ic (x, .slice Ac x.conds.length cc, sd, sn, sx)).toArray.all (·.oneCell') = true) := ic_oneS (p := (x, .slice Ac x.conds.length cc, sd, sn, sx)) hf his
      have hcl : x.conds.length ≤ 20 := hrb.sm.conds
      have HCL := Lib.hid hcl
      clear hat hs1 hgl hp hpm hf his hrb hcc1 hcc2 hcl
      have i2 : (k : Int) < (z.length : Int) := by omega
      go_upto_region 5 with fail
      clear k5
      have k5 : wr.cell? ⟨W.heap.size, 5, none⟩ = some (.slice (some ⟨g0, o, none⟩) z.length ci) := cell_of_blk HSCk.out 5
      iterate 13 go_step
      refine wpList_load_mid rfl 55 _ rfl g0 (o + k * 33) rfl (ic (x, .slice Ac x.conds.length cc, sd, sn, sx)) _ HAT0.out Tryd.underlying55 rfl info_item ?_
      simp only [Act.put, List.setIfInBounds_toArray, List.set_cons_zero, List.set_cons_succ]
      iterate 3 go_step
      refine wpList_store_row rfl 55 _ _ rfl wr.heap.size (ic (x, .slice Ac x.conds.length cc, sd, sn, sx)).toArray rfl rfl 55 _ (blk_newn rfl) (info_iclS _) rfl HONE.out ?_
      simp only [Act.put, List.setIfInBounds_toArray, List.set_cons_zero, List.set_cons_succ]
      rw [World.setRow_alloc_new]
      obtain ⟨X0, hX0⟩ : ∃ X0, wr.alloc (.cells (ic (x, .slice Ac x.conds.length cc, sd, sn, sx)).toArray 55) = X0 := ⟨_, rfl⟩
      rw [hX0]
      have HX0 : Hid (X0.heap[wr.heap.size]? = some (.cells (ic (rn0 t x, .slice Ac x.conds.length cc, sd, sn, sx)).toArray 55 (0, 0))) := by rw [← hX0]; exact blk_newn rfl
      have HW0 : Hid (Fr (fun _ => False) wr X0) := by rw [← hX0]; exact (Fr.refl _ wr).alloc _
      have HS0 : Hid (X0.heap.size = wr.heap.size + 1) := by show _ = _; rw [← hX0]; simp
      have HF0 : Hid (Fr (fun k => k = wr.heap.size) X0 X0) := Fr.refl _ X0
      clear hX0 k5 HONE HAT0 HGL HSCk
      have c0 : X0.cell? ⟨wr.heap.size, 1, none⟩ = some (.string ⟨x.name.toArray⟩) := (cell_of_blk HX0.out 1).trans rfl
      have f0 : X0.frozen? ⟨wr.heap.size, 1, none⟩ = false := froz_of_blk HX0.out 1
      have HN0 := Lib.hid (named_any x.name t X0 (by have h1 := HRB.out.sm.name; have h2 := HT.out; simp only [maxLen]; omega))
      go_wp2_with fail
      refine HN0.out.mono ?_
      rintro e wj ⟨rfl, hwj⟩
      have hwj := hwj.symm
      subst hwj
      go_upto_region 7 with fail
      obtain ⟨X1, hX⟩ : ∃ X, X0.setCell ⟨wr.heap.size, 1, none⟩ (.string ⟨(nm t x.name).toArray⟩) = X := ⟨_, rfl⟩
      rw [hX]
      have HX1 : Hid (X1.heap[wr.heap.size]? = some (.cells (ic (rn1 t x, .slice Ac x.conds.length cc, sd, sn, sx)).toArray 55 (0, 0))) := by rw [← hX]; exact (blk_set HX0.out 1 _).trans rfl
      have HF1 : Hid (Fr (fun k => k = wr.heap.size) X0 X1) := by rw [← hX]; exact HF0.out.setb 1 _
      clear hX c0 f0 HN0 HX0 HF0
      have c1 : X1.cell? ⟨wr.heap.size, 3, none⟩ = some (.string ⟨x.of_.toArray⟩) := (cell_of_blk HX1.out 3).trans rfl
      have f1 : X1.frozen? ⟨wr.heap.size, 3, none⟩ = false := froz_of_blk HX1.out 3
      have HN1 := Lib.hid (named_any x.of_ t X1 (by have h1 := HRB.out.sm.of_; have h2 := HT.out; simp only [maxLen]; omega))
      go_wp2_with fail
      refine HN1.out.mono ?_
      rintro e wj ⟨rfl, hwj⟩
      have hwj := hwj.symm
      subst hwj
      go_upto_region 8 with fail
      obtain ⟨X2, hX⟩ : ∃ X, X1.setCell ⟨wr.heap.size, 3, none⟩ (.string ⟨(nm t x.of_).toArray⟩) = X := ⟨_, rfl⟩
      rw [hX]
      have HX2 : Hid (X2.heap[wr.heap.size]? = some (.cells (ic (rn2 t x, .slice Ac x.conds.length cc, sd, sn, sx)).toArray 55 (0, 0))) := by rw [← hX]; exact (blk_set HX1.out 3 _).trans rfl
      have HF2 : Hid (Fr (fun k => k = wr.heap.size) X0 X2) := by rw [← hX]; exact HF1.out.setb 3 _
      clear hX c1 f1 HN1 HX1 HF1
      have c2 : X2.cell? ⟨wr.heap.size, 4, none⟩ = some (.string ⟨x.act.toArray⟩) := (cell_of_blk HX2.out 4).trans rfl
      have f2 : X2.frozen? ⟨wr.heap.size, 4, none⟩ = false := froz_of_blk HX2.out 4
      have HN2 := Lib.hid (named_any x.act t X2 (by have h1 := HRB.out.sm.act; have h2 := HT.out; simp only [maxLen]; omega))
      go_wp2_with fail
      refine HN2.out.mono ?_
      rintro e wj ⟨rfl, hwj⟩
      have hwj := hwj.symm
      subst hwj
      go_upto_region 9 with fail
      obtain ⟨X3, hX⟩ : ∃ X, X2.setCell ⟨wr.heap.size, 4, none⟩ (.string ⟨(nm t x.act).toArray⟩) = X := ⟨_, rfl⟩
      rw [hX]
      have HX3 : Hid (X3.heap[wr.heap.size]? = some (.cells (ic (rn3 t x, .slice Ac x.conds.length cc, sd, sn, sx)).toArray 55 (0, 0))) := by rw [← hX]; exact (blk_set HX2.out 4 _).trans rfl
      have HF3 : Hid (Fr (fun k => k = wr.heap.size) X0 X3) := by rw [← hX]; exact HF2.out.setb 4 _
      clear hX c2 f2 HN2 HX2 HF2
      have c3 : X3.cell? ⟨wr.heap.size, 14, none⟩ = some (.string ⟨x.by_.toArray⟩) := (cell_of_blk HX3.out 14).trans rfl
      have f3 : X3.frozen? ⟨wr.heap.size, 14, none⟩ = false := froz_of_blk HX3.out 14
      have HN3 := Lib.hid (named_any x.by_ t X3 (by have h1 := HRB.out.sm.by_; have h2 := HT.out; simp only [maxLen]; omega))
      go_wp2_with fail
      refine HN3.out.mono ?_
      rintro e wj ⟨rfl, hwj⟩
      have hwj := hwj.symm
      subst hwj
      go_upto_region 10 with fail
      obtain ⟨X4, hX⟩ : ∃ X, X3.setCell ⟨wr.heap.size, 14, none⟩ (.string ⟨(nm t x.by_).toArray⟩) = X := ⟨_, rfl⟩
      rw [hX]
      have HX4 : Hid (X4.heap[wr.heap.size]? = some (.cells (ic (rn4 t x, .slice Ac x.conds.length cc, sd, sn, sx)).toArray 55 (0, 0))) := by rw [← hX]; exact (blk_set HX3.out 14 _).trans rfl
      have HF4 : Hid (Fr (fun k => k = wr.heap.size) X0 X4) := by rw [← hX]; exact HF3.out.setb 14 _
      clear hX c3 f3 HN3 HX3 HF3
      have c4 : X4.cell? ⟨wr.heap.size, 15, none⟩ = some (.string ⟨x.til.toArray⟩) := (cell_of_blk HX4.out 15).trans rfl
      have f4 : X4.frozen? ⟨wr.heap.size, 15, none⟩ = false := froz_of_blk HX4.out 15
      have HN4 := Lib.hid (named_any x.til t X4 (by have h1 := HRB.out.sm.til; have h2 := HT.out; simp only [maxLen]; omega))
      go_wp2_with fail
      refine HN4.out.mono ?_
      rintro e wj ⟨rfl, hwj⟩
      have hwj := hwj.symm
      subst hwj
      go_upto_region 11 with fail
      obtain ⟨X5, hX⟩ : ∃ X, X4.setCell ⟨wr.heap.size, 15, none⟩ (.string ⟨(nm t x.til).toArray⟩) = X := ⟨_, rfl⟩
      rw [hX]
      have HX5 : Hid (X5.heap[wr.heap.size]? = some (.cells (ic (rn5 t x, .slice Ac x.conds.length cc, sd, sn, sx)).toArray 55 (0, 0))) := by rw [← hX]; exact (blk_set HX4.out 15 _).trans rfl
      have HF5 : Hid (Fr (fun k => k = wr.heap.size) X0 X5) := by rw [← hX]; exact HF4.out.setb 15 _
      clear hX c4 f4 HN4 HX4 HF4
      have c5 : X5.cell? ⟨wr.heap.size, 18, none⟩ = some (.string ⟨x.unit.toArray⟩) := (cell_of_blk HX5.out 18).trans rfl
      have f5 : X5.frozen? ⟨wr.heap.size, 18, none⟩ = false := froz_of_blk HX5.out 18
      have HN5 := Lib.hid (named_any x.unit t X5 (by have h1 := HRB.out.sm.unit; have h2 := HT.out; simp only [maxLen]; omega))
      go_wp2_with fail
      refine HN5.out.mono ?_
      rintro e wj ⟨rfl, hwj⟩
      have hwj := hwj.symm
      subst hwj
      go_upto_region 12 with fail
      obtain ⟨X6, hX⟩ : ∃ X, X5.setCell ⟨wr.heap.size, 18, none⟩ (.string ⟨(nm t x.unit).toArray⟩) = X := ⟨_, rfl⟩
      rw [hX]
      have HX6 : Hid (X6.heap[wr.heap.size]? = some (.cells (ic (rn6 t x, .slice Ac x.conds.length cc, sd, sn, sx)).toArray 55 (0, 0))) := by rw [← hX]; exact (blk_set HX5.out 18 _).trans rfl
      have HF6 : Hid (Fr (fun k => k = wr.heap.size) X0 X6) := by rw [← hX]; exact HF5.out.setb 18 _
      clear hX c5 f5 HN5 HX5 HF5
      have c6 : X6.cell? ⟨wr.heap.size, 19, none⟩ = some (.string ⟨x.sum.toArray⟩) := (cell_of_blk HX6.out 19).trans rfl
      have f6 : X6.frozen? ⟨wr.heap.size, 19, none⟩ = false := froz_of_blk HX6.out 19
      have HN6 := Lib.hid (named_any x.sum t X6 (by have h1 := HRB.out.sum; have h2 := HT.out; simp only [maxLen]; omega))
      go_wp2_with fail
      refine HN6.out.mono ?_
      rintro e wj ⟨rfl, hwj⟩
      have hwj := hwj.symm
      subst hwj
      go_upto_region 13 with fail
      obtain ⟨X7, hX⟩ : ∃ X, X6.setCell ⟨wr.heap.size, 19, none⟩ (.string ⟨(nm t x.sum).toArray⟩) = X := ⟨_, rfl⟩
      rw [hX]
      have HX7 : Hid (X7.heap[wr.heap.size]? = some (.cells (ic (rn7 t x, .slice Ac x.conds.length cc, sd, sn, sx)).toArray 55 (0, 0))) := by rw [← hX]; exact (blk_set HX6.out 19 _).trans rfl
      have HF7 : Hid (Fr (fun k => k = wr.heap.size) X0 X7) := by rw [← hX]; exact HF6.out.setb 19 _
      clear hX c6 f6 HN6 HX6 HF6
      have c7 : X7.cell? ⟨wr.heap.size, 21, none⟩ = some (.string ⟨x.give.toArray⟩) := (cell_of_blk HX7.out 21).trans rfl
      have f7 : X7.frozen? ⟨wr.heap.size, 21, none⟩ = false := froz_of_blk HX7.out 21
      have HN7 := Lib.hid (named_any x.give t X7 (by have h1 := HRB.out.sm.give; have h2 := HT.out; simp only [maxLen]; omega))
      go_wp2_with fail
      refine HN7.out.mono ?_
      rintro e wj ⟨rfl, hwj⟩
      have hwj := hwj.symm
      subst hwj
      go_upto_region 14 with fail
      obtain ⟨X8, hX⟩ : ∃ X, X7.setCell ⟨wr.heap.size, 21, none⟩ (.string ⟨(nm t x.give).toArray⟩) = X := ⟨_, rfl⟩
      rw [hX]
      have HX8 : Hid (X8.heap[wr.heap.size]? = some (.cells (ic (rn8 t x, .slice Ac x.conds.length cc, sd, sn, sx)).toArray 55 (0, 0))) := by rw [← hX]; exact (blk_set HX7.out 21 _).trans rfl
      have HF8 : Hid (Fr (fun k => k = wr.heap.size) X0 X8) := by rw [← hX]; exact HF7.out.setb 21 _
      clear hX c7 f7 HN7 HX7 HF7
      have c8 : X8.cell? ⟨wr.heap.size, 22, none⟩ = some (.string ⟨x.to_.toArray⟩) := (cell_of_blk HX8.out 22).trans rfl
      have f8 : X8.frozen? ⟨wr.heap.size, 22, none⟩ = false := froz_of_blk HX8.out 22
      have HN8 := Lib.hid (named_any x.to_ t X8 (by have h1 := HRB.out.sm.to_; have h2 := HT.out; simp only [maxLen]; omega))
      go_wp2_with fail
      refine HN8.out.mono ?_
      rintro e wj ⟨rfl, hwj⟩
      have hwj := hwj.symm
      subst hwj
      go_upto_region 15 with fail
      obtain ⟨X9, hX⟩ : ∃ X, X8.setCell ⟨wr.heap.size, 22, none⟩ (.string ⟨(nm t x.to_).toArray⟩) = X := ⟨_, rfl⟩
      rw [hX]
      have HX9 : Hid (X9.heap[wr.heap.size]? = some (.cells (ic (rn9 t x, .slice Ac x.conds.length cc, sd, sn, sx)).toArray 55 (0, 0))) := by rw [← hX]; exact (blk_set HX8.out 22 _).trans rfl
      have HF9 : Hid (Fr (fun k => k = wr.heap.size) X0 X9) := by rw [← hX]; exact HF8.out.setb 22 _
      clear hX c8 f8 HN8 HX8 HF8
      have HWX : Hid (Fr (fun _ => False) wr X9) := HW0.out.trans' HF9.out (fun j hj e => by omega)
      have HS9 : Hid (wr.heap.size < X9.heap.size) := lt_of_blk HX9.out
      have q13 : X9.cell? ⟨wr.heap.size, 13, none⟩ = some (.slice Ac x.conds.length cc) := (cell_of_blk HX9.out 13).trans rfl
      obtain ⟨wo, rfl⟩ : ∃ w : World, w = wr := ⟨_, rfl⟩
      clear HW0 HS0 HF9
      go_wp2_with fail
      clear q13
      have hcl0 : x.conds.length ≤ 20 := HCL.out
      go_loopw [8, 9] (fun st ki wr => CRl wo.heap.size X9 t x.conds ki st wr) (fun _ ki _ => x.conds.length - (intOf ki).toNat)
      case atStart => exact ⟨0, _, rfl, rfl, Nat.zero_le _, ⟨World.ownsRow_nil _ _ _ _, Fr.refl _ _⟩⟩
      case round =>
        obtain ⟨i, st, rfl, rfl, hil, HC⟩ := hrel
        have HXi : Hid (wr.heap[wo.heap.size]? = some (.cells (ic (rn9 t x, .slice Ac x.conds.length cc, sd, sn, sx)).toArray 55 (0, 0))) := HC.out.fr.blk HX9.out (fun h => h)
        have q13 : wr.cell? ⟨wo.heap.size, 13, none⟩ = some (.slice Ac x.conds.length cc) := (cell_of_blk HXi.out 13).trans rfl
        have HBi : Hid (Below wo.heap.size wo wr) := (HWX.out.trans HC.out.fr).below (Nat.le_refl _) (fun _ h => h.elim)
        have n1 : (0 : Int) ≤ (i : Int) := Int.natCast_nonneg _
        by_cases hlt2 : i < x.conds.length
        · obtain ⟨gc, oc, capc, hs1, hgl, _, _, hat⟩ := (HF.out.conds.below HBi.out).at (by intro e; rw [List.map_eq_nil_iff] at e; rw [e] at hlt2; simp at hlt2)
          have hAc : Ac = some ⟨gc, oc, none⟩ := by injection hs1
          subst hAc
          obtain ⟨c, hc⟩ : ∃ c, x.conds[i]? = some c := ⟨_, List.getElem?_eq_getElem hlt2⟩
          have hck : At wr gc (oc + i * 2) (namedc c) := hat i _ (by rw [List.getElem?_map, hc]; rfl)
          have q6 : wr.cell? ⟨gc, oc + i * 2, none⟩ = some (.string ⟨c.name.toArray⟩) := hck.cell 0 rfl
          have q14 : wr.cell? ⟨gc, oc + i * 2 + 1, none⟩ = some (.int .i64 c.is_) := hck.cell 1 rfl
          have HNB : Hid (c.name.length + t.length ≤ maxLen) := by have h1 := HRB.out.cnd c (List.mem_of_getElem? hc); have h2 := HT.out; show _ ≤ _; simp only [maxLen]; omega
          have HCI := Lib.hid hc
          have HQ13 := Lib.hid q13; have HQ14 := Lib.hid q14; have HQ6 := Lib.hid q6
          clear hat hck hs1 hgl hc q6 q14 q13
          have n2 : (i : Int) < (x.conds.length : Int) := by omega
          have q13 := HQ13.out
          go_upto_region 19 with fail
          clear q13
          refine Reg.G.start (by kernel_rfl) ?_
          refine' Reg.G.pure (i := 0) (v := _) rfl (by rfl) (by kernel_rfl) (by kernel_rfl) (by kernel_rfl) (fun _ _ _ h => h) ?hyr19_0 ?rer19_0
          case hyr19_0 => exact fun w => by first | (go_simp; done) | (go_simp; with_reducible rfl)
          simp only [Act.put, List.setIfInBounds_toArray, List.set_cons_zero, List.set_cons_succ]
          refine' Reg.G.pure (i := 1) (v := _) rfl (by rfl) (by kernel_rfl) (by kernel_rfl) (by kernel_rfl) (fun _ _ _ h => h) ?hyr19_1 ?rer19_1
          case hyr19_1 => exact fun w => by first | (go_simp; done) | (go_simp; with_reducible rfl)
          simp only [Act.put, List.setIfInBounds_toArray, List.set_cons_zero, List.set_cons_succ]
          refine' Reg.G.take (i := 2) (v := _) (F := (fun w => w.cell? ⟨wo.heap.size, 13, none⟩ = some (.slice (some ⟨gc, oc, none⟩) x.conds.length cc))) rfl (by rfl) (by kernel_rfl) (by kernel_rfl) (by kernel_rfl) (fun _ _ _ h => h) (HQ13.out) ?hyr19_2 ?rer19_2
          case hyr19_2 => intro w hw; first | (go_simp; done) | (go_simp; with_reducible rfl)
          simp only [Act.put, List.setIfInBounds_toArray, List.set_cons_zero, List.set_cons_succ]
          refine' Reg.G.pure (i := 3) (v := _) rfl (by rfl) (by kernel_rfl) (by kernel_rfl) (by kernel_rfl) (fun _ _ _ h => h) ?hyr19_3 ?rer19_3
          case hyr19_3 => exact fun w => by first | (go_simp; done) | (go_simp; with_reducible rfl)
          simp only [Act.put, List.setIfInBounds_toArray, List.set_cons_zero, List.set_cons_succ]
          refine' Reg.G.pure (i := 4) (v := _) rfl (by rfl) (by kernel_rfl) (by kernel_rfl) (by kernel_rfl) (fun _ _ _ h => h) ?hyr19_4 ?rer19_4
          case hyr19_4 => exact fun w => by first | (go_simp; done) | (go_simp; with_reducible rfl)
          simp only [Act.put, List.setIfInBounds_toArray, List.set_cons_zero, List.set_cons_succ]
          refine' Reg.G.pure (i := 5) (v := _) rfl (by rfl) (by kernel_rfl) (by kernel_rfl) (by kernel_rfl) (fun _ _ _ h => h) ?hyr19_5 ?rer19_5
          case hyr19_5 => exact fun w => by first | (go_simp; done) | (go_simp; with_reducible rfl)
          simp only [Act.put, List.setIfInBounds_toArray, List.set_cons_zero, List.set_cons_succ]
          refine' Reg.G.take (i := 6) (v := _) (F := (fun w => w.cell? ⟨gc, oc + i * 2, none⟩ = some (.string ⟨c.name.toArray⟩))) rfl (by rfl) (by kernel_rfl) (by kernel_rfl) (by kernel_rfl) (fun _ _ _ h => h) (HQ6.out) ?hyr19_6 ?rer19_6
          case hyr19_6 => intro w hw; first | (go_simp; done) | (go_simp; with_reducible rfl)
          simp only [Act.put, List.setIfInBounds_toArray, List.set_cons_zero, List.set_cons_succ]
          refine' Reg.G.pure (i := 7) (v := _) rfl (by rfl) (by kernel_rfl) (by kernel_rfl) (by kernel_rfl) (fun _ _ _ h => h) ?hyr19_7 ?rer19_7
          case hyr19_7 => exact fun w => by first | (go_simp; done) | (go_simp; with_reducible rfl)
          simp only [Act.put, List.setIfInBounds_toArray, List.set_cons_zero, List.set_cons_succ]
          refine' Reg.G.pure (i := 9) (v := _) rfl (by rfl) (by kernel_rfl) (by kernel_rfl) (by kernel_rfl) (fun _ _ _ h => h) ?hyr19_9 ?rer19_9
          case hyr19_9 => exact fun w => by first | (go_simp; done) | (go_simp; with_reducible rfl)
          simp only [Act.put, List.setIfInBounds_toArray, List.set_cons_zero, List.set_cons_succ]
          refine' Reg.G.take (i := 10) (v := _) (F := (fun w => w.cell? ⟨wo.heap.size, 13, none⟩ = some (.slice (some ⟨gc, oc, none⟩) x.conds.length cc))) rfl (by rfl) (by kernel_rfl) (by kernel_rfl) (by kernel_rfl) (fun _ _ _ h => h) (HQ13.out) ?hyr19_10 ?rer19_10
          case hyr19_10 => intro w hw; first | (go_simp; done) | (go_simp; with_reducible rfl)
          simp only [Act.put, List.setIfInBounds_toArray, List.set_cons_zero, List.set_cons_succ]
          refine' Reg.G.pure (i := 11) (v := _) rfl (by rfl) (by kernel_rfl) (by kernel_rfl) (by kernel_rfl) (fun _ _ _ h => h) ?hyr19_11 ?rer19_11
          case hyr19_11 => exact fun w => by first | (go_simp; done) | (go_simp; with_reducible rfl)
          simp only [Act.put, List.setIfInBounds_toArray, List.set_cons_zero, List.set_cons_succ]
          refine' Reg.G.pure (i := 12) (v := _) rfl (by rfl) (by kernel_rfl) (by kernel_rfl) (by kernel_rfl) (fun _ _ _ h => h) ?hyr19_12 ?rer19_12
          case hyr19_12 => exact fun w => by first | (go_simp; done) | (go_simp; with_reducible rfl)
          simp only [Act.put, List.setIfInBounds_toArray, List.set_cons_zero, List.set_cons_succ]
          refine' Reg.G.pure (i := 13) (v := _) rfl (by rfl) (by kernel_rfl) (by kernel_rfl) (by kernel_rfl) (fun _ _ _ h => h) ?hyr19_13 ?rer19_13
          case hyr19_13 => exact fun w => by first | (go_simp; done) | (go_simp; with_reducible rfl)
          simp only [Act.put, List.setIfInBounds_toArray, List.set_cons_zero, List.set_cons_succ]
          refine' Reg.G.take (i := 14) (v := _) (F := (fun w => w.cell? ⟨gc, oc + i * 2 + 1, none⟩ = some (.int .i64 c.is_))) rfl (by rfl) (by kernel_rfl) (by kernel_rfl) (by kernel_rfl) (fun _ _ _ h => h) (HQ14.out) ?hyr19_14 ?rer19_14
          case hyr19_14 => intro w hw; first | (go_simp; done) | (go_simp; with_reducible rfl)
          simp only [Act.put, List.setIfInBounds_toArray, List.set_cons_zero, List.set_cons_succ]
          refine Reg.G.step (j := 8) (m := [true, true, false, false]) [14, 10, 6, 2] rfl (by kernel_rfl) rfl (by kernel_rfl) (fun K hK => ?_)
          -- Op.call { callee := Callee.value (func 39), args := #[t87, t88], argTypes := #[9, 9] }
          go_simp
          refine (named_any c.name t wr.drew HNB.out).mono ?_
          rintro e w1 ⟨rfl, hw1⟩
          rw [hw1]
          refine hK.out _ _ ⟨HQ14.out, HQ13.out, trivial⟩ ?_
          clear hK K
          simp only [Act.put, List.setIfInBounds_toArray, List.set_cons_zero, List.set_cons_succ, Reg.Kept]
          refine' Reg.G.pure (i := 15) (v := _) rfl (by rfl) (by kernel_rfl) (by kernel_rfl) (by kernel_rfl) (fun _ _ _ h => h) ?hyr19_15 ?rer19_15
          case hyr19_15 => exact fun w => by first | (go_simp; done) | (go_simp; with_reducible rfl)
          simp only [Act.put, List.setIfInBounds_toArray, List.set_cons_zero, List.set_cons_succ]
          refine Reg.G.step (j := 16) (m := [false, false]) [14, 10] rfl (by kernel_rfl) rfl (by kernel_rfl) (fun K hK => ?_)
          -- Op.buildSlice 50 1 #[(0, t96)]
          rw [if_pos (by rfl)]
          refine wp_builtS 50 1 _ rfl #[(0, .agg #[.string ⟨(nm t c.name).toArray⟩, .int .i64 c.is_])] (by go_simp) _ _ (bsl_named _ _ _) ?_
          obtain ⟨wa, hwa⟩ : ∃ v, (wr.drew).alloc (.cells #[.string ⟨(nm t c.name).toArray⟩, .int .i64 c.is_] 116) = v := ⟨_, rfl⟩
          rw [hwa]
          have HFA : Hid (Fr (fun _ => False) wr wa) := by rw [← hwa]; exact (Fr.refl _ wr).drew.alloc _
          have HOA : Hid (wa.ownsRow X9.heap.size 116 2 st i (((x.conds.take i).map (rcond t)).flatMap namedc)) := own_fr HC.out.own HFA.out (fun _ _ _ h => h)
          have HNA : Hid (∀ j u, ([.string ⟨(nm t c.name).toArray⟩, .int .i64 c.is_] : List Value)[j]? = some u → wa.cell? ((⟨wr.heap.size, 0, none⟩ : Addr).add j) = some u) := by rw [← hwa]; exact World.news_of_block (cs := #[.string ⟨(nm t c.name).toArray⟩, .int .i64 c.is_]) (t := 116) (fr := (0, 0)) (heap_alloc_new wr.drew _)
          have HSA : Hid (wa.heap.size = wr.heap.size + 1) := by show _ = _; rw [← hwa]; simp
          clear hwa
          refine hK.out _ _ trivial ?_
          clear hK K
          simp only [Act.put, List.setIfInBounds_toArray, List.set_cons_zero, List.set_cons_succ, Reg.Kept]
          refine Reg.G.step (j := 17) (m := []) [] rfl (by kernel_rfl) rfl (by kernel_rfl) (fun K hK => ?_)
          -- Op.call { callee := Callee.builtin Builtin.append, args := #[t81, t97], argTypes := #[50, 50] }
          refine Go.step_append_lies _ rfl (.tmp 81) (.tmp 97) 50 rfl X9.heap.size 116 j0 _ 2 24 Tryd.underlying50 hj hj0 hj1 hj2 rfl (by decide) st i _ (by rfl) HOA.out ⟨wr.heap.size, 0, none⟩ 1 1 [.string ⟨(nm t c.name).toArray⟩, .int .i64 c.is_] (by rfl) rfl HNA.out (by simp [Value.oneCell']) (by decide) (by simp only [maxLen]; omega) (by omega) (by have h1 := HC.out.fr.size; have h2 := HSA.out; omega) (wr.heap.size + 1) HSA.out ?_
          intro gn cn wc g1 g2 g3 _
          have HCN : Hid (CSt wo.heap.size X9 t x.conds (i + 1) (.slice (some ⟨gn, 0, none⟩) (i + 1) cn) wc) := by
            refine ⟨?_, (HC.out.fr.trans HFA.out).grown g2 (fun j hj => .inr ((own_lt HOA.out _ hj).1))⟩
            rw [List.take_add_one, HCI.out, List.map_append, List.flatMap_append]
            exact g1
          clear g1 g2 g3
          refine hK.out _ _ trivial ?_
          clear hK K
          simp only [Act.put, List.setIfInBounds_toArray, List.set_cons_zero, List.set_cons_succ, Reg.Kept]
          refine' Reg.G.pure (i := 18) (v := _) rfl (by rfl) (by kernel_rfl) (by kernel_rfl) (by kernel_rfl) (fun _ _ _ h => h) ?hyr19_18 ?rer19_18
          case hyr19_18 => exact fun w => by first | (go_simp; done) | (go_simp; with_reducible rfl)
          simp only [Act.put, List.setIfInBounds_toArray, List.set_cons_zero, List.set_cons_succ]
          refine Reg.G.done (by kernel_rfl) ?_
          go_wp2_with fail
          go_roundw
          case rel => exact ⟨i + 1, _, by go_num, rfl, hlt2, HCN⟩
          case measure => simp [intOf]; omega
        · have hie : i = x.conds.length := by omega
          have n3 : ¬ ((i : Int) < (x.conds.length : Int)) := by omega
          have HST : Hid (wr.ownsRow X9.heap.size 116 2 st (ren t x).conds.length ((ren t x).conds.flatMap namedc)) := by
            have h := HC.out.own
            rw [hie, List.take_of_length_le (Nat.le_refl _)] at h
            show wr.ownsRow _ _ _ _ (x.conds.map (rcond t)).length _
            rw [List.length_map]
            exact h
          have HC1 : Hid (Fr (fun _ => False) X9 wr) := HC.out.fr
          obtain ⟨Ast, cst, hst⟩ := own_form HST.out
          clear HC
          subst hst
          have f13 : wr.frozen? ⟨wo.heap.size, 13, none⟩ = false := froz_of_blk HXi.out 13
          clear hie hil n1
          go_upto_region 21 with fail
          obtain ⟨X2, hX2⟩ : ∃ X, wr.setCell ⟨wo.heap.size, 13, none⟩ (.slice Ast (ren t x).conds.length cst) = X := ⟨_, rfl⟩
          rw [hX2]
          have HXB : Hid (X2.heap[wo.heap.size]? = some (.cells (ic (ren t x, .slice Ast (ren t x).conds.length cst, sd, sn, sx)).toArray 55 (0, 0))) := by rw [← hX2]; exact (blk_set HXi.out 13 (.slice Ast (ren t x).conds.length cst)).trans rfl
          have HF2 : Hid (Fr (fun k => wo.heap.size ≤ k ∧ k < X9.heap.size) wr X2) := by
            rw [← hX2]
            exact (Fr.refl _ wr).setCell (p := ⟨wo.heap.size, 13, none⟩) (.inl ⟨Nat.le_refl _, HS9.out⟩) _
          have HWX2 : Hid (Fr (fun _ => False) wo X2) := (HWX.out.trans HC1.out).trans' HF2.out (fun j hj h => by omega)
          have HFL : Hid (Flat X2 (ren t x) (.slice Ast (ren t x).conds.length cst) sd sn ∧ IsSlice sx) := by
            have hb : Below wo.heap.size wo X2 := HWX2.out.below (Nat.le_refl _) (fun _ h => h.elim)
            exact ⟨⟨Row.of_own (own_fr HST.out HF2.out (fun j h1 _ h2 => by omega)) (fun _ _ => rfl), HF.out.dates.below hb, HF.out.names.below hb⟩, HIS.out⟩
          clear hX2 f13 q13 HXi HBi
          obtain ⟨p, hp⟩ : ∃ p, ((ren t x, .slice Ast (ren t x).conds.length cst, sd, sn, sx) : Item × Sl) = p := ⟨_, rfl⟩
          rw [hp] at HXB
          have HP1 : Hid (p.1 = ren t x) := by rw [← hp]; rfl
          have HP2 : Hid (p.2.2 = (sd, sn, sx)) := by rw [← hp]; rfl
          have HP3 : Hid (p.2.1 = .slice Ast (ren t x).conds.length cst) := by rw [← hp]; rfl
          have HFP : Hid (Flat X2 p.1 p.2.1 p.2.2.1 p.2.2.2.1 ∧ IsSlice p.2.2.2.2) := by rw [← hp]; exact HFL.out
          have HBS : Hid (∀ w : World, (Instr.buildSlice 24 1 #[(0, .agg (ic p).toArray)]).run Tryd.prog w = .ok (.slice (some ⟨w.heap.size, 0, none⟩) 1 1) (w.alloc (.cells (ic p).toArray 55))) := fun w => bslice_any HFP.out w
          have HONP : Hid (∀ u ∈ ic p, u.oneCell' = true) := fun u hu => by
            have := ic_oneS HFP.out.1 HFP.out.2
            rw [List.all_toArray] at this
            exact List.all_eq_true.1 this u hu
          clear hp HFL
          have HKL : Hid (KL.length ≤ 700) := by
            have h1 := congrArg List.length HGS.out.eq
            rw [List.length_map, List.length_map, List.length_take] at h1
            show _ ≤ _
            omega
          have HTX : Hid (X2.heap[W.heap.size + 1 + 1]? = some (.cells (scells src.name src.frm src.days vi).toArray 26 (0, 0))) := HWX2.out.blk HGS.out.tbk (fun h => h)
          have q5 : X2.cell? ⟨W.heap.size + 1 + 1, 5, none⟩ = some vi := cell_of_blk HTX.out 5
          have HOW : Hid (X2.ownsRow B 55 33 vi KL.length (KL.flatMap ic)) := own_fr (HGS.out.rows.ok (itemRow vi KL) (by simp)) HWX2.out (fun _ _ _ h => h)
          iterate 7 go_step
          refine wpList_load_row rfl 55 _ rfl wo.heap.size rfl 55 (ic p).toArray (0, 0) _ HXB.out Tryd.underlying55 rfl (info_iclS _) ?_
          simp only [Act.put, List.setIfInBounds_toArray, List.set_cons_zero, List.set_cons_succ]
          refine wpList_plain rfl fun _ hK => wp_builtS 24 1 _ rfl #[(0, .agg (ic p).toArray)] (by go_simp) _ _ (HBS.out _) (hK _ _ ?_)
          clear hK
          simp only [Act.put, List.setIfInBounds_toArray, List.set_cons_zero, List.set_cons_succ]
          obtain ⟨wa, hwa⟩ : ∃ v, X2.alloc (.cells (ic p).toArray 55) = v := ⟨_, rfl⟩
          rw [hwa]
          have HFA : Hid (Fr (fun _ => False) X2 wa) := by rw [← hwa]; exact (Fr.refl _ X2).alloc _
          have HOA : Hid (wa.ownsRow B 55 33 vi KL.length (KL.flatMap ic)) := own_fr HOW.out HFA.out (fun _ _ _ h => h)
          have HNA : Hid (∀ j u, (ic p)[j]? = some u → wa.cell? ((⟨X2.heap.size, 0, none⟩ : Addr).add j) = some u) := by rw [← hwa]; exact World.news_of_block (cs := (ic p).toArray) (t := 55) (fr := (0, 0)) (heap_alloc_new X2 _)
          have HSA : Hid (wa.heap.size = X2.heap.size + 1) := by show _ = _; rw [← hwa]; simp
          have HBW2 : Hid (B ≤ wa.heap.size) := by have h1 := HGS.out.fr.size; have h2 := HWX2.out.size; have h3 := HSA.out; have h4 := HB.out; show _ ≤ _; omega
          clear hwa q5
          refine wpList_append_lies wa rfl (.tmp 102) (.tmp 104) 24 rfl B 55 i0 z0 33 368 Tryd.underlying24 hi hz0 hz1 hz2 hzz (by decide) vi KL.length (KL.flatMap ic) (by rfl) HOA.out ⟨X2.heap.size, 0, none⟩ 1 1 (ic p) (by rfl) rfl HNA.out HONP.out (by decide) (by have := HKL.out; simp only [maxLen]; omega) (by have := HKL.out; omega) HBW2.out (X2.heap.size + 1) HSA.out ?_
          intro gn cn wc g1 g2 g3 _
          simp only [Act.put, List.setIfInBounds_toArray, List.set_cons_zero, List.set_cons_succ]
          have HNX : Hid (RSt B (W.heap.size + 1 + 1) src u t z (k + 1) (.slice (some ⟨gn, 0, none⟩) (KL.length + 1) cn) (KL ++ [p]) (wc.setCell ⟨W.heap.size + 1 + 1, 5, none⟩ (.slice (some ⟨gn, 0, none⟩) (KL.length + 1) cn))) :=
            HGS.out.step HB.out HTB.out HWX.out ⟨wr, X2, HC1.out, by rw [HP3.out, HP1.out]; exact HST.out, HF2.out, HFA.out⟩ g1 g2 (by rw [HSA.out]; exact g3) HP.out HP1.out HP2.out
          have HTC : Hid (wc.heap[W.heap.size + 1 + 1]? = some (.cells (scells src.name src.frm src.days vi).toArray 26 (0, 0))) := (Fr.of_grown g2).blk (HFA.out.blk HTX.out (fun h => h)) (fun h => by have h1 := (own_lt HOW.out _ h).1; have h2 := HTB.out; omega)
          clear g1 g2 g3
          have q5 : wc.cell? ⟨W.heap.size + 1 + 1, 5, none⟩ = some vi := cell_of_blk HTC.out 5
          have f5 : wc.frozen? ⟨W.heap.size + 1 + 1, 5, none⟩ = false := froz_of_blk HTC.out 5
          go_wp2_with fail
          go_roundw
          case rel => exact ⟨k + 1, by go_num, hlt, _, KL ++ [p], HNX⟩
          case measure => simp [intOf]; omega
    · have hkz : k = z.length := by omega
      clear hj hj0 hj1 hj2 hi hz0 hz1 hz2 hzi hzz
      have HRBr : Hid (wr.heap[W.heap.size + 1]? = some (.cells #[.string ⟨#[]⟩, .int .i64 0, .int .i64 0, .int .i64 0, .int .i64 0, .slice none 0 0] 26 (0, 0))) := HGS.out.fr.blk HRBu.out (fun e => by omega)
      have HLI := Lib.hid (HGS.out.lies (W := wr) (HZ.out.below HBWr.out))
      obtain ⟨Av, nv1, capv, hvi⟩ := HLI.out.row.form
      have HVO : Hid ((scells src.name src.frm src.days vi).toArray.all (·.oneCell') = true) := by show _ = _; rw [hvi]; simp [scells, sv, nv, Value.oneCell']
      clear hvi
      go_upto_region 22 with fail
      iterate 1 go_step
      refine wpList_load_mid rfl 26 _ rfl (W.heap.size + 1 + 1) 0 rfl (scells src.name src.frm src.days vi) _ (range_of_blk HGS.out.tbk) Tryd.underlying26 rfl (by kernel_rfl) ?_
      simp only [Act.put, List.setIfInBounds_toArray, List.set_cons_zero, List.set_cons_succ]
      refine wpList_store_row rfl 26 _ _ rfl (W.heap.size + 1) (scells src.name src.frm src.days vi).toArray rfl rfl 26 _ HRBr.out (by kernel_rfl) rfl HVO.out ?_
      simp only [Act.put, List.setIfInBounds_toArray, List.set_cons_zero, List.set_cons_succ]
      obtain ⟨w9, hw9⟩ : ∃ w9, wr.setRow (W.heap.size + 1) (scells src.name src.frm src.days vi).toArray = w9 := ⟨_, rfl⟩
      rw [hw9]
      have HF9 : Hid (Fr (fun j => j = W.heap.size + 1) wr w9) := by rw [← hw9]; exact (Fr.refl (fun j => j = W.heap.size + 1) wr).setRow (.inl rfl) _
      have HB9 : Hid (w9.heap[W.heap.size + 1]? = some (.cells (scells src.name src.frm src.days vi).toArray 26 (0, 0))) := by rw [← hw9]; exact blk_row HRBr.out _
      have HBW : Hid (Below W.heap.size W w9) := HBWr.out.trans (HF9.out.below HBWr.out.size (fun k h => by omega))
      have HLI9 : Hid (Lies w9 KL vi) := by
        have st9 : RSt B (W.heap.size + 1 + 1) src w9 t z k vi KL w9 := ⟨HGS.out.rows.fr HF9.out (fun j hj _ e => by have := HTB.out; omega), HF9.out.blk HGS.out.tbk (by omega), Fr.refl _ _, HGS.out.eq, HGS.out.like⟩
        exact st9.lies (W := w9) (HZ.out.below HBW.out)
      have HEQ : Hid (KL.map Prod.fst = (z.map Prod.fst).map (ren t)) := by
        show _ = _
        rw [HGS.out.eq, hkz, List.take_of_length_le (by rw [List.length_map]; exact Nat.le_refl _)]
      clear hw9
      go_wp2_with fail
      refine bodyPost_ret (v := .agg (scells src.name src.frm src.days vi).toArray) (results_blk Tryd.results21 rfl HB9.out Tryd.underlying26 rfl (by kernel_rfl)) rfl ⟨vi, KL, rfl, HLI9.out, HEQ.out, HBW.out⟩
end Go.Proofs.YtdhjibnkebbejaaDoor.Rs
