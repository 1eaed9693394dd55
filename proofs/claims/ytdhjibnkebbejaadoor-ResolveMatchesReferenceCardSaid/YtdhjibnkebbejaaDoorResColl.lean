/-
  What the resolver's method collect does: the tables of names, and which items are members.
-/
import Derived.Test.YtdhjibnkebbejaaDoorResItemC
import Derived.Deep.OwnRows
import Derived.Deep.WholeRow
namespace Go.Proofs.YtdhjibnkebbejaaDoor.Rs
open Go.RowKit Mem Vw Go.ChangeMaps
set_option linter.unusedVariables false
set_option linter.unusedSimpArgs false

theorem setBlock_fr {w : World} {r : Nat} {o0 o : Obj} (h : w.heap[r]? = some o0) : (setBlock w r o).heap[r]? = some o ∧ Fr (fun k => k = r) w (setBlock w r o) := by
  have hlt := lt_of_blk h
  refine ⟨by simp [setBlock, hlt], rfl, rfl, rfl, by simp [setBlock], fun k hk hs => ?_⟩
  simp only [setBlock]
  rw [Array.getElem?_setIfInBounds, if_neg (fun e => hs e.symm)]
def bools (l : List Bool) : Array Value := (l.map Value.bool).toArray
theorem bools_set (l : List Bool) (k : Nat) (b : Bool) : (bools l).setIfInBounds k (.bool b) = bools (l.set k b) := by
  unfold bools
  rw [List.setIfInBounds_toArray, List.map_set]
theorem bools_get {l : List Bool} {k : Nat} (h : k < l.length) : (bools l)[k]? = some (.bool l[k]) := by simp [bools, h]
theorem made_bools (n : Nat) : madeCells #[.bool false] n = bools (List.replicate n false) := by
  apply Array.ext_getElem?
  intro i
  by_cases h : i < n
  · simp [madeCells, bools, h, Nat.mod_one]
  · simp [madeCells, bools, h]
theorem info_bool : (Tryd.prog.info? 4).map (fun i => (i.zero, i.size, i.bytes)) = some (some (.bool false), 1, 1) := by kernel_rfl
/-- The tables and the flags in memory. -/
structure CS (q : Nat) (mi : Nat → Nat) (tb mq n : Nat) (t : Tab) (tw mb : List Bool) (W : World) : Prop where
  ix : ∀ g, g < 6 → W.cell? ⟨q, 18 + g, none⟩ = some (.map (some (mi g)))
  mp : ∀ g, 1 ≤ g → g ≤ 5 → W.heap[mi g]? = some (.map (ents (t g)) (t g).length)
  mc : W.cell? ⟨q, 24, none⟩ = some (.slice (some ⟨mq, 0, none⟩) n n)
  twb : W.heap[tb]? = some (.cells (bools tw) 4 (0, 0))
  mbb : W.heap[mq]? = some (.cells (bools mb) 4 (0, 0))
  lt : tw.length = n
  lm : mb.length = n
/-- The blocks are apart. -/
structure CN (q : Nat) (mi : Nat → Nat) (tb mq : Nat) : Prop where
  inj : ∀ g h, 1 ≤ g → g ≤ 5 → 1 ≤ h → h ≤ 5 → mi g = mi h → g = h
  mn : ∀ g, 1 ≤ g → g ≤ 5 → mi g ≠ q ∧ mi g ≠ tb ∧ mi g ≠ mq
  qn : q ≠ tb ∧ q ≠ mq ∧ tb ≠ mq
section
variable {q : Nat} {mi : Nat → Nat} {tb mq n : Nat} {t : Tab} {tw mb : List Bool} {W W' : World}
theorem CS.fr {S : Nat → Prop} (h : CS q mi tb mq n t tw mb W) (hf : Fr S W W') (h1 : ¬ S q) (h2 : ∀ g, 1 ≤ g → g ≤ 5 → ¬ S (mi g)) (h3 : ¬ S tb) (h4 : ¬ S mq) : CS q mi tb mq n t tw mb W' :=
  ⟨fun g hg => (World.cell?_of_block (a := ⟨q, 18 + g, none⟩) (hf.block q (lt_of_cell (h.ix g hg)) h1)).trans (h.ix g hg), fun g a b => hf.blk (h.mp g a b) (h2 g a b),
   (World.cell?_of_block (a := ⟨q, 24, none⟩) (hf.block q (lt_of_cell h.mc) h1)).trans h.mc, hf.blk h.twb h3, hf.blk h.mbb h4, h.lt, h.lm⟩
theorem CS.far {S : Nat → Prop} (h : CS q mi tb mq n t tw mb W) (hf : Fr S W W') (hS : ∀ k, S k → W.heap.size ≤ k) : CS q mi tb mq n t tw mb W' :=
  h.fr hf (fun hs => by have := hS _ hs; have := lt_of_cell h.mc; omega) (fun g a b hs => by have := hS _ hs; have := lt_of_blk (h.mp g a b); omega) (fun hs => by have := hS _ hs; have := lt_of_blk h.twb; omega) (fun hs => by have := hS _ hs; have := lt_of_blk h.mbb; omega)
theorem CS.setTw (h : CS q mi tb mq n t tw mb W) (hn : CN q mi tb mq) (k : Nat) (b : Bool) : CS q mi tb mq n t (tw.set k b) mb (W.setCell ⟨tb, k, none⟩ (.bool b)) := by
  have hf : Fr (fun j => j = tb) W (W.setCell ⟨tb, k, none⟩ (.bool b)) := (Fr.refl _ W).setb _ _
  refine ⟨fun g hg => (World.cell?_of_block (a := ⟨q, 18 + g, none⟩) (hf.block q (lt_of_cell (h.ix g hg)) hn.qn.1)).trans (h.ix g hg), fun g a b => hf.blk (h.mp g a b) (hn.mn g a b).2.1,
   (World.cell?_of_block (a := ⟨q, 24, none⟩) (hf.block q (lt_of_cell h.mc) hn.qn.1)).trans h.mc, ?_, hf.blk h.mbb (fun e => hn.qn.2.2 e.symm), by rw [List.length_set]; exact h.lt, h.lm⟩
  rw [blk_set h.twb, bools_set]
theorem CS.setMb (h : CS q mi tb mq n t tw mb W) (hn : CN q mi tb mq) (k : Nat) (b : Bool) : CS q mi tb mq n t tw (mb.set k b) (W.setCell ⟨mq, k, none⟩ (.bool b)) := by
  have hf : Fr (fun j => j = mq) W (W.setCell ⟨mq, k, none⟩ (.bool b)) := (Fr.refl _ W).setb _ _
  refine ⟨fun g hg => (World.cell?_of_block (a := ⟨q, 18 + g, none⟩) (hf.block q (lt_of_cell (h.ix g hg)) hn.qn.2.1)).trans (h.ix g hg), fun g a b => hf.blk (h.mp g a b) (hn.mn g a b).2.2,
   (World.cell?_of_block (a := ⟨q, 24, none⟩) (hf.block q (lt_of_cell h.mc) hn.qn.2.1)).trans h.mc, hf.blk h.twb (fun e => hn.qn.2.2 e), ?_, h.lt, by rw [List.length_set]; exact h.lm⟩
  rw [blk_set h.mbb, bools_set]
theorem CS.put (h : CS q mi tb mq n t tw mb W) (hn : CN q mi tb mq) {g : Nat} (h1 : 1 ≤ g) (h5 : g ≤ 5) (x : Bytes) : CS q mi tb mq n (t.add g x) tw mb (setBlock W (mi g) (.map (ents (t g ++ [x])) (t g ++ [x]).length)) := by
  obtain ⟨hb, hf⟩ := setBlock_fr (o := .map (ents (t g ++ [x])) (t g ++ [x]).length) (h.mp g h1 h5)
  have hm := hn.mn g h1 h5
  refine ⟨fun j hj => (World.cell?_of_block (a := ⟨q, 18 + j, none⟩) (hf.block q (lt_of_cell (h.ix j hj)) (fun e => hm.1 e.symm))).trans (h.ix j hj), fun j a b => ?_,
   (World.cell?_of_block (a := ⟨q, 24, none⟩) (hf.block q (lt_of_cell h.mc) (fun e => hm.1 e.symm))).trans h.mc, hf.blk h.twb (fun e => hm.2.1 e.symm), hf.blk h.mbb (fun e => hm.2.2 e.symm), h.lt, h.lm⟩
  by_cases hj : j = g
  · subst hj
    have e : t.add j x j = t j ++ [x] := if_pos rfl
    rw [e]; exact hb
  · have e : t.add g x j = t j := if_neg hj
    rw [e]
    exact hf.blk (h.mp j a b) (fun e => hj (hn.inj j g a b h1 h5 e))
end
/-! ### The flags, item by item -/
theorem marks_len : ∀ (t : Tab) (l : List Item), (marks t l).length = l.length
  | t, [] => rfl
  | t, x :: l => by simp only [marks, List.length_cons, marks_len (put t x) l]
theorem marks_at : ∀ (t : Tab) (l : List Item) (k : Nat) (h : k < l.length), (marks t l)[k]? = some (twice ((l.take k).foldl put t) l[k], member ((l.take k).foldl put t) l[k])
  | t, x :: l, 0, h => rfl
  | t, x :: l, k + 1, h => by
    simp only [marks, List.getElem?_cons_succ, List.take_succ_cons, List.foldl_cons, List.getElem_cons_succ]
    exact marks_at (put t x) l k (by simpa using h)
/-- The first k flags; the others are not set. -/
def upTo (k : Nat) (l : List Bool) : List Bool := l.take k ++ List.replicate (l.length - k) false
theorem upTo_len (k : Nat) (l : List Bool) (h : k ≤ l.length) : (upTo k l).length = l.length := by simp [upTo]; omega
theorem upTo_zero (l : List Bool) : upTo 0 l = List.replicate l.length false := by simp [upTo]
theorem upTo_all (l : List Bool) : upTo l.length l = l := by simp [upTo]
theorem upTo_succ {l : List Bool} {k : Nat} (h : k < l.length) : upTo (k + 1) l = (upTo k l).set k l[k] := by
  have h1 : List.replicate (l.length - k) false = false :: List.replicate (l.length - (k + 1)) false := by rw [show l.length - k = (l.length - (k + 1)) + 1 by omega]; rfl
  have h2 : (l.take k).length = k := by rw [List.length_take]; omega
  unfold upTo
  rw [h1, List.take_succ_eq_append_getElem h, List.set_append_right _ _ (by omega), h2, Nat.sub_self, List.set_cons_zero, List.append_assoc]
  rfl
theorem upTo_get {l : List Bool} {k : Nat} (h : k < l.length) : (upTo k l)[k]? = some false := by
  have h2 : (l.take k).length = k := by rw [List.length_take]; omega
  unfold upTo
  rw [List.getElem?_append_right (by omega), h2, Nat.sub_self, List.getElem?_replicate, if_pos (by omega)]
theorem ic_one {W : World} {p : Item × Sl} (h : Flat W p.1 p.2.1 p.2.2.1 p.2.2.2.1) (hs : IsSlice p.2.2.2.2) : (ic p).toArray.all (·.oneCell') = true := by
  obtain ⟨x, sc, sd, sn, si⟩ := p
  dsimp only at h hs
  obtain ⟨_, _, _, rfl⟩ := h.conds.form
  obtain ⟨_, _, _, rfl⟩ := h.dates.form
  obtain ⟨_, _, _, rfl⟩ := h.names.form
  obtain ⟨_, _, _, rfl⟩ := hs
  simp [ic, icells, Value.oneCell', sv, nv]
theorem set_same {l : List Bool} {k : Nat} {b : Bool} (h : l[k]? = some b) : l.set k b = l := by
  obtain ⟨h1, h2⟩ := List.getElem?_eq_some_iff.1 h
  rw [← h2]; exact List.set_getElem_self h1
/-- What the loop over the items holds. -/
def KRel (q : Nat) (mi : Nat → Nat) (tb mq : Nat) (l : List Item) (W : World) (i : Value) (wr : World) : Prop :=
  ∃ k : Nat, i = .int .i64 (k : Int) ∧ k ≤ l.length ∧ CS q mi tb mq l.length ((l.take k).foldl put tab0) (upTo k ((marks tab0 l).map Prod.fst)) (upTo k ((marks tab0 l).map Prod.snd)) wr ∧ Fr (fun j => j = mq ∨ ∃ g, 1 ≤ g ∧ g ≤ 5 ∧ j = mi g) W wr
theorem group_le (k : Int) : group k ≤ 5 := by
  rcases group_cases k with ⟨h1, e⟩ | ⟨h1, e⟩ | ⟨h1, e⟩ | ⟨h1, e⟩ | ⟨h1, e⟩ | ⟨h1, e⟩ | ⟨h1, e⟩ | ⟨h1, e⟩ | ⟨h1, e⟩ <;> omega
set_option maxRecDepth 100000 in
set_option maxHeartbeats 4000000 in
theorem collect_any (q : Nat) (mi : Nat → Nat) (mq : Nat) (z : List (Item × Sl)) (v : Value) (W Wa : World) (hz : Lies Wa z v) (hba : Below Wa.heap.size Wa W) (hn : CN q mi W.heap.size mq) (hlen : z.length ≤ 1000000)
    (hx : ∀ g, g < 6 → W.cell? ⟨q, 18 + g, none⟩ = some (.map (some (mi g)))) (hm : ∀ g, 1 ≤ g → g ≤ 5 → W.heap[mi g]? = some (.map (ents []) 0)) (hmc : W.cell? ⟨q, 24, none⟩ = some (.slice (some ⟨mq, 0, none⟩) z.length z.length))
    (hmb : W.heap[mq]? = some (.cells (bools (List.replicate z.length false)) 4 (0, 0))) (hbq : Wa.heap.size ≤ mq ∧ ∀ g, 1 ≤ g → g ≤ 5 → Wa.heap.size ≤ mi g) :
    Calls Tryd.prog 27 #[.pointer (some ⟨q, 0, none⟩), v] W fun e w' => e = .returned (.slice (some ⟨W.heap.size, 0, none⟩) z.length z.length) ∧
      CS q mi W.heap.size mq z.length (tabs tab0 (z.map Prod.fst)) ((marks tab0 (z.map Prod.fst)).map Prod.fst) ((marks tab0 (z.map Prod.fst)).map Prod.snd) w' ∧ Fr (fun j => j = mq ∨ ∃ g, 1 ≤ g ∧ g ≤ 5 ∧ j = mi g) W w' := by
  obtain ⟨l, hl⟩ : ∃ l, z.map Prod.fst = l := ⟨_, rfl⟩
  have hll : l.length = z.length := by rw [← hl, List.length_map]
  rw [hl]
  have hml := marks_len tab0 l
  have hf0 : Fr (fun j => j = mq ∨ ∃ g, 1 ≤ g ∧ g ≤ 5 ∧ j = mi g) W (W.alloc (.cells (bools (List.replicate z.length false)) 4)) := (Fr.refl _ W).alloc _
  have HK0 : Hid (KRel q mi W.heap.size mq l W (.int .i64 0) (W.alloc (.cells (bools (List.replicate z.length false)) 4))) := by
    refine ⟨0, rfl, Nat.zero_le _, ?_, hf0⟩
    rw [upTo_zero, upTo_zero, List.length_map, List.length_map, hml, hll]
    have ha : Fr (fun _ => False) W (W.alloc (.cells (bools (List.replicate z.length false)) 4)) := (Fr.refl _ W).alloc _
    exact ⟨fun g hg => (World.cell?_of_block (a := ⟨q, 18 + g, none⟩) (ha.block q (lt_of_cell hmc) (fun h => h))).trans (hx g hg), fun g h1 h5 => ha.blk (hm g h1 h5) (fun h => h),
      (World.cell?_of_block (a := ⟨q, 24, none⟩) (ha.block q (lt_of_cell hmc) (fun h => h))).trans hmc, blk_newn rfl, ha.blk hmb (fun h => h), List.length_replicate, List.length_replicate⟩
  have hmk := fun w => run_make_row' (P := Tryd.prog) 89 4 (.bool false) 1 Tryd.underlying89 info_bool rfl .i64 .i64 z.length (by omega) (by omega) w
  rw [made_bools] at hmk
  obtain ⟨Ai, ci, hv, hc1, hc2⟩ := hz.row.slice
  rw [List.length_map] at hv hc1
  subst hv
  have hzl : z.length ≤ 9223372036854775807 := by omega
  have HZ := Lib.hid hz; have HBA := Lib.hid hba; have HN := Lib.hid hn; have HLL := Lib.hid hll; have HL := Lib.hid hl; have HML := Lib.hid hml; have HBQ := Lib.hid hbq
  clear hz hba hn hll hl hml hx hm hmc hmb hf0 hbq
  go_enter Tryd.func27, Tryd.ntmps27
  go_wp2_with fail
  go_loopw [16] (fun i wr => KRel q mi W.heap.size mq l W i wr) (fun i wr => z.length - (intOf i).toNat)
  case atStart => exact HK0.out
  case round =>
    clear HK0 hmk
    obtain ⟨k, rfl, hk, hC, hF⟩ := hrel
    have HC := Lib.hid hC; have HF := Lib.hid hF
    rw [HLL.out] at hk
    by_cases hlt : k < z.length
    · have HBW : Hid (Below Wa.heap.size Wa wr) := HBA.out.trans (hF.below HBA.out.size (fun j hj => by
        have := HBQ.out
        rcases hj with rfl | ⟨g, h1, h5, rfl⟩
        · exact this.1
        · exact this.2 g h1 h5))
      have hWw : W.heap.size < wr.heap.size := lt_of_blk hC.twb
      clear hC hF
      obtain ⟨g0, o, cap, hs1, hgl, _, _, hat⟩ := (HZ.out.below HBW.out).row.at (by intro e; rw [List.map_eq_nil_iff] at e; rw [e] at hlt; simp at hlt)
      injection hs1 with hA hs2 hs3
      subst hA
      obtain ⟨p, hp⟩ : ∃ p, z[k]? = some p := ⟨_, List.getElem?_eq_getElem hlt⟩
      have HAT : Hid (At wr g0 (o + k * 33) (ic p)) := hat k _ (by rw [List.getElem?_map, hp]; rfl)
      have hfl := HZ.out.flat p (List.mem_of_getElem? hp)
      have HONE : Hid ((ic p).toArray.all (·.oneCell') = true) := ic_one hfl.1 hfl.2
      have hlk : k < l.length := by rw [HLL.out]; exact hlt
      have HLK : Hid (l[k] = p.1) := by
        have h1 : l[k]? = some p.1 := by rw [← HL.out, List.getElem?_map, hp]; rfl
        rw [List.getElem?_eq_getElem hlk] at h1
        exact Option.some.inj h1
      clear hat hs2 hs3 hfl hgl hp
      have i1 : (0 : Int) ≤ (k : Int) := Int.natCast_nonneg _
      have i2 : (k : Int) < (z.length : Int) := by omega
      go_upto_region 4 with fail
      iterate 7 go_step
      refine wpList_load_mid rfl 55 _ rfl g0 (o + k * 33) rfl (ic p) _ HAT.out Tryd.underlying55 rfl info_item ?_
      simp only [Act.put, List.setIfInBounds_toArray, List.set_cons_zero, List.set_cons_succ]
      iterate 6 go_step
      refine wpList_store_row rfl 55 _ _ rfl wr.heap.size (ic p).toArray rfl rfl 55 _ (blk_newn rfl) (info_icl p) rfl HONE.out ?_
      simp only [Act.put, List.setIfInBounds_toArray, List.set_cons_zero, List.set_cons_succ]
      rw [World.setRow_alloc_new]
      obtain ⟨u, hu⟩ : ∃ u, wr.alloc (.cells (ic p).toArray 55) = u := ⟨_, rfl⟩
      rw [hu]
      have HIu : Hid (IB wr.heap.size p.1 p.2 u) := by rw [← hu]; exact blk_newn rfl
      have HCu : Hid (CS q mi W.heap.size mq l.length ((l.take k).foldl put tab0) (upTo k ((marks tab0 l).map Prod.fst)) (upTo k ((marks tab0 l).map Prod.snd)) u) := by rw [← hu]; exact HC.out.far ((Fr.refl (fun _ => False) wr).alloc _) (fun _ h => h.elim)
      have HFu : Hid (Fr (fun j => j = mq ∨ ∃ g, 1 ≤ g ∧ g ≤ 5 ∧ j = mi g) W u) := by rw [← hu]; exact HF.out.alloc _
      have hszu : wr.heap.size < u.heap.size := lt_of_blk HIu.out
      clear hu HC HF
      obtain ⟨tk, htk⟩ : ∃ tk, (l.take k).foldl put tab0 = tk := ⟨_, rfl⟩
      have HSTEP : Hid (∀ w', CS q mi W.heap.size mq l.length (put tk p.1) ((upTo k ((marks tab0 l).map Prod.fst)).set k (twice tk p.1)) ((upTo k ((marks tab0 l).map Prod.snd)).set k (member tk p.1)) w' → Fr (fun j => j = mq ∨ ∃ g, 1 ≤ g ∧ g ≤ 5 ∧ j = mi g) W w' → KRel q mi W.heap.size mq l W (.int .i64 ((k : Int) + 1)) w') := by
        intro w' h1 h2
        have hma := marks_at tab0 l k hlk
        rw [htk, HLK.out] at hma
        have hmk : k < (marks tab0 l).length := by rw [HML.out]; exact hlk
        have e1 : (marks tab0 l)[k] = (twice tk p.1, member tk p.1) := by rw [List.getElem?_eq_getElem hmk] at hma; exact Option.some.inj hma
        refine ⟨k + 1, rfl, hlk, ?_, h2⟩
        rw [List.take_succ_eq_append_getElem hlk, List.foldl_append, htk, HLK.out, upTo_succ (show k < ((marks tab0 l).map Prod.fst).length by rw [List.length_map]; exact hmk), upTo_succ (show k < ((marks tab0 l).map Prod.snd).length by rw [List.length_map]; exact hmk), List.getElem_map, List.getElem_map, e1]
        exact h1
      rw [htk] at HCu
      clear htk
      have hm0 : k < ((marks tab0 l).map Prod.fst).length := by rw [List.length_map, HML.out]; exact hlk
      have hm1 : k < ((marks tab0 l).map Prod.snd).length := by rw [List.length_map, HML.out]; exact hlk
      obtain ⟨ft, hft⟩ : ∃ ft, upTo k ((marks tab0 l).map Prod.fst) = ft := ⟨_, rfl⟩
      obtain ⟨fm, hfm⟩ : ∃ fm, upTo k ((marks tab0 l).map Prod.snd) = fm := ⟨_, rfl⟩
      have HF0 : Hid (ft[k]? = some false) := by rw [← hft]; exact upTo_get hm0
      have HF1 : Hid (fm[k]? = some false) := by rw [← hfm]; exact upTo_get hm1
      rw [hft, hfm] at HCu HSTEP
      clear hft hfm hm0 hm1 HLK hlk
      have k0 : u.cell? ⟨wr.heap.size, 0, none⟩ = some (.int .i64 p.1.kind) := cell_of_blk HIu.out 0
      go_wp2_with fail
      refine (groupOf_any p.1.kind _).mono ?_
      rintro e w1 ⟨rfl, rfl⟩
      obtain ⟨g, hgg⟩ : ∃ g, group p.1.kind = g := ⟨_, rfl⟩
      have hg5 := group_le p.1.kind
      rw [hgg] at hg5 ⊢
      by_cases hg0 : g = 0
      · subst hg0
        have HN : Hid (KRel q mi W.heap.size mq l W (.int .i64 ((k : Int) + 1)) u) := by
          refine HSTEP.out u ?_ HFu.out
          have h1 : twice tk p.1 = false := by unfold twice; simp [hgg]
          have h2 : member tk p.1 = false := by unfold member; simp [hgg]
          have h3 : put tk p.1 = tk := by unfold put; rw [h2]; rfl
          rw [h1, h2, h3, set_same HF0.out, set_same HF1.out]
          exact HCu.out
        clear hgg hg5
        go_wp2_with fail
        go_roundw
        case rel => exact HN.out
        case measure => simp [intOf]; omega
      · have hg1 : 1 ≤ g := by omega
        have i3 : (0 : Int) ≤ (g : Int) := by omega
        have i4 : (g : Int) < 6 := by omega
        have i5 : ((g : Int) == 0) = false := by simp; omega
        have HGG := Lib.hid hgg; clear hgg
        have q18 := HCu.out.ix g (by omega)
        have k1 : u.cell? ⟨wr.heap.size, 1, none⟩ = some (.string ⟨p.1.name.toArray⟩) := cell_of_blk HIu.out 1
        have tc : u.cell? ⟨W.heap.size, k, none⟩ = some (.bool false) := by
          rw [cell_of_blk HCu.out.twb, bools_get (List.getElem?_eq_some_iff.1 HF0.out).1, (List.getElem?_eq_some_iff.1 HF0.out).2]
        have tf := froz_of_blk HCu.out.twb k
        cases hf : (tk g).findIdx? (· == p.1.name) with
        | some j =>
          have hk := look_yes (HCu.out.mp g hg1 hg5) hf
          unfold sv nv at hk
          have HT : Hid (twice tk p.1 = true ∧ member tk p.1 = false) := by
            have hcn : (tk g).contains p.1.name = true := by
              obtain ⟨hj, hd, _⟩ := List.findIdx?_eq_some_iff_getElem.1 hf
              rw [List.contains_iff_mem, ← (show (tk g)[j] = p.1.name by simpa using hd)]
              exact List.getElem_mem hj
            unfold twice member
            rw [HGG.out, hcn, show decide (g ≠ 0) = true from decide_eq_true hg0]
            exact ⟨rfl, rfl⟩
          have HN : Hid (KRel q mi W.heap.size mq l W (.int .i64 ((k : Int) + 1)) (u.setCell ⟨W.heap.size, k, none⟩ (.bool true))) := by
            refine HSTEP.out _ ?_ (HFu.out.setCell (.inr (Nat.le_refl _)) _)
            have h3 : put tk p.1 = tk := by unfold put; rw [HT.out.2]; rfl
            rw [HT.out.1, HT.out.2, h3, set_same HF1.out]
            exact HCu.out.setTw HN.out k true
          clear hf
          go_wp2_with fail
          go_roundw
          case rel => exact HN.out
          case measure => simp [intOf]; omega
        | none =>
          have hk := look_no (HCu.out.mp g hg1 hg5) hf
          unfold sv nv at hk
          have hcn : (tk g).contains p.1.name = false := by
            rw [List.findIdx?_eq_none_iff] at hf
            rw [Bool.eq_false_iff]
            intro h
            rw [List.contains_iff_mem] at h
            simpa using hf _ h
          have HT : Hid (twice tk p.1 = false ∧ member tk p.1 = decide ((tk g).length < most g)) := by
            unfold twice member
            rw [HGG.out, hcn, show decide (g ≠ 0) = true from decide_eq_true hg0]
            exact ⟨rfl, by simp⟩
          clear hcn
          have HFI := Lib.hid hf; clear hf
          go_upto_region 9 with fail
          obtain ⟨u2, hu2⟩ : ∃ u2, u.setCell ⟨W.heap.size, k, none⟩ (.bool false) = u2 := ⟨_, rfl⟩
          rw [hu2]
          have HC2 : Hid (CS q mi W.heap.size mq l.length tk ft fm u2) := by
            have := HCu.out.setTw HN.out k false
            rw [set_same HF0.out, hu2] at this
            exact this
          have HI2 : Hid (IB wr.heap.size p.1 p.2 u2) := by rw [← hu2]; exact blk_farq HIu.out (by omega) _
          have HF2 : Hid (Fr (fun j => j = mq ∨ ∃ g, 1 ≤ g ∧ g ≤ 5 ∧ j = mi g) W u2) := by rw [← hu2]; exact HFu.out.setCell (.inr (Nat.le_refl _)) _
          clear hu2 hk q18 k1 tc tf k0
          have tc : u2.cell? ⟨W.heap.size, k, none⟩ = some (.bool false) := by
            rw [cell_of_blk HC2.out.twb, bools_get (List.getElem?_eq_some_iff.1 HF0.out).1, (List.getElem?_eq_some_iff.1 HF0.out).2]
          have hlm := fun ty => len_map (ty := ty) Tryd.underlying91 (HC2.out.mp g hg1 hg5)
          rw [ents_size] at hlm
          by_cases hr : (tk g).length < most g
          · have HM : Hid (member tk p.1 = true) := by show _ = _; rw [HT.out.2]; simpa using hr
            have k1 : u2.cell? ⟨wr.heap.size, 1, none⟩ = some (.string ⟨p.1.name.toArray⟩) := cell_of_blk HI2.out 1
            have hput := put_new (HC2.out.mp g hg1 hg5) HFI.out
            have HC3 := Lib.hid (HC2.out.put HN.out hg1 hg5 p.1.name)
            have hf3 := (setBlock_fr (o := .map (ents (tk g ++ [p.1.name])) (tk g ++ [p.1.name]).length) (HC2.out.mp g hg1 hg5)).2
            obtain ⟨u3, hu3⟩ : ∃ u3, setBlock u2 (mi g) (.map (ents (tk g ++ [p.1.name])) (tk g ++ [p.1.name]).length) = u3 := ⟨_, rfl⟩
            rw [hu3] at hput HC3 hf3
            unfold sv nv at hput
            have HF3 : Hid (Fr (fun j => j = mq ∨ ∃ g, 1 ≤ g ∧ g ≤ 5 ∧ j = mi g) W u3) := HF2.out.trans (hf3.mono (fun j _ e => .inr ⟨g, hg1, hg5, e⟩))
            clear hu3 hf3
            have q24 := HC3.out.mc
            have mc : u3.cell? ⟨mq, k, none⟩ = some (.bool false) := by
              rw [cell_of_blk HC3.out.mbb, bools_get (List.getElem?_eq_some_iff.1 HF1.out).1, (List.getElem?_eq_some_iff.1 HF1.out).2]
            have mf := froz_of_blk HC3.out.mbb k
            rw [HLL.out] at q24
            have HNN : Hid (KRel q mi W.heap.size mq l W (.int .i64 ((k : Int) + 1)) (u3.setCell ⟨mq, k, none⟩ (.bool true))) := by
              refine HSTEP.out _ ?_ (HF3.out.setCell (.inl (.inl rfl)) _)
              have h3 : put tk p.1 = tk.add g p.1.name := by unfold put; rw [HM.out, HGG.out]; rfl
              rw [HT.out.1, HM.out, h3, set_same HF0.out]
              exact HC3.out.setMb HN.out k true
            go_wp2_with fail
            go_roundw
            case rel => exact HNN.out
            case measure => simp [intOf]; omega
          · have HM : Hid (member tk p.1 = false) := by show _ = _; rw [HT.out.2]; simpa using hr
            have HNN : Hid (KRel q mi W.heap.size mq l W (.int .i64 ((k : Int) + 1)) u2) := by
              refine HSTEP.out _ ?_ HF2.out
              have h3 : put tk p.1 = tk := by unfold put; rw [HM.out]; rfl
              rw [HT.out.1, HM.out, h3, set_same HF0.out, set_same HF1.out]
              exact HC2.out
            go_wp2_with fail
            go_roundw
            case rel => exact HNN.out
            case measure => simp [intOf]; omega
    · obtain rfl : k = z.length := by omega
      have HE : Hid (CS q mi W.heap.size mq z.length (tabs tab0 l) ((marks tab0 l).map Prod.fst) ((marks tab0 l).map Prod.snd) wr) := by
        have h := hC
        have e1 : z.length = ((marks tab0 l).map Prod.fst).length := by rw [List.length_map, HML.out, HLL.out]
        have e2 : z.length = ((marks tab0 l).map Prod.snd).length := by rw [List.length_map, HML.out, HLL.out]
        have f1 : upTo z.length ((marks tab0 l).map Prod.fst) = (marks tab0 l).map Prod.fst := by rw [e1]; exact upTo_all _
        have f2 : upTo z.length ((marks tab0 l).map Prod.snd) = (marks tab0 l).map Prod.snd := by rw [e2]; exact upTo_all _
        have f3 : l.take z.length = l := by rw [← HLL.out]; exact List.take_length
        rw [f1, f2, f3, HLL.out] at h
        exact h
      clear hC hF
      go_wp2_with fail
      go_ret
      exact ⟨rfl, HE.out, HF.out⟩
end Go.Proofs.YtdhjibnkebbejaaDoor.Rs
