/-
  What the reference's Resolve returns: the same as the program's.
-/
import Derived.Test.YtdhjibnkebbejaaDoorResRefS
import Derived.Test.YtdhjibnkebbejaaDoorReg2
import Derived.Deep.DeepCutAuto
namespace Go.Proofs.YtdhjibnkebbejaaDoor.Rs
open Go.RowKit Mem Vw
set_option linter.unusedVariables false
set_option linter.unusedSimpArgs false

theorem info_tabs {vs : List Value} (h : vs.length = 6) : (Tryd.prog.info? 100).map (·.size) = some vs.toArray.size := by
  rw [show vs.toArray.size = 6 from h]
  kernel_rfl
theorem bsl_str (n : Bytes) (w : World) : (Instr.buildSlice 33 1 #[(0, .string ⟨n.toArray⟩)]).run Tryd.prog w = .ok (.slice (some ⟨w.heap.size, 0, none⟩) 1 1) (w.alloc (.cells #[.string ⟨n.toArray⟩] 9)) := by kernel_rfl
theorem rerr_none {t : Tab} {x : Item} (hg : group x.kind = 0) : rerr0 t x = 0 ∧ put t x = t ∧ rerr t x = if x.kind = 4 ∨ x.kind = 5 then 0 else 10 := by
  unfold rerr0 put rerr member
  simp [hg]
theorem rerr_some {t : Tab} {x : Item} (hg : group x.kind ≠ 0) : rerr t x = rerr0 t x ∧ (rerr0 t x = 0 → put t x = t.add (group x.kind) x.name) ∧ (rerr0 t x ≠ 0 → put t x = t) := by
  unfold rerr0 put rerr member
  rw [if_neg hg, if_neg hg]
  refine ⟨rfl, fun h => ?_, fun h => ?_⟩
  · by_cases hc : x.name ∈ t (group x.kind)
    · simp [hc] at h
    · by_cases hl : (t (group x.kind)).length < most (group x.kind)
      · simp [hg, hc, hl]
      · simp [hc, hl] at h
  · by_cases hc : x.name ∈ t (group x.kind)
    · simp [hg, hc]
    · by_cases hl : (t (group x.kind)).length < most (group x.kind)
      · simp [hc, hl] at h
      · simp [hg, hc, hl]
theorem tlen_le {l : List Item} (k g : Nat) : (tabs tab0 (l.take k) g).length ≤ k := by
  have : ∀ (l : List Item) (t : Tab), (tabs t l g).length ≤ (t g).length + l.length := by
    intro l
    induction l with
    | nil => intro t; exact Nat.le_refl _
    | cons x l ih =>
      intro t
      rw [tabs_cons]
      refine Nat.le_trans (ih _) ?_
      have : (put t x g).length ≤ (t g).length + 1 := by
        unfold put Tab.add
        split
        · dsimp only
          split
          · rw [List.length_append]; simp
          · omega
        · omega
      rw [List.length_cons]; omega
  have h := this (l.take k) tab0
  have h2 : (l.take k).length ≤ k := by rw [List.length_take]; omega
  have h3 : (tab0 g).length = 0 := rfl
  omega
/-- What the first loop holds. -/
def L1 (src : Source) (u : World) (B tb eb : Nat) (i : Value) (wr : World) : Prop :=
  ∃ (k : Nat) (vs : List Value), i = .int .i64 (k : Int) ∧ k ≤ src.items.length ∧ Hid (TS u B tb eb (tabs tab0 (src.items.take k)) vs (errsK src.items k) wr)
/-- What the second loop holds. -/
def L2 (src : Source) (y : World) (B q : Nat) (T : Tab) (fv i : Value) (wr : World) : Prop :=
  ∃ (k : Nat) (s : Sy) (f : List Fault) (H : RH) (cl : List (ClauseSym × Value)) (vv : Value), vv = fv ∧ i = .int .i64 (k : Int) ∧ k ≤ src.items.length ∧ Hid (H.flt.v = vv) ∧ Hid (QS src y B q s f H cl wr) ∧ Hid (Lens s f k) ∧
    Hid (ritems T s f (src.items.drop k) ((rerrs tab0 src.items).drop k) = rrun src.items)
theorem drop_get {α : Type} {l : List α} {k : Nat} {x : α} (h : l[k]? = some x) : l.drop k = x :: l.drop (k + 1) := by
  obtain ⟨h1, h2⟩ := List.getElem?_eq_some_iff.1 h
  rw [List.drop_eq_getElem_cons h1, h2]
theorem wpList_load_rowG {P : Program} {ops : Array Oper} {rest : List Oper} {o : Oper} {a : Act} {w : World} {Q : Exit → Act → World → Prop} (hw : Region.wanted o (yielded ops a.tmps) = true) (ty : TypeId) (x : Operand) (ho : o.op = .load ty x)
    (g : Nat) (hx : a.eval x = .pointer (some ⟨g, 0, none⟩)) (t : TypeId) (cs : Array Value) (fr : Nat × Nat) (d : TypeDesc) (hg : w.heap[g]? = some (.cells cs t fr))
    (hu : P.underlying ty = some d) (hd : d.isRow = true) (hi : (P.info? ty).map (·.size) = some cs.size) (h : wpList P ops Q rest (a.put o.dst (.agg cs)) w) : wpList P ops Q (o :: rest) a w :=
  wpList_step fun _ hK => by rw [if_pos hw]; exact wp_load_row ty x ho g hx t cs fr d hg hu (by cases d <;> first | rfl | exact hd) hi (hK _ _ h)
theorem errsK_all (l : List Item) : errsK l l.length = rerrs tab0 l := by
  unfold errsK
  rw [Nat.sub_self, List.replicate_zero, List.append_nil, List.take_of_length_le (by rw [rerrs_length]; exact Nat.le_refl _)]
theorem build_sym (src : Source) (w : World) : (Instr.build 39 #[(0, .string ⟨src.name.toArray⟩), (1, .agg #[.int .i64 src.frm.y, .int .i64 src.frm.m, .int .i64 src.frm.d]), (2, .int .i64 src.days)]).run Tryd.prog w = .ok (.agg (symc src sy0.weekend (H0 (frow Vw.nil []))).toArray) w := by kernel_rfl
theorem build_symz (w : World) : (Instr.build 39 #[]).run Tryd.prog w = .ok (.agg symz.toArray) w := by kernel_rfl
theorem one_sym0 (src : Source) : (symc src sy0.weekend (H0 (frow Vw.nil []))).toArray.all (·.oneCell') = true := by simp [symc, H0, sv, nv, Vw.nil, Value.oneCell']
theorem bslR_fault (a b : Int) (w : World) : (Instr.buildSlice 40 1 #[(0, .agg #[.int .i64 a, .int .i64 b])]).run Tryd.prog w = .ok (.slice (some ⟨w.heap.size, 0, none⟩) 1 1) (w.alloc (.cells #[.int .i64 a, .int .i64 b] 82)) := by kernel_rfl
theorem bslR_role (n : ByteArray) (b : Int) (w : World) : (Instr.buildSlice 34 1 #[(0, .agg #[.string n, .int .i64 b])]).run Tryd.prog w = .ok (.slice (some ⟨w.heap.size, 0, none⟩) 1 1) (w.alloc (.cells #[.string n, .int .i64 b] 59)) := by kernel_rfl
theorem bslR_unit (n : ByteArray) (b c d e : Int) (w : World) : (Instr.buildSlice 35 1 #[(0, .agg #[.string n, .int .i64 b, .int .i64 c, .int .i64 d, .int .i64 e])]).run Tryd.prog w = .ok (.slice (some ⟨w.heap.size, 0, none⟩) 1 1) (w.alloc (.cells #[.string n, .int .i64 b, .int .i64 c, .int .i64 d, .int .i64 e] 61)) := by kernel_rfl
theorem bslR_act (n : ByteArray) (a b c d e f g h : Int) (w : World) : (Instr.buildSlice 36 1 #[(0, .agg #[.string n, .int .i64 a, .int .i64 b, .int .i64 c, .int .i64 d, .int .i64 e, .int .i64 f, .int .i64 g, .int .i64 h])]).run Tryd.prog w = .ok (.slice (some ⟨w.heap.size, 0, none⟩) 1 1) (w.alloc (.cells #[.string n, .int .i64 a, .int .i64 b, .int .i64 c, .int .i64 d, .int .i64 e, .int .i64 f, .int .i64 g, .int .i64 h] 65)) := by kernel_rfl
theorem bldR_act (n : ByteArray) (a b c d e f g h : Int) (w : World) : (Instr.build 65 #[(0, .string n), (1, .int .i64 a), (2, .agg #[.int .i64 b, .int .i64 c, .int .i64 d, .int .i64 e, .int .i64 f, .int .i64 g, .int .i64 h])]).run Tryd.prog w = .ok (.agg #[.string n, .int .i64 a, .int .i64 b, .int .i64 c, .int .i64 d, .int .i64 e, .int .i64 f, .int .i64 g, .int .i64 h]) w := by kernel_rfl
theorem bldR_cla (n : ByteArray) (p : Int) (wa : Int) (wb : Bool) (wc : ByteArray) (ga : Int) (gb : Bool) (gc : ByteArray) (k r a d : Int) (A : Option Addr) (m c : Nat) (fn : Bool) (ps rs v1 v2 un tt : Int) (w : World) :
    (Instr.build 71 #[(0, .string n), (1, .int .i64 p), (2, .agg #[.int .i64 wa, .bool wb, .string wc]), (3, .agg #[.int .i64 ga, .bool gb, .string gc]), (4, .agg #[.int .i64 k, .int .i64 r, .int .i64 a, .int .i64 d, .slice A m c, .int .i64 0, .int .i64 0, .bool false, .bool fn, .int .i64 ps, .int .i64 rs, .int .i64 v1, .int .i64 v2, .int .i64 un, .int .i64 tt, .bool false])]).run Tryd.prog w =
      .ok (.agg #[.string n, .int .i64 p, .int .i64 wa, .bool wb, .string wc, .int .i64 ga, .bool gb, .string gc, .int .i64 k, .int .i64 r, .int .i64 a, .int .i64 d, .slice A m c, .int .i64 0, .int .i64 0, .bool false, .bool fn, .int .i64 ps, .int .i64 rs, .int .i64 v1, .int .i64 v2, .int .i64 un, .int .i64 tt, .bool false]) w := by kernel_rfl
theorem run_built {P : Program} {ev : Operand → Value} {o : Oper} {w : World} (t : TypeId) (parts : Array (Nat × Operand)) (hop : o.op = .build t parts) (ps : Array (Nat × Value)) (hp : parts.map (fun (i, x) => (i, ev x)) = ps) (v : Value) (hb : (Instr.build t ps).run P w = .ok v w) : (execOp ev o).run P w = .ok (.value v) w := by
  simp [execOp, hop, hp, hb, Result.andThen]
theorem bslR_cla (n : ByteArray) (p : Int) (wa : Int) (wb : Bool) (wc : ByteArray) (ga : Int) (gb : Bool) (gc : ByteArray) (k r a d : Int) (A : Option Addr) (m c : Nat) (fn : Bool) (ps rs v1 v2 un tt : Int) (w : World) :
    (Instr.buildSlice 37 1 #[(0, .agg #[.string n, .int .i64 p, .int .i64 wa, .bool wb, .string wc, .int .i64 ga, .bool gb, .string gc, .int .i64 k, .int .i64 r, .int .i64 a, .int .i64 d, .slice A m c, .int .i64 0, .int .i64 0, .bool false, .bool fn, .int .i64 ps, .int .i64 rs, .int .i64 v1, .int .i64 v2, .int .i64 un, .int .i64 tt, .bool false])]).run Tryd.prog w =
      .ok (.slice (some ⟨w.heap.size, 0, none⟩) 1 1) (w.alloc (.cells #[.string n, .int .i64 p, .int .i64 wa, .bool wb, .string wc, .int .i64 ga, .bool gb, .string gc, .int .i64 k, .int .i64 r, .int .i64 a, .int .i64 d, .slice A m c, .int .i64 0, .int .i64 0, .bool false, .bool fn, .int .i64 ps, .int .i64 rs, .int .i64 v1, .int .i64 v2, .int .i64 un, .int .i64 tt, .bool false] 71)) := by kernel_rfl
theorem rstart_len (t : Tab) (x : Item) : (rclause t x).start.length = x.conds.length := by simp [rclause]
theorem QS.row {src : Source} {u W : World} {B q : Nat} {s : Sy} {f : List Fault} {H : RH} {cl : List (ClauseSym × Value)} (h : QS src u B q s f H cl W) {r : OR} (hr : r ∈ qrows s H cl) : W.ownsRow B r.e r.size r.v r.n r.xs := h.rows.ok r hr
theorem ritem_of {T : Tab} {s : Sy} {x : Item} {e0 : Int} {s1 : Sy} {e1 : Int} (hs : ({ s with hol := (rhol s x e0).1 } : Sy) = s1) (he : (rhol s x e0).2 = e1) : ritem T s x e0 = if rerr2 T x e1 = 0 then (rweek (radd T s1 x) x, 0) else (s1, rerr2 T x e1) := by
  unfold ritem
  rw [hs, he]
theorem rweek_lens (s : Sy) (x : Item) : (rweek s x).parties = s.parties ∧ (rweek s x).roles = s.roles ∧ (rweek s x).units = s.units ∧ (rweek s x).acts = s.acts ∧ (rweek s x).clauses = s.clauses ∧ (rweek s x).hol = s.hol := by
  unfold rweek
  split <;> exact ⟨rfl, rfl, rfl, rfl, rfl, rfl⟩
/-- What the loop over the weekdays holds. -/
def L3 (src : Source) (y : World) (B q xb : Nat) (s : Sy) (f : List Fault) (H : RH) (cl : List (ClauseSym × Value)) (x : Item) (sl : Sl) (i : Value) (wr : World) : Prop :=
  ∃ j : Nat, i = .int .i64 (j : Int) ∧ j ≤ 7 ∧ Hid (QS src y B q { s with weekend := orK j s.weekend x.days } f H cl wr) ∧ Hid (wr.heap[xb]? = some (.cells (ic (x, sl)).toArray 55 (0, 0)))
theorem symc_week (src : Source) (wk : List Bool) (H : RH) {k : Nat} (hk : k < 7) : (symc src wk H)[5 + k]? = some (.bool (wk.getD k false)) := by
  rcases seven_cases hk with rfl | rfl | rfl | rfl | rfl | rfl | rfl <;> rfl
theorem ic_day (x : Item) (sl : Sl) {k : Nat} (hk : k < 7) : (ic (x, sl))[23 + k]? = some (.bool (x.days.getD k false)) := by
  rcases seven_cases hk with rfl | rfl | rfl | rfl | rfl | rfl | rfl <;> rfl
theorem sy_ext {a b : Sy} (h1 : a.weekend = b.weekend) (h2 : a.hol = b.hol) (h3 : a.parties = b.parties) (h4 : a.roles = b.roles) (h5 : a.units = b.units) (h6 : a.acts = b.acts) (h7 : a.clauses = b.clauses) : a = b := by
  cases a; cases b
  simp only at h1 h2 h3 h4 h5 h6 h7
  subst h1 h2 h3 h4 h5 h6 h7
  rfl
/-- The reference's answer is the program's. -/
theorem sort_ref {r h : List Int} (H : HR r h) (h4 : h.length ≤ 400) : r = dsort h := by
  have hp : r.Perm h := by
    rcases H.2 with h1 | h1
    · exact h1
    · omega
  refine List.Perm.eq_of_pairwise (le := fun x y => x ≤ y) (fun a b _ _ h1 h2 => by omega) (H.1.imp (fun h => by omega)) (dsort_pair h) ?_
  exact hp.trans (List.mergeSort_perm h _).symm
set_option maxRecDepth 100000 in
set_option maxHeartbeats 16000000 in
theorem rresolve_any (src : Source) (v : Value) (z : List (Item × Sl)) (W : World) (hz : Lies W z v) (hs : z.map Prod.fst = src.items) (hlen : z.length ≤ 1000000) (hok : ∀ x ∈ src.items, ItemOk x ∧ x.conds.length ≤ 1000000) :
    Calls Tryd.prog 13 #[.agg (scells src.name src.frm src.days v).toArray] W fun e w' => ∃ v, e = .returned v ∧ ResOut src W w' v ∧ Below W.heap.size W w' := by
  obtain ⟨Ai, ci, hv, hc1, hc2⟩ := hz.row.slice
  rw [List.length_map] at hv hc1
  subst hv
  have hzl : z.length ≤ 9223372036854775807 := by omega
  have HLEN := Lib.hid hlen
  have hmk := fun w => run_make_row' (P := Tryd.prog) 101 80 (.int .i64 0) 8 Tryd.underlying101 info_errno rfl .i64 .i64 z.length (by omega) (by omega) w
  rw [made_ints] at hmk
  have HMK := Lib.hid hmk
  obtain ⟨w0, HW0⟩ : ∃ w0, Hid ((W.alloc (.cells (scells src.name src.frm src.days (.slice Ai z.length ci)).toArray 26)).alloc (.cells #[.string ⟨#[]⟩, .int .i64 0, .int .i64 0, .int .i64 0, .int .i64 0, .bool false, .bool false, .bool false, .bool false, .bool false, .bool false, .bool false, .slice none 0 0, .slice none 0 0, .slice none 0 0, .slice none 0 0, .slice none 0 0, .slice none 0 0] 39) = w0) := ⟨_, rfl⟩
  have HSB0 : Hid (w0.heap[W.heap.size]? = some (.cells (scells src.name src.frm src.days (.slice Ai z.length ci)).toArray 26 (0, 0))) := by rw [← HW0.out]; exact blk_alloc (blk_newn rfl) _
  have HRB0 : Hid (w0.heap[W.heap.size + 1]? = some (.cells symz.toArray 39 (0, 0))) := by rw [← HW0.out]; exact blk_newn (by simp)
  have HSZ0 : Hid (w0.heap.size = W.heap.size + 2) := by show _ = _; rw [← HW0.out]; simp
  have HF0 : Hid (Fr (fun _ => False) W w0) := by rw [← HW0.out]; exact ((Fr.refl _ W).alloc _).alloc _
  have HBW0 : Hid (Below W.heap.size W w0) := HF0.out.below (Nat.le_refl _) (fun _ h => h.elim)
  have HZ := Lib.hid hz; have HS := Lib.hid hs; have HOK := Lib.hid hok
  have HZL : Hid (z.length = src.items.length) := by show _ = _; rw [← hs, List.length_map]
  clear hz hs hok hmk hc1 hc2
  go_enter Tryd.func13, Tryd.ntmps13
  go_upto_region 1 with fail
  rw [HW0.out]
  clear HW0
  go_upto_region 2 with fail
  obtain ⟨u1, hu1⟩ : ∃ u, w0.alloc (.cells #[.slice none 0 0, .slice none 0 0, .slice none 0 0, .slice none 0 0, .slice none 0 0, .slice none 0 0] 100) = u := ⟨_, rfl⟩
  rw [hu1]
  have HTB1 : Hid (u1.heap[w0.heap.size]? = some (.cells #[.slice none 0 0, .slice none 0 0, .slice none 0 0, .slice none 0 0, .slice none 0 0, .slice none 0 0] 100 (0, 0))) := by rw [← hu1]; exact blk_newn rfl
  have HS1 : Hid (u1.heap.size = w0.heap.size + 1) := by show _ = _; rw [← hu1]; simp
  have HF1 : Hid (Fr (fun _ => False) w0 u1) := by rw [← hu1]; exact (Fr.refl _ w0).alloc _
  clear hu1
  have k5 : u1.cell? ⟨W.heap.size, 5, none⟩ = some (.slice Ai z.length ci) := (cell_of_blk (HF1.out.blk HSB0.out (fun h => h)) 5).trans rfl
  have hmk := HMK.out
  go_upto_region 3 with fail
  obtain ⟨u2, hu2⟩ : ∃ u, u1.alloc (.cells (Array.replicate z.length (nv 0)) 80) = u := ⟨_, rfl⟩
  rw [hu2]
  have hrep : Array.replicate z.length (nv 0) = ((List.replicate z.length (0 : Int)).map nv).toArray := by simp
  rw [hrep] at hu2
  have HEB2 : Hid (u2.heap[u1.heap.size]? = some (.cells ((List.replicate z.length (0 : Int)).map nv).toArray 80 (0, 0))) := by rw [← hu2]; exact blk_newn rfl
  have HTB2 : Hid (u2.heap[w0.heap.size]? = some (.cells #[.slice none 0 0, .slice none 0 0, .slice none 0 0, .slice none 0 0, .slice none 0 0, .slice none 0 0] 100 (0, 0))) := by rw [← hu2]; exact blk_alloc HTB1.out _
  have HF2 : Hid (Fr (fun _ => False) w0 u2) := by rw [← hu2]; exact HF1.out.alloc _
  obtain ⟨B, hB⟩ : ∃ B, u2.heap.size = B := ⟨_, rfl⟩
  have HB : Hid (B = w0.heap.size + 2) := by show _ = _; rw [← hB, ← hu2]; simp; have := HS1.out; omega
  have HT0 : Hid (TS w0 B w0.heap.size u1.heap.size (tabs tab0 (src.items.take 0)) [.slice none 0 0, .slice none 0 0, .slice none 0 0, .slice none 0 0, .slice none 0 0, .slice none 0 0] (errsK src.items 0) u2) := by
    have h1 := HB.out; have h2 := HS1.out
    refine ⟨⟨fun r hr => ?_, ?_⟩, HTB2.out, ?_, rfl, ⟨Nat.le_refl _, by omega, by omega⟩, HF2.out.below (Nat.le_refl _) (fun _ h => h.elim), by omega⟩
    · simp only [rowsT, List.range, List.range.loop, List.map_cons, List.map_nil, List.mem_cons, List.not_mem_nil, or_false] at hr
      rcases hr with rfl | rfl | rfl | rfl | rfl | rfl <;> exact World.ownsRow_nil _ _ _ _
    · simp [rowsT, rowT, List.range, List.range.loop, List.pairwise_cons, OR.apart, Value.ownBlock]
    · have := HEB2.out
      rw [HZL.out] at this
      exact this
  clear hrep hu2 hB hmk k5 HMK HTB1 HEB2 HTB2 HF1
  obtain ⟨eb, heb⟩ : ∃ eb, u1.heap.size = eb := ⟨_, rfl⟩
  rw [heb] at HT0 ⊢
  have HEBS : Hid (eb = w0.heap.size + 1) := by show _ = _; rw [← heb, HS1.out]
  clear heb HS1 HF2
  have k5 : u2.cell? ⟨W.heap.size, 5, none⟩ = some (.slice Ai z.length ci) := (cell_of_blk ((HT0.out.ba.block _ (lt_of_blk HSB0.out)).trans HSB0.out) 5).trans rfl
  obtain ⟨j0, hj, hj0, hj1, hj2⟩ := info_parts info_str
  go_wp2_with fail
  go_loopw [6] (fun i wr => L1 src w0 B w0.heap.size eb i wr) (fun i _ => z.length - (intOf i).toNat)
  case atStart => exact ⟨0, _, rfl, Nat.zero_le _, HT0⟩
  case round =>
    clear k5 HT0
    obtain ⟨k, vs, rfl, hk, HT⟩ := hrel
    have i1 : (0 : Int) ≤ (k : Int) := Int.natCast_nonneg _
    have HSBr : Hid (wr.heap[W.heap.size]? = some (.cells (scells src.name src.frm src.days (.slice Ai z.length ci)).toArray 26 (0, 0))) := (HT.out.ba.block _ (lt_of_blk HSB0.out)).trans HSB0.out
    have HBWr : Hid (Below W.heap.size W wr) := HBW0.out.trans (HT.out.ba.mono HBW0.out.size)
    by_cases hlt : k < z.length
    · have i2 : (k : Int) < (z.length : Int) := by omega
      obtain ⟨g0, o, cap, hs1, hgl, _, _, hat⟩ := (HZ.out.below HBWr.out).row.at (by intro e; rw [List.map_eq_nil_iff] at e; rw [e] at hlt; simp at hlt)
      have hAi : Ai = some ⟨g0, o, none⟩ := by injection hs1
      subst hAi
      obtain ⟨p, hp⟩ : ∃ p, z[k]? = some p := ⟨_, List.getElem?_eq_getElem hlt⟩
      have HAT : Hid (At wr g0 (o + k * 33) (ic p)) := hat k _ (by rw [List.getElem?_map, hp]; rfl)
      have hfl := HZ.out.flat p (List.mem_of_getElem? hp)
      have HONE : Hid ((ic p).toArray.all (·.oneCell') = true) := ic_one hfl.1 hfl.2
      have HPK : Hid (src.items[k]? = some p.1) := by show _ = _; rw [← HS.out, List.getElem?_map, hp]; rfl
      have k5 : wr.cell? ⟨W.heap.size, 5, none⟩ = some (.slice (some ⟨g0, o, none⟩) z.length ci) := (cell_of_blk HSBr.out 5).trans rfl
      clear hat hs1 hfl hgl hp
      go_upto_region 6 with fail
      iterate 13 go_step
      refine wpList_load_mid rfl 55 _ rfl g0 (o + k * 33) rfl (ic p) _ HAT.out Tryd.underlying55 rfl info_item ?_
      simp only [Act.put, List.setIfInBounds_toArray, List.set_cons_zero, List.set_cons_succ]
      iterate 3 go_step
      refine wpList_store_row rfl 55 _ _ rfl wr.heap.size (ic p).toArray rfl rfl 55 _ (blk_newn rfl) (info_icl p) rfl HONE.out ?_
      simp only [Act.put, List.setIfInBounds_toArray, List.set_cons_zero, List.set_cons_succ]
      rw [World.setRow_alloc_new]
      obtain ⟨u, hu⟩ : ∃ u, wr.alloc (.cells (ic p).toArray 55) = u := ⟨_, rfl⟩
      rw [hu]
      have HIB : Hid (u.heap[wr.heap.size]? = some (.cells (ic p).toArray 55 (0, 0))) := by rw [← hu]; exact blk_newn rfl
      have HFu : Hid (Fr (fun _ => False) wr u) := by rw [← hu]; exact (Fr.refl _ wr).alloc _
      have HTu := Lib.hid (HT.out.fr HFu.out)
      clear hu k5 HAT HONE
      have HME := Lib.hid (rmember_any _ vs p u HTu.out.tv)
      go_upto_region 7 with fail
      iterate 7 go_step
      refine wpList_load_row rfl 100 _ rfl w0.heap.size rfl 100 vs.toArray (0, 0) _ HTu.out.tbk Tryd.underlying100 rfl (info_tabs HTu.out.len) ?_
      simp only [Act.put, List.setIfInBounds_toArray, List.set_cons_zero, List.set_cons_succ]
      refine wpList_load_row rfl 55 _ rfl wr.heap.size rfl 55 (ic p).toArray (0, 0) _ HIB.out Tryd.underlying55 rfl (info_icl p) ?_
      simp only [Act.put, List.setIfInBounds_toArray, List.set_cons_zero, List.set_cons_succ]
      obtain ⟨tk, htk⟩ : ∃ t, tabs tab0 (src.items.take k) = t := ⟨_, rfl⟩
      have HTK := Lib.hid htk
      rw [htk] at HTu HME
      obtain ⟨e0, he0⟩ : ∃ e, rerr0 tk p.1 = e := ⟨_, rfl⟩
      rw [he0] at HME
      have HE0 := Lib.hid he0
      have HLO1 : Hid (B ≤ wr.heap.size) := HT.out.le
      have HLWR : Hid (∀ (g : Nat) (A : Option Addr) (c : Nat), g < 6 → vs.getD g Vw.nil = .slice A (tk g).length c → ∀ j, (Value.slice A (tk g).length c).ownBlock = some j → B ≤ j ∧ j < wr.heap.size) := fun g A c hg hv j hj => by
        have h0 : wr.ownsRow B 9 1 (vs.getD g Vw.nil) (tabs tab0 (src.items.take k) g).length ((tabs tab0 (src.items.take k) g).map sv) := HT.out.ok hg
        exact own_lt h0 j (by rw [hv]; exact hj)
      clear htk he0 HT
      go_wp2_with fail
      refine HME.out.mono ?_
      rintro e w1 ⟨rfl, hf⟩
      have HT1 := Lib.hid (HTu.out.fr hf)
      have HI1 : Hid (w1.heap[wr.heap.size]? = some (.cells (ic p).toArray 55 (0, 0))) := hf.blk HIB.out (fun h => h)
      have hki : k < src.items.length := by rw [← HZL.out]; exact hlt
      have HKI := Lib.hid hki
      have HES : Hid (((errsK src.items k).map nv).length = z.length) := by show _ = _; rw [List.length_map, errsK_len _ (Nat.le_of_lt hki), HZL.out]
      obtain ⟨old, hold⟩ : ∃ old, ((errsK src.items k).map nv).toArray[k]? = some old := ⟨_, by rw [List.getElem?_toArray]; exact List.getElem?_eq_getElem (by rw [HES.out]; exact hlt)⟩
      have ke : w1.cell? ⟨eb, k, none⟩ = some old := (cell_of_blk HT1.out.ebk k).trans hold
      have fe : w1.frozen? ⟨eb, k, none⟩ = false := froz_of_blk HT1.out.ebk k
      clear hf HME HTu HFu HIB hki hold
      go_upto_region 8 with fail
      obtain ⟨w2, hw2⟩ : ∃ w, w1.setCell ⟨eb, k, none⟩ (.int .i64 e0) = w := ⟨_, rfl⟩
      rw [hw2]
      have HT2 : Hid (TS w0 B w0.heap.size eb tk vs ((errsK src.items k).set k e0) w2) := by rw [← hw2]; exact HT1.out.err k e0
      have HIW : Hid (Below w1.heap.size w1 w1) := Below.refl _ _
      have HI2 : Hid (w2.heap[wr.heap.size]? = some (.cells (ic p).toArray 55 (0, 0))) := by rw [← hw2]; exact blk_farq HI1.out (by have h1 := HT1.out.lo; have h2 := HT1.out.le; have h3 := HBWr.out.size; have h4 := HEBS.out; have h5 := HLO1.out; omega) _
      clear hw2 ke fe HT1 HI1 HIW
      obtain ⟨x, sl⟩ := p
      dsimp only at HPK HE0
      have q0 : w2.cell? ⟨wr.heap.size, 0, none⟩ = some (.int .i64 x.kind) := (cell_of_blk HI2.out 0).trans rfl
      have ke : w2.cell? ⟨eb, k, none⟩ = some (.int .i64 e0) := by
        rw [cell_of_blk HT2.out.ebk, List.getElem?_toArray, List.getElem?_map, errsK_get HKI.out]
        rfl
      have HG := Lib.hid (rgroup_any x.kind w2)
      go_wp2_with fail
      refine HG.out.mono ?_
      rintro e w3 ⟨rfl, hw3⟩
      have hw3 := hw3.symm
      subst hw3
      as_aux_lemma =>
        have HSET := Lib.hid (errsK_set HPK.out)
        have HTAB := Lib.hid (tabs_take HPK.out tab0)
        rw [HTK.out] at HSET HTAB
        by_cases hg : group x.kind = 0
        · obtain ⟨r1, r2, r3⟩ := rerr_none (t := tk) hg
          obtain rfl : e0 = 0 := by rw [← HE0.out, r1]
          have HR3 := Lib.hid r3
          rw [r2] at HTAB
          clear r1 r2 r3
          rw [hg] at HG ⊢
          clear hg
          by_cases h45 : x.kind = 4 ∨ x.kind = 5
          · have HTN : Hid (TS w0 B w0.heap.size eb (tabs tab0 (src.items.take (k + 1))) vs (errsK src.items (k + 1)) w2) := by
              rw [HTAB.out, ← HSET.out, HR3.out, if_pos h45]; exact HT2.out
            clear HR3
            rcases h45 with h4 | h5
            · rw [h4] at q0 HG
              clear h4
              go_wp2_with fail
              refine HG.out.mono ?_
              rintro e w3 ⟨rfl, rfl⟩
              go_wp2_with fail
              go_roundw
              case rel => exact ⟨k + 1, vs, by go_num, HKI.out, HTN⟩
              case measure => simp [intOf]; omega
            · rw [h5] at q0 HG
              clear h5
              go_wp2_with fail
              refine HG.out.mono ?_
              rintro e w3 ⟨rfl, rfl⟩
              go_wp2_with fail
              go_roundw
              case rel => exact ⟨k + 1, vs, by go_num, HKI.out, HTN⟩
              case measure => simp [intOf]; omega
          · have h4 : (x.kind != 4) = true := by simp; omega
            have h5 : (x.kind != 5) = true := by simp; omega
            have HTN : Hid (TS w0 B w0.heap.size eb (tabs tab0 (src.items.take (k + 1))) vs (errsK src.items (k + 1)) (w2.setCell ⟨eb, k, none⟩ (.int .i64 10))) := by
              rw [HTAB.out, ← HSET.out, HR3.out, if_neg h45]
              have := HT2.out.err k 10
              rw [List.set_set] at this
              exact this
            clear HR3 h45
            go_wp2_with fail
            refine HG.out.mono ?_
            rintro e w3 ⟨rfl, hw3⟩
            have hw3 := hw3.symm
            subst hw3
            have fe : w2.frozen? ⟨eb, k, none⟩ = false := froz_of_blk HT2.out.ebk k
            go_wp2_with fail
            go_roundw
            case rel => exact ⟨k + 1, vs, by go_num, HKI.out, HTN⟩
            case measure => simp [intOf]; omega
        · obtain ⟨r1, r2, r3⟩ := rerr_some (t := tk) hg
          obtain ⟨g, hgg⟩ : ∃ g, group x.kind = g := ⟨_, rfl⟩
          have hg6 : g < 6 := by rw [← hgg]; exact group_lt _
          have HG6 := Lib.hid hg6
          have HGE : Hid (group x.kind = g) := hgg
          rw [hgg] at hg HG r2 ⊢
          rw [HE0.out] at r1 r2 r3
          rw [r1] at HSET
          have g0 : (0 : Int) < (g : Int) := by omega
          have gne : ((g : Int) == 0) = false := by simpa using hg
          by_cases he : e0 = 0
          · subst he
            have HTA : Hid (tabs tab0 (src.items.take (k + 1)) = tk.add g x.name) := HTAB.out.trans (r2 rfl)
            clear r1 r2 r3 hg hgg HTAB
            have hok := HT2.out.ok hg6
            have hokr : w2.ownsRow B 9 1 (vs.getD g Vw.nil) (tk g).length ((tk g).map sv) := hok
            obtain ⟨Ag, cg, hvg⟩ := own_form hokr
            have hvsg : vs[g]? = some (vs.getD g Vw.nil) := by
              rw [List.getD_eq_getElem?_getD, List.getElem?_eq_getElem (by rw [HT2.out.len]; exact hg6)]; rfl
            rw [hvg] at hokr hvsg
            have HOG := Lib.hid hokr
            have HVG := Lib.hid hvg
            have HKG : Hid (w2.cell? ⟨w0.heap.size, g, none⟩ = some (.slice Ag (tk g).length cg)) := by
              show _ = _
              rw [cell_of_blk HT2.out.tbk, List.getElem?_toArray, hvsg]
            have HKN : Hid (w2.cell? ⟨wr.heap.size, 1, none⟩ = some (.string ⟨x.name.toArray⟩)) := (cell_of_blk HI2.out 1).trans rfl
            have HTL : Hid ((tk g).length ≤ k) := by rw [← HTK.out]; exact tlen_le k g
            have g6 : (g : Int) < 6 := by omega
            have hk6 : k ≤ 1000000 := by have := HLEN.out; omega
            have HVSG := Lib.hid hvsg
            have HLOW : Hid (∀ j, (Value.slice Ag (tk g).length cg).ownBlock = some j → B ≤ j ∧ j < wr.heap.size) := HLWR.out g Ag cg HG6.out HVG.out
            clear hok hokr hvg hvsg hg6
            go_upto_region 10 with fail
            have HFD : Hid (Fr (fun _ => False) w2 w2.drew) := (Fr.refl _ w2).drew
            refine Reg.G.start (by kernel_rfl) ?_
            refine' Reg.G.pure (i := 0) (v := _) rfl (by rfl) (by kernel_rfl) (by kernel_rfl) (by kernel_rfl) (fun _ _ _ h => h) ?hyt1 ?rehyt1
            case hyt1 => exact fun w => by first | (go_simp; done) | (go_simp; with_reducible rfl)
            simp only [Act.put, List.setIfInBounds_toArray, List.set_cons_zero, List.set_cons_succ]
            refine' Reg.G.pure (i := 1) (v := _) rfl (by rfl) (by kernel_rfl) (by kernel_rfl) (by kernel_rfl) (fun _ _ _ h => h) ?hyt2 ?rehyt2
            case hyt2 => exact fun w => by first | (go_simp; done) | (go_simp; with_reducible rfl)
            simp only [Act.put, List.setIfInBounds_toArray, List.set_cons_zero, List.set_cons_succ]
            refine' Reg.G.pure (i := 2) (v := _) rfl (by rfl) (by kernel_rfl) (by kernel_rfl) (by kernel_rfl) (fun _ _ _ h => h) ?hyt3 ?rehyt3
            case hyt3 => exact fun w => by first | (go_simp; done) | (go_simp; with_reducible rfl)
            simp only [Act.put, List.setIfInBounds_toArray, List.set_cons_zero, List.set_cons_succ]
            refine' Reg.G.pure (i := 3) (v := _) rfl (by rfl) (by kernel_rfl) (by kernel_rfl) (by kernel_rfl) (fun _ _ _ h => h) ?hyt4 ?rehyt4
            case hyt4 => exact fun w => by first | (go_simp; done) | (go_simp; with_reducible rfl)
            simp only [Act.put, List.setIfInBounds_toArray, List.set_cons_zero, List.set_cons_succ]
            refine' Reg.G.take (i := 4) (v := _) (F := (fun w => Fr (fun _ => False) w2 w)) rfl (by rfl) (by kernel_rfl) (by kernel_rfl) (by kernel_rfl) (fun _ _ _ h => h) (HFD.out) ?hyt5 ?rehyt5
            case hyt5 => intro w hw; have kc := cell_fr hw HKG.out; clear hw; first | (go_simp; done) | (go_simp; with_reducible rfl)
            simp only [Act.put, List.setIfInBounds_toArray, List.set_cons_zero, List.set_cons_succ]
            refine' Reg.G.pure (i := 5) (v := _) rfl (by rfl) (by kernel_rfl) (by kernel_rfl) (by kernel_rfl) (fun _ _ _ h => h) ?hyt6 ?rehyt6
            case hyt6 => exact fun w => by first | (go_simp; done) | (go_simp; with_reducible rfl)
            simp only [Act.put, List.setIfInBounds_toArray, List.set_cons_zero, List.set_cons_succ]
            refine' Reg.G.take (i := 6) (v := _) (F := (fun w => Fr (fun _ => False) w2 w)) rfl (by rfl) (by kernel_rfl) (by kernel_rfl) (by kernel_rfl) (fun _ _ _ h => h) (HFD.out) ?hyt7 ?rehyt7
            case hyt7 => intro w hw; have kc := cell_fr hw HKN.out; clear hw; first | (go_simp; done) | (go_simp; with_reducible rfl)
            simp only [Act.put, List.setIfInBounds_toArray, List.set_cons_zero, List.set_cons_succ]
            refine' Reg.G.pure (i := 9) (v := _) rfl (by rfl) (by kernel_rfl) (by kernel_rfl) (by kernel_rfl) (fun _ _ _ h => h) ?hyt8 ?rehyt8
            case hyt8 => exact fun w => by first | (go_simp; done) | (go_simp; with_reducible rfl)
            simp only [Act.put, List.setIfInBounds_toArray, List.set_cons_zero, List.set_cons_succ]
            refine Reg.G.step (j := 7) (m := [false, true]) [6, 4] rfl (by kernel_rfl) rfl (by kernel_rfl) (fun K hK => ?_)
            rw [if_pos (by rfl)]
            refine wp_builtR 33 1 _ rfl #[(0, .string ⟨x.name.toArray⟩)] (by go_simp) _ _ (bsl_str _ _) ?_
            obtain ⟨wa, hwa⟩ : ∃ v, (w2.drew).alloc (.cells #[.string ⟨x.name.toArray⟩] 9) = v := ⟨_, rfl⟩
            rw [hwa]
            have HFA : Hid (Fr (fun _ => False) w2 wa) := by rw [← hwa]; exact HFD.out.alloc _
            have HOA : Hid (wa.ownsRow B 9 1 (.slice Ag (tk g).length cg) (tk g).length ((tk g).map sv)) := own_fr HOG.out HFA.out (fun _ _ _ h => h)
            have HNA : Hid (∀ j y, ([.string ⟨x.name.toArray⟩] : List Value)[j]? = some y → wa.cell? ((⟨w2.heap.size, 0, none⟩ : Addr).add j) = some y) := by rw [← hwa]; exact World.news_of_block (cs := #[.string ⟨x.name.toArray⟩]) (t := 9) (fr := (0, 0)) (heap_alloc_new w2.drew _)
            have HSA : Hid (wa.heap.size = w2.heap.size + 1) := by show _ = _; rw [← hwa]; simp
            clear hwa
            refine hK.out _ _ ⟨HFA.out, trivial⟩ ?_
            clear hK K
            simp only [Act.put, List.setIfInBounds_toArray, List.set_cons_zero, List.set_cons_succ, Reg.Kept]
            refine Reg.G.step (j := 8) (m := [false]) [4] rfl (by kernel_rfl) rfl (by kernel_rfl) (fun K hK => ?_)
            rw [if_pos (by rfl)]
            refine wp_append_lies wa (.tmp 54) (.tmp 57) 33 rfl B 9 j0 _ 1 16 Tryd.underlying33 hj hj0 hj1 hj2 rfl (by decide) (.slice Ag (tk g).length cg) (tk g).length _ (by rfl) HOA.out ⟨w2.heap.size, 0, none⟩ 1 1 [.string ⟨x.name.toArray⟩] (by rfl) rfl HNA.out (by simp [Value.oneCell']) (by decide) (by have := HTL.out; simp only [maxLen]; omega) (by have := HTL.out; omega) (by have h1 := HT2.out.le; have h2 := HFA.out.size; omega) (w2.heap.size + 1) HSA.out ?_
            intro gn cn wc g1 g2 g3 _
            have HTC : Hid (TS w0 B w0.heap.size eb (tk.add g x.name) (vs.set g (.slice (some ⟨gn, 0, none⟩) ((tk g).length + 1) cn)) ((errsK src.items k).set k 0) (wc.setCell ⟨w0.heap.size, g, none⟩ (.slice (some ⟨gn, 0, none⟩) ((tk g).length + 1) cn))) := (HT2.out.fr HFA.out).add HG6.out (by rw [HVG.out]; exact g2) g1 (by rw [HVG.out, HSA.out]; exact g3)
            have HBC : Hid (wc.heap[w0.heap.size]? = some (.cells vs.toArray 100 (0, 0))) := (Fr.of_grown g2).blk (HFA.out.blk HT2.out.tbk (fun h => h)) (fun e => by have h1 := (own_lt HOA.out _ e).1; have h2 := HT2.out.lo; omega)
            have HIC : Hid ((wc.setCell ⟨w0.heap.size, g, none⟩ (.slice (some ⟨gn, 0, none⟩) ((tk g).length + 1) cn)).heap[wr.heap.size]? = some (.cells (ic (x, sl)).toArray 55 (0, 0))) := blk_farq ((Fr.of_grown g2).blk (HFA.out.blk HI2.out (fun h => h)) (fun e => by have h1 := HLOW.out _ e; omega)) (by have h1 := HT2.out.lo; have h2 := HLO1.out; omega) _
            clear g1 g2 g3
            refine hK.out _ _ trivial ?_
            clear hK K
            simp only [Act.put, List.setIfInBounds_toArray, List.set_cons_zero, List.set_cons_succ, Reg.Kept]
            refine' Reg.G.pure (i := 10) (v := _) rfl (by rfl) (by kernel_rfl) (by kernel_rfl) (by kernel_rfl) (fun _ _ _ h => h) ?hyt9 ?rehyt9
            case hyt9 => exact fun w => by first | (go_simp; done) | (go_simp; with_reducible rfl)
            simp only [Act.put, List.setIfInBounds_toArray, List.set_cons_zero, List.set_cons_succ]
            refine Reg.G.step (j := 11) (m := []) [] rfl (by kernel_rfl) rfl (by kernel_rfl) (fun K hK => ?_)
            have kb : wc.cell? ⟨w0.heap.size, g, none⟩ = some (.slice Ag (tk g).length cg) := by rw [cell_of_blk HBC.out, List.getElem?_toArray]; exact HVSG.out
            have fb : wc.frozen? ⟨w0.heap.size, g, none⟩ = false := froz_of_blk HBC.out g
            go_simp
            clear kb fb
            refine hK.out _ _ trivial ?_
            clear hK K
            simp only [Act.put, List.setIfInBounds_toArray, List.set_cons_zero, List.set_cons_succ, Reg.Kept]
            refine Reg.G.done (by kernel_rfl) ?_
            obtain ⟨w5, hw5⟩ : ∃ w, wc.setCell ⟨w0.heap.size, g, none⟩ (.slice (some ⟨gn, 0, none⟩) ((tk g).length + 1) cn) = w := ⟨_, rfl⟩
            rw [hw5]
            rw [hw5] at HTC HIC
            clear hw5
            have HI5 : Hid (w5.heap[wr.heap.size]? = some (.cells (ic (x, sl)).toArray 55 (0, 0))) := HIC.out
            have q5 : w5.cell? ⟨wr.heap.size, 0, none⟩ = some (.int .i64 x.kind) := (cell_of_blk HI5.out 0).trans rfl
            have HG2 := Lib.hid (rgroup_any x.kind w5)
            have HTN : Hid (TS w0 B w0.heap.size eb (tabs tab0 (src.items.take (k + 1))) (vs.set g (.slice (some ⟨gn, 0, none⟩) ((tk g).length + 1) cn)) (errsK src.items (k + 1)) w5) := by
              rw [HTA.out, ← HSET.out]; exact HTC.out
            clear q0 ke
            obtain ⟨g9, hg9⟩ : ∃ g, group x.kind = g := ⟨_, rfl⟩
            rw [hg9] at HG2
            have gne9 : ((g9 : Int) == 0) = false := by have := HGE.out; rw [hg9] at this; rw [this]; exact gne
            clear hg9 HGE
            go_wp2_with fail
            refine HG2.out.mono ?_
            rintro e w6 ⟨rfl, rfl⟩
            go_wp2_with fail
            go_roundw
            case rel => exact ⟨k + 1, _, by go_num, HKI.out, HTN⟩
            case measure => simp [intOf]; omega
          · have hne : (e0 == 0) = false := by simpa using he
            have HTN : Hid (TS w0 B w0.heap.size eb (tabs tab0 (src.items.take (k + 1))) vs (errsK src.items (k + 1)) w2) := by
              rw [HTAB.out, r3 he, ← HSET.out]; exact HT2.out
            clear r1 r2 r3 hg hgg HTAB he
            go_wp2_with fail
            refine HG.out.mono ?_
            rintro e w3 ⟨rfl, rfl⟩
            go_wp2_with fail
            go_roundw
            case rel => exact ⟨k + 1, vs, by go_num, HKI.out, HTN⟩
            case measure => simp [intOf]; omega
    · have hkz : k = src.items.length := by have := HZL.out; omega
      obtain ⟨yw, hyw⟩ : ∃ w : World, w = wr := ⟨_, rfl⟩
      subst hyw
      subst hkz
      have n2 : ¬ ((src.items.length : Int) < (z.length : Int)) := by have := HZL.out; omega
      have n3 : ¬ (src.items.length < z.length) := by have := HZL.out; omega
      have HTT : Hid (TS w0 B w0.heap.size eb (tabs tab0 src.items) vs (rerrs tab0 src.items) yw) := by
        have := HT.out
        rw [List.take_of_length_le (Nat.le_refl _), errsK_all] at this
        exact this
      obtain ⟨T, hT⟩ : ∃ T, tabs tab0 src.items = T := ⟨_, rfl⟩
      have HTD := Lib.hid hT
      rw [hT] at HTT
      have HTVY : Hid (TV yw T vs) := HTT.out.tv
      have HEBY : Hid (yw.heap[eb]? = some (.cells ((rerrs tab0 src.items).map nv).toArray 80 (0, 0))) := HTT.out.ebk
      have HTBY : Hid (yw.heap[w0.heap.size]? = some (.cells vs.toArray 100 (0, 0))) := HTT.out.tbk
      have HVL : Hid (vs.length = 6) := HTT.out.len
      have HRBY : Hid (yw.heap[W.heap.size + 1]? = some (.cells symz.toArray 39 (0, 0))) := (HT.out.ba.block _ (lt_of_blk HRB0.out)).trans HRB0.out
      have HWY : Hid (W.heap.size + 1 < yw.heap.size) := lt_of_blk HRBY.out
      clear hT hk i1 HT HTT hlt
      have k5 : yw.cell? ⟨W.heap.size, 5, none⟩ = some (.slice Ai z.length ci) := (cell_of_blk HSBr.out 5).trans rfl
      go_upto_region 13 with fail
      clear k5 n2 n3
      have s0 : yw.cell? ⟨W.heap.size, 0, none⟩ = some (.string ⟨src.name.toArray⟩) := (cell_of_blk HSBr.out 0).trans rfl
      have s1 : yw.cell? ⟨W.heap.size, 1, none⟩ = some (.int .i64 src.frm.y) := (cell_of_blk HSBr.out 1).trans rfl
      have s2 : yw.cell? ⟨W.heap.size, 2, none⟩ = some (.int .i64 src.frm.m) := (cell_of_blk HSBr.out 2).trans rfl
      have s3 : yw.cell? ⟨W.heap.size, 3, none⟩ = some (.int .i64 src.frm.d) := (cell_of_blk HSBr.out 3).trans rfl
      have s4 : yw.cell? ⟨W.heap.size, 4, none⟩ = some (.int .i64 src.days) := (cell_of_blk HSBr.out 4).trans rfl
      iterate 19 go_step
      refine wpList_built rfl 39 _ rfl #[(0, .string ⟨src.name.toArray⟩), (1, .agg #[.int .i64 src.frm.y, .int .i64 src.frm.m, .int .i64 src.frm.d]), (2, .int .i64 src.days)] (by go_simp) _ (build_sym src _) ?_
      simp only [Act.put, List.setIfInBounds_toArray, List.set_cons_zero, List.set_cons_succ]
      clear s0 s1 s2 s3 s4
      iterate 3 go_step
      refine wpList_store_row rfl 39 _ _ rfl yw.heap.size (symc src sy0.weekend (H0 (frow Vw.nil []))).toArray rfl rfl 39 _ (blk_newn rfl) (info_symc _ _ _) rfl (one_sym0 src) ?_
      simp only [Act.put, List.setIfInBounds_toArray, List.set_cons_zero, List.set_cons_succ]
      rw [World.setRow_alloc_new]
      obtain ⟨yy, hyy⟩ : ∃ w, yw.alloc (.cells (symc src sy0.weekend (H0 (frow Vw.nil []))).toArray 39) = w := ⟨_, rfl⟩
      rw [hyy]
      obtain ⟨C, hC⟩ : ∃ C, yy.heap.size = C := ⟨_, rfl⟩
      have HCC : Hid (C = yw.heap.size + 1) := by show _ = _; rw [← hC, ← hyy]; simp
      have HQ0 : Hid (QS src yw C yw.heap.size sy0 [] (H0 (frow Vw.nil [])) [] yy) := by
        refine ⟨by rw [← hyy]; exact blk_newn rfl, ⟨fun r hr => ?_, ?_⟩, rfl, rfl, rfl, ⟨Nat.le_refl _, by have := HCC.out; omega⟩, by rw [← hyy]; exact (Below.refl _ yw).alloc (Nat.le_refl _) _, by omega⟩
        · simp only [qrows, hrow, rowsOf, H0, frow, List.map_nil, List.append_nil, List.mem_cons, List.not_mem_nil, or_false] at hr
          rcases hr with rfl | rfl | rfl | rfl | rfl | rfl | rfl <;> exact World.ownsRow_nil _ _ _ _
        · simp [qrows, hrow, rowsOf, H0, frow, List.pairwise_cons, OR.apart, Vw.nil, Value.ownBlock]
      clear hyy hC
      have HRUN0 : Hid (ritems T sy0 [] (src.items.drop 0) ((rerrs tab0 src.items).drop 0) = rrun src.items) := by show _ = _; rw [← HTD.out]; rfl
      have k5 : yy.cell? ⟨W.heap.size, 5, none⟩ = some (.slice Ai z.length ci) := (cell_of_blk ((HQ0.out.ba.block _ (lt_of_blk HSBr.out)).trans HSBr.out) 5).trans rfl
      clear hj hj0 hj1 hj2
      go_wp2_with fail
      go_loopw [10, 11] (fun fv i wx => L2 src yw C yw.heap.size T fv i wx) (fun _ i _ => z.length - (intOf i).toNat)
      case atStart => exact ⟨0, sy0, [], H0 (frow Vw.nil []), [], Vw.nil, rfl, rfl, Nat.zero_le _, Lib.hid rfl, HQ0, ⟨⟨Nat.le_refl _, Nat.le_refl _, Nat.le_refl _, Nat.le_refl _, Nat.le_refl _, Nat.le_refl _, Nat.zero_le _⟩⟩, HRUN0⟩
      case round =>
        clear k5 HQ0 HRUN0
        obtain ⟨k, s, f, H, cl, fv, rfl, rfl, hk, HFV, HQ, HLS, HRUN⟩ := hrel
        have i1 : (0 : Int) ≤ (k : Int) := Int.natCast_nonneg _
        have HSBq : Hid (wr.heap[W.heap.size]? = some (.cells (scells src.name src.frm src.days (.slice Ai z.length ci)).toArray 26 (0, 0))) := (HQ.out.ba.block _ (lt_of_blk HSBr.out)).trans HSBr.out
        have HBWq : Hid (Below W.heap.size W wr) := HBWr.out.trans (HQ.out.ba.mono HBWr.out.size)
        by_cases hlt : k < z.length
        · have i2 : (k : Int) < (z.length : Int) := by omega
          obtain ⟨g0, o, cap, hs1, hgl, _, _, hat⟩ := (HZ.out.below HBWq.out).row.at (by intro e; rw [List.map_eq_nil_iff] at e; rw [e] at hlt; simp at hlt)
          have hAi : Ai = some ⟨g0, o, none⟩ := by injection hs1
          subst hAi
          obtain ⟨p, hp⟩ : ∃ p, z[k]? = some p := ⟨_, List.getElem?_eq_getElem hlt⟩
          have HAT : Hid (At wr g0 (o + k * 33) (ic p)) := hat k _ (by rw [List.getElem?_map, hp]; rfl)
          have hfl := HZ.out.flat p (List.mem_of_getElem? hp)
          have HONE : Hid ((ic p).toArray.all (·.oneCell') = true) := ic_one hfl.1 hfl.2
          have HPK : Hid (src.items[k]? = some p.1) := by show _ = _; rw [← HS.out, List.getElem?_map, hp]; rfl
          have HFW : Hid (Flat W p.1 p.2.1 p.2.2.1 p.2.2.2.1) := hfl.1
          have k5 : wr.cell? ⟨W.heap.size, 5, none⟩ = some (.slice (some ⟨g0, o, none⟩) z.length ci) := (cell_of_blk HSBq.out 5).trans rfl
          clear hat hs1 hfl hgl hp
          go_upto_region 18 with fail
          iterate 13 go_step
          refine wpList_load_mid rfl 55 _ rfl g0 (o + k * 33) rfl (ic p) _ HAT.out Tryd.underlying55 rfl info_item ?_
          simp only [Act.put, List.setIfInBounds_toArray, List.set_cons_zero, List.set_cons_succ]
          iterate 3 go_step
          refine wpList_store_row rfl 55 _ _ rfl wr.heap.size (ic p).toArray rfl rfl 55 _ (blk_newn rfl) (info_icl p) rfl HONE.out ?_
          simp only [Act.put, List.setIfInBounds_toArray, List.set_cons_zero, List.set_cons_succ]
          rw [World.setRow_alloc_new]
          obtain ⟨u, hu⟩ : ∃ u, wr.alloc (.cells (ic p).toArray 55) = u := ⟨_, rfl⟩
          rw [hu]
          have HXB : Hid (u.heap[wr.heap.size]? = some (.cells (ic p).toArray 55 (0, 0))) := by rw [← hu]; exact blk_newn rfl
          have HFu : Hid (Fr (fun _ => False) wr u) := by rw [← hu]; exact (Fr.refl _ wr).alloc _
          have HQu := Lib.hid (HQ.out.fr HFu.out)
          have HBWu : Hid (Below W.heap.size W u) := HBWr.out.trans (HQu.out.ba.mono HBWr.out.size)
          have HFLu : Hid (Flat u p.1 p.2.1 p.2.2.1 p.2.2.2.1) := HFW.out.below HBWu.out
          have hki : k < src.items.length := by rw [← HZL.out]; exact hlt
          have HKI := Lib.hid hki
          obtain ⟨e0, he0⟩ : ∃ e, (rerrs tab0 src.items)[k]? = some e := ⟨_, List.getElem?_eq_getElem (by rw [rerrs_length]; exact hki)⟩
          have HE0 := Lib.hid he0
          have HESZ : Hid (((rerrs tab0 src.items).map nv).length = z.length) := by show _ = _; rw [List.length_map, rerrs_length, HZL.out]
          have ke : u.cell? ⟨eb, k, none⟩ = some (.int .i64 e0) := by
            have h1 := (HQu.out.ba.block _ (lt_of_blk HEBY.out)).trans HEBY.out
            rw [cell_of_blk h1, List.getElem?_toArray, List.getElem?_map, he0]
            rfl
          obtain ⟨x, sl⟩ := p
          dsimp only at HPK HFLu HFW
          have q0 : u.cell? ⟨wr.heap.size, 0, none⟩ = some (.int .i64 x.kind) := (cell_of_blk HXB.out 0).trans rfl
          have HOKX : Hid (ItemOk x ∧ x.conds.length ≤ 1000000) := HOK.out x (List.mem_of_getElem? HPK.out)
          have HXLT : Hid (wr.heap.size < u.heap.size) := lt_of_blk HXB.out
          have HCW : Hid (C ≤ wr.heap.size) := HQ.out.le
          have HQO : Hid (∀ r ∈ qrows s H cl, ∀ j, r.v.ownBlock = some j → C ≤ j ∧ j < wr.heap.size) := fun r hr j hj => HQ.out.rows.lt hr hj
          have HSTP : Hid (ritems T (ritem T s x e0).1 (if (ritem T s x e0).2 = 0 then f else f ++ [⟨(ritem T s x e0).2, x.pos⟩]) (src.items.drop (k + 1)) ((rerrs tab0 src.items).drop (k + 1)) = rrun src.items) := by
            have h := HRUN.out
            rw [drop_get HPK.out, drop_get he0] at h
            exact h
          clear hu k5 HAT HONE HQ HFu hki he0 HRUN HSBq
          go_upto_if 103 with fail
          go_cut [13] (fun s13 wx => ∃ v1 w1, wx = w1 ∧ s13 = .int .i64 (rhol s x e0).2 ∧ Hid (QS src yw C yw.heap.size { s with hol := (rhol s x e0).1 } f { H with hol := v1 } cl w1) ∧ Hid (w1.heap[wr.heap.size]? = some (.cells (ic (x, sl)).toArray 55 (0, 0))) ∧ Hid (v1 = H.hol ∨ ∀ j, v1.ownBlock = some j → wr.heap.size < j))
          case first =>
            as_aux_lemma =>
              by_cases h5 : x.kind = 5
              · have hb : (x.kind == 5) = true := by simpa using h5
                have e5 : rhol s x e0 = rholi s.hol x := if_pos h5
                have hown : u.ownsRow C 3 1 H.hol s.hol.length (s.hol.map nv) := HQu.out.row (r := hrow H.hol s.hol) (List.mem_cons_self ..)
                obtain ⟨Ah, ch, hvh⟩ := own_form hown
                have HVH := Lib.hid hvh
                have HHO := Lib.hid (rholidays_any C s.hol H.hol x sl u hown HLS.out.h.2.2.2.2.2.2 HQu.out.le HFLu.out.dates HOKX.out.1.dates)
                have kq : u.cell? ⟨yw.heap.size, 12, none⟩ = some H.hol := (cell_of_blk HQu.out.qb 12).trans rfl
                have HE5 := Lib.hid e5
                rw [hvh] at kq HHO
                clear e5 hown hvh h5 q0
                go_upto_region 21 with fail
                iterate 10 go_step
                refine wpList_load_row rfl 55 _ rfl wr.heap.size rfl 55 (ic (x, sl)).toArray (0, 0) _ HXB.out Tryd.underlying55 rfl (info_icl (x, sl)) ?_
                simp only [Act.put, List.setIfInBounds_toArray, List.set_cons_zero, List.set_cons_succ]
                go_wp2_with fail
                refine HHO.out.mono ?_
                rintro e w2 ⟨v', rfl, hp⟩
                have HP := Lib.hid hp
                obtain ⟨A', c', hv'⟩ := own_form hp.1
                subst hv'
                have HQ2 := Lib.hid (HQu.out.fr hp.2.1)
                have kb : w2.cell? ⟨yw.heap.size, 12, none⟩ = some H.hol := (cell_of_blk HQ2.out.qb 12).trans rfl
                have fb : w2.frozen? ⟨yw.heap.size, 12, none⟩ = false := froz_of_blk HQ2.out.qb 12
                clear hp kq HHO ke
                go_wp2_with fail
                go_meet
                have hlo := HQu.out.lo
                have hcw := HCW.out
                have hs : Fr (fun j => j = yw.heap.size) w2 (w2.setCell ⟨yw.heap.size, 12, none⟩ (.slice A' (rholi s.hol x).1.length c')) := (Fr.refl _ w2).setb _ _
                refine ⟨.slice A' (rholi s.hol x).1.length c', _, rfl, by rw [HE5.out], ?_, ?_, ?_⟩
                · show QS _ _ _ _ _ _ _ _ _
                  rw [HE5.out]
                  exact HQu.out.hol (by rw [HVH.out]; exact HP.out)
                · exact hs.blk (HP.out.2.1.blk HXB.out (fun h => h)) (by omega)
                · rcases HP.out.2.2 with h | h
                  · left; show _ = _; rw [HVH.out]; exact h
                  · right; intro j hj; have h1 := h j hj; have h2 := HXLT.out; omega
              · have hb : (x.kind == 5) = false := by simpa using h5
                have e5 : rhol s x e0 = (s.hol, e0) := if_neg h5
                have HE5 := Lib.hid e5
                clear e5 h5
                go_wp2_with fail
                go_meet
                refine ⟨H.hol, _, rfl, by rw [HE5.out], ?_, HXB, .inl rfl⟩
                show QS _ _ _ _ _ _ _ _ _
                rw [HE5.out]
                exact HQu.out
          case rest =>
            obtain ⟨u1, rfl⟩ : ∃ v : World, v = wc := ⟨_, rfl⟩
            obtain ⟨wo, rfl⟩ : ∃ v : World, v = wr := ⟨_, rfl⟩
            obtain ⟨v1, w1, rfl, rfl, HQ1, HX1, HN1⟩ := hcut
            obtain ⟨s1, hs1⟩ : ∃ s', ({ s with hol := (rhol s x e0).1 } : Sy) = s' := ⟨_, rfl⟩
            obtain ⟨e1, he1⟩ : ∃ e, (rhol s x e0).2 = e := ⟨_, rfl⟩
            obtain ⟨H1, hh1⟩ : ∃ h, ({ H with hol := v1 } : RH) = h := ⟨_, rfl⟩
            have HRI : Hid (ritem T s x e0 = if rerr2 T x e1 = 0 then (rweek (radd T s1 x) x, 0) else (s1, rerr2 T x e1)) := ritem_of hs1 he1
            have HFV1 : Hid (H1.flt.v = fv) := by show _ = _; rw [← hh1]; exact HFV.out
            have HLS1 : Hid (Lens s1 f k) := by
              have h0 := HLS.out.h
              have h1 := rhol_len s x e0 h0.2.2.2.2.2.2
              rw [← hs1]
              exact ⟨⟨h0.1, h0.2.1, h0.2.2.1, h0.2.2.2.1, h0.2.2.2.2.1, h0.2.2.2.2.2.1, h1⟩⟩
            have HOB : Hid (∀ v ∈ [H1.flt.v, H1.par, H1.rol, H1.uni, H1.act, H1.cla], ∀ j, v.ownBlock = some j → C ≤ j ∧ j < wo.heap.size) := by
              rw [← hh1]
              intro v hv j hj
              simp only [List.mem_cons, List.not_mem_nil, or_false] at hv
              rcases hv with rfl | rfl | rfl | rfl | rfl | rfl
              · exact HQO.out H.flt (List.mem_cons_of_mem _ (List.mem_cons_self ..)) j hj
              · exact HQO.out _ (List.mem_cons_of_mem _ (rows_mem s H cl).1) j hj
              · exact HQO.out _ (List.mem_cons_of_mem _ (rows_mem s H cl).2.1) j hj
              · exact HQO.out _ (List.mem_cons_of_mem _ (rows_mem s H cl).2.2.1) j hj
              · exact HQO.out _ (List.mem_cons_of_mem _ (rows_mem s H cl).2.2.2.1) j hj
              · exact HQO.out _ (List.mem_cons_of_mem _ (rows_mem s H cl).2.2.2.2) j hj
            rw [hs1, hh1] at HQ1
            rw [he1]
            have HCQ : Hid (yw.heap.size < C) := by have := HCC.out; show _ < _; omega
            have HBW1 : Hid (Below W.heap.size W u1) := HBWr.out.trans (HQ1.out.ba.mono HBWr.out.size)
            have HTV1 : Hid (TV u1 T vs) := HTVY.out.below HQ1.out.ba
            have HTB1 : Hid (u1.heap[w0.heap.size]? = some (.cells vs.toArray 100 (0, 0))) := (HQ1.out.ba.block _ (lt_of_blk HTBY.out)).trans HTBY.out
            have HFL1 : Hid (Flat u1 x sl.1 sl.2.1 sl.2.2.1) := HFW.out.below HBW1.out
            have hk6 : k ≤ 1000000 := by have := HLEN.out; omega
            have HK6 := Lib.hid hk6
            clear hs1 he1 hh1 HQu HXB q0 ke HFLu HBWu HN1 HFV HLS HQO hk6
            by_cases he : e1 = 0
            · subst he
              have HUK := Lib.hid (runknown_any T vs (x, sl) u1 HTV1.out HFL1.out.conds HOKX.out.2)
              obtain ⟨b, hb⟩ : ∃ b, unknown T x = b := ⟨_, rfl⟩
              have HUB := Lib.hid hb
              rw [hb] at HUK
              clear hb
              go_upto_region 22 with fail
              iterate 10 go_step
              refine wpList_load_rowG (by rfl) 100 _ rfl w0.heap.size rfl 100 vs.toArray (0, 0) _ HTB1.out Tryd.underlying100 rfl (info_tabs HVL.out) ?_
              simp only [Act.put, List.setIfInBounds_toArray, List.set_cons_zero, List.set_cons_succ]
              refine wpList_load_rowG (by rfl) 55 _ rfl wo.heap.size rfl 55 (ic (x, sl)).toArray (0, 0) _ HX1.out Tryd.underlying55 rfl (info_icl (x, sl)) ?_
              simp only [Act.put, List.setIfInBounds_toArray, List.set_cons_zero, List.set_cons_succ]
              go_wp2_with fail
              refine HUK.out.mono ?_
              rintro e w3 ⟨rfl, hf⟩
              have HQ3 := Lib.hid (HQ1.out.fr hf)
              have HX3 : Hid (w3.heap[wo.heap.size]? = some (.cells (ic (x, sl)).toArray 55 (0, 0))) := hf.blk HX1.out (fun h => h)
              clear hf HUK HQ1 HX1 HBW1 HTV1 HTB1 HFL1
              cases b with
              | true =>
                have HRT : Hid (ritem T s x e0 = (s1, 8)) := by
                  show _ = _
                  rw [HRI.out]
                  have : rerr2 T x 0 = 8 := by unfold rerr2; rw [if_pos ⟨rfl, HUB.out⟩]
                  rw [this, if_neg (by decide)]
                have HEN : Hid ((8 : Int) ≠ 0) := by show _ ≠ _; decide
                as_aux_lemma =>
                  have q2 : w3.cell? ⟨wo.heap.size, 2, none⟩ = some (.int .i64 x.pos) := (cell_of_blk HX3.out 2).trans rfl
                  obtain ⟨j0, hj, hj0, hj1, hj2⟩ := info_parts info_fault
                  have hok : w3.ownsRow C 82 2 H1.flt.v f.length (f.flatMap faultv) := by
                    have h := HQ3.out.row (r := H1.flt) (List.mem_cons_of_mem _ (List.mem_cons_self ..))
                    rw [HQ3.out.flt] at h
                    exact h
                  rw [HFV1.out] at hok
                  have HOK9 := Lib.hid hok
                  clear hok
                  go_upto_region 25 with fail
                  iterate 16 go_step
                  refine wpList_plain rfl fun _ hK => wp_builtR 40 1 _ rfl #[(0, .agg #[.int .i64 8, .int .i64 x.pos])] (by go_simp) _ _ (bslR_fault _ _ _) (hK _ _ ?_)
                  clear hK
                  simp only [Act.put, List.setIfInBounds_toArray, List.set_cons_zero, List.set_cons_succ]
                  obtain ⟨wa, hwa⟩ : ∃ v, w3.alloc (.cells #[.int .i64 8, .int .i64 x.pos] 82) = v := ⟨_, rfl⟩
                  rw [hwa]
                  have HFA : Hid (Fr (fun _ => False) w3 wa) := by rw [← hwa]; exact (Fr.refl _ w3).alloc _
                  have HOA : Hid (wa.ownsRow C 82 2 fv f.length (f.flatMap faultv)) := own_fr HOK9.out HFA.out (fun _ _ _ h => h)
                  have HNA : Hid (∀ j y, ([.int .i64 8, .int .i64 x.pos] : List Value)[j]? = some y → wa.cell? ((⟨w3.heap.size, 0, none⟩ : Addr).add j) = some y) := by rw [← hwa]; exact World.news_of_block (cs := #[.int .i64 8, .int .i64 x.pos]) (t := 82) (fr := (0, 0)) (heap_alloc_new w3 _)
                  have HSA : Hid (wa.heap.size = w3.heap.size + 1) := by show _ = _; rw [← hwa]; simp
                  clear hwa q2
                  refine wpList_append_lies wa rfl (.tmp 123) (.tmp 128) 40 rfl C 82 j0 _ 2 16 Tryd.underlying40 hj hj0 hj1 hj2 rfl (by decide) fv f.length _ (by rfl) HOA.out ⟨w3.heap.size, 0, none⟩ 1 1 [.int .i64 8, .int .i64 x.pos] (by rfl) rfl HNA.out (by simp [Value.oneCell']) (by decide) (by have h1 := HLS1.out.h; have h2 := HK6.out; simp only [maxLen]; omega) (by have h1 := HLS1.out.h; have h2 := HK6.out; omega) (by have h1 := HQ3.out.le; have h2 := HFA.out.size; omega) (w3.heap.size + 1) HSA.out ?_
                  intro gn cn wc g1 g2 g3 _
                  simp only [Act.put, List.setIfInBounds_toArray, List.set_cons_zero, List.set_cons_succ]
                  have HQN : Hid (QS src yw C yw.heap.size s1 (f ++ [⟨8, x.pos⟩]) { H1 with flt := frow (.slice (some ⟨gn, 0, none⟩) (f.length + 1) cn) (f ++ [⟨8, x.pos⟩]) } cl wc) :=
                    (HQ3.out.fr HFA.out).more (by rw [HFV1.out]; exact g2) g1 (by rw [HFV1.out, HSA.out]; exact g3)
                  have HLN : Hid (Lens s1 (f ++ [(⟨8, x.pos⟩ : Fault)]) (k + 1)) := ⟨by have h0 := HLS1.out.h; rw [List.length_append, List.length_singleton]; omega⟩
                  have HRN : Hid (ritems T s1 (f ++ [(⟨8, x.pos⟩ : Fault)]) (src.items.drop (k + 1)) ((rerrs tab0 src.items).drop (k + 1)) = rrun src.items) := by
                    have h := HSTP.out
                    rw [HRT.out] at h
                    dsimp only at h
                    rw [if_neg HEN.out] at h
                    exact h
                  clear g1 g2 g3
                  go_wp2_with fail
                  go_roundw
                  case rel => exact ⟨k + 1, s1, _, _, cl, _, rfl, by go_num, HKI.out, Lib.hid rfl, HQN, HLN, HRN⟩
                  case measure => simp [intOf]; omega
              | false =>
                have HRT : Hid (ritem T s x e0 = (rweek (radd T s1 x) x, 0)) := by
                  show _ = _
                  rw [HRI.out]
                  have : rerr2 T x 0 = 0 := by unfold rerr2; rw [if_neg (by rw [HUB.out]; simp)]
                  rw [this, if_pos rfl]
                have HBW3 : Hid (Below W.heap.size W w3) := HBWr.out.trans (HQ3.out.ba.mono HBWr.out.size)
                have HTV3 : Hid (TV w3 T vs) := HTVY.out.below HQ3.out.ba
                have HTB3 : Hid (w3.heap[w0.heap.size]? = some (.cells vs.toArray 100 (0, 0))) := (HQ3.out.ba.block _ (lt_of_blk HTBY.out)).trans HTBY.out
                have HFL3 : Hid (Flat w3 x sl.1 sl.2.1 sl.2.2.1) := HFW.out.below HBW3.out
                have q0 : w3.cell? ⟨wo.heap.size, 0, none⟩ = some (.int .i64 x.kind) := (cell_of_blk HX3.out 0).trans rfl
                have HG := Lib.hid (rgroup_any x.kind w3)
                clear HRI HUB
                have hgs : group x.kind = 0 ∨ group x.kind = 1 ∨ group x.kind = 2 ∨ group x.kind = 3 ∨ group x.kind = 4 ∨ group x.kind = 5 := by have := group_lt x.kind; omega
                rcases hgs with hg | hg | hg | hg | hg | hg
                · as_aux_lemma =>
                    have HAD : Hid (radd T s1 x = s1) := by show _ = _; unfold radd; simp [hg]
                    rw [hg] at HG
                    clear hg
                    by_cases h4 : x.kind = 4
                    · have HK4 := Lib.hid h4
                      have HWK : Hid (s1.weekend.length = 7) := HQ3.out.wk
                      have HDY : Hid (x.days.length = 7) := HOKX.out.1.days
                      have HRN : Hid (ritems T { s1 with weekend := orDays s1.weekend x.days } f (src.items.drop (k + 1)) ((rerrs tab0 src.items).drop (k + 1)) = rrun src.items) := by
                        have h := HSTP.out
                        rw [HRT.out] at h
                        dsimp only at h
                        rw [if_pos rfl] at h
                        have e : rweek (radd T s1 x) x = { s1 with weekend := orDays s1.weekend x.days } := by rw [HAD.out]; unfold rweek; rw [if_pos HK4.out]
                        rw [e] at h
                        exact h
                      have HLN : Hid (Lens { s1 with weekend := orDays s1.weekend x.days } f (k + 1)) := by
                        have h0 := HLS1.out.h
                        exact ⟨⟨Nat.le_succ_of_le h0.1, Nat.le_succ_of_le h0.2.1, Nat.le_succ_of_le h0.2.2.1, Nat.le_succ_of_le h0.2.2.2.1, Nat.le_succ_of_le h0.2.2.2.2.1, Nat.le_succ_of_le h0.2.2.2.2.2.1, h0.2.2.2.2.2.2⟩⟩
                      rw [h4] at q0 HG
                      clear h4
                      go_wp2_with fail
                      refine HG.out.mono ?_
                      rintro e w4 ⟨rfl, hw4⟩
                      have hw4 := hw4.symm
                      subst hw4
                      clear q0 HG
                      have HL0 : Hid (QS src yw C yw.heap.size { s1 with weekend := orK 0 s1.weekend x.days } f H1 cl w3) := HQ3.out
                      go_wp2_with fail
                      go_loopw [14] (fun i wx => L3 src yw C yw.heap.size wo.heap.size s1 f H1 cl x sl i wx) (fun i _ => 7 - (intOf i).toNat)
                      case atStart => exact ⟨0, rfl, Nat.zero_le _, HL0, HX3⟩
                      case round =>
                        clear HL0
                        obtain ⟨j, rfl, hj, HJ, HXJ⟩ := hrel
                        have n1 : (0 : Int) ≤ (j : Int) := Int.natCast_nonneg _
                        have q0 : wr.cell? ⟨wo.heap.size, 0, none⟩ = some (.int .i64 4) := by rw [← HK4.out]; exact (cell_of_blk HXJ.out 0).trans rfl
                        by_cases hlt7 : j < 7
                        · have n2 : (j : Int) < 7 := by omega
                          obtain ⟨e1, e2⟩ := orK_succ HWK.out HDY.out hlt7
                          have qc : wr.cell? ⟨yw.heap.size, 5 + j, none⟩ = some (.bool (s1.weekend.getD j false)) := by
                            rw [cell_of_blk HJ.out.qb, List.getElem?_toArray, symc_week _ _ _ hlt7, ← e2]
                          have qf : wr.frozen? ⟨yw.heap.size, 5 + j, none⟩ = false := froz_of_blk HJ.out.qb _
                          have qx : wr.cell? ⟨wo.heap.size, 23 + j, none⟩ = some (.bool (x.days.getD j false)) := by
                            rw [cell_of_blk HXJ.out, List.getElem?_toArray, ic_day _ _ hlt7]
                          have HN : Hid (L3 src yw C yw.heap.size wo.heap.size s1 f H1 cl x sl (.int .i64 ((j : Int) + 1)) (wr.setCell ⟨yw.heap.size, 5 + j, none⟩ (.bool (s1.weekend.getD j false || x.days.getD j false)))) := by
                            refine ⟨j + 1, rfl, hlt7, ?_, blk_farq HXJ.out (by have h1 := HCQ.out; have h2 := HCW.out; omega) _⟩
                            show QS _ _ _ _ _ _ _ _ _
                            rw [e1]
                            exact HJ.out.week j hlt7 _
                          clear e1 e2
                          obtain ⟨bx, hbx⟩ : ∃ bx, x.days.getD j false = bx := ⟨_, rfl⟩
                          obtain ⟨bs, hbs⟩ : ∃ bs, s1.weekend.getD j false = bs := ⟨_, rfl⟩
                          rw [hbx] at qx HN
                          rw [hbs] at qc HN
                          clear hbx hbs
                          cases bs with
                          | true =>
                            rw [Bool.true_or] at HN
                            go_wp2_with fail
                            go_roundw
                            case rel => exact HN.out
                            case measure => simp [intOf]; omega
                          | false =>
                            rw [Bool.false_or] at HN
                            go_wp2_with fail
                            go_roundw
                            case rel => exact HN.out
                            case measure => simp [intOf]; omega
                        · obtain rfl : j = 7 := by omega
                          have HQN : Hid (QS src yw C yw.heap.size { s1 with weekend := orDays s1.weekend x.days } f H1 cl wr) := by rw [← orK_seven HWK.out HDY.out]; exact HJ.out
                          clear HJ
                          go_wp2_with fail
                          go_roundw
                          case rel => exact ⟨k + 1, _, f, _, _, _, rfl, by go_num, HKI.out, HFV1, HQN, HLN, HRN⟩
                          case measure => simp [intOf]; omega
                    · have HK4 := Lib.hid h4
                      clear h4
                      go_wp2_with fail
                      refine HG.out.mono ?_
                      rintro e w4 ⟨rfl, hw4⟩
                      have hw4 := hw4.symm
                      subst hw4
                      clear q0 HG
                      obtain ⟨w9, hw9⟩ : ∃ w : World, w = w3 := ⟨_, rfl⟩
                      subst hw9
                      have HQN := HQ3
                      have HXN := HX3
                      have HRN : Hid (ritems T (s1) f (src.items.drop (k + 1)) ((rerrs tab0 src.items).drop (k + 1)) = rrun src.items) := by
                        have h := HSTP.out
                        rw [HRT.out] at h
                        dsimp only at h
                        rw [if_pos rfl] at h
                        have e : rweek (radd T s1 x) x = s1 := by rw [HAD.out]; unfold rweek; rw [if_neg HK4.out]
                        rw [e] at h
                        exact h
                      have HLN : Hid (Lens (s1) f (k + 1)) := by
                        have h0 := HLS1.out.h
                        have h1 := radd_lens T s1 x
                        rw [HAD.out] at h1
                        obtain ⟨a1, a2, a3, a4, a5, a6, _⟩ := h1
                        exact ⟨⟨Nat.le_trans a1 (Nat.succ_le_succ h0.1), Nat.le_trans a2 (Nat.succ_le_succ h0.2.1), Nat.le_trans a3 (Nat.succ_le_succ h0.2.2.1), Nat.le_trans a4 (Nat.succ_le_succ h0.2.2.2.1), Nat.le_trans a5 (Nat.succ_le_succ h0.2.2.2.2.1), Nat.le_succ_of_le h0.2.2.2.2.2.1, h0.2.2.2.2.2.2⟩⟩
                      have hb4 : (x.kind == 4) = false := by simpa using HK4.out
                      go_wp2_with fail
                      go_loopw [14] (fun i wx => i = .int .i64 0 ∧ wx = w9) (fun _ _ => 0)
                      case atStart => exact ⟨rfl, rfl⟩
                      case round =>
                        obtain ⟨rfl, rfl⟩ := hrel
                        have q9 : wr.cell? ⟨wo.heap.size, 0, none⟩ = some (.int .i64 x.kind) := (cell_of_blk HXN.out 0).trans rfl
                        go_wp2_with fail
                        go_roundw
                        case rel => exact ⟨k + 1, _, f, H1, _, _, rfl, by go_num, HKI.out, HFV1, HQN, HLN, HRN⟩
                        case measure => simp [intOf]; omega
                · as_aux_lemma =>
                    obtain ⟨j0, hj, hj0, hj1, hj2⟩ := info_parts info_str
                    have hown : w3.ownsRow C 9 1 H1.par (s1.parties.length) (s1.parties.map sv) := HQ3.out.row (List.mem_cons_of_mem _ (rows_mem s1 H1 cl).1)
                    have HKS0 : Hid (w3.cell? ⟨yw.heap.size, 13, none⟩ = some H1.par) := (cell_of_blk HQ3.out.qb 13).trans rfl
                    have HOBV0 : Hid (∀ j, H1.par.ownBlock = some j → C ≤ j ∧ j < wo.heap.size) := HOB.out H1.par (by simp)
                    obtain ⟨Ao, co, hvo⟩ := own_form hown
                    have HVO := Lib.hid hvo
                    have HOBV : Hid (∀ j, (Value.slice Ao (s1.parties.length) co).ownBlock = some j → C ≤ j ∧ j < wo.heap.size) := by rw [← hvo]; exact HOBV0.out
                    have HKS : Hid (w3.cell? ⟨yw.heap.size, 13, none⟩ = some (.slice Ao (s1.parties.length) co)) := by rw [← hvo]; exact HKS0.out
                    rw [hvo] at hown
                    have HOW := Lib.hid hown
                    have HCLN : Hid (cl.length = s1.clauses.length) := by show _ = _; rw [← HQ3.out.cls, List.length_map]
                    have HKN : Hid (w3.cell? ⟨wo.heap.size, 1, none⟩ = some (.string ⟨x.name.toArray⟩)) := (cell_of_blk HX3.out 1).trans rfl
                    have HK4 : Hid (x.kind ≠ 4) := fun e => by rw [e] at hg; exact absurd hg (by decide)
                    have HAD : Hid (radd T s1 x = { s1 with parties := s1.parties ++ [x.name] }) := by show _ = _; unfold radd; simp [hg]
                    have HGR := Lib.hid hg
                    clear hvo hown HKS0 HOBV0
                    rw [hg] at HG
                    clear hg
                    go_wp2_with fail
                    refine HG.out.mono ?_
                    rintro e w4 ⟨rfl, hw4⟩
                    have hw4 := hw4.symm
                    subst hw4
                    go_upto_region 28 with fail
                    have kks := HKS.out
                    have kkn := HKN.out
                    iterate 13 go_step
                    refine wpList_plain rfl fun _ hK => wp_builtR 33 1 _ rfl #[(0, .string ⟨x.name.toArray⟩)] (by go_simp) _ _ (bsl_str _ _) (hK _ _ ?_)
                    clear hK
                    simp only [Act.put, List.setIfInBounds_toArray, List.set_cons_zero, List.set_cons_succ]
                    obtain ⟨wa, hwa⟩ : ∃ v, (w3).alloc (.cells #[.string ⟨x.name.toArray⟩] 9) = v := ⟨_, rfl⟩
                    rw [hwa]
                    have HFA : Hid (Fr (fun _ => False) w3 wa) := by rw [← hwa]; exact (Fr.refl _ w3).alloc _
                    have HOA : Hid (wa.ownsRow C 9 1 (.slice Ao s1.parties.length co) (s1.parties.length) (s1.parties.map sv)) := own_fr HOW.out HFA.out (fun _ _ _ h => h)
                    have HNA : Hid (∀ j y, ([.string ⟨x.name.toArray⟩] : List Value)[j]? = some y → wa.cell? ((⟨(w3).heap.size, 0, none⟩ : Addr).add j) = some y) := by rw [← hwa]; exact World.news_of_block (cs := #[.string ⟨x.name.toArray⟩]) (t := 9) (fr := (0, 0)) (heap_alloc_new (w3) _)
                    have HSA : Hid (wa.heap.size = (w3).heap.size + 1) := by show _ = _; rw [← hwa]; simp
                    clear hwa kks kkn
                    refine wpList_append_lies wa rfl (.tmp 136) (.tmp 139) 33 rfl C 9 j0 _ 1 16 Tryd.underlying33 hj hj0 hj1 hj2 rfl (by decide) (.slice Ao s1.parties.length co) (s1.parties.length) _ (by rfl) HOA.out ⟨w3.heap.size, 0, none⟩ 1 1 [.string ⟨x.name.toArray⟩] (by rfl) rfl HNA.out (by simp [Value.oneCell']) (by decide) (by have h1 := HLS1.out.h; have h2 := HK6.out; have h3 := HCLN.out; simp only [maxLen]; omega) (by have h1 := HLS1.out.h; have h2 := HK6.out; have h3 := HCLN.out; omega) (by have h1 := HQ3.out.le; have h2 := HFA.out.size; omega) (w3.heap.size + 1) HSA.out ?_
                    intro gn cn wc g1 g2 g3 _
                    simp only [Act.put, List.setIfInBounds_toArray, List.set_cons_zero, List.set_cons_succ]
                    have HQA := Lib.hid (HQ3.out.fr HFA.out)
                    have HQN0 : Hid (QS src yw C yw.heap.size { s1 with parties := s1.parties ++ [x.name] } f { H1 with par := (.slice (some ⟨gn, 0, none⟩) (s1.parties.length + 1) cn) } cl (wc.setCell ⟨yw.heap.size, 13, none⟩ (.slice (some ⟨gn, 0, none⟩) (s1.parties.length + 1) cn))) := by
                      refine HQA.out.grow HQA.out.rows (k := 2) (r := ⟨9, 1, H1.par, s1.parties.length, s1.parties.map sv⟩) rfl (by show wa.grownBy wc H1.par.ownBlock; rw [HVO.out]; exact g2) (r' := ⟨9, 1, (.slice (some ⟨gn, 0, none⟩) (s1.parties.length + 1) cn), s1.parties.length + 1, _⟩) g1 ?_ rfl ?_ rfl HQA.out.cls rfl
                      · intro g hg
                        have hg2 : gn = g := by simpa [Value.ownBlock] using hg
                        subst hg2
                        rcases g3 with h | h
                        · left; show H1.par.ownBlock = some gn; rw [HVO.out]; exact h
                        · right; have := HSA.out; omega
                      · simp [qrows, rowsOf, sv]
                    have HBC : Hid (wc.heap[yw.heap.size]? = some (.cells (symc src s1.weekend H1).toArray 39 (0, 0))) := (Fr.of_grown g2).blk (HFA.out.blk HQ3.out.qb (fun h => h)) (fun e => by have h1 := (own_lt HOA.out _ e).1; have h2 := HCQ.out; omega)
                    have HXC : Hid ((wc.setCell ⟨yw.heap.size, 13, none⟩ (.slice (some ⟨gn, 0, none⟩) (s1.parties.length + 1) cn)).heap[wo.heap.size]? = some (.cells (ic (x, sl)).toArray 55 (0, 0))) := blk_farq ((Fr.of_grown g2).blk (HFA.out.blk HX3.out (fun h => h)) (fun e => by have h1 := (HOBV.out _ e).2; omega)) (by have h1 := HCQ.out; have h2 := HCW.out; omega) _
                    clear g1 g2 g3
                    have kb : wc.cell? ⟨yw.heap.size, 13, none⟩ = some H1.par := (cell_of_blk HBC.out 13).trans rfl
                    have fb : wc.frozen? ⟨yw.heap.size, 13, none⟩ = false := froz_of_blk HBC.out 13
                    clear q0
                    go_upto_region 37 with fail
                    obtain ⟨w9, hw9⟩ : ∃ w, wc.setCell ⟨yw.heap.size, 13, none⟩ (.slice (some ⟨gn, 0, none⟩) (s1.parties.length + 1) cn) = w := ⟨_, rfl⟩
                    rw [hw9]
                    have HQN := HQN0
                    rw [hw9] at HQN
                    have HXN := HXC
                    rw [hw9] at HXN
                    clear hw9 HQN0 HXC
                    clear kb fb
                    have HRN : Hid (ritems T ({ s1 with parties := s1.parties ++ [x.name] }) f (src.items.drop (k + 1)) ((rerrs tab0 src.items).drop (k + 1)) = rrun src.items) := by
                      have h := HSTP.out
                      rw [HRT.out] at h
                      dsimp only at h
                      rw [if_pos rfl] at h
                      have e : rweek (radd T s1 x) x = { s1 with parties := s1.parties ++ [x.name] } := by rw [HAD.out]; unfold rweek; rw [if_neg HK4.out]
                      rw [e] at h
                      exact h
                    have HLN : Hid (Lens ({ s1 with parties := s1.parties ++ [x.name] }) f (k + 1)) := by
                      have h0 := HLS1.out.h
                      have h1 := radd_lens T s1 x
                      rw [HAD.out] at h1
                      obtain ⟨a1, a2, a3, a4, a5, a6, _⟩ := h1
                      exact ⟨⟨Nat.le_trans a1 (Nat.succ_le_succ h0.1), Nat.le_trans a2 (Nat.succ_le_succ h0.2.1), Nat.le_trans a3 (Nat.succ_le_succ h0.2.2.1), Nat.le_trans a4 (Nat.succ_le_succ h0.2.2.2.1), Nat.le_trans a5 (Nat.succ_le_succ h0.2.2.2.2.1), Nat.le_succ_of_le h0.2.2.2.2.2.1, h0.2.2.2.2.2.2⟩⟩
                    have hb4 : (x.kind == 4) = false := by simpa using HK4.out
                    go_wp2_with fail
                    go_loopw [14] (fun i wx => i = .int .i64 0 ∧ wx = w9) (fun _ _ => 0)
                    case atStart => exact ⟨rfl, rfl⟩
                    case round =>
                      obtain ⟨rfl, rfl⟩ := hrel
                      have q9 : wr.cell? ⟨wo.heap.size, 0, none⟩ = some (.int .i64 x.kind) := (cell_of_blk HXN.out 0).trans rfl
                      go_wp2_with fail
                      go_roundw
                      case rel => exact ⟨k + 1, _, f, { H1 with par := (.slice (some ⟨gn, 0, none⟩) (s1.parties.length + 1) cn) }, _, _, rfl, by go_num, HKI.out, HFV1, HQN, HLN, HRN⟩
                      case measure => simp [intOf]; omega
                · as_aux_lemma =>
                    obtain ⟨j0, hj, hj0, hj1, hj2⟩ := info_parts info_role
                    have hown : w3.ownsRow C 59 2 H1.rol (s1.roles.length) (s1.roles.flatMap rolev) := HQ3.out.row (List.mem_cons_of_mem _ (rows_mem s1 H1 cl).2.1)
                    have HKS0 : Hid (w3.cell? ⟨yw.heap.size, 14, none⟩ = some H1.rol) := (cell_of_blk HQ3.out.qb 14).trans rfl
                    have HOBV0 : Hid (∀ j, H1.rol.ownBlock = some j → C ≤ j ∧ j < wo.heap.size) := HOB.out H1.rol (by simp)
                    obtain ⟨Ao, co, hvo⟩ := own_form hown
                    have HVO := Lib.hid hvo
                    have HOBV : Hid (∀ j, (Value.slice Ao (s1.roles.length) co).ownBlock = some j → C ≤ j ∧ j < wo.heap.size) := by rw [← hvo]; exact HOBV0.out
                    have HKS : Hid (w3.cell? ⟨yw.heap.size, 14, none⟩ = some (.slice Ao (s1.roles.length) co)) := by rw [← hvo]; exact HKS0.out
                    rw [hvo] at hown
                    have HOW := Lib.hid hown
                    have HCLN : Hid (cl.length = s1.clauses.length) := by show _ = _; rw [← HQ3.out.cls, List.length_map]
                    have HKN : Hid (w3.cell? ⟨wo.heap.size, 1, none⟩ = some (.string ⟨x.name.toArray⟩)) := (cell_of_blk HX3.out 1).trans rfl
                    have HK4 : Hid (x.kind ≠ 4) := fun e => by rw [e] at hg; exact absurd hg (by decide)
                    have HAD : Hid (radd T s1 x = { s1 with roles := s1.roles ++ [(x.name, rix T 1 x.of_)] }) := by show _ = _; unfold radd; simp [hg]
                    have HGR := Lib.hid hg
                    clear hvo hown HKS0 HOBV0
                    rw [hg] at HG
                    clear hg
                    have HKO : Hid (w3.cell? ⟨wo.heap.size, 3, none⟩ = some (.string ⟨x.of_.toArray⟩)) := (cell_of_blk HX3.out 3).trans rfl
                    have HCL : Hid (∀ W' : World, Fr (fun _ => False) w3 W' → Calls Tryd.prog 34 #[.agg vs.toArray, .int .i64 1, .string ⟨x.of_.toArray⟩] W' fun e w' => e = .returned (.int .i64 (rix T 1 x.of_)) ∧ Fr (fun _ => False) W' w') := fun W' hf => rindex_any T vs 1 x.of_ W' (by decide) (HTV3.out.frb hf)
                    go_wp2_with fail
                    refine HG.out.mono ?_
                    rintro e w4 ⟨rfl, hw4⟩
                    have hw4 := hw4.symm
                    subst hw4
                    go_upto_region 30 with fail
                    clear q0
                    have HFD : Hid (Fr (fun _ => False) w3 w3.drew) := (Fr.refl _ w3).drew
                    refine Reg.G.start (by kernel_rfl) ?_
                    refine' Reg.G.pure (i := 0) (v := _) rfl (by rfl) (by kernel_rfl) (by kernel_rfl) (by kernel_rfl) (fun _ _ _ h => h) ?hyg210 ?rehyg210
                    case hyg210 => exact fun w => by first | (go_simp; done) | (go_simp; with_reducible rfl)
                    simp only [Act.put, List.setIfInBounds_toArray, List.set_cons_zero, List.set_cons_succ]
                    refine' Reg.G.take (i := 1) (v := _) (F := (fun w => Fr (fun _ => False) w3 w)) rfl (by rfl) (by kernel_rfl) (by kernel_rfl) (by kernel_rfl) (fun _ _ _ h => h) (HFD.out) ?hyg211 ?rehyg211
                    case hyg211 => intro w hw; have kc0 := cell_fr hw HKS.out; clear hw; first | (go_simp; done) | (go_simp; with_reducible rfl)
                    simp only [Act.put, List.setIfInBounds_toArray, List.set_cons_zero, List.set_cons_succ]
                    refine' Reg.G.pure (i := 2) (v := _) rfl (by rfl) (by kernel_rfl) (by kernel_rfl) (by kernel_rfl) (fun _ _ _ h => h) ?hyg212 ?rehyg212
                    case hyg212 => exact fun w => by first | (go_simp; done) | (go_simp; with_reducible rfl)
                    simp only [Act.put, List.setIfInBounds_toArray, List.set_cons_zero, List.set_cons_succ]
                    refine' Reg.G.take (i := 3) (v := _) (F := (fun w => Fr (fun _ => False) w3 w)) rfl (by rfl) (by kernel_rfl) (by kernel_rfl) (by kernel_rfl) (fun _ _ _ h => h) (HFD.out) ?hyg213 ?rehyg213
                    case hyg213 => intro w hw; have kc0 := cell_fr hw HKN.out; clear hw; first | (go_simp; done) | (go_simp; with_reducible rfl)
                    simp only [Act.put, List.setIfInBounds_toArray, List.set_cons_zero, List.set_cons_succ]
                    refine' Reg.G.take (i := 4) (v := _) (F := (fun w => Fr (fun _ => False) w3 w)) rfl (by rfl) (by kernel_rfl) (by kernel_rfl) (by kernel_rfl) (fun _ _ _ h => h) (HFD.out) ?hyg214 ?rehyg214
                    case hyg214 => intro w hw; refine run_load_row (P := Tryd.prog) 100 (.tmp 4) ?_ w0.heap.size ?_ 100 vs.toArray _ (hw.blk HTB3.out (fun h => h)) Tryd.underlying100 rfl (info_tabs HVL.out) <;> rfl
                    simp only [Act.put, List.setIfInBounds_toArray, List.set_cons_zero, List.set_cons_succ]
                    refine' Reg.G.pure (i := 5) (v := _) rfl (by rfl) (by kernel_rfl) (by kernel_rfl) (by kernel_rfl) (fun _ _ _ h => h) ?hyg215 ?rehyg215
                    case hyg215 => exact fun w => by first | (go_simp; done) | (go_simp; with_reducible rfl)
                    simp only [Act.put, List.setIfInBounds_toArray, List.set_cons_zero, List.set_cons_succ]
                    refine' Reg.G.take (i := 6) (v := _) (F := (fun w => Fr (fun _ => False) w3 w)) rfl (by rfl) (by kernel_rfl) (by kernel_rfl) (by kernel_rfl) (fun _ _ _ h => h) (HFD.out) ?hyg216 ?rehyg216
                    case hyg216 => intro w hw; have kc0 := cell_fr hw HKO.out; clear hw; first | (go_simp; done) | (go_simp; with_reducible rfl)
                    simp only [Act.put, List.setIfInBounds_toArray, List.set_cons_zero, List.set_cons_succ]
                    refine Reg.G.step (j := 7) (m := [false, false, true, true]) [6, 4, 3, 1] rfl (by kernel_rfl) rfl (by kernel_rfl) (fun K hK => ?_)
                    go_simp
                    refine (HCL.out _ HFD.out).mono ?_
                    rintro e w5 ⟨rfl, hf⟩
                    have HF5 : Hid (Fr (fun _ => False) w3 w5) := HFD.out.trans hf
                    clear hf
                    refine hK.out _ _ ⟨HF5.out, HF5.out, trivial⟩ ?_
                    clear hK K
                    simp only [Act.put, List.setIfInBounds_toArray, List.set_cons_zero, List.set_cons_succ, Reg.Kept]
                    refine' Reg.G.pure (i := 8) (v := _) rfl (by rfl) (by kernel_rfl) (by kernel_rfl) (by kernel_rfl) (fun _ _ _ h => h) ?hyg217 ?rehyg217
                    case hyg217 => exact fun w => by first | (go_simp; done) | (go_simp; with_reducible rfl)
                    simp only [Act.put, List.setIfInBounds_toArray, List.set_cons_zero, List.set_cons_succ]
                    refine Reg.G.step (j := 9) (m := [false, true]) [3, 1] rfl (by kernel_rfl) rfl (by kernel_rfl) (fun K hK => ?_)
                    rw [if_pos (by rfl)]
                    refine wp_builtR 34 1 _ rfl #[(0, .agg #[.string ⟨x.name.toArray⟩, .int .i64 (rix T 1 x.of_)])] (by go_simp) _ _ (bslR_role _ _ _) ?_
                    obtain ⟨wa, hwa⟩ : ∃ v, (w5).alloc (.cells #[.string ⟨x.name.toArray⟩, .int .i64 (rix T 1 x.of_)] 59) = v := ⟨_, rfl⟩
                    rw [hwa]
                    have HFA : Hid (Fr (fun _ => False) w3 wa) := by rw [← hwa]; exact HF5.out.alloc _
                    have HOA : Hid (wa.ownsRow C 59 2 (.slice Ao s1.roles.length co) (s1.roles.length) (s1.roles.flatMap rolev)) := own_fr HOW.out HFA.out (fun _ _ _ h => h)
                    have HNA : Hid (∀ j y, ([.string ⟨x.name.toArray⟩, .int .i64 (rix T 1 x.of_)] : List Value)[j]? = some y → wa.cell? ((⟨(w5).heap.size, 0, none⟩ : Addr).add j) = some y) := by rw [← hwa]; exact World.news_of_block (cs := #[.string ⟨x.name.toArray⟩, .int .i64 (rix T 1 x.of_)]) (t := 59) (fr := (0, 0)) (heap_alloc_new (w5) _)
                    have HSA : Hid (wa.heap.size = (w5).heap.size + 1) := by show _ = _; rw [← hwa]; simp
                    clear hwa
                    refine hK.out _ _ ⟨HFA.out, trivial⟩ ?_
                    clear hK K
                    simp only [Act.put, List.setIfInBounds_toArray, List.set_cons_zero, List.set_cons_succ, Reg.Kept]
                    refine Reg.G.step (j := 10) (m := [false]) [1] rfl (by kernel_rfl) rfl (by kernel_rfl) (fun K hK => ?_)
                    rw [if_pos (by rfl)]
                    refine wp_append_lies wa (.tmp 145) (.tmp 153) 34 rfl C 59 j0 _ 2 24 Tryd.underlying34 hj hj0 hj1 hj2 rfl (by decide) (.slice Ao s1.roles.length co) (s1.roles.length) _ (by rfl) HOA.out ⟨w5.heap.size, 0, none⟩ 1 1 [.string ⟨x.name.toArray⟩, .int .i64 (rix T 1 x.of_)] (by rfl) rfl HNA.out (by simp [Value.oneCell']) (by decide) (by have h1 := HLS1.out.h; have h2 := HK6.out; have h3 := HCLN.out; simp only [maxLen]; omega) (by have h1 := HLS1.out.h; have h2 := HK6.out; have h3 := HCLN.out; omega) (by have h1 := HQ3.out.le; have h2 := HFA.out.size; omega) (w5.heap.size + 1) HSA.out ?_
                    intro gn cn wc g1 g2 g3 _
                    have HQA := Lib.hid (HQ3.out.fr HFA.out)
                    have HQN0 : Hid (QS src yw C yw.heap.size { s1 with roles := s1.roles ++ [(x.name, rix T 1 x.of_)] } f { H1 with rol := (.slice (some ⟨gn, 0, none⟩) (s1.roles.length + 1) cn) } cl (wc.setCell ⟨yw.heap.size, 14, none⟩ (.slice (some ⟨gn, 0, none⟩) (s1.roles.length + 1) cn))) := by
                      refine HQA.out.grow HQA.out.rows (k := 3) (r := ⟨59, 2, H1.rol, s1.roles.length, s1.roles.flatMap rolev⟩) rfl (by show wa.grownBy wc H1.rol.ownBlock; rw [HVO.out]; exact g2) (r' := ⟨59, 2, (.slice (some ⟨gn, 0, none⟩) (s1.roles.length + 1) cn), s1.roles.length + 1, _⟩) g1 ?_ rfl ?_ rfl HQA.out.cls rfl
                      · intro g hg
                        have hg2 : gn = g := by simpa [Value.ownBlock] using hg
                        subst hg2
                        rcases g3 with h | h
                        · left; show H1.rol.ownBlock = some gn; rw [HVO.out]; exact h
                        · right; have := HSA.out; omega
                      · simp [qrows, rowsOf, rolev, sv, nv]
                    have HBC : Hid (wc.heap[yw.heap.size]? = some (.cells (symc src s1.weekend H1).toArray 39 (0, 0))) := (Fr.of_grown g2).blk (HFA.out.blk HQ3.out.qb (fun h => h)) (fun e => by have h1 := (own_lt HOA.out _ e).1; have h2 := HCQ.out; omega)
                    have HXC : Hid ((wc.setCell ⟨yw.heap.size, 14, none⟩ (.slice (some ⟨gn, 0, none⟩) (s1.roles.length + 1) cn)).heap[wo.heap.size]? = some (.cells (ic (x, sl)).toArray 55 (0, 0))) := blk_farq ((Fr.of_grown g2).blk (HFA.out.blk HX3.out (fun h => h)) (fun e => by have h1 := (HOBV.out _ e).2; omega)) (by have h1 := HCQ.out; have h2 := HCW.out; omega) _
                    clear g1 g2 g3
                    refine hK.out _ _ trivial ?_
                    clear hK K
                    simp only [Act.put, List.setIfInBounds_toArray, List.set_cons_zero, List.set_cons_succ, Reg.Kept]
                    refine' Reg.G.pure (i := 11) (v := _) rfl (by rfl) (by kernel_rfl) (by kernel_rfl) (by kernel_rfl) (fun _ _ _ h => h) ?hyg218 ?rehyg218
                    case hyg218 => exact fun w => by first | (go_simp; done) | (go_simp; with_reducible rfl)
                    simp only [Act.put, List.setIfInBounds_toArray, List.set_cons_zero, List.set_cons_succ]
                    refine Reg.G.step (j := 12) (m := []) [] rfl (by kernel_rfl) rfl (by kernel_rfl) (fun K hK => ?_)
                    have kb : wc.cell? ⟨yw.heap.size, 14, none⟩ = some H1.rol := (cell_of_blk HBC.out 14).trans rfl
                    have fb : wc.frozen? ⟨yw.heap.size, 14, none⟩ = false := froz_of_blk HBC.out 14
                    go_simp
                    clear kb fb
                    refine hK.out _ _ trivial ?_
                    clear hK K
                    simp only [Act.put, List.setIfInBounds_toArray, List.set_cons_zero, List.set_cons_succ, Reg.Kept]
                    refine Reg.G.done (by kernel_rfl) ?_
                    obtain ⟨w9, hw9⟩ : ∃ w, wc.setCell ⟨yw.heap.size, 14, none⟩ (.slice (some ⟨gn, 0, none⟩) (s1.roles.length + 1) cn) = w := ⟨_, rfl⟩
                    rw [hw9]
                    have HQN := HQN0
                    rw [hw9] at HQN
                    have HXN := HXC
                    rw [hw9] at HXN
                    clear hw9 HQN0 HXC
                    have HRN : Hid (ritems T ({ s1 with roles := s1.roles ++ [(x.name, rix T 1 x.of_)] }) f (src.items.drop (k + 1)) ((rerrs tab0 src.items).drop (k + 1)) = rrun src.items) := by
                      have h := HSTP.out
                      rw [HRT.out] at h
                      dsimp only at h
                      rw [if_pos rfl] at h
                      have e : rweek (radd T s1 x) x = { s1 with roles := s1.roles ++ [(x.name, rix T 1 x.of_)] } := by rw [HAD.out]; unfold rweek; rw [if_neg HK4.out]
                      rw [e] at h
                      exact h
                    have HLN : Hid (Lens ({ s1 with roles := s1.roles ++ [(x.name, rix T 1 x.of_)] }) f (k + 1)) := by
                      have h0 := HLS1.out.h
                      have h1 := radd_lens T s1 x
                      rw [HAD.out] at h1
                      obtain ⟨a1, a2, a3, a4, a5, a6, _⟩ := h1
                      exact ⟨⟨Nat.le_trans a1 (Nat.succ_le_succ h0.1), Nat.le_trans a2 (Nat.succ_le_succ h0.2.1), Nat.le_trans a3 (Nat.succ_le_succ h0.2.2.1), Nat.le_trans a4 (Nat.succ_le_succ h0.2.2.2.1), Nat.le_trans a5 (Nat.succ_le_succ h0.2.2.2.2.1), Nat.le_succ_of_le h0.2.2.2.2.2.1, h0.2.2.2.2.2.2⟩⟩
                    have hb4 : (x.kind == 4) = false := by simpa using HK4.out
                    go_wp2_with fail
                    go_loopw [14] (fun i wx => i = .int .i64 0 ∧ wx = w9) (fun _ _ => 0)
                    case atStart => exact ⟨rfl, rfl⟩
                    case round =>
                      obtain ⟨rfl, rfl⟩ := hrel
                      have q9 : wr.cell? ⟨wo.heap.size, 0, none⟩ = some (.int .i64 x.kind) := (cell_of_blk HXN.out 0).trans rfl
                      go_wp2_with fail
                      go_roundw
                      case rel => exact ⟨k + 1, _, f, { H1 with rol := (.slice (some ⟨gn, 0, none⟩) (s1.roles.length + 1) cn) }, _, _, rfl, by go_num, HKI.out, HFV1, HQN, HLN, HRN⟩
                      case measure => simp [intOf]; omega
                · as_aux_lemma =>
                    obtain ⟨j0, hj, hj0, hj1, hj2⟩ := info_parts info_unit
                    have hown : w3.ownsRow C 61 5 H1.uni (s1.units.length) (s1.units.flatMap unitv) := HQ3.out.row (List.mem_cons_of_mem _ (rows_mem s1 H1 cl).2.2.1)
                    have HKS0 : Hid (w3.cell? ⟨yw.heap.size, 15, none⟩ = some H1.uni) := (cell_of_blk HQ3.out.qb 15).trans rfl
                    have HOBV0 : Hid (∀ j, H1.uni.ownBlock = some j → C ≤ j ∧ j < wo.heap.size) := HOB.out H1.uni (by simp)
                    obtain ⟨Ao, co, hvo⟩ := own_form hown
                    have HVO := Lib.hid hvo
                    have HOBV : Hid (∀ j, (Value.slice Ao (s1.units.length) co).ownBlock = some j → C ≤ j ∧ j < wo.heap.size) := by rw [← hvo]; exact HOBV0.out
                    have HKS : Hid (w3.cell? ⟨yw.heap.size, 15, none⟩ = some (.slice Ao (s1.units.length) co)) := by rw [← hvo]; exact HKS0.out
                    rw [hvo] at hown
                    have HOW := Lib.hid hown
                    have HCLN : Hid (cl.length = s1.clauses.length) := by show _ = _; rw [← HQ3.out.cls, List.length_map]
                    have HKN : Hid (w3.cell? ⟨wo.heap.size, 1, none⟩ = some (.string ⟨x.name.toArray⟩)) := (cell_of_blk HX3.out 1).trans rfl
                    have HK4 : Hid (x.kind ≠ 4) := fun e => by rw [e] at hg; exact absurd hg (by decide)
                    have HAD : Hid (radd T s1 x = { s1 with units := s1.units ++ [runit T x] }) := by show _ = _; unfold radd; simp [hg]
                    have HGR := Lib.hid hg
                    clear hvo hown HKS0 HOBV0
                    rw [hg] at HG
                    clear hg
                    have HCL : Hid (∀ W' : World, Fr (fun _ => False) w3 W' → Calls Tryd.prog 35 #[.agg vs.toArray, .agg (ic (x, sl)).toArray] W' fun e w' => e = .returned (.agg (unitv (runit T x)).toArray) ∧ Fr (fun _ => False) W' w') := fun W' hf => runit_any T vs (x, sl) W' (HTV3.out.frb hf)
                    go_wp2_with fail
                    refine HG.out.mono ?_
                    rintro e w4 ⟨rfl, hw4⟩
                    have hw4 := hw4.symm
                    subst hw4
                    go_upto_region 32 with fail
                    clear q0
                    have HFD : Hid (Fr (fun _ => False) w3 w3.drew) := (Fr.refl _ w3).drew
                    refine Reg.G.start (by kernel_rfl) ?_
                    refine' Reg.G.pure (i := 0) (v := _) rfl (by rfl) (by kernel_rfl) (by kernel_rfl) (by kernel_rfl) (fun _ _ _ h => h) ?hyg319 ?rehyg319
                    case hyg319 => exact fun w => by first | (go_simp; done) | (go_simp; with_reducible rfl)
                    simp only [Act.put, List.setIfInBounds_toArray, List.set_cons_zero, List.set_cons_succ]
                    refine' Reg.G.take (i := 1) (v := _) (F := (fun w => Fr (fun _ => False) w3 w)) rfl (by rfl) (by kernel_rfl) (by kernel_rfl) (by kernel_rfl) (fun _ _ _ h => h) (HFD.out) ?hyg320 ?rehyg320
                    case hyg320 => intro w hw; have kc0 := cell_fr hw HKS.out; clear hw; first | (go_simp; done) | (go_simp; with_reducible rfl)
                    simp only [Act.put, List.setIfInBounds_toArray, List.set_cons_zero, List.set_cons_succ]
                    refine' Reg.G.take (i := 2) (v := _) (F := (fun w => Fr (fun _ => False) w3 w)) rfl (by rfl) (by kernel_rfl) (by kernel_rfl) (by kernel_rfl) (fun _ _ _ h => h) (HFD.out) ?hyg321 ?rehyg321
                    case hyg321 => intro w hw; refine run_load_row (P := Tryd.prog) 100 (.tmp 4) ?_ w0.heap.size ?_ 100 vs.toArray _ (hw.blk HTB3.out (fun h => h)) Tryd.underlying100 rfl (info_tabs HVL.out) <;> rfl
                    simp only [Act.put, List.setIfInBounds_toArray, List.set_cons_zero, List.set_cons_succ]
                    refine' Reg.G.take (i := 3) (v := _) (F := (fun w => Fr (fun _ => False) w3 w)) rfl (by rfl) (by kernel_rfl) (by kernel_rfl) (by kernel_rfl) (fun _ _ _ h => h) (HFD.out) ?hyg322 ?rehyg322
                    case hyg322 => intro w hw; refine run_load_row (P := Tryd.prog) 55 (.tmp 12) ?_ wo.heap.size ?_ 55 (ic (x, sl)).toArray _ (hw.blk HX3.out (fun h => h)) Tryd.underlying55 rfl (info_icl (x, sl)) <;> rfl
                    simp only [Act.put, List.setIfInBounds_toArray, List.set_cons_zero, List.set_cons_succ]
                    refine Reg.G.step (j := 4) (m := [false, false, true]) [3, 2, 1] rfl (by kernel_rfl) rfl (by kernel_rfl) (fun K hK => ?_)
                    go_simp
                    refine (HCL.out _ HFD.out).mono ?_
                    rintro e w5 ⟨rfl, hf⟩
                    have HF5 : Hid (Fr (fun _ => False) w3 w5) := HFD.out.trans hf
                    simp only [unitv, sv, nv]
                    clear hf
                    refine hK.out _ _ ⟨HF5.out, trivial⟩ ?_
                    clear hK K
                    simp only [Act.put, List.setIfInBounds_toArray, List.set_cons_zero, List.set_cons_succ, Reg.Kept]
                    refine Reg.G.step (j := 5) (m := [true]) [1] rfl (by kernel_rfl) rfl (by kernel_rfl) (fun K hK => ?_)
                    rw [if_pos (by rfl)]
                    refine wp_builtR 35 1 _ rfl #[(0, .agg #[.string ⟨(runit T x).name.toArray⟩, .int .i64 (runit T x).kind, .int .i64 (runit T x).base, .int .i64 (runit T x).factor.num, .int .i64 (runit T x).factor.den])] (by go_simp) _ _ (bslR_unit _ _ _ _ _ _) ?_
                    obtain ⟨wa, hwa⟩ : ∃ v, (w5).alloc (.cells #[.string ⟨(runit T x).name.toArray⟩, .int .i64 (runit T x).kind, .int .i64 (runit T x).base, .int .i64 (runit T x).factor.num, .int .i64 (runit T x).factor.den] 61) = v := ⟨_, rfl⟩
                    rw [hwa]
                    have HFA : Hid (Fr (fun _ => False) w3 wa) := by rw [← hwa]; exact HF5.out.alloc _
                    have HOA : Hid (wa.ownsRow C 61 5 (.slice Ao s1.units.length co) (s1.units.length) (s1.units.flatMap unitv)) := own_fr HOW.out HFA.out (fun _ _ _ h => h)
                    have HNA : Hid (∀ j y, ([.string ⟨(runit T x).name.toArray⟩, .int .i64 (runit T x).kind, .int .i64 (runit T x).base, .int .i64 (runit T x).factor.num, .int .i64 (runit T x).factor.den] : List Value)[j]? = some y → wa.cell? ((⟨(w5).heap.size, 0, none⟩ : Addr).add j) = some y) := by rw [← hwa]; exact World.news_of_block (cs := #[.string ⟨(runit T x).name.toArray⟩, .int .i64 (runit T x).kind, .int .i64 (runit T x).base, .int .i64 (runit T x).factor.num, .int .i64 (runit T x).factor.den]) (t := 61) (fr := (0, 0)) (heap_alloc_new (w5) _)
                    have HSA : Hid (wa.heap.size = (w5).heap.size + 1) := by show _ = _; rw [← hwa]; simp
                    clear hwa
                    refine hK.out _ _ ⟨HFA.out, trivial⟩ ?_
                    clear hK K
                    simp only [Act.put, List.setIfInBounds_toArray, List.set_cons_zero, List.set_cons_succ, Reg.Kept]
                    refine Reg.G.step (j := 6) (m := [false]) [1] rfl (by kernel_rfl) rfl (by kernel_rfl) (fun K hK => ?_)
                    rw [if_pos (by rfl)]
                    refine wp_append_lies wa (.tmp 159) (.tmp 163) 35 rfl C 61 j0 _ 5 48 Tryd.underlying35 hj hj0 hj1 hj2 rfl (by decide) (.slice Ao s1.units.length co) (s1.units.length) _ (by rfl) HOA.out ⟨w5.heap.size, 0, none⟩ 1 1 [.string ⟨(runit T x).name.toArray⟩, .int .i64 (runit T x).kind, .int .i64 (runit T x).base, .int .i64 (runit T x).factor.num, .int .i64 (runit T x).factor.den] (by rfl) rfl HNA.out (by simp [Value.oneCell']) (by decide) (by have h1 := HLS1.out.h; have h2 := HK6.out; have h3 := HCLN.out; simp only [maxLen]; omega) (by have h1 := HLS1.out.h; have h2 := HK6.out; have h3 := HCLN.out; omega) (by have h1 := HQ3.out.le; have h2 := HFA.out.size; omega) (w5.heap.size + 1) HSA.out ?_
                    intro gn cn wc g1 g2 g3 _
                    have HQA := Lib.hid (HQ3.out.fr HFA.out)
                    have HQN0 : Hid (QS src yw C yw.heap.size { s1 with units := s1.units ++ [runit T x] } f { H1 with uni := (.slice (some ⟨gn, 0, none⟩) (s1.units.length + 1) cn) } cl (wc.setCell ⟨yw.heap.size, 15, none⟩ (.slice (some ⟨gn, 0, none⟩) (s1.units.length + 1) cn))) := by
                      refine HQA.out.grow HQA.out.rows (k := 4) (r := ⟨61, 5, H1.uni, s1.units.length, s1.units.flatMap unitv⟩) rfl (by show wa.grownBy wc H1.uni.ownBlock; rw [HVO.out]; exact g2) (r' := ⟨61, 5, (.slice (some ⟨gn, 0, none⟩) (s1.units.length + 1) cn), s1.units.length + 1, _⟩) g1 ?_ rfl ?_ rfl HQA.out.cls rfl
                      · intro g hg
                        have hg2 : gn = g := by simpa [Value.ownBlock] using hg
                        subst hg2
                        rcases g3 with h | h
                        · left; show H1.uni.ownBlock = some gn; rw [HVO.out]; exact h
                        · right; have := HSA.out; omega
                      · simp [qrows, rowsOf, unitv, sv, nv]
                    have HBC : Hid (wc.heap[yw.heap.size]? = some (.cells (symc src s1.weekend H1).toArray 39 (0, 0))) := (Fr.of_grown g2).blk (HFA.out.blk HQ3.out.qb (fun h => h)) (fun e => by have h1 := (own_lt HOA.out _ e).1; have h2 := HCQ.out; omega)
                    have HXC : Hid ((wc.setCell ⟨yw.heap.size, 15, none⟩ (.slice (some ⟨gn, 0, none⟩) (s1.units.length + 1) cn)).heap[wo.heap.size]? = some (.cells (ic (x, sl)).toArray 55 (0, 0))) := blk_farq ((Fr.of_grown g2).blk (HFA.out.blk HX3.out (fun h => h)) (fun e => by have h1 := (HOBV.out _ e).2; omega)) (by have h1 := HCQ.out; have h2 := HCW.out; omega) _
                    clear g1 g2 g3
                    refine hK.out _ _ trivial ?_
                    clear hK K
                    simp only [Act.put, List.setIfInBounds_toArray, List.set_cons_zero, List.set_cons_succ, Reg.Kept]
                    refine' Reg.G.pure (i := 7) (v := _) rfl (by rfl) (by kernel_rfl) (by kernel_rfl) (by kernel_rfl) (fun _ _ _ h => h) ?hyg323 ?rehyg323
                    case hyg323 => exact fun w => by first | (go_simp; done) | (go_simp; with_reducible rfl)
                    simp only [Act.put, List.setIfInBounds_toArray, List.set_cons_zero, List.set_cons_succ]
                    refine Reg.G.step (j := 8) (m := []) [] rfl (by kernel_rfl) rfl (by kernel_rfl) (fun K hK => ?_)
                    have kb : wc.cell? ⟨yw.heap.size, 15, none⟩ = some H1.uni := (cell_of_blk HBC.out 15).trans rfl
                    have fb : wc.frozen? ⟨yw.heap.size, 15, none⟩ = false := froz_of_blk HBC.out 15
                    go_simp
                    clear kb fb
                    refine hK.out _ _ trivial ?_
                    clear hK K
                    simp only [Act.put, List.setIfInBounds_toArray, List.set_cons_zero, List.set_cons_succ, Reg.Kept]
                    refine Reg.G.done (by kernel_rfl) ?_
                    obtain ⟨w9, hw9⟩ : ∃ w, wc.setCell ⟨yw.heap.size, 15, none⟩ (.slice (some ⟨gn, 0, none⟩) (s1.units.length + 1) cn) = w := ⟨_, rfl⟩
                    rw [hw9]
                    have HQN := HQN0
                    rw [hw9] at HQN
                    have HXN := HXC
                    rw [hw9] at HXN
                    clear hw9 HQN0 HXC
                    have HRN : Hid (ritems T ({ s1 with units := s1.units ++ [runit T x] }) f (src.items.drop (k + 1)) ((rerrs tab0 src.items).drop (k + 1)) = rrun src.items) := by
                      have h := HSTP.out
                      rw [HRT.out] at h
                      dsimp only at h
                      rw [if_pos rfl] at h
                      have e : rweek (radd T s1 x) x = { s1 with units := s1.units ++ [runit T x] } := by rw [HAD.out]; unfold rweek; rw [if_neg HK4.out]
                      rw [e] at h
                      exact h
                    have HLN : Hid (Lens ({ s1 with units := s1.units ++ [runit T x] }) f (k + 1)) := by
                      have h0 := HLS1.out.h
                      have h1 := radd_lens T s1 x
                      rw [HAD.out] at h1
                      obtain ⟨a1, a2, a3, a4, a5, a6, _⟩ := h1
                      exact ⟨⟨Nat.le_trans a1 (Nat.succ_le_succ h0.1), Nat.le_trans a2 (Nat.succ_le_succ h0.2.1), Nat.le_trans a3 (Nat.succ_le_succ h0.2.2.1), Nat.le_trans a4 (Nat.succ_le_succ h0.2.2.2.1), Nat.le_trans a5 (Nat.succ_le_succ h0.2.2.2.2.1), Nat.le_succ_of_le h0.2.2.2.2.2.1, h0.2.2.2.2.2.2⟩⟩
                    have hb4 : (x.kind == 4) = false := by simpa using HK4.out
                    go_wp2_with fail
                    go_loopw [14] (fun i wx => i = .int .i64 0 ∧ wx = w9) (fun _ _ => 0)
                    case atStart => exact ⟨rfl, rfl⟩
                    case round =>
                      obtain ⟨rfl, rfl⟩ := hrel
                      have q9 : wr.cell? ⟨wo.heap.size, 0, none⟩ = some (.int .i64 x.kind) := (cell_of_blk HXN.out 0).trans rfl
                      go_wp2_with fail
                      go_roundw
                      case rel => exact ⟨k + 1, _, f, { H1 with uni := (.slice (some ⟨gn, 0, none⟩) (s1.units.length + 1) cn) }, _, _, rfl, by go_num, HKI.out, HFV1, HQN, HLN, HRN⟩
                      case measure => simp [intOf]; omega
                · as_aux_lemma =>
                    obtain ⟨j0, hj, hj0, hj1, hj2⟩ := info_parts info_asym
                    have hown : w3.ownsRow C 65 9 H1.act (s1.acts.length) (s1.acts.flatMap asymv) := HQ3.out.row (List.mem_cons_of_mem _ (rows_mem s1 H1 cl).2.2.2.1)
                    have HKS0 : Hid (w3.cell? ⟨yw.heap.size, 16, none⟩ = some H1.act) := (cell_of_blk HQ3.out.qb 16).trans rfl
                    have HOBV0 : Hid (∀ j, H1.act.ownBlock = some j → C ≤ j ∧ j < wo.heap.size) := HOB.out H1.act (by simp)
                    obtain ⟨Ao, co, hvo⟩ := own_form hown
                    have HVO := Lib.hid hvo
                    have HOBV : Hid (∀ j, (Value.slice Ao (s1.acts.length) co).ownBlock = some j → C ≤ j ∧ j < wo.heap.size) := by rw [← hvo]; exact HOBV0.out
                    have HKS : Hid (w3.cell? ⟨yw.heap.size, 16, none⟩ = some (.slice Ao (s1.acts.length) co)) := by rw [← hvo]; exact HKS0.out
                    rw [hvo] at hown
                    have HOW := Lib.hid hown
                    have HCLN : Hid (cl.length = s1.clauses.length) := by show _ = _; rw [← HQ3.out.cls, List.length_map]
                    have HKN : Hid (w3.cell? ⟨wo.heap.size, 1, none⟩ = some (.string ⟨x.name.toArray⟩)) := (cell_of_blk HX3.out 1).trans rfl
                    have HK4 : Hid (x.kind ≠ 4) := fun e => by rw [e] at hg; exact absurd hg (by decide)
                    obtain ⟨ra, hra⟩ : ∃ ra, ract T x = ra := ⟨_, rfl⟩
                    have HRA := Lib.hid hra; clear hra
                    have HAD : Hid (radd T s1 x = { s1 with acts := s1.acts ++ [⟨x.name, x.pos, ra⟩] }) := by show _ = _; unfold radd; simp [hg, HRA.out]
                    have HGR := Lib.hid hg
                    clear hvo hown HKS0 HOBV0
                    rw [hg] at HG
                    clear hg
                    have HKP : Hid (w3.cell? ⟨wo.heap.size, 2, none⟩ = some (.int .i64 x.pos)) := (cell_of_blk HX3.out 2).trans rfl
                    have HCL : Hid (∀ W' : World, Fr (fun _ => False) w3 W' → Calls Tryd.prog 36 #[.agg vs.toArray, .agg (ic (x, sl)).toArray] W' fun e w' => e = .returned (.agg (actv (ract T x)).toArray) ∧ Fr (fun _ => False) W' w') := fun W' hf => ract_any T vs (x, sl) W' (HTV3.out.frb hf)
                    rw [HRA.out] at HCL
                    go_wp2_with fail
                    refine HG.out.mono ?_
                    rintro e w4 ⟨rfl, hw4⟩
                    have hw4 := hw4.symm
                    subst hw4
                    go_upto_region 34 with fail
                    clear q0
                    have HFD : Hid (Fr (fun _ => False) w3 w3.drew) := (Fr.refl _ w3).drew
                    refine Reg.G.start (by kernel_rfl) ?_
                    refine' Reg.G.pure (i := 0) (v := _) rfl (by rfl) (by kernel_rfl) (by kernel_rfl) (by kernel_rfl) (fun _ _ _ h => h) ?hyg424 ?rehyg424
                    case hyg424 => exact fun w => by first | (go_simp; done) | (go_simp; with_reducible rfl)
                    simp only [Act.put, List.setIfInBounds_toArray, List.set_cons_zero, List.set_cons_succ]
                    refine' Reg.G.take (i := 1) (v := _) (F := (fun w => Fr (fun _ => False) w3 w)) rfl (by rfl) (by kernel_rfl) (by kernel_rfl) (by kernel_rfl) (fun _ _ _ h => h) (HFD.out) ?hyg425 ?rehyg425
                    case hyg425 => intro w hw; have kc0 := cell_fr hw HKS.out; clear hw; first | (go_simp; done) | (go_simp; with_reducible rfl)
                    simp only [Act.put, List.setIfInBounds_toArray, List.set_cons_zero, List.set_cons_succ]
                    refine' Reg.G.pure (i := 2) (v := _) rfl (by rfl) (by kernel_rfl) (by kernel_rfl) (by kernel_rfl) (fun _ _ _ h => h) ?hyg426 ?rehyg426
                    case hyg426 => exact fun w => by first | (go_simp; done) | (go_simp; with_reducible rfl)
                    simp only [Act.put, List.setIfInBounds_toArray, List.set_cons_zero, List.set_cons_succ]
                    refine' Reg.G.take (i := 3) (v := _) (F := (fun w => Fr (fun _ => False) w3 w)) rfl (by rfl) (by kernel_rfl) (by kernel_rfl) (by kernel_rfl) (fun _ _ _ h => h) (HFD.out) ?hyg427 ?rehyg427
                    case hyg427 => intro w hw; have kc0 := cell_fr hw HKN.out; clear hw; first | (go_simp; done) | (go_simp; with_reducible rfl)
                    simp only [Act.put, List.setIfInBounds_toArray, List.set_cons_zero, List.set_cons_succ]
                    refine' Reg.G.pure (i := 4) (v := _) rfl (by rfl) (by kernel_rfl) (by kernel_rfl) (by kernel_rfl) (fun _ _ _ h => h) ?hyg428 ?rehyg428
                    case hyg428 => exact fun w => by first | (go_simp; done) | (go_simp; with_reducible rfl)
                    simp only [Act.put, List.setIfInBounds_toArray, List.set_cons_zero, List.set_cons_succ]
                    refine' Reg.G.take (i := 5) (v := _) (F := (fun w => Fr (fun _ => False) w3 w)) rfl (by rfl) (by kernel_rfl) (by kernel_rfl) (by kernel_rfl) (fun _ _ _ h => h) (HFD.out) ?hyg429 ?rehyg429
                    case hyg429 => intro w hw; have kc0 := cell_fr hw HKP.out; clear hw; first | (go_simp; done) | (go_simp; with_reducible rfl)
                    simp only [Act.put, List.setIfInBounds_toArray, List.set_cons_zero, List.set_cons_succ]
                    refine' Reg.G.take (i := 6) (v := _) (F := (fun w => Fr (fun _ => False) w3 w)) rfl (by rfl) (by kernel_rfl) (by kernel_rfl) (by kernel_rfl) (fun _ _ _ h => h) (HFD.out) ?hyg430 ?rehyg430
                    case hyg430 => intro w hw; refine run_load_row (P := Tryd.prog) 100 (.tmp 4) ?_ w0.heap.size ?_ 100 vs.toArray _ (hw.blk HTB3.out (fun h => h)) Tryd.underlying100 rfl (info_tabs HVL.out) <;> rfl
                    simp only [Act.put, List.setIfInBounds_toArray, List.set_cons_zero, List.set_cons_succ]
                    refine' Reg.G.take (i := 7) (v := _) (F := (fun w => Fr (fun _ => False) w3 w)) rfl (by rfl) (by kernel_rfl) (by kernel_rfl) (by kernel_rfl) (fun _ _ _ h => h) (HFD.out) ?hyg431 ?rehyg431
                    case hyg431 => intro w hw; refine run_load_row (P := Tryd.prog) 55 (.tmp 12) ?_ wo.heap.size ?_ 55 (ic (x, sl)).toArray _ (hw.blk HX3.out (fun h => h)) Tryd.underlying55 rfl (info_icl (x, sl)) <;> rfl
                    simp only [Act.put, List.setIfInBounds_toArray, List.set_cons_zero, List.set_cons_succ]
                    refine Reg.G.step (j := 8) (m := [false, false, true, true, true]) [7, 6, 5, 3, 1] rfl (by kernel_rfl) rfl (by kernel_rfl) (fun K hK => ?_)
                    go_simp
                    refine (HCL.out _ HFD.out).mono ?_
                    rintro e w5 ⟨rfl, hf⟩
                    have HF5 : Hid (Fr (fun _ => False) w3 w5) := HFD.out.trans hf
                    simp only [actv, nv]
                    clear hf
                    refine hK.out _ _ ⟨HF5.out, HF5.out, HF5.out, trivial⟩ ?_
                    clear hK K
                    simp only [Act.put, List.setIfInBounds_toArray, List.set_cons_zero, List.set_cons_succ, Reg.Kept]
                    refine' Reg.G.pure (i := 9) (v := (.agg #[.string ⟨x.name.toArray⟩, .int .i64 x.pos, .int .i64 ra.kind, .int .i64 ra.role, .int .i64 ra.give, .int .i64 ra.to_, .int .i64 ra.unit, .int .i64 ra.lot.num, .int .i64 ra.lot.den])) rfl (by rfl) (by kernel_rfl) (by kernel_rfl) (by kernel_rfl) (fun _ _ _ h => h) ?hyg432 ?rehyg432
                    case hyg432 => exact fun w => run_built 65 _ rfl #[(0, .string ⟨x.name.toArray⟩), (1, .int .i64 x.pos), (2, .agg #[.int .i64 ra.kind, .int .i64 ra.role, .int .i64 ra.give, .int .i64 ra.to_, .int .i64 ra.unit, .int .i64 ra.lot.num, .int .i64 ra.lot.den])] (by go_simp) _ (bldR_act _ _ _ _ _ _ _ _ _ _)
                    simp only [Act.put, List.setIfInBounds_toArray, List.set_cons_zero, List.set_cons_succ]
                    refine Reg.G.step (j := 10) (m := [false, false, true]) [5, 3, 1] rfl (by kernel_rfl) rfl (by kernel_rfl) (fun K hK => ?_)
                    rw [if_pos (by rfl)]
                    refine wp_builtR 36 1 _ rfl #[(0, .agg #[.string ⟨x.name.toArray⟩, .int .i64 x.pos, .int .i64 ra.kind, .int .i64 ra.role, .int .i64 ra.give, .int .i64 ra.to_, .int .i64 ra.unit, .int .i64 ra.lot.num, .int .i64 ra.lot.den])] (by go_simp) _ _ (bslR_act _ _ _ _ _ _ _ _ _ _) ?_
                    obtain ⟨wa, hwa⟩ : ∃ v, (w5).alloc (.cells #[.string ⟨x.name.toArray⟩, .int .i64 x.pos, .int .i64 ra.kind, .int .i64 ra.role, .int .i64 ra.give, .int .i64 ra.to_, .int .i64 ra.unit, .int .i64 ra.lot.num, .int .i64 ra.lot.den] 65) = v := ⟨_, rfl⟩
                    rw [hwa]
                    have HFA : Hid (Fr (fun _ => False) w3 wa) := by rw [← hwa]; exact HF5.out.alloc _
                    have HOA : Hid (wa.ownsRow C 65 9 (.slice Ao s1.acts.length co) (s1.acts.length) (s1.acts.flatMap asymv)) := own_fr HOW.out HFA.out (fun _ _ _ h => h)
                    have HNA : Hid (∀ j y, ([.string ⟨x.name.toArray⟩, .int .i64 x.pos, .int .i64 ra.kind, .int .i64 ra.role, .int .i64 ra.give, .int .i64 ra.to_, .int .i64 ra.unit, .int .i64 ra.lot.num, .int .i64 ra.lot.den] : List Value)[j]? = some y → wa.cell? ((⟨(w5).heap.size, 0, none⟩ : Addr).add j) = some y) := by rw [← hwa]; exact World.news_of_block (cs := #[.string ⟨x.name.toArray⟩, .int .i64 x.pos, .int .i64 ra.kind, .int .i64 ra.role, .int .i64 ra.give, .int .i64 ra.to_, .int .i64 ra.unit, .int .i64 ra.lot.num, .int .i64 ra.lot.den]) (t := 65) (fr := (0, 0)) (heap_alloc_new (w5) _)
                    have HSA : Hid (wa.heap.size = (w5).heap.size + 1) := by show _ = _; rw [← hwa]; simp
                    clear hwa
                    refine hK.out _ _ ⟨HFA.out, trivial⟩ ?_
                    clear hK K
                    simp only [Act.put, List.setIfInBounds_toArray, List.set_cons_zero, List.set_cons_succ, Reg.Kept]
                    refine Reg.G.step (j := 11) (m := [false]) [1] rfl (by kernel_rfl) rfl (by kernel_rfl) (fun K hK => ?_)
                    rw [if_pos (by rfl)]
                    refine wp_append_lies wa (.tmp 169) (.tmp 178) 36 rfl C 65 j0 _ 9 80 Tryd.underlying36 hj hj0 hj1 hj2 rfl (by decide) (.slice Ao s1.acts.length co) (s1.acts.length) _ (by rfl) HOA.out ⟨w5.heap.size, 0, none⟩ 1 1 [.string ⟨x.name.toArray⟩, .int .i64 x.pos, .int .i64 ra.kind, .int .i64 ra.role, .int .i64 ra.give, .int .i64 ra.to_, .int .i64 ra.unit, .int .i64 ra.lot.num, .int .i64 ra.lot.den] (by rfl) rfl HNA.out (by simp [Value.oneCell']) (by decide) (by have h1 := HLS1.out.h; have h2 := HK6.out; have h3 := HCLN.out; simp only [maxLen]; omega) (by have h1 := HLS1.out.h; have h2 := HK6.out; have h3 := HCLN.out; omega) (by have h1 := HQ3.out.le; have h2 := HFA.out.size; omega) (w5.heap.size + 1) HSA.out ?_
                    intro gn cn wc g1 g2 g3 _
                    have HQA := Lib.hid (HQ3.out.fr HFA.out)
                    have HQN0 : Hid (QS src yw C yw.heap.size { s1 with acts := s1.acts ++ [⟨x.name, x.pos, ra⟩] } f { H1 with act := (.slice (some ⟨gn, 0, none⟩) (s1.acts.length + 1) cn) } cl (wc.setCell ⟨yw.heap.size, 16, none⟩ (.slice (some ⟨gn, 0, none⟩) (s1.acts.length + 1) cn))) := by
                      refine HQA.out.grow HQA.out.rows (k := 5) (r := ⟨65, 9, H1.act, s1.acts.length, s1.acts.flatMap asymv⟩) rfl (by show wa.grownBy wc H1.act.ownBlock; rw [HVO.out]; exact g2) (r' := ⟨65, 9, (.slice (some ⟨gn, 0, none⟩) (s1.acts.length + 1) cn), s1.acts.length + 1, _⟩) g1 ?_ rfl ?_ rfl HQA.out.cls rfl
                      · intro g hg
                        have hg2 : gn = g := by simpa [Value.ownBlock] using hg
                        subst hg2
                        rcases g3 with h | h
                        · left; show H1.act.ownBlock = some gn; rw [HVO.out]; exact h
                        · right; have := HSA.out; omega
                      · simp [qrows, rowsOf, asymv, actv, sv, nv]
                    have HBC : Hid (wc.heap[yw.heap.size]? = some (.cells (symc src s1.weekend H1).toArray 39 (0, 0))) := (Fr.of_grown g2).blk (HFA.out.blk HQ3.out.qb (fun h => h)) (fun e => by have h1 := (own_lt HOA.out _ e).1; have h2 := HCQ.out; omega)
                    have HXC : Hid ((wc.setCell ⟨yw.heap.size, 16, none⟩ (.slice (some ⟨gn, 0, none⟩) (s1.acts.length + 1) cn)).heap[wo.heap.size]? = some (.cells (ic (x, sl)).toArray 55 (0, 0))) := blk_farq ((Fr.of_grown g2).blk (HFA.out.blk HX3.out (fun h => h)) (fun e => by have h1 := (HOBV.out _ e).2; omega)) (by have h1 := HCQ.out; have h2 := HCW.out; omega) _
                    clear g1 g2 g3
                    refine hK.out _ _ trivial ?_
                    clear hK K
                    simp only [Act.put, List.setIfInBounds_toArray, List.set_cons_zero, List.set_cons_succ, Reg.Kept]
                    refine' Reg.G.pure (i := 12) (v := _) rfl (by rfl) (by kernel_rfl) (by kernel_rfl) (by kernel_rfl) (fun _ _ _ h => h) ?hyg433 ?rehyg433
                    case hyg433 => exact fun w => by first | (go_simp; done) | (go_simp; with_reducible rfl)
                    simp only [Act.put, List.setIfInBounds_toArray, List.set_cons_zero, List.set_cons_succ]
                    refine Reg.G.step (j := 13) (m := []) [] rfl (by kernel_rfl) rfl (by kernel_rfl) (fun K hK => ?_)
                    have kb : wc.cell? ⟨yw.heap.size, 16, none⟩ = some H1.act := (cell_of_blk HBC.out 16).trans rfl
                    have fb : wc.frozen? ⟨yw.heap.size, 16, none⟩ = false := froz_of_blk HBC.out 16
                    go_simp
                    clear kb fb
                    refine hK.out _ _ trivial ?_
                    clear hK K
                    simp only [Act.put, List.setIfInBounds_toArray, List.set_cons_zero, List.set_cons_succ, Reg.Kept]
                    refine Reg.G.done (by kernel_rfl) ?_
                    obtain ⟨w9, hw9⟩ : ∃ w, wc.setCell ⟨yw.heap.size, 16, none⟩ (.slice (some ⟨gn, 0, none⟩) (s1.acts.length + 1) cn) = w := ⟨_, rfl⟩
                    rw [hw9]
                    have HQN := HQN0
                    rw [hw9] at HQN
                    have HXN := HXC
                    rw [hw9] at HXN
                    clear hw9 HQN0 HXC
                    have HRN : Hid (ritems T ({ s1 with acts := s1.acts ++ [⟨x.name, x.pos, ra⟩] }) f (src.items.drop (k + 1)) ((rerrs tab0 src.items).drop (k + 1)) = rrun src.items) := by
                      have h := HSTP.out
                      rw [HRT.out] at h
                      dsimp only at h
                      rw [if_pos rfl] at h
                      have e : rweek (radd T s1 x) x = { s1 with acts := s1.acts ++ [⟨x.name, x.pos, ra⟩] } := by rw [HAD.out]; unfold rweek; rw [if_neg HK4.out]
                      rw [e] at h
                      exact h
                    have HLN : Hid (Lens ({ s1 with acts := s1.acts ++ [⟨x.name, x.pos, ra⟩] }) f (k + 1)) := by
                      have h0 := HLS1.out.h
                      have h1 := radd_lens T s1 x
                      rw [HAD.out] at h1
                      obtain ⟨a1, a2, a3, a4, a5, a6, _⟩ := h1
                      exact ⟨⟨Nat.le_trans a1 (Nat.succ_le_succ h0.1), Nat.le_trans a2 (Nat.succ_le_succ h0.2.1), Nat.le_trans a3 (Nat.succ_le_succ h0.2.2.1), Nat.le_trans a4 (Nat.succ_le_succ h0.2.2.2.1), Nat.le_trans a5 (Nat.succ_le_succ h0.2.2.2.2.1), Nat.le_succ_of_le h0.2.2.2.2.2.1, h0.2.2.2.2.2.2⟩⟩
                    have hb4 : (x.kind == 4) = false := by simpa using HK4.out
                    go_wp2_with fail
                    go_loopw [14] (fun i wx => i = .int .i64 0 ∧ wx = w9) (fun _ _ => 0)
                    case atStart => exact ⟨rfl, rfl⟩
                    case round =>
                      obtain ⟨rfl, rfl⟩ := hrel
                      have q9 : wr.cell? ⟨wo.heap.size, 0, none⟩ = some (.int .i64 x.kind) := (cell_of_blk HXN.out 0).trans rfl
                      go_wp2_with fail
                      go_roundw
                      case rel => exact ⟨k + 1, _, f, { H1 with act := (.slice (some ⟨gn, 0, none⟩) (s1.acts.length + 1) cn) }, _, _, rfl, by go_num, HKI.out, HFV1, HQN, HLN, HRN⟩
                      case measure => simp [intOf]; omega
                · as_aux_lemma =>
                    obtain ⟨j0, hj, hj0, hj1, hj2⟩ := info_parts info_csymz
                    have hown : w3.ownsRow C 71 24 H1.cla (cl.length) (cl.flatMap fun p => csymv p.1 p.2) := HQ3.out.row (List.mem_cons_of_mem _ (rows_mem s1 H1 cl).2.2.2.2)
                    have HKS0 : Hid (w3.cell? ⟨yw.heap.size, 17, none⟩ = some H1.cla) := (cell_of_blk HQ3.out.qb 17).trans rfl
                    have HOBV0 : Hid (∀ j, H1.cla.ownBlock = some j → C ≤ j ∧ j < wo.heap.size) := HOB.out H1.cla (by simp)
                    obtain ⟨Ao, co, hvo⟩ := own_form hown
                    have HVO := Lib.hid hvo
                    have HOBV : Hid (∀ j, (Value.slice Ao (cl.length) co).ownBlock = some j → C ≤ j ∧ j < wo.heap.size) := by rw [← hvo]; exact HOBV0.out
                    have HKS : Hid (w3.cell? ⟨yw.heap.size, 17, none⟩ = some (.slice Ao (cl.length) co)) := by rw [← hvo]; exact HKS0.out
                    rw [hvo] at hown
                    have HOW := Lib.hid hown
                    have HCLN : Hid (cl.length = s1.clauses.length) := by show _ = _; rw [← HQ3.out.cls, List.length_map]
                    have HKN : Hid (w3.cell? ⟨wo.heap.size, 1, none⟩ = some (.string ⟨x.name.toArray⟩)) := (cell_of_blk HX3.out 1).trans rfl
                    have HK4 : Hid (x.kind ≠ 4) := fun e => by rw [e] at hg; exact absurd hg (by decide)
                    have HAD : Hid (radd T s1 x = { s1 with clauses := s1.clauses ++ [⟨x.name, x.pos, x.within, x.grace, rclause T x⟩] }) := by show _ = _; unfold radd; simp [hg]
                    have HGR := Lib.hid hg
                    clear hvo hown HKS0 HOBV0
                    rw [hg] at HG
                    clear hg
                    have HKP : Hid (w3.cell? ⟨wo.heap.size, 2, none⟩ = some (.int .i64 x.pos)) := (cell_of_blk HX3.out 2).trans rfl
                    have HK7 : Hid (w3.cell? ⟨wo.heap.size, 7, none⟩ = some (.int .i64 x.within.days)) := (cell_of_blk HX3.out 7).trans rfl
                    have HK8 : Hid (w3.cell? ⟨wo.heap.size, 8, none⟩ = some (.bool x.within.bus)) := (cell_of_blk HX3.out 8).trans rfl
                    have HK9 : Hid (w3.cell? ⟨wo.heap.size, 9, none⟩ = some (.string ⟨x.within.name.toArray⟩)) := (cell_of_blk HX3.out 9).trans rfl
                    have HK10 : Hid (w3.cell? ⟨wo.heap.size, 10, none⟩ = some (.int .i64 x.grace.days)) := (cell_of_blk HX3.out 10).trans rfl
                    have HK11 : Hid (w3.cell? ⟨wo.heap.size, 11, none⟩ = some (.bool x.grace.bus)) := (cell_of_blk HX3.out 11).trans rfl
                    have HK12 : Hid (w3.cell? ⟨wo.heap.size, 12, none⟩ = some (.string ⟨x.grace.name.toArray⟩)) := (cell_of_blk HX3.out 12).trans rfl
                    have HCL : Hid (∀ W' : World, Fr (fun _ => False) w3 W' → Calls Tryd.prog 37 #[.agg vs.toArray, .agg (ic (x, sl)).toArray] W' fun e w' => ∃ st, e = .returned (.agg (clv (rclause T x) st).toArray) ∧ w'.ownsRow W'.heap.size 114 2 st x.conds.length ((x.conds.map (rcond T)).flatMap condv) ∧ Fr (fun _ => False) W' w') := fun W' hf => rclause_any T vs (x, sl) W' (HTV3.out.frb hf) HGR.out (HFL3.out.conds.below (hf.below (Nat.le_refl _) (fun _ h => h.elim))) HOKX.out.2
                    go_wp2_with fail
                    refine HG.out.mono ?_
                    rintro e w4 ⟨rfl, hw4⟩
                    have hw4 := hw4.symm
                    subst hw4
                    go_upto_region 36 with fail
                    clear q0
                    have HFD : Hid (Fr (fun _ => False) w3 w3.drew) := (Fr.refl _ w3).drew
                    refine Reg.G.start (by kernel_rfl) ?_
                    refine' Reg.G.pure (i := 0) (v := _) rfl (by rfl) (by kernel_rfl) (by kernel_rfl) (by kernel_rfl) (fun _ _ _ h => h) ?hyg534 ?rehyg534
                    case hyg534 => exact fun w => by first | (go_simp; done) | (go_simp; with_reducible rfl)
                    simp only [Act.put, List.setIfInBounds_toArray, List.set_cons_zero, List.set_cons_succ]
                    refine' Reg.G.take (i := 1) (v := _) (F := (fun w => Fr (fun _ => False) w3 w)) rfl (by rfl) (by kernel_rfl) (by kernel_rfl) (by kernel_rfl) (fun _ _ _ h => h) (HFD.out) ?hyg535 ?rehyg535
                    case hyg535 => intro w hw; have kc0 := cell_fr hw HKS.out; clear hw; first | (go_simp; done) | (go_simp; with_reducible rfl)
                    simp only [Act.put, List.setIfInBounds_toArray, List.set_cons_zero, List.set_cons_succ]
                    refine' Reg.G.pure (i := 2) (v := _) rfl (by rfl) (by kernel_rfl) (by kernel_rfl) (by kernel_rfl) (fun _ _ _ h => h) ?hyg536 ?rehyg536
                    case hyg536 => exact fun w => by first | (go_simp; done) | (go_simp; with_reducible rfl)
                    simp only [Act.put, List.setIfInBounds_toArray, List.set_cons_zero, List.set_cons_succ]
                    refine' Reg.G.take (i := 3) (v := _) (F := (fun w => Fr (fun _ => False) w3 w)) rfl (by rfl) (by kernel_rfl) (by kernel_rfl) (by kernel_rfl) (fun _ _ _ h => h) (HFD.out) ?hyg537 ?rehyg537
                    case hyg537 => intro w hw; have kc0 := cell_fr hw HKN.out; clear hw; first | (go_simp; done) | (go_simp; with_reducible rfl)
                    simp only [Act.put, List.setIfInBounds_toArray, List.set_cons_zero, List.set_cons_succ]
                    refine' Reg.G.pure (i := 4) (v := _) rfl (by rfl) (by kernel_rfl) (by kernel_rfl) (by kernel_rfl) (fun _ _ _ h => h) ?hyg538 ?rehyg538
                    case hyg538 => exact fun w => by first | (go_simp; done) | (go_simp; with_reducible rfl)
                    simp only [Act.put, List.setIfInBounds_toArray, List.set_cons_zero, List.set_cons_succ]
                    refine' Reg.G.take (i := 5) (v := _) (F := (fun w => Fr (fun _ => False) w3 w)) rfl (by rfl) (by kernel_rfl) (by kernel_rfl) (by kernel_rfl) (fun _ _ _ h => h) (HFD.out) ?hyg539 ?rehyg539
                    case hyg539 => intro w hw; have kc0 := cell_fr hw HKP.out; clear hw; first | (go_simp; done) | (go_simp; with_reducible rfl)
                    simp only [Act.put, List.setIfInBounds_toArray, List.set_cons_zero, List.set_cons_succ]
                    refine' Reg.G.pure (i := 6) (v := _) rfl (by rfl) (by kernel_rfl) (by kernel_rfl) (by kernel_rfl) (fun _ _ _ h => h) ?hyg540 ?rehyg540
                    case hyg540 => exact fun w => by first | (go_simp; done) | (go_simp; with_reducible rfl)
                    simp only [Act.put, List.setIfInBounds_toArray, List.set_cons_zero, List.set_cons_succ]
                    refine' Reg.G.take (i := 7) (v := _) (F := (fun w => Fr (fun _ => False) w3 w)) rfl (by rfl) (by kernel_rfl) (by kernel_rfl) (by kernel_rfl) (fun _ _ _ h => h) (HFD.out) ?hyg541 ?rehyg541
                    case hyg541 => intro w hw; have kc0 := cell_fr hw HK7.out; have kc1 := cell_fr hw HK8.out; have kc2 := cell_fr hw HK9.out; clear hw; first | (go_simp; done) | (go_simp; with_reducible rfl)
                    simp only [Act.put, List.setIfInBounds_toArray, List.set_cons_zero, List.set_cons_succ]
                    refine' Reg.G.pure (i := 8) (v := _) rfl (by rfl) (by kernel_rfl) (by kernel_rfl) (by kernel_rfl) (fun _ _ _ h => h) ?hyg542 ?rehyg542
                    case hyg542 => exact fun w => by first | (go_simp; done) | (go_simp; with_reducible rfl)
                    simp only [Act.put, List.setIfInBounds_toArray, List.set_cons_zero, List.set_cons_succ]
                    refine' Reg.G.take (i := 9) (v := _) (F := (fun w => Fr (fun _ => False) w3 w)) rfl (by rfl) (by kernel_rfl) (by kernel_rfl) (by kernel_rfl) (fun _ _ _ h => h) (HFD.out) ?hyg543 ?rehyg543
                    case hyg543 => intro w hw; have kc0 := cell_fr hw HK10.out; have kc1 := cell_fr hw HK11.out; have kc2 := cell_fr hw HK12.out; clear hw; first | (go_simp; done) | (go_simp; with_reducible rfl)
                    simp only [Act.put, List.setIfInBounds_toArray, List.set_cons_zero, List.set_cons_succ]
                    refine' Reg.G.take (i := 10) (v := _) (F := (fun w => Fr (fun _ => False) w3 w)) rfl (by rfl) (by kernel_rfl) (by kernel_rfl) (by kernel_rfl) (fun _ _ _ h => h) (HFD.out) ?hyg544 ?rehyg544
                    case hyg544 => intro w hw; refine run_load_row (P := Tryd.prog) 100 (.tmp 4) ?_ w0.heap.size ?_ 100 vs.toArray _ (hw.blk HTB3.out (fun h => h)) Tryd.underlying100 rfl (info_tabs HVL.out) <;> rfl
                    simp only [Act.put, List.setIfInBounds_toArray, List.set_cons_zero, List.set_cons_succ]
                    refine' Reg.G.take (i := 11) (v := _) (F := (fun w => Fr (fun _ => False) w3 w)) rfl (by rfl) (by kernel_rfl) (by kernel_rfl) (by kernel_rfl) (fun _ _ _ h => h) (HFD.out) ?hyg545 ?rehyg545
                    case hyg545 => intro w hw; refine run_load_row (P := Tryd.prog) 55 (.tmp 12) ?_ wo.heap.size ?_ 55 (ic (x, sl)).toArray _ (hw.blk HX3.out (fun h => h)) Tryd.underlying55 rfl (info_icl (x, sl)) <;> rfl
                    simp only [Act.put, List.setIfInBounds_toArray, List.set_cons_zero, List.set_cons_succ]
                    refine Reg.G.step (j := 12) (m := [false, false, true, true, true, true, true]) [11, 10, 9, 7, 5, 3, 1] rfl (by kernel_rfl) rfl (by kernel_rfl) (fun K hK => ?_)
                    go_simp
                    refine (HCL.out _ HFD.out).mono ?_
                    rintro e w5 ⟨st, rfl, hst, hf⟩
                    obtain ⟨Ast, cst, rfl⟩ := own_form hst
                    have HST := Lib.hid hst
                    have HF5 : Hid (Fr (fun _ => False) w3 w5) := HFD.out.trans hf
                    have HRWC : Hid (ORs C w5 (qrows s1 H1 cl ++ [⟨114, 2, .slice Ast x.conds.length cst, x.conds.length, (rclause T x).start.flatMap condv⟩])) := HQ3.out.rows.snoc (HQ3.out.fr HF5.out).rows HST.out (Nat.le_refl _) HQ3.out.le
                    simp only [clv, nv]
                    clear hf hst
                    refine hK.out _ _ ⟨HF5.out, HF5.out, HF5.out, HF5.out, HF5.out, trivial⟩ ?_
                    clear hK K
                    simp only [Act.put, List.setIfInBounds_toArray, List.set_cons_zero, List.set_cons_succ, Reg.Kept]
                    refine' Reg.G.pure (i := 13) (v := (.agg #[.string ⟨x.name.toArray⟩, .int .i64 x.pos, .int .i64 x.within.days, .bool x.within.bus, .string ⟨x.within.name.toArray⟩, .int .i64 x.grace.days, .bool x.grace.bus, .string ⟨x.grace.name.toArray⟩, .int .i64 (rclause T x).kind, .int .i64 (rclause T x).role, .int .i64 (rclause T x).act, .int .i64 (rclause T x).need, .slice Ast x.conds.length cst, .int .i64 0, .int .i64 0, .bool false, .bool (rclause T x).fin, .int .i64 (rclause T x).pause, .int .i64 (rclause T x).resume, .int .i64 (rclause T x).value.num, .int .i64 (rclause T x).value.den, .int .i64 (rclause T x).unit, .int .i64 (rclause T x).to_, .bool false])) rfl (by rfl) (by kernel_rfl) (by kernel_rfl) (by kernel_rfl) (fun _ _ _ h => h) ?hyg546 ?rehyg546
                    case hyg546 => exact fun w => run_built 71 _ rfl #[(0, .string ⟨x.name.toArray⟩), (1, .int .i64 x.pos), (2, .agg #[.int .i64 x.within.days, .bool x.within.bus, .string ⟨x.within.name.toArray⟩]), (3, .agg #[.int .i64 x.grace.days, .bool x.grace.bus, .string ⟨x.grace.name.toArray⟩]), (4, .agg #[.int .i64 (rclause T x).kind, .int .i64 (rclause T x).role, .int .i64 (rclause T x).act, .int .i64 (rclause T x).need, .slice Ast x.conds.length cst, .int .i64 0, .int .i64 0, .bool false, .bool (rclause T x).fin, .int .i64 (rclause T x).pause, .int .i64 (rclause T x).resume, .int .i64 (rclause T x).value.num, .int .i64 (rclause T x).value.den, .int .i64 (rclause T x).unit, .int .i64 (rclause T x).to_, .bool false])] (by go_simp) _ (bldR_cla ..)
                    simp only [Act.put, List.setIfInBounds_toArray, List.set_cons_zero, List.set_cons_succ]
                    refine Reg.G.step (j := 14) (m := [false, false, false, false, true]) [9, 7, 5, 3, 1] rfl (by kernel_rfl) rfl (by kernel_rfl) (fun K hK => ?_)
                    rw [if_pos (by rfl)]
                    refine wp_builtR 37 1 _ rfl #[(0, .agg #[.string ⟨x.name.toArray⟩, .int .i64 x.pos, .int .i64 x.within.days, .bool x.within.bus, .string ⟨x.within.name.toArray⟩, .int .i64 x.grace.days, .bool x.grace.bus, .string ⟨x.grace.name.toArray⟩, .int .i64 (rclause T x).kind, .int .i64 (rclause T x).role, .int .i64 (rclause T x).act, .int .i64 (rclause T x).need, .slice Ast x.conds.length cst, .int .i64 0, .int .i64 0, .bool false, .bool (rclause T x).fin, .int .i64 (rclause T x).pause, .int .i64 (rclause T x).resume, .int .i64 (rclause T x).value.num, .int .i64 (rclause T x).value.den, .int .i64 (rclause T x).unit, .int .i64 (rclause T x).to_, .bool false])] (by go_simp) _ _ (bslR_cla ..) ?_
                    obtain ⟨wa, hwa⟩ : ∃ v, (w5).alloc (.cells #[.string ⟨x.name.toArray⟩, .int .i64 x.pos, .int .i64 x.within.days, .bool x.within.bus, .string ⟨x.within.name.toArray⟩, .int .i64 x.grace.days, .bool x.grace.bus, .string ⟨x.grace.name.toArray⟩, .int .i64 (rclause T x).kind, .int .i64 (rclause T x).role, .int .i64 (rclause T x).act, .int .i64 (rclause T x).need, .slice Ast x.conds.length cst, .int .i64 0, .int .i64 0, .bool false, .bool (rclause T x).fin, .int .i64 (rclause T x).pause, .int .i64 (rclause T x).resume, .int .i64 (rclause T x).value.num, .int .i64 (rclause T x).value.den, .int .i64 (rclause T x).unit, .int .i64 (rclause T x).to_, .bool false] 71) = v := ⟨_, rfl⟩
                    rw [hwa]
                    have HFA : Hid (Fr (fun _ => False) w3 wa) := by rw [← hwa]; exact HF5.out.alloc _
                    have HOA : Hid (wa.ownsRow C 71 24 (.slice Ao cl.length co) (cl.length) (cl.flatMap fun p => csymv p.1 p.2)) := own_fr HOW.out HFA.out (fun _ _ _ h => h)
                    have HNA : Hid (∀ j y, ([.string ⟨x.name.toArray⟩, .int .i64 x.pos, .int .i64 x.within.days, .bool x.within.bus, .string ⟨x.within.name.toArray⟩, .int .i64 x.grace.days, .bool x.grace.bus, .string ⟨x.grace.name.toArray⟩, .int .i64 (rclause T x).kind, .int .i64 (rclause T x).role, .int .i64 (rclause T x).act, .int .i64 (rclause T x).need, .slice Ast x.conds.length cst, .int .i64 0, .int .i64 0, .bool false, .bool (rclause T x).fin, .int .i64 (rclause T x).pause, .int .i64 (rclause T x).resume, .int .i64 (rclause T x).value.num, .int .i64 (rclause T x).value.den, .int .i64 (rclause T x).unit, .int .i64 (rclause T x).to_, .bool false] : List Value)[j]? = some y → wa.cell? ((⟨(w5).heap.size, 0, none⟩ : Addr).add j) = some y) := by rw [← hwa]; exact World.news_of_block (cs := #[.string ⟨x.name.toArray⟩, .int .i64 x.pos, .int .i64 x.within.days, .bool x.within.bus, .string ⟨x.within.name.toArray⟩, .int .i64 x.grace.days, .bool x.grace.bus, .string ⟨x.grace.name.toArray⟩, .int .i64 (rclause T x).kind, .int .i64 (rclause T x).role, .int .i64 (rclause T x).act, .int .i64 (rclause T x).need, .slice Ast x.conds.length cst, .int .i64 0, .int .i64 0, .bool false, .bool (rclause T x).fin, .int .i64 (rclause T x).pause, .int .i64 (rclause T x).resume, .int .i64 (rclause T x).value.num, .int .i64 (rclause T x).value.den, .int .i64 (rclause T x).unit, .int .i64 (rclause T x).to_, .bool false]) (t := 71) (fr := (0, 0)) (heap_alloc_new (w5) _)
                    have HSA : Hid (wa.heap.size = (w5).heap.size + 1) := by show _ = _; rw [← hwa]; simp
                    have HFCA : Hid (Fr (fun _ => False) w5 wa) := by rw [← hwa]; exact (Fr.refl _ w5).alloc _
                    clear hwa
                    refine hK.out _ _ ⟨HFA.out, trivial⟩ ?_
                    clear hK K
                    simp only [Act.put, List.setIfInBounds_toArray, List.set_cons_zero, List.set_cons_succ, Reg.Kept]
                    refine Reg.G.step (j := 15) (m := [false]) [1] rfl (by kernel_rfl) rfl (by kernel_rfl) (fun K hK => ?_)
                    rw [if_pos (by rfl)]
                    refine wp_append_lies wa (.tmp 184) (.tmp 197) 37 rfl C 71 j0 _ 24 224 Tryd.underlying37 hj hj0 hj1 hj2 rfl (by decide) (.slice Ao cl.length co) (cl.length) _ (by rfl) HOA.out ⟨w5.heap.size, 0, none⟩ 1 1 [.string ⟨x.name.toArray⟩, .int .i64 x.pos, .int .i64 x.within.days, .bool x.within.bus, .string ⟨x.within.name.toArray⟩, .int .i64 x.grace.days, .bool x.grace.bus, .string ⟨x.grace.name.toArray⟩, .int .i64 (rclause T x).kind, .int .i64 (rclause T x).role, .int .i64 (rclause T x).act, .int .i64 (rclause T x).need, .slice Ast x.conds.length cst, .int .i64 0, .int .i64 0, .bool false, .bool (rclause T x).fin, .int .i64 (rclause T x).pause, .int .i64 (rclause T x).resume, .int .i64 (rclause T x).value.num, .int .i64 (rclause T x).value.den, .int .i64 (rclause T x).unit, .int .i64 (rclause T x).to_, .bool false] (by rfl) rfl HNA.out (by simp [Value.oneCell']) (by decide) (by have h1 := HLS1.out.h; have h2 := HK6.out; have h3 := HCLN.out; simp only [maxLen]; omega) (by have h1 := HLS1.out.h; have h2 := HK6.out; have h3 := HCLN.out; omega) (by have h1 := HQ3.out.le; have h2 := HFA.out.size; omega) (w5.heap.size + 1) HSA.out ?_
                    intro gn cn wc g1 g2 g3 _
                    have HQA := Lib.hid (HQ3.out.fr HFA.out)
                    have HRWA := Lib.hid (HRWC.out.fr HFCA.out (fun _ _ _ h => h))
                    have HQN0 : Hid (QS src yw C yw.heap.size { s1 with clauses := s1.clauses ++ [⟨x.name, x.pos, x.within, x.grace, rclause T x⟩] } f { H1 with cla := (.slice (some ⟨gn, 0, none⟩) (cl.length + 1) cn) } (cl ++ [(⟨x.name, x.pos, x.within, x.grace, rclause T x⟩, .slice Ast x.conds.length cst)]) (wc.setCell ⟨yw.heap.size, 17, none⟩ (.slice (some ⟨gn, 0, none⟩) (cl.length + 1) cn))) := by
                      refine HQA.out.grow HRWA.out (k := 6) (r := ⟨71, 24, H1.cla, cl.length, cl.flatMap fun p => csymv p.1 p.2⟩) rfl (by show wa.grownBy wc H1.cla.ownBlock; rw [HVO.out]; exact g2) (r' := ⟨71, 24, (.slice (some ⟨gn, 0, none⟩) (cl.length + 1) cn), cl.length + 1, _⟩) g1 ?_ rfl ?_ rfl (by rw [List.map_append, HQA.out.cls]; rfl) rfl
                      · intro g hg
                        have hg2 : gn = g := by simpa [Value.ownBlock] using hg
                        subst hg2
                        rcases g3 with h | h
                        · left; show H1.cla.ownBlock = some gn; rw [HVO.out]; exact h
                        · right; have := HSA.out; omega
                      · simp [qrows, rowsOf, csymv, clv, spanc, rstart_len, sv, nv]
                    have HBC : Hid (wc.heap[yw.heap.size]? = some (.cells (symc src s1.weekend H1).toArray 39 (0, 0))) := (Fr.of_grown g2).blk (HFA.out.blk HQ3.out.qb (fun h => h)) (fun e => by have h1 := (own_lt HOA.out _ e).1; have h2 := HCQ.out; omega)
                    have HXC : Hid ((wc.setCell ⟨yw.heap.size, 17, none⟩ (.slice (some ⟨gn, 0, none⟩) (cl.length + 1) cn)).heap[wo.heap.size]? = some (.cells (ic (x, sl)).toArray 55 (0, 0))) := blk_farq ((Fr.of_grown g2).blk (HFA.out.blk HX3.out (fun h => h)) (fun e => by have h1 := (HOBV.out _ e).2; omega)) (by have h1 := HCQ.out; have h2 := HCW.out; omega) _
                    clear g1 g2 g3
                    refine hK.out _ _ trivial ?_
                    clear hK K
                    simp only [Act.put, List.setIfInBounds_toArray, List.set_cons_zero, List.set_cons_succ, Reg.Kept]
                    refine' Reg.G.pure (i := 16) (v := _) rfl (by rfl) (by kernel_rfl) (by kernel_rfl) (by kernel_rfl) (fun _ _ _ h => h) ?hyg547 ?rehyg547
                    case hyg547 => exact fun w => by first | (go_simp; done) | (go_simp; with_reducible rfl)
                    simp only [Act.put, List.setIfInBounds_toArray, List.set_cons_zero, List.set_cons_succ]
                    refine Reg.G.step (j := 17) (m := []) [] rfl (by kernel_rfl) rfl (by kernel_rfl) (fun K hK => ?_)
                    have kb : wc.cell? ⟨yw.heap.size, 17, none⟩ = some H1.cla := (cell_of_blk HBC.out 17).trans rfl
                    have fb : wc.frozen? ⟨yw.heap.size, 17, none⟩ = false := froz_of_blk HBC.out 17
                    go_simp
                    clear kb fb
                    refine hK.out _ _ trivial ?_
                    clear hK K
                    simp only [Act.put, List.setIfInBounds_toArray, List.set_cons_zero, List.set_cons_succ, Reg.Kept]
                    refine Reg.G.done (by kernel_rfl) ?_
                    obtain ⟨w9, hw9⟩ : ∃ w, wc.setCell ⟨yw.heap.size, 17, none⟩ (.slice (some ⟨gn, 0, none⟩) (cl.length + 1) cn) = w := ⟨_, rfl⟩
                    rw [hw9]
                    have HQN := HQN0
                    rw [hw9] at HQN
                    have HXN := HXC
                    rw [hw9] at HXN
                    clear hw9 HQN0 HXC
                    have HRN : Hid (ritems T ({ s1 with clauses := s1.clauses ++ [⟨x.name, x.pos, x.within, x.grace, rclause T x⟩] }) f (src.items.drop (k + 1)) ((rerrs tab0 src.items).drop (k + 1)) = rrun src.items) := by
                      have h := HSTP.out
                      rw [HRT.out] at h
                      dsimp only at h
                      rw [if_pos rfl] at h
                      have e : rweek (radd T s1 x) x = { s1 with clauses := s1.clauses ++ [⟨x.name, x.pos, x.within, x.grace, rclause T x⟩] } := by rw [HAD.out]; unfold rweek; rw [if_neg HK4.out]
                      rw [e] at h
                      exact h
                    have HLN : Hid (Lens ({ s1 with clauses := s1.clauses ++ [⟨x.name, x.pos, x.within, x.grace, rclause T x⟩] }) f (k + 1)) := by
                      have h0 := HLS1.out.h
                      have h1 := radd_lens T s1 x
                      rw [HAD.out] at h1
                      obtain ⟨a1, a2, a3, a4, a5, a6, _⟩ := h1
                      exact ⟨⟨Nat.le_trans a1 (Nat.succ_le_succ h0.1), Nat.le_trans a2 (Nat.succ_le_succ h0.2.1), Nat.le_trans a3 (Nat.succ_le_succ h0.2.2.1), Nat.le_trans a4 (Nat.succ_le_succ h0.2.2.2.1), Nat.le_trans a5 (Nat.succ_le_succ h0.2.2.2.2.1), Nat.le_succ_of_le h0.2.2.2.2.2.1, h0.2.2.2.2.2.2⟩⟩
                    have hb4 : (x.kind == 4) = false := by simpa using HK4.out
                    go_wp2_with fail
                    go_loopw [14] (fun i wx => i = .int .i64 0 ∧ wx = w9) (fun _ _ => 0)
                    case atStart => exact ⟨rfl, rfl⟩
                    case round =>
                      obtain ⟨rfl, rfl⟩ := hrel
                      have q9 : wr.cell? ⟨wo.heap.size, 0, none⟩ = some (.int .i64 x.kind) := (cell_of_blk HXN.out 0).trans rfl
                      go_wp2_with fail
                      go_roundw
                      case rel => exact ⟨k + 1, _, f, { H1 with cla := (.slice (some ⟨gn, 0, none⟩) (cl.length + 1) cn) }, _, _, rfl, by go_num, HKI.out, HFV1, HQN, HLN, HRN⟩
                      case measure => simp [intOf]; omega
            · have hne : (e1 == 0) = false := by simpa using he
              have hne2 : (e1 != 0) = true := by simpa using he
              have HRT : Hid (ritem T s x e0 = (s1, e1)) := by
                show _ = _
                rw [HRI.out]
                have : rerr2 T x e1 = e1 := by unfold rerr2; rw [if_neg (by simp [he])]
                rw [this, if_neg he]
              have HEN : Hid (e1 ≠ 0) := he
              clear he
              as_aux_lemma =>
                have q2 : u1.cell? ⟨wo.heap.size, 2, none⟩ = some (.int .i64 x.pos) := (cell_of_blk HX1.out 2).trans rfl
                obtain ⟨j0, hj, hj0, hj1, hj2⟩ := info_parts info_fault
                have hok : u1.ownsRow C 82 2 H1.flt.v f.length (f.flatMap faultv) := by
                  have h := HQ1.out.row (r := H1.flt) (List.mem_cons_of_mem _ (List.mem_cons_self ..))
                  rw [HQ1.out.flt] at h
                  exact h
                rw [HFV1.out] at hok
                have HOK9 := Lib.hid hok
                clear hok
                go_upto_region 25 with fail
                iterate 16 go_step
                refine wpList_plain rfl fun _ hK => wp_builtR 40 1 _ rfl #[(0, .agg #[.int .i64 e1, .int .i64 x.pos])] (by go_simp) _ _ (bslR_fault _ _ _) (hK _ _ ?_)
                clear hK
                simp only [Act.put, List.setIfInBounds_toArray, List.set_cons_zero, List.set_cons_succ]
                obtain ⟨wa, hwa⟩ : ∃ v, u1.alloc (.cells #[.int .i64 e1, .int .i64 x.pos] 82) = v := ⟨_, rfl⟩
                rw [hwa]
                have HFA : Hid (Fr (fun _ => False) u1 wa) := by rw [← hwa]; exact (Fr.refl _ u1).alloc _
                have HOA : Hid (wa.ownsRow C 82 2 fv f.length (f.flatMap faultv)) := own_fr HOK9.out HFA.out (fun _ _ _ h => h)
                have HNA : Hid (∀ j y, ([.int .i64 e1, .int .i64 x.pos] : List Value)[j]? = some y → wa.cell? ((⟨u1.heap.size, 0, none⟩ : Addr).add j) = some y) := by rw [← hwa]; exact World.news_of_block (cs := #[.int .i64 e1, .int .i64 x.pos]) (t := 82) (fr := (0, 0)) (heap_alloc_new u1 _)
                have HSA : Hid (wa.heap.size = u1.heap.size + 1) := by show _ = _; rw [← hwa]; simp
                clear hwa q2
                refine wpList_append_lies wa rfl (.tmp 123) (.tmp 128) 40 rfl C 82 j0 _ 2 16 Tryd.underlying40 hj hj0 hj1 hj2 rfl (by decide) fv f.length _ (by rfl) HOA.out ⟨u1.heap.size, 0, none⟩ 1 1 [.int .i64 e1, .int .i64 x.pos] (by rfl) rfl HNA.out (by simp [Value.oneCell']) (by decide) (by have h1 := HLS1.out.h; have h2 := HK6.out; simp only [maxLen]; omega) (by have h1 := HLS1.out.h; have h2 := HK6.out; omega) (by have h1 := HQ1.out.le; have h2 := HFA.out.size; omega) (u1.heap.size + 1) HSA.out ?_
                intro gn cn wc g1 g2 g3 _
                simp only [Act.put, List.setIfInBounds_toArray, List.set_cons_zero, List.set_cons_succ]
                have HQN : Hid (QS src yw C yw.heap.size s1 (f ++ [⟨e1, x.pos⟩]) { H1 with flt := frow (.slice (some ⟨gn, 0, none⟩) (f.length + 1) cn) (f ++ [⟨e1, x.pos⟩]) } cl wc) :=
                  (HQ1.out.fr HFA.out).more (by rw [HFV1.out]; exact g2) g1 (by rw [HFV1.out, HSA.out]; exact g3)
                have HLN : Hid (Lens s1 (f ++ [(⟨e1, x.pos⟩ : Fault)]) (k + 1)) := ⟨by have h0 := HLS1.out.h; rw [List.length_append, List.length_singleton]; omega⟩
                have HRN : Hid (ritems T s1 (f ++ [(⟨e1, x.pos⟩ : Fault)]) (src.items.drop (k + 1)) ((rerrs tab0 src.items).drop (k + 1)) = rrun src.items) := by
                  have h := HSTP.out
                  rw [HRT.out] at h
                  dsimp only at h
                  rw [if_neg HEN.out] at h
                  exact h
                clear g1 g2 g3
                go_wp2_with fail
                go_roundw
                case rel => exact ⟨k + 1, s1, _, _, cl, _, rfl, by go_num, HKI.out, Lib.hid rfl, HQN, HLN, HRN⟩
                case measure => simp [intOf]; omega
        · have hkz : k = src.items.length := by have := HZL.out; omega
          as_aux_lemma =>
            subst hkz
            have n2 : ¬ ((src.items.length : Int) < (z.length : Int)) := by have := HZL.out; omega
            have n3 : ¬ (src.items.length < z.length) := by have := HZL.out; omega
            have HRR : Hid ((s, f) = rrun src.items) := by
              have h := HRUN.out
              rw [List.drop_of_length_le (Nat.le_refl _), List.drop_of_length_le (by rw [rerrs_length]; exact Nat.le_refl _)] at h
              exact h
            have hown : wr.ownsRow C 82 2 H.flt.v f.length (f.flatMap faultv) := by
              have h := HQ.out.row (r := H.flt) (List.mem_cons_of_mem _ (List.mem_cons_self ..))
              rw [HQ.out.flt] at h
              exact h
            rw [HFV.out] at hown
            obtain ⟨Af, cf, hfe⟩ := own_form hown
            subst hfe
            have HOWN := Lib.hid hown
            have HRBr : Hid (wr.heap[W.heap.size + 1]? = some (.cells symz.toArray 39 (0, 0))) := (HQ.out.ba.block _ (lt_of_blk HRBY.out)).trans HRBY.out
            have HCW2 : Hid (W.heap.size + 1 < C) := by have h1 := HCC.out; have h2 := HWY.out; show _ < _; omega
            have k5 : wr.cell? ⟨W.heap.size, 5, none⟩ = some (.slice Ai z.length ci) := (cell_of_blk HSBq.out 5).trans rfl
            clear hown hlt hk i1
            by_cases hf : f = []
            · subst hf
              have hsl : ∀ r ∈ qrows s H cl, IsSlice r.v := fun r hr => by
                obtain ⟨A, c, hv⟩ := own_form (HQ.out.row hr)
                exact ⟨A, _, c, hv⟩
              have HONE : Hid ((symc src s.weekend H).toArray.all (·.oneCell') = true) := one_symc _ _ _ (hsl (hrow H.hol s.hol) (List.mem_cons_self ..)) (hsl _ (List.mem_cons_of_mem _ (rows_mem s H cl).1)) (hsl _ (List.mem_cons_of_mem _ (rows_mem s H cl).2.1)) (hsl _ (List.mem_cons_of_mem _ (rows_mem s H cl).2.2.1)) (hsl _ (List.mem_cons_of_mem _ (rows_mem s H cl).2.2.2.1)) (hsl _ (List.mem_cons_of_mem _ (rows_mem s H cl).2.2.2.2))
              clear hsl
              go_upto_region 43 with fail
              clear k5
              iterate 1 go_step
              refine wpList_load_row rfl 39 _ rfl yw.heap.size rfl 39 (symc src s.weekend H).toArray (0, 0) _ HQ.out.qb Tryd.underlying39 rfl (info_symc _ _ _) ?_
              simp only [Act.put, List.setIfInBounds_toArray, List.set_cons_zero, List.set_cons_succ]
              refine wpList_store_row rfl 39 _ _ rfl (W.heap.size + 1) (symc src s.weekend H).toArray rfl rfl 39 _ HRBr.out (info_symc _ _ _) rfl HONE.out ?_
              simp only [Act.put, List.setIfInBounds_toArray, List.set_cons_zero, List.set_cons_succ]
              obtain ⟨w9, hw9⟩ : ∃ w9, wr.setRow (W.heap.size + 1) (symc src s.weekend H).toArray = w9 := ⟨_, rfl⟩
              rw [hw9]
              have HF9 : Hid (Fr (fun j => j = W.heap.size + 1) wr w9) := by rw [← hw9]; exact (Fr.refl (fun j => j = W.heap.size + 1) wr).setRow (.inl rfl) _
              have HB9 : Hid (w9.heap[W.heap.size + 1]? = some (.cells (symc src s.weekend H).toArray 39 (0, 0))) := by rw [← hw9]; exact blk_row HRBr.out _
              clear hw9
              go_wp2_with fail
              refine bodyPost_ret (v := .tuple #[.agg (symc src s.weekend H).toArray, .slice none 0 0]) (results_blk2 Tryd.results13 rfl rfl HB9.out Tryd.underlying39 rfl (info_symc _ _ _)) rfl ⟨_, rfl, ?_, ?_⟩
              · obtain ⟨r1, r2⟩ := run_ref src.items
                rw [← HRR.out] at r1 r2
                dsimp only at r1 r2
                have h0 : (Rs.run src.items).2 = [] := r1.symm
                obtain ⟨q1, q2⟩ := r2 h0
                have hs' : ({ (Rs.run src.items).1 with hol := dsort (Rs.run src.items).1.hol } : Sy) = s := sy_ext q1.wk.symm (sort_ref q2 (run_hol h0)).symm q1.par.symm q1.rol.symm q1.uni.symm q1.act.symm q1.cla.symm
                have ha : answer src = (src, s, []) := by
                  unfold answer
                  rw [if_pos h0, hs']
                rw [ResOut, ha]
                have hok : ∀ r ∈ qrows s H cl, r.ok C w9 := fun r hr => own_fr (HQ.out.rows.ok r hr) HF9.out (fun k hk _ e => by have := HCW2.out; omega)
                have hokr : ∀ r ∈ rowsOf s H cl, r.ok C w9 := fun r hr => hok r (List.mem_cons_of_mem _ hr)
                have hm := rows_mem s H cl
                refine ⟨H, cl, _, rfl, ⟨row_map (hok (hrow H.hol s.hol) (List.mem_cons_self ..)) rfl, row_map (hokr _ hm.1) rfl, Row.of_own (hokr _ hm.2.1) (fun _ _ => rfl), Row.of_own (hokr _ hm.2.2.1) (fun _ _ => rfl), Row.of_own (hokr _ hm.2.2.2.1) (fun _ _ => rfl), Row.of_own (hokr _ hm.2.2.2.2) (fun _ _ => rfl), HQ.out.cls, fun p hp => Row.of_own (hokr _ (List.mem_append_right _ (List.mem_map_of_mem hp))) (fun _ _ => rfl), HQ.out.wk⟩, Row.nil _ _, ?_⟩
                intro y hy g hg
                have hw : W.heap.size ≤ C := by have := HCW2.out; omega
                simp only [List.mem_cons, List.not_mem_nil, or_false] at hy
                rcases hy with rfl | rfl | rfl | rfl | rfl
                · exact Nat.le_trans hw (own_lt (hokr _ hm.1) g hg).1
                · exact Nat.le_trans hw (own_lt (hokr _ hm.2.1) g hg).1
                · exact Nat.le_trans hw (own_lt (hokr _ hm.2.2.1) g hg).1
                · exact Nat.le_trans hw (own_lt (hokr _ hm.2.2.2.1) g hg).1
                · exact Nat.le_trans hw (own_lt (hokr _ hm.2.2.2.2) g hg).1
              · exact HBWq.out.trans (HF9.out.below HBWq.out.size (fun j hj => by omega))
            · have i3 : (0 : Int) < (f.length : Int) := by have := List.length_pos_iff.2 hf; omega
              have HFN := Lib.hid hf
              clear hf
              go_upto_region 42 with fail
              clear k5
              iterate 1 go_step
              refine wpList_built rfl 39 _ rfl #[] (by go_simp) _ (build_symz _) ?_
              simp only [Act.put, List.setIfInBounds_toArray, List.set_cons_zero, List.set_cons_succ]
              iterate 3 go_step
              refine wpList_store_row rfl 39 _ _ rfl (W.heap.size + 1) symz.toArray rfl rfl 39 _ HRBr.out (info_symc _ _ _) rfl one_symz ?_
              simp only [Act.put, List.setIfInBounds_toArray, List.set_cons_zero, List.set_cons_succ]
              obtain ⟨w9, hw9⟩ : ∃ w9, wr.setRow (W.heap.size + 1) symz.toArray = w9 := ⟨_, rfl⟩
              rw [hw9]
              have HF9 : Hid (Fr (fun j => j = W.heap.size + 1) wr w9) := by rw [← hw9]; exact (Fr.refl (fun j => j = W.heap.size + 1) wr).setRow (.inl rfl) _
              have HB9 : Hid (w9.heap[W.heap.size + 1]? = some (.cells symz.toArray 39 (0, 0))) := by rw [← hw9]; exact blk_row HRBr.out _
              clear hw9
              go_wp2_with fail
              refine bodyPost_ret (v := .tuple #[.agg symz.toArray, .slice Af f.length cf]) (results_blk2 Tryd.results13 rfl rfl HB9.out Tryd.underlying39 rfl (info_symc _ _ _)) rfl ⟨_, rfl, ?_, ?_⟩
              · obtain ⟨r1, r2⟩ := run_ref src.items
                rw [← HRR.out] at r1
                dsimp only at r1
                have ha : answer src = (srcz, sy0, f) := by
                  unfold answer
                  rw [← r1]
                  exact if_neg HFN.out
                rw [ResOut, ha]
                refine ⟨H0 ⟨0, 0, Vw.nil, 0, []⟩, [], _, rfl, ⟨Row.nil _ _, Row.nil _ _, Row.nil _ _, Row.nil _ _, Row.nil _ _, Row.nil _ _, rfl, fun p hp => absurd hp (List.not_mem_nil), rfl⟩, ?_, ?_⟩
                · exact Row.of_own (own_fr HOWN.out HF9.out (fun k hk _ e => by have := HCW2.out; omega)) (fun x _ => rfl)
                · intro x hx g hg
                  simp only [H0, List.mem_cons, List.not_mem_nil, or_false, or_self] at hx
                  subst hx
                  exact absurd hg (by simp [Vw.nil, Value.ownBlock])
              · exact HBWq.out.trans (HF9.out.below HBWq.out.size (fun j hj => by omega))
end Go.Proofs.YtdhjibnkebbejaaDoor.Rs
