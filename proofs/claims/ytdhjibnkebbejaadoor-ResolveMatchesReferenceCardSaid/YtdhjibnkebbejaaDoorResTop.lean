/-
  What Resolve returns.
-/
import Derived.Test.YtdhjibnkebbejaaDoorResCal
namespace Go.Proofs.YtdhjibnkebbejaaDoor.Rs
open Go.RowKit Mem Vw
set_option linter.unusedVariables false
set_option linter.unusedSimpArgs false

/-- The cells of a resolver before its maps are there. -/
def q0cells (src : Source) (ms : List Value) (mem : Value) (hm : Nat) : List Value :=
  [sv src.name, nv src.frm.y, nv src.frm.m, nv src.frm.d, nv src.days, .bool false, .bool false, .bool false, .bool false, .bool false, .bool false, .bool false, Vw.nil, Vw.nil, Vw.nil, Vw.nil, Vw.nil, Vw.nil] ++ ms ++ [mem, .map (some hm)]
def maps (b k : Nat) : List Value := (List.range 6).map fun g => if g < k then .map (some (b + g)) else .map none
theorem maps_set (b : Nat) {k : Nat} (hk : k < 6) : (maps b k).set k (.map (some (b + k))) = maps b (k + 1) := by
  have : k = 0 ∨ k = 1 ∨ k = 2 ∨ k = 3 ∨ k = 4 ∨ k = 5 := by omega
  rcases this with rfl | rfl | rfl | rfl | rfl | rfl <;> rfl
theorem q0_set (src : Source) (b : Nat) (mem : Value) (hm : Nat) {k : Nat} (hk : k < 6) : (q0cells src (maps b k) mem hm).set (18 + k) (.map (some (b + k))) = q0cells src (maps b (k + 1)) mem hm := by
  have : k = 0 ∨ k = 1 ∨ k = 2 ∨ k = 3 ∨ k = 4 ∨ k = 5 := by omega
  rcases this with rfl | rfl | rfl | rfl | rfl | rfl <;> rfl
def H0 (f : OR) : RH := ⟨Vw.nil, Vw.nil, Vw.nil, Vw.nil, Vw.nil, Vw.nil, f⟩
theorem q0_done (src : Source) (b : Nat) (mem : Value) (hm : Nat) (f : OR) : q0cells src (maps b 6) mem hm = rcells src sy0.weekend (H0 f) (fun g => b + g) mem hm := rfl
def faultv (f : Fault) : List Value := [nv f.err, nv f.pos]
theorem info_fault : (Tryd.prog.info? 82).map (fun i => (i.zero, i.size, i.bytes)) = some (some (.agg #[.int .i64 0, .int .i64 0]), 2, 16) := by kernel_rfl
/-- The row of the faults. -/
def frow (fv : Value) (f : List Fault) : OR := ⟨82, 2, fv, f.length, f.flatMap faultv⟩
/-- What the loop over the items holds. -/
structure FR (src : Source) (t : Tab) (B q hm : Nat) (mi : Nat → Nat) (tb mq : Nat) (tw mb : List Bool) (W : World) (k : Nat) (s : Sy) (f : List Fault) (fv : Value) (H : RH) (cl : List (ClauseSym × Value)) (wr : World) : Prop where
  run : items t s f (src.items.drop k) ((marks tab0 src.items).drop k) = Rs.run src.items
  rs : RS src t s B q hm mi (.slice (some ⟨mq, 0, none⟩) src.items.length src.items.length) H cl wr
  hol : H.hol = Vw.nil
  flt : H.flt = frow fv f
  lens : s.parties.length ≤ k ∧ s.roles.length ≤ k ∧ s.units.length ≤ k ∧ s.acts.length ≤ k ∧ s.clauses.length ≤ k ∧ f.length ≤ k
  twb : wr.heap[tb]? = some (.cells (bools tw) 4 (0, 0))
  mbb : wr.heap[mq]? = some (.cells (bools mb) 4 (0, 0))
  rb : wr.heap[W.heap.size + 1]? = some (.cells (symc ⟨[], ⟨0, 0, 0⟩, 0, []⟩ sy0.weekend (H0 ⟨0, 0, Vw.nil, 0, []⟩)).toArray 39 (0, 0))
  ba : Below W.heap.size W wr
def FRel (src : Source) (t : Tab) (B q hm : Nat) (mi : Nat → Nat) (tb mq : Nat) (tw mb : List Bool) (W : World) (i fv : Value) (wr : World) : Prop :=
  ∃ k s f H cl, i = .int .i64 ((k : Nat) : Int) ∧ k ≤ src.items.length ∧ FR src t B q hm mi tb mq tw mb W k s f fv H cl wr
/-- An item adds one element at most. -/
theorem item_lens (t : Tab) (s : Sy) (x : Item) (tw mb : Bool) : (item t s x tw mb).1.parties.length ≤ s.parties.length + 1 ∧ (item t s x tw mb).1.roles.length ≤ s.roles.length + 1 ∧ (item t s x tw mb).1.units.length ≤ s.units.length + 1 ∧ (item t s x tw mb).1.acts.length ≤ s.acts.length + 1 ∧ (item t s x tw mb).1.clauses.length ≤ s.clauses.length + 1 := by
  unfold item
  rw [holiday_eq]
  repeat' split
  all_goals (simp only [List.length_append, List.length_cons, List.length_nil]; omega)
def srcz : Source := ⟨[], ⟨0, 0, 0⟩, 0, []⟩
/-- The cells of symbols that are zero. -/
def symz : List Value := symc srcz sy0.weekend (H0 ⟨0, 0, Vw.nil, 0, []⟩)
/-- What Resolve has laid before its first loop is done. -/
structure Laid (src : Source) (W : World) (v : Value) (n0 n k : Nat) (wr : World) : Prop where
  size : wr.heap.size = n0 + 1 + 1 + 1 + k
  sb : wr.heap[W.heap.size]? = some (.cells (scells src.name src.frm src.days v).toArray 26 (0, 0))
  rb : wr.heap[W.heap.size + 1]? = some (.cells symz.toArray 39 (0, 0))
  mb : wr.heap[n0]? = some (.cells (bools (List.replicate n false)) 4 (0, 0))
  hb : wr.heap[n0 + 1]? = some (.map (hents []) 0)
  qb : wr.heap[n0 + 1 + 1]? = some (.cells (q0cells src (maps (n0 + 1 + 1 + 1) k) (.slice (some ⟨n0, 0, none⟩) n n) (n0 + 1)).toArray 94 (0, 0))
  mp : ∀ g, g < k → wr.heap[n0 + 1 + 1 + 1 + g]? = some (.map (ents []) 0)
  fr : Fr (fun _ => False) W wr
def MRel (src : Source) (W : World) (v : Value) (n0 n : Nat) (i : Value) (wr : World) : Prop := ∃ k : Nat, i = .int .i64 (k : Int) ∧ k ≤ 6 ∧ Laid src W v n0 n k wr
theorem Laid.next {src : Source} {W : World} {v : Value} {n0 n k : Nat} {wr : World} (h : Laid src W v n0 n k wr) (hk : k < 6) (hn : n0 = W.heap.size + 2) : Laid src W v n0 n (k + 1) ((wr.setCell ⟨n0 + 1 + 1, 18 + k, none⟩ (.map (some wr.heap.size))).alloc (.map #[] 0)) := by
  have hsz := h.size
  have hs2 : (wr.setCell ⟨n0 + 1 + 1, 18 + k, none⟩ (.map (some wr.heap.size))).heap.size = wr.heap.size := by simp [World.setCell]
  refine ⟨by rw [World.size_alloc, hs2, hsz]; omega, blk_alloc (blk_farq h.sb (by omega) _) _, blk_alloc (blk_farq h.rb (by omega) _) _, blk_alloc (blk_farq h.mb (by omega) _) _, blk_alloc (blk_farq h.hb (by omega) _) _, ?_, ?_, (h.fr.setCell (.inr (by show _ ≤ n0 + 1 + 1; omega)) _).alloc _⟩
  · have := blk_set h.qb (18 + k) (.map (some wr.heap.size))
    refine blk_alloc ?_ _
    rw [this, List.setIfInBounds_toArray, hsz, q0_set _ _ _ _ hk]
  · intro g hg
    by_cases hgk : g = k
    · subst hgk
      exact blk_newn (by rw [hs2, hsz])
    · exact blk_alloc (blk_farq (h.mp g (by omega)) (by omega) _) _
theorem q0_head (src : Source) (ms : List Value) (mem : Value) (hm : Nat) : (((((q0cells srcz ms mem hm).set 0 (.string ⟨src.name.toArray⟩)).set 1 (.int .i64 src.frm.y)).set 2 (.int .i64 src.frm.m)).set 3 (.int .i64 src.frm.d)).set 4 (.int .i64 src.days) = q0cells src ms mem hm := rfl
theorem q0_blk {w : World} {q : Nat} {src : Source} {ms : List Value} {mem : Value} {hm T : Nat} (h : w.heap[q]? = some (.cells (q0cells srcz ms mem hm).toArray T (0, 0))) :
    (((((w.setCell ⟨q, 0, none⟩ (.string ⟨src.name.toArray⟩)).setCell ⟨q, 1, none⟩ (.int .i64 src.frm.y)).setCell ⟨q, 2, none⟩ (.int .i64 src.frm.m)).setCell ⟨q, 3, none⟩ (.int .i64 src.frm.d)).setCell ⟨q, 4, none⟩ (.int .i64 src.days)).heap[q]? = some (.cells (q0cells src ms mem hm).toArray T (0, 0)) := by
  have e := blk_set (blk_set (blk_set (blk_set (blk_set h 0 (.string ⟨src.name.toArray⟩)) 1 (.int .i64 src.frm.y)) 2 (.int .i64 src.frm.m)) 3 (.int .i64 src.frm.d)) 4 (.int .i64 src.days)
  simp only [List.setIfInBounds_toArray] at e
  rw [q0_head] at e
  exact e
theorem far5 {w : World} {q g : Nat} {o : Obj} (a b c d e : Value) (h : w.heap[g]? = some o) (hg : g ≠ q) : (((((w.setCell ⟨q, 0, none⟩ a).setCell ⟨q, 1, none⟩ b).setCell ⟨q, 2, none⟩ c).setCell ⟨q, 3, none⟩ d).setCell ⟨q, 4, none⟩ e).heap[g]? = some o :=
  blk_farq (blk_farq (blk_farq (blk_farq (blk_farq h hg a) hg b) hg c) hg d) hg e
theorem Laid.drew {src : Source} {W : World} {v : Value} {n0 n k : Nat} {w : World} (h : Laid src W v n0 n k w) : Laid src W v n0 n k w.drew := ⟨h.size, h.sb, h.rb, h.mb, h.hb, h.qb, h.mp, h.fr.drew⟩
theorem laid0 {src : Source} {W : World} {v : Value} {n0 n : Nat} {u : World} (hsb : u.heap[W.heap.size]? = some (.cells (scells src.name src.frm src.days v).toArray 26 (0, 0))) (hrb : u.heap[W.heap.size + 1]? = some (.cells symz.toArray 39 (0, 0)))
    (hmb : u.heap[n0]? = some (.cells (bools (List.replicate n false)) 4 (0, 0))) (hhb : u.heap[n0 + 1]? = some (.map (hents []) 0)) (hqb : u.heap[n0 + 1 + 1]? = some (.cells (q0cells srcz (maps (n0 + 1 + 1 + 1) 0) (.slice (some ⟨n0, 0, none⟩) n n) (n0 + 1)).toArray 94 (0, 0)))
    (hsz : u.heap.size = n0 + 1 + 1 + 1) (hf : Fr (fun _ => False) W u) (hn : n0 = W.heap.size + 2) :
    Laid src W v n0 n 0 (((((u.setCell ⟨n0 + 1 + 1, 0, none⟩ (.string ⟨src.name.toArray⟩)).setCell ⟨n0 + 1 + 1, 1, none⟩ (.int .i64 src.frm.y)).setCell ⟨n0 + 1 + 1, 2, none⟩ (.int .i64 src.frm.m)).setCell ⟨n0 + 1 + 1, 3, none⟩ (.int .i64 src.frm.d)).setCell ⟨n0 + 1 + 1, 4, none⟩ (.int .i64 src.days)) := by
  have hq : W.heap.size ≤ n0 + 1 + 1 := by omega
  refine ⟨by simp only [World.setCell, Array.size_modify]; exact hsz, far5 _ _ _ _ _ hsb (by omega), far5 _ _ _ _ _ hrb (by omega), far5 _ _ _ _ _ hmb (by omega), far5 _ _ _ _ _ hhb (by omega), q0_blk hqb, fun g hg => absurd hg (by omega), ?_⟩
  exact ((((hf.setCell (.inr hq) _).setCell (.inr hq) _).setCell (.inr hq) _).setCell (.inr hq) _).setCell (.inr hq) _
theorem q0_cell (src : Source) (b : Nat) (mem : Value) (hm : Nat) {k : Nat} (hk : k < 6) : (q0cells src (maps b k) mem hm)[18 + k]? = some (.map none) := by
  have : k = 0 ∨ k = 1 ∨ k = 2 ∨ k = 3 ∨ k = 4 ∨ k = 5 := by omega
  rcases this with rfl | rfl | rfl | rfl | rfl | rfl <;> rfl
theorem info_symc (src : Source) (wk : List Bool) (H : RH) : (Tryd.prog.info? 39).map (·.size) = some (symc src wk H).toArray.size := by kernel_rfl
theorem info_symcl (src : Source) (wk : List Bool) (H : RH) : (Tryd.prog.info? 39).map (·.size) = some (symc src wk H).length := by kernel_rfl
theorem info_int : (Tryd.prog.info? 3).map (fun i => (i.zero, i.size, i.bytes)) = some (some (.int .i64 0), 1, 8) := by kernel_rfl
theorem rcells_symc (src : Source) (wk : List Bool) (H : RH) (mi : Nat → Nat) (mem : Value) (hm : Nat) : rcells src wk H mi mem hm = symc src wk H ++ [.map (some (mi 0)), .map (some (mi 1)), .map (some (mi 2)), .map (some (mi 3)), .map (some (mi 4)), .map (some (mi 5)), mem, .map (some hm)] := rfl
theorem one_symc (src : Source) (wk : List Bool) (H : RH) (h1 : IsSlice H.hol) (h2 : IsSlice H.par) (h3 : IsSlice H.rol) (h4 : IsSlice H.uni) (h5 : IsSlice H.act) (h6 : IsSlice H.cla) : (symc src wk H).toArray.all (·.oneCell') = true := by
  obtain ⟨h, p, r, u, a, c, f⟩ := H
  obtain ⟨_, _, _, rfl⟩ := h1; obtain ⟨_, _, _, rfl⟩ := h2; obtain ⟨_, _, _, rfl⟩ := h3; obtain ⟨_, _, _, rfl⟩ := h4; obtain ⟨_, _, _, rfl⟩ := h5; obtain ⟨_, _, _, rfl⟩ := h6
  simp [symc, sv, nv, Value.oneCell']
theorem rows_mem (s : Sy) (H : RH) (cl : List (ClauseSym × Value)) : (⟨9, 1, H.par, s.parties.length, s.parties.map sv⟩ : OR) ∈ rowsOf s H cl ∧ (⟨59, 2, H.rol, s.roles.length, s.roles.flatMap rolev⟩ : OR) ∈ rowsOf s H cl ∧ (⟨61, 5, H.uni, s.units.length, s.units.flatMap unitv⟩ : OR) ∈ rowsOf s H cl ∧
    (⟨65, 9, H.act, s.acts.length, s.acts.flatMap asymv⟩ : OR) ∈ rowsOf s H cl ∧ (⟨71, 24, H.cla, cl.length, cl.flatMap fun p => csymv p.1 p.2⟩ : OR) ∈ rowsOf s H cl := by
  unfold rowsOf
  refine ⟨?_, ?_, ?_, ?_, ?_⟩ <;> exact List.mem_append_left _ (by simp)
theorem row_map {α : Type} {f : α → Value} {l : List α} {W : World} {base : Nat} {e : TypeId} {v : Value} {n : Nat} (h : W.ownsRow base e 1 v n (l.map f)) (hn : n = l.length) : Row W v 1 (l.map fun x => [f x]) := by
  subst hn
  have e2 : l.map f = l.flatMap fun x => [f x] := by
    clear h
    induction l with
    | nil => rfl
    | cons a l ih => rw [List.map_cons, List.flatMap_cons, ih]; rfl
  rw [e2] at h
  exact Row.of_own h (fun _ _ => rfl)
theorem one_symz : symz.toArray.all (·.oneCell') = true := by simp [symz, symc, H0, sv, nv, Vw.nil, Value.oneCell']
/-- Symbols as they are read. -/
structure SyRows (W : World) (s : Sy) (H : RH) (cl : List (ClauseSym × Value)) : Prop where
  hol : Row W H.hol 1 (s.hol.map fun d => [nv d])
  par : Row W H.par 1 (s.parties.map fun x => [sv x])
  rol : Row W H.rol 2 (s.roles.map rolev)
  uni : Row W H.uni 5 (s.units.map unitv)
  act : Row W H.act 9 (s.acts.map asymv)
  cla : Row W H.cla 24 (cl.map fun p => csymv p.1 p.2)
  cls : cl.map Prod.fst = s.clauses
  cnd : ∀ p ∈ cl, Row W p.2 2 (p.1.clause.start.map condv)
  wk : s.weekend.length = 7
/-- What Resolve answers. -/
def answer (src : Source) : Source × Sy × List Fault :=
  if (Rs.run src.items).2 = [] then (src, { (Rs.run src.items).1 with hol := dsort (Rs.run src.items).1.hol }, []) else (srcz, sy0, (Rs.run src.items).2)
def ResOut (src : Source) (W w' : World) (v : Value) : Prop :=
  ∃ H cl fv, v = .tuple #[.agg (symc (answer src).1 (answer src).2.1.weekend H).toArray, fv] ∧ SyRows w' (answer src).2.1 H cl ∧ Row w' fv 2 ((answer src).2.2.map faultv) ∧ ∀ x ∈ [H.par, H.rol, H.uni, H.act, H.cla], ∀ g, x.ownBlock = some g → W.heap.size ≤ g
set_option maxRecDepth 100000 in
set_option maxHeartbeats 4000000 in
theorem resolve_any (src : Source) (v : Value) (z : List (Item × Sl)) (W : World) (hz : Lies W z v) (hs : z.map Prod.fst = src.items) (hlen : z.length ≤ 1000000) (hok : ∀ x ∈ src.items, ItemOk x ∧ x.conds.length ≤ 1000000) (hbf : Bf W) :
    Calls Tryd.prog 12 #[.agg (scells src.name src.frm src.days v).toArray] W fun e w' => ∃ v, e = .returned v ∧ ResOut src W w' v ∧ Below W.heap.size W w' := by
  obtain ⟨Ai, ci, hv, hc1, hc2⟩ := hz.row.slice
  rw [List.length_map] at hv hc1
  have hzl : z.length ≤ 9223372036854775807 := by omega
  have hmk := fun w => run_make_row' (P := Tryd.prog) 89 4 (.bool false) 1 Tryd.underlying89 info_bool rfl .i64 .i64 z.length (by omega) (by omega) w
  rw [made_bools] at hmk
  have hmm := @run_makeMap Tryd.prog
  obtain ⟨w0, HW0⟩ : ∃ w0, Hid ((W.alloc (.cells (scells src.name src.frm src.days v).toArray 26)).alloc (.cells #[.string ⟨#[]⟩, .int .i64 0, .int .i64 0, .int .i64 0, .int .i64 0, .bool false, .bool false, .bool false, .bool false, .bool false, .bool false, .bool false, .slice none 0 0, .slice none 0 0, .slice none 0 0, .slice none 0 0, .slice none 0 0, .slice none 0 0] 39) = w0) := ⟨_, rfl⟩
  have HSB0 : Hid (w0.heap[W.heap.size]? = some (.cells (scells src.name src.frm src.days v).toArray 26 (0, 0))) := by rw [← HW0.out]; exact blk_alloc (blk_newn rfl) _
  have HRB0 : Hid (w0.heap[W.heap.size + 1]? = some (.cells symz.toArray 39 (0, 0))) := by rw [← HW0.out]; exact blk_newn (by simp)
  have hsz0 : w0.heap.size = W.heap.size + 2 := by rw [← HW0.out]; simp
  have HF0 : Hid (Fr (fun _ => False) W w0) := by rw [← HW0.out]; exact ((Fr.refl _ W).alloc _).alloc _
  have k3 : w0.cell? ⟨W.heap.size, 5, none⟩ = some v := cell_of_blk HSB0.out 5
  have HSZ0 := Lib.hid hsz0
  have hlt0 : W.heap.size < w0.heap.size := by omega
  rw [hv] at k3
  have HV := Lib.hid hv; clear hv hsz0
  have HZ := Lib.hid hz; have HS := Lib.hid hs; have HOK := Lib.hid hok; have HBF := Lib.hid hbf; clear hz hs hok hbf
  go_enter Tryd.func12, Tryd.ntmps12
  go_upto_region 1 with fail
  rw [HW0.out]
  clear HW0
  go_wp2_with fail
  obtain ⟨u0, hu0⟩ : ∃ u0, (((w0.alloc (.cells (bools (List.replicate z.length false)) 4)).alloc (.map #[] 0)).alloc (.cells #[.string ⟨#[]⟩, .int .i64 0, .int .i64 0, .int .i64 0, .int .i64 0, .bool false, .bool false, .bool false, .bool false, .bool false, .bool false, .bool false, .slice none 0 0, .slice none 0 0, .slice none 0 0, .slice none 0 0, .slice none 0 0, .slice none 0 0, .map none, .map none, .map none, .map none, .map none, .map none, .slice (some ⟨w0.heap.size, 0, none⟩) z.length z.length, .map (some (w0.heap.size + 1))] 94)) = u0 := ⟨_, rfl⟩
  rw [hu0]
  have HSB : Hid (u0.heap[W.heap.size]? = some (.cells (scells src.name src.frm src.days v).toArray 26 (0, 0))) := by rw [← hu0]; exact blk_alloc (blk_alloc (blk_alloc HSB0.out _) _) _
  have HRB : Hid (u0.heap[W.heap.size + 1]? = some (.cells symz.toArray 39 (0, 0))) := by rw [← hu0]; exact blk_alloc (blk_alloc (blk_alloc HRB0.out _) _) _
  have HMB : Hid (u0.heap[w0.heap.size]? = some (.cells (bools (List.replicate z.length false)) 4 (0, 0))) := by rw [← hu0]; exact blk_alloc (blk_alloc (blk_newn rfl) _) _
  have HHB : Hid (u0.heap[w0.heap.size + 1]? = some (.map (hents []) 0)) := by rw [← hu0]; exact blk_alloc (blk_newn (by simp)) _
  have HQB : Hid (u0.heap[w0.heap.size + 1 + 1]? = some (.cells (q0cells srcz (maps (w0.heap.size + 1 + 1 + 1) 0) (.slice (some ⟨w0.heap.size, 0, none⟩) z.length z.length) (w0.heap.size + 1)).toArray 94 (0, 0))) := by rw [← hu0]; exact blk_newn (by simp)
  have HSZ : Hid (u0.heap.size = w0.heap.size + 1 + 1 + 1) := by show u0.heap.size = _; rw [← hu0]; simp
  have HFD : Hid (Fr (fun _ => False) W u0) := by rw [← hu0]; exact ((HF0.out.alloc _).alloc _).alloc _
  clear hu0 HSB0 HRB0 HF0 k3
  have qc0 : u0.cell? ⟨w0.heap.size + 1 + 1, 0, none⟩ = some (.string ⟨#[]⟩) := cell_of_blk HQB.out 0
  have qf0 : u0.frozen? ⟨w0.heap.size + 1 + 1, 0, none⟩ = false := froz_of_blk HQB.out 0
  have qc1 : u0.cell? ⟨w0.heap.size + 1 + 1, 1, none⟩ = some (.int .i64 0) := cell_of_blk HQB.out 1
  have qf1 : u0.frozen? ⟨w0.heap.size + 1 + 1, 1, none⟩ = false := froz_of_blk HQB.out 1
  have qc2 : u0.cell? ⟨w0.heap.size + 1 + 1, 2, none⟩ = some (.int .i64 0) := cell_of_blk HQB.out 2
  have qf2 : u0.frozen? ⟨w0.heap.size + 1 + 1, 2, none⟩ = false := froz_of_blk HQB.out 2
  have qc3 : u0.cell? ⟨w0.heap.size + 1 + 1, 3, none⟩ = some (.int .i64 0) := cell_of_blk HQB.out 3
  have qf3 : u0.frozen? ⟨w0.heap.size + 1 + 1, 3, none⟩ = false := froz_of_blk HQB.out 3
  have qc4 : u0.cell? ⟨w0.heap.size + 1 + 1, 4, none⟩ = some (.int .i64 0) := cell_of_blk HQB.out 4
  have qf4 : u0.frozen? ⟨w0.heap.size + 1 + 1, 4, none⟩ = false := froz_of_blk HQB.out 4
  have HS1 : Hid ((u0.setCell ⟨w0.heap.size + 1 + 1, 0, none⟩ (.string ⟨src.name.toArray⟩)).heap[W.heap.size]? = some (.cells (scells src.name src.frm src.days v).toArray 26 (0, 0))) := blk_farq HSB.out (by omega) _
  have HS2 : Hid (((((u0.setCell ⟨w0.heap.size + 1 + 1, 0, none⟩ (.string ⟨src.name.toArray⟩)).setCell ⟨w0.heap.size + 1 + 1, 1, none⟩ (.int .i64 src.frm.y)).setCell ⟨w0.heap.size + 1 + 1, 2, none⟩ (.int .i64 src.frm.m)).setCell ⟨w0.heap.size + 1 + 1, 3, none⟩ (.int .i64 src.frm.d)).heap[W.heap.size]? = some (.cells (scells src.name src.frm src.days v).toArray 26 (0, 0))) := blk_farq (blk_farq (blk_farq HS1.out (by omega) _) (by omega) _) (by omega) _
  refine Reg.G.start (by kernel_rfl) ?_
  refine' Reg.G.pure (i := 0) (v := _) rfl (by rfl) (by kernel_rfl) (by kernel_rfl) (by kernel_rfl) (fun _ _ _ h => h) ?hyr2_0 ?rer2_0
  case hyr2_0 => exact fun w => by first | (go_simp; done) | (go_simp; with_reducible rfl)
  simp only [Act.put, List.setIfInBounds_toArray, List.set_cons_zero, List.set_cons_succ]
  refine' Reg.G.pure (i := 1) (v := _) rfl (by rfl) (by kernel_rfl) (by kernel_rfl) (by kernel_rfl) (fun _ _ _ h => h) ?hyr2_1 ?rer2_1
  case hyr2_1 => exact fun w => by first | (go_simp; done) | (go_simp; with_reducible rfl)
  simp only [Act.put, List.setIfInBounds_toArray, List.set_cons_zero, List.set_cons_succ]
  refine' Reg.G.pure (i := 2) (v := _) rfl (by rfl) (by kernel_rfl) (by kernel_rfl) (by kernel_rfl) (fun _ _ _ h => h) ?hyr2_2 ?rer2_2
  case hyr2_2 => exact fun w => by first | (go_simp; done) | (go_simp; with_reducible rfl)
  simp only [Act.put, List.setIfInBounds_toArray, List.set_cons_zero, List.set_cons_succ]
  refine' Reg.G.pure (i := 3) (v := _) rfl (by rfl) (by kernel_rfl) (by kernel_rfl) (by kernel_rfl) (fun _ _ _ h => h) ?hyr2_3 ?rer2_3
  case hyr2_3 => exact fun w => by first | (go_simp; done) | (go_simp; with_reducible rfl)
  simp only [Act.put, List.setIfInBounds_toArray, List.set_cons_zero, List.set_cons_succ]
  refine' Reg.G.take (i := 4) (v := _) (F := fun w => w.heap[W.heap.size]? = some (.cells (scells src.name src.frm src.days v).toArray 26 (0, 0))) rfl (by rfl) (by kernel_rfl) (by kernel_rfl) (by kernel_rfl) (fun _ _ _ h => h) (by exact HSB.out) ?hyr2_4 ?rer2_4
  case hyr2_4 => intro w hw; have k0 : w.cell? ⟨W.heap.size, 0, none⟩ = some (.string ⟨src.name.toArray⟩) := cell_of_blk hw 0; clear hw; first | (go_simp; done) | (go_simp; with_reducible rfl)
  simp only [Act.put, List.setIfInBounds_toArray, List.set_cons_zero, List.set_cons_succ]
  refine' Reg.G.pure (i := 5) (v := _) rfl (by rfl) (by kernel_rfl) (by kernel_rfl) (by kernel_rfl) (fun _ _ _ h => h) ?hyr2_5 ?rer2_5
  case hyr2_5 => exact fun w => by first | (go_simp; done) | (go_simp; with_reducible rfl)
  simp only [Act.put, List.setIfInBounds_toArray, List.set_cons_zero, List.set_cons_succ]
  refine' Reg.G.take (i := 6) (v := _) (F := fun w => w.heap[W.heap.size]? = some (.cells (scells src.name src.frm src.days v).toArray 26 (0, 0))) rfl (by rfl) (by kernel_rfl) (by kernel_rfl) (by kernel_rfl) (fun _ _ _ h => h) (by exact HSB.out) ?hyr2_6 ?rer2_6
  case hyr2_6 => intro w hw; have k0 : w.cell? ⟨W.heap.size, 1, none⟩ = some (.int .i64 src.frm.y) := cell_of_blk hw 1; have k1 : w.cell? ⟨W.heap.size, 2, none⟩ = some (.int .i64 src.frm.m) := cell_of_blk hw 2; have k2 : w.cell? ⟨W.heap.size, 3, none⟩ = some (.int .i64 src.frm.d) := cell_of_blk hw 3; clear hw; first | (go_simp; done) | (go_simp; with_reducible rfl)
  simp only [Act.put, List.setIfInBounds_toArray, List.set_cons_zero, List.set_cons_succ]
  refine' Reg.G.pure (i := 7) (v := _) rfl (by rfl) (by kernel_rfl) (by kernel_rfl) (by kernel_rfl) (fun _ _ _ h => h) ?hyr2_7 ?rer2_7
  case hyr2_7 => exact fun w => by first | (go_simp; done) | (go_simp; with_reducible rfl)
  simp only [Act.put, List.setIfInBounds_toArray, List.set_cons_zero, List.set_cons_succ]
  refine' Reg.G.take (i := 8) (v := _) (F := fun w => w.heap[W.heap.size]? = some (.cells (scells src.name src.frm src.days v).toArray 26 (0, 0))) rfl (by rfl) (by kernel_rfl) (by kernel_rfl) (by kernel_rfl) (fun _ _ _ h => h) (by exact HSB.out) ?hyr2_8 ?rer2_8
  case hyr2_8 => intro w hw; have k0 : w.cell? ⟨W.heap.size, 4, none⟩ = some (.int .i64 src.days) := cell_of_blk hw 4; clear hw; first | (go_simp; done) | (go_simp; with_reducible rfl)
  simp only [Act.put, List.setIfInBounds_toArray, List.set_cons_zero, List.set_cons_succ]
  refine' Reg.G.pure (i := 9) (v := _) rfl (by rfl) (by kernel_rfl) (by kernel_rfl) (by kernel_rfl) (fun _ _ _ h => h) ?hyr2_9 ?rer2_9
  case hyr2_9 => exact fun w => by first | (go_simp; done) | (go_simp; with_reducible rfl)
  simp only [Act.put, List.setIfInBounds_toArray, List.set_cons_zero, List.set_cons_succ]
  refine' Reg.G.pure (i := 10) (v := _) rfl (by rfl) (by kernel_rfl) (by kernel_rfl) (by kernel_rfl) (fun _ _ _ h => h) ?hyr2_10 ?rer2_10
  case hyr2_10 => exact fun w => by first | (go_simp; done) | (go_simp; with_reducible rfl)
  simp only [Act.put, List.setIfInBounds_toArray, List.set_cons_zero, List.set_cons_succ]
  refine' Reg.G.pure (i := 11) (v := _) rfl (by rfl) (by kernel_rfl) (by kernel_rfl) (by kernel_rfl) (fun _ _ _ h => h) ?hyr2_11 ?rer2_11
  case hyr2_11 => exact fun w => by first | (go_simp; done) | (go_simp; with_reducible rfl)
  simp only [Act.put, List.setIfInBounds_toArray, List.set_cons_zero, List.set_cons_succ]
  refine Reg.G.step (j := 12) (m := [true, true, false]) [8, 6, 4] rfl (by kernel_rfl) rfl (by kernel_rfl) (fun K hK => ?_)
  -- Op.store 9 (t30) (t23)
  go_simp
  refine hK.out _ _ ⟨HS1.out, HS1.out, trivial⟩ ?_
  clear hK K
  simp only [Act.put, List.setIfInBounds_toArray, List.set_cons_zero, List.set_cons_succ, Reg.Kept]
  refine' Reg.G.pure (i := 13) (v := _) rfl (by rfl) (by kernel_rfl) (by kernel_rfl) (by kernel_rfl) (fun _ _ _ h => h) ?hyr2_13 ?rer2_13
  case hyr2_13 => exact fun w => by first | (go_simp; done) | (go_simp; with_reducible rfl)
  simp only [Act.put, List.setIfInBounds_toArray, List.set_cons_zero, List.set_cons_succ]
  refine' Reg.G.pure (i := 14) (v := _) rfl (by rfl) (by kernel_rfl) (by kernel_rfl) (by kernel_rfl) (fun _ _ _ h => h) ?hyr2_14 ?rer2_14
  case hyr2_14 => exact fun w => by first | (go_simp; done) | (go_simp; with_reducible rfl)
  simp only [Act.put, List.setIfInBounds_toArray, List.set_cons_zero, List.set_cons_succ]
  refine' Reg.G.pure (i := 15) (v := _) rfl (by rfl) (by kernel_rfl) (by kernel_rfl) (by kernel_rfl) (fun _ _ _ h => h) ?hyr2_15 ?rer2_15
  case hyr2_15 => exact fun w => by first | (go_simp; done) | (go_simp; with_reducible rfl)
  simp only [Act.put, List.setIfInBounds_toArray, List.set_cons_zero, List.set_cons_succ]
  refine Reg.G.step (j := 16) (m := [true, false]) [8, 6] rfl (by kernel_rfl) rfl (by kernel_rfl) (fun K hK => ?_)
  -- Op.store 23 (t33) (t25)
  go_simp
  refine hK.out _ _ ⟨HS2.out, trivial⟩ ?_
  clear hK K
  simp only [Act.put, List.setIfInBounds_toArray, List.set_cons_zero, List.set_cons_succ, Reg.Kept]
  refine' Reg.G.pure (i := 17) (v := _) rfl (by rfl) (by kernel_rfl) (by kernel_rfl) (by kernel_rfl) (fun _ _ _ h => h) ?hyr2_17 ?rer2_17
  case hyr2_17 => exact fun w => by first | (go_simp; done) | (go_simp; with_reducible rfl)
  simp only [Act.put, List.setIfInBounds_toArray, List.set_cons_zero, List.set_cons_succ]
  refine' Reg.G.pure (i := 18) (v := _) rfl (by rfl) (by kernel_rfl) (by kernel_rfl) (by kernel_rfl) (fun _ _ _ h => h) ?hyr2_18 ?rer2_18
  case hyr2_18 => exact fun w => by first | (go_simp; done) | (go_simp; with_reducible rfl)
  simp only [Act.put, List.setIfInBounds_toArray, List.set_cons_zero, List.set_cons_succ]
  refine' Reg.G.pure (i := 19) (v := _) rfl (by rfl) (by kernel_rfl) (by kernel_rfl) (by kernel_rfl) (fun _ _ _ h => h) ?hyr2_19 ?rer2_19
  case hyr2_19 => exact fun w => by first | (go_simp; done) | (go_simp; with_reducible rfl)
  simp only [Act.put, List.setIfInBounds_toArray, List.set_cons_zero, List.set_cons_succ]
  refine Reg.G.step (j := 20) (m := [false]) [8] rfl (by kernel_rfl) rfl (by kernel_rfl) (fun K hK => ?_)
  -- Op.store 3 (t36) (t27)
  go_simp
  refine hK.out _ _ trivial ?_
  clear hK K
  simp only [Act.put, List.setIfInBounds_toArray, List.set_cons_zero, List.set_cons_succ, Reg.Kept]
  refine Reg.G.done (by kernel_rfl) ?_
  obtain ⟨u1, hu1⟩ : ∃ u1, (((((u0.setCell ⟨w0.heap.size + 1 + 1, 0, none⟩ (.string ⟨src.name.toArray⟩)).setCell ⟨w0.heap.size + 1 + 1, 1, none⟩ (.int .i64 src.frm.y)).setCell ⟨w0.heap.size + 1 + 1, 2, none⟩ (.int .i64 src.frm.m)).setCell ⟨w0.heap.size + 1 + 1, 3, none⟩ (.int .i64 src.frm.d)).setCell ⟨w0.heap.size + 1 + 1, 4, none⟩ (.int .i64 src.days)).drew = u1 := ⟨_, rfl⟩
  rw [hu1]
  have HL0 : Hid (Laid src W v w0.heap.size z.length 0 u1) := by
    rw [← hu1]
    exact (laid0 HSB.out HRB.out HMB.out HHB.out HQB.out HSZ.out HFD.out HSZ0.out).drew
  clear hu1 qc0 qc1 qc2 qc3 qc4 qf0 qf1 qf2 qf3 qf4 HS1 HS2 HSB HRB HMB HHB HQB HSZ HFD hmk
  go_wp2_with fail
  go_loopw [37] (fun i wr => MRel src W v w0.heap.size z.length i wr) (fun i wr => 6 - (intOf i).toNat)
  case atStart => exact ⟨0, rfl, Nat.zero_le _, HL0.out⟩
  case round =>
    clear HL0
    obtain ⟨k, rfl, hk, hL⟩ := hrel
    have HL := Lib.hid hL; clear hL
    have i1 : (0 : Int) ≤ (k : Int) := Int.natCast_nonneg _
    by_cases hlt : k < 6
    · have i2 : (k : Int) < 6 := by omega
      have HN : Hid (MRel src W v w0.heap.size z.length (.int .i64 ((k : Int) + 1)) ((wr.setCell ⟨w0.heap.size + 1 + 1, 18 + k, none⟩ (.map (some wr.heap.size))).alloc (.map #[] 0))) := ⟨k + 1, rfl, hlt, HL.out.next hlt HSZ0.out⟩
      have qk : wr.cell? ⟨w0.heap.size + 1 + 1, 18 + k, none⟩ = some (.map none) := (cell_of_blk HL.out.qb (18 + k)).trans (by rw [List.getElem?_toArray]; exact q0_cell _ _ _ _ hlt)
      have qf := froz_of_blk HL.out.qb (18 + k)
      have hql : w0.heap.size + 1 + 1 < wr.heap.size := lt_of_blk HL.out.qb
      go_wp2_with fail
      go_roundw
      case rel => exact HN.out
      case measure => simp [intOf]; omega
    · obtain rfl : k = 6 := by omega
      have HBW : Hid (Below W.heap.size W wr) := HL.out.fr.below (Nat.le_refl _) (fun _ h => h.elim)
      have k5 : wr.cell? ⟨W.heap.size, 5, none⟩ = some v := cell_of_blk HL.out.sb 5
      rw [HV.out] at k5
      have HCA : Hid (Calls Tryd.prog 27 #[.pointer (some ⟨w0.heap.size + 1 + 1, 0, none⟩), .slice Ai z.length ci] wr fun e w' => e = .returned (.slice (some ⟨wr.heap.size, 0, none⟩) z.length z.length) ∧
          CS (w0.heap.size + 1 + 1) (fun g => w0.heap.size + 1 + 1 + 1 + g) wr.heap.size w0.heap.size z.length (tabs tab0 (z.map Prod.fst)) ((marks tab0 (z.map Prod.fst)).map Prod.fst) ((marks tab0 (z.map Prod.fst)).map Prod.snd) w' ∧ Fr (fun j => j = w0.heap.size ∨ ∃ g, 1 ≤ g ∧ g ≤ 5 ∧ j = w0.heap.size + 1 + 1 + 1 + g) wr w') := by
        have hsz := HL.out.size
        have hw := HSZ0.out
        have hz := HZ.out
        rw [HV.out] at hz
        refine collect_any _ _ _ z _ wr W hz HBW.out ⟨fun g h _ _ _ _ e => by omega, fun g h1 h5 => ⟨by omega, by omega, by omega⟩, by omega, by omega, by omega⟩ hlen (fun g hg => ?_) (fun g h1 h5 => HL.out.mp g (by omega)) (cell_of_blk HL.out.qb 24) HL.out.mb ⟨by omega, fun g h1 h5 => by omega⟩
        rw [cell_of_blk HL.out.qb]
        have : g = 0 ∨ g = 1 ∨ g = 2 ∨ g = 3 ∨ g = 4 ∨ g = 5 := by omega
        rcases this with rfl | rfl | rfl | rfl | rfl | rfl <;> rfl
      go_wp2_with fail
      refine HCA.out.mono ?_
      rintro e w1 ⟨rfl, hcs, hf1⟩
      rw [HS.out] at hcs
      have HCS := Lib.hid hcs; have HF1 := Lib.hid hf1; clear hcs hf1
      have HFR0 : Hid (FRel src (tabs tab0 src.items) w1.heap.size (w0.heap.size + 1 + 1) (w0.heap.size + 1) (fun g => w0.heap.size + 1 + 1 + 1 + g) wr.heap.size w0.heap.size ((marks tab0 src.items).map Prod.fst) ((marks tab0 src.items).map Prod.snd) W (.int .i64 0) Vw.nil w1) := by
        have hsz := HL.out.size
        have hw := HSZ0.out
        have hle := HF1.out.size
        have hzl : z.length = src.items.length := by rw [← HS.out, List.length_map]
        have hqb := HF1.out.blk HL.out.qb (fun h => by rcases h with h | ⟨g, h1, h5, h⟩ <;> omega)
        have hmb := HF1.out.blk HL.out.hb (fun h => by rcases h with h | ⟨g, h1, h5, h⟩ <;> omega)
        have hrb := HF1.out.blk HL.out.rb (fun h => by rcases h with h | ⟨g, h1, h5, h⟩ <;> omega)
        rw [q0_done src _ _ _ (frow Vw.nil []), hzl] at hqb
        refine ⟨0, sy0, [], H0 (frow Vw.nil []), [], rfl, Nat.zero_le _, rfl, ⟨hqb, fun g h1 h5 => ⟨⟨by omega, by omega⟩, HCS.out.mp g h1 h5⟩, hmb, ⟨by omega, by omega, by omega, fun g h1 h5 => by omega⟩, ⟨?_, ?_⟩, rfl, rfl, Nat.le_refl _⟩, rfl, rfl, ⟨Nat.le_refl _, Nat.le_refl _, Nat.le_refl _, Nat.le_refl _, Nat.le_refl _, Nat.le_refl _⟩, HCS.out.twb, HCS.out.mbb, hrb, ?_⟩
        · intro r hr
          simp only [rowsOf, H0, frow, List.map_nil, List.append_nil, List.mem_cons, List.not_mem_nil, or_false] at hr
          rcases hr with rfl | rfl | rfl | rfl | rfl | rfl <;> exact World.ownsRow_nil _ _ _ _
        · simp [rowsOf, H0, frow, List.pairwise_cons, OR.apart, Vw.nil, Value.ownBlock]
        · exact HBW.out.trans (HF1.out.below HBW.out.size (fun j hj => by rcases hj with h | ⟨g, h1, h5, h⟩ <;> omega))
      have hzl : z.length = src.items.length := by rw [← HS.out, List.length_map]
      have HZL := Lib.hid hzl; clear hzl
      have hwl : W.heap.size + 1 < wr.heap.size := lt_of_blk HL.out.rb
      have k5 : w1.cell? ⟨W.heap.size, 5, none⟩ = some (.slice Ai z.length ci) := by
        have := HF1.out.blk HL.out.sb (fun h => by have := HSZ0.out; rcases h with h | ⟨g, h1, h5, h⟩ <;> omega)
        rw [← HV.out]
        exact cell_of_blk this 5
      go_wp2_with fail
      obtain ⟨wq, rfl⟩ : ∃ w : World, w = wr := ⟨_, rfl⟩
      go_loopw [7, 54] (fun fv i wx => FRel src (tabs tab0 src.items) w1.heap.size (w0.heap.size + 1 + 1) (w0.heap.size + 1) (fun g => w0.heap.size + 1 + 1 + 1 + g) wq.heap.size w0.heap.size ((marks tab0 src.items).map Prod.fst) ((marks tab0 src.items).map Prod.snd) W i fv wx) (fun _ i _ => z.length - (intOf i).toNat)
      case atStart => exact HFR0.out
      case round =>
        clear HFR0 k5
        obtain ⟨k, s, f, H, cl, rfl, hk, hR⟩ := hrel
        have HR := Lib.hid hR; clear hR
        by_cases hlt : k < z.length
        · have hlx : w1.heap.size ≤ wr.heap.size := HR.out.rs.le
          obtain ⟨g0, o, cap, hs1, hgl, _, _, hat⟩ := (HZ.out.below HR.out.ba).row.at (by intro e; rw [List.map_eq_nil_iff] at e; rw [e] at hlt; simp at hlt)
          have hAi : Ai = some ⟨g0, o, none⟩ := by have := HV.out.symm.trans hs1; injection this
          subst hAi
          obtain ⟨p, hp⟩ : ∃ p, z[k]? = some p := ⟨_, List.getElem?_eq_getElem hlt⟩
          have HAT : Hid (At wr g0 (o + k * 33) (ic p)) := hat k _ (by rw [List.getElem?_map, hp]; rfl)
          have hfl := HZ.out.flat p (List.mem_of_getElem? hp)
          have HFL := Lib.hid hfl
          have HONE : Hid ((ic p).toArray.all (·.oneCell') = true) := ic_one hfl.1 hfl.2
          have HPK : Hid (src.items[k]? = some p.1) := by show _ = _; rw [← HS.out, List.getElem?_map, hp]; rfl
          clear hat hs1 hfl hgl hp
          have i1 : (0 : Int) ≤ (k : Int) := Int.natCast_nonneg _
          have i2 : (k : Int) < (z.length : Int) := by omega
          go_upto_region 12 with fail
          iterate 7 go_step
          refine wpList_load_mid rfl 55 _ rfl g0 (o + k * 33) rfl (ic p) _ HAT.out Tryd.underlying55 rfl info_item ?_
          simp only [Act.put, List.setIfInBounds_toArray, List.set_cons_zero, List.set_cons_succ]
          iterate 6 go_step
          refine wpList_store_row rfl 55 _ _ rfl wr.heap.size (ic p).toArray rfl rfl 55 _ (blk_newn rfl) (info_icl p) rfl HONE.out ?_
          simp only [Act.put, List.setIfInBounds_toArray, List.set_cons_zero, List.set_cons_succ]
          rw [World.setRow_alloc_new]
          obtain ⟨u, hu⟩ : ∃ u, wr.alloc (.cells (ic p).toArray 55) = u := ⟨_, rfl⟩
          rw [hu]
          have hfu : Fr (fun _ => False) wr u := by rw [← hu]; exact (Fr.refl _ wr).alloc _
          have HBK : Hid (u.heap[wr.heap.size]? = some (.cells (ic p).toArray 55 (0, 0))) := by rw [← hu]; exact blk_newn rfl
          have HRU := Lib.hid (HR.out.rs.fr hfu (fun _ h => h.elim))
          have HTB := Lib.hid (hfu.blk HR.out.twb (fun h => h))
          have HMB := Lib.hid (hfu.blk HR.out.mbb (fun h => h))
          have HRB := Lib.hid (hfu.blk HR.out.rb (fun h => h))
          have HBA : Hid (Below W.heap.size W u) := HR.out.ba.trans (hfu.below HR.out.ba.size (fun _ h => h.elim))
          clear hu hfu
          have hki : k < src.items.length := by rw [← HZL.out]; exact hlt
          have hma := marks_at tab0 src.items k hki
          obtain ⟨tk, mk, hmk2⟩ : ∃ tk mk, (marks tab0 src.items)[k]? = some (tk, mk) := ⟨_, _, hma⟩
          clear hma
          have HMK := Lib.hid hmk2; clear hmk2
          have ct : u.cell? ⟨wq.heap.size, k, none⟩ = some (.bool tk) := by
            rw [cell_of_blk HTB.out]
            simp [bools, HMK.out]
          have cm : u.cell? ⟨w0.heap.size, k, none⟩ = some (.bool mk) := by
            rw [cell_of_blk HMB.out]
            simp [bools, HMK.out]
          have q24 : u.cell? ⟨w0.heap.size + 1 + 1, 24, none⟩ = some (.slice (some ⟨w0.heap.size, 0, none⟩) z.length z.length) := by
            rw [HZL.out]; exact (HRU.out.vq 24 rfl).1
          have hpm : p.1 ∈ src.items := List.mem_of_getElem? HPK.out
          have HIT := Lib.hid (item_any src (tabs tab0 src.items) s w1.heap.size (w0.heap.size + 1 + 1) (w0.heap.size + 1) (fun g => w0.heap.size + 1 + 1 + 1 + g) _ H cl p.1 p.2 u.drew W tk mk ⟨HRU.out.drew, HR.out.hol, HFL.out.1, HFL.out.2, below_drewN HBA.out 1, HBF.out, by have := HSZ0.out; have := HRU.out.ne; omega, (HOK.out _ hpm).1, (HOK.out _ hpm).2, by
            have h := HR.out.lens
            have h2 := congrArg List.length HR.out.rs.cls
            rw [List.length_map] at h2
            omega⟩)
          clear hpm
          go_wp2_with fail
          refine Reg.G.start (by kernel_rfl) ?_
          refine' Reg.G.pure (i := 0) (v := _) rfl (by rfl) (by kernel_rfl) (by kernel_rfl) (by kernel_rfl) (fun _ _ _ h => h) ?hyr13_0 ?rer13_0
          case hyr13_0 => exact fun w => by first | (go_simp; done) | (go_simp; with_reducible rfl)
          simp only [Act.put, List.setIfInBounds_toArray, List.set_cons_zero, List.set_cons_succ]
          refine' Reg.G.take (i := 1) (v := _) (F := fun w => w.heap[wr.heap.size]? = some (.cells (ic p).toArray 55 (0, 0))) rfl (by rfl) (by kernel_rfl) (by kernel_rfl) (by kernel_rfl) (fun _ _ _ h => h) (by exact HBK.out) ?hyr13_1 ?rer13_1
          case hyr13_1 => intro w hw; refine run_load_row (P := Tryd.prog) 55 (.tmp 9) ?_ wr.heap.size ?_ 55 (ic p).toArray _ hw Tryd.underlying55 rfl (info_icl _) <;> rfl
          simp only [Act.put, List.setIfInBounds_toArray, List.set_cons_zero, List.set_cons_succ]
          refine' Reg.G.pure (i := 2) (v := _) rfl (by rfl) (by kernel_rfl) (by kernel_rfl) (by kernel_rfl) (fun _ _ _ h => h) ?hyr13_2 ?rer13_2
          case hyr13_2 => exact fun w => by first | (go_simp; done) | (go_simp; with_reducible rfl)
          simp only [Act.put, List.setIfInBounds_toArray, List.set_cons_zero, List.set_cons_succ]
          refine' Reg.G.pure (i := 3) (v := _) rfl (by rfl) (by kernel_rfl) (by kernel_rfl) (by kernel_rfl) (fun _ _ _ h => h) ?hyr13_3 ?rer13_3
          case hyr13_3 => exact fun w => by first | (go_simp; done) | (go_simp; with_reducible rfl)
          simp only [Act.put, List.setIfInBounds_toArray, List.set_cons_zero, List.set_cons_succ]
          refine' Reg.G.pure (i := 4) (v := _) rfl (by rfl) (by kernel_rfl) (by kernel_rfl) (by kernel_rfl) (fun _ _ _ h => h) ?hyr13_4 ?rer13_4
          case hyr13_4 => exact fun w => by first | (go_simp; done) | (go_simp; with_reducible rfl)
          simp only [Act.put, List.setIfInBounds_toArray, List.set_cons_zero, List.set_cons_succ]
          refine' Reg.G.take (i := 5) (v := _) (F := fun w => w.cell? ⟨w0.heap.size + 1 + 1, 24, none⟩ = some (.slice (some ⟨w0.heap.size, 0, none⟩) z.length z.length)) rfl (by rfl) (by kernel_rfl) (by kernel_rfl) (by kernel_rfl) (fun _ _ _ h => h) (by exact q24) ?hyr13_5 ?rer13_5
          case hyr13_5 => intro w hw; first | (go_simp; done) | (go_simp; with_reducible rfl)
          simp only [Act.put, List.setIfInBounds_toArray, List.set_cons_zero, List.set_cons_succ]
          refine' Reg.G.pure (i := 6) (v := _) rfl (by rfl) (by kernel_rfl) (by kernel_rfl) (by kernel_rfl) (fun _ _ _ h => h) ?hyr13_6 ?rer13_6
          case hyr13_6 => exact fun w => by first | (go_simp; done) | (go_simp; with_reducible rfl)
          simp only [Act.put, List.setIfInBounds_toArray, List.set_cons_zero, List.set_cons_succ]
          refine' Reg.G.pure (i := 7) (v := _) rfl (by rfl) (by kernel_rfl) (by kernel_rfl) (by kernel_rfl) (fun _ _ _ h => h) ?hyr13_7 ?rer13_7
          case hyr13_7 => exact fun w => by first | (go_simp; done) | (go_simp; with_reducible rfl)
          simp only [Act.put, List.setIfInBounds_toArray, List.set_cons_zero, List.set_cons_succ]
          refine' Reg.G.take (i := 8) (v := _) (F := fun w => w.cell? ⟨w0.heap.size, k, none⟩ = some (.bool mk)) rfl (by rfl) (by kernel_rfl) (by kernel_rfl) (by kernel_rfl) (fun _ _ _ h => h) (by exact cm) ?hyr13_8 ?rer13_8
          case hyr13_8 => intro w hw; first | (go_simp; done) | (go_simp; with_reducible rfl)
          simp only [Act.put, List.setIfInBounds_toArray, List.set_cons_zero, List.set_cons_succ]
          refine' Reg.G.pure (i := 9) (v := _) rfl (by rfl) (by kernel_rfl) (by kernel_rfl) (by kernel_rfl) (fun _ _ _ h => h) ?hyr13_9 ?rer13_9
          case hyr13_9 => exact fun w => by first | (go_simp; done) | (go_simp; with_reducible rfl)
          simp only [Act.put, List.setIfInBounds_toArray, List.set_cons_zero, List.set_cons_succ]
          refine' Reg.G.pure (i := 10) (v := _) rfl (by rfl) (by kernel_rfl) (by kernel_rfl) (by kernel_rfl) (fun _ _ _ h => h) ?hyr13_10 ?rer13_10
          case hyr13_10 => exact fun w => by first | (go_simp; done) | (go_simp; with_reducible rfl)
          simp only [Act.put, List.setIfInBounds_toArray, List.set_cons_zero, List.set_cons_succ]
          refine' Reg.G.pure (i := 11) (v := _) rfl (by rfl) (by kernel_rfl) (by kernel_rfl) (by kernel_rfl) (fun _ _ _ h => h) ?hyr13_11 ?rer13_11
          case hyr13_11 => exact fun w => by first | (go_simp; done) | (go_simp; with_reducible rfl)
          simp only [Act.put, List.setIfInBounds_toArray, List.set_cons_zero, List.set_cons_succ]
          refine' Reg.G.take (i := 12) (v := _) (F := fun w => w.cell? ⟨wq.heap.size, k, none⟩ = some (.bool tk)) rfl (by rfl) (by kernel_rfl) (by kernel_rfl) (by kernel_rfl) (fun _ _ _ h => h) (by exact ct) ?hyr13_12 ?rer13_12
          case hyr13_12 => intro w hw; first | (go_simp; done) | (go_simp; with_reducible rfl)
          simp only [Act.put, List.setIfInBounds_toArray, List.set_cons_zero, List.set_cons_succ]
          refine Reg.G.step (j := 13) (m := [false, false, false, false]) [12, 8, 5, 1] rfl (by kernel_rfl) rfl (by kernel_rfl) (fun K hK => ?_)
          -- Op.call { callee := Callee.value (func 28), args := #[t59, t60, t67, t71], argTypes := #[88, 55, 4, 4] }
          go_simp
          refine HIT.out.mono ?_
          rintro e w2 ⟨rfl, hrs, hfr⟩
          have HRS := Lib.hid hrs; have HFR := Lib.hid hfr; clear hrs hfr
          refine hK.out _ _ trivial ?_
          clear hK K
          simp only [Act.put, List.setIfInBounds_toArray, List.set_cons_zero, List.set_cons_succ, Reg.Kept]
          refine' Reg.G.pure (i := 14) (v := _) rfl (by rfl) (by kernel_rfl) (by kernel_rfl) (by kernel_rfl) (fun _ _ _ h => h) ?hyr13_14 ?rer13_14
          case hyr13_14 => exact fun w => by first | (go_simp; done) | (go_simp; with_reducible rfl)
          simp only [Act.put, List.setIfInBounds_toArray, List.set_cons_zero, List.set_cons_succ]
          refine Reg.G.done (by kernel_rfl) ?_
          have hrows : ∀ j, Wr (w0.heap.size + 1 + 1) (w0.heap.size + 1) (rowsOf s H cl) j → (j = w0.heap.size + 1 + 1 ∨ j = w0.heap.size + 1 ∨ (w1.heap.size ≤ j ∧ j < wr.heap.size)) := by
            rintro j (h | h | ⟨r, hr, e⟩)
            · exact .inl h
            · exact .inr (.inl h)
            · exact .inr (.inr (HR.out.rs.rows.lt hr e))
          have hsz := HL.out.size
          have hw := HSZ0.out
          have hle := HF1.out.size
          have HBK2 := Lib.hid (HFR.out.blk (A := u.drew) HBK.out (fun h => by have := hrows _ h; omega))
          have HTB2 := Lib.hid (HFR.out.blk (A := u.drew) HTB.out (fun h => by have := hrows _ h; have := lt_of_blk HCS.out.twb; omega))
          have HMB2 := Lib.hid (HFR.out.blk (A := u.drew) HMB.out (fun h => by have := hrows _ h; omega))
          have HRB2 := Lib.hid (HFR.out.blk (A := u.drew) HRB.out (fun h => by have := hrows _ h; omega))
          have HBA2 : Hid (Below W.heap.size W w2) := (below_drewN HBA.out 1).trans (HFR.out.below HBA.out.size (fun j h => by have := hrows _ h; omega))
          have hil := item_lens (tabs tab0 src.items) s p.1 tk mk
          have hrun : items (tabs tab0 src.items) (item (tabs tab0 src.items) s p.1 tk mk).1 (if (item (tabs tab0 src.items) s p.1 tk mk).2 = 0 then f else f ++ [⟨(item (tabs tab0 src.items) s p.1 tk mk).2, p.1.pos⟩]) (src.items.drop (k + 1)) ((marks tab0 src.items).drop (k + 1)) = Rs.run src.items := by
            have h := HR.out.run
            have hmkl : k < (marks tab0 src.items).length := by rw [marks_len]; rw [← HZL.out]; exact hlt
            have hkl : k < src.items.length := by rw [← HZL.out]; exact hlt
            have e1 : src.items[k] = p.1 := by have := HPK.out; rw [List.getElem?_eq_getElem hkl] at this; exact Option.some.inj this
            have e2 : (marks tab0 src.items)[k] = (tk, mk) := by have := HMK.out; rw [List.getElem?_eq_getElem hmkl] at this; exact Option.some.inj this
            rw [List.drop_eq_getElem_cons hkl, List.drop_eq_getElem_cons hmkl, e1, e2] at h
            exact h
          have HRUN := Lib.hid hrun
          have HIL := Lib.hid hil
          clear hrun hil hrows hsz hw hle ct cm q24
          obtain ⟨er, her⟩ : ∃ er, (item (tabs tab0 src.items) s p.1 tk mk).2 = er := ⟨_, rfl⟩
          obtain ⟨s2, hs2⟩ : ∃ s2, (item (tabs tab0 src.items) s p.1 tk mk).1 = s2 := ⟨_, rfl⟩
          rw [her, hs2] at HRUN
          rw [hs2] at HRS HIL
          rw [her]
          clear her hs2
          by_cases he : er = 0
          · rw [if_pos he] at HRUN
            have HN : Hid (FRel src (tabs tab0 src.items) w1.heap.size (w0.heap.size + 1 + 1) (w0.heap.size + 1) (fun g => w0.heap.size + 1 + 1 + 1 + g) wq.heap.size w0.heap.size ((marks tab0 src.items).map Prod.fst) ((marks tab0 src.items).map Prod.snd) W (.int .i64 ((k : Int) + 1)) u7 w2) := by
              obtain ⟨H2, cl2, h1, h2, h3⟩ := HRS.out
              have h4 := HR.out.lens
              have h5 := HIL.out
              have h6 := HZL.out
              exact ⟨k + 1, s2, f, H2, cl2, rfl, by omega, HRUN.out, h1, h2, h3.trans HR.out.flt, by omega, HTB2.out, HMB2.out, HRB2.out, HBA2.out⟩
            subst he
            go_wp2_with fail
            go_roundw
            case rel => exact HN.out
            case measure => simp [intOf]; omega
          · rw [if_neg he] at HRUN
            obtain ⟨H2, cl2, h1, h2, h3⟩ := HRS.out
            have h4 : H2.flt = frow u7 f := h3.trans HR.out.flt
            have hown := h1.rows.ok H2.flt (List.mem_cons_self ..)
            rw [h4] at hown
            obtain ⟨Af, cf, hfe⟩ := own_form hown
            dsimp only [frow] at hfe
            subst hfe
            have HRS2 := Lib.hid h1; have HN2 := Lib.hid h2; have HF4 := Lib.hid h4; have HOWN : Hid (w2.ownsRow w1.heap.size 82 2 (.slice Af f.length cf) f.length (f.flatMap faultv)) := hown
            clear h1 h2 h3 h4 hown HRS
            have k2 : w2.cell? ⟨wr.heap.size, 2, none⟩ = some (.int .i64 p.1.pos) := cell_of_blk HBK2.out 2
            have hb1 : (er != 0) = true := by simpa using he
            obtain ⟨i0, hi, hz0, hz1, hz2⟩ := info_parts info_fault
            have hfl6 := HR.out.lens
            have hle2 := HRS2.out.le
            go_upto_region 15 with fail
            iterate 19 go_step
            obtain ⟨w3, hw3⟩ : ∃ w3, w2.alloc (.cells #[.int .i64 er, .int .i64 p.1.pos] 82) = w3 := ⟨_, rfl⟩
            rw [hw3]
            have hfa : Fr (fun _ => False) w2 w3 := by rw [← hw3]; exact (Fr.refl _ w2).alloc _
            have hsz3 : w3.heap.size = w2.heap.size + 1 := by rw [← hw3]; simp
            have HNEW : Hid (∀ j u, ([.int .i64 er, .int .i64 p.1.pos] : List Value)[j]? = some u → w3.cell? ((⟨w2.heap.size, 0, none⟩ : Addr).add j) = some u) := by
              rw [← hw3]; exact World.news_of_block (cs := #[.int .i64 er, .int .i64 p.1.pos]) (t := 82) (fr := (0, 0)) (heap_alloc_new w2 _)
            have HRS3 := Lib.hid (HRS2.out.fr hfa (fun _ h => h.elim))
            have HOWN3 : Hid (w3.ownsRow w1.heap.size 82 2 (.slice Af f.length cf) f.length (f.flatMap faultv)) := by rw [← hw3]; exact HOWN.out.alloc _
            have HFA := Lib.hid hfa
            clear hw3 hfa
            refine wpList_append_lies _ rfl (.tmp 75) (.tmp 80) 40 rfl w1.heap.size 82 i0 _ 2 16 Tryd.underlying40 hi hz0 hz1 hz2 rfl (by decide) (.slice Af f.length cf) f.length (f.flatMap faultv) rfl HOWN3.out ⟨w2.heap.size, 0, none⟩ 1 1 [.int .i64 er, .int .i64 p.1.pos] rfl rfl HNEW.out (by simp [Value.oneCell']) (by decide) (by simp only [maxLen]; omega) (by omega) (by omega) (w2.heap.size + 1) hsz3 ?_
            intro g cap w4 g1 g2 g3 g4
            have HN : Hid (FRel src (tabs tab0 src.items) w1.heap.size (w0.heap.size + 1 + 1) (w0.heap.size + 1) (fun g => w0.heap.size + 1 + 1 + 1 + g) wq.heap.size w0.heap.size ((marks tab0 src.items).map Prod.fst) ((marks tab0 src.items).map Prod.snd) W (.int .i64 ((k : Int) + 1)) (.slice (some ⟨g, 0, none⟩) (f.length + 1) cap) w4) := by
              have h4 := HR.out.lens
              have h5 := HIL.out
              have h6 := HZL.out
              have hsz := HL.out.size
              have hw := HSZ0.out
              have hle := HF1.out.size
              have hfr := (HFA.out.mono (fun _ _ h => h.elim) : Fr (fun j => (Value.slice Af f.length cf).ownBlock = some j) w2 w3).trans (Fr.of_grown g2)
              have hlo : ∀ j, (Value.slice Af f.length cf).ownBlock = some j → w1.heap.size ≤ j := fun j hj => (own_lt HOWN.out j hj).1
              have hff : (f ++ [(⟨er, p.1.pos⟩ : Fault)]).flatMap faultv = f.flatMap faultv ++ [.int .i64 er, .int .i64 p.1.pos] := by simp [faultv, nv]
              have hfl : (f ++ [(⟨er, p.1.pos⟩ : Fault)]).length = f.length + 1 := by simp
              refine ⟨k + 1, s2, f ++ [⟨er, p.1.pos⟩], { H2 with flt := frow (.slice (some ⟨g, 0, none⟩) (f.length + 1) cap) (f ++ [⟨er, p.1.pos⟩]) }, cl2, rfl, by omega, HRUN.out, HRS3.out.more (by rw [HF4.out]; exact g2) ?_ ?_, HN2.out, rfl, ⟨by omega, by omega, by omega, by omega, by omega, by rw [hfl]; omega⟩, ?_, ?_, ?_, ?_⟩
              · show w4.ownsRow _ _ _ _ _ _
                dsimp only [frow]
                rw [hfl, hff]
                exact g1
              · intro j hj
                have hj2 : g = j := by simpa [frow, Value.ownBlock] using hj
                subst hj2
                rcases g3 with g3 | g3
                · left; rw [HF4.out]; exact g3
                · right; omega
              · exact hfr.blk HTB2.out (fun h => by have := hlo _ h; have := lt_of_blk HCS.out.twb; omega)
              · exact hfr.blk HMB2.out (fun h => by have := hlo _ h; omega)
              · exact hfr.blk HRB2.out (fun h => by have := hlo _ h; omega)
              · exact HBA2.out.trans (hfr.below HBA2.out.size (fun j h => by have := hlo _ h; omega))
            go_wp2_with fail
            go_roundw
            case rel => exact HN.out
            case measure => simp [intOf]; omega
        · have hkz : k = src.items.length := by have := HZL.out; omega
          have hrun : Rs.run src.items = (s, f) := by
            have h := HR.out.run
            rw [List.drop_of_length_le (by omega), List.drop_of_length_le (by rw [marks_len]; omega)] at h
            exact h.symm
          have hown := HR.out.rs.rows.ok H.flt (List.mem_cons_self ..)
          rw [HR.out.flt] at hown
          obtain ⟨Af, cf, hfe⟩ := own_form hown
          dsimp only [frow] at hfe
          subst hfe
          have HRUN := Lib.hid hrun
          have HOWN : Hid (wr.ownsRow w1.heap.size 82 2 (.slice Af f.length cf) f.length (f.flatMap faultv)) := hown
          clear hrun hown hkz
          obtain rfl : k = z.length := by have := HZL.out; omega
          by_cases hf : f = []
          · subst hf
            have q25 : wr.cell? ⟨w0.heap.size + 1 + 1, 25, none⟩ = some (.map (some (w0.heap.size + 1))) := (HR.out.rs.vq 25 rfl).1
            have hrg := run_range_map (P := Tryd.prog) wr 90 3 4 (w0.heap.size + 1) (hents s.hol) s.hol.length Tryd.underlying90 HR.out.rs.hb
            have hqs : w0.heap.size + 1 + 1 < wr.heap.size := lt_of_blk HR.out.rs.qb
            go_wp2_with fail
            obtain ⟨wy, rfl⟩ : ∃ w : World, w = wr := ⟨_, rfl⟩
            go_loopw [11] (fun _ wx => ∃ seen ds v, HRel src s H (fun g => w0.heap.size + 1 + 1 + 1 + g) (.slice (some ⟨w0.heap.size, 0, none⟩) src.items.length src.items.length) (w0.heap.size + 1 + 1) (w0.heap.size + 1) wy seen ds v wx) (fun _ wx => (leftOf (hents s.hol) (wx.iterSeen wy.heap.size)).size)
            case atStart =>
              refine ⟨#[], [], Vw.nil, Col.start _, (Fr.refl _ wy).alloc _, ?_, World.ownsRow_nil _ _ _ _, blk_newn rfl⟩
              have : ({ H with hol := Vw.nil } : RH) = H := by rw [← HR.out.hol]
              rw [this]
              exact blk_alloc HR.out.rs.qb _
            case round =>
              obtain ⟨seen, ds, v9, hL⟩ := hrel
              have HL2 := Lib.hid hL; clear hL
              go_upto_region 20 with fail
              go_step
              have HHB : Hid (wr.heap[w0.heap.size + 1]? = some (.map (hents s.hol) s.hol.length)) := HL2.out.fr.blk HR.out.rs.hb (by omega)
              have hown := HL2.out.own
              obtain ⟨Ah, ch, hve⟩ := own_form hown
              subst hve
              clear hown
              refine wpList_next_at _ rfl (.tmp 92) rfl wy.heap.size (w0.heap.size + 1) s.hol.length s.hol.length seen (hents s.hol) s.hol.length rfl HL2.out.it HHB.out hents_lt (Nat.le_refl _) ?_ ?_
              · intro h0
                simp only [Act.put, List.setIfInBounds_toArray, List.set_cons_zero, List.set_cons_succ]
                have HPE : Hid (dsort ds = dsort s.hol) := dsort_perm (HL2.out.col.done h0)
                have c12 : wr.cell? ⟨w0.heap.size + 1 + 1, 12, none⟩ = some (.slice Ah ds.length ch) := (cell_of_blk HL2.out.qb 12).trans rfl
                have h400 : ds.length < 4611686018427387904 := by
                  have h1 := HL2.out.le
                  have h2 := run_hol (l := src.items) (by rw [HRUN.out])
                  rw [HRUN.out] at h2
                  dsimp only at h2
                  omega
                have HSO := Lib.hid (sort_own HL2.out.own h400)
                go_wp2_with fail
                refine HSO.out.mono ?_
                rintro e w5 ⟨rfl, hg5, hown5⟩
                have HG5 := Lib.hid hg5; have HOWN5 := Lib.hid hown5
                clear hg5 hown5
                have hlo : ∀ k, (Value.slice Ah ds.length ch).ownBlock = some k → wy.heap.size + 1 ≤ k := fun k hk => (own_lt HL2.out.own k hk).1
                have HQB5 : Hid (w5.heap[w0.heap.size + 1 + 1]? = some (.cells (rcells src s.weekend { H with hol := .slice Ah ds.length ch } (fun g => w0.heap.size + 1 + 1 + 1 + g) (.slice (some ⟨w0.heap.size, 0, none⟩) src.items.length src.items.length) (w0.heap.size + 1)).toArray 94 (0, 0))) := (Fr.of_grown HG5.out).blk HL2.out.qb (fun e => by have := hlo _ e; omega)
                have hrs : W.heap.size + 1 < w0.heap.size := by have := HSZ0.out; omega
                have HRB5 : Hid (w5.heap[W.heap.size + 1]? = some (.cells symz.toArray 39 (0, 0))) := (Fr.of_grown HG5.out).blk (HL2.out.fr.blk HR.out.rb (by omega)) (fun e => by have := hlo _ e; have := lt_of_blk HR.out.rb; omega)
                have HAT : Hid (w5.rangeAt (w0.heap.size + 1 + 1) 0 (symc src s.weekend { H with hol := .slice Ah ds.length ch })) := by
                  intro j v hj
                  refine At.of_blk HQB5.out j v ?_
                  rw [rcells_symc, List.getElem?_append_left (List.getElem?_eq_some_iff.1 hj).1]
                  exact hj
                have hsl : ∀ (e : TypeId) (z : Nat) (v : Value) (n : Nat) (xs : List Value), (⟨e, z, v, n, xs⟩ : OR) ∈ rowsOf s H cl → IsSlice v := fun e z v n xs hm => by
                  obtain ⟨A, c, hv⟩ := own_form (HR.out.rs.rows.ok _ hm)
                  exact ⟨A, n, c, hv⟩
                have HONE : Hid ((symc src s.weekend { H with hol := .slice Ah ds.length ch }).toArray.all (·.oneCell') = true) := one_symc _ _ _ ⟨_, _, _, rfl⟩ (hsl _ _ _ _ _ (rows_mem s H cl).1) (hsl _ _ _ _ _ (rows_mem s H cl).2.1) (hsl _ _ _ _ _ (rows_mem s H cl).2.2.1) (hsl _ _ _ _ _ (rows_mem s H cl).2.2.2.1) (hsl _ _ _ _ _ (rows_mem s H cl).2.2.2.2)
                clear c12 hsl
                go_upto_region 24 with fail
                iterate 10 go_step
                refine wpList_load_mid rfl 39 _ rfl (w0.heap.size + 1 + 1) 0 rfl (symc src s.weekend { H with hol := .slice Ah ds.length ch }) _ HAT.out Tryd.underlying39 rfl (info_symcl _ _ _) ?_
                simp only [Act.put, List.setIfInBounds_toArray, List.set_cons_zero, List.set_cons_succ]
                refine wpList_store_row rfl 39 _ _ rfl (W.heap.size + 1) (symc src s.weekend { H with hol := .slice Ah ds.length ch }).toArray rfl rfl 39 _ HRB5.out (info_symc _ _ _) rfl HONE.out ?_
                simp only [Act.put, List.setIfInBounds_toArray, List.set_cons_zero, List.set_cons_succ]
                obtain ⟨w9, hw9⟩ : ∃ w9, w5.setRow (W.heap.size + 1) (symc src s.weekend { H with hol := .slice Ah ds.length ch }).toArray = w9 := ⟨_, rfl⟩
                rw [hw9]
                have hfr : Fr (fun j => j = W.heap.size + 1) w5 w9 := by rw [← hw9]; exact (Fr.refl (fun j => j = W.heap.size + 1) w5).setRow (.inl rfl) _
                have HB9 : Hid (w9.heap[W.heap.size + 1]? = some (.cells (symc src s.weekend { H with hol := .slice Ah ds.length ch }).toArray 39 (0, 0))) := by rw [← hw9]; exact blk_row HRB5.out _
                have HF9 : Hid (Fr (fun j => j = w0.heap.size + 1 + 1 ∨ j = W.heap.size + 1) wy w9) := by
                  rw [← hw9]
                  exact ((HL2.out.fr.mono (fun _ _ h => .inl h)).grown HG5.out (fun k hk => .inr (by have := hlo _ hk; omega))).setRow (.inl (.inr rfl)) _
                have HOWN9 : Hid (w9.ownsRow (wy.heap.size + 1) 3 1 (.slice Ah ds.length ch) ds.length ((dsort ds).map nv)) := own_fr HOWN5.out hfr (fun k hk _ e => by have := lt_of_blk HR.out.rb; omega)
                clear hw9 hfr
                go_wp2_with fail
                refine bodyPost_ret (v := .tuple #[.agg (symc src s.weekend { H with hol := .slice Ah ds.length ch }).toArray, .slice none 0 0]) (results_blk2 Tryd.results12 rfl rfl HB9.out Tryd.underlying39 rfl (info_symc _ _ _)) rfl ⟨_, rfl, ?_, ?_⟩
                · have ha : answer src = (src, { s with hol := dsort s.hol }, []) := by
                    unfold answer
                    rw [HRUN.out]
                    exact if_pos rfl
                  rw [ResOut, ha]
                  have hB : w1.heap.size > w0.heap.size + 1 + 1 := HR.out.rs.ne.2.2.1
                  have hok : ∀ r ∈ rowsOf s H cl, r.ok w1.heap.size w9 := fun r hr => own_fr (HR.out.rs.rows.ok r hr) HF9.out (fun k hk _ e => by omega)
                  have hm := rows_mem s H cl
                  refine ⟨{ H with hol := .slice Ah ds.length ch }, cl, _, rfl, ⟨?_, row_map (hok _ hm.1) rfl, Row.of_own (hok _ hm.2.1) (fun _ _ => rfl), Row.of_own (hok _ hm.2.2.1) (fun _ _ => rfl), Row.of_own (hok _ hm.2.2.2.1) (fun _ _ => rfl), Row.of_own (hok _ hm.2.2.2.2) (fun _ _ => rfl), HR.out.rs.cls, fun p hp => Row.of_own (hok _ (List.mem_append_right _ (List.mem_map_of_mem hp))) (fun _ _ => rfl), HR.out.rs.wk⟩, Row.nil _ _, ?_⟩
                  · have := HOWN9.out
                    rw [HPE.out] at this
                    refine row_map this ?_
                    rw [← HPE.out, dsort_len]
                  · intro x hx g hg
                    have hw : W.heap.size ≤ w1.heap.size := by have := HR.out.ba.size; have := HR.out.rs.le; have := HSZ0.out; omega
                    simp only [List.mem_cons, List.not_mem_nil, or_false] at hx
                    rcases hx with rfl | rfl | rfl | rfl | rfl
                    · exact Nat.le_trans hw (own_lt (hok _ hm.1) g hg).1
                    · exact Nat.le_trans hw (own_lt (hok _ hm.2.1) g hg).1
                    · exact Nat.le_trans hw (own_lt (hok _ hm.2.2.1) g hg).1
                    · exact Nat.le_trans hw (own_lt (hok _ hm.2.2.2.1) g hg).1
                    · exact Nat.le_trans hw (own_lt (hok _ hm.2.2.2.2) g hg).1
                · exact HR.out.ba.trans (HF9.out.below HR.out.ba.size (fun j hj => by omega))
              · intro e he w9 hw9
                obtain ⟨d, j, rfl, hcol⟩ := HL2.out.col.step he
                simp only [Act.put, List.setIfInBounds_toArray, List.set_cons_zero, List.set_cons_succ]
                obtain ⟨u, hu⟩ : ∃ u, setb w9 wy.heap.size (.mapIter (some (w0.heap.size + 1)) s.hol.length (seen.push j) s.hol.length) = u := ⟨_, rfl⟩
                rw [hu]
                have hfu : Fr (fun k => k = wy.heap.size) wr u := by rw [← hu]; exact setb_fr _ hw9 _ rfl
                have HIT : Hid (u.heap[wy.heap.size]? = some (.mapIter (some (w0.heap.size + 1)) s.hol.length (seen.push j) s.hol.length)) := by
                  rw [← hu]; rcases hw9 with rfl | rfl <;> exact setb_blk _ HL2.out.it
                have HHB2 : Hid (u.heap[w0.heap.size + 1]? = some (.map (hents s.hol) s.hol.length)) := hfu.blk HHB.out (by omega)
                have HQB2 : Hid (u.heap[w0.heap.size + 1 + 1]? = some (.cells (rcells src s.weekend { H with hol := .slice Ah ds.length ch } (fun g => w0.heap.size + 1 + 1 + 1 + g) (.slice (some ⟨w0.heap.size, 0, none⟩) src.items.length src.items.length) (w0.heap.size + 1)).toArray 94 (0, 0))) := hfu.blk HL2.out.qb (by omega)
                have HOW2 : Hid (u.ownsRow (wy.heap.size + 1) 3 1 (.slice Ah ds.length ch) ds.length (ds.map nv)) := own_fr HL2.out.own hfu (fun k hk _ e => by omega)
                have hen := run_entry_at (P := Tryd.prog) u wy.heap.size (w0.heap.size + 1) s.hol.length seen (hents s.hol) s.hol.length { key := nv d, val := .bool true, born := j } HIT.out HHB2.out (mem_left he).1 (hents_nodup _)
                dsimp only [nv] at hen
                have HFU := Lib.hid hfu; have HCOL := Lib.hid hcol; have HE := Lib.hid he
                clear hu hfu hw9 hcol he
                have c12 : u.cell? ⟨w0.heap.size + 1 + 1, 12, none⟩ = some (.slice Ah ds.length ch) := (cell_of_blk HQB2.out 12).trans rfl
                dsimp only [nv]
                go_upto_region 22 with fail
                iterate 28 go_step
                obtain ⟨u1, hu1⟩ : ∃ u1, u.alloc (.cells #[.int .i64 d] 3) = u1 := ⟨_, rfl⟩
                rw [hu1]
                have hfa : Fr (fun _ => False) u u1 := by rw [← hu1]; exact (Fr.refl _ u).alloc _
                have hsz1 : u1.heap.size = u.heap.size + 1 := by rw [← hu1]; simp
                have HNEW : Hid (∀ j v, ([.int .i64 d] : List Value)[j]? = some v → u1.cell? ((⟨u.heap.size, 0, none⟩ : Addr).add j) = some v) := by
                  rw [← hu1]; exact World.news_of_block (cs := #[.int .i64 d]) (t := 3) (fr := (0, 0)) (heap_alloc_new u _)
                have HOW3 : Hid (u1.ownsRow (wy.heap.size + 1) 3 1 (.slice Ah ds.length ch) ds.length (ds.map nv)) := by rw [← hu1]; exact HOW2.out.alloc _
                have HQB3 := Lib.hid (hfa.blk HQB2.out (fun h => h))
                have HIT3 := Lib.hid (hfa.blk HIT.out (fun h => h))
                have HF3 : Hid (Fr (fun j => j = w0.heap.size + 1 + 1) wy u1) := (HL2.out.fr.trans' HFU.out (fun i hi e => by omega)).trans' hfa (fun i hi e => e.elim)
                clear hu1 hfa c12 hen
                have hule := lt_of_blk HIT.out
                have h400 : ds.length ≤ 400 := by
                  have h1 := HL2.out.le
                  have h2 := run_hol (l := src.items) (by rw [HRUN.out])
                  rw [HRUN.out] at h2
                  dsimp only at h2
                  omega
                obtain ⟨i0, hi, hz0, hz1, hz2⟩ := info_parts info_int
                refine wpList_append_lies _ rfl (.tmp 103) (.tmp 105) 30 rfl (wy.heap.size + 1) 3 i0 _ 1 8 Tryd.underlying30 hi hz0 hz1 hz2 rfl (by decide) (.slice Ah ds.length ch) ds.length (ds.map nv) rfl HOW3.out ⟨u.heap.size, 0, none⟩ 1 1 [.int .i64 d] rfl rfl HNEW.out (by simp [Value.oneCell']) (by decide) (by simp only [maxLen]; omega) (by omega) (by omega) (u.heap.size + 1) hsz1 ?_
                intro g cap w4 g1 g2 g3 g4
                have hlo : ∀ k, (Value.slice Ah ds.length ch).ownBlock = some k → wy.heap.size + 1 ≤ k := fun k hk => (own_lt HOW2.out k hk).1
                have HQB4 := Lib.hid ((Fr.of_grown g2).blk HQB3.out (fun e => by have := hlo _ e; omega))
                have c12 : w4.cell? ⟨w0.heap.size + 1 + 1, 12, none⟩ = some (.slice Ah ds.length ch) := (cell_of_blk HQB4.out 12).trans rfl
                have f12 : w4.frozen? ⟨w0.heap.size + 1 + 1, 12, none⟩ = false := froz_of_blk HQB4.out 12
                have HIT4 : Hid ((w4.setCell ⟨w0.heap.size + 1 + 1, 12, none⟩ (.slice (some ⟨g, 0, none⟩) (ds.length + 1) cap)).heap[wy.heap.size]? = some (.mapIter (some (w0.heap.size + 1)) s.hol.length (seen.push j) s.hol.length)) := blk_farq ((Fr.of_grown g2).blk HIT3.out (fun e => by have := hlo _ e; omega)) (by omega) _
                have HN : Hid (∃ se dd vv, HRel src s H (fun g => w0.heap.size + 1 + 1 + 1 + g) (.slice (some ⟨w0.heap.size, 0, none⟩) src.items.length src.items.length) (w0.heap.size + 1 + 1) (w0.heap.size + 1) wy se dd vv (w4.setCell ⟨w0.heap.size + 1 + 1, 12, none⟩ (.slice (some ⟨g, 0, none⟩) (ds.length + 1) cap))) := by
                  refine ⟨seen.push j, ds ++ [d], .slice (some ⟨g, 0, none⟩) (ds.length + 1) cap, HCOL.out, ?_, ?_, ?_, HIT4.out⟩
                  · exact (HF3.out.grown g2 (fun k hk => .inr (by have := hlo _ hk; omega))).setCell (.inl rfl) _
                  · have := blk_set HQB4.out 12 (.slice (some ⟨g, 0, none⟩) (ds.length + 1) cap)
                    rw [this, List.setIfInBounds_toArray]
                    rfl
                  · have h5 : w4.ownsRow (wy.heap.size + 1) 3 1 (.slice (some ⟨g, 0, none⟩) (ds.length + 1) cap) (ds ++ [d]).length ((ds ++ [d]).map nv) := by
                      rw [List.length_append, List.map_append]
                      exact g1
                    exact own_fr h5 ((Fr.refl (fun j => j = w0.heap.size + 1 + 1) w4).setb 12 _) (fun k hk _ e => by omega)
                clear g1 g2 g3 hlo
                go_wp2_with fail
                go_roundw
                case rel => first | exact HN.out | exact ⟨_, _, _, _, _, _, _, _, _, _, _, _, _, _, _, _, _, _, _, HN.out, rfl⟩
                case measure =>
                  rw [iterSeen_of HIT4.out, iterSeen_of HL2.out.it]
                  exact left_shrinks _ _ _ HE.out
          · have i3 : (0 : Int) < (f.length : Int) := by have := List.length_pos_iff.2 hf; omega
            go_upto_region 18 with fail
            iterate 7 go_step
            refine wpList_store_row rfl 39 _ _ rfl (W.heap.size + 1) symz.toArray rfl rfl 39 _ HR.out.rb (info_symc _ _ _) rfl one_symz ?_
            simp only [Act.put, List.setIfInBounds_toArray, List.set_cons_zero, List.set_cons_succ]
            obtain ⟨w9, hw9⟩ : ∃ w9, wr.setRow (W.heap.size + 1) symz.toArray = w9 := ⟨_, rfl⟩
            rw [hw9]
            have hfr : Fr (fun j => j = W.heap.size + 1) wr w9 := by rw [← hw9]; exact (Fr.refl (fun j => j = W.heap.size + 1) wr).setRow (.inl rfl) _
            have HB9 : Hid (w9.heap[W.heap.size + 1]? = some (.cells symz.toArray 39 (0, 0))) := by rw [← hw9]; exact blk_row HR.out.rb _
            have HF9 := Lib.hid hfr
            clear hw9 hfr
            go_wp2_with fail
            refine bodyPost_ret (v := .tuple #[.agg symz.toArray, .slice Af f.length cf]) (results_blk2 Tryd.results12 rfl rfl HB9.out Tryd.underlying39 rfl (info_symc _ _ _)) rfl ⟨_, rfl, ?_, ?_⟩
            · have ha : answer src = (srcz, sy0, f) := by
                unfold answer
                rw [HRUN.out]
                exact if_neg hf
              rw [ResOut, ha]
              refine ⟨H0 ⟨0, 0, Vw.nil, 0, []⟩, [], _, rfl, ⟨Row.nil _ _, Row.nil _ _, Row.nil _ _, Row.nil _ _, Row.nil _ _, Row.nil _ _, rfl, fun p hp => absurd hp (List.not_mem_nil), rfl⟩, ?_, ?_⟩
              · have hlo : w1.heap.size > W.heap.size + 1 := by have := HF1.out.size; omega
                exact Row.of_own (own_fr HOWN.out HF9.out (fun k hk _ e => by omega)) (fun x _ => rfl)
              · intro x hx g hg
                simp only [H0, List.mem_cons, List.not_mem_nil, or_false, or_self] at hx
                subst hx
                exact absurd hg (by simp [Vw.nil, Value.ownBlock])
            · exact HR.out.ba.trans (HF9.out.below HR.out.ba.size (fun j hj => by omega))
end Go.Proofs.YtdhjibnkebbejaaDoor.Rs
