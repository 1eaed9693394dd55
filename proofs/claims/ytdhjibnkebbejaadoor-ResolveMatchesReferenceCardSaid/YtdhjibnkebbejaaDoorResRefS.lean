/-
  What the reference's Resolve holds in memory: the tables with the errors; the symbols with their rows. No walk.
-/
import Derived.Test.YtdhjibnkebbejaaDoorResRefK
import Derived.Test.YtdhjibnkebbejaaDoorResRefC
import Derived.Test.YtdhjibnkebbejaaDoorResRefH
import Derived.Test.YtdhjibnkebbejaaDoorResTop
namespace Go.Proofs.YtdhjibnkebbejaaDoor.Rs
open Go.RowKit Mem Vw
set_option linter.unusedVariables false
set_option linter.unusedSimpArgs false

def rowT (t : Tab) (vs : List Value) (g : Nat) : OR := ⟨9, 1, vs.getD g Vw.nil, (t g).length, (t g).map sv⟩
def rowsT (t : Tab) (vs : List Value) : List OR := (List.range 6).map (rowT t vs)
theorem rowsT_at {t : Tab} {vs : List Value} {g : Nat} (hg : g < 6) : (rowsT t vs)[g]? = some (rowT t vs g) := by
  unfold rowsT
  rw [List.getElem?_map, List.getElem?_range hg]
  rfl
theorem rowsT_set {t : Tab} {vs : List Value} (hl : vs.length = 6) {g : Nat} (hg : g < 6) (x : Bytes) (v : Value) : (rowsT t vs).set g ⟨9, 1, v, (t g).length + 1, (t g).map sv ++ [sv x]⟩ = rowsT (t.add g x) (vs.set g v) := by
  apply List.ext_getElem?
  intro i
  rw [List.getElem?_set]
  have hlen : (rowsT t vs).length = 6 := by unfold rowsT; simp
  by_cases hi : g = i
  · subst hi
    rw [if_pos rfl, if_pos (by omega), rowsT_at hg]
    unfold rowT Tab.add
    simp [List.getD_eq_getElem?_getD, List.getElem?_set, hl, hg]
  · rw [if_neg hi]
    by_cases h6 : i < 6
    · rw [rowsT_at h6, rowsT_at h6]
      unfold rowT Tab.add
      rw [if_neg (fun e => hi e.symm)]
      simp [List.getD_eq_getElem?_getD, List.getElem?_set, hi]
    · rw [List.getElem?_eq_none (by omega), List.getElem?_eq_none (by unfold rowsT; simp; omega)]
/-- The tables and the errors, at work. -/
structure TS (u : World) (B tb eb : Nat) (t : Tab) (vs : List Value) (es : List Int) (W : World) : Prop where
  rows : ORs B W (rowsT t vs)
  tbk : W.heap[tb]? = some (.cells vs.toArray 100 (0, 0))
  ebk : W.heap[eb]? = some (.cells (es.map nv).toArray 80 (0, 0))
  len : vs.length = 6
  lo : u.heap.size ≤ tb ∧ tb < eb ∧ eb < B
  ba : Below u.heap.size u W
  le : B ≤ W.heap.size
section
variable {u W W' : World} {B tb eb : Nat} {t : Tab} {vs : List Value} {es : List Int}
theorem TS.fr (h : TS u B tb eb t vs es W) (hf : Fr (fun _ => False) W W') : TS u B tb eb t vs es W' :=
  ⟨h.rows.fr hf (fun _ _ _ h => h), hf.blk h.tbk (fun h => h), hf.blk h.ebk (fun h => h), h.len, h.lo, h.ba.trans ((hf.below (Nat.le_refl _) (fun _ h => h.elim)).mono h.ba.size), Nat.le_trans h.le hf.size⟩
theorem TS.ok (h : TS u B tb eb t vs es W) {g : Nat} (hg : g < 6) : (rowT t vs g).ok B W := h.rows.ok _ (List.mem_of_getElem? (rowsT_at hg))
theorem TS.tv (h : TS u B tb eb t vs es W) : TV W t vs := by
  refine ⟨h.len, fun g v hv => ?_⟩
  have hg : g < 6 := by have := (List.getElem?_eq_some_iff.1 hv).1; have := h.len; omega
  have h0 : W.ownsRow B 9 1 (vs.getD g Vw.nil) (t g).length ((t g).map sv) := h.ok hg
  have e : vs.getD g Vw.nil = v := by rw [List.getD_eq_getElem?_getD, hv]; rfl
  rw [e] at h0
  exact row_map h0 rfl
theorem TS.err (h : TS u B tb eb t vs es W) (i : Nat) (e : Int) : TS u B tb eb t vs (es.set i e) (W.setCell ⟨eb, i, none⟩ (.int .i64 e)) := by
  have hl := h.lo
  have hf : Fr (fun k => k = eb) W (W.setCell ⟨eb, i, none⟩ (.int .i64 e)) := (Fr.refl _ W).setb _ _
  refine ⟨h.rows.fr hf (fun k hk _ e => by omega), hf.blk h.tbk (by omega), ?_, h.len, h.lo, h.ba.trans (hf.below h.ba.size (fun k e => by omega)), Nat.le_trans h.le hf.size⟩
  have := blk_set h.ebk i (.int .i64 e)
  rw [this, List.setIfInBounds_toArray, List.map_set]
  rfl
/-- A name is added to a group. -/
theorem TS.add {W1 W2 : World} (h : TS u B tb eb t vs es W1) {g : Nat} (hg : g < 6) {x : Bytes} {gn cn : Nat} (hgr : W1.grownBy W2 (vs.getD g Vw.nil).ownBlock)
    (g1 : W2.ownsRow B 9 1 (.slice (some ⟨gn, 0, none⟩) ((t g).length + 1) cn) ((t g).length + 1) ((t g).map sv ++ [sv x])) (g3 : (vs.getD g Vw.nil).ownBlock = some gn ∨ gn = W1.heap.size) :
    TS u B tb eb (t.add g x) (vs.set g (.slice (some ⟨gn, 0, none⟩) ((t g).length + 1) cn)) es (W2.setCell ⟨tb, g, none⟩ (.slice (some ⟨gn, 0, none⟩) ((t g).length + 1) cn)) := by
  have hl := h.lo
  have h0 := h.ok hg
  have hrb : ∀ k, (vs.getD g Vw.nil).ownBlock = some k → B ≤ k := fun k hk => (own_lt (h0 : W1.ownsRow B _ _ (vs.getD g Vw.nil) _ _) k hk).1
  have hf1 := Fr.of_grown hgr
  have htb := hf1.blk h.tbk (fun e => by have := hrb _ e; omega)
  have heb := hf1.blk h.ebk (fun e => by have := hrb _ e; omega)
  have hs : Fr (fun k => k = tb) W2 (W2.setCell ⟨tb, g, none⟩ (.slice (some ⟨gn, 0, none⟩) ((t g).length + 1) cn)) := (Fr.refl _ W2).setb _ _
  have hro := h.rows.app (rowsT_at hg) (r' := ⟨9, 1, .slice (some ⟨gn, 0, none⟩) ((t g).length + 1) cn, (t g).length + 1, (t g).map sv ++ [sv x]⟩) hgr g1 (fun k hk => by
    have hk2 : gn = k := by simpa [Value.ownBlock] using hk
    subst hk2
    rcases g3 with g3 | g3
    · exact .inl g3
    · exact .inr (by omega))
  rw [rowsT_set h.len hg] at hro
  refine ⟨hro.fr hs (fun k hk _ e => by omega), ?_, hs.blk heb (by omega), by simpa using h.len, h.lo, (h.ba.trans (hf1.below h.ba.size (fun k e => by have := hrb _ e; omega))).trans (hs.below (Nat.le_trans h.ba.size hf1.size) (fun k e => by omega)), Nat.le_trans (Nat.le_trans h.le hf1.size) hs.size⟩
  have := blk_set htb g (.slice (some ⟨gn, 0, none⟩) ((t g).length + 1) cn)
  rw [this, List.setIfInBounds_toArray]
end
/-- The errors when k items have been looked at. -/
def errsK (l : List Item) (k : Nat) : List Int := (rerrs tab0 l).take k ++ List.replicate (l.length - k) 0
theorem rerrs_length (t : Tab) (l : List Item) : (rerrs t l).length = l.length := by
  induction l generalizing t with
  | nil => rfl
  | cons x l ih => unfold rerrs; rw [List.length_cons, ih, List.length_cons]
theorem tabs_take {l : List Item} {k : Nat} {x : Item} (h : l[k]? = some x) (t : Tab) : tabs t (l.take (k + 1)) = put (tabs t (l.take k)) x := by
  rw [List.take_add_one, h]
  unfold tabs
  rw [List.foldl_append]
  rfl
theorem rerrs_at {l : List Item} {k : Nat} {x : Item} (h : l[k]? = some x) : ∀ t : Tab, (rerrs t l)[k]? = some (rerr (tabs t (l.take k)) x) := by
  induction l generalizing k with
  | nil => simp at h
  | cons y l ih =>
    intro t
    cases k with
    | zero =>
      simp only [List.getElem?_cons_zero, Option.some.injEq] at h
      subst h
      rfl
    | succ k =>
      have := ih (by simpa using h) (put t y)
      show (rerr t y :: rerrs (put t y) l)[k + 1]? = _
      rw [List.getElem?_cons_succ, this]
      rfl
theorem errsK_set {l : List Item} {k : Nat} {x : Item} (h : l[k]? = some x) : (errsK l k).set k (rerr (tabs tab0 (l.take k)) x) = errsK l (k + 1) := by
  have hk := (List.getElem?_eq_some_iff.1 h).1
  have hr := rerrs_at h tab0
  unfold errsK
  rw [List.take_add_one, hr]
  have hl : ((rerrs tab0 l).take k).length = k := by rw [List.length_take, rerrs_length]; omega
  rw [List.set_append_right _ _ (by omega), hl, Nat.sub_self]
  have : List.replicate (l.length - k) (0 : Int) = 0 :: List.replicate (l.length - (k + 1)) 0 := by
    rw [show l.length - k = (l.length - (k + 1)) + 1 by omega, List.replicate_succ]
  rw [this, List.set_cons_zero]
  simp
theorem errsK_len (l : List Item) {k : Nat} (hk : k ≤ l.length) : (errsK l k).length = l.length := by
  unfold errsK
  rw [List.length_append, List.length_take, rerrs_length, List.length_replicate]
  omega
theorem errsK_get {l : List Item} {k : Nat} {e : Int} (hk : k < l.length) : ((errsK l k).set k e)[k]? = some e := by
  rw [List.getElem?_set, if_pos rfl, if_pos (by rw [errsK_len l (by omega)]; exact hk)]
theorem made_ints (n : Nat) : madeCells #[.int .i64 0] n = ((List.replicate n (0 : Int)).map nv).toArray := by
  apply Array.ext_getElem?
  intro i
  by_cases h : i < n
  · simp [madeCells, h, Nat.mod_one, nv]
  · simp [madeCells, h]
theorem info_errno : (Tryd.prog.info? 80).map (fun i => (i.zero, i.size, i.bytes)) = some (some (.int .i64 0), 1, 8) := by kernel_rfl
/-! ### The symbols -/
def hrow (v : Value) (l : List Int) : OR := ⟨3, 1, v, l.length, l.map nv⟩
def qrows (s : Sy) (H : RH) (cl : List (ClauseSym × Value)) : List OR := hrow H.hol s.hol :: rowsOf s H cl
/-- The reference's symbols at work. -/
structure QS (src : Source) (u : World) (B q : Nat) (s : Sy) (f : List Fault) (H : RH) (cl : List (ClauseSym × Value)) (W : World) : Prop where
  qb : W.heap[q]? = some (.cells (symc src s.weekend H).toArray 39 (0, 0))
  rows : ORs B W (qrows s H cl)
  flt : H.flt = frow H.flt.v f
  cls : cl.map Prod.fst = s.clauses
  wk : s.weekend.length = 7
  lo : u.heap.size ≤ q ∧ q < B
  ba : Below u.heap.size u W
  le : B ≤ W.heap.size
section
variable {src : Source} {u W W' : World} {B q : Nat} {s : Sy} {f : List Fault} {H : RH} {cl : List (ClauseSym × Value)}
theorem QS.fr (h : QS src u B q s f H cl W) (hf : Fr (fun _ => False) W W') : QS src u B q s f H cl W' :=
  ⟨hf.blk h.qb (fun h => h), h.rows.fr hf (fun _ _ _ h => h), h.flt, h.cls, h.wk, h.lo, h.ba.trans ((hf.below (Nat.le_refl _) (fun _ h => h.elim)).mono h.ba.size), Nat.le_trans h.le hf.size⟩
/-- The holidays are put anew. -/
theorem QS.hol {l' : List Int} {v' : Value} (h : QS src u B q s f H cl W) (hp : PutOut B H.hol l' W W' v') : QS src u B q { s with hol := l' } f { H with hol := v' } cl (W'.setCell ⟨q, 12, none⟩ v') := by
  obtain ⟨ho, hf, hn⟩ := hp
  have hlo := h.lo
  have hs : Fr (fun k => k = q) W' (W'.setCell ⟨q, 12, none⟩ v') := (Fr.refl _ W').setb _ _
  have hr := h.rows
  have hro : ORs B W' (qrows { s with hol := l' } { H with hol := v' } cl) := by
    refine ⟨fun r hr' => ?_, ?_⟩
    · rcases List.mem_cons.1 hr' with rfl | hm
      · exact ho
      · exact own_fr (hr.ok r (List.mem_cons_of_mem _ hm)) hf (fun _ _ _ h => h)
    · have hp := hr.ap
      unfold qrows at hp ⊢
      rw [List.pairwise_cons] at hp ⊢
      refine ⟨fun r hm g hg hr2 => ?_, hp.2⟩
      rcases hn with e | hn
      · subst e
        exact hp.1 r hm g hg hr2
      · have h1 := hn g hg
        have h2 := (hr.lt (List.mem_cons_of_mem _ hm) hr2).2
        omega
  refine ⟨?_, hro.fr hs (fun k hk _ e => by omega), h.flt, h.cls, h.wk, h.lo, (h.ba.trans ((hf.below (Nat.le_refl _) (fun _ h => h.elim)).mono h.ba.size)).trans (hs.below (Nat.le_trans h.ba.size hf.size) (fun k e => by omega)), Nat.le_trans (Nat.le_trans h.le hf.size) hs.size⟩
  have := blk_set (hf.blk h.qb (fun h => h)) 12 v'
  rw [this, List.setIfInBounds_toArray]
  rfl
/-- A weekday. -/
theorem QS.week (h : QS src u B q s f H cl W) (k : Nat) (hk : k < 7) (b : Bool) : QS src u B q { s with weekend := s.weekend.set k b } f H cl (W.setCell ⟨q, 5 + k, none⟩ (.bool b)) := by
  have hlo := h.lo
  have hf : Fr (fun j => j = q) W (W.setCell ⟨q, 5 + k, none⟩ (.bool b)) := (Fr.refl _ W).setb _ _
  refine ⟨?_, h.rows.fr hf (fun k hk _ e => by omega), h.flt, h.cls, by simp [h.wk], h.lo, h.ba.trans (hf.below h.ba.size (fun k e => by omega)), Nat.le_trans h.le hf.size⟩
  have := blk_set h.qb (5 + k) (.bool b)
  rw [this, List.setIfInBounds_toArray]
  obtain ⟨w0, w1, w2, w3, w4, w5, w6, hw⟩ := seven h.wk
  rcases seven_cases hk with rfl | rfl | rfl | rfl | rfl | rfl | rfl <;> simp only [hw] <;> rfl
/-- A row has grown: its slice goes into the symbols' block. -/
theorem QS.grow {s' : Sy} {H' : RH} {cl' : List (ClauseSym × Value)} {rows : List OR} {r r' : OR} {k i : Nat} {v' : Value} {W1 W2 : World} (h : QS src u B q s f H cl W1) (hrows : ORs B W1 rows) (hk : rows[k]? = some r) (hg : W1.grownBy W2 r.v.ownBlock) (hr' : r'.ok B W2)
    (hb : ∀ g, r'.v.ownBlock = some g → r.v.ownBlock = some g ∨ W1.heap.size ≤ g) (hw : s'.weekend = s.weekend) (hrow : rows.set k r' = qrows s' H' cl') (hq : (symc src s.weekend H).set i v' = symc src s.weekend H') (hcl : cl'.map Prod.fst = s'.clauses) (hf : H'.flt = H.flt) :
    QS src u B q s' f H' cl' (W2.setCell ⟨q, i, none⟩ v') := by
  have hlo := h.lo
  have hf1 := Fr.of_grown hg
  have hrb : ∀ g, r.v.ownBlock = some g → B ≤ g := fun g hg => (hrows.lt (List.mem_of_getElem? hk) hg).1
  have hqb := hf1.blk h.qb (fun hs => by have := hrb _ hs; omega)
  have hf2 : Fr (fun j => j = q) W2 (W2.setCell ⟨q, i, none⟩ v') := (Fr.refl _ W2).setb _ _
  have hrows' := (hrows.app hk hg hr' hb)
  rw [hrow] at hrows'
  refine ⟨?_, hrows'.fr hf2 (fun k hk _ e => by omega), by rw [hf]; exact h.flt, hcl, by rw [hw]; exact h.wk, h.lo, (h.ba.trans (hf1.below h.ba.size (fun k e => by have := hrb _ e; omega))).trans (hf2.below (Nat.le_trans h.ba.size hf1.size) (fun k e => by omega)), Nat.le_trans (Nat.le_trans h.le hf1.size) hf2.size⟩
  have := blk_set hqb i v'
  rw [this, List.setIfInBounds_toArray, hq, hw]
/-- One more fault. -/
theorem QS.more {a : Fault} {gn cn : Nat} {W1 W2 : World} (h : QS src u B q s f H cl W1) (hg : W1.grownBy W2 H.flt.v.ownBlock) (g1 : W2.ownsRow B 82 2 (.slice (some ⟨gn, 0, none⟩) (f.length + 1) cn) (f.length + 1) (f.flatMap faultv ++ faultv a)) (g3 : H.flt.v.ownBlock = some gn ∨ gn = W1.heap.size) :
    QS src u B q s (f ++ [a]) { H with flt := frow (.slice (some ⟨gn, 0, none⟩) (f.length + 1) cn) (f ++ [a]) } cl W2 := by
  have hlo := h.lo
  have hf1 := Fr.of_grown hg
  have hm : H.flt ∈ qrows s H cl := List.mem_cons_of_mem _ (List.mem_cons_self ..)
  have hrb : ∀ g, H.flt.v.ownBlock = some g → B ≤ g := fun g hg => (h.rows.lt hm hg).1
  have hok : (frow (.slice (some ⟨gn, 0, none⟩) (f.length + 1) cn) (f ++ [a])).ok B W2 := by
    show W2.ownsRow B 82 2 _ (f ++ [a]).length ((f ++ [a]).flatMap faultv)
    rw [List.length_append, List.flatMap_append, List.length_singleton, List.flatMap_cons, List.flatMap_nil, List.append_nil]
    exact g1
  have hrows' := h.rows.app (k := 1) (r := H.flt) rfl hg hok (fun k hk => by
    have hk2 : gn = k := by simpa [frow, Value.ownBlock] using hk
    subst hk2
    rcases g3 with g3 | g3
    · exact .inl g3
    · exact .inr (by omega))
  exact ⟨hf1.blk h.qb (fun hs => by have := hrb _ hs; omega), hrows', rfl, h.cls, h.wk, h.lo, h.ba.trans (hf1.below h.ba.size (fun k e => by have := hrb _ e; omega)), Nat.le_trans h.le hf1.size⟩
end
/-- The rows' cells grow by one item at most. -/
structure Lens (s : Sy) (f : List Fault) (k : Nat) : Prop where
  h : s.parties.length ≤ k ∧ s.roles.length ≤ k ∧ s.units.length ≤ k ∧ s.acts.length ≤ k ∧ s.clauses.length ≤ k ∧ f.length ≤ k ∧ s.hol.length ≤ 401
theorem rdates_len (ds : List Civil) : ∀ out : List Int, out.length ≤ 401 → (rdates out ds).length ≤ 401 := by
  induction ds with
  | nil => intro out h; exact h
  | cons c ds ih =>
    intro out h
    unfold rdates
    split
    · rename_i hl
      refine ih _ ?_
      have := rput_len out ((number c).getD 0)
      omega
    · exact h
theorem rhol_len (s : Sy) (x : Item) (e : Int) (h : s.hol.length ≤ 401) : (rhol s x e).1.length ≤ 401 := by
  unfold rhol rholi
  split
  · split
    · exact h
    · exact rdates_len _ _ h
  · exact h
theorem radd_lens (t : Tab) (s : Sy) (x : Item) : (radd t s x).parties.length ≤ s.parties.length + 1 ∧ (radd t s x).roles.length ≤ s.roles.length + 1 ∧ (radd t s x).units.length ≤ s.units.length + 1 ∧ (radd t s x).acts.length ≤ s.acts.length + 1 ∧ (radd t s x).clauses.length ≤ s.clauses.length + 1 ∧ (radd t s x).hol = s.hol ∧ (radd t s x).weekend = s.weekend := by
  unfold radd
  repeat' split
  all_goals (simp only [List.length_append, List.length_cons, List.length_nil, and_true]; omega)
end Go.Proofs.YtdhjibnkebbejaaDoor.Rs
