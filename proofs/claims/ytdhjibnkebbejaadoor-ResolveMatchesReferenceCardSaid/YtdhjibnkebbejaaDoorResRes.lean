/-
  The resolver in memory: its block, its maps, the rows of its symbols.
-/
import Derived.Test.YtdhjibnkebbejaaDoorResHoli
import Derived.Test.YtdhjibnkebbejaaDoorResClause
import Derived.Test.YtdhjibnkebbejaaDoorOwn
namespace Go.Proofs.YtdhjibnkebbejaaDoor.Rs
open Go.RowKit Mem Vw
set_option linter.unusedVariables false
set_option linter.unusedSimpArgs false

/-- The slices of the symbols; one more row that is kept. -/
structure RH where
  hol : Value
  par : Value
  rol : Value
  uni : Value
  act : Value
  cla : Value
  flt : OR
/-- The cells of symbols. -/
def symc (src : Source) (wk : List Bool) (H : RH) : List Value :=
  [sv src.name, nv src.frm.y, nv src.frm.m, nv src.frm.d, nv src.days, .bool (wk.getD 0 false), .bool (wk.getD 1 false), .bool (wk.getD 2 false), .bool (wk.getD 3 false), .bool (wk.getD 4 false), .bool (wk.getD 5 false), .bool (wk.getD 6 false), H.hol, H.par, H.rol, H.uni, H.act, H.cla]
def rcells (src : Source) (wk : List Bool) (H : RH) (mi : Nat → Nat) (mem : Value) (hm : Nat) : List Value :=
  [sv src.name, nv src.frm.y, nv src.frm.m, nv src.frm.d, nv src.days, .bool (wk.getD 0 false), .bool (wk.getD 1 false), .bool (wk.getD 2 false), .bool (wk.getD 3 false), .bool (wk.getD 4 false), .bool (wk.getD 5 false), .bool (wk.getD 6 false), H.hol, H.par, H.rol, H.uni, H.act, H.cla,
   .map (some (mi 0)), .map (some (mi 1)), .map (some (mi 2)), .map (some (mi 3)), .map (some (mi 4)), .map (some (mi 5)), mem, .map (some hm)]
def rolev (r : Bytes × Int) : List Value := [sv r.1, nv r.2]
def asymv (a : ActSym) : List Value := [sv a.name, nv a.pos] ++ actv a.act
def csymv (c : ClauseSym) (st : Value) : List Value := [sv c.name, nv c.pos] ++ spanc c.within ++ spanc c.grace ++ clv c.clause st
/-- The rows of the symbols; with each clause the slice of its conditions. -/
def rowsOf (s : Sy) (H : RH) (cl : List (ClauseSym × Value)) : List OR :=
  [H.flt, ⟨9, 1, H.par, s.parties.length, s.parties.map sv⟩, ⟨59, 2, H.rol, s.roles.length, s.roles.flatMap rolev⟩, ⟨61, 5, H.uni, s.units.length, s.units.flatMap unitv⟩,
   ⟨65, 9, H.act, s.acts.length, s.acts.flatMap asymv⟩, ⟨71, 24, H.cla, cl.length, cl.flatMap fun p => csymv p.1 p.2⟩] ++
  cl.map fun p => ⟨114, 2, p.2, p.1.clause.start.length, p.1.clause.start.flatMap condv⟩
/-- The resolver at work. -/
structure RS (src : Source) (t : Tab) (s : Sy) (B q hm : Nat) (mi : Nat → Nat) (mem : Value) (H : RH) (cl : List (ClauseSym × Value)) (W : World) : Prop where
  qb : W.heap[q]? = some (.cells (rcells src s.weekend H mi mem hm).toArray 94 (0, 0))
  mp : ∀ g, 1 ≤ g → g ≤ 5 → (mi g ≠ q ∧ mi g < B) ∧ W.heap[mi g]? = some (.map (ents (t g)) (t g).length)
  hb : W.heap[hm]? = some (.map (hents s.hol) s.hol.length)
  ne : hm ≠ q ∧ hm < B ∧ q < B ∧ ∀ g, 1 ≤ g → g ≤ 5 → mi g ≠ hm
  rows : ORs B W (rowsOf s H cl)
  cls : cl.map Prod.fst = s.clauses
  wk : s.weekend.length = 7
  le : B ≤ W.heap.size
section
variable {src : Source} {t : Tab} {s : Sy} {B q hm : Nat} {mi : Nat → Nat} {mem : Value} {H : RH} {cl : List (ClauseSym × Value)} {W W' : World}
theorem RS.tb (h : RS src t s B q hm mi mem H cl W) : TB B q t W := by
  intro g h1 h5
  refine ⟨mi g, ⟨(h.mp g h1 h5).1.1, (h.mp g h1 h5).1.2, h.ne.2.2.1⟩, ?_, (h.mp g h1 h5).2⟩
  rw [cell_of_blk h.qb]
  have : g = 1 ∨ g = 2 ∨ g = 3 ∨ g = 4 ∨ g = 5 := by omega
  rcases this with rfl | rfl | rfl | rfl | rfl <;> rfl
theorem RS.hs (h : RS src t s B q hm mi mem H cl W) : HS q hm s.hol W := ⟨(cell_of_blk h.qb 25).trans rfl, h.hb, h.ne.1⟩
theorem RS.vq (h : RS src t s B q hm mi mem H cl W) (i : Nat) {v : Value} (hv : (rcells src s.weekend H mi mem hm)[i]? = some v) : W.cell? ⟨q, i, none⟩ = some v ∧ W.frozen? ⟨q, i, none⟩ = false :=
  ⟨(cell_of_blk h.qb i).trans (by simpa using hv), froz_of_blk h.qb i⟩
/-- Blocks that are new may be written. -/
theorem RS.fr {S : Nat → Prop} (h : RS src t s B q hm mi mem H cl W) (hf : Fr S W W') (hS : ∀ k, S k → W.heap.size ≤ k) : RS src t s B q hm mi mem H cl W' := by
  have hle := h.le
  have hne := h.ne
  exact ⟨hf.blk h.qb (fun hs => by have := hS _ hs; omega), fun g h1 h5 => ⟨(h.mp g h1 h5).1, hf.blk (h.mp g h1 h5).2 (fun hs => by have := hS _ hs; have := (h.mp g h1 h5).1.2; omega)⟩, hf.blk h.hb (fun hs => by have := hS _ hs; omega), hne,
    h.rows.fr hf (fun k _ hk hs => by have := hS _ hs; omega), h.cls, h.wk, Nat.le_trans hle hf.size⟩
theorem RS.alloc (h : RS src t s B q hm mi mem H cl W) (o : Obj) : RS src t s B q hm mi mem H cl (W.alloc o) := h.fr ((Fr.refl (fun _ => False) W).alloc o) (fun _ h => h.elim)
theorem RS.drew (h : RS src t s B q hm mi mem H cl W) : RS src t s B q hm mi mem H cl W.drew := h.fr ((Fr.refl (fun _ => False) W).drew) (fun _ h => h.elim)
/-- A lookup that was made since may be written. -/
theorem RS.fr1 {l : Nat} (h : RS src t s B q hm mi mem H cl W) (hf : Fr (fun k => k = l) W W') (hl : B ≤ l) (hr : ∀ r ∈ rowsOf s H cl, r.v.ownBlock ≠ some l) : RS src t s B q hm mi mem H cl W' := by
  have hne := h.ne
  refine ⟨hf.blk h.qb (fun hs => by omega), fun g h1 h5 => ⟨(h.mp g h1 h5).1, hf.blk (h.mp g h1 h5).2 (fun hs => by have := (h.mp g h1 h5).1.2; omega)⟩, hf.blk h.hb (fun hs => by omega), hne, ⟨fun r hr' => ?_, h.rows.ap⟩, h.cls, h.wk, Nat.le_trans h.le hf.size⟩
  have ho := h.rows.ok r hr'
  refine ⟨ho.1, ?_⟩
  rcases ho.2 with h2 | ⟨g, cap, cur, hv, hg, hh, r'⟩
  · exact .inl h2
  · exact .inr ⟨g, cap, cur, hv, hg, hf.blk hh (fun e => hr r hr' (by rw [hv]; exact congrArg some e)), r'⟩
/-- New holidays. -/
theorem RS.hol {l' : List Int} (h : RS src t s B q hm mi mem H cl W) (hh : HS q hm l' W') (hf : Fr (fun k => k = hm) W W') : RS src t { s with hol := l' } B q hm mi mem H cl W' := by
  have hne := h.ne
  exact ⟨hf.blk h.qb (fun hs => hne.1 hs.symm), fun g h1 h5 => ⟨(h.mp g h1 h5).1, hf.blk (h.mp g h1 h5).2 (fun hs => hne.2.2.2 g h1 h5 hs)⟩, hh.mb, hne, h.rows.fr hf (fun k hk _ e => by omega), h.cls, h.wk, Nat.le_trans h.le hf.size⟩
/-- A weekday. -/
theorem RS.week (h : RS src t s B q hm mi mem H cl W) (k : Nat) (hk : k < 7) (b : Bool) : RS src t { s with weekend := s.weekend.set k b } B q hm mi mem H cl (W.setCell ⟨q, 5 + k, none⟩ (.bool b)) := by
  have hne := h.ne
  have hf : Fr (fun j => j = q) W (W.setCell ⟨q, 5 + k, none⟩ (.bool b)) := (Fr.refl _ W).setb _ _
  refine ⟨?_, fun g h1 h5 => ⟨(h.mp g h1 h5).1, hf.blk (h.mp g h1 h5).2 (fun hs => (h.mp g h1 h5).1.1 hs)⟩, hf.blk h.hb (fun hs => hne.1 hs), hne, h.rows.fr hf (fun k hk _ e => by omega), h.cls, by simp [h.wk], Nat.le_trans h.le hf.size⟩
  have := blk_set h.qb (5 + k) (.bool b)
  rw [this, List.setIfInBounds_toArray]
  obtain ⟨w0, w1, w2, w3, w4, w5, w6, hw⟩ : ∃ w0 w1 w2 w3 w4 w5 w6, s.weekend = [w0, w1, w2, w3, w4, w5, w6] := by
    have := h.wk
    match hs : s.weekend, this with
    | [a, b, c, d, e, f, g], _ => exact ⟨a, b, c, d, e, f, g, rfl⟩
  have : k = 0 ∨ k = 1 ∨ k = 2 ∨ k = 3 ∨ k = 4 ∨ k = 5 ∨ k = 6 := by omega
  rcases this with rfl | rfl | rfl | rfl | rfl | rfl | rfl <;> simp only [hw] <;> rfl
/-- A row has grown: its slice goes into the resolver's block. -/
theorem RS.grow {s' : Sy} {H' : RH} {cl' : List (ClauseSym × Value)} {rows : List OR} {r r' : OR} {k i : Nat} {v' : Value} {W1 W2 : World} (h : RS src t s B q hm mi mem H cl W1) (hrows : ORs B W1 rows) (hk : rows[k]? = some r) (hg : W1.grownBy W2 r.v.ownBlock) (hr' : r'.ok B W2)
    (hb : ∀ g, r'.v.ownBlock = some g → r.v.ownBlock = some g ∨ W1.heap.size ≤ g) (hw : s'.weekend = s.weekend) (hh : s'.hol = s.hol) (hrow : rows.set k r' = rowsOf s' H' cl') (hq : (rcells src s.weekend H mi mem hm).set i v' = rcells src s.weekend H' mi mem hm) (hcl : cl'.map Prod.fst = s'.clauses) (hr : r ∈ rows) :
    RS src t s' B q hm mi mem H' cl' (W2.setCell ⟨q, i, none⟩ v') := by
  have hne := h.ne
  have hf1 := Fr.of_grown hg
  have hrb : ∀ g, r.v.ownBlock = some g → B ≤ g := fun g hg => (hrows.lt hr hg).1
  have hqb := hf1.blk h.qb (fun hs => by have := hrb _ hs; omega)
  have hf2 : Fr (fun j => j = q) W2 (W2.setCell ⟨q, i, none⟩ v') := (Fr.refl _ W2).setb _ _
  have hrows' := (hrows.app hk hg hr' hb)
  rw [hrow] at hrows'
  refine ⟨?_, fun g h1 h5 => ⟨(h.mp g h1 h5).1, hf2.blk (hf1.blk (h.mp g h1 h5).2 (fun hs => by have := hrb _ hs; have := (h.mp g h1 h5).1.2; omega)) (fun hs => (h.mp g h1 h5).1.1 hs)⟩, ?_, hne, hrows'.fr hf2 (fun k hk _ e => by omega), hcl, by rw [hw]; exact h.wk, Nat.le_trans (Nat.le_trans h.le hf1.size) hf2.size⟩
  · have := blk_set hqb i v'
    rw [this, List.setIfInBounds_toArray, hq, hw]
  · rw [hh]
    exact hf2.blk (hf1.blk h.hb (fun hs => by have := hrb _ hs; omega)) (fun hs => hne.1 hs)
/-- The row that is kept has grown. -/
theorem RS.more {r' : OR} {W1 W2 : World} (h : RS src t s B q hm mi mem H cl W1) (hg : W1.grownBy W2 H.flt.v.ownBlock) (hr' : r'.ok B W2) (hb : ∀ g, r'.v.ownBlock = some g → H.flt.v.ownBlock = some g ∨ W1.heap.size ≤ g) : RS src t s B q hm mi mem { H with flt := r' } cl W2 := by
  have hne := h.ne
  have hf1 := Fr.of_grown hg
  have hrb : ∀ g, H.flt.v.ownBlock = some g → B ≤ g := fun g hg => (h.rows.lt (r := H.flt) (List.mem_cons_self ..) hg).1
  have hrows' := h.rows.app (k := 0) rfl hg hr' hb
  exact ⟨hf1.blk h.qb (fun hs => by have := hrb _ hs; omega), fun g h1 h5 => ⟨(h.mp g h1 h5).1, hf1.blk (h.mp g h1 h5).2 (fun hs => by have := hrb _ hs; have := (h.mp g h1 h5).1.2; omega)⟩, hf1.blk h.hb (fun hs => by have := hrb _ hs; omega), hne, hrows', h.cls, h.wk, Nat.le_trans h.le hf1.size⟩
end
end Go.Proofs.YtdhjibnkebbejaaDoor.Rs
